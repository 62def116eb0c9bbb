/-
  Crash of a disk with several files: plain.
-/
import Derived.Test.YtbjaecofccpahaaGreatMW
namespace Go.Proofs.YtbjaecofccpahaaGreat
open Go Go.RowKit
set_option linter.unusedVariables false
set_option linter.unusedSimpArgs false
/-- a file's clone during a crash: where it lies, its bytes, how many are durable, how many loose ones it keeps -/
structure CB where
  A : Option Addr
  c : Nat
  b : List UInt8
  D : Nat
  m : Nat
def CB.df (x : CB) : DF := ⟨.slice x.A x.b.length x.c, x.b, (x.D : Int)⟩
def crS : List Int → List CB → List (Int × DF) → List (Int × DF)
  | y :: ys, x :: bs, l => crS ys bs (setF y x.df l)
  | _, _, l => l
theorem crS_snoc : ∀ {ys : List Int} {bs : List CB} {l : List (Int × DF)} {y : Int} {x : CB}, bs.length = ys.length → crS (ys ++ [y]) (bs ++ [x]) l = setF y x.df (crS ys bs l)
  | [], [], _, _, _, _ => rfl
  | _ :: ys, _ :: bs, l, y, x, h => crS_snoc (ys := ys) (bs := bs) (by simpa using h)
  | [], _ :: _, _, _, _, h => by simp at h
  | _ :: _, [], _, _, _, h => by simp at h
theorem crS_ok : ∀ {ys : List Int} {bs : List CB} {l : List (Int × DF)}, KeysOk l → KeysOk (crS ys bs l)
  | [], _, _, h => by unfold crS; exact h
  | _ :: _, [], _, h => h
  | y :: ys, x :: bs, l, h => crS_ok (ys := ys) (bs := bs) (set_ok h)
theorem crS_ne : ∀ {ys : List Int} {bs : List CB} {l : List (Int × DF)} {n : Int}, n ∉ ys → fileF n (crS ys bs l) = fileF n l
  | [], _, _, _, _ => by unfold crS; rfl
  | _ :: _, [], _, _, _ => rfl
  | y :: ys, x :: bs, l, n, h => by
    simp only [List.mem_cons, not_or] at h
    show fileF n (crS ys bs (setF y x.df l)) = _
    rw [crS_ne h.2, fileF_set_ne h.1]
theorem fileF_setv {n : Int} {x : DF} {l : List (Int × DF)} (h : KeysOk l) : fileF n (setF n x l) = if x.b.length = 0 then ⟨.slice none 0 0, [], 0⟩ else x := by
  unfold setF
  split
  · rw [fileF_del (put_ok h)]
  · rw [fileF_put]
theorem crS_at : ∀ {ys : List Int} {bs : List CB} {l : List (Int × DF)} {j : Nat} {y : Int} {x : CB}, ys.Nodup → KeysOk l → ys[j]? = some y → bs[j]? = some x →
    fileF y (crS ys bs l) = if x.b.length = 0 then ⟨.slice none 0 0, [], 0⟩ else x.df
  | [], _, _, _, _, _, _, _, h, _ => by simp at h
  | _ :: _, [], _, _, _, _, _, _, _, h => by simp at h
  | z :: ys, w :: bs, l, 0, y, x, hn, hk, hy, hx => by
    simp only [List.getElem?_cons_zero, Option.some.injEq] at hy hx
    subst hy hx
    show fileF z (crS ys bs (setF z w.df l)) = _
    rw [crS_ne (List.nodup_cons.1 hn).1, fileF_setv hk]
    rfl
  | z :: ys, w :: bs, l, j + 1, y, x, hn, hk, hy, hx => by
    rw [List.getElem?_cons_succ] at hy hx
    exact crS_at (l := setF z w.df l) (List.nodup_cons.1 hn).2 (set_ok hk) hy hx
theorem set_keys {n m : Int} {x : DF} {l : List (Int × DF)} (h : m ∈ (setF n x l).map Prod.fst) : m = n ∨ m ∈ l.map Prod.fst := by
  unfold setF at h
  split at h
  · exact put_keys.1 (((del_sub _).map Prod.fst).subset h)
  · exact put_keys.1 h
theorem crS_keys : ∀ {ys : List Int} {bs : List CB} {l : List (Int × DF)} {m : Int}, m ∈ (crS ys bs l).map Prod.fst → m ∈ ys ∨ m ∈ l.map Prod.fst
  | [], _, _, _, h => by unfold crS at h; exact .inr h
  | _ :: _, [], _, _, h => .inr h
  | y :: ys, x :: bs, l, m, h => by
    rcases crS_keys (ys := ys) (bs := bs) (l := setF y x.df l) h with h | h
    · exact .inl (.tail _ h)
    · rcases set_keys h with rfl | h
      · exact .inl (.head _)
      · exact .inr h
theorem crS_used : ∀ {ys : List Int} {bs : List CB} {l : List (Int × DF)}, ys.Nodup → bs.length ≤ ys.length → (∀ (j : Nat) (y : Int) (x : CB), ys[j]? = some y → bs[j]? = some x → x.b.length ≤ (fileF y l).b.length) → usedL (crS ys bs l) ≤ usedL l
  | [], _, _, _, _, _ => by unfold crS; exact Nat.le_refl _
  | _ :: _, [], _, _, _, _ => Nat.le_refl _
  | y :: ys, x :: bs, l, hn, hl, h => by
    have h0 := h 0 y x rfl rfl
    have h1 := set_used (n := y) (x := x.df) l
    have hx : x.df.b = x.b := rfl
    rw [hx] at h1
    have hn2 := List.nodup_cons.1 hn
    have h2 := crS_used (ys := ys) (bs := bs) (l := setF y x.df l) hn2.2 (by simpa using hl) (fun j y' x' hy hx' => by
      have hne : y' ≠ y := fun e => hn2.1 (e ▸ List.mem_of_getElem? hy)
      rw [fileF_set_ne hne]
      exact h (j + 1) y' x' hy hx')
    show usedL (crS ys bs (setF y x.df l)) ≤ _
    omega
/-- the same keys, values and numbers -/
def ghostR (q q' : Int × DF) : Prop := q.1 = q'.1 ∧ q.2.v = q'.2.v ∧ q.2.d = q'.2.d
theorem ghost_rfl : ∀ (l : List (Int × DF)), All2 ghostR l l
  | [] => trivial
  | _ :: l => ⟨⟨rfl, rfl, rfl⟩, ghost_rfl l⟩
theorem ghost_put {n : Int} {x x' : DF} (hv : x.v = x'.v) (hd : x.d = x'.d) : ∀ {l l' : List (Int × DF)}, All2 ghostR l l' → All2 ghostR (putM n x l) (putM n x' l')
  | [], [], _ => ⟨⟨rfl, hv, hd⟩, trivial⟩
  | p :: l, p' :: l', ⟨h, t⟩ => by
    rw [putM_cons, putM_cons, h.1]
    split
    · exact ⟨⟨rfl, hv, hd⟩, t⟩
    · exact ⟨h, ghost_put hv hd t⟩
  | [], _ :: _, h => h.elim
  | _ :: _, [], h => h.elim
theorem ghost_del {n : Int} : ∀ {l l' : List (Int × DF)}, All2 ghostR l l' → All2 ghostR (delM n l) (delM n l')
  | [], [], _ => trivial
  | p :: l, p' :: l', ⟨h, t⟩ => by
    rw [delM_cons, delM_cons, h.1]
    split
    · exact t
    · exact ⟨h, ghost_del t⟩
  | [], _ :: _, h => h.elim
  | _ :: _, [], h => h.elim
theorem ghost_set {n : Int} {x x' : DF} (hv : x.v = x'.v) (hd : x.d = x'.d) (hl : x.b.length = x'.b.length) {l l' : List (Int × DF)} (h : All2 ghostR l l') : All2 ghostR (setF n x l) (setF n x' l') := by
  unfold setF
  rw [hl]
  split
  · exact ghost_del (ghost_put hv hd h)
  · exact ghost_put hv hd h
def ghostC (x x' : CB) : Prop := x.A = x'.A ∧ x.c = x'.c ∧ x.D = x'.D ∧ x.b.length = x'.b.length
theorem ghost_crS : ∀ {ys : List Int} {bs bs' : List CB} {l l' : List (Int × DF)}, All2 ghostC bs bs' → All2 ghostR l l' → All2 ghostR (crS ys bs l) (crS ys bs' l')
  | [], _, _, _, _, _, h => by unfold crS; exact h
  | _ :: _, [], [], _, _, _, h => h
  | y :: ys, x :: bs, x' :: bs', l, l', ⟨hx, t⟩, h => ghost_crS (ys := ys) t (ghost_set (by show Value.slice x.A x.b.length x.c = Value.slice x'.A x'.b.length x'.c; rw [hx.1, hx.2.1, hx.2.2.2]) (by show (x.D : Int) = (x'.D : Int); rw [hx.2.2.1]) hx.2.2.2 h)
  | _ :: _, [], _ :: _, _, _, h, _ => h.elim
  | _ :: _, _ :: _, [], _, _, h, _ => h.elim
theorem ghostC_rfl : ∀ (l : List CB), All2 ghostC l l
  | [] => trivial
  | _ :: l => ⟨⟨rfl, rfl, rfl, rfl⟩, ghostC_rfl l⟩
theorem ghostC_set : ∀ {l : List CB} {j : Nat} {x : CB} {b : List UInt8}, l[j]? = some x → b.length = x.b.length → All2 ghostC l (l.set j { x with b := b })
  | y :: l, 0, x, b, h, hb => by
    simp only [List.getElem?_cons_zero, Option.some.injEq] at h
    subst h
    exact ⟨⟨rfl, rfl, rfl, hb.symm⟩, ghostC_rfl l⟩
  | y :: l, j + 1, x, b, h, hb => ⟨⟨rfl, rfl, rfl, rfl⟩, ghostC_set (l := l) (by simpa using h) hb⟩
  | [], _, _, _, h, _ => by simp at h
/-- the loose bytes kept -/
def loosC (bs : List CB) : List (Option Addr × Nat) := bs.flatMap fun x => (loos x.D x.m).map fun i => (x.A, i)
theorem loosC_snoc (bs : List CB) (x : CB) : loosC (bs ++ [x]) = loosC bs ++ (loos x.D x.m).map fun i => (x.A, i) := by unfold loosC; rw [List.flatMap_append]; simp
def turn1 (D : Nat) (b : List UInt8) (at_ : Nat) : List UInt8 := b.set (D + at_ / 8) (fl8 (b.getD (D + at_ / 8) 0) (7 - at_ % 8))
theorem turn1_len (D : Nat) (b : List UInt8) (at_ : Nat) : (turn1 D b at_).length = b.length := List.length_set
/-- a bit of the loose bytes turned -/
def turnL : Nat → List (Nat × List UInt8) → List (List UInt8)
  | _, [] => []
  | at_, (D, b) :: r => if at_ < 8 * (b.length - D) then turn1 D b at_ :: r.map Prod.snd else b :: turnL (at_ - 8 * (b.length - D)) r
def manyL : List (Nat × List UInt8) → Nat
  | [] => 0
  | (D, b) :: r => (b.length - D) + manyL r
def atZ (z : Int) (many : Nat) : Nat := if 0 ≤ z ∧ 0 < many then (z % ((8 * many : Nat) : Int)).toNat else 8 * many
theorem atZ_lt {z : Int} {many : Nat} (h : 0 ≤ z ∧ 0 < many) : atZ z many < 8 * many := by
  unfold atZ
  rw [if_pos h]
  have h1 := Int.emod_nonneg z (b := ((8 * many : Nat) : Int)) (by omega)
  have h2 := Int.emod_lt_of_pos z (b := ((8 * many : Nat) : Int)) (by omega)
  omega
theorem turnL_none : ∀ {l : List (Nat × List UInt8)} {at_ : Nat}, 8 * manyL l ≤ at_ → turnL at_ l = l.map Prod.snd
  | [], _, _ => rfl
  | (D, b) :: r, at_, h => by
    have hm : manyL ((D, b) :: r) = (b.length - D) + manyL r := rfl
    rw [hm] at h
    unfold turnL
    rw [if_neg (by omega), turnL_none (by omega)]
    rfl
def prC (x : CB) : Nat × List UInt8 := (x.D, x.b)
theorem loosC_len : ∀ {bs : List CB}, (∀ x ∈ bs, x.b.length = x.D + x.m) → (loosC bs).length = manyL (bs.map prC)
  | [], _ => rfl
  | x :: bs, h => by
    have h1 := loosC_len (bs := bs) fun y hy => h y (.tail _ hy)
    have h2 := h x (.head _)
    show (((loos x.D x.m).map fun i => (x.A, i)) ++ loosC bs).length = (x.b.length - x.D) + manyL (bs.map prC)
    rw [List.length_append, List.length_map, loos_len, h1]
    omega
theorem turnL_at : ∀ {bs : List CB} {at_ : Nat}, (∀ x ∈ bs, x.b.length = x.D + x.m) → at_ < 8 * manyL (bs.map prC) →
    ∃ j x o, bs[j]? = some x ∧ o < x.m ∧ (loosC bs)[at_ / 8]? = some (x.A, x.D + o) ∧
      turnL at_ (bs.map prC) = (bs.map fun x => x.b).set j (x.b.set (x.D + o) (fl8 (x.b.getD (x.D + o) 0) (7 - at_ % 8)))
  | [], at_, _, h => by simp [manyL] at h
  | x :: bs, at_, hb, h => by
    have h2 := hb x (.head _)
    have hm : manyL ((x :: bs).map prC) = (x.b.length - x.D) + manyL (bs.map prC) := rfl
    rw [hm] at h
    have hlo : loosC (x :: bs) = ((loos x.D x.m).map fun i => (x.A, i)) ++ loosC bs := rfl
    have htl : turnL at_ ((x :: bs).map prC) = if at_ < 8 * (x.b.length - x.D) then turn1 x.D x.b at_ :: (bs.map prC).map Prod.snd else x.b :: turnL (at_ - 8 * (x.b.length - x.D)) (bs.map prC) := rfl
    have hll : ((loos x.D x.m).map fun i => (x.A, i)).length = x.m := by rw [List.length_map, loos_len]
    by_cases hlt : at_ < 8 * (x.b.length - x.D)
    · refine ⟨0, x, at_ / 8, rfl, by omega, ?_, ?_⟩
      · rw [hlo, List.getElem?_append_left (by omega), List.getElem?_map, loos_get (by omega)]
        rfl
      · rw [htl, if_pos hlt]
        show turn1 x.D x.b at_ :: (bs.map prC).map Prod.snd = _ :: (bs.map fun x => x.b)
        rw [List.map_map]
        rfl
    · obtain ⟨j, y, o, hy, ho, hl, ht⟩ := turnL_at (bs := bs) (at_ := at_ - 8 * (x.b.length - x.D)) (fun y hy => hb y (.tail _ hy)) (by omega)
      have e8 : (at_ - 8 * (x.b.length - x.D)) / 8 = at_ / 8 - x.m := by omega
      have e9 : (at_ - 8 * (x.b.length - x.D)) % 8 = at_ % 8 := by omega
      rw [e8] at hl
      rw [e9] at ht
      refine ⟨j + 1, y, o, hy, ho, ?_, ?_⟩
      · rw [hlo, List.getElem?_append_right (by omega), hll]
        exact hl
      · rw [htl, if_neg hlt, ht]
        rfl
/-- what a crash keeps of a file, ahead of the bit -/
def kept (kp : List Int) (files : List (Int × DF)) (i : Nat) (y : Int) : Nat × List UInt8 :=
  ((fileF y files).d.toNat, (fileF y files).b.take ((fileF y files).d.toNat + keepN kp i (fileF y files).b.length (fileF y files).d.toNat))
def keptL (kp : List Int) (files : List (Int × DF)) (ys : List Int) (n : Nat) : List (Nat × List UInt8) := (List.range n).map fun j => kept kp files j (ys.getD j 0)
theorem keptL_succ (kp : List Int) (files : List (Int × DF)) (ys : List Int) (n : Nat) : keptL kp files ys (n + 1) = keptL kp files ys n ++ [kept kp files n (ys.getD n 0)] := by unfold keptL; rw [List.range_succ, List.map_append]; rfl
/-- all that a crash leaves -/
def crL (kp : List Int) (z : Int) (ys : List Int) (files : List (Int × DF)) : List (List UInt8) := turnL (atZ z (manyL (keptL kp files ys ys.length))) (keptL kp files ys ys.length)
structure CrOk (kp : List Int) (z : Int) (ys : List Int) (files F : List (Int × DF)) : Prop where
  at_ : ∀ (j : Nat) (y : Int), ys[j]? = some y → (crL kp z ys files)[j]? = some (fileF y F).b
  ne : ∀ n : Int, n ∉ ys → (fileF n F).b = []
  d : ∀ n : Int, (fileF n F).d = ((fileF n F).b.length : Int)
  ks : ∀ m ∈ F.map Prod.fst, m ∈ ys
  nz : (∀ p ∈ files, p.2.b.length ≠ 0) → ∀ p ∈ F, p.2.b.length ≠ 0
theorem put_mem {n : Int} {x : DF} {p : Int × DF} : ∀ {l : List (Int × DF)}, p ∈ putM n x l → p = (n, x) ∨ p ∈ l
  | [], h => by rw [show putM n x [] = [(n, x)] from rfl] at h; exact .inl (List.mem_singleton.1 h)
  | q :: l, h => by
    rw [putM_cons] at h
    split at h
    · rcases List.mem_cons.1 h with h | h
      · exact .inl h
      · exact .inr (.tail _ h)
    · rcases List.mem_cons.1 h with h | h
      · exact .inr (by rw [h]; exact .head _)
      · rcases put_mem h with h | h
        · exact .inl h
        · exact .inr (.tail _ h)
theorem delput_mem {n : Int} {x : DF} {p : Int × DF} : ∀ {l : List (Int × DF)}, p ∈ delM n (putM n x l) → p ∈ l
  | [], h => by
    rw [show putM n x [] = [(n, x)] from rfl, delM_cons, if_pos rfl] at h
    exact h
  | q :: l, h => by
    rw [putM_cons] at h
    split at h
    · rw [delM_cons, if_pos rfl] at h
      exact .tail _ h
    · rename_i hne
      rw [delM_cons, if_neg hne] at h
      rcases List.mem_cons.1 h with h | h
      · rw [h]; exact .head _
      · exact .tail _ (delput_mem h)
theorem set_nz {n : Int} {x : DF} {l : List (Int × DF)} (h : ∀ p ∈ l, p.2.b.length ≠ 0) : ∀ p ∈ setF n x l, p.2.b.length ≠ 0 := fun p hp => by
  unfold setF at hp
  split at hp
  · exact h p (delput_mem hp)
  · rename_i h0
    rcases put_mem hp with rfl | hp
    · exact h0
    · exact h p hp
theorem hard_nz {l : List (Int × DF)} (h : ∀ p ∈ l, p.2.b.length ≠ 0) : ∀ p ∈ hardL l, p.2.b.length ≠ 0 := fun p hp => by
  unfold hardL at hp
  obtain ⟨q, hq, rfl⟩ := List.mem_map.1 hp
  exact h q hq
theorem crS_nz : ∀ {ys : List Int} {bs : List CB} {l : List (Int × DF)}, (∀ p ∈ l, p.2.b.length ≠ 0) → ∀ p ∈ crS ys bs l, p.2.b.length ≠ 0
  | [], _, _, h => by unfold crS; exact h
  | _ :: _, [], _, h => h
  | y :: ys, x :: bs, l, h => crS_nz (ys := ys) (bs := bs) (set_nz h)
theorem mem_setC {α : Type} : ∀ {l : List α} {j : Nat} {a x : α}, x ∈ l.set j a → x = a ∨ x ∈ l.eraseIdx j
  | [], _, _, _, h => by simp at h
  | y :: l, 0, a, x, h => by
    rcases List.mem_cons.1 h with h | h
    · exact .inl h
    · exact .inr h
  | y :: l, j + 1, a, x, h => by
    rcases List.mem_cons.1 h with h | h
    · exact .inr (by rw [h]; exact .head _)
    · rcases mem_setC h with h | h
      · exact .inl h
      · exact .inr (.tail _ h)
theorem setB_map {l : List CB} {j : Nat} {x : CB} {b : List UInt8} : (l.set j { x with b := b }).map (fun x => x.b) = (l.map fun x => x.b).set j b := by rw [List.map_set]
/-- the crash's files, told by the clones -/
theorem crOk_of {kp : List Int} {z : Int} {ys : List Int} {files : List (Int × DF)} {bs : List CB} (hp : ys.Perm (files.map Prod.fst)) (hk : KeysOk files) (hl : bs.length = ys.length) (hb : bs.map (fun x => x.b) = crL kp z ys files) : CrOk kp z ys files (hardL (crS ys bs files)) := by
  have hn : ys.Nodup := hp.nodup_iff.2 hk
  refine ⟨fun j y hy => ?_, fun n hn2 => ?_, fun n => ?_, fun m hm => ?_, fun h => hard_nz (crS_nz h)⟩
  · have hj := (List.getElem?_eq_some_iff.1 hy).1
    obtain ⟨x, hx⟩ : ∃ x, bs[j]? = some x := ⟨_, List.getElem?_eq_getElem (by omega)⟩
    rw [(fileF_hard _).1, crS_at hn hk hy hx, ← hb, List.getElem?_map, hx]
    show some x.b = _
    split
    · rename_i h0
      rw [List.length_eq_zero_iff.1 h0]
    · rfl
  · rw [(fileF_hard _).1, crS_ne hn2]
    have : n ∉ files.map Prod.fst := fun h => hn2 (hp.mem_iff.2 h)
    rw [fileF_no this]
  · rw [(fileF_hard _).2, (fileF_hard _).1]
  · rw [hard_keys] at hm
    rcases crS_keys hm with h | h
    · exact h
    · exact hp.mem_iff.2 h
end Go.Proofs.YtbjaecofccpahaaGreat
namespace Go.Proofs.YtbjaecofccpahaaGreat
open Go Go.RowKit
set_option linter.unusedVariables false
set_option linter.unusedSimpArgs false
structure RK where
  room : Int
  B : List (List UInt8)
  F : List Int
  off : Bool
  plan : Int
/-- a step: the state, and whether the power fails -/
def rstepF (off : Bool) (plan : Int) : Bool × Int × Bool := if plan < 0 then (off, plan, false) else (if max (plan - 1) (-2) = -1 then true else off, max (plan - 1) (-2), if max (plan - 1) (-2) = -1 then true else off)
def usedB (B : List (List UInt8)) : Nat := (B.map List.length).sum
def filesB (B : List (List UInt8)) (n : Nat) : List Int := ((List.range n).filter fun j => decide (0 < (B.getD j []).length)).map fun j : Nat => ((j : Nat) : Int)
def RK.b (K : RK) (n : Int) : List UInt8 := K.B.getD n.toNat []
def RK.f (K : RK) (n : Int) : Int := K.F.getD n.toNat 0
def appR (K : RK) (n : Int) (b : List UInt8) : RK × Int :=
  if 0 ≤ n ∧ n < 64 then
    if K.off = true then (K, 21) else if K.room < usedB K.B + b.length then (K, 20) else
      ({ K with B := K.B.set n.toNat (K.b n ++ b), off := (rstepF K.off K.plan).1, plan := (rstepF K.off K.plan).2.1 }, if (rstepF K.off K.plan).2.2 then 21 else 0)
  else (K, 1)
def syncR (K : RK) : RK × Int := if K.off = true then (K, 21) else
  if (rstepF K.off K.plan).2.2 then ({ K with off := (rstepF K.off K.plan).1, plan := (rstepF K.off K.plan).2.1 }, 21)
  else ({ K with F := K.B.map fun b => (b.length : Int), off := (rstepF K.off K.plan).1, plan := (rstepF K.off K.plan).2.1 }, 0)
def truncR (K : RK) (n N : Int) : RK × Int :=
  if (0 ≤ n ∧ n < 64) ∧ 0 ≤ N ∧ N ≤ ((K.b n).length : Int) then
    if K.off = true then (K, 21) else
    if (rstepF K.off K.plan).2.2 then ({ K with off := (rstepF K.off K.plan).1, plan := (rstepF K.off K.plan).2.1 }, 21)
    else ({ K with B := K.B.set n.toNat ((K.b n).take N.toNat), F := K.F.set n.toNat (min (K.f n) N), off := (rstepF K.off K.plan).1, plan := (rstepF K.off K.plan).2.1 }, 0)
  else (K, 1)
def armR (K : RK) (n : Int) : RK := if K.off = true then K else { K with plan := max n (-1) }
def keptR (kp : List Int) (K : RK) (i : Nat) (y : Int) : Nat × List UInt8 :=
  ((K.f y).toNat, (K.b y).take ((K.f y).toNat + keepN kp i (K.b y).length (K.f y).toNat))
def keptRL (kp : List Int) (K : RK) (ys : List Int) (n : Nat) : List (Nat × List UInt8) := (List.range n).map fun j => keptR kp K j (ys.getD j 0)
theorem keptRL_succ (kp : List Int) (K : RK) (ys : List Int) (n : Nat) : keptRL kp K ys (n + 1) = keptRL kp K ys n ++ [keptR kp K n (ys.getD n 0)] := by unfold keptRL; rw [List.range_succ, List.map_append]; rfl
def crRL (kp : List Int) (z : Int) (K : RK) : List (List UInt8) := turnL (atZ z (manyL (keptRL kp K (filesB K.B 64) (filesB K.B 64).length))) (keptRL kp K (filesB K.B 64) (filesB K.B 64).length)
def setYs {α : Type} : List Int → List α → List α → List α
  | y :: ys, v :: vs, B => setYs ys vs (B.set y.toNat v)
  | _, _, B => B
def crashR (K : RK) (kp : List Int) (z : Int) : RK :=
  { K with B := setYs (filesB K.B 64) (crRL kp z K) K.B, F := (setYs (filesB K.B 64) (crRL kp z K) K.B).map fun b => (b.length : Int), off := false, plan := -1 }
structure RF (l : List (Int × DF)) (B : List (List UInt8)) (F : List Int) : Prop where
  Bl : B.length = 64
  Fl : F.length = 64
  B : ∀ n : Nat, n < 64 → B.getD n [] = (fileF (n : Int) l).b
  F : ∀ n : Nat, n < 64 → F.getD n 0 = (fileF (n : Int) l).d
  ks : ∀ m ∈ l.map Prod.fst, 0 ≤ m ∧ m < 64
  nz : ∀ p ∈ l, p.2.b.length ≠ 0
structure Rel (d : DK) (K : RK) : Prop where
  ok : DOk d
  f : RF d.files K.B K.F
  room : K.room = d.room
  off : K.off = d.off
  arm : if d.armed then K.plan = d.left ∧ 0 ≤ d.left else K.plan < 0
  p0 : -2 ≤ K.plan
  l0 : -1000000 ≤ d.left
  l1 : d.left ≤ 1000000
theorem usedB_snoc (B : List (List UInt8)) (b : List UInt8) : usedB (B ++ [b]) = usedB B + b.length := by unfold usedB; simp
theorem usedB_le : ∀ (B : List (List UInt8)) (i : Nat), usedB (B.take i) ≤ usedB B
  | [], i => by rw [List.take_nil]; exact Nat.le_refl _
  | b :: B, 0 => Nat.zero_le _
  | b :: B, i + 1 => by
    have := usedB_le B i
    show b.length + usedB (B.take i) ≤ b.length + usedB B
    omega
theorem usedB_at : ∀ {B : List (List UInt8)} {i : Nat} {b : List UInt8}, B[i]? = some b → b.length ≤ usedB B
  | c :: B, 0, b, h => by
    simp only [List.getElem?_cons_zero, Option.some.injEq] at h
    subst h
    show _ ≤ _ + usedB B
    omega
  | c :: B, i + 1, b, h => by
    have := usedB_at (B := B) (i := i) (by simpa using h)
    show _ ≤ c.length + usedB B
    omega
  | [], _, _, h => by simp at h
theorem filesB_succ (B : List (List UInt8)) (n : Nat) : filesB B (n + 1) = if 0 < (B.getD n []).length then filesB B n ++ [(n : Int)] else filesB B n := by
  unfold filesB
  rw [List.range_succ, List.filter_append]
  by_cases h : 0 < (B.getD n []).length
  · rw [if_pos h, List.map_append]
    simp only [List.filter_cons, h, decide_true, if_true, List.filter_nil, List.map_cons, List.map_nil]
  · rw [if_neg h]
    simp only [List.filter_cons, h, decide_false, List.filter_nil, List.append_nil]
    simp
theorem filesB_len (B : List (List UInt8)) : ∀ n, (filesB B n).length ≤ n
  | 0 => Nat.zero_le _
  | n + 1 => by
    have := filesB_len B n
    rw [filesB_succ]
    split
    · rw [List.length_append]; show _ + 1 ≤ _; omega
    · omega
theorem filesB_mem {B : List (List UInt8)} {n : Nat} {y : Int} : y ∈ filesB B n ↔ 0 ≤ y ∧ y < n ∧ 0 < (B.getD y.toNat []).length := by
  unfold filesB
  simp only [List.mem_map, List.mem_filter, List.mem_range, decide_eq_true_eq]
  constructor
  · rintro ⟨j, ⟨h1, h2⟩, rfl⟩
    exact ⟨by omega, by omega, by rw [Int.toNat_natCast]; exact h2⟩
  · rintro ⟨h1, h2, h3⟩
    exact ⟨y.toNat, ⟨by omega, h3⟩, by omega⟩
theorem filesB_sorted (B : List (List UInt8)) : ∀ n, (filesB B n).Pairwise (· < ·)
  | 0 => List.Pairwise.nil
  | n + 1 => by
    have ih := filesB_sorted B n
    rw [filesB_succ]
    split
    · refine List.pairwise_append.2 ⟨ih, List.pairwise_singleton _ _, fun a ha b hb => ?_⟩
      rw [List.mem_singleton.1 hb]
      exact (filesB_mem.1 ha).2.1
    · exact ih
theorem sorted_ext : ∀ {l l' : List Int}, l.Pairwise (· < ·) → l'.Pairwise (· < ·) → (∀ x, x ∈ l ↔ x ∈ l') → l = l'
  | [], [], _, _, _ => rfl
  | [], y :: l', _, _, h => absurd ((h y).2 (.head _)) (by simp)
  | x :: l, [], _, _, h => absurd ((h x).1 (.head _)) (by simp)
  | x :: l, y :: l', h1, h2, h => by
    have hx := List.pairwise_cons.1 h1
    have hy := List.pairwise_cons.1 h2
    have e : x = y := by
      rcases List.mem_cons.1 ((h x).1 (.head _)) with e | e
      · exact e
      · rcases List.mem_cons.1 ((h y).2 (.head _)) with e' | e'
        · exact e'.symm
        · have a := hy.1 x e
          have b := hx.1 y e'
          omega
    subst e
    rw [sorted_ext hx.2 hy.2 fun z => ?_]
    constructor
    · intro hz
      rcases List.mem_cons.1 ((h z).1 (.tail _ hz)) with e | e
      · have := hx.1 z hz
        omega
      · exact e
    · intro hz
      rcases List.mem_cons.1 ((h z).2 (.tail _ hz)) with e | e
      · have := hy.1 z hz
        omega
      · exact e
theorem fileF_memR : ∀ {l : List (Int × DF)} {q : Int × DF}, KeysOk l → q ∈ l → fileF q.1 l = q.2
  | p :: l, q, hk, hq => by
    rw [fileF_cons]
    rcases List.mem_cons.1 hq with rfl | h
    · rw [if_pos rfl]
    · have hn := List.nodup_cons.1 (show (p.1 :: l.map Prod.fst).Nodup from hk)
      rw [if_neg (show ¬ q.1 = p.1 from fun e => hn.1 (e ▸ List.mem_map.2 ⟨q, h, rfl⟩))]
      exact fileF_memR hn.2 h
theorem RF.mem {l : List (Int × DF)} {B : List (List UInt8)} {F : List Int} (h : RF l B F) (hk : KeysOk l) (n : Int) : n ∈ l.map Prod.fst ↔ n ∈ filesB B 64 := by
  rw [filesB_mem]
  constructor
  · intro hn
    have hr := h.ks n hn
    obtain ⟨q, hq, rfl⟩ := List.mem_map.1 hn
    refine ⟨hr.1, hr.2, ?_⟩
    have hb := h.B q.1.toNat (by omega)
    rw [hb, show ((q.1.toNat : Nat) : Int) = q.1 by omega, fileF_memR hk hq]
    have := h.nz q hq
    omega
  · rintro ⟨h1, h2, h3⟩
    have hb := h.B n.toNat (by omega)
    rw [hb, show ((n.toNat : Nat) : Int) = n by omega] at h3
    refine Classical.byContradiction fun hn => ?_
    rw [fileF_no hn] at h3
    exact absurd h3 (by simp)
theorem RF.ys {l : List (Int × DF)} {B : List (List UInt8)} {F : List Int} (h : RF l B F) (hk : KeysOk l) {ys : List Int} (hp : ys.Perm (l.map Prod.fst)) (hs : ys.Pairwise (· ≤ ·)) : ys = filesB B 64 := by
  have hn : ys.Nodup := hp.nodup_iff.2 hk
  refine sorted_ext ?_ (filesB_sorted B 64) fun x => by rw [hp.mem_iff, h.mem hk]
  exact (hs.and hn).imp fun ⟨a, b⟩ => by
    have : _ ≠ _ := b
    omega
theorem sum_pick (k c : Nat) (f : Nat → Nat) : ∀ N, ((List.range N).map fun n => (if n = k then c else 0) + f n).sum = (if k < N then c else 0) + ((List.range N).map f).sum
  | 0 => rfl
  | N + 1 => by
    rw [List.range_succ, List.map_append, List.map_append, List.sum_append, List.sum_append, sum_pick k c f N]
    show _ + ((if N = k then c else 0) + f N + 0) = _ + (_ + (f N + 0))
    split <;> split <;> split <;> omega
theorem usedL_sum : ∀ {l : List (Int × DF)}, KeysOk l → (∀ m ∈ l.map Prod.fst, 0 ≤ m ∧ m < 64) → usedL l = ((List.range 64).map fun n : Nat => (fileF (n : Int) l).b.length).sum
  | [], _, _ => by
    show 0 = _
    have : ((List.range 64).map fun n : Nat => (fileF (n : Int) []).b.length) = List.replicate 64 0 := by rfl
    rw [this]
    rfl
  | p :: l, hk, hr => by
    have hn := List.nodup_cons.1 (show (p.1 :: l.map Prod.fst).Nodup from hk)
    have ih := usedL_sum (l := l) hn.2 fun m hm => hr m (.tail _ hm)
    have hp := hr p.1 (.head _)
    rw [usedL_cons, ih]
    have : ((List.range 64).map fun n : Nat => (fileF (n : Int) (p :: l)).b.length) = (List.range 64).map fun n : Nat => (if n = p.1.toNat then p.2.b.length else 0) + (fileF (n : Int) l).b.length := by
      refine List.map_congr_left fun n _ => ?_
      rw [fileF_cons]
      by_cases h : (n : Int) = p.1
      · rw [if_pos h, if_pos (by omega), h, fileF_no hn.1]
        rfl
      · rw [if_neg h, if_neg (by omega), Nat.zero_add]
    rw [this, sum_pick, if_pos (by omega)]
theorem list_of_getD {α : Type} {l : List α} {a : α} : l = (List.range l.length).map fun n => l.getD n a := by
  refine List.ext_getElem? fun i => ?_
  rw [List.getElem?_map]
  by_cases h : i < l.length
  · rw [List.getElem?_range h, List.getElem?_eq_getElem h]
    show _ = some (l.getD i a)
    rw [List.getD_eq_getElem?_getD, List.getElem?_eq_getElem h]
    rfl
  · rw [List.getElem?_eq_none (by omega), List.getElem?_eq_none (by rw [List.length_range]; omega)]
    rfl
theorem RF.used {l : List (Int × DF)} {B : List (List UInt8)} {F : List Int} (h : RF l B F) (hk : KeysOk l) : usedB B = usedL l := by
  rw [usedL_sum hk h.ks]
  unfold usedB
  have : B = (List.range 64).map fun n => B.getD n [] := by
    have := list_of_getD (l := B) (a := [])
    rw [h.Bl] at this
    exact this
  rw [this, List.map_map]
  refine congrArg _ (List.map_congr_left fun n hn => ?_)
  show (B.getD n []).length = _
  rw [h.B n (List.mem_range.1 hn)]
theorem getD_set_self {α : Type} {l : List α} {i : Nat} {x a : α} (h : i < l.length) : (l.set i x).getD i a = x := by
  rw [List.getD_eq_getElem?_getD, List.getElem?_set_self h]; rfl
theorem getD_set_ne {α : Type} {l : List α} {i j : Nat} {x a : α} (h : i ≠ j) : (l.set i x).getD j a = l.getD j a := by
  rw [List.getD_eq_getElem?_getD, List.getElem?_set_ne h, List.getD_eq_getElem?_getD]
theorem RF.set {l : List (Int × DF)} {B : List (List UInt8)} {F : List Int} (h : RF l B F) (hk : KeysOk l) {n : Int} (hn : 0 ≤ n ∧ n < 64) {x : DF} {b : List UInt8} {f : Int} (hb : b = x.b) (hf : f = if x.b.length = 0 then 0 else x.d) : RF (setF n x l) (B.set n.toNat b) (F.set n.toNat f) := by
  refine ⟨by rw [List.length_set]; exact h.Bl, by rw [List.length_set]; exact h.Fl, fun m hm => ?_, fun m hm => ?_, fun m hm => ?_, set_nz h.nz⟩
  · by_cases e : n.toNat = m
    · rw [← e, getD_set_self (by rw [h.Bl]; omega), show ((n.toNat : Nat) : Int) = n by omega, (fileF_set hk).1, hb]
    · rw [getD_set_ne e, fileF_set_ne (by omega), h.B m hm]
  · by_cases e : n.toNat = m
    · rw [← e, getD_set_self (by rw [h.Fl]; omega), show ((n.toNat : Nat) : Int) = n by omega, (fileF_set hk).2, hf]
    · rw [getD_set_ne e, fileF_set_ne (by omega), h.F m hm]
  · rcases set_keys hm with rfl | hm
    · exact hn
    · exact h.ks m hm
theorem RF.hard {l : List (Int × DF)} {B : List (List UInt8)} {F : List Int} (h : RF l B F) : RF (hardL l) B (B.map fun b => (b.length : Int)) := by
  refine ⟨h.Bl, by rw [List.length_map]; exact h.Bl, fun m hm => ?_, fun m hm => ?_, fun m hm => ?_, hard_nz h.nz⟩
  · rw [(fileF_hard _).1, h.B m hm]
  · have := h.B m hm
    rw [List.getD_eq_getElem?_getD, List.getElem?_map]
    rw [List.getD_eq_getElem?_getD, List.getElem?_eq_getElem (by rw [h.Bl]; exact hm)] at this
    rw [List.getElem?_eq_getElem (by rw [h.Bl]; exact hm), (fileF_hard _).2, ← this]
    rfl
  · rw [hard_keys] at hm
    exact h.ks m hm
theorem Rel.b {d : DK} {K : RK} (h : Rel d K) {n : Int} (hn : 0 ≤ n ∧ n < 64) : K.b n = (fileF n d.files).b := by
  unfold RK.b
  rw [h.f.B n.toNat (by omega), show ((n.toNat : Nat) : Int) = n by omega]
theorem Rel.fd {d : DK} {K : RK} (h : Rel d K) {n : Int} (hn : 0 ≤ n ∧ n < 64) : K.f n = (fileF n d.files).d := by
  unfold RK.f
  rw [h.f.F n.toNat (by omega), show ((n.toNat : Nat) : Int) = n by omega]
theorem Rel.u {d : DK} {K : RK} (h : Rel d K) : usedB K.B = usedL d.files := h.f.used h.ok.k
theorem Rel.begun {k : Int} (h1 : 0 ≤ k) (h2 : k ≤ 16777216) : Rel ⟨[], k, false, false, 0⟩ ⟨k, List.replicate 64 [], List.replicate 64 0, false, -1⟩ := by
  refine ⟨⟨List.nodup_nil, h1, h2, h1, fun n => ⟨Int.le_refl _, Int.le_refl _⟩⟩, ⟨List.length_replicate, List.length_replicate, fun n hn => ?_, fun n hn => ?_, fun m hm => by simp at hm, fun p hp => by simp at hp⟩, rfl, rfl, by show (-1 : Int) < 0; decide, by show (-2 : Int) ≤ -1; decide, by show (-1000000 : Int) ≤ 0; decide, by show (0 : Int) ≤ 1000000; decide⟩
  · rw [List.getD_eq_getElem?_getD, List.getElem?_replicate]; split <;> rfl
  · rw [List.getD_eq_getElem?_getD, List.getElem?_replicate]; split <;> rfl
/-- a step keeps the two together -/
theorem Rel.step {d : DK} {K : RK} (h : Rel d K) (ho : d.off = false) : Rel (stepF d).1 { K with off := (rstepF K.off K.plan).1, plan := (rstepF K.off K.plan).2.1 } ∧ (stepF d).2 = !(rstepF K.off K.plan).2.2 ∧ (stepF d).1.off = (rstepF K.off K.plan).2.2 := by
  have hd := h.ok.step
  have hl := stepF_left d
  have hf := stepF_files d
  have hr := stepF_room d
  have ha := h.arm
  have hko : K.off = false := h.off.trans ho
  have hp0 := h.p0
  have hl1 := h.l1
  have hl0 := h.l0
  obtain ⟨files, room, off, armed, left⟩ := d
  obtain ⟨room', B, F, off', plan⟩ := K
  have hf2 := h.f
  have hroom := h.room
  dsimp only at ha ho hko hp0 hf2 hroom hl1 hl0
  subst ho hko
  cases armed
  · have hp : plan < 0 := ha
    have e1 : stepF ⟨files, room, false, false, left⟩ = (⟨files, room, false, false, left⟩, true) := rfl
    have e2 : rstepF false plan = (false, plan, false) := by unfold rstepF; rw [if_pos hp]
    dsimp only
    rw [e1, e2]
    exact ⟨⟨h.ok, hf2, hroom, rfl, hp, hp0, hl0, hl1⟩, rfl, rfl⟩
  · have hp : plan = left ∧ 0 ≤ left := ha
    obtain ⟨rfl, hp⟩ := hp
    by_cases h0 : plan < 1
    · obtain rfl : plan = 0 := by omega
      exact ⟨⟨hd, hf2, hroom, rfl, (by show (-1 : Int) < 0; decide), (by show (-2 : Int) ≤ -1; decide), (by show (-1000000 : Int) ≤ 0 - 1; decide), by show (0 : Int) - 1 ≤ 1000000; decide⟩, rfl, rfl⟩
    · have e1 : stepF ⟨files, room, false, true, plan⟩ = (⟨files, room, false, true, plan - 1⟩, true) := by unfold stepF; rw [if_pos rfl, if_neg (by show ¬ plan - 1 < 0; omega)]; rfl
      have em : max (plan - 1) (-2) = plan - 1 := by omega
      have e2 : rstepF false plan = (false, plan - 1, false) := by unfold rstepF; rw [if_neg (by omega), em, if_neg (by omega)]
      rw [e1] at hd
      dsimp only
      rw [e1, e2]
      exact ⟨⟨hd, hf2, hroom, rfl, ⟨rfl, by show 0 ≤ plan - 1; omega⟩, by show -2 ≤ plan - 1; omega, by show -1000000 ≤ plan - 1; omega, by show plan - 1 ≤ 1000000; omega⟩, rfl, rfl⟩
theorem Rel.put {d : DK} {K : RK} (h : Rel d K) {n : Int} (hn : 0 ≤ n ∧ n < 64) {x : DF} {b : List UInt8} {f : Int} (hb : b = x.b) (hf : f = if x.b.length = 0 then 0 else x.d) (hu : usedL d.files + x.b.length ≤ d.room + (fileF n d.files).b.length) (hd : 0 ≤ x.d ∧ x.d ≤ x.b.length) :
    Rel { d with files := setF n x d.files } { K with B := K.B.set n.toNat b, F := K.F.set n.toNat f } :=
  ⟨h.ok.set hu hd, h.f.set h.ok.k hn hb hf, h.room, h.off, h.arm, h.p0, h.l0, h.l1⟩
theorem setF_same {F : List Int} {i : Nat} {f : Int} (h : F.getD i 0 = f) (hi : i < F.length) : F.set i f = F := by
  refine List.ext_getElem? fun j => ?_
  by_cases e : i = j
  · subst e
    rw [List.getElem?_set_self hi, ← h, List.getD_eq_getElem?_getD, List.getElem?_eq_getElem hi]
    rfl
  · rw [List.getElem?_set_ne e]
theorem Rel.app {d : DK} {K : RK} (h : Rel d K) (n : Int) (b : List UInt8) (y : Value) : Rel (appF d n b y).1 (appR K n b).1 ∧ (appF d n b y).2 = (appR K n b).2 := by
  unfold appF appR
  by_cases hn : 0 ≤ n ∧ n < 64
  · rw [if_pos hn, if_pos hn]
    by_cases ho : d.off = true
    · rw [if_pos ho, if_pos (show K.off = true from h.off.trans ho)]
      exact ⟨h, rfl⟩
    · rw [if_neg ho, if_neg (show ¬ K.off = true by rw [h.off]; exact ho)]
      have hu := h.u
      by_cases hr : d.room - usedL d.files < b.length
      · rw [if_pos hr, if_pos (by rw [h.room, hu]; omega)]
        exact ⟨h, rfl⟩
      · rw [if_neg hr, if_neg (by rw [h.room, hu]; omega)]
        have hd0 := h.ok.d0 n
        have hp := h.put hn (x := ⟨y, (fileF n d.files).b ++ b, (fileF n d.files).d⟩) (b := K.b n ++ b) (f := K.f n) (by rw [h.b hn]) (by
          rw [h.fd hn]
          dsimp only
          split
          · rename_i e
            rw [List.length_append] at e
            omega
          · rfl) (by dsimp only; rw [List.length_append]; push_cast; omega) (by dsimp only; rw [List.length_append]; push_cast; omega)
        rw [setF_same (F := K.F) (i := n.toNat) (f := K.f n) rfl (by rw [h.f.Fl]; omega)] at hp
        obtain ⟨h1, h2, h3⟩ := hp.step (by simpa using ho)
        refine ⟨h1, ?_⟩
        dsimp only at h2 ⊢
        rw [h2]
        cases (rstepF K.off K.plan).2.2 <;> rfl
  · rw [if_neg hn, if_neg hn]
    exact ⟨h, rfl⟩
theorem Rel.sync {d : DK} {K : RK} (h : Rel d K) : Rel (syncF d).1 (syncR K).1 ∧ (syncF d).2 = (syncR K).2 := by
  unfold syncF syncR
  by_cases ho : d.off = true
  · rw [if_pos ho, if_pos (show K.off = true from h.off.trans ho)]
    exact ⟨h, rfl⟩
  · rw [if_neg ho, if_neg (show ¬ K.off = true by rw [h.off]; exact ho)]
    obtain ⟨h1, h2, h3⟩ := h.step (by simpa using ho)
    cases hs : (rstepF K.off K.plan).2.2
    · rw [hs] at h2 h3
      rw [if_neg (by decide)]
      rcases hst : stepF d with ⟨d2, s⟩
      rw [hst] at h1 h2 h3
      dsimp only at h1 h2 h3
      subst h2
      exact ⟨⟨h1.ok.hard, h1.f.hard, h1.room, h1.off, h1.arm, h1.p0, h1.l0, h1.l1⟩, rfl⟩
    · rw [hs] at h2 h3
      rw [if_pos rfl]
      rcases hst : stepF d with ⟨d2, s⟩
      rw [hst] at h1 h2 h3
      dsimp only at h1 h2 h3
      subst h2
      exact ⟨h1, rfl⟩
theorem Rel.trunc {d : DK} {K : RK} (h : Rel d K) {n : Int} {N : Nat} (hn : 0 ≤ n ∧ n < 64) (hN : N ≤ (fileF n d.files).b.length) (y : Value) : Rel (truncF d n N y).1 (truncR K n (N : Int)).1 ∧ (truncF d n N y).2 = (truncR K n (N : Int)).2 := by
  unfold truncF truncR
  rw [if_pos (show (0 ≤ n ∧ n < 64) ∧ 0 ≤ (N : Int) ∧ (N : Int) ≤ ((K.b n).length : Int) from ⟨hn, by omega, by rw [h.b hn]; omega⟩)]
  by_cases ho : d.off = true
  · rw [if_pos ho, if_pos (show K.off = true from h.off.trans ho)]
    exact ⟨h, rfl⟩
  · rw [if_neg ho, if_neg (show ¬ K.off = true by rw [h.off]; exact ho)]
    obtain ⟨h1, h2, h3⟩ := h.step (by simpa using ho)
    have hsf := stepF_files d
    cases hs : (rstepF K.off K.plan).2.2
    · rw [hs] at h2 h3
      rw [if_neg (by decide)]
      rcases hst : stepF d with ⟨d2, s⟩
      rw [hst] at h1 h2 h3 hsf
      dsimp only at h1 h2 h3 hsf
      subst h2
      have hd0 := h.ok.d0 n
      have hu := h1.ok.u
      refine ⟨?_, rfl⟩
      have := h1.put hn (x := ⟨y, (fileF n d.files).b.take N, min (fileF n d.files).d (N : Int)⟩) (b := (K.b n).take (N : Int).toNat) (f := min (K.f n) (N : Int)) (by rw [h.b hn, Int.toNat_natCast]) (by
        rw [h.fd hn]
        dsimp only
        rw [List.length_take]
        split
        · omega
        · rfl) (by dsimp only; rw [List.length_take, hsf]; rw [hsf] at hu; omega) (by dsimp only; rw [List.length_take]; omega)
      exact this
    · rw [hs] at h2 h3
      rw [if_pos rfl]
      rcases hst : stepF d with ⟨d2, s⟩
      rw [hst] at h1 h2 h3
      dsimp only at h1 h2 h3
      subst h2
      exact ⟨h1, rfl⟩
theorem Rel.armd {d : DK} {K : RK} (h : Rel d K) (ho : d.off = false) {n : Int} (h0 : -1000000 ≤ n) (h1 : n ≤ 1000000) : Rel { d with armed := decide (0 ≤ n), left := n } (armR K n) := by
  unfold armR
  rw [if_neg (by rw [h.off, ho]; decide)]
  refine ⟨⟨h.ok.k, h.ok.r0, h.ok.r1, h.ok.u, h.ok.d0⟩, h.f, h.room, h.off, ?_, by show -2 ≤ max n (-1); omega, h0, h1⟩
  by_cases hn : 0 ≤ n
  · show if decide (0 ≤ n) = true then _ else _
    rw [if_pos (by simpa using hn)]
    exact ⟨by show max n (-1) = n; omega, hn⟩
  · show if decide (0 ≤ n) = true then _ else _
    rw [if_neg (by simpa using hn)]
    show max n (-1) < 0
    omega
theorem setYs_len {α : Type} : ∀ {ys : List Int} {vs B : List α}, (setYs ys vs B).length = B.length
  | [], _, _ => by unfold setYs; rfl
  | _ :: _, [], _ => rfl
  | y :: ys, v :: vs, B => by
    show (setYs ys vs (B.set y.toNat v)).length = _
    rw [setYs_len, List.length_set]
theorem setYs_ne {α : Type} : ∀ {ys : List Int} {vs B : List α} {n : Nat}, (∀ y ∈ ys, 0 ≤ y) → (n : Int) ∉ ys → (setYs ys vs B)[n]? = B[n]?
  | [], _, _, _, _, _ => by unfold setYs; rfl
  | _ :: _, [], _, _, _, _ => rfl
  | y :: ys, v :: vs, B, n, hr, h => by
    have hy := hr y (.head _)
    show (setYs ys vs (B.set y.toNat v))[n]? = _
    rw [setYs_ne (fun z hz => hr z (.tail _ hz)) (fun hz => h (.tail _ hz)), List.getElem?_set_ne]
    intro e
    exact h (by rw [← e, show ((y.toNat : Nat) : Int) = y by omega]; exact .head _)
theorem setYs_at {α : Type} : ∀ {ys : List Int} {vs B : List α} {j : Nat} {y : Int} {v : α}, ys.Nodup → (∀ y ∈ ys, 0 ≤ y ∧ y.toNat < B.length) → ys[j]? = some y → vs[j]? = some v → (setYs ys vs B)[y.toNat]? = some v
  | [], _, _, _, _, _, _, _, h, _ => by simp at h
  | _ :: _, [], _, _, _, _, _, _, _, h => by simp at h
  | z :: ys, w :: vs, B, 0, y, v, hn, hr, hy, hv => by
    simp only [List.getElem?_cons_zero, Option.some.injEq] at hy hv
    subst hy hv
    have hz := hr z (.head _)
    show (setYs ys vs (B.set z.toNat w))[z.toNat]? = _
    rw [setYs_ne (fun y hy => (hr y (.tail _ hy)).1) (by rw [show ((z.toNat : Nat) : Int) = z by omega]; exact (List.nodup_cons.1 hn).1), List.getElem?_set_self hz.2]
  | z :: ys, w :: vs, B, j + 1, y, v, hn, hr, hy, hv => by
    rw [List.getElem?_cons_succ] at hy hv
    exact setYs_at (B := B.set z.toNat w) (List.nodup_cons.1 hn).2 (fun y hy => by rw [List.length_set]; exact hr y (.tail _ hy)) hy hv
theorem setYs_snoc {α : Type} : ∀ {ys : List Int} {vs B : List α} {y : Int} {v : α}, vs.length = ys.length → setYs (ys ++ [y]) (vs ++ [v]) B = (setYs ys vs B).set y.toNat v
  | [], [], _, _, _, _ => rfl
  | _ :: ys, _ :: vs, B, y, v, h => setYs_snoc (ys := ys) (vs := vs) (by simpa using h)
  | [], _ :: _, _, _, _, h => by simp at h
  | _ :: _, [], _, _, _, h => by simp at h
theorem setYs_map {α β : Type} {f : α → β} : ∀ {ys : List Int} {vs B : List α}, (setYs ys vs B).map f = setYs ys (vs.map f) (B.map f)
  | [], _, _ => by unfold setYs; rfl
  | _ :: _, [], _ => rfl
  | y :: ys, v :: vs, B => by
    show (setYs ys vs (B.set y.toNat v)).map f = setYs ys (vs.map f) ((B.map f).set y.toNat (f v))
    rw [setYs_map, List.map_set]
theorem setYs_mem {α : Type} {x : α} : ∀ {ys : List Int} {vs B : List α}, x ∈ setYs ys vs B → x ∈ vs ∨ x ∈ B
  | [], _, _, h => by unfold setYs at h; exact .inr h
  | _ :: _, [], _, h => .inr h
  | y :: ys, v :: vs, B, h => by
    rcases setYs_mem (ys := ys) (vs := vs) (B := B.set y.toNat v) h with h | h
    · exact .inl (.tail _ h)
    · rcases mem_setC h with h | h
      · exact .inl (by rw [h]; exact .head _)
      · exact .inr (List.mem_of_mem_eraseIdx h)
theorem Rel.kept {d : DK} {K : RK} (h : Rel d K) (kp : List Int) {ys : List Int} (hy : ∀ y ∈ ys, 0 ≤ y ∧ y < 64) : keptL kp d.files ys ys.length = keptRL kp K ys ys.length := by
  unfold keptL keptRL
  refine List.map_congr_left fun j hj => ?_
  have hj := List.mem_range.1 hj
  have hr := hy (ys.getD j 0) (by rw [List.getD_eq_getElem?_getD, List.getElem?_eq_getElem hj]; exact List.getElem_mem hj)
  unfold Go.Proofs.YtbjaecofccpahaaGreat.kept keptR
  rw [h.b hr, h.fd hr]
theorem turnL_len : ∀ (at_ : Nat) (l : List (Nat × List UInt8)), (turnL at_ l).length = l.length
  | _, [] => rfl
  | at_, (D, b) :: r => by
    unfold turnL
    split
    · rw [List.length_cons, List.length_map]; rfl
    · rw [List.length_cons, turnL_len]; rfl
theorem Rel.crash {d : DK} {K : RK} (h : Rel d K) {kp : List Int} {z : Int} {ys : List Int} {F : List (Int × DF)} (hp : ys.Perm (d.files.map Prod.fst)) (hs : ys.Pairwise (· ≤ ·)) (hc : CrOk kp z ys d.files F) (ho : DOk ⟨F, d.room, false, false, d.left⟩) : Rel ⟨F, d.room, false, false, d.left⟩ (crashR K kp z) := by
  have hy := h.f.ys h.ok.k hp hs
  have hyr : ∀ y ∈ ys, 0 ≤ y ∧ y < 64 := fun y hy => h.f.ks y (hp.mem_iff.1 hy)
  have hn : ys.Nodup := hp.nodup_iff.2 h.ok.k
  have hcr : crL kp z ys d.files = crRL kp z K := by
    unfold crL crRL
    rw [h.kept kp hyr, hy]
  have hB : ∀ n : Nat, n < 64 → (setYs (filesB K.B 64) (crRL kp z K) K.B).getD n [] = (fileF (n : Int) F).b := fun n hn64 => by
    rw [← hy, ← hcr]
    by_cases hm : (n : Int) ∈ ys
    · obtain ⟨j, hj⟩ := List.getElem?_of_mem hm
      have := setYs_at (B := K.B) hn (fun y hy => ⟨(hyr y hy).1, by rw [h.f.Bl]; have := hyr y hy; omega⟩) hj (hc.at_ j _ hj)
      rw [Int.toNat_natCast] at this
      rw [List.getD_eq_getElem?_getD, this]
      rfl
    · rw [List.getD_eq_getElem?_getD, setYs_ne (fun y hy => (hyr y hy).1) hm, ← List.getD_eq_getElem?_getD, hc.ne _ hm, h.f.B n hn64, fileF_no (fun hk => hm (hp.mem_iff.2 hk))]
  refine ⟨ho, ⟨?_, ?_, hB, fun n hn64 => ?_, fun m hm => hyr m (hc.ks m hm), hc.nz h.f.nz⟩, h.room, rfl, (by show (-1 : Int) < 0; decide), (by show (-2 : Int) ≤ -1; decide), h.l0, h.l1⟩
  · show (setYs _ _ _).length = 64
    rw [setYs_len]; exact h.f.Bl
  · show ((setYs _ _ _).map _).length = 64
    rw [List.length_map, setYs_len]; exact h.f.Bl
  · have hb := hB n hn64
    have hl : n < (setYs (filesB K.B 64) (crRL kp z K) K.B).length := by rw [setYs_len, h.f.Bl]; exact hn64
    show ((setYs _ _ _).map _).getD n 0 = _
    rw [hc.d, ← hb, List.getD_eq_getElem?_getD, List.getElem?_map, List.getD_eq_getElem?_getD, List.getElem?_eq_getElem hl]
    rfl
/-- what the reference's walks need -/
structure KOk (K : RK) : Prop where
  Bl : K.B.length = 64
  Fl : K.F.length = 64
  fr : ∀ n : Nat, n < 64 → 0 ≤ K.F.getD n 0 ∧ K.F.getD n 0 ≤ ((K.B.getD n []).length : Int)
  u : usedB K.B ≤ 16777216
  r0 : 0 ≤ K.room
  r1 : K.room ≤ 16777216
  p0 : -2 ≤ K.plan
  p1 : K.plan ≤ 1000000
theorem Rel.kok {d : DK} {K : RK} (h : Rel d K) : KOk K := by
  have hr0 := h.ok.r0
  have hr1 := h.ok.r1
  have hu := h.ok.u
  have hl1 := h.l1
  have hk := h.room
  refine ⟨h.f.Bl, h.f.Fl, fun n hn => ?_, by rw [h.u]; omega, by omega, by omega, h.p0, ?_⟩
  · rw [h.f.B n hn, h.f.F n hn]
    exact h.ok.d0 _
  · have := h.arm
    split at this <;> omega
end Go.Proofs.YtbjaecofccpahaaGreat
