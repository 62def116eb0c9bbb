/-
  Package disk: a disk in memory, and what its functions do to it, plain.
-/
import Derived.Lib.SliceRun
import Derived.Deep.OwnRows
import Derived.Test.YtbjaecofccpahaaMK
import Derived.Test.YtbjaecofccpahaaMH
import Derived.Test.YtbjaecofccpahaaMJ
namespace Go.Proofs.Ytbjaecofccpahaa
open Go Go.RowKit
set_option linter.unusedVariables false
set_option linter.unusedSimpArgs false
/-- a file: its bytes and where they lie, how many are durable -/
structure DF where
  v : Value
  b : List UInt8
  d : Int
def mDF : MEnc DF := ⟨fun x => .agg #[x.v, .int .i64 x.d], fun x => slI eB x.v x.b⟩
theorem mDF_val (x : DF) : mDF.val x = .agg #[x.v, .int .i64 x.d] := rfl
structure DK where
  files : List (Int × DF)
  room : Int
  off : Bool
  armed : Bool
  left : Int
def usedL (l : List (Int × DF)) : Nat := (l.map fun p => p.2.b.length).sum
/-- what has been counted -/
def usd : List Bool → List (Int × DF) → Nat
  | true :: fl, p :: l => p.2.b.length + usd fl l
  | false :: fl, _ :: l => usd fl l
  | _, _ => 0
theorem usd_none : ∀ (l : List (Int × DF)), usd (List.replicate l.length false) l = 0
  | [] => rfl
  | p :: l => by rw [List.length_cons, List.replicate_succ]; exact usd_none l
theorem usd_all : ∀ {fl : List Bool} {l : List (Int × DF)}, fl.length = l.length → (∀ f ∈ fl, f = true) → usd fl l = usedL l
  | [], [], _, _ => rfl
  | f :: fl, p :: l, h, ha => by
    have hf := ha f (.head _)
    subst hf
    have := usd_all (fl := fl) (l := l) (by simpa using h) fun g hg => ha g (.tail _ hg)
    show p.2.b.length + usd fl l = _
    rw [this]
    rfl
  | [], _ :: _, h, _ => by simp at h
  | _ :: _, [], h, _ => by simp at h
theorem usd_set : ∀ {fl : List Bool} {l : List (Int × DF)} {j : Nat} {p : Int × DF}, fl[j]? = some false → l[j]? = some p → usd (fl.set j true) l = usd fl l + p.2.b.length
  | f :: fl, q :: l, 0, p, h, hp => by
    simp only [List.getElem?_cons_zero, Option.some.injEq] at h hp
    subst h hp
    show q.2.b.length + usd fl l = usd fl l + q.2.b.length
    omega
  | f :: fl, q :: l, j + 1, p, h, hp => by
    rw [List.getElem?_cons_succ] at h hp
    have := usd_set h hp
    cases f
    · exact this
    · show q.2.b.length + usd (fl.set j true) l = q.2.b.length + usd fl l + p.2.b.length
      rw [this]
      omega
  | [], _, _, _, h, _ => by simp at h
  | _ :: _, [], _, _, _, h => by simp at h
theorem usd_le : ∀ (fl : List Bool) (l : List (Int × DF)), usd fl l ≤ usedL l
  | true :: fl, p :: l => by
    have := usd_le fl l
    show p.2.b.length + usd fl l ≤ p.2.b.length + usedL l
    omega
  | false :: fl, p :: l => by
    have := usd_le fl l
    show usd fl l ≤ p.2.b.length + usedL l
    omega
  | [], _ => by simp [usd]
  | true :: _, [] => by simp [usd]
  | false :: _, [] => by simp [usd]
theorem used_mem {l : List (Int × DF)} {j : Nat} {p : Int × DF} : l[j]? = some p → p.2.b.length ≤ usedL l := by
  induction l generalizing j with
  | nil => intro h; simp at h
  | cons q l ih =>
    intro h
    show _ ≤ q.2.b.length + usedL l
    cases j with
    | zero =>
      simp only [List.getElem?_cons_zero, Option.some.injEq] at h
      subst h
      omega
    | succ j =>
      have := ih (j := j) (by simpa using h)
      omega
theorem left_lt {fl : List Bool} {j : Nat} (h : fl[j]? = some false) : (fl.set j true).count false < fl.count false := by
  induction fl generalizing j with
  | nil => simp at h
  | cons f fl ih =>
    cases j with
    | zero =>
      simp only [List.getElem?_cons_zero, Option.some.injEq] at h
      subst h
      simp
    | succ j =>
      have := ih (j := j) (by simpa using h)
      rw [List.set_cons_succ, List.count_cons, List.count_cons]
      omega
def KeysOk (l : List (Int × DF)) : Prop := (l.map Prod.fst).Nodup
theorem posM_at {k : Int} {x : DF} : ∀ {l : List (Int × DF)} {j i : Nat}, KeysOk l → l[j]? = some (k, x) → posM k l i = some (i + j, x)
  | p :: l, 0, i, _, h => by
    simp only [List.getElem?_cons_zero, Option.some.injEq] at h
    subst h
    unfold posM
    rw [if_pos rfl]
    rfl
  | p :: l, j + 1, i, hk, h => by
    rw [List.getElem?_cons_succ] at h
    have hk2 := List.nodup_cons.1 hk
    have hne : ¬ k = p.1 := fun e => hk2.1 (e ▸ List.mem_map.2 ⟨(k, x), List.mem_of_getElem? h, rfl⟩)
    unfold posM
    rw [if_neg hne, posM_at hk2.2 h]
    congr 2
    omega
  | [], _, _, _, h => by simp at h
/-- files with every byte durable -/
def hardP (p : Int × DF) : Int × DF := (p.1, { p.2 with d := p.2.b.length })
def hardL (l : List (Int × DF)) : List (Int × DF) := l.map hardP
def hrd : List Bool → List (Int × DF) → List (Int × DF)
  | true :: fl, p :: l => hardP p :: hrd fl l
  | false :: fl, p :: l => p :: hrd fl l
  | _, l => l
theorem hrd_none : ∀ (l : List (Int × DF)), hrd (List.replicate l.length false) l = l
  | [] => rfl
  | p :: l => by rw [List.length_cons, List.replicate_succ]; show p :: hrd _ l = _; rw [hrd_none l]
theorem hrd_all : ∀ {fl : List Bool} {l : List (Int × DF)}, fl.length = l.length → (∀ f ∈ fl, f = true) → hrd fl l = hardL l
  | [], [], _, _ => rfl
  | f :: fl, p :: l, h, ha => by
    have hf := ha f (.head _)
    subst hf
    have := hrd_all (fl := fl) (l := l) (by simpa using h) fun g hg => ha g (.tail _ hg)
    show hardP p :: hrd fl l = _
    rw [this]
    rfl
  | [], _ :: _, h, _ => by simp at h
  | _ :: _, [], h, _ => by simp at h
theorem hrd_len : ∀ (fl : List Bool) (l : List (Int × DF)), (hrd fl l).length = l.length
  | true :: fl, p :: l => by show (hrd fl l).length + 1 = l.length + 1; rw [hrd_len fl l]
  | false :: fl, p :: l => by show (hrd fl l).length + 1 = l.length + 1; rw [hrd_len fl l]
  | [], _ => rfl
  | true :: _, [] => rfl
  | false :: _, [] => rfl
theorem hrd_keys : ∀ (fl : List Bool) (l : List (Int × DF)), (hrd fl l).map Prod.fst = l.map Prod.fst
  | true :: fl, p :: l => by show p.1 :: (hrd fl l).map Prod.fst = p.1 :: l.map Prod.fst; rw [hrd_keys fl l]
  | false :: fl, p :: l => by show p.1 :: (hrd fl l).map Prod.fst = p.1 :: l.map Prod.fst; rw [hrd_keys fl l]
  | [], _ => rfl
  | true :: _, [] => rfl
  | false :: _, [] => rfl
theorem hrd_at : ∀ {fl : List Bool} {l : List (Int × DF)} {j : Nat} {p : Int × DF}, fl[j]? = some false → (hrd fl l)[j]? = some p → (hrd fl l).set j (hardP p) = hrd (fl.set j true) l
  | f :: fl, q :: l, 0, p, h, hp => by
    simp only [List.getElem?_cons_zero, Option.some.injEq] at h
    subst h
    have : q = p := by simpa [hrd] using hp
    subst this
    rfl
  | f :: fl, q :: l, j + 1, p, h, hp => by
    rw [List.getElem?_cons_succ] at h
    cases f
    · show q :: (hrd fl l).set j (hardP p) = q :: hrd (fl.set j true) l
      rw [hrd_at h (by simpa [hrd] using hp)]
    · show hardP q :: (hrd fl l).set j (hardP p) = hardP q :: hrd (fl.set j true) l
      rw [hrd_at h (by simpa [hrd] using hp)]
  | [], _, _, _, h, _ => by simp at h
  | _ :: _, [], _, _, _, h => by simp [hrd] at h
theorem hrd_used : ∀ (fl : List Bool) (l : List (Int × DF)), usedL (hrd fl l) = usedL l
  | true :: fl, p :: l => by show p.2.b.length + usedL (hrd fl l) = p.2.b.length + usedL l; rw [hrd_used fl l]
  | false :: fl, p :: l => by show p.2.b.length + usedL (hrd fl l) = p.2.b.length + usedL l; rw [hrd_used fl l]
  | [], _ => rfl
  | true :: _, [] => rfl
  | false :: _, [] => rfl
/-- a step: what becomes of the disk, and whether the power is still on -/
def stepF (d : DK) : DK × Bool :=
  if d.armed then (if d.left - 1 < 0 then ({ d with left := d.left - 1, off := true, armed := false }, false) else ({ d with left := d.left - 1 }, !d.off)) else (d, true)
def setF (n : Int) (x : DF) (l : List (Int × DF)) : List (Int × DF) := if x.b.length = 0 then delM n (putM n x l) else putM n x l
/-- a file; one that is not there is empty -/
def fileF (n : Int) (l : List (Int × DF)) : DF := match posM n l 0 with
  | some q => q.2
  | none => ⟨.slice none 0 0, [], 0⟩
theorem fileF_val (n : Int) (l : List (Int × DF)) : ((posM n l 0).map fun q => mDF.val q.2).getD (.agg #[.slice none 0 0, .int .i64 0]) = mDF.val (fileF n l) := by
  unfold fileF
  cases posM n l 0 <;> rfl
theorem stepF_files (d : DK) : (stepF d).1.files = d.files := by
  unfold stepF
  split
  · split <;> rfl
  · rfl
def syncF (d : DK) : DK × Int := if d.off then (d, 21) else match stepF d with
  | (d2, s) => if s then ({ d2 with files := hardL d2.files }, 0) else (d2, 21)
/-- Truncate, of a file that is there, to a size that it has -/
def truncF (d : DK) (n : Int) (N : Nat) (y : Value) : DK × Int := if d.off then (d, 21) else match stepF d with
  | (d2, s) => if s then ({ d2 with files := setF n ⟨y, (fileF n d.files).b.take N, min (fileF n d.files).d (N : Int)⟩ d2.files }, 0) else (d2, 21)
/-- Append; y: where the bytes lie then -/
def appF (d : DK) (n : Int) (b : List UInt8) (y : Value) : DK × Int :=
  if 0 ≤ n ∧ n < 64 then
    if d.off then (d, 21) else if d.room - usedL d.files < b.length then (d, 20) else
      let s := stepF { d with files := setF n ⟨y, (fileF n d.files).b ++ b, (fileF n d.files).d⟩ d.files }
      (s.1, if s.2 then 0 else 21)
  else (d, 1)
section
variable {W0 : World} {L : List HP}
def dskG (R : MEnc DF) (p : Nat) (d : DK) : HP := ex fun b => sp [cel p [.map (some b), .int .i64 d.room, .bool d.off, .bool d.armed, .int .i64 d.left] 73, mapo R b d.files]
abbrev dsk (p : Nat) (d : DK) : HP := dskG mDF p d
theorem dsk_sub {p b : Nat} {R : MEnc DF} {d : DK} : Sub (cel p [.map (some b), .int .i64 d.room, .bool d.off, .bool d.armed, .int .i64 d.left] 73 :: mapo R b d.files :: L) (dskG R p d :: L) :=
  (sub_close (Ls := [cel p [.map (some b), .int .i64 d.room, .bool d.off, .bool d.armed, .int .i64 d.left] 73, mapo R b d.files])).trans (sub_ex (F := fun b => sp [cel p [.map (some b), .int .i64 d.room, .bool d.off, .bool d.armed, .int .i64 d.left] 73, mapo R b d.files]) b)
theorem dsk_ct {f : FuncId} {args : Array Value} {R' : Value → List HP → Prop} {p : Nat} {R : MEnc DF} {d : DK}
    (k : ∀ b, CT Try.prog f args W0 (cel p [.map (some b), .int .i64 d.room, .bool d.off, .bool d.armed, .int .i64 d.left] 73 :: mapo R b d.files :: L) R') : CT Try.prog f args W0 (dskG R p d :: L) R' := by
  refine ⟨fun w st => ?_⟩
  obtain ⟨b, h⟩ := st.ex_
  exact (k b).run w h.open_
theorem dsk_O {ops : Array Oper} {Q : Exit → Act → World → Prop} {rest : List Oper} {a : Act} {p : Nat} {R : MEnc DF} {d : DK} (i : Nat) (hi : L[i]? = some (dskG R p d))
    (k : ∀ b, OL Try.prog W0 (cel p [.map (some b), .int .i64 d.room, .bool d.off, .bool d.armed, .int .i64 d.left] 73 :: mapo R b d.files :: L.eraseIdx i) ops Q rest a) : OL Try.prog W0 L ops Q rest a := by
  refine ⟨fun w st => ?_⟩
  obtain ⟨b, h⟩ := (st.at_ hi).ex_
  exact (k b).run w h.open_
theorem dsk_C {c : Code} {Q : Exit → Act → World → Prop} {a : Act} {p : Nat} {R : MEnc DF} {d : DK} (i : Nat) (hi : L[i]? = some (dskG R p d))
    (k : ∀ b, CL Try.prog W0 (cel p [.map (some b), .int .i64 d.room, .bool d.off, .bool d.armed, .int .i64 d.left] 73 :: mapo R b d.files :: L.eraseIdx i) c Q a) : CL Try.prog W0 L c Q a := by
  refine ⟨fun w st => ?_⟩
  obtain ⟨b, h⟩ := (st.at_ hi).ex_
  exact (k b).run w h.open_
theorem rngo_imp {α : Type} {R : MEnc α} {b r j : Nat} {l : List (Int × α)} {fl : List Bool} {cur : Option Nat} {p : Int × α} (hm : rngo R b r l fl cur ∈ L) (hp : l[j]? = some p) : Sub L (im (R.im p.2) :: L) := fun m h s => by
  obtain ⟨a, _, es, clock, since, seen, c0, _, ha, _⟩ := s.mem hm
  obtain ⟨e, _, he⟩ := ha.get hp
  exact ⟨Hp.none, h, Hp.none_dj _, Hp.none_le _, Hp.le_refl _, he.2.2, s⟩
theorem CT.into {P : Program} {f : FuncId} {args : Array Value} {R R' : Value → List HP → Prop} (h : CT P f args W0 L R) (k : ∀ v L', R v L' → ∃ L2, R' v L2 ∧ Sub L' L2) : CT P f args W0 L R' :=
  ⟨fun w s => Calls.mono (h.run w s) fun e w' ⟨v, L', h1, h2, h3⟩ => let ⟨L2, h4, h5⟩ := k v L' h2; ⟨v, L2, h1, h4, h5.st h3⟩⟩
theorem file_sub {b : Nat} {k : Int} {l : List (Int × DF)} (hm : mapo mDF b l ∈ L) : Sub L (rd eB (fileF k l).v (fileF k l).b :: L) := by
  cases hq : posM k l 0 with
  | none =>
    have e : fileF k l = ⟨.slice none 0 0, [], 0⟩ := by unfold fileF; rw [hq]
    rw [e]
    exact fun m h s => ⟨Hp.none, h, Hp.none_dj _, Hp.none_le _, Hp.le_refl _, Sl.nil _ _ _ _, s⟩
  | some q =>
    have e : fileF k l = q.2 := by unfold fileF; rw [hq]
    rw [e]
    exact mapo_imp hm hq
theorem file_imp {b j : Nat} {k : Int} {l : List (Int × DF)} {q : Nat × DF} (hm : mapo mDF b l ∈ L) (hq : posM k l 0 = some q) : Sub L (rd eB q.2.v q.2.b :: L) := mapo_imp hm hq
end
end Go.Proofs.Ytbjaecofccpahaa
namespace Go.Proofs.Ytbjaecofccpahaa
open Go Go.RowKit
set_option linter.unusedVariables false
set_option linter.unusedSimpArgs false
set_option maxRecDepth 20000
set_option synthInstance.maxSize 100000
set_option synthInstance.maxHeartbeats 400000
/-- a slice of bytes with its value -/
structure SB where
  v : Value
  b : List UInt8
theorem Sl.one2 {α : Type} {m : Hp} {R : Enc α} {v : Value} {l : List α} (h : Sl m R v l) : v.oneCell' = true := by
  obtain ⟨A, cap, css, hv, _⟩ := h
  rw [hv]; rfl
def eSB : Enc SB :=
  ⟨1, fun m x cs => cs = [x.v] ∧ Sl m eB x.v x.b, fun hm ⟨e, h1⟩ => ⟨e, h1.mono hm⟩, fun ⟨e, _⟩ => by subst e; rfl,
    fun {_ x _} ⟨e, h1⟩ u hu => by
      subst e
      simp only [List.mem_cons, List.not_mem_nil, or_false] at hu
      subst hu
      exact h1.one2⟩
instance : Sz eSB 1 := ⟨rfl⟩
instance {x : SB} : EncC eSB x [x.v] := ⟨fun _ _ h => h.1⟩
theorem All2.openS {m : Hp} : ∀ {l : List (List UInt8)} {css : List (List Value)}, All2 ((eSl eB).r m) l css → ∃ l' : List SB, l'.map SB.b = l ∧ All2 (eSB.r m) l' css
  | [], [], _ => ⟨[], rfl, trivial⟩
  | b :: l, c :: css, ⟨⟨v, e, h⟩, t⟩ => by
    obtain ⟨l', h1, h2⟩ := All2.openS t
    exact ⟨⟨v, b⟩ :: l', by rw [List.map_cons, h1], ⟨e, h⟩, h2⟩
  | [], _ :: _, h => h.elim
  | _ :: _, [], h => h.elim
theorem Sl.openS {m : Hp} {v : Value} {l : List (List UInt8)} (h : Sl m (eSl eB) v l) : ∃ l' : List SB, l'.map SB.b = l ∧ Sl m eSB v l' := by
  obtain ⟨A, cap, css, hv, hc, ha, hr⟩ := h
  obtain ⟨l', h1, h2⟩ := ha.openS
  have hl : l'.length = l.length := by rw [← h1, List.length_map]
  refine ⟨l', h1, A, cap, css, by rw [hl]; exact hv, by rw [hl]; exact hc, h2, ?_⟩
  rcases hr with h | h
  · left
    subst h
    exact List.length_eq_zero_iff.1 hl
  · exact .inr h
section
variable {P : Program} {W0 : World} {L : List HP}
theorem CT_openS {f : FuncId} {args : Array Value} {R : Value → List HP → Prop} {v : Value} {l : List (List UInt8)} (hv : rd (eSl eB) v l ∈ L) (k : ∀ l' : List SB, l'.map SB.b = l → CT P f args W0 (rd eSB v l' :: L) R) : CT P f args W0 L R := ⟨fun w s => by
  obtain ⟨h1, h2, h3, h4, m, h, hm, hw, hh, d, hL⟩ := s
  obtain ⟨a, _, hs⟩ := hL.mem hv
  obtain ⟨l', e, hs'⟩ := Sl.openS hs
  exact (k l' e).run w ⟨h1, h2, h3, h4, m, h, hm, hw, hh, d, Hp.none, h, Hp.none_dj _, Hp.none_le _, Hp.le_refl _, hs', hL⟩⟩
theorem sub_peekSB {v : Value} {l : List SB} {j : Nat} {x : SB} (hm : rd eSB v l ∈ L) (hx : l[j]? = some x) : Sub L (rd eB x.v x.b :: L) := fun m h s => by
  obtain ⟨a, _, A, cap, css, _, _, ha, _⟩ := s.mem hm
  obtain ⟨cs, _, hc⟩ := ha.get hx
  exact ⟨Hp.none, h, Hp.none_dj _, Hp.none_le _, Hp.le_refl _, hc.2, s⟩
end
section
variable {W0 : World} {L : List HP}
theorem getB {l' : List SB} {l : List (List UInt8)} {i : Nat} {x : SB} (h : l'.map SB.b = l) (hx : l'[i]? = some x) : l[i]? = some x.b := by
  rw [← h, List.getElem?_map, hx]; rfl
theorem SameLists_ct {va vb : Value} {la lb : List (List UInt8)} {q : Bool} (ha : rd (eSl eB) va la ∈ L) (hb : rd (eSl eB) vb lb ∈ L) (hla : la.length ≤ 10000000) (hlb : lb.length ≤ 10000000) (hla2 : ∀ x ∈ la, x.length ≤ 10000000) (hlb2 : ∀ x ∈ lb, x.length ≤ 10000000) (hq : decide (la = lb) = q) :
    CT Try.prog 19 #[va, vb] W0 L fun r L' => r = .bool q ∧ L' = L := by
  refine CT_openS ha fun la' ha' => ?_
  refine CT_openS (.tail _ hb) fun lb' hb' => ?_
  refine CT_fact (fun w s => ((Src.sl (.inl (.tail _ (.head _))) s).form)) ?_
  rintro ⟨Aa, ca, rfl, hca⟩
  refine CT_fact (fun w s => ((Src.sl (.inl (.head _)) s).form)) ?_
  rintro ⟨Ab, cb, rfl, hcb⟩
  have hal : la'.length = la.length := by rw [← ha', List.length_map]
  have hbl : lb'.length = lb.length := by rw [← hb', List.length_map]
  refine CT_enter Try.func19 rfl ?_; (simp only [Try.ntmps19, List.size_toArray, List.length_cons, List.length_nil, Nat.reduceAdd, Nat.reduceSub, Array.replicate_succ, Array.replicate_zero, List.push_toArray, List.append_toArray, List.nil_append, List.cons_append])
  by_cases hlen : la'.length = lb'.length
  rotate_left
  · have hqf : q = false := by rw [← hq]; exact decide_eq_false fun h => hlen (by rw [hal, hbl, h])
    subst hqf
    repeat' (first | refine go ?_ | intro _ | (apply cG; first | refine cT ?_ | refine cF ?_ | refine cS (fun _ => ?_) fun _ => ?_) | (apply gW; refine sW ?_) | (apply gI; refine sI ?_) | (apply gE; refine sE ?_) | (apply gP; refine sP ?_) | (apply gC; refine sC ?_) | (apply gD; refine sD ?_) | fail)
    refine E_res1 (by rfl) (by rfl) ⟨rfl, rfl⟩ Sb
  repeat' (first | refine go ?_ | intro _ | (apply cG; first | refine cT ?_ | refine cF ?_ | refine cS (fun _ => ?_) fun _ => ?_) | (apply gW; refine sW ?_) | (apply gI; refine sI ?_) | (apply gE; refine sE ?_) | (apply gP; refine sP ?_) | (apply gC; refine sC ?_) | (apply gD; refine sD ?_) | fail)
  refine C_loopS (κ := Nat) [false, false, false, false, true, true, false, false, false, false, false, true, true, true, true, true, true, true, true, true, true, true, true, true, true, true, true] (fun k => [(5, .int .i64 (k : Int))]) (fun k => []) (fun k => k ≤ la'.length ∧ ∀ j < k, la[j]? = lb[j]?) (fun k => la'.length - k) 0 ⟨Nat.zero_le _, fun j hj => absurd hj (Nat.not_lt_zero _)⟩ ⟨rfl, trivial⟩ ?_
  rintro i u ⟨hi, hsame⟩
  ((try dsimp only); refine C_n ?_; (try simp only [Nat.reduceAdd, Nat.zero_add]))
  by_cases hlt : i < la'.length
  · obtain ⟨x, hx⟩ : ∃ x, la'[i]? = some x := ⟨_, List.getElem?_eq_getElem hlt⟩
    obtain ⟨y, hy⟩ : ∃ y, lb'[i]? = some y := ⟨_, List.getElem?_eq_getElem (by omega)⟩
    have hax : At la' i x := ⟨hx⟩
    have hay : At lb' i y := ⟨hy⟩
    have hxb := getB ha' hx
    have hyb := getB hb' hy
    have hxl := hla2 _ (List.mem_of_getElem? hxb)
    have hyl := hlb2 _ (List.mem_of_getElem? hyb)
    repeat' (first | refine go ?_ | intro _ | (apply cG; first | refine cT ?_ | refine cF ?_ | refine cS (fun _ => ?_) fun _ => ?_) | (apply gW; refine sW ?_) | (apply gI; refine sI ?_) | (apply gE; refine sE ?_) | (apply gP; refine sP ?_) | (apply gC; refine sC ?_) | (apply gD; refine sD ?_) | fail)
    refine C_sub (sub_peekSB (v := .slice Aa la'.length ca) (by repeat (first | exact .head _ | refine .tail _ ?_)) hx) ?_
    refine C_sub (sub_peekSB (v := .slice Ab lb'.length cb) (by repeat (first | exact .head _ | refine .tail _ ?_)) hy) ?_
    obtain ⟨s, hs⟩ : ∃ s, decide (x.b = y.b) = s := ⟨_, rfl⟩
    refine C_draw (n := 99) [rd eB y.v y.b, rd eB x.v x.b, rd eSB (.slice Ab lb'.length cb) lb', rd eSB (.slice Aa la'.length ca) la'] [(0, 1), (1, 1), (2, 1), (3, 1), (4, 1), (5, 1), (6, 1), (7, 1), (8, 0), (9, 1)] (by kernel_rfl) (by kernel_rfl) Sb ?_
    repeat' (first | refine go ?_ | intro _ | (apply cG; first | refine cT ?_ | refine cF ?_ | refine cS (fun _ => ?_) fun _ => ?_) | (apply gW; refine sW ?_) | (apply gI; refine sI ?_) | (apply gE; refine sE ?_) | (apply gP; refine sP ?_) | (apply gC; refine sC ?_) | (apply gD; refine sD ?_) | fail)
    refine D_op rfl ?_; refine X_d (dy_call ArgsI.pf (by first | exact rfl | trivial | (intro a b; rfl)) (SameBytes_ct (la := x.b) (lb := y.b) (.inl (by repeat (first | exact .head _ | refine .tail _ ?_))) (.inl (by repeat (first | exact .head _ | refine .tail _ ?_))) (by omega) (by omega) hs)) ?_; rintro _ _ ⟨_, ⟨rfl, hLL⟩, rfl⟩; replace hLL := hLL.symm; subst hLL; refine ⟨(by first | exact .inl rfl | exact .inr Sb), D_n ?_⟩
    cases s
    · have hqf : q = false := by
        rw [← hq]
        refine decide_eq_false fun h => ?_
        rw [h, hyb] at hxb
        have : y.b = x.b := by simpa using hxb
        exact of_decide_eq_false hs this.symm
      subst hqf
      repeat' (first | refine go ?_ | intro _ | (apply cG; first | refine cT ?_ | refine cF ?_ | refine cS (fun _ => ?_) fun _ => ?_) | (apply gW; refine sW ?_) | (apply gI; refine sI ?_) | (apply gE; refine sE ?_) | (apply gP; refine sP ?_) | (apply gC; refine sC ?_) | (apply gD; refine sD ?_) | fail)
      refine E_res1 (by rfl) (by rfl) ⟨rfl, rfl⟩ Sb
    · have hxy := of_decide_eq_true hs
      repeat' (first | refine go ?_ | intro _ | (apply cG; first | refine cT ?_ | refine cF ?_ | refine cS (fun _ => ?_) fun _ => ?_) | (apply gW; refine sW ?_) | (apply gI; refine sI ?_) | (apply gE; refine sE ?_) | (apply gP; refine sP ?_) | (apply gC; refine sC ?_) | (apply gD; refine sD ?_) | fail)
      exact E_round (i + 1) ⟨hlt, fun j hj => by
        rcases Nat.lt_or_ge j i with h | h
        · exact hsame j h
        · obtain rfl : j = i := by omega
          rw [hxb, hyb, hxy]⟩ (by show la'.length - (i + 1) < la'.length - i; omega) ⟨rfl, trivial⟩ Sb
  · have hqt : q = true := by
      rw [← hq]
      refine decide_eq_true (List.ext_getElem? fun j => ?_)
      rcases Nat.lt_or_ge j i with h | h
      · exact hsame j h
      · rw [List.getElem?_eq_none (by omega), List.getElem?_eq_none (by omega)]
    subst hqt
    repeat' (first | refine go ?_ | intro _ | (apply cG; first | refine cT ?_ | refine cF ?_ | refine cS (fun _ => ?_) fun _ => ?_) | (apply gW; refine sW ?_) | (apply gI; refine sI ?_) | (apply gE; refine sE ?_) | (apply gP; refine sP ?_) | (apply gC; refine sC ?_) | (apply gD; refine sD ?_) | fail)
    refine E_res1 (by rfl) (by rfl) ⟨rfl, rfl⟩ Sb
end
end Go.Proofs.Ytbjaecofccpahaa
namespace Go.Proofs.Ytbjaecofccpahaa
open Go Go.RowKit
set_option linter.unusedVariables false
set_option linter.unusedSimpArgs false
def allI {α : Type} (R : Enc α) (l : List α) (css : List (List Value)) : Im := ⟨fun m => All2 (R.r m) l css, fun hm h => h.imp fun _ _ => R.mono hm⟩
instance szSl {α : Type} {R : Enc α} : Sz (eSl R) 1 := ⟨rfl⟩
theorem Sl.cut0 {α : Type} {m : Hp} {R : Enc α} {A : Option Addr} {n c k : Nat} {l : List α} (h : Sl m R (.slice A n c) l) (hk : k ≤ n) : Sl m R (.slice A k c) (l.take k) := by
  have hc := h.cap_
  have := h.cut (lo := 0) (hi := k) (mx := c) (by omega) hk (by omega)
  rw [Nat.sub_zero, Nat.sub_zero, List.drop_zero, Nat.zero_mul] at this
  have e : (if c = 0 then A else Option.map (fun x => x.add 0) A) = A := by
    split
    · rfl
    · cases A <;> simp [Addr.add]
  rw [e] at this
  exact this
section
variable {P : Program} {W0 w : World} {L : List HP}
theorem St.own_open {α : Type} {R : Enc α} {E : TypeId} {v : Value} {l : List α} (s : St W0 w (own E R v l :: L)) (hl : l ≠ []) (h1 : R.sz = 1) :
    ∃ g cap css sp, v = .slice (some ⟨g, 0, none⟩) l.length cap ∧ l.length ≤ cap ∧ cap ≤ maxLen ∧ sp.length = cap - l.length ∧ css.flatten.length = l.length ∧ (∀ u ∈ css.flatten, u.oneCell' = true) ∧ (∀ x ∈ css, x.length = 1) ∧
      St W0 w (cel g (css.flatten ++ sp) E :: im (allI R l css) :: L) := by
  have s1 : St W0 w (ex (fun q : Nat × Nat × List (List Value) × List Value => Go.Proofs.Ytbjaecofccpahaa.sp [pur (v = .slice (some ⟨q.1, 0, none⟩) l.length q.2.1 ∧ l.length ≤ q.2.1 ∧ q.2.1 ≤ maxLen ∧ q.2.2.2.length = q.2.1 - l.length ∧ q.2.2.1.flatten.length = l.length ∧ (∀ u ∈ q.2.2.1.flatten, u.oneCell' = true) ∧ (∀ x ∈ q.2.2.1, x.length = 1)), cel q.1 (q.2.2.1.flatten ++ q.2.2.2) E, im (allI R l q.2.2.1)]) :: L) := by
    refine s.imp ?_
    rintro m h ⟨css, ha, k⟩
    rcases k with ⟨_, h0⟩ | ⟨g, cap, cur, hv, hg, hc, hm, hs, ht⟩
    · exact absurd h0 hl
    · have hfl := ha.flen
      rw [h1] at hs ht hfl
      simp only [Nat.mul_one] at hs ht hfl
      have hcur : cur.toList = css.flatten ++ cur.toList.drop l.length := by rw [← ht, List.take_append_drop]
      have hcell : Obj.cells (css.flatten ++ List.drop l.length cur.toList).toArray E (0, 0) = Obj.cells cur E (0, 0) := by rw [← hcur]
      refine ⟨(g, cap, css, cur.toList.drop l.length), Hp.none, h, Hp.none_dj _, Hp.none_le _, Hp.le_refl _, ⟨hv, hc, hm, by simp [hs], hfl, ha.ones, fun x hx => by rw [ha.lens x hx, h1]⟩, h, Hp.none, Hp.dj_none _, Hp.le_refl _, Hp.none_le _, ?_, Hp.none, Hp.none, Hp.dj_none _, Hp.le_refl _, Hp.le_refl _, ha, trivial⟩
      show h g = some (Obj.cells (css.flatten ++ List.drop l.length cur.toList).toArray E (0, 0))
      rw [hcell, hg]
  obtain ⟨q, h⟩ := s1.ex_
  have h2 := h.open_
  have hp := h2.pur_
  exact ⟨q.1, q.2.1, q.2.2.1, q.2.2.2, hp.1, hp.2.1, hp.2.2.1, hp.2.2.2.1, hp.2.2.2.2.1, hp.2.2.2.2.2.1, hp.2.2.2.2.2.2, h2.drop⟩
theorem sub_own1 {α : Type} {R : Enc α} {E : TypeId} {g cap : Nat} {l : List α} {css : List (List Value)} {sp : List Value} (h1 : R.sz = 1) (h2 : l.length ≤ cap) (h3 : cap ≤ maxLen) (h4 : sp.length = cap - l.length) :
    Sub (cel g (css.flatten ++ sp) E :: im (allI R l css) :: L) (own E R (.slice (some ⟨g, 0, none⟩) l.length cap) l :: L) := by
  rintro m h ⟨a, b, d, ha, hb, hA, c, e, d2, hc, he, hB, hL⟩
  have hB : All2 (R.r m) l css := hB
  have hfl := hB.flen
  rw [h1, Nat.mul_one] at hfl
  refine ⟨a, e, d.sub (Hp.le_refl _) he, ha, he.trans hb, ⟨css, hB, .inr ⟨g, cap, (css.flatten ++ sp).toArray, rfl, hA, h2, h3, ?_, ?_⟩⟩, hL⟩
  · rw [h1]; simp only [List.size_toArray, List.length_append]; omega
  · rw [h1, Nat.mul_one, ← hfl]; exact List.take_left
theorem flat_drop1 : ∀ (k : Nat) (css : List (List Value)), (∀ x ∈ css, x.length = 1) → css.flatten.drop k = (css.drop k).flatten
  | 0, css, _ => rfl
  | k + 1, [], _ => rfl
  | k + 1, c :: r, h => by
    have hc := h c (.head _)
    obtain ⟨v, rfl⟩ := List.length_eq_one_iff.1 hc
    exact flat_drop1 k r fun x hx => h x (.tail _ hx)
theorem sub_all {α : Type} {R : Enc α} {l l' : List α} {css css' : List (List Value)} (f : ∀ m, All2 (R.r m) l css → All2 (R.r m) l' css') : Sub (im (allI R l css) :: L) (im (allI R l' css') :: L) := by
  rintro m h ⟨a, b, d, ha, hb, hA, hL⟩
  exact ⟨a, b, d, ha, hb, f m hA, hL⟩
variable {a : Act} {d : Option Tmp} {ty : TypeId} {pos : String} {aft : Array Edge} {gd : Option (Nat × Bool)} {x y : Operand} {t : TypeId}
/-- append within the row, the source in the same row -/
theorem dy_appin {e : TypeId} {zv : Value} {by_ : Nat} [ut : UL P t (.slice e)] [ti : TI P e zv 1 by_] {g n c m c2 off : Nat} (i : Nat) {cs : List Value} (hx : a.eval x = .slice (some ⟨g, 0, none⟩) n c) (hy : a.eval y = .slice (some ⟨g, off, none⟩) m c2) (hm : L[i]? = some (cel g cs e))
    (hroom : n + m ≤ c) (hfit : n + m ≤ cs.length) (hoff : off + m ≤ cs.length) (h1 : ∀ u ∈ (cs.drop off).take m, u.oneCell' = true) {cs' : List Value} (hcs : cs.take n ++ (cs.drop off).take m ++ cs.drop (n + m) = cs') :
    DY P W0 L ⟨d, .call { callee := .builtin .append, args := #[x, y], argTypes := #[t, t] }, ty, pos, aft, gd⟩ a fun a' L' => a.put d (.slice (some ⟨g, 0, none⟩) (n + m) c) = a' ∧ L' = L.set i (cel g cs' e) :=
  dy_val fun w s => by
    obtain ⟨q, hi, hz, hsz, hby⟩ := ti.pf
    have hg := s.cel_ (List.mem_of_getElem? hm)
    have hlen : ((cs.drop off).take m).length = m := by rw [List.length_take, List.length_drop]; omega
    have hr := run_append_room (P := P) w t ty e q ut.pf hi g n c cs.toArray hg ⟨g, off, none⟩ m c2 ((cs.drop off).take m) (by rw [hlen, hsz, Nat.mul_one]) (fun j u hj => by
      rw [add0]
      rw [List.getElem?_take] at hj
      split at hj
      · rw [List.getElem?_drop] at hj
        simp [World.cell?, hg, hj]
      · cases hj) h1 hroom (by rw [hsz, hlen]; simp; omega)
    rw [hsz, hlen, Nat.mul_one] at hr
    refine ⟨_, w.setRow g cs'.toArray, _, ?_, ⟨rfl, rfl⟩, s.setRowAt hm⟩
    unfold execOp
    simp only [resolve, invoke, builtin, Sem.run_bind, Sem.run_pure, Result.andThen_ok, List.map_toArray, List.map_cons, List.map_nil, hx, hy, hr, hcs]
def setL : List Value → Nat → List Value → List Value
  | cs, _, [] => cs
  | cs, o, v :: r => setL (cs.set o v) (o + 1) r
theorem St.setCells {b i : Nat} {T : TypeId} : ∀ (vs : List Value) (o : Nat) (cs : List Value) (L : List HP) (w : World), St W0 w L → L[i]? = some (cel b cs T) → St W0 (w.setCells b o vs) (L.set i (cel b (setL cs o vs) T))
  | [], o, cs, L, w, s, hm => by
    have : L.set i (cel b cs T) = L := by
      apply List.ext_getElem?
      intro j
      rw [List.getElem?_set]
      split
      · rename_i h; subst h
        rw [if_pos (List.getElem?_eq_some_iff.1 hm).1, hm]
      · rfl
    show St W0 w (L.set i (cel b cs T))
    rw [this]; exact s
  | v :: r, o, cs, L, w, s, hm => by
    have h1 : St W0 (w.setCell ⟨b, o, none⟩ v) (L.set i (cel b (cs.set o v) T)) := s.setCellAt hm v
    have hlt := (List.getElem?_eq_some_iff.1 hm).1
    have h2 := St.setCells r (o + 1) (cs.set o v) (L.set i (cel b (cs.set o v) T)) _ h1 (by rw [List.getElem?_set, if_pos rfl, if_pos hlt])
    rw [List.set_set] at h2
    exact h2
theorem setL_rep {z : Value} : ∀ (n o : Nat) (cs : List Value), o + n ≤ cs.length → setL cs o (List.replicate n z) = cs.take o ++ List.replicate n z ++ cs.drop (o + n)
  | 0, o, cs, h => by
    show cs = _
    simp
  | n + 1, o, cs, h => by
    show setL (cs.set o z) (o + 1) (List.replicate n z) = _
    rw [setL_rep n (o + 1) _ (by rw [List.length_set]; omega)]
    have e1 : (cs.set o z).take (o + 1) = cs.take o ++ [z] := by
      rw [List.take_add_one, List.take_set, List.set_eq_of_length_le (by simp; omega), List.getElem?_set_self (by omega)]
      rfl
    have e2 : (cs.set o z).drop (o + 1 + n) = cs.drop (o + (n + 1)) := by
      rw [List.drop_set_of_lt (by omega)]
      congr 1; omega
    rw [e1, e2, List.replicate_succ]
    simp
theorem dy_clear {e : TypeId} {zv : Value} {by_ : Nat} [ut : UL P t (.slice e)] [ti : TI P e zv 1 by_] {g n c off : Nat} (i : Nat) {cs : List Value} (hx : a.eval x = .slice (some ⟨g, off, none⟩) n c) (hm : L[i]? = some (cel g cs e))
    (hn : 0 < n) (hfit : off + n ≤ cs.length) (hz : zv.cells = #[zv] := by rfl) (h1 : zv.oneCell' = true := by rfl) {cs' : List Value} (hcs : cs.take off ++ List.replicate n zv ++ cs.drop (off + n) = cs') :
    DY P W0 L ⟨d, .call { callee := .builtin .clear, args := #[x], argTypes := #[t] }, ty, pos, aft, gd⟩ a fun a' L' => a.put d (.tuple #[]) = a' ∧ L' = L.set i (cel g cs' e) :=
  dy_val fun w s => by
    have hg := s.cel_ (List.mem_of_getElem? hm)
    have hr := Lib.run_clear_slice (P := P) w t e ty zv ut.pf (fun w => zero_run (P := P) (t := e) w) hz h1 g off n c hn (fun j hj => by
      have : off + j < cs.length := by omega
      simp [World.cell?, hg, this]) (fun j hj => by simp [World.frozen?, hg])
    refine ⟨_, w.setCells g off (List.replicate n zv), _, ?_, ⟨rfl, rfl⟩, ?_⟩
    · unfold execOp
      simp only [resolve, invoke, builtin, Sem.run_bind, Sem.run_pure, Result.andThen_ok, List.map_toArray, List.map_cons, List.map_nil, hx, hr]
    · have := St.setCells (i := i) (List.replicate n zv) off cs L w s hm
      rw [setL_rep n off cs hfit, hcs] at this
      exact this
theorem sv_slice3 {S : List HP} {e : TypeId} {zv : Value} {s by_ n c : Nat} {A : Option Addr} {lo hi mx : Operand} {l h m : Int} {k1 k2 k3 : IntKind} [ut : UL P t (.slice e)] [ti : TI P e zv s by_] (hx : a.eval x = .slice A n c := by exact Ev.pf)
    (hl : a.eval lo = .int k1 l := by exact Ev.pf) (hh : a.eval hi = .int k2 h := by exact Ev.pf) (hmx : a.eval mx = .int k3 m := by exact Ev.pf) (h0 : 0 ≤ l := by omega) (h1 : l ≤ h := by omega) (h2 : h ≤ m := by omega) (h3 : m ≤ c := by omega) :
    SV P W0 S ⟨d, .slice t x (some lo) (some hi) (some mx), ty, pos, aft, gd⟩ a (.slice (if m.toNat = l.toNat then A else A.map (·.add (l.toNat * s))) (h.toNat - l.toNat) (m.toNat - l.toNat)) := ⟨fun w _ => by
  unfold execOp
  have f1 : 0 ≤ m := by omega
  have f2 : 0 ≤ h := by omega
  have f3 : h ≤ max m 0 := by omega
  have f4 : l ≤ max h 0 := by omega
  simp [hx, hl, hh, hmx, Instr.sliceAt, run_underlying ut.pf, Instr.slice, Instr.sliceBounds, Instr.sliceBound, asIntOf, sizeOf_run (P := P) (t := e), h0, h3, f1, f2, f3, f4]⟩
/-- '[]byte("a")': the literal's row, marked, is read from then on -/
theorem dy_mark {e : TypeId} (i : Nat) {E : TypeId} {g n c : Nat} {l : List UInt8} [ut : UL P t (.slice e)] [ue : UL P e (.int .u8)] (hx : a.eval x = .slice (some ⟨g, 0, none⟩) n c) (hm : L[i]? = some (own E eB (.slice (some ⟨g, 0, none⟩) n c) l)) (hl : l ≠ []) :
    DY P W0 L ⟨d, .convert t t x, ty, pos, aft, gd⟩ a fun a' L' => a.put d (.slice (some ⟨g, 0, none⟩) n c) = a' ∧ L' = L.set i (rd eB (.slice (some ⟨g, 0, none⟩) n c) l) :=
  dy_val fun w s => by
    obtain ⟨g', cap, css, sp, hv, hc1, hc2, hc3, hc4, hc5, hc6, s2⟩ := (s.at_ hm).own_open hl rfl
    injection hv with hA hn hcc
    injection hA with hA
    injection hA with hA
    subst hA; subst hcc; subst hn
    have hg := s2.cel_ (.head _)
    obtain ⟨cs, hcs⟩ : ∃ cs, css.flatten ++ sp = cs := ⟨_, rfl⟩
    rw [hcs] at hg s2
    have hsh : w.shape? g = some (E, cs.length) := by
      unfold World.shape?
      rw [hg]; simp
    have hf : w.freeze ⟨g, cs.length, none⟩ 1 = w.freeze ⟨g, cs.length, none⟩ 1 := rfl
    have hr : (convert t t (.slice (some ⟨g, 0, none⟩) l.length c)).run P w = .ok (.slice (some ⟨g, 0, none⟩) l.length c) (w.freeze ⟨g, cs.length, none⟩ 1) := by
      simp [convert, run_underlying ut.pf, run_underlying ue.pf, markStringish, hsh]
    have hh : (w.freeze ⟨g, cs.length, none⟩ 1).heap[g]? = some (.cells cs.toArray E (cs.length, cs.length + 1)) := by
      unfold World.freeze
      rw [if_neg (by decide)]
      simp [Array.getElem?_modify, hg]
    refine ⟨_, w.freeze ⟨g, cs.length, none⟩ 1, _, ?_, ⟨rfl, rfl⟩, ?_⟩
    · unfold execOp
      simp only [hx, Sem.run_bind, hr, Result.andThen_ok, Sem.run_pure]
    · have s3 := St.set_ (o' := .cells cs.toArray E (cs.length, cs.length + 1)) s2 ⟨by unfold World.freeze; rw [if_neg (by decide)], by unfold World.freeze; rw [if_neg (by decide)], by unfold World.freeze; rw [if_neg (by decide)], by unfold World.freeze; rw [if_neg (by decide)]; simp, fun k _ hk => by
        have hk : k ≠ g := fun h => hk (by rw [h])
        unfold World.freeze
        rw [if_neg (by decide)]
        simp [Array.getElem?_modify, hk, Ne.symm hk]⟩ hh
      have hall : All2 (eB.r (Hp.of (w.freeze ⟨g, cs.length, none⟩ 1))) l css := s3.im' (R := allI eB l css) (.tail _ (.head _))
      have hcss := all2_e1.1 hall
      refine St.back ?_ hm
      refine St.freeze (A := blk g (.cells cs.toArray E (cs.length, cs.length + 1))) (s3.weak fun m h hs => hs.skip fun b hb => hb.tail) ?_
      intro m h dj hA
      refine ⟨some ⟨g, 0, none⟩, c, css, rfl, hc1, all2_e1.2 hcss, .inr ⟨g, 0, cs.toArray, E, _, rfl, Hp.le_or_right dj _ _ hA, fun j u hj => ?_⟩⟩
      rw [Nat.zero_add]
      show cs.toArray[j]? = some u
      rw [← hcs]
      simp only [List.getElem?_toArray]
      rw [List.getElem?_append_left (List.getElem?_eq_some_iff.1 hj).1]
      exact hj
theorem made1 (z : Value) (n : Nat) : madeCells #[z] n = (List.replicate n z).toArray := by
  apply Array.ext
  · rw [size_madeCells]; simp
  · intro i h1 h2
    simp [madeCells, Nat.mod_one]
theorem dy_make {α : Type} {f : α → Value} {hf : ∀ a, (f a).oneCell' = true} (el : α) {e : TypeId} {zv : Value} {by_ n : Nat} {k1 k2 : IntKind} [ut : UL P t (.slice e)] [ti : TI P e zv 1 by_] (hz : f el = zv) (hx : a.eval x = .int k1 (n : Int)) (hy : a.eval y = .int k2 (n : Int)) (hb : by_ * n ≤ 281474976710656) (hn : n ≤ 1000000000) :
    DY P W0 L ⟨d, .makeSlice t x y, ty, pos, aft, gd⟩ a fun a' L' => ∃ g, a.put d (.slice (some ⟨g, 0, none⟩) n n) = a' ∧ L' = own e (e1 f hf) (.slice (some ⟨g, 0, none⟩) n n) (List.replicate n el) :: L :=
  dy_val fun w s => by
    obtain ⟨i, hi, hzz, hsz, hby⟩ := ti.pf
    have hz1 : zv.cells = #[zv] := by
      rw [← hz]
      have := hf el
      revert this
      generalize f el = v
      intro hv
      cases v <;> first | rfl | cases hv
    have hr := run_make_row (P := P) t e i zv ut.pf hi hzz hsz hz1 k1 k2 n (by rw [hby]; exact hb) (by omega) w
    refine ⟨_, w.alloc (.cells (madeCells #[zv] n) e), _, by unfold execOp; simp only [hx, hy, Sem.run_bind, hr, Result.andThen_ok, Sem.run_pure], ⟨w.heap.size, rfl, rfl⟩, ?_⟩
    refine (s.alloc (.cells (madeCells #[zv] n) e)).imp fun m h hh => ⟨(List.replicate n el).map fun b => [f b], all2_e1.2 rfl, .inr ⟨w.heap.size, n, madeCells #[zv] n, by rw [List.length_replicate], hh, by rw [List.length_replicate]; exact Nat.le_refl _, by unfold maxLen; omega, ?_, ?_⟩⟩
    · rw [size_madeCells]; show n = n * 1; rw [Nat.mul_one]
    · rw [flat_one, made1, List.length_replicate, hz.symm]
      show List.take (n * 1) (List.replicate n (f el)) = (List.replicate n el).map f
      rw [Nat.mul_one, List.map_replicate, List.take_of_length_le (by simp)]
theorem cutA0 {A : Option Addr} {c s : Nat} : cutA A c 0 s = A := by
  unfold cutA
  split
  · rfl
  · cases A with
    | none => rfl
    | some x => simp [Addr.add]
end
end Go.Proofs.Ytbjaecofccpahaa
