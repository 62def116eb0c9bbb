/-
  A map without entries is ranged over: the operations. No program.
-/
import Derived.Maps.RangeRun
import Derived.Laws.StructEq
import Derived.Test.YtnjjifikogblpaaMK
import Derived.Test.YtnjjifikogblpaaMN
import Derived.Test.YtnjjifikogblpaaME
namespace Go.Proofs.Ytnjjifikogblpaa
open Go Go.RowKit Go.Instr
set_option linter.unusedVariables false
set_option linter.unusedSimpArgs false
/-- block r is an iterator over the map in block b -/
def ito (r b : Nat) : HP := ⟨fun _ h => ∃ since seen c0, h r = some (.mapIter (some b) since seen c0) ∧ since ≤ c0, fun _ h => h⟩
section
variable {P : Program} {W0 w : World} {L S : List HP} {a : Act} {d : Option Tmp} {ty : TypeId} {pos : String} {aft : Array Edge} {gd : Option (Nat × Bool)}
theorem dy_range {α : Type} {R : MEnc α} {b : Nat} {l : List (Int × α)} {t kt et : TypeId} {x : Operand} [ut : UL P t (.map kt et)] (hm : mapo R b l ∈ L) (hx : a.eval x = .map (some b)) :
    DY P W0 L ⟨d, .range t x, ty, pos, aft, gd⟩ a fun a' L' => ∃ r, a.put d (.pointer (some ⟨r, 0, none⟩)) = a' ∧ L' = ito r b :: L :=
  dy_val fun w s => by
    obtain ⟨L0, hp⟩ := s.mem hm
    obtain ⟨es, clock, m, hb, h⟩ := (s.perm hp).map_
    refine ⟨_, w.alloc (.mapIter (some b) clock #[] clock), _, ?_, ⟨w.heap.size, rfl, rfl⟩, (s.alloc (.mapIter (some b) clock #[] clock)).imp fun m h hb => ⟨clock, #[], clock, hb, Nat.le_refl _⟩⟩
    unfold execOp
    simp [hx, run_range_map w t kt et b es clock ut.pf hb]
theorem St.ito_ {r b : Nat} (s : St W0 w (ito r b :: L)) : ∃ since seen c0, w.heap[r]? = some (.mapIter (some b) since seen c0) ∧ since ≤ c0 := by
  obtain ⟨m, a, _, ⟨since, seen, c0, h1, h2⟩, _, _, ha, _⟩ := s.lay
  exact ⟨since, seen, c0, ha _ _ h1, h2⟩
theorem sv_next0 {α : Type} {R : MEnc α} {r b : Nat} {x : Operand} (hi : ito r b ∈ S) (hm : mapo R b ([] : List (Int × α)) ∈ S) (hx : a.eval x = .pointer (some ⟨r, 0, none⟩)) :
    SV P W0 S ⟨d, .next x false, ty, pos, aft, gd⟩ a (.tuple #[.bool false]) := ⟨fun w s => by
  obtain ⟨L0, hp⟩ := s.mem hm
  obtain ⟨es, clock, m, hb, h⟩ := (s.perm hp).map_
  obtain ⟨L1, hp1⟩ := s.mem hi
  obtain ⟨since, seen, c0, hr, hsc⟩ := (s.perm hp1).ito_
  have he : es = #[] := by
    obtain ⟨l⟩ := es
    cases l with
    | nil => rfl
    | cons _ _ => exact h.elim
  subst he
  rcases run_next_at (P := P) w ty r b since c0 seen #[] clock hr hb (fun x hx => by cases hx) hsc with ⟨_, hrun⟩ | ⟨e, he, _⟩
  · unfold execOp
    simp [hx, hrun]
  · simp [leftOf] at he⟩
theorem sub_spnil : Sub L (sp [] :: L) := sub_close (Ls := [])
theorem sub_spcons {A : HP} {l : List HP} : Sub (sp (A :: l) :: L) (A :: sp l :: L) := fun m h s => by
  obtain ⟨a, b, d, ha, hb, ⟨a1, a2, d2, h1, h2, hA, hl⟩, hL⟩ := s
  have s2 : SepL m (A :: sp l :: L) h := ⟨a1, a2.or b, Hp.dj_or d2 (d.sub h1 (Hp.le_refl b)), h1.trans ha, Hp.or_le (h2.trans ha) hb, hA, a2, b, d.sub h2 (Hp.le_refl b), Hp.le_or_left a2 b, Hp.le_or_right (d.sub h2 (Hp.le_refl b)), hl, hL⟩
  exact s2
theorem sub_spsnoc {A : HP} {l : List HP} : Sub (A :: sp l :: L) (sp (l ++ [A]) :: L) := fun m h s => by
  have s1 : SepL m (sp l :: A :: L) h := s.swap
  have s2 := sub_open m h s1
  refine sub_close (Ls := l ++ [A]) m h ?_
  rw [List.append_assoc]
  exact s2
end
end Go.Proofs.Ytnjjifikogblpaa
namespace Go.Proofs.Ytnjjifikogblpaa
open Go Go.RowKit Go.Instr
set_option linter.unusedVariables false
set_option linter.unusedSimpArgs false
def unseen {α : Type} (seen : Array Nat) (l : List (Int × α)) (es : List MapEntry) : List (Int × α) := ((l.zip es).filter fun p => !seen.contains p.2.born).map Prod.fst
/-- block b is a map that holds l, block r an iterator over it that has yet to hand out rem; cur: what it handed out last -/
def iti {α : Type} (R : MEnc α) (r b : Nat) (l rem : List (Int × α)) (cur : Option (Int × α)) : HP :=
  ⟨fun m h => ∃ es clock since seen c0, h b = some (.map es clock) ∧ h r = some (.mapIter (some b) since seen c0) ∧ All2 (entM R m) l es.toList ∧ es.toList.Pairwise (fun x y => x.born < y.born) ∧ (∀ e ∈ es.toList, e.born < clock) ∧ (∀ e ∈ es.toList, e.born < since) ∧ since ≤ c0 ∧ since ≤ clock ∧ rem = unseen seen l es.toList ∧
      ∀ p, cur = some p → ∃ e seen0, e ∈ es.toList ∧ seen = Array.push seen0 e.born ∧ c0 = clock ∧ e.key = .int .i64 p.1 ∧ e.val = R.val p.2,
   fun hm ⟨es, clock, since, seen, c0, h1, h2, h3, h4⟩ => ⟨es, clock, since, seen, c0, h1, h2, h3.imp fun _ _ => entM.mono hm, h4⟩⟩
theorem unseen_all {α : Type} {R : α → MapEntry → Prop} : ∀ {l : List (Int × α)} {es : List MapEntry}, l.length = es.length → unseen #[] l es = l := by
  intro l es h
  unfold unseen
  rw [List.filter_eq_self.2 fun p _ => by simp]
  exact List.map_fst_zip (by omega)
theorem perm_one {β : Type} {f : β → Nat} : ∀ {F : List β} {x : β}, (F.map f).Nodup → x ∈ F → F.Perm (x :: F.filter fun y => decide (f y ≠ f x)) := by
  intro F x hn hx
  obtain ⟨s, t, rfl⟩ := List.append_of_mem hx
  rw [List.map_append, List.map_cons] at hn
  obtain ⟨g1, g2, g3⟩ := List.nodup_append.1 hn
  obtain ⟨g4, g5⟩ := List.nodup_cons.1 g2
  rw [List.filter_append, List.filter_cons_of_neg (by simp), List.filter_eq_self.2, List.filter_eq_self.2]
  · exact List.perm_middle
  · intro a ha
    exact decide_eq_true fun hk => g4 (List.mem_map.2 ⟨a, ha, hk⟩)
  · intro a ha
    exact decide_eq_true fun hk => g3 (f a) (List.mem_map.2 ⟨a, ha, rfl⟩) (f x) (.head _) hk
theorem All2.zip_mem {α β : Type} {R : α → β → Prop} : ∀ {l : List α} {k : List β} {p : α × β}, All2 R l k → p ∈ l.zip k → R p.1 p.2
  | [], _, _, _, h => by cases h
  | _ :: _, [], _, h, _ => h.elim
  | a :: l, b :: k, p, ⟨h, t⟩, hp => by
    rcases List.mem_cons.1 hp with rfl | hp
    · exact h
    · exact All2.zip_mem t hp
theorem All2.zip_snd {α β : Type} {R : α → β → Prop} : ∀ {l : List α} {k : List β} {b : β}, All2 R l k → b ∈ k → ∃ a, (a, b) ∈ l.zip k
  | [], [], _, _, h => by cases h
  | _ :: _, [], _, h, _ => h.elim
  | [], _ :: _, _, h, _ => h.elim
  | a :: l, b' :: k, b, ⟨h, t⟩, hp => by
    rcases List.mem_cons.1 hp with rfl | hp
    · exact ⟨a, .head _⟩
    · obtain ⟨a', ha⟩ := All2.zip_snd t hp
      exact ⟨a', .tail _ ha⟩
theorem unseen_step {α : Type} {R : MEnc α} {m : Hp} {l : List (Int × α)} {es : List MapEntry} {seen : Array Nat} {e : MapEntry} (h : All2 (entM R m) l es) (hb : es.Pairwise fun x y => x.born < y.born) (he : e ∈ es) (hs : ¬ e.born ∈ seen) :
    ∃ p, entM R m p e ∧ (unseen seen l es).Perm (p :: unseen (seen.push e.born) l es) := by
  obtain ⟨p, hp⟩ := h.zip_snd he
  refine ⟨p, h.zip_mem hp, ?_⟩
  have hF : (p, e) ∈ (l.zip es).filter fun q => !seen.contains q.2.born := List.mem_filter.2 ⟨hp, by simpa using hs⟩
  have hnd : ((((l.zip es).filter fun q => !seen.contains q.2.born).map fun q => q.2.born)).Nodup := by
    have h1 : ((l.zip es).map fun q => q.2.born) = es.map MapEntry.born := by
      have h9 := List.map_map (f := Prod.snd) (g := MapEntry.born) (l := l.zip es)
      rw [List.map_snd_zip (by rw [h.length]; exact Nat.le_refl _)] at h9
      exact h9.symm
    have h2 : (es.map MapEntry.born).Nodup := (List.pairwise_map.2 hb).imp fun h => by omega
    rw [← h1] at h2
    exact h2.sublist (List.filter_sublist.map _)
  have h3 := (perm_one (f := fun q : (Int × α) × MapEntry => q.2.born) hnd hF).map Prod.fst
  rw [List.map_cons] at h3
  unfold unseen
  rw [show (l.zip es).filter (fun q => !(seen.push e.born).contains q.2.born) = ((l.zip es).filter fun q => !seen.contains q.2.born).filter fun q => decide (q.2.born ≠ e.born) from ?_]
  · exact h3
  rw [List.filter_filter]
  refine List.filter_congr fun q _ => ?_
  by_cases hq : q.2.born = e.born
  · rw [hq]; simp
  · simp [hq]
section
variable {P : Program} {W0 w : World} {L S : List HP} {a : Act} {d : Option Tmp} {ty : TypeId} {pos : String} {aft : Array Edge} {gd : Option (Nat × Bool)}
theorem dy_iter {α : Type} {R : MEnc α} {b i : Nat} {l : List (Int × α)} {t kt et : TypeId} {x : Operand} [ut : UL P t (.map kt et)] (hm : L[i]? = some (mapo R b l)) (hx : a.eval x = .map (some b)) :
    DY P W0 L ⟨d, .range t x, ty, pos, aft, gd⟩ a fun a' L' => ∃ r, a.put d (.pointer (some ⟨r, 0, none⟩)) = a' ∧ L' = L.set i (iti R r b l l none) :=
  dy_val fun w s => by
    have s1 := s.at_ hm
    obtain ⟨m, a0, c, ⟨es, clock, g1, g2, g3, g4⟩, hL, hm1, ha, hc, dd, g⟩ := s1.lay
    have hb : w.heap[b]? = some (.map es clock) := ha _ _ g1
    refine ⟨_, w.alloc (.mapIter (some b) clock #[] clock), _, ?_, ⟨w.heap.size, rfl, rfl⟩, St.back ?_ hm⟩
    · unfold execOp
      simp [hx, run_range_map w t kt et b es clock ut.pf hb]
    have hlt : b < w.heap.size := (Array.getElem?_eq_some_iff.1 hb).1
    have hold : ∀ k, k < w.heap.size → (w.alloc (.mapIter (some b) clock #[] clock)).heap[k]? = w.heap[k]? := fun k hk => by
      show (w.heap.push _)[k]? = _
      rw [Array.getElem?_push_lt hk]
      exact (Array.getElem?_eq_getElem hk).symm
    refine g (a' := fun k => if k = w.heap.size then some (.mapIter (some b) clock #[] clock) else a0 k) rfl rfl rfl (by show _ ≤ (w.heap.push _).size; rw [Array.size_push]; omega) ⟨es, clock, clock, #[], clock, ?_, ?_, g2, g3, g4, g4, Nat.le_refl _, Nat.le_refl _, (unseen_all (R := fun _ _ => True) g2.length).symm, fun p hp => by cases hp⟩ ?_ ?_ hL
    · dsimp only
      rw [if_neg (by omega)]
      exact g1
    · dsimp only
      rw [if_pos rfl]
    · intro k o e
      show (w.heap.push _)[k]? = some o
      replace e : (if k = w.heap.size then some (Obj.mapIter (some b) clock #[] clock) else a0 k) = some o := e
      by_cases hk : k = w.heap.size
      · subst hk
        rw [if_pos rfl] at e
        rw [← e]
        exact Array.getElem?_push_size
      · rw [if_neg hk] at e
        have h1 : w.heap[k]? = some o := ha _ _ e
        have h2 := (Array.getElem?_eq_some_iff.1 h1).1
        have h3 := hold k h2
        exact h3.trans h1
    · intro k hk hn
      exact ⟨hold k hk, by rw [if_neg (by omega)]; exact hn⟩
theorem dy_next {α : Type} {R : MEnc α} {r b i : Nat} {l rem : List (Int × α)} {cur : Option (Int × α)} {x : Operand} (hi : L[i]? = some (iti R r b l rem cur)) (hx : a.eval x = .pointer (some ⟨r, 0, none⟩)) :
    DY P W0 L ⟨d, .next x false, ty, pos, aft, gd⟩ a fun a' L' => (rem = [] ∧ a.put d (.tuple #[.bool false]) = a' ∧ L' = L) ∨ ∃ p rem', rem.Perm (p :: rem') ∧ a.put d (.tuple #[.bool true, .int .i64 p.1, R.val p.2]) = a' ∧ L' = L.set i (iti R r b l rem' (some p)) :=
  dy_val fun w s => by
    have s1 := s.at_ hi
    obtain ⟨m, a0, c, ⟨es, clock, since, seen, c0, g1, g2, g3, g4, g5, g6, g7, g7', g8, g9⟩, hL, hm1, ha, hc, dd, g⟩ := s1.lay
    have hb : w.heap[b]? = some (.map es clock) := ha _ _ g1
    have hr : w.heap[r]? = some (.mapIter (some b) since seen c0) := ha _ _ g2
    rcases run_next_at (P := P) w ty r b since c0 seen es clock hr hb g6 g7 with ⟨h0, hrun⟩ | ⟨e, he, w1, hw1, hrun⟩
    · refine ⟨_, w, _, ?_, .inl ⟨?_, rfl, rfl⟩, s⟩
      · unfold execOp
        simp [hx, hrun]
      · rw [g8]
        unfold unseen
        rw [List.map_eq_nil_iff, List.filter_eq_nil_iff]
        intro q hq hqs
        have hmem : q.2 ∈ es.toList := List.of_mem_zip hq |>.2
        have h1 : q.2 ∈ (leftOf es seen).toList := by
          unfold leftOf
          rw [Array.toList_filter]
          exact List.mem_filter.2 ⟨hmem, hqs⟩
        have h2 := List.length_pos_of_mem h1
        rw [Array.length_toList] at h2
        omega
    · have he2 : e ∈ es.toList ∧ (!seen.contains e.born) = true := by
        unfold leftOf at he
        rw [Array.toList_filter] at he
        exact List.mem_filter.1 he
      have hns : ¬ e.born ∈ seen := by simpa using he2.2
      obtain ⟨p, hpe, hperm⟩ := unseen_step g3 g4 he2.1 hns
      refine ⟨.tuple #[.bool true, .int .i64 p.1, R.val p.2], ChangeMaps.setBlock w1 r (.mapIter (some b) since (seen.push e.born) clock), L.set i (iti R r b l (unseen (seen.push e.born) l es.toList) (some p)), ?_, .inr ⟨p, unseen (seen.push e.born) l es.toList, by rw [g8]; exact hperm, rfl, rfl⟩, St.back ?_ hi⟩
      · unfold execOp
        simp [hx, hrun, hpe.1, hpe.2.1]
      have hrne : r ≠ b := fun h => by
        subst h
        rw [hr] at hb
        cases hb
      have hlt : r < w.heap.size := (Array.getElem?_eq_some_iff.1 hr).1
      have hheap : w1.heap = w.heap := by rcases hw1 with rfl | rfl <;> rfl
      refine g (a' := fun k => if k = r then some (.mapIter (some b) since (seen.push e.born) clock) else a0 k) (by rcases hw1 with rfl | rfl <;> rfl) (by rcases hw1 with rfl | rfl <;> rfl) (by rcases hw1 with rfl | rfl <;> rfl) (by show _ ≤ (w1.heap.setIfInBounds _ _).size; rw [hheap]; simp) ⟨es, clock, since, seen.push e.born, clock, ?_, ?_, g3, g4, g5, g6, g7', g7', rfl, ?_⟩ ?_ ?_ hL
      · dsimp only
        rw [if_neg (fun h => hrne h.symm)]
        exact g1
      · dsimp only
        rw [if_pos rfl]
      · intro p' hp'
        injection hp' with hp'
        subst hp'
        exact ⟨e, seen, he2.1, rfl, rfl, hpe.1, hpe.2.1⟩
      · intro k o hk
        show (w1.heap.setIfInBounds _ _)[k]? = some o
        rw [hheap]
        replace hk : (if k = r then some (Obj.mapIter (some b) since (seen.push e.born) clock) else a0 k) = some o := hk
        by_cases hkr : k = r
        · subst hkr
          rw [if_pos rfl] at hk
          rw [Array.getElem?_setIfInBounds_self_of_lt hlt]
          exact hk
        · rw [if_neg hkr] at hk
          rw [Array.getElem?_setIfInBounds_ne (fun h => hkr h.symm)]
          exact ha _ _ hk
      · intro k hk hn
        have hne : k ≠ r := by
          intro h
          subst h
          rw [hn] at g2
          cases g2
        exact ⟨by show (w1.heap.setIfInBounds _ _)[k]? = _; rw [hheap]; exact Array.getElem?_setIfInBounds_ne (fun h => hne h.symm), by rw [if_neg hne]; exact hn⟩
theorem sv_entry {α : Type} {R : MEnc α} {r b : Nat} {l rem : List (Int × α)} {p : Int × α} {x : Operand} (hi : iti R r b l rem (some p) ∈ S) (hx : a.eval x = .pointer (some ⟨r, 0, none⟩)) :
    SV P W0 S ⟨d, .entry x, ty, pos, aft, gd⟩ a (.tuple #[.int .i64 p.1, R.val p.2]) := ⟨fun w s => by
  obtain ⟨L1, hp1⟩ := s.mem hi
  obtain ⟨m, a0, c, ⟨es, clock, since, seen, c0, g1, g2, g3, g4, g5, g6, g7, g7', g8, g9⟩, hL, hm1, ha, hc, dd, g⟩ := (s.perm hp1).lay
  obtain ⟨e, seen0, he, rfl, rfl, hk, hv⟩ := g9 p rfl
  have hb : w.heap[b]? = some (.map es c0) := ha _ _ g1
  have hr : w.heap[r]? = some (.mapIter (some b) since (seen0.push e.born) c0) := ha _ _ g2
  have hn : (es.toList.map (·.born)).Nodup := (List.pairwise_map.2 g4).imp fun h => by omega
  have hrun := run_entry_at (P := P) w r b since seen0 es c0 e hr hb he hn
  unfold execOp
  simp [hx, hrun, hk, hv]⟩
theorem sub_iti {α : Type} {R : MEnc α} {r b : Nat} {l rem : List (Int × α)} {cur : Option (Int × α)} : Sub (iti R r b l rem cur :: L) (mapo R b l :: L) := by
  rintro m h ⟨a, c, d, ha, hc, ⟨es, clock, since, seen, c0, g1, g2, g3, g4, g5, g6, g7, g7', g8, g9⟩, hL⟩
  exact ⟨a, c, d, ha, hc, ⟨es, clock, g1, g3, g4, g5⟩, hL⟩
end
end Go.Proofs.Ytnjjifikogblpaa
namespace Go.Proofs.Ytnjjifikogblpaa
open Go Go.RowKit
set_option linter.unusedVariables false
set_option linter.unusedSimpArgs false
set_option maxRecDepth 20000
set_option synthInstance.maxSize 100000
set_option synthInstance.maxHeartbeats 400000
abbrev itV (x : IT) : Value := .agg #[.int .i64 x.b.x0, .int .i64 x.b.y0, .int .i64 x.b.x1, .int .i64 x.b.y1, .int .i64 x.f, .int .i64 x.t]
def mIT : MEnc IT := ⟨itV, fun _ => ⟨fun _ => True, fun _ h => h⟩⟩
def QT.val : QT → Value
  | .nil => .pointer none
  | .nd p _ _ _ _ _ _ => .pointer (some ⟨p, 0, none⟩)
abbrev ndC (p m : Nat) (k0 k1 k2 k3 : QT) : HP := cel p [k0.val, k1.val, k2.val, k3.val, .map (some m)] 78
instance {t : QT} : OneI t.val := ⟨by cases t <;> rfl⟩
/-- a tree in memory -/
def qta : QT → HP
  | .nil => sp []
  | .nd p m mm k0 k1 k2 k3 => sp [ndC p m k0 k1 k2 k3, mapo mIT m mm, qta k0, qta k1, qta k2, qta k3]
section
variable {W0 : World} {L : List HP}
theorem qta_open {p m : Nat} {mm : List Ent} {k0 k1 k2 k3 : QT} : Sub (qta (.nd p m mm k0 k1 k2 k3) :: L) (ndC p m k0 k1 k2 k3 :: mapo mIT m mm :: qta k0 :: qta k1 :: qta k2 :: qta k3 :: L) := sub_open (Ls := [ndC p m k0 k1 k2 k3, mapo mIT m mm, qta k0, qta k1, qta k2, qta k3])
theorem qta_close {p m : Nat} {mm : List Ent} {k0 k1 k2 k3 : QT} : Sub (ndC p m k0 k1 k2 k3 :: mapo mIT m mm :: qta k0 :: qta k1 :: qta k2 :: qta k3 :: L) (qta (.nd p m mm k0 k1 k2 k3) :: L) := sub_close (Ls := [ndC p m k0 k1 k2 k3, mapo mIT m mm, qta k0, qta k1, qta k2, qta k3])
theorem qta_nil : Sub L (qta .nil :: L) := sub_spnil
/-- what putting needs -/
structure PutH (n : Nat) (E : List Ent) (e : Ent) : Prop where
  g : e.2.b.good
  l : lvB e.2.b ≤ n
  n : n ≤ 32
  f : ∀ a ∈ E, a.1 ≠ e.1
/-- put, given it for the level below -/
def PutT (W0 : World) (d : Nat) : Prop := ∀ (n : Nat) (t : QT) (E : List Ent) (e : Ent) (L : List HP), QOk t n E → PutH n E e → lvB e.2.b + d = n →
    CT Try.prog 42 #[t.val, .int .i64 (n : Int), bkV (lvB e.2.b) (X0 e.2.b / 2 ^ lvB e.2.b) (Y0 e.2.b / 2 ^ lvB e.2.b), .int .i64 e.1, itV e.2] W0 (qta t :: L) fun r L' => ∃ t', QOk t' n (E ++ [e]) ∧ r = t'.val ∧ L' = qta t' :: L
set_option maxHeartbeats 4000000 in
theorem put_step {d : Nat} (ih : ∀ d', d' + 1 = d → PutT W0 d') {n : Nat} {t : QT} {E : List Ent} {e : Ent} {L : List HP} (ht : QOk t n E) (hp : PutH n E e) (hd : lvB e.2.b + d = n) :
    CT Try.prog 42 #[t.val, .int .i64 (n : Int), bkV (lvB e.2.b) (X0 e.2.b / 2 ^ lvB e.2.b) (Y0 e.2.b / 2 ^ lvB e.2.b), .int .i64 e.1, itV e.2] W0 (qta t :: L) fun r L' => ∃ t', QOk t' n (E ++ [e]) ∧ r = t'.val ∧ L' = qta t' :: L := by
  obtain ⟨hg, hl, hn, hfr⟩ := hp
  obtain ⟨v, hv⟩ : ∃ v, t.val = v := ⟨_, rfl⟩
  rw [hv]
  refine CT_enter Try.func42 rfl ?_; (simp only [Try.ntmps42, List.size_toArray, List.length_cons, List.length_nil, Nat.reduceAdd, Nat.reduceSub, Array.replicate_succ, Array.replicate_zero, List.push_toArray, List.append_toArray, List.nil_append, List.cons_append])
  repeat' (first | ((fail_if_success apply AtE); refine go ?_) | intro _ | (apply cG; first | refine cT ?_ | refine cF ?_ | refine cS (fun _ => ?_) fun _ => ?_) | (apply gW; refine sW ?_) | (apply gI; refine sI ?_) | (apply gE; refine sE ?_) | (apply gP; refine sP ?_) | (apply gC; refine sC ?_) | (apply gD; refine sD ?_) | fail)
  rename_i pb px
  refine go ?_
  refine go ?_
  refine C_joinL (κ := Nat × Nat × List Ent × QT × QT × QT × QT) (fun k => ndC k.1 k.2.1 k.2.2.2.1 k.2.2.2.2.1 k.2.2.2.2.2.1 k.2.2.2.2.2.2 :: mapo mIT k.2.1 k.2.2.1 :: qta k.2.2.2.1 :: qta k.2.2.2.2.1 :: qta k.2.2.2.2.2.1 :: qta k.2.2.2.2.2.2 :: cel px [.int .i64 e.2.b.x0, .int .i64 e.2.b.y0, .int .i64 e.2.b.x1, .int .i64 e.2.b.y1, .int .i64 e.2.f, .int .i64 e.2.t] 80 :: cel pb [.int .i64 (lvB e.2.b : Int), .int .i64 ((X0 e.2.b / 2 ^ lvB e.2.b : Nat) : Int), .int .i64 ((Y0 e.2.b / 2 ^ lvB e.2.b : Nat) : Int)] 74 :: L) [true, false, false, false, false, false, false, false, false, false, false, false, true, true, true, true, true, false, false, false, false, false, false, false, false, false, false, false, false, false, false, false, false, false, false, false, false, false, false, false, false, false, false, false, false, false, false, false, false] (fun k => [(0, .pointer (some ⟨k.1, 0, none⟩))]) (fun k => QPre k.2.2.1 k.2.2.2.1 k.2.2.2.2.1 k.2.2.2.2.2.1 k.2.2.2.2.2.2 n E) ?_ ?_
  · cases t with
    | nil =>
      obtain rfl : .pointer none = v := hv
      have hE : E = [] := ht
      subst hE
      repeat' (first | refine go ?_ | intro _ | (apply cG; first | refine cT ?_ | refine cF ?_ | refine cS (fun _ => ?_) fun _ => ?_) | (apply gW; refine sW ?_) | (apply gI; refine sI ?_) | (apply gE; refine sE ?_) | (apply gP; refine sP ?_) | (apply gC; refine sC ?_) | (apply gD; refine sD ?_) | fail)
      refine O_d (dy_mkmap mIT) ?_; rintro _ _ ⟨m, rfl, rfl⟩; refine O_n ?_
      repeat' (first | refine go ?_ | intro _ | (apply cG; first | refine cT ?_ | refine cF ?_ | refine cS (fun _ => ?_) fun _ => ?_) | (apply gW; refine sW ?_) | (apply gI; refine sI ?_) | (apply gE; refine sE ?_) | (apply gP; refine sP ?_) | (apply gC; refine sC ?_) | (apply gD; refine sD ?_) | fail)
      rename_i p
      refine E_join (p, m, [], .nil, .nil, .nil, .nil) (QPre.nil n) ⟨rfl, trivial⟩ ?_
      exact Sub.trans qta_nil (Sub.trans qta_nil (Sub.trans qta_nil (Sub.trans qta_nil Sb)))
    | nd p m mm k0 k1 k2 k3 =>
      obtain rfl : .pointer (some ⟨p, 0, none⟩) = v := hv
      repeat' (first | refine go ?_ | intro _ | (apply cG; first | refine cT ?_ | refine cF ?_ | refine cS (fun _ => ?_) fun _ => ?_) | (apply gW; refine sW ?_) | (apply gI; refine sI ?_) | (apply gE; refine sE ?_) | (apply gP; refine sP ?_) | (apply gC; refine sC ?_) | (apply gD; refine sD ?_) | fail)
      refine E_join (p, m, mm, k0, k1, k2, k3) ht.pre ⟨rfl, trivial⟩ ?_
      exact Sub.trans (B := qta (.nd p m mm k0 k1 k2 k3) :: cel px [.int .i64 e.2.b.x0, .int .i64 e.2.b.y0, .int .i64 e.2.b.x1, .int .i64 e.2.b.y1, .int .i64 e.2.f, .int .i64 e.2.t] 80 :: cel pb [.int .i64 (lvB e.2.b : Int), .int .i64 ((X0 e.2.b / 2 ^ lvB e.2.b : Nat) : Int), .int .i64 ((Y0 e.2.b / 2 ^ lvB e.2.b : Nat) : Int)] 74 :: L) Sb qta_open
  rintro ⟨p, m, mm, k0, k1, k2, k3⟩ u1 hpre
  dsimp only at hpre
  dsimp only
  ((try dsimp only); refine C_n ?_; (try simp only [Nat.reduceAdd, Nat.zero_add]))
  have hmf : posM e.1 mm 0 = none := posM_none.2 fun a ha => hfr a (List.mem_filter.1 (hpre.mm.mem_iff.1 ha)).1
  by_cases hd0 : d = 0
  · subst hd0
    repeat' (first | refine go ?_ | intro _ | (apply cG; first | refine cT ?_ | refine cF ?_ | refine cS (fun _ => ?_) fun _ => ?_) | (apply gW; refine sW ?_) | (apply gI; refine sI ?_) | (apply gE; refine sE ?_) | (apply gP; refine sP ?_) | (apply gC; refine sC ?_) | (apply gD; refine sD ?_) | fail)
    refine C_draw (n := 6) [cel p [k0.val, k1.val, k2.val, k3.val, .map (some m)] 78, cel px [.int .i64 e.2.b.x0, .int .i64 e.2.b.y0, .int .i64 e.2.b.x1, .int .i64 e.2.b.y1, .int .i64 e.2.f, .int .i64 e.2.t] 80] [(0, 1), (1, 1), (2, 1), (3, 1), (4, 1), (5, 1), (6, 0)] (by kernel_rfl) (by kernel_rfl) Sb ?_
    repeat' (first | refine go ?_ | intro _ | (apply cG; first | refine cT ?_ | refine cF ?_ | refine cS (fun _ => ?_) fun _ => ?_) | (apply gW; refine sW ?_) | (apply gI; refine sI ?_) | (apply gE; refine sE ?_) | (apply gP; refine sP ?_) | (apply gC; refine sC ?_) | (apply gD; refine sD ?_) | fail)
    refine D_op rfl ?_; refine X_d (dy_put (R := mIT) (i := 1) e.2 rfl Ev.pf Ev.pf Ev.pf rfl (fun _ _ _ => trivial)) ?_; rintro _ _ ⟨rfl, hLL⟩; replace hLL := hLL.trans SAt.pf; subst hLL; refine ⟨(by first | exact .inl rfl | exact .inr Sb), D_n ?_⟩
    repeat' (first | refine go ?_ | intro _ | (apply cG; first | refine cT ?_ | refine cF ?_ | refine cS (fun _ => ?_) fun _ => ?_) | (apply gW; refine sW ?_) | (apply gI; refine sI ?_) | (apply gE; refine sE ?_) | (apply gP; refine sP ?_) | (apply gC; refine sC ?_) | (apply gD; refine sD ?_) | fail)
    rw [putM_new (by unfold getM; rw [hmf]; rfl)]
    refine E_res1 (by rfl) (by rfl) ⟨.nd p m (mm ++ [(e.1, e.2)]) k0 k1 k2 k3, hpre.here (e := e) hd, rfl, rfl⟩ ?_
    exact Sub.trans (B := ndC p m k0 k1 k2 k3 :: mapo mIT m (mm ++ [(e.1, e.2)]) :: qta k0 :: qta k1 :: qta k2 :: qta k3 :: L) Sb qta_close
  obtain ⟨d', rfl⟩ : ∃ d', d = d' + 1 := ⟨d - 1, by omega⟩
  have IH := ih d' rfl
  obtain ⟨n', rfl⟩ : ∃ n', n = n' + 1 := ⟨n - 1, by omega⟩
  have hq4 := qB_lt e.2.b (n' + 1)
  have hn1 : ((n' + 1 : Nat) : Int) - 1 = (n' : Int) := by omega
  repeat' (first | refine go ?_ | intro _ | (apply cG; first | refine cT ?_ | refine cF ?_ | refine cS (fun _ => ?_) fun _ => ?_) | (apply gW; refine sW ?_) | (apply gI; refine sI ?_) | (apply gE; refine sE ?_) | (apply gP; refine sP ?_) | (apply gC; refine sC ?_) | (apply gD; refine sD ?_) | fail)
  refine O_d (dy_call ArgsI.pf (by first | exact rfl | trivial | (intro a b; rfl)) (quarter_ct (n := n' + 1) hg (by omega) hn)) ?_; rintro _ _ ⟨_, ⟨rfl, hLL⟩, rfl⟩; replace hLL := hLL.symm; subst hLL; refine O_n ?_
  obtain ⟨q, hq⟩ : ∃ q, qB e.2.b (n' + 1) = q := ⟨_, rfl⟩
  rw [hq] at hq4 ⊢
  rcases (show q = 0 ∨ q = 1 ∨ q = 2 ∨ q = 3 by omega) with rfl | rfl | rfl | rfl
  · repeat' (first | refine go ?_ | intro _ | (apply cG; first | refine cT ?_ | refine cF ?_ | refine cS (fun _ => ?_) fun _ => ?_) | (apply gW; refine sW ?_) | (apply gI; refine sI ?_) | (apply gE; refine sE ?_) | (apply gP; refine sP ?_) | (apply gC; refine sC ?_) | (apply gD; refine sD ?_) | fail)
    refine C_draw (n := 17) [cel p [k0.val, k1.val, k2.val, k3.val, .map (some m)] 78, cel px [.int .i64 e.2.b.x0, .int .i64 e.2.b.y0, .int .i64 e.2.b.x1, .int .i64 e.2.b.y1, .int .i64 e.2.f, .int .i64 e.2.t] 80, cel pb [.int .i64 (lvB e.2.b : Int), .int .i64 ((X0 e.2.b / 2 ^ lvB e.2.b : Nat) : Int), .int .i64 ((Y0 e.2.b / 2 ^ lvB e.2.b : Nat) : Int)] 74] [(0, 1), (1, 1), (2, 1), (3, 1), (4, 1), (5, 1), (6, 1), (7, 1), (8, 1), (9, 1), (10, 1), (11, 1), (12, 1), (14, 1), (15, 1), (13, 0), (16, 1), (17, 0)] (by kernel_rfl) (by kernel_rfl) Sb ?_
    repeat' (first | refine go ?_ | intro _ | (apply cG; first | refine cT ?_ | refine cF ?_ | refine cS (fun _ => ?_) fun _ => ?_) | (apply gW; refine sW ?_) | (apply gI; refine sI ?_) | (apply gE; refine sE ?_) | (apply gP; refine sP ?_) | (apply gC; refine sC ?_) | (apply gD; refine sD ?_) | fail)
    refine D_op rfl ?_; refine X_s (sv_idxA (e := 65) (len := 4) (size := 1) (k := .i64) (i := ((0 : Nat) : Int)) (off := 0) (o2 := 0) (by kernel_rfl) (fun w => by kernel_rfl) Ev.pf Ev.pf (by decide) (by decide) (by decide)) ?_
    repeat' (first | refine go ?_ | intro _ | (apply cG; first | refine cT ?_ | refine cF ?_ | refine cS (fun _ => ?_) fun _ => ?_) | (apply gW; refine sW ?_) | (apply gI; refine sI ?_) | (apply gE; refine sE ?_) | (apply gP; refine sP ?_) | (apply gC; refine sC ?_) | (apply gD; refine sD ?_) | fail)
    rw [hn1]
    refine D_op rfl ?_; refine X_d (dy_call ArgsI.pf (by first | exact rfl | trivial | (intro a b; rfl)) (CT.pull (i := 2) (by rfl) (IH n' k0 (E.filter (inQ (n' + 1) 0)) e _ hpre.a ⟨hg, by omega, by omega, fun a ha => hfr a (List.mem_filter.1 ha).1⟩ (by omega)))) ?_; rintro _ _ ⟨_, ⟨t', ht', rfl, rfl⟩, rfl⟩; refine ⟨(by first | exact .inl rfl | exact .inr Sb), D_n ?_⟩
    repeat' (first | refine go ?_ | intro _ | (apply cG; first | refine cT ?_ | refine cF ?_ | refine cS (fun _ => ?_) fun _ => ?_) | (apply gW; refine sW ?_) | (apply gI; refine sI ?_) | (apply gE; refine sE ?_) | (apply gP; refine sP ?_) | (apply gC; refine sC ?_) | (apply gD; refine sD ?_) | fail)
    refine D_op rfl ?_; refine X_s (sv_idxA (e := 65) (len := 4) (size := 1) (k := .i64) (i := ((0 : Nat) : Int)) (off := 0) (o2 := 0) (by kernel_rfl) (fun w => by kernel_rfl) Ev.pf Ev.pf (by decide) (by decide) (by decide)) ?_
    repeat' (first | refine go ?_ | intro _ | (apply cG; first | refine cT ?_ | refine cF ?_ | refine cS (fun _ => ?_) fun _ => ?_) | (apply gW; refine sW ?_) | (apply gI; refine sI ?_) | (apply gE; refine sE ?_) | (apply gP; refine sP ?_) | (apply gC; refine sC ?_) | (apply gD; refine sD ?_) | fail)
    refine E_res1 (by rfl) (by rfl) ⟨.nd p m mm t' k1 k2 k3, hpre.kid (e := e) (q := 0) (by omega) hq ht' rfl rfl rfl, rfl, rfl⟩ ?_
    exact Sub.trans (B := ndC p m t' k1 k2 k3 :: mapo mIT m mm :: qta t' :: qta k1 :: qta k2 :: qta k3 :: L) Sb qta_close
  · repeat' (first | refine go ?_ | intro _ | (apply cG; first | refine cT ?_ | refine cF ?_ | refine cS (fun _ => ?_) fun _ => ?_) | (apply gW; refine sW ?_) | (apply gI; refine sI ?_) | (apply gE; refine sE ?_) | (apply gP; refine sP ?_) | (apply gC; refine sC ?_) | (apply gD; refine sD ?_) | fail)
    refine C_draw (n := 17) [cel p [k0.val, k1.val, k2.val, k3.val, .map (some m)] 78, cel px [.int .i64 e.2.b.x0, .int .i64 e.2.b.y0, .int .i64 e.2.b.x1, .int .i64 e.2.b.y1, .int .i64 e.2.f, .int .i64 e.2.t] 80, cel pb [.int .i64 (lvB e.2.b : Int), .int .i64 ((X0 e.2.b / 2 ^ lvB e.2.b : Nat) : Int), .int .i64 ((Y0 e.2.b / 2 ^ lvB e.2.b : Nat) : Int)] 74] [(0, 1), (1, 1), (2, 1), (3, 1), (4, 1), (5, 1), (6, 1), (7, 1), (8, 1), (9, 1), (10, 1), (11, 1), (12, 1), (14, 1), (15, 1), (13, 0), (16, 1), (17, 0)] (by kernel_rfl) (by kernel_rfl) Sb ?_
    repeat' (first | refine go ?_ | intro _ | (apply cG; first | refine cT ?_ | refine cF ?_ | refine cS (fun _ => ?_) fun _ => ?_) | (apply gW; refine sW ?_) | (apply gI; refine sI ?_) | (apply gE; refine sE ?_) | (apply gP; refine sP ?_) | (apply gC; refine sC ?_) | (apply gD; refine sD ?_) | fail)
    refine D_op rfl ?_; refine X_s (sv_idxA (e := 65) (len := 4) (size := 1) (k := .i64) (i := ((1 : Nat) : Int)) (off := 0) (o2 := 1) (by kernel_rfl) (fun w => by kernel_rfl) Ev.pf Ev.pf (by decide) (by decide) (by decide)) ?_
    repeat' (first | refine go ?_ | intro _ | (apply cG; first | refine cT ?_ | refine cF ?_ | refine cS (fun _ => ?_) fun _ => ?_) | (apply gW; refine sW ?_) | (apply gI; refine sI ?_) | (apply gE; refine sE ?_) | (apply gP; refine sP ?_) | (apply gC; refine sC ?_) | (apply gD; refine sD ?_) | fail)
    rw [hn1]
    refine D_op rfl ?_; refine X_d (dy_call ArgsI.pf (by first | exact rfl | trivial | (intro a b; rfl)) (CT.pull (i := 3) (by rfl) (IH n' k1 (E.filter (inQ (n' + 1) 1)) e _ hpre.b ⟨hg, by omega, by omega, fun a ha => hfr a (List.mem_filter.1 ha).1⟩ (by omega)))) ?_; rintro _ _ ⟨_, ⟨t', ht', rfl, rfl⟩, rfl⟩; refine ⟨(by first | exact .inl rfl | exact .inr Sb), D_n ?_⟩
    repeat' (first | refine go ?_ | intro _ | (apply cG; first | refine cT ?_ | refine cF ?_ | refine cS (fun _ => ?_) fun _ => ?_) | (apply gW; refine sW ?_) | (apply gI; refine sI ?_) | (apply gE; refine sE ?_) | (apply gP; refine sP ?_) | (apply gC; refine sC ?_) | (apply gD; refine sD ?_) | fail)
    refine D_op rfl ?_; refine X_s (sv_idxA (e := 65) (len := 4) (size := 1) (k := .i64) (i := ((1 : Nat) : Int)) (off := 0) (o2 := 1) (by kernel_rfl) (fun w => by kernel_rfl) Ev.pf Ev.pf (by decide) (by decide) (by decide)) ?_
    repeat' (first | refine go ?_ | intro _ | (apply cG; first | refine cT ?_ | refine cF ?_ | refine cS (fun _ => ?_) fun _ => ?_) | (apply gW; refine sW ?_) | (apply gI; refine sI ?_) | (apply gE; refine sE ?_) | (apply gP; refine sP ?_) | (apply gC; refine sC ?_) | (apply gD; refine sD ?_) | fail)
    refine E_res1 (by rfl) (by rfl) ⟨.nd p m mm k0 t' k2 k3, hpre.kid (e := e) (q := 1) (by omega) hq rfl ht' rfl rfl, rfl, rfl⟩ ?_
    exact Sub.trans (B := ndC p m k0 t' k2 k3 :: mapo mIT m mm :: qta k0 :: qta t' :: qta k2 :: qta k3 :: L) Sb qta_close
  · repeat' (first | refine go ?_ | intro _ | (apply cG; first | refine cT ?_ | refine cF ?_ | refine cS (fun _ => ?_) fun _ => ?_) | (apply gW; refine sW ?_) | (apply gI; refine sI ?_) | (apply gE; refine sE ?_) | (apply gP; refine sP ?_) | (apply gC; refine sC ?_) | (apply gD; refine sD ?_) | fail)
    refine C_draw (n := 17) [cel p [k0.val, k1.val, k2.val, k3.val, .map (some m)] 78, cel px [.int .i64 e.2.b.x0, .int .i64 e.2.b.y0, .int .i64 e.2.b.x1, .int .i64 e.2.b.y1, .int .i64 e.2.f, .int .i64 e.2.t] 80, cel pb [.int .i64 (lvB e.2.b : Int), .int .i64 ((X0 e.2.b / 2 ^ lvB e.2.b : Nat) : Int), .int .i64 ((Y0 e.2.b / 2 ^ lvB e.2.b : Nat) : Int)] 74] [(0, 1), (1, 1), (2, 1), (3, 1), (4, 1), (5, 1), (6, 1), (7, 1), (8, 1), (9, 1), (10, 1), (11, 1), (12, 1), (14, 1), (15, 1), (13, 0), (16, 1), (17, 0)] (by kernel_rfl) (by kernel_rfl) Sb ?_
    repeat' (first | refine go ?_ | intro _ | (apply cG; first | refine cT ?_ | refine cF ?_ | refine cS (fun _ => ?_) fun _ => ?_) | (apply gW; refine sW ?_) | (apply gI; refine sI ?_) | (apply gE; refine sE ?_) | (apply gP; refine sP ?_) | (apply gC; refine sC ?_) | (apply gD; refine sD ?_) | fail)
    refine D_op rfl ?_; refine X_s (sv_idxA (e := 65) (len := 4) (size := 1) (k := .i64) (i := ((2 : Nat) : Int)) (off := 0) (o2 := 2) (by kernel_rfl) (fun w => by kernel_rfl) Ev.pf Ev.pf (by decide) (by decide) (by decide)) ?_
    repeat' (first | refine go ?_ | intro _ | (apply cG; first | refine cT ?_ | refine cF ?_ | refine cS (fun _ => ?_) fun _ => ?_) | (apply gW; refine sW ?_) | (apply gI; refine sI ?_) | (apply gE; refine sE ?_) | (apply gP; refine sP ?_) | (apply gC; refine sC ?_) | (apply gD; refine sD ?_) | fail)
    rw [hn1]
    refine D_op rfl ?_; refine X_d (dy_call ArgsI.pf (by first | exact rfl | trivial | (intro a b; rfl)) (CT.pull (i := 4) (by rfl) (IH n' k2 (E.filter (inQ (n' + 1) 2)) e _ hpre.c ⟨hg, by omega, by omega, fun a ha => hfr a (List.mem_filter.1 ha).1⟩ (by omega)))) ?_; rintro _ _ ⟨_, ⟨t', ht', rfl, rfl⟩, rfl⟩; refine ⟨(by first | exact .inl rfl | exact .inr Sb), D_n ?_⟩
    repeat' (first | refine go ?_ | intro _ | (apply cG; first | refine cT ?_ | refine cF ?_ | refine cS (fun _ => ?_) fun _ => ?_) | (apply gW; refine sW ?_) | (apply gI; refine sI ?_) | (apply gE; refine sE ?_) | (apply gP; refine sP ?_) | (apply gC; refine sC ?_) | (apply gD; refine sD ?_) | fail)
    refine D_op rfl ?_; refine X_s (sv_idxA (e := 65) (len := 4) (size := 1) (k := .i64) (i := ((2 : Nat) : Int)) (off := 0) (o2 := 2) (by kernel_rfl) (fun w => by kernel_rfl) Ev.pf Ev.pf (by decide) (by decide) (by decide)) ?_
    repeat' (first | refine go ?_ | intro _ | (apply cG; first | refine cT ?_ | refine cF ?_ | refine cS (fun _ => ?_) fun _ => ?_) | (apply gW; refine sW ?_) | (apply gI; refine sI ?_) | (apply gE; refine sE ?_) | (apply gP; refine sP ?_) | (apply gC; refine sC ?_) | (apply gD; refine sD ?_) | fail)
    refine E_res1 (by rfl) (by rfl) ⟨.nd p m mm k0 k1 t' k3, hpre.kid (e := e) (q := 2) (by omega) hq rfl rfl ht' rfl, rfl, rfl⟩ ?_
    exact Sub.trans (B := ndC p m k0 k1 t' k3 :: mapo mIT m mm :: qta k0 :: qta k1 :: qta t' :: qta k3 :: L) Sb qta_close
  · repeat' (first | refine go ?_ | intro _ | (apply cG; first | refine cT ?_ | refine cF ?_ | refine cS (fun _ => ?_) fun _ => ?_) | (apply gW; refine sW ?_) | (apply gI; refine sI ?_) | (apply gE; refine sE ?_) | (apply gP; refine sP ?_) | (apply gC; refine sC ?_) | (apply gD; refine sD ?_) | fail)
    refine C_draw (n := 17) [cel p [k0.val, k1.val, k2.val, k3.val, .map (some m)] 78, cel px [.int .i64 e.2.b.x0, .int .i64 e.2.b.y0, .int .i64 e.2.b.x1, .int .i64 e.2.b.y1, .int .i64 e.2.f, .int .i64 e.2.t] 80, cel pb [.int .i64 (lvB e.2.b : Int), .int .i64 ((X0 e.2.b / 2 ^ lvB e.2.b : Nat) : Int), .int .i64 ((Y0 e.2.b / 2 ^ lvB e.2.b : Nat) : Int)] 74] [(0, 1), (1, 1), (2, 1), (3, 1), (4, 1), (5, 1), (6, 1), (7, 1), (8, 1), (9, 1), (10, 1), (11, 1), (12, 1), (14, 1), (15, 1), (13, 0), (16, 1), (17, 0)] (by kernel_rfl) (by kernel_rfl) Sb ?_
    repeat' (first | refine go ?_ | intro _ | (apply cG; first | refine cT ?_ | refine cF ?_ | refine cS (fun _ => ?_) fun _ => ?_) | (apply gW; refine sW ?_) | (apply gI; refine sI ?_) | (apply gE; refine sE ?_) | (apply gP; refine sP ?_) | (apply gC; refine sC ?_) | (apply gD; refine sD ?_) | fail)
    refine D_op rfl ?_; refine X_s (sv_idxA (e := 65) (len := 4) (size := 1) (k := .i64) (i := ((3 : Nat) : Int)) (off := 0) (o2 := 3) (by kernel_rfl) (fun w => by kernel_rfl) Ev.pf Ev.pf (by decide) (by decide) (by decide)) ?_
    repeat' (first | refine go ?_ | intro _ | (apply cG; first | refine cT ?_ | refine cF ?_ | refine cS (fun _ => ?_) fun _ => ?_) | (apply gW; refine sW ?_) | (apply gI; refine sI ?_) | (apply gE; refine sE ?_) | (apply gP; refine sP ?_) | (apply gC; refine sC ?_) | (apply gD; refine sD ?_) | fail)
    rw [hn1]
    refine D_op rfl ?_; refine X_d (dy_call ArgsI.pf (by first | exact rfl | trivial | (intro a b; rfl)) (CT.pull (i := 5) (by rfl) (IH n' k3 (E.filter (inQ (n' + 1) 3)) e _ hpre.d ⟨hg, by omega, by omega, fun a ha => hfr a (List.mem_filter.1 ha).1⟩ (by omega)))) ?_; rintro _ _ ⟨_, ⟨t', ht', rfl, rfl⟩, rfl⟩; refine ⟨(by first | exact .inl rfl | exact .inr Sb), D_n ?_⟩
    repeat' (first | refine go ?_ | intro _ | (apply cG; first | refine cT ?_ | refine cF ?_ | refine cS (fun _ => ?_) fun _ => ?_) | (apply gW; refine sW ?_) | (apply gI; refine sI ?_) | (apply gE; refine sE ?_) | (apply gP; refine sP ?_) | (apply gC; refine sC ?_) | (apply gD; refine sD ?_) | fail)
    refine D_op rfl ?_; refine X_s (sv_idxA (e := 65) (len := 4) (size := 1) (k := .i64) (i := ((3 : Nat) : Int)) (off := 0) (o2 := 3) (by kernel_rfl) (fun w => by kernel_rfl) Ev.pf Ev.pf (by decide) (by decide) (by decide)) ?_
    repeat' (first | refine go ?_ | intro _ | (apply cG; first | refine cT ?_ | refine cF ?_ | refine cS (fun _ => ?_) fun _ => ?_) | (apply gW; refine sW ?_) | (apply gI; refine sI ?_) | (apply gE; refine sE ?_) | (apply gP; refine sP ?_) | (apply gC; refine sC ?_) | (apply gD; refine sD ?_) | fail)
    refine E_res1 (by rfl) (by rfl) ⟨.nd p m mm k0 k1 k2 t', hpre.kid (e := e) (q := 3) (by omega) hq rfl rfl rfl ht', rfl, rfl⟩ ?_
    exact Sub.trans (B := ndC p m k0 k1 k2 t' :: mapo mIT m mm :: qta k0 :: qta k1 :: qta k2 :: qta t' :: L) Sb qta_close
set_option maxHeartbeats 4000000 in
theorem put_ct : ∀ (d n : Nat) (t : QT) (E : List Ent) (e : Ent) (L : List HP), QOk t n E → PutH n E e → lvB e.2.b + d = n →
    CT Try.prog 42 #[t.val, .int .i64 (n : Int), bkV (lvB e.2.b) (X0 e.2.b / 2 ^ lvB e.2.b) (Y0 e.2.b / 2 ^ lvB e.2.b), .int .i64 e.1, itV e.2] W0 (qta t :: L) fun r L' => ∃ t', QOk t' n (E ++ [e]) ∧ r = t'.val ∧ L' = qta t' :: L := by
  intro d
  induction d with
  | zero => exact fun n t E e L ht hp hd => put_step (fun d' h => absurd h (by omega)) ht hp hd
  | succ d ih => exact fun n t E e L ht hp hd => put_step (fun d' h => (Nat.succ.inj h) ▸ ih) ht hp hd
end
end Go.Proofs.Ytnjjifikogblpaa
namespace Go.Proofs.Ytnjjifikogblpaa
open Go Go.RowKit
set_option linter.unusedVariables false
set_option linter.unusedSimpArgs false
section
variable {P : Program} {W0 w : World} {S : List HP} {a : Act} {d : Option Tmp} {ty : TypeId} {pos : String} {aft : Array Edge} {gd : Option (Nat × Bool)} {x y : Operand} {t u : TypeId}
theorem eqF_nil {n : Nat} {xs ys : Array Value} {w : World} : (Op.eqFields n xs ys []).run P w = .ok true w := by
  simp [Op.eqFields]
theorem eqF_cons {n : Nat} {xs ys : Array Value} {f : Field} {fs : List Field} {v v' : Value} {w : World} (hn : f.name ≠ "_") (ha : (part f.type xs f.offset).run P w = .ok v w) (hb : (part f.type ys f.offset).run P w = .ok v' w) (he : (Op.equalIn n f.type v v').run P w = .ok true w) (h : (Op.eqFields n xs ys fs).run P w = .ok true w) :
    (Op.eqFields n xs ys (f :: fs)).run P w = .ok true w := by
  simp only [Op.eqFields, if_pos hn, Sem.run_bind, ha, hb, he, Result.andThen_ok, Bool.not_true, Bool.false_eq_true, if_false]
  exact h
theorem eqA_of {n : Nat} {xs ys : Array Value} {w : World} {fs : Array Field} (hu : P.underlying t = some (.struct fs)) (hp : P.stoodInHeld t = false) (h : (Op.eqFields n xs ys fs.toList).run P w = .ok true w) : (Op.equalIn (n + 1) t (.agg xs) (.agg ys)).run P w = .ok true w := by
  have hf : P.fieldsOf t = fs := by unfold Program.fieldsOf; rw [hu]
  rw [run_equalIn_agg w n t xs ys (by rw [hf]; exact hu) hp, hf]
  exact h
theorem sv_neA {xs ys : Array Value} (hx : a.eval x = .agg xs := by exact Ev.pf) (hy : a.eval y = .agg ys := by exact Ev.pf) (hg : P.eqGuardType P.depth t = false := by kernel_rfl) (h : ∀ w, (Op.equalIn 10000 t (.agg xs) (.agg ys)).run P w = .ok true w) : SV P W0 S ⟨d, .binOp .neq t x y u, ty, pos, aft, gd⟩ a (.bool false) := ⟨fun w _ => by
  unfold execOp
  simp [hx, hy, run_eqGuard_agg (P := P) w .neq t x y xs ys hg, run_neq_struct, h]⟩
theorem sv_eqA {xs ys : Array Value} (hx : a.eval x = .agg xs := by exact Ev.pf) (hy : a.eval y = .agg ys := by exact Ev.pf) (hg : P.eqGuardType P.depth t = false := by kernel_rfl) (h : ∀ w, (Op.equalIn 10000 t (.agg xs) (.agg ys)).run P w = .ok true w) : SV P W0 S ⟨d, .binOp .eql t x y u, ty, pos, aft, gd⟩ a (.bool true) := ⟨fun w _ => by
  unfold execOp
  simp [hx, hy, run_eqGuard_agg (P := P) w .eql t x y xs ys hg, run_eql_struct, h]⟩
theorem eqI_of {n : Nat} {k k' : IntKind} {z : Int} {w : World} (h : P.underlying t = some (.int k')) : (Op.equalIn (n + 1) t (.int k z) (.int k z)).run P w = .ok true w := by
  rw [run_equalIn_int w n t k k' z z h]
  simp
end
end Go.Proofs.Ytnjjifikogblpaa
