/-
  Walks: the reference's Check.
-/
import Derived.Test.YteeapkfakehocaaMZB
import Derived.Test.YteeapkfakehocaaMX
namespace Go.Proofs.Yteeapkfakehocaa
open Go Go.RowKit
set_option linter.unusedVariables false
set_option linter.unusedSimpArgs false
set_option maxRecDepth 20000
set_option synthInstance.maxSize 100000
set_option synthInstance.maxHeartbeats 400000
theorem flatten_len {B : Nat} : ∀ {sets : List (List Int)}, (∀ s ∈ sets, s.length ≤ B) → sets.flatten.length ≤ sets.length * B
  | [], _ => Nat.zero_le _
  | s :: sets, h => by
    have h1 := flatten_len (sets := sets) fun s hs => h s (.tail _ hs)
    have h2 := h s (.head _)
    rw [List.flatten_cons, List.length_append, List.length_cons, Nat.succ_mul]
    omega
section
variable {W0 : World} {L : List HP}
set_option maxHeartbeats 2000000 in
theorem rCheck_ct {A A2 A3 : Option Addr} {c c2 c3 : Nat} {l : List AK} {t : List BX} {sets : List (List Int)} {q : Bool} (hv : rd eAK (.slice A l.length c) l ∈ L) (hv2 : rd eBX (.slice A2 t.length c2) t ∈ L) (hv3 : rd (eSl eI) (.slice A3 sets.length c3) sets ∈ L) (hc : checkF l t = 0) (hsl : sets.length ≤ 1000) (hss : ∀ s ∈ sets, s.length ≤ 1000) (hq : q = true ↔ ChkOk l t sets) :
    CT Try.prog 32 #[.slice A l.length c, .slice A2 t.length c2, .slice A3 sets.length c3] W0 L fun r L' => r = .tuple #[.int .i64 (if q then sumF25 l sets else 0), .int .i64 (if q then 0 else 14)] ∧ L' = L := by
  obtain ⟨hl64, ht256, hg, _⟩ := checkF_0 hc
  have hfl := flatten_len hss
  have hmul : sets.length * 1000 ≤ 1000000 := by omega
  refine CT_openX hv3 fun ss hs' => ?_
  have hssl : ss.length = sets.length := by rw [← hs', List.length_map]
  refine CT.sub ?_ (sub_dup (.tail _ hv3))
  refine CT.sub ?_ (sub_dup (.tail _ (.tail _ hv2)))
  refine CT.sub ?_ (sub_dup (.tail _ (.tail _ (.tail _ hv))))
  refine CT_enter Try.func32 rfl ?_; (simp only [Try.ntmps32, List.size_toArray, List.length_cons, List.length_nil, Nat.reduceAdd, Nat.reduceSub, Array.replicate_succ, Array.replicate_zero, List.push_toArray, List.append_toArray, List.nil_append, List.cons_append])
  repeat' (first | refine go ?_ | intro _ | (apply cG; first | refine cT ?_ | refine cF ?_ | refine cS (fun _ => ?_) fun _ => ?_) | (apply gW; refine sW ?_) | (apply gI; refine sI ?_) | (apply gE; refine sE ?_) | (apply gP; refine sP ?_) | (apply gC; refine sC ?_) | (apply gD; refine sD ?_) | fail)
  refine O_d (dy_call ArgsI.pf (by first | exact rfl | trivial | (intro a b; rfl)) (rValid_ct (l := l) (t := t) (by repeat (first | exact .head _ | refine .tail _ ?_)) (by repeat (first | exact .head _ | refine .tail _ ?_)))) ?_; rintro _ _ ⟨_, ⟨rfl, hLL⟩, rfl⟩; replace hLL := hLL.symm; subst hLL; refine O_n ?_
  rw [hc]
  repeat' (first | refine go ?_ | intro _ | (apply cG; first | refine cT ?_ | refine cF ?_ | refine cS (fun _ => ?_) fun _ => ?_) | (apply gW; refine sW ?_) | (apply gI; refine sI ?_) | (apply gE; refine sE ?_) | (apply gP; refine sP ?_) | (apply gC; refine sC ?_) | (apply gD; refine sD ?_) | fail)
  refine O_d (dy_make (f := iv) (hf := fun _ => rfl) (0 : Int) (n := l.length) (by rfl) Ev.pf Ev.pf (by omega) (by omega)) ?_; rintro _ _ ⟨g, rfl, rfl⟩; refine O_n ?_
  refine O_sub (S := own 3 eI (.slice (some ⟨g, 0, none⟩) l.length l.length) (List.replicate l.length 0) :: rd eAK (.slice A l.length c) l :: rd eBX (.slice A2 t.length c2) t :: rd (eSl eI) (.slice A3 sets.length c3) sets :: rd (eSX eI) (.slice A3 sets.length c3) ss :: L) (Sub.refl _) ?_
  repeat' (first | refine go ?_ | intro _ | (apply cG; first | refine cT ?_ | refine cF ?_ | refine cS (fun _ => ?_) fun _ => ?_) | (apply gW; refine sW ?_) | (apply gI; refine sI ?_) | (apply gE; refine sE ?_) | (apply gP; refine sP ?_) | (apply gC; refine sC ?_) | (apply gD; refine sD ?_) | fail)
  refine C_loopS (κ := Nat × List Int) [false, false, false, false, false, false, true, true, false, false, true, true, true, false, false, false, false, false, false, false, false, false, false, true, true, true, true, true, true, true, true, true, true, true, true, true, true, true, true, true, true, true, true, true, true, true, true, true, true, true, true, true, true, true, true, true, true, true, true, true, true, true, true, true, true, true, true, true, true, true, true, true, true, true, true, true, false, false, false, false, false, false, false, false, false, false, false, false, false, false, false, false, false, false, false, false, false, false, false, false, false, false, false, false, false, false, false] (fun k => [(10, .int .i64 (k.1 : Int))]) (fun k => [(0, own 3 eI (.slice (some ⟨g, 0, none⟩) l.length l.length) k.2)]) (fun k => k.1 ≤ sets.length ∧ k.2.length = l.length ∧ (∀ j : Nat, j < l.length → k.2[j]? = some (((sets.take k.1).flatten.count (j : Int) : Nat) : Int)) ∧ (∀ s ∈ sets.take k.1, s ≠ [] ∧ (∀ n ∈ s, 0 ≤ n ∧ n < l.length) ∧ ∀ (k : Nat) (n : Int), s[k]? = some n → fitF l t n (s.take k) = true)) (fun k => sets.length - k.1) (0, List.replicate l.length 0) ⟨Nat.zero_le _, List.length_replicate, fun j hj => by rw [List.getElem?_replicate, if_pos hj]; simp, fun s hs => absurd hs (by simp)⟩ ⟨rfl, trivial⟩ ?_
  rintro ⟨i, sn⟩ u ⟨hi, hsn, hsj, hpre⟩
  dsimp only at hi hsn hsj hpre
  dsimp only
  ((try dsimp only); refine C_n ?_; (try simp only [Nat.reduceAdd, Nat.zero_add]))
  by_cases hil : i < sets.length
  rotate_left
  · obtain rfl : i = sets.length := by omega
    rw [List.take_length] at hsj hpre
    repeat' (first | refine go ?_ | intro _ | (apply cG; first | refine cT ?_ | refine cF ?_ | refine cS (fun _ => ?_) fun _ => ?_) | (apply gW; refine sW ?_) | (apply gI; refine sI ?_) | (apply gE; refine sE ?_) | (apply gP; refine sP ?_) | (apply gC; refine sC ?_) | (apply gD; refine sD ?_) | fail)
    refine C_loopS (κ := Nat) [false, false, false, false, false, false, true, true, false, false, false, false, false, true, false, false, false, false, false, false, false, false, false, false, false, false, false, false, false, false, false, false, false, false, false, false, false, false, false, false, false, false, false, false, false, false, false, false, false, false, false, false, false, false, false, false, false, false, false, false, false, false, false, false, false, false, false, false, false, false, false, false, false, false, false, false, true, true, true, true, true, true, true, true, true, true, true, true, true, true, true, true, true, true, true, true, true, true, true, true, true, true, true, true, false, false, false] (fun k => [(13, .int .i64 (k : Int))]) (fun k => []) (fun k => k ≤ l.length ∧ ∀ j : Nat, j < k → sets.flatten.count (j : Int) ≤ 1 ∧ ((j : Int) ∉ sets.flatten → posI l t j = [])) (fun k => l.length - k) 0 ⟨Nat.zero_le _, fun j h => absurd h (Nat.not_lt_zero _)⟩ ⟨rfl, trivial⟩ ?_
    rintro j u2 ⟨hj, hall⟩
    ((try dsimp only); refine C_n ?_; (try simp only [Nat.reduceAdd, Nat.zero_add]))
    by_cases hjl : j < l.length
    rotate_left
    · obtain rfl : j = l.length := by omega
      have hnd : sets.flatten.Nodup := List.nodup_iff_count.2 fun a => by
        by_cases ha : a ∈ sets.flatten
        · obtain ⟨s, hs, has⟩ := List.mem_flatten.1 ha
          have hr := (hpre s hs).2.1 a has
          obtain ⟨m, rfl⟩ : ∃ m : Nat, a = (m : Int) := ⟨a.toNat, by omega⟩
          exact (hall m (by omega)).1
        · rw [List.count_eq_zero_of_not_mem ha]
          exact Nat.zero_le _
      obtain rfl : q = true := hq.2 ⟨fun s hs => (hpre s hs).1, fun s hs => (hpre s hs).2.1, fun s hs => (hpre s hs).2.2, hnd, fun j hj => (hall j hj).2⟩
      repeat' (first | refine go ?_ | intro _ | (apply cG; first | refine cT ?_ | refine cF ?_ | refine cS (fun _ => ?_) fun _ => ?_) | (apply gW; refine sW ?_) | (apply gI; refine sI ?_) | (apply gE; refine sE ?_) | (apply gP; refine sP ?_) | (apply gC; refine sC ?_) | (apply gD; refine sD ?_) | fail)
      refine O_d (dy_call ArgsI.pf (by first | exact rfl | trivial | (intro a b; rfl)) (rsum_ct (l := l) (sets := sets) (by repeat (first | exact .head _ | refine .tail _ ?_)) (by repeat (first | exact .head _ | refine .tail _ ?_)) (by omega) hg (fun s hs => ⟨by have := hss s hs; omega, (hpre s hs).2.1⟩))) ?_; rintro _ _ ⟨_, ⟨rfl, hLL⟩, rfl⟩; replace hLL := hLL.symm; subst hLL; refine O_n ?_
      repeat' (first | refine go ?_ | intro _ | (apply cG; first | refine cT ?_ | refine cF ?_ | refine cS (fun _ => ?_) fun _ => ?_) | (apply gW; refine sW ?_) | (apply gI; refine sI ?_) | (apply gE; refine sE ?_) | (apply gP; refine sP ?_) | (apply gC; refine sC ?_) | (apply gD; refine sD ?_) | fail)
      refine E_res2 (by rfl) (by rfl) ⟨rfl, rfl⟩ Sb
    obtain ⟨a, ha⟩ : ∃ a, l[j]? = some a := ⟨_, List.getElem?_eq_getElem hjl⟩
    have haa : At l j a := ⟨ha⟩
    have hpx := posI_at (t := t) ha
    have hb := hsj j hjl
    obtain ⟨N, hN⟩ : ∃ N, sets.flatten.count (j : Int) = N := ⟨_, rfl⟩
    rw [hN] at hb
    have hab : At sn j (N : Int) := ⟨hb⟩
    by_cases hN1 : N > 1
    · obtain rfl : q = false := Bool.eq_false_iff.2 fun h => (fun h2 : ChkOk l t sets => by
        have := List.nodup_iff_count.1 h2.nd (j : Int)
        omega) (hq.1 h)
      repeat' (first | refine go ?_ | intro _ | (apply cG; first | refine cT ?_ | refine cF ?_ | refine cS (fun _ => ?_) fun _ => ?_) | (apply gW; refine sW ?_) | (apply gI; refine sI ?_) | (apply gE; refine sE ?_) | (apply gP; refine sP ?_) | (apply gC; refine sC ?_) | (apply gD; refine sD ?_) | fail)
      refine E_res2 (by rfl) (by rfl) ⟨rfl, rfl⟩ Sb
    by_cases hN0 : N = 0
    rotate_left
    · have hjm : (j : Int) ∈ sets.flatten := List.count_pos_iff.1 (by omega)
      repeat' (first | refine go ?_ | intro _ | (apply cG; first | refine cT ?_ | refine cF ?_ | refine cS (fun _ => ?_) fun _ => ?_) | (apply gW; refine sW ?_) | (apply gI; refine sI ?_) | (apply gE; refine sE ?_) | (apply gP; refine sP ?_) | (apply gC; refine sC ?_) | (apply gD; refine sD ?_) | fail)
      exact E_round (j + 1) ⟨hjl, fun j' h' => by
        by_cases e : j' = j
        · subst e; exact ⟨by omega, fun hm => absurd hjm hm⟩
        · exact hall j' (by omega)⟩ (by omega) ⟨rfl, trivial⟩ Sb
    subst hN0
    have hjm : (j : Int) ∉ sets.flatten := List.count_eq_zero.1 hN
    repeat' (first | refine go ?_ | intro _ | (apply cG; first | refine cT ?_ | refine cF ?_ | refine cS (fun _ => ?_) fun _ => ?_) | (apply gW; refine sW ?_) | (apply gI; refine sI ?_) | (apply gE; refine sE ?_) | (apply gP; refine sP ?_) | (apply gC; refine sC ?_) | (apply gD; refine sD ?_) | fail)
    refine O_d (dy_call ArgsI.pf (by first | exact rfl | trivial | (intro a b; rfl)) (possible_ct (a := a) (t := t) (by repeat (first | exact .head _ | refine .tail _ ?_)) (by omega))) ?_; rintro _ _ ⟨_, ⟨A9, c9, rfl, rfl⟩, rfl⟩; refine O_n ?_
    by_cases hx0 : (choF a t).length = 0
    · repeat' (first | refine go ?_ | intro _ | (apply cG; first | refine cT ?_ | refine cF ?_ | refine cS (fun _ => ?_) fun _ => ?_) | (apply gW; refine sW ?_) | (apply gI; refine sI ?_) | (apply gE; refine sE ?_) | (apply gP; refine sP ?_) | (apply gC; refine sC ?_) | (apply gD; refine sD ?_) | fail)
      exact E_round (j + 1) ⟨hjl, fun j' h' => by
        by_cases e : j' = j
        · subst e; exact ⟨by omega, fun _ => by rw [hpx]; exact List.length_eq_zero_iff.1 hx0⟩
        · exact hall j' (by omega)⟩ (by omega) ⟨rfl, trivial⟩ Sb
    · obtain rfl : q = false := Bool.eq_false_iff.2 fun h => (fun h2 : ChkOk l t sets => hx0 (by rw [← hpx, h2.al j hjl hjm]; rfl)) (hq.1 h)
      repeat' (first | refine go ?_ | intro _ | (apply cG; first | refine cT ?_ | refine cF ?_ | refine cS (fun _ => ?_) fun _ => ?_) | (apply gW; refine sW ?_) | (apply gI; refine sI ?_) | (apply gE; refine sE ?_) | (apply gP; refine sP ?_) | (apply gC; refine sC ?_) | (apply gD; refine sD ?_) | fail)
      refine E_res2 (by rfl) (by rfl) ⟨rfl, rfl⟩ Sb
  obtain ⟨s, hsi⟩ : ∃ s, ss[i]? = some s := ⟨_, List.getElem?_eq_getElem (by omega)⟩
  have has : At ss i s := ⟨hsi⟩
  have hss0 : sets[i]? = some s.b := getX hs' hsi
  have hsm := List.mem_of_getElem? hss0
  have hs1k := hss _ hsm
  refine C_sub (sub_peekX (v := .slice A3 sets.length c3) (l := ss) (R := eI) (by repeat (first | exact .head _ | refine .tail _ ?_)) hsi) ?_
  refine C_form (.head _) fun As cs hsv => ?_
  have hec : EncC (eSX eI) s [.slice As s.b.length cs] := ⟨fun m cs h => by rw [h.1, hsv]⟩
  rw [hsv]
  refine C_sub (S := rd eI (.slice As s.b.length cs) s.b :: own 3 eI (.slice (some ⟨g, 0, none⟩) l.length l.length) sn :: rd eAK (.slice A l.length c) l :: rd eBX (.slice A2 t.length c2) t :: rd (eSX eI) (.slice A3 sets.length c3) ss :: rd (eSl eI) (.slice A3 sets.length c3) sets :: L) Sb ?_
  by_cases hs0 : s.b.length = 0
  · obtain rfl : q = false := Bool.eq_false_iff.2 fun h => (fun h2 : ChkOk l t sets => h2.ne _ hsm (List.length_eq_zero_iff.1 hs0)) (hq.1 h)
    repeat' (first | refine go ?_ | intro _ | (apply cG; first | refine cT ?_ | refine cF ?_ | refine cS (fun _ => ?_) fun _ => ?_) | (apply gW; refine sW ?_) | (apply gI; refine sI ?_) | (apply gE; refine sE ?_) | (apply gP; refine sP ?_) | (apply gC; refine sC ?_) | (apply gD; refine sD ?_) | fail)
    refine E_res2 (by rfl) (by rfl) ⟨rfl, rfl⟩ Sb
  have hsne : s.b ≠ [] := fun h => hs0 (by rw [h]; rfl)
  repeat' (first | refine go ?_ | intro _ | (apply cG; first | refine cT ?_ | refine cF ?_ | refine cS (fun _ => ?_) fun _ => ?_) | (apply gW; refine sW ?_) | (apply gI; refine sI ?_) | (apply gE; refine sE ?_) | (apply gP; refine sP ?_) | (apply gC; refine sC ?_) | (apply gD; refine sD ?_) | fail)
  refine C_loopS (κ := Nat × List Int) [false, false, false, false, false, false, true, true, false, false, false, true, true, false, false, false, false, false, false, false, false, false, false, false, false, false, false, false, false, false, false, false, false, false, false, true, true, true, true, true, true, true, true, true, true, true, true, true, true, true, true, true, true, true, true, true, true, true, true, true, true, true, true, true, true, true, true, true, true, true, true, true, true, true, true, true, false, false, false, false, false, false, false, false, false, false, false, false, false, false, false, false, false, false, false, false, false, false, false, false, false, false, false, false, false, false, false] (fun k => [(11, .int .i64 (k.1 : Int))]) (fun k => [(1, own 3 eI (.slice (some ⟨g, 0, none⟩) l.length l.length) k.2)]) (fun k => k.1 ≤ s.b.length ∧ k.2.length = l.length ∧ (∀ j : Nat, j < l.length → k.2[j]? = some ((((sets.take i).flatten ++ s.b.take k.1).count (j : Int) : Nat) : Int)) ∧ (∀ n ∈ s.b.take k.1, 0 ≤ n ∧ n < l.length) ∧ (∀ (k' : Nat) (n : Int), k' < k.1 → s.b[k']? = some n → fitF l t n (s.b.take k') = true)) (fun k => s.b.length - k.1) (0, sn) ⟨Nat.zero_le _, hsn, fun j hj => by dsimp only; rw [hsj j hj, List.take_zero, List.append_nil], fun n hn => absurd hn (by simp), fun k' n h => absurd h (Nat.not_lt_zero _)⟩ ⟨rfl, trivial⟩ ?_
  rintro ⟨k, sn2⟩ u2 ⟨hk, hsn2, hsj2, hrg, hft⟩
  dsimp only at hk hsn2 hsj2 hrg hft
  dsimp only
  ((try dsimp only); refine C_n ?_; (try simp only [Nat.reduceAdd, Nat.zero_add]))
  by_cases hks : k < s.b.length
  rotate_left
  · obtain rfl : k = s.b.length := by omega
    rw [List.take_length] at hsj2 hrg
    have htf := take_flat hss0
    repeat' (first | refine go ?_ | intro _ | (apply cG; first | refine cT ?_ | refine cF ?_ | refine cS (fun _ => ?_) fun _ => ?_) | (apply gW; refine sW ?_) | (apply gI; refine sI ?_) | (apply gE; refine sE ?_) | (apply gP; refine sP ?_) | (apply gC; refine sC ?_) | (apply gD; refine sD ?_) | fail)
    refine E_round (i + 1, sn2) ⟨hil, hsn2, by dsimp only; rw [htf]; exact hsj2, ?_⟩ (by dsimp only; omega) ⟨rfl, trivial⟩ Sb
    intro s' hs'
    dsimp only at hs'
    rw [List.take_add_one, hss0] at hs'
    rcases List.mem_append.1 hs' with h | h
    · exact hpre s' h
    · simp only [Option.toList_some, List.mem_cons, List.not_mem_nil, or_false] at h
      subst h
      exact ⟨hsne, hrg, fun k' n h => hft k' n (List.getElem?_eq_some_iff.1 h).1 h⟩
  obtain ⟨z, hz⟩ : ∃ z, s.b[k]? = some z := ⟨_, List.getElem?_eq_getElem hks⟩
  have haz : At s.b k z := ⟨hz⟩
  have hzm := List.mem_of_getElem? hz
  by_cases hz0 : z < 0
  · obtain rfl : q = false := Bool.eq_false_iff.2 fun h => (fun h2 : ChkOk l t sets => absurd (h2.rg _ hsm z hzm).1 (by omega)) (hq.1 h)
    repeat' (first | refine go ?_ | intro _ | (apply cG; first | refine cT ?_ | refine cF ?_ | refine cS (fun _ => ?_) fun _ => ?_) | (apply gW; refine sW ?_) | (apply gI; refine sI ?_) | (apply gE; refine sE ?_) | (apply gP; refine sP ?_) | (apply gC; refine sC ?_) | (apply gD; refine sD ?_) | fail)
    refine E_res2 (by rfl) (by rfl) ⟨rfl, rfl⟩ Sb
  by_cases hz1 : z ≥ l.length
  · obtain rfl : q = false := Bool.eq_false_iff.2 fun h => (fun h2 : ChkOk l t sets => absurd (h2.rg _ hsm z hzm).2 (by omega)) (hq.1 h)
    repeat' (first | refine go ?_ | intro _ | (apply cG; first | refine cT ?_ | refine cF ?_ | refine cS (fun _ => ?_) fun _ => ?_) | (apply gW; refine sW ?_) | (apply gI; refine sI ?_) | (apply gE; refine sE ?_) | (apply gP; refine sP ?_) | (apply gC; refine sC ?_) | (apply gD; refine sD ?_) | fail)
    refine E_res2 (by rfl) (by rfl) ⟨rfl, rfl⟩ Sb
  obtain ⟨m, rfl⟩ : ∃ m : Nat, z = (m : Int) := ⟨z.toNat, by omega⟩
  have hml : m < l.length := by omega
  have hb := hsj2 m hml
  obtain ⟨N, hN⟩ : ∃ N, ((sets.take i).flatten ++ s.b.take k).count (m : Int) = N := ⟨_, rfl⟩
  have hNl : N ≤ 1000000 := by
    have h1 : N ≤ ((sets.take i).flatten ++ s.b.take k).length := by rw [← hN]; exact List.count_le_length
    have h2 := congrArg List.length (flat_split hss0)
    rw [List.length_append, List.length_append] at h2
    rw [List.length_append, List.length_take] at h1
    omega
  rw [hN] at hb
  have hab : At sn2 m (N : Int) := ⟨hb⟩
  obtain ⟨pre, hpe⟩ : ∃ pre, s.b.take k = pre := ⟨_, rfl⟩
  have hplen : pre.length = k := by rw [← hpe, List.length_take]; omega
  subst hplen
  repeat' (first | refine go ?_ | intro _ | (apply cG; first | refine cT ?_ | refine cF ?_ | refine cS (fun _ => ?_) fun _ => ?_) | (apply gI; refine sI ?_) | (apply gE; refine sE ?_) | (apply gP; refine sP ?_) | (apply gC; refine sC ?_) | (apply gD; refine sD ?_) | fail)
  apply gW; refine sW (r := ((N + 1 : Nat) : Int)) ?_ (by rw [Int.natCast_add]; exact wr_i64 (by omega) (by omega))
  repeat' (first | refine go ?_ | intro _ | (apply cG; first | refine cT ?_ | refine cF ?_ | refine cS (fun _ => ?_) fun _ => ?_) | (apply gW; refine sW ?_) | (apply gI; refine sI ?_) | (apply gE; refine sE ?_) | (apply gP; refine sP ?_) | (apply gC; refine sC ?_) | (apply gD; refine sD ?_) | fail)
  refine O_d (dy_storeE (f := iv) (hf := fun _ => rfl) (j := m) (n := l.length) (c := l.length) ((N + 1 : Nat) : Int) (hy := Ev.pf) (hj := by omega)) ?_; rintro _ _ ⟨rfl, rfl⟩; refine O_n ?_
  repeat' (first | refine go ?_ | intro _ | (apply cG; first | refine cT ?_ | refine cF ?_ | refine cS (fun _ => ?_) fun _ => ?_) | (apply gW; refine sW ?_) | (apply gI; refine sI ?_) | (apply gE; refine sE ?_) | (apply gP; refine sP ?_) | (apply gC; refine sC ?_) | (apply gD; refine sD ?_) | fail)
  rw [List.drop_zero, hpe]
  rw [hpe] at hrg hN
  refine O_d (dy_call ArgsI.pf (by first | exact rfl | trivial | (intro a b; rfl)) (fits_ct (n := m) (l := l) (t := t) (s := pre) (by repeat (first | exact .head _ | refine .tail _ ?_)) (by repeat (first | exact .head _ | refine .tail _ ?_)) (.inl (.head _)) (by omega) hml hrg (by omega))) ?_; rintro _ _ ⟨_, ⟨rfl, hLL⟩, rfl⟩; replace hLL := hLL.symm; subst hLL; refine O_n ?_
  cases hfit : fitF l t (m : Int) pre
  · obtain rfl : q = false := Bool.eq_false_iff.2 fun h => (fun h2 : ChkOk l t sets => by
      have := h2.ft _ hsm _ _ hz
      rw [hpe, hfit] at this
      cases this) (hq.1 h)
    repeat' (first | refine go ?_ | intro _ | (apply cG; first | refine cT ?_ | refine cF ?_ | refine cS (fun _ => ?_) fun _ => ?_) | (apply gW; refine sW ?_) | (apply gI; refine sI ?_) | (apply gE; refine sE ?_) | (apply gP; refine sP ?_) | (apply gC; refine sC ?_) | (apply gD; refine sD ?_) | fail)
    refine E_res2 (by rfl) (by rfl) ⟨rfl, rfl⟩ Sb
  repeat' (first | refine go ?_ | intro _ | (apply cG; first | refine cT ?_ | refine cF ?_ | refine cS (fun _ => ?_) fun _ => ?_) | (apply gW; refine sW ?_) | (apply gI; refine sI ?_) | (apply gE; refine sE ?_) | (apply gP; refine sP ?_) | (apply gC; refine sC ?_) | (apply gD; refine sD ?_) | fail)
  have htk : s.b.take (pre.length + 1) = pre ++ [(m : Int)] := by rw [List.take_add_one, hz, hpe]; rfl
  refine E_round (pre.length + 1, sn2.set m ((N + 1 : Nat) : Int)) ⟨hks, by dsimp only; rw [List.length_set]; exact hsn2, fun j hj => ?_, ?_, fun k' n hk' hn => ?_⟩ (by dsimp only; omega) ⟨rfl, trivial⟩ Sb
  · dsimp only
    rw [htk, List.getElem?_set, ← List.append_assoc, List.count_append]
    by_cases e : m = j
    · subst e
      rw [if_pos rfl, if_pos (by omega), hN]
      simp
    · rw [if_neg e, hsj2 j hj, hpe]
      have : (m : Int) ≠ (j : Int) := by omega
      have h0 : List.count (j : Int) [(m : Int)] = 0 := by simp [this]
      rw [h0]
      rfl
  · dsimp only
    rw [htk]
    intro n hn
    rcases List.mem_append.1 hn with h | h
    · exact hrg n h
    · simp only [List.mem_cons, List.not_mem_nil, or_false] at h
      omega
  · dsimp only at hk'
    by_cases e : k' = pre.length
    · subst e
      rw [hz] at hn
      rw [← Option.some.inj hn, hpe, hfit]
    · exact hft k' n (by omega) hn
end
end Go.Proofs.Yteeapkfakehocaa
namespace Go.Proofs.Yteeapkfakehocaa
open Go Go.RowKit
set_option linter.unusedVariables false
set_option linter.unusedSimpArgs false
set_option maxRecDepth 20000
set_option synthInstance.maxSize 100000
set_option synthInstance.maxHeartbeats 400000
/-- what Bound returns -/
def bndF (l : List AK) (t : List BX) : Int × List (List Int) × Int := if checkF l t = 0 then (sumF25 l (setsF l t), setsF l t, 0) else (0, [], checkF l t)
def chkV (l : List AK) (t : List BX) (sets : List (List Int)) (q : Bool) : Int × Int := if checkF l t = 0 then (if q then sumF25 l sets else 0, if q then 0 else 14) else (0, checkF l t)
section
variable {W0 : World} {L : List HP}
theorem BoundG_ct {A A2 : Option Addr} {c c2 : Nat} {l : List AK} {t : List BX} (hv : rd eAK (.slice A l.length c) l ∈ L) (hv2 : rd eBX (.slice A2 t.length c2) t ∈ L) :
    CT Try.prog 26 #[.slice A l.length c, .slice A2 t.length c2] W0 L fun r L' => ∃ A3 c3, r = .tuple #[.int .i64 (bndF l t).1, .slice A3 (bndF l t).2.1.length c3, .int .i64 (bndF l t).2.2] ∧ L' = rd (eSl eI) (.slice A3 (bndF l t).2.1.length c3) (bndF l t).2.1 :: L := by
  by_cases hc : checkF l t = 0
  · have e : bndF l t = (sumF25 l (setsF l t), setsF l t, 0) := if_pos hc
    rw [e]
    exact Bound_ct hv hv2 hc
  · have e : bndF l t = (0, [], checkF l t) := if_neg hc
    rw [e]
    refine CT_into (BoundE_ct hv hv2 hc) fun v L' ⟨h1, h2⟩ => ⟨_, ⟨none, 0, h1, rfl⟩, ?_⟩
    rw [h2]
    exact fun m h s => ⟨Hp.none, h, Hp.none_dj _, Hp.none_le _, Hp.le_refl _, Sl.nil m _ none 0, s⟩
theorem rBoundE_ct {A A2 : Option Addr} {c c2 : Nat} {l : List AK} {t : List BX} (hv : rd eAK (.slice A l.length c) l ∈ L) (hv2 : rd eBX (.slice A2 t.length c2) t ∈ L) (hc : checkF l t ≠ 0) :
    CT Try.prog 29 #[.slice A l.length c, .slice A2 t.length c2] W0 L fun r L' => r = .tuple #[.int .i64 0, .slice none 0 0, .int .i64 (checkF l t)] ∧ L' = L := by
  refine CT_enter Try.func29 rfl ?_; (simp only [Try.ntmps29, List.size_toArray, List.length_cons, List.length_nil, Nat.reduceAdd, Nat.reduceSub, Array.replicate_succ, Array.replicate_zero, List.push_toArray, List.append_toArray, List.nil_append, List.cons_append])
  repeat' (first | refine go ?_ | intro _ | (apply cG; first | refine cT ?_ | refine cF ?_ | refine cS (fun _ => ?_) fun _ => ?_) | (apply gW; refine sW ?_) | (apply gI; refine sI ?_) | (apply gE; refine sE ?_) | (apply gP; refine sP ?_) | (apply gC; refine sC ?_) | (apply gD; refine sD ?_) | fail)
  refine O_d (dy_call ArgsI.pf (by first | exact rfl | trivial | (intro a b; rfl)) (rValid_ct (l := l) (t := t) hv hv2)) ?_; rintro _ _ ⟨_, ⟨rfl, hLL⟩, rfl⟩; replace hLL := hLL.symm; subst hLL; refine O_n ?_
  repeat' (first | refine go ?_ | intro _ | (apply cG; first | refine cT ?_ | refine cF ?_ | refine cS (fun _ => ?_) fun _ => ?_) | (apply gW; refine sW ?_) | (apply gI; refine sI ?_) | (apply gE; refine sE ?_) | (apply gP; refine sP ?_) | (apply gC; refine sC ?_) | (apply gD; refine sD ?_) | fail)
  refine E_res3 (by rfl) (by rfl) ⟨rfl, rfl⟩ Sb
theorem rBoundG_ct {A A2 : Option Addr} {c c2 : Nat} {l : List AK} {t : List BX} (hv : rd eAK (.slice A l.length c) l ∈ L) (hv2 : rd eBX (.slice A2 t.length c2) t ∈ L) :
    CT Try.prog 29 #[.slice A l.length c, .slice A2 t.length c2] W0 L fun r L' => ∃ A3 c3, r = .tuple #[.int .i64 (bndF l t).1, .slice A3 (bndF l t).2.1.length c3, .int .i64 (bndF l t).2.2] ∧ L' = rd (eSl eI) (.slice A3 (bndF l t).2.1.length c3) (bndF l t).2.1 :: L := by
  by_cases hc : checkF l t = 0
  · have e : bndF l t = (sumF25 l (setsF l t), setsF l t, 0) := if_pos hc
    rw [e]
    exact rBound_ct hv hv2 hc
  · have e : bndF l t = (0, [], checkF l t) := if_neg hc
    rw [e]
    refine CT_into (rBoundE_ct hv hv2 hc) fun v L' ⟨h1, h2⟩ => ⟨_, ⟨none, 0, h1, rfl⟩, ?_⟩
    rw [h2]
    exact fun m h s => ⟨Hp.none, h, Hp.none_dj _, Hp.none_le _, Hp.le_refl _, Sl.nil m _ none 0, s⟩
theorem CheckG_ct {A A2 A3 : Option Addr} {c c2 c3 : Nat} {l : List AK} {t : List BX} {sets : List (List Int)} {q : Bool} (hv : rd eAK (.slice A l.length c) l ∈ L) (hv2 : rd eBX (.slice A2 t.length c2) t ∈ L) (hv3 : rd (eSl eI) (.slice A3 sets.length c3) sets ∈ L) (hsl : sets.length ≤ 1000) (hss : ∀ s ∈ sets, s.length ≤ 1000) (hq : q = true ↔ ChkOk l t sets) :
    CT Try.prog 31 #[.slice A l.length c, .slice A2 t.length c2, .slice A3 sets.length c3] W0 L fun r L' => r = .tuple #[.int .i64 (chkV l t sets q).1, .int .i64 (chkV l t sets q).2] ∧ L' = L := by
  by_cases hc : checkF l t = 0
  · have e : chkV l t sets q = (if q then sumF25 l sets else 0, if q then 0 else 14) := if_pos hc
    rw [e]
    exact Check_ct hv hv2 hv3 hc hsl hss hq
  · have e : chkV l t sets q = (0, checkF l t) := if_neg hc
    rw [e]
    refine CT_enter Try.func31 rfl ?_; (simp only [Try.ntmps31, List.size_toArray, List.length_cons, List.length_nil, Nat.reduceAdd, Nat.reduceSub, Array.replicate_succ, Array.replicate_zero, List.push_toArray, List.append_toArray, List.nil_append, List.cons_append])
    repeat' (first | refine go ?_ | intro _ | (apply cG; first | refine cT ?_ | refine cF ?_ | refine cS (fun _ => ?_) fun _ => ?_) | (apply gW; refine sW ?_) | (apply gI; refine sI ?_) | (apply gE; refine sE ?_) | (apply gP; refine sP ?_) | (apply gC; refine sC ?_) | (apply gD; refine sD ?_) | fail)
    refine O_d (dy_call ArgsI.pf (by first | exact rfl | trivial | (intro a b; rfl)) (check_ct (l := l) (t := t) hv hv2)) ?_; rintro _ _ ⟨_, ⟨rfl, hLL⟩, rfl⟩; replace hLL := hLL.symm; subst hLL; refine O_n ?_
    repeat' (first | refine go ?_ | intro _ | (apply cG; first | refine cT ?_ | refine cF ?_ | refine cS (fun _ => ?_) fun _ => ?_) | (apply gW; refine sW ?_) | (apply gI; refine sI ?_) | (apply gE; refine sE ?_) | (apply gP; refine sP ?_) | (apply gC; refine sC ?_) | (apply gD; refine sD ?_) | fail)
    refine E_res2 (by rfl) (by rfl) ⟨rfl, rfl⟩ Sb
theorem rCheckG_ct {A A2 A3 : Option Addr} {c c2 c3 : Nat} {l : List AK} {t : List BX} {sets : List (List Int)} {q : Bool} (hv : rd eAK (.slice A l.length c) l ∈ L) (hv2 : rd eBX (.slice A2 t.length c2) t ∈ L) (hv3 : rd (eSl eI) (.slice A3 sets.length c3) sets ∈ L) (hsl : sets.length ≤ 1000) (hss : ∀ s ∈ sets, s.length ≤ 1000) (hq : q = true ↔ ChkOk l t sets) :
    CT Try.prog 32 #[.slice A l.length c, .slice A2 t.length c2, .slice A3 sets.length c3] W0 L fun r L' => r = .tuple #[.int .i64 (chkV l t sets q).1, .int .i64 (chkV l t sets q).2] ∧ L' = L := by
  by_cases hc : checkF l t = 0
  · have e : chkV l t sets q = (if q then sumF25 l sets else 0, if q then 0 else 14) := if_pos hc
    rw [e]
    exact rCheck_ct hv hv2 hv3 hc hsl hss hq
  · have e : chkV l t sets q = (0, checkF l t) := if_neg hc
    rw [e]
    refine CT_enter Try.func32 rfl ?_; (simp only [Try.ntmps32, List.size_toArray, List.length_cons, List.length_nil, Nat.reduceAdd, Nat.reduceSub, Array.replicate_succ, Array.replicate_zero, List.push_toArray, List.append_toArray, List.nil_append, List.cons_append])
    repeat' (first | refine go ?_ | intro _ | (apply cG; first | refine cT ?_ | refine cF ?_ | refine cS (fun _ => ?_) fun _ => ?_) | (apply gW; refine sW ?_) | (apply gI; refine sI ?_) | (apply gE; refine sE ?_) | (apply gP; refine sP ?_) | (apply gC; refine sC ?_) | (apply gD; refine sD ?_) | fail)
    refine O_d (dy_call ArgsI.pf (by first | exact rfl | trivial | (intro a b; rfl)) (rValid_ct (l := l) (t := t) hv hv2)) ?_; rintro _ _ ⟨_, ⟨rfl, hLL⟩, rfl⟩; replace hLL := hLL.symm; subst hLL; refine O_n ?_
    repeat' (first | refine go ?_ | intro _ | (apply cG; first | refine cT ?_ | refine cF ?_ | refine cS (fun _ => ?_) fun _ => ?_) | (apply gW; refine sW ?_) | (apply gI; refine sI ?_) | (apply gE; refine sE ?_) | (apply gP; refine sP ?_) | (apply gC; refine sC ?_) | (apply gD; refine sD ?_) | fail)
    refine E_res2 (by rfl) (by rfl) ⟨rfl, rfl⟩ Sb
theorem SameSets_ct {A B : Option Addr} {c d : Nat} {sets : List (List Int)} (hv : rd (eSl eI) (.slice A sets.length c) sets ∈ L) (hv2 : rd (eSl eI) (.slice B sets.length d) sets ∈ L) (hl : sets.length ≤ 1000000) (hs : ∀ s ∈ sets, s.length ≤ 1000000) :
    CT Try.prog 30 #[.slice A sets.length c, .slice B sets.length d] W0 L fun r L' => r = .bool true ∧ L' = L := by
  refine CT_openX hv fun xs hxs => ?_
  refine CT_openX (.tail _ hv2) fun ys hys => ?_
  have hxl : xs.length = sets.length := by rw [← hxs, List.length_map]
  have hyl : ys.length = sets.length := by rw [← hys, List.length_map]
  refine CT_enter Try.func30 rfl ?_; (simp only [Try.ntmps30, List.size_toArray, List.length_cons, List.length_nil, Nat.reduceAdd, Nat.reduceSub, Array.replicate_succ, Array.replicate_zero, List.push_toArray, List.append_toArray, List.nil_append, List.cons_append])
  repeat' (first | refine go ?_ | intro _ | (apply cG; first | refine cT ?_ | refine cF ?_ | refine cS (fun _ => ?_) fun _ => ?_) | (apply gW; refine sW ?_) | (apply gI; refine sI ?_) | (apply gE; refine sE ?_) | (apply gP; refine sP ?_) | (apply gC; refine sC ?_) | (apply gD; refine sD ?_) | fail)
  refine C_loopS (κ := Nat) [false, false, false, false, true, true, false, false, false, false, false, true, true, true, true, true, true, true, true, true, true, true, true, true, true, true, true] (fun k => [(5, .int .i64 (k : Int))]) (fun k => []) (fun k => k ≤ sets.length) (fun k => sets.length - k) 0 (Nat.zero_le _) ⟨rfl, trivial⟩ ?_
  rintro i u hi
  ((try dsimp only); refine C_n ?_; (try simp only [Nat.reduceAdd, Nat.zero_add]))
  by_cases hil : i < sets.length
  rotate_left
  · repeat' (first | refine go ?_ | intro _ | (apply cG; first | refine cT ?_ | refine cF ?_ | refine cS (fun _ => ?_) fun _ => ?_) | (apply gW; refine sW ?_) | (apply gI; refine sI ?_) | (apply gE; refine sE ?_) | (apply gP; refine sP ?_) | (apply gC; refine sC ?_) | (apply gD; refine sD ?_) | fail)
    refine E_res1 (by rfl) (by rfl) ⟨rfl, rfl⟩ Sb
  obtain ⟨x, hx⟩ : ∃ x, xs[i]? = some x := ⟨_, List.getElem?_eq_getElem (by omega)⟩
  obtain ⟨y, hy⟩ : ∃ y, ys[i]? = some y := ⟨_, List.getElem?_eq_getElem (by omega)⟩
  have hax : At xs i x := ⟨hx⟩
  have hay : At ys i y := ⟨hy⟩
  have hbx := getX hxs hx
  have hby := getX hys hy
  have hxy : x.b = y.b := by rw [hbx] at hby; exact Option.some.inj hby
  have hln := hs _ (List.mem_of_getElem? hbx)
  refine C_sub (sub_peekX (v := .slice A sets.length c) (l := xs) (R := eI) (by repeat (first | exact .head _ | refine .tail _ ?_)) hx) ?_
  refine C_form (.head _) fun Ax cx hxv => ?_
  refine C_sub (sub_peekX (v := .slice B sets.length d) (l := ys) (R := eI) (by repeat (first | exact .head _ | refine .tail _ ?_)) hy) ?_
  refine C_form (.head _) fun Ay cy hyv => ?_
  have hec : EncC (eSX eI) x [.slice Ax x.b.length cx] := ⟨fun m cs h => by rw [h.1, hxv]⟩
  have hec2 : EncC (eSX eI) y [.slice Ay y.b.length cy] := ⟨fun m cs h => by rw [h.1, hyv]⟩
  rw [hxv, hyv]
  repeat' (first | refine go ?_ | intro _ | (apply cG; first | refine cT ?_ | refine cF ?_ | refine cS (fun _ => ?_) fun _ => ?_) | (apply gW; refine sW ?_) | (apply gI; refine sI ?_) | (apply gE; refine sE ?_) | (apply gP; refine sP ?_) | (apply gC; refine sC ?_) | (apply gD; refine sD ?_) | fail)
  refine C_draw (n := 99) [rd (eSX eI) (.slice A sets.length c) xs, rd (eSX eI) (.slice B sets.length d) ys] [(0, 1), (1, 1), (2, 1), (3, 1), (4, 1), (5, 1), (6, 1), (7, 1), (8, 0), (9, 1)] (by kernel_rfl) (by kernel_rfl) Sb ?_
  repeat' (first | refine go ?_ | intro _ | (apply cG; first | refine cT ?_ | refine cF ?_ | refine cS (fun _ => ?_) fun _ => ?_) | (apply gW; refine sW ?_) | (apply gI; refine sI ?_) | (apply gE; refine sE ?_) | (apply gP; refine sP ?_) | (apply gC; refine sC ?_) | (apply gD; refine sD ?_) | fail)
  refine D_op rfl ?_; refine X_d (dy_call ArgsI.pf (by first | exact rfl | trivial | (intro a b; rfl)) (SameInts_ct (la := x.b) (lb := y.b) (q := true) (.inl (by repeat (first | exact .head _ | refine .tail _ ?_))) (.inl (by repeat (first | exact .head _ | refine .tail _ ?_))) (by omega) (by rw [← hxy]; omega) (decide_eq_true hxy))) ?_; rintro _ _ ⟨_, ⟨rfl, hLL⟩, rfl⟩; replace hLL := hLL.symm; subst hLL; refine ⟨(by first | exact .inl rfl | exact .inr Sb), D_n ?_⟩
  repeat' (first | refine go ?_ | intro _ | (apply cG; first | refine cT ?_ | refine cF ?_ | refine cS (fun _ => ?_) fun _ => ?_) | (apply gW; refine sW ?_) | (apply gI; refine sI ?_) | (apply gE; refine sE ?_) | (apply gP; refine sP ?_) | (apply gC; refine sC ?_) | (apply gD; refine sD ?_) | fail)
  exact E_round (i + 1) hil (by omega) ⟨rfl, trivial⟩ Sb
end
end Go.Proofs.Yteeapkfakehocaa
