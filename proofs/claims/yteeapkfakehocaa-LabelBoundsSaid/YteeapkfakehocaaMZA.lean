/-
  Rows of rows that are all one's own. No program.
-/
import Derived.Test.YteeapkfakehocaaMQ
import Derived.Test.YteeapkfakehocaaMZ
namespace Go.Proofs.Yteeapkfakehocaa
open Go Go.RowKit
set_option linter.unusedVariables false
set_option linter.unusedSimpArgs false
def rwF {α : Type} (E : TypeId) (R : Enc α) (q : SlV) (l : List α) : HP := own E R (.slice q.1 q.2.1 q.2.2) l
/-- own rows, one for each bare slice -/
def rows {α : Type} (E : TypeId) (R : Enc α) (vs : List SlV) (ls : List (List α)) : HP := Go.Proofs.Yteeapkfakehocaa.sp (List.zipWith (rwF E R) vs ls)
section
variable {P : Program} {W0 w : World} {L L' : List HP}
theorem sub_perm (h : L.Perm L') : Sub L L' := fun m x s => s.perm h
theorem sub_rows0 {α : Type} {E : TypeId} {R : Enc α} : Sub L (rows E R [] [] :: L) := sub_close (Ls := [])
theorem zip_mid {α β γ : Type} {f : α → β → γ} {d1 d2 : List α} {l1 l2 : List β} {q : α} {x : β} (h : d1.length = l1.length) : List.zipWith f (d1 ++ q :: d2) (l1 ++ x :: l2) = List.zipWith f d1 l1 ++ f q x :: List.zipWith f d2 l2 := by
  rw [List.zipWith_append h]
  rfl
theorem sub_rowsOut {α : Type} {E : TypeId} {R : Enc α} {d1 d2 : List SlV} {l1 l2 : List (List α)} {q : SlV} {x : List α} (h : d1.length = l1.length) : Sub (rows E R (d1 ++ q :: d2) (l1 ++ x :: l2) :: L) (own E R (.slice q.1 q.2.1 q.2.2) x :: rows E R (d1 ++ d2) (l1 ++ l2) :: L) := by
  unfold rows
  rw [zip_mid h, List.zipWith_append h]
  refine Sub.trans sub_open ?_
  refine Sub.trans (sub_perm (L' := rwF E R q x :: ((List.zipWith (rwF E R) d1 l1 ++ List.zipWith (rwF E R) d2 l2) ++ L)) ?_) (sub_skip sub_close)
  rw [List.append_assoc, List.append_assoc]
  exact List.perm_middle
theorem sub_rowsIn {α : Type} {E : TypeId} {R : Enc α} {d1 d2 : List SlV} {l1 l2 : List (List α)} {A : Option Addr} {n c : Nat} {x : List α} (h : d1.length = l1.length) : Sub (own E R (.slice A n c) x :: rows E R (d1 ++ d2) (l1 ++ l2) :: L) (rows E R (d1 ++ (A, n, c) :: d2) (l1 ++ x :: l2) :: L) := by
  unfold rows
  rw [zip_mid h, List.zipWith_append h]
  refine Sub.trans (sub_skip sub_open) ?_
  refine Sub.trans (sub_perm (L' := (List.zipWith (rwF E R) d1 l1 ++ rwF E R (A, n, c) x :: List.zipWith (rwF E R) d2 l2) ++ L) ?_) sub_close
  rw [List.append_assoc, List.append_assoc]
  exact List.perm_middle.symm
theorem sub_rowsSnoc {α : Type} {E : TypeId} {R : Enc α} {vs : List SlV} {ls : List (List α)} {A : Option Addr} {n c : Nat} {x : List α} (h : vs.length = ls.length) : Sub (own E R (.slice A n c) x :: rows E R vs ls :: L) (rows E R (vs ++ [(A, n, c)]) (ls ++ [x]) :: L) := by
  have := sub_rowsIn (L := L) (E := E) (R := R) (d2 := []) (l2 := []) (A := A) (n := n) (c := c) (x := x) h
  rw [List.append_nil, List.append_nil] at this
  exact this
theorem St.frzRows {α : Type} {E : TypeId} {R : Enc α} : ∀ {vs : List SlV} {ls : List (List α)} {L : List HP}, vs.length = ls.length → St W0 w (rows E R vs ls :: L) → St W0 w (faS R vs ls :: L)
  | [], [], L, _, s => s.weak fun m h k => sub_fa0 m h k.tail
  | q :: vs, x :: ls, L, h, s => by
    have s1 := s.weak (sub_rowsOut (d1 := []) (l1 := []) (q := q) (x := x) rfl)
    have s2 := s1.own_rd
    have s3 : St W0 w (rows E R vs ls :: Go.Proofs.Yteeapkfakehocaa.rd R (.slice q.1 q.2.1 q.2.2) x :: L) := s2.weak fun m h k => k.swap
    have s4 := St.frzRows (by simpa using h) s3
    refine s4.weak ?_
    rintro m h ⟨a, b, d, ha, hb, hA, c9, e, d2, hc, he, hB, hL⟩
    have hA' : All2 (fun q l => Sl m R (.slice q.1 q.2.1 q.2.2) l) vs ls := hA
    have hB' : Sl m R (.slice q.1 q.2.1 q.2.2) x := hB
    exact ⟨Hp.none, e, Hp.none_dj _, Hp.none_le _, he.trans hb, ⟨hB', hA'⟩, hL⟩
theorem C_frzRows {α : Type} {E : TypeId} {R : Enc α} {vs : List SlV} {ls : List (List α)} {c : Code} {a : Act} {Q : Exit → Act → World → Prop} (h : vs.length = ls.length) (k : CL P W0 (faS R vs ls :: L) c Q a) : CL P W0 (rows E R vs ls :: L) c Q a := ⟨fun w s => k.run w (s.frzRows h)⟩
theorem O_frzRows {α : Type} {E : TypeId} {R : Enc α} {vs : List SlV} {ls : List (List α)} {ops : Array Oper} {rest : List Oper} {a : Act} {Q : Exit → Act → World → Prop} (h : vs.length = ls.length) (k : OL P W0 (faS R vs ls :: L) ops Q rest a) : OL P W0 (rows E R vs ls :: L) ops Q rest a := ⟨fun w s => k.run w (s.frzRows h)⟩
theorem O_openX {α : Type} {Re : Enc α} {ops : Array Oper} {rest : List Oper} {a : Act} {Q : Exit → Act → World → Prop} {v : Value} {l : List (List α)} (hv : rd (eSl Re) v l ∈ L) (k : ∀ l' : List (SX α), l'.map SX.b = l → OL P W0 (rd (eSX Re) v l' :: L) ops Q rest a) : OL P W0 L ops Q rest a := ⟨fun w s => by
  obtain ⟨h1, h2, h3, h4, m, h, hm, hw, hh, d, hL⟩ := s
  obtain ⟨a, _, hs⟩ := hL.mem hv
  obtain ⟨l', e, hs'⟩ := Sl.openX hs
  exact (k l' e).run w ⟨h1, h2, h3, h4, m, h, hm, hw, hh, d, Hp.none, h, Hp.none_dj _, Hp.none_le _, Hp.le_refl _, hs', hL⟩⟩
end
end Go.Proofs.Yteeapkfakehocaa
namespace Go.Proofs.Yteeapkfakehocaa
open Go Go.RowKit
set_option linter.unusedVariables false
set_option linter.unusedSimpArgs false
set_option maxRecDepth 20000
set_option synthInstance.maxSize 100000
set_option synthInstance.maxHeartbeats 400000
section
variable {W0 : World} {L : List HP}
theorem CT_form {P : Program} {f : FuncId} {args : Array Value} {R : Value → List HP → Prop} {α : Type} {Re : Enc α} {v : Value} {l : List α} (h : rd Re v l ∈ L) (k : ∀ A c, v = .slice A l.length c → CT P f args W0 L R) : CT P f args W0 L R := by
  refine CT_fact (φ := ∃ A c, v = .slice A l.length c) (fun w s => ?_) fun ⟨A, c, e⟩ => k A c e
  obtain ⟨A, c, e, _⟩ := ((Src.sl (.inl h : Src L Re v l) s).form)
  exact ⟨A, c, e⟩
theorem bound11_ct {Ap : Option Addr} {cp p8 p10 n m nx : Nat} {xs : List (SX CHO)} {x y : SX CHO} {M : List HP} (hnx : xs.length = nx) (hp : rd (eSX eCH) (.slice Ap nx cp) xs ∈ M) (h8 : cel p8 [.slice Ap nx cp] 75 ∈ M) (h10 : cel p10 [.int .i64 (n : Int)] 3 ∈ M) (hx : xs[n]? = some x) (hy : xs[m]? = some y) (hxl : x.b.length ≤ 1000) (hyl : y.b.length ≤ 1000) (hl : xs.length ≤ 1000000) :
    CT Try.prog 50 #[.int .i64 (m : Int), .pointer (some ⟨p8, 0, none⟩), .pointer (some ⟨p10, 0, none⟩)] W0 M fun r L' => r = .bool (!exF x.b y.b) ∧ L' = M := by
  subst hnx
  have hi8 : InC p8 M [.slice Ap xs.length cp] 75 := ⟨h8⟩
  have hi10 : InC p10 M [.int .i64 (n : Int)] 3 := ⟨h10⟩
  have hsc : ScA Ap M xs.length cp (eSX eCH) xs := ⟨.inl hp⟩
  have hsd : Sc M (.slice Ap xs.length cp) (eSX eCH) xs := ⟨.inl hp⟩
  have hax : At xs n x := ⟨hx⟩
  have hay : At xs m y := ⟨hy⟩
  have hn := (List.getElem?_eq_some_iff.1 hx).1
  have hm := (List.getElem?_eq_some_iff.1 hy).1
  refine CT.sub ?_ (sub_peekX hp hx)
  refine CT.sub ?_ (sub_peekX (.tail _ hp) hy)
  refine CT_form (.head _) fun Ay cy hyv => ?_
  refine CT_form (.tail _ (.head _)) fun Ax cx hxv => ?_
  have hec : EncC (eSX eCH) x [.slice Ax x.b.length cx] := ⟨fun m cs h => by rw [h.1, hxv]⟩
  have hec2 : EncC (eSX eCH) y [.slice Ay y.b.length cy] := ⟨fun m cs h => by rw [h.1, hyv]⟩
  rw [hxv, hyv]
  refine CT_enter Try.func50 rfl ?_; (simp only [Try.ntmps50, List.size_toArray, List.length_cons, List.length_nil, Nat.reduceAdd, Nat.reduceSub, Array.replicate_succ, Array.replicate_zero, List.push_toArray, List.append_toArray, List.nil_append, List.cons_append])
  repeat' (first | refine go ?_ | intro _ | (apply cG; first | refine cT ?_ | refine cF ?_ | refine cS (fun _ => ?_) fun _ => ?_) | (apply gW; refine sW ?_) | (apply gI; refine sI ?_) | (apply gE; refine sE ?_) | (apply gP; refine sP ?_) | (apply gC; refine sC ?_) | (apply gD; refine sD ?_) | fail)
  refine C_draw (n := 99) (rd eCH (.slice Ay y.b.length cy) y.b :: rd eCH (.slice Ax x.b.length cx) x.b :: M) [(0, 1), (1, 1), (2, 1), (3, 1), (4, 1), (5, 1), (6, 1), (7, 1), (8, 0), (9, 1), (10, 1)] (by kernel_rfl) (by kernel_rfl) (Sub.refl _) ?_
  repeat' (first | refine go ?_ | intro _ | (apply cG; first | refine cT ?_ | refine cF ?_ | refine cS (fun _ => ?_) fun _ => ?_) | (apply gW; refine sW ?_) | (apply gI; refine sI ?_) | (apply gE; refine sE ?_) | (apply gP; refine sP ?_) | (apply gC; refine sC ?_) | (apply gD; refine sD ?_) | fail)
  refine D_op rfl ?_; refine X_d (dy_call ArgsI.pf (by first | exact rfl | trivial | (intro a b; rfl)) (exclude_ct (a := x.b) (b := y.b) (by repeat (first | exact .head _ | refine .tail _ ?_)) (by repeat (first | exact .head _ | refine .tail _ ?_)) hxl hyl)) ?_; rintro _ _ ⟨_, ⟨rfl, hLL⟩, rfl⟩; replace hLL := hLL.symm; subst hLL; refine ⟨(by first | exact .inl rfl | exact .inr Sb), D_n ?_⟩
  cases exF x.b y.b
  · repeat' (first | refine go ?_ | intro _ | (apply cG; first | refine cT ?_ | refine cF ?_ | refine cS (fun _ => ?_) fun _ => ?_) | (apply gW; refine sW ?_) | (apply gI; refine sI ?_) | (apply gE; refine sE ?_) | (apply gP; refine sP ?_) | (apply gC; refine sC ?_) | (apply gD; refine sD ?_) | fail)
    refine E_res1 (by rfl) (by rfl) ⟨rfl, rfl⟩ Sb
  · repeat' (first | refine go ?_ | intro _ | (apply cG; first | refine cT ?_ | refine cF ?_ | refine cS (fun _ => ?_) fun _ => ?_) | (apply gW; refine sW ?_) | (apply gI; refine sI ?_) | (apply gE; refine sE ?_) | (apply gP; refine sP ?_) | (apply gC; refine sC ?_) | (apply gD; refine sD ?_) | fail)
    refine E_res1 (by rfl) (by rfl) ⟨rfl, rfl⟩ Sb
theorem check1cb_ct {Ap : Option Addr} {cp p8 p10 n m nx : Nat} {xs : List (SX CHO)} {x y : SX CHO} {M : List HP} (hnx : xs.length = nx) (hp : rd (eSX eCH) (.slice Ap nx cp) xs ∈ M) (h8 : cel p8 [.slice Ap nx cp] 75 ∈ M) (h10 : cel p10 [.int .i64 (n : Int)] 3 ∈ M) (hx : xs[n]? = some x) (hy : xs[m]? = some y) (hxl : x.b.length ≤ 1000) (hyl : y.b.length ≤ 1000) (hl : xs.length ≤ 1000000) :
    CT Try.prog 57 #[.int .i64 (m : Int), .pointer (some ⟨p8, 0, none⟩), .pointer (some ⟨p10, 0, none⟩)] W0 M fun r L' => r = .bool (!exF x.b y.b) ∧ L' = M := by
  subst hnx
  have hi8 : InC p8 M [.slice Ap xs.length cp] 75 := ⟨h8⟩
  have hi10 : InC p10 M [.int .i64 (n : Int)] 3 := ⟨h10⟩
  have hsc : ScA Ap M xs.length cp (eSX eCH) xs := ⟨.inl hp⟩
  have hsd : Sc M (.slice Ap xs.length cp) (eSX eCH) xs := ⟨.inl hp⟩
  have hax : At xs n x := ⟨hx⟩
  have hay : At xs m y := ⟨hy⟩
  have hn := (List.getElem?_eq_some_iff.1 hx).1
  have hm := (List.getElem?_eq_some_iff.1 hy).1
  refine CT.sub ?_ (sub_peekX hp hx)
  refine CT.sub ?_ (sub_peekX (.tail _ hp) hy)
  refine CT_form (.head _) fun Ay cy hyv => ?_
  refine CT_form (.tail _ (.head _)) fun Ax cx hxv => ?_
  have hec : EncC (eSX eCH) x [.slice Ax x.b.length cx] := ⟨fun m cs h => by rw [h.1, hxv]⟩
  have hec2 : EncC (eSX eCH) y [.slice Ay y.b.length cy] := ⟨fun m cs h => by rw [h.1, hyv]⟩
  rw [hxv, hyv]
  refine CT_enter Try.func57 rfl ?_; (simp only [Try.ntmps57, List.size_toArray, List.length_cons, List.length_nil, Nat.reduceAdd, Nat.reduceSub, Array.replicate_succ, Array.replicate_zero, List.push_toArray, List.append_toArray, List.nil_append, List.cons_append])
  repeat' (first | refine go ?_ | intro _ | (apply cG; first | refine cT ?_ | refine cF ?_ | refine cS (fun _ => ?_) fun _ => ?_) | (apply gW; refine sW ?_) | (apply gI; refine sI ?_) | (apply gE; refine sE ?_) | (apply gP; refine sP ?_) | (apply gC; refine sC ?_) | (apply gD; refine sD ?_) | fail)
  refine C_draw (n := 99) (rd eCH (.slice Ay y.b.length cy) y.b :: rd eCH (.slice Ax x.b.length cx) x.b :: M) [(0, 1), (1, 1), (2, 1), (3, 1), (4, 1), (5, 1), (6, 1), (7, 1), (8, 0), (9, 1), (10, 1)] (by kernel_rfl) (by kernel_rfl) (Sub.refl _) ?_
  repeat' (first | refine go ?_ | intro _ | (apply cG; first | refine cT ?_ | refine cF ?_ | refine cS (fun _ => ?_) fun _ => ?_) | (apply gW; refine sW ?_) | (apply gI; refine sI ?_) | (apply gE; refine sE ?_) | (apply gP; refine sP ?_) | (apply gC; refine sC ?_) | (apply gD; refine sD ?_) | fail)
  refine D_op rfl ?_; refine X_d (dy_call ArgsI.pf (by first | exact rfl | trivial | (intro a b; rfl)) (exclude_ct (a := x.b) (b := y.b) (by repeat (first | exact .head _ | refine .tail _ ?_)) (by repeat (first | exact .head _ | refine .tail _ ?_)) hxl hyl)) ?_; rintro _ _ ⟨_, ⟨rfl, hLL⟩, rfl⟩; replace hLL := hLL.symm; subst hLL; refine ⟨(by first | exact .inl rfl | exact .inr Sb), D_n ?_⟩
  cases exF x.b y.b
  · repeat' (first | refine go ?_ | intro _ | (apply cG; first | refine cT ?_ | refine cF ?_ | refine cS (fun _ => ?_) fun _ => ?_) | (apply gW; refine sW ?_) | (apply gI; refine sI ?_) | (apply gE; refine sE ?_) | (apply gP; refine sP ?_) | (apply gC; refine sC ?_) | (apply gD; refine sD ?_) | fail)
    refine E_res1 (by rfl) (by rfl) ⟨rfl, rfl⟩ Sb
  · repeat' (first | refine go ?_ | intro _ | (apply cG; first | refine cT ?_ | refine cF ?_ | refine cS (fun _ => ?_) fun _ => ?_) | (apply gW; refine sW ?_) | (apply gI; refine sI ?_) | (apply gE; refine sE ?_) | (apply gP; refine sP ?_) | (apply gC; refine sC ?_) | (apply gD; refine sD ?_) | fail)
    refine E_res1 (by rfl) (by rfl) ⟨rfl, rfl⟩ Sb
/-- where the possible positions lie -/
theorem fit_any {l : List AK} {t : List BX} {xs : List (SX CHO)} (hxs : xs.map SX.b = l.map fun a => choF a t) {n : Nat} {x : SX CHO} (hx : xs[n]? = some x) : posI l t (n : Int) = x.b := by
  have h1 : (l.map fun a => choF a t)[n]? = some x.b := by rw [← hxs, List.getElem?_map, hx]; rfl
  rw [List.getElem?_map] at h1
  obtain ⟨a, ha, e⟩ := Option.map_eq_some_iff.1 h1
  rw [posI_at ha, e]
theorem fit_not (l : List AK) (t : List BX) (n : Int) (s : List Int) : fitF l t n s = !s.any fun m => !exF (posI l t n) (posI l t m) := by
  unfold fitF
  rw [List.all_eq_not_any_not]
theorem bound1_ct {A Ap : Option Addr} {c cp p8 p10 n nx : Nat} {l : List AK} {t : List BX} {xs : List (SX CHO)} {s : List Int} {M : List HP} (hnx : xs.length = nx) (hxs : xs.map SX.b = l.map fun a => choF a t) (hs : Src M eI (.slice A s.length c) s) (hp : rd (eSX eCH) (.slice Ap nx cp) xs ∈ M) (h8 : cel p8 [.slice Ap nx cp] 75 ∈ M) (h10 : cel p10 [.int .i64 (n : Int)] 3 ∈ M) (hn : n < l.length) (hr : ∀ m ∈ s, 0 ≤ m ∧ m < l.length) (hl : l.length ≤ 1000000) (hsl : s.length ≤ 1000000000) :
    CT Try.prog 49 #[.slice A s.length c, .pointer (some ⟨p8, 0, none⟩), .pointer (some ⟨p10, 0, none⟩)] W0 M fun r L' => r = .bool (fitF l t n s) ∧ L' = M := by
  have eg : Enters Try.prog 50 := by first | exact rfl | trivial | (intro a b; rfl)
  have hxl : xs.length = l.length := by
    have := congrArg List.length hxs
    rwa [List.length_map, List.length_map] at this
  have hxb : ∀ x ∈ xs, x.b.length ≤ 1000 := fun x hx => by
    have : x.b ∈ l.map fun a => choF a t := by rw [← hxs]; exact List.mem_map.2 ⟨x, hx, rfl⟩
    obtain ⟨a, _, e⟩ := List.mem_map.1 this
    rw [← e]
    exact Nat.le_trans (cho_len a t) (by decide)
  obtain ⟨x, hx⟩ : ∃ x, xs[n]? = some x := ⟨_, List.getElem?_eq_getElem (by omega)⟩
  refine CT_enter Try.func49 rfl ?_; (simp only [Try.ntmps49, List.size_toArray, List.length_cons, List.length_nil, Nat.reduceAdd, Nat.reduceSub, Array.replicate_succ, Array.replicate_zero, List.push_toArray, List.append_toArray, List.nil_append, List.cons_append])
  repeat' (first | refine go ?_ | intro _ | (apply cG; first | refine cT ?_ | refine cF ?_ | refine cS (fun _ => ?_) fun _ => ?_) | (apply gW; refine sW ?_) | (apply gI; refine sI ?_) | (apply gE; refine sE ?_) | (apply gP; refine sP ?_) | (apply gC; refine sC ?_) | (apply gD; refine sD ?_) | fail)
  refine O_d (dy_call ArgsI.pf (by first | exact rfl | trivial | (intro a b; rfl)) (ConIS_ct (φ := fun m => !exF (posI l t n) (posI l t m)) eg hs hsl (fun z hz => by
      have hzr := hr z hz
      obtain ⟨m, rfl⟩ : ∃ m : Nat, z = (m : Int) := ⟨z.toNat, by omega⟩
      obtain ⟨y, hy⟩ : ∃ y, xs[m]? = some y := ⟨_, List.getElem?_eq_getElem (by omega)⟩
      rw [fit_any hxs hx, fit_any hxs hy]
      exact bound11_ct hnx hp h8 h10 hx hy (hxb x (List.mem_of_getElem? hx)) (hxb y (List.mem_of_getElem? hy)) (by omega)))) ?_; rintro _ _ ⟨_, ⟨rfl, hLL⟩, rfl⟩; replace hLL := hLL.symm; subst hLL; refine O_n ?_
  rw [fit_not]
  cases s.any fun m => !exF (posI l t n) (posI l t m)
  · repeat' (first | refine go ?_ | intro _ | (apply cG; first | refine cT ?_ | refine cF ?_ | refine cS (fun _ => ?_) fun _ => ?_) | (apply gW; refine sW ?_) | (apply gI; refine sI ?_) | (apply gE; refine sE ?_) | (apply gP; refine sP ?_) | (apply gC; refine sC ?_) | (apply gD; refine sD ?_) | fail)
    refine E_res1 (by rfl) (by rfl) ⟨rfl, rfl⟩ Sb
  · repeat' (first | refine go ?_ | intro _ | (apply cG; first | refine cT ?_ | refine cF ?_ | refine cS (fun _ => ?_) fun _ => ?_) | (apply gW; refine sW ?_) | (apply gI; refine sI ?_) | (apply gE; refine sE ?_) | (apply gP; refine sP ?_) | (apply gC; refine sC ?_) | (apply gD; refine sD ?_) | fail)
    refine E_res1 (by rfl) (by rfl) ⟨rfl, rfl⟩ Sb
theorem own_form {α : Type} {E : TypeId} {R : Enc α} {v : Value} {l : List α} {w : World} (s : St W0 w (own E R v l :: L)) : ∃ A c, v = .slice A l.length c := by
  obtain ⟨A, c, e, _⟩ := ((Src.sl (.inr ⟨E, .head _⟩ : Src (own E R v l :: L) R v l) s).form)
  exact ⟨A, c, e⟩
theorem split_at {α : Type} {l : List α} {i : Nat} {x : α} (h : l[i]? = some x) : l = l.take i ++ x :: l.drop (i + 1) ∧ (l.take i).length = i := by
  have hi := (List.getElem?_eq_some_iff.1 h).1
  refine ⟨?_, by rw [List.length_take]; omega⟩
  conv => lhs; rw [← List.take_append_drop i l]
  rw [List.drop_eq_getElem_cons hi, (List.getElem?_eq_some_iff.1 h).2]
theorem IdxSets_ct {A : Option Addr} {c : Nat} {vs : List SlV} {ls : List (List Int)} {gf : FuncId} {B : Array Value} {φ : List Int → Bool} (eg : Enters Try.prog gf) (hvl : vs.length = ls.length) (hl : ls.length ≤ 1000000000)
    (hcl : ∀ (Aq : Option Addr) (cq : Nat) (x : List Int) (X Y : HP), x ∈ ls → CT Try.prog gf (#[.slice Aq x.length cq] ++ B) W0 (own 3 eI (.slice Aq x.length cq) x :: X :: Y :: L) fun r L' => r = .bool (φ x) ∧ L' = own 3 eI (.slice Aq x.length cq) x :: X :: Y :: L) :
    CT Try.prog 48 #[.slice A vs.length c, .func (.func gf) #[] B] W0 (own 22 eSV (.slice A vs.length c) vs :: rows 3 eI vs ls :: L) fun r L' => r = .int .i64 (idxF φ ls 0) ∧ L' = own 22 eSV (.slice A vs.length c) vs :: rows 3 eI vs ls :: L := by
  refine CT_enter Try.func48 rfl ?_; (simp only [Try.ntmps48, List.size_toArray, List.length_cons, List.length_nil, Nat.reduceAdd, Nat.reduceSub, Array.replicate_succ, Array.replicate_zero, List.push_toArray, List.append_toArray, List.nil_append, List.cons_append])
  repeat' (first | refine go ?_ | intro _ | (apply cG; first | refine cT ?_ | refine cF ?_ | refine cS (fun _ => ?_) fun _ => ?_) | (apply gW; refine sW ?_) | (apply gI; refine sI ?_) | (apply gE; refine sE ?_) | (apply gP; refine sP ?_) | (apply gC; refine sC ?_) | (apply gD; refine sD ?_) | fail)
  refine C_loopS (κ := Nat) [false, false, false, false, true, true, false, false, true, true, true, true, true, true, true, true, true, true, true] (fun k => [(8, .int .i64 (k : Int))]) (fun k => []) (fun k => k ≤ ls.length ∧ idxF φ ls 0 = idxF φ (ls.drop k) (k : Int)) (fun k => ls.length - k) 0 ⟨Nat.zero_le _, rfl⟩ ⟨rfl, trivial⟩ ?_
  rintro i u ⟨hi, hx⟩
  ((try dsimp only); refine C_n ?_; (try simp only [Nat.reduceAdd, Nat.zero_add]))
  by_cases hlt : i < ls.length
  rotate_left
  · obtain rfl : i = ls.length := by omega
    rw [List.drop_length] at hx
    rw [hx]
    repeat' (first | refine go ?_ | intro _ | (apply cG; first | refine cT ?_ | refine cF ?_ | refine cS (fun _ => ?_) fun _ => ?_) | (apply gW; refine sW ?_) | (apply gI; refine sI ?_) | (apply gE; refine sE ?_) | (apply gP; refine sP ?_) | (apply gC; refine sC ?_) | (apply gD; refine sD ?_) | fail)
    refine E_res1 (by rfl) (by rfl) ⟨rfl, rfl⟩ Sb
  obtain ⟨x, hxi⟩ : ∃ x, ls[i]? = some x := ⟨_, List.getElem?_eq_getElem hlt⟩
  obtain ⟨⟨Aq, nq, cq⟩, hqi⟩ : ∃ q, vs[i]? = some q := ⟨_, List.getElem?_eq_getElem (by omega)⟩
  have hax : At vs i (Aq, nq, cq) := ⟨hqi⟩
  rw [idxF_drop hxi] at hx
  obtain ⟨hs1, hl1⟩ := split_at hqi
  obtain ⟨hs2, hl2⟩ := split_at hxi
  obtain ⟨d1, hd1⟩ : ∃ d1, vs.take i = d1 := ⟨_, rfl⟩
  obtain ⟨d2, hd2⟩ : ∃ d2, vs.drop (i + 1) = d2 := ⟨_, rfl⟩
  obtain ⟨l1, hl1'⟩ : ∃ l1, ls.take i = l1 := ⟨_, rfl⟩
  obtain ⟨l2, hl2'⟩ : ∃ l2, ls.drop (i + 1) = l2 := ⟨_, rfl⟩
  rw [hd1, hd2] at hs1
  rw [hl1', hl2'] at hs2
  rw [hd1] at hl1
  rw [hl1'] at hl2
  have hrw : rows 3 eI vs ls = rows 3 eI (d1 ++ (Aq, nq, cq) :: d2) (l1 ++ x :: l2) := by rw [← hs1, ← hs2]
  refine C_sub (S := own 3 eI (.slice Aq nq cq) x :: own 22 eSV (.slice A vs.length c) vs :: rows 3 eI (d1 ++ d2) (l1 ++ l2) :: L) ?_ ?_
  · rw [hrw]
    exact Sub.trans (sub_perm (List.Perm.swap _ _ _)) (Sub.trans (sub_rowsOut (by omega)) (sub_skip (sub_perm (List.Perm.swap _ _ _))))
  refine C_fact (fun w s => own_form s) ?_
  rintro ⟨A9, c9, e9⟩
  injection e9 with e1 e2 e3
  subst e1 e2 e3
  repeat' (first | refine go ?_ | intro _ | (apply cG; first | refine cT ?_ | refine cF ?_ | refine cS (fun _ => ?_) fun _ => ?_) | (apply gW; refine sW ?_) | (apply gI; refine sI ?_) | (apply gE; refine sE ?_) | (apply gP; refine sP ?_) | (apply gC; refine sC ?_) | (apply gD; refine sD ?_) | fail)
  refine O_d (dy_callv Ev.pf ArgsI.pf (by simp only [List.append_toArray, List.nil_append, List.append_nil, List.cons_append] <;> exact rfl) eg (hcl Aq cq x _ _ (List.mem_of_getElem? hxi))) ?_; rintro _ _ ⟨_, ⟨rfl, hLL⟩, rfl⟩; replace hLL := hLL.symm; subst hLL; refine O_n ?_
  refine O_sub (S := own 22 eSV (.slice A vs.length c) vs :: rows 3 eI vs ls :: L) ?_ ?_
  · rw [hrw]
    exact Sub.trans (sub_skip (sub_perm (List.Perm.swap _ _ _))) (Sub.trans (sub_rowsIn (by omega)) (sub_perm (List.Perm.swap _ _ _)))
  cases hφ : φ x
  · rw [hφ] at hx
    repeat' (first | refine go ?_ | intro _ | (apply cG; first | refine cT ?_ | refine cF ?_ | refine cS (fun _ => ?_) fun _ => ?_) | (apply gW; refine sW ?_) | (apply gI; refine sI ?_) | (apply gE; refine sE ?_) | (apply gP; refine sP ?_) | (apply gC; refine sC ?_) | (apply gD; refine sD ?_) | fail)
    exact E_round (i + 1) ⟨hlt, by rw [hx]; rfl⟩ (by omega) ⟨rfl, trivial⟩ Sb
  · rw [hφ] at hx
    rw [hx]
    repeat' (first | refine go ?_ | intro _ | (apply cG; first | refine cT ?_ | refine cF ?_ | refine cS (fun _ => ?_) fun _ => ?_) | (apply gW; refine sW ?_) | (apply gI; refine sI ?_) | (apply gE; refine sE ?_) | (apply gP; refine sP ?_) | (apply gC; refine sC ?_) | (apply gD; refine sD ?_) | fail)
    refine E_res1 (by rfl) (by rfl) ⟨rfl, rfl⟩ Sb
end
end Go.Proofs.Yteeapkfakehocaa
namespace Go.Proofs.Yteeapkfakehocaa
open Go Go.RowKit
set_option linter.unusedVariables false
set_option linter.unusedSimpArgs false
set_option maxRecDepth 20000
set_option synthInstance.maxSize 100000
set_option synthInstance.maxHeartbeats 400000
/-- one label more, into the first set that it fits -/
def addF (l : List AK) (t : List BX) (s : List (List Int)) (n : Int) : List (List Int) :=
  if posI l t n = [] then s else if idxF (fitF l t n) s 0 < 0 then s ++ [[n]] else s.set (idxF (fitF l t n) s 0).toNat (s.getD (idxF (fitF l t n) s 0).toNat [] ++ [n])
def setsN (l : List AK) (t : List BX) (n : Nat) : List (List Int) := (List.range n).foldl (fun s (k : Nat) => addF l t s (k : Int)) []
def setsF (l : List AK) (t : List BX) : List (List Int) := setsN l t l.length
theorem setsN_succ (l : List AK) (t : List BX) (n : Nat) : setsN l t (n + 1) = addF l t (setsN l t n) (n : Int) := by
  unfold setsN
  rw [List.range_succ, List.foldl_append]
  rfl
theorem idxF_range {α : Type} {φ : α → Bool} : ∀ {l : List α} {i : Int}, 0 ≤ i → (idxF φ l i = -1 ∧ ∀ x ∈ l, φ x = false) ∨ ∃ (k : Nat) (x : α), l[k]? = some x ∧ φ x = true ∧ idxF φ l i = i + (k : Int)
  | [], i, _ => .inl ⟨rfl, fun _ h => (by cases h)⟩
  | a :: l, i, h => by
    unfold idxF
    by_cases ha : φ a = true
    · rw [if_pos ha]
      exact .inr ⟨0, a, rfl, ha, by simp⟩
    · rw [if_neg ha]
      rcases idxF_range (l := l) (i := i + 1) (by omega) with ⟨h1, h2⟩ | ⟨k, x, h1, h2, h3⟩
      · refine .inl ⟨h1, fun x hx => ?_⟩
        rcases List.mem_cons.1 hx with rfl | hx
        · simpa using ha
        · exact h2 x hx
      · exact .inr ⟨k + 1, x, by simpa using h1, h2, by rw [h3]; omega⟩
/-- what a label does to the sets -/
theorem addF_cases (l : List AK) (t : List BX) (s : List (List Int)) (n : Int) : (posI l t n = [] ∧ addF l t s n = s) ∨
    (posI l t n ≠ [] ∧ idxF (fitF l t n) s 0 = -1 ∧ addF l t s n = s ++ [[n]]) ∨ (∃ (k : Nat) (x : List Int), posI l t n ≠ [] ∧ idxF (fitF l t n) s 0 = (k : Int) ∧ s[k]? = some x ∧ fitF l t n x = true ∧ addF l t s n = s.take k ++ (x ++ [n]) :: s.drop (k + 1)) := by
  unfold addF
  by_cases hp : posI l t n = []
  · rw [if_pos hp]
    exact .inl ⟨hp, rfl⟩
  rw [if_neg hp]
  rcases idxF_range (φ := fitF l t n) (l := s) (i := 0) (Int.le_refl _) with ⟨h1, _⟩ | ⟨k, x, h1, h2, h3⟩
  · rw [h1, if_pos (by decide)]
    exact .inr (.inl ⟨hp, rfl, rfl⟩)
  · rw [Int.zero_add] at h3
    rw [h3, if_neg (by omega), Int.toNat_natCast, List.getD_eq_getElem?_getD, h1, Option.getD_some]
    refine .inr (.inr ⟨k, x, hp, rfl, h1, h2, ?_⟩)
    obtain ⟨e1, e2⟩ := split_at h1
    conv => lhs; rw [e1]
    rw [mid_set e2]
theorem setsN_ok (l : List AK) (t : List BX) : ∀ n, (setsN l t n).length ≤ n ∧ ∀ s ∈ setsN l t n, s.length ≤ n ∧ ∀ m ∈ s, 0 ≤ m ∧ m < (n : Int)
  | 0 => ⟨Nat.le_refl _, fun _ h => (by cases h)⟩
  | n + 1 => by
    obtain ⟨h1, h2⟩ := setsN_ok l t n
    have up : ∀ s ∈ setsN l t n, s.length ≤ n + 1 ∧ ∀ m ∈ s, 0 ≤ m ∧ m < ((n + 1 : Nat) : Int) := fun s hs => ⟨by have := (h2 s hs).1; omega, fun m hm => by have := (h2 s hs).2 m hm; omega⟩
    rw [setsN_succ]
    rcases addF_cases l t (setsN l t n) (n : Int) with ⟨_, e⟩ | ⟨_, _, e⟩ | ⟨k, x, _, _, hk, _, e⟩
    · rw [e]
      exact ⟨by omega, up⟩
    · rw [e]
      refine ⟨by rw [List.length_append]; exact Nat.succ_le_succ h1, fun s hs => ?_⟩
      rcases List.mem_append.1 hs with hs | hs
      · exact up s hs
      · simp only [List.mem_cons, List.not_mem_nil, or_false] at hs
        subst hs
        refine ⟨by show 1 ≤ n + 1; omega, fun m hm => ?_⟩
        simp only [List.mem_cons, List.not_mem_nil, or_false] at hm
        omega
    · have hkl := (List.getElem?_eq_some_iff.1 hk).1
      rw [e]
      refine ⟨?_, fun s hs => ?_⟩
      · rw [List.length_append, List.length_cons, List.length_take, List.length_drop]
        omega
      · rcases List.mem_append.1 hs with hs | hs
        · exact up s (List.mem_of_mem_take hs)
        · rcases List.mem_cons.1 hs with rfl | hs
          · have := up x (List.mem_of_getElem? hk)
            have h3 := (h2 x (List.mem_of_getElem? hk)).1
            refine ⟨by rw [List.length_append]; exact Nat.succ_le_succ h3, fun m hm => ?_⟩
            rcases List.mem_append.1 hm with hm | hm
            · exact this.2 m hm
            · simp only [List.mem_cons, List.not_mem_nil, or_false] at hm
              omega
          · exact up s (List.mem_of_mem_drop hs)
section
variable {W0 : World} {L : List HP}
set_option maxHeartbeats 2000000 in
theorem Bound_ct {A A2 : Option Addr} {c c2 : Nat} {l : List AK} {t : List BX} (hv : rd eAK (.slice A l.length c) l ∈ L) (hv2 : rd eBX (.slice A2 t.length c2) t ∈ L) (hc : checkF l t = 0) :
    CT Try.prog 26 #[.slice A l.length c, .slice A2 t.length c2] W0 L fun r L' => ∃ A3 c3, r = .tuple #[.int .i64 (sumF25 l (setsF l t)), .slice A3 (setsF l t).length c3, .int .i64 0] ∧ L' = rd (eSl eI) (.slice A3 (setsF l t).length c3) (setsF l t) :: L := by
  obtain ⟨hl64, ht256, hg, _⟩ := checkF_0 hc
  have eg : Enters Try.prog 49 := by first | exact rfl | trivial | (intro a b; rfl)
  refine CT.sub ?_ (sub_dup hv2)
  refine CT.sub ?_ (sub_dup (.tail _ hv))
  refine CT_enter Try.func26 rfl ?_; (simp only [Try.ntmps26, List.size_toArray, List.length_cons, List.length_nil, Nat.reduceAdd, Nat.reduceSub, Array.replicate_succ, Array.replicate_zero, List.push_toArray, List.append_toArray, List.nil_append, List.cons_append])
  repeat' (first | refine go ?_ | intro _ | (apply cG; first | refine cT ?_ | refine cF ?_ | refine cS (fun _ => ?_) fun _ => ?_) | (apply gW; refine sW ?_) | (apply gI; refine sI ?_) | (apply gE; refine sE ?_) | (apply gP; refine sP ?_) | (apply gC; refine sC ?_) | (apply gD; refine sD ?_) | fail)
  refine O_d (dy_call ArgsI.pf (by first | exact rfl | trivial | (intro a b; rfl)) (check_ct (l := l) (t := t) (by repeat (first | exact .head _ | refine .tail _ ?_)) (by repeat (first | exact .head _ | refine .tail _ ?_)))) ?_; rintro _ _ ⟨_, ⟨rfl, hLL⟩, rfl⟩; replace hLL := hLL.symm; subst hLL; refine O_n ?_
  rw [hc]
  repeat' (first | refine go ?_ | intro _ | (apply cG; first | refine cT ?_ | refine cF ?_ | refine cS (fun _ => ?_) fun _ => ?_) | (apply gW; refine sW ?_) | (apply gI; refine sI ?_) | (apply gE; refine sE ?_) | (apply gP; refine sP ?_) | (apply gC; refine sC ?_) | (apply gD; refine sD ?_) | fail)
  refine O_d (dy_call ArgsI.pf (by first | exact rfl | trivial | (intro a b; rfl)) (choices_ct (l := l) (t := t) (by repeat (first | exact .head _ | refine .tail _ ?_)) (by repeat (first | exact .head _ | refine .tail _ ?_)) (by omega) (by omega))) ?_; rintro _ _ ⟨_, ⟨A7, c7, rfl, rfl⟩, rfl⟩; refine O_n ?_
  repeat' (first | refine go ?_ | intro _ | (apply cG; first | refine cT ?_ | refine cF ?_ | refine cS (fun _ => ?_) fun _ => ?_) | (apply gW; refine sW ?_) | (apply gI; refine sI ?_) | (apply gE; refine sE ?_) | (apply gP; refine sP ?_) | (apply gC; refine sC ?_) | (apply gD; refine sD ?_) | fail)
  rename_i p8
  refine C_openX (.tail _ (.head _)) fun xs hxs => ?_
  have hxl : xs.length = l.length := by
    have := congrArg List.length hxs
    rwa [List.length_map, List.length_map] at this
  refine C_sub (sub_rows0 (E := 3) (R := eI)) ?_
  refine C_ownnil 22 eSV ?_
  refine C_loopS (κ := Nat × List SlV × Option Addr × Nat) [false, false, false, false, false, false, false, false, false, true, true, true, false, false, false, false, false, false, false, false, false, false, false, true, true, true, true, true, true, true, true, true, true, true, true, true, true, true, true, true, true, true, true, true, true, true, true, true, true, true, true, true, true, false, false, false, false] (fun k => [(9, .slice k.2.2.1 k.2.1.length k.2.2.2), (23, .int .i64 (k.1 : Int))]) (fun k => [(0, own 22 eSV (.slice k.2.2.1 k.2.1.length k.2.2.2) k.2.1), (1, rows 3 eI k.2.1 (setsN l t k.1))]) (fun k => k.1 ≤ l.length ∧ k.2.1.length = (setsN l t k.1).length) (fun k => l.length - k.1) (0, [], none, 0) ⟨Nat.zero_le _, rfl⟩ ⟨rfl, rfl, trivial⟩ ?_
  rintro ⟨n, vs, A9, c9⟩ u ⟨hn, hvs⟩
  dsimp only at hn hvs
  dsimp only
  ((try dsimp only); refine C_n ?_; (try simp only [Nat.reduceAdd, Nat.zero_add]))
  by_cases hnl : n < l.length
  rotate_left
  · obtain rfl : n = l.length := by omega
    have hsl : setsN l t l.length = setsF l t := rfl
    obtain ⟨hso1, hso2⟩ := setsN_ok l t l.length
    rw [hsl] at hvs hso1 hso2 ⊢
    refine C_sub (sub_perm (List.Perm.swap _ _ _)) ?_
    refine C_frzRows hvs ?_
    refine C_sub sub_faOwn ?_
    refine C_frz 0 ?_
    rw [hvs]
    repeat' (first | refine go ?_ | intro _ | (apply cG; first | refine cT ?_ | refine cF ?_ | refine cS (fun _ => ?_) fun _ => ?_) | (apply gW; refine sW ?_) | (apply gI; refine sI ?_) | (apply gE; refine sE ?_) | (apply gP; refine sP ?_) | (apply gC; refine sC ?_) | (apply gD; refine sD ?_) | fail)
    refine O_d (dy_call ArgsI.pf (by first | exact rfl | trivial | (intro a b; rfl)) (total_ct (l := l) (sets := setsF l t) (by repeat (first | exact .head _ | refine .tail _ ?_)) (by repeat (first | exact .head _ | refine .tail _ ?_)) (by omega) hg (fun s hs => ⟨by have := (hso2 s hs).1; omega, fun m hm => by have := (hso2 s hs).2 m hm; omega⟩))) ?_; rintro _ _ ⟨_, ⟨rfl, hLL⟩, rfl⟩; replace hLL := hLL.symm; subst hLL; refine O_n ?_
    repeat' (first | refine go ?_ | intro _ | (apply cG; first | refine cT ?_ | refine cF ?_ | refine cS (fun _ => ?_) fun _ => ?_) | (apply gW; refine sW ?_) | (apply gI; refine sI ?_) | (apply gE; refine sE ?_) | (apply gP; refine sP ?_) | (apply gC; refine sC ?_) | (apply gD; refine sD ?_) | fail)
    refine E_res3 (by rfl) (by rfl) ⟨A9, c9, rfl, rfl⟩ Sb
  obtain ⟨x, hx⟩ : ∃ x, xs[n]? = some x := ⟨_, List.getElem?_eq_getElem (by omega)⟩
  have hax : At xs n x := ⟨hx⟩
  have hpx := fit_any (l := l) (t := t) hxs hx
  have hxlen : x.b.length ≤ 4 := by
    obtain ⟨a, ha⟩ : ∃ a, l[n]? = some a := ⟨_, List.getElem?_eq_getElem (by omega)⟩
    rw [← hpx, posI_at ha]
    exact cho_len a t
  obtain ⟨hso1, hso2⟩ := setsN_ok l t n
  refine C_sub (sub_peekX (v := .slice A7 l.length c7) (l := xs) (R := eCH) (by repeat (first | exact .head _ | refine .tail _ ?_)) hx) ?_
  refine C_form (.head _) fun Ax cx hxv => ?_
  have hec : EncC (eSX eCH) x [.slice Ax x.b.length cx] := ⟨fun m cs h => by rw [h.1, hxv]⟩
  rw [hxv]
  have hsu := setsN_succ l t n
  rcases addF_cases l t (setsN l t n) (n : Int) with ⟨hp, e⟩ | ⟨hp, hz, e⟩ | ⟨k, s, hp, hz, hk, _, e⟩
  · rw [e] at hsu
    rw [hpx] at hp
    have hx0 : x.b.length = 0 := by rw [hp]; rfl
    repeat' (first | refine go ?_ | intro _ | (apply cG; first | refine cT ?_ | refine cF ?_ | refine cS (fun _ => ?_) fun _ => ?_) | (apply gW; refine sW ?_) | (apply gI; refine sI ?_) | (apply gE; refine sE ?_) | (apply gP; refine sP ?_) | (apply gC; refine sC ?_) | (apply gD; refine sD ?_) | fail)
    exact E_round (n + 1, vs, A9, c9) ⟨hnl, by dsimp only; rw [hsu]; exact hvs⟩ (by dsimp only; omega) ⟨rfl, rfl, trivial⟩ (by dsimp only; rw [hsu]; exact Sb)
  · rw [e] at hsu
    rw [hpx] at hp
    have hx0 : x.b.length ≠ 0 := fun h => hp (List.length_eq_zero_iff.1 h)
    repeat' (first | refine go ?_ | intro _ | (apply cG; first | refine cT ?_ | refine cF ?_ | refine cS (fun _ => ?_) fun _ => ?_) | (apply gW; refine sW ?_) | (apply gI; refine sI ?_) | (apply gE; refine sE ?_) | (apply gP; refine sP ?_) | (apply gC; refine sC ?_) | (apply gD; refine sD ?_) | fail)
    rename_i p10
    refine O_sub (S := own 22 eSV (.slice A9 vs.length c9) vs :: rows 3 eI vs (setsN l t n) :: cel p10 [.int .i64 (n : Int)] 3 :: cel p8 [.slice A7 l.length c7] 75 :: rd (eSX eCH) (.slice A7 l.length c7) xs :: rd (eSl eCH) (.slice A7 l.length c7) (l.map fun a => choF a t) :: rd eAK (.slice A l.length c) l :: rd eBX (.slice A2 t.length c2) t :: L) Sb ?_
    refine O_d (dy_call ArgsI.pf (by first | exact rfl | trivial | (intro a b; rfl)) (IdxSets_ct (φ := fitF l t n) eg hvs (by omega) (fun Aq cq y X Y hy => bound1_ct hxl hxs (.inr ⟨_, .head _⟩) (.tail _ (.tail _ (.tail _ (.tail _ (.tail _ (.head _)))))) (.tail _ (.tail _ (.tail _ (.tail _ (.head _))))) (.tail _ (.tail _ (.tail _ (.head _)))) (by omega) (fun m hm => by have := (hso2 y hy).2 m hm; omega) (by omega) (by have := (hso2 y hy).1; omega)))) ?_; rintro _ _ ⟨_, ⟨rfl, hLL⟩, rfl⟩; replace hLL := hLL.symm; subst hLL; refine O_n ?_
    rw [hz]
    repeat' (first | refine go ?_ | intro _ | (apply cG; first | refine cT ?_ | refine cF ?_ | refine cS (fun _ => ?_) fun _ => ?_) | (apply gW; refine sW ?_) | (apply gI; refine sI ?_) | (apply gE; refine sE ?_) | (apply gP; refine sP ?_) | (apply gC; refine sC ?_) | (apply gD; refine sD ?_) | fail)
    refine O_d (dy_lit1 (R := eI) (n : Int) (hcs := by rfl) (hel := fun _ _ _ => by rfl)) ?_; rintro _ _ ⟨_, rfl, rfl⟩; refine O_n ?_
    rename_i g1
    refine O_d (dy_lit1 (R := eSV) ((some ⟨g1, 0, none⟩, 1, 1) : SlV) (hcs := by rfl) (hel := fun _ _ _ => by rfl)) ?_; rintro _ _ ⟨g2, rfl, rfl⟩; refine O_n ?_
    repeat' (first | refine go ?_ | intro _ | (apply cG; first | refine cT ?_ | refine cF ?_ | refine cS (fun _ => ?_) fun _ => ?_) | (apply gW; refine sW ?_) | (apply gI; refine sI ?_) | (apply gE; refine sE ?_) | (apply gP; refine sP ?_) | (apply gC; refine sC ?_) | (apply gD; refine sD ?_) | fail)
    rename_i A10 c10
    refine E_round (n + 1, vs ++ [(some ⟨g1, 0, none⟩, 1, 1)], A10, c10) ⟨hnl, by dsimp only; rw [hsu, List.length_append, List.length_append, hvs]; rfl⟩ (by dsimp only; omega) ⟨by dsimp only; rw [List.length_append]; rfl, rfl, trivial⟩ ?_
    dsimp only
    rw [hsu, List.length_append]
    exact Sub.trans (B := own 3 eI (.slice (some ⟨g1, 0, none⟩) 1 1) [(n : Int)] :: rows 3 eI vs (setsN l t n) :: own 22 eSV (.slice A10 (vs.length + 1) c10) (vs ++ [(some ⟨g1, 0, none⟩, 1, 1)]) :: cel p8 [.slice A7 l.length c7] 75 :: rd (eSX eCH) (.slice A7 l.length c7) xs :: rd (eSl eCH) (.slice A7 l.length c7) (l.map fun a => choF a t) :: rd eAK (.slice A l.length c) l :: rd eBX (.slice A2 t.length c2) t :: L) Sb (Sub.trans (sub_rowsSnoc hvs) Sb)
  · rw [e] at hsu
    rw [hpx] at hp
    have hx0 : x.b.length ≠ 0 := fun h => hp (List.length_eq_zero_iff.1 h)
    have hkl := (List.getElem?_eq_some_iff.1 hk).1
    obtain ⟨⟨Aq, nq, cq⟩, hqi⟩ : ∃ q, vs[k]? = some q := ⟨_, List.getElem?_eq_getElem (by omega)⟩
    obtain ⟨hs1, hl1⟩ := split_at hqi
    obtain ⟨hs2, hl2⟩ := split_at hk
    obtain ⟨d1, hd1⟩ : ∃ d1, vs.take k = d1 := ⟨_, rfl⟩
    obtain ⟨d2, hd2⟩ : ∃ d2, vs.drop (k + 1) = d2 := ⟨_, rfl⟩
    obtain ⟨l1, hl1'⟩ : ∃ l1, (setsN l t n).take k = l1 := ⟨_, rfl⟩
    obtain ⟨l2, hl2'⟩ : ∃ l2, (setsN l t n).drop (k + 1) = l2 := ⟨_, rfl⟩
    rw [hd1, hd2] at hs1
    rw [hl1', hl2'] at hs2 hsu
    rw [hd1] at hl1
    rw [hl1'] at hl2
    have hrw : rows 3 eI vs (setsN l t n) = rows 3 eI (d1 ++ (Aq, nq, cq) :: d2) (l1 ++ s :: l2) := by rw [← hs1, ← hs2]
    have hsl := (hso2 s (List.mem_of_getElem? hk)).1
    repeat' (first | refine go ?_ | intro _ | (apply cG; first | refine cT ?_ | refine cF ?_ | refine cS (fun _ => ?_) fun _ => ?_) | (apply gW; refine sW ?_) | (apply gI; refine sI ?_) | (apply gE; refine sE ?_) | (apply gP; refine sP ?_) | (apply gC; refine sC ?_) | (apply gD; refine sD ?_) | fail)
    rename_i p10
    refine O_sub (S := own 22 eSV (.slice A9 vs.length c9) vs :: rows 3 eI vs (setsN l t n) :: cel p10 [.int .i64 (n : Int)] 3 :: cel p8 [.slice A7 l.length c7] 75 :: rd (eSX eCH) (.slice A7 l.length c7) xs :: rd (eSl eCH) (.slice A7 l.length c7) (l.map fun a => choF a t) :: rd eAK (.slice A l.length c) l :: rd eBX (.slice A2 t.length c2) t :: L) Sb ?_
    refine O_d (dy_call ArgsI.pf (by first | exact rfl | trivial | (intro a b; rfl)) (IdxSets_ct (φ := fitF l t n) eg hvs (by omega) (fun Aq cq y X Y hy => bound1_ct hxl hxs (.inr ⟨_, .head _⟩) (.tail _ (.tail _ (.tail _ (.tail _ (.tail _ (.head _)))))) (.tail _ (.tail _ (.tail _ (.tail _ (.head _))))) (.tail _ (.tail _ (.tail _ (.head _)))) (by omega) (fun m hm => by have := (hso2 y hy).2 m hm; omega) (by omega) (by have := (hso2 y hy).1; omega)))) ?_; rintro _ _ ⟨_, ⟨rfl, hLL⟩, rfl⟩; replace hLL := hLL.symm; subst hLL; refine O_n ?_
    rw [hz]
    repeat' (first | refine go ?_ | intro _ | (apply cG; first | refine cT ?_ | refine cF ?_ | refine cS (fun _ => ?_) fun _ => ?_) | (apply gW; refine sW ?_) | (apply gI; refine sI ?_) | (apply gE; refine sE ?_) | (apply gP; refine sP ?_) | (apply gC; refine sC ?_) | (apply gD; refine sD ?_) | fail)
    refine C_sub (S := own 3 eI (.slice Aq nq cq) s :: own 22 eSV (.slice A9 vs.length c9) vs :: rows 3 eI (d1 ++ d2) (l1 ++ l2) :: cel p10 [.int .i64 (n : Int)] 3 :: cel p8 [.slice A7 l.length c7] 75 :: rd (eSX eCH) (.slice A7 l.length c7) xs :: rd (eSl eCH) (.slice A7 l.length c7) (l.map fun a => choF a t) :: rd eAK (.slice A l.length c) l :: rd eBX (.slice A2 t.length c2) t :: L) ?_ ?_
    · rw [hrw]
      exact Sub.trans (sub_perm (List.Perm.swap _ _ _)) (Sub.trans (sub_rowsOut (by omega)) (sub_skip (sub_perm (List.Perm.swap _ _ _))))
    refine C_fact (fun w s => own_form s) ?_
    rintro ⟨A11, c11, e11⟩
    injection e11 with e1 e2 e3
    subst e1 e2 e3
    have hat : At vs k (Aq, s.length, cq) := ⟨hqi⟩
    refine C_draw (n := 10) [own 22 eSV (.slice A9 vs.length c9) vs, cel p10 [.int .i64 (n : Int)] 3] [(0, 1), (1, 1), (2, 1), (3, 1), (4, 1), (5, 1), (6, 1), (7, 0), (8, 0), (9, 1), (10, 0)] (by kernel_rfl) (by kernel_rfl) Sb ?_
    repeat' (first | refine go ?_ | intro _ | (apply cG; first | refine cT ?_ | refine cF ?_ | refine cS (fun _ => ?_) fun _ => ?_) | (apply gW; refine sW ?_) | (apply gI; refine sI ?_) | (apply gE; refine sE ?_) | (apply gP; refine sP ?_) | (apply gC; refine sC ?_) | (apply gD; refine sD ?_) | fail)
    refine D_d rfl (dy_lit1 (R := eI) (n : Int) (hcs := by rfl) (hel := fun _ _ _ => by rfl)) ?_; rintro _ _ ⟨_, rfl, rfl⟩; refine ⟨(by first | exact .inl rfl | exact .inr Sb), D_n ?_⟩
    repeat' (first | refine go ?_ | intro _ | (apply cG; first | refine cT ?_ | refine cF ?_ | refine cS (fun _ => ?_) fun _ => ?_) | (apply gW; refine sW ?_) | (apply gI; refine sI ?_) | (apply gE; refine sE ?_) | (apply gP; refine sP ?_) | (apply gC; refine sC ?_) | (apply gD; refine sD ?_) | fail)
    rename_i A12 c12
    refine D_op rfl ?_; refine X_d (dy_storeE (f := fun q : SlV => .slice q.1 q.2.1 q.2.2) (hf := slv_one) (n := vs.length) (c := c9) ((A12, s.length + 1, c12) : SlV) (hy := Ev.pf) (hj := by omega)) ?_; rintro _ _ ⟨rfl, hLL⟩; replace hLL := hLL.trans SAt.pf; subst hLL; refine ⟨(by first | exact .inl rfl | exact .inr Sb), D_n ?_⟩
    repeat' (first | refine go ?_ | intro _ | (apply cG; first | refine cT ?_ | refine cF ?_ | refine cS (fun _ => ?_) fun _ => ?_) | (apply gW; refine sW ?_) | (apply gI; refine sI ?_) | (apply gE; refine sE ?_) | (apply gP; refine sP ?_) | (apply gC; refine sC ?_) | (apply gD; refine sD ?_) | fail)
    have hset : vs.set k (A12, s.length + 1, c12) = d1 ++ (A12, s.length + 1, c12) :: d2 := by
      conv => lhs; rw [hs1]
      rw [mid_set hl1]
    have hvl : (d1 ++ (A12, s.length + 1, c12) :: d2).length = vs.length := by
      conv => rhs; rw [hs1]
      simp
    rw [hset]
    refine E_round (n + 1, d1 ++ (A12, s.length + 1, c12) :: d2, A9, c9) ⟨hnl, by dsimp only; rw [hvl, hvs, hsu, hs2]; simp⟩ (by dsimp only; omega) ⟨by dsimp only; rw [hvl]; rfl, rfl, trivial⟩ ?_
    dsimp only
    rw [hsu, hvl]
    exact Sub.trans (B := own 3 eI (.slice A12 (s.length + 1) c12) (s ++ [(n : Int)]) :: rows 3 eI (d1 ++ d2) (l1 ++ l2) :: own 22 eSV (.slice A9 vs.length c9) (d1 ++ (A12, s.length + 1, c12) :: d2) :: cel p8 [.slice A7 l.length c7] 75 :: rd (eSX eCH) (.slice A7 l.length c7) xs :: rd (eSl eCH) (.slice A7 l.length c7) (l.map fun a => choF a t) :: rd eAK (.slice A l.length c) l :: rd eBX (.slice A2 t.length c2) t :: L) Sb (Sub.trans (sub_rowsIn (by omega)) Sb)
end
end Go.Proofs.Yteeapkfakehocaa
