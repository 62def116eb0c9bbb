/-
  My own engine: loops that say only which assertions they change; rows frozen in place.
-/
import Derived.Test.YtnjjifikogblpaaMF
namespace Go.Proofs.Ytnjjifikogblpaa
open Go Go.RowKit
set_option linter.unusedVariables false
set_option linter.unusedSimpArgs false
/-- some assertions replaced -/
class SAts {α : Type _} (l : List α) (ps : List (Nat × α)) (l' : outParam (List α)) : Prop where
  pf : ps.foldl (fun l p => l.set p.1 p.2) l = l'
instance sats0 {α : Type _} {l : List α} : SAts l [] l := ⟨rfl⟩
instance satsS {α : Type _} {l l1 l2 : List α} {i : Nat} {v : α} {ps : List (Nat × α)} [h : SAt l i v l1] [k : SAts l1 ps l2] : SAts l ((i, v) :: ps) l2 := ⟨by
  show List.foldl _ (l.set i v) ps = l2
  rw [h.pf]; exact k.pf⟩
/-- some cells, read -/
class ExL (l : List Value) (o s : Nat) (vs : outParam (List Value)) : Prop where
  pf : (l.drop o).take s = vs ∧ o + s ≤ l.length
instance exl00 {l : List Value} : ExL l 0 0 [] := ⟨by simp⟩
instance exl0S {l vs : List Value} {x : Value} {s : Nat} [h : ExL l 0 s vs] : ExL (x :: l) 0 (s + 1) (x :: vs) := ⟨by
  have := h.pf
  simp only [List.drop_zero, Nat.zero_add] at this
  simp only [List.drop_zero, List.take_succ_cons, this.1, List.length_cons, true_and]; omega⟩
instance exlS {l vs : List Value} {x : Value} {o s : Nat} [h : ExL l o s vs] : ExL (x :: l) (o + 1) s vs := ⟨by
  have := h.pf
  simp only [List.drop_succ_cons, this.1, List.length_cons, true_and]; omega⟩
/-- what lies at a place of a list: a fact of the context -/
class At {α : Type} (l : List α) (j : Nat) (x : outParam α) : Prop where
  pf : l[j]? = some x
theorem At.lt {α : Type} {l : List α} {j : Nat} {x : α} (h : At l j x) : j < l.length := (List.getElem?_eq_some_iff.1 h.pf).1
/-- an element's cells, known of the element alone -/
class EncC {α : Type} (R : Enc α) (x : α) (cs : outParam (List Value)) : Prop where
  pf : ∀ m cs', R.r m x cs' → cs' = cs
class Sz {α : Type} (R : Enc α) (s : outParam Nat) : Prop where
  pf : R.sz = s
section
variable {P : Program} {W0 w : World} {L L' S : List HP} {ops : Array Oper} {rest : List Oper} {o : Oper} {a a' : Act} {Q : Exit → Act → World → Prop}
  {d : Option Tmp} {ty : TypeId} {pos : String} {aft : Array Edge} {gd : Option (Nat × Bool)} {x y z : Operand} {v : Value} {t u : TypeId} {b : Nat}
instance svc_loadA {T : TypeId} {zv : Value} {s by_ o : Nat} {cs vs : List Value} [AG P t true] [TI P t zv s by_] [h : Ev a x (.pointer (some ⟨b, o, none⟩))] [h2 : InC b S cs T] [h3 : ExL cs o s vs] : SVc P W0 S ⟨d, .load t x, ty, pos, aft, gd⟩ a (.agg vs.toArray) :=
  ⟨sv_loadA h.pf h2.pf h3.pf.2 h3.pf.1⟩
instance svc_fieldA {i off ft sz by_ : Nat} {zv : Value} {l vs : List Value} [fd : FD P t i off ft] [ag : AG P ft true] [ti : TI P ft zv sz by_] [h : Ev a x (.agg l.toArray)] [h2 : ExL l off sz vs] : SVc P W0 S ⟨d, .field t x i, ty, pos, aft, gd⟩ a (.agg vs.toArray) :=
  ⟨sv_fieldA h.pf (by
    have := h2.pf.1
    apply Array.ext_getElem?
    intro i
    rw [← this]
    simp [List.getElem?_take, Array.getElem?_extract])⟩
/-- an element of several cells, loaded -/
instance svc_loadEA {zv : Value} {s by_ j n c : Nat} {A : Option Addr} {α : Type} {R : Enc α} {l : List α} {el : α} {vs : List Value} [AG P t true] [TI P t zv s by_] [h : Ev a x (elp A j s 0)] [h2 : ScA A S n c R l] [h3 : At l j el] [h4 : Sz R s] [h5 : EncC R el vs] : SVc P W0 S ⟨d, .load t x, ty, pos, aft, gd⟩ a (.agg vs.toArray) :=
  ⟨sv_loadEA h.pf (h2.pf).all h4.pf h3.pf (fun w _ cs hc => h5.pf _ _ hc)⟩
/-- a field of an element -/
instance svc_loadF {s j o n c : Nat} {A : Option Addr} {α : Type} {R : Enc α} {l : List α} {el : α} {vs : List Value} [AG P t false] [h : Ev a x (elp A j s o)] [h2 : ScA A S n c R l] [h3 : At l j el] [h4 : Sz R s] [h5 : EncC R el vs] [h6 : GA vs o v] : SVc P W0 S ⟨d, .load t x, ty, pos, aft, gd⟩ a v :=
  ⟨sv_loadF h.pf (h2.pf).all h4.pf h3.pf (fun w _ cs hc => by rw [h5.pf _ _ hc]; exact h6.pf)⟩
instance svc_faE {i off ft sz by_ j s n c o o' : Nat} {A : Option Addr} {zv : Value} {α : Type} {R : Enc α} {l : List α} {el : α} [fd : FD P t i off ft] [ti : TI P ft zv sz by_] [p0 : PosN sz] [h : Ev a x (elp A j s o)] [h2 : ScA A S n c R l] [h3 : At l j el] [ha : AddN o off o'] : SVc P W0 S ⟨d, .fieldAddr t x i, ty, pos, aft, gd⟩ a (elp A j s o') := ⟨⟨fun w hS => by
  obtain ⟨b, o1, cs, T, fr, cc, hA, hb, hc, hcell⟩ := ((h2.pf).all w hS).at_ h3.pf
  subst hA
  rw [← ha.pf]
  obtain ⟨fs, f, hu, hf, rfl, rfl⟩ := fd.pf
  have hp := p0.pf
  have hne : ¬ sz = 0 := by omega
  unfold execOp
  simp [h.pf, elp, Instr.fieldAt, run_underlying hu, hf, Instr.sureAddr, fieldPlace, sizeOf_run (P := P) (t := f.type), hne, add0, Nat.add_assoc]⟩⟩
/-- part of an element, loaded -/
instance (priority := low) svc_loadEP {zv : Value} {s sz by_ j o n c : Nat} {A : Option Addr} {α : Type} {R : Enc α} {l : List α} {el : α} {cs vs : List Value} [AG P t true] [TI P t zv sz by_] [h : Ev a x (elp A j s o)] [h2 : ScA A S n c R l] [h3 : At l j el] [h4 : Sz R s] [h5 : EncC R el cs] [h6 : ExL cs o sz vs] : SVc P W0 S ⟨d, .load t x, ty, pos, aft, gd⟩ a (.agg vs.toArray) := ⟨⟨fun w hS => by
  obtain ⟨b, off, cs0, T, fr, cc, hA, hb, hc, hcell⟩ := ((h2.pf).all w hS).at_ h3.pf
  subst hA
  obtain rfl := h4.pf
  obtain rfl := h5.pf _ _ hc
  have h6' := h6.pf
  have hb' : w.heap[b]? = some (.cells cs0 T fr) := hb
  have e : a.eval x = .pointer (some ⟨b, off + j * R.sz + o, none⟩) := by rw [h.pf]; simp [elp, add0]
  have := loadAgg_run (P := P) (w := w) (t := t) (p := ⟨b, off + j * R.sz + o, none⟩) (cs := vs) (by rw [← h6'.1]; simp; omega) (fun i v hi => by
    rw [add0]
    rw [← h6'.1, List.getElem?_take] at hi
    split at hi
    · rw [List.getElem?_drop] at hi
      have := hcell _ v hi
      rw [← Nat.add_assoc] at this
      simp [World.cell?, hb', this]
    · cases hi)
  unfold execOp; simp [e, this]⟩⟩
theorem dy_storeG {zv : Value} {sz by_ : Nat} [TI P t zv sz by_] {T : TypeId} {off i : Nat} {cs cs' vs : List Value} (hx : a.eval x = .pointer (some ⟨b, off, none⟩) := by exact Ev.pf) (hy : a.eval y = .agg vs.toArray := by exact Ev.pf) (h1 : (vs.all fun v => v.oneCell') = true := by rfl) (hs : LenI vs sz := by infer_instance) (hm : L[i]? = some (cel b cs T) := by exact IxC.pf) (hsp : SpL cs off vs cs' := by infer_instance) :
    DY P W0 L ⟨d, .store t x y, ty, pos, aft, gd⟩ a fun a' L' => a.put d undef = a' ∧ L' = L.set i (cel b cs' T) :=
  dy_storeA hx hy h1 hs.pf hm (by have := hsp.pf.2; rw [hs.pf] at this; exact this) (by have := hsp.pf.1; rw [hs.pf] at this; exact this)
theorem Src.el {α : Type} {R : Enc α} {A : Option Addr} {n c j : Nat} {l : List α} {el : α} {m h W : Hp} (hs : Src L R (.slice A n c) l) (hL : SepL m L h) (hw : m.le W) (hh : h.le W) (hl : l[j]? = some el) :
    ∃ b off cs T fr cc, A = some ⟨b, off, none⟩ ∧ W b = some (.cells cs T fr) ∧ R.r m el cc ∧ ∀ i u, cc[i]? = some u → cs[off + j * R.sz + i]? = some u := by
  rcases hs with hm | ⟨E, hm⟩
  · obtain ⟨y, hy, k⟩ := hL.mem hm
    obtain ⟨b, off, cs, T, fr, cc, h1, h2, h3, h4⟩ := Sl.at_ k hl
    exact ⟨b, off, cs, T, fr, cc, h1, hw _ _ h2, h3, h4⟩
  · obtain ⟨y, hy, css, ha, k⟩ := hL.mem hm
    rcases k with ⟨_, rfl⟩ | ⟨g, cap, cur, hv, hg, hc, _, hsz, ht⟩
    · simp at hl
    · injection hv with e1 e2 e3
      obtain ⟨cc, hcc, hr⟩ := ha.get hl
      refine ⟨g, 0, cur, E, (0, 0), cc, e1, hh _ _ (hy _ _ hg), hr, fun i u hi => ?_⟩
      have hlt : i < R.sz := by
        rw [← R.len hr]
        exact (List.getElem?_eq_some_iff.1 hi).1
      have h5 : css.flatten[j * R.sz + i]? = some u := by rw [flat_get ha.lens hcc hlt]; exact hi
      rw [← ht, List.getElem?_take] at h5
      split at h5
      · rw [Nat.zero_add]; simpa using h5
      · cases h5
/-- an element that is a slice, loaded -/
theorem dy_loadS {j n c : Nat} {A : Option Addr} {α : Type} {R : Enc α} {l : List (List α)} {el : List α} [AG P t false] (hx : a.eval x = elp A j 1 0 := by exact Ev.pf) (hs : Src L (eSl R) (.slice A n c) l := by exact ScA.pf) (hl : l[j]? = some el := by first | exact At.pf | assumption) :
    DY P W0 L ⟨d, .load t x, ty, pos, aft, gd⟩ a fun a' L' => ∃ A' c', a.put d (.slice A' el.length c') = a' ∧ L' = rd R (.slice A' el.length c') el :: L := by
  refine ⟨fun w s => ?_⟩
  obtain ⟨h1, h2, h3, h4, m, h, hm, hw, hh, dj, hL⟩ := s
  obtain ⟨b, off, cs, T, fr, cc, hA, hb, ⟨v, rfl, hv⟩, hcell⟩ := hs.el hL hw hh hl
  have h1' := hcell 0 v rfl
  have hb' : w.heap[b]? = some (.cells cs T fr) := hb
  have e : a.eval x = .pointer (some ⟨b, off + j, none⟩) := by rw [hx, hA]; simp [elp, add0, Addr.add]
  have e1 : (eSl R).sz = 1 := rfl
  rw [e1] at h1'
  have hc' : w.cell? ⟨b, off + j, none⟩ = some v := by
    simp only [Nat.mul_one, Nat.add_zero] at h1'
    simp [World.cell?, hb', h1']
  obtain ⟨A', c', rfl, hcap⟩ := hv.form
  unfold Oper.wp
  have hr : (execOp a.eval (⟨d, .load t x, ty, pos, aft, gd⟩ : Oper)).run P w = .ok (.value (.slice A' el.length c')) w := by
    unfold execOp; simp [e, load_run (P := P) (t := t) hc']
  rw [hr]
  exact ⟨_, ⟨_, _, rfl, rfl⟩, h1, h2, h3, h4, m, h, hm, hw, hh, dj, Hp.none, h, Hp.none_dj _, Hp.none_le _, Hp.le_refl _, hv, hL⟩
theorem sub_dup {α : Type} {R : Enc α} {v : Value} {l : List α} (h : rd R v l ∈ L) : Sub L (rd R v l :: L) := fun m hp s => by
  obtain ⟨y, hy, k⟩ := s.mem h
  exact ⟨Hp.none, hp, Hp.none_dj _, Hp.none_le _, Hp.le_refl _, k, s⟩
theorem rd_mem {α : Type} {R : Enc α} {v : Value} {l : List α} {m h : Hp} (s : SepL m L h) (hm : rd R v l ∈ L) : Sl m R v l := by
  obtain ⟨y, hy, k⟩ := s.mem hm
  exact k
theorem C_loopS {κ : Type} {c : Code} {LI : κ → List HP} (ms : List Bool) (ps : κ → List (Nat × Value)) (As : κ → List (Nat × HP)) [hs : ∀ k, SAts L (As k) (LI k)] (φ : κ → Prop) (μ : κ → Nat) (k0 : κ) (h0 : φ k0) (ha : Agr a (ps k0))
    (round : ∀ k u, φ k → CL P W0 (LI k) c (Exit.then (RE W0 a ms ps LI φ μ (μ k)) Q) (frm a ms u (ps k))) (hL : Sub L (LI k0) := by exact Sub.refl _) : CL P W0 L (.loop c) Q a :=
  C_loop ms ps LI φ μ k0 h0 ha hL round
theorem St.frz {α : Type} {E : TypeId} {R : Enc α} {v : Value} {l : List α} {i : Nat} (h : L[i]? = some (own E R v l)) (s : St W0 w L) : St W0 w (L.set i (Go.Proofs.Ytnjjifikogblpaa.rd R v l)) :=
  ((s.at_ h).own_rd).back h
theorem O_frz (i : Nat) {α : Type} {E : TypeId} {R : Enc α} {v : Value} {l : List α} (k : OL P W0 L' ops Q rest a) (h : L[i]? = some (own E R v l) := by rfl) (hL : L.set i (rd R v l) = L' := by exact SAt.pf) : OL P W0 L ops Q rest a := by
  subst hL; exact ⟨fun w s => k.run w (s.frz h)⟩
theorem C_frz (i : Nat) {c : Code} {α : Type} {E : TypeId} {R : Enc α} {v : Value} {l : List α} (k : CL P W0 L' c Q a) (h : L[i]? = some (own E R v l) := by rfl) (hL : L.set i (rd R v l) = L' := by exact SAt.pf) : CL P W0 L c Q a := by
  subst hL; exact ⟨fun w s => k.run w (s.frz h)⟩
theorem E_frz (i : Nat) {e : Exit} {α : Type} {E : TypeId} {R : Enc α} {v : Value} {l : List α} (k : EL W0 L' Q e a) (h : L[i]? = some (own E R v l) := by rfl) (hL : L.set i (rd R v l) = L' := by exact SAt.pf) : EL W0 L Q e a := by
  subst hL; exact ⟨fun w s => k.run w (s.frz h)⟩
theorem O_rdnil {α : Type} (R : Enc α) (A : Option Addr) (c : Nat) (k : OL P W0 (rd R (.slice A 0 c) ([] : List α) :: L) ops Q rest a) : OL P W0 L ops Q rest a := ⟨fun w s => k.run w (s.rd_nil R A c)⟩
theorem E_rdnil {e : Exit} {α : Type} (R : Enc α) (A : Option Addr) (c : Nat) (k : EL W0 (rd R (.slice A 0 c) ([] : List α) :: L) Q e a) : EL W0 L Q e a := ⟨fun w s => k.run w (s.rd_nil R A c)⟩
theorem C_rdnil {c' : Code} {α : Type} (R : Enc α) (A : Option Addr) (c : Nat) (k : CL P W0 (rd R (.slice A 0 c) ([] : List α) :: L) c' Q a) : CL P W0 L c' Q a := ⟨fun w s => k.run w (s.rd_nil R A c)⟩
/-! ### a drawn region's operation, said -/
structure DX (P : Program) (W0 : World) (S : List HP) (n : Nat) (l : List Oper) (Q : Exit → Act → World → Prop) (br : Bool) (i m : Nat) (o : Oper) (r : List (Nat × Nat)) (L : List HP) (a : Act) : Prop where
  run : l[i]? = some o → DL P W0 S n l Q br ((i, m) :: r) L a
section
variable {n i m : Nat} {l : List Oper} {br : Bool} {r : List (Nat × Nat)}
theorem D_op (ho : l[i]? = some o) (k : DX P W0 S n l Q br i m o r L a) : DL P W0 S n l Q br ((i, m) :: r) L a := k.run ho
theorem X_s (h : SV P W0 S o a v) (k : DL P W0 S n l Q br r L a') (hw : Region.wanted o (yielded l.toArray a.tmps) = true := by rfl) (hp : a.put o.dst v = a' := by exact Put.pf) : DX P W0 S n l Q br i 1 o r L a := ⟨fun ho => D_sv ho hw h hp k⟩
theorem X_p (h : ∀ W0, SV P W0 [] o a v) (k : DL P W0 S n l Q br r L a') (hw : Region.wanted o (yielded l.toArray a.tmps) = true := by rfl) (hp : a.put o.dst v = a' := by exact Put.pf) : DX P W0 S n l Q br i (m + 2) o r L a := ⟨fun ho => D_pu ho hw h hp k⟩
theorem X_o1 (k : DL P W0 S n l Q br r L a') (hw : Region.wanted o (yielded l.toArray a.tmps) = false := by rfl) (hp : a.put o.dst undef = a' := by exact Put.pf) : DX P W0 S n l Q br i 1 o r L a := ⟨fun ho => D_off1 ho hw hp k⟩
theorem X_o2 (k : DL P W0 S n l Q br r L a') (hw : Region.wanted o (yielded l.toArray a.tmps) = false := by rfl) (hp : a.put o.dst undef = a' := by exact Put.pf) : DX P W0 S n l Q br i (m + 2) o r L a := ⟨fun ho => D_off2 ho hw hp k⟩
theorem X_o0 (hS : Sub L S) (k : DL P W0 S n l Q (br || i == n) r L a') (hw : Region.wanted o (yielded l.toArray a.tmps) = false := by rfl) (hp : a.put o.dst undef = a' := by exact Put.pf) : DX P W0 S n l Q br i 0 o r L a := ⟨fun ho => D_off0 ho hw hS hp k⟩
theorem X_d {br' : Bool} {R : Act → List HP → Prop} (h : DY P W0 L o a R) (k : ∀ a' L', R a' L' → (br' = true ∨ Sub L' S) ∧ DL P W0 S n l Q br' r L' a') (hw : Region.wanted o (yielded l.toArray a.tmps) = true := by rfl) (hb : (br || i == n) = br' := by rfl) : DX P W0 S n l Q br i 0 o r L a := ⟨fun ho => D_dy ho hw h hb k⟩
theorem X_split1 {p : Prop} {aT aF : Act} (hT : p → SV P W0 S o a (.bool true)) (hF : ¬ p → SV P W0 S o a (.bool false))
    (kT : p → DL P W0 S n l Q br r L aT) (kF : ¬ p → DL P W0 S n l Q br r L aF) (hw : Region.wanted o (yielded l.toArray a.tmps) = true := by rfl) (hpT : a.put o.dst (.bool true) = aT := by exact Put.pf) (hpF : a.put o.dst (.bool false) = aF := by exact Put.pf) : DX P W0 S n l Q br i 1 o r L a := ⟨fun ho => D_split1 ho hT hF kT kF hw hpT hpF⟩
theorem X_split2 {p : Prop} {aT aF : Act} (hT : ∀ W0, p → SV P W0 [] o a (.bool true)) (hF : ∀ W0, ¬ p → SV P W0 [] o a (.bool false))
    (kT : p → DL P W0 S n l Q br r L aT) (kF : ¬ p → DL P W0 S n l Q br r L aF) (hw : Region.wanted o (yielded l.toArray a.tmps) = true := by rfl) (hpT : a.put o.dst (.bool true) = aT := by exact Put.pf) (hpF : a.put o.dst (.bool false) = aF := by exact Put.pf) : DX P W0 S n l Q br i (m + 2) o r L a := by
  refine ⟨fun ho => ?_⟩
  by_cases h : p
  · exact D_pu ho hw (fun W0 => hT W0 h) hpT (kT h)
  · exact D_pu ho hw (fun W0 => hF W0 h) hpF (kF h)
end
instance {α : Type} {f : α → Value} {hf : ∀ a, (f a).oneCell' = true} : Sz (e1 f hf) 1 := ⟨rfl⟩
instance {α : Type} {f : α → Value} {hf : ∀ a, (f a).oneCell' = true} {x : α} : EncC (e1 f hf) x [f x] := ⟨fun _ _ h => h⟩
instance {x : Int} : EncC eI x [.int .i64 x] := ⟨fun _ _ h => h⟩
instance {x : UInt8} : EncC eB x [.int .u8 (x.toNat : Int)] := ⟨fun _ _ h => h⟩
instance : Sz eI 1 := ⟨rfl⟩
instance : Sz eB 1 := ⟨rfl⟩
instance : Sz eU 1 := ⟨rfl⟩
end
end Go.Proofs.Ytnjjifikogblpaa
namespace Go.Proofs.Ytnjjifikogblpaa
open Go Go.RowKit
set_option linter.unusedVariables false
set_option linter.unusedSimpArgs false
def resS (a : Act) (r : ResultVar) : Sem Value := match r with
  | .tmp t => pure (a.tmps.getD t undef)
  | .cell c t => do loadVar t (← asAddr (a.tmps.getD c undef))
class RV (P : Program) (L : List HP) (a : Act) (r : ResultVar) (v : outParam Value) : Prop where
  run : ∀ W0 w, St W0 w L → (resS a r).run P w = .ok v w
section
variable {P : Program} {W0 w : World} {L L' L2 S : List HP} {a : Act} {v v' v'' : Value} {b : Nat}
instance rv_t {t : Tmp} [h : Ev a (.tmp t) v] : RV P L a (.tmp t) v := ⟨fun W0 w _ => by
  have := h.pf
  simp only [Act.eval] at this
  simp [resS, this]⟩
instance rv_c {c : Tmp} {t T : TypeId} {o : Nat} {cs : List Value} [AG P t false] [h : Ev a (.tmp c) (.pointer (some ⟨b, o, none⟩))] [h2 : InC b L cs T] [h3 : GA cs o v] : RV P L a (.cell c t) v := ⟨fun W0 w s => by
  have := h.pf
  simp only [Act.eval] at this
  have h4 := load_run (P := P) (t := t) (s.cellAt h2.pf h3.pf)
  simp only [Instr.loadAt, Instr.sureAddr] at h4
  simp only [resS]
  rw [this]
  simpa [asAddr] using h4⟩
instance rv_a {c : Tmp} {t T : TypeId} {zv : Value} {sz by_ o : Nat} {cs vs : List Value} [AG P t true] [TI P t zv sz by_] [h : Ev a (.tmp c) (.pointer (some ⟨b, o, none⟩))] [h2 : InC b L cs T] [h3 : ExL cs o sz vs] : RV P L a (.cell c t) (.agg vs.toArray) := ⟨fun W0 w s => by
  have := h.pf
  simp only [Act.eval] at this
  have h4 := loadAgg_run (P := P) (w := w) (t := t) (p := ⟨b, o, none⟩) (cs := vs) (by have := h3.pf; rw [← this.1]; simp; omega) (fun j v hj => by
    rw [add0]
    refine s.cellAt h2.pf ?_
    rw [← h3.pf.1, List.getElem?_take] at hj
    split at hj
    · simpa using hj
    · cases hj)
  simp only [Instr.loadAt, Instr.sureAddr] at h4
  simp only [resS]
  rw [this]
  simpa [asAddr] using h4⟩
theorem results_resS (fn : Func) (a : Act) : results fn a.tmps = (do
  let vs ← fn.results.mapM (resS a)
  pure (if h : vs.size = 1 then vs[0] else .tuple vs)) := by
  unfold results
  have e : ∀ (f g : ResultVar → Sem Value) (K : Array Value → Sem Value), (∀ r, f r = g r) → (do let vs ← fn.results.mapM f; K vs) = (do let vs ← fn.results.mapM g; K vs) := fun f g K h => by
    rw [funext h]
  refine e _ _ _ fun r => ?_
  cases r <;> rfl
theorem E_res1 {fn : Func} {R : Value → List HP → Prop} {r : ResultVar} (hr : fn.results = #[r]) (hd : a.defers = []) [h1 : RV P L a r v] (hR : R v L2) (hS : Sub L L2) : EL W0 L (bodyPost P fn (RR W0 R)) .ret a := by
  refine ⟨fun w s => bodyPost_ret (v := v) ?_ hd ⟨_, _, rfl, hR, hS.st s⟩⟩
  have g1 := h1.run W0 w s
  rw [results_resS, hr]
  simp [g1]
theorem E_res2 {fn : Func} {R : Value → List HP → Prop} {r r' : ResultVar} (hr : fn.results = #[r, r']) (hd : a.defers = []) [h1 : RV P L a r v] [h2 : RV P L a r' v'] (hR : R (.tuple #[v, v']) L2) (hS : Sub L L2) : EL W0 L (bodyPost P fn (RR W0 R)) .ret a := by
  refine ⟨fun w s => bodyPost_ret (v := (.tuple #[v, v'])) ?_ hd ⟨_, _, rfl, hR, hS.st s⟩⟩
  have g1 := h1.run W0 w s
  have g2 := h2.run W0 w s
  rw [results_resS, hr]
  simp [g1, g2]
theorem E_res3 {fn : Func} {R : Value → List HP → Prop} {r r' r'' : ResultVar} (hr : fn.results = #[r, r', r'']) (hd : a.defers = []) [h1 : RV P L a r v] [h2 : RV P L a r' v'] [h3 : RV P L a r'' v''] (hR : R (.tuple #[v, v', v'']) L2) (hS : Sub L L2) : EL W0 L (bodyPost P fn (RR W0 R)) .ret a := by
  refine ⟨fun w s => bodyPost_ret (v := (.tuple #[v, v', v''])) ?_ hd ⟨_, _, rfl, hR, hS.st s⟩⟩
  have g1 := h1.run W0 w s
  have g2 := h2.run W0 w s
  have g3 := h3.run W0 w s
  rw [results_resS, hr]
  simp [g1, g2, g3]
/-! ### a literal of structs -/
theorem fill_aggs {sz : Nat} : ∀ (css : List (List Value)) (k : Nat) (acc : List Value), (∀ c ∈ css, c.length = sz) → acc.length = (k + css.length) * sz →
    Instr.fill (fun i => some (i * sz, sz)) acc.toArray ((css.zipIdx k).map fun p => (p.2, Value.agg p.1.toArray)) = some (acc.take (k * sz) ++ css.flatten).toArray
  | [], k, acc, _, h => by
    simp only [List.length_nil, Nat.add_zero] at h
    simp only [List.zipIdx_nil, List.map_nil, Instr.fill, List.flatten_nil, List.append_nil]
    rw [List.take_of_length_le (by omega)]
  | c :: r, k, acc, hc, h => by
    have hcl := hc c (.head _)
    simp only [List.length_cons] at h
    have e1 : (k + (r.length + 1)) * sz = k * sz + sz + r.length * sz := by rw [Nat.add_mul, Nat.add_mul]; omega
    rw [e1] at h
    simp only [List.zipIdx_cons, List.map_cons]
    unfold Instr.fill
    simp only [Value.cells, List.size_toArray]
    rw [if_neg (by simp; omega)]
    have := fold_splice c (k * sz) 0 acc (by omega)
    simp only [Nat.add_zero] at this
    rw [← Array.foldl_toList, Array.toList_zipIdx, this]
    rw [fill_aggs r (k + 1) _ (fun x hx => hc x (.tail _ hx)) (by
      have e3 : (k + 1 + r.length) * sz = k * sz + sz + r.length * sz := by rw [Nat.add_mul, Nat.add_mul, Nat.one_mul]
      rw [e3]; simp only [List.length_append, List.length_take, List.length_drop]; omega)]
    congr 2
    have e2 : (k + 1) * sz = (acc.take (k * sz) ++ c).length := by
      rw [List.length_append, List.length_take, Nat.add_mul]; omega
    rw [e2, List.take_left', List.flatten_cons, List.append_assoc]
    rfl
theorem dy_litA {d : Option Tmp} {ty : TypeId} {pos : String} {aft : Array Edge} {gd : Option (Nat × Bool)} {t : TypeId} {n : Nat} {ps : List (Nat × Operand)} {vs : List (Nat × Value)} {e : TypeId} {zv : Value} {sz by_ : Nat} [ut : UL P t (.slice e)] [ti : TI P e zv sz by_] [hps : PartsI a ps vs] {α : Type} {R : Enc α} (els : List α) (css : List (List Value))
    (hp : vs = (css.zipIdx 0).map fun p => (p.2, Value.agg p.1.toArray)) (hel : ∀ m h, SepL m L h → All2 (R.r m) els css) (hn : css.length = n := by rfl) (hlens : ∀ c ∈ css, c.length = sz := by simp) (hR : R.sz = sz := by rfl) (hpos : 0 < n := by decide) (hs0 : 0 < sz := by decide) (hsm : n * sz ≤ 16777216 := by decide) (hml : n ≤ 16777216 := by decide) (hnl : els.length = n := by rfl) :
    DY P W0 L ⟨d, .buildSlice t n ps.toArray, ty, pos, aft, gd⟩ a fun a' L' => ∃ g, a.put d (.slice (some ⟨g, 0, none⟩) n n) = a' ∧ L' = own e R (.slice (some ⟨g, 0, none⟩) n n) els :: L := by
  refine dy_lit (n := n) (sz := sz) (R := R) (l := els) (css := css) (cells := css.flatten) ?_ hsm (Nat.mul_pos hpos hs0) hnl hR hel rfl hml
  have hq : ((ps.toArray.map fun (i, x) => (i, a.eval x)).toList) = vs := by rw [List.map_toArray]; exact hps.pf
  rw [hq, hp]
  have h := fill_aggs (sz := sz) css 0 ((Array.range (n * sz)).map (zv.cells[· % zv.cells.size]!)).toList hlens (by simp [hn])
  rw [Nat.zero_mul, List.take_zero, List.nil_append, Array.toArray_toList] at h
  exact h
/-! ### one list of assertions out of another -/
class IxH (A : HP) (L : List HP) (i : outParam Nat) : Prop where
  pf : L[i]? = some A
instance ixh_s {A B : HP} {L : List HP} {i : Nat} [h : IxH A L i] : IxH A (B :: L) (i + 1) := ⟨by simpa using h.pf⟩
instance ixh_0 {A : HP} {L : List HP} : IxH A (A :: L) 0 := ⟨rfl⟩
theorem sub_ix {A : HP} {i : Nat} {Le : List HP} [h : IxH A L i] [he : EAt L i Le] (k : Sub Le S) : Sub L (A :: S) := sub_cons h.pf (by rw [he.pf]; exact k)
theorem sub_at {A : HP} (i : Nat) {Le : List HP} [he : EAt L i Le] (k : Sub Le S) (h : L[i]? = some A := by rfl) : Sub L (A :: S) := sub_cons h (by rw [he.pf]; exact k)
theorem Sb (h : Sub L S := by repeat (first | exact Sub.refl _ | exact sub_nil | refine sub_ix ?_ | refine sub_at 0 ?_ | refine sub_at 1 ?_ | refine sub_at 2 ?_ | refine sub_at 3 ?_ | refine sub_at 4 ?_ | refine sub_at 5 ?_ | refine sub_at 6 ?_ | refine sub_at 7 ?_ | refine sub_at 8 ?_ | refine sub_drop ?_)) : Sub L S := h
end
end Go.Proofs.Ytnjjifikogblpaa
namespace Go.Proofs.Ytnjjifikogblpaa
open Go Go.RowKit
set_option linter.unusedVariables false
set_option linter.unusedSimpArgs false
section
variable {P : Program} {W0 w : World} {L L' S : List HP} {ops : Array Oper} {rest : List Oper} {o : Oper} {a a' aT aF : Act} {Q : Exit → Act → World → Prop}
  {d : Option Tmp} {ty : TypeId} {pos : String} {aft : Array Edge} {gd : Option (Nat × Bool)} {x y z : Operand} {v : Value} {t u : TypeId} {k k' : IntKind} {m n r : Int} {b : Nat} {op : BinOp}
/-- a test of two integers -/
class CmpP (op : BinOp) (m n : Int) (p : outParam Prop) : Prop where
  tr : p → ∀ {P : Program} {W0 : World} {S : List HP} {a : Act} {d : Option Tmp} {ty : TypeId} {pos : String} {aft : Array Edge} {gd : Option (Nat × Bool)} {x y : Operand} {t u : TypeId} {k : IntKind}, a.eval x = .int k m → a.eval y = .int k n → SV P W0 S ⟨d, .binOp op t x y u, ty, pos, aft, gd⟩ a (.bool true)
  fl : ¬ p → ∀ {P : Program} {W0 : World} {S : List HP} {a : Act} {d : Option Tmp} {ty : TypeId} {pos : String} {aft : Array Edge} {gd : Option (Nat × Bool)} {x y : Operand} {t u : TypeId} {k : IntKind}, a.eval x = .int k m → a.eval y = .int k n → SV P W0 S ⟨d, .binOp op t x y u, ty, pos, aft, gd⟩ a (.bool false)
instance : CmpP .lss m n (m < n) := ⟨fun h _ _ _ _ _ _ _ _ _ _ _ _ _ _ hx hy => sv_ltT hx hy h, fun h _ _ _ _ _ _ _ _ _ _ _ _ _ _ hx hy => sv_ltF hx hy h⟩
instance : CmpP .leq m n (m ≤ n) := ⟨fun h _ _ _ _ _ _ _ _ _ _ _ _ _ _ hx hy => sv_leT hx hy h, fun h _ _ _ _ _ _ _ _ _ _ _ _ _ _ hx hy => sv_leF hx hy h⟩
instance : CmpP .gtr m n (n < m) := ⟨fun h _ _ _ _ _ _ _ _ _ _ _ _ _ _ hx hy => sv_gtT hx hy h, fun h _ _ _ _ _ _ _ _ _ _ _ _ _ _ hx hy => sv_gtF hx hy h⟩
instance : CmpP .geq m n (n ≤ m) := ⟨fun h _ _ _ _ _ _ _ _ _ _ _ _ _ _ hx hy => sv_geT hx hy h, fun h _ _ _ _ _ _ _ _ _ _ _ _ _ _ hx hy => sv_geF hx hy h⟩
instance : CmpP .eql m n (m = n) := ⟨fun h _ _ _ _ _ _ _ _ _ _ _ _ _ _ hx hy => sv_eqT hx hy h, fun h _ _ _ _ _ _ _ _ _ _ _ _ _ _ hx hy => sv_eqF hx hy h⟩
instance : CmpP .neq m n (¬ m = n) := ⟨fun h _ _ _ _ _ _ _ _ _ _ _ _ _ _ hx hy => sv_neT hx hy h, fun h _ _ _ _ _ _ _ _ _ _ _ _ _ _ hx hy => sv_neF hx hy (Decidable.not_not.1 h)⟩
class NeN (a b : Nat) : Prop where
  pf : a ≠ b
instance {n : Nat} : NeN (n + 1) 0 := ⟨by omega⟩
instance {n : Nat} : NeN 0 (n + 1) := ⟨by omega⟩
instance {n m : Nat} [h : NeN n m] : NeN (n + 1) (m + 1) := ⟨fun e => h.pf (by omega)⟩
theorem At1 {id : Nat} {ops : Array Oper} {b : Bool} {x y : Code} (k : CL P W0 L (.seq (.seq (.region id ops b) x) y) Q a) : CL P W0 L (.seq (.seq (.region id ops b) x) y) Q a := k
theorem At2 {id : Nat} {ops : Array Oper} {b : Bool} {y : Code} (k : CL P W0 L (.seq (.region id ops b) y) Q a) : CL P W0 L (.seq (.region id ops b) y) Q a := k
section
variable {n i m : Nat} {l₀ : List Oper} {br br' : Bool} {r₀ : List (Nat × Nat)}
theorem Xo (k₀ : DL P W0 S n l₀ Q br r₀ L a') (hw : Region.wanted o (yielded l₀.toArray a.tmps) = false := by rfl) (hp : a.put o.dst undef = a' := by exact Put.pf) : DX P W0 S n l₀ Q br i (m + 1) o r₀ L a := by
  cases m
  · exact X_o1 k₀ hw hp
  · exact X_o2 k₀ hw hp
theorem X_w {v : Value} (h : ∀ W0 S, SV P W0 S o a v) (k₀ : DL P W0 S n l₀ Q br r₀ L a') (hw : Region.wanted o (yielded l₀.toArray a.tmps) = true) (hp : a.put o.dst v = a') : DX P W0 S n l₀ Q br i (m + 1) o r₀ L a := by
  cases m
  · exact X_s (h _ _) k₀ hw hp
  · exact X_p (fun W0 => h _ _) k₀ hw hp
end
end
end Go.Proofs.Ytnjjifikogblpaa
namespace Go.Proofs.Ytnjjifikogblpaa
open Go Go.RowKit
set_option linter.unusedVariables false
set_option linter.unusedSimpArgs false
section
variable {P : Program} {W0 w : World} {L L' S : List HP} {a a' : Act} {Q : Exit → Act → World → Prop}
theorem AtE {y : Code} {Q' : Exit → Act → World → Prop} (k : EL W0 L (Exit.then (y.wp P Q) Q') .normal a) : EL W0 L (Exit.then (y.wp P Q) Q') .normal a := k
/-- where the ways meet -/
def RJ {κ : Type} (W0 : World) (a0 : Act) (ms : List Bool) (ps : κ → List (Nat × Value)) (LI : κ → List HP) (φ : κ → Prop) : Act → World → Prop :=
  fun a' w' => ∃ k u, φ k ∧ a' = frm a0 ms u (ps k) ∧ St W0 w' (LI k)
theorem C_join {κ : Type} {c y : Code} {LI : κ → List HP} (ms : List Bool) (ps : κ → List (Nat × Value)) (As : κ → List (Nat × HP)) (φ : κ → Prop)
    (h1 : CL P W0 L c (Exit.then (RJ W0 a ms ps LI φ) Q) a) (h2 : ∀ k u, φ k → CL P W0 (LI k) y Q (frm a ms u (ps k))) (hs : ∀ k, SAts L (As k) (LI k) := by infer_instance) : CL P W0 L c (Exit.then (y.wp P Q) Q) a := by
  refine ⟨fun w s => Code.wp_mono ?_ (h1.run w s)⟩
  intro e a' w' he
  cases e <;> try exact he
  obtain ⟨k, u, hk, rfl, hs'⟩ := he
  exact (h2 k u hk).run w' hs'
/-- the same, the assertions said whole -/
theorem C_joinL {κ : Type} {c y : Code} (LI : κ → List HP) (ms : List Bool) (ps : κ → List (Nat × Value)) (φ : κ → Prop)
    (h1 : CL P W0 L c (Exit.then (RJ W0 a ms ps LI φ) Q) a) (h2 : ∀ k u, φ k → CL P W0 (LI k) y Q (frm a ms u (ps k))) : CL P W0 L c (Exit.then (y.wp P Q) Q) a := by
  refine ⟨fun w s => Code.wp_mono ?_ (h1.run w s)⟩
  intro e a' w' he
  cases e <;> try exact he
  obtain ⟨k, u, hk, rfl, hs'⟩ := he
  exact (h2 k u hk).run w' hs'
theorem E_join {κ : Type} {l0 l : List Value} {ds : List Deferred} {ms : List Bool} {ps : κ → List (Nat × Value)} {LI : κ → List HP} {φ : κ → Prop} (k : κ) (h : φ k)
    [hk : Mxd ms l0 l] (ha : Agr ⟨l.toArray, ds⟩ (ps k)) (hL : Sub L (LI k) := by exact Sb) : EL W0 L (Exit.then (RJ W0 ⟨l0.toArray, ds⟩ ms ps LI φ) Q) .normal ⟨l.toArray, ds⟩ := by
  refine ⟨fun w s => ?_⟩
  refine ⟨k, fun i => l.getD i undef, h, ?_, hL.st s⟩
  unfold frm
  have := hk.pf (fun i => l.getD i undef) 0 (fun i v hi => by simp [hi])
  simp only [this]
  have h2 := setAll_agr ha
  simp only at h2
  rw [h2]
theorem D_sub {n : Nat} {l : List Oper} {br : Bool} {r : List (Nat × Nat)} (h : Sub L L') (k : DL P W0 S n l Q br r L' a) : DL P W0 S n l Q br r L a := ⟨fun w s => k.run w (h.st s)⟩
/-- a literal of values of one cell each -/
theorem dy_litS {d : Option Tmp} {ty : TypeId} {pos : String} {aft : Array Edge} {gd : Option (Nat × Bool)} {t : TypeId} {n : Nat} {ps : List (Nat × Operand)} {vs : List (Nat × Value)} {e : TypeId} {zv : Value} {by_ : Nat} [ut : UL P t (.slice e)] [ti : TI P e zv 1 by_] [hps : PartsI a ps vs] {α : Type} {R : Enc α} (els : List α) (cells : List Value)
    (hp : vs = (cells.zipIdx 0).map fun x => (x.2, x.1)) (hel : ∀ m h, SepL m L h → All2 (R.r m) els (cells.map fun v => [v])) (h1 : ∀ v ∈ cells, v.cells = #[v] := by simp [Value.cells]) (hn : cells.length = n := by rfl) (hR : R.sz = 1 := by rfl) (hpos : 0 < n := by decide) (hml : n ≤ 16777216 := by decide) (hnl : els.length = n := by rfl) :
    DY P W0 L ⟨d, .buildSlice t n ps.toArray, ty, pos, aft, gd⟩ a fun a' L' => ∃ g, a.put d (.slice (some ⟨g, 0, none⟩) n n) = a' ∧ L' = own e R (.slice (some ⟨g, 0, none⟩) n n) els :: L := by
  refine dy_lit (n := n) (sz := 1) (R := R) (l := els) (css := cells.map fun v => [v]) (cells := cells) ?_ (by omega) (by omega) hnl hR hel (by clear hp hel h1 hn; induction cells with | nil => rfl | cons x r ih => simp at ih ⊢; exact ih) hml
  have hq : ((ps.toArray.map fun (i, x) => (i, a.eval x)).toList) = vs := by rw [List.map_toArray]; exact hps.pf
  have := Great.fill_flat cells ((Array.range (n * 1)).map (zv.cells[· % zv.cells.size]!)) h1 (by simp [hn])
  rw [hq, hp]
  simpa using this
end
end Go.Proofs.Ytnjjifikogblpaa
