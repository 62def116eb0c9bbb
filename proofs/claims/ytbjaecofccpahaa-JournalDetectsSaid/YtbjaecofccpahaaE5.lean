/-
  My own engine: loops that say only which assertions they change; rows frozen in place.
-/
import Derived.Test.YtbjaecofccpahaaE4
namespace Go.Proofs.Ytbjaecofccpahaa
open Go Go.RowKit
set_option linter.unusedVariables false
set_option linter.unusedSimpArgs false
/-- some assertions replaced -/
class SAts {α : Type _} (l : List α) (ps : List (Nat × α)) (l' : outParam (List α)) : Prop where
  pf : ps.foldl (fun l p => l.set p.1 p.2) l = l'
instance sats0 {α : Type _} {l : List α} : SAts l [] l := ⟨rfl⟩
instance satsS {α : Type _} {l l1 l2 : List α} {i : Nat} {v : α} {ps : List (Nat × α)} [h : SAt l i v l1] [k : SAts l1 ps l2] : SAts l ((i, v) :: ps) l2 := ⟨by
  show List.foldl _ (l.set i v) ps = l2
  rw [h.pf]; exact k.pf⟩
/-- some cells, read -/
class ExL (l : List Value) (o s : Nat) (vs : outParam (List Value)) : Prop where
  pf : (l.drop o).take s = vs ∧ o + s ≤ l.length
instance exl00 {l : List Value} : ExL l 0 0 [] := ⟨by simp⟩
instance exl0S {l vs : List Value} {x : Value} {s : Nat} [h : ExL l 0 s vs] : ExL (x :: l) 0 (s + 1) (x :: vs) := ⟨by
  have := h.pf
  simp only [List.drop_zero, Nat.zero_add] at this
  simp only [List.drop_zero, List.take_succ_cons, this.1, List.length_cons, true_and]; omega⟩
instance exlS {l vs : List Value} {x : Value} {o s : Nat} [h : ExL l o s vs] : ExL (x :: l) (o + 1) s vs := ⟨by
  have := h.pf
  simp only [List.drop_succ_cons, this.1, List.length_cons, true_and]; omega⟩
/-- what lies at a place of a list: a fact of the context -/
class At {α : Type} (l : List α) (j : Nat) (x : outParam α) : Prop where
  pf : l[j]? = some x
theorem At.lt {α : Type} {l : List α} {j : Nat} {x : α} (h : At l j x) : j < l.length := (List.getElem?_eq_some_iff.1 h.pf).1
/-- an element's cells, known of the element alone -/
class EncC {α : Type} (R : Enc α) (x : α) (cs : outParam (List Value)) : Prop where
  pf : ∀ m cs', R.r m x cs' → cs' = cs
class Sz {α : Type} (R : Enc α) (s : outParam Nat) : Prop where
  pf : R.sz = s
section
variable {P : Program} {W0 w : World} {L L' S : List HP} {ops : Array Oper} {rest : List Oper} {o : Oper} {a a' : Act} {Q : Exit → Act → World → Prop}
  {d : Option Tmp} {ty : TypeId} {pos : String} {aft : Array Edge} {gd : Option (Nat × Bool)} {x y z : Operand} {v : Value} {t u : TypeId} {b : Nat}
instance svc_loadA {T : TypeId} {zv : Value} {s by_ o : Nat} {cs vs : List Value} [AG P t true] [TI P t zv s by_] [h : Ev a x (.pointer (some ⟨b, o, none⟩))] [h2 : InC b S cs T] [h3 : ExL cs o s vs] : SVc P W0 S ⟨d, .load t x, ty, pos, aft, gd⟩ a (.agg vs.toArray) :=
  ⟨sv_loadA h.pf h2.pf h3.pf.2 h3.pf.1⟩
instance svc_fieldA {i off ft sz by_ : Nat} {zv : Value} {l vs : List Value} [fd : FD P t i off ft] [ag : AG P ft true] [ti : TI P ft zv sz by_] [h : Ev a x (.agg l.toArray)] [h2 : ExL l off sz vs] : SVc P W0 S ⟨d, .field t x i, ty, pos, aft, gd⟩ a (.agg vs.toArray) :=
  ⟨sv_fieldA h.pf (by
    have := h2.pf.1
    apply Array.ext_getElem?
    intro i
    rw [← this]
    simp [List.getElem?_take, Array.getElem?_extract])⟩
/-- an element of several cells, loaded -/
instance svc_loadEA {zv : Value} {s by_ j n c : Nat} {A : Option Addr} {α : Type} {R : Enc α} {l : List α} {el : α} {vs : List Value} [AG P t true] [TI P t zv s by_] [h : Ev a x (elp A j s 0)] [h2 : ScA A S n c R l] [h3 : At l j el] [h4 : Sz R s] [h5 : EncC R el vs] : SVc P W0 S ⟨d, .load t x, ty, pos, aft, gd⟩ a (.agg vs.toArray) :=
  ⟨sv_loadEA h.pf (h2.pf).all h4.pf h3.pf (fun w _ cs hc => h5.pf _ _ hc)⟩
/-- a field of an element -/
instance svc_loadF {s j o n c : Nat} {A : Option Addr} {α : Type} {R : Enc α} {l : List α} {el : α} {vs : List Value} [AG P t false] [h : Ev a x (elp A j s o)] [h2 : ScA A S n c R l] [h3 : At l j el] [h4 : Sz R s] [h5 : EncC R el vs] [h6 : GA vs o v] : SVc P W0 S ⟨d, .load t x, ty, pos, aft, gd⟩ a v :=
  ⟨sv_loadF h.pf (h2.pf).all h4.pf h3.pf (fun w _ cs hc => by rw [h5.pf _ _ hc]; exact h6.pf)⟩
instance svc_faE {i off ft sz by_ j s n c o o' : Nat} {A : Option Addr} {zv : Value} {α : Type} {R : Enc α} {l : List α} {el : α} [fd : FD P t i off ft] [ti : TI P ft zv sz by_] [p0 : PosN sz] [h : Ev a x (elp A j s o)] [h2 : ScA A S n c R l] [h3 : At l j el] [ha : AddN o off o'] : SVc P W0 S ⟨d, .fieldAddr t x i, ty, pos, aft, gd⟩ a (elp A j s o') := ⟨⟨fun w hS => by
  obtain ⟨b, o1, cs, T, fr, cc, hA, hb, hc, hcell⟩ := ((h2.pf).all w hS).at_ h3.pf
  subst hA
  rw [← ha.pf]
  obtain ⟨fs, f, hu, hf, rfl, rfl⟩ := fd.pf
  have hp := p0.pf
  have hne : ¬ sz = 0 := by omega
  unfold execOp
  simp [h.pf, elp, Instr.fieldAt, run_underlying hu, hf, Instr.sureAddr, fieldPlace, sizeOf_run (P := P) (t := f.type), hne, add0, Nat.add_assoc]⟩⟩
/-- part of an element, loaded -/
instance (priority := low) svc_loadEP {zv : Value} {s sz by_ j o n c : Nat} {A : Option Addr} {α : Type} {R : Enc α} {l : List α} {el : α} {cs vs : List Value} [AG P t true] [TI P t zv sz by_] [h : Ev a x (elp A j s o)] [h2 : ScA A S n c R l] [h3 : At l j el] [h4 : Sz R s] [h5 : EncC R el cs] [h6 : ExL cs o sz vs] : SVc P W0 S ⟨d, .load t x, ty, pos, aft, gd⟩ a (.agg vs.toArray) := ⟨⟨fun w hS => by
  obtain ⟨b, off, cs0, T, fr, cc, hA, hb, hc, hcell⟩ := ((h2.pf).all w hS).at_ h3.pf
  subst hA
  obtain rfl := h4.pf
  obtain rfl := h5.pf _ _ hc
  have h6' := h6.pf
  have hb' : w.heap[b]? = some (.cells cs0 T fr) := hb
  have e : a.eval x = .pointer (some ⟨b, off + j * R.sz + o, none⟩) := by rw [h.pf]; simp [elp, add0]
  have := loadAgg_run (P := P) (w := w) (t := t) (p := ⟨b, off + j * R.sz + o, none⟩) (cs := vs) (by rw [← h6'.1]; simp; omega) (fun i v hi => by
    rw [add0]
    rw [← h6'.1, List.getElem?_take] at hi
    split at hi
    · rw [List.getElem?_drop] at hi
      have := hcell _ v hi
      rw [← Nat.add_assoc] at this
      simp [World.cell?, hb', this]
    · cases hi)
  unfold execOp; simp [e, this]⟩⟩
theorem dy_storeG {zv : Value} {sz by_ : Nat} [TI P t zv sz by_] {T : TypeId} {off i : Nat} {cs cs' vs : List Value} (hx : a.eval x = .pointer (some ⟨b, off, none⟩) := by exact Ev.pf) (hy : a.eval y = .agg vs.toArray := by exact Ev.pf) (h1 : (vs.all fun v => v.oneCell') = true := by rfl) (hs : LenI vs sz := by infer_instance) (hm : L[i]? = some (cel b cs T) := by exact IxC.pf) (hsp : SpL cs off vs cs' := by infer_instance) :
    DY P W0 L ⟨d, .store t x y, ty, pos, aft, gd⟩ a fun a' L' => a.put d undef = a' ∧ L' = L.set i (cel b cs' T) :=
  dy_storeA hx hy h1 hs.pf hm (by have := hsp.pf.2; rw [hs.pf] at this; exact this) (by have := hsp.pf.1; rw [hs.pf] at this; exact this)
theorem Src.el {α : Type} {R : Enc α} {A : Option Addr} {n c j : Nat} {l : List α} {el : α} {m h W : Hp} (hs : Src L R (.slice A n c) l) (hL : SepL m L h) (hw : m.le W) (hh : h.le W) (hl : l[j]? = some el) :
    ∃ b off cs T fr cc, A = some ⟨b, off, none⟩ ∧ W b = some (.cells cs T fr) ∧ R.r m el cc ∧ ∀ i u, cc[i]? = some u → cs[off + j * R.sz + i]? = some u := by
  rcases hs with hm | ⟨E, hm⟩
  · obtain ⟨y, hy, k⟩ := hL.mem hm
    obtain ⟨b, off, cs, T, fr, cc, h1, h2, h3, h4⟩ := Sl.at_ k hl
    exact ⟨b, off, cs, T, fr, cc, h1, hw _ _ h2, h3, h4⟩
  · obtain ⟨y, hy, css, ha, k⟩ := hL.mem hm
    rcases k with ⟨_, rfl⟩ | ⟨g, cap, cur, hv, hg, hc, _, hsz, ht⟩
    · simp at hl
    · injection hv with e1 e2 e3
      obtain ⟨cc, hcc, hr⟩ := ha.get hl
      refine ⟨g, 0, cur, E, (0, 0), cc, e1, hh _ _ (hy _ _ hg), hr, fun i u hi => ?_⟩
      have hlt : i < R.sz := by
        rw [← R.len hr]
        exact (List.getElem?_eq_some_iff.1 hi).1
      have h5 : css.flatten[j * R.sz + i]? = some u := by rw [flat_get ha.lens hcc hlt]; exact hi
      rw [← ht, List.getElem?_take] at h5
      split at h5
      · rw [Nat.zero_add]; simpa using h5
      · cases h5
/-- an element that is a slice, loaded -/
theorem dy_loadS {j n c : Nat} {A : Option Addr} {α : Type} {R : Enc α} {l : List (List α)} {el : List α} [AG P t false] (hx : a.eval x = elp A j 1 0 := by exact Ev.pf) (hs : Src L (eSl R) (.slice A n c) l := by exact ScA.pf) (hl : l[j]? = some el := by first | exact At.pf | assumption) :
    DY P W0 L ⟨d, .load t x, ty, pos, aft, gd⟩ a fun a' L' => ∃ A' c', a.put d (.slice A' el.length c') = a' ∧ L' = rd R (.slice A' el.length c') el :: L := by
  refine ⟨fun w s => ?_⟩
  obtain ⟨h1, h2, h3, h4, m, h, hm, hw, hh, dj, hL⟩ := s
  obtain ⟨b, off, cs, T, fr, cc, hA, hb, ⟨v, rfl, hv⟩, hcell⟩ := hs.el hL hw hh hl
  have h1' := hcell 0 v rfl
  have hb' : w.heap[b]? = some (.cells cs T fr) := hb
  have e : a.eval x = .pointer (some ⟨b, off + j, none⟩) := by rw [hx, hA]; simp [elp, add0, Addr.add]
  have e1 : (eSl R).sz = 1 := rfl
  rw [e1] at h1'
  have hc' : w.cell? ⟨b, off + j, none⟩ = some v := by
    simp only [Nat.mul_one, Nat.add_zero] at h1'
    simp [World.cell?, hb', h1']
  obtain ⟨A', c', rfl, hcap⟩ := hv.form
  unfold Oper.wp
  have hr : (execOp a.eval (⟨d, .load t x, ty, pos, aft, gd⟩ : Oper)).run P w = .ok (.value (.slice A' el.length c')) w := by
    unfold execOp; simp [e, load_run (P := P) (t := t) hc']
  rw [hr]
  exact ⟨_, ⟨_, _, rfl, rfl⟩, h1, h2, h3, h4, m, h, hm, hw, hh, dj, Hp.none, h, Hp.none_dj _, Hp.none_le _, Hp.le_refl _, hv, hL⟩
theorem sub_dup {α : Type} {R : Enc α} {v : Value} {l : List α} (h : rd R v l ∈ L) : Sub L (rd R v l :: L) := fun m hp s => by
  obtain ⟨y, hy, k⟩ := s.mem h
  exact ⟨Hp.none, hp, Hp.none_dj _, Hp.none_le _, Hp.le_refl _, k, s⟩
theorem rd_mem {α : Type} {R : Enc α} {v : Value} {l : List α} {m h : Hp} (s : SepL m L h) (hm : rd R v l ∈ L) : Sl m R v l := by
  obtain ⟨y, hy, k⟩ := s.mem hm
  exact k
theorem C_loopS {κ : Type} {c : Code} {LI : κ → List HP} (ms : List Bool) (ps : κ → List (Nat × Value)) (As : κ → List (Nat × HP)) [hs : ∀ k, SAts L (As k) (LI k)] (φ : κ → Prop) (μ : κ → Nat) (k0 : κ) (h0 : φ k0) (ha : Agr a (ps k0))
    (round : ∀ k u, φ k → CL P W0 (LI k) c (Exit.then (RE W0 a ms ps LI φ μ (μ k)) Q) (frm a ms u (ps k))) (hL : Sub L (LI k0) := by exact Sub.refl _) : CL P W0 L (.loop c) Q a :=
  C_loop ms ps LI φ μ k0 h0 ha hL round
theorem St.frz {α : Type} {E : TypeId} {R : Enc α} {v : Value} {l : List α} {i : Nat} (h : L[i]? = some (own E R v l)) (s : St W0 w L) : St W0 w (L.set i (Go.Proofs.Ytbjaecofccpahaa.rd R v l)) :=
  ((s.at_ h).own_rd).back h
theorem O_frz (i : Nat) {α : Type} {E : TypeId} {R : Enc α} {v : Value} {l : List α} (k : OL P W0 L' ops Q rest a) (h : L[i]? = some (own E R v l) := by rfl) (hL : L.set i (rd R v l) = L' := by exact SAt.pf) : OL P W0 L ops Q rest a := by
  subst hL; exact ⟨fun w s => k.run w (s.frz h)⟩
theorem C_frz (i : Nat) {c : Code} {α : Type} {E : TypeId} {R : Enc α} {v : Value} {l : List α} (k : CL P W0 L' c Q a) (h : L[i]? = some (own E R v l) := by rfl) (hL : L.set i (rd R v l) = L' := by exact SAt.pf) : CL P W0 L c Q a := by
  subst hL; exact ⟨fun w s => k.run w (s.frz h)⟩
theorem E_frz (i : Nat) {e : Exit} {α : Type} {E : TypeId} {R : Enc α} {v : Value} {l : List α} (k : EL W0 L' Q e a) (h : L[i]? = some (own E R v l) := by rfl) (hL : L.set i (rd R v l) = L' := by exact SAt.pf) : EL W0 L Q e a := by
  subst hL; exact ⟨fun w s => k.run w (s.frz h)⟩
theorem O_rdnil {α : Type} (R : Enc α) (A : Option Addr) (c : Nat) (k : OL P W0 (rd R (.slice A 0 c) ([] : List α) :: L) ops Q rest a) : OL P W0 L ops Q rest a := ⟨fun w s => k.run w (s.rd_nil R A c)⟩
theorem E_rdnil {e : Exit} {α : Type} (R : Enc α) (A : Option Addr) (c : Nat) (k : EL W0 (rd R (.slice A 0 c) ([] : List α) :: L) Q e a) : EL W0 L Q e a := ⟨fun w s => k.run w (s.rd_nil R A c)⟩
theorem C_rdnil {c' : Code} {α : Type} (R : Enc α) (A : Option Addr) (c : Nat) (k : CL P W0 (rd R (.slice A 0 c) ([] : List α) :: L) c' Q a) : CL P W0 L c' Q a := ⟨fun w s => k.run w (s.rd_nil R A c)⟩
/-! ### a drawn region's operation, said -/
structure DX (P : Program) (W0 : World) (S : List HP) (n : Nat) (l : List Oper) (Q : Exit → Act → World → Prop) (br : Bool) (i m : Nat) (o : Oper) (r : List (Nat × Nat)) (L : List HP) (a : Act) : Prop where
  run : l[i]? = some o → DL P W0 S n l Q br ((i, m) :: r) L a
section
variable {n i m : Nat} {l : List Oper} {br : Bool} {r : List (Nat × Nat)}
theorem D_op (ho : l[i]? = some o) (k : DX P W0 S n l Q br i m o r L a) : DL P W0 S n l Q br ((i, m) :: r) L a := k.run ho
theorem X_s (h : SV P W0 S o a v) (k : DL P W0 S n l Q br r L a') (hw : Region.wanted o (yielded l.toArray a.tmps) = true := by rfl) (hp : a.put o.dst v = a' := by exact Put.pf) : DX P W0 S n l Q br i 1 o r L a := ⟨fun ho => D_sv ho hw h hp k⟩
theorem X_p (h : ∀ W0, SV P W0 [] o a v) (k : DL P W0 S n l Q br r L a') (hw : Region.wanted o (yielded l.toArray a.tmps) = true := by rfl) (hp : a.put o.dst v = a' := by exact Put.pf) : DX P W0 S n l Q br i (m + 2) o r L a := ⟨fun ho => D_pu ho hw h hp k⟩
theorem X_o1 (k : DL P W0 S n l Q br r L a') (hw : Region.wanted o (yielded l.toArray a.tmps) = false := by rfl) (hp : a.put o.dst undef = a' := by exact Put.pf) : DX P W0 S n l Q br i 1 o r L a := ⟨fun ho => D_off1 ho hw hp k⟩
theorem X_o2 (k : DL P W0 S n l Q br r L a') (hw : Region.wanted o (yielded l.toArray a.tmps) = false := by rfl) (hp : a.put o.dst undef = a' := by exact Put.pf) : DX P W0 S n l Q br i (m + 2) o r L a := ⟨fun ho => D_off2 ho hw hp k⟩
theorem X_o0 (hS : Sub L S) (k : DL P W0 S n l Q (br || i == n) r L a') (hw : Region.wanted o (yielded l.toArray a.tmps) = false := by rfl) (hp : a.put o.dst undef = a' := by exact Put.pf) : DX P W0 S n l Q br i 0 o r L a := ⟨fun ho => D_off0 ho hw hS hp k⟩
theorem X_d {br' : Bool} {R : Act → List HP → Prop} (h : DY P W0 L o a R) (k : ∀ a' L', R a' L' → (br' = true ∨ Sub L' S) ∧ DL P W0 S n l Q br' r L' a') (hw : Region.wanted o (yielded l.toArray a.tmps) = true := by rfl) (hb : (br || i == n) = br' := by rfl) : DX P W0 S n l Q br i 0 o r L a := ⟨fun ho => D_dy ho hw h hb k⟩
theorem X_split1 {p : Prop} {aT aF : Act} (hT : p → SV P W0 S o a (.bool true)) (hF : ¬ p → SV P W0 S o a (.bool false))
    (kT : p → DL P W0 S n l Q br r L aT) (kF : ¬ p → DL P W0 S n l Q br r L aF) (hw : Region.wanted o (yielded l.toArray a.tmps) = true := by rfl) (hpT : a.put o.dst (.bool true) = aT := by exact Put.pf) (hpF : a.put o.dst (.bool false) = aF := by exact Put.pf) : DX P W0 S n l Q br i 1 o r L a := ⟨fun ho => D_split1 ho hT hF kT kF hw hpT hpF⟩
theorem X_split2 {p : Prop} {aT aF : Act} (hT : ∀ W0, p → SV P W0 [] o a (.bool true)) (hF : ∀ W0, ¬ p → SV P W0 [] o a (.bool false))
    (kT : p → DL P W0 S n l Q br r L aT) (kF : ¬ p → DL P W0 S n l Q br r L aF) (hw : Region.wanted o (yielded l.toArray a.tmps) = true := by rfl) (hpT : a.put o.dst (.bool true) = aT := by exact Put.pf) (hpF : a.put o.dst (.bool false) = aF := by exact Put.pf) : DX P W0 S n l Q br i (m + 2) o r L a := by
  refine ⟨fun ho => ?_⟩
  by_cases h : p
  · exact D_pu ho hw (fun W0 => hT W0 h) hpT (kT h)
  · exact D_pu ho hw (fun W0 => hF W0 h) hpF (kF h)
end
instance {α : Type} {f : α → Value} {hf : ∀ a, (f a).oneCell' = true} : Sz (e1 f hf) 1 := ⟨rfl⟩
instance {α : Type} {f : α → Value} {hf : ∀ a, (f a).oneCell' = true} {x : α} : EncC (e1 f hf) x [f x] := ⟨fun _ _ h => h⟩
instance {x : Int} : EncC eI x [.int .i64 x] := ⟨fun _ _ h => h⟩
instance {x : UInt8} : EncC eB x [.int .u8 (x.toNat : Int)] := ⟨fun _ _ h => h⟩
instance : Sz eI 1 := ⟨rfl⟩
instance : Sz eB 1 := ⟨rfl⟩
instance : Sz eU 1 := ⟨rfl⟩
end
end Go.Proofs.Ytbjaecofccpahaa
