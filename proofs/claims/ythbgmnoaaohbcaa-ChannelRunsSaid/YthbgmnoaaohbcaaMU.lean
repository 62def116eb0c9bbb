/-
  Plain: where ChannelOrder's loop stands; rows of slices with their values.
-/
import Derived.Test.YthbgmnoaaohbcaaMT
import Derived.Test.YthbgmnoaaohbcaaMS
namespace Go.Proofs.Ythbgmnoaaohbcaa
open Go Go.RowKit
set_option linter.unusedVariables false
set_option linter.unusedSimpArgs false
/-- slices as bare values -/
abbrev rv (t : Option Addr × Nat × Nat) : Value := .slice t.1 t.2.1 t.2.2
def eRw : Enc (Option Addr × Nat × Nat) := e1 rv fun _ => rfl
instance : Sz eRw 1 := ⟨rfl⟩
instance {A : Option Addr} {n c : Nat} : EncC eRw (A, n, c) [.slice A n c] := ⟨fun _ _ h => h⟩
/-- where the loop of ChannelOrder stands -/
structure OS where
  i : Nat
  e0 : PE
  e1 : PE
  s0 : List (List UInt8)
  s1 : List (List UInt8)
  a0 : Option Addr
  c0 : Nat
  a1 : Option Addr
  c1 : Nat
  g0 : Int
  g1 : Int
  link : List PK
  la : Option Addr
  lc : Nat
  to : List Int
  ta : Option Addr
  tc : Nat
structure OI (m : Nat) (k : OS) : Prop where
  i : k.i ≤ m
  o0 : EOk k.s0 k.s1 k.e0
  o1 : EOk k.s1 k.s0 k.e1
  g0 : k.g0 = k.e0.got
  g1 : k.g1 = k.e1.got
  k0 : k.e0.acked ≤ k.e1.got
  k1 : k.e1.acked ≤ k.e0.got
  w0 : 1 ≤ k.e0.w ∧ k.e0.w ≤ 16
  w1 : 1 ≤ k.e1.w ∧ k.e1.w ≤ 16
  h0 : k.e0.held.length ≤ k.i
  h1 : k.e1.held.length ≤ k.i
  n0 : k.s0.length ≤ k.i
  n1 : k.s1.length ≤ k.i
  b0 : ∀ x ∈ k.s0, x.length ≤ 2
  b1 : ∀ x ∈ k.s1, x.length ≤ 2
  tl : k.to.length = k.link.length
  ll : k.link.length ≤ 16 * k.i
  p : ∀ (j : Nat) (x : PK) (t : Int), k.link[j]? = some x → k.to[j]? = some t → (t = 1 ∧ POk k.s0 k.e0.got x.s x.a x.b) ∨ (t = 0 ∧ POk k.s1 k.e1.got x.s x.a x.b)
theorem OI.good0 {m : Nat} {k : OS} (h : OI m k) (hm : m ≤ 80) : k.e0.good := ⟨h.o0.a0, by have := h.o0.a1; have := h.n0; have := h.i; omega, h.o0.g0, by have := h.o0.g1; have := h.n1; have := h.i; omega, by have := h.n0; have := h.i; rw [h.o0.wait, List.length_drop]; omega, by have := h.h0; have := h.i; omega⟩
theorem OI.good1 {m : Nat} {k : OS} (h : OI m k) (hm : m ≤ 80) : k.e1.good := ⟨h.o1.a0, by have := h.o1.a1; have := h.n1; have := h.i; omega, h.o1.g0, by have := h.o1.g1; have := h.n0; have := h.i; omega, by have := h.n1; have := h.i; rw [h.o1.wait, List.length_drop]; omega, by have := h.h1; have := h.i; omega⟩
theorem EOk.send {S T : List (List UInt8)} {e : PE} {b : List UInt8} (h : EOk S T e) : EOk (S ++ [b]) T { e with wait := e.wait ++ [b] } :=
  ⟨by have h1 := h.a1
      have h2 := h.wait
      show e.wait ++ [b] = (S ++ [b]).drop e.acked.toNat
      rw [h2, List.drop_append_of_le_length (by omega)], h.a0, by have := h.a1; rw [List.length_append]; push_cast; show e.acked ≤ _; omega, h.g0, h.g1, h.held⟩
theorem EOk.recv {S T : List (List UInt8)} {e : PE} {b : List UInt8} (h : EOk S T e) : EOk S (T ++ [b]) e :=
  ⟨h.wait, h.a0, h.a1, h.g0, by have := h.g1; rw [List.length_append]; push_cast; omega, h.held.snoc⟩
theorem EOk.owing {S T : List (List UInt8)} {e : PE} {q : Bool} (h : EOk S T e) : EOk S T { e with ow := q } := ⟨h.wait, h.a0, h.a1, h.g0, h.g1, h.held⟩
theorem OI.wl0 {m : Nat} {k : OS} (h : OI m k) : k.e0.wait.length ≤ k.i := by have := h.n0; rw [h.o0.wait, List.length_drop]; omega
theorem OI.wl1 {m : Nat} {k : OS} (h : OI m k) : k.e1.wait.length ≤ k.i := by have := h.n1; rw [h.o1.wait, List.length_drop]; omega
theorem OI.wb0 {m : Nat} {k : OS} (h : OI m k) : ∀ x ∈ k.e0.wait, x.length ≤ 65536 := fun x hx => by
  rw [h.o0.wait] at hx
  have := h.b0 x (List.mem_of_mem_drop hx)
  omega
theorem OI.wb1 {m : Nat} {k : OS} (h : OI m k) : ∀ x ∈ k.e1.wait, x.length ≤ 65536 := fun x hx => by
  rw [h.o1.wait] at hx
  have := h.b1 x (List.mem_of_mem_drop hx)
  omega
theorem OI.send0 {m : Nat} {i : Nat} {e0 e1 : PE} {s0 s1 : List (List UInt8)} {a0 a1 : Option Addr} {c0 c1 : Nat} {g0 g1 : Int} {link : List PK} {la : Option Addr} {lc : Nat} {to : List Int} {ta : Option Addr} {tc : Nat} (h : OI m ⟨i, e0, e1, s0, s1, a0, c0, a1, c1, g0, g1, link, la, lc, to, ta, tc⟩) (hi : i + 1 ≤ m) {b : List UInt8} (hb : b.length ≤ 2) {A : Option Addr} {c : Nat} :
    OI m ⟨i + 1, { e0 with wait := e0.wait ++ [b] }, e1, s0 ++ [b], s1, A, c, a1, c1, g0, g1, link, la, lc, to, ta, tc⟩ := by
  obtain ⟨_, o0, o1, hg0, hg1, k0, k1, w0, w1, h0, h1, n0, n1, b0, b1, tl, ll, p⟩ := h
  dsimp only at *
  refine ⟨hi, o0.send, o1.recv, hg0, hg1, k0, k1, w0, w1, by dsimp only; omega, by dsimp only; omega, by dsimp only; rw [List.length_append, List.length_singleton]; omega, by dsimp only; omega, fun x hx => ?_, b1, tl, by dsimp only; omega, fun j x t hx ht => ?_⟩
  · rcases List.mem_append.1 hx with h | h
    · exact b0 x h
    · simp only [List.mem_cons, List.not_mem_nil, or_false] at h
      subst h
      exact hb
  · rcases p j x t hx ht with ⟨h1, h2⟩ | h
    · exact .inl ⟨h1, h2.snoc⟩
    · exact .inr h
theorem OI.send1 {m : Nat} {i : Nat} {e0 e1 : PE} {s0 s1 : List (List UInt8)} {a0 a1 : Option Addr} {c0 c1 : Nat} {g0 g1 : Int} {link : List PK} {la : Option Addr} {lc : Nat} {to : List Int} {ta : Option Addr} {tc : Nat} (h : OI m ⟨i, e0, e1, s0, s1, a0, c0, a1, c1, g0, g1, link, la, lc, to, ta, tc⟩) (hi : i + 1 ≤ m) {b : List UInt8} (hb : b.length ≤ 2) {A : Option Addr} {c : Nat} :
    OI m ⟨i + 1, e0, { e1 with wait := e1.wait ++ [b] }, s0, s1 ++ [b], a0, c0, A, c, g0, g1, link, la, lc, to, ta, tc⟩ := by
  obtain ⟨_, o0, o1, hg0, hg1, k0, k1, w0, w1, h0, h1, n0, n1, b0, b1, tl, ll, p⟩ := h
  dsimp only at *
  refine ⟨hi, o0.recv, o1.send, hg0, hg1, k0, k1, w0, w1, by dsimp only; omega, by dsimp only; omega, by dsimp only; omega, by dsimp only; rw [List.length_append, List.length_singleton]; omega, b0, fun x hx => ?_, tl, by dsimp only; omega, fun j x t hx ht => ?_⟩
  · rcases List.mem_append.1 hx with h | h
    · exact b1 x h
    · simp only [List.mem_cons, List.not_mem_nil, or_false] at h
      subst h
      exact hb
  · rcases p j x t hx ht with h | ⟨h1, h2⟩
    · exact .inl h
    · exact .inr ⟨h1, h2.snoc⟩
theorem pk_mem {l : List PK} {q : List (Int × Int × List UInt8)} (h : l.map PK.p = q) {x : PK} (hx : x ∈ l) : (x.s, x.a, x.b) ∈ q := by
  rw [← h]
  exact List.mem_map.2 ⟨x, hx, rfl⟩
theorem link_app {link l : List PK} {to : List Int} {o : Int} (tl : to.length = link.length) {j : Nat} {x : PK} {t : Int} (hx : (link ++ l)[j]? = some x) (ht : (to ++ List.replicate l.length o)[j]? = some t) : (link[j]? = some x ∧ to[j]? = some t) ∨ (x ∈ l ∧ t = o) := by
  rcases Nat.lt_or_ge j link.length with h | h
  · rw [List.getElem?_append_left h] at hx
    rw [List.getElem?_append_left (by omega)] at ht
    exact .inl ⟨hx, ht⟩
  · rw [List.getElem?_append_right h] at hx
    rw [List.getElem?_append_right (by omega)] at ht
    have := List.mem_of_getElem? ht
    exact .inr ⟨List.mem_of_getElem? hx, (List.mem_replicate.1 this).2⟩
theorem OI.out0 {m : Nat} {i : Nat} {e0 e1 : PE} {s0 s1 : List (List UInt8)} {a0 a1 : Option Addr} {c0 c1 : Nat} {g0 g1 : Int} {link : List PK} {la : Option Addr} {lc : Nat} {to : List Int} {ta : Option Addr} {tc : Nat} (h : OI m ⟨i, e0, e1, s0, s1, a0, c0, a1, c1, g0, g1, link, la, lc, to, ta, tc⟩) (hi : i + 1 ≤ m) {l : List PK} (hl : l.map PK.p = outP e0.w e0.acked e0.got e0.wait e0.ow) {A A' : Option Addr} {c c' : Nat} :
    OI m ⟨i + 1, { e0 with ow := false }, e1, s0, s1, a0, c0, a1, c1, g0, g1, link ++ l, A, c, to ++ List.replicate l.length 1, A', c'⟩ := by
  obtain ⟨_, o0, o1, hg0, hg1, k0, k1, w0, w1, h0, h1, n0, n1, b0, b1, tl, ll, p⟩ := h
  dsimp only at *
  have hll : l.length ≤ 16 := by
    have h1 := congrArg List.length hl
    have h2 := outP_len (w := e0.w) (acked := e0.acked) (got := e0.got) (wait := e0.wait) (ow := e0.ow) w0.2
    rw [List.length_map] at h1
    omega
  refine ⟨hi, o0.owing, o1, hg0, hg1, k0, k1, w0, w1, by dsimp only; omega, by dsimp only; omega, by dsimp only; omega, by dsimp only; omega, b0, b1, by simp [tl], by dsimp only; rw [List.length_append]; omega, fun j x t hx ht => ?_⟩
  rcases link_app tl hx ht with ⟨h1, h2⟩ | ⟨h1, h2⟩
  · exact p j x t h1 h2
  · exact .inl ⟨h2, outP_ok o0 (pk_mem hl h1)⟩
theorem OI.out1 {m : Nat} {i : Nat} {e0 e1 : PE} {s0 s1 : List (List UInt8)} {a0 a1 : Option Addr} {c0 c1 : Nat} {g0 g1 : Int} {link : List PK} {la : Option Addr} {lc : Nat} {to : List Int} {ta : Option Addr} {tc : Nat} (h : OI m ⟨i, e0, e1, s0, s1, a0, c0, a1, c1, g0, g1, link, la, lc, to, ta, tc⟩) (hi : i + 1 ≤ m) {l : List PK} (hl : l.map PK.p = outP e1.w e1.acked e1.got e1.wait e1.ow) {A A' : Option Addr} {c c' : Nat} :
    OI m ⟨i + 1, e0, { e1 with ow := false }, s0, s1, a0, c0, a1, c1, g0, g1, link ++ l, A, c, to ++ List.replicate l.length 0, A', c'⟩ := by
  obtain ⟨_, o0, o1, hg0, hg1, k0, k1, w0, w1, h0, h1, n0, n1, b0, b1, tl, ll, p⟩ := h
  dsimp only at *
  have hll : l.length ≤ 16 := by
    have h1 := congrArg List.length hl
    have h2 := outP_len (w := e1.w) (acked := e1.acked) (got := e1.got) (wait := e1.wait) (ow := e1.ow) w1.2
    rw [List.length_map] at h1
    omega
  refine ⟨hi, o0, o1.owing, hg0, hg1, k0, k1, w0, w1, by dsimp only; omega, by dsimp only; omega, by dsimp only; omega, by dsimp only; omega, b0, b1, by simp [tl], by dsimp only; rw [List.length_append]; omega, fun j x t hx ht => ?_⟩
  rcases link_app tl hx ht with ⟨h1, h2⟩ | ⟨h1, h2⟩
  · exact p j x t h1 h2
  · exact .inr ⟨h2, outP_ok o1 (pk_mem hl h1)⟩
theorem OI.step {m : Nat} {i : Nat} {e0 e1 : PE} {s0 s1 : List (List UInt8)} {a0 a1 : Option Addr} {c0 c1 : Nat} {g0 g1 : Int} {link : List PK} {la : Option Addr} {lc : Nat} {to : List Int} {ta : Option Addr} {tc : Nat} (h : OI m ⟨i, e0, e1, s0, s1, a0, c0, a1, c1, g0, g1, link, la, lc, to, ta, tc⟩) (hi : i + 1 ≤ m) :
    OI m ⟨i + 1, e0, e1, s0, s1, a0, c0, a1, c1, g0, g1, link, la, lc, to, ta, tc⟩ := by
  obtain ⟨_, o0, o1, hg0, hg1, k0, k1, w0, w1, h0, h1, n0, n1, b0, b1, tl, ll, p⟩ := h
  dsimp only at *
  exact ⟨hi, o0, o1, hg0, hg1, k0, k1, w0, w1, by dsimp only; omega, by dsimp only; omega, by dsimp only; omega, by dsimp only; omega, b0, b1, tl, by dsimp only; omega, p⟩
theorem OI.in1 {m : Nat} {i : Nat} {e0 e1 : PE} {s0 s1 : List (List UInt8)} {a0 a1 : Option Addr} {c0 c1 : Nat} {g0 g1 : Int} {link : List PK} {la : Option Addr} {lc : Nat} {to : List Int} {ta : Option Addr} {tc : Nat} (h : OI m ⟨i, e0, e1, s0, s1, a0, c0, a1, c1, g0, g1, link, la, lc, to, ta, tc⟩) (hi : i + 1 ≤ m) {s a : Int} {y : SB} (hp : POk s0 e0.got s a y.b) :
    OI m ⟨i + 1, e0, (inP e1 s a y).1, s0, s1, a0, c0, a1, c1, g0, g1 + (inP e1 s a y).2.length, link, la, lc, to, ta, tc⟩ ∧ (∀ j, j < (inP e1 s a y).2.length → (inP e1 s a y).2[j]? = s0[e1.got.toNat + j]?) ∧ e1.got + (inP e1 s a y).2.length ≤ s0.length := by
  obtain ⟨_, o0, o1, hg0, hg1, k0, k1, w0, w1, h0, h1, n0, n1, b0, b1, tl, ll, p⟩ := h
  dsimp only at *
  obtain ⟨q1, q2, q3, q4, q5, q6⟩ := inP_ok o1 hp k1 o0.g1
  have hgl := q1.g1
  refine ⟨⟨hi, o0, q1, hg0, by dsimp only; rw [q2, hg1], by dsimp only; omega, q3, w0, by dsimp only; rw [q4]; exact w1, by dsimp only; omega, by dsimp only; omega, by dsimp only; omega, by dsimp only; omega, b0, b1, tl, by dsimp only; omega, fun j x t hx ht => ?_⟩, q6, by omega⟩
  rcases p j x t hx ht with h | ⟨h1, h2⟩
  · exact .inl h
  · exact .inr ⟨h1, h2.mono (by show e1.got ≤ (inP e1 s a y).1.got; rw [q2]; omega)⟩
theorem OI.in0 {m : Nat} {i : Nat} {e0 e1 : PE} {s0 s1 : List (List UInt8)} {a0 a1 : Option Addr} {c0 c1 : Nat} {g0 g1 : Int} {link : List PK} {la : Option Addr} {lc : Nat} {to : List Int} {ta : Option Addr} {tc : Nat} (h : OI m ⟨i, e0, e1, s0, s1, a0, c0, a1, c1, g0, g1, link, la, lc, to, ta, tc⟩) (hi : i + 1 ≤ m) {s a : Int} {y : SB} (hp : POk s1 e1.got s a y.b) :
    OI m ⟨i + 1, (inP e0 s a y).1, e1, s0, s1, a0, c0, a1, c1, g0 + (inP e0 s a y).2.length, g1, link, la, lc, to, ta, tc⟩ ∧ (∀ j, j < (inP e0 s a y).2.length → (inP e0 s a y).2[j]? = s1[e0.got.toNat + j]?) ∧ e0.got + (inP e0 s a y).2.length ≤ s1.length := by
  obtain ⟨_, o0, o1, hg0, hg1, k0, k1, w0, w1, h0, h1, n0, n1, b0, b1, tl, ll, p⟩ := h
  dsimp only at *
  obtain ⟨q1, q2, q3, q4, q5, q6⟩ := inP_ok o0 hp k0 o1.g1
  have hgl := q1.g1
  refine ⟨⟨hi, q1, o1, by dsimp only; rw [q2, hg0], hg1, q3, by dsimp only; omega, by dsimp only; rw [q4]; exact w0, w1, by dsimp only; omega, by dsimp only; omega, by dsimp only; omega, by dsimp only; omega, b0, b1, tl, by dsimp only; omega, fun j x t hx ht => ?_⟩, q6, by omega⟩
  rcases p j x t hx ht with ⟨h1, h2⟩ | h
  · exact .inl ⟨h1, h2.mono (by show e0.got ≤ (inP e0 s a y).1.got; rw [q2]; omega)⟩
  · exact .inr h
theorem all2_SB {m : Hp} : ∀ {l : List SB} {css : List (List Value)}, All2 (eSB.r m) l css → All2 ((eSl eB).r m) (l.map SB.b) css
  | [], [], _ => trivial
  | x :: l, c :: css, ⟨h, t⟩ => ⟨⟨x.v, h.1, h.2⟩, all2_SB t⟩
  | [], _ :: _, h => h.elim
  | _ :: _, [], h => h.elim
section
variable {P : Program} {W0 : World} {L L' : List HP} {ops : Array Oper} {rest : List Oper} {a : Act} {Q : Exit → Act → World → Prop}
/-- a row of slices of one's own, with the slices' values -/
theorem C_ownSB (i : Nat) {c : Code} {E : TypeId} {v : Value} {l : List (List UInt8)} (h : L[i]? = some (own E (eSl eB) v l)) (k : ∀ l' : List SB, l'.map SB.b = l → CL P W0 (L.set i (own E eSB v l')) c Q a) : CL P W0 L c Q a := ⟨fun w s => by
  have s1 : St W0 w (ex (fun l' : {l' : List SB // l'.map SB.b = l} => own E eSB v l'.1) :: L.eraseIdx i) := by
    refine (s.at_ h).imp ?_
    rintro m hp ⟨css, ha, hk⟩
    obtain ⟨l', e1, e2⟩ := All2.openS ha
    have hl : l'.length = l.length := by rw [← e1, List.length_map]
    refine ⟨⟨l', e1⟩, css, e2, ?_⟩
    rcases hk with ⟨h1, h2⟩ | ⟨g, cap, cur, h1, h2, h3, h4, h5, h6⟩
    · subst h2
      exact .inl ⟨h1, List.length_eq_zero_iff.1 hl⟩
    · exact .inr ⟨g, cap, cur, by rw [h1, hl], h2, by show l'.length ≤ cap; omega, h4, h5, by rw [hl]; exact h6⟩
  obtain ⟨⟨l', e1⟩, s2⟩ := s1.ex_
  exact (k l' e1).run w (s2.back h)⟩
theorem sub_ownSB (i : Nat) {E : TypeId} {v : Value} {l : List SB} (h : L[i]? = some (own E eSB v l)) : Sub L (L.set i (own E (eSl eB) v (l.map SB.b))) := fun m hp s => by
  have s1 := s.perm (perm_at h)
  obtain ⟨x, y, d, hx, hy, ⟨css, ha, hk⟩, hL⟩ := s1
  have s2 : SepL m (own E (eSl eB) v (l.map SB.b) :: L.eraseIdx i) hp := ⟨x, y, d, hx, hy, ⟨css, all2_SB ha, by
    rcases hk with ⟨h1, h2⟩ | ⟨g, cap, cur, h1, h2, h3, h4, h5, h6⟩
    · subst h2
      exact .inl ⟨h1, rfl⟩
    · exact .inr ⟨g, cap, cur, by rw [List.length_map]; exact h1, h2, by rw [List.length_map]; exact h3, h4, h5, by rw [List.length_map]; exact h6⟩⟩, hL⟩
  exact s2.perm (perm_set h)
theorem sub_peekSBo {E : TypeId} {v : Value} {l : List SB} {j : Nat} {x : SB} (hm : own E eSB v l ∈ L) (hx : l[j]? = some x) : Sub L (rd eB x.v x.b :: L) := fun m h s => by
  obtain ⟨a, _, css, ha, _⟩ := s.mem hm
  obtain ⟨cs, _, hc⟩ := ha.get hx
  exact ⟨Hp.none, h, Hp.none_dj _, Hp.none_le _, Hp.le_refl _, hc.2, s⟩
end
end Go.Proofs.Ythbgmnoaaohbcaa
namespace Go.Proofs.Ythbgmnoaaohbcaa
open Go Go.RowKit
set_option linter.unusedVariables false
set_option linter.unusedSimpArgs false
set_option maxRecDepth 20000
set_option synthInstance.maxSize 100000
set_option synthInstance.maxHeartbeats 400000
/-- a held message of the reference -/
def eHd : Enc (Int × SB) :=
  ⟨2, fun m x cs => cs = [.int .i64 x.1, x.2.v] ∧ Sl m eB x.2.v x.2.b, fun hm ⟨e, h1⟩ => ⟨e, h1.mono hm⟩, fun ⟨e, _⟩ => by subst e; rfl,
    fun {_ x _} ⟨e, h1⟩ u hu => by
      subst e
      simp only [List.mem_cons, List.not_mem_nil, or_false] at hu
      rcases hu with rfl | rfl
      · rfl
      · exact h1.one2⟩
instance : Sz eHd 2 := ⟨rfl⟩
instance {x : Int × SB} : EncC eHd x [.int .i64 x.1, x.2.v] := ⟨fun _ _ h => h.1⟩
section
variable {W0 : World} {L : List HP}
/-- an end of the reference at block p; wait: all that was sent -/
def fende (p : Nat) (f : PE) : HP :=
  ex fun v => ex fun b => sp [cel p [.int .i64 f.w, v, .int .i64 f.acked, .int .i64 f.got, b, .bool f.ow] 50, own 31 (eSl eB) v f.wait, own 91 eHd b f.held]
theorem fende_sub {p : Nat} {v b : Value} {f : PE} :
    Sub (cel p [.int .i64 f.w, v, .int .i64 f.acked, .int .i64 f.got, b, .bool f.ow] 50 :: own 31 (eSl eB) v f.wait :: own 91 eHd b f.held :: L) (fende p f :: L) :=
  ((sub_close (Ls := [cel p [.int .i64 f.w, v, .int .i64 f.acked, .int .i64 f.got, b, .bool f.ow] 50, own 31 (eSl eB) v f.wait, own 91 eHd b f.held])).trans
    (sub_ex (F := fun b => sp [cel p [.int .i64 f.w, v, .int .i64 f.acked, .int .i64 f.got, b, .bool f.ow] 50, own 31 (eSl eB) v f.wait, own 91 eHd b f.held]) b)).trans
    (sub_ex (F := fun v => ex fun b => sp [cel p [.int .i64 f.w, v, .int .i64 f.acked, .int .i64 f.got, b, .bool f.ow] 50, own 31 (eSl eB) v f.wait, own 91 eHd b f.held]) v)
theorem fende_ct {f : FuncId} {args : Array Value} {R : Value → List HP → Prop} {p : Nat} {e : PE}
    (k : ∀ A c B d, e.wait.length ≤ c → CT Try.prog f args W0 (cel p [.int .i64 e.w, .slice A e.wait.length c, .int .i64 e.acked, .int .i64 e.got, .slice B e.held.length d, .bool e.ow] 50 :: own 31 (eSl eB) (.slice A e.wait.length c) e.wait :: own 91 eHd (.slice B e.held.length d) e.held :: L) R) :
    CT Try.prog f args W0 (fende p e :: L) R := by
  refine ⟨fun w st => ?_⟩
  obtain ⟨v, h⟩ := st.ex_
  obtain ⟨b, h⟩ := h.ex_
  have h := h.open_
  obtain ⟨A, c, rfl, hc⟩ := (h.rdo (.tail _ (.head _))).form
  obtain ⟨B, d, rfl, hd⟩ := (h.rdo (.tail _ (.tail _ (.head _)))).form
  exact (k A c B d hc).run w h
theorem fende_C {c : Code} {Q : Exit → Act → World → Prop} {a : Act} {p : Nat} {e : PE} (i : Nat) (hi : L[i]? = some (fende p e))
    (k : ∀ A c' B d, e.wait.length ≤ c' → CL Try.prog W0 (cel p [.int .i64 e.w, .slice A e.wait.length c', .int .i64 e.acked, .int .i64 e.got, .slice B e.held.length d, .bool e.ow] 50 :: own 31 (eSl eB) (.slice A e.wait.length c') e.wait :: own 91 eHd (.slice B e.held.length d) e.held :: L.eraseIdx i) c Q a) :
    CL Try.prog W0 L c Q a := by
  refine ⟨fun w st => ?_⟩
  obtain ⟨v, h⟩ := (st.at_ hi).ex_
  obtain ⟨b, h⟩ := h.ex_
  have h := h.open_
  obtain ⟨A, c, rfl, hc⟩ := (h.rdo (.tail _ (.head _))).form
  obtain ⟨B, d, rfl, hd⟩ := (h.rdo (.tail _ (.tail _ (.head _)))).form
  exact (k A c B d hc).run w h
def findP (s : Int) (h : List (Int × SB)) : Int := match posM s h 0 with
  | none => -1
  | some q => q.1
theorem find_in {p : Nat} {w acked got s : Int} {ow : Bool} {A B : Option Addr} {n c d : Nat} {h : List (Int × SB)} (hh : h.length ≤ 1000000) {Lr : List HP} :
    CT Try.prog 46 #[.pointer (some ⟨p, 0, none⟩), .int .i64 s] W0 (cel p [.int .i64 w, .slice A n c, .int .i64 acked, .int .i64 got, .slice B h.length d, .bool ow] 50 :: own 91 eHd (.slice B h.length d) h :: Lr) fun r L' => r = .int .i64 (findP s h) ∧ L' = cel p [.int .i64 w, .slice A n c, .int .i64 acked, .int .i64 got, .slice B h.length d, .bool ow] 50 :: own 91 eHd (.slice B h.length d) h :: Lr := by
  refine CT_enter Try.func46 rfl ?_; (simp only [Try.ntmps46, List.size_toArray, List.length_cons, List.length_nil, Nat.reduceAdd, Nat.reduceSub, Array.replicate_succ, Array.replicate_zero, List.push_toArray, List.append_toArray, List.nil_append, List.cons_append])
  repeat' (first | refine go ?_ | intro _ | (apply cG; first | refine cT ?_ | refine cF ?_ | refine cS (fun _ => ?_) fun _ => ?_) | (apply gW; refine sW ?_) | (apply gI; refine sI ?_) | (apply gE; refine sE ?_) | (apply gP; refine sP ?_) | (apply gC; refine sC ?_) | (apply gD; refine sD ?_) | fail)
  refine C_loopS (κ := Nat) [false, false, false, false, true, true, true, true, true, true, true, true, true, true, true, true, true, true, true, true, true, true, true, true, true, true] (fun k => [(5, .int .i64 (k : Int))]) (fun k => []) (fun k => k ≤ h.length ∧ posM s h 0 = posM s (h.drop k) k) (fun k => h.length - k) 0 ⟨Nat.zero_le _, rfl⟩ ⟨rfl, trivial⟩ ?_
  rintro i u ⟨hi, hpos⟩
  ((try dsimp only); refine C_n ?_; (try simp only [Nat.reduceAdd, Nat.zero_add]))
  by_cases hil : i < h.length
  · obtain ⟨x, hx⟩ : ∃ x, h[i]? = some x := ⟨_, List.getElem?_eq_getElem hil⟩
    have hax : At h i x := ⟨hx⟩
    have hdr : h.drop i = x :: h.drop (i + 1) := by
      rw [List.drop_eq_getElem_cons hil]
      congr 1
      have := List.getElem?_eq_getElem hil
      rw [hx] at this
      injection this with this
      exact this.symm
    rw [hdr, posM] at hpos
    by_cases hs : s = x.1
    · rw [if_pos hs] at hpos
      have hf : findP s h = (i : Int) := by unfold findP; rw [hpos]
      rw [hf]
      repeat' (first | refine go ?_ | intro _ | (apply cG; first | refine cT ?_ | refine cF ?_ | refine cS (fun _ => ?_) fun _ => ?_) | (apply gW; refine sW ?_) | (apply gI; refine sI ?_) | (apply gE; refine sE ?_) | (apply gP; refine sP ?_) | (apply gC; refine sC ?_) | (apply gD; refine sD ?_) | fail)
      refine E_res1 (by rfl) (by rfl) ⟨rfl, rfl⟩ Sb
    · rw [if_neg hs] at hpos
      repeat' (first | refine go ?_ | intro _ | (apply cG; first | refine cT ?_ | refine cF ?_ | refine cS (fun _ => ?_) fun _ => ?_) | (apply gW; refine sW ?_) | (apply gI; refine sI ?_) | (apply gE; refine sE ?_) | (apply gP; refine sP ?_) | (apply gC; refine sC ?_) | (apply gD; refine sD ?_) | fail)
      exact E_round (i + 1) ⟨hil, hpos⟩ (by show h.length - (i + 1) < h.length - i; omega) ⟨rfl, trivial⟩ Sb
  obtain rfl : i = h.length := by omega
  rw [List.drop_length] at hpos
  have hf : findP s h = -1 := by unfold findP; rw [hpos]; rfl
  rw [hf]
  repeat' (first | refine go ?_ | intro _ | (apply cG; first | refine cT ?_ | refine cF ?_ | refine cS (fun _ => ?_) fun _ => ?_) | (apply gW; refine sW ?_) | (apply gI; refine sI ?_) | (apply gE; refine sE ?_) | (apply gP; refine sP ?_) | (apply gC; refine sC ?_) | (apply gD; refine sD ?_) | fail)
  refine E_res1 (by rfl) (by rfl) ⟨rfl, rfl⟩ Sb
theorem fSend_ct {p : Nat} {e e' : PE} {v : Value} {b : List UInt8} (hv : rd eB v b ∈ L) (hb : b.length ≤ 65536) (hw : e.wait.length < 1000) (ha : 0 ≤ e.acked) (ha2 : e.acked ≤ 1000) (he : { e with wait := e.wait ++ [b] } = e') :
    CT Try.prog 14 #[.pointer (some ⟨p, 0, none⟩), v] W0 (fende p e :: L) fun r L' => r = .int .i64 0 ∧ L' = fende p e' :: L := by
  subst he
  refine fende_ct fun A c B d hc => ?_
  refine CT_fact (fun w s => ((Src.sl (.inl (.tail _ (.tail _ (.tail _ hv)))) s).form)) ?_
  rintro ⟨A0, c0, rfl, hc0⟩
  refine CT_enter Try.func14 rfl ?_; (simp only [Try.ntmps14, List.size_toArray, List.length_cons, List.length_nil, Nat.reduceAdd, Nat.reduceSub, Array.replicate_succ, Array.replicate_zero, List.push_toArray, List.append_toArray, List.nil_append, List.cons_append])
  repeat' (first | refine go ?_ | intro _ | (apply cG; first | refine cT ?_ | refine cF ?_ | refine cS (fun _ => ?_) fun _ => ?_) | (apply gW; refine sW ?_) | (apply gI; refine sI ?_) | (apply gE; refine sE ?_) | (apply gP; refine sP ?_) | (apply gC; refine sC ?_) | (apply gD; refine sD ?_) | fail)
  refine C_draw (n := 99) [cel p [.int .i64 e.w, .slice A e.wait.length c, .int .i64 e.acked, .int .i64 e.got, .slice B e.held.length d, .bool e.ow] 50] [(0, 1), (1, 1), (2, 1), (3, 1), (4, 1), (5, 1), (6, 1), (7, 1), (8, 1), (9, 1), (10, 1), (11, 1), (12, 1), (13, 1), (14, 1), (15, 1)] (by kernel_rfl) (by kernel_rfl) Sb ?_
  repeat' (first | refine go ?_ | intro _ | (apply cG; first | refine cT ?_ | refine cF ?_ | refine cS (fun _ => ?_) fun _ => ?_) | (apply gW; refine sW ?_) | (apply gI; refine sI ?_) | (apply gE; refine sE ?_) | (apply gP; refine sP ?_) | (apply gC; refine sC ?_) | (apply gD; refine sD ?_) | fail)
  refine O_d (dy_litS (R := eSl eB) [b] [.slice A0 b.length c0] (by rfl) (fun m h hs => ⟨⟨_, rfl, rd_mem hs (.tail _ (.tail _ (.tail _ hv)))⟩, trivial⟩)) ?_; rintro _ _ ⟨_, rfl, rfl⟩; refine O_n ?_
  refine O_d (dy_append (i := 2) (l := e.wait) (l2 := [b]) (hm := rfl)) ?_; rintro _ _ ⟨A2, c2, rfl, rfl⟩; refine O_n ?_
  repeat' (first | refine go ?_ | intro _ | (apply cG; first | refine cT ?_ | refine cF ?_ | refine cS (fun _ => ?_) fun _ => ?_) | (apply gW; refine sW ?_) | (apply gI; refine sI ?_) | (apply gE; refine sE ?_) | (apply gP; refine sP ?_) | (apply gC; refine sC ?_) | (apply gD; refine sD ?_) | fail)
  have hwl : e.wait.length + 1 = (e.wait ++ [b]).length := by rw [List.length_append]; rfl
  rw [hwl]
  refine E_sub (S := cel p [.int .i64 e.w, .slice A2 (e.wait ++ [b]).length c2, .int .i64 e.acked, .int .i64 e.got, .slice B e.held.length d, .bool e.ow] 50 :: own 31 (eSl eB) (.slice A2 (e.wait ++ [b]).length c2) (e.wait ++ [b]) :: own 91 eHd (.slice B e.held.length d) e.held :: L) Sb ?_
  refine E_sub (fende_sub (f := { e with wait := e.wait ++ [b] })) ?_
  refine E_res1 (by rfl) (by rfl) ⟨rfl, rfl⟩ Sb
theorem fOut_ct {p : Nat} {e e' : PE} {aN : Nat} (ha : e.acked = (aN : Int)) (haN : aN ≤ e.wait.length) (h1 : 1 ≤ e.w) (h2 : e.w ≤ 16) (hw : e.wait.length ≤ 1000) (hg1 : 0 ≤ e.got) (hg2 : e.got ≤ 1000000000000) (he : { e with ow := false } = e') :
    CT Try.prog 16 #[.pointer (some ⟨p, 0, none⟩)] W0 (fende p e :: L) fun r L' => ∃ A c l, l.map PK.p = outP e.w e.acked e.got (e.wait.drop aN) e.ow ∧ r = .slice A l.length c ∧ L' = own 40 ePK (.slice A l.length c) l :: fende p e' :: L := by
  subst he
  obtain ⟨w, acked, got, wait, held, ow⟩ := e
  dsimp only at ha haN h1 h2 hw hg1 hg2
  subst ha
  refine fende_ct fun A c B d hc => ?_
  dsimp only
  obtain ⟨N, hN⟩ : ∃ N, min (wait.length - aN) w.toNat = N := ⟨_, rfl⟩
  have hdl : (wait.drop aN).length = wait.length - aN := List.length_drop
  refine CT_enter Try.func16 rfl ?_; (simp only [Try.ntmps16, List.size_toArray, List.length_cons, List.length_nil, Nat.reduceAdd, Nat.reduceSub, Array.replicate_succ, Array.replicate_zero, List.push_toArray, List.append_toArray, List.nil_append, List.cons_append])
  repeat' (first | refine go ?_ | intro _ | (apply cG; first | refine cT ?_ | refine cF ?_ | refine cS (fun _ => ?_) fun _ => ?_) | (apply gW; refine sW ?_) | (apply gI; refine sI ?_) | (apply gE; refine sE ?_) | (apply gP; refine sP ?_) | (apply gC; refine sC ?_) | (apply gD; refine sD ?_) | fail)
  refine C_ownSB 1 rfl fun S' hS' => ?_
  simp only [List.set_cons_zero, List.set_cons_succ]
  have hSl : S'.length = wait.length := by rw [← hS', List.length_map]
  refine C_ownnil 40 ePK ?_
  refine C_loopS (κ := Nat × Value × List PK) [false, false, false, true, true, false, false, false, false, true, true, true, true, true, true, true, true, true, true, true, true, true, true, true, true, true, true, true, true, true, true, true, true, true, true, true, true, true, true, true, true, true, true, true, true, true, true, true, false, false, false, false, false, false, false, false, false, false, false, false, false, false, false, false, false, false, false, false, false] (fun k => [(3, k.2.1), (4, .int .i64 ((aN + k.1 : Nat) : Int))]) (fun k => [(0, own 40 ePK k.2.1 k.2.2)]) (fun k => k.1 ≤ N ∧ k.2.2.length = k.1 ∧ k.2.2.map PK.p = pkL aN got 0 ((wait.drop aN).take k.1) ∧ ∃ A c, k.2.1 = .slice A k.1 c) (fun k => N - k.1) (0, .slice none 0 0, []) ⟨Nat.zero_le _, rfl, rfl, none, 0, rfl⟩ ⟨rfl, rfl, trivial⟩ ?_
  rintro ⟨i, va, out⟩ u ⟨hi, hol, hout, A6, c6, hva⟩
  dsimp only at hi hol hout hva
  subst hva
  dsimp only
  ((try dsimp only); refine C_n ?_; (try simp only [Nat.reduceAdd, Nat.zero_add]))
  repeat' (first | refine go ?_ | intro _ | (apply cG; first | refine cT ?_ | refine cF ?_ | refine cS (fun _ => ?_) fun _ => ?_) | (apply gW; refine sW ?_) | (apply gI; refine sI ?_) | (apply gE; refine sE ?_) | (apply gP; refine sP ?_) | (apply gC; refine sC ?_) | (apply gD; refine sD ?_) | fail)
  by_cases hlt : i < N
  · obtain ⟨y, hy⟩ : ∃ y, S'[aN + i]? = some y := ⟨_, List.getElem?_eq_getElem (by omega)⟩
    have hay : At S' (aN + i) y := ⟨hy⟩
    have hyw : wait[aN + i]? = some y.b := by rw [← hS', List.getElem?_map, hy]; rfl
    refine C_sub (sub_peekSBo (l := S') (j := aN + i) (x := y) (by repeat (first | exact .head _ | refine .tail _ ?_)) hy) ?_
    refine C_fact (fun w s => ((Src.sl (.inl (.head _)) s : Sl _ eB y.v y.b).form)) ?_
    rintro ⟨Ay, cy, hform, hcy⟩
    obtain ⟨yv, yb⟩ := y
    dsimp only at hform hyw
    subst hform
    dsimp only
    refine C_draw (n := 99) [cel p [.int .i64 w, .slice A wait.length c, .int .i64 aN, .int .i64 got, .slice B held.length d, .bool ow] 50] [(0, 1), (1, 1), (2, 1), (3, 1), (4, 1), (5, 1), (6, 1), (7, 1), (8, 1), (9, 1), (10, 1), (11, 1), (12, 1), (13, 1), (14, 1), (15, 1), (16, 1), (17, 1), (18, 1), (19, 1)] (by kernel_rfl) (by kernel_rfl) Sb ?_
    repeat' (first | refine go ?_ | intro _ | (apply cG; first | refine cT ?_ | refine cF ?_ | refine cS (fun _ => ?_) fun _ => ?_) | (apply gW; refine sW ?_) | (apply gI; refine sI ?_) | (apply gE; refine sE ?_) | (apply gP; refine sP ?_) | (apply gC; refine sC ?_) | (apply gD; refine sD ?_) | fail)
    refine C_draw (n := 99) [own 31 eSB (.slice A wait.length c) S', cel p [.int .i64 w, .slice A wait.length c, .int .i64 aN, .int .i64 got, .slice B held.length d, .bool ow] 50] [(0, 1), (1, 1), (2, 1), (3, 1), (4, 1), (5, 1), (6, 1), (7, 1), (8, 1), (9, 1), (10, 1), (11, 1), (12, 1), (13, 1), (14, 1), (15, 0), (16, 0), (17, 1)] (by kernel_rfl) (by kernel_rfl) Sb ?_
    repeat' (first | refine go ?_ | intro _ | (apply cG; first | refine cT ?_ | refine cF ?_ | refine cS (fun _ => ?_) fun _ => ?_) | (apply gW; refine sW ?_) | (apply gI; refine sI ?_) | (apply gE; refine sE ?_) | (apply gP; refine sP ?_) | (apply gC; refine sC ?_) | (apply gD; refine sD ?_) | fail)
    refine D_d rfl (dy_lit1 (R := ePK) ⟨((aN + i : Nat) : Int) + 1, got, .slice Ay yb.length cy, yb⟩ (hcs := by rfl) (hel := fun m h hs => ⟨rfl, rd_mem hs (by repeat (first | exact .head _ | refine .tail _ ?_))⟩)) ?_; rintro _ _ ⟨_, rfl, rfl⟩; refine ⟨(by first | exact .inl rfl | exact .inr Sb), D_n ?_⟩
    repeat' (first | refine go ?_ | intro _ | (apply cG; first | refine cT ?_ | refine cF ?_ | refine cS (fun _ => ?_) fun _ => ?_) | (apply gW; refine sW ?_) | (apply gI; refine sI ?_) | (apply gE; refine sE ?_) | (apply gP; refine sP ?_) | (apply gC; refine sC ?_) | (apply gD; refine sD ?_) | fail)
    rename_i A9 c9
    subst hol
    refine E_round (out.length + 1, .slice A9 (out.length + 1) c9, out ++ [⟨((aN + out.length : Nat) : Int) + 1, got, .slice Ay yb.length cy, yb⟩]) ⟨hlt, List.length_append, ?_, A9, c9, rfl⟩ (by show N - (out.length + 1) < N - out.length; omega) ⟨rfl, rfl, trivial⟩ Sb
    show _ = pkL aN got 0 ((wait.drop aN).take (out.length + 1))
    have ht : (wait.drop aN).take (out.length + 1) = (wait.drop aN).take out.length ++ [yb] := by rw [List.take_add_one, List.getElem?_drop, hyw]; rfl
    rw [ht, pkL_snoc, List.map_append, hout, List.length_take, Nat.min_eq_left (by omega), Nat.zero_add]
    congr 2
  obtain rfl : i = N := by omega
  subst hol
  have hNw : (wait.drop aN).take out.length = (wait.drop aN).take w.toNat := by
    rw [← hN]
    rcases Nat.le_total (wait.length - aN) w.toNat with h | h
    · rw [Nat.min_eq_left h, ← hdl, List.take_length, List.take_of_length_le (by omega)]
    · rw [Nat.min_eq_right h]
  rw [hNw] at hout
  obtain ⟨e1, he1⟩ : ∃ e1, (wait.drop aN) = e1 := ⟨_, rfl⟩
  by_cases hlen : aN + out.length < wait.length
  · have hw0 : ¬ (wait.drop aN = [] ∧ ow = true) := fun h => by have := h.1; rw [this] at hdl; simp at hdl; omega
    have hon : ¬ out.length = 0 := by omega
    refine C_draw (n := 99) [cel p [.int .i64 w, .slice A wait.length c, .int .i64 aN, .int .i64 got, .slice B held.length d, .bool ow] 50] [(0, 1), (1, 1), (2, 1), (3, 1), (4, 1), (5, 1), (6, 1), (7, 1), (8, 1), (9, 1), (10, 1), (11, 1), (12, 1), (13, 1), (14, 1), (15, 1), (16, 1), (17, 1), (18, 1), (19, 1)] (by kernel_rfl) (by kernel_rfl) Sb ?_
    repeat' (first | refine go ?_ | intro _ | (apply cG; first | refine cT ?_ | refine cF ?_ | refine cS (fun _ => ?_) fun _ => ?_) | (apply gW; refine sW ?_) | (apply gI; refine sI ?_) | (apply gE; refine sE ?_) | (apply gP; refine sP ?_) | (apply gC; refine sC ?_) | (apply gD; refine sD ?_) | fail)
    refine E_sub (sub_ownSB 2 rfl) ?_
    simp only [List.set_cons_zero, List.set_cons_succ, hS']
    refine E_sub (S := own 40 ePK (.slice A6 out.length c6) out :: cel p [.int .i64 w, .slice A wait.length c, .int .i64 aN, .int .i64 got, .slice B held.length d, .bool false] 50 :: own 31 (eSl eB) (.slice A wait.length c) wait :: own 91 eHd (.slice B held.length d) held :: L) Sb ?_
    refine E_sub (sub_skip (fende_sub (f := ⟨w, aN, got, wait, held, false⟩))) ?_
    refine E_res1 (by rfl) (by rfl) ⟨_, _, out, by unfold outP; rw [if_neg hw0, hout], rfl, rfl⟩ Sb
  · refine C_draw (n := 99) [cel p [.int .i64 w, .slice A wait.length c, .int .i64 aN, .int .i64 got, .slice B held.length d, .bool ow] 50] [(0, 1), (1, 1), (2, 1), (3, 1), (4, 1), (5, 1), (6, 1), (7, 1), (8, 1), (9, 1), (10, 1), (11, 1), (12, 1), (13, 1), (14, 1), (15, 1), (16, 1), (17, 1), (18, 1), (19, 1)] (by kernel_rfl) (by kernel_rfl) Sb ?_
    by_cases h0 : out.length = 0
    · cases ow
      · repeat' (first | refine go ?_ | intro _ | (apply cG; first | refine cT ?_ | refine cF ?_ | refine cS (fun _ => ?_) fun _ => ?_) | (apply gW; refine sW ?_) | (apply gI; refine sI ?_) | (apply gE; refine sE ?_) | (apply gP; refine sP ?_) | (apply gC; refine sC ?_) | (apply gD; refine sD ?_) | fail)
        refine E_sub (sub_ownSB 2 rfl) ?_
        simp only [List.set_cons_zero, List.set_cons_succ, hS']
        refine E_sub (S := own 40 ePK (.slice A6 out.length c6) out :: cel p [.int .i64 w, .slice A wait.length c, .int .i64 aN, .int .i64 got, .slice B held.length d, .bool false] 50 :: own 31 (eSl eB) (.slice A wait.length c) wait :: own 91 eHd (.slice B held.length d) held :: L) Sb ?_
        refine E_sub (sub_skip (fende_sub (f := ⟨w, aN, got, wait, held, false⟩))) ?_
        refine E_res1 (by rfl) (by rfl) ⟨_, _, out, by unfold outP; rw [if_neg (fun h => by cases h.2), hout], rfl, rfl⟩ Sb
      · have he : out = [] := List.length_eq_zero_iff.1 h0
        subst he
        have hw0 : wait.drop aN = [] := List.length_eq_zero_iff.1 (by simp only [List.length_nil] at hN; omega)
        repeat' (first | refine go ?_ | intro _ | (apply cG; first | refine cT ?_ | refine cF ?_ | refine cS (fun _ => ?_) fun _ => ?_) | (apply gW; refine sW ?_) | (apply gI; refine sI ?_) | (apply gE; refine sE ?_) | (apply gP; refine sP ?_) | (apply gC; refine sC ?_) | (apply gD; refine sD ?_) | fail)
        refine O_d (dy_lit1 (R := ePK) ⟨0, got, .slice none 0 0, []⟩ (hcs := by rfl) (hel := fun m h hs => ⟨rfl, Sl.nil _ _ _ _⟩)) ?_; rintro _ _ ⟨_, rfl, rfl⟩; refine O_n ?_
        refine O_d (dy_append (i := 1) (hm := rfl)) ?_; rintro _ _ ⟨A9, c9, rfl, rfl⟩; refine O_n ?_
        repeat' (first | refine go ?_ | intro _ | (apply cG; first | refine cT ?_ | refine cF ?_ | refine cS (fun _ => ?_) fun _ => ?_) | (apply gW; refine sW ?_) | (apply gI; refine sI ?_) | (apply gE; refine sE ?_) | (apply gP; refine sP ?_) | (apply gC; refine sC ?_) | (apply gD; refine sD ?_) | fail)
        refine E_sub (sub_ownSB 3 rfl) ?_
        simp only [List.set_cons_zero, List.set_cons_succ, hS']
        refine E_sub (S := own 40 ePK (.slice A9 1 c9) [⟨0, got, .slice none 0 0, []⟩] :: cel p [.int .i64 w, .slice A wait.length c, .int .i64 aN, .int .i64 got, .slice B held.length d, .bool false] 50 :: own 31 (eSl eB) (.slice A wait.length c) wait :: own 91 eHd (.slice B held.length d) held :: L) Sb ?_
        refine E_sub (sub_skip (fende_sub (f := ⟨w, aN, got, wait, held, false⟩))) ?_
        refine E_res1 (by rfl) (by rfl) ⟨A9, c9, [⟨0, got, .slice none 0 0, []⟩], by unfold outP; rw [if_pos ⟨hw0, rfl⟩]; rfl, rfl, rfl⟩ Sb
    · have hw0 : ¬ (wait.drop aN = [] ∧ ow = true) := fun h => by have := h.1; rw [this] at hdl; simp at hdl; omega
      repeat' (first | refine go ?_ | intro _ | (apply cG; first | refine cT ?_ | refine cF ?_ | refine cS (fun _ => ?_) fun _ => ?_) | (apply gW; refine sW ?_) | (apply gI; refine sI ?_) | (apply gE; refine sE ?_) | (apply gP; refine sP ?_) | (apply gC; refine sC ?_) | (apply gD; refine sD ?_) | fail)
      refine E_sub (sub_ownSB 2 rfl) ?_
      simp only [List.set_cons_zero, List.set_cons_succ, hS']
      refine E_sub (S := own 40 ePK (.slice A6 out.length c6) out :: cel p [.int .i64 w, .slice A wait.length c, .int .i64 aN, .int .i64 got, .slice B held.length d, .bool false] 50 :: own 31 (eSl eB) (.slice A wait.length c) wait :: own 91 eHd (.slice B held.length d) held :: L) Sb ?_
      refine E_sub (sub_skip (fende_sub (f := ⟨w, aN, got, wait, held, false⟩))) ?_
      refine E_res1 (by rfl) (by rfl) ⟨_, _, out, by unfold outP; rw [if_neg hw0, hout], rfl, rfl⟩ Sb
end
end Go.Proofs.Ythbgmnoaaohbcaa
