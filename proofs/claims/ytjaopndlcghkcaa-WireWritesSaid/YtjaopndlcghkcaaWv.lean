/-
  Plain: reading the wire laws' values. No program.
-/
import Derived.Test.YtjaopndlcghkcaaV10
namespace Go.Proofs.Ytjaopndlcghkcaa
open Go Go.RowKit
set_option linter.unusedVariables false
set_option linter.unusedSimpArgs false
/-- what Vals makes: a kind, and nothing but what the kind says -/
structure Val.good (v : Val) : Prop where
  ok : v.ok
  k1 : 0 ≤ v.k
  k2 : v.k < 6
  u0 : v.k ≠ 0 → v.u = 0
  n0 : v.k ≠ 1 → v.k ≠ 2 → v.n = 0
  n2 : v.k = 2 → v.n = 0 ∨ v.n = 1
  b0 : v.k ≠ 3 → v.k ≠ 4 → v.b = []
  l0 : v.k ≠ 5 → v.l = []
  bl : v.b.length ≤ 200
  ll : v.l.length ≤ 20
/-- a value of a kind, read -/
def rV (k : Int) (s : Rs) : Val × Rs :=
  if k = 0 then (⟨k, (rU s).1, 0, [], []⟩, (rU s).2)
  else if k = 1 then (⟨k, 0, (rI s).1, [], []⟩, (rI s).2)
  else if k = 2 then (⟨k, 0, if (rB s).1 then 1 else 0, [], []⟩, (rB s).2)
  else if k = 3 ∨ k = 4 then (⟨k, 0, 0, (rList rNext s).1, []⟩, (rList rNext s).2)
  else (⟨k, 0, 0, [], (rList rI s).1⟩, (rList rI s).2)
def rVs : List Int → Rs → List Val × Rs
  | [], s => ([], s)
  | k :: ks, s => ((rV k s).1 :: (rVs ks (rV k s).2).1, (rVs ks (rV k s).2).2)
theorem rVs_snoc : ∀ (ks : List Int) (k : Int) (s : Rs), rVs (ks ++ [k]) s = ((rVs ks s).1 ++ [(rV k (rVs ks s).2).1], (rV k (rVs ks s).2).2)
  | [], k, s => rfl
  | x :: ks, k, s => by simp only [List.cons_append, rVs, rVs_snoc ks k]
/-- errors stay -/
theorem rI_err {s : Rs} (h : s.2 ≠ 0) : rI s = (0, s) := by unfold rI; rw [rU_err h]; simp [unzig]
theorem rNext_err {s : Rs} (h : s.2 ≠ 0) : rNext s = (0, s) := by unfold rNext; rw [if_neg h]
theorem rB_err {s : Rs} (h : s.2 ≠ 0) : rB s = (false, s) := by unfold rB; rw [rNext_err h]; rfl
theorem rList_eq {α : Type} (f : Rs → α × Rs) (s : Rs) : rList f s = (if (rMany f (rU s).1 (if (rU s).2.1.length < (rU s).1 then rFail (rU s).2 3 else (rU s).2)).2.2 = 0 then (rMany f (rU s).1 (if (rU s).2.1.length < (rU s).1 then rFail (rU s).2 3 else (rU s).2)).1 else [], (rMany f (rU s).1 (if (rU s).2.1.length < (rU s).1 then rFail (rU s).2 3 else (rU s).2)).2) := rfl
theorem rList_err {α : Type} {f : Rs → α × Rs} {s : Rs} (h : s.2 ≠ 0) : rList f s = ([], s) := by
  rw [rList_eq, rU_err h]
  simp only [Nat.not_lt_zero, if_false, rMany, if_neg h]
theorem rV_err {k : Int} {s : Rs} (h : s.2 ≠ 0) : rV k s = (⟨k, 0, 0, [], []⟩, s) := by
  unfold rV
  rw [rU_err h, rI_err h, rB_err h, rList_err h, rList_err h]
  split
  · rfl
  · split
    · rfl
    · split
      · rfl
      · split <;> rfl
theorem rV_kind (k : Int) (s : Rs) : (rV k s).1.k = k := by
  unfold rV
  split
  · rfl
  · split
    · rfl
    · split
      · rfl
      · split <;> rfl
theorem rVs_err : ∀ {ks : List Int} {s : Rs}, s.2 ≠ 0 → (rVs ks s).2 = s
  | [], _, _ => rfl
  | k :: ks, s, h => by
    rw [rVs, rV_err h]
    exact rVs_err h
theorem rVs_len : ∀ (ks : List Int) (s : Rs), (rVs ks s).1.length = ks.length
  | [], _ => rfl
  | k :: ks, s => by rw [rVs, List.length_cons, rVs_len ks, List.length_cons]
/-! ### the round trip -/
theorem rV_enc {v : Val} (h : v.good) (t : List UInt8) : rV v.k (encV v ++ t, 0) = (v, (t, 0)) := by
  obtain ⟨⟨k1, k2, hu, n1, n2, hb, hl, hli⟩, h0, h6, gu, gn, gn2, gb, gl, gbl, gll⟩ := h
  obtain ⟨k, u, n, b, l⟩ := v
  dsimp only at *
  unfold rV encV
  dsimp only
  by_cases e0 : k = 0
  · subst e0
    rw [if_pos rfl, if_pos rfl, rU_varint hu, gn (by decide) (by decide), gb (by decide) (by decide), gl (by decide)]
  rw [if_neg e0, if_neg e0]
  have := gu e0; subst this
  by_cases e1 : k = 1
  · subst e1
    rw [if_pos rfl, if_pos rfl, rI_zig n1 n2, gb (by decide) (by decide), gl (by decide)]
  rw [if_neg e1, if_neg e1]
  by_cases e2 : k = 2
  · subst e2
    rw [if_pos rfl, if_pos rfl, gb (by decide) (by decide), gl (by decide)]
    rcases gn2 rfl with rfl | rfl
    · have := rB_bool false t
      rw [if_neg (by decide)] at this
      simp [this]
    · have := rB_bool true t
      rw [if_pos rfl] at this
      simp [this]
  rw [if_neg e2, if_neg e2]
  have := gn e1 e2; subst this
  by_cases e3 : k = 3 ∨ k = 4
  · rw [if_pos e3, if_pos e3, rRaw_enc (by omega), gl (by rcases e3 with rfl | rfl <;> decide)]
  · rw [if_neg e3, if_neg e3, rInts_enc hli (by omega)]
    have := gb (fun e => e3 (.inl e)) (fun e => e3 (.inr e)); subst this
    rfl
theorem rVs_enc : ∀ {l : List Val} (t : List UInt8), (∀ v ∈ l, v.good) → rVs (l.map Val.k) (encL l ++ t, 0) = (l, (t, 0))
  | [], t, _ => rfl
  | v :: l, t, h => by
    have e : encL (v :: l) ++ t = encV v ++ (encL l ++ t) := by simp [encL]
    rw [List.map_cons, rVs, e, rV_enc (h v (.head _)), rVs_enc t fun x hx => h x (.tail _ hx)]
/-! ### a prefix -/
theorem rUi_prefix (m : Nat) : ∀ (i n j : Nat), j < (varint m).length → m * 128 ^ i < 18446744073709551616 → (rUi i n ((varint m).take j)) = (0, ([], 3)) := by
  induction m using varint.induct with
  | case1 m h =>
    intro i n j hj hb
    rw [varint_small h] at hj ⊢
    simp only [List.length_cons, List.length_nil] at hj
    obtain rfl : j = 0 := by omega
    rfl
  | case2 m h ih =>
    intro i n j hj hb
    rw [varint_big h] at hj ⊢
    rcases j with _ | j
    · rfl
    · simp only [List.length_cons] at hj
      have hc : (UInt8.ofNat (m % 128 + 128)).toNat = m % 128 + 128 := ofNat_toNat8 (by omega)
      rw [List.take_succ_cons, rUi, hc, if_neg, if_neg (by omega)]
      · refine ih _ _ _ (by omega) ?_
        have hm : m = m / 128 * 128 + m % 128 := by omega
        have e1 : m / 128 * 128 ^ (i + 1) + m % 128 * 128 ^ i = m * 128 ^ i := by
          rw [Nat.pow_succ, Nat.mul_comm (128 ^ i) 128, ← Nat.mul_assoc, ← Nat.add_mul, ← hm]
        omega
      · rintro (⟨rfl, h1⟩ | ⟨h1, h2⟩)
        · have e9 : (128 : Nat) ^ 9 = 9223372036854775808 := by decide
          rw [e9] at hb
          omega
        · omega
theorem rU_prefix {m j : Nat} (hm : m < 18446744073709551616) (hj : j < (varint m).length) : rU ((varint m).take j, 0) = (0, ([], 3)) := by
  unfold rU
  rw [if_pos rfl]
  exact rUi_prefix m 0 0 j hj (by simpa using hm)
theorem rFail_3 {b : List UInt8} : rFail (b, 0) 3 = (b, 3) := rfl
theorem rList_more {α : Type} {f : Rs → α × Rs} {s : Rs} {n : Nat} {b : List UInt8} (h1 : rU s = (n, (b, 0))) (h2 : b.length < n) : (rList f s).2.2 = 3 := by
  rw [rList_eq, h1]
  dsimp only
  rw [if_pos h2, rFail_3]
  rcases n with _ | n
  · omega
  · rfl
theorem rList_many {α : Type} {f : Rs → α × Rs} {s : Rs} {n : Nat} {b : List UInt8} (h1 : rU s = (n, (b, 0))) (h2 : n ≤ b.length) : (rList f s).2 = (rMany f n (b, 0)).2 := by
  rw [rList_eq, h1]
  dsimp only
  rw [if_neg (Nat.not_lt.2 h2)]
theorem rMany_err {α : Type} {f : Rs → α × Rs} : ∀ {n : Nat} {s : Rs}, s.2 ≠ 0 → rMany f n s = ([], s)
  | 0, _, _ => rfl
  | n + 1, s, h => by rw [rMany, if_neg h]
theorem rI_prefix {n : Int} {j : Nat} (h1 : -9223372036854775808 ≤ n) (h2 : n ≤ 9223372036854775807) (hj : j < (varint (zig n)).length) : rI ((varint (zig n)).take j, 0) = (0, ([], 3)) := by
  unfold rI
  rw [rU_prefix (zig_lt h1 h2) hj]; rfl
theorem rMany_prefix : ∀ (l : List Int) (j : Nat), (∀ n ∈ l, -9223372036854775808 ≤ n ∧ n ≤ 9223372036854775807) → j < (encI l).length → (rMany rI l.length ((encI l).take j, 0)).2.2 = 3
  | [], j, _, h => by simp [encI] at h
  | n :: l, j, h, hj => by
    have hn := h n (.head _)
    have e : encI (n :: l) = varint (zig n) ++ encI l := by simp [encI]
    rw [e, List.length_append] at hj
    rw [e, List.length_cons, rMany, if_pos rfl, List.take_append]
    by_cases hlt : j < (varint (zig n)).length
    · have e0 : j - (varint (zig n)).length = 0 := by omega
      rw [e0, List.take_zero, List.append_nil, rI_prefix hn.1 hn.2 hlt]
      dsimp only
      rw [rMany_err (by decide)]
    · rw [List.take_of_length_le (by omega), rI_zig hn.1 hn.2]
      dsimp only
      exact rMany_prefix l _ (fun x hx => h x (.tail _ hx)) (by omega)
theorem rV_prefix {v : Val} (h : v.good) {j : Nat} (hj : j < (encV v).length) : (rV v.k ((encV v).take j, 0)).2.2 = 3 := by
  obtain ⟨⟨k1, k2, hu, n1, n2, hb, hl, hli⟩, h0, h6, gu, gn, gn2, gb, gl, gbl, gll⟩ := h
  obtain ⟨k, u, n, b, l⟩ := v
  dsimp only at *
  unfold encV at hj ⊢
  dsimp only at hj ⊢
  unfold rV
  by_cases e0 : k = 0
  · rw [if_pos e0] at hj ⊢
    rw [if_pos e0, rU_prefix hu hj]
  rw [if_neg e0] at hj ⊢
  rw [if_neg e0]
  by_cases e1 : k = 1
  · rw [if_pos e1] at hj ⊢
    rw [if_pos e1, rI_prefix n1 n2 hj]
  rw [if_neg e1] at hj ⊢
  rw [if_neg e1]
  by_cases e2 : k = 2
  · rw [if_pos e2] at hj ⊢
    rw [if_pos e2]
    have hv : (if n = 1 then 1 else 0) < 128 := by split <;> decide
    rw [varint_small hv] at hj ⊢
    simp only [List.length_cons, List.length_nil] at hj
    obtain rfl : j = 0 := by omega
    rfl
  rw [if_neg e2] at hj ⊢
  rw [if_neg e2]
  by_cases e3 : k = 3 ∨ k = 4
  · rw [if_pos e3] at hj ⊢
    rw [if_pos e3]
    dsimp only
    rw [List.length_append] at hj
    rw [List.take_append]
    by_cases hlt : j < (varint b.length).length
    · have ez : j - (varint b.length).length = 0 := by omega
      rw [ez, List.take_zero, List.append_nil, rList_eq, rU_prefix (by omega) hlt]
      rfl
    · rw [List.take_of_length_le (by omega)]
      refine rList_more (n := b.length) (rU_varint (by omega) _) ?_
      rw [List.length_take]; omega
  · rw [if_neg e3] at hj ⊢
    rw [if_neg e3]
    dsimp only
    rw [List.length_append] at hj
    rw [List.take_append]
    by_cases hlt : j < (varint l.length).length
    · have ez : j - (varint l.length).length = 0 := by omega
      rw [ez, List.take_zero, List.append_nil, rList_eq, rU_prefix (by omega) hlt]
      rfl
    · rw [List.take_of_length_le (by omega)]
      obtain ⟨i, hi⟩ : ∃ i, j - (varint l.length).length = i := ⟨_, rfl⟩
      rw [hi]
      have hr := rU_varint (m := l.length) (by omega) ((encI l).take i)
      by_cases hs : ((encI l).take i).length < l.length
      · exact rList_more hr hs
      · rw [rList_many hr (by omega)]
        exact rMany_prefix l i hli (by omega)
theorem rVs_prefix : ∀ {l : List Val} {j : Nat}, (∀ v ∈ l, v.good) → j < (encL l).length → (rVs (l.map Val.k) ((encL l).take j, 0)).2.2 = 3
  | [], j, _, hj => by simp [encL] at hj
  | v :: l, j, h, hj => by
    have e : encL (v :: l) = encV v ++ encL l := by simp [encL]
    rw [e, List.length_append] at hj
    rw [e, List.map_cons, rVs, List.take_append]
    by_cases hlt : j < (encV v).length
    · have ez : j - (encV v).length = 0 := by omega
      rw [ez, List.take_zero, List.append_nil]
      have h3 := rV_prefix (h v (.head _)) hlt
      rw [rVs_err (by rw [h3]; decide)]
      exact h3
    · rw [List.take_of_length_le (by omega), rV_enc (h v (.head _))]
      exact rVs_prefix (fun x hx => h x (.tail _ hx)) (by omega)
/-! ### one encoding -/
theorem rUi_canon : ∀ (b : List UInt8) (i n m : Nat) (t : List UInt8), rUi i n b = (m, (t, 0)) → i ≤ 9 → ∃ q, m = n + q * 128 ^ i ∧ b = varint q ++ t ∧ (0 < i → 0 < q)
  | [], i, n, m, t, h, _ => by
    simp only [rUi, Prod.mk.injEq] at h
    exact absurd h.2.2 (by decide)
  | c :: r, i, n, m, t, h, hi => by
    rw [rUi] at h
    have hc : c.toNat < 256 := c.toNat_lt
    split at h
    · simp only [Prod.mk.injEq] at h
      exact absurd h.2.2 (by decide)
    · rename_i h1
      split at h
      · rename_i h2
        simp only [Prod.mk.injEq] at h
        obtain ⟨rfl, rfl, _⟩ := h
        refine ⟨c.toNat, rfl, ?_, fun h0 => ?_⟩
        · rw [varint_small h2, UInt8.ofNat_toNat]; rfl
        · rcases Nat.eq_zero_or_pos c.toNat with hz | hz
          · exact absurd (.inr ⟨h0, hz⟩) h1
          · exact hz
      · rename_i h2
        have h9 : i ≠ 9 := fun e => h1 (.inl ⟨e, by omega⟩)
        obtain ⟨q, hm, hr, hp⟩ := rUi_canon r (i + 1) _ m t h (by omega)
        have hq := hp (by omega)
        have e1 : (c.toNat - 128 + 128 * q) / 128 = q := by omega
        have e2 : (c.toNat - 128 + 128 * q) % 128 = c.toNat - 128 := by omega
        refine ⟨c.toNat - 128 + 128 * q, ?_, ?_, fun _ => by omega⟩
        · rw [hm, Nat.pow_succ, Nat.add_mul, Nat.mul_comm (128 ^ i) 128, ← Nat.mul_assoc, Nat.mul_comm q 128]
          omega
        · rw [varint_big (by omega), e1, e2, hr]
          have : c.toNat - 128 + 128 = c.toNat := by omega
          rw [this, UInt8.ofNat_toNat]; rfl
theorem rU_canon {b t : List UInt8} {m : Nat} (h : rU (b, 0) = (m, (t, 0))) : b = varint m ++ t := by
  unfold rU at h
  rw [if_pos rfl] at h
  obtain ⟨q, hm, hb, _⟩ := rUi_canon b 0 0 m t h (by decide)
  simp only [Nat.pow_zero, Nat.mul_one, Nat.zero_add] at hm
  rw [hm]; exact hb
theorem zig_unzig (m : Nat) : zig (unzig m) = m := by
  unfold unzig zig
  split <;> split <;> omega
theorem rI_canon {b t : List UInt8} {n : Int} (h : rI (b, 0) = (n, (t, 0))) : b = varint (zig n) ++ t ∧ -9223372036854775808 ≤ n ∧ n ≤ 9223372036854775807 := by
  unfold rI at h
  simp only [Prod.mk.injEq] at h
  obtain ⟨rfl, h2⟩ := h
  have := unzig_in (rU_lt (b, 0))
  refine ⟨?_, this⟩
  rw [zig_unzig]
  exact rU_canon (by rw [← h2])
theorem rB_canon {b t : List UInt8} {x : Bool} (h : rB (b, 0) = (x, (t, 0))) : b = varint (if x = true then 1 else 0) ++ t := by
  unfold rB at h
  rcases b with _ | ⟨c, r⟩
  · have e : rNext (([] : List UInt8), 0) = (0, ([], 3)) := rfl
    rw [e] at h
    simp at h
  · have e : rNext (c :: r, 0) = (c, (r, 0)) := rfl
    rw [e] at h
    simp only [Prod.mk.injEq] at h
    obtain ⟨rfl, h2⟩ := h
    by_cases h1 : 1 < c.toNat
    · rw [if_pos h1] at h2
      simp only [rFail, if_true, Prod.mk.injEq] at h2
      exact absurd h2.2 (by decide)
    · rw [if_neg h1] at h2
      simp only [Prod.mk.injEq] at h2
      obtain ⟨rfl, _⟩ := h2
      have hc : c = UInt8.ofNat c.toNat := UInt8.ofNat_toNat.symm
      by_cases h2 : c.toNat = 1
      · rw [if_pos (by simpa using h2), varint_small (by decide), hc, h2]; rfl
      · have h3 : c.toNat = 0 := by omega
        rw [if_neg (by simpa using h2), varint_small (by decide), hc, h3]; rfl
theorem rMany_canonB : ∀ (n : Nat) (b t : List UInt8) (l : List UInt8), rMany rNext n (b, 0) = (l, (t, 0)) → b = l ++ t ∧ l.length = n
  | 0, b, t, l, h => by
    simp only [rMany, Prod.mk.injEq] at h
    obtain ⟨rfl, rfl, _⟩ := h
    exact ⟨rfl, rfl⟩
  | n + 1, b, t, l, h => by
    rw [rMany, if_pos rfl] at h
    rcases b with _ | ⟨c, r⟩
    · have e : rNext (([] : List UInt8), 0) = (0, ([], 3)) := rfl
      rw [e] at h
      dsimp only at h
      rw [rMany_err (by decide)] at h
      simp only [Prod.mk.injEq] at h
      exact absurd h.2.2 (by decide)
    · have e : rNext (c :: r, 0) = (c, (r, 0)) := rfl
      rw [e] at h
      simp only [Prod.mk.injEq] at h
      obtain ⟨rfl, h2⟩ := h
      obtain ⟨h3, h4⟩ := rMany_canonB n r t (rMany rNext n (r, 0)).1 (by rw [← h2])
      refine ⟨?_, by simp [h4]⟩
      rw [List.cons_append, ← h3]
theorem rMany_canonI : ∀ (n : Nat) (b t : List UInt8) (l : List Int), rMany rI n (b, 0) = (l, (t, 0)) → b = encI l ++ t ∧ l.length = n ∧ ∀ x ∈ l, -9223372036854775808 ≤ x ∧ x ≤ 9223372036854775807
  | 0, b, t, l, h => by
    simp only [rMany, Prod.mk.injEq] at h
    obtain ⟨rfl, rfl, _⟩ := h
    exact ⟨rfl, rfl, fun x hx => by cases hx⟩
  | n + 1, b, t, l, h => by
    rw [rMany, if_pos rfl] at h
    obtain ⟨x, b', e', hx⟩ : ∃ x b' e', rI (b, 0) = (x, (b', e')) := ⟨_, _, _, rfl⟩
    rw [hx] at h
    dsimp only at h
    by_cases he : e' = 0
    · subst he
      simp only [Prod.mk.injEq] at h
      obtain ⟨rfl, h2⟩ := h
      obtain ⟨h3, h4, h5⟩ := rMany_canonI n b' t (rMany rI n (b', 0)).1 (by rw [← h2])
      obtain ⟨c1, c2⟩ := rI_canon hx
      refine ⟨?_, by simp [h4], fun y hy => ?_⟩
      · rw [c1]
        have : encI (x :: (rMany rI n (b', 0)).1) = varint (zig x) ++ encI (rMany rI n (b', 0)).1 := by simp [encI]
        rw [this, List.append_assoc, ← h3]
      · rcases List.mem_cons.1 hy with rfl | hy
        · exact c2
        · exact h5 y hy
    · rw [rMany_err he] at h
      simp only [Prod.mk.injEq] at h
      exact absurd h.2.2 he
theorem rList_canon {α : Type} {f : Rs → α × Rs} {b t : List UInt8} {l : List α} (h : rList f (b, 0) = (l, (t, 0))) : ∃ n b1, b = varint n ++ b1 ∧ n ≤ b1.length ∧ rMany f n (b1, 0) = (l, (t, 0)) := by
  rw [rList_eq] at h
  obtain ⟨n, b1, e1, hu⟩ : ∃ n b1 e1, rU (b, 0) = (n, (b1, e1)) := ⟨_, _, _, rfl⟩
  rw [hu] at h
  dsimp only at h
  by_cases he : e1 = 0
  · subst he
    by_cases hl : b1.length < n
    · rw [if_pos hl, rFail_3, rMany_err (by show (3 : Int) ≠ 0; decide)] at h
      simp only [Prod.mk.injEq] at h
      exact absurd h.2.2 (by decide)
    · rw [if_neg hl] at h
      simp only [Prod.mk.injEq] at h
      obtain ⟨h1, h2⟩ := h
      have h3 : (rMany f n (b1, 0)).2.2 = 0 := by rw [h2]
      rw [if_pos h3] at h1
      exact ⟨n, b1, rU_canon hu, by omega, by rw [← h1, ← h2]⟩
  · exfalso
    have h5 : (if b1.length < n then rFail (b1, e1) 3 else (b1, e1)) = (b1, e1) := by
      split
      · simp only [rFail, if_neg he]
      · rfl
    rw [h5, rMany_err he] at h
    simp only [Prod.mk.injEq] at h
    exact he h.2.2
theorem rV_canon {k : Int} {b t : List UInt8} {v : Val} (hk0 : 0 ≤ k) (hk6 : k < 6) (h : rV k (b, 0) = (v, (t, 0))) (hbl : b.length ≤ 1000000) : b = encV v ++ t ∧ v.ok := by
  unfold rV at h
  by_cases e0 : k = 0
  · subst e0
    rw [if_pos rfl] at h
    simp only [Prod.mk.injEq] at h
    obtain ⟨rfl, h2⟩ := h
    refine ⟨rU_canon (b := b) (by rw [← h2]), by constructor <;> dsimp only <;> first | decide | exact rU_lt _ | (intro n hn; cases hn)⟩
  rw [if_neg e0] at h
  by_cases e1 : k = 1
  · subst e1
    rw [if_pos rfl] at h
    simp only [Prod.mk.injEq] at h
    obtain ⟨rfl, h2⟩ := h
    have hc := rI_canon (b := b) (t := t) (n := (rI (b, 0)).1) (by rw [← h2])
    exact ⟨hc.1, by constructor <;> dsimp only <;> first | decide | exact hc.2.1 | exact hc.2.2 | (intro n hn; cases hn)⟩
  rw [if_neg e1] at h
  by_cases e2 : k = 2
  · subst e2
    rw [if_pos rfl] at h
    simp only [Prod.mk.injEq] at h
    obtain ⟨rfl, h2⟩ := h
    have hc := rB_canon (b := b) (t := t) (x := (rB (b, 0)).1) (by rw [← h2])
    refine ⟨?_, by constructor <;> dsimp only <;> first | decide | (split <;> decide) | (intro n hn; cases hn)⟩
    · unfold encV
      dsimp only
      rw [if_neg (by decide), if_neg (by decide), if_pos rfl]
      refine hc.trans ?_
      cases (rB (b, 0)).1 <;> rfl
  rw [if_neg e2] at h
  by_cases e3 : k = 3 ∨ k = 4
  · rw [if_pos e3] at h
    simp only [Prod.mk.injEq] at h
    obtain ⟨rfl, h2⟩ := h
    obtain ⟨n, b1, hb, hn, hm⟩ := rList_canon (f := rNext) (b := b) (t := t) (l := (rList rNext (b, 0)).1) (by rw [← h2])
    obtain ⟨c1, c2⟩ := rMany_canonB _ _ _ _ hm
    refine ⟨?_, ⟨by dsimp only; omega, by dsimp only; omega, by dsimp only; decide, by dsimp only; decide, by dsimp only; decide, ?_, by dsimp only; decide, fun n hn => by cases hn⟩⟩
    · unfold encV
      dsimp only
      rw [if_neg e0, if_neg e1, if_neg e2, if_pos e3, c2, List.append_assoc, ← c1]
      exact hb
    · dsimp only
      rw [c2]
      rw [hb, List.length_append] at hbl
      omega
  · rw [if_neg e3] at h
    simp only [Prod.mk.injEq] at h
    obtain ⟨rfl, h2⟩ := h
    obtain ⟨n, b1, hb, hn, hm⟩ := rList_canon (f := rI) (b := b) (t := t) (l := (rList rI (b, 0)).1) (by rw [← h2])
    obtain ⟨c1, c2, c3⟩ := rMany_canonI _ _ _ _ hm
    refine ⟨?_, ⟨by dsimp only; omega, by dsimp only; omega, by dsimp only; decide, by dsimp only; decide, by dsimp only; decide, by dsimp only; decide, ?_, c3⟩⟩
    · unfold encV
      dsimp only
      rw [if_neg e0, if_neg e1, if_neg e2, if_neg e3, c2, List.append_assoc, ← c1]
      exact hb
    · dsimp only
      rw [c2]
      rw [hb, List.length_append] at hbl
      omega
theorem rVs_canon : ∀ {ks : List Int} {b t : List UInt8}, (∀ k ∈ ks, 0 ≤ k ∧ k < 6) → (rVs ks (b, 0)).2 = (t, 0) → b.length ≤ 1000000 → b = encL (rVs ks (b, 0)).1 ++ t ∧ ∀ v ∈ (rVs ks (b, 0)).1, v.ok
  | [], b, t, _, h, _ => by
    simp only [rVs, Prod.mk.injEq] at h
    exact ⟨by rw [h.1]; rfl, fun v hv => by cases hv⟩
  | k :: ks, b, t, hk, h, hb => by
    rw [rVs] at h ⊢
    dsimp only at h ⊢
    obtain ⟨v, b', e', hv⟩ : ∃ v b' e', rV k (b, 0) = (v, (b', e')) := ⟨_, _, _, rfl⟩
    rw [hv] at h ⊢
    dsimp only at h ⊢
    by_cases he : e' = 0
    · subst he
      have h0 := hk k (.head _)
      obtain ⟨c1, c2⟩ := rV_canon h0.1 h0.2 hv hb
      have hb' : b'.length ≤ 1000000 := by
        rw [c1, List.length_append] at hb
        omega
      obtain ⟨d1, d2⟩ := rVs_canon (fun x hx => hk x (.tail _ hx)) h hb'
      refine ⟨?_, fun x hx => ?_⟩
      · have : encL (v :: (rVs ks (b', 0)).1) = encV v ++ encL (rVs ks (b', 0)).1 := by simp [encL]
        rw [this, List.append_assoc, ← d1]
        exact c1
      · rcases List.mem_cons.1 hx with rfl | hx
        · exact c2
        · exact d2 x hx
    · exfalso
      have hs : ((b', e') : Rs).2 ≠ 0 := he
      rw [rVs_err hs] at h
      simp only [Prod.mk.injEq] at h
      exact he h.2
/-! ### lengths -/
theorem rMany_len {α : Type} {f : Rs → α × Rs} (hf : ∀ s, (f s).2.1.length ≤ s.1.length) : ∀ (n : Nat) (s : Rs), (rMany f n s).2.1.length ≤ s.1.length
  | 0, s => Nat.le_refl _
  | n + 1, s => by
    rw [rMany]
    split
    · exact Nat.le_trans (rMany_len hf n (f s).2) (hf s)
    · exact Nat.le_refl _
theorem rList_len {α : Type} {f : Rs → α × Rs} (hf : ∀ s, (f s).2.1.length ≤ s.1.length) (s : Rs) : (rList f s).2.1.length ≤ s.1.length := by
  rw [rList_eq]
  refine Nat.le_trans (rMany_len hf _ _) ?_
  refine Nat.le_trans ?_ (rU_len s)
  split
  · unfold rFail; split <;> exact Nat.le_refl _
  · exact Nat.le_refl _
theorem rB_len (s : Rs) : (rB s).2.1.length ≤ s.1.length := by
  unfold rB
  refine Nat.le_trans ?_ (rNext_len s)
  dsimp only
  split
  · unfold rFail; split <;> exact Nat.le_refl _
  · exact Nat.le_refl _
theorem rV_len (k : Int) (s : Rs) : (rV k s).2.1.length ≤ s.1.length := by
  unfold rV
  split
  · exact rU_len s
  · split
    · exact rU_len s
    · split
      · exact rB_len s
      · split
        · exact rList_len rNext_len s
        · exact rList_len rI_len s
theorem rV_blen {k : Int} {s : Rs} (hs : s.1.length ≤ 1000000) : (rV k s).1.b.length ≤ 1000000 ∧ (rV k s).1.l.length ≤ 1000000 := by
  have many : ∀ {α : Type} (f : Rs → α × Rs) (n : Nat) (s : Rs), (rMany f n s).1.length ≤ n := by
    intro α f n
    induction n with
    | zero => intro s; exact Nat.le_refl _
    | succ n ih =>
      intro s
      rw [rMany]
      split
      · have := ih (f s).2
        simp only [List.length_cons]; omega
      · simp
  have key : ∀ {α : Type} (f : Rs → α × Rs), (rList f s).1.length ≤ 1000000 := by
    intro α f
    have h2 := rU_len s
    have h3 : ∀ s1 : Rs, (s1.2 ≠ 0 ∨ (rU s).1 ≤ 1000000) → (rMany f (rU s).1 s1).1.length ≤ 1000000 := by
      intro s1 h
      rcases h with h | h
      · rw [rMany_err h]; simp
      · have := many f (rU s).1 s1
        omega
    have h4 : (if (rU s).2.1.length < (rU s).1 then rFail (rU s).2 3 else (rU s).2).2 ≠ 0 ∨ (rU s).1 ≤ 1000000 := by
      by_cases hlt : (rU s).2.1.length < (rU s).1
      · left
        rw [if_pos hlt]
        unfold rFail
        split
        · show (3 : Int) ≠ 0; decide
        · assumption
      · right; omega
    have h5 := h3 _ h4
    rw [rList_eq]
    dsimp only
    generalize (if (rU s).2.1.length < (rU s).1 then rFail (rU s).2 3 else (rU s).2) = s1 at h5 ⊢
    split
    · exact h5
    · exact Nat.zero_le _
  have k1 := key rNext
  have k2 := key rI
  unfold rV
  split
  · exact ⟨Nat.zero_le _, Nat.zero_le _⟩
  · split
    · exact ⟨Nat.zero_le _, Nat.zero_le _⟩
    · split
      · exact ⟨Nat.zero_le _, Nat.zero_le _⟩
      · split
        · exact ⟨k1, Nat.zero_le _⟩
        · exact ⟨Nat.zero_le _, k2⟩
theorem good_len {v : Val} (h : v.good) : (encV v).length ≤ 300 := by
  obtain ⟨⟨k1, k2, hu, n1, n2, hb, hl, hli⟩, h0, h6, gu, gn, gn2, gb, gl, gbl, gll⟩ := h
  have h1 := vlen hu
  have h2 := vlen (zig_lt n1 n2)
  have h3 := vlen (m := v.b.length) (by omega)
  have h4 := vlen (m := v.l.length) (by omega)
  have h5 := encI_len hli
  have h6 : (varint (if v.n = 1 then 1 else 0)).length ≤ 10 := vlen (by split <;> decide)
  unfold encV
  split
  · omega
  · split
    · omega
    · split
      · omega
      · split
        · rw [List.length_append]; omega
        · rw [List.length_append]; omega
theorem goodL_len : ∀ {l : List Val}, (∀ x ∈ l, x.good) → (encL l).length ≤ 300 * l.length
  | [], _ => by simp [encL]
  | x :: l, h => by
    have h1 := goodL_len (l := l) fun x hx => h x (.tail _ hx)
    have h2 := good_len (h x (.head _))
    simp only [encL, List.map_cons, List.flatten_cons, List.length_append, List.length_cons] at h1 ⊢
    omega
end Go.Proofs.Ytjaopndlcghkcaa
