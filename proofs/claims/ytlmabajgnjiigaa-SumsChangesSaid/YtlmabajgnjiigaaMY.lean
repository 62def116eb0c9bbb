/-
  Package sums, plain: covers by keys.
-/
import Derived.Test.YtlmabajgnjiigaaMX
namespace Go.Proofs.Ytlmabajgnjiigaa
open Go Go.RowKit
set_option linter.unusedVariables false
set_option linter.unusedSimpArgs false
def covK (F : List Int) (G : List (List Int)) (ks : List (Int × Int)) (c : CS) : CS := ks.foldl (fun c y => covSt F G y.1 y.2 c) c
theorem covK_app {F : List Int} {G : List (List Int)} {k1 k2 : List (Int × Int)} {c : CS} : covK F G (k1 ++ k2) c = covK F G k2 (covK F G k1 c) := List.foldl_append
theorem covK_snoc {F : List Int} {G : List (List Int)} {k1 : List (Int × Int)} {y : Int × Int} {c : CS} : covK F G (k1 ++ [y]) c = covSt F G y.1 y.2 (covK F G k1 c) := by rw [covK_app]; rfl
theorem covK_len {F : List Int} {G : List (List Int)} : ∀ {ks : List (Int × Int)} {c : CS}, (covK F G ks c).1.length + (covK F G ks c).2.length ≤ c.1.length + c.2.length
  | [], c => Nat.le_refl _
  | y :: r, c => Nat.le_trans (covK_len (ks := r) (c := covSt F G y.1 y.2 c)) covSt_len
theorem covG_keys {F : List Int} {G : List (List Int)} {s : Int} {c : CS} : ∀ n : Nat, covG F G s n c = covK F G (keyG s n) c
  | 0 => rfl
  | n + 1 => by
    rw [keyG_succ, covK_snoc, ← covG_keys n]
    rfl
theorem covSt_nil {F : List Int} {G : List (List Int)} {s g : Int} {c : CS} (h : mbrF F G s g = []) : covSt F G s g c = c := by
  unfold covSt
  rw [h, if_neg (fun h => by simp at h)]
theorem covG_more {F : List Int} {G : List (List Int)} {s : Int} {c : CS} {m : Nat} (h : ∀ g : Nat, m ≤ g → mbrF F G s (g : Int) = []) : ∀ n : Nat, m ≤ n → covG F G s n c = covG F G s m c
  | 0, hn => by rw [Nat.le_zero.1 hn]
  | n + 1, hn => by
    by_cases e : m = n + 1
    · rw [e]
    · rw [show covG F G s (n + 1) c = covSt F G s (n : Int) (covG F G s n c) from rfl, covSt_nil (h n (by omega)), covG_more h n (by omega)]
theorem mbrF_at {F : List Int} {G : List (List Int)} {s : Nat} {R : List Int} {g : Int} (h : G[s]? = some R) : mbrF F G (s : Int) g = memN F R g F.length := mbrN_at (n := F.length) h
theorem memN_mem {F R : List Int} {g : Int} {n i k : Nat} (hi : i < n) (hf : F[i]? = some (k : Int)) (hr : R[k]? = some g) : (i : Int) ∈ memN F R g n := by
  unfold memN
  refine List.mem_map.2 ⟨i, List.mem_filter.2 ⟨List.mem_range.2 hi, ?_⟩, rfl⟩
  rw [List.getD_eq_getElem?_getD, List.getD_eq_getElem?_getD, hf, Option.getD_some, Int.toNat_natCast, hr]
  exact decide_eq_true rfl
theorem memN_of {F R : List Int} {g x : Int} {n : Nat} (h : x ∈ memN F R g n) (hn : n ≤ F.length) (hF : ∀ f ∈ F, 0 ≤ f ∧ f < (R.length : Int)) : ∃ i k : Nat, x = (i : Int) ∧ i < n ∧ F[i]? = some (k : Int) ∧ R[k]? = some g := by
  unfold memN at h
  obtain ⟨i, hi, rfl⟩ := List.mem_map.1 h
  obtain ⟨h1, h2⟩ := List.mem_filter.1 hi
  have hin := List.mem_range.1 h1
  have h2 := of_decide_eq_true h2
  obtain ⟨f, hf⟩ : ∃ f, F[i]? = some f := ⟨_, List.getElem?_eq_getElem (by omega)⟩
  obtain ⟨h3, h4⟩ := hF f (List.mem_of_getElem? hf)
  obtain ⟨k, rfl⟩ : ∃ k : Nat, f = (k : Int) := ⟨f.toNat, by omega⟩
  obtain ⟨r, hr⟩ : ∃ r, R[k]? = some r := ⟨_, List.getElem?_eq_getElem (by omega)⟩
  rw [List.getD_eq_getElem?_getD, List.getD_eq_getElem?_getD, hf, Option.getD_some, Int.toNat_natCast, hr, Option.getD_some] at h2
  exact ⟨i, k, rfl, hin, hf, by rw [hr, h2]⟩
section
variable {U F : List Int} {G : List (List Int)}
theorem ChkT.cnt (hc : ChkT U F G) {s : Nat} {R : List Int} (h : G[s]? = some R) : ∃ m, numF R 0 = some m ∧ m ≤ F.length ∧ (gsF G G.length).getD s 0 = (m : Int) := by
  obtain ⟨h1, h2⟩ := hc.g s R h
  obtain ⟨m, hm⟩ := Option.isSome_iff_exists.1 h2
  have h3 := numF_le hm
  have h4 := hc.many
  refine ⟨m, hm, by omega, ?_⟩
  unfold gsF
  rw [List.take_length, List.getD_eq_getElem?_getD, List.getElem?_map, h, Option.map_some, Option.getD_some, hm]
  rfl
theorem ChkT.inR (hc : ChkT U F G) {s : Nat} {R : List Int} (h : G[s]? = some R) : ∀ f ∈ F, 0 ≤ f ∧ f < (R.length : Int) := fun f hf => by
  have := facF_ge hf
  have := (hc.f f hf).1
  have := (hc.g s R h).1
  omega
theorem ChkT.none (hc : ChkT U F G) {s m g : Nat} {R : List Int} (h : G[s]? = some R) (hm : numF R 0 = some m) (hg : m ≤ g) : mbrF F G (s : Int) (g : Int) = [] := by
  rw [mbrF_at h]
  refine List.eq_nil_iff_forall_not_mem.2 fun x hx => ?_
  obtain ⟨i, k, _, _, _, hr⟩ := memN_of hx (Nat.le_refl _) (hc.inR h)
  have := (numF_mem hm).2 _ (List.mem_of_getElem? hr)
  omega
theorem ChkT.some (hc : ChkT U F G) {s m g : Nat} {R : List Int} (h : G[s]? = some R) (hm : numF R 0 = some m) (hg : g < m) : mbrF F G (s : Int) (g : Int) ≠ [] := by
  rw [mbrF_at h]
  obtain ⟨k, hk⟩ := List.getElem?_of_mem (numF_each hm g (Nat.zero_le _) hg)
  have hkl := (List.getElem?_eq_some_iff.1 hk).1
  have hkF := hc.each k (by have := (hc.g s R h).1; omega)
  obtain ⟨i, hi⟩ := List.getElem?_of_mem hkF
  intro e
  have := memN_mem (F := F) (R := R) (n := F.length) (List.getElem?_eq_some_iff.1 hi).1 hi hk
  rw [e] at this
  cases this
theorem covS_keys (hc : ChkT U F G) : ∀ (n : Nat) (c : CS), n ≤ G.length → covS F G n c = covK F G (keyS (gsF G G.length) n) c
  | 0, c, _ => rfl
  | n + 1, c, hn => by
    obtain ⟨R, hR⟩ : ∃ R, G[n]? = some R := ⟨_, List.getElem?_eq_getElem (by omega)⟩
    obtain ⟨m, hm, hmF, hgd⟩ := hc.cnt hR
    show covS F G n (covG F G (n : Int) F.length c) = covK F G (keyG (n : Int) ((gsF G G.length).getD n 0).toNat ++ keyS (gsF G G.length) n) c
    rw [hgd, Int.toNat_natCast, covK_app, ← covG_keys, covG_more (fun g hg => hc.none hR hm hg) F.length hmF, covS_keys hc n _ (by omega)]
theorem keyS_mem (hc : ChkT U F G) : ∀ (n : Nat), n ≤ G.length → ∀ y ∈ keyS (gsF G G.length) n, ∃ (s g m : Nat) (R : List Int), y = ((s : Int), (g : Int)) ∧ s < n ∧ G[s]? = Option.some R ∧ numF R 0 = Option.some m ∧ g < m
  | 0, _, y, hy => by cases hy
  | n + 1, hn, y, hy => by
    obtain ⟨R, hR⟩ : ∃ R, G[n]? = Option.some R := ⟨_, List.getElem?_eq_getElem (by omega)⟩
    obtain ⟨m, hm, hmF, hgd⟩ := hc.cnt hR
    have hy : y ∈ keyG (n : Int) ((gsF G G.length).getD n 0).toNat ++ keyS (gsF G G.length) n := hy
    rw [hgd, Int.toNat_natCast] at hy
    rcases List.mem_append.1 hy with hy | hy
    · unfold keyG at hy
      obtain ⟨g, hg, rfl⟩ := List.mem_map.1 hy
      exact ⟨n, g, m, R, rfl, Nat.lt_succ_self _, hR, hm, List.mem_range.1 hg⟩
    · obtain ⟨s, g, m2, R2, h1, h2, h3⟩ := keyS_mem hc n (by omega) y hy
      exact ⟨s, g, m2, R2, h1, by omega, h3⟩
/-- a key's members are there, and are atoms -/
theorem TOk.key {t : TT} (ht : TOk t U F G) (hc : ChkT U F G) {y : Int × Int} (hy : y ∈ keyS (gsF G G.length) G.length) : ∃ e, gvX y t.mm = Option.some e ∧ e.2 = mbrF F G y.1 y.2 ∧ 0 < (mbrF F G y.1 y.2).length ∧ gvX y t.sl = Option.some (sumAt U (mbrF F G y.1 y.2)) := by
  obtain ⟨s, g, m, R, rfl, hs, hR, hm, hg⟩ := keyS_mem hc _ (Nat.le_refl _) y hy
  have h0 := hc.some hR hm hg
  have h1 := ht.mm (s : Int) (g : Int)
  have h2 := ht.sl (s : Int) (g : Int)
  unfold optL at h1 h2
  rw [if_neg h0] at h1 h2
  obtain ⟨e, he, he2⟩ := Option.map_eq_some_iff.1 h1
  refine ⟨e, he, he2, ?_, h2⟩
  cases hl : mbrF F G (s : Int) (g : Int) with
  | nil => exact absurd hl h0
  | cons a r => exact Nat.succ_pos _
theorem TOk.gs {t : TT} (ht : TOk t U F G) (hc : ChkT U F G) : t.gs.length = G.length ∧ ∀ g ∈ t.gs, 0 ≤ g ∧ g ≤ (F.length : Int) := by
  rw [ht.g]
  refine ⟨gsF_len (Nat.le_refl _), fun g hg => ?_⟩
  unfold gsF at hg
  rw [List.take_length] at hg
  obtain ⟨R, hR, rfl⟩ := List.mem_map.1 hg
  obtain ⟨s, hs⟩ := List.getElem?_of_mem hR
  obtain ⟨m, hm, hmF, _⟩ := hc.cnt hs
  rw [hm]
  dsimp only [Option.getD_some]
  omega
end
theorem gvX_pos {κ α : Type} [DecidableEq κ] {k : κ} {l : List (κ × α)} {x : α} (h : gvX k l = some x) : ∃ q, posX k l 0 = some q ∧ q.2 = x := by
  unfold gvX at h
  exact Option.map_eq_some_iff.1 h
end Go.Proofs.Ytlmabajgnjiigaa
