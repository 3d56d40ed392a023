/-
  The laws of the greatest value: wider, twice as wide, doubled, turned. No program in sight.
-/
import Derived.Test.YtkckaooimffdpaaBestV
import Derived.Test.YtkckaooimffdpaaBarP
namespace Go.Proofs.Ytkckaooimffdpaa
set_option linter.unusedSimpArgs false
set_option linter.unusedVariables false
open Go.RowKit

theorem ob_out {x y : Int} {f : List Pn} {V : List Int} (h : ¬ bvOut x y f V < 0) : OB x y f V := by
  by_cases hb : obB x y f V = true
  · exact obB_iff.1 hb
  · exfalso
    have hb' : obB x y f V = false := by simpa using hb
    rw [bvOut_f hb'] at h
    omega
theorem lfW_bd {x y : Int} {f : List Pn} {V : List Int} (h : OB x y f V) : ∀ i j, 0 ≤ lfW f V i j ∧ lfW f V i j ≤ 1000 := fun i j => lfk_bd _ _ h.2.2.2.2.2 _ (Nat.le_refl _)
theorem bvOut_bd {x y : Int} {f : List Pn} {V : List Int} (h : OB x y f V) : 0 ≤ bvOut x y f V ∧ bvOut x y f V ≤ 4294967296000 := by
  rw [bvOut_t (obB_iff.2 h)]
  exact bv_bd (lfW_bd h) (by have h1 := h.1.1; have h2 := h.1.2.1; have h3 := h.2.1; have h4 := h.2.2.1; omega)
theorem ob_w {x x' y : Int} {f : List Pn} {V : List Int} (h : OB x y f V) (h1 : 1 ≤ x' ∧ x' ≤ 16) : OB x' y f V := ⟨⟨⟨h1.1, by omega⟩, h.1.2⟩, h1.2, h.2.2⟩
theorem bvOut_wide {x y : Int} {f : List Pn} {V : List Int} (h : OB x y f V) (hx : x < 16) : bvOut x y f V ≤ bvOut (x + 1) y f V := by
  have h1 := h.1.1
  have h2 := h.1.2.1
  rw [bvOut_t (obB_iff.2 h), bvOut_t (obB_iff.2 (ob_w h (x' := x + 1) (by omega)))]
  have := bv_wide (lf := lfW f V) (fun i j => (lfW_bd h i j).1) (w := x.toNat) (h := y.toNat) (by omega) (by omega)
  rw [show (x + 1).toNat = x.toNat + 1 by omega]
  exact this
theorem bvOut_twice {x y : Int} {f : List Pn} {V : List Int} (h : OB x y f V) (hx : 2 * x ≤ 16) : 2 * bvOut x y f V ≤ bvOut (2 * x) y f V := by
  have h1 := h.1.1
  have h2 := h.1.2.1
  rw [bvOut_t (obB_iff.2 h), bvOut_t (obB_iff.2 (ob_w h (x' := 2 * x) (by omega)))]
  have := bv_twice (lfW f V) (w := x.toNat) (h := y.toNat) (by omega) (by omega)
  rw [show (2 * x).toNat = 2 * x.toNat by omega]
  exact this
def dbl (V : List Int) : List Int := V.map fun v => 2 * v
theorem dbl_len (V : List Int) : (dbl V).length = V.length := by simp [dbl]
theorem dbl_getD (V : List Int) (k : Nat) : (dbl V).getD k 0 = 2 * V.getD k 0 := by
  unfold dbl
  rw [List.getD_eq_getElem?_getD, List.getD_eq_getElem?_getD, List.getElem?_map]
  cases V[k]? <;> rfl
theorem dbl_snoc {V : List Int} {k : Nat} (hk : k < V.length) : dbl (V.take (k + 1)) = dbl (V.take k) ++ [2 * V[k]] := by
  rw [List.take_succ_eq_append_getElem hk]; simp only [dbl, List.map_append, List.map_cons, List.map_nil]
theorem up1_dbl (m v : Int) (b : Bool) : up1 (2 * m) (2 * v) b = 2 * up1 m v b := by
  unfold up1
  by_cases h : b = true ∧ m < v
  · rw [if_pos h, if_pos ⟨h.1, by omega⟩]
  · rw [if_neg h, if_neg (fun h2 => h ⟨h2.1, by omega⟩)]
theorem lfk_dbl (f : List Pn) (V : List Int) (x y : Int) : ∀ k, lfk f (dbl V) x y k = 2 * lfk f V x y k
  | 0 => rfl
  | k + 1 => by
    unfold lfk lfj
    rw [lfk_dbl f V x y k, dbl_getD, up1_dbl, up1_dbl]
    rfl
theorem hik_ge (G : List Int) : ∀ k i, i < k → G.getD i 0 ≤ hik G k
  | 0, i, h => by omega
  | k + 1, i, h => by
    simp only [hik]
    by_cases e : i = k
    · subst e; omega
    · have := hik_ge G k i (by omega); omega
theorem bvOut_dbl {x y : Int} {f : List Pn} {V : List Int} (h : OB x y f V) (hh : ¬ 1000 < hik (dbl V) (dbl V).length) : bvOut x y f (dbl V) = 2 * bvOut x y f V := by
  have hok : OB x y f (dbl V) := ⟨h.1, h.2.1, h.2.2.1, h.2.2.2.1, by rw [dbl_len]; exact h.2.2.2.2.1, fun v hv => by
    obtain ⟨i, hi, rfl⟩ := List.getElem_of_mem hv
    have h1 := hik_ge (dbl V) (dbl V).length i hi
    rw [getD_at hi] at h1
    have hi2 : i < V.length := by rw [dbl_len] at hi; exact hi
    have h2 := h.2.2.2.2.2 _ (List.getElem_mem hi2)
    have h3 : (dbl V)[i] = 2 * V[i] := by simp [dbl]
    omega⟩
  rw [bvOut_t (obB_iff.2 h), bvOut_t (obB_iff.2 hok)]
  unfold bv
  exact bvF_double (fun i j => by unfold lfW; rw [dbl_len]; exact lfk_dbl f V _ _ _) _ _ _
/-- A pane turned. -/
def tpn (p : Pn) : Pn := ⟨p.h, p.w, p.t, p.k⟩
theorem fit_turn (p : Pn) (t : Bool) (x y : Int) : fitV (tpn p) t x y = fitV p t y x := by
  unfold fitV tpn
  cases t
  · simp only [Bool.false_eq_true, if_false]; rw [Bool.and_comm]
  · simp only [if_true]
    have e : (p.h != p.w) = (p.w != p.h) := by rw [bne_comm]
    rw [e]
    cases p.t <;> cases (p.w != p.h) <;> simp [Bool.and_comm]
theorem tpn_getD (f : List Pn) (k : Nat) : (f.map tpn).getD k ⟨0, 0, false, 0⟩ = tpn (f.getD k ⟨0, 0, false, 0⟩) := by
  rw [List.getD_eq_getElem?_getD, List.getD_eq_getElem?_getD, List.getElem?_map]
  cases f[k]? <;> rfl
theorem lfk_turn (f : List Pn) (V : List Int) (x y : Int) : ∀ k, lfk (f.map tpn) V x y k = lfk f V y x k
  | 0 => rfl
  | k + 1 => by
    unfold lfk lfj
    rw [lfk_turn f V x y k, tpn_getD, fit_turn, fit_turn]
theorem ob_turn {x y : Int} {f : List Pn} {V : List Int} (h : OB x y f V) : OB y x (f.map tpn) V := by
  obtain ⟨⟨h1, h2, h3, h4⟩, h5, h6, h7, h8, h9⟩ := h
  refine ⟨⟨h2, h1, by rw [List.length_map]; exact h3, fun p hp => ?_⟩, h6, h5, by rw [List.length_map]; exact h7, by rw [List.length_map]; exact h8, h9⟩
  obtain ⟨q, hq, rfl⟩ := List.mem_map.1 hp
  have := h4 q hq
  unfold okPn at this ⊢
  unfold tpn
  simp only
  omega
theorem bvOut_turn {x y : Int} {f : List Pn} {V : List Int} (h : OB x y f V) : bvOut y x (f.map tpn) V = bvOut x y f V := by
  rw [bvOut_t (obB_iff.2 h), bvOut_t (obB_iff.2 (ob_turn h))]
  exact bv_turn (fun i j => lfk_turn f V _ _ _) _ _

end Go.Proofs.Ytkckaooimffdpaa
