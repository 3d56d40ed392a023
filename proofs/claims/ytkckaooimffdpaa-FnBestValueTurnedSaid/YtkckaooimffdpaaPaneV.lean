/-
  Contracts: valid panes, by the program and by the reference.
-/
import Derived.Test.YtkckaooimffdpaaPane
import Derived.Test.YtkckaooimffdpaaRange
import Derived.Test.YtkckaooimffdpaaBlk
namespace Go.Proofs.Ytkckaooimffdpaa
set_option linter.unusedSimpArgs false
set_option linter.unusedVariables false
open Go.RowKit

def okPn (p : Pn) : Prop := 1 ≤ p.w ∧ p.w ≤ 200 ∧ 1 ≤ p.h ∧ p.h ≤ 200 ∧ 0 ≤ p.k ∧ p.k ≤ 9
instance (p : Pn) : Decidable (okPn p) := by unfold okPn; infer_instance
def vpnB (p : Pn) : Bool := decide (okPn p)
theorem vpnB_iff {p : Pn} : vpnB p = true ↔ okPn p := by simp [vpnB]
theorem vpnB_not {p : Pn} : vpnB p = false ↔ ¬ okPn p := by simp [vpnB]
theorem okPn.area {p : Pn} (h : okPn p) : 1 ≤ p.w * p.h ∧ p.w * p.h ≤ 40000 := by
  unfold okPn at h
  constructor
  · have : (1 : Int) * 1 ≤ p.w * p.h := Int.mul_le_mul (by omega) (by omega) (by omega) (by omega)
    omega
  · have : p.w * p.h ≤ 200 * 200 := Int.mul_le_mul (by omega) (by omega) (by omega) (by omega)
    omega

theorem svalidPane_t (p : Pn) (w : World) (h : okPn p) : Calls Try.prog 54 #[.agg #[.int .i64 p.w, .int .i64 p.h, .bool p.t, .int .i64 p.k]] w fun e w' => e = .returned (.bool true) ∧ Below w.heap.size w w' := by
  unfold okPn at h
  obtain ⟨h1, h2, h3, h4, h5, h6⟩ := h
  go_enter Try.func54, Try.ntmps54
  go_wp2_with fail
  refine (inRange_t _ _ _ _ h1 h2).mono ?_; rintro e w1 ⟨rfl, rfl⟩
  go_wp2_with fail
  refine (inRange_t _ _ _ _ h3 h4).mono ?_; rintro e w1 ⟨rfl, rfl⟩
  go_wp2_with fail
  refine (inRange_t _ _ _ _ h5 h6).mono ?_; rintro e w1 ⟨rfl, rfl⟩
  go_wp2
  go_ret
  exact ⟨rfl, (Below.refl _ _).alloc (Nat.le_refl _) _⟩
theorem svalidPane_f (p : Pn) (w : World) (h : ¬ okPn p) : Calls Try.prog 54 #[.agg #[.int .i64 p.w, .int .i64 p.h, .bool p.t, .int .i64 p.k]] w fun e w' => e = .returned (.bool false) ∧ Below w.heap.size w w' := by
  unfold okPn at h
  by_cases h1 : 1 ≤ p.w ∧ p.w ≤ 200
  · by_cases h2 : 1 ≤ p.h ∧ p.h ≤ 200
    · have h3 : p.k < 0 ∨ 9 < p.k := by omega
      obtain ⟨a1, a2⟩ := h1
      obtain ⟨a3, a4⟩ := h2
      have H3 := hid h3
      clear h h3
      go_enter Try.func54, Try.ntmps54
      go_wp2_with fail
      refine (inRange_t _ _ _ _ a1 a2).mono ?_; rintro e w1 ⟨rfl, rfl⟩
      go_wp2_with fail
      refine (inRange_t _ _ _ _ a3 a4).mono ?_; rintro e w1 ⟨rfl, rfl⟩
      go_wp2_with fail
      refine (inRange_f _ _ _ _ H3.out).mono ?_; rintro e w1 ⟨rfl, rfl⟩
      go_wp2
      go_ret
      exact ⟨rfl, (Below.refl _ _).alloc (Nat.le_refl _) _⟩
    · have h3 : p.h < 1 ∨ 200 < p.h := by omega
      obtain ⟨a1, a2⟩ := h1
      have H3 := hid h3
      clear h h3 h2
      go_enter Try.func54, Try.ntmps54
      go_wp2_with fail
      refine (inRange_t _ _ _ _ a1 a2).mono ?_; rintro e w1 ⟨rfl, rfl⟩
      go_wp2_with fail
      refine (inRange_f _ _ _ _ H3.out).mono ?_; rintro e w1 ⟨rfl, rfl⟩
      go_wp2
      go_ret
      exact ⟨rfl, (Below.refl _ _).alloc (Nat.le_refl _) _⟩
  · have h3 : p.w < 1 ∨ 200 < p.w := by omega
    have H3 := hid h3
    clear h h3 h1
    go_enter Try.func54, Try.ntmps54
    go_wp2_with fail
    refine (inRange_f _ _ _ _ H3.out).mono ?_; rintro e w1 ⟨rfl, rfl⟩
    go_wp2
    go_ret
    exact ⟨rfl, (Below.refl _ _).alloc (Nat.le_refl _) _⟩
theorem ValidPane_c (p : Pn) (w : World) : Calls Try.prog 39 #[.agg #[.int .i64 p.w, .int .i64 p.h, .bool p.t, .int .i64 p.k]] w fun e w' => e = .returned (.bool (vpnB p)) ∧ Below w.heap.size w w' := by
  have HV : Hid (∀ c : Bool, (c = true ↔ okPn p) → c = vpnB p) := fun c h => by rw [Bool.eq_iff_iff, vpnB_iff]; exact h
  go_enter Try.func39, Try.ntmps39
  go_wp2
  all_goals
    go_ret
    refine ⟨ret_bool (HV.out _ ?_), (Below.refl _ _).alloc (Nat.le_refl _) _⟩
    unfold okPn
    simp
    omega


end Go.Proofs.Ytkckaooimffdpaa
