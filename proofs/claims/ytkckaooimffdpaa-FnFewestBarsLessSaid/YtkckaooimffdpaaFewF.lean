/-
  Contracts: the least number of bars, both sides.
-/
import Derived.Test.YtkckaooimffdpaaFewG
namespace Go.Proofs.Ytkckaooimffdpaa
set_option linter.unusedSimpArgs false
set_option linter.unusedVariables false
open Go.RowKit

theorem fewZ_no {L : List Int} {bar : Int} (h : ¬ BrOk 7 L bar) : fewZ L bar = -1 := by unfold fewZ; rw [if_neg h]
theorem fewZ_yes {L : List Int} {bar : Int} (h : BrOk 7 L bar) : fewZ L bar = fLZ L bar (2 ^ L.length - 1) := by unfold fewZ; rw [if_pos h]; rfl

set_option maxHeartbeats 3200000 in
set_option maxRecDepth 100000 in
theorem FewestBars_c (v : Value) (L : List Int) (bar : Int) (w : World) (h : Row intE w v L) : Calls Try.prog 8 #[v, .int .i64 bar] w fun e w' => e = .returned (.int .i64 (fewZ L bar)) ∧ Below w.heap.size w w' := by
  obtain ⟨A1, c1, rfl, hc1, hm1⟩ := h.form
  have HB := hid (((Below.refl w.heap.size w).alloc (Nat.le_refl _) (.cells #[.slice A1 L.length c1] 23)).alloc (by simp) (.cells #[.int .i64 bar] 3))
  have HH := hid (h.go HB.out)
  unfold maxLen at hm1
  clear h
  go_enter Try.func8, Try.ntmps8
  go_wp2_with fail
  refine (barLengths_c _ L bar 7 _ HH.out (by omega)).mono ?_
  rintro e w1 ⟨rfl, rfl⟩
  cases hb : brB 7 L bar with
  | false =>
    have HF := hid (fewZ_no (brB_not.1 hb))
    clear hb
    go_wp2
    go_ret
    exact ⟨ret_int HF.out.symm, HB.out⟩
  | true =>
    have HT := hid (brB_iff.1 hb)
    have HZ := hid (fewZ_yes HT.out)
    clear hb
    go_wp2_with fail
    refine (fewestGroups_c A1 c1 L bar w.heap.size (w.heap.size + 1) _ (((Blk.new w #[.slice A1 L.length c1] 23).alloc _).cell 0) (by simp) (by simp; omega) (by simp) HH.out HT.out).mono ?_
    rintro e w2 ⟨rfl, hb⟩
    have HB2 := hid (HB.out.trans (hb.mono HB.out.size))
    clear hb
    go_wp2
    go_ret
    exact ⟨ret_int HZ.out.symm, HB2.out⟩

set_option maxHeartbeats 3200000 in
set_option maxRecDepth 100000 in
theorem sFewestBars_c (v : Value) (L : List Int) (bar : Int) (w : World) (h : Row intE w v L) : Calls Try.prog 9 #[v, .int .i64 bar] w fun e w' => e = .returned (.int .i64 (fewZ L bar)) ∧ Below w.heap.size w w' := by
  obtain ⟨A1, c1, rfl, hc1, hm1⟩ := h.form
  unfold maxLen at hm1
  have HH := hid h
  clear h
  go_enter Try.func9, Try.ntmps9
  go_wp2_with fail
  refine (svalidBars_c _ L bar _ HH.out).mono ?_
  rintro e w1 ⟨rfl, rfl⟩
  cases hb : brB 20 L bar with
  | false =>
    have HF := hid (fewZ_no (fun h => brB_not.1 hb (⟨h.1, by have := h.2.1; omega, h.2.2⟩)))
    clear hb
    go_wp2
    go_ret
    exact ⟨ret_int HF.out.symm, Below.refl _ _⟩
  | true =>
    have HB := hid (brB_iff.1 hb)
    clear hb
    by_cases h7 : L.length ≤ 7
    · have HT : Hid (BrOk 7 L bar) := ⟨HB.out.1, h7, HB.out.2.2⟩
      have HZ := hid (fewZ_yes HT.out)
      have d1 : decide ((7 : Int) < (L.length : Int)) = false := decide_eq_false (by omega)
      have d2 : decide (7 < L.length) = false := decide_eq_false (by omega)
      have hN1 := pow_ge1 L.length
      have hN2 := pow_le7 h7
      obtain ⟨N, hN⟩ : ∃ N, N = 2 ^ L.length := ⟨_, rfl⟩
      have HN := hid hN
      rw [← hN] at hN1 hN2
      clear hN
      go_wp2_with fail
      refine (sfewest_c _ L bar _ HH.out HT.out).mono ?_
      rintro e w2 ⟨v2, rfl, ho, hb⟩
      rw [← HN.out] at ho HZ
      have HB2 := hid hb
      have hf := ho.form (by rw [tb_len]; omega)
      rw [tb_len] at hf
      obtain ⟨g, cap, rfl, hg1, hg2, hg3, hg4⟩ := hf
      unfold maxLen at hg4
      have hcl := ho.own_int (tb_len _ _ _ _).symm (N - 1) (by rw [tb_len]; omega)
      rw [tb_at, if_pos (by omega)] at hcl
      obtain ⟨z, hz⟩ : ∃ z, z = fLZ L bar (N - 1) := ⟨_, rfl⟩
      rw [← hz] at hcl HZ
      obtain ⟨d, hd⟩ : ∃ d, d = N - 1 := ⟨_, rfl⟩
      rw [← hd] at hcl
      have hw0 : (N : Int) - 1 = (d : Int) := by omega
      have hdN : d < N := by omega
      clear hz hd ho hb
      go_wp2
      go_ret
      exact ⟨ret_int HZ.out.symm, HB2.out⟩
    · have HF := hid (fewZ_no (L := L) (bar := bar) (fun h => h7 h.2.1))
      have d1 : decide ((7 : Int) < (L.length : Int)) = true := decide_eq_true (by omega)
      have d2 : decide (7 < L.length) = true := decide_eq_true (by omega)
      clear h7
      go_wp2
      go_ret
      exact ⟨ret_int HF.out.symm, Below.refl _ _⟩

end Go.Proofs.Ytkckaooimffdpaa
