/-
  The law FnFewestBarsLess, walked.
-/
import Derived.Test.YtkckaooimffdpaaFewL
namespace Go.Proofs.Ytkckaooimffdpaa
set_option linter.unusedSimpArgs false
set_option linter.unusedVariables false
open Go.RowKit

set_option maxHeartbeats 12800000 in
set_option maxRecDepth 100000 in
theorem FnFewestBarsLess_c (v : Value) (C : List Int) (w : World) (h : Row byteE w v C ∧ ∀ x ∈ C, 0 ≤ x ∧ x ≤ 255) : Calls Try.prog 3 #[v] w fun e w' => e = .returned (.bool true) ∧ Below w.heap.size w w' := by
  obtain ⟨h, hb⟩ := h
  obtain ⟨A, c, rfl, hc1, hm1⟩ := h.form
  unfold maxLen at hm1
  by_cases hle : 1048576 < C.length
  · have hd : decide ((1048576 : Int) < (C.length : Int)) = true := by simp; omega
    go_enter Try.func3, Try.ntmps3
    go_wp2
    go_ret
    exact ⟨rfl, Below.refl _ _⟩
  · have hd : decide ((1048576 : Int) < (C.length : Int)) = false := by simp; omega
    have HH := hid h
    have HB := hid hb
    clear h hb hle
    go_enter Try.func3, Try.ntmps3
    go_wp2_with fail
    refine (DrawFewestBars_c _ C _ HH.out HB.out).mono ?_
    rintro e w1 ⟨v1, L, bar, rfl, hr1, hlen, hbar, hb⟩
    have HB1 := hid hb
    have HL_1 := hid hr1
    obtain ⟨hbar1, hbar2⟩ := hbar
    obtain ⟨A1, c1, rfl, hc2, hm2⟩ := hr1.form
    unfold maxLen at hm2
    clear hr1 hb
    obtain ⟨z, hz⟩ : ∃ z, z = fewZ L bar := ⟨_, rfl⟩
    have HZ := hid hz
    clear hz
    have hzz : (z == z) = true := by simp
    have hzn : (z != z) = false := by simp
    go_wp2_with fail
    refine (FewestBars_c _ L bar _ HL_1.out).mono ?_
    rintro e w2 ⟨rfl, hb⟩
    rw [← HZ.out]
    have HL_2 := hid (HL_1.out.go hb)
    have HB_2 := hid (HB1.out.trans (hb.mono HB1.out.size))
    clear hb
    go_wp2_with fail
    refine (sFewestBars_c _ L bar _ HL_2.out).mono ?_
    rintro e w3 ⟨rfl, hb⟩
    rw [← HZ.out]
    have HL_3 := hid (HL_2.out.go hb)
    have HB_3 := hid (HB_2.out.trans (hb.mono HB_2.out.size))
    clear hb
    by_cases hz1 : z < 1
    · have d1 : decide (z < 1) = true := decide_eq_true hz1
      clear hz1
      go_wp2_with fail
      refine (sFewestBars_c _ L bar _ HL_3.out).mono ?_
      rintro e w4 ⟨rfl, hb⟩
      rw [← HZ.out]
      have HB_4 := hid (HB_3.out.trans (hb.mono HB_3.out.size))
      clear hb
      go_wp2
      go_ret
      exact ⟨rfl, HB_4.out⟩
    · have d1 : decide (z < 1) = false := decide_eq_false hz1
      have HLESS := hid (fun (i : Nat) (hi : i < L.length) => fewZ_less (L := L) (bar := bar) (i := i) (by rw [← HZ.out]; omega) hi)
      have hzhi : z ≤ 1000 := by
        have h1 := HZ.out
        unfold fewZ at h1
        by_cases hok : BrOk 7 L bar
        · rw [if_pos hok] at h1
          have := fL_le (fun x hx => by have := hok.2.2 x hx; omega) (by have := hok.1; omega) (L := L) (bar := bar) (2 ^ L.length - 1)
          omega
        · rw [if_neg hok] at h1; omega
      have hz1' : 1 ≤ z := by omega
      have hw3 : wrap64 (z - 1) = z - 1 := by unfold wrap64; omega
      clear hz1
      go_wp2
      go_loopw [6] (fun i wr => ∃ k : Nat, i = .int .i64 (k : Nat) ∧ k ≤ L.length ∧ Below w3.heap.size w3 wr) (fun i _ => L.length - (intOf i).toNat)
      case atStart => exact ⟨0, rfl, by omega, Below.refl _ _⟩
      case round =>
        obtain ⟨k, rfl, hk, hb⟩ := hrel
        have HBr := hid hb
        have HLr := hid (HL_3.out.go hb)
        clear hb
        by_cases hlt : k < L.length
        · go_wp2_with fail
          refine (without_c _ L k _ HLr.out hlt (by omega)).mono ?_
          rintro e w4 ⟨v4, rfl, ho, hb⟩
          have HR4 := hid ho.rowB
          have HB4 := hid (HBr.out.trans (hb.mono HBr.out.size))
          clear ho hb
          go_wp2_with fail
          refine (FewestBars_c _ (wo L k) bar _ HR4.out).mono ?_
          rintro e w5 ⟨rfl, hb⟩
          have HB5 := hid (HB4.out.trans (hb.mono HB4.out.size))
          have HLK := hid (HLESS.out k hlt)
          rw [← HZ.out] at HLK
          obtain ⟨y, hy⟩ : ∃ y, y = fewZ (wo L k) bar := ⟨_, rfl⟩
          rw [← hy] at HLK ⊢
          have hl1 := HLK.out.1
          have hl2 := HLK.out.2
          have d2 : decide (z < y) = false := decide_eq_false (by omega)
          have d3 : decide (y < z - 1) = false := decide_eq_false (by omega)
          clear hb hy HLK
          go_wp2
          exact ⟨⟨k + 1, by go_num, by omega, HB5.out⟩, by simp [intOf]; omega⟩
        · go_wp2
          go_ret
          exact ⟨rfl, HB_3.out.trans (HBr.out.mono HB_3.out.size)⟩

end Go.Proofs.Ytkckaooimffdpaa
