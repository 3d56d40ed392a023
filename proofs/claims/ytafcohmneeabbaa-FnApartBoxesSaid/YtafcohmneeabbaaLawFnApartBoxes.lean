/-
  The law FnApartBoxes, walked (written by a program of mine).
-/
import Derived.Test.YtafcohmneeabbaaApart
import Derived.Test.YtafcohmneeabbaaApartP
import Derived.Test.YtafcohmneeabbaaCovI
namespace Go.Proofs.Ytafcohmneeabbaa
set_option linter.unusedSimpArgs false
set_option linter.unusedVariables false
open Go.RowKit

theorem apB_cov {L : List Bx} (h : VBs L) : apB L = (covN L == areaL L) := by
  rw [Bool.eq_iff_iff, beq_iff_eq, ← apart_cov h.2]
  simp [apB, vbsB_iff.2 h]

set_option maxHeartbeats 12800000 in
set_option maxRecDepth 100000 in
theorem FnApartBoxes_c (v : Value) (L : List Int) (w : World) (h : Row byteE w v L ∧ ∀ x ∈ L, 0 ≤ x ∧ x ≤ 255) : Calls Try.prog 3 #[v] w fun e w' => e = .returned (.bool true) ∧ Below w.heap.size w w' := by
  obtain ⟨h, hb⟩ := h
  obtain ⟨A, c, rfl, hc1, hm1⟩ := h.form
  unfold maxLen at hm1
  by_cases hle : 1048576 < L.length
  · have hd : decide ((1048576 : Int) < (L.length : Int)) = true := by simp; omega
    go_enter Try.func3, Try.ntmps3
    go_wp2
    go_ret
    exact ⟨rfl, Below.refl _ _⟩
  · have hd : decide ((1048576 : Int) < (L.length : Int)) = false := by simp; omega
    have HH := hid h
    have HB := hid hb
    clear h hb hle
    go_enter Try.func3, Try.ntmps3
    go_wp2_with fail
    refine (DrawApartBoxes_c _ L _ HH.out HB.out).mono ?_
    rintro e w1 ⟨v1, M, rfl, hr, hb⟩
    have HB1 := hid hb
    have HM_1 := hid hr
    clear hr hb
    go_wp2_with fail
    refine (ApartBoxes_c _ M _ HM_1.out).mono ?_
    rintro e w2 ⟨rfl, hb⟩
    have HM_2 := hid (HM_1.out.go hb)
    have HB_2 := hid (HB1.out.trans (hb.mono HB1.out.size))
    clear hb
    go_wp2_with fail
    refine (sApartBoxes_c _ M _ HM_2.out).mono ?_
    rintro e w3 ⟨rfl, hb⟩
    have HM_3 := hid (HM_2.out.go hb)
    have HB_3 := hid (HB_2.out.trans (hb.mono HB_2.out.size))
    clear hb
    go_wp2_with fail
    refine (CoverArea_c _ M _ HM_3.out).mono ?_
    rintro e w4 ⟨rfl, hb⟩
    have HM_4 := hid (HM_3.out.go hb)
    have HB_4 := hid (HB_3.out.trans (hb.mono HB_3.out.size))
    clear hb
    cases hv : vbsB M with
    | false =>
      have hc := covOut_f hv
      have HA := hid (apB_f hv)
      rw [hc]
      clear hc hv
      go_wp2_with fail
      refine (sApartBoxes_c _ M _ HM_4.out).mono ?_
      rintro e w5 ⟨rfl, hb⟩
      have HM_5 := hid (HM_4.out.go hb)
      have HB_5 := hid (HB_4.out.trans (hb.mono HB_4.out.size))
      clear hb
      go_wp2
      go_ret
      exact ⟨rfl, HB_5.out⟩
    | true =>
      have hV := vbsB_iff.1 hv
      have hc := covOut_t hV
      have hcb := covN_bd M
      obtain ⟨hcb1, hcb2⟩ := hcb
      have hab := areaL_bd hV.2
      have hlen := hV.1
      obtain ⟨hab1, hab2⟩ := hab
      have hab3 : areaL M ≤ 960000 := by omega
      have HE := hid (apB_cov hV)
      have HC := hid hc
      have HVV := hid hV
      have d1 : decide (covN M < 0) = false := decide_eq_false (by omega)
      rw [hc]
      clear hc hv hV hab2
      go_wp2_with fail
      refine (CoverArea_c _ M _ HM_4.out).mono ?_
      rintro e w5 ⟨rfl, hb⟩
      have HM_5 := hid (HM_4.out.go hb)
      have HB_5 := hid (HB_4.out.trans (hb.mono HB_4.out.size))
      rw [HC.out]
      clear hb
      go_wp2_with fail
      refine (area_c _ M _ HM_5.out HVV.out.2 (by omega)).mono ?_
      rintro e w6 ⟨rfl, hd⟩
      have HM_6 := hid (HM_5.out.drR hd)
      have HB_6 := hid (HB_5.out.trans (hd.below _))
      clear hd
      have HF : Hid ((apB M == (covN M == areaL M)) = true) := by rw [Hid, beq_iff_eq]; exact HE.out
      go_wp2
      go_ret
      exact ⟨ret_bool HF.out, HB_6.out⟩

end Go.Proofs.Ytafcohmneeabbaa
