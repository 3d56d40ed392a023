/-
  The law FnMergeOrders, walked (written by a program of mine).
-/
import Derived.Test.YtmenkjloabficaaDrOrdB
import Derived.Test.YtmenkjloabficaaLawOrd
namespace Go.Proofs.Ytmenkjloabficaa
set_option linter.unusedSimpArgs false
set_option linter.unusedVariables false
open Go.RowKit
theorem VO_nil : VO [] := ⟨by simp, by simp, by simp, by simp [sumC_nil]⟩
theorem merge_nil_ok {a : List Ln} (h : VO a) : mergeOk a [] = true := mergeOk_t h VO_nil (by rw [mergeL_nil]; exact h)
theorem merge_nil_out {a : List Ln} (h : VO a) : mergeOut a [] = a := by rw [mergeOut_t (merge_nil_ok h), mergeL_nil]

set_option maxHeartbeats 12800000 in
set_option maxRecDepth 100000 in
theorem FnMergeOrders_c (v : Value) (L : List Int) (w : World) (h : Row byteE w v L ∧ ∀ x ∈ L, 0 ≤ x ∧ x ≤ 255) : Calls Try.prog 8 #[v] w fun e w' => e = .returned (.bool true) ∧ Below w.heap.size w w' := by
  obtain ⟨h, hb⟩ := h
  obtain ⟨A, c, rfl, hc1, hm1⟩ := h.form
  unfold maxLen at hm1
  by_cases hle : 1048576 < L.length
  · have hd : decide ((1048576 : Int) < (L.length : Int)) = true := by simp; omega
    go_enter Try.func8, Try.ntmps8
    go_wp2
    go_ret
    exact ⟨rfl, Below.refl _ _⟩
  · have hd : decide ((1048576 : Int) < (L.length : Int)) = false := by simp; omega
    have HH := hid h
    have HB := hid hb
    clear h hb hle
    go_enter Try.func8, Try.ntmps8
    go_wp2_with fail
    refine (DrawMergeOrders_c _ L _ HH.out HB.out).mono ?_
    rintro e w1 ⟨v1, v2, a, b, rfl, hr1, hr2, hla, hlb, hb⟩
    have HB1 := hid hb
    have HA_1 := hid hr1
    have HC_1 := hid hr2
    clear hr1 hr2 hb
    obtain ⟨Z, hZ⟩ : ∃ Z, Z = mergeOut a b := ⟨_, rfl⟩
    have HZ := hid hZ
    obtain ⟨ok, hok⟩ : ∃ c, c = mergeOk a b := ⟨_, rfl⟩
    have HOK := hid hok
    clear hZ hok
    go_wp2_with fail
    refine (MergeOrders_c _ _ a b _ HA_1.out HC_1.out).mono ?_
    rintro e w2 ⟨r1, rfl, hr, hb⟩
    have HA_2 := hid (HA_1.out.go hb)
    have HC_2 := hid (HC_1.out.go hb)
    have HB_2 := hid (HB1.out.trans (hb.mono HB1.out.size))
    have HE_2 := hid (hr.rowB)
    rw [← HOK.out]
    rw [← HZ.out] at HE_2
    clear hb hr
    go_wp2_with fail
    refine (sMergeOrders_c _ _ a b _ HA_2.out HC_2.out (by omega) (by omega)).mono ?_
    rintro e w3 ⟨r2, rfl, hr, hb⟩
    have HA_3 := hid (HA_2.out.go hb)
    have HC_3 := hid (HC_2.out.go hb)
    have HE_3 := hid (HE_2.out.go hb)
    have HB_3 := hid (HB_2.out.trans (hb.mono HB_2.out.size))
    have HS_3 := hid (hr.rowB)
    rw [← HOK.out]
    rw [← HZ.out] at HS_3
    clear hb hr
    go_wp2_with fail
    refine (equalOrder_same _ _ Z _ HE_3.out HS_3.out).mono ?_
    rintro e w4 ⟨rfl, hd⟩
    have HA_4 := hid (HA_3.out.drR hd)
    have HC_4 := hid (HC_3.out.drR hd)
    have HE_4 := hid (HE_3.out.drR hd)
    have HS_4 := hid (HS_3.out.drR hd)
    have HB_4 := hid (HB_3.out.trans (hd.below _))
    clear hd
    cases ok with
    | false =>
      go_wp2_with fail
      refine (equalOrder_same _ _ Z _ HE_4.out HS_4.out).mono ?_
      rintro e w5 ⟨rfl, hd⟩
      have HA_5 := hid (HA_4.out.drR hd)
      have HC_5 := hid (HC_4.out.drR hd)
      have HE_5 := hid (HE_4.out.drR hd)
      have HS_5 := hid (HS_4.out.drR hd)
      have HB_5 := hid (HB_4.out.trans (hd.below _))
      clear hd
      go_wp2
      go_ret
      exact ⟨rfl, HB_5.out⟩
    | true =>
      obtain ⟨hva, hvb, hvm⟩ := mergeOk_iff.1 HOK.out.symm
      have HZM := hid (show Z = mergeL a b by rw [HZ.out, mergeOut_t HOK.out.symm])
      have HVA := hid hva
      have HVB := hid hvb
      have HVZ := hid (show VO Z by rw [HZM.out]; exact hvm)
      clear hva hvb hvm
      go_wp2_with fail
      refine (MergeOrders_c _ _ a [] _ HA_4.out (RowB.nil_ _ _)).mono ?_
      rintro e w5 ⟨r3, rfl, hr, hb⟩
      have HA_5 := hid (HA_4.out.go hb)
      have HC_5 := hid (HC_4.out.go hb)
      have HE_5 := hid (HE_4.out.go hb)
      have HS_5 := hid (HS_4.out.go hb)
      have HB_5 := hid (HB_4.out.trans (hb.mono HB_4.out.size))
      have HN_5 := hid (hr.rowB)
      rw [merge_nil_ok HVA.out]
      rw [merge_nil_out HVA.out] at HN_5
      clear hb hr
      go_wp2_with fail
      refine (equalOrder_same _ _ a _ HN_5.out HA_5.out).mono ?_
      rintro e w6 ⟨rfl, hd⟩
      have HA_6 := hid (HA_5.out.drR hd)
      have HC_6 := hid (HC_5.out.drR hd)
      have HE_6 := hid (HE_5.out.drR hd)
      have HS_6 := hid (HS_5.out.drR hd)
      have HN_6 := hid (HN_5.out.drR hd)
      have HB_6 := hid (HB_5.out.trans (hd.below _))
      clear hd
      have hbz := HVZ.out.areaO_bd
      have hba := HVA.out.areaO_bd
      have hbb := HVB.out.areaO_bd
      have hms := mergeL_area a b
      have hsz := sumC_to HVZ.out Z.length
      have hsa := sumC_to HVA.out a.length
      have hsb := sumC_to HVB.out b.length
      rw [List.take_length] at hsz hsa hsb
      have hmc := mergeL_sum a b
      rw [← HZM.out] at hms hmc
      have HAZ := hid (areaV_t (voB_iff.2 HVZ.out))
      have HAA := hid (areaV_t (voB_iff.2 HVA.out))
      have HAB := hid (areaV_t (voB_iff.2 HVB.out))
      have hs1 : IntKind.i64.wrap (areaO a + areaO b) = areaO a + areaO b := IntWalk.i64_in _ (by omega)
      have hs2 : IntKind.i64.wrap (sumC a + sumC b) = sumC a + sumC b := IntWalk.i64_in _ (by omega)
      have d1 : (areaO Z == areaO a + areaO b) = true := by rw [beq_iff_eq]; exact hms
      have d2 : (sumC Z == sumC a + sumC b) = true := by rw [beq_iff_eq]; exact hmc
      have HDD := hid (And.intro d1 d2)
      clear hms hmc d1 d2
      go_wp2_with fail
      refine (OrderArea_c _ Z _ HE_6.out).mono ?_
      rintro e w7 ⟨rfl, hb⟩
      have HA_7 := hid (HA_6.out.go hb)
      have HC_7 := hid (HC_6.out.go hb)
      have HE_7 := hid (HE_6.out.go hb)
      have HS_7 := hid (HS_6.out.go hb)
      have HN_7 := hid (HN_6.out.go hb)
      have HB_7 := hid (HB_6.out.trans (hb.mono HB_6.out.size))
      rw [HAZ.out]
      clear hb
      go_wp2_with fail
      refine (OrderArea_c _ a _ HA_7.out).mono ?_
      rintro e w8 ⟨rfl, hb⟩
      have HA_8 := hid (HA_7.out.go hb)
      have HC_8 := hid (HC_7.out.go hb)
      have HE_8 := hid (HE_7.out.go hb)
      have HS_8 := hid (HS_7.out.go hb)
      have HN_8 := hid (HN_7.out.go hb)
      have HB_8 := hid (HB_7.out.trans (hb.mono HB_7.out.size))
      rw [HAA.out]
      clear hb
      go_wp2_with fail
      refine (OrderArea_c _ b _ HC_8.out).mono ?_
      rintro e w9 ⟨rfl, hb⟩
      have HA_9 := hid (HA_8.out.go hb)
      have HC_9 := hid (HC_8.out.go hb)
      have HE_9 := hid (HE_8.out.go hb)
      have HS_9 := hid (HS_8.out.go hb)
      have HN_9 := hid (HN_8.out.go hb)
      have HB_9 := hid (HB_8.out.trans (hb.mono HB_8.out.size))
      rw [HAB.out]
      have d1 := HDD.out.1
      clear hb
      go_wp2_with fail
      refine (count_c _ Z _ HE_9.out HVZ.out).mono ?_
      rintro e w10 ⟨rfl, hd⟩
      have HA_10 := hid (HA_9.out.drR hd)
      have HC_10 := hid (HC_9.out.drR hd)
      have HE_10 := hid (HE_9.out.drR hd)
      have HS_10 := hid (HS_9.out.drR hd)
      have HN_10 := hid (HN_9.out.drR hd)
      have HB_10 := hid (HB_9.out.trans (hd.below _))
      clear d1
      clear hd
      go_wp2_with fail
      refine (count_c _ a _ HA_10.out HVA.out).mono ?_
      rintro e w11 ⟨rfl, hd⟩
      have HA_11 := hid (HA_10.out.drR hd)
      have HC_11 := hid (HC_10.out.drR hd)
      have HE_11 := hid (HE_10.out.drR hd)
      have HS_11 := hid (HS_10.out.drR hd)
      have HN_11 := hid (HN_10.out.drR hd)
      have HB_11 := hid (HB_10.out.trans (hd.below _))
      clear hd
      go_wp2_with fail
      refine (count_c _ b _ HC_11.out HVB.out).mono ?_
      rintro e w12 ⟨rfl, hd⟩
      have HA_12 := hid (HA_11.out.drR hd)
      have HC_12 := hid (HC_11.out.drR hd)
      have HE_12 := hid (HE_11.out.drR hd)
      have HS_12 := hid (HS_11.out.drR hd)
      have HN_12 := hid (HN_11.out.drR hd)
      have HB_12 := hid (HB_11.out.trans (hd.below _))
      have d2 := HDD.out.2
      clear hd
      go_wp2
      go_ret
      exact ⟨rfl, HB_12.out⟩

end Go.Proofs.Ytmenkjloabficaa
