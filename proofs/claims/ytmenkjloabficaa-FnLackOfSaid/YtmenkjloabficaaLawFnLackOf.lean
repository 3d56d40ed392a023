/-
  The law FnLackOf, walked (written by a program of mine).
-/
import Derived.Test.YtmenkjloabficaaDrOrdB
import Derived.Test.YtmenkjloabficaaLack
import Derived.Test.YtmenkjloabficaaLawOrd
namespace Go.Proofs.Ytmenkjloabficaa
set_option linter.unusedSimpArgs false
set_option linter.unusedVariables false
open Go.RowKit
theorem lack0_ok {a : List Ln} (h : VO a) : lackOk a (List.replicate a.length 0) = true := lackOk_t h ⟨by simp, fun i hi => by
  have := (h.2.1 _ (List.getElem_mem hi)).2.1
  have e : (List.replicate a.length (0 : Int)).getD i 0 = 0 := by rw [List.getD_eq_getElem?_getD, List.getElem?_replicate]; simp [hi]
  rw [e]; omega⟩
theorem lack0_out {a : List Ln} (h : VO a) : lackOut a (List.replicate a.length 0) = a := by rw [lackOut_t (lack0_ok h)]; exact lack_zero (fun l hl => (h.2.1 l hl).2.1)
theorem okG_bd {a : List Ln} {G : List Int} (h : VO a) (hg : okG a G) : ∀ x ∈ G, 0 ≤ x ∧ x ≤ 1000 := fun x hx => by
  obtain ⟨i, hi, rfl⟩ := List.getElem_of_mem hx
  have hl : i < a.length := by rw [← hg.1]; exact hi
  have h1 := hg.2 i hl
  have h2 := (h.2.1 _ (List.getElem_mem hl)).2.2
  rw [List.getD_eq_getElem?_getD, List.getElem?_eq_getElem hi] at h1
  simp only [Option.getD_some] at h1
  omega

set_option maxHeartbeats 12800000 in
set_option maxRecDepth 100000 in
theorem FnLackOf_c (v : Value) (L : List Int) (w : World) (h : Row byteE w v L ∧ ∀ x ∈ L, 0 ≤ x ∧ x ≤ 255) : Calls Try.prog 6 #[v] w fun e w' => e = .returned (.bool true) ∧ Below w.heap.size w w' := by
  obtain ⟨h, hb⟩ := h
  obtain ⟨A, c, rfl, hc1, hm1⟩ := h.form
  unfold maxLen at hm1
  by_cases hle : 1048576 < L.length
  · have hd : decide ((1048576 : Int) < (L.length : Int)) = true := by simp; omega
    go_enter Try.func6, Try.ntmps6
    go_wp2
    go_ret
    exact ⟨rfl, Below.refl _ _⟩
  · have hd : decide ((1048576 : Int) < (L.length : Int)) = false := by simp; omega
    have HH := hid h
    have HB := hid hb
    clear h hb hle
    go_enter Try.func6, Try.ntmps6
    go_wp2_with fail
    refine (DrawLackOf_c _ L _ HH.out HB.out).mono ?_
    rintro e w1 ⟨v1, v2, a, G, rfl, hr1, hr2, hla, hlb, hb⟩
    have HB1 := hid hb
    have HA_1 := hid hr1
    have HC_1 := hid hr2
    obtain ⟨A1, k1, rfl, hk1, hm2⟩ := hr1.form
    unfold maxLen at hm2
    clear hr1 hr2 hb
    obtain ⟨Z, hZ⟩ : ∃ Z, Z = lackOut a G := ⟨_, rfl⟩
    have HZ := hid hZ
    obtain ⟨ok, hok⟩ : ∃ c, c = lackOk a G := ⟨_, rfl⟩
    have HOK := hid hok
    obtain ⟨i0, hi0, hz0, hz1, hz2⟩ := info_parts int_info
    clear hZ hok
    go_wp2_with fail
    refine (LackOf_c _ _ a G _ HA_1.out HC_1.out).mono ?_
    rintro e w2 ⟨r1, rfl, hr, hb⟩
    have HA_2 := hid (HA_1.out.go hb)
    have HC_2 := hid (HC_1.out.go hb)
    have HB_2 := hid (HB1.out.trans (hb.mono HB1.out.size))
    have HE_2 := hid (hr.rowB)
    rw [← HOK.out]
    rw [← HZ.out] at HE_2
    clear hb hr
    go_wp2_with fail
    refine (sLackOf_c _ _ a G _ HA_2.out HC_2.out (by omega)).mono ?_
    rintro e w3 ⟨r2, rfl, hr, hb⟩
    have HA_3 := hid (HA_2.out.go hb)
    have HC_3 := hid (HC_2.out.go hb)
    have HE_3 := hid (HE_2.out.go hb)
    have HB_3 := hid (HB_2.out.trans (hb.mono HB_2.out.size))
    have HS_3 := hid (hr.rowB)
    rw [← HOK.out]
    rw [← HZ.out] at HS_3
    clear hb hr
    go_wp2_with fail
    refine (equalOrder_same _ _ Z _ HE_3.out HS_3.out).mono ?_
    rintro e w4 ⟨rfl, hd⟩
    have HA_4 := hid (HA_3.out.drR hd)
    have HC_4 := hid (HC_3.out.drR hd)
    have HE_4 := hid (HE_3.out.drR hd)
    have HS_4 := hid (HS_3.out.drR hd)
    have HB_4 := hid (HB_3.out.trans (hd.below _))
    clear hd
    cases ok with
    | false =>
      go_wp2_with fail
      refine (equalOrder_same _ _ Z _ HE_4.out HS_4.out).mono ?_
      rintro e w5 ⟨rfl, hd⟩
      have HA_5 := hid (HA_4.out.drR hd)
      have HC_5 := hid (HC_4.out.drR hd)
      have HE_5 := hid (HE_4.out.drR hd)
      have HS_5 := hid (HS_4.out.drR hd)
      have HB_5 := hid (HB_4.out.trans (hd.below _))
      clear hd
      go_wp2
      go_ret
      exact ⟨rfl, HB_5.out⟩
    | true =>
      obtain ⟨hva, hgg⟩ := lackOk_iff.1 HOK.out.symm
      have HZM := hid (show Z = lackL a G by rw [HZ.out, lackOut_t HOK.out.symm])
      have HVA := hid hva
      have HVG := hid hgg
      have HVZ := hid (show VO Z by rw [HZM.out]; exact lack_VO hva hgg)
      clear hva hgg
      go_wp2_with (at_make; refine wpList_mk intE _ rfl _ _ 41 rfl w4.heap.size 3 i0 _ 0 8 Try.underlying41 hi0 hz0 hz1 hz2 rfl _ _ _ _ a.length rfl rfl rfl rfl (by omega) (by omega) (Nat.le_refl _) ?_)
      intro w5 ho hg hlt
      have hb : Below w4.heap.size w4 w5 := (Below.refl _ _).grown hg (Nat.le_refl _) (fun q hq => by cases hq)
      have HA_5 := hid (HA_4.out.go hb)
      have HC_5 := hid (HC_4.out.go hb)
      have HE_5 := hid (HE_4.out.go hb)
      have HS_5 := hid (HS_4.out.go hb)
      have HB_5 := hid (HB_4.out.trans (hb.mono HB_4.out.size))
      have HO_5 := hid ho.rowB
      clear ho hg hlt hb
      go_wp2_with fail
      refine (LackOf_c _ _ a (List.replicate a.length 0) _ HA_5.out HO_5.out).mono ?_
      rintro e w6 ⟨r3, rfl, hr, hb⟩
      have HA_6 := hid (HA_5.out.go hb)
      have HC_6 := hid (HC_5.out.go hb)
      have HE_6 := hid (HE_5.out.go hb)
      have HS_6 := hid (HS_5.out.go hb)
      have HO_6 := hid (HO_5.out.go hb)
      have HB_6 := hid (HB_5.out.trans (hb.mono HB_5.out.size))
      have HN_6 := hid (hr.rowB)
      rw [lack0_ok HVA.out]
      rw [lack0_out HVA.out] at HN_6
      clear hb hr
      go_wp2_with fail
      refine (equalOrder_same _ _ a _ HN_6.out HA_6.out).mono ?_
      rintro e w7 ⟨rfl, hd⟩
      have HA_7 := hid (HA_6.out.drR hd)
      have HC_7 := hid (HC_6.out.drR hd)
      have HE_7 := hid (HE_6.out.drR hd)
      have HS_7 := hid (HS_6.out.drR hd)
      have HO_7 := hid (HO_6.out.drR hd)
      have HN_7 := hid (HN_6.out.drR hd)
      have HB_7 := hid (HB_6.out.trans (hd.below _))
      clear hd
      have hsz := sumC_to HVZ.out Z.length
      have hsa := sumC_to HVA.out a.length
      rw [List.take_length] at hsz hsa
      have hms := lack_sum HVG.out
      rw [← HZM.out] at hms
      have hms2 : sumC Z + sumI G = sumC a := hms
      have hs1 : IntKind.i64.wrap (sumC Z + sumI G) = sumC Z + sumI G := IntWalk.i64_in _ (by omega)
      have d1 : (sumC Z + sumI G == sumC a) = true := by rw [beq_iff_eq]; exact hms2
      have HDD := hid d1
      have HVT := hid (voB_iff.2 HVZ.out)
      clear hms hms2 d1
      go_wp2_with fail
      refine (count_c _ Z _ HE_7.out HVZ.out).mono ?_
      rintro e w8 ⟨rfl, hd⟩
      have HA_8 := hid (HA_7.out.drR hd)
      have HC_8 := hid (HC_7.out.drR hd)
      have HE_8 := hid (HE_7.out.drR hd)
      have HS_8 := hid (HS_7.out.drR hd)
      have HO_8 := hid (HO_7.out.drR hd)
      have HN_8 := hid (HN_7.out.drR hd)
      have HB_8 := hid (HB_7.out.trans (hd.below _))
      clear hd
      go_wp2_with fail
      refine (total_c _ G _ HC_8.out (by omega) (okG_bd HVA.out HVG.out)).mono ?_
      rintro e w9 ⟨rfl, hd⟩
      have HA_9 := hid (HA_8.out.drR hd)
      have HC_9 := hid (HC_8.out.drR hd)
      have HE_9 := hid (HE_8.out.drR hd)
      have HS_9 := hid (HS_8.out.drR hd)
      have HO_9 := hid (HO_8.out.drR hd)
      have HN_9 := hid (HN_8.out.drR hd)
      have HB_9 := hid (HB_8.out.trans (hd.below _))
      clear hd
      go_wp2_with fail
      refine (count_c _ a _ HA_9.out HVA.out).mono ?_
      rintro e w10 ⟨rfl, hd⟩
      have HA_10 := hid (HA_9.out.drR hd)
      have HC_10 := hid (HC_9.out.drR hd)
      have HE_10 := hid (HE_9.out.drR hd)
      have HS_10 := hid (HS_9.out.drR hd)
      have HO_10 := hid (HO_9.out.drR hd)
      have HN_10 := hid (HN_9.out.drR hd)
      have HB_10 := hid (HB_9.out.trans (hd.below _))
      have d1 := HDD.out
      clear hd
      go_wp2_with fail
      refine (ValidOrder_c _ Z _ HE_10.out).mono ?_
      rintro e w11 ⟨rfl, hb⟩
      have HA_11 := hid (HA_10.out.go hb)
      have HC_11 := hid (HC_10.out.go hb)
      have HE_11 := hid (HE_10.out.go hb)
      have HS_11 := hid (HS_10.out.go hb)
      have HO_11 := hid (HO_10.out.go hb)
      have HN_11 := hid (HN_10.out.go hb)
      have HB_11 := hid (HB_10.out.trans (hb.mono HB_10.out.size))
      rw [HVT.out]
      clear hb
      go_wp2
      go_ret
      exact ⟨rfl, HB_11.out⟩

end Go.Proofs.Ytmenkjloabficaa
