/-
  The law FnPutStacks, walked (written by a program of mine).
-/
import Derived.Test.YtcfhncckeedipaaDrRise
import Derived.Test.YtcfhncckeedipaaTakeR
namespace Go.Proofs.Ytcfhncckeedipaa
set_option linter.unusedSimpArgs false
set_option linter.unusedVariables false
open Go.RowKit

set_option maxHeartbeats 12800000 in
set_option maxRecDepth 100000 in
theorem FnPutStacks_c (v : Value) (L : List Int) (w : World) (h : Row byteE w v L ∧ ∀ x ∈ L, 0 ≤ x ∧ x ≤ 255) : Calls Try.prog 8 #[v] w fun e w' => e = .returned (.bool true) ∧ Below w.heap.size w w' := by
  obtain ⟨h, hb⟩ := h
  obtain ⟨A, c, rfl, hc1, hm1⟩ := h.form
  unfold maxLen at hm1
  by_cases hle : 1048576 < L.length
  · have hd : decide ((1048576 : Int) < (L.length : Int)) = true := by simp; omega
    go_enter Try.func8, Try.ntmps8
    go_wp2
    go_ret
    exact ⟨rfl, Below.refl _ _⟩
  · have hd : decide ((1048576 : Int) < (L.length : Int)) = false := by simp; omega
    have HH := hid h
    have HB := hid hb
    clear h hb hle
    go_enter Try.func8, Try.ntmps8
    go_wp2_with fail
    refine (DrawPutStacks_c _ L _ HH.out HB.out).mono ?_
    rintro e w1 ⟨u, M, rfl, hM, hl, hT, hb⟩
    have HM1 := hid hM
    have HB1 := hid hb
    clear hM hb hT
    obtain ⟨Am, km, hvm, hkm, hmm⟩ := HM1.out.form
    subst hvm
    unfold maxLen at hmm
    go_wp2_with fail
    refine (PutStacks_c _ M _ HM1.out).mono ?_
    rintro e w2 ⟨r1, rfl, hr, hb⟩
    have HM_2 := hid (HM1.out.go hb)
    have HB_2 := hid (HB1.out.trans (hb.mono HB1.out.size))
    have HE_2 := hid (hr.rowB)
    obtain ⟨A1, k1, rfl, hk1, hm2⟩ := HE_2.out.form
    unfold maxLen at hm2
    clear hb hr
    go_wp2_with fail
    refine (sPutStacks_c _ M _ HM_2.out).mono ?_
    rintro e w3 ⟨r2, rfl, hr, hb⟩
    have HM_3 := hid (HM_2.out.go hb)
    have HE_3 := hid (HE_2.out.go hb)
    have HB_3 := hid (HB_2.out.trans (hb.mono HB_2.out.size))
    have HS_3 := hid (hr.rowB)
    clear hb hr
    go_wp2_with fail
    refine (equalInts_same _ _ _ _ HE_3.out HS_3.out).mono ?_
    rintro e w4 ⟨rfl, hd⟩
    have HM_4 := hid (HM_3.out.drR hd)
    have HE_4 := hid (HE_3.out.drR hd)
    have HS_4 := hid (HS_3.out.drR hd)
    have HB_4 := hid (HB_3.out.trans (hd.below _))
    clear hd
    cases hv : vtB M with
    | false =>
      have HV := hid hv
      clear hv
      go_wp2_with fail
      refine (ValidTurn_c _ M _ HM_4.out).mono ?_
      rintro e w5 ⟨rfl, hb⟩
      have HM_5 := hid (HM_4.out.go hb)
      have HE_5 := hid (HE_4.out.go hb)
      have HS_5 := hid (HS_4.out.go hb)
      have HB_5 := hid (HB_4.out.trans (hb.mono HB_4.out.size))
      rw [HV.out]
      clear hb
      go_wp2_with fail
      refine (sPutStacks_c _ M _ HM_5.out).mono ?_
      rintro e w6 ⟨r3, rfl, hr, hb⟩
      have HM_6 := hid (HM_5.out.go hb)
      have HE_6 := hid (HE_5.out.go hb)
      have HS_6 := hid (HS_5.out.go hb)
      have HB_6 := hid (HB_5.out.trans (hb.mono HB_5.out.size))
      have HS2_6 := hid (hr.rowB)
      clear hb hr
      go_wp2_with fail
      refine (equalInts_same _ _ _ _ HE_6.out HS2_6.out).mono ?_
      rintro e w7 ⟨rfl, hd⟩
      have HM_7 := hid (HM_6.out.drR hd)
      have HE_7 := hid (HE_6.out.drR hd)
      have HS_7 := hid (HS_6.out.drR hd)
      have HS2_7 := hid (HS2_6.out.drR hd)
      have HB_7 := hid (HB_6.out.trans (hd.below _))
      clear hd
      go_wp2
      go_ret
      exact ⟨rfl, HB_7.out⟩
    | true =>
      have hvt := vtB_iff.1 hv
      have hvs := putL_ok hvt
      have hN := (take_lifts hvs).2 (put_lifts M)
      have hO : takeOut M (putOut M) = upList M.length := by rw [putOut_t hv, takeOut_t (vsB_iff.2 hvs), hN]
      have hK : takeOk M (putOut M) = true := by rw [putOut_t hv]; exact takeOk_all (vsB_iff.2 hvs) hN
      have hF : liftsV M (putOut M) = 0 := by rw [putOut_t hv, liftsV_t (vsB_iff.2 hvs), put_lifts]; rfl
      have HV := hid hv
      have HOO := hid hO
      have HK := hid hK
      have HF := hid hF
      clear hv hvt hvs hN hO hK hF
      go_wp2_with fail
      refine (ValidTurn_c _ M _ HM_4.out).mono ?_
      rintro e w5 ⟨rfl, hb⟩
      have HM_5 := hid (HM_4.out.go hb)
      have HE_5 := hid (HE_4.out.go hb)
      have HS_5 := hid (HS_4.out.go hb)
      have HB_5 := hid (HB_4.out.trans (hb.mono HB_4.out.size))
      rw [HV.out]
      clear hb
      go_wp2_with fail
      refine (TakeStacks_c _ _ M (putOut M) _ HM_5.out HE_5.out).mono ?_
      rintro e w6 ⟨r4, rfl, hr, hb⟩
      have HM_6 := hid (HM_5.out.go hb)
      have HE_6 := hid (HE_5.out.go hb)
      have HS_6 := hid (HS_5.out.go hb)
      have HB_6 := hid (HB_5.out.trans (hb.mono HB_5.out.size))
      have HT_6 := hid (hr.rowB)
      rw [HK.out]
      clear hb hr
      obtain ⟨A5, k5, rfl, hk5, hm5⟩ := HT_6.out.form
      unfold maxLen at hm5
      have hfin : (((takeOut M (putOut M)).length : Int) == (M.length : Int)) = true := by rw [HOO.out, upList_len]; simp
      have h00 : ((0 : Int) == 0) = true := rfl
      go_wp2_with fail
      refine (LiftsOf_c _ _ M (putOut M) _ HM_6.out HE_6.out).mono ?_
      rintro e w7 ⟨rfl, hb⟩
      have HM_7 := hid (HM_6.out.go hb)
      have HE_7 := hid (HE_6.out.go hb)
      have HS_7 := hid (HS_6.out.go hb)
      have HT_7 := hid (HT_6.out.go hb)
      have HB_7 := hid (HB_6.out.trans (hb.mono HB_6.out.size))
      rw [HF.out]
      clear hb
      go_wp2
      go_ret
      exact ⟨rfl, HB_7.out⟩

end Go.Proofs.Ytcfhncckeedipaa
