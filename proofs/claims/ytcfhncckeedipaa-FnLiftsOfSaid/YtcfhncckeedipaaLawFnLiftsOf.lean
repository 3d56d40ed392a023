/-
  The law FnLiftsOf, walked (written by a program of mine).
-/
import Derived.Test.YtcfhncckeedipaaDrLift
namespace Go.Proofs.Ytcfhncckeedipaa
set_option linter.unusedSimpArgs false
set_option linter.unusedVariables false
open Go.RowKit

set_option maxHeartbeats 12800000 in
set_option maxRecDepth 100000 in
theorem FnLiftsOf_c (v : Value) (L : List Int) (w : World) (h : Row byteE w v L ∧ ∀ x ∈ L, 0 ≤ x ∧ x ≤ 255) : Calls Try.prog 4 #[v] w fun e w' => e = .returned (.bool true) ∧ Below w.heap.size w w' := by
  obtain ⟨h, hb⟩ := h
  obtain ⟨A, c, rfl, hc1, hm1⟩ := h.form
  unfold maxLen at hm1
  by_cases hle : 1048576 < L.length
  · have hd : decide ((1048576 : Int) < (L.length : Int)) = true := by simp; omega
    go_enter Try.func4, Try.ntmps4
    go_wp2
    go_ret
    exact ⟨rfl, Below.refl _ _⟩
  · have hd : decide ((1048576 : Int) < (L.length : Int)) = false := by simp; omega
    have HH := hid h
    have HB := hid hb
    clear h hb hle
    go_enter Try.func4, Try.ntmps4
    go_wp2_with fail
    refine (DrawLiftsOf_c _ L _ HH.out HB.out).mono ?_
    rintro e w1 ⟨u, o, M, S, rfl, hM, hS, hl, hb⟩
    have HM1 := hid hM
    have HS1 := hid hS
    have HB1 := hid hb
    clear hM hS hb
    obtain ⟨Am, km, hvm, hkm, hmm⟩ := HM1.out.form
    subst hvm
    unfold maxLen at hmm
    obtain ⟨x, hx⟩ : ∃ x, x = liftsV M S := ⟨_, rfl⟩
    have HX := hid hx
    have hxx : (x != x) = false := by simp
    have hxe : (x == x) = true := by simp
    clear hx
    go_wp2_with fail
    refine (LiftsOf_c _ _ M S _ HM1.out HS1.out).mono ?_
    rintro e w2 ⟨rfl, hb⟩
    have HM_2 := hid (HM1.out.go hb)
    have HS_2 := hid (HS1.out.go hb)
    have HB_2 := hid (HB1.out.trans (hb.mono HB1.out.size))
    rw [← HX.out]
    clear hb
    go_wp2_with fail
    refine (sLiftsOf_c _ _ M S _ HM_2.out HS_2.out).mono ?_
    rintro e w3 ⟨rfl, hd⟩
    have HM_3 := hid (HM_2.out.drR hd)
    have HS_3 := hid (HS_2.out.drR hd)
    have HB_3 := hid (HB_2.out.trans (hd.below _))
    rw [← HX.out]
    clear hd
    cases hv : vsB M S with
    | false =>
      have hx0 : decide (x < 0) = true := by rw [HX.out, liftsV_f hv]; rfl
      clear hv
      go_wp2_with fail
      refine (sLiftsOf_c _ _ M S _ HM_3.out HS_3.out).mono ?_
      rintro e w4 ⟨rfl, hd⟩
      have HM_4 := hid (HM_3.out.drR hd)
      have HS_4 := hid (HS_3.out.drR hd)
      have HB_4 := hid (HB_3.out.trans (hd.below _))
      rw [← HX.out]
      clear hd
      go_wp2
      go_ret
      exact ⟨rfl, HB_4.out⟩
    | true =>
      have hvs := vsB_iff.1 hv
      have hz : VS M (List.replicate M.length 0) := ⟨hvs.1, by simp, fun y hy => by have := List.eq_of_mem_replicate hy; omega⟩
      have h1 := lifts_swaps hvs.1
      have h2 := lifts_one M S hvs.2.1
      have h3 : x = (liftsN M S : Nat) := by rw [HX.out, liftsV_t hv]
      obtain ⟨a, ha⟩ : ∃ a, a = liftsN M S := ⟨_, rfl⟩
      obtain ⟨b, hb2⟩ : ∃ b, b = liftsN M (List.replicate M.length 0) := ⟨_, rfl⟩
      obtain ⟨c2, hc2⟩ : ∃ c, c = swapsN M := ⟨_, rfl⟩
      have hbb : b ≤ 196 := by have := liftsTo_bd M (List.replicate M.length 0) M.length; have h5 : M.length * M.length ≤ 14 * 14 := Nat.mul_le_mul hl hl; rw [hb2]; unfold liftsN; omega
      have hcb : c2 ≤ 196 := by have := swapsTo_bd M M.length; have h5 : M.length * M.length ≤ 14 * 14 := Nat.mul_le_mul hl hl; rw [hc2]; unfold swapsN; omega
      have HZ : Hid (liftsV M (List.replicate M.length 0) = (b : Int)) := by rw [Hid, liftsV_t (vsB_iff.2 hz), hb2]
      have HW2 : Hid (swapsV M = (c2 : Int)) := by rw [Hid, swapsV_t (vtB_iff.2 hvs.1), hc2]
      rw [← ha] at h2 h3
      rw [← hb2] at h1 h2
      rw [← hc2] at h1
      have h4 : 2 * ((b : Int) + c2) = (M.length : Int) * ((M.length : Int) - 1) := by
        rcases Nat.eq_zero_or_pos M.length with h | h
        · rw [h] at h1 ⊢; omega
        · have e : ((M.length : Int) - 1) = ((M.length - 1 : Nat) : Int) := by omega
          rw [e]; exact_mod_cast h1
      have hx0 : decide (x < 0) = false := decide_eq_false (by omega)
      have hle : decide (x ≤ (b : Int)) = true := decide_eq_true (by omega)
      have hmb : (M.length : Int) * ((M.length : Int) - 1) ≤ 1000 := by omega
      have hm0 : 0 ≤ (M.length : Int) * ((M.length : Int) - 1) := by omega
      have hw : IntKind.i64.wrap ((M.length : Int) * ((M.length : Int) - 1)) = (M.length : Int) * ((M.length : Int) - 1) := IntWalk.i64_in _ (by omega)
      have hfin : (2 * ((b : Int) + (c2 : Int)) == (M.length : Int) * ((M.length : Int) - 1)) = true := by rw [h4]; simp
      have HV := hid hv
      clear hv hvs hz h1 h2 h3 ha hb2 hc2 h4 hmb hm0
      obtain ⟨i0, hi0, hz0, hz1, hz2⟩ := info_parts int_info
      go_wp2_with (at_make; refine wpList_mk intE _ rfl _ _ 24 rfl w3.heap.size 3 i0 _ 0 8 Try.underlying24 hi0 hz0 hz1 hz2 rfl _ _ _ _ M.length rfl rfl rfl rfl (by omega) (by omega) (Nat.le_refl _) ?_)
      intro wm hown hgr hlt1
      have hb := (Below.refl w3.heap.size w3).grown hgr (Nat.le_refl _) (by simp)
      have HMm := hid (HM_3.out.go hb)
      have HSm := hid (HS_3.out.go hb)
      have HBm := hid (HB_3.out.trans (hb.mono HB_3.out.size))
      have HZm := hid hown.rowB
      clear hown hgr hlt1 hb
      go_wp2_with fail
      refine (LiftsOf_c _ _ M (List.replicate M.length 0) _ HMm.out HZm.out).mono ?_
      rintro e w11 ⟨rfl, hb⟩
      have HM_11 := hid (HMm.out.go hb)
      have HS_11 := hid (HSm.out.go hb)
      have HZ_11 := hid (HZm.out.go hb)
      have HB_11 := hid (HBm.out.trans (hb.mono HBm.out.size))
      rw [HZ.out]
      clear hb
      go_wp2_with fail
      refine (SwapsFor_c _ M _ HM_11.out).mono ?_
      rintro e w12 ⟨rfl, hb⟩
      have HM_12 := hid (HM_11.out.go hb)
      have HS_12 := hid (HS_11.out.go hb)
      have HZ_12 := hid (HZ_11.out.go hb)
      have HB_12 := hid (HB_11.out.trans (hb.mono HB_11.out.size))
      rw [HW2.out]
      clear hb
      go_wp2
      go_ret
      exact ⟨rfl, HB_12.out⟩

end Go.Proofs.Ytcfhncckeedipaa
