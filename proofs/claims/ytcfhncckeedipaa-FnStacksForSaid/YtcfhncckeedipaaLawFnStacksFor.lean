/-
  The law FnStacksFor, walked (written by a program of mine).
-/
import Derived.Test.YtcfhncckeedipaaDrLift
namespace Go.Proofs.Ytcfhncckeedipaa
set_option linter.unusedSimpArgs false
set_option linter.unusedVariables false
open Go.RowKit

set_option maxHeartbeats 12800000 in
set_option maxRecDepth 100000 in
theorem FnStacksFor_c (v : Value) (L : List Int) (w : World) (h : Row byteE w v L ∧ ∀ x ∈ L, 0 ≤ x ∧ x ≤ 255) : Calls Try.prog 5 #[v] w fun e w' => e = .returned (.bool true) ∧ Below w.heap.size w w' := by
  obtain ⟨h, hb⟩ := h
  obtain ⟨A, c, rfl, hc1, hm1⟩ := h.form
  unfold maxLen at hm1
  by_cases hle : 1048576 < L.length
  · have hd : decide ((1048576 : Int) < (L.length : Int)) = true := by simp; omega
    go_enter Try.func5, Try.ntmps5
    go_wp2
    go_ret
    exact ⟨rfl, Below.refl _ _⟩
  · have hd : decide ((1048576 : Int) < (L.length : Int)) = false := by simp; omega
    have HH := hid h
    have HB := hid hb
    clear h hb hle
    go_enter Try.func5, Try.ntmps5
    go_wp2_with fail
    refine (DrawLiftsOf_c _ L _ HH.out HB.out).mono ?_
    rintro e w1 ⟨u, o, M, S, rfl, hM, hS, hl, hb⟩
    have HM1 := hid hM
    have HS1 := hid hS
    have HB1 := hid hb
    clear hM hS hb
    obtain ⟨Am, km, hvm, hkm, hmm⟩ := HM1.out.form
    subst hvm
    unfold maxLen at hmm
    obtain ⟨x, hx⟩ : ∃ x, x = liftsV M S := ⟨_, rfl⟩
    have HX := hid hx
    have hxx : (x != x) = false := by simp
    have hxe : (x == x) = true := by simp
    clear hx
    go_wp2_with fail
    refine (LiftsOf_c _ _ M S _ HM1.out HS1.out).mono ?_
    rintro e w2 ⟨rfl, hb⟩
    have HM_2 := hid (HM1.out.go hb)
    have HS_2 := hid (HS1.out.go hb)
    have HB_2 := hid (HB1.out.trans (hb.mono HB1.out.size))
    rw [← HX.out]
    clear hb
    go_wp2_with fail
    refine (sLiftsOf_c _ _ M S _ HM_2.out HS_2.out).mono ?_
    rintro e w3 ⟨rfl, hd⟩
    have HM_3 := hid (HM_2.out.drR hd)
    have HS_3 := hid (HS_2.out.drR hd)
    have HB_3 := hid (HB_2.out.trans (hd.below _))
    rw [← HX.out]
    clear hd
    cases hv : vsB M S with
    | false =>
      have hx0 : decide (x < 0) = true := by rw [HX.out, liftsV_f hv]; rfl
      clear hv
      go_wp2_with fail
      refine (sLiftsOf_c _ _ M S _ HM_3.out HS_3.out).mono ?_
      rintro e w4 ⟨rfl, hd⟩
      have HM_4 := hid (HM_3.out.drR hd)
      have HS_4 := hid (HS_3.out.drR hd)
      have HB_4 := hid (HB_3.out.trans (hd.below _))
      rw [← HX.out]
      clear hd
      go_wp2
      go_ret
      exact ⟨rfl, HB_4.out⟩
    | true =>
      have hvs := vsB_iff.1 hv
      have h3 : x = (liftsN M S : Nat) := by rw [HX.out, liftsV_t hv]
      have hsu := stacks_used hvs
      have hx0 : decide (x < 0) = false := decide_eq_false (by omega)
      have HVT := hid (vtB_iff.2 hvs.1)
      have HVS := hid hvs
      have HSU := hid hsu
      have H3 := hid h3
      have hro := riseOut_le (vtB_iff.2 hvs.1)
      clear hv hvs h3 hsu
      go_wp2
      go_loop [6, 7] (fun n i => ∃ k : Nat, i = .int .i64 k ∧ n = .int .i64 (usedTo S k : Nat) ∧ k ≤ 24) (fun _ i => 24 - (intOf i).toNat)
      case atStart => exact ⟨0, rfl, rfl, by omega⟩
      case round =>
        obtain ⟨k, rfl, rfl, hk⟩ := hrel
        have hub : usedTo S k ≤ k := cntTo_le _ _
        by_cases hlt : k < 24
        · by_cases hin : (k : Int) ∈ S
          · have hC := fun w h => isIn_c o S (k : Int) w h
            have HU : Hid (usedTo S (k + 1) = usedTo S k + 1) := cntTo_yes (by simpa using hin)
            have hdc : decide ((k : Int) ∈ S) = true := decide_eq_true hin
            rw [hdc] at hC
            have HC := hid hC
            clear hin hC hdc
            go_wp2_with fail
            refine (HC.out _ HS_3.out).mono ?_
            rintro e wz ⟨rfl, hw⟩
            obtain rfl := hw.symm
            go_wp2
            go_round
            case rel => exact ⟨k + 1, by go_num, by rw [HU.out]; go_num, by omega⟩
            case measure => simp [intOf]; omega
          · have hC := fun w h => isIn_c o S (k : Int) w h
            have HU : Hid (usedTo S (k + 1) = usedTo S k) := cntTo_no (by simpa using hin)
            have hdc : decide ((k : Int) ∈ S) = false := decide_eq_false hin
            rw [hdc] at hC
            have HC := hid hC
            clear hin hC hdc
            go_wp2_with fail
            refine (HC.out _ HS_3.out).mono ?_
            rintro e wz ⟨rfl, hw⟩
            obtain rfl := hw.symm
            go_wp2
            go_round
            case rel => exact ⟨k + 1, by go_num, by rw [HU.out], by omega⟩
            case measure => simp [intOf]; omega
        · have e24 : k = 24 := by omega
          subst e24
          obtain ⟨us, hus⟩ : ∃ us, us = usedTo S 24 := ⟨_, rfl⟩
          have HUS := hid hus
          rw [← hus] at hub ⊢
          clear hus
          go_wp2_with fail
          refine (StacksFor_c _ M _ HM_3.out).mono ?_
          rintro e w11 ⟨rfl, hb⟩
          have HM_11 := hid (HM_3.out.go hb)
          have HS_11 := hid (HS_3.out.go hb)
          have HB_11 := hid (HB_3.out.trans (hb.mono HB_3.out.size))
          rw [stacksN_t HVT.out]
          clear hb
          obtain ⟨ln, hln⟩ : ∃ n, n = (riseOut M).length := ⟨_, rfl⟩
          rw [← hln] at hro ⊢
          have hll := riseOut_len HVT.out
          rw [← hln] at hll
          have hsu : decide (0 < x) = true ∨ (decide (0 < x) = false ∧ decide (ln ≤ us) = true) := by
            rcases Nat.eq_zero_or_pos (liftsN M S) with h | h
            · exact .inr ⟨decide_eq_false (by rw [H3.out, h]; simp), decide_eq_true (by rw [hln, HUS.out]; exact HSU.out h)⟩
            · exact .inl (decide_eq_true (by rw [H3.out]; omega))
          have HLL := hid hll
          have hPB := hid (putL_bd HVS.out.1)
          have HPO := hid (putOut_t HVT.out)
          clear hln hll
          by_cases h0 : M.length = 0
          · have h0b := cast_beq0_t h0
            clear h0
            rcases hsu with h1 | ⟨h1, h2⟩
            · go_wp2
              go_ret
              exact ⟨rfl, HB_11.out⟩
            · go_wp2
              go_ret
              exact ⟨rfl, HB_11.out⟩
          · have h0b : ((M.length : Int) == 0) = false := cast_beq0 (by omega)
            have htp := top_put (show 0 < M.length by omega)
            rw [← HLL.out] at htp
            have HTP := hid htp
            have hln1 : 1 ≤ ln := by have := HLL.out; have := top_put (show 0 < M.length by omega); have := top_nonneg (putL M); omega
            have hself : ((ln : Int) - 1 == (ln : Int) - 1) = true := by simp
            clear h0 htp
            rcases hsu with h1 | ⟨h1, h2⟩
            · go_wp2_with fail
              refine (PutStacks_c _ M _ HM_11.out).mono ?_
              rintro e w12 ⟨r4, rfl, hr, hb⟩
              have HM_12 := hid (HM_11.out.go hb)
              have HS_12 := hid (HS_11.out.go hb)
              have HB_12 := hid (HB_11.out.trans (hb.mono HB_11.out.size))
              have HP_12 := hid (hr.rowB)
              clear hb hr
              have HPx := hid (show Row intE _ _ (putL M) by have := HP_12.out; rw [HPO.out] at this; exact this)
              go_wp2_with fail
              refine (highest_c _ (putL M) _ HPx.out (fun y hy => by have := hPB.out y hy; omega)).mono ?_
              rintro e w13 ⟨rfl, hw⟩
              obtain rfl := hw.symm
              rw [HTP.out]
              skip
              go_wp2
              go_ret
              exact ⟨rfl, HB_12.out⟩
            · go_wp2_with fail
              refine (PutStacks_c _ M _ HM_11.out).mono ?_
              rintro e w12 ⟨r4, rfl, hr, hb⟩
              have HM_12 := hid (HM_11.out.go hb)
              have HS_12 := hid (HS_11.out.go hb)
              have HB_12 := hid (HB_11.out.trans (hb.mono HB_11.out.size))
              have HP_12 := hid (hr.rowB)
              clear hb hr
              have HPx := hid (show Row intE _ _ (putL M) by have := HP_12.out; rw [HPO.out] at this; exact this)
              go_wp2_with fail
              refine (highest_c _ (putL M) _ HPx.out (fun y hy => by have := hPB.out y hy; omega)).mono ?_
              rintro e w13 ⟨rfl, hw⟩
              obtain rfl := hw.symm
              rw [HTP.out]
              skip
              go_wp2
              go_ret
              exact ⟨rfl, HB_12.out⟩

end Go.Proofs.Ytcfhncckeedipaa
