/-
  The law FnLongestRise, walked (written by a program of mine).
-/
import Derived.Test.YtcfhncckeedipaaDrRise
import Derived.Test.YtcfhncckeedipaaRiseFall
namespace Go.Proofs.Ytcfhncckeedipaa
set_option linter.unusedSimpArgs false
set_option linter.unusedVariables false
open Go.RowKit

set_option maxHeartbeats 12800000 in
set_option maxRecDepth 100000 in
theorem FnLongestRise_c (v : Value) (L : List Int) (w : World) (h : Row byteE w v L ∧ ∀ x ∈ L, 0 ≤ x ∧ x ≤ 255) : Calls Try.prog 6 #[v] w fun e w' => e = .returned (.bool true) ∧ Below w.heap.size w w' := by
  obtain ⟨h, hb⟩ := h
  obtain ⟨A, c, rfl, hc1, hm1⟩ := h.form
  unfold maxLen at hm1
  by_cases hle : 1048576 < L.length
  · have hd : decide ((1048576 : Int) < (L.length : Int)) = true := by simp; omega
    go_enter Try.func6, Try.ntmps6
    go_wp2
    go_ret
    exact ⟨rfl, Below.refl _ _⟩
  · have hd : decide ((1048576 : Int) < (L.length : Int)) = false := by simp; omega
    have HH := hid h
    have HB := hid hb
    clear h hb hle
    go_enter Try.func6, Try.ntmps6
    go_wp2_with fail
    refine (DrawLongestRise_c _ L _ HH.out HB.out).mono ?_
    rintro e w1 ⟨u, M, rfl, hM, hl, hT, hb⟩
    have HM1 := hid hM
    have HB1 := hid hb
    clear hM hb hT
    go_wp2_with fail
    refine (LongestRise_c _ M _ HM1.out).mono ?_
    rintro e w2 ⟨r1, rfl, hr, hb⟩
    have HM_2 := hid (HM1.out.go hb)
    have HB_2 := hid (HB1.out.trans (hb.mono HB1.out.size))
    have HE_2 := hid (hr.rowB)
    obtain ⟨A1, k1, rfl, hk1, hm2⟩ := HE_2.out.form
    unfold maxLen at hm2
    clear hb hr
    go_wp2_with fail
    refine (sLongestRise_c _ M _ HM_2.out).mono ?_
    rintro e w3 ⟨r2, rfl, hr, hb⟩
    have HM_3 := hid (HM_2.out.go hb)
    have HE_3 := hid (HE_2.out.go hb)
    have HB_3 := hid (HB_2.out.trans (hb.mono HB_2.out.size))
    have HS_3 := hid (hr.rowB)
    clear hb hr
    go_wp2_with fail
    refine (equalInts_same _ _ _ _ HE_3.out HS_3.out).mono ?_
    rintro e w4 ⟨rfl, hd⟩
    have HM_4 := hid (HM_3.out.drR hd)
    have HE_4 := hid (HE_3.out.drR hd)
    have HS_4 := hid (HS_3.out.drR hd)
    have HB_4 := hid (HB_3.out.trans (hd.below _))
    clear hd
    cases hv : vtB M with
    | false =>
      have HV := hid hv
      clear hv
      go_wp2_with fail
      refine (ValidTurn_c _ M _ HM_4.out).mono ?_
      rintro e w5 ⟨rfl, hb⟩
      have HM_5 := hid (HM_4.out.go hb)
      have HE_5 := hid (HE_4.out.go hb)
      have HS_5 := hid (HS_4.out.go hb)
      have HB_5 := hid (HB_4.out.trans (hb.mono HB_4.out.size))
      rw [HV.out]
      clear hb
      go_wp2_with fail
      refine (sLongestRise_c _ M _ HM_5.out).mono ?_
      rintro e w6 ⟨r3, rfl, hr, hb⟩
      have HM_6 := hid (HM_5.out.go hb)
      have HE_6 := hid (HE_5.out.go hb)
      have HS_6 := hid (HS_5.out.go hb)
      have HB_6 := hid (HB_5.out.trans (hb.mono HB_5.out.size))
      have HS2_6 := hid (hr.rowB)
      clear hb hr
      go_wp2_with fail
      refine (equalInts_same _ _ _ _ HE_6.out HS2_6.out).mono ?_
      rintro e w7 ⟨rfl, hd⟩
      have HM_7 := hid (HM_6.out.drR hd)
      have HE_7 := hid (HE_6.out.drR hd)
      have HS_7 := hid (HS_6.out.drR hd)
      have HS2_7 := hid (HS2_6.out.drR hd)
      have HB_7 := hid (HB_6.out.trans (hd.below _))
      clear hd
      go_wp2
      go_ret
      exact ⟨rfl, HB_7.out⟩
    | true =>
      have HV := hid hv
      have hX := riseOut_le hv
      clear hv
      go_wp2_with fail
      refine (ValidTurn_c _ M _ HM_4.out).mono ?_
      rintro e w5 ⟨rfl, hb⟩
      have HM_5 := hid (HM_4.out.go hb)
      have HE_5 := hid (HE_4.out.go hb)
      have HS_5 := hid (HS_4.out.go hb)
      have HB_5 := hid (HB_4.out.trans (hb.mono HB_4.out.size))
      rw [HV.out]
      clear hb
      obtain ⟨i0, hi0, hz0, hz1, hz2⟩ := info_parts int_info
      have HP0 := hid (Own.lit0 intE w5 w5.heap.size 3 (Nat.le_refl _))
      have HW0 : Hid (Below w5.heap.size w5 (w5.alloc (.cells #[] 3))) := (Below.refl _ _).alloc (Nat.le_refl _) _
      go_wp2
      go_loopw [5, 6] (fun o i wr => ∃ k : Nat, i = .int .i64 k ∧ k ≤ (riseOut M).length ∧ Below w5.heap.size w5 wr ∧ Own intE 3 w5.heap.size wr o ((riseVals M).take k)) (fun _ i _ => (riseOut M).length - (intOf i).toNat)
      case atStart => exact ⟨0, rfl, by omega, HW0.out, by simpa using HP0.out⟩
      case round =>
        obtain ⟨k, rfl, hk, hb, ho⟩ := hrel
        have HO := hid ho
        have HBr := hid hb
        clear ho hb HP0 HW0
        by_cases hlt : k < (riseOut M).length
        · obtain ⟨m, hm, e1, e2⟩ := riseOut_at HV.out k hlt
          obtain ⟨b1, o1, rfl, -, hx⟩ := row_cells1 (HE_5.out.below HBr.out) (by omega)
          have hx' := hx k hlt
          rw [e1] at hx'
          obtain ⟨b2, o2, hA2, hy⟩ : ∃ b2 o2, (∃ c2, u = .slice (some ⟨b2, o2, none⟩) M.length c2 ∧ M.length ≤ c2 ∧ c2 ≤ maxLen) ∧ ∀ k, (hk : k < M.length) → wr.cell? ⟨b2, o2 + k, none⟩ = some (.int .i64 M[k]) := by
            have hr := HM_5.out.below HBr.out
            obtain ⟨A2, c2, rfl, hc2, hm2⟩ := hr.form
            obtain ⟨b2, o2, rfl, -, hy⟩ := row_cells1 hr (by omega)
            exact ⟨b2, o2, ⟨c2, rfl, hc2, hm2⟩, hy⟩
          obtain ⟨c2, rfl, hc2, hm3⟩ := hA2
          unfold maxLen at hm3
          have hy' := hy m hm
          obtain ⟨L2, hL2⟩ : ∃ Z : List Int, Z = (riseVals M).take k ++ [M[m]] := ⟨_, rfl⟩
          have HL2 := hid hL2
          have hl2 : k < (riseVals M).length := by rw [riseVals_len]; exact hlt
          have HL3 : Hid (L2 = (riseVals M).take (k + 1)) := by rw [Hid, hL2, List.take_succ_eq_append_getElem hl2, e2]
          have HLn : Hid (((riseVals M).take k).length ≤ 4194304) := by rw [Hid, List.length_take]; omega
          have hsz := HBr.out.size
          clear hx hy e1 e2 hL2
          go_wp2_with (at_builtin; refine wpList_pushN intE _ rfl (.tmp 35) (.tmp 43) _ rfl w5.heap.size 3 i0 _ 8 Try.underlying24 hi0 hz0 hz1 hz2 rfl (by omega) _ _ rfl HO.out _ M[m] _ rfl rfl (by simp) HLn.out hsz L2 HL2.out ?_)
          intro v' w' ho' hg' hat'
          rw [HL3.out] at ho'
          have HO' := hid ho'
          have HB' := hid (HBr.out.grown hg' hsz (fun q hq => (HO.out.lt q hq).1))
          clear ho' hg' hat'
          go_wp2
          exact ⟨⟨k + 1, by go_num, by omega, HB'.out, HO'.out⟩, by simp [intOf]; omega⟩
        · have e : k = (riseOut M).length := by omega
          have HE2 := hid (HE_5.out.go HBr.out)
          have HM2 := hid (HM_5.out.go HBr.out)
          have HX := hid (show Row intE wr _ (riseVals M) by have h := HO.out.rowB; rw [List.take_of_length_le (by rw [riseVals_len]; omega)] at h; exact h)
          have HB2 := hid (HB_5.out.trans (HBr.out.mono HB_5.out.size))
          have hself : (((riseOut M).length : Int) == ((riseOut M).length : Int)) = true := by simp
          subst e
          go_wp2_with fail
          refine (ascends_t _ _ _ HE2.out (riseOut_asc HV.out)).mono ?_
          rintro e w21 ⟨rfl, hd⟩
          have HE_21 := hid (HE2.out.drR hd)
          have HM_21 := hid (HM2.out.drR hd)
          have HX_21 := hid (HX.out.drR hd)
          have HB_21 := hid (HB2.out.trans (hd.below _))
          clear hd
          go_wp2_with fail
          refine (ascends_t _ _ _ HX_21.out (riseVals_asc HV.out)).mono ?_
          rintro e w22 ⟨rfl, hd⟩
          have HE_22 := hid (HE_21.out.drR hd)
          have HM_22 := hid (HM_21.out.drR hd)
          have HX_22 := hid (HX_21.out.drR hd)
          have HB_22 := hid (HB_21.out.trans (hd.below _))
          clear hd
          go_wp2_with fail
          refine (StacksFor_c _ M _ HM_22.out).mono ?_
          rintro e w23 ⟨rfl, hb⟩
          have HE_23 := hid (HE_22.out.go hb)
          have HM_23 := hid (HM_22.out.go hb)
          have HX_23 := hid (HX_22.out.go hb)
          have HB_23 := hid (HB_22.out.trans (hb.mono HB_22.out.size))
          rw [stacksN_t HV.out]
          clear hb
          go_wp2
          go_ret
          exact ⟨rfl, HB_23.out⟩

end Go.Proofs.Ytcfhncckeedipaa
