/-
  The law FnPanesOf, walked (written by a program of mine).
-/
import Derived.Test.YtmenkjloabficaaDrOrd
import Derived.Test.YtmenkjloabficaaOrdPn
import Derived.Test.YtmenkjloabficaaLawOrd
namespace Go.Proofs.Ytmenkjloabficaa
set_option linter.unusedSimpArgs false
set_option linter.unusedVariables false
open Go.RowKit

set_option maxHeartbeats 12800000 in
set_option maxRecDepth 100000 in
theorem FnPanesOf_c (v : Value) (L : List Int) (w : World) (h : Row byteE w v L ∧ ∀ x ∈ L, 0 ≤ x ∧ x ≤ 255) : Calls Try.prog 4 #[v] w fun e w' => e = .returned (.bool true) ∧ Below w.heap.size w w' := by
  obtain ⟨h, hb⟩ := h
  obtain ⟨A, c, rfl, hc1, hm1⟩ := h.form
  unfold maxLen at hm1
  by_cases hle : 1048576 < L.length
  · have hd : decide ((1048576 : Int) < (L.length : Int)) = true := by simp; omega
    go_enter Try.func4, Try.ntmps4
    go_wp2
    go_ret
    exact ⟨rfl, Below.refl _ _⟩
  · have hd : decide ((1048576 : Int) < (L.length : Int)) = false := by simp; omega
    have HH := hid h
    have HB := hid hb
    clear h hb hle
    go_enter Try.func4, Try.ntmps4
    go_wp2_with fail
    refine (DrawPanesOf_c _ L _ HH.out HB.out).mono ?_
    rintro e w1 ⟨v1, M, rfl, hr, hm, hb⟩
    have HB1 := hid hb
    have HM_1 := hid hr
    clear hr hb
    go_wp2_with fail
    refine (PanesOf_c _ M _ HM_1.out).mono ?_
    rintro e w2 ⟨r1, rfl, hr, hb⟩
    have HM_2 := hid (HM_1.out.go hb)
    have HB_2 := hid (HB1.out.trans (hb.mono HB1.out.size))
    have HE_2 := hid (hr.rowB)
    obtain ⟨Q, hQ⟩ : ∃ Q, Q = panesOut M := ⟨_, rfl⟩
    have HQ := hid hQ
    rw [← hQ] at HE_2
    obtain ⟨A1, k1, rfl, hk1, hm2⟩ := HE_2.out.form
    unfold maxLen at hm2
    clear hb hr hQ
    go_wp2_with fail
    refine (sPanesOf_c _ M _ HM_2.out (by omega)).mono ?_
    rintro e w3 ⟨r2, rfl, hr, hb⟩
    have HM_3 := hid (HM_2.out.go hb)
    have HE_3 := hid (HE_2.out.go hb)
    have HB_3 := hid (HB_2.out.trans (hb.mono HB_2.out.size))
    have HS_3 := hid (hr.rowB)
    rw [← HQ.out] at HS_3
    clear hb hr
    go_wp2_with fail
    refine (equalPanes_same _ _ Q _ HE_3.out HS_3.out).mono ?_
    rintro e w4 ⟨rfl, hd⟩
    have HM_4 := hid (HM_3.out.drR hd)
    have HE_4 := hid (HE_3.out.drR hd)
    have HS_4 := hid (HS_3.out.drR hd)
    have HB_4 := hid (HB_3.out.trans (hd.below _))
    clear hd
    cases hv : voB M with
    | false =>
      have HV := hid hv
      clear hv
      go_wp2_with fail
      refine (ValidOrder_c _ M _ HM_4.out).mono ?_
      rintro e w5 ⟨rfl, hb⟩
      have HM_5 := hid (HM_4.out.go hb)
      have HE_5 := hid (HE_4.out.go hb)
      have HS_5 := hid (HS_4.out.go hb)
      have HB_5 := hid (HB_4.out.trans (hb.mono HB_4.out.size))
      rw [HV.out]
      clear hb
      go_wp2_with fail
      refine (sPanesOf_c _ M _ HM_5.out (by omega)).mono ?_
      rintro e w6 ⟨r3, rfl, hr, hb⟩
      have HM_6 := hid (HM_5.out.go hb)
      have HE_6 := hid (HE_5.out.go hb)
      have HS_6 := hid (HS_5.out.go hb)
      have HB_6 := hid (HB_5.out.trans (hb.mono HB_5.out.size))
      have HT_6 := hid (hr.rowB)
      rw [← HQ.out] at HT_6
      clear hb hr
      go_wp2_with fail
      refine (equalPanes_same _ _ Q _ HE_6.out HT_6.out).mono ?_
      rintro e w7 ⟨rfl, hd⟩
      have HM_7 := hid (HM_6.out.drR hd)
      have HE_7 := hid (HE_6.out.drR hd)
      have HS_7 := hid (HS_6.out.drR hd)
      have HT_7 := hid (HT_6.out.drR hd)
      have HB_7 := hid (HB_6.out.trans (hd.below _))
      clear hd
      go_wp2
      go_ret
      exact ⟨rfl, HB_7.out⟩
    | true =>
      have HV := hid hv
      have hvo := voB_iff.1 hv
      have HVO := hid hvo
      have HQP := hid (show Q = panesL M by rw [HQ.out, panesOut_t hv])
      have HPO := hid (show ∀ p ∈ Q, okPn p by rw [HQP.out]; exact hvo.panes_ok)
      have HPA := hid (show areaP Q = areaV M by rw [HQP.out, areaV_t hv]; exact area_panes hvo.pos)
      have HPL := hid (show (Q.length : Int) = sumC M by rw [HQP.out]; exact panesL_len hvo.pos)
      have hq24 : Q.length ≤ 24 := by have := HPL.out; have := hvo.2.2.2; omega
      clear hv hvo
      go_wp2_with fail
      refine (ValidOrder_c _ M _ HM_4.out).mono ?_
      rintro e w5 ⟨rfl, hb⟩
      have HM_5 := hid (HM_4.out.go hb)
      have HE_5 := hid (HE_4.out.go hb)
      have HS_5 := hid (HS_4.out.go hb)
      have HB_5 := hid (HB_4.out.trans (hb.mono HB_4.out.size))
      rw [HV.out]
      clear hb
      obtain ⟨wo, rfl⟩ : ∃ wo : World, wo = w5 := ⟨_, rfl⟩
      go_wp2
      go_loopw [5, 6] (fun n i wr => ∃ k : Nat, n = .int .i64 (areaP (Q.take k)) ∧ i = .int .i64 k ∧ k ≤ Q.length ∧ Below wo.heap.size wo wr) (fun _ i _ => Q.length - (intOf i).toNat)
      case atStart => exact ⟨0, by simp [areaP_nil], rfl, by omega, Below.refl _ _⟩
      case round =>
        obtain ⟨k, rfl, rfl, hk, hb⟩ := hrel
        have HBr := hid (HB_5.out.trans (hb.mono HB_5.out.size))
        have HEr := hid (HE_5.out.go hb)
        have HMr := hid (HM_5.out.go hb)
        have HBo := hid hb
        clear hb
        by_cases hlt : k < Q.length
        · obtain ⟨b1, o1, rfl, hb1, hx⟩ := row_panes HEr.out (by omega)
          obtain ⟨x0, x1, x2, x3⟩ := hx k hlt
          have hok := HPO.out _ (List.getElem_mem hlt)
          have HVP := hid (vpnB_iff.2 hok)
          have har := hok.area
          have haq := areaP_bd (M := Q.take k) (fun p hp => HPO.out p (List.mem_of_mem_take hp))
          have hln := List.length_take_le k Q
          have HSU := hid (areaP_succ Q k hlt)
          have hs1 : IntKind.i64.wrap (Q[k].w * Q[k].h) = Q[k].w * Q[k].h := IntWalk.i64_in _ (by omega)
          have hs2 : IntKind.i64.wrap (areaP (Q.take k) + Q[k].w * Q[k].h) = areaP (Q.take k) + Q[k].w * Q[k].h := IntWalk.i64_in _ (by omega)
          have HSS := hid (And.intro hs1 hs2)
          clear hx har haq hln hok hs1 hs2
          go_wp2_with fail
          refine (ValidPane_c Q[k] _).mono ?_
          rintro e w9 ⟨rfl, hb⟩
          rw [HVP.out]
          have HB9 := hid (HBo.out.trans (hb.mono HBo.out.size))
          obtain ⟨b9, o9, e9, -, hy⟩ := row_panes (HEr.out.go hb) (by omega)
          simp only [Option.some.injEq, Addr.mk.injEq, and_true] at e9
          obtain ⟨rfl, rfl⟩ := e9
          obtain ⟨y0, y1, y2, y3⟩ := hy k hlt
          obtain ⟨hs1, hs2⟩ := HSS.out
          clear hy hb x0 x1 x2 x3
          go_wp2
          go_quiet (fail)
          go_wp2
          exact ⟨⟨k + 1, by rw [HSU.out], by go_num, by omega, HB9.out.trans (below_draws _ _ _)⟩, by simp [intOf]; omega⟩
        · have e : Q.take k = Q := List.take_of_length_le (by omega)
          rw [e]
          have d1 : ((Q.length : Int) == sumC M) = true := by rw [beq_iff_eq]; exact HPL.out
          have d2 : (areaP Q == areaV M) = true := by rw [beq_iff_eq]; exact HPA.out
          clear e
          go_wp2_with fail
          refine (count_c _ M _ HMr.out HVO.out).mono ?_
          rintro e w9 ⟨rfl, hd⟩
          have HM9 := hid (HMr.out.drR hd)
          have HB9 := hid (HBr.out.trans (hd.below _))
          clear hd
          go_wp2_with fail
          refine (OrderArea_c _ M _ HM9.out).mono ?_
          rintro e w10 ⟨rfl, hb⟩
          have HB10 := hid (HB9.out.trans (hb.mono HB9.out.size))
          clear hb
          go_wp2
          go_ret
          exact ⟨rfl, HB10.out⟩

end Go.Proofs.Ytmenkjloabficaa
