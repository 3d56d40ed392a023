/-
  Contract: LongestRise of the reference.
-/
import Derived.Test.YtcfhncckeedipaaRise
namespace Go.Proofs.Ytcfhncckeedipaa
set_option linter.unusedSimpArgs false
set_option linter.unusedVariables false
open Go.RowKit

set_option maxHeartbeats 2000000 in
set_option maxRecDepth 100000 in
theorem sLongestRise_c (v : Value) (L : List Int) (w : World) (h : Row intE w v L) :
    Calls Try.prog 29 #[v] w fun e w' => ∃ v', e = .returned v' ∧ Own intE 3 w.heap.size w' v' (riseOut L) ∧ Below w.heap.size w w' := by
  have hf := h.form
  obtain ⟨A1, c1, hvA, hc1, hm1⟩ := hf
  unfold maxLen at hm1
  obtain ⟨i0, hi0, hz0, hz1, hz2⟩ := info_parts int_info
  by_cases hv : vtB L = true
  · have HV := hid (vtB_iff.1 hv)
    have hn := HV.out.1
    have HVB := hid hv
    subst hvA
    go_enter Try.func29, Try.ntmps29
    go_wp2_with fail
    refine (validTurn_c _ L _ h).mono ?_
    rintro e w1 ⟨rfl, hd1⟩
    rw [hv]
    have HB1 := hid (hd1.below w.heap.size)
    clear hv hd1
    go_wp2_with fail
    refine (rises_c _ L _ (h.go HB1.out) hn).mono ?_
    rintro e w2 ⟨v2, rfl, ho2, hb2⟩
    have hl2 := risesL_len L
    have hrow2 := ho2.rowB
    obtain ⟨A2, c2, hv2, hc2, hm2⟩ := hrow2.form
    subst hv2
    unfold maxLen at hm2
    have HB2 := hid (HB1.out.trans (hb2.mono HB1.out.size))
    have HR2 := hid hrow2
    have HH := hid h
    clear ho2 hb2 hrow2 h
    obtain ⟨T, hT⟩ : ∃ T : Nat, top (risesL L) = T := ⟨(top (risesL L)).toNat, by have := top_nonneg (risesL L); omega⟩
    have hTn : T ≤ L.length := by have := top_le L; omega
    have HT := hid hT
    clear hT
    go_wp2
    go_loop [4, 5] (fun m i => ∃ k : Nat, i = .int .i64 k ∧ k ≤ L.length ∧ m = .int .i64 (topTo (risesL L) k)) (fun _ i => L.length - (intOf i).toNat)
    case atStart => exact ⟨0, rfl, by omega, by rw [topTo_zero]⟩
    case round =>
      obtain ⟨k, rfl, hk, rfl⟩ := hrel
      by_cases hlt : k < L.length
      · obtain ⟨b2, o2, hA2, -, hx⟩ := row_cells1 HR2.out (by omega)
        subst hA2
        have hx' := hx k (by omega)
        have HS := hid (topTo_succ (risesL L) k (by omega))
        clear hx
        go_wp2
        go_round
        case rel => exact ⟨k + 1, by go_num, by omega, by rw [HS.out, max_if]⟩
        case measure => simp [intOf]; omega
      · have hT2 : topTo (risesL L) k = T := by rw [topTo_all _ _ (by omega)]; exact HT.out
        rw [hT2]
        clear hT2
        have hps : 0 < T → ∃ i, pick L (risesL L) T L.length = some i := fun h0 => by
          rw [← HT.out]
          refine pick_top L HV.out ?_
          rcases Nat.eq_zero_or_pos L.length with h1 | h1
          · have := top_le L; have := HT.out; omega
          · exact h1
        have HPS := hid hps
        clear hps
        go_wp2
        have ho0 := Own.lit0 intE w2 w2.heap.size 3 (Nat.le_refl _)
        have hb0 : Below w2.heap.size w2 (w2.alloc (.cells #[] 3)) := (Below.refl _ _).alloc (Nat.le_refl _) _
        go_loopw [6, 7] (fun bk n wr => ∃ (k : Nat) (l : Int) (C : List Nat), n = .int .i64 k ∧ k ≤ T ∧ chain L (risesL L) T L.length = C ++ chain L (risesL L) k l ∧ (0 < k → ∃ i, pick L (risesL L) k l = some i) ∧ lastIs L k l C ∧
          Below w2.heap.size w2 wr ∧ Own intE 3 w2.heap.size wr bk (C.map Int.ofNat)) (fun _ n _ => (intOf n).toNat)
        case atStart => exact ⟨T, L.length, [], rfl, Nat.le_refl _, rfl, HPS.out, .inl ⟨rfl, rfl⟩, hb0, ho0⟩
        case round =>
          obtain ⟨k, l, C, rfl, hkT, hch, hpk, hla, hb, ho⟩ := hrel
          clear ho0 hb0
          obtain ⟨wo, rfl⟩ : ∃ wo : World, wo = wr := ⟨_, rfl⟩
          by_cases hk0 : 0 < k
          · obtain ⟨m, rfl⟩ : ∃ m, k = m + 1 := ⟨k - 1, by omega⟩
            obtain ⟨i, hi⟩ := hpk hk0
            obtain ⟨hil, hfi, hfn⟩ := pick_some.1 hi
            obtain ⟨b1, o1, hA1, hlt1, hx⟩ := row_cells1 ((HH.out.go HB2.out).below hb) (by omega)
            obtain ⟨b2, o2, hA2, hlt2, hy⟩ := row_cells1 (HR2.out.below hb) (by omega)
            subst hA1; subst hA2
            have hCT : C.length + (m + 1) = T := by
              have h1 := congrArg List.length hch
              rw [chain_ok L T L.length HPS.out, List.length_append, chain_ok L (m + 1) l hpk] at h1
              omega
            have hrowC := ho.rowB
            have hlC : (C.map Int.ofNat).length ≤ 4194304 := by rw [List.length_map]; omega
            have HCL := hid hlC
            obtain ⟨A3, c3, hv3, hc3, hm3⟩ := hrowC.form
            subst hv3
            unfold maxLen at hm3
            have HX := hid hx
            have HY := hid hy
            have HCH := hid hch
            have HPK := hid hi
            have HB := hid hb
            have HO := hid ho
            have HF := hid hfi
            have HN := hid hfn
            have HLA := hid hla
            have HRC := hid hrowC
            clear hx hy hch hpk hi hb ho hfi hfn hla hrowC hlC
            go_wp2
            go_loopw [6, 8] (fun bk j wi => ∃ q : Nat, j = .int .i64 q ∧ q ≤ i ∧ bk = .slice A3 (C.map Int.ofNat).length c3 ∧ Dr wo wi) (fun _ j _ => L.length - (intOf j).toNat)
            case atStart => exact ⟨0, rfl, by omega, by simp, Dr.refl _⟩
            case round =>
              obtain ⟨q, rfl, hq, rfl, hd⟩ := hrel
              have hql : q < L.length := by omega
              have hx' : wr.cell? ⟨b1, o1 + q, none⟩ = some (.int .i64 L[q]) := (hd.cell _).trans (HX.out q hql)
              obtain ⟨r, hgd⟩ : ∃ r, (risesL L).getD q 0 = r := ⟨_, rfl⟩
              have hy' : wr.cell? ⟨b2, o2 + q, none⟩ = some (.int .i64 r) := by
                rw [← hgd, List.getD_eq_getElem?_getD, List.getElem?_eq_getElem (show q < (risesL L).length by omega)]
                exact (hd.cell _).trans (HY.out q (by omega))
              have hgd2 : L.getD q 0 = L[q] := by simp [List.getD_eq_getElem?_getD, List.getElem?_eq_getElem hql]
              have hfit := HF.out
              unfold fitsAt at hfit
              rcases HLA.out with ⟨rfl, hl⟩ | ⟨C', p, rfl, hpl, hl, hpi⟩
              · have hLq : L[q] < l := by rw [hl]; exact (HV.out.2.range q hql).2
                by_cases hqi : q = i
                · subst hqi
                  rw [hgd] at hfit
                  have hr1 : (r == (m : Int) + 1) = true := by rw [hfit.1]; simp
                  have ho1 := HO.out.dr hd
                  have HB1 := hid (HB.out.trans (hd.below _))
                  have HD := hid hd
                  clear hgd hgd2 hfit hl hd
                  go_wp2
                  go_quiet (fail)
                  have ho1 := ho1.dr (Dr.refl _ |>.step nq)
                  have HB1 := hid (HB1.out.trans ((Dr.refl _ |>.step nq).below _))
                  go_wp2_with (at_builtin; refine wpList_push intE _ rfl (.tmp 79) (.tmp 81) _ rfl w2.heap.size 3 i0 _ 8 Try.underlying24 hi0 hz0 hz1 hz2 rfl (by omega) _ (([] : List Nat).map Int.ofNat) rfl ho1 _ (q : Int) rfl rfl HCL.out HB1.out.size ?_)
                  intro v' w' ho' hg' hat'
                  have hb' := HB1.out.grown hg' HB1.out.size (fun k hk => (ho1.lt k ((ownBlock_slice _ _ _ _ _).trans hk)).1)
                  have HO' := hid ho'
                  have HB' := hid hb'
                  clear ho1 ho' hb' hg' hat'
                  go_wp2
                  exact ⟨⟨m, L.getD q 0, ([] : List Nat) ++ [q], rfl, by omega, by rw [HCH.out, chain_some HPK.out]; simp, fun h0 => (pick_next L HPK.out h0).imp fun _ h => h.1, lastIs_next _ HPK.out, HB'.out, by simpa using HO'.out⟩, by simp [intOf]⟩
                · have hnf := HN.out q (by omega)
                  unfold fitsAt at hnf
                  rw [hgd, hgd2] at hnf
                  have hr1 : (r == (m : Int) + 1) = false := by
                    rw [beq_eq_false_iff_ne]; exact fun h => hnf ⟨h, hLq⟩
                  have HD := hid hd
                  clear hgd hgd2 hnf hfit hl hd
                  go_wp2
                  go_quiet (fail)
                  go_wp2
                  exact ⟨⟨q + 1, by go_num, by omega, rfl, HD.out.step _⟩, by simp [intOf]; omega⟩
              · have hqp : q < p := by have := hpi i HPK.out; omega
                have hgd3 : L.getD p 0 = L[p] := by simp [List.getD_eq_getElem?_getD, List.getElem?_eq_getElem hpl]
                rw [hgd3] at hl
                have hxp : wr.cell? ⟨b1, o1 + p, none⟩ = some (.int .i64 L[p]) := (hd.cell _).trans (HX.out p hpl)
                obtain ⟨b3, o3, hA3, -, hz⟩ := row_cells1 (HRC.out.dr hd) (by simp)
                subst hA3
                have hz' := hz C'.length (by simp)
                have hzp : ((C' ++ [p]).map Int.ofNat)[C'.length]'(by simp) = (p : Int) := by simp
                rw [hzp] at hz'
                have hg0 : ((C'.length : Int) + 1 == 0) = false := by rw [beq_eq_false_iff_ne]; omega
                have hw1 : IntKind.i64.wrap (C'.length : Int) = (C'.length : Int) := IntWalk.i64_in _ (by simp at hCT; omega)
                by_cases hLq : L[q] < L[p]
                · by_cases hqi : q = i
                  · subst hqi
                    rw [hgd] at hfit
                    have hr1 : (r == (m : Int) + 1) = true := by rw [hfit.1]; simp
                    have ho1 := HO.out.dr hd
                    have HB1 := hid (HB.out.trans (hd.below _))
                    have HD := hid hd
                    clear hgd hgd2 hfit hl hd hz hzp hgd3 hpi
                    go_wp2
                    go_quiet (fail)
                    have ho1 := ho1.dr (Dr.refl _ |>.step nq)
                    have HB1 := hid (HB1.out.trans ((Dr.refl _ |>.step nq).below _))
                    go_wp2_with (at_builtin; refine wpList_push intE _ rfl (.tmp 79) (.tmp 81) _ rfl w2.heap.size 3 i0 _ 8 Try.underlying24 hi0 hz0 hz1 hz2 rfl (by omega) _ ((C' ++ [p]).map Int.ofNat) rfl ho1 _ (q : Int) rfl rfl HCL.out HB1.out.size ?_)
                    intro v' w' ho' hg' hat'
                    have hb' := HB1.out.grown hg' HB1.out.size (fun k hk => (ho1.lt k ((ownBlock_slice _ _ _ _ _).trans hk)).1)
                    have HO' := hid ho'
                    have HB' := hid hb'
                    clear ho1 ho' hb' hg' hat'
                    go_wp2
                    exact ⟨⟨m, L.getD q 0, (C' ++ [p]) ++ [q], rfl, by omega, by rw [HCH.out, chain_some HPK.out]; simp, fun h0 => (pick_next L HPK.out h0).imp fun _ h => h.1, lastIs_next _ HPK.out, HB'.out, by simpa using HO'.out⟩, by simp [intOf]⟩
                  · have hnf := HN.out q (by omega)
                    unfold fitsAt at hnf
                    rw [hgd, hgd2] at hnf
                    have hr1 : (r == (m : Int) + 1) = false := by
                      rw [beq_eq_false_iff_ne]; exact fun h => hnf ⟨h, by rw [hl]; exact hLq⟩
                    have HD := hid hd
                    clear hgd hgd2 hnf hfit hl hd hz hzp hgd3 hpi
                    go_wp2
                    go_quiet (fail)
                    go_wp2
                    first
                      | exact ⟨⟨q + 1, by go_num, by omega, by simp, HD.out.step _⟩, by simp [intOf]; omega⟩
                      | (refine ⟨?_, ?_⟩
                         · (repeat apply Exists.intro)
                           exact ⟨⟨q + 1, by go_num, by omega, by simp, HD.out.step _⟩, rfl⟩
                         · simp [intOf]; omega)
                · have hqi : q ≠ i := by
                    rintro rfl
                    rw [hgd2, hl] at hfit
                    exact hLq hfit.2
                  have HD := hid hd
                  clear hgd hgd2 hfit hl hd hz hzp hgd3 hpi
                  by_cases hr : r = (m : Int) + 1
                  · have hr1 : (r == (m : Int) + 1) = true := by rw [hr]; simp
                    clear hr
                    go_wp2
                    go_quiet (fail)
                    go_wp2
                    first
                      | exact ⟨⟨q + 1, by go_num, by omega, by simp, HD.out.step _⟩, by simp [intOf]; omega⟩
                      | (refine ⟨?_, ?_⟩
                         · (repeat apply Exists.intro)
                           exact ⟨⟨q + 1, by go_num, by omega, by simp, HD.out.step _⟩, rfl⟩
                         · simp [intOf]; omega)
                  · have hr1 : (r == (m : Int) + 1) = false := by rw [beq_eq_false_iff_ne]; exact hr
                    clear hr
                    go_wp2
                    go_quiet (fail)
                    go_wp2
                    first
                      | exact ⟨⟨q + 1, by go_num, by omega, by simp, HD.out.step _⟩, by simp [intOf]; omega⟩
                      | (refine ⟨?_, ?_⟩
                         · (repeat apply Exists.intro)
                           exact ⟨⟨q + 1, by go_num, by omega, by simp, HD.out.step _⟩, rfl⟩
                         · simp [intOf]; omega)
          · have e : k = 0 := by omega
            subst e
            have hC : chain L (risesL L) T L.length = C := by rw [hch]; simp [chain]
            have hCT : C.length = T := by rw [← hC, chain_ok L T L.length HPS.out]
            have hidx : riseOut L = C.reverse.map Int.ofNat := by
              rw [riseOut_t HVB.out]; unfold riseIdx; rw [HT.out]; simp only [Int.toNat_natCast]; rw [hC]
            obtain ⟨M, hM⟩ : ∃ M, M = C.map Int.ofNat := ⟨_, rfl⟩
            have hidx' : riseOut L = M.reverse := by rw [hidx, hM, List.map_reverse]
            have hMl : M.length ≤ 24 := by rw [hM, List.length_map]; omega
            rw [← hM] at ho
            have hrowM := ho.rowB
            obtain ⟨A3, c3, hv3, hc3, hm3⟩ := hrowM.form
            subst hv3
            unfold maxLen at hm3
            have HIX := hid hidx'
            have HRM := hid hrowM
            have HB := hid hb
            clear hC hCT hidx hM hidx' ho hrowM hb hch hpk hla hl2
            go_wp2
            have ho0 := Own.lit0 intE wo wo.heap.size 3 (Nat.le_refl _)
            have hb0 : Below wo.heap.size wo (wo.alloc (.cells #[] 3)) := (Below.refl _ _).alloc (Nat.le_refl _) _
            go_loopw [10, 11] (fun out i wr => ∃ j : Nat, i = .int .i64 ((j : Int) - 1) ∧ j ≤ M.length ∧ Below wo.heap.size wo wr ∧ Own intE 3 wo.heap.size wr out ((M.drop j).reverse)) (fun _ i _ => ((intOf i) + 1).toNat)
            case atStart => exact ⟨M.length, by simp, by simp, hb0, by simpa using ho0⟩
            case round =>
              obtain ⟨j, rfl, hj, hb, ho⟩ := hrel
              clear ho0 hb0
              by_cases hj0 : 0 < j
              · obtain ⟨j', rfl⟩ : ∃ j', j = j' + 1 := ⟨j - 1, by omega⟩
                obtain ⟨b3, o3, hA3, -, hz⟩ := row_cells1 (HRM.out.below hb) (by omega)
                subst hA3
                have hz' := hz j' (by omega)
                have hlD : ((M.drop (j' + 1)).reverse).length ≤ 4194304 := by simp; omega
                have HB1 := hid hb
                have HO := hid ho
                clear hz hb ho
                go_wp2_with (at_builtin; refine wpList_push intE _ rfl (.tmp 91) (.tmp 96) _ rfl wo.heap.size 3 i0 _ 8 Try.underlying24 hi0 hz0 hz1 hz2 rfl (by omega) _ _ rfl HO.out _ M[j'] rfl rfl hlD HB1.out.size ?_)
                intro v' w' ho' hg' hat'
                rw [← drop_rev M j' (by omega)] at ho'
                have hb' := HB1.out.grown hg' HB1.out.size (fun k hk => (HO.out.lt k hk).1)
                have HO' := hid ho'
                have HB' := hid hb'
                clear ho' hb' hg' hat'
                go_wp2
                first
                  | exact ⟨⟨j', rfl, by omega, HB'.out, HO'.out⟩, by simp [intOf]⟩
                  | (refine ⟨?_, ?_⟩
                     · (repeat apply Exists.intro)
                       exact ⟨⟨j', rfl, by omega, HB'.out, HO'.out⟩, rfl⟩
                     · simp [intOf])
              · have e : j = 0 := by omega
                subst e
                have HO := hid ho
                have HB1 := hid hb
                clear ho hb
                go_wp2
                go_ret
                refine ⟨_, rfl, ?_, (HB2.out.trans (HB.out.mono HB2.out.size)).trans (HB1.out.mono (Nat.le_trans HB2.out.size HB.out.size))⟩
                rw [HIX.out]
                exact HO.out.base_le (Nat.le_trans HB2.out.size HB.out.size)
  · have hv' : vtB L = false := by simpa using hv
    clear hv hm1
    subst hvA
    go_enter Try.func29, Try.ntmps29
    go_wp2_with fail
    refine (validTurn_c _ L _ h).mono ?_
    rintro e w1 ⟨rfl, hd1⟩
    rw [hv']
    have HV := hid hv'
    clear hv'
    go_wp2
    go_ret
    refine ⟨_, rfl, ?_, hd1.below _⟩
    rw [riseOut_f HV.out]
    exact Own.nil_ _ _ _

end Go.Proofs.Ytcfhncckeedipaa
