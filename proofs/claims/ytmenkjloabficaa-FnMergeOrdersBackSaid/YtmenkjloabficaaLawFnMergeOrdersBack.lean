/-
  The law FnMergeOrdersBack, walked (written by a program of mine).
-/
import Derived.Test.YtmenkjloabficaaDrOrdB
import Derived.Test.YtmenkjloabficaaLack
import Derived.Test.YtmenkjloabficaaLawOrd
namespace Go.Proofs.Ytmenkjloabficaa
set_option linter.unusedSimpArgs false
set_option linter.unusedVariables false
open Go.RowKit
theorem back_ok {a b Z : List Ln} (ha : VO a) (hb : VO b) (hz : VO Z) (e : Z = mergeL a b) : lackOk Z (backG Z b) = true := lackOk_t hz (by rw [e]; exact (merge_back ha hb).2)
theorem back_out {a b Z : List Ln} (ha : VO a) (hb : VO b) (hz : VO Z) (e : Z = mergeL a b) : lackOut Z (backG Z b) = a := by rw [lackOut_t (back_ok ha hb hz e), e]; exact (merge_back ha hb).1
theorem cnt_hit {b : List Ln} (hv : VO b) {q : Nat} {p : Pn} (hq : q < b.length) (e : b[q].p = p) : cntIn (b.take (q + 1)) p = b[q].c := by
  rw [← e]
  refine cntIn_mem ?_ (List.mem_take_iff_getElem.2 ⟨q, by omega, rfl⟩)
  rw [List.map_take]
  exact hv.2.2.1.sublist (List.take_sublist _ _)
theorem cnt_miss {b : List Ln} (hv : VO b) {q : Nat} {p : Pn} (hq : q < b.length) (e : b[q].p ≠ p) : cntIn (b.take (q + 1)) p = cntIn (b.take q) p := by
  rw [List.take_succ_eq_append_getElem hq, cntIn_snoc (fun l hl e2 => hv.no_dup q hq (List.mem_map.2 ⟨l, hl, e2⟩)), if_neg e, Int.add_zero]
theorem backG_succ (Z b : List Ln) (j : Nat) (hj : j < Z.length) : (backG Z b).take (j + 1) = (backG Z b).take j ++ [cntIn b Z[j].p] := by
  rw [List.take_succ_eq_append_getElem (show j < (backG Z b).length by simp [backG]; exact hj)]
  simp [backG]

set_option maxHeartbeats 12800000 in
set_option maxRecDepth 100000 in
theorem FnMergeOrdersBack_c (v : Value) (L : List Int) (w : World) (h : Row byteE w v L ∧ ∀ x ∈ L, 0 ≤ x ∧ x ≤ 255) : Calls Try.prog 9 #[v] w fun e w' => e = .returned (.bool true) ∧ Below w.heap.size w w' := by
  obtain ⟨h, hb⟩ := h
  obtain ⟨A, c, rfl, hc1, hm1⟩ := h.form
  unfold maxLen at hm1
  by_cases hle : 1048576 < L.length
  · have hd : decide ((1048576 : Int) < (L.length : Int)) = true := by simp; omega
    go_enter Try.func9, Try.ntmps9
    go_wp2
    go_ret
    exact ⟨rfl, Below.refl _ _⟩
  · have hd : decide ((1048576 : Int) < (L.length : Int)) = false := by simp; omega
    have HH := hid h
    have HB := hid hb
    clear h hb hle
    go_enter Try.func9, Try.ntmps9
    go_wp2_with fail
    refine (DrawMergeOrders_c _ L _ HH.out HB.out).mono ?_
    rintro e w1 ⟨v1, v2, a, b, rfl, hr1, hr2, hla, hlb, hb⟩
    have HB1 := hid hb
    have HA_1 := hid hr1
    have HC_1 := hid hr2
    clear hr1 hr2 hb
    obtain ⟨Z, hZ⟩ : ∃ Z, Z = mergeOut a b := ⟨_, rfl⟩
    have HZ := hid hZ
    obtain ⟨ok, hok⟩ : ∃ c, c = mergeOk a b := ⟨_, rfl⟩
    have HOK := hid hok
    clear hZ hok
    go_wp2_with fail
    refine (MergeOrders_c _ _ a b _ HA_1.out HC_1.out).mono ?_
    rintro e w2 ⟨r1, rfl, hr, hb⟩
    have HA_2 := hid (HA_1.out.go hb)
    have HC_2 := hid (HC_1.out.go hb)
    have HB_2 := hid (HB1.out.trans (hb.mono HB1.out.size))
    have HE_2 := hid (hr.rowB)
    rw [← HOK.out]
    rw [← HZ.out] at HE_2
    clear hb hr
    go_wp2_with fail
    refine (sMergeOrders_c _ _ a b _ HA_2.out HC_2.out (by omega) (by omega)).mono ?_
    rintro e w3 ⟨r2, rfl, hr, hb⟩
    have HA_3 := hid (HA_2.out.go hb)
    have HC_3 := hid (HC_2.out.go hb)
    have HE_3 := hid (HE_2.out.go hb)
    have HB_3 := hid (HB_2.out.trans (hb.mono HB_2.out.size))
    have HS_3 := hid (hr.rowB)
    rw [← HOK.out]
    rw [← HZ.out] at HS_3
    clear hb hr
    go_wp2_with fail
    refine (equalOrder_same _ _ Z _ HE_3.out HS_3.out).mono ?_
    rintro e w4 ⟨rfl, hd⟩
    have HA_4 := hid (HA_3.out.drR hd)
    have HC_4 := hid (HC_3.out.drR hd)
    have HE_4 := hid (HE_3.out.drR hd)
    have HS_4 := hid (HS_3.out.drR hd)
    have HB_4 := hid (HB_3.out.trans (hd.below _))
    clear hd
    cases ok with
    | false =>
      go_wp2_with fail
      refine (equalOrder_same _ _ Z _ HE_4.out HS_4.out).mono ?_
      rintro e w5 ⟨rfl, hd⟩
      have HA_5 := hid (HA_4.out.drR hd)
      have HC_5 := hid (HC_4.out.drR hd)
      have HE_5 := hid (HE_4.out.drR hd)
      have HS_5 := hid (HS_4.out.drR hd)
      have HB_5 := hid (HB_4.out.trans (hd.below _))
      clear hd
      go_wp2
      go_ret
      exact ⟨rfl, HB_5.out⟩
    | true =>
      obtain ⟨hva, hvb, hvm⟩ := mergeOk_iff.1 HOK.out.symm
      have HZM := hid (show Z = mergeL a b by rw [HZ.out, mergeOut_t HOK.out.symm])
      have HVA := hid hva
      have HVB := hid hvb
      have HVZ := hid (show VO Z by rw [HZM.out]; exact hvm)
      clear hva hvb hvm
      obtain ⟨i0, hi0, hz0, hz1, hz2⟩ := info_parts int_info
      obtain ⟨A1, k1, rfl, hk1, hm1'⟩ := HE_4.out.form
      obtain ⟨A2, k2, rfl, hk2, hm2⟩ := HC_4.out.form
      unfold maxLen at hm1' hm2
      have hz8 := HVZ.out.1
      have HS0 := hid (Own.lit0 intE w4 w4.heap.size 3 (Nat.le_refl _))
      have HBl0 := hid ((Below.refl w4.heap.size w4).alloc (Nat.le_refl _) (.cells #[] 3))
      obtain ⟨wp, hwp⟩ : ∃ wp : World, wp = w4 := ⟨_, rfl⟩
      have HBK := hid (show (backG Z b).length = Z.length by simp [backG])
      go_wp2
      go_loopw [9, 10] (fun o i wr => ∃ j : Nat, i = .int .i64 j ∧ j ≤ Z.length ∧ Own intE 3 w4.heap.size wr o ((backG Z b).take j) ∧ Below w4.heap.size w4 wr) (fun _ i _ => Z.length - (intOf i).toNat)
      case atStart => exact ⟨0, rfl, by omega, by simpa using HS0.out, HBl0.out⟩
      case round =>
        obtain ⟨wo, rfl⟩ : ∃ wo : World, wo = wr := ⟨_, rfl⟩
        obtain ⟨j, rfl, hj, ho, hb⟩ := hrel
        have HO := hid ho
        have HBo := hid hb
        have HEo := hid (HE_4.out.go hb)
        have HCo := hid (HC_4.out.go hb)
        have HAo := hid (HA_4.out.go hb)
        have hszo := hb.size
        clear ho hb HS0 HBl0
        by_cases hjl : j < Z.length
        · have HSU := hid (backG_succ Z b j hjl)
          go_wp2
          go_loopw [11, 12] (fun n i wi => ∃ q : Nat, n = .int .i64 (cntIn (b.take q) Z[j].p) ∧ i = .int .i64 q ∧ q ≤ b.length ∧ Dr wo wi) (fun _ i _ => b.length - (intOf i).toNat)
          case atStart => exact ⟨0, by simp [cntIn], rfl, by omega, Dr.refl _⟩
          case round =>
            obtain ⟨q, rfl, rfl, hq, hd⟩ := hrel
            have HD := hid hd
            by_cases hql : q < b.length
            · obtain ⟨b1, o1, rfl, hb1, hx⟩ := row_lines (HEo.out.drR hd) (by omega)
              obtain ⟨x0, x1, x2, x3, x4⟩ := hx j hjl
              obtain ⟨b2, o2, rfl, hb2, hy⟩ := row_lines (HCo.out.drR hd) (by omega)
              obtain ⟨y0, y1, y2, y3, y4⟩ := hy q hql
              clear hx hy hd
              by_cases he : b[q].p = Z[j].p
              · obtain ⟨g1, g2, g3, g4⟩ := pane_eq he
                simp only [Ln.p] at g1 g2 g3 g4
                have HE := hid (cnt_hit HVB.out hql he)
                clear he
                go_wp2
                go_quiet (fail)
                obtain ⟨W2, hW2⟩ : ∃ Z : World, Z = wr.drewN nq := ⟨_, rfl⟩
                have y5 : W2.cell? ⟨b2, o2 + q * 5 + 4, none⟩ = some (.int .i64 b[q].c) := by rw [hW2]; exact y4
                have HD2 := hid (show Dr wo W2 by rw [hW2]; exact HD.out.step _)
                rw [← hW2]
                clear hW2 y0 y1 y2 y3 y4 x0 x1 x2 x3 x4
                go_wp2
                exact ⟨⟨q + 1, by rw [HE.out], by go_num, by omega, HD2.out⟩, by simp [intOf]; omega⟩
              · have hcase := pane_ne he
                simp only [Ln.p] at hcase
                have HE := hid (cnt_miss HVB.out hql he)
                clear he
                rcases hcase with g1 | ⟨g1, g2⟩ | ⟨g1, g2, g3⟩ | ⟨g1, g2, g3, g4⟩
                all_goals
                  go_wp2
                  go_quiet (fail)
                  go_wp2
                  exact ⟨⟨q + 1, by rw [HE.out], by go_num, by omega, HD.out.step _⟩, by simp [intOf]; omega⟩
            · have e : b.take q = b := List.take_of_length_le (by omega)
              rw [e]
              obtain ⟨n, hn⟩ : ∃ n, n = cntIn b Z[j].p := ⟨_, rfl⟩
              rw [← hn]
              have HO2 := hid (HO.out.dr hd)
              have HB2 := hid (HBo.out.trans (hd.below _))
              have hsz2 := HB2.out.size
              obtain ⟨G2, hG2⟩ : ∃ M : List Int, M = (backG Z b).take j ++ [n] := ⟨_, rfl⟩
              have HG2 := hid hG2
              have HG3 := hid (show G2 = (backG Z b).take (j + 1) by rw [hG2, HSU.out, hn])
              have HLn : Hid (((backG Z b).take j).length ≤ 4194304) := by rw [Hid]; have := List.length_take_le j (backG Z b); omega
              clear hn hG2 e hd
              go_wp2_with (at_builtin; refine wpList_pushN intE _ rfl (.tmp 85) (.tmp 87) _ rfl w4.heap.size 3 i0 _ 8 Try.underlying41 hi0 hz0 hz1 hz2 rfl (by omega) _ _ rfl HO2.out _ n _ rfl rfl (by simp) HLn.out hsz2 G2 HG2.out ?_)
              intro v6 w6 ho6 hg6 hat6
              have HO6 := hid (show Own intE 3 w4.heap.size w6 v6 ((backG Z b).take (j + 1)) by rw [← HG3.out]; exact ho6)
              have HB6 := hid (HB2.out.grown hg6 hsz2 (fun q hq => (HO2.out.lt q hq).1))
              clear ho6 hg6 hat6
              go_wp2
              exact ⟨⟨j + 1, by go_num, by omega, HO6.out, HB6.out⟩, by simp [intOf]; omega⟩
        · have HOr := hid (show RowB intE wo.heap.size wo _ (backG Z b) by have := HO.out.rowB; rw [List.take_of_length_le (by have := HBK.out; omega)] at this; exact this)
          have HBz := hid (HB_4.out.trans (HBo.out.mono HB_4.out.size))
          clear HO
          go_wp2_with fail
          refine (LackOf_c _ _ Z (backG Z b) _ HEo.out HOr.out).mono ?_
          rintro e w9 ⟨r3, rfl, hr, hb⟩
          rw [back_ok HVA.out HVB.out HVZ.out HZM.out]
          rw [back_out HVA.out HVB.out HVZ.out HZM.out] at hr
          have HN9 := hid hr.rowB
          have HA9 := hid (HAo.out.go hb)
          have HB9 := hid (HBz.out.trans (hb.mono HBz.out.size))
          clear hr hb
          go_wp2_with fail
          refine (equalOrder_same _ _ a _ HN9.out HA9.out).mono ?_
          rintro e w10 ⟨rfl, hd⟩
          have HB10 := hid (HB9.out.trans (hd.below _))
          clear hd
          go_wp2
          go_ret
          exact ⟨rfl, HB10.out⟩

end Go.Proofs.Ytmenkjloabficaa
