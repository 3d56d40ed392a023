/-
  The law FnGoodBars, walked (written by a program of mine).
-/
import Derived.Test.YtkckaooimffdpaaBarL
namespace Go.Proofs.Ytkckaooimffdpaa
set_option linter.unusedSimpArgs false
set_option linter.unusedVariables false
open Go.RowKit

theorem wrap_of {x : Int} (h0 : 0 ≤ x) (h1 : x ≤ 300) : IntKind.i64.wrap x = x := IntWalk.i64_in _ (by omega)
theorem wrap64_of {x : Int} (h0 : 0 ≤ x) (h1 : x ≤ 300) : wrap64 x = x := by unfold wrap64; omega

set_option maxHeartbeats 12800000 in
set_option maxRecDepth 100000 in
theorem FnGoodBars_c (v : Value) (C : List Int) (w : World) (h : Row byteE w v C ∧ ∀ x ∈ C, 0 ≤ x ∧ x ≤ 255) : Calls Try.prog 4 #[v] w fun e w' => e = .returned (.bool true) ∧ Below w.heap.size w w' := by
  obtain ⟨h, hb⟩ := h
  obtain ⟨A, c, rfl, hc1, hm1⟩ := h.form
  unfold maxLen at hm1
  by_cases hle : 1048576 < C.length
  · have hd : decide ((1048576 : Int) < (C.length : Int)) = true := by simp; omega
    go_enter Try.func4, Try.ntmps4
    go_wp2
    go_ret
    exact ⟨rfl, Below.refl _ _⟩
  · have hd : decide ((1048576 : Int) < (C.length : Int)) = false := by simp; omega
    have HH := hid h
    have HB := hid hb
    clear h hb hle
    go_enter Try.func4, Try.ntmps4
    go_wp2_with fail
    refine (DrawGoodBars_c _ C _ HH.out HB.out).mono ?_
    rintro e w1 ⟨v1, v3, L, G, bar, rfl, hr1, hr3, hlen, hbd, hbar, hb⟩
    have HB1 := hid hb
    have HL_1 := hid hr1
    have HG_1 := hid hr3
    have HBD := hid hbd
    obtain ⟨hbar1, hbar2⟩ := hbar
    obtain ⟨A1, c1, rfl, hc2, hm2⟩ := hr1.form
    obtain ⟨A3, c3, rfl, hc3, hm3⟩ := hr3.form
    unfold maxLen at hm2 hm3
    clear hr1 hr3 hb hbd
    go_wp2_with fail
    refine (GoodBars_c _ _ L G bar _ HL_1.out HG_1.out).mono ?_
    rintro e w2 ⟨rfl, hb⟩
    have HL_2 := hid (HL_1.out.go hb)
    have HG_2 := hid (HG_1.out.go hb)
    have HB_2 := hid (HB1.out.trans (hb.mono HB1.out.size))
    clear hb
    go_wp2_with fail
    refine (sGoodBars_c _ _ L G bar _ HL_2.out HG_2.out).mono ?_
    rintro e w3 ⟨rfl, hb⟩
    have HL_3 := hid (HL_2.out.go hb)
    have HG_3 := hid (HG_2.out.go hb)
    have HB_3 := hid (HB_2.out.trans (hb.mono HB_2.out.size))
    clear hb
    cases hv : gbB L bar G with
    | false =>
      have HV := hid hv
      clear hv
      go_wp2_with fail
      refine (sGoodBars_c _ _ L G bar _ HL_3.out HG_3.out).mono ?_
      rintro e w4 ⟨rfl, hb⟩
      have HL_4 := hid (HL_3.out.go hb)
      have HG_4 := hid (HG_3.out.go hb)
      have HB_4 := hid (HB_3.out.trans (hb.mono HB_3.out.size))
      rw [HV.out]
      clear hb
      go_wp2
      go_ret
      exact ⟨rfl, HB_4.out⟩
    | true =>
      have hgb := gbB_iff.1 hv
      have HV := hid hgb
      have HO := hid (good_oth hgb)
      have hhi := hik_mxk G G.length
      have hlo := mxk_lo G G.length
      have hGL := hgb.2.1
      have hG14 : G.length ≤ 14 := by omega
      have hmx : mxk G G.length < (G.length : Int) := mxk_hi (by omega) _ (fun i hi => by rw [getD_at hi]; have h1 := (hgb.2.2.1 _ (List.getElem_mem hi)).2; omega)
      have hh0 : 0 ≤ hik G G.length ∧ hik G G.length ≤ 14 := by omega
      have HHI := hid hh0
      have HMEM := hid hgb.2.2.1
      have HL14 := hid hgb.2.1
      have HTOT := hid (fun h => good_total hgb h)
      clear hv hgb hhi hlo hGL hmx
      go_wp2_with fail
      refine (highest_c _ G _ HG_3.out).mono ?_
      rintro e w4 ⟨rfl, hw⟩
      obtain rfl := hw
      skip
      obtain ⟨H, hH⟩ : ∃ H, H = hik G G.length := ⟨_, rfl⟩
      have HHE := hid hH
      rw [← hH] at hh0 ⊢
      obtain ⟨hh1, hh2⟩ := hh0
      clear hH
      obtain ⟨i0, hi0, hz0, hz1, hz2⟩ := info_parts int_info
      have HO0 := hid (Own.lit0 intE w3 w3.heap.size 3 (Nat.le_refl _))
      have HA0 := hid ((Below.refl w3.heap.size w3).alloc (Nat.le_refl _) (.cells #[] 3))
      obtain ⟨wo, hwo⟩ : ∃ wo : World, wo = w3 := ⟨_, rfl⟩
      go_wp2
      go_loopw [8, 9] (fun o i wr => ∃ k : Nat, i = .int .i64 k ∧ k ≤ G.length ∧ Own intE 3 w3.heap.size wr o (oth H (G.take k)) ∧ Below w3.heap.size w3 wr) (fun _ i _ => G.length - (intOf i).toNat)
      case atStart => exact ⟨0, rfl, by omega, by rw [show oth H (G.take 0) = [] from rfl]; exact HO0.out, HA0.out⟩
      case round =>
        obtain ⟨k, rfl, hk, ho, hb⟩ := hrel
        have HOw := hid ho
        have HBr := hid hb
        have HLr := hid (HL_3.out.go hb)
        have HGr := hid (HG_3.out.go hb)
        have HBt := hid (HB_3.out.trans (hb.mono HB_3.out.size))
        clear ho hb
        by_cases hlt : k < G.length
        · obtain ⟨b3, o3, rfl, hb3, hx⟩ := row_cells1 HGr.out (by omega)
          have x0 := hx k hlt
          have hgk := HMEM.out _ (List.getElem_mem hlt)
          have HLN2 : Hid ((oth H (G.take k)).length ≤ 4194304) := by rw [Hid, oth_len, List.length_take]; omega
          have HL2 : Hid (oth H (G.take (k + 1)) = oth H (G.take k) ++ [H - G[k]]) := by rw [Hid, List.take_succ_eq_append_getElem hlt]; simp only [oth, List.map_append, List.map_cons, List.map_nil]
          have hl14 : (L.length : Int) ≤ 14 := by omega
          have hw1 : IntKind.i64.wrap (H - G[k]) = H - G[k] := IntWalk.i64_in _ (by omega)
          clear hx
          go_wp2_with (at_builtin; refine wpList_pushN intE _ rfl (.tmp 48) (.tmp 55) _ rfl w3.heap.size 3 i0 _ 8 Try.underlying23 hi0 hz0 hz1 hz2 rfl (by omega) _ _ rfl HOw.out _ (H - G[k]) _ rfl rfl (by simp) HLN2.out HBr.out.size (oth H (G.take (k + 1))) HL2.out ?_)
          intro v4 w4 ho4 hg4 hat4
          have HO4 := hid ho4
          have HB4 := hid (HBr.out.grown hg4 HBr.out.size (fun z hz => (HOw.out.lt z hz).1))
          clear ho4 hg4 hat4 hw1
          go_wp2
          exact ⟨⟨k + 1, by go_num, by omega, HO4.out, HB4.out⟩, by simp [intOf]; omega⟩
        · have e : k = G.length := by omega
          subst e
          rw [List.take_length] at HOw
          have HT_1 := hid HOw.out.rowB
          go_wp2_with fail
          refine (GoodBars_c _ _ L (oth H G) bar _ HLr.out HT_1.out).mono ?_
          rintro e w21 ⟨rfl, hb⟩
          have HL_21 := hid (HLr.out.go hb)
          have HG_21 := hid (HGr.out.go hb)
          have HT_21 := hid (HT_1.out.go hb)
          have HB_21 := hid (HBt.out.trans (hb.mono HBt.out.size))
          have HGO : Hid (gbB L bar (oth H G) = true) := gbB_iff.2 (by rw [HHE.out]; exact HO.out)
          rw [HGO.out]
          clear hb
          by_cases hg0 : G.length = 0
          · have d1 : ((G.length : Int) == 0) = true := by simp [hg0]
            clear hg0
            go_wp2
            go_ret
            exact ⟨rfl, HB_21.out⟩
          · have d1 : ((G.length : Int) == 0) = false := by rw [beq_eq_false_iff_ne]; omega
            have HTT : Hid (sumk L L.length ≤ (H + 1) * bar) := by rw [Hid, HHE.out]; exact HTOT.out (by omega)
            have hmul : 0 ≤ (H + 1) * bar ∧ (H + 1) * bar ≤ 300 := by
              have h1 : (H + 1) * bar ≤ 15 * 20 := Int.mul_le_mul (by omega) (by omega) (by omega) (by omega)
              have h2 : 0 ≤ (H + 1) * bar := Int.mul_nonneg (by omega) (by omega)
              exact ⟨h2, Int.le_trans h1 (by decide)⟩
            have hw2 : IntKind.i64.wrap ((H + 1) * bar) = (H + 1) * bar := wrap_of hmul.1 hmul.2
            have hw3 : wrap64 ((H + 1) * bar) = (H + 1) * bar := wrap64_of hmul.1 hmul.2
            clear hg0 hmul
            go_wp2_with fail
            refine (total_c _ L _ HL_21.out (by omega) (fun x hx => by have := HBD.out x hx; omega)).mono ?_
            rintro e w22 ⟨rfl, hw⟩
            obtain rfl := hw
            skip
            have HD : Hid (decide (sumk L L.length ≤ (H + 1) * bar) = true) := decide_eq_true HTT.out
            go_wp2
            go_ret
            exact ⟨ret_bool HD.out, HB_21.out⟩

end Go.Proofs.Ytkckaooimffdpaa
