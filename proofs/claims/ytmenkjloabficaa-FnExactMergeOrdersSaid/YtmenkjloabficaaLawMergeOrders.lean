/-
  The law FnExactMergeOrders, walked (written by a program of mine).
-/
import Derived.Test.YtmenkjloabficaaMerge
import Derived.Deep.RegionHeld3
namespace Go.Proofs.Ytmenkjloabficaa
set_option linter.unusedSimpArgs false
set_option linter.unusedVariables false
open Go.RowKit

set_option maxHeartbeats 4000000 in
set_option maxRecDepth 100000 in
theorem FnExactMergeOrders_c (v0 : Value) (L0 : List Ln) (v1 : Value) (L1 : List Ln) (w : World) (h0 : Row lineE w v0 L0) (h1 : Row lineE w v1 L1) :
    Calls Try.prog 7 #[v0, v1] w fun e w' => e = .returned (.bool true) ∧ Below w.heap.size w w' := by
  by_cases hL0 : L0.length + (0) ≤ 1048576
  · have hLn0 : L0.length ≤ 1048576 := by omega
    by_cases hL1 : L1.length + (0 + L0.length) ≤ 1048576
    · have hLn1 : L1.length ≤ 1048576 := by omega
      have hO := mergeOut_len L0 L1
      go_enter Try.func7, Try.ntmps7
      have HB0 := hid (Below.refl _ _ : Below w.heap.size w w)
      go_wp2_with fail
      refine (szLineS_t _ L0 (1048576) _ (h0.go HB0.out) (by omega) (by omega) (by omega)).mono ?_
      rintro e w1 ⟨rfl, hd⟩
      have HB1 := hid (HB0.out.trans (hd.below _))
      clear hd
      go_wp2_with fail
      refine (szLineS_t _ L1 (1048576 - (L0.length : Int)) _ (h1.go HB1.out) (by omega) (by omega) (by omega)).mono ?_
      rintro e w2 ⟨rfl, hd⟩
      have HB2 := hid (HB1.out.trans (hd.below _))
      clear hd
      go_wp2_with fail
      refine (toLineS_c _ L0 _ (h0.go HB2.out) (by omega)).mono ?_
      rintro e w3 ⟨vs0, rfl, ho, hb⟩
      have Hs0_3 := hid ho
      have HB3 := hid (HB2.out.trans (hb.mono HB2.out.size))
      clear hb ho
      go_wp2_with fail
      refine (toLineS_c _ L1 _ (h1.go HB3.out) (by omega)).mono ?_
      rintro e w4 ⟨vs1, rfl, ho, hb⟩
      have HN_s0_s1 := hid (own_ne Hs0_3.out ho (Nat.le_refl _))
      have HN_s1_s0 := hid (own_ne' Hs0_3.out ho (Nat.le_refl _))
      have Hs0_4 := hid (Hs0_3.out.below hb)
      have Hs1_4 := hid ho
      have HB4 := hid (HB3.out.trans (hb.mono HB3.out.size))
      clear hb ho
      go_wp2_with fail
      refine (sMergeOrders_c _ _ L0 L1 _ Hs0_4.out.rowB Hs1_4.out.rowB (by omega) (by omega)).mono ?_
      rintro e w5 ⟨vw, rfl, ho, hb⟩
      have HN_s0_w := hid (own_ne Hs0_4.out ho (Nat.le_refl _))
      have HN_w_s0 := hid (own_ne' Hs0_4.out ho (Nat.le_refl _))
      have HN_s1_w := hid (own_ne Hs1_4.out ho (Nat.le_refl _))
      have HN_w_s1 := hid (own_ne' Hs1_4.out ho (Nat.le_refl _))
      have Hs0_5 := hid (Hs0_4.out.below hb)
      have Hs1_5 := hid (Hs1_4.out.below hb)
      have Hw_5 := hid ho
      have HB5 := hid (HB4.out.trans (hb.mono HB4.out.size))
      clear hb ho
      go_wp2_with fail
      refine (toLineS_c _ L0 _ (h0.go HB5.out) (by omega)).mono ?_
      rintro e w6 ⟨vx0, rfl, ho, hb⟩
      have HN_w_x0 := hid (own_ne Hw_5.out ho (Nat.le_refl _))
      have HN_x0_w := hid (own_ne' Hw_5.out ho (Nat.le_refl _))
      have Hw_6 := hid (Hw_5.out.below hb)
      have Hx0_6 := hid ho
      have HB6 := hid (HB5.out.trans (hb.mono HB5.out.size))
      clear hb ho
      go_wp2_with fail
      refine (toLineS_c _ L1 _ (h1.go HB6.out) (by omega)).mono ?_
      rintro e w7 ⟨vx1, rfl, ho, hb⟩
      have HN_w_x1 := hid (own_ne Hw_6.out ho (Nat.le_refl _))
      have HN_x1_w := hid (own_ne' Hw_6.out ho (Nat.le_refl _))
      have HN_x0_x1 := hid (own_ne Hx0_6.out ho (Nat.le_refl _))
      have HN_x1_x0 := hid (own_ne' Hx0_6.out ho (Nat.le_refl _))
      have Hw_7 := hid (Hw_6.out.below hb)
      have Hx0_7 := hid (Hx0_6.out.below hb)
      have Hx1_7 := hid ho
      have HB7 := hid (HB6.out.trans (hb.mono HB6.out.size))
      clear hb ho
      go_wp2_with fail
      refine (MergeOrders_c _ _ L0 L1 _ Hx0_7.out.rowB Hx1_7.out.rowB).mono ?_
      rintro e w8 ⟨vg, rfl, ho, hb⟩
      have HN_w_g := hid (own_ne Hw_7.out ho (Nat.le_refl _))
      have HN_g_w := hid (own_ne' Hw_7.out ho (Nat.le_refl _))
      have HN_x0_g := hid (own_ne Hx0_7.out ho (Nat.le_refl _))
      have HN_g_x0 := hid (own_ne' Hx0_7.out ho (Nat.le_refl _))
      have HN_x1_g := hid (own_ne Hx1_7.out ho (Nat.le_refl _))
      have HN_g_x1 := hid (own_ne' Hx1_7.out ho (Nat.le_refl _))
      have Hw_8 := hid (Hw_7.out.below hb)
      have Hx0_8 := hid (Hx0_7.out.below hb)
      have Hx1_8 := hid (Hx1_7.out.below hb)
      have Hg_8 := hid ho
      have HB8 := hid (HB7.out.trans (hb.mono HB7.out.size))
      clear hb ho
      go_wp2_with fail
      refine (eqLineS_c _ _ _ _ _ Hg_8.out.rowB Hw_8.out.rowB).mono ?_
      rintro e w9 ⟨rfl, hb⟩
      have Hw_9 := hid (Hw_8.out.below hb)
      have Hx0_9 := hid (Hx0_8.out.below hb)
      have Hx1_9 := hid (Hx1_8.out.below hb)
      have Hg_9 := hid (Hg_8.out.below hb)
      have HB9 := hid (HB8.out.trans (hb.mono HB8.out.size))
      clear hb
      simp only [decide_true]
      go_wp2_with fail
      refine (toLineS_c _ L0 _ (h0.go HB9.out) (by omega)).mono ?_
      rintro e w10 ⟨vt0, rfl, ho, hb⟩
      have HN_w_t0 := hid (own_ne Hw_9.out ho (Nat.le_refl _))
      have HN_t0_w := hid (own_ne' Hw_9.out ho (Nat.le_refl _))
      have HN_x0_t0 := hid (own_ne Hx0_9.out ho (Nat.le_refl _))
      have HN_t0_x0 := hid (own_ne' Hx0_9.out ho (Nat.le_refl _))
      have HN_x1_t0 := hid (own_ne Hx1_9.out ho (Nat.le_refl _))
      have HN_t0_x1 := hid (own_ne' Hx1_9.out ho (Nat.le_refl _))
      have HN_g_t0 := hid (own_ne Hg_9.out ho (Nat.le_refl _))
      have HN_t0_g := hid (own_ne' Hg_9.out ho (Nat.le_refl _))
      have Hw_10 := hid (Hw_9.out.below hb)
      have Hx0_10 := hid (Hx0_9.out.below hb)
      have Hx1_10 := hid (Hx1_9.out.below hb)
      have Hg_10 := hid (Hg_9.out.below hb)
      have Ht0_10 := hid ho
      have HB10 := hid (HB9.out.trans (hb.mono HB9.out.size))
      clear hb ho
      go_wp2_with fail
      refine (eqLineS_c _ _ _ _ _ Hx0_10.out.rowB Ht0_10.out.rowB).mono ?_
      rintro e w11 ⟨rfl, hb⟩
      have Hw_11 := hid (Hw_10.out.below hb)
      have Hx0_11 := hid (Hx0_10.out.below hb)
      have Hx1_11 := hid (Hx1_10.out.below hb)
      have Hg_11 := hid (Hg_10.out.below hb)
      have Ht0_11 := hid (Ht0_10.out.below hb)
      have HB11 := hid (HB10.out.trans (hb.mono HB10.out.size))
      clear hb
      simp only [decide_true]
      go_wp2_with fail
      refine (toLineS_c _ L1 _ (h1.go HB11.out) (by omega)).mono ?_
      rintro e w12 ⟨vt1, rfl, ho, hb⟩
      have HN_w_t1 := hid (own_ne Hw_11.out ho (Nat.le_refl _))
      have HN_t1_w := hid (own_ne' Hw_11.out ho (Nat.le_refl _))
      have HN_x0_t1 := hid (own_ne Hx0_11.out ho (Nat.le_refl _))
      have HN_t1_x0 := hid (own_ne' Hx0_11.out ho (Nat.le_refl _))
      have HN_x1_t1 := hid (own_ne Hx1_11.out ho (Nat.le_refl _))
      have HN_t1_x1 := hid (own_ne' Hx1_11.out ho (Nat.le_refl _))
      have HN_g_t1 := hid (own_ne Hg_11.out ho (Nat.le_refl _))
      have HN_t1_g := hid (own_ne' Hg_11.out ho (Nat.le_refl _))
      have Hw_12 := hid (Hw_11.out.below hb)
      have Hx0_12 := hid (Hx0_11.out.below hb)
      have Hx1_12 := hid (Hx1_11.out.below hb)
      have Hg_12 := hid (Hg_11.out.below hb)
      have Ht1_12 := hid ho
      have HB12 := hid (HB11.out.trans (hb.mono HB11.out.size))
      clear hb ho
      go_wp2_with fail
      refine (eqLineS_c _ _ _ _ _ Hx1_12.out.rowB Ht1_12.out.rowB).mono ?_
      rintro e w13 ⟨rfl, hb⟩
      have Hw_13 := hid (Hw_12.out.below hb)
      have Hx0_13 := hid (Hx0_12.out.below hb)
      have Hx1_13 := hid (Hx1_12.out.below hb)
      have Hg_13 := hid (Hg_12.out.below hb)
      have Ht1_13 := hid (Ht1_12.out.below hb)
      have HB13 := hid (HB12.out.trans (hb.mono HB12.out.size))
      clear hb
      simp only [decide_true]
      go_wp2_with fail
      refine (markLineS_c _ L0 _ 1 _ Hx0_13.out (by omega) (by omega) (by omega)).mono ?_
      rintro e w14 ⟨rfl, ho, hg⟩
      have Hw_14 := hid (Hw_13.out.kept hg HN_w_x0.out)
      have Hx1_14 := hid (Hx1_13.out.kept hg HN_x1_x0.out)
      have Hg_14 := hid (Hg_13.out.kept hg HN_g_x0.out)
      have Hx0_14 := hid ho
      have HB14 := hid (HB13.out.grown hg HB13.out.size (fun k hk => Nat.le_trans HB5.out.size (Hx0_13.out.lt k hk).1))
      clear hg ho
      go_wp2_with fail
      refine (markLineS_c _ L1 _ (1 + 5 * (L0.length : Int)) _ Hx1_14.out (by omega) (by omega) (by omega)).mono ?_
      rintro e w15 ⟨rfl, ho, hg⟩
      have Hw_15 := hid (Hw_14.out.kept hg HN_w_x1.out)
      have Hx0_15 := hid (Hx0_14.out.kept hg HN_x0_x1.out)
      have Hg_15 := hid (Hg_14.out.kept hg HN_g_x1.out)
      have Hx1_15 := hid ho
      have HB15 := hid (HB14.out.grown hg HB14.out.size (fun k hk => Nat.le_trans HB6.out.size (Hx1_14.out.lt k hk).1))
      clear hg ho
      go_wp2_with fail
      refine (eqLineS_c _ _ _ _ _ Hg_15.out.rowB Hw_15.out.rowB).mono ?_
      rintro e w16 ⟨rfl, hb⟩
      have Hw_16 := hid (Hw_15.out.below hb)
      have Hx0_16 := hid (Hx0_15.out.below hb)
      have Hx1_16 := hid (Hx1_15.out.below hb)
      have Hg_16 := hid (Hg_15.out.below hb)
      have HB16 := hid (HB15.out.trans (hb.mono HB15.out.size))
      clear hb
      simp only [decide_true]
      go_wp2_with fail
      refine (markLineS_c _ (mergeOut L0 L1) _ 1 _ Hg_16.out (by omega) (by omega) (by omega)).mono ?_
      rintro e w17 ⟨rfl, ho, hg⟩
      have Hw_17 := hid (Hw_16.out.kept hg HN_w_g.out)
      have Hg_17 := hid ho
      have HB17 := hid (HB16.out.grown hg HB16.out.size (fun k hk => Nat.le_trans HB7.out.size (Hg_16.out.lt k hk).1))
      clear hg ho
      go_wp2_with fail
      refine (heldLineS_c _ 1 (mergeOut L0 L1).length _ Hg_17.out.rowB (by omega) (by omega) (by omega)).mono ?_
      rintro e w18 ⟨rfl, hd⟩
      have Hw_18 := hid (Hw_17.out.dr hd)
      have Hg_18 := hid (Hg_17.out.dr hd)
      have HB18 := hid (HB17.out.trans (hd.below _))
      clear hd
      go_wp2_with fail
      refine (toLineS_c _ L0 _ (h0.go HB18.out) (by omega)).mono ?_
      rintro e w19 ⟨vy0, rfl, ho, hb⟩
      have HN_w_y0 := hid (own_ne Hw_18.out ho (Nat.le_refl _))
      have HN_y0_w := hid (own_ne' Hw_18.out ho (Nat.le_refl _))
      have HN_g_y0 := hid (own_ne Hg_18.out ho (Nat.le_refl _))
      have HN_y0_g := hid (own_ne' Hg_18.out ho (Nat.le_refl _))
      have Hw_19 := hid (Hw_18.out.below hb)
      have Hg_19 := hid (Hg_18.out.below hb)
      have Hy0_19 := hid ho
      have HB19 := hid (HB18.out.trans (hb.mono HB18.out.size))
      clear hb ho
      go_wp2_with fail
      refine (toLineS_c _ L1 _ (h1.go HB19.out) (by omega)).mono ?_
      rintro e w20 ⟨vy1, rfl, ho, hb⟩
      have HN_w_y1 := hid (own_ne Hw_19.out ho (Nat.le_refl _))
      have HN_y1_w := hid (own_ne' Hw_19.out ho (Nat.le_refl _))
      have HN_g_y1 := hid (own_ne Hg_19.out ho (Nat.le_refl _))
      have HN_y1_g := hid (own_ne' Hg_19.out ho (Nat.le_refl _))
      have HN_y0_y1 := hid (own_ne Hy0_19.out ho (Nat.le_refl _))
      have HN_y1_y0 := hid (own_ne' Hy0_19.out ho (Nat.le_refl _))
      have Hw_20 := hid (Hw_19.out.below hb)
      have Hg_20 := hid (Hg_19.out.below hb)
      have Hy0_20 := hid (Hy0_19.out.below hb)
      have Hy1_20 := hid ho
      have HB20 := hid (HB19.out.trans (hb.mono HB19.out.size))
      clear hb ho
      go_wp2_with fail
      refine (MergeOrders_c _ _ L0 L1 _ Hy0_20.out.rowB Hy1_20.out.rowB).mono ?_
      rintro e w21 ⟨vh, rfl, ho, hb⟩
      have HN_w_h := hid (own_ne Hw_20.out ho (Nat.le_refl _))
      have HN_h_w := hid (own_ne' Hw_20.out ho (Nat.le_refl _))
      have HN_g_h := hid (own_ne Hg_20.out ho (Nat.le_refl _))
      have HN_h_g := hid (own_ne' Hg_20.out ho (Nat.le_refl _))
      have HN_y0_h := hid (own_ne Hy0_20.out ho (Nat.le_refl _))
      have HN_h_y0 := hid (own_ne' Hy0_20.out ho (Nat.le_refl _))
      have HN_y1_h := hid (own_ne Hy1_20.out ho (Nat.le_refl _))
      have HN_h_y1 := hid (own_ne' Hy1_20.out ho (Nat.le_refl _))
      have Hw_21 := hid (Hw_20.out.below hb)
      have Hg_21 := hid (Hg_20.out.below hb)
      have Hy0_21 := hid (Hy0_20.out.below hb)
      have Hy1_21 := hid (Hy1_20.out.below hb)
      have Hh_21 := hid ho
      have HB21 := hid (HB20.out.trans (hb.mono HB20.out.size))
      clear hb ho
      go_wp2_with fail
      refine (eqLineS_c _ _ _ _ _ Hh_21.out.rowB Hw_21.out.rowB).mono ?_
      rintro e w22 ⟨rfl, hb⟩
      have Hw_22 := hid (Hw_21.out.below hb)
      have Hg_22 := hid (Hg_21.out.below hb)
      have Hh_22 := hid (Hh_21.out.below hb)
      have HB22 := hid (HB21.out.trans (hb.mono HB21.out.size))
      clear hb
      simp only [decide_true]
      go_wp2_with fail
      refine (heldLineS_c _ 1 (mergeOut L0 L1).length _ Hg_22.out.rowB (by omega) (by omega) (by omega)).mono ?_
      rintro e w23 ⟨rfl, hd⟩
      have Hw_23 := hid (Hw_22.out.dr hd)
      have Hg_23 := hid (Hg_22.out.dr hd)
      have Hh_23 := hid (Hh_22.out.dr hd)
      have HB23 := hid (HB22.out.trans (hd.below _))
      clear hd
      go_wp2
      go_ret
      exact ⟨rfl, HB23.out⟩
    · have hF1 : 1048576 < L1.length + (0 + L0.length) := by omega
      go_enter Try.func7, Try.ntmps7
      have HB0 := hid (Below.refl _ _ : Below w.heap.size w w)
      go_wp2_with fail
      refine (szLineS_t _ L0 (1048576) _ (h0.go HB0.out) (by omega) (by omega) (by omega)).mono ?_
      rintro e w1 ⟨rfl, hd⟩
      have HB1 := hid (HB0.out.trans (hd.below _))
      clear hd
      go_wp2_with fail
      refine (szLineS_f _ L1 (1048576 - (L0.length : Int)) _ (h1.go HB1.out) (by omega) (by omega) (by omega)).mono ?_
      rintro e w2 ⟨rfl, hd⟩
      have HB2 := hid (HB1.out.trans (hd.below _))
      clear hd
      go_wp2
      go_ret
      exact ⟨rfl, HB2.out⟩
  · have hF0 : 1048576 < L0.length + (0) := by omega
    go_enter Try.func7, Try.ntmps7
    have HB0 := hid (Below.refl _ _ : Below w.heap.size w w)
    go_wp2_with fail
    refine (szLineS_f _ L0 (1048576) _ (h0.go HB0.out) (by omega) (by omega) (by omega)).mono ?_
    rintro e w1 ⟨rfl, hd⟩
    have HB1 := hid (HB0.out.trans (hd.below _))
    clear hd
    go_wp2
    go_ret
    exact ⟨rfl, HB1.out⟩

end Go.Proofs.Ytmenkjloabficaa
