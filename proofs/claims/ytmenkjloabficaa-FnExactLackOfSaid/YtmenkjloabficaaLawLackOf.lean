/-
  The law FnExactLackOf, walked (written by a program of mine).
-/
import Derived.Test.YtmenkjloabficaaLack
import Derived.Deep.RegionHeld3
namespace Go.Proofs.Ytmenkjloabficaa
set_option linter.unusedSimpArgs false
set_option linter.unusedVariables false
open Go.RowKit

set_option maxHeartbeats 4000000 in
set_option maxRecDepth 100000 in
theorem FnExactLackOf_c (v0 : Value) (L0 : List Ln) (v1 : Value) (L1 : List Int) (w : World) (h0 : Row lineE w v0 L0) (h1 : Row intE w v1 L1) :
    Calls Try.prog 5 #[v0, v1] w fun e w' => e = .returned (.bool true) ∧ Below w.heap.size w w' := by
  obtain ⟨A1, c1, rfl, hc1, hm1⟩ := h1.form
  unfold maxLen at hm1
  by_cases hL1 : L1.length ≤ 1048576
  · have hLn1 : L1.length ≤ 1048576 := by omega
    by_cases hL0 : L0.length + (0) ≤ 1048576
    · have hLn0 : L0.length ≤ 1048576 := by omega
      have hO := lackOut_len L0 L1
      go_enter Try.func5, Try.ntmps5
      have HB0 := hid (Below.refl _ _ : Below w.heap.size w w)
      go_wp2_with fail
      refine (szLineS_t _ L0 (1048576) _ (h0.go HB0.out) (by omega) (by omega) (by omega)).mono ?_
      rintro e w1 ⟨rfl, hd⟩
      have HB1 := hid (HB0.out.trans (hd.below _))
      clear hd
      go_wp2_with fail
      refine (toLineS_c _ L0 _ (h0.go HB1.out) (by omega)).mono ?_
      rintro e w2 ⟨vs0, rfl, ho, hb⟩
      have Hs0_2 := hid ho
      have HB2 := hid (HB1.out.trans (hb.mono HB1.out.size))
      clear hb ho
      go_wp2_with fail
      refine (toIntS_c _ L1 _ (h1.go HB2.out) (by omega)).mono ?_
      rintro e w3 ⟨vs1, rfl, ho, hb⟩
      have HN_s0_s1 := hid (own_ne Hs0_2.out ho (Nat.le_refl _))
      have HN_s1_s0 := hid (own_ne' Hs0_2.out ho (Nat.le_refl _))
      have Hs0_3 := hid (Hs0_2.out.below hb)
      have Hs1_3 := hid ho
      have HB3 := hid (HB2.out.trans (hb.mono HB2.out.size))
      clear hb ho
      go_wp2_with fail
      refine (sLackOf_c _ _ L0 L1 _ Hs0_3.out.rowB Hs1_3.out.rowB (by omega)).mono ?_
      rintro e w4 ⟨vw, rfl, ho, hb⟩
      have HN_s0_w := hid (own_ne Hs0_3.out ho (Nat.le_refl _))
      have HN_w_s0 := hid (own_ne' Hs0_3.out ho (Nat.le_refl _))
      have HN_s1_w := hid (own_ne Hs1_3.out ho (Nat.le_refl _))
      have HN_w_s1 := hid (own_ne' Hs1_3.out ho (Nat.le_refl _))
      have Hs0_4 := hid (Hs0_3.out.below hb)
      have Hs1_4 := hid (Hs1_3.out.below hb)
      have Hw_4 := hid ho
      have HB4 := hid (HB3.out.trans (hb.mono HB3.out.size))
      clear hb ho
      go_wp2_with fail
      refine (toLineS_c _ L0 _ (h0.go HB4.out) (by omega)).mono ?_
      rintro e w5 ⟨vx0, rfl, ho, hb⟩
      have HN_w_x0 := hid (own_ne Hw_4.out ho (Nat.le_refl _))
      have HN_x0_w := hid (own_ne' Hw_4.out ho (Nat.le_refl _))
      have Hw_5 := hid (Hw_4.out.below hb)
      have Hx0_5 := hid ho
      have HB5 := hid (HB4.out.trans (hb.mono HB4.out.size))
      clear hb ho
      go_wp2_with fail
      refine (toIntS_c _ L1 _ (h1.go HB5.out) (by omega)).mono ?_
      rintro e w6 ⟨vx1, rfl, ho, hb⟩
      have HN_w_x1 := hid (own_ne Hw_5.out ho (Nat.le_refl _))
      have HN_x1_w := hid (own_ne' Hw_5.out ho (Nat.le_refl _))
      have HN_x0_x1 := hid (own_ne Hx0_5.out ho (Nat.le_refl _))
      have HN_x1_x0 := hid (own_ne' Hx0_5.out ho (Nat.le_refl _))
      have Hw_6 := hid (Hw_5.out.below hb)
      have Hx0_6 := hid (Hx0_5.out.below hb)
      have Hx1_6 := hid ho
      have HB6 := hid (HB5.out.trans (hb.mono HB5.out.size))
      clear hb ho
      go_wp2_with fail
      refine (LackOf_c _ _ L0 L1 _ Hx0_6.out.rowB Hx1_6.out.rowB).mono ?_
      rintro e w7 ⟨vg, rfl, ho, hb⟩
      have HN_w_g := hid (own_ne Hw_6.out ho (Nat.le_refl _))
      have HN_g_w := hid (own_ne' Hw_6.out ho (Nat.le_refl _))
      have HN_x0_g := hid (own_ne Hx0_6.out ho (Nat.le_refl _))
      have HN_g_x0 := hid (own_ne' Hx0_6.out ho (Nat.le_refl _))
      have HN_x1_g := hid (own_ne Hx1_6.out ho (Nat.le_refl _))
      have HN_g_x1 := hid (own_ne' Hx1_6.out ho (Nat.le_refl _))
      have Hw_7 := hid (Hw_6.out.below hb)
      have Hx0_7 := hid (Hx0_6.out.below hb)
      have Hx1_7 := hid (Hx1_6.out.below hb)
      have Hg_7 := hid ho
      have HB7 := hid (HB6.out.trans (hb.mono HB6.out.size))
      clear hb ho
      go_wp2_with fail
      refine (eqLineS_c _ _ _ _ _ Hg_7.out.rowB Hw_7.out.rowB).mono ?_
      rintro e w8 ⟨rfl, hb⟩
      have Hw_8 := hid (Hw_7.out.below hb)
      have Hx0_8 := hid (Hx0_7.out.below hb)
      have Hx1_8 := hid (Hx1_7.out.below hb)
      have Hg_8 := hid (Hg_7.out.below hb)
      have HB8 := hid (HB7.out.trans (hb.mono HB7.out.size))
      clear hb
      simp only [decide_true]
      go_wp2_with fail
      refine (toLineS_c _ L0 _ (h0.go HB8.out) (by omega)).mono ?_
      rintro e w9 ⟨vt0, rfl, ho, hb⟩
      have HN_w_t0 := hid (own_ne Hw_8.out ho (Nat.le_refl _))
      have HN_t0_w := hid (own_ne' Hw_8.out ho (Nat.le_refl _))
      have HN_x0_t0 := hid (own_ne Hx0_8.out ho (Nat.le_refl _))
      have HN_t0_x0 := hid (own_ne' Hx0_8.out ho (Nat.le_refl _))
      have HN_x1_t0 := hid (own_ne Hx1_8.out ho (Nat.le_refl _))
      have HN_t0_x1 := hid (own_ne' Hx1_8.out ho (Nat.le_refl _))
      have HN_g_t0 := hid (own_ne Hg_8.out ho (Nat.le_refl _))
      have HN_t0_g := hid (own_ne' Hg_8.out ho (Nat.le_refl _))
      have Hw_9 := hid (Hw_8.out.below hb)
      have Hx0_9 := hid (Hx0_8.out.below hb)
      have Hx1_9 := hid (Hx1_8.out.below hb)
      have Hg_9 := hid (Hg_8.out.below hb)
      have Ht0_9 := hid ho
      have HB9 := hid (HB8.out.trans (hb.mono HB8.out.size))
      clear hb ho
      go_wp2_with fail
      refine (eqLineS_c _ _ _ _ _ Hx0_9.out.rowB Ht0_9.out.rowB).mono ?_
      rintro e w10 ⟨rfl, hb⟩
      have Hw_10 := hid (Hw_9.out.below hb)
      have Hx0_10 := hid (Hx0_9.out.below hb)
      have Hx1_10 := hid (Hx1_9.out.below hb)
      have Hg_10 := hid (Hg_9.out.below hb)
      have Ht0_10 := hid (Ht0_9.out.below hb)
      have HB10 := hid (HB9.out.trans (hb.mono HB9.out.size))
      clear hb
      simp only [decide_true]
      go_wp2_with fail
      refine (toIntS_c _ L1 _ (h1.go HB10.out) (by omega)).mono ?_
      rintro e w11 ⟨vt1, rfl, ho, hb⟩
      have HN_w_t1 := hid (own_ne Hw_10.out ho (Nat.le_refl _))
      have HN_t1_w := hid (own_ne' Hw_10.out ho (Nat.le_refl _))
      have HN_x0_t1 := hid (own_ne Hx0_10.out ho (Nat.le_refl _))
      have HN_t1_x0 := hid (own_ne' Hx0_10.out ho (Nat.le_refl _))
      have HN_x1_t1 := hid (own_ne Hx1_10.out ho (Nat.le_refl _))
      have HN_t1_x1 := hid (own_ne' Hx1_10.out ho (Nat.le_refl _))
      have HN_g_t1 := hid (own_ne Hg_10.out ho (Nat.le_refl _))
      have HN_t1_g := hid (own_ne' Hg_10.out ho (Nat.le_refl _))
      have Hw_11 := hid (Hw_10.out.below hb)
      have Hx0_11 := hid (Hx0_10.out.below hb)
      have Hx1_11 := hid (Hx1_10.out.below hb)
      have Hg_11 := hid (Hg_10.out.below hb)
      have Ht1_11 := hid ho
      have HB11 := hid (HB10.out.trans (hb.mono HB10.out.size))
      clear hb ho
      go_wp2_with fail
      refine (eqIntS_c _ _ _ _ _ Hx1_11.out.rowB Ht1_11.out.rowB).mono ?_
      rintro e w12 ⟨rfl, hd⟩
      have Hw_12 := hid (Hw_11.out.dr hd)
      have Hx0_12 := hid (Hx0_11.out.dr hd)
      have Hx1_12 := hid (Hx1_11.out.dr hd)
      have Hg_12 := hid (Hg_11.out.dr hd)
      have Ht1_12 := hid (Ht1_11.out.dr hd)
      have HB12 := hid (HB11.out.trans (hd.below _))
      clear hd
      simp only [decide_true]
      go_wp2_with fail
      refine (markLineS_c _ L0 _ 1 _ Hx0_12.out (by omega) (by omega) (by omega)).mono ?_
      rintro e w13 ⟨rfl, ho, hg⟩
      have Hw_13 := hid (Hw_12.out.kept hg HN_w_x0.out)
      have Hx1_13 := hid (Hx1_12.out.kept hg HN_x1_x0.out)
      have Hg_13 := hid (Hg_12.out.kept hg HN_g_x0.out)
      have Hx0_13 := hid ho
      have HB13 := hid (HB12.out.grown hg HB12.out.size (fun k hk => Nat.le_trans HB4.out.size (Hx0_12.out.lt k hk).1))
      clear hg ho
      go_wp2_with fail
      refine (markIntS_c _ L1 _ (1 + 5 * (L0.length : Int)) _ Hx1_13.out (by omega) (by omega) (by omega)).mono ?_
      rintro e w14 ⟨rfl, ho, hg⟩
      have Hw_14 := hid (Hw_13.out.kept hg HN_w_x1.out)
      have Hx0_14 := hid (Hx0_13.out.kept hg HN_x0_x1.out)
      have Hg_14 := hid (Hg_13.out.kept hg HN_g_x1.out)
      have Hx1_14 := hid ho
      have HB14 := hid (HB13.out.grown hg HB13.out.size (fun k hk => Nat.le_trans HB5.out.size (Hx1_13.out.lt k hk).1))
      clear hg ho
      go_wp2_with fail
      refine (eqLineS_c _ _ _ _ _ Hg_14.out.rowB Hw_14.out.rowB).mono ?_
      rintro e w15 ⟨rfl, hb⟩
      have Hw_15 := hid (Hw_14.out.below hb)
      have Hx0_15 := hid (Hx0_14.out.below hb)
      have Hx1_15 := hid (Hx1_14.out.below hb)
      have Hg_15 := hid (Hg_14.out.below hb)
      have HB15 := hid (HB14.out.trans (hb.mono HB14.out.size))
      clear hb
      simp only [decide_true]
      go_wp2_with fail
      refine (markLineS_c _ (lackOut L0 L1) _ 1 _ Hg_15.out (by omega) (by omega) (by omega)).mono ?_
      rintro e w16 ⟨rfl, ho, hg⟩
      have Hw_16 := hid (Hw_15.out.kept hg HN_w_g.out)
      have Hg_16 := hid ho
      have HB16 := hid (HB15.out.grown hg HB15.out.size (fun k hk => Nat.le_trans HB6.out.size (Hg_15.out.lt k hk).1))
      clear hg ho
      go_wp2_with fail
      refine (heldLineS_c _ 1 (lackOut L0 L1).length _ Hg_16.out.rowB (by omega) (by omega) (by omega)).mono ?_
      rintro e w17 ⟨rfl, hd⟩
      have Hw_17 := hid (Hw_16.out.dr hd)
      have Hg_17 := hid (Hg_16.out.dr hd)
      have HB17 := hid (HB16.out.trans (hd.below _))
      clear hd
      go_wp2_with fail
      refine (toLineS_c _ L0 _ (h0.go HB17.out) (by omega)).mono ?_
      rintro e w18 ⟨vy0, rfl, ho, hb⟩
      have HN_w_y0 := hid (own_ne Hw_17.out ho (Nat.le_refl _))
      have HN_y0_w := hid (own_ne' Hw_17.out ho (Nat.le_refl _))
      have HN_g_y0 := hid (own_ne Hg_17.out ho (Nat.le_refl _))
      have HN_y0_g := hid (own_ne' Hg_17.out ho (Nat.le_refl _))
      have Hw_18 := hid (Hw_17.out.below hb)
      have Hg_18 := hid (Hg_17.out.below hb)
      have Hy0_18 := hid ho
      have HB18 := hid (HB17.out.trans (hb.mono HB17.out.size))
      clear hb ho
      go_wp2_with fail
      refine (toIntS_c _ L1 _ (h1.go HB18.out) (by omega)).mono ?_
      rintro e w19 ⟨vy1, rfl, ho, hb⟩
      have HN_w_y1 := hid (own_ne Hw_18.out ho (Nat.le_refl _))
      have HN_y1_w := hid (own_ne' Hw_18.out ho (Nat.le_refl _))
      have HN_g_y1 := hid (own_ne Hg_18.out ho (Nat.le_refl _))
      have HN_y1_g := hid (own_ne' Hg_18.out ho (Nat.le_refl _))
      have HN_y0_y1 := hid (own_ne Hy0_18.out ho (Nat.le_refl _))
      have HN_y1_y0 := hid (own_ne' Hy0_18.out ho (Nat.le_refl _))
      have Hw_19 := hid (Hw_18.out.below hb)
      have Hg_19 := hid (Hg_18.out.below hb)
      have Hy0_19 := hid (Hy0_18.out.below hb)
      have Hy1_19 := hid ho
      have HB19 := hid (HB18.out.trans (hb.mono HB18.out.size))
      clear hb ho
      go_wp2_with fail
      refine (LackOf_c _ _ L0 L1 _ Hy0_19.out.rowB Hy1_19.out.rowB).mono ?_
      rintro e w20 ⟨vh, rfl, ho, hb⟩
      have HN_w_h := hid (own_ne Hw_19.out ho (Nat.le_refl _))
      have HN_h_w := hid (own_ne' Hw_19.out ho (Nat.le_refl _))
      have HN_g_h := hid (own_ne Hg_19.out ho (Nat.le_refl _))
      have HN_h_g := hid (own_ne' Hg_19.out ho (Nat.le_refl _))
      have HN_y0_h := hid (own_ne Hy0_19.out ho (Nat.le_refl _))
      have HN_h_y0 := hid (own_ne' Hy0_19.out ho (Nat.le_refl _))
      have HN_y1_h := hid (own_ne Hy1_19.out ho (Nat.le_refl _))
      have HN_h_y1 := hid (own_ne' Hy1_19.out ho (Nat.le_refl _))
      have Hw_20 := hid (Hw_19.out.below hb)
      have Hg_20 := hid (Hg_19.out.below hb)
      have Hy0_20 := hid (Hy0_19.out.below hb)
      have Hy1_20 := hid (Hy1_19.out.below hb)
      have Hh_20 := hid ho
      have HB20 := hid (HB19.out.trans (hb.mono HB19.out.size))
      clear hb ho
      go_wp2_with fail
      refine (eqLineS_c _ _ _ _ _ Hh_20.out.rowB Hw_20.out.rowB).mono ?_
      rintro e w21 ⟨rfl, hb⟩
      have Hw_21 := hid (Hw_20.out.below hb)
      have Hg_21 := hid (Hg_20.out.below hb)
      have Hh_21 := hid (Hh_20.out.below hb)
      have HB21 := hid (HB20.out.trans (hb.mono HB20.out.size))
      clear hb
      simp only [decide_true]
      go_wp2_with fail
      refine (heldLineS_c _ 1 (lackOut L0 L1).length _ Hg_21.out.rowB (by omega) (by omega) (by omega)).mono ?_
      rintro e w22 ⟨rfl, hd⟩
      have Hw_22 := hid (Hw_21.out.dr hd)
      have Hg_22 := hid (Hg_21.out.dr hd)
      have Hh_22 := hid (Hh_21.out.dr hd)
      have HB22 := hid (HB21.out.trans (hd.below _))
      clear hd
      go_wp2
      go_ret
      exact ⟨rfl, HB22.out⟩
    · have hF0 : 1048576 < L0.length + (0) := by omega
      go_enter Try.func5, Try.ntmps5
      have HB0 := hid (Below.refl _ _ : Below w.heap.size w w)
      go_wp2_with fail
      refine (szLineS_f _ L0 (1048576) _ (h0.go HB0.out) (by omega) (by omega) (by omega)).mono ?_
      rintro e w1 ⟨rfl, hd⟩
      have HB1 := hid (HB0.out.trans (hd.below _))
      clear hd
      go_wp2
      go_ret
      exact ⟨rfl, HB1.out⟩
  · have hF1 : 1048576 < L1.length + (0) := by omega
    go_enter Try.func5, Try.ntmps5
    go_wp2_with fail
    go_ret
    exact ⟨rfl, Below.refl _ _⟩

end Go.Proofs.Ytmenkjloabficaa
