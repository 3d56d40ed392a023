/-
  The law FnExactPanesOf, walked (written by a program of mine).
-/
import Derived.Test.YtmenkjloabficaaOrdPn
import Derived.Deep.RegionHeld3
namespace Go.Proofs.Ytmenkjloabficaa
set_option linter.unusedSimpArgs false
set_option linter.unusedVariables false
open Go.RowKit

set_option maxHeartbeats 4000000 in
set_option maxRecDepth 100000 in
theorem FnExactPanesOf_c (v0 : Value) (L0 : List Ln) (w : World) (h0 : Row lineE w v0 L0) :
    Calls Try.prog 3 #[v0] w fun e w' => e = .returned (.bool true) ∧ Below w.heap.size w w' := by
  by_cases hL0 : L0.length + (0) ≤ 1048576
  · have hLn0 : L0.length ≤ 1048576 := by omega
    have hO := panesOut_len L0
    go_enter Try.func3, Try.ntmps3
    have HB0 := hid (Below.refl _ _ : Below w.heap.size w w)
    go_wp2_with fail
    refine (szLineS_t _ L0 (1048576) _ (h0.go HB0.out) (by omega) (by omega) (by omega)).mono ?_
    rintro e w1 ⟨rfl, hd⟩
    have HB1 := hid (HB0.out.trans (hd.below _))
    clear hd
    go_wp2_with fail
    refine (toLineS_c _ L0 _ (h0.go HB1.out) (by omega)).mono ?_
    rintro e w2 ⟨vs0, rfl, ho, hb⟩
    have Hs0_2 := hid ho
    have HB2 := hid (HB1.out.trans (hb.mono HB1.out.size))
    clear hb ho
    go_wp2_with fail
    refine (sPanesOf_c _ L0 _ Hs0_2.out.rowB (by omega)).mono ?_
    rintro e w3 ⟨vw, rfl, ho, hb⟩
    have HN_s0_w := hid (own_ne Hs0_2.out ho (Nat.le_refl _))
    have HN_w_s0 := hid (own_ne' Hs0_2.out ho (Nat.le_refl _))
    have Hs0_3 := hid (Hs0_2.out.below hb)
    have Hw_3 := hid ho
    have HB3 := hid (HB2.out.trans (hb.mono HB2.out.size))
    clear hb ho
    go_wp2_with fail
    refine (toLineS_c _ L0 _ (h0.go HB3.out) (by omega)).mono ?_
    rintro e w4 ⟨vx0, rfl, ho, hb⟩
    have HN_w_x0 := hid (own_ne Hw_3.out ho (Nat.le_refl _))
    have HN_x0_w := hid (own_ne' Hw_3.out ho (Nat.le_refl _))
    have Hw_4 := hid (Hw_3.out.below hb)
    have Hx0_4 := hid ho
    have HB4 := hid (HB3.out.trans (hb.mono HB3.out.size))
    clear hb ho
    go_wp2_with fail
    refine (PanesOf_c _ L0 _ Hx0_4.out.rowB).mono ?_
    rintro e w5 ⟨vg, rfl, ho, hb⟩
    have HN_w_g := hid (own_ne Hw_4.out ho (Nat.le_refl _))
    have HN_g_w := hid (own_ne' Hw_4.out ho (Nat.le_refl _))
    have HN_x0_g := hid (own_ne Hx0_4.out ho (Nat.le_refl _))
    have HN_g_x0 := hid (own_ne' Hx0_4.out ho (Nat.le_refl _))
    have Hw_5 := hid (Hw_4.out.below hb)
    have Hx0_5 := hid (Hx0_4.out.below hb)
    have Hg_5 := hid ho
    have HB5 := hid (HB4.out.trans (hb.mono HB4.out.size))
    clear hb ho
    go_wp2_with fail
    refine (eqPaneS_c _ _ _ _ _ Hg_5.out.rowB Hw_5.out.rowB).mono ?_
    rintro e w6 ⟨rfl, hb⟩
    have Hw_6 := hid (Hw_5.out.below hb)
    have Hx0_6 := hid (Hx0_5.out.below hb)
    have Hg_6 := hid (Hg_5.out.below hb)
    have HB6 := hid (HB5.out.trans (hb.mono HB5.out.size))
    clear hb
    simp only [decide_true]
    go_wp2_with fail
    refine (toLineS_c _ L0 _ (h0.go HB6.out) (by omega)).mono ?_
    rintro e w7 ⟨vt0, rfl, ho, hb⟩
    have HN_w_t0 := hid (own_ne Hw_6.out ho (Nat.le_refl _))
    have HN_t0_w := hid (own_ne' Hw_6.out ho (Nat.le_refl _))
    have HN_x0_t0 := hid (own_ne Hx0_6.out ho (Nat.le_refl _))
    have HN_t0_x0 := hid (own_ne' Hx0_6.out ho (Nat.le_refl _))
    have HN_g_t0 := hid (own_ne Hg_6.out ho (Nat.le_refl _))
    have HN_t0_g := hid (own_ne' Hg_6.out ho (Nat.le_refl _))
    have Hw_7 := hid (Hw_6.out.below hb)
    have Hx0_7 := hid (Hx0_6.out.below hb)
    have Hg_7 := hid (Hg_6.out.below hb)
    have Ht0_7 := hid ho
    have HB7 := hid (HB6.out.trans (hb.mono HB6.out.size))
    clear hb ho
    go_wp2_with fail
    refine (eqLineS_c _ _ _ _ _ Hx0_7.out.rowB Ht0_7.out.rowB).mono ?_
    rintro e w8 ⟨rfl, hb⟩
    have Hw_8 := hid (Hw_7.out.below hb)
    have Hx0_8 := hid (Hx0_7.out.below hb)
    have Hg_8 := hid (Hg_7.out.below hb)
    have Ht0_8 := hid (Ht0_7.out.below hb)
    have HB8 := hid (HB7.out.trans (hb.mono HB7.out.size))
    clear hb
    simp only [decide_true]
    go_wp2_with fail
    refine (markLineS_c _ L0 _ 1 _ Hx0_8.out (by omega) (by omega) (by omega)).mono ?_
    rintro e w9 ⟨rfl, ho, hg⟩
    have Hw_9 := hid (Hw_8.out.kept hg HN_w_x0.out)
    have Hg_9 := hid (Hg_8.out.kept hg HN_g_x0.out)
    have Hx0_9 := hid ho
    have HB9 := hid (HB8.out.grown hg HB8.out.size (fun k hk => Nat.le_trans HB3.out.size (Hx0_8.out.lt k hk).1))
    clear hg ho
    go_wp2_with fail
    refine (eqPaneS_c _ _ _ _ _ Hg_9.out.rowB Hw_9.out.rowB).mono ?_
    rintro e w10 ⟨rfl, hb⟩
    have Hw_10 := hid (Hw_9.out.below hb)
    have Hx0_10 := hid (Hx0_9.out.below hb)
    have Hg_10 := hid (Hg_9.out.below hb)
    have HB10 := hid (HB9.out.trans (hb.mono HB9.out.size))
    clear hb
    simp only [decide_true]
    go_wp2_with fail
    refine (markPaneS_c _ (panesOut L0) _ 1 _ Hg_10.out (by omega) (by omega) (by omega)).mono ?_
    rintro e w11 ⟨rfl, ho, hg⟩
    have Hw_11 := hid (Hw_10.out.kept hg HN_w_g.out)
    have Hg_11 := hid ho
    have HB11 := hid (HB10.out.grown hg HB10.out.size (fun k hk => Nat.le_trans HB4.out.size (Hg_10.out.lt k hk).1))
    clear hg ho
    go_wp2_with fail
    refine (heldPaneS_c _ 1 (panesOut L0).length _ Hg_11.out.rowB (by omega) (by omega) (by omega)).mono ?_
    rintro e w12 ⟨rfl, hd⟩
    have Hw_12 := hid (Hw_11.out.dr hd)
    have Hg_12 := hid (Hg_11.out.dr hd)
    have HB12 := hid (HB11.out.trans (hd.below _))
    clear hd
    go_wp2_with fail
    refine (toLineS_c _ L0 _ (h0.go HB12.out) (by omega)).mono ?_
    rintro e w13 ⟨vy0, rfl, ho, hb⟩
    have HN_w_y0 := hid (own_ne Hw_12.out ho (Nat.le_refl _))
    have HN_y0_w := hid (own_ne' Hw_12.out ho (Nat.le_refl _))
    have HN_g_y0 := hid (own_ne Hg_12.out ho (Nat.le_refl _))
    have HN_y0_g := hid (own_ne' Hg_12.out ho (Nat.le_refl _))
    have Hw_13 := hid (Hw_12.out.below hb)
    have Hg_13 := hid (Hg_12.out.below hb)
    have Hy0_13 := hid ho
    have HB13 := hid (HB12.out.trans (hb.mono HB12.out.size))
    clear hb ho
    go_wp2_with fail
    refine (PanesOf_c _ L0 _ Hy0_13.out.rowB).mono ?_
    rintro e w14 ⟨vh, rfl, ho, hb⟩
    have HN_w_h := hid (own_ne Hw_13.out ho (Nat.le_refl _))
    have HN_h_w := hid (own_ne' Hw_13.out ho (Nat.le_refl _))
    have HN_g_h := hid (own_ne Hg_13.out ho (Nat.le_refl _))
    have HN_h_g := hid (own_ne' Hg_13.out ho (Nat.le_refl _))
    have HN_y0_h := hid (own_ne Hy0_13.out ho (Nat.le_refl _))
    have HN_h_y0 := hid (own_ne' Hy0_13.out ho (Nat.le_refl _))
    have Hw_14 := hid (Hw_13.out.below hb)
    have Hg_14 := hid (Hg_13.out.below hb)
    have Hy0_14 := hid (Hy0_13.out.below hb)
    have Hh_14 := hid ho
    have HB14 := hid (HB13.out.trans (hb.mono HB13.out.size))
    clear hb ho
    go_wp2_with fail
    refine (eqPaneS_c _ _ _ _ _ Hh_14.out.rowB Hw_14.out.rowB).mono ?_
    rintro e w15 ⟨rfl, hb⟩
    have Hw_15 := hid (Hw_14.out.below hb)
    have Hg_15 := hid (Hg_14.out.below hb)
    have Hh_15 := hid (Hh_14.out.below hb)
    have HB15 := hid (HB14.out.trans (hb.mono HB14.out.size))
    clear hb
    simp only [decide_true]
    go_wp2_with fail
    refine (heldPaneS_c _ 1 (panesOut L0).length _ Hg_15.out.rowB (by omega) (by omega) (by omega)).mono ?_
    rintro e w16 ⟨rfl, hd⟩
    have Hw_16 := hid (Hw_15.out.dr hd)
    have Hg_16 := hid (Hg_15.out.dr hd)
    have Hh_16 := hid (Hh_15.out.dr hd)
    have HB16 := hid (HB15.out.trans (hd.below _))
    clear hd
    go_wp2
    go_ret
    exact ⟨rfl, HB16.out⟩
  · have hF0 : 1048576 < L0.length + (0) := by omega
    go_enter Try.func3, Try.ntmps3
    have HB0 := hid (Below.refl _ _ : Below w.heap.size w w)
    go_wp2_with fail
    refine (szLineS_f _ L0 (1048576) _ (h0.go HB0.out) (by omega) (by omega) (by omega)).mono ?_
    rintro e w1 ⟨rfl, hd⟩
    have HB1 := hid (HB0.out.trans (hd.below _))
    clear hd
    go_wp2
    go_ret
    exact ⟨rfl, HB1.out⟩

end Go.Proofs.Ytmenkjloabficaa
