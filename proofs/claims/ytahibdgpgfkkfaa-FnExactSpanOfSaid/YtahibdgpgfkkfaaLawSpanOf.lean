/-
  The law FnExactSpanOf, walked (written by a program of mine).
-/
import Derived.Test.YtahibdgpgfkkfaaEndsOf
import Derived.Deep.RegionHeld3
namespace Go.Proofs.Ytahibdgpgfkkfaa
set_option linter.unusedSimpArgs false
set_option linter.unusedVariables false
open Go.RowKit

set_option maxHeartbeats 4000000 in
set_option maxRecDepth 100000 in
theorem FnExactSpanOf_c (v0 : Value) (L0 : List Jb) (v1 : Value) (L1 : List Int) (w : World) (h0 : Row jobE w v0 L0) (h1 : Row intE w v1 L1) :
    Calls Try.prog 5 #[v0, v1] w fun e w' => e = .returned (.bool true) ∧ Below w.heap.size w w' := by
  obtain ⟨A1, c1, rfl, hc1, hm1⟩ := h1.form
  unfold maxLen at hm1
  by_cases hL1 : L1.length ≤ 1048576
  · have hLn1 : L1.length ≤ 1048576 := by omega
    by_cases hL0 : L0.length + (0) ≤ 1048576
    · have hLn0 : L0.length ≤ 1048576 := by omega
      go_enter Try.func5, Try.ntmps5
      have HB0 := hid (Below.refl _ _ : Below w.heap.size w w)
      go_wp2_with fail
      refine (szJobS_t _ L0 (1048576) _ (h0.go HB0.out) (by omega) (by omega) (by omega)).mono ?_
      rintro e w1 ⟨rfl, hd⟩
      have HB1 := hid (HB0.out.trans (hd.below _))
      clear hd
      go_wp2_with fail
      refine (toJobS_c _ L0 _ (h0.go HB1.out) (by omega)).mono ?_
      rintro e w2 ⟨vs0, rfl, ho, hb⟩
      have Hs0_2 := hid ho
      have HB2 := hid (HB1.out.trans (hb.mono HB1.out.size))
      clear hb ho
      go_wp2_with fail
      refine (toIntS_c _ L1 _ (h1.go HB2.out) (by omega)).mono ?_
      rintro e w3 ⟨vs1, rfl, ho, hb⟩
      have HN_s0_s1 := hid (own_ne Hs0_2.out ho (Nat.le_refl _))
      have HN_s1_s0 := hid (own_ne' Hs0_2.out ho (Nat.le_refl _))
      have Hs0_3 := hid (Hs0_2.out.below hb)
      have Hs1_3 := hid ho
      have HB3 := hid (HB2.out.trans (hb.mono HB2.out.size))
      clear hb ho
      go_wp2_with fail
      refine (sSpanOf_c _ _ L0 L1 _ Hs0_3.out.rowB Hs1_3.out.rowB).mono ?_
      rintro e w4 ⟨rfl, hb⟩
      have Hs0_4 := hid (Hs0_3.out.below hb)
      have Hs1_4 := hid (Hs1_3.out.below hb)
      have HB4 := hid (HB3.out.trans (hb.mono HB3.out.size))
      clear hb
      go_wp2_with fail
      refine (toJobS_c _ L0 _ (h0.go HB4.out) (by omega)).mono ?_
      rintro e w5 ⟨vx0, rfl, ho, hb⟩
      have Hx0_5 := hid ho
      have HB5 := hid (HB4.out.trans (hb.mono HB4.out.size))
      clear hb ho
      go_wp2_with fail
      refine (toIntS_c _ L1 _ (h1.go HB5.out) (by omega)).mono ?_
      rintro e w6 ⟨vx1, rfl, ho, hb⟩
      have HN_x0_x1 := hid (own_ne Hx0_5.out ho (Nat.le_refl _))
      have HN_x1_x0 := hid (own_ne' Hx0_5.out ho (Nat.le_refl _))
      have Hx0_6 := hid (Hx0_5.out.below hb)
      have Hx1_6 := hid ho
      have HB6 := hid (HB5.out.trans (hb.mono HB5.out.size))
      clear hb ho
      go_wp2_with fail
      refine (SpanOf_c _ _ L0 L1 _ Hx0_6.out.rowB Hx1_6.out.rowB).mono ?_
      rintro e w7 ⟨rfl, hb⟩
      have Hx0_7 := hid (Hx0_6.out.below hb)
      have Hx1_7 := hid (Hx1_6.out.below hb)
      have HB7 := hid (HB6.out.trans (hb.mono HB6.out.size))
      clear hb
      go_wp2_with fail
      refine (toJobS_c _ L0 _ (h0.go HB7.out) (by omega)).mono ?_
      rintro e w8 ⟨vt0, rfl, ho, hb⟩
      have HN_x0_t0 := hid (own_ne Hx0_7.out ho (Nat.le_refl _))
      have HN_t0_x0 := hid (own_ne' Hx0_7.out ho (Nat.le_refl _))
      have HN_x1_t0 := hid (own_ne Hx1_7.out ho (Nat.le_refl _))
      have HN_t0_x1 := hid (own_ne' Hx1_7.out ho (Nat.le_refl _))
      have Hx0_8 := hid (Hx0_7.out.below hb)
      have Hx1_8 := hid (Hx1_7.out.below hb)
      have Ht0_8 := hid ho
      have HB8 := hid (HB7.out.trans (hb.mono HB7.out.size))
      clear hb ho
      go_wp2_with fail
      refine (eqJobS_c _ _ _ _ _ Hx0_8.out.rowB Ht0_8.out.rowB).mono ?_
      rintro e w9 ⟨rfl, hb⟩
      have Hx0_9 := hid (Hx0_8.out.below hb)
      have Hx1_9 := hid (Hx1_8.out.below hb)
      have Ht0_9 := hid (Ht0_8.out.below hb)
      have HB9 := hid (HB8.out.trans (hb.mono HB8.out.size))
      clear hb
      simp only [decide_true]
      go_wp2_with fail
      refine (toIntS_c _ L1 _ (h1.go HB9.out) (by omega)).mono ?_
      rintro e w10 ⟨vt1, rfl, ho, hb⟩
      have HN_x0_t1 := hid (own_ne Hx0_9.out ho (Nat.le_refl _))
      have HN_t1_x0 := hid (own_ne' Hx0_9.out ho (Nat.le_refl _))
      have HN_x1_t1 := hid (own_ne Hx1_9.out ho (Nat.le_refl _))
      have HN_t1_x1 := hid (own_ne' Hx1_9.out ho (Nat.le_refl _))
      have Hx0_10 := hid (Hx0_9.out.below hb)
      have Hx1_10 := hid (Hx1_9.out.below hb)
      have Ht1_10 := hid ho
      have HB10 := hid (HB9.out.trans (hb.mono HB9.out.size))
      clear hb ho
      go_wp2_with fail
      refine (eqIntS_c _ _ _ _ _ Hx1_10.out.rowB Ht1_10.out.rowB).mono ?_
      rintro e w11 ⟨rfl, hd⟩
      have Hx0_11 := hid (Hx0_10.out.dr hd)
      have Hx1_11 := hid (Hx1_10.out.dr hd)
      have Ht1_11 := hid (Ht1_10.out.dr hd)
      have HB11 := hid (HB10.out.trans (hd.below _))
      clear hd
      simp only [decide_true]
      go_wp2
      go_ret
      exact ⟨rfl, HB11.out⟩
    · have hF0 : 1048576 < L0.length + (0) := by omega
      go_enter Try.func5, Try.ntmps5
      have HB0 := hid (Below.refl _ _ : Below w.heap.size w w)
      go_wp2_with fail
      refine (szJobS_f _ L0 (1048576) _ (h0.go HB0.out) (by omega) (by omega) (by omega)).mono ?_
      rintro e w1 ⟨rfl, hd⟩
      have HB1 := hid (HB0.out.trans (hd.below _))
      clear hd
      go_wp2
      go_ret
      exact ⟨rfl, HB1.out⟩
  · have hF1 : 1048576 < L1.length + (0) := by omega
    go_enter Try.func5, Try.ntmps5
    go_wp2_with fail
    go_ret
    exact ⟨rfl, Below.refl _ _⟩

end Go.Proofs.Ytahibdgpgfkkfaa
