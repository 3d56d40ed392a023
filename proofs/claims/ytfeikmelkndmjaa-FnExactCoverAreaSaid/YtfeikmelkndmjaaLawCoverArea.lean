/-
  The law FnExactCoverArea, walked (written by a program of mine).
-/
import Derived.Test.YtfeikmelkndmjaaCovI
import Derived.Test.YtfeikmelkndmjaaCovS
import Derived.Deep.RegionHeld3
namespace Go.Proofs.Ytfeikmelkndmjaa
set_option linter.unusedSimpArgs false
set_option linter.unusedVariables false
open Go.RowKit

set_option maxHeartbeats 4000000 in
set_option maxRecDepth 100000 in
theorem FnExactCoverArea_c (v0 : Value) (L0 : List Bx) (w : World) (h0 : Row boxE w v0 L0) :
    Calls Try.prog 4 #[v0] w fun e w' => e = .returned (.bool true) ∧ Below w.heap.size w w' := by
  by_cases hL0 : L0.length + (0) ≤ 1048576
  · have hLn0 : L0.length ≤ 1048576 := by omega
    go_enter Try.func4, Try.ntmps4
    have HB0 := hid (Below.refl _ _ : Below w.heap.size w w)
    go_wp2_with fail
    refine (szBoxS_t _ L0 (1048576) _ (h0.go HB0.out) (by omega) (by omega) (by omega)).mono ?_
    rintro e w1 ⟨rfl, hd⟩
    have HB1 := hid (HB0.out.trans (hd.below _))
    clear hd
    go_wp2_with fail
    refine (toBoxS_c _ L0 _ (h0.go HB1.out) (by omega)).mono ?_
    rintro e w2 ⟨vs0, rfl, ho, hb⟩
    have Hs0_2 := hid ho
    have HB2 := hid (HB1.out.trans (hb.mono HB1.out.size))
    clear hb ho
    go_wp2_with fail
    refine (sCoverArea_c _ L0 _ Hs0_2.out.rowB).mono ?_
    rintro e w3 ⟨rfl, hb⟩
    have Hs0_3 := hid (Hs0_2.out.below hb)
    have HB3 := hid (HB2.out.trans (hb.mono HB2.out.size))
    clear hb
    go_wp2_with fail
    refine (toBoxS_c _ L0 _ (h0.go HB3.out) (by omega)).mono ?_
    rintro e w4 ⟨vx0, rfl, ho, hb⟩
    have Hx0_4 := hid ho
    have HB4 := hid (HB3.out.trans (hb.mono HB3.out.size))
    clear hb ho
    go_wp2_with fail
    refine (CoverArea_c _ L0 _ Hx0_4.out.rowB).mono ?_
    rintro e w5 ⟨rfl, hb⟩
    have Hx0_5 := hid (Hx0_4.out.below hb)
    have HB5 := hid (HB4.out.trans (hb.mono HB4.out.size))
    clear hb
    go_wp2_with fail
    refine (toBoxS_c _ L0 _ (h0.go HB5.out) (by omega)).mono ?_
    rintro e w6 ⟨vt0, rfl, ho, hb⟩
    have HN_x0_t0 := hid (own_ne Hx0_5.out ho (Nat.le_refl _))
    have HN_t0_x0 := hid (own_ne' Hx0_5.out ho (Nat.le_refl _))
    have Hx0_6 := hid (Hx0_5.out.below hb)
    have Ht0_6 := hid ho
    have HB6 := hid (HB5.out.trans (hb.mono HB5.out.size))
    clear hb ho
    go_wp2_with fail
    refine (eqBoxS_c _ _ _ _ _ Hx0_6.out.rowB Ht0_6.out.rowB).mono ?_
    rintro e w7 ⟨rfl, hb⟩
    have Hx0_7 := hid (Hx0_6.out.below hb)
    have Ht0_7 := hid (Ht0_6.out.below hb)
    have HB7 := hid (HB6.out.trans (hb.mono HB6.out.size))
    clear hb
    simp only [decide_true]
    go_wp2
    go_ret
    exact ⟨rfl, HB7.out⟩
  · have hF0 : 1048576 < L0.length + (0) := by omega
    go_enter Try.func4, Try.ntmps4
    have HB0 := hid (Below.refl _ _ : Below w.heap.size w w)
    go_wp2_with fail
    refine (szBoxS_f _ L0 (1048576) _ (h0.go HB0.out) (by omega) (by omega) (by omega)).mono ?_
    rintro e w1 ⟨rfl, hd⟩
    have HB1 := hid (HB0.out.trans (hd.below _))
    clear hd
    go_wp2
    go_ret
    exact ⟨rfl, HB1.out⟩

end Go.Proofs.Ytfeikmelkndmjaa
