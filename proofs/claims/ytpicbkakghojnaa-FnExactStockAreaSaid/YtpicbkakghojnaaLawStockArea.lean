/-
  The law FnExactStockArea, walked.
-/
import Derived.Test.YtpicbkakghojnaaStkA
namespace Go.Proofs.Ytpicbkakghojnaa
set_option linter.unusedSimpArgs false
set_option linter.unusedVariables false
open Go.RowKit

set_option maxHeartbeats 3200000 in
set_option maxRecDepth 100000 in
theorem FnExactStockArea_c (v : Value) (L : List Pc) (w : World) (h : StR w.heap.size w v L ∧ S64 L) : Calls Try.prog 6 #[v] w fun e w' => e = .returned (.bool true) ∧ Below w.heap.size w w' := by
  obtain ⟨h, hI⟩ := h
  have HI := hid hI
  have HP := hid (fun w1 (hb : Below w.heap.size w w1) => h.go hb)
  clear hI
  by_cases hle : (L.length : Int) + fsum L ≤ 1048576
  · have HT : Hid (L.length + fsum L ≤ 4194304) := by rw [Hid]; omega
    have hneg : decide ((1048576 : Int) - L.length - fsum L < 0) = false := by simp; omega
    go_enter Try.func6, Try.ntmps6
    go_wp2_with fail
    refine (szPieceS_t v L 1048576 _ h (by omega) (by omega) hle).mono ?_
    rintro e w1 ⟨rfl, hb⟩
    have HB1 := hid hb
    clear hb h
    go_wp2_with fail
    refine (toPieceS_c v L _ (HP.out _ HB1.out) HT.out).mono ?_
    rintro e w2 ⟨v1, rfl, hs1, hb⟩
    have HB2 := hid (HB1.out.trans (hb.mono HB1.out.size))
    have HS1 := hid hs1
    clear hb hs1
    go_wp2_with fail
    refine (sStockArea_c v1 L _ HS1.out HI.out).mono ?_
    rintro e w3 ⟨rfl, hb⟩
    have HB3 := hid (HB2.out.trans (hb.mono HB2.out.size))
    clear hb HS1
    go_wp2_with fail
    refine (toPieceS_c v L _ (HP.out _ HB3.out) HT.out).mono ?_
    rintro e w4 ⟨v2, rfl, hs2, hb⟩
    have HB4 := hid (HB3.out.trans (hb.mono HB3.out.size))
    have HS2 := hid hs2
    clear hb hs2
    go_wp2_with fail
    refine (StockArea_c v2 L _ HS2.out).mono ?_
    rintro e w5 ⟨rfl, hb⟩
    have HB5 := hid (HB4.out.trans (hb.mono HB4.out.size))
    have HS2b := hid (HS2.out.go hb)
    clear hb HS2
    have hne : (stR L != stR L) = false := by simp
    go_wp2_with fail
    refine (toPieceS_c v L _ (HP.out _ HB5.out) HT.out).mono ?_
    rintro e w6 ⟨v3, rfl, hs3, hb⟩
    have HB6 := hid (HB5.out.trans (hb.mono HB5.out.size))
    have HS3 := hid hs3
    have HS2c := hid (HS2b.out.go hb)
    clear hb hs3
    go_wp2_with fail
    refine (eqPieceS_c v2 v3 L _ HS2c.out HS3.out).mono ?_
    rintro e w7 ⟨rfl, hb⟩
    have HB7 := hid (HB6.out.trans (hb.mono HB6.out.size))
    clear hb
    go_wp2
    go_ret
    exact ⟨rfl, HB7.out⟩
  · go_enter Try.func6, Try.ntmps6
    go_wp2_with fail
    refine (szPieceS_f v L 1048576 _ h (by omega) (by omega) (by omega)).mono ?_
    rintro e w1 ⟨rfl, hb⟩
    have HB1 := hid hb
    clear hb
    go_wp2
    go_ret
    exact ⟨rfl, HB1.out⟩

end Go.Proofs.Ytpicbkakghojnaa
