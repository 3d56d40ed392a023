/-
  The law FnPlanSize, walked (written by a program of mine).
-/
import Derived.Test.YtafcohmneeabbaaGrowE
import Derived.Test.YtafcohmneeabbaaPlanCnt
namespace Go.Proofs.Ytafcohmneeabbaa
set_option linter.unusedSimpArgs false
set_option linter.unusedVariables false
open Go.RowKit

theorem psz_cuts {p : Pl} (h : ¬ psz p < 0) : psz p = 2 * treeOut cutI p + 1 ∧ 0 ≤ treeOut cutI p ∧ treeOut cutI p ≤ 127 := by
  obtain ⟨t, hw, h1, hn⟩ := cp_tree (p := p) (room := 255) (by unfold psz at h; omega)
  have h2 := nodes_cuts t
  rw [treeOut_some hw hn, psz, h1, cutI]
  omega

set_option maxHeartbeats 12800000 in
set_option maxRecDepth 100000 in
theorem FnPlanSize_c (v : Value) (L : List Int) (w : World) (h : Row byteE w v L ∧ ∀ x ∈ L, 0 ≤ x ∧ x ≤ 255) : Calls Try.prog 4 #[v] w fun e w' => e = .returned (.bool true) ∧ Below w.heap.size w w' := by
  obtain ⟨h, hb⟩ := h
  obtain ⟨A, c, rfl, hc1, hm1⟩ := h.form
  unfold maxLen at hm1
  by_cases hle : 1048576 < L.length
  · have hd : decide ((1048576 : Int) < (L.length : Int)) = true := by simp; omega
    go_enter Try.func4, Try.ntmps4
    go_wp2
    go_ret
    exact ⟨rfl, Below.refl _ _⟩
  · have hd : decide ((1048576 : Int) < (L.length : Int)) = false := by simp; omega
    have HH := hid h
    have HB := hid hb
    clear h hb hle
    go_enter Try.func4, Try.ntmps4
    go_wp2_with fail
    refine (DrawPlanSize_c _ L _ HH.out HB.out).mono ?_
    rintro e w1 ⟨n, s, p, rfl, k1, k2, hb⟩
    have HP_1 := hid ((PlanDraw.pr k1 k2).go ((Below.refl _ _).alloc (Nat.le_refl _) (.cells #[.int .i64 s.o, .int .i64 s.a, .int .i64 s.p, .bool s.t, .slice s.ka s.kn s.kc] 30)))
    have HB1 := hid (hb.alloc hb.size (.cells #[.int .i64 s.o, .int .i64 s.a, .int .i64 s.p, .bool s.t, .slice s.ka s.kn s.kc] 30))
    have QP := hid (Blk.new w1 #[.int .i64 s.o, .int .i64 s.a, .int .i64 s.p, .bool s.t, .slice s.ka s.kn s.kc] 30)
    clear k1 k2 hb
    try clear c_K f_K l_K
    have c_K := fun (o : Nat) => QP.out.cell o
    have f_K := fun (o : Nat) => QP.out.frz o
    have l_K := QP.out.lt
    go_wp2_with fail
    refine (PlanSize_c HP_1.out).mono ?_
    rintro e w2 ⟨rfl, hb⟩
    have HP_2 := hid (HP_1.out.go hb)
    have QK_2 := hid (QP.out.go hb)
    have HB_2 := hid (HB1.out.trans (hb.mono HB1.out.size))
    try clear c_K f_K l_K
    have c_K := fun (o : Nat) => QK_2.out.cell o
    have f_K := fun (o : Nat) => QK_2.out.frz o
    have l_K := QK_2.out.lt
    clear hb
    go_wp2_with fail
    refine (sPlanSize_c HP_2.out).mono ?_
    rintro e w3 ⟨rfl, hb⟩
    have HP_3 := hid (HP_2.out.go hb)
    have QK_3 := hid (QK_2.out.go hb)
    have HB_3 := hid (HB_2.out.trans (hb.mono HB_2.out.size))
    try clear c_K f_K l_K
    have c_K := fun (o : Nat) => QK_3.out.cell o
    have f_K := fun (o : Nat) => QK_3.out.frz o
    have l_K := QK_3.out.lt
    clear hb
    by_cases hneg : psz p < 0
    · have d1 : decide (psz p < 0) = true := decide_eq_true hneg
      clear hneg
      go_wp2_with fail
      refine (sPlanSize_c HP_3.out).mono ?_
      rintro e w4 ⟨rfl, hb⟩
      have HP_4 := hid (HP_3.out.go hb)
      have QK_4 := hid (QK_3.out.go hb)
      have HB_4 := hid (HB_3.out.trans (hb.mono HB_3.out.size))
      try clear c_K f_K l_K
      have c_K := fun (o : Nat) => QK_4.out.cell o
      have f_K := fun (o : Nat) => QK_4.out.frz o
      have l_K := QK_4.out.lt
      clear hb
      go_wp2
      go_ret
      exact ⟨rfl, HB_4.out⟩
    · have d1 : decide (psz p < 0) = false := decide_eq_false hneg
      have HC := hid (psz_cuts hneg)
      obtain ⟨-, hc1, hc2⟩ := psz_cuts hneg
      clear hneg
      go_wp2_with fail
      refine (CutsOf_c HP_3.out).mono ?_
      rintro e w4 ⟨rfl, hb⟩
      have HP_4 := hid (HP_3.out.go hb)
      have QK_4 := hid (QK_3.out.go hb)
      have HB_4 := hid (HB_3.out.trans (hb.mono HB_3.out.size))
      try clear c_K f_K l_K
      have c_K := fun (o : Nat) => QK_4.out.cell o
      have f_K := fun (o : Nat) => QK_4.out.frz o
      have l_K := QK_4.out.lt
      clear hb
      have HE : Hid ((psz p == 2 * treeOut cutI p + 1) = true) := by rw [Hid, beq_iff_eq]; exact HC.out.1
      go_wp2
      go_ret
      exact ⟨ret_bool HE.out, HB_4.out⟩

end Go.Proofs.Ytafcohmneeabbaa
