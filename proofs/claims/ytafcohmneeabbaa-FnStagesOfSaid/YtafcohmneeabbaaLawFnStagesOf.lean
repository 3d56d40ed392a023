/-
  The law FnStagesOf, walked (written by a program of mine).
-/
import Derived.Test.YtafcohmneeabbaaGrowE
import Derived.Test.YtafcohmneeabbaaPlanCnt
namespace Go.Proofs.Ytafcohmneeabbaa
set_option linter.unusedSimpArgs false
set_option linter.unusedVariables false
open Go.RowKit

theorem wf_cutB {p : Pl} {o a : Int} {l r : Tr} (h : wf p = some (.cut o a l r)) : cutB o = true := by
  obtain ⟨o', a', q, t, ks⟩ := p
  by_cases hc : cutB o' = true
  · rw [wf_eq, if_pos hc] at h
    split at h
    · split at h
      · split at h
        · injection h with h; injection h with h; rw [← h]; exact hc
        · cases h
      · cases h
    · cases h
  · rw [wf_eq, if_neg hc] at h
    split at h
    · cases h
    · cases h
theorem stg_zero {p : Pl} {t : Tr} (h : wf p = some t) : stg t 0 = 0 ↔ cuts t = 0 := by
  cases t with
  | leaf o p t => simp [stg, cuts]
  | cut o a l r =>
    have h1 := stg_bd l o
    have h2 := stg_bd r o
    have h3 := cutB_t (wf_cutB h)
    simp only [stg, cuts]
    rw [if_neg (by omega)]
    omega
theorem stg_cuts {p : Pl} (h : ¬ stgOut p < 0) : stgOut p ≤ treeOut cutI p ∧ (stgOut p = 0 ↔ treeOut cutI p = 0) := by
  unfold stgOut at h
  cases hw : wf p with
  | none => rw [hw] at h; simp at h
  | some t =>
    rw [hw] at h
    simp only at h
    by_cases hn : (nodes t : Int) ≤ 255
    · rw [stgOut_some hw hn, treeOut_some hw hn, cutI]
      have h1 := stg_bd t 0
      have h2 := stg_zero hw
      omega
    · rw [if_neg hn] at h; omega

set_option maxHeartbeats 12800000 in
set_option maxRecDepth 100000 in
theorem FnStagesOf_c (v : Value) (L : List Int) (w : World) (h : Row byteE w v L ∧ ∀ x ∈ L, 0 ≤ x ∧ x ≤ 255) : Calls Try.prog 5 #[v] w fun e w' => e = .returned (.bool true) ∧ Below w.heap.size w w' := by
  obtain ⟨h, hb⟩ := h
  obtain ⟨A, c, rfl, hc1, hm1⟩ := h.form
  unfold maxLen at hm1
  by_cases hle : 1048576 < L.length
  · have hd : decide ((1048576 : Int) < (L.length : Int)) = true := by simp; omega
    go_enter Try.func5, Try.ntmps5
    go_wp2
    go_ret
    exact ⟨rfl, Below.refl _ _⟩
  · have hd : decide ((1048576 : Int) < (L.length : Int)) = false := by simp; omega
    have HH := hid h
    have HB := hid hb
    clear h hb hle
    go_enter Try.func5, Try.ntmps5
    go_wp2_with fail
    refine (DrawStagesOf_c _ L _ HH.out HB.out).mono ?_
    rintro e w1 ⟨n, s, p, rfl, k1, k2, hb⟩
    have HP_1 := hid ((PlanDraw.pr k1 k2).go ((Below.refl _ _).alloc (Nat.le_refl _) (.cells #[.int .i64 s.o, .int .i64 s.a, .int .i64 s.p, .bool s.t, .slice s.ka s.kn s.kc] 30)))
    have HB1 := hid (hb.alloc hb.size (.cells #[.int .i64 s.o, .int .i64 s.a, .int .i64 s.p, .bool s.t, .slice s.ka s.kn s.kc] 30))
    have QP := hid (Blk.new w1 #[.int .i64 s.o, .int .i64 s.a, .int .i64 s.p, .bool s.t, .slice s.ka s.kn s.kc] 30)
    clear k1 k2 hb
    try clear c_K f_K l_K
    have c_K := fun (o : Nat) => QP.out.cell o
    have f_K := fun (o : Nat) => QP.out.frz o
    have l_K := QP.out.lt
    go_wp2_with fail
    refine (StagesOf_c HP_1.out).mono ?_
    rintro e w2 ⟨rfl, hb⟩
    have HP_2 := hid (HP_1.out.go hb)
    have QK_2 := hid (QP.out.go hb)
    have HB_2 := hid (HB1.out.trans (hb.mono HB1.out.size))
    try clear c_K f_K l_K
    have c_K := fun (o : Nat) => QK_2.out.cell o
    have f_K := fun (o : Nat) => QK_2.out.frz o
    have l_K := QK_2.out.lt
    clear hb
    go_wp2_with fail
    refine (sStagesOf_c HP_2.out).mono ?_
    rintro e w3 ⟨rfl, hb⟩
    have HP_3 := hid (HP_2.out.go hb)
    have QK_3 := hid (QK_2.out.go hb)
    have HB_3 := hid (HB_2.out.trans (hb.mono HB_2.out.size))
    try clear c_K f_K l_K
    have c_K := fun (o : Nat) => QK_3.out.cell o
    have f_K := fun (o : Nat) => QK_3.out.frz o
    have l_K := QK_3.out.lt
    clear hb
    by_cases hneg : stgOut p < 0
    · have d1 : decide (stgOut p < 0) = true := decide_eq_true hneg
      clear hneg
      go_wp2_with fail
      refine (sStagesOf_c HP_3.out).mono ?_
      rintro e w4 ⟨rfl, hb⟩
      have HP_4 := hid (HP_3.out.go hb)
      have QK_4 := hid (QK_3.out.go hb)
      have HB_4 := hid (HB_3.out.trans (hb.mono HB_3.out.size))
      try clear c_K f_K l_K
      have c_K := fun (o : Nat) => QK_4.out.cell o
      have f_K := fun (o : Nat) => QK_4.out.frz o
      have l_K := QK_4.out.lt
      clear hb
      go_wp2
      go_ret
      exact ⟨rfl, HB_4.out⟩
    · have d1 : decide (stgOut p < 0) = false := decide_eq_false hneg
      obtain ⟨g1, g2⟩ := stg_cuts hneg
      have d2 : decide (stgOut p ≤ treeOut cutI p) = true := decide_eq_true g1
      clear hneg g1
      go_wp2_with fail
      refine (CutsOf_c HP_3.out).mono ?_
      rintro e w4 ⟨rfl, hb⟩
      have HP_4 := hid (HP_3.out.go hb)
      have QK_4 := hid (QK_3.out.go hb)
      have HB_4 := hid (HB_3.out.trans (hb.mono HB_3.out.size))
      try clear c_K f_K l_K
      have c_K := fun (o : Nat) => QK_4.out.cell o
      have f_K := fun (o : Nat) => QK_4.out.frz o
      have l_K := QK_4.out.lt
      clear hb
      go_wp2_with fail
      refine (CutsOf_c HP_4.out).mono ?_
      rintro e w5 ⟨rfl, hb⟩
      have HP_5 := hid (HP_4.out.go hb)
      have QK_5 := hid (QK_4.out.go hb)
      have HB_5 := hid (HB_4.out.trans (hb.mono HB_4.out.size))
      try clear c_K f_K l_K
      have c_K := fun (o : Nat) => QK_5.out.cell o
      have f_K := fun (o : Nat) => QK_5.out.frz o
      have l_K := QK_5.out.lt
      clear hb
      have HE : Hid (((stgOut p == 0) == (treeOut cutI p == 0)) = true) := by rw [Hid, beq_iff_eq, Bool.eq_iff_iff, beq_iff_eq, beq_iff_eq]; exact g2
      clear g2
      go_wp2
      go_ret
      exact ⟨ret_bool HE.out, HB_5.out⟩

end Go.Proofs.Ytafcohmneeabbaa
