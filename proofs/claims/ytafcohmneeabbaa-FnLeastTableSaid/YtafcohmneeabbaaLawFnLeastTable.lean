/-
  The law FnLeastTable, walked (written by a program of mine).
-/
import Derived.Test.YtafcohmneeabbaaGrowE
import Derived.Test.YtafcohmneeabbaaPlanCnt
namespace Go.Proofs.Ytafcohmneeabbaa
set_option linter.unusedSimpArgs false
set_option linter.unusedVariables false
open Go.RowKit

theorem lst_pow : ∀ t : Tr, 2 ^ (lst t).toNat ≤ cuts t + 1 ∧ (lst t = 0 ↔ cuts t = 0) := by
  intro t
  induction t with
  | leaf o p t => simp [lst, cuts]
  | cut o a l r il ir =>
    have h1 := lst_bd l
    have h2 := lst_bd r
    simp only [lst, cuts]
    by_cases h : lst l = lst r
    · rw [if_pos h]
      have e : (lst l + 1).toNat = (lst l).toNat + 1 := by omega
      rw [e, Nat.pow_succ]
      have i2 := ir.1
      rw [← h] at i2
      refine ⟨by omega, by omega⟩
    · rw [if_neg h]
      refine ⟨?_, by omega⟩
      rcases Int.le_total (lst l) (lst r) with h3 | h3
      · rw [Int.max_eq_right h3]; omega
      · rw [Int.max_eq_left h3]; omega
theorem lst_cuts {p : Pl} (h : ¬ treeOut lst p < 0) : ∃ d : Nat, treeOut lst p = d ∧ d ≤ 7 ∧ ((2 ^ d : Nat) : Int) - 1 ≤ treeOut cutI p ∧ (treeOut lst p = 0 ↔ treeOut cutI p = 0) := by
  unfold treeOut at h
  cases hw : wf p with
  | none => rw [hw] at h; simp at h
  | some t =>
    rw [hw] at h
    simp only at h
    by_cases hn : (nodes t : Int) ≤ 255
    · rw [treeOut_some hw hn, treeOut_some hw hn, cutI]
      have h1 := lst_bd t
      obtain ⟨h2, h3⟩ := lst_pow t
      have h4 := nodes_cuts t
      refine ⟨(lst t).toNat, by omega, ?_, by omega, by omega⟩
      rcases Nat.lt_or_ge 7 (lst t).toNat with h5 | h5
      · exfalso
        have := Nat.pow_le_pow_right (n := 2) (by omega) (show 8 ≤ (lst t).toNat from h5)
        omega
      · exact h5
    · rw [if_neg hn] at h; omega
theorem two_pow_bd {k : Nat} (h : k ≤ 7) : 2 ^ k ≤ 128 := Nat.pow_le_pow_right (n := 2) (by omega) h

set_option maxHeartbeats 12800000 in
set_option maxRecDepth 100000 in
theorem FnLeastTable_c (v : Value) (L : List Int) (w : World) (h : Row byteE w v L ∧ ∀ x ∈ L, 0 ≤ x ∧ x ≤ 255) : Calls Try.prog 6 #[v] w fun e w' => e = .returned (.bool true) ∧ Below w.heap.size w w' := by
  obtain ⟨h, hb⟩ := h
  obtain ⟨A, c, rfl, hc1, hm1⟩ := h.form
  unfold maxLen at hm1
  by_cases hle : 1048576 < L.length
  · have hd : decide ((1048576 : Int) < (L.length : Int)) = true := by simp; omega
    go_enter Try.func6, Try.ntmps6
    go_wp2
    go_ret
    exact ⟨rfl, Below.refl _ _⟩
  · have hd : decide ((1048576 : Int) < (L.length : Int)) = false := by simp; omega
    have HH := hid h
    have HB := hid hb
    clear h hb hle
    go_enter Try.func6, Try.ntmps6
    go_wp2_with fail
    refine (DrawLeastTable_c _ L _ HH.out HB.out).mono ?_
    rintro e w1 ⟨n, s, p, rfl, k1, k2, hb⟩
    have HP_1 := hid ((PlanDraw.pr k1 k2).go ((Below.refl _ _).alloc (Nat.le_refl _) (.cells #[.int .i64 s.o, .int .i64 s.a, .int .i64 s.p, .bool s.t, .slice s.ka s.kn s.kc] 30)))
    have HB1 := hid (hb.alloc hb.size (.cells #[.int .i64 s.o, .int .i64 s.a, .int .i64 s.p, .bool s.t, .slice s.ka s.kn s.kc] 30))
    have QP := hid (Blk.new w1 #[.int .i64 s.o, .int .i64 s.a, .int .i64 s.p, .bool s.t, .slice s.ka s.kn s.kc] 30)
    clear k1 k2 hb
    try clear c_K f_K l_K
    have c_K := fun (o : Nat) => QP.out.cell o
    have f_K := fun (o : Nat) => QP.out.frz o
    have l_K := QP.out.lt
    go_wp2_with fail
    refine (LeastTable_c HP_1.out).mono ?_
    rintro e w2 ⟨rfl, hb⟩
    have HP_2 := hid (HP_1.out.go hb)
    have QK_2 := hid (QP.out.go hb)
    have HB_2 := hid (HB1.out.trans (hb.mono HB1.out.size))
    try clear c_K f_K l_K
    have c_K := fun (o : Nat) => QK_2.out.cell o
    have f_K := fun (o : Nat) => QK_2.out.frz o
    have l_K := QK_2.out.lt
    clear hb
    go_wp2_with fail
    refine (sLeastTable_c HP_2.out).mono ?_
    rintro e w3 ⟨rfl, hb⟩
    have HP_3 := hid (HP_2.out.go hb)
    have QK_3 := hid (QK_2.out.go hb)
    have HB_3 := hid (HB_2.out.trans (hb.mono HB_2.out.size))
    try clear c_K f_K l_K
    have c_K := fun (o : Nat) => QK_3.out.cell o
    have f_K := fun (o : Nat) => QK_3.out.frz o
    have l_K := QK_3.out.lt
    clear hb
    by_cases hneg : treeOut lst p < 0
    · have d1 : decide (treeOut lst p < 0) = true := decide_eq_true hneg
      clear hneg
      go_wp2_with fail
      refine (sLeastTable_c HP_3.out).mono ?_
      rintro e w4 ⟨rfl, hb⟩
      have HP_4 := hid (HP_3.out.go hb)
      have QK_4 := hid (QK_3.out.go hb)
      have HB_4 := hid (HB_3.out.trans (hb.mono HB_3.out.size))
      try clear c_K f_K l_K
      have c_K := fun (o : Nat) => QK_4.out.cell o
      have f_K := fun (o : Nat) => QK_4.out.frz o
      have l_K := QK_4.out.lt
      clear hb
      go_wp2
      go_ret
      exact ⟨rfl, HB_4.out⟩
    · have d1 : decide (treeOut lst p < 0) = false := decide_eq_false hneg
      obtain ⟨d, g0, g1, g2, g3⟩ := lst_cuts hneg
      have G0 := hid g0
      have G3 := hid g3
      rw [g0]
      rw [g0] at d1
      clear hneg g0 g3
      obtain ⟨wo, rfl⟩ : ∃ wo : World, wo = w3 := ⟨_, rfl⟩
      go_wp2
      go_loop [5, 6] (fun n i => ∃ k : Nat, n = .int .i64 ((2 ^ k : Nat) : Int) ∧ i = .int .i64 k ∧ k ≤ d) (fun _ i => d - (intOf i).toNat)
      case atStart => exact ⟨0, rfl, rfl, by omega⟩
      case round =>
        obtain ⟨k, rfl, rfl, hk⟩ := hrel
        have hpb := two_pow_bd (show k ≤ 7 by omega)
        by_cases hlt : k < d
        · have HS : Hid (((2 ^ (k + 1) : Nat) : Int) = 2 * ((2 ^ k : Nat) : Int)) := by rw [Hid, Nat.pow_succ]; omega
          obtain ⟨q, hq⟩ : ∃ q : Nat, q = 2 ^ k := ⟨_, rfl⟩
          rw [← hq] at HS hpb ⊢
          clear hq
          go_wp2
          go_round
          case rel => exact ⟨k + 1, by rw [HS.out], by go_num, by omega⟩
          case measure => simp [intOf]; omega
        · obtain rfl : k = d := by omega
          have g2' := g2
          obtain ⟨q, hq⟩ : ∃ q : Nat, q = 2 ^ k := ⟨_, rfl⟩
          rw [← hq] at g2 hpb ⊢
          clear hq g2'
          have d2 : decide ((q : Int) - 1 ≤ treeOut cutI p) = true := decide_eq_true g2
          go_wp2_with fail
          refine (CutsOf_c HP_3.out).mono ?_
          rintro e w4 ⟨rfl, hb⟩
          have HP_4 := hid (HP_3.out.go hb)
          have QK_4 := hid (QK_3.out.go hb)
          have HB_4 := hid (HB_3.out.trans (hb.mono HB_3.out.size))
          try clear c_K f_K l_K
          have c_K := fun (o : Nat) => QK_4.out.cell o
          have f_K := fun (o : Nat) => QK_4.out.frz o
          have l_K := QK_4.out.lt
          clear hb
          go_wp2_with fail
          refine (CutsOf_c HP_4.out).mono ?_
          rintro e w5 ⟨rfl, hb⟩
          have HP_5 := hid (HP_4.out.go hb)
          have QK_5 := hid (QK_4.out.go hb)
          have HB_5 := hid (HB_4.out.trans (hb.mono HB_4.out.size))
          try clear c_K f_K l_K
          have c_K := fun (o : Nat) => QK_5.out.cell o
          have f_K := fun (o : Nat) => QK_5.out.frz o
          have l_K := QK_5.out.lt
          clear hb
          have HE : Hid ((((k : Int) == 0) == (treeOut cutI p == 0)) = true) := by have h1 := G0.out; have h2 := G3.out; rw [Hid, beq_iff_eq, Bool.eq_iff_iff, beq_iff_eq, beq_iff_eq]; omega
          go_wp2
          go_ret
          exact ⟨ret_bool HE.out, HB_5.out⟩

end Go.Proofs.Ytafcohmneeabbaa
