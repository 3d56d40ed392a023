/-
  Contract: LeftOver of the program; LeftOver of the reference.
-/
import Derived.Test.YtcfhncckeedipaaLeft
namespace Go.Proofs.Ytcfhncckeedipaa
set_option linter.unusedSimpArgs false
set_option linter.unusedVariables false
open Go.RowKit

set_option maxHeartbeats 4000000 in
set_option maxRecDepth 100000 in
theorem LeftOver_y (a b : Bx) (w : World) (ha : VB a) (hb : VB b) (hm : mtB a b = true) : Calls Try.prog 39 #[.agg #[.int .i64 a.x, .int .i64 a.y, .int .i64 a.w, .int .i64 a.h], .agg #[.int .i64 b.x, .int .i64 b.y, .int .i64 b.w, .int .i64 b.h]] w fun e w' =>
    ∃ v, e = .returned v ∧ Own boxE 44 w.heap.size w' v (leftOut a b) ∧ Below w.heap.size w w' := by
  obtain ⟨i0, hi0, hz0, hz1, hz2⟩ := info_parts box_info
  have HA := hid (vbB_iff.2 ha)
  have HBb := hid (vbB_iff.2 hb)
  have hmv := meetRaw_valid ha hb (mtB_iff.1 hm)
  have HL : Hid (leftOut a b = (parts4 a (meetRaw a b)).filter goodB) := by
    rw [Hid, parts4_good a _ ha hmv, leftOut, if_pos ⟨HA.out, HBb.out⟩, leftL, if_pos hm]
  go_enter Try.func39, Try.ntmps39
  go_wp2_with fail
  refine (ValidBox_c a _).mono ?_
  rintro e w1 ⟨rfl, hb1⟩
  rw [HA.out]
  obtain ⟨hc1, hf1, hs1⟩ := bcell hb1
  have HB1 := hid hb1
  clear hb1
  go_wp2_with fail
  refine (ValidBox_c b _).mono ?_
  rintro e w2 ⟨rfl, hb2⟩
  rw [HBb.out]
  have hb12 := HB1.out.trans (hb2.mono HB1.out.size)
  clear hc1 hf1 hs1 hb2
  obtain ⟨hc2, hf2, hs2⟩ := bcell hb12
  have HB2 := hid hb12
  clear hb12
  go_wp2_with fail
  refine (MeetOf_t a b _ ha hb hm).mono ?_
  rintro e w3 ⟨rfl, hb3⟩
  obtain ⟨m, hmm⟩ : ∃ m, meetRaw a b = m := ⟨_, rfl⟩
  rw [hmm] at hmv HL ⊢
  have hb123 := HB2.out.trans (hb3.mono HB2.out.size)
  clear hc2 hf2 hs2 hb3
  obtain ⟨hc3, hf3, hs3⟩ := bcell hb123
  have hlt3 : w.heap.size < w3.heap.size := by have := hs3; simp at this; omega
  have HBW : Hid (Below w.heap.size w w3) := (((Below.refl _ _).alloc (Nat.le_refl _) _).alloc (by simp) _).trans (hb123.mono (by simp; omega))
  clear hb123 hmm hm
  unfold VB at ha hb hmv
  obtain ⟨a1, a2, a3, a4, a5, a6, a7, a8⟩ := ha
  obtain ⟨m1, m2, m3, m4, m5, m6, m7, m8⟩ := hmv
  clear hb
  go_wp2
  obtain ⟨W, hW⟩ : ∃ W, ((w3.alloc (.cells #[.int .i64 m.x, .int .i64 m.y, .int .i64 m.w, .int .i64 m.h] 44)).alloc (.cells #[.int .i64 a.x, .int .i64 a.y, .int .i64 (m.x - a.x), .int .i64 a.h, .int .i64 (m.x + m.w), .int .i64 a.y, .int .i64 (a.x + a.w - m.x - m.w), .int .i64 a.h, .int .i64 m.x, .int .i64 a.y, .int .i64 m.w, .int .i64 (m.y - a.y), .int .i64 m.x, .int .i64 (m.y + m.h), .int .i64 m.w, .int .i64 (a.y + a.h - m.y - m.h)] 44)) = W := ⟨_, rfl⟩
  have HOP : Hid (Own boxE 44 (w3.heap.size + 1) W (.slice (some ⟨w3.heap.size + 1, 0, none⟩) 4 4) (parts4 a m)) := by
    have := Own.lit boxE (w3.alloc (.cells #[.int .i64 m.x, .int .i64 m.y, .int .i64 m.w, .int .i64 m.h] 44)) (w3.heap.size + 1) 44 #[.int .i64 a.x, .int .i64 a.y, .int .i64 (m.x - a.x), .int .i64 a.h, .int .i64 (m.x + m.w), .int .i64 a.y, .int .i64 (a.x + a.w - m.x - m.w), .int .i64 a.h, .int .i64 m.x, .int .i64 a.y, .int .i64 m.w, .int .i64 (m.y - a.y), .int .i64 m.x, .int .i64 (m.y + m.h), .int .i64 m.w, .int .i64 (a.y + a.h - m.y - m.h)] (parts4 a m) 4 rfl rfl (by simp) (by simp [maxLen])
    rw [Hid, ← hW]
    simpa using this
  have HBWW : Hid (Below w.heap.size w W) := by rw [Hid, ← hW]; exact (HBW.out.alloc (by omega) _).alloc (by simp; omega) _
  rw [hW]
  have hP : (parts4 a m).length = 4 := rfl
  obtain ⟨P, hPP⟩ : ∃ P, P = parts4 a m := ⟨_, rfl⟩
  rw [← hPP] at HOP HL hP
  clear hPP hW
  have hPr := HOP.out.rowB
  have HPR := hid hPr
  clear hPr
  go_loopw [8, 98] (fun v i wr => ∃ k : Nat, i = .int .i64 k ∧ k ≤ 4 ∧ Below W.heap.size W wr ∧ Own boxE 44 W.heap.size wr v ((P.take k).filter goodB)) (fun _ i _ => 4 - (intOf i).toNat)
  case atStart => exact ⟨0, rfl, by omega, Below.refl _ _, Own.nil_ _ _ _⟩
  case round =>
    obtain ⟨k, rfl, hk, hb, ho⟩ := hrel
    by_cases hlt : k < 4
    · have hkP : k < P.length := by omega
      obtain ⟨bp, op, hA, -, hx⟩ := row_boxs (HPR.out.below hb) (by omega)
      injection hA with hA
      injection hA with hA1 hA2
      obtain ⟨hx0, hx1, hx2, hx3⟩ := hx k hkP
      have hll : ((P.take k).filter goodB).length ≤ 4194304 := Nat.le_trans (List.length_filter_le _ _) (by rw [List.length_take]; omega)
      have HLL := hid hll
      have HB := hid hb
      have HO := hid ho
      have hsb := hb.size
      have hts : P.take (k + 1) = P.take k ++ [P[k]] := List.take_succ_eq_append_getElem hkP
      subst hA1; subst hA2
      simp only [Nat.zero_add] at hx0 hx1 hx2 hx3
      clear hx hb ho hll
      by_cases hg : 0 < P[k].w ∧ 0 < P[k].h
      · have HF : Hid ((P.take (k + 1)).filter goodB = (P.take k).filter goodB ++ [P[k]]) := by
          rw [Hid, hts, List.filter_append]; simp [goodB, hg]
        obtain ⟨hg1, hg2⟩ := hg
        obtain ⟨L2, hL2⟩ : ∃ M : List Bx, M = (P.take k).filter goodB ++ [P[k]] := ⟨_, rfl⟩
        have HL2 := hid hL2
        clear hL2 hts
        go_wp2_with (at_builtin; refine wpList_pushN boxE _ rfl (.tmp 110) (.tmp 112) _ rfl W.heap.size 44 i0 _ 32 Try.underlying47 hi0 hz0 hz1 hz2 rfl (by omega) _ _ rfl (HO.out.alloc _) _ P[k] _ rfl rfl (by simp) HLL.out (by simp; omega) L2 HL2.out ?_)
        intro v' w' ho' hg' hat'
        have HO' := hid ho'
        have HB' := hid ((HB.out.alloc hsb _).grown hg' (by simp; omega) (fun q hq => (HO.out.lt q hq).1))
        clear ho' hg' hat'
        go_wp2
        exact ⟨⟨k + 1, by go_num, by omega, HB'.out, by rw [HF.out, ← HL2.out]; exact HO'.out⟩, by simp [intOf]; omega⟩
      · have HF : Hid ((P.take (k + 1)).filter goodB = (P.take k).filter goodB) := by
          rw [Hid, hts, List.filter_append]; simp [goodB, hg]
        by_cases hg1 : 0 < P[k].w
        · have hg2 : P[k].h ≤ 0 := by omega
          clear hg hts
          go_wp2
          exact ⟨⟨k + 1, by go_num, by omega, HB.out.alloc hsb _, by rw [HF.out]; exact HO.out.alloc _⟩, by simp [intOf]; omega⟩
        · have hg2 : P[k].w ≤ 0 := by omega
          clear hg hg1 hts
          go_wp2
          exact ⟨⟨k + 1, by go_num, by omega, HB.out.alloc hsb _, by rw [HF.out]; exact HO.out.alloc _⟩, by simp [intOf]; omega⟩
    · have e : P.take k = P := List.take_of_length_le (by omega)
      rw [e] at ho
      have HO := hid ho
      have HB := hid hb
      clear e ho hb
      go_wp2
      go_ret
      refine ⟨_, rfl, ?_, HBWW.out.trans (HB.out.mono HBWW.out.size)⟩
      rw [HL.out]
      exact HO.out.base_le HBWW.out.size

set_option maxHeartbeats 4000000 in
set_option maxRecDepth 100000 in
theorem LeftOver_c (a b : Bx) (w : World) : Calls Try.prog 39 #[.agg #[.int .i64 a.x, .int .i64 a.y, .int .i64 a.w, .int .i64 a.h], .agg #[.int .i64 b.x, .int .i64 b.y, .int .i64 b.w, .int .i64 b.h]] w fun e w' =>
    ∃ v, e = .returned v ∧ Own boxE 44 w.heap.size w' v (leftOut a b) ∧ Below w.heap.size w w' := by
  by_cases ha : VB a
  · have HA := hid (vbB_iff.2 ha)
    by_cases hb : VB b
    · by_cases hm : mtB a b = true
      · exact LeftOver_y a b w ha hb hm
      · have hm' : mtB a b = false := by simpa using hm
        have HBb := hid (vbB_iff.2 hb)
        have HL : Hid (leftOut a b = [a]) := by
          rw [Hid, leftOut, if_pos ⟨HA.out, HBb.out⟩, leftL, if_neg hm]
        go_enter Try.func39, Try.ntmps39
        go_wp2_with fail
        refine (ValidBox_c a _).mono ?_
        rintro e w1 ⟨rfl, hb1⟩
        rw [HA.out]
        obtain ⟨hc1, hf1, hs1⟩ := bcell hb1
        have HB1 := hid hb1
        clear hb1
        go_wp2_with fail
        refine (ValidBox_c b _).mono ?_
        rintro e w2 ⟨rfl, hb2⟩
        rw [HBb.out]
        have hb12 := HB1.out.trans (hb2.mono HB1.out.size)
        clear hc1 hf1 hs1 hb2
        obtain ⟨hc2, hf2, hs2⟩ := bcell hb12
        have HB2 := hid hb12
        clear hb12
        go_wp2_with fail
        refine (MeetOf_f a b _ ha hb hm').mono ?_
        rintro e w3 ⟨rfl, hb3⟩
        have hb123 := HB2.out.trans (hb3.mono HB2.out.size)
        clear hc2 hf2 hs2 hb3
        obtain ⟨hc3, hf3, hs3⟩ := bcell hb123
        have hlt3 : w.heap.size < w3.heap.size := by have := hs3; simp at this; omega
        have HBW : Hid (Below w.heap.size w w3) := (((Below.refl _ _).alloc (Nat.le_refl _) _).alloc (by simp) _).trans (hb123.mono (by simp; omega))
        clear hb123 hm hm' ha hb
        go_wp2
        go_ret
        refine ⟨_, rfl, ?_, (HBW.out.alloc (by omega) _).alloc (by simp; omega) _⟩
        rw [HL.out]
        have := Own.lit boxE (w3.alloc (.cells #[.int .i64 0, .int .i64 0, .int .i64 0, .int .i64 0] 44)) w.heap.size 44 #[.int .i64 a.x, .int .i64 a.y, .int .i64 a.w, .int .i64 a.h] [a] 1 rfl rfl (by simp; omega) (by simp [maxLen])
        simpa using this
    · have hb' := vbB_not.2 hb
      have HBb := hid hb'
      have HL : Hid (leftOut a b = []) := by rw [Hid, leftOut, if_neg (by rw [HBb.out]; simp)]
      clear hb hb' ha
      go_enter Try.func39, Try.ntmps39
      go_wp2_with fail
      refine (ValidBox_c a _).mono ?_
      rintro e w1 ⟨rfl, hb1⟩
      rw [HA.out]
      obtain ⟨hc1, hf1, hs1⟩ := bcell hb1
      have HB1 := hid hb1
      clear hb1
      go_wp2_with fail
      refine (ValidBox_c b _).mono ?_
      rintro e w2 ⟨rfl, hb2⟩
      rw [HBb.out]
      have HB2 := hid (HB1.out.trans (hb2.mono HB1.out.size))
      clear hb2
      go_wp2
      go_ret
      refine ⟨_, rfl, ?_, (((Below.refl _ _).alloc (Nat.le_refl _) _).alloc (by simp) _).trans (HB2.out.mono (by simp; omega))⟩
      rw [HL.out]
      exact Own.nil_ _ _ _
  · have ha' := vbB_not.2 ha
    have HA := hid ha'
    have HL : Hid (leftOut a b = []) := by rw [Hid, leftOut, if_neg (by rw [HA.out]; simp)]
    clear ha ha'
    go_enter Try.func39, Try.ntmps39
    go_wp2_with fail
    refine (ValidBox_c a _).mono ?_
    rintro e w1 ⟨rfl, hb1⟩
    rw [HA.out]
    have HB2 := hid hb1
    clear hb1
    go_wp2
    go_ret
    refine ⟨_, rfl, ?_, (((Below.refl _ _).alloc (Nat.le_refl _) _).alloc (by simp) _).trans (HB2.out.mono (by simp; omega))⟩
    rw [HL.out]
    exact Own.nil_ _ _ _

set_option maxHeartbeats 1600000 in
theorem sLeftOver_c (a b : Bx) (w : World) : Calls Try.prog 41 #[.agg #[.int .i64 a.x, .int .i64 a.y, .int .i64 a.w, .int .i64 a.h], .agg #[.int .i64 b.x, .int .i64 b.y, .int .i64 b.w, .int .i64 b.h]] w fun e w' =>
    ∃ v, e = .returned v ∧ Own boxE 44 w.heap.size w' v (leftOut a b) ∧ Below w.heap.size w w' := by
  by_cases ha : VB a
  · have HA := hid (vbB_iff.2 ha)
    by_cases hb : VB b
    · have HBb := hid (vbB_iff.2 hb)
      have HL : Hid (leftOut a b = leftL a b) := by rw [Hid, leftOut, if_pos ⟨HA.out, HBb.out⟩]
      have HVA := hid ha
      have HVB := hid hb
      clear ha hb
      go_enter Try.func41, Try.ntmps41
      go_wp2_with fail
      refine (svalidBox_c a _).mono ?_
      rintro e w1 ⟨rfl, hb1⟩
      rw [HA.out]
      obtain ⟨hc1, hf1, hs1⟩ := bcell hb1
      have HB1 := hid hb1
      clear hb1
      go_wp2_with fail
      refine (svalidBox_c b _).mono ?_
      rintro e w2 ⟨rfl, hb2⟩
      rw [HBb.out]
      have hb12 := HB1.out.trans (hb2.mono HB1.out.size)
      clear hc1 hf1 hs1 hb2
      obtain ⟨hc2, hf2, hs2⟩ := bcell hb12
      have HBW : Hid (Below w.heap.size w w2) := (((Below.refl _ _).alloc (Nat.le_refl _) _).alloc (by simp) _).trans (hb12.mono (by simp; omega))
      clear hb12
      go_wp2_with fail
      refine (sleftOver_c a b _ HVA.out HVB.out).mono ?_
      rintro e w3 ⟨v3, rfl, ho3, hb3⟩
      have HO := hid ho3
      have HB3 := hid (HBW.out.trans (hb3.mono HBW.out.size))
      clear ho3 hb3
      go_wp2
      go_ret
      refine ⟨_, rfl, ?_, HB3.out⟩
      rw [HL.out]
      exact HO.out.base_le HBW.out.size
    · have hb' := vbB_not.2 hb
      have HBb := hid hb'
      have HL : Hid (leftOut a b = []) := by rw [Hid, leftOut, if_neg (by rw [HBb.out]; simp)]
      clear hb hb' ha
      go_enter Try.func41, Try.ntmps41
      go_wp2_with fail
      refine (svalidBox_c a _).mono ?_
      rintro e w1 ⟨rfl, hb1⟩
      rw [HA.out]
      obtain ⟨hc1, hf1, hs1⟩ := bcell hb1
      have HB1 := hid hb1
      clear hb1
      go_wp2_with fail
      refine (svalidBox_c b _).mono ?_
      rintro e w2 ⟨rfl, hb2⟩
      rw [HBb.out]
      have HB2 := hid (HB1.out.trans (hb2.mono HB1.out.size))
      clear hb2
      go_wp2
      go_ret
      refine ⟨_, rfl, ?_, (((Below.refl _ _).alloc (Nat.le_refl _) _).alloc (by simp) _).trans (HB2.out.mono (by simp; omega))⟩
      rw [HL.out]
      exact Own.nil_ _ _ _
  · have ha' := vbB_not.2 ha
    have HA := hid ha'
    have HL : Hid (leftOut a b = []) := by rw [Hid, leftOut, if_neg (by rw [HA.out]; simp)]
    clear ha ha'
    go_enter Try.func41, Try.ntmps41
    go_wp2_with fail
    refine (svalidBox_c a _).mono ?_
    rintro e w1 ⟨rfl, hb1⟩
    rw [HA.out]
    have HB2 := hid hb1
    clear hb1
    go_wp2
    go_ret
    refine ⟨_, rfl, ?_, (((Below.refl _ _).alloc (Nat.le_refl _) _).alloc (by simp) _).trans (HB2.out.mono (by simp; omega))⟩
    rw [HL.out]
    exact Own.nil_ _ _ _

end Go.Proofs.Ytcfhncckeedipaa
