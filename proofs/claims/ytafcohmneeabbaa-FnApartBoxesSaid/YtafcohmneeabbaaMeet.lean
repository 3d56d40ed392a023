/-
  Contracts: valid boxes, and what two boxes have in common (the program's and the reference's).
-/
import Derived.Test.YtafcohmneeabbaaBoxP
import Derived.Test.YtafcohmneeabbaaRange
namespace Go.Proofs.Ytafcohmneeabbaa
set_option linter.unusedSimpArgs false
set_option linter.unusedVariables false
open Go.RowKit

theorem below_box {b : Bx} {t : TypeId} {w w' : World} (h : Dr (w.alloc (.cells #[.int .i64 b.x, .int .i64 b.y, .int .i64 b.w, .int .i64 b.h] t)) w') : Below w.heap.size w w' := ((Below.refl _ _).alloc (Nat.le_refl _) _).trans (h.below _)

set_option maxHeartbeats 1600000 in
theorem svalidBox_c (b : Bx) (w : World) : Calls Try.prog 67 #[.agg #[.int .i64 b.x, .int .i64 b.y, .int .i64 b.w, .int .i64 b.h]] w fun e w' => e = .returned (.bool (vbB b)) ∧ Below w.heap.size w w' := by
  by_cases h0 : 1 ≤ b.w ∧ b.w ≤ 200
  · obtain ⟨h0a, h0b⟩ := h0
    by_cases h1 : 1 ≤ b.h ∧ b.h ≤ 200
    · obtain ⟨h1a, h1b⟩ := h1
      by_cases h2 : 0 ≤ b.x ∧ b.x ≤ 200 - b.w
      · obtain ⟨h2a, h2b⟩ := h2
        by_cases h3 : 0 ≤ b.y ∧ b.y ≤ 200 - b.h
        · obtain ⟨h3a, h3b⟩ := h3
          have HV : Hid (vbB b = true) := by rw [Hid, vbB_iff]; unfold VB; omega
          go_enter Try.func67, Try.ntmps67
          go_wp2_with fail
          refine (inRange_t _ _ _ _ h0a h0b).mono ?_; rintro e w1 ⟨rfl, rfl⟩
          go_wp2_with fail
          refine (inRange_t _ _ _ _ h1a h1b).mono ?_; rintro e w1 ⟨rfl, rfl⟩
          go_wp2_with fail
          refine (inRange_t _ _ _ _ h2a h2b).mono ?_; rintro e w1 ⟨rfl, rfl⟩
          go_wp2_with fail
          refine (inRange_t _ _ _ _ h3a h3b).mono ?_; rintro e w1 ⟨rfl, rfl⟩
          go_wp2
          go_ret
          exact ⟨ret_bool HV.out.symm, (Below.refl _ _).alloc (Nat.le_refl _) _⟩
        · have hn : b.y < 0 ∨ 200 - b.h < b.y := by omega
          have HV : Hid (vbB b = false) := by rw [Hid, vbB_not]; unfold VB; omega
          have HN := hid hn
          clear hn h3
          go_enter Try.func67, Try.ntmps67
          go_wp2_with fail
          refine (inRange_t _ _ _ _ h0a h0b).mono ?_; rintro e w1 ⟨rfl, rfl⟩
          go_wp2_with fail
          refine (inRange_t _ _ _ _ h1a h1b).mono ?_; rintro e w1 ⟨rfl, rfl⟩
          go_wp2_with fail
          refine (inRange_t _ _ _ _ h2a h2b).mono ?_; rintro e w1 ⟨rfl, rfl⟩
          go_wp2_with fail
          refine (inRange_f _ _ _ _ HN.out).mono ?_; rintro e w1 ⟨rfl, rfl⟩
          go_wp2
          go_ret
          exact ⟨ret_bool HV.out.symm, (Below.refl _ _).alloc (Nat.le_refl _) _⟩
      · have hn : b.x < 0 ∨ 200 - b.w < b.x := by omega
        have HV : Hid (vbB b = false) := by rw [Hid, vbB_not]; unfold VB; omega
        have HN := hid hn
        clear hn h2
        go_enter Try.func67, Try.ntmps67
        go_wp2_with fail
        refine (inRange_t _ _ _ _ h0a h0b).mono ?_; rintro e w1 ⟨rfl, rfl⟩
        go_wp2_with fail
        refine (inRange_t _ _ _ _ h1a h1b).mono ?_; rintro e w1 ⟨rfl, rfl⟩
        go_wp2_with fail
        refine (inRange_f _ _ _ _ HN.out).mono ?_; rintro e w1 ⟨rfl, rfl⟩
        go_wp2
        go_ret
        exact ⟨ret_bool HV.out.symm, (Below.refl _ _).alloc (Nat.le_refl _) _⟩
    · have hn : b.h < 1 ∨ 200 < b.h := by omega
      have HV : Hid (vbB b = false) := by rw [Hid, vbB_not]; unfold VB; omega
      have HN := hid hn
      clear hn h1
      go_enter Try.func67, Try.ntmps67
      go_wp2_with fail
      refine (inRange_t _ _ _ _ h0a h0b).mono ?_; rintro e w1 ⟨rfl, rfl⟩
      go_wp2_with fail
      refine (inRange_f _ _ _ _ HN.out).mono ?_; rintro e w1 ⟨rfl, rfl⟩
      go_wp2
      go_ret
      exact ⟨ret_bool HV.out.symm, (Below.refl _ _).alloc (Nat.le_refl _) _⟩
  · have hn : b.w < 1 ∨ 200 < b.w := by omega
    have HV : Hid (vbB b = false) := by rw [Hid, vbB_not]; unfold VB; omega
    have HN := hid hn
    clear hn h0
    go_enter Try.func67, Try.ntmps67
    go_wp2_with fail
    refine (inRange_f _ _ _ _ HN.out).mono ?_; rintro e w1 ⟨rfl, rfl⟩
    go_wp2
    go_ret
    exact ⟨ret_bool HV.out.symm, (Below.refl _ _).alloc (Nat.le_refl _) _⟩

set_option maxHeartbeats 1600000 in
theorem ValidBox_c (b : Bx) (w : World) : Calls Try.prog 66 #[.agg #[.int .i64 b.x, .int .i64 b.y, .int .i64 b.w, .int .i64 b.h]] w fun e w' => e = .returned (.bool (vbB b)) ∧ Below w.heap.size w w' := by
  have HV : Hid (∀ c : Bool, (c = true ↔ VB b) → c = vbB b) := fun c h => by rw [Bool.eq_iff_iff, vbB_iff]; exact h
  go_enter Try.func66, Try.ntmps66
  go_wp2
  all_goals
    go_ret
    refine ⟨ret_bool (HV.out _ ?_), (Below.refl _ _).alloc (Nat.le_refl _) _⟩
    unfold VB
    simp
    omega

theorem ite_max (a b : Int) : ∃ m, (if a < b then b else a) = m ∧ m = max a b := ⟨_, rfl, by split <;> omega⟩
theorem ite_min (a b : Int) : ∃ m, (if b < a then b else a) = m ∧ m = min a b := ⟨_, rfl, by split <;> omega⟩

set_option maxHeartbeats 1600000 in
theorem smeetOf_t (a b : Bx) (w : World) (ha : VB a) (hb : VB b) (h : mtB a b = true) : Calls Try.prog 68 #[.agg #[.int .i64 a.x, .int .i64 a.y, .int .i64 a.w, .int .i64 a.h], .agg #[.int .i64 b.x, .int .i64 b.y, .int .i64 b.w, .int .i64 b.h]] w fun e w' =>
    e = .returned (.tuple #[.agg #[.int .i64 (meetRaw a b).x, .int .i64 (meetRaw a b).y, .int .i64 (meetRaw a b).w, .int .i64 (meetRaw a b).h], .bool true]) ∧ Below w.heap.size w w' := by
  unfold VB at ha hb
  obtain ⟨a1, a2, a3, a4, a5, a6, a7, a8⟩ := ha
  obtain ⟨b1, b2, b3, b4, b5, b6, b7, b8⟩ := hb
  obtain ⟨mx, r1, e1⟩ := ite_max a.x b.x
  obtain ⟨my, r2, e2⟩ := ite_max a.y b.y
  obtain ⟨nx, r3, e3⟩ := ite_min (a.x + a.w) (b.x + b.w)
  obtain ⟨ny, r4, e4⟩ := ite_min (a.y + a.h) (b.y + b.h)
  have HME : Hid (meetRaw a b = ⟨mx, my, nx - mx, ny - my⟩) := by rw [Hid, e1, e2, e3, e4]; rfl
  have m1 : 0 ≤ mx := by omega
  have m2 : mx ≤ 200 := by omega
  have m3 : 0 ≤ my := by omega
  have m4 : my ≤ 200 := by omega
  have m5 : 0 ≤ nx := by omega
  have m6 : nx ≤ 200 := by omega
  have m7 : 0 ≤ ny := by omega
  have m8 : ny ≤ 200 := by omega
  clear e1 e2 e3 e4
  have hB : Below w.heap.size w ((w.alloc (.cells #[.int .i64 a.x, .int .i64 a.y, .int .i64 a.w, .int .i64 a.h] 53)).alloc (.cells #[.int .i64 b.x, .int .i64 b.y, .int .i64 b.w, .int .i64 b.h] 53)) := ((Below.refl _ _).alloc (Nat.le_refl _) _).alloc (by simp) _
  have HB := hid hB
  clear hB
  have hM := mtB_iff.1 h
  unfold Meets at hM
  rw [HME.out] at hM ⊢
  obtain ⟨hw, hh⟩ := hM
  simp only at hw hh ⊢
  clear h
  go_enter Try.func68, Try.ntmps68
  go_wp2
  exact bodyPost_ret (v := .tuple #[.agg #[.int .i64 mx, .int .i64 my, .int .i64 (nx - mx), .int .i64 (ny - my)], .bool true]) (by simp [results, Try.results68, go_sem]) rfl ⟨rfl, HB.out.alloc (by simp; omega) _⟩

set_option maxHeartbeats 1600000 in
theorem smeetOf_f (a b : Bx) (w : World) (ha : VB a) (hb : VB b) (h : mtB a b = false) : Calls Try.prog 68 #[.agg #[.int .i64 a.x, .int .i64 a.y, .int .i64 a.w, .int .i64 a.h], .agg #[.int .i64 b.x, .int .i64 b.y, .int .i64 b.w, .int .i64 b.h]] w fun e w' =>
    e = .returned (.tuple #[.agg #[.int .i64 0, .int .i64 0, .int .i64 0, .int .i64 0], .bool false]) ∧ Below w.heap.size w w' := by
  unfold VB at ha hb
  obtain ⟨a1, a2, a3, a4, a5, a6, a7, a8⟩ := ha
  obtain ⟨b1, b2, b3, b4, b5, b6, b7, b8⟩ := hb
  obtain ⟨mx, r1, e1⟩ := ite_max a.x b.x
  obtain ⟨my, r2, e2⟩ := ite_max a.y b.y
  obtain ⟨nx, r3, e3⟩ := ite_min (a.x + a.w) (b.x + b.w)
  obtain ⟨ny, r4, e4⟩ := ite_min (a.y + a.h) (b.y + b.h)
  have HME : Hid (meetRaw a b = ⟨mx, my, nx - mx, ny - my⟩) := by rw [Hid, e1, e2, e3, e4]; rfl
  have m1 : 0 ≤ mx := by omega
  have m2 : mx ≤ 200 := by omega
  have m3 : 0 ≤ my := by omega
  have m4 : my ≤ 200 := by omega
  have m5 : 0 ≤ nx := by omega
  have m6 : nx ≤ 200 := by omega
  have m7 : 0 ≤ ny := by omega
  have m8 : ny ≤ 200 := by omega
  clear e1 e2 e3 e4
  have hB : Below w.heap.size w ((w.alloc (.cells #[.int .i64 a.x, .int .i64 a.y, .int .i64 a.w, .int .i64 a.h] 53)).alloc (.cells #[.int .i64 b.x, .int .i64 b.y, .int .i64 b.w, .int .i64 b.h] 53)) := ((Below.refl _ _).alloc (Nat.le_refl _) _).alloc (by simp) _
  have HB := hid hB
  clear hB
  have hM := mtB_not.1 h
  unfold Meets at hM
  rw [HME.out] at hM
  simp only at hM
  clear h
  by_cases hw : nx - mx ≤ 0
  · clear hM
    go_enter Try.func68, Try.ntmps68
    go_wp2
    exact bodyPost_ret (v := .tuple #[.agg #[.int .i64 0, .int .i64 0, .int .i64 0, .int .i64 0], .bool false]) (by simp [results, Try.results68, go_sem]) rfl ⟨rfl, HB.out.alloc (by simp; omega) _⟩
  · have hh : ny - my ≤ 0 := by omega
    have hw' : 0 < nx - mx := by omega
    clear hM hw
    go_enter Try.func68, Try.ntmps68
    go_wp2
    exact bodyPost_ret (v := .tuple #[.agg #[.int .i64 0, .int .i64 0, .int .i64 0, .int .i64 0], .bool false]) (by simp [results, Try.results68, go_sem]) rfl ⟨rfl, HB.out.alloc (by simp; omega) _⟩

theorem below3 (w : World) (a b c : Obj) {w' : World} (h : Below (((w.alloc a).alloc b).alloc c).heap.size (((w.alloc a).alloc b).alloc c) w') : Below w.heap.size w w' :=
  ((((Below.refl _ _).alloc (Nat.le_refl _) _).alloc (by simp) _).alloc (by simp; omega) _).trans (h.mono (by simp; omega))

set_option maxHeartbeats 1600000 in
theorem MeetOf_n (a b : Bx) (w : World) (h : ¬ (VB a ∧ VB b)) : Calls Try.prog 40 #[.agg #[.int .i64 a.x, .int .i64 a.y, .int .i64 a.w, .int .i64 a.h], .agg #[.int .i64 b.x, .int .i64 b.y, .int .i64 b.w, .int .i64 b.h]] w fun e w' =>
    e = .returned (.tuple #[.agg #[.int .i64 0, .int .i64 0, .int .i64 0, .int .i64 0], .bool false]) ∧ Below w.heap.size w w' := by
  by_cases ha : vbB a = true
  · have hb : vbB b = false := by rw [vbB_not]; exact fun hb => h ⟨vbB_iff.1 ha, hb⟩
    have HA := hid ha
    have HBb := hid hb
    clear h ha hb
    go_enter Try.func40, Try.ntmps40
    go_wp2_with fail
    refine (ValidBox_c a _).mono ?_
    rintro e w1 ⟨rfl, hb1⟩
    rw [HA.out]
    obtain ⟨hc1, hf1, hs1⟩ := bcell hb1
    have HB1 := hid hb1
    clear hb1
    go_wp2_with fail
    refine (ValidBox_c b _).mono ?_
    rintro e w2 ⟨rfl, hb2⟩
    rw [HBb.out]
    have hb12 := HB1.out.trans (hb2.mono HB1.out.size)
    clear hc1 hf1 hs1 hb2
    obtain ⟨hc2, hf2, hs2⟩ := bcell hb12
    have HB2 := hid hb12
    clear hb12
    go_wp2
    exact bodyPost_ret (v := .tuple #[.agg #[.int .i64 0, .int .i64 0, .int .i64 0, .int .i64 0], .bool false]) (by simp [results, Try.results40, go_sem, hc2]) rfl ⟨rfl, below_set4 (below3 _ _ _ _ HB2.out) (le2 _) (le2 _) (le2 _) (le2 _) _ _ _ _⟩
  · have ha' : vbB a = false := by simpa using ha
    have HA := hid ha'
    clear h ha ha'
    go_enter Try.func40, Try.ntmps40
    go_wp2_with fail
    refine (ValidBox_c a _).mono ?_
    rintro e w1 ⟨rfl, hb1⟩
    rw [HA.out]
    obtain ⟨hc1, hf1, hs1⟩ := bcell hb1
    have HB2 := hid hb1
    clear hb1
    go_wp2
    exact bodyPost_ret (v := .tuple #[.agg #[.int .i64 0, .int .i64 0, .int .i64 0, .int .i64 0], .bool false]) (by simp [results, Try.results40, go_sem, hc1]) rfl ⟨rfl, below_set4 (below3 _ _ _ _ HB2.out) (le2 _) (le2 _) (le2 _) (le2 _) _ _ _ _⟩

set_option maxHeartbeats 1600000 in
theorem MeetOf_t (a b : Bx) (w : World) (ha : VB a) (hb : VB b) (h : mtB a b = true) : Calls Try.prog 40 #[.agg #[.int .i64 a.x, .int .i64 a.y, .int .i64 a.w, .int .i64 a.h], .agg #[.int .i64 b.x, .int .i64 b.y, .int .i64 b.w, .int .i64 b.h]] w fun e w' =>
    e = .returned (.tuple #[.agg #[.int .i64 (meetRaw a b).x, .int .i64 (meetRaw a b).y, .int .i64 (meetRaw a b).w, .int .i64 (meetRaw a b).h], .bool true]) ∧ Below w.heap.size w w' := by
  have HA := hid (vbB_iff.2 ha)
  have HBb := hid (vbB_iff.2 hb)
  unfold VB at ha hb
  obtain ⟨a1, a2, a3, a4, a5, a6, a7, a8⟩ := ha
  obtain ⟨b1, b2, b3, b4, b5, b6, b7, b8⟩ := hb
  obtain ⟨mx, r1, e1⟩ := ite_max a.x b.x
  obtain ⟨my, r2, e2⟩ := ite_max a.y b.y
  obtain ⟨nx, r3, e3⟩ := ite_min (a.x + a.w) (b.x + b.w)
  obtain ⟨ny, r4, e4⟩ := ite_min (a.y + a.h) (b.y + b.h)
  have HME : Hid (meetRaw a b = ⟨mx, my, nx - mx, ny - my⟩) := by rw [Hid, e1, e2, e3, e4]; rfl
  have m1 : 0 ≤ mx := by omega
  have m2 : mx ≤ 200 := by omega
  have m3 : 0 ≤ my := by omega
  have m4 : my ≤ 200 := by omega
  have m5 : 0 ≤ nx := by omega
  have m6 : nx ≤ 200 := by omega
  have m7 : 0 ≤ ny := by omega
  have m8 : ny ≤ 200 := by omega
  clear e1 e2 e3 e4
  have hM := mtB_iff.1 h
  unfold Meets at hM
  rw [HME.out] at hM ⊢
  obtain ⟨hw, hh⟩ := hM
  simp only at hw hh ⊢
  clear h
  have hwr1 : IntKind.i64.wrap (a.x + a.w) = a.x + a.w := IntWalk.i64_in _ (by omega)
  have hwr2 : IntKind.i64.wrap (b.x + b.w) = b.x + b.w := IntWalk.i64_in _ (by omega)
  have hwr3 : IntKind.i64.wrap (a.y + a.h) = a.y + a.h := IntWalk.i64_in _ (by omega)
  have hwr4 : IntKind.i64.wrap (b.y + b.h) = b.y + b.h := IntWalk.i64_in _ (by omega)
  go_enter Try.func40, Try.ntmps40
  go_wp2_with fail
  refine (ValidBox_c a _).mono ?_
  rintro e w1 ⟨rfl, hb1⟩
  rw [HA.out]
  obtain ⟨hc1, hf1, hs1⟩ := bcell hb1
  have HB1 := hid hb1
  clear hb1
  go_wp2_with fail
  refine (ValidBox_c b _).mono ?_
  rintro e w2 ⟨rfl, hb2⟩
  rw [HBb.out]
  have hb12 := HB1.out.trans (hb2.mono HB1.out.size)
  clear hc1 hf1 hs1 hb2
  obtain ⟨hc2, hf2, hs2⟩ := bcell hb12
  have HB2 := hid hb12
  clear hb12
  go_wp2
  go_quiet (fail)
  go_wp2
  go_quiet (fail)
  go_wp2
  refine bodyPost_ret (v := .tuple #[.agg #[.int .i64 mx, .int .i64 my, .int .i64 (nx - mx), .int .i64 (ny - my)], .bool true]) (by simp [results, Try.results40, go_sem, hc2]) rfl ⟨rfl, ?_⟩
  first | exact below_set4 (below_drewN (below3 _ _ _ _ HB2.out) _) (le2 _) (le2 _) (le2 _) (le2 _) _ _ _ _ | exact below_set4 (below3 _ _ _ _ HB2.out) (le2 _) (le2 _) (le2 _) (le2 _) _ _ _ _ | exact below_drewN (below_set4 (below3 _ _ _ _ HB2.out) (le2 _) (le2 _) (le2 _) (le2 _) _ _ _ _) _ | exact below_drewN (below_drewN (below_set4 (below3 _ _ _ _ HB2.out) (le2 _) (le2 _) (le2 _) (le2 _) _ _ _ _) _) _

set_option maxHeartbeats 1600000 in
theorem MeetOf_f (a b : Bx) (w : World) (ha : VB a) (hb : VB b) (h : mtB a b = false) : Calls Try.prog 40 #[.agg #[.int .i64 a.x, .int .i64 a.y, .int .i64 a.w, .int .i64 a.h], .agg #[.int .i64 b.x, .int .i64 b.y, .int .i64 b.w, .int .i64 b.h]] w fun e w' =>
    e = .returned (.tuple #[.agg #[.int .i64 0, .int .i64 0, .int .i64 0, .int .i64 0], .bool false]) ∧ Below w.heap.size w w' := by
  have HA := hid (vbB_iff.2 ha)
  have HBb := hid (vbB_iff.2 hb)
  unfold VB at ha hb
  obtain ⟨a1, a2, a3, a4, a5, a6, a7, a8⟩ := ha
  obtain ⟨b1, b2, b3, b4, b5, b6, b7, b8⟩ := hb
  obtain ⟨mx, r1, e1⟩ := ite_max a.x b.x
  obtain ⟨my, r2, e2⟩ := ite_max a.y b.y
  obtain ⟨nx, r3, e3⟩ := ite_min (a.x + a.w) (b.x + b.w)
  obtain ⟨ny, r4, e4⟩ := ite_min (a.y + a.h) (b.y + b.h)
  have HME : Hid (meetRaw a b = ⟨mx, my, nx - mx, ny - my⟩) := by rw [Hid, e1, e2, e3, e4]; rfl
  have m1 : 0 ≤ mx := by omega
  have m2 : mx ≤ 200 := by omega
  have m3 : 0 ≤ my := by omega
  have m4 : my ≤ 200 := by omega
  have m5 : 0 ≤ nx := by omega
  have m6 : nx ≤ 200 := by omega
  have m7 : 0 ≤ ny := by omega
  have m8 : ny ≤ 200 := by omega
  clear e1 e2 e3 e4
  have hM := mtB_not.1 h
  unfold Meets at hM
  rw [HME.out] at hM
  simp only at hM
  clear h
  have hwr1 : IntKind.i64.wrap (a.x + a.w) = a.x + a.w := IntWalk.i64_in _ (by omega)
  have hwr2 : IntKind.i64.wrap (b.x + b.w) = b.x + b.w := IntWalk.i64_in _ (by omega)
  have hwr3 : IntKind.i64.wrap (a.y + a.h) = a.y + a.h := IntWalk.i64_in _ (by omega)
  have hwr4 : IntKind.i64.wrap (b.y + b.h) = b.y + b.h := IntWalk.i64_in _ (by omega)
  by_cases hw : nx - mx ≤ 0
  · have hw' : nx ≤ mx := by omega
    clear hM hw
    go_enter Try.func40, Try.ntmps40
    go_wp2_with fail
    refine (ValidBox_c a _).mono ?_
    rintro e w1 ⟨rfl, hb1⟩
    rw [HA.out]
    obtain ⟨hc1, hf1, hs1⟩ := bcell hb1
    have HB1 := hid hb1
    clear hb1
    go_wp2_with fail
    refine (ValidBox_c b _).mono ?_
    rintro e w2 ⟨rfl, hb2⟩
    rw [HBb.out]
    have hb12 := HB1.out.trans (hb2.mono HB1.out.size)
    clear hc1 hf1 hs1 hb2
    obtain ⟨hc2, hf2, hs2⟩ := bcell hb12
    have HB2 := hid hb12
    clear hb12
    go_wp2
    go_quiet (fail)
    go_wp2
    go_quiet (fail)
    go_wp2
    refine bodyPost_ret (v := .tuple #[.agg #[.int .i64 0, .int .i64 0, .int .i64 0, .int .i64 0], .bool false]) (by simp [results, Try.results40, go_sem, hc2]) rfl ⟨rfl, ?_⟩
    first | exact below_set4 (below_drewN (below3 _ _ _ _ HB2.out) _) (le2 _) (le2 _) (le2 _) (le2 _) _ _ _ _ | exact below_set4 (below3 _ _ _ _ HB2.out) (le2 _) (le2 _) (le2 _) (le2 _) _ _ _ _ | exact below_drewN (below_set4 (below3 _ _ _ _ HB2.out) (le2 _) (le2 _) (le2 _) (le2 _) _ _ _ _) _ | exact below_drewN (below_drewN (below_set4 (below3 _ _ _ _ HB2.out) (le2 _) (le2 _) (le2 _) (le2 _) _ _ _ _) _) _
  · have hh' : ny ≤ my := by omega
    have hw' : mx < nx := by omega
    clear hM hw
    go_enter Try.func40, Try.ntmps40
    go_wp2_with fail
    refine (ValidBox_c a _).mono ?_
    rintro e w1 ⟨rfl, hb1⟩
    rw [HA.out]
    obtain ⟨hc1, hf1, hs1⟩ := bcell hb1
    have HB1 := hid hb1
    clear hb1
    go_wp2_with fail
    refine (ValidBox_c b _).mono ?_
    rintro e w2 ⟨rfl, hb2⟩
    rw [HBb.out]
    have hb12 := HB1.out.trans (hb2.mono HB1.out.size)
    clear hc1 hf1 hs1 hb2
    obtain ⟨hc2, hf2, hs2⟩ := bcell hb12
    have HB2 := hid hb12
    clear hb12
    go_wp2
    go_quiet (fail)
    go_wp2
    go_quiet (fail)
    go_wp2
    refine bodyPost_ret (v := .tuple #[.agg #[.int .i64 0, .int .i64 0, .int .i64 0, .int .i64 0], .bool false]) (by simp [results, Try.results40, go_sem, hc2]) rfl ⟨rfl, ?_⟩
    first | exact below_set4 (below_drewN (below3 _ _ _ _ HB2.out) _) (le2 _) (le2 _) (le2 _) (le2 _) _ _ _ _ | exact below_set4 (below3 _ _ _ _ HB2.out) (le2 _) (le2 _) (le2 _) (le2 _) _ _ _ _ | exact below_drewN (below_set4 (below3 _ _ _ _ HB2.out) (le2 _) (le2 _) (le2 _) (le2 _) _ _ _ _) _ | exact below_drewN (below_drewN (below_set4 (below3 _ _ _ _ HB2.out) (le2 _) (le2 _) (le2 _) (le2 _) _ _ _ _) _) _

end Go.Proofs.Ytafcohmneeabbaa
