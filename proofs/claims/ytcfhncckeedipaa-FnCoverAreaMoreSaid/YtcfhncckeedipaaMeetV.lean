/-
  Contracts: what boxes have in common, boxes inside of boxes, for any boxes.
-/
import Derived.Test.YtcfhncckeedipaaMeet
import Derived.Test.YtcfhncckeedipaaGrow
namespace Go.Proofs.Ytcfhncckeedipaa
set_option linter.unusedSimpArgs false
set_option linter.unusedVariables false
open Go.RowKit

theorem meetOk_t {a b : Bx} (h : meetOk a b = true) : VB a ∧ VB b ∧ mtB a b = true ∧ meetBx a b = meetRaw a b := by
  have h' := h
  simp only [meetOk, Bool.and_eq_true] at h
  exact ⟨vbB_iff.1 h.1.1, vbB_iff.1 h.1.2, h.2, if_pos h'⟩
theorem meetOk_f {a b : Bx} (h : meetOk a b = false) : meetBx a b = zeroBx := by rw [meetBx, if_neg (by rw [h]; simp)]
theorem MeetOf_c (a b : Bx) (w : World) : Calls Try.prog 43 #[.agg #[.int .i64 a.x, .int .i64 a.y, .int .i64 a.w, .int .i64 a.h], .agg #[.int .i64 b.x, .int .i64 b.y, .int .i64 b.w, .int .i64 b.h]] w fun e w' =>
    e = .returned (.tuple #[.agg #[.int .i64 (meetBx a b).x, .int .i64 (meetBx a b).y, .int .i64 (meetBx a b).w, .int .i64 (meetBx a b).h], .bool (meetOk a b)]) ∧ Below w.heap.size w w' := by
  by_cases hab : VB a ∧ VB b
  · cases hm : mtB a b with
    | true =>
      have h1 : meetOk a b = true := by rw [meetOk, vbB_iff.2 hab.1, vbB_iff.2 hab.2, hm]; rfl
      rw [h1, (meetOk_t h1).2.2.2]
      exact MeetOf_t a b w hab.1 hab.2 hm
    | false =>
      have h1 : meetOk a b = false := by rw [meetOk, hm, Bool.and_false]
      rw [h1, meetOk_f h1]
      exact MeetOf_f a b w hab.1 hab.2 hm
  · have h1 : meetOk a b = false := by
      rw [meetOk]
      by_cases ha : VB a
      · have hb : vbB b = false := by rw [vbB_not]; exact fun hb => hab ⟨ha, hb⟩
        rw [hb, Bool.and_false, Bool.false_and]
      · have ha' : vbB a = false := vbB_not.2 ha
        rw [ha', Bool.false_and, Bool.false_and]
    rw [h1, meetOk_f h1]
    exact MeetOf_n a b w hab

/-- a lies inside of b. -/
def InB (a b : Bx) : Prop := b.x ≤ a.x ∧ b.y ≤ a.y ∧ a.x + a.w ≤ b.x + b.w ∧ a.y + a.h ≤ b.y + b.h
instance (a b : Bx) : Decidable (InB a b) := by unfold InB; infer_instance
def insB (a b : Bx) : Bool := decide (VB a ∧ VB b ∧ InB a b)
theorem insB_iff {a b : Bx} : insB a b = true ↔ VB a ∧ VB b ∧ InB a b := by simp [insB]
theorem insB_meet (a b : Bx) : insB a b = (meetOk a b && decide (meetBx a b = a)) := by
  rw [Bool.eq_iff_iff, insB_iff, Bool.and_eq_true, decide_eq_true_eq]
  constructor
  · rintro ⟨ha, hb, hi⟩
    have hm : Meets a b ∧ meetRaw a b = a := by
      unfold InB at hi
      unfold VB at ha hb
      obtain ⟨ax, ay, aw, ah⟩ := a
      unfold Meets meetRaw
      simp only [Bx.mk.injEq] at *
      omega
    have h1 : meetOk a b = true := by rw [meetOk, vbB_iff.2 ha, vbB_iff.2 hb, mtB_iff.2 hm.1]; rfl
    exact ⟨h1, by rw [(meetOk_t h1).2.2.2, hm.2]⟩
  · rintro ⟨h1, h2⟩
    obtain ⟨ha, hb, hm, e⟩ := meetOk_t h1
    rw [e] at h2
    refine ⟨ha, hb, ?_⟩
    obtain ⟨ax, ay, aw, ah⟩ := a
    unfold InB
    unfold meetRaw at h2
    simp only [Bx.mk.injEq] at *
    omega

set_option maxHeartbeats 1600000 in
theorem InsideOf_c (a b : Bx) (w : World) : Calls Try.prog 44 #[.agg #[.int .i64 a.x, .int .i64 a.y, .int .i64 a.w, .int .i64 a.h], .agg #[.int .i64 b.x, .int .i64 b.y, .int .i64 b.w, .int .i64 b.h]] w fun e w' => e = .returned (.bool (insB a b)) ∧ Below w.heap.size w w' := by
  have hI := insB_meet a b
  have HI := hid hI
  have B2 := hid (((Below.refl _ _).alloc (Nat.le_refl _) (.cells #[.int .i64 a.x, .int .i64 a.y, .int .i64 a.w, .int .i64 a.h] 44)).alloc (by simp) (.cells #[.int .i64 b.x, .int .i64 b.y, .int .i64 b.w, .int .i64 b.h] 44) : Below w.heap.size w _)
  clear hI
  go_enter Try.func44, Try.ntmps44
  go_wp2_with fail
  refine (MeetOf_c a b _).mono ?_
  rintro e w1 ⟨rfl, hb⟩
  have HB1 := hid (B2.out.trans (hb.mono B2.out.size))
  obtain ⟨hc, hf, hs⟩ := bcell hb
  have hz : w.heap.size < w1.heap.size := by simp at hs; omega
  have hs1 := HB1.out.size
  clear hb hf hs
  obtain ⟨m, hm⟩ : ∃ m, m = meetBx a b := ⟨_, rfl⟩
  rw [← hm] at HI ⊢
  clear hm
  cases hok : meetOk a b with
  | false =>
    rw [hok] at HI
    clear hok
    go_wp2
    go_ret
    exact ⟨ret_bool HI.out.symm, HB1.out.alloc hs1 _⟩
  | true =>
    rw [hok] at HI
    clear hok
    have hcase : m = a ∨ (m ≠ a ∧ ((m.x == a.x) = false ∨ ((m.x == a.x) = true ∧ (m.y == a.y) = false) ∨ ((m.x == a.x) = true ∧ (m.y == a.y) = true ∧ (m.w == a.w) = false) ∨ ((m.x == a.x) = true ∧ (m.y == a.y) = true ∧ (m.w == a.w) = true ∧ (m.h == a.h) = false))) := by
      by_cases e : m = a
      · exact .inl e
      · refine .inr ⟨e, ?_⟩
        simp only [beq_iff_eq, beq_eq_false_iff_ne]
        have : ¬ (m.x = a.x ∧ m.y = a.y ∧ m.w = a.w ∧ m.h = a.h) := fun ⟨h1, h2, h3, h4⟩ => e (by cases m; cases a; simp_all)
        omega
    rcases hcase with rfl | ⟨hne, hcase⟩
    · have HI2 : Hid (insB m b = true) := by rw [Hid, HI.out]; simp
      go_wp2
      go_ret
      exact ⟨ret_bool HI2.out.symm, HB1.out.alloc hs1 _⟩
    · have HI2 : Hid (insB a b = false) := by rw [Hid, HI.out]; simp [hne]
      clear hne
      rcases hcase with g1 | ⟨g1, g2⟩ | ⟨g1, g2, g3⟩ | ⟨g1, g2, g3, g4⟩
      all_goals
        go_wp2
        go_ret
        exact ⟨ret_bool HI2.out.symm, HB1.out.alloc hs1 _⟩

end Go.Proofs.Ytcfhncckeedipaa
