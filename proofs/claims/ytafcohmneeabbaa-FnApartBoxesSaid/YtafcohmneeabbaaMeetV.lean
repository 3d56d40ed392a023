/-
  Contracts: what boxes have in common, boxes inside of boxes, for any boxes.
-/
import Derived.Test.YtafcohmneeabbaaMeet
import Derived.Test.YtafcohmneeabbaaGrow
namespace Go.Proofs.Ytafcohmneeabbaa
set_option linter.unusedSimpArgs false
set_option linter.unusedVariables false
open Go.RowKit

theorem meetOk_t {a b : Bx} (h : meetOk a b = true) : VB a ∧ VB b ∧ mtB a b = true ∧ meetBx a b = meetRaw a b := by
  have h' := h
  simp only [meetOk, Bool.and_eq_true] at h
  exact ⟨vbB_iff.1 h.1.1, vbB_iff.1 h.1.2, h.2, if_pos h'⟩
theorem meetOk_f {a b : Bx} (h : meetOk a b = false) : meetBx a b = zeroBx := by rw [meetBx, if_neg (by rw [h]; simp)]
theorem MeetOf_c (a b : Bx) (w : World) : Calls Try.prog 40 #[.agg #[.int .i64 a.x, .int .i64 a.y, .int .i64 a.w, .int .i64 a.h], .agg #[.int .i64 b.x, .int .i64 b.y, .int .i64 b.w, .int .i64 b.h]] w fun e w' =>
    e = .returned (.tuple #[.agg #[.int .i64 (meetBx a b).x, .int .i64 (meetBx a b).y, .int .i64 (meetBx a b).w, .int .i64 (meetBx a b).h], .bool (meetOk a b)]) ∧ Below w.heap.size w w' := by
  by_cases hab : VB a ∧ VB b
  · cases hm : mtB a b with
    | true =>
      have h1 : meetOk a b = true := by rw [meetOk, vbB_iff.2 hab.1, vbB_iff.2 hab.2, hm]; rfl
      rw [h1, (meetOk_t h1).2.2.2]
      exact MeetOf_t a b w hab.1 hab.2 hm
    | false =>
      have h1 : meetOk a b = false := by rw [meetOk, hm, Bool.and_false]
      rw [h1, meetOk_f h1]
      exact MeetOf_f a b w hab.1 hab.2 hm
  · have h1 : meetOk a b = false := by
      rw [meetOk]
      by_cases ha : VB a
      · have hb : vbB b = false := by rw [vbB_not]; exact fun hb => hab ⟨ha, hb⟩
        rw [hb, Bool.and_false, Bool.false_and]
      · have ha' : vbB a = false := vbB_not.2 ha
        rw [ha', Bool.false_and, Bool.false_and]
    rw [h1, meetOk_f h1]
    exact MeetOf_n a b w hab

/-- a lies inside of b. -/
def InB (a b : Bx) : Prop := b.x ≤ a.x ∧ b.y ≤ a.y ∧ a.x + a.w ≤ b.x + b.w ∧ a.y + a.h ≤ b.y + b.h
instance (a b : Bx) : Decidable (InB a b) := by unfold InB; infer_instance
def insB (a b : Bx) : Bool := decide (VB a ∧ VB b ∧ InB a b)
theorem insB_iff {a b : Bx} : insB a b = true ↔ VB a ∧ VB b ∧ InB a b := by simp [insB]
theorem insB_meet (a b : Bx) : insB a b = (meetOk a b && decide (meetBx a b = a)) := by
  rw [Bool.eq_iff_iff, insB_iff, Bool.and_eq_true, decide_eq_true_eq]
  constructor
  · rintro ⟨ha, hb, hi⟩
    have hm : Meets a b ∧ meetRaw a b = a := by
      unfold InB at hi
      unfold VB at ha hb
      obtain ⟨ax, ay, aw, ah⟩ := a
      unfold Meets meetRaw
      simp only [Bx.mk.injEq] at *
      omega
    have h1 : meetOk a b = true := by rw [meetOk, vbB_iff.2 ha, vbB_iff.2 hb, mtB_iff.2 hm.1]; rfl
    exact ⟨h1, by rw [(meetOk_t h1).2.2.2, hm.2]⟩
  · rintro ⟨h1, h2⟩
    obtain ⟨ha, hb, hm, e⟩ := meetOk_t h1
    rw [e] at h2
    refine ⟨ha, hb, ?_⟩
    obtain ⟨ax, ay, aw, ah⟩ := a
    unfold InB
    unfold meetRaw at h2
    simp only [Bx.mk.injEq] at *
    omega

end Go.Proofs.Ytafcohmneeabbaa
