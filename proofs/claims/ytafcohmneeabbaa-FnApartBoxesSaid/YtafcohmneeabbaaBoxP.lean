/-
  Boxes, plain: no program in sight.
-/
import Derived.Test.YtafcohmneeabbaaBox
namespace Go.Proofs.Ytafcohmneeabbaa
set_option linter.unusedSimpArgs false
set_option linter.unusedVariables false

/-- A valid box. -/
def VB (b : Bx) : Prop := 1 ≤ b.w ∧ b.w ≤ 200 ∧ 1 ≤ b.h ∧ b.h ≤ 200 ∧ 0 ≤ b.x ∧ b.x + b.w ≤ 200 ∧ 0 ≤ b.y ∧ b.y + b.h ≤ 200
instance (b : Bx) : Decidable (VB b) := by unfold VB; infer_instance
def vbB (b : Bx) : Bool := decide (VB b)
theorem vbB_iff {b : Bx} : vbB b = true ↔ VB b := by simp [vbB]
theorem vbB_not {b : Bx} : vbB b = false ↔ ¬ VB b := by simp [vbB]

def zeroBx : Bx := ⟨0, 0, 0, 0⟩
/-- The points in common, as sides that may be empty. -/
def meetRaw (a b : Bx) : Bx := ⟨max a.x b.x, max a.y b.y, min (a.x + a.w) (b.x + b.w) - max a.x b.x, min (a.y + a.h) (b.y + b.h) - max a.y b.y⟩
def Meets (a b : Bx) : Prop := 0 < (meetRaw a b).w ∧ 0 < (meetRaw a b).h
instance (a b : Bx) : Decidable (Meets a b) := by unfold Meets; infer_instance
def mtB (a b : Bx) : Bool := decide (Meets a b)
theorem mtB_iff {a b : Bx} : mtB a b = true ↔ Meets a b := by simp [mtB]
theorem mtB_not {a b : Bx} : mtB a b = false ↔ ¬ Meets a b := by simp [mtB]
/-- What MeetOf answers for any boxes: the box, and whether there is one. -/
def meetOk (a b : Bx) : Bool := vbB a && vbB b && mtB a b
def meetBx (a b : Bx) : Bx := if meetOk a b = true then meetRaw a b else zeroBx

theorem meetRaw_valid {a b : Bx} (ha : VB a) (hb : VB b) (h : Meets a b) : VB (meetRaw a b) := by
  unfold Meets at h
  unfold VB meetRaw at *
  simp only at *
  omega

/-- What is left of a, below, above, left and right of m. -/
def opt (c : Prop) [Decidable c] (x : Bx) : List Bx := if c then [x] else []
def lp1 (a m : Bx) : List Bx := opt (a.x < m.x) ⟨a.x, a.y, m.x - a.x, a.h⟩
def lp2 (a m : Bx) : List Bx := opt (m.x + m.w < a.x + a.w) ⟨m.x + m.w, a.y, a.x + a.w - m.x - m.w, a.h⟩
def lp3 (a m : Bx) : List Bx := opt (a.y < m.y) ⟨m.x, a.y, m.w, m.y - a.y⟩
def lp4 (a m : Bx) : List Bx := opt (m.y + m.h < a.y + a.h) ⟨m.x, m.y + m.h, m.w, a.y + a.h - m.y - m.h⟩
def leftParts (a m : Bx) : List Bx := lp1 a m ++ lp2 a m ++ lp3 a m ++ lp4 a m
def leftL (a b : Bx) : List Bx := if mtB a b = true then leftParts a (meetRaw a b) else [a]
def leftOut (a b : Bx) : List Bx := if vbB a = true ∧ vbB b = true then leftL a b else []
theorem opt_t {c : Prop} [Decidable c] (h : c) (x : Bx) : opt c x = [x] := by simp [opt, h]
theorem opt_f {c : Prop} [Decidable c] (h : ¬ c) (x : Bx) : opt c x = [] := by simp [opt, h]
theorem opt_len (c : Prop) [Decidable c] (x : Bx) : (opt c x).length ≤ 1 := by unfold opt; split <;> simp
theorem leftL_len (a b : Bx) : (leftL a b).length ≤ 4 := by
  unfold leftL
  split
  · unfold leftParts lp1 lp2 lp3 lp4
    have h1 := opt_len (a.x < (meetRaw a b).x) ⟨a.x, a.y, (meetRaw a b).x - a.x, a.h⟩
    simp only [List.length_append]
    have := fun (c : Prop) [Decidable c] (x : Bx) => opt_len c x
    have h2 := opt_len ((meetRaw a b).x + (meetRaw a b).w < a.x + a.w) ⟨(meetRaw a b).x + (meetRaw a b).w, a.y, a.x + a.w - (meetRaw a b).x - (meetRaw a b).w, a.h⟩
    have h3 := opt_len (a.y < (meetRaw a b).y) ⟨(meetRaw a b).x, a.y, (meetRaw a b).w, (meetRaw a b).y - a.y⟩
    have h4 := opt_len ((meetRaw a b).y + (meetRaw a b).h < a.y + a.h) ⟨(meetRaw a b).x, (meetRaw a b).y + (meetRaw a b).h, (meetRaw a b).w, a.y + a.h - (meetRaw a b).y - (meetRaw a b).h⟩
    omega
  · simp
theorem leftOut_len (a b : Bx) : (leftOut a b).length ≤ 4 := by
  unfold leftOut
  split
  · exact leftL_len a b
  · simp

/-- The four parts, some of them empty. -/
def parts4 (a m : Bx) : List Bx := [⟨a.x, a.y, m.x - a.x, a.h⟩, ⟨m.x + m.w, a.y, a.x + a.w - m.x - m.w, a.h⟩, ⟨m.x, a.y, m.w, m.y - a.y⟩, ⟨m.x, m.y + m.h, m.w, a.y + a.h - m.y - m.h⟩]
def goodB (b : Bx) : Bool := decide (0 < b.w ∧ 0 < b.h)
theorem filter_opt (c : Prop) [Decidable c] (x : Bx) (h : goodB x = true ↔ c) : [x].filter goodB = opt c x := by
  by_cases hc : c
  · simp [opt, hc, h.2 hc]
  · have : goodB x = false := by rw [← Bool.not_eq_true]; exact fun h2 => hc (h.1 h2)
    simp [opt, hc, this]
theorem parts4_good (a m : Bx) (ha : VB a) (hm : VB m) : (parts4 a m).filter goodB = leftParts a m := by
  unfold VB at ha hm
  have e : parts4 a m = [⟨a.x, a.y, m.x - a.x, a.h⟩] ++ [⟨m.x + m.w, a.y, a.x + a.w - m.x - m.w, a.h⟩] ++ [⟨m.x, a.y, m.w, m.y - a.y⟩] ++ [⟨m.x, m.y + m.h, m.w, a.y + a.h - m.y - m.h⟩] := rfl
  rw [e, List.filter_append, List.filter_append, List.filter_append]
  unfold leftParts lp1 lp2 lp3 lp4
  rw [filter_opt (a.x < m.x) _ (by simp [goodB]; omega), filter_opt (m.x + m.w < a.x + a.w) _ (by simp [goodB]; omega), filter_opt (a.y < m.y) _ (by simp [goodB]; omega), filter_opt (m.y + m.h < a.y + a.h) _ (by simp [goodB]; omega)]

end Go.Proofs.Ytafcohmneeabbaa
