/-
  Boxes are apart exactly if they have as many points as their areas together. No program in sight.
-/
import Derived.Test.YtafcohmneeabbaaBoxQ
namespace Go.Proofs.Ytafcohmneeabbaa
set_option linter.unusedSimpArgs false
set_option linter.unusedVariables false
open Go.RowKit

theorem sumN_nonneg {n : Nat} {f : Nat → Int} (h : ∀ k, k < n → 0 ≤ f k) : 0 ≤ sumN n f := by
  have := sumN_le (n := n) (f := fun _ => 0) (g := f) h
  rw [sumN_zero] at this
  exact this
theorem sumN_ge : ∀ {n : Nat} {f : Nat → Int}, (∀ k, k < n → 0 ≤ f k) → ∀ {k : Nat}, k < n → f k ≤ sumN n f
  | 0, _, _, _, hk => by omega
  | n + 1, f, h, k, hk => by
    have h0 := sumN_nonneg (n := n) (f := f) (fun k hk => h k (by omega))
    have h1 := h n (by omega)
    show f k ≤ sumN n f + f n
    by_cases e : k = n
    · subst e; omega
    · have := sumN_ge (n := n) (f := f) (fun k hk => h k (by omega)) (show k < n by omega)
      omega
theorem pts_ge {f : Nat → Nat → Bool} {x y : Nat} (hx : x < 200) (hy : y < 200) (h : f x y = true) : 1 ≤ pts f := by
  have h1 : ∀ y, 0 ≤ sumN 200 fun x => b2i (f x y) := fun y => sumN_nonneg fun x _ => (b2i_bd _).1
  have h2 := sumN_ge (n := 200) (f := fun y => sumN 200 fun x => b2i (f x y)) (fun y _ => h1 y) hy
  have h3 := sumN_ge (n := 200) (f := fun x => b2i (f x y)) (fun x _ => (b2i_bd _).1) hx
  simp only [h, b2i, if_true] at h3
  unfold pts
  have h4 : (1 : Int) ≤ sumN 200 fun x => b2i (f x y) := h3
  omega
theorem anyB_cons (b : Bx) (L : List Bx) (x y : Nat) : anyB (b :: L) x y = (inB b x y || anyB L x y) := by simp [anyB]
/-- Two boxes that meet have a point in common. -/
theorem meet_pt {a b : Bx} (ha : VB a) (hb : VB b) (h : mtB a b = true) : ∃ x y, x < 200 ∧ y < 200 ∧ inB a x y = true ∧ inB b x y = true := by
  have hm := mtB_iff.1 h
  unfold Meets meetRaw at hm
  unfold VB at ha hb
  simp only at hm
  refine ⟨(max a.x b.x).toNat, (max a.y b.y).toNat, by omega, by omega, ?_, ?_⟩
  · unfold inB; rw [decide_eq_true_iff]; omega
  · unfold inB; rw [decide_eq_true_iff]; omega
theorem apart_pt {a b : Bx} (h : mtB a b = false) (x y : Nat) : ¬ (inB a x y = true ∧ inB b x y = true) := by
  intro ⟨h1, h2⟩
  have hm := mtB_not.1 h
  unfold Meets meetRaw at hm
  unfold inB at h1 h2
  rw [decide_eq_true_iff] at h1 h2
  simp only at hm
  omega
theorem pw_ind {L : List Bx} (h : L.Pairwise fun a b => mtB b a = false) (x y : Nat) : indL L x y = b2i (anyB L x y) := by
  induction L with
  | nil => rfl
  | cons b L ih =>
    obtain ⟨h1, h2⟩ := List.pairwise_cons.1 h
    rw [indL_cons, ih h2, anyB_cons]
    cases hi : inB b x y with
    | false => simp [b2i]
    | true =>
      have : anyB L x y = false := by
        unfold anyB
        rw [List.any_eq_false]
        intro c hc hc2
        exact apart_pt (h1 c hc) x y ⟨hc2, hi⟩
      rw [this]
      rfl
theorem cov_cons {b : Bx} (hb : VB b) (L : List Bx) : covN (b :: L) + pts (fun x y => inB b x y && anyB L x y) = b.w * b.h + covN L := by
  have e1 : covN (b :: L) = pts (inB b) + pts (fun x y => !inB b x y && anyB L x y) := pts_or fun x y => by
    rw [anyB_cons]
    cases inB b x y <;> cases anyB L x y <;> rfl
  have e2 : covN L = pts (fun x y => inB b x y && anyB L x y) + pts (fun x y => !inB b x y && anyB L x y) := pts_or fun x y => by
    cases inB b x y <;> cases anyB L x y <;> rfl
  rw [e1, e2, pts_box hb]
  omega
theorem cov_pw {L : List Bx} (hV : ∀ b ∈ L, VB b) (h : covN L = areaL L) : L.Pairwise fun a b => mtB b a = false := by
  induction L with
  | nil => exact List.Pairwise.nil
  | cons b L ih =>
    have hb := hV b (List.mem_cons_self ..)
    have hL : ∀ c ∈ L, VB c := fun c hc => hV c (List.mem_cons_of_mem _ hc)
    have h1 := cov_cons hb L
    have h2 := cov_area hL
    have h3 := (pts_bd (fun x y => inB b x y && anyB L x y)).1
    rw [areaL_cons] at h
    refine List.pairwise_cons.2 ⟨fun c hc => ?_, ih hL (by omega)⟩
    cases hm : mtB c b with
    | false => rfl
    | true =>
      exfalso
      obtain ⟨x, y, hx, hy, g1, g2⟩ := meet_pt (hL c hc) hb hm
      have := pts_ge (f := fun x y => inB b x y && anyB L x y) hx hy (by
        simp only [g2, Bool.true_and]
        unfold anyB
        exact List.any_eq_true.2 ⟨c, hc, g1⟩)
      omega
theorem apart_to {L : List Bx} (h : Apart L) : L.Pairwise fun a b => mtB b a = false :=
  List.pairwise_iff_getElem.2 fun i j hi hj hij => h j i hj hij
theorem apart_cov {L : List Bx} (hV : ∀ b ∈ L, VB b) : Apart L ↔ covN L = areaL L := by
  constructor
  · intro h
    rw [areaL_pts hV]
    show pts (anyB L) = _
    exact sumN_congr fun y _ => sumN_congr fun x _ => (pw_ind (apart_to h) x y).symm
  · intro h
    exact apart_pw (cov_pw hV h)

end Go.Proofs.Ytafcohmneeabbaa
