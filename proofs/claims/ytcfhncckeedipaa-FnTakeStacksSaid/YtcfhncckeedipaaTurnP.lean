/-
  Orders of numbers (turns), plain: no program in sight.
-/
import Derived.WalkKit
namespace Go.Proofs.Ytcfhncckeedipaa
set_option linter.unusedSimpArgs false
set_option linter.unusedVariables false

/-- L has each of the numbers 0 .. n - 1 once. -/
def Ord (L : List Int) (n : Nat) : Prop := L.length = n ∧ (∀ x ∈ L, 0 ≤ x ∧ x < n) ∧ L.Nodup
instance (L : List Int) (n : Nat) : Decidable (Ord L n) := by unfold Ord; infer_instance
def ordB (L : List Int) (n : Nat) : Bool := decide (Ord L n)
/-- A valid turn. -/
def VT (L : List Int) : Prop := L.length ≤ 24 ∧ Ord L L.length
instance (L : List Int) : Decidable (VT L) := by unfold VT; infer_instance
def vtB (L : List Int) : Bool := decide (VT L)
theorem vtB_iff {L : List Int} : vtB L = true ↔ VT L := by simp [vtB]
theorem ordB_iff {L : List Int} {n : Nat} : ordB L n = true ↔ Ord L n := by simp [ordB]

/-- The first k numbers are in range, and no two of them are equal. -/
def okTo (L : List Int) (n k : Nat) : Prop := (∀ x ∈ L.take k, 0 ≤ x ∧ x < n) ∧ (L.take k).Nodup

theorem okTo_zero (L : List Int) (n : Nat) : okTo L n 0 := by simp [okTo]
theorem nodup_snoc {α : Type} {l : List α} {a : α} : (l ++ [a]).Nodup ↔ l.Nodup ∧ a ∉ l := by
  rw [List.nodup_append]
  constructor
  · intro ⟨h1, _, h3⟩
    exact ⟨h1, fun h => h3 a h a (by simp) rfl⟩
  · intro ⟨h1, h2⟩
    exact ⟨h1, by simp, fun x hx y hy => by simp at hy; subst hy; rintro rfl; exact h2 hx⟩
theorem okTo_succ {L : List Int} {n k : Nat} (hk : k < L.length) (h : okTo L n k) (h0 : 0 ≤ L[k]) (h1 : L[k] < n) (h2 : L[k] ∉ L.take k) : okTo L n (k + 1) := by
  unfold okTo at *
  rw [List.take_succ_eq_append_getElem hk]
  refine ⟨fun x hx => ?_, nodup_snoc.2 ⟨h.2, h2⟩⟩
  rcases List.mem_append.1 hx with hx | hx
  · exact h.1 x hx
  · simp at hx; subst hx; exact ⟨h0, h1⟩
theorem Ord.ok {L : List Int} {n : Nat} (h : Ord L n) (k : Nat) : okTo L n k := ⟨fun x hx => h.2.1 x (List.mem_of_mem_take hx), h.2.2.sublist (List.take_sublist _ _)⟩
theorem okTo_end {L : List Int} {n : Nat} (hn : L.length = n) (h : okTo L n n) : Ord L n := by
  unfold okTo at h
  rw [List.take_of_length_le (by omega)] at h
  exact ⟨hn, h.1, h.2⟩
theorem Ord.not_dup {L : List Int} {n : Nat} (h : Ord L n) (k : Nat) (hk : k < L.length) : L[k] ∉ L.take k := by
  have := (h.ok (k + 1)).2
  rw [List.take_succ_eq_append_getElem hk] at this
  exact (nodup_snoc.1 this).2
theorem Ord.range {L : List Int} {n : Nat} (h : Ord L n) (k : Nat) (hk : k < L.length) : 0 ≤ L[k] ∧ L[k] < n := h.2.1 _ (List.getElem_mem hk)

/-- Where n is, first; -1 if it is nowhere. -/
def placeL (L : List Int) (n : Int) : Int := if n ∈ L then (L.idxOf n : Int) else -1
theorem placeL_of_mem {L : List Int} {n : Int} (h : n ∈ L) : placeL L n = L.idxOf n := by simp [placeL, h]
theorem placeL_of_not {L : List Int} {n : Int} (h : n ∉ L) : placeL L n = -1 := by simp [placeL, h]
theorem placeL_nonneg {L : List Int} {n : Int} : 0 ≤ placeL L n ↔ n ∈ L := by
  unfold placeL
  split
  · simp [*]
  · simp [*]
theorem placeL_at {L : List Int} {n : Int} {k : Nat} (hk : k < L.length) (h1 : n ∉ L.take k) (h2 : L[k] = n) : placeL L n = k := by
  have hm : n ∈ L := h2 ▸ List.getElem_mem hk
  rw [placeL_of_mem hm]
  have e : L = L.take k ++ L[k] :: L.drop (k + 1) := by rw [← List.drop_eq_getElem_cons hk, List.take_append_drop]
  have e2 : L.idxOf n = (L.take k ++ L[k] :: L.drop (k + 1)).idxOf n := by rw [← e]
  rw [e2, List.idxOf_append, if_neg h1, h2]
  simp
  omega
theorem not_mem_take_succ {L : List Int} {n : Int} {k : Nat} (hk : k < L.length) (h1 : n ∉ L.take k) (h2 : L[k] ≠ n) : n ∉ L.take (k + 1) := by
  rw [List.take_succ_eq_append_getElem hk, List.mem_append]
  rintro (h | h)
  · exact h1 h
  · simp at h; exact h2 h.symm

/-- Which of the numbers 0 .. n - 1 were among the first k. -/
def seenTo (L : List Int) (n k : Nat) : List Bool := (List.range n).map fun (i : Nat) => decide ((i : Int) ∈ L.take k)
theorem seenTo_len (L : List Int) (n k : Nat) : (seenTo L n k).length = n := by simp [seenTo]
theorem seenTo_zero (L : List Int) (n : Nat) : seenTo L n 0 = List.replicate n false := by
  apply List.ext_getElem <;> simp [seenTo]
theorem seenTo_at (L : List Int) (n k i : Nat) (hi : i < (seenTo L n k).length) : (seenTo L n k)[i] = decide ((i : Int) ∈ L.take k) := by simp [seenTo]
theorem seenTo_set {L : List Int} {n k m : Nat} (hk : k < L.length) (hm : L[k] = (m : Int)) : (seenTo L n k).set m true = seenTo L n (k + 1) := by
  apply List.ext_getElem
  · simp [seenTo]
  · intro i h1 h2
    rw [List.getElem_set, seenTo_at, seenTo_at]
    have e : ((i : Int) ∈ L.take (k + 1)) = ((i : Int) ∈ L.take k ∨ (i : Int) = L[k]) := by
      rw [List.take_succ_eq_append_getElem hk, List.mem_append, List.mem_singleton]
    simp only [e]
    split
    · rename_i h; subst h; simp [hm]
    · rename_i h
      have : ¬ ((i : Int) = L[k]) := by rw [hm]; omega
      simp [this]

end Go.Proofs.Ytcfhncckeedipaa
