/-
  The longest rise of a valid turn: its indices and its numbers ascend; its length. Plain.
-/
import Derived.Test.YtcfhncckeedipaaRiseP
namespace Go.Proofs.Ytcfhncckeedipaa
set_option linter.unusedSimpArgs false
set_option linter.unusedVariables false

theorem VT.rev {L : List Int} (h : VT L) : VT L.reverse := by
  obtain ⟨h1, h2, h3, h4⟩ := h
  exact ⟨by simpa using h1, rfl, fun x hx => by have := h3 x (by simpa using hx); simpa using this, by unfold List.Nodup at *; rw [List.pairwise_reverse]; exact h4.imp (fun h => Ne.symm h)⟩
theorem vtB_rev {L : List Int} (h : vtB L = true) : vtB L.reverse = true := vtB_iff.2 (vtB_iff.1 h).rev

theorem chain_top (L : List Int) (hv : VT L) : (chain L (risesL L) (top (risesL L)).toNat L.length).length = (top (risesL L)).toNat := by
  refine chain_ok L _ _ (fun h => ?_)
  have h0 := top_nonneg (risesL L)
  have e : (((top (risesL L)).toNat : Nat) : Int) = top (risesL L) := by omega
  rw [e]
  rcases Nat.eq_zero_or_pos L.length with hL | hL
  · have : L = [] := List.eq_nil_of_length_eq_zero hL
    subst this
    simp [risesL, risesTo, top] at h
  · exact pick_top L hv hL
theorem riseOut_len {L : List Int} (hv : vtB L = true) : ((riseOut L).length : Int) = top (risesL L) := by
  rw [riseOut_t hv, List.length_map, riseIdx, List.length_reverse, chain_top L (vtB_iff.1 hv)]
  have := top_nonneg (risesL L)
  omega

theorem chain_le (L : List Int) : ∀ (n : Nat) (lim : Int) (i : Nat), pick L (risesL L) n lim = some i → ∀ k ∈ chain L (risesL L) n lim, k ≤ i
  | 0, lim, i, _, k, hk => by simp [chain] at hk
  | n + 1, lim, i, h, k, hk => by
    rw [show ((n + 1 : Nat) : Int) = (n : Int) + 1 by omega] at h
    rw [chain_some h] at hk
    rcases List.mem_cons.1 hk with rfl | hk
    · exact Nat.le_refl _
    · rcases Nat.eq_zero_or_pos n with h0 | h0
      · subst h0; simp [chain] at hk
      · obtain ⟨j, hj, hji⟩ := pick_next L h h0
        have := chain_le L n (L.getD i 0) j hj k hk
        omega
theorem chain_lim (L : List Int) : ∀ (n : Nat) (lim : Int), ∀ k ∈ chain L (risesL L) n lim, k < L.length ∧ L.getD k 0 < lim
  | 0, lim, k, hk => by simp [chain] at hk
  | n + 1, lim, k, hk => by
    cases h : pick L (risesL L) ((n : Int) + 1) lim with
    | none => simp only [chain, h] at hk; simp at hk
    | some i =>
      rw [chain_some h] at hk
      obtain ⟨h1, h2, -⟩ := pick_some.1 h
      rcases List.mem_cons.1 hk with rfl | hk
      · exact ⟨h1, h2.2⟩
      · have := chain_lim L n (L.getD i 0) k hk
        have := h2.2
        omega
theorem chain_desc (L : List Int) : ∀ (n : Nat) (lim : Int), (chain L (risesL L) n lim).Pairwise (fun i j => j < i ∧ L.getD j 0 < L.getD i 0)
  | 0, lim => by simp [chain]
  | n + 1, lim => by
    cases h : pick L (risesL L) ((n : Int) + 1) lim with
    | none => simp only [chain, h]; exact List.Pairwise.nil
    | some i =>
      rw [chain_some h]
      refine List.Pairwise.cons (fun k hk => ⟨?_, (chain_lim L n _ k hk).2⟩) (chain_desc L n _)
      rcases Nat.eq_zero_or_pos n with h0 | h0
      · subst h0; simp [chain] at hk
      · obtain ⟨j, hj, hji⟩ := pick_next L h h0
        have := chain_le L n (L.getD i 0) j hj k hk
        omega
theorem riseIdx_asc (L : List Int) : (riseIdx L).Pairwise (fun i j => i < j ∧ L.getD i 0 < L.getD j 0) := by
  unfold riseIdx
  rw [List.pairwise_reverse]
  exact chain_desc L _ _
theorem riseIdx_lt (L : List Int) : ∀ k ∈ riseIdx L, k < L.length := fun k hk => by
  unfold riseIdx at hk
  rw [List.mem_reverse] at hk
  exact (chain_lim L _ _ k hk).1

/-- The numbers of the longest rise. -/
def riseVals (L : List Int) : List Int := (riseOut L).map fun i => L.getD i.toNat 0
theorem riseOut_asc {L : List Int} (hv : vtB L = true) : ∀ i (h1 : i + 1 < (riseOut L).length), (riseOut L)[i]'(by omega) < (riseOut L)[i + 1] := by
  intro i h1
  have e := riseOut_t hv
  simp only [e] at h1 ⊢
  rw [List.length_map] at h1
  have := List.pairwise_iff_getElem.1 (riseIdx_asc L) i (i + 1) (by omega) h1 (by omega)
  simp only [List.getElem_map]
  simp
  omega
theorem riseVals_asc {L : List Int} (hv : vtB L = true) : ∀ i (h1 : i + 1 < (riseVals L).length), (riseVals L)[i]'(by omega) < (riseVals L)[i + 1] := by
  intro i h1
  have e := riseOut_t hv
  simp only [riseVals, e, List.map_map] at h1 ⊢
  rw [List.length_map] at h1
  have := List.pairwise_iff_getElem.1 (riseIdx_asc L) i (i + 1) (by omega) h1 (by omega)
  simp only [List.getElem_map]
  exact this.2
theorem riseOut_at {L : List Int} (hv : vtB L = true) (i : Nat) (h : i < (riseOut L).length) : ∃ m : Nat, ∃ hm : m < L.length, (riseOut L)[i] = (m : Int) ∧ (riseVals L)[i]'(by simpa [riseVals] using h) = L[m] := by
  have e := riseOut_t hv
  simp only [riseVals, e, List.map_map] at h ⊢
  rw [List.length_map] at h
  have hm := riseIdx_lt L _ (List.getElem_mem h)
  refine ⟨(riseIdx L)[i], hm, by simp only [List.getElem_map]; rfl, ?_⟩
  simp only [List.getElem_map, Function.comp]
  simp [List.getD_eq_getElem?_getD, hm]
theorem riseVals_len (L : List Int) : (riseVals L).length = (riseOut L).length := by simp [riseVals]
theorem riseOut_le {L : List Int} (hv : vtB L = true) : (riseOut L).length ≤ L.length := by
  have := riseOut_len hv
  have := top_le L
  omega

end Go.Proofs.Ytcfhncckeedipaa
