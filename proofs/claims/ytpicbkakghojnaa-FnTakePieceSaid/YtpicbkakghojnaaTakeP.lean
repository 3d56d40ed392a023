/-
  What goes can come: the plain law of stocks.
-/
import Derived.Test.YtpicbkakghojnaaTakeI
namespace Go.Proofs.Ytpicbkakghojnaa
set_option linter.unusedSimpArgs false
set_option linter.unusedVariables false
open Go.RowKit

theorem VS.pair {L : List Pc} (h : VS L) : L.Pairwise (fun a b => a.l < b.l) := by
  rw [List.pairwise_iff_getElem]
  intro i j hi hj hij
  obtain ⟨d, rfl⟩ : ∃ d, j = i + 1 + d := ⟨j - i - 1, by omega⟩
  clear hij
  induction d with
  | zero => exact h.2.2 i hj (by omega)
  | succ d ih =>
    have h1 := ih (by omega)
    have h2 := h.2.2 (i + 1 + d) (by omega) (by omega)
    have e : i + 1 + d + 1 = i + 1 + (d + 1) := by omega
    simp only [e] at h2
    omega
theorem VS.of_pair {L : List Pc} (h20 : L.length ≤ 20) (hv : ∀ p ∈ L, VP p) (h : L.Pairwise (fun a b => a.l < b.l)) : VS L := by
  refine ⟨h20, hv, fun i h1 h2 => ?_⟩
  rw [List.pairwise_iff_getElem] at h
  exact h i (i + 1) (by omega) h1 (by omega)
theorem VS.erase {L : List Pc} (h : VS L) (j : Nat) : VS (L.eraseIdx j) :=
  VS.of_pair (Nat.le_trans (List.length_eraseIdx_le L j) h.1) (fun p hp => h.2.1 p ((List.eraseIdx_sublist L j).subset hp)) (h.pair.sublist (List.eraseIdx_sublist L j))
theorem adL_id (p : Pc) : ∀ (C : List Pc), adL p true C = C
  | [] => rfl
  | c :: C => by rw [adL_t, adL_id p C]
theorem adL_mid {p : Pc} : ∀ (A C : List Pc), (∀ a ∈ A, a.l < p.l) → (∀ c ∈ C, p.l < c.l) → adL p false (A ++ C) = A ++ p :: C
  | [], [], _, _ => rfl
  | [], c :: C, _, hC => by
    rw [List.nil_append, adL_ins (hC c (by simp)), adL_id]; rfl
  | a :: A, C, hA, hC => by
    rw [List.cons_append, adL_f (by have := hA a (by simp); omega), adL_mid A C (fun x hx => hA x (by simp [hx])) hC]; rfl
theorem VS.split {L : List Pc} (h : VS L) {j : Nat} (hj : j < L.length) : (∀ a ∈ L.take j, a.l < L[j].l) ∧ (∀ c ∈ L.drop (j + 1), L[j].l < c.l) := by
  have hp := h.pair
  have e : L = L.take j ++ L[j] :: L.drop (j + 1) := by rw [← List.drop_eq_getElem_cons hj, List.take_append_drop]
  rw [e, List.pairwise_append, List.pairwise_cons] at hp
  exact ⟨fun a ha => hp.2.2 a ha _ (List.mem_cons_self ..), fun c hc => hp.2.1.1 c hc⟩
theorem VS.back {L : List Pc} (h : VS L) {j : Nat} (hj : j < L.length) : adL L[j] false (L.eraseIdx j) = L := by
  obtain ⟨h1, h2⟩ := h.split hj
  rw [List.eraseIdx_eq_take_drop_succ, adL_mid _ _ h1 h2, ← List.drop_eq_getElem_cons hj, List.take_append_drop]
theorem VS.gone {L : List Pc} (h : VS L) {j : Nat} (hj : j < L.length) : placeP (labs (L.eraseIdx j)) L[j].l = -1 := by
  obtain ⟨h1, h2⟩ := h.split hj
  refine placeP_none (fun y hy => ?_)
  rw [labs, List.mem_map] at hy
  obtain ⟨q, hq, rfl⟩ := hy
  rw [List.eraseIdx_eq_take_drop_succ, List.mem_append] at hq
  rcases hq with hq | hq
  · have := h1 q hq; omega
  · have := h2 q hq; omega
theorem place_lab {L : List Pc} {x : Int} (h : 0 ≤ placeP (labs L) x) : ∃ (j : Nat) (hj : j < L.length), placeP (labs L) x = j ∧ L[j].l = x := by
  obtain ⟨k, hk, h1, h2⟩ := placeP_get h
  have hk2 : k < L.length := by rw [labs_len] at hk; exact hk
  exact ⟨k, hk2, h1, by rw [← labs_at hk2 hk]; exact h2⟩

end Go.Proofs.Ytpicbkakghojnaa
