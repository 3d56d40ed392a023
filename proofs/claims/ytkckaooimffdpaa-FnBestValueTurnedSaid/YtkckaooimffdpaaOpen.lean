/-
  Arguments that came in, opened: what a reading tells of memory.
-/
import Derived.Test.YtkckaooimffdpaaWords
import Derived.Test.YtkckaooimffdpaaRows
import Derived.ProofKit
import Derived.OpenShut
import Derived.ShutString
import Derived.ChangeOld
import Derived.Deep.Slices
import Derived.Deep.Fields
namespace Go.Proofs.Ytkckaooimffdpaa
set_option linter.unusedSimpArgs false
set_option linter.unusedVariables false
open Go.ChangeShapes Go.WideShapes Go.ChangeAt Go.RowKit

section
variable {H : Type} {enc : TypeId × Value → H} {P : Program} {w : World} {base : Nat}

theorem open_int_row {r : Reach} {b0 : Nat} {t e : TypeId} {v : Value} {d : DataW H} {p : List MemPlace} (ht : P.underlying t = some (.slice e)) (he : P.underlying e = some (.int .i64)) (hc : P.cellsOf e = 1)
    (hv : Value.okWide P w r b0 t v) (h : DataW.Trod enc P w 0 (fun _ => true) true t v d p) : ∃ L : List Int, Row intE w v L := by
  obtain ⟨a0, len0, cap0, rfl⟩ := okWide_slice ht hv
  obtain ⟨fuel, hf⟩ := h
  rcases open_ints ht he hc hf with ⟨hcs, _⟩ | ⟨a, len, cap, zs, hcs, _, hl, hm, hz, _, hcell, _⟩
  · simp [Value.cells] at hcs
    obtain ⟨rfl, rfl, rfl⟩ := hcs
    exact ⟨[], RowB.nil_ _ _⟩
  · simp [Value.cells] at hcs
    obtain ⟨rfl, rfl, rfl⟩ := hcs
    simp only [if_true] at hz
    have hlen : (zs.take len0).length = len0 := by rw [List.length_take]; omega
    refine ⟨zs.take len0, some a, cap0, by rw [hlen], by omega, hm, fun h0 => ?_⟩
    obtain ⟨b, off, spot⟩ := a
    have hc0 := hcell 0 (by omega)
    have hspot : spot = none := by simpa [Addr.add] using World.cell?_spot hc0
    subst hspot
    have hblk := block_lt_of_cell hc0
    refine ⟨b, off, rfl, by simpa [Addr.add] using hblk, fun j u hu => ?_⟩
    have hj : j < len0 := by
      have := (List.getElem?_eq_some_iff.1 hu).1
      rw [Enc.flat_len, hlen] at this
      simpa [intE] using this
    have h1 := intE.flat_at (zs.take len0) j 0 (by omega) (by decide)
    have e1 : j * intE.sz + 0 = j := by simp [intE]
    rw [e1, hu] at h1
    have h2 := hcell j (by omega)
    rw [Addr.add_lit] at h2
    rw [h2, h1]
    simp [intE, List.getD_eq_getElem?_getD, show j < zs.length by omega]
end

theorem exists_list {α : Type} (Q : Nat → α → Prop) : ∀ n, (∀ i, i < n → ∃ a, Q i a) → ∃ L : List α, L.length = n ∧ ∀ i (hi : i < L.length), Q i L[i]
  | 0, _ => ⟨[], rfl, fun i hi => by simp at hi⟩
  | n + 1, h => by
    obtain ⟨L, hl, hL⟩ := exists_list Q n fun i hi => h i (by omega)
    obtain ⟨a, ha⟩ := h n (by omega)
    refine ⟨L ++ [a], by simp [hl], fun i hi => ?_⟩
    simp only [List.length_append, List.length_singleton] at hi
    by_cases hi' : i < L.length
    · rw [List.getElem_append_left hi']; exact hL i hi'
    · have e : i = n := by omega
      subst e
      rw [List.getElem_append_right (by omega)]
      simpa [hl] using ha

section
variable {H : Type} {enc : TypeId × Value → H} {P : Program} {w : World}
/-- A slice that came in, whose elements read as the cells of some a. -/
theorem open_rowE {α : Type} (E : Enc α) {r : Reach} {b0 : Nat} {t e : TypeId} {v : Value} {d : DataW H} {p : List MemPlace} (ht : P.underlying t = some (.slice e)) (hC : P.cellsOf e = E.sz)
    (hel : ∀ n cs y, DataW.trod enc P w 0 (fun _ => true) true n e cs = some y → ∃ a, cs = E.cells a)
    (hv : Value.okWide P w r b0 t v) (h : DataW.Trod enc P w 0 (fun _ => true) true t v d p) : ∃ L : List α, Row E w v L := by
  obtain ⟨a0, len0, cap0, rfl⟩ := okWide_slice ht hv
  obtain ⟨fuel, hf⟩ := h
  rcases Deep.open_slice ht hf with ⟨hcs, _⟩ | ⟨a, len, cap, m, n, D, Pl, hcs, _, hl, hm, hmm, _, hi⟩
  · simp [Value.cells] at hcs
    obtain ⟨rfl, rfl, rfl⟩ := hcs
    exact ⟨[], RowB.nil_ _ _⟩
  · simp [Value.cells] at hcs
    obtain ⟨rfl, rfl, rfl⟩ := hcs
    simp only [if_true] at hmm
    subst hmm
    have hQ : ∀ i, i < len0 → ∃ x : α, ∀ j, j < E.sz → w.cell? (a.add (i * E.sz + j)) = (E.cells x)[j]? := by
      intro i hil
      obtain ⟨cs', hc, htr⟩ := hi i (by omega)
      obtain ⟨x, rfl⟩ := hel n cs' _ htr
      obtain ⟨_, _, hat⟩ := World.cells?_some hc
      refine ⟨x, fun j hj => ?_⟩
      have := hat j (by rw [hC]; exact hj)
      rw [Deep.add_add, hC] at this
      exact this
    obtain ⟨L, hL, hLc⟩ := exists_list _ len0 hQ
    refine ⟨L, some a, _, by rw [hL], by omega, hm, fun h0 => ?_⟩
    obtain ⟨b, off, spot⟩ := a
    have hc0 := hLc 0 h0 0 E.pos
    have hx : (E.cells L[0])[0]? = some ((E.cells L[0])[0]'(by rw [E.len]; exact E.pos)) := List.getElem?_eq_getElem _
    rw [hx] at hc0
    have hspot : spot = none := by simpa [Addr.add] using World.cell?_spot hc0
    subst hspot
    have hblk := block_lt_of_cell hc0
    refine ⟨b, off, rfl, by simpa [Addr.add] using hblk, fun j u hu => ?_⟩
    have hj : j < L.length * E.sz := by
      have := (List.getElem?_eq_some_iff.1 hu).1
      rwa [Enc.flat_len] at this
    have hk : j / E.sz < L.length := Nat.div_lt_of_lt_mul (by rw [Nat.mul_comm]; exact hj)
    have hr : j % E.sz < E.sz := Nat.mod_lt _ E.pos
    have ej : j / E.sz * E.sz + j % E.sz = j := by rw [Nat.mul_comm]; exact Nat.div_add_mod j E.sz
    have h1 := E.flat_at L (j / E.sz) (j % E.sz) hk hr
    have h2 := hLc (j / E.sz) hk (j % E.sz) hr
    rw [ej] at h1 h2
    rw [Addr.add_lit] at h2
    rw [h2, ← h1, hu]
end

theorem own : ownKnob Try.prog.godebug = none := by kernel_rfl
theorem laidOut : laidOutB Try.prog = true := by kernel_rfl

end Go.Proofs.Ytkckaooimffdpaa
