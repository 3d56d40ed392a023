/-
  Helpers of the laws: equal rows of panes, equal orders, how many panes an order tells, the sum of a row.
-/
import Derived.Test.YtmenkjloabficaaOrd
import Derived.Test.YtmenkjloabficaaOrdS
namespace Go.Proofs.Ytmenkjloabficaa
set_option linter.unusedSimpArgs false
set_option linter.unusedVariables false
open Go.RowKit

set_option maxHeartbeats 1600000 in
set_option maxRecDepth 100000 in
theorem equalPanes_same (v1 v2 : Value) (xs : List Pn) (w : World) (h1 : Row paneE w v1 xs) (h2 : Row paneE w v2 xs) :
    Calls Try.prog 20 #[v1, v2] w fun e w' => e = .returned (.bool true) ∧ Dr w w' := by
  obtain ⟨A1, c1, rfl, hc1, hm1⟩ := h1.form
  obtain ⟨A2, c2, rfl, hc2, hm2⟩ := h2.form
  unfold maxLen at hm1 hm2
  have hlb : ((xs.length : Int) != (xs.length : Int)) = false := by simp
  go_enter Try.func20, Try.ntmps20
  go_wp2
  go_loopw [5] (fun i wr => ∃ k : Nat, i = .int .i64 k ∧ k ≤ xs.length ∧ Dr w wr) (fun i _ => xs.length - (intOf i).toNat)
  case atStart => exact ⟨0, rfl, by omega, Dr.refl _⟩
  case round =>
    obtain ⟨k, rfl, hk, hd⟩ := hrel
    by_cases hlt : k < xs.length
    · obtain ⟨b1, o1, rfl, -, hx⟩ := row_panes (h1.dr hd) (by omega)
      obtain ⟨b2, o2, rfl, -, hy⟩ := row_panes (h2.dr hd) (by omega)
      obtain ⟨hx0, hx1, hx2, hx3⟩ := hx k hlt
      obtain ⟨hy0, hy1, hy2, hy3⟩ := hy k hlt
      have HD := hid hd
      clear hx hy h1 h2 hd
      go_wp2
      go_quiet (fail)
      go_wp2
      exact ⟨⟨k + 1, by go_num, by omega, HD.out.step _⟩, by simp [intOf]; omega⟩
    · go_wp2
      go_ret
      exact ⟨rfl, hd⟩

set_option maxHeartbeats 1600000 in
set_option maxRecDepth 100000 in
theorem equalOrder_same (v1 v2 : Value) (xs : List Ln) (w : World) (h1 : Row lineE w v1 xs) (h2 : Row lineE w v2 xs) :
    Calls Try.prog 32 #[v1, v2] w fun e w' => e = .returned (.bool true) ∧ Dr w w' := by
  obtain ⟨A1, c1, rfl, hc1, hm1⟩ := h1.form
  obtain ⟨A2, c2, rfl, hc2, hm2⟩ := h2.form
  unfold maxLen at hm1 hm2
  have hlb : ((xs.length : Int) != (xs.length : Int)) = false := by simp
  go_enter Try.func32, Try.ntmps32
  go_wp2
  go_loopw [5] (fun i wr => ∃ k : Nat, i = .int .i64 k ∧ k ≤ xs.length ∧ Dr w wr) (fun i _ => xs.length - (intOf i).toNat)
  case atStart => exact ⟨0, rfl, by omega, Dr.refl _⟩
  case round =>
    obtain ⟨k, rfl, hk, hd⟩ := hrel
    by_cases hlt : k < xs.length
    · obtain ⟨b1, o1, rfl, -, hx⟩ := row_lines (h1.dr hd) (by omega)
      obtain ⟨b2, o2, rfl, -, hy⟩ := row_lines (h2.dr hd) (by omega)
      obtain ⟨hx0, hx1, hx2, hx3, hx4⟩ := hx k hlt
      obtain ⟨hy0, hy1, hy2, hy3, hy4⟩ := hy k hlt
      have HD := hid hd
      clear hx hy h1 h2 hd
      go_wp2
      go_quiet (fail)
      go_wp2
      exact ⟨⟨k + 1, by go_num, by omega, HD.out.step _⟩, by simp [intOf]; omega⟩
    · go_wp2
      go_ret
      exact ⟨rfl, hd⟩

theorem sumC_to {L : List Ln} (h : VO L) (k : Nat) : 0 ≤ sumC (L.take k) ∧ sumC (L.take k) ≤ 24 :=
  ⟨by have := (sumC_bd (L := L.take k) (fun l hl => (h.2.1 l (List.mem_of_mem_take hl)).2)).1; omega, h.sum_to k⟩

set_option maxHeartbeats 1600000 in
set_option maxRecDepth 100000 in
theorem count_c (v : Value) (L : List Ln) (w : World) (h : Row lineE w v L) (hv : VO L) : Calls Try.prog 23 #[v] w fun e w' => e = .returned (.int .i64 (sumC L)) ∧ Dr w w' := by
  obtain ⟨A1, c1, rfl, hc1, hm1⟩ := h.form
  unfold maxLen at hm1
  have HV := hid hv
  clear hv
  go_enter Try.func23, Try.ntmps23
  go_wp2
  go_loopw [3, 4] (fun n i wr => ∃ k : Nat, n = .int .i64 (sumC (L.take k)) ∧ i = .int .i64 k ∧ k ≤ L.length ∧ Dr w wr) (fun _ i _ => L.length - (intOf i).toNat)
  case atStart => exact ⟨0, by simp [sumC_nil], rfl, by omega, Dr.refl _⟩
  case round =>
    obtain ⟨k, rfl, rfl, hk, hd⟩ := hrel
    by_cases hlt : k < L.length
    · obtain ⟨b1, o1, rfl, -, hx⟩ := row_lines (h.dr hd) (by omega)
      obtain ⟨hx0, hx1, hx2, hx3, hx4⟩ := hx k hlt
      have HD := hid hd
      have HS := hid (sumC_succ L k hlt)
      have h1 := sumC_to HV.out k
      have h2 := (HV.out.2.1 _ (List.getElem_mem hlt)).2
      have hs : IntKind.i64.wrap (sumC (L.take k) + L[k].c) = sumC (L.take k) + L[k].c := IntWalk.i64_in _ (by omega)
      clear hx h hd
      go_wp2
      exact ⟨⟨k + 1, by rw [HS.out], by go_num, by omega, HD.out⟩, by simp [intOf]; omega⟩
    · have e : L.take k = L := List.take_of_length_le (by omega)
      rw [e]
      go_wp2
      go_ret
      exact ⟨rfl, hd⟩

def sumI (L : List Int) : Int := L.foldr (fun x s => x + s) 0
theorem sumI_nil : sumI [] = 0 := rfl
theorem sumI_snoc (L : List Int) (x : Int) : sumI (L ++ [x]) = sumI L + x := by
  induction L with
  | nil => simp [sumI]
  | cons y L ih => simp only [sumI, List.cons_append, List.foldr_cons] at ih ⊢; omega
theorem sumI_succ (L : List Int) (k : Nat) (hk : k < L.length) : sumI (L.take (k + 1)) = sumI (L.take k) + L[k] := by
  rw [List.take_succ_eq_append_getElem hk, sumI_snoc]
theorem sumI_bd {L : List Int} (h : ∀ x ∈ L, 0 ≤ x ∧ x ≤ 1000) : 0 ≤ sumI L ∧ sumI L ≤ 1000 * (L.length : Int) := by
  induction L with
  | nil => simp [sumI]
  | cons y L ih =>
    have h1 := h y (by simp)
    have h2 := ih (fun x hx => h x (by simp [hx]))
    simp only [sumI, List.foldr_cons, List.length_cons] at h2 ⊢
    omega

set_option maxHeartbeats 1600000 in
set_option maxRecDepth 100000 in
theorem total_c (v : Value) (L : List Int) (w : World) (h : Row intE w v L) (hn : L.length ≤ 1000000) (hv : ∀ x ∈ L, 0 ≤ x ∧ x ≤ 1000) : Calls Try.prog 33 #[v] w fun e w' => e = .returned (.int .i64 (sumI L)) ∧ Dr w w' := by
  obtain ⟨A1, c1, rfl, hc1, hm1⟩ := h.form
  unfold maxLen at hm1
  have HV := hid hv
  clear hv
  go_enter Try.func33, Try.ntmps33
  go_wp2
  go_loopw [3, 4] (fun n i wr => ∃ k : Nat, n = .int .i64 (sumI (L.take k)) ∧ i = .int .i64 k ∧ k ≤ L.length ∧ Dr w wr) (fun _ i _ => L.length - (intOf i).toNat)
  case atStart => exact ⟨0, by simp [sumI_nil], rfl, by omega, Dr.refl _⟩
  case round =>
    obtain ⟨k, rfl, rfl, hk, hd⟩ := hrel
    by_cases hlt : k < L.length
    · obtain ⟨b1, o1, rfl, -, hx⟩ := row_cells1 (h.dr hd) (by omega)
      have hx0 := hx k hlt
      have HD := hid hd
      have HS := hid (sumI_succ L k hlt)
      have h1 := sumI_bd (L := L.take k) (fun x hx => HV.out x (List.mem_of_mem_take hx))
      have hl := List.length_take_le k L
      have h2 := HV.out _ (List.getElem_mem hlt)
      have hs : IntKind.i64.wrap (sumI (L.take k) + L[k]) = sumI (L.take k) + L[k] := IntWalk.i64_in _ (by omega)
      clear hx h hd
      go_wp2
      exact ⟨⟨k + 1, by rw [HS.out], by go_num, by omega, HD.out⟩, by simp [intOf]; omega⟩
    · have e : L.take k = L := List.take_of_length_le (by omega)
      rw [e]
      go_wp2
      go_ret
      exact ⟨rfl, hd⟩

end Go.Proofs.Ytmenkjloabficaa
