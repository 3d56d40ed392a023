/-
  Contracts of the small functions over lists of numbers: copies, equality, marks.
-/
import Derived.Test.YtkddlfgfhjpcjaaWords
import Derived.Test.YtkddlfgfhjpcjaaRows
import Derived.BigQuiet
import Derived.Deep.QuietTactic
namespace Go.Proofs.Ytkddlfgfhjpcjaa
set_option linter.unusedSimpArgs false
set_option linter.unusedVariables false
open Go.RowKit

theorem int_info : (Try.prog.info? 3).map (fun i => (i.zero, i.size, i.bytes)) = some (some (.int .i64 0), 1, 8) := by kernel_rfl

/-- Where the numbers of a row lie. -/
theorem row_cells1 {B : Nat} {w : World} {A : Option Addr} {n c : Nat} {L : List Int} (h : RowB intE B w (.slice A n c) L) (hn : 0 < n) : ∃ b off, A = some ⟨b, off, none⟩ ∧ b < B ∧ ∀ k, (hk : k < L.length) → w.cell? ⟨b, off + k, none⟩ = some (.int .i64 L[k]) := by
  obtain ⟨h1, h2, h3, h4⟩ := h.at_
  obtain ⟨b, off, rfl, hb, hc⟩ := h4 hn
  exact ⟨b, off, rfl, hb, fun k hk => by have := hc k 0 _ hk (by decide) rfl; simpa [intE] using this⟩

theorem Own.own_int {w : World} {e : TypeId} {base g n cap : Nat} {L : List Int} (h : Own intE e base w (.slice (some ⟨g, 0, none⟩) n cap) L) (hn : n = L.length) (k : Nat) (hk : k < L.length) : w.cell? ⟨g, k, none⟩ = some (.int .i64 L[k]) := by
  have := h.cellAt hn k 0 hk (by decide)
  simpa [intE] using this

theorem take_succ_eq {α : Type} {xs ys : List α} {k : Nat} (h1 : k < xs.length) (h2 : k < ys.length) (h : xs.take k = ys.take k) (he : xs[k] = ys[k]) : xs.take (k + 1) = ys.take (k + 1) := by
  rw [List.take_succ_eq_append_getElem h1, List.take_succ_eq_append_getElem h2, h, he]

set_option maxHeartbeats 400000 in
theorem eqIntS_c (v1 v2 : Value) (xs ys : List Int) (w : World) (h1 : Row intE w v1 xs) (h2 : Row intE w v2 ys) :
    Calls Try.prog 24 #[v1, v2] w fun e w' => e = .returned (.bool (decide (xs = ys))) ∧ Dr w w' := by
  obtain ⟨A1, c1, rfl, hc1, hm1⟩ := h1.form
  obtain ⟨A2, c2, rfl, hc2, hm2⟩ := h2.form
  unfold maxLen at hm1 hm2
  by_cases hl : xs.length = ys.length
  · have hlb : ((xs.length : Int) != (ys.length : Int)) = false := by simp [hl]
    have HL := hid hl
    clear hl
    go_enter Try.func24, Try.ntmps24
    go_wp2
    go_loopw [5] (fun i wr => ∃ k : Nat, i = .int .i64 k ∧ k ≤ xs.length ∧ xs.take k = ys.take k ∧ Dr w wr) (fun i _ => xs.length - (intOf i).toNat)
    case atStart => exact ⟨0, rfl, by omega, rfl, Dr.refl _⟩
    case round =>
      obtain ⟨k, rfl, hk, he, hd⟩ := hrel
      by_cases hlt : k < xs.length
      · obtain ⟨b1, o1, rfl, -, hx⟩ := row_cells1 (h1.dr hd) (by omega)
        obtain ⟨b2, o2, rfl, -, hy⟩ := row_cells1 (h2.dr hd) (by have := HL.out; omega)
        have hx' := hx k hlt
        have hy' := hy k (by have := HL.out; omega)
        have hlt2 : k < ys.length := by have := HL.out; omega
        have HD := hid hd
        clear hx hy h1 h2 hd
        go_wp2
        go_quiet (fail)
        all_goals go_wp2
        · have hne : (xs[k] != ys[k]) = true := by assumption
          go_ret
          refine ⟨ret_bool ?_, HD.out.step _⟩
          symm
          rw [decide_eq_false_iff_not]
          rintro rfl
          simp at hne
        · have hne : (xs[k] != ys[k]) = false := by assumption
          refine ⟨⟨k + 1, by go_num, by omega, take_succ_eq hlt hlt2 he (by simpa using hne), HD.out.step _⟩, by simp [intOf]; omega⟩
      · go_wp2
        go_ret
        refine ⟨ret_bool ?_, hd⟩
        symm
        rw [decide_eq_true_iff]
        have := HL.out
        rwa [List.take_of_length_le (by omega), List.take_of_length_le (by omega)] at he
  · have hlb : ((xs.length : Int) != (ys.length : Int)) = true := by simp; omega
    have hne : xs ≠ ys := fun h => hl (by rw [h])
    have HN := hid hne
    clear hl hne
    go_enter Try.func24, Try.ntmps24
    go_wp2
    go_ret
    exact ⟨ret_bool (by simp [HN.out]), Dr.refl _⟩

set_option maxHeartbeats 400000 in
theorem toIntS_c (v1 : Value) (xs : List Int) (w : World) (h1 : Row intE w v1 xs) (hn : xs.length ≤ 4194304) :
    Calls Try.prog 21 #[v1] w fun e w' => ∃ v, e = .returned v ∧ Own intE 3 w.heap.size w' v xs ∧ Below w.heap.size w w' := by
  obtain ⟨A1, c1, rfl, hc1, hm1⟩ := h1.form
  unfold maxLen at hm1
  obtain ⟨i0, hi0, hz0, hz1, hz2⟩ := info_parts int_info
  go_enter Try.func21, Try.ntmps21
  go_wp2_with (at_make; refine wpList_mk intE _ rfl _ _ 23 rfl w.heap.size 3 i0 _ 0 8 Try.underlying23 hi0 hz0 hz1 hz2 rfl _ _ _ _ xs.length rfl rfl rfl rfl hn (by omega) (Nat.le_refl _) ?_)
  intro w1 hown hgr hlt1
  have hb1 : Below w.heap.size w w1 := (Below.refl _ _).grown hgr (Nat.le_refl _) (by simp)
  go_wp2
  go_loopw [4] (fun i wr => ∃ k : Nat, i = .int .i64 k ∧ k ≤ xs.length ∧ Below w.heap.size w wr ∧ Own intE 3 w.heap.size wr (.slice (some ⟨w.heap.size, 0, none⟩) xs.length xs.length) (xs.take k ++ List.replicate (xs.length - k) 0)) (fun i _ => xs.length - (intOf i).toNat)
  case atStart => exact ⟨0, rfl, by omega, hb1, by simpa using hown⟩
  case round =>
    obtain ⟨k, rfl, hk, hb, ho⟩ := hrel
    by_cases hlt : k < xs.length
    · obtain ⟨b1, o1, rfl, hlt1, hx⟩ := row_cells1 (h1.below hb) (by omega)
      have hx' := hx k hlt
      have hfr := ho.frozen (by simp; omega) k
      obtain ⟨ho2, hg2⟩ := ho.store1 rfl k xs[k] (.int .i64 xs[k]) rfl (by simp; omega)
      have hsz := hb.size
      have hcl := ho.own_int (by simp; omega) k (by simp; omega)
      have HO2 := hid ho2
      have HG2 := hid hg2
      have HB := hid hb
      clear hx h1 ho2 hg2 ho hown hgr hb1 hb
      go_wp2
      refine ⟨⟨k + 1, by go_num, by omega, HB.out.setCell (by simp) _, ?_⟩, by simp [intOf]; omega⟩
      rw [← replicate_set xs 0 k xs.length hlt rfl _ rfl]
      exact HO2.out
    · go_wp2
      go_ret
      have e : k = xs.length := by omega
      subst e
      exact ⟨_, rfl, by simpa using ho, hb⟩

/-- The numbers k, k + 1, .. -/
def marks (k : Int) (n : Nat) : List Int := (List.range n).map fun (j : Nat) => k + (j : Int)
theorem marks_len (k : Int) (n : Nat) : (marks k n).length = n := by simp [marks]
theorem marks_at (k : Int) (n j : Nat) (hj : j < (marks k n).length) : (marks k n)[j] = k + j := by simp [marks]
theorem marks_succ (k : Int) (n : Nat) : marks k (n + 1) = marks k n ++ [k + n] := by simp [marks, List.range_succ]

theorem marks_set (k : Int) (xs : List Int) (j : Nat) (hj : j < xs.length) (u : Int) (hu : u = k + j) : (marks k j ++ xs.drop j).set j u = marks k (j + 1) ++ xs.drop (j + 1) := by
  subst hu
  rw [List.set_append_right _ _ (by rw [marks_len]; exact Nat.le_refl _), marks_len, Nat.sub_self, List.drop_eq_getElem_cons hj, List.set_cons_zero, marks_succ, List.append_assoc]
  rfl

end Go.Proofs.Ytkddlfgfhjpcjaa
