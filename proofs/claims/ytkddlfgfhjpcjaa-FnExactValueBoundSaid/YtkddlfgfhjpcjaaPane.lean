/-
  Contracts of the small functions over a flat struct and its slices (written by a program of mine).
-/
import Derived.Test.YtkddlfgfhjpcjaaInts
import Derived.StillTailTactics
namespace Go.Proofs.Ytkddlfgfhjpcjaa
set_option linter.unusedSimpArgs false
set_option linter.unusedVariables false
open Go.RowKit

structure Pn where
  w : Int
  h : Int
  t : Bool
  k : Int
instance : DecidableEq Pn := fun a b => if h : a.w = b.w ∧ a.h = b.h ∧ a.t = b.t ∧ a.k = b.k then isTrue (by cases a; cases b; simp_all) else isFalse (by rintro rfl; simp at h)
def paneE : Enc Pn := ⟨4, fun x => [.int .i64 x.w, .int .i64 x.h, .bool x.t, .int .i64 x.k], fun _ => rfl, by decide, by simp [Value.oneCell']⟩
theorem pane_info : (Try.prog.info? 51).map (fun i => (i.zero, i.size, i.bytes)) = some (some (.agg #[.int .i64 0, .int .i64 0, .bool false, .int .i64 0]), 4, 32) := by kernel_rfl

theorem row_panes {B : Nat} {w : World} {A : Option Addr} {n c : Nat} {L : List Pn} (h : RowB paneE B w (.slice A n c) L) (hn : 0 < n) : ∃ b off, A = some ⟨b, off, none⟩ ∧ b < B ∧
    ∀ k, (hk : k < L.length) → w.cell? ⟨b, off + k * 4, none⟩ = some (.int .i64 L[k].w) ∧ w.cell? ⟨b, off + k * 4 + 1, none⟩ = some (.int .i64 L[k].h) ∧ w.cell? ⟨b, off + k * 4 + 2, none⟩ = some (.bool L[k].t) ∧ w.cell? ⟨b, off + k * 4 + 3, none⟩ = some (.int .i64 L[k].k) := by
  obtain ⟨h1, h2, h3, h4⟩ := h.at_
  obtain ⟨b, off, rfl, hb, hc⟩ := h4 hn
  exact ⟨b, off, rfl, hb, fun k hk => ⟨hc k 0 _ hk (by decide) rfl, hc k 1 _ hk (by decide) rfl, hc k 2 _ hk (by decide) rfl, hc k 3 _ hk (by decide) rfl⟩⟩

set_option maxHeartbeats 400000 in
theorem toPane_c (x : Pn) (w : World) : Calls Try.prog 67 #[.agg #[.int .i64 x.w, .int .i64 x.h, .bool x.t, .int .i64 x.k]] w fun e w' => e = .returned (.agg #[.int .i64 x.w, .int .i64 x.h, .bool x.t, .int .i64 x.k]) ∧ Below w.heap.size w w' := by
  go_enter Try.func67, Try.ntmps67
  go_wp2
  exact bodyPost_ret (v := .agg #[.int .i64 x.w, .int .i64 x.h, .bool x.t, .int .i64 x.k]) (by simp [results, Try.results67, go_sem]) rfl ⟨rfl, (((Below.refl _ _).alloc (Nat.le_refl _) _).alloc (by simp) _).alloc (by simp; omega) _⟩

set_option maxHeartbeats 800000 in
theorem toPaneS_c (v1 : Value) (L : List Pn) (w : World) (h1 : Row paneE w v1 L) (hn : L.length ≤ 4194304) :
    Calls Try.prog 47 #[v1] w fun e w' => ∃ v, e = .returned v ∧ Own paneE 51 w.heap.size w' v L ∧ Below w.heap.size w w' := by
  obtain ⟨A1, c1, rfl, hc1, hm1⟩ := h1.form
  unfold maxLen at hm1
  obtain ⟨i0, hi0, hz0, hz1, hz2⟩ := info_parts pane_info
  go_enter Try.func47, Try.ntmps47
  go_wp2_with (at_make; refine wpList_mk paneE _ rfl _ _ 38 rfl w.heap.size 51 i0 _ ⟨0, 0, false, 0⟩ 32 Try.underlying38 hi0 hz0 hz1 hz2 rfl _ _ _ _ L.length rfl rfl rfl rfl hn (by omega) (Nat.le_refl _) ?_)
  intro w1 hown hgr hlt1
  have HB1 := hid ((Below.refl _ _).grown hgr (Nat.le_refl _) (by simp) : Below w.heap.size w w1)
  have HO1 := hid hown
  clear hown hgr
  go_wp2
  go_loopw [4] (fun i wr => ∃ k : Nat, i = .int .i64 k ∧ k ≤ L.length ∧ Below w.heap.size w wr ∧ Own paneE 51 w.heap.size wr (.slice (some ⟨w.heap.size, 0, none⟩) L.length L.length) (L.take k ++ List.replicate (L.length - k) ⟨0, 0, false, 0⟩)) (fun i _ => L.length - (intOf i).toNat)
  case atStart => exact ⟨0, rfl, by omega, HB1.out, by simpa using HO1.out⟩
  case round =>
    obtain ⟨k, rfl, hk, hb, ho⟩ := hrel
    clear HO1 HB1
    by_cases hlt : k < L.length
    · obtain ⟨b1, o1, rfl, hlt1, hx⟩ := row_panes (h1.below hb) (by omega)
      obtain ⟨hx0, hx1, hx2, hx3⟩ := hx k hlt
      have HB := hid hb
      have HO := hid ho
      have hsz := hb.size
      clear hx h1 hb ho
      go_wp2_with fail
      refine (toPane_c L[k] _).mono ?_
      rintro e w2 ⟨rfl, hb2⟩
      have HB2 := hid (HB.out.trans (hb2.mono HB.out.size))
      have HO2 := hid (HO.out.below hb2)
      clear hb2
      go_wp2_with (refine wpList_put paneE rfl 51 _ _ rfl _ _ _ _ _ k _ L[k] HO2.out (by simp; omega) (by simp; omega) rfl rfl (by rw [hi0]; simp [hz1, paneE]) _ (replicate_set L ⟨0, 0, false, 0⟩ k L.length hlt rfl _ rfl).symm ?_)
      intro w3 ho3 hg3
      have HO3 := hid ho3
      have HB3 := hid (HB2.out.grown hg3 HB2.out.size (fun q hq => by simp at hq; omega))
      clear ho3 hg3
      go_wp2
      exact ⟨⟨k + 1, by go_num, by omega, HB3.out, HO3.out⟩, by simp [intOf]; omega⟩
    · have e : k = L.length := by omega
      subst e
      go_wp2
      go_ret
      exact ⟨_, rfl, by simpa using ho, hb⟩

set_option maxHeartbeats 400000 in
theorem eqPane_c (a b : Pn) (w : World) : Calls Try.prog 69 #[.agg #[.int .i64 a.w, .int .i64 a.h, .bool a.t, .int .i64 a.k], .agg #[.int .i64 b.w, .int .i64 b.h, .bool b.t, .int .i64 b.k]] w fun e w' => e = .returned (.bool (decide (a = b))) ∧ Below w.heap.size w w' := by
  by_cases h0 : a.w = b.w
  · have g0 : (a.w != b.w) = false := by simp [h0]
    by_cases h1 : a.h = b.h
    · have g1 : (a.h != b.h) = false := by simp [h1]
      by_cases h2 : a.t = b.t
      · have g2 : (a.t != b.t) = false := by simp [h2]
        have g2b : (a.t == b.t) = true := by simp [h2]
        by_cases h3 : a.k = b.k
        · have g3 : (a.k != b.k) = false := by simp [h3]
          have hab : a = b := by cases a; cases b; simp_all
          have HE := hid hab
          clear hab h0 h1 h2 h3
          go_enter Try.func69, Try.ntmps69
          go_wp2
          go_ret
          exact ⟨ret_bool (by simp [HE.out]), ((Below.refl _ _).alloc (Nat.le_refl _) _).alloc (by simp) _⟩
        · have g3 : (a.k != b.k) = true := by simp [h3]
          have HE : Hid (a ≠ b) := fun e => h3 (by rw [e])
          clear h0 h1 h2 h3
          go_enter Try.func69, Try.ntmps69
          go_wp2
          go_ret
          exact ⟨ret_bool (by simp [HE.out]), ((Below.refl _ _).alloc (Nat.le_refl _) _).alloc (by simp) _⟩
      · have g2 : (a.t != b.t) = true := by simp [h2]
        have g2b : (a.t == b.t) = false := by simp [h2]
        have HE : Hid (a ≠ b) := fun e => h2 (by rw [e])
        clear h0 h1 h2
        go_enter Try.func69, Try.ntmps69
        go_wp2
        go_ret
        exact ⟨ret_bool (by simp [HE.out]), ((Below.refl _ _).alloc (Nat.le_refl _) _).alloc (by simp) _⟩
    · have g1 : (a.h != b.h) = true := by simp [h1]
      have HE : Hid (a ≠ b) := fun e => h1 (by rw [e])
      clear h0 h1
      go_enter Try.func69, Try.ntmps69
      go_wp2
      go_ret
      exact ⟨ret_bool (by simp [HE.out]), ((Below.refl _ _).alloc (Nat.le_refl _) _).alloc (by simp) _⟩
  · have g0 : (a.w != b.w) = true := by simp [h0]
    have HE : Hid (a ≠ b) := fun e => h0 (by rw [e])
    clear h0
    go_enter Try.func69, Try.ntmps69
    go_wp2
    go_ret
    exact ⟨ret_bool (by simp [HE.out]), ((Below.refl _ _).alloc (Nat.le_refl _) _).alloc (by simp) _⟩

set_option maxRecDepth 100000 in
set_option maxHeartbeats 800000 in
theorem eqPaneS_c (v1 v2 : Value) (xs ys : List Pn) (w : World) (h1 : Row paneE w v1 xs) (h2 : Row paneE w v2 ys) :
    Calls Try.prog 49 #[v1, v2] w fun e w' => e = .returned (.bool (decide (xs = ys))) ∧ Below w.heap.size w w' := by
  obtain ⟨A1, c1, rfl, hc1, hm1⟩ := h1.form
  obtain ⟨A2, c2, rfl, hc2, hm2⟩ := h2.form
  unfold maxLen at hm1 hm2
  by_cases hl : xs.length = ys.length
  · have hlb : ((xs.length : Int) != (ys.length : Int)) = false := by simp [hl]
    have HL := hid hl
    clear hl
    go_enter Try.func49, Try.ntmps49
    go_wp2
    go_loopw [5] (fun i wr => ∃ k : Nat, i = .int .i64 k ∧ k ≤ xs.length ∧ xs.take k = ys.take k ∧ Below w.heap.size w wr) (fun i _ => xs.length - (intOf i).toNat)
    case atStart => exact ⟨0, rfl, by omega, rfl, Below.refl _ _⟩
    case round =>
      obtain ⟨k, rfl, hk, he, hb⟩ := hrel
      by_cases hlt : k < xs.length
      · obtain ⟨b1, o1, rfl, -, hx⟩ := row_panes (h1.below hb) (by omega)
        obtain ⟨b2, o2, rfl, -, hy⟩ := row_panes (h2.below hb) (by have := HL.out; omega)
        have hlt2 : k < ys.length := by have := HL.out; omega
        obtain ⟨hx0, hx1, hx2, hx3⟩ := hx k hlt
        obtain ⟨hy0, hy1, hy2, hy3⟩ := hy k hlt2
        have HB := hid hb
        have HE := hid he
        clear hx hy h1 h2 hb he
        by_cases hxy : xs[k] = ys[k]
        · have hdec : decide (xs[k] = ys[k]) = true := by simpa using hxy
          have HX := hid hxy
          clear hxy
          go_wp2
          go_still_tail 8, (by kernel_rfl)
          go_wp2_with fail
          refine (eqPane_c xs[k] ys[k] _).mono ?_
          rintro e w2 ⟨rfl, hb2⟩
          rw [hdec]
          have HB2 := hid (HB.out.drew.trans (hb2.mono HB.out.size))
          clear hb2 hdec
          go_wp2
          exact ⟨⟨k + 1, by go_num, by omega, take_succ_eq hlt hlt2 HE.out HX.out, HB2.out⟩, by simp [intOf]; omega⟩
        · have hdec : decide (xs[k] = ys[k]) = false := by simpa using hxy
          have HX := hid hxy
          clear hxy
          go_wp2
          go_still_tail 8, (by kernel_rfl)
          go_wp2_with fail
          refine (eqPane_c xs[k] ys[k] _).mono ?_
          rintro e w2 ⟨rfl, hb2⟩
          rw [hdec]
          have HB2 := hid (HB.out.drew.trans (hb2.mono HB.out.size))
          clear hb2 hdec
          go_wp2
          go_ret
          refine ⟨ret_bool ?_, HB2.out⟩
          symm
          rw [decide_eq_false_iff_not]
          rintro rfl
          exact HX.out rfl
      · go_wp2
        go_ret
        refine ⟨ret_bool ?_, hb⟩
        symm
        rw [decide_eq_true_iff]
        have := HL.out
        rwa [List.take_of_length_le (by omega), List.take_of_length_le (by omega)] at he
  · have hlb : ((xs.length : Int) != (ys.length : Int)) = true := by simp; omega
    have HN : Hid (xs ≠ ys) := fun h => hl (by rw [h])
    clear hl
    go_enter Try.func49, Try.ntmps49
    go_wp2
    go_ret
    exact ⟨ret_bool (by simp [HN.out]), Below.refl _ _⟩

/-- The marked element. -/
def markPane (k : Int) : Pn := ⟨(k), (k + 1), ((k + 1 + 1) % 3 == 0), (k + 1 + 1 + 1)⟩
def marksPane (k : Int) (n : Nat) : List Pn := (List.range n).map fun (j : Nat) => markPane (k + 4 * (j : Int))
theorem marksPane_len (k : Int) (n : Nat) : (marksPane k n).length = n := by simp [marksPane]
theorem marksPane_at (k : Int) (n j : Nat) (hj : j < (marksPane k n).length) : (marksPane k n)[j] = markPane (k + 4 * (j : Int)) := by simp [marksPane]
theorem marksPane_succ (k : Int) (n : Nat) : marksPane k (n + 1) = marksPane k n ++ [markPane (k + 4 * (n : Int))] := by simp [marksPane, List.range_succ]
theorem marksPane_set (k : Int) (xs : List Pn) (j : Nat) (x u : Pn) : (marksPane k j ++ x :: xs.drop (j + 1)).set j u = marksPane k j ++ u :: xs.drop (j + 1) := by
  rw [List.set_append_right _ _ (by rw [marksPane_len]; exact Nat.le_refl _), marksPane_len, Nat.sub_self, List.set_cons_zero]

theorem marksPane_mid (k : Int) (xs : List Pn) (j : Nat) (x : Pn) (h : j < (marksPane k j ++ x :: xs.drop (j + 1)).length) : (marksPane k j ++ x :: xs.drop (j + 1))[j] = x := by
  rw [List.getElem_append_right (by rw [marksPane_len]; exact Nat.le_refl _)]
  simp [marksPane_len]

end Go.Proofs.Ytkddlfgfhjpcjaa
