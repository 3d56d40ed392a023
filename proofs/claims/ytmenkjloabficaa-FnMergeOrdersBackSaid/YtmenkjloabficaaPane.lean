/-
  Contracts of the small functions over a flat struct and its slices (written by a program of mine).
-/
import Derived.Test.YtmenkjloabficaaInts
import Derived.StillTailTactics
namespace Go.Proofs.Ytmenkjloabficaa
set_option linter.unusedSimpArgs false
set_option linter.unusedVariables false
open Go.RowKit

structure Pn where
  w : Int
  h : Int
  t : Bool
  k : Int
instance : DecidableEq Pn := fun a b => if h : a.w = b.w ∧ a.h = b.h ∧ a.t = b.t ∧ a.k = b.k then isTrue (by cases a; cases b; simp_all) else isFalse (by rintro rfl; simp at h)
def paneE : Enc Pn := ⟨4, fun x => [.int .i64 x.w, .int .i64 x.h, .bool x.t, .int .i64 x.k], fun _ => rfl, by decide, by simp [Value.oneCell']⟩
theorem pane_info : (Try.prog.info? 38).map (fun i => (i.zero, i.size, i.bytes)) = some (some (.agg #[.int .i64 0, .int .i64 0, .bool false, .int .i64 0]), 4, 32) := by kernel_rfl

theorem row_panes {B : Nat} {w : World} {A : Option Addr} {n c : Nat} {L : List Pn} (h : RowB paneE B w (.slice A n c) L) (hn : 0 < n) : ∃ b off, A = some ⟨b, off, none⟩ ∧ b < B ∧
    ∀ k, (hk : k < L.length) → w.cell? ⟨b, off + k * 4, none⟩ = some (.int .i64 L[k].w) ∧ w.cell? ⟨b, off + k * 4 + 1, none⟩ = some (.int .i64 L[k].h) ∧ w.cell? ⟨b, off + k * 4 + 2, none⟩ = some (.bool L[k].t) ∧ w.cell? ⟨b, off + k * 4 + 3, none⟩ = some (.int .i64 L[k].k) := by
  obtain ⟨h1, h2, h3, h4⟩ := h.at_
  obtain ⟨b, off, rfl, hb, hc⟩ := h4 hn
  exact ⟨b, off, rfl, hb, fun k hk => ⟨hc k 0 _ hk (by decide) rfl, hc k 1 _ hk (by decide) rfl, hc k 2 _ hk (by decide) rfl, hc k 3 _ hk (by decide) rfl⟩⟩

set_option maxHeartbeats 400000 in
theorem toPane_c (x : Pn) (w : World) : Calls Try.prog 52 #[.agg #[.int .i64 x.w, .int .i64 x.h, .bool x.t, .int .i64 x.k]] w fun e w' => e = .returned (.agg #[.int .i64 x.w, .int .i64 x.h, .bool x.t, .int .i64 x.k]) ∧ Below w.heap.size w w' := by
  go_enter Try.func52, Try.ntmps52
  go_wp2
  exact bodyPost_ret (v := .agg #[.int .i64 x.w, .int .i64 x.h, .bool x.t, .int .i64 x.k]) (by simp [results, Try.results52, go_sem]) rfl ⟨rfl, (((Below.refl _ _).alloc (Nat.le_refl _) _).alloc (by simp) _).alloc (by simp; omega) _⟩

set_option maxHeartbeats 400000 in
theorem eqPane_c (a b : Pn) (w : World) : Calls Try.prog 40 #[.agg #[.int .i64 a.w, .int .i64 a.h, .bool a.t, .int .i64 a.k], .agg #[.int .i64 b.w, .int .i64 b.h, .bool b.t, .int .i64 b.k]] w fun e w' => e = .returned (.bool (decide (a = b))) ∧ Below w.heap.size w w' := by
  by_cases h0 : a.w = b.w
  · have g0 : (a.w != b.w) = false := by simp [h0]
    by_cases h1 : a.h = b.h
    · have g1 : (a.h != b.h) = false := by simp [h1]
      by_cases h2 : a.t = b.t
      · have g2 : (a.t != b.t) = false := by simp [h2]
        have g2b : (a.t == b.t) = true := by simp [h2]
        by_cases h3 : a.k = b.k
        · have g3 : (a.k != b.k) = false := by simp [h3]
          have hab : a = b := by cases a; cases b; simp_all
          have HE := hid hab
          clear hab h0 h1 h2 h3
          go_enter Try.func40, Try.ntmps40
          go_wp2
          go_ret
          exact ⟨ret_bool (by simp [HE.out]), ((Below.refl _ _).alloc (Nat.le_refl _) _).alloc (by simp) _⟩
        · have g3 : (a.k != b.k) = true := by simp [h3]
          have HE : Hid (a ≠ b) := fun e => h3 (by rw [e])
          clear h0 h1 h2 h3
          go_enter Try.func40, Try.ntmps40
          go_wp2
          go_ret
          exact ⟨ret_bool (by simp [HE.out]), ((Below.refl _ _).alloc (Nat.le_refl _) _).alloc (by simp) _⟩
      · have g2 : (a.t != b.t) = true := by simp [h2]
        have g2b : (a.t == b.t) = false := by simp [h2]
        have HE : Hid (a ≠ b) := fun e => h2 (by rw [e])
        clear h0 h1 h2
        go_enter Try.func40, Try.ntmps40
        go_wp2
        go_ret
        exact ⟨ret_bool (by simp [HE.out]), ((Below.refl _ _).alloc (Nat.le_refl _) _).alloc (by simp) _⟩
    · have g1 : (a.h != b.h) = true := by simp [h1]
      have HE : Hid (a ≠ b) := fun e => h1 (by rw [e])
      clear h0 h1
      go_enter Try.func40, Try.ntmps40
      go_wp2
      go_ret
      exact ⟨ret_bool (by simp [HE.out]), ((Below.refl _ _).alloc (Nat.le_refl _) _).alloc (by simp) _⟩
  · have g0 : (a.w != b.w) = true := by simp [h0]
    have HE : Hid (a ≠ b) := fun e => h0 (by rw [e])
    clear h0
    go_enter Try.func40, Try.ntmps40
    go_wp2
    go_ret
    exact ⟨ret_bool (by simp [HE.out]), ((Below.refl _ _).alloc (Nat.le_refl _) _).alloc (by simp) _⟩

set_option maxHeartbeats 800000 in
theorem eqPaneS_c (v1 v2 : Value) (xs ys : List Pn) (w : World) (h1 : Row paneE w v1 xs) (h2 : Row paneE w v2 ys) :
    Calls Try.prog 14 #[v1, v2] w fun e w' => e = .returned (.bool (decide (xs = ys))) ∧ Below w.heap.size w w' := by
  obtain ⟨A1, c1, rfl, hc1, hm1⟩ := h1.form
  obtain ⟨A2, c2, rfl, hc2, hm2⟩ := h2.form
  unfold maxLen at hm1 hm2
  by_cases hl : xs.length = ys.length
  · have hlb : ((xs.length : Int) != (ys.length : Int)) = false := by simp [hl]
    have HL := hid hl
    clear hl
    go_enter Try.func14, Try.ntmps14
    go_wp2
    go_loopw [5] (fun i wr => ∃ k : Nat, i = .int .i64 k ∧ k ≤ xs.length ∧ xs.take k = ys.take k ∧ Below w.heap.size w wr) (fun i _ => xs.length - (intOf i).toNat)
    case atStart => exact ⟨0, rfl, by omega, rfl, Below.refl _ _⟩
    case round =>
      obtain ⟨k, rfl, hk, he, hb⟩ := hrel
      by_cases hlt : k < xs.length
      · obtain ⟨b1, o1, rfl, -, hx⟩ := row_panes (h1.below hb) (by omega)
        obtain ⟨b2, o2, rfl, -, hy⟩ := row_panes (h2.below hb) (by have := HL.out; omega)
        have hlt2 : k < ys.length := by have := HL.out; omega
        obtain ⟨hx0, hx1, hx2, hx3⟩ := hx k hlt
        obtain ⟨hy0, hy1, hy2, hy3⟩ := hy k hlt2
        have HB := hid hb
        have HE := hid he
        clear hx hy h1 h2 hb he
        by_cases hxy : xs[k] = ys[k]
        · have hdec : decide (xs[k] = ys[k]) = true := by simpa using hxy
          have HX := hid hxy
          clear hxy
          go_wp2
          go_still_tail 8, (by kernel_rfl)
          go_wp2_with fail
          refine (eqPane_c xs[k] ys[k] _).mono ?_
          rintro e w2 ⟨rfl, hb2⟩
          rw [hdec]
          have HB2 := hid (HB.out.drew.trans (hb2.mono HB.out.size))
          clear hb2 hdec
          go_wp2
          exact ⟨⟨k + 1, by go_num, by omega, take_succ_eq hlt hlt2 HE.out HX.out, HB2.out⟩, by simp [intOf]; omega⟩
        · have hdec : decide (xs[k] = ys[k]) = false := by simpa using hxy
          have HX := hid hxy
          clear hxy
          go_wp2
          go_still_tail 8, (by kernel_rfl)
          go_wp2_with fail
          refine (eqPane_c xs[k] ys[k] _).mono ?_
          rintro e w2 ⟨rfl, hb2⟩
          rw [hdec]
          have HB2 := hid (HB.out.drew.trans (hb2.mono HB.out.size))
          clear hb2 hdec
          go_wp2
          go_ret
          refine ⟨ret_bool ?_, HB2.out⟩
          symm
          rw [decide_eq_false_iff_not]
          rintro rfl
          exact HX.out rfl
      · go_wp2
        go_ret
        refine ⟨ret_bool ?_, hb⟩
        symm
        rw [decide_eq_true_iff]
        have := HL.out
        rwa [List.take_of_length_le (by omega), List.take_of_length_le (by omega)] at he
  · have hlb : ((xs.length : Int) != (ys.length : Int)) = true := by simp; omega
    have HN : Hid (xs ≠ ys) := fun h => hl (by rw [h])
    clear hl
    go_enter Try.func14, Try.ntmps14
    go_wp2
    go_ret
    exact ⟨ret_bool (by simp [HN.out]), Below.refl _ _⟩

/-- The marked element. -/
def markPane (k : Int) : Pn := ⟨(k), (k + 1), ((k + 1 + 1) % 3 == 0), (k + 1 + 1 + 1)⟩
def marksPane (k : Int) (n : Nat) : List Pn := (List.range n).map fun (j : Nat) => markPane (k + 4 * (j : Int))
theorem marksPane_len (k : Int) (n : Nat) : (marksPane k n).length = n := by simp [marksPane]
theorem marksPane_at (k : Int) (n j : Nat) (hj : j < (marksPane k n).length) : (marksPane k n)[j] = markPane (k + 4 * (j : Int)) := by simp [marksPane]
theorem marksPane_succ (k : Int) (n : Nat) : marksPane k (n + 1) = marksPane k n ++ [markPane (k + 4 * (n : Int))] := by simp [marksPane, List.range_succ]
theorem marksPane_set (k : Int) (xs : List Pn) (j : Nat) (x u : Pn) : (marksPane k j ++ x :: xs.drop (j + 1)).set j u = marksPane k j ++ u :: xs.drop (j + 1) := by
  rw [List.set_append_right _ _ (by rw [marksPane_len]; exact Nat.le_refl _), marksPane_len, Nat.sub_self, List.set_cons_zero]

theorem marksPane_mid (k : Int) (xs : List Pn) (j : Nat) (x : Pn) (h : j < (marksPane k j ++ x :: xs.drop (j + 1)).length) : (marksPane k j ++ x :: xs.drop (j + 1))[j] = x := by
  rw [List.getElem_append_right (by rw [marksPane_len]; exact Nat.le_refl _)]
  simp [marksPane_len]

set_option maxHeartbeats 1600000 in
theorem markPaneS_c (v1 : Value) (xs : List Pn) (base : Nat) (k : Int) (w : World) (h1 : Own paneE 38 base w v1 xs) (hn : xs.length ≤ 4194304) (hk0 : 0 ≤ k) (hk1 : k ≤ 1099511627776) :
    Calls Try.prog 17 #[v1, .int .i64 k] w fun e w' => e = .returned (.int .i64 (k + 4 * xs.length)) ∧ Own paneE 38 base w' v1 (marksPane k xs.length) ∧ w.grownBy w' v1.ownBlock := by
  obtain ⟨A, c, rfl, hc, hm, hA⟩ := h1.shape
  unfold maxLen at hm
  have HI := hid (show (Try.prog.info? 3).map (·.size) = some 1 by kernel_rfl)
  have HIB := hid (show (Try.prog.info? 4).map (·.size) = some 1 by kernel_rfl)
  go_enter Try.func17, Try.ntmps17
  go_wp2
  go_loopw [1, 5] (fun kk i wr => ∃ j : Nat, i = .int .i64 j ∧ kk = .int .i64 (k + 4 * j) ∧ j ≤ xs.length ∧ w.grownBy wr (Value.slice A xs.length c).ownBlock ∧ Own paneE 38 base wr (.slice A xs.length c) (marksPane k j ++ xs.drop j)) (fun _ i _ => xs.length - (intOf i).toNat)
  case atStart => exact ⟨0, rfl, by simp, by omega, World.grownBy.refl _ _, by simpa [marksPane] using h1⟩
  case round =>
    obtain ⟨j, rfl, rfl, hj, hg, ho⟩ := hrel
    by_cases hlt : j < xs.length
    · obtain ⟨g, rfl, hg1, hg2⟩ := hA (by omega)
      rw [List.drop_eq_getElem_cons hlt] at ho
      have HG0 := hid hg
      have HO0 := hid ho
      have hl : ∀ x : Pn, (marksPane k j ++ x :: xs.drop (j + 1)).length = xs.length := by intro x; simp [marksPane_len]; omega
      have HLN := hid hl
      clear ho hg h1 hA hl
      go_wp2_with (refine wpList_put1 paneE rfl 3 _ _ rfl _ _ g _ _ j 0 _ _ (⟨(k + 4 * (j : Int)), xs[j].h, xs[j].t, xs[j].k⟩ : Pn) (.int .i64 (k + 4 * (j : Int))) HO0.out (HLN.out _).symm (by rw [HLN.out]; exact hlt) (by decide) rfl rfl rfl rfl rfl HI.out (by rw [marksPane_mid]; rfl) _ (marksPane_set k xs j _ _).symm ?_)
      intro w1 ho1 hg1
      have HO1 := hid ho1
      have HG1 := hid (grown_trans HG0.out hg1)
      clear ho1 hg1
      go_wp2_with (refine wpList_put1 paneE rfl 3 _ _ rfl _ _ g _ _ j 1 _ _ (⟨(k + 4 * (j : Int)), (k + 4 * (j : Int) + 1), xs[j].t, xs[j].k⟩ : Pn) (.int .i64 (k + 4 * (j : Int) + 1)) HO1.out (HLN.out _).symm (by rw [HLN.out]; exact hlt) (by decide) rfl rfl rfl rfl rfl HI.out (by rw [marksPane_mid]; rfl) _ (marksPane_set k xs j _ _).symm ?_)
      intro w2 ho2 hg2
      have HO2 := hid ho2
      have HG2 := hid (grown_trans HG1.out hg2)
      clear ho2 hg2
      go_wp2_with (refine wpList_put1 paneE rfl 4 _ _ rfl _ _ g _ _ j 2 _ _ (⟨(k + 4 * (j : Int)), (k + 4 * (j : Int) + 1), ((k + 4 * (j : Int) + 1 + 1) % 3 == 0), xs[j].k⟩ : Pn) (.bool ((k + 4 * (j : Int) + 1 + 1) % 3 == 0)) HO2.out (HLN.out _).symm (by rw [HLN.out]; exact hlt) (by decide) rfl rfl rfl rfl rfl HIB.out (by rw [marksPane_mid]; rfl) _ (marksPane_set k xs j _ _).symm ?_)
      intro w3 ho3 hg3
      have HO3 := hid ho3
      have HG3 := hid (grown_trans HG2.out hg3)
      clear ho3 hg3
      go_wp2_with (refine wpList_put1 paneE rfl 3 _ _ rfl _ _ g _ _ j 3 _ _ (⟨(k + 4 * (j : Int)), (k + 4 * (j : Int) + 1), ((k + 4 * (j : Int) + 1 + 1) % 3 == 0), (k + 4 * (j : Int) + 1 + 1 + 1)⟩ : Pn) (.int .i64 (k + 4 * (j : Int) + 1 + 1 + 1)) HO3.out (HLN.out _).symm (by rw [HLN.out]; exact hlt) (by decide) rfl rfl rfl rfl rfl HI.out (by rw [marksPane_mid]; rfl) _ (marksPane_set k xs j _ _).symm ?_)
      intro w4 ho4 hg4
      have HO4 := hid ho4
      have HG4 := hid (grown_trans HG3.out hg4)
      clear ho4 hg4
      go_wp2
      refine ⟨⟨j + 1, by go_num, by go_num, by omega, HG4.out, ?_⟩, by simp [intOf]; omega⟩
      rw [marksPane_succ, List.append_assoc]
      exact HO4.out
    · go_wp2
      go_ret
      have e : j = xs.length := by omega
      subst e
      exact ⟨rfl, by simpa using ho, hg⟩

set_option maxHeartbeats 800000 in
theorem heldPaneS_c (v1 : Value) (k : Int) (n : Nat) (w : World) (h1 : Row paneE w v1 (marksPane k n)) (hn : n ≤ 4194304) (hk0 : 0 ≤ k) (hk1 : k ≤ 1099511627776) :
    Calls Try.prog 18 #[v1, .int .i64 k] w fun e w' => e = .returned (.int .i64 (k + 4 * n)) ∧ Dr w w' := by
  obtain ⟨A, c, rfl, hc, hm⟩ := h1.form
  unfold maxLen at hm
  have hlen := marksPane_len k n
  rw [hlen] at h1 hc ⊢
  go_enter Try.func18, Try.ntmps18
  go_wp2
  go_loopw [1, 5] (fun kk i wr => ∃ j : Nat, i = .int .i64 j ∧ kk = .int .i64 (k + 4 * j) ∧ j ≤ n ∧ Dr w wr) (fun _ i _ => n - (intOf i).toNat)
  case atStart => exact ⟨0, rfl, by simp, by omega, Dr.refl _⟩
  case round =>
    obtain ⟨j, rfl, rfl, hj, hd⟩ := hrel
    by_cases hlt : j < n
    · obtain ⟨b1, o1, rfl, hb1, hx⟩ := row_panes (h1.dr hd) (by omega)
      obtain ⟨hx0, hx1, hx2, hx3⟩ := hx j (by omega)
      rw [marksPane_at] at hx0 hx1 hx2 hx3
      simp only [markPane] at hx0 hx1 hx2 hx3
      have HD := hid hd
      clear hx h1 hd
      go_wp2
      exact ⟨⟨j + 1, by go_num, by go_num, by omega, HD.out⟩, by simp [intOf]; omega⟩
    · go_wp2
      go_ret
      have e : j = n := by omega
      subst e
      exact ⟨rfl, hd⟩

end Go.Proofs.Ytmenkjloabficaa
