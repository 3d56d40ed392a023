/-
  Contracts of the small functions over a flat struct and its slices (written by a program of mine).
-/
import Derived.Test.YtpicbkakghojnaaInts
import Derived.StillTailTactics
namespace Go.Proofs.Ytpicbkakghojnaa
set_option linter.unusedSimpArgs false
set_option linter.unusedVariables false
open Go.RowKit

structure Bx where
  x : Int
  y : Int
  w : Int
  h : Int
instance : DecidableEq Bx := fun a b => if h : a.x = b.x ∧ a.y = b.y ∧ a.w = b.w ∧ a.h = b.h then isTrue (by cases a; cases b; simp_all) else isFalse (by rintro rfl; simp at h)
def boxE : Enc Bx := ⟨4, fun x => [.int .i64 x.x, .int .i64 x.y, .int .i64 x.w, .int .i64 x.h], fun _ => rfl, by decide, by simp [Value.oneCell']⟩
theorem box_info : (Try.prog.info? 33).map (fun i => (i.zero, i.size, i.bytes)) = some (some (.agg #[.int .i64 0, .int .i64 0, .int .i64 0, .int .i64 0]), 4, 32) := by kernel_rfl

theorem row_boxs {B : Nat} {w : World} {A : Option Addr} {n c : Nat} {L : List Bx} (h : RowB boxE B w (.slice A n c) L) (hn : 0 < n) : ∃ b off, A = some ⟨b, off, none⟩ ∧ b < B ∧
    ∀ k, (hk : k < L.length) → w.cell? ⟨b, off + k * 4, none⟩ = some (.int .i64 L[k].x) ∧ w.cell? ⟨b, off + k * 4 + 1, none⟩ = some (.int .i64 L[k].y) ∧ w.cell? ⟨b, off + k * 4 + 2, none⟩ = some (.int .i64 L[k].w) ∧ w.cell? ⟨b, off + k * 4 + 3, none⟩ = some (.int .i64 L[k].h) := by
  obtain ⟨h1, h2, h3, h4⟩ := h.at_
  obtain ⟨b, off, rfl, hb, hc⟩ := h4 hn
  exact ⟨b, off, rfl, hb, fun k hk => ⟨hc k 0 _ hk (by decide) rfl, hc k 1 _ hk (by decide) rfl, hc k 2 _ hk (by decide) rfl, hc k 3 _ hk (by decide) rfl⟩⟩

set_option maxHeartbeats 400000 in
theorem toBox_c (x : Bx) (w : World) : Calls Try.prog 17 #[.agg #[.int .i64 x.x, .int .i64 x.y, .int .i64 x.w, .int .i64 x.h]] w fun e w' => e = .returned (.agg #[.int .i64 x.x, .int .i64 x.y, .int .i64 x.w, .int .i64 x.h]) ∧ Below w.heap.size w w' := by
  go_enter Try.func17, Try.ntmps17
  go_wp2
  exact bodyPost_ret (v := .agg #[.int .i64 x.x, .int .i64 x.y, .int .i64 x.w, .int .i64 x.h]) (by simp [results, Try.results17, go_sem]) rfl ⟨rfl, (((Below.refl _ _).alloc (Nat.le_refl _) _).alloc (by simp) _).alloc (by simp; omega) _⟩

set_option maxHeartbeats 800000 in
theorem toBoxS_c (v1 : Value) (L : List Bx) (w : World) (h1 : Row boxE w v1 L) (hn : L.length ≤ 4194304) :
    Calls Try.prog 56 #[v1] w fun e w' => ∃ v, e = .returned v ∧ Own boxE 33 w.heap.size w' v L ∧ Below w.heap.size w w' := by
  obtain ⟨A1, c1, rfl, hc1, hm1⟩ := h1.form
  unfold maxLen at hm1
  obtain ⟨i0, hi0, hz0, hz1, hz2⟩ := info_parts box_info
  go_enter Try.func56, Try.ntmps56
  go_wp2_with (at_make; refine wpList_mk boxE _ rfl _ _ 29 rfl w.heap.size 33 i0 _ ⟨0, 0, 0, 0⟩ 32 Try.underlying29 hi0 hz0 hz1 hz2 rfl _ _ _ _ L.length rfl rfl rfl rfl hn (by omega) (Nat.le_refl _) ?_)
  intro w1 hown hgr hlt1
  have HB1 := hid ((Below.refl _ _).grown hgr (Nat.le_refl _) (by simp) : Below w.heap.size w w1)
  have HO1 := hid hown
  clear hown hgr
  go_wp2
  go_loopw [4] (fun i wr => ∃ k : Nat, i = .int .i64 k ∧ k ≤ L.length ∧ Below w.heap.size w wr ∧ Own boxE 33 w.heap.size wr (.slice (some ⟨w.heap.size, 0, none⟩) L.length L.length) (L.take k ++ List.replicate (L.length - k) ⟨0, 0, 0, 0⟩)) (fun i _ => L.length - (intOf i).toNat)
  case atStart => exact ⟨0, rfl, by omega, HB1.out, by simpa using HO1.out⟩
  case round =>
    obtain ⟨k, rfl, hk, hb, ho⟩ := hrel
    clear HO1 HB1
    by_cases hlt : k < L.length
    · obtain ⟨b1, o1, rfl, hlt1, hx⟩ := row_boxs (h1.below hb) (by omega)
      obtain ⟨hx0, hx1, hx2, hx3⟩ := hx k hlt
      have HB := hid hb
      have HO := hid ho
      have hsz := hb.size
      clear hx h1 hb ho
      go_wp2_with fail
      refine (toBox_c L[k] _).mono ?_
      rintro e w2 ⟨rfl, hb2⟩
      have HB2 := hid (HB.out.trans (hb2.mono HB.out.size))
      have HO2 := hid (HO.out.below hb2)
      clear hb2
      go_wp2_with (refine wpList_put boxE rfl 33 _ _ rfl _ _ _ _ _ k _ L[k] HO2.out (by simp; omega) (by simp; omega) rfl rfl (by rw [hi0]; simp [hz1, boxE]) _ (replicate_set L ⟨0, 0, 0, 0⟩ k L.length hlt rfl _ rfl).symm ?_)
      intro w3 ho3 hg3
      have HO3 := hid ho3
      have HB3 := hid (HB2.out.grown hg3 HB2.out.size (fun q hq => by simp at hq; omega))
      clear ho3 hg3
      go_wp2
      exact ⟨⟨k + 1, by go_num, by omega, HB3.out, HO3.out⟩, by simp [intOf]; omega⟩
    · have e : k = L.length := by omega
      subst e
      go_wp2
      go_ret
      exact ⟨_, rfl, by simpa using ho, hb⟩

set_option maxHeartbeats 400000 in
theorem eqBox_c (a b : Bx) (w : World) : Calls Try.prog 22 #[.agg #[.int .i64 a.x, .int .i64 a.y, .int .i64 a.w, .int .i64 a.h], .agg #[.int .i64 b.x, .int .i64 b.y, .int .i64 b.w, .int .i64 b.h]] w fun e w' => e = .returned (.bool (decide (a = b))) ∧ Below w.heap.size w w' := by
  by_cases h0 : a.x = b.x
  · have g0 : (a.x != b.x) = false := by simp [h0]
    by_cases h1 : a.y = b.y
    · have g1 : (a.y != b.y) = false := by simp [h1]
      by_cases h2 : a.w = b.w
      · have g2 : (a.w != b.w) = false := by simp [h2]
        by_cases h3 : a.h = b.h
        · have g3 : (a.h != b.h) = false := by simp [h3]
          have hab : a = b := by cases a; cases b; simp_all
          have HE := hid hab
          clear hab h0 h1 h2 h3
          go_enter Try.func22, Try.ntmps22
          go_wp2
          go_ret
          exact ⟨ret_bool (by simp [HE.out]), ((Below.refl _ _).alloc (Nat.le_refl _) _).alloc (by simp) _⟩
        · have g3 : (a.h != b.h) = true := by simp [h3]
          have HE : Hid (a ≠ b) := fun e => h3 (by rw [e])
          clear h0 h1 h2 h3
          go_enter Try.func22, Try.ntmps22
          go_wp2
          go_ret
          exact ⟨ret_bool (by simp [HE.out]), ((Below.refl _ _).alloc (Nat.le_refl _) _).alloc (by simp) _⟩
      · have g2 : (a.w != b.w) = true := by simp [h2]
        have HE : Hid (a ≠ b) := fun e => h2 (by rw [e])
        clear h0 h1 h2
        go_enter Try.func22, Try.ntmps22
        go_wp2
        go_ret
        exact ⟨ret_bool (by simp [HE.out]), ((Below.refl _ _).alloc (Nat.le_refl _) _).alloc (by simp) _⟩
    · have g1 : (a.y != b.y) = true := by simp [h1]
      have HE : Hid (a ≠ b) := fun e => h1 (by rw [e])
      clear h0 h1
      go_enter Try.func22, Try.ntmps22
      go_wp2
      go_ret
      exact ⟨ret_bool (by simp [HE.out]), ((Below.refl _ _).alloc (Nat.le_refl _) _).alloc (by simp) _⟩
  · have g0 : (a.x != b.x) = true := by simp [h0]
    have HE : Hid (a ≠ b) := fun e => h0 (by rw [e])
    clear h0
    go_enter Try.func22, Try.ntmps22
    go_wp2
    go_ret
    exact ⟨ret_bool (by simp [HE.out]), ((Below.refl _ _).alloc (Nat.le_refl _) _).alloc (by simp) _⟩

set_option maxHeartbeats 800000 in
set_option maxRecDepth 100000 in
theorem eqBoxS_c (v1 v2 : Value) (xs ys : List Bx) (w : World) (h1 : Row boxE w v1 xs) (h2 : Row boxE w v2 ys) :
    Calls Try.prog 59 #[v1, v2] w fun e w' => e = .returned (.bool (decide (xs = ys))) ∧ Below w.heap.size w w' := by
  obtain ⟨A1, c1, rfl, hc1, hm1⟩ := h1.form
  obtain ⟨A2, c2, rfl, hc2, hm2⟩ := h2.form
  unfold maxLen at hm1 hm2
  by_cases hl : xs.length = ys.length
  · have hlb : ((xs.length : Int) != (ys.length : Int)) = false := by simp [hl]
    have HL := hid hl
    clear hl
    go_enter Try.func59, Try.ntmps59
    go_wp2
    go_loopw [5] (fun i wr => ∃ k : Nat, i = .int .i64 k ∧ k ≤ xs.length ∧ xs.take k = ys.take k ∧ Below w.heap.size w wr) (fun i _ => xs.length - (intOf i).toNat)
    case atStart => exact ⟨0, rfl, by omega, rfl, Below.refl _ _⟩
    case round =>
      obtain ⟨k, rfl, hk, he, hb⟩ := hrel
      by_cases hlt : k < xs.length
      · obtain ⟨b1, o1, rfl, -, hx⟩ := row_boxs (h1.below hb) (by omega)
        obtain ⟨b2, o2, rfl, -, hy⟩ := row_boxs (h2.below hb) (by have := HL.out; omega)
        have hlt2 : k < ys.length := by have := HL.out; omega
        obtain ⟨hx0, hx1, hx2, hx3⟩ := hx k hlt
        obtain ⟨hy0, hy1, hy2, hy3⟩ := hy k hlt2
        have HB := hid hb
        have HE := hid he
        clear hx hy h1 h2 hb he
        by_cases hxy : xs[k] = ys[k]
        · have hdec : decide (xs[k] = ys[k]) = true := by simpa using hxy
          have HX := hid hxy
          clear hxy
          go_wp2
          go_still_tail 8, (by kernel_rfl)
          go_wp2_with fail
          refine (eqBox_c xs[k] ys[k] _).mono ?_
          rintro e w2 ⟨rfl, hb2⟩
          rw [hdec]
          have HB2 := hid (HB.out.drew.trans (hb2.mono HB.out.size))
          clear hb2 hdec
          go_wp2
          exact ⟨⟨k + 1, by go_num, by omega, take_succ_eq hlt hlt2 HE.out HX.out, HB2.out⟩, by simp [intOf]; omega⟩
        · have hdec : decide (xs[k] = ys[k]) = false := by simpa using hxy
          have HX := hid hxy
          clear hxy
          go_wp2
          go_still_tail 8, (by kernel_rfl)
          go_wp2_with fail
          refine (eqBox_c xs[k] ys[k] _).mono ?_
          rintro e w2 ⟨rfl, hb2⟩
          rw [hdec]
          have HB2 := hid (HB.out.drew.trans (hb2.mono HB.out.size))
          clear hb2 hdec
          go_wp2
          go_ret
          refine ⟨ret_bool ?_, HB2.out⟩
          symm
          rw [decide_eq_false_iff_not]
          rintro rfl
          exact HX.out rfl
      · go_wp2
        go_ret
        refine ⟨ret_bool ?_, hb⟩
        symm
        rw [decide_eq_true_iff]
        have := HL.out
        rwa [List.take_of_length_le (by omega), List.take_of_length_le (by omega)] at he
  · have hlb : ((xs.length : Int) != (ys.length : Int)) = true := by simp; omega
    have HN : Hid (xs ≠ ys) := fun h => hl (by rw [h])
    clear hl
    go_enter Try.func59, Try.ntmps59
    go_wp2
    go_ret
    exact ⟨ret_bool (by simp [HN.out]), Below.refl _ _⟩

/-- The marked element. -/
def markBox (k : Int) : Bx := ⟨(k), (k + 1), (k + 1 + 1), (k + 1 + 1 + 1)⟩
def marksBox (k : Int) (n : Nat) : List Bx := (List.range n).map fun (j : Nat) => markBox (k + 4 * (j : Int))
theorem marksBox_len (k : Int) (n : Nat) : (marksBox k n).length = n := by simp [marksBox]
theorem marksBox_at (k : Int) (n j : Nat) (hj : j < (marksBox k n).length) : (marksBox k n)[j] = markBox (k + 4 * (j : Int)) := by simp [marksBox]
theorem marksBox_succ (k : Int) (n : Nat) : marksBox k (n + 1) = marksBox k n ++ [markBox (k + 4 * (n : Int))] := by simp [marksBox, List.range_succ]
theorem marksBox_set (k : Int) (xs : List Bx) (j : Nat) (x u : Bx) : (marksBox k j ++ x :: xs.drop (j + 1)).set j u = marksBox k j ++ u :: xs.drop (j + 1) := by
  rw [List.set_append_right _ _ (by rw [marksBox_len]; exact Nat.le_refl _), marksBox_len, Nat.sub_self, List.set_cons_zero]

theorem marksBox_mid (k : Int) (xs : List Bx) (j : Nat) (x : Bx) (h : j < (marksBox k j ++ x :: xs.drop (j + 1)).length) : (marksBox k j ++ x :: xs.drop (j + 1))[j] = x := by
  rw [List.getElem_append_right (by rw [marksBox_len]; exact Nat.le_refl _)]
  simp [marksBox_len]

set_option maxHeartbeats 1600000 in
theorem markBoxS_c (v1 : Value) (xs : List Bx) (base : Nat) (k : Int) (w : World) (h1 : Own boxE 33 base w v1 xs) (hn : xs.length ≤ 4194304) (hk0 : 0 ≤ k) (hk1 : k ≤ 1099511627776) :
    Calls Try.prog 66 #[v1, .int .i64 k] w fun e w' => e = .returned (.int .i64 (k + 4 * xs.length)) ∧ Own boxE 33 base w' v1 (marksBox k xs.length) ∧ w.grownBy w' v1.ownBlock := by
  obtain ⟨A, c, rfl, hc, hm, hA⟩ := h1.shape
  unfold maxLen at hm
  have HI := hid (show (Try.prog.info? 3).map (·.size) = some 1 by kernel_rfl)
  have HIB := hid (show (Try.prog.info? 4).map (·.size) = some 1 by kernel_rfl)
  go_enter Try.func66, Try.ntmps66
  go_wp2
  go_loopw [1, 5] (fun kk i wr => ∃ j : Nat, i = .int .i64 j ∧ kk = .int .i64 (k + 4 * j) ∧ j ≤ xs.length ∧ w.grownBy wr (Value.slice A xs.length c).ownBlock ∧ Own boxE 33 base wr (.slice A xs.length c) (marksBox k j ++ xs.drop j)) (fun _ i _ => xs.length - (intOf i).toNat)
  case atStart => exact ⟨0, rfl, by simp, by omega, World.grownBy.refl _ _, by simpa [marksBox] using h1⟩
  case round =>
    obtain ⟨j, rfl, rfl, hj, hg, ho⟩ := hrel
    by_cases hlt : j < xs.length
    · obtain ⟨g, rfl, hg1, hg2⟩ := hA (by omega)
      rw [List.drop_eq_getElem_cons hlt] at ho
      have HG0 := hid hg
      have HO0 := hid ho
      have hl : ∀ x : Bx, (marksBox k j ++ x :: xs.drop (j + 1)).length = xs.length := by intro x; simp [marksBox_len]; omega
      have HLN := hid hl
      clear ho hg h1 hA hl
      go_wp2_with (refine wpList_put1 boxE rfl 3 _ _ rfl _ _ g _ _ j 0 _ _ (⟨(k + 4 * (j : Int)), xs[j].y, xs[j].w, xs[j].h⟩ : Bx) (.int .i64 (k + 4 * (j : Int))) HO0.out (HLN.out _).symm (by rw [HLN.out]; exact hlt) (by decide) rfl rfl rfl rfl rfl HI.out (by rw [marksBox_mid]; rfl) _ (marksBox_set k xs j _ _).symm ?_)
      intro w1 ho1 hg1
      have HO1 := hid ho1
      have HG1 := hid (grown_trans HG0.out hg1)
      clear ho1 hg1
      go_wp2_with (refine wpList_put1 boxE rfl 3 _ _ rfl _ _ g _ _ j 1 _ _ (⟨(k + 4 * (j : Int)), (k + 4 * (j : Int) + 1), xs[j].w, xs[j].h⟩ : Bx) (.int .i64 (k + 4 * (j : Int) + 1)) HO1.out (HLN.out _).symm (by rw [HLN.out]; exact hlt) (by decide) rfl rfl rfl rfl rfl HI.out (by rw [marksBox_mid]; rfl) _ (marksBox_set k xs j _ _).symm ?_)
      intro w2 ho2 hg2
      have HO2 := hid ho2
      have HG2 := hid (grown_trans HG1.out hg2)
      clear ho2 hg2
      go_wp2_with (refine wpList_put1 boxE rfl 3 _ _ rfl _ _ g _ _ j 2 _ _ (⟨(k + 4 * (j : Int)), (k + 4 * (j : Int) + 1), (k + 4 * (j : Int) + 1 + 1), xs[j].h⟩ : Bx) (.int .i64 (k + 4 * (j : Int) + 1 + 1)) HO2.out (HLN.out _).symm (by rw [HLN.out]; exact hlt) (by decide) rfl rfl rfl rfl rfl HI.out (by rw [marksBox_mid]; rfl) _ (marksBox_set k xs j _ _).symm ?_)
      intro w3 ho3 hg3
      have HO3 := hid ho3
      have HG3 := hid (grown_trans HG2.out hg3)
      clear ho3 hg3
      go_wp2_with (refine wpList_put1 boxE rfl 3 _ _ rfl _ _ g _ _ j 3 _ _ (⟨(k + 4 * (j : Int)), (k + 4 * (j : Int) + 1), (k + 4 * (j : Int) + 1 + 1), (k + 4 * (j : Int) + 1 + 1 + 1)⟩ : Bx) (.int .i64 (k + 4 * (j : Int) + 1 + 1 + 1)) HO3.out (HLN.out _).symm (by rw [HLN.out]; exact hlt) (by decide) rfl rfl rfl rfl rfl HI.out (by rw [marksBox_mid]; rfl) _ (marksBox_set k xs j _ _).symm ?_)
      intro w4 ho4 hg4
      have HO4 := hid ho4
      have HG4 := hid (grown_trans HG3.out hg4)
      clear ho4 hg4
      go_wp2
      refine ⟨⟨j + 1, by go_num, by go_num, by omega, HG4.out, ?_⟩, by simp [intOf]; omega⟩
      rw [marksBox_succ, List.append_assoc]
      exact HO4.out
    · go_wp2
      go_ret
      have e : j = xs.length := by omega
      subst e
      exact ⟨rfl, by simpa using ho, hg⟩

set_option maxHeartbeats 800000 in
theorem heldBoxS_c (v1 : Value) (k : Int) (n : Nat) (w : World) (h1 : Row boxE w v1 (marksBox k n)) (hn : n ≤ 4194304) (hk0 : 0 ≤ k) (hk1 : k ≤ 1099511627776) :
    Calls Try.prog 67 #[v1, .int .i64 k] w fun e w' => e = .returned (.int .i64 (k + 4 * n)) ∧ Dr w w' := by
  obtain ⟨A, c, rfl, hc, hm⟩ := h1.form
  unfold maxLen at hm
  have hlen := marksBox_len k n
  rw [hlen] at h1 hc ⊢
  go_enter Try.func67, Try.ntmps67
  go_wp2
  go_loopw [1, 5] (fun kk i wr => ∃ j : Nat, i = .int .i64 j ∧ kk = .int .i64 (k + 4 * j) ∧ j ≤ n ∧ Dr w wr) (fun _ i _ => n - (intOf i).toNat)
  case atStart => exact ⟨0, rfl, by simp, by omega, Dr.refl _⟩
  case round =>
    obtain ⟨j, rfl, rfl, hj, hd⟩ := hrel
    by_cases hlt : j < n
    · obtain ⟨b1, o1, rfl, hb1, hx⟩ := row_boxs (h1.dr hd) (by omega)
      obtain ⟨hx0, hx1, hx2, hx3⟩ := hx j (by omega)
      rw [marksBox_at] at hx0 hx1 hx2 hx3
      simp only [markBox] at hx0 hx1 hx2 hx3
      have HD := hid hd
      clear hx h1 hd
      go_wp2
      exact ⟨⟨j + 1, by go_num, by go_num, by omega, HD.out⟩, by simp [intOf]; omega⟩
    · go_wp2
      go_ret
      have e : j = n := by omega
      subst e
      exact ⟨rfl, hd⟩

theorem szBoxS_t (v1 : Value) (L : List Bx) (l : Int) (w : World) (h1 : Row boxE w v1 L) (h0 : 0 ≤ l) (hl : l ≤ 4194304) (h : (L.length : Int) ≤ l) :
    Calls Try.prog 51 #[v1, .int .i64 l] w fun e w' => e = .returned (.int .i64 (l - L.length)) ∧ Dr w w' := by
  obtain ⟨A1, c1, rfl, hc1, hm1⟩ := h1.form
  unfold maxLen at hm1
  go_enter Try.func51, Try.ntmps51
  go_wp2
  go_ret
  exact ⟨rfl, Dr.refl _⟩
theorem szBoxS_f (v1 : Value) (L : List Bx) (l : Int) (w : World) (h1 : Row boxE w v1 L) (h0 : 0 ≤ l) (hl : l ≤ 4194304) (h : l < (L.length : Int)) :
    Calls Try.prog 51 #[v1, .int .i64 l] w fun e w' => e = .returned (.int .i64 (-1)) ∧ Dr w w' := by
  obtain ⟨A1, c1, rfl, hc1, hm1⟩ := h1.form
  unfold maxLen at hm1
  go_enter Try.func51, Try.ntmps51
  go_wp2
  go_ret
  exact ⟨rfl, Dr.refl _⟩


end Go.Proofs.Ytpicbkakghojnaa
