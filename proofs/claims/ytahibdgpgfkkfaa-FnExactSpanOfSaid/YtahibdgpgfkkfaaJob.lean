/-
  Contracts of the small functions over a flat struct and its slices (written by a program of mine).
-/
import Derived.Test.YtahibdgpgfkkfaaInts
import Derived.StillTailTactics
namespace Go.Proofs.Ytahibdgpgfkkfaa
set_option linter.unusedSimpArgs false
set_option linter.unusedVariables false
open Go.RowKit

structure Jb where
  c : Int
  h : Int
instance : DecidableEq Jb := fun a b => if h : a.c = b.c ∧ a.h = b.h then isTrue (by cases a; cases b; simp_all) else isFalse (by rintro rfl; simp at h)
def jobE : Enc Jb := ⟨2, fun x => [.int .i64 x.c, .int .i64 x.h], fun _ => rfl, by decide, by simp [Value.oneCell']⟩
theorem job_info : (Try.prog.info? 40).map (fun i => (i.zero, i.size, i.bytes)) = some (some (.agg #[.int .i64 0, .int .i64 0]), 2, 16) := by kernel_rfl

theorem row_jobs {B : Nat} {w : World} {A : Option Addr} {n c : Nat} {L : List Jb} (h : RowB jobE B w (.slice A n c) L) (hn : 0 < n) : ∃ b off, A = some ⟨b, off, none⟩ ∧ b < B ∧
    ∀ k, (hk : k < L.length) → w.cell? ⟨b, off + k * 2, none⟩ = some (.int .i64 L[k].c) ∧ w.cell? ⟨b, off + k * 2 + 1, none⟩ = some (.int .i64 L[k].h) := by
  obtain ⟨h1, h2, h3, h4⟩ := h.at_
  obtain ⟨b, off, rfl, hb, hc⟩ := h4 hn
  exact ⟨b, off, rfl, hb, fun k hk => ⟨hc k 0 _ hk (by decide) rfl, hc k 1 _ hk (by decide) rfl⟩⟩

set_option maxHeartbeats 400000 in
theorem toJob_c (x : Jb) (w : World) : Calls Try.prog 52 #[.agg #[.int .i64 x.c, .int .i64 x.h]] w fun e w' => e = .returned (.agg #[.int .i64 x.c, .int .i64 x.h]) ∧ Below w.heap.size w w' := by
  go_enter Try.func52, Try.ntmps52
  go_wp2
  exact bodyPost_ret (v := .agg #[.int .i64 x.c, .int .i64 x.h]) (by simp [results, Try.results52, go_sem]) rfl ⟨rfl, (((Below.refl _ _).alloc (Nat.le_refl _) _).alloc (by simp) _).alloc (by simp; omega) _⟩

set_option maxHeartbeats 800000 in
theorem toJobS_c (v1 : Value) (L : List Jb) (w : World) (h1 : Row jobE w v1 L) (hn : L.length ≤ 4194304) :
    Calls Try.prog 21 #[v1] w fun e w' => ∃ v, e = .returned v ∧ Own jobE 40 w.heap.size w' v L ∧ Below w.heap.size w w' := by
  obtain ⟨A1, c1, rfl, hc1, hm1⟩ := h1.form
  unfold maxLen at hm1
  obtain ⟨i0, hi0, hz0, hz1, hz2⟩ := info_parts job_info
  go_enter Try.func21, Try.ntmps21
  go_wp2_with (at_make; refine wpList_mk jobE _ rfl _ _ 30 rfl w.heap.size 40 i0 _ ⟨0, 0⟩ 16 Try.underlying30 hi0 hz0 hz1 hz2 rfl _ _ _ _ L.length rfl rfl rfl rfl hn (by omega) (Nat.le_refl _) ?_)
  intro w1 hown hgr hlt1
  have HB1 := hid ((Below.refl _ _).grown hgr (Nat.le_refl _) (by simp) : Below w.heap.size w w1)
  have HO1 := hid hown
  clear hown hgr
  go_wp2
  go_loopw [4] (fun i wr => ∃ k : Nat, i = .int .i64 k ∧ k ≤ L.length ∧ Below w.heap.size w wr ∧ Own jobE 40 w.heap.size wr (.slice (some ⟨w.heap.size, 0, none⟩) L.length L.length) (L.take k ++ List.replicate (L.length - k) ⟨0, 0⟩)) (fun i _ => L.length - (intOf i).toNat)
  case atStart => exact ⟨0, rfl, by omega, HB1.out, by simpa using HO1.out⟩
  case round =>
    obtain ⟨k, rfl, hk, hb, ho⟩ := hrel
    clear HO1 HB1
    by_cases hlt : k < L.length
    · obtain ⟨b1, o1, rfl, hlt1, hx⟩ := row_jobs (h1.below hb) (by omega)
      obtain ⟨hx0, hx1⟩ := hx k hlt
      have HB := hid hb
      have HO := hid ho
      have hsz := hb.size
      clear hx h1 hb ho
      go_wp2_with fail
      refine (toJob_c L[k] _).mono ?_
      rintro e w2 ⟨rfl, hb2⟩
      have HB2 := hid (HB.out.trans (hb2.mono HB.out.size))
      have HO2 := hid (HO.out.below hb2)
      clear hb2
      go_wp2_with (refine wpList_put jobE rfl 40 _ _ rfl _ _ _ _ _ k _ L[k] HO2.out (by simp; omega) (by simp; omega) rfl rfl (by rw [hi0]; simp [hz1, jobE]) _ (replicate_set L ⟨0, 0⟩ k L.length hlt rfl _ rfl).symm ?_)
      intro w3 ho3 hg3
      have HO3 := hid ho3
      have HB3 := hid (HB2.out.grown hg3 HB2.out.size (fun q hq => by simp at hq; omega))
      clear ho3 hg3
      go_wp2
      exact ⟨⟨k + 1, by go_num, by omega, HB3.out, HO3.out⟩, by simp [intOf]; omega⟩
    · have e : k = L.length := by omega
      subst e
      go_wp2
      go_ret
      exact ⟨_, rfl, by simpa using ho, hb⟩

set_option maxHeartbeats 400000 in
theorem eqJob_c (a b : Jb) (w : World) : Calls Try.prog 55 #[.agg #[.int .i64 a.c, .int .i64 a.h], .agg #[.int .i64 b.c, .int .i64 b.h]] w fun e w' => e = .returned (.bool (decide (a = b))) ∧ Below w.heap.size w w' := by
  by_cases h0 : a.c = b.c
  · have g0 : (a.c != b.c) = false := by simp [h0]
    by_cases h1 : a.h = b.h
    · have g1 : (a.h != b.h) = false := by simp [h1]
      have hab : a = b := by cases a; cases b; simp_all
      have HE := hid hab
      clear hab h0 h1
      go_enter Try.func55, Try.ntmps55
      go_wp2
      go_ret
      exact ⟨ret_bool (by simp [HE.out]), ((Below.refl _ _).alloc (Nat.le_refl _) _).alloc (by simp) _⟩
    · have g1 : (a.h != b.h) = true := by simp [h1]
      have HE : Hid (a ≠ b) := fun e => h1 (by rw [e])
      clear h0 h1
      go_enter Try.func55, Try.ntmps55
      go_wp2
      go_ret
      exact ⟨ret_bool (by simp [HE.out]), ((Below.refl _ _).alloc (Nat.le_refl _) _).alloc (by simp) _⟩
  · have g0 : (a.c != b.c) = true := by simp [h0]
    have HE : Hid (a ≠ b) := fun e => h0 (by rw [e])
    clear h0
    go_enter Try.func55, Try.ntmps55
    go_wp2
    go_ret
    exact ⟨ret_bool (by simp [HE.out]), ((Below.refl _ _).alloc (Nat.le_refl _) _).alloc (by simp) _⟩

set_option maxHeartbeats 800000 in
theorem eqJobS_c (v1 v2 : Value) (xs ys : List Jb) (w : World) (h1 : Row jobE w v1 xs) (h2 : Row jobE w v2 ys) :
    Calls Try.prog 23 #[v1, v2] w fun e w' => e = .returned (.bool (decide (xs = ys))) ∧ Below w.heap.size w w' := by
  obtain ⟨A1, c1, rfl, hc1, hm1⟩ := h1.form
  obtain ⟨A2, c2, rfl, hc2, hm2⟩ := h2.form
  unfold maxLen at hm1 hm2
  by_cases hl : xs.length = ys.length
  · have hlb : ((xs.length : Int) != (ys.length : Int)) = false := by simp [hl]
    have HL := hid hl
    clear hl
    go_enter Try.func23, Try.ntmps23
    go_wp2
    go_loopw [5] (fun i wr => ∃ k : Nat, i = .int .i64 k ∧ k ≤ xs.length ∧ xs.take k = ys.take k ∧ Below w.heap.size w wr) (fun i _ => xs.length - (intOf i).toNat)
    case atStart => exact ⟨0, rfl, by omega, rfl, Below.refl _ _⟩
    case round =>
      obtain ⟨k, rfl, hk, he, hb⟩ := hrel
      by_cases hlt : k < xs.length
      · obtain ⟨b1, o1, rfl, -, hx⟩ := row_jobs (h1.below hb) (by omega)
        obtain ⟨b2, o2, rfl, -, hy⟩ := row_jobs (h2.below hb) (by have := HL.out; omega)
        have hlt2 : k < ys.length := by have := HL.out; omega
        obtain ⟨hx0, hx1⟩ := hx k hlt
        obtain ⟨hy0, hy1⟩ := hy k hlt2
        have HB := hid hb
        have HE := hid he
        clear hx hy h1 h2 hb he
        by_cases hxy : xs[k] = ys[k]
        · have hdec : decide (xs[k] = ys[k]) = true := by simpa using hxy
          have HX := hid hxy
          clear hxy
          go_wp2
          go_still_tail 8, (by kernel_rfl)
          go_wp2_with fail
          refine (eqJob_c xs[k] ys[k] _).mono ?_
          rintro e w2 ⟨rfl, hb2⟩
          rw [hdec]
          have HB2 := hid (HB.out.drew.trans (hb2.mono HB.out.size))
          clear hb2 hdec
          go_wp2
          exact ⟨⟨k + 1, by go_num, by omega, take_succ_eq hlt hlt2 HE.out HX.out, HB2.out⟩, by simp [intOf]; omega⟩
        · have hdec : decide (xs[k] = ys[k]) = false := by simpa using hxy
          have HX := hid hxy
          clear hxy
          go_wp2
          go_still_tail 8, (by kernel_rfl)
          go_wp2_with fail
          refine (eqJob_c xs[k] ys[k] _).mono ?_
          rintro e w2 ⟨rfl, hb2⟩
          rw [hdec]
          have HB2 := hid (HB.out.drew.trans (hb2.mono HB.out.size))
          clear hb2 hdec
          go_wp2
          go_ret
          refine ⟨ret_bool ?_, HB2.out⟩
          symm
          rw [decide_eq_false_iff_not]
          rintro rfl
          exact HX.out rfl
      · go_wp2
        go_ret
        refine ⟨ret_bool ?_, hb⟩
        symm
        rw [decide_eq_true_iff]
        have := HL.out
        rwa [List.take_of_length_le (by omega), List.take_of_length_le (by omega)] at he
  · have hlb : ((xs.length : Int) != (ys.length : Int)) = true := by simp; omega
    have HN : Hid (xs ≠ ys) := fun h => hl (by rw [h])
    clear hl
    go_enter Try.func23, Try.ntmps23
    go_wp2
    go_ret
    exact ⟨ret_bool (by simp [HN.out]), Below.refl _ _⟩

/-- The marked element. -/
def markJob (k : Int) : Jb := ⟨(k), (k + 1)⟩
def marksJob (k : Int) (n : Nat) : List Jb := (List.range n).map fun (j : Nat) => markJob (k + 2 * (j : Int))
theorem marksJob_len (k : Int) (n : Nat) : (marksJob k n).length = n := by simp [marksJob]
theorem marksJob_at (k : Int) (n j : Nat) (hj : j < (marksJob k n).length) : (marksJob k n)[j] = markJob (k + 2 * (j : Int)) := by simp [marksJob]
theorem marksJob_succ (k : Int) (n : Nat) : marksJob k (n + 1) = marksJob k n ++ [markJob (k + 2 * (n : Int))] := by simp [marksJob, List.range_succ]
theorem marksJob_set (k : Int) (xs : List Jb) (j : Nat) (x u : Jb) : (marksJob k j ++ x :: xs.drop (j + 1)).set j u = marksJob k j ++ u :: xs.drop (j + 1) := by
  rw [List.set_append_right _ _ (by rw [marksJob_len]; exact Nat.le_refl _), marksJob_len, Nat.sub_self, List.set_cons_zero]

theorem marksJob_mid (k : Int) (xs : List Jb) (j : Nat) (x : Jb) (h : j < (marksJob k j ++ x :: xs.drop (j + 1)).length) : (marksJob k j ++ x :: xs.drop (j + 1))[j] = x := by
  rw [List.getElem_append_right (by rw [marksJob_len]; exact Nat.le_refl _)]
  simp [marksJob_len]

set_option maxHeartbeats 1600000 in
theorem markJobS_c (v1 : Value) (xs : List Jb) (base : Nat) (k : Int) (w : World) (h1 : Own jobE 40 base w v1 xs) (hn : xs.length ≤ 4194304) (hk0 : 0 ≤ k) (hk1 : k ≤ 1099511627776) :
    Calls Try.prog 24 #[v1, .int .i64 k] w fun e w' => e = .returned (.int .i64 (k + 2 * xs.length)) ∧ Own jobE 40 base w' v1 (marksJob k xs.length) ∧ w.grownBy w' v1.ownBlock := by
  obtain ⟨A, c, rfl, hc, hm, hA⟩ := h1.shape
  unfold maxLen at hm
  have HI := hid (show (Try.prog.info? 3).map (·.size) = some 1 by kernel_rfl)
  have HIB := hid (show (Try.prog.info? 4).map (·.size) = some 1 by kernel_rfl)
  go_enter Try.func24, Try.ntmps24
  go_wp2
  go_loopw [1, 5] (fun kk i wr => ∃ j : Nat, i = .int .i64 j ∧ kk = .int .i64 (k + 2 * j) ∧ j ≤ xs.length ∧ w.grownBy wr (Value.slice A xs.length c).ownBlock ∧ Own jobE 40 base wr (.slice A xs.length c) (marksJob k j ++ xs.drop j)) (fun _ i _ => xs.length - (intOf i).toNat)
  case atStart => exact ⟨0, rfl, by simp, by omega, World.grownBy.refl _ _, by simpa [marksJob] using h1⟩
  case round =>
    obtain ⟨j, rfl, rfl, hj, hg, ho⟩ := hrel
    by_cases hlt : j < xs.length
    · obtain ⟨g, rfl, hg1, hg2⟩ := hA (by omega)
      rw [List.drop_eq_getElem_cons hlt] at ho
      have HG0 := hid hg
      have HO0 := hid ho
      have hl : ∀ x : Jb, (marksJob k j ++ x :: xs.drop (j + 1)).length = xs.length := by intro x; simp [marksJob_len]; omega
      have HLN := hid hl
      clear ho hg h1 hA hl
      go_wp2_with (refine wpList_put1 jobE rfl 3 _ _ rfl _ _ g _ _ j 0 _ _ (⟨(k + 2 * (j : Int)), xs[j].h⟩ : Jb) (.int .i64 (k + 2 * (j : Int))) HO0.out (HLN.out _).symm (by rw [HLN.out]; exact hlt) (by decide) rfl rfl rfl rfl rfl HI.out (by rw [marksJob_mid]; rfl) _ (marksJob_set k xs j _ _).symm ?_)
      intro w1 ho1 hg1
      have HO1 := hid ho1
      have HG1 := hid (grown_trans HG0.out hg1)
      clear ho1 hg1
      go_wp2_with (refine wpList_put1 jobE rfl 3 _ _ rfl _ _ g _ _ j 1 _ _ (⟨(k + 2 * (j : Int)), (k + 2 * (j : Int) + 1)⟩ : Jb) (.int .i64 (k + 2 * (j : Int) + 1)) HO1.out (HLN.out _).symm (by rw [HLN.out]; exact hlt) (by decide) rfl rfl rfl rfl rfl HI.out (by rw [marksJob_mid]; rfl) _ (marksJob_set k xs j _ _).symm ?_)
      intro w2 ho2 hg2
      have HO2 := hid ho2
      have HG2 := hid (grown_trans HG1.out hg2)
      clear ho2 hg2
      go_wp2
      refine ⟨⟨j + 1, by go_num, by go_num, by omega, HG2.out, ?_⟩, by simp [intOf]; omega⟩
      rw [marksJob_succ, List.append_assoc]
      exact HO2.out
    · go_wp2
      go_ret
      have e : j = xs.length := by omega
      subst e
      exact ⟨rfl, by simpa using ho, hg⟩

theorem szJobS_t (v1 : Value) (L : List Jb) (l : Int) (w : World) (h1 : Row jobE w v1 L) (h0 : 0 ≤ l) (hl : l ≤ 4194304) (h : (L.length : Int) ≤ l) :
    Calls Try.prog 19 #[v1, .int .i64 l] w fun e w' => e = .returned (.int .i64 (l - L.length)) ∧ Dr w w' := by
  obtain ⟨A1, c1, rfl, hc1, hm1⟩ := h1.form
  unfold maxLen at hm1
  go_enter Try.func19, Try.ntmps19
  go_wp2
  go_ret
  exact ⟨rfl, Dr.refl _⟩
theorem szJobS_f (v1 : Value) (L : List Jb) (l : Int) (w : World) (h1 : Row jobE w v1 L) (h0 : 0 ≤ l) (hl : l ≤ 4194304) (h : l < (L.length : Int)) :
    Calls Try.prog 19 #[v1, .int .i64 l] w fun e w' => e = .returned (.int .i64 (-1)) ∧ Dr w w' := by
  obtain ⟨A1, c1, rfl, hc1, hm1⟩ := h1.form
  unfold maxLen at hm1
  go_enter Try.func19, Try.ntmps19
  go_wp2
  go_ret
  exact ⟨rfl, Dr.refl _⟩


end Go.Proofs.Ytahibdgpgfkkfaa
