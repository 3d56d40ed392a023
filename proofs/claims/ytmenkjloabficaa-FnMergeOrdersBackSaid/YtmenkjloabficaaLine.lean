/-
  Contracts of the small functions over a flat struct and its slices (written by a program of mine).
-/
import Derived.Test.YtmenkjloabficaaPane
import Derived.Test.YtmenkjloabficaaBlk
import Derived.StillTailTactics
namespace Go.Proofs.Ytmenkjloabficaa
set_option linter.unusedSimpArgs false
set_option linter.unusedVariables false
open Go.RowKit

structure Ln where
  w : Int
  h : Int
  t : Bool
  k : Int
  c : Int
instance : DecidableEq Ln := fun a b => if h : a.w = b.w ∧ a.h = b.h ∧ a.t = b.t ∧ a.k = b.k ∧ a.c = b.c then isTrue (by cases a; cases b; simp_all) else isFalse (by rintro rfl; simp at h)
def lineE : Enc Ln := ⟨5, fun x => [.int .i64 x.w, .int .i64 x.h, .bool x.t, .int .i64 x.k, .int .i64 x.c], fun _ => rfl, by decide, by simp [Value.oneCell']⟩
theorem line_info : (Try.prog.info? 56).map (fun i => (i.zero, i.size, i.bytes)) = some (some (.agg #[.int .i64 0, .int .i64 0, .bool false, .int .i64 0, .int .i64 0]), 5, 40) := by kernel_rfl

theorem row_lines {B : Nat} {w : World} {A : Option Addr} {n c : Nat} {L : List Ln} (h : RowB lineE B w (.slice A n c) L) (hn : 0 < n) : ∃ b off, A = some ⟨b, off, none⟩ ∧ b < B ∧
    ∀ k, (hk : k < L.length) → w.cell? ⟨b, off + k * 5, none⟩ = some (.int .i64 L[k].w) ∧ w.cell? ⟨b, off + k * 5 + 1, none⟩ = some (.int .i64 L[k].h) ∧ w.cell? ⟨b, off + k * 5 + 2, none⟩ = some (.bool L[k].t) ∧ w.cell? ⟨b, off + k * 5 + 3, none⟩ = some (.int .i64 L[k].k) ∧ w.cell? ⟨b, off + k * 5 + 4, none⟩ = some (.int .i64 L[k].c) := by
  obtain ⟨h1, h2, h3, h4⟩ := h.at_
  obtain ⟨b, off, rfl, hb, hc⟩ := h4 hn
  exact ⟨b, off, rfl, hb, fun k hk => ⟨hc k 0 _ hk (by decide) rfl, hc k 1 _ hk (by decide) rfl, hc k 2 _ hk (by decide) rfl, hc k 3 _ hk (by decide) rfl, hc k 4 _ hk (by decide) rfl⟩⟩

set_option maxHeartbeats 1600000 in
theorem toLine_c (x : Ln) (w : World) : Calls Try.prog 39 #[.agg #[.int .i64 x.w, .int .i64 x.h, .bool x.t, .int .i64 x.k, .int .i64 x.c]] w fun e w' => e = .returned (.agg #[.int .i64 x.w, .int .i64 x.h, .bool x.t, .int .i64 x.k, .int .i64 x.c]) ∧ Below w.heap.size w w' := by
  have B0 := hid (((Below.refl w.heap.size w).alloc (Nat.le_refl _) (.cells #[.int .i64 x.w, .int .i64 x.h, .bool x.t, .int .i64 x.k, .int .i64 x.c] 60)).alloc (by simp) (.cells #[.int .i64 0, .int .i64 0, .bool false, .int .i64 0, .int .i64 0] 56))
  have B1 := hid ((((Below.refl w.heap.size w).alloc (Nat.le_refl _) (.cells #[.int .i64 x.w, .int .i64 x.h, .bool x.t, .int .i64 x.k, .int .i64 x.c] 60)).alloc (by simp) (.cells #[.int .i64 0, .int .i64 0, .bool false, .int .i64 0, .int .i64 0] 56)).alloc (by simp; omega) (.cells #[.int .i64 0, .int .i64 0, .bool false, .int .i64 0, .int .i64 0] 56))
  have QX := hid (((Blk.new w #[.int .i64 x.w, .int .i64 x.h, .bool x.t, .int .i64 x.k, .int .i64 x.c] 60).alloc (.cells #[.int .i64 0, .int .i64 0, .bool false, .int .i64 0, .int .i64 0] 56)).alloc (.cells #[.int .i64 0, .int .i64 0, .bool false, .int .i64 0, .int .i64 0] 56))
  have QR := hid (show Blk (((w.alloc (.cells #[.int .i64 x.w, .int .i64 x.h, .bool x.t, .int .i64 x.k, .int .i64 x.c] 60)).alloc (.cells #[.int .i64 0, .int .i64 0, .bool false, .int .i64 0, .int .i64 0] 56)).alloc (.cells #[.int .i64 0, .int .i64 0, .bool false, .int .i64 0, .int .i64 0] 56)) (w.heap.size + 1) #[.int .i64 0, .int .i64 0, .bool false, .int .i64 0, .int .i64 0] 56 by
    have := (Blk.new (w.alloc (.cells #[.int .i64 x.w, .int .i64 x.h, .bool x.t, .int .i64 x.k, .int .i64 x.c] 60)) #[.int .i64 0, .int .i64 0, .bool false, .int .i64 0, .int .i64 0] 56).alloc (.cells #[.int .i64 0, .int .i64 0, .bool false, .int .i64 0, .int .i64 0] 56)
    simpa using this)
  have QO := hid (show Blk (((w.alloc (.cells #[.int .i64 x.w, .int .i64 x.h, .bool x.t, .int .i64 x.k, .int .i64 x.c] 60)).alloc (.cells #[.int .i64 0, .int .i64 0, .bool false, .int .i64 0, .int .i64 0] 56)).alloc (.cells #[.int .i64 0, .int .i64 0, .bool false, .int .i64 0, .int .i64 0] 56)) (w.heap.size + 1 + 1) #[.int .i64 0, .int .i64 0, .bool false, .int .i64 0, .int .i64 0] 56 by
    have := Blk.new ((w.alloc (.cells #[.int .i64 x.w, .int .i64 x.h, .bool x.t, .int .i64 x.k, .int .i64 x.c] 60)).alloc (.cells #[.int .i64 0, .int .i64 0, .bool false, .int .i64 0, .int .i64 0] 56)) #[.int .i64 0, .int .i64 0, .bool false, .int .i64 0, .int .i64 0] 56
    simpa using this)
  go_enter Try.func39, Try.ntmps39
  go_wp2_with fail
  refine (toPane_c ⟨x.w, x.h, x.t, x.k⟩ _).mono ?_
  rintro e w1 ⟨rfl, hb⟩
  have HB1 := hid (B1.out.trans (hb.mono (by simp; omega)))
  have qx := QX.out.go hb
  have qr := QR.out.go hb
  have qo := QO.out.go hb
  have c_x := fun (o : Nat) => qx.cell o
  have c_r := fun (o : Nat) => qr.cell o
  have c_o := fun (o : Nat) => qo.cell o
  have f_r := fun (o : Nat) => qr.frz o
  have f_o := fun (o : Nat) => qo.frz o
  have l_x := qx.lt
  have l_r := qr.lt
  have l_o := qo.lt
  have n1 : w.heap.size ≠ w.heap.size + 1 + 1 := by omega
  have n2 : w.heap.size ≠ w.heap.size + 1 := by omega
  have n3 : w.heap.size + 1 ≠ w.heap.size + 1 + 1 := by omega
  clear hb qx qr qo
  go_wp2
  exact bodyPost_ret (v := .agg #[.int .i64 x.w, .int .i64 x.h, .bool x.t, .int .i64 x.k, .int .i64 x.c]) (by simp [results, Try.results39, go_sem, c_r]) rfl ⟨rfl, ((((((((((HB1.out.setCell (by simp <;> omega) _).setCell (by simp <;> omega) _).setCell (by simp <;> omega) _).setCell (by simp <;> omega) _).setCell (by simp <;> omega) _).setCell (by simp <;> omega) _).setCell (by simp <;> omega) _).setCell (by simp <;> omega) _).setCell (by simp <;> omega) _).setCell (by simp <;> omega) _)⟩

set_option maxHeartbeats 800000 in
theorem toLineS_c (v1 : Value) (L : List Ln) (w : World) (h1 : Row lineE w v1 L) (hn : L.length ≤ 4194304) :
    Calls Try.prog 12 #[v1] w fun e w' => ∃ v, e = .returned v ∧ Own lineE 56 w.heap.size w' v L ∧ Below w.heap.size w w' := by
  obtain ⟨A1, c1, rfl, hc1, hm1⟩ := h1.form
  unfold maxLen at hm1
  obtain ⟨i0, hi0, hz0, hz1, hz2⟩ := info_parts line_info
  go_enter Try.func12, Try.ntmps12
  go_wp2_with (at_make; refine wpList_mk lineE _ rfl _ _ 26 rfl w.heap.size 56 i0 _ ⟨0, 0, false, 0, 0⟩ 40 Try.underlying26 hi0 hz0 hz1 hz2 rfl _ _ _ _ L.length rfl rfl rfl rfl hn (by omega) (Nat.le_refl _) ?_)
  intro w1 hown hgr hlt1
  have HB1 := hid ((Below.refl _ _).grown hgr (Nat.le_refl _) (by simp) : Below w.heap.size w w1)
  have HO1 := hid hown
  clear hown hgr
  go_wp2
  go_loopw [4] (fun i wr => ∃ k : Nat, i = .int .i64 k ∧ k ≤ L.length ∧ Below w.heap.size w wr ∧ Own lineE 56 w.heap.size wr (.slice (some ⟨w.heap.size, 0, none⟩) L.length L.length) (L.take k ++ List.replicate (L.length - k) ⟨0, 0, false, 0, 0⟩)) (fun i _ => L.length - (intOf i).toNat)
  case atStart => exact ⟨0, rfl, by omega, HB1.out, by simpa using HO1.out⟩
  case round =>
    obtain ⟨k, rfl, hk, hb, ho⟩ := hrel
    clear HO1 HB1
    by_cases hlt : k < L.length
    · obtain ⟨b1, o1, rfl, hlt1, hx⟩ := row_lines (h1.below hb) (by omega)
      obtain ⟨hx0, hx1, hx2, hx3, hx4⟩ := hx k hlt
      have HB := hid hb
      have HO := hid ho
      have hsz := hb.size
      clear hx h1 hb ho
      go_wp2_with fail
      refine (toLine_c L[k] _).mono ?_
      rintro e w2 ⟨rfl, hb2⟩
      have HB2 := hid (HB.out.trans (hb2.mono HB.out.size))
      have HO2 := hid (HO.out.below hb2)
      clear hb2
      go_wp2_with (refine wpList_put lineE rfl 56 _ _ rfl _ _ _ _ _ k _ L[k] HO2.out (by simp; omega) (by simp; omega) rfl rfl (by rw [hi0]; simp [hz1, lineE]) _ (replicate_set L ⟨0, 0, false, 0, 0⟩ k L.length hlt rfl _ rfl).symm ?_)
      intro w3 ho3 hg3
      have HO3 := hid ho3
      have HB3 := hid (HB2.out.grown hg3 HB2.out.size (fun q hq => by simp at hq; omega))
      clear ho3 hg3
      go_wp2
      exact ⟨⟨k + 1, by go_num, by omega, HB3.out, HO3.out⟩, by simp [intOf]; omega⟩
    · have e : k = L.length := by omega
      subst e
      go_wp2
      go_ret
      exact ⟨_, rfl, by simpa using ho, hb⟩

theorem pn_of_ln {a b : Ln} (h : (⟨a.w, a.h, a.t, a.k⟩ : Pn) = ⟨b.w, b.h, b.t, b.k⟩) (hc : a.c = b.c) : a = b := by
  cases a; cases b; simp only [Pn.mk.injEq] at h; simp_all

set_option maxHeartbeats 1600000 in
theorem eqLine_c (a b : Ln) (w : World) : Calls Try.prog 41 #[.agg #[.int .i64 a.w, .int .i64 a.h, .bool a.t, .int .i64 a.k, .int .i64 a.c], .agg #[.int .i64 b.w, .int .i64 b.h, .bool b.t, .int .i64 b.k, .int .i64 b.c]] w fun e w' => e = .returned (.bool (decide (a = b))) ∧ Below w.heap.size w w' := by
  have B0 := hid (((Below.refl w.heap.size w).alloc (Nat.le_refl _) (.cells #[.int .i64 a.w, .int .i64 a.h, .bool a.t, .int .i64 a.k, .int .i64 a.c] 56)).alloc (by simp) (.cells #[.int .i64 b.w, .int .i64 b.h, .bool b.t, .int .i64 b.k, .int .i64 b.c] 56))
  have QA := hid ((Blk.new w #[.int .i64 a.w, .int .i64 a.h, .bool a.t, .int .i64 a.k, .int .i64 a.c] 56).alloc (.cells #[.int .i64 b.w, .int .i64 b.h, .bool b.t, .int .i64 b.k, .int .i64 b.c] 56))
  have QB := hid (show Blk ((w.alloc (.cells #[.int .i64 a.w, .int .i64 a.h, .bool a.t, .int .i64 a.k, .int .i64 a.c] 56)).alloc (.cells #[.int .i64 b.w, .int .i64 b.h, .bool b.t, .int .i64 b.k, .int .i64 b.c] 56)) (w.heap.size + 1) #[.int .i64 b.w, .int .i64 b.h, .bool b.t, .int .i64 b.k, .int .i64 b.c] 56 by
    have := Blk.new (w.alloc (.cells #[.int .i64 a.w, .int .i64 a.h, .bool a.t, .int .i64 a.k, .int .i64 a.c] 56)) #[.int .i64 b.w, .int .i64 b.h, .bool b.t, .int .i64 b.k, .int .i64 b.c] 56
    rw [World.size_alloc] at this
    exact this)
  by_cases hp : (⟨a.w, a.h, a.t, a.k⟩ : Pn) = ⟨b.w, b.h, b.t, b.k⟩
  · have hd : decide ((⟨a.w, a.h, a.t, a.k⟩ : Pn) = ⟨b.w, b.h, b.t, b.k⟩) = true := decide_eq_true hp
    have HD := hid hd
    by_cases hc : a.c = b.c
    · have g : (a.c != b.c) = false := by simp [hc]
      have HE := hid (pn_of_ln hp hc)
      clear hp hd hc
      go_enter Try.func41, Try.ntmps41
      go_wp2_with fail
      refine (eqPane_c ⟨a.w, a.h, a.t, a.k⟩ ⟨b.w, b.h, b.t, b.k⟩ _).mono ?_
      rintro e w1 ⟨rfl, hb⟩
      rw [HD.out]
      have HB1 := hid (B0.out.trans (hb.mono (by simp; omega)))
      have qa := QA.out.go hb
      have qb := QB.out.go hb
      have c_a := fun (o : Nat) => qa.cell o
      have c_b := fun (o : Nat) => qb.cell o
      have l_b := qb.lt
      have l_a := qa.lt
      clear hb qa qb
      go_wp2
      go_ret
      exact ⟨ret_bool (by simp [HE.out]), HB1.out⟩
    · have g : (a.c != b.c) = true := by simp [hc]
      have HE : Hid (a ≠ b) := fun e => hc (by rw [e])
      clear hp hd hc
      go_enter Try.func41, Try.ntmps41
      go_wp2_with fail
      refine (eqPane_c ⟨a.w, a.h, a.t, a.k⟩ ⟨b.w, b.h, b.t, b.k⟩ _).mono ?_
      rintro e w1 ⟨rfl, hb⟩
      rw [HD.out]
      have HB1 := hid (B0.out.trans (hb.mono (by simp; omega)))
      have qa := QA.out.go hb
      have qb := QB.out.go hb
      have c_a := fun (o : Nat) => qa.cell o
      have c_b := fun (o : Nat) => qb.cell o
      have l_b := qb.lt
      have l_a := qa.lt
      clear hb qa qb
      go_wp2
      go_ret
      exact ⟨ret_bool (by simp [HE.out]), HB1.out⟩
  · have hd : decide ((⟨a.w, a.h, a.t, a.k⟩ : Pn) = ⟨b.w, b.h, b.t, b.k⟩) = false := decide_eq_false hp
    have HD := hid hd
    have HE : Hid (a ≠ b) := fun e => hp (by rw [e])
    clear hp hd
    go_enter Try.func41, Try.ntmps41
    go_wp2_with fail
    refine (eqPane_c ⟨a.w, a.h, a.t, a.k⟩ ⟨b.w, b.h, b.t, b.k⟩ _).mono ?_
    rintro e w1 ⟨rfl, hb⟩
    rw [HD.out]
    have HB1 := hid (B0.out.trans (hb.mono (by simp; omega)))
    clear hb
    go_wp2
    go_ret
    exact ⟨ret_bool (by simp [HE.out]), HB1.out⟩

set_option maxHeartbeats 800000 in
theorem eqLineS_c (v1 v2 : Value) (xs ys : List Ln) (w : World) (h1 : Row lineE w v1 xs) (h2 : Row lineE w v2 ys) :
    Calls Try.prog 15 #[v1, v2] w fun e w' => e = .returned (.bool (decide (xs = ys))) ∧ Below w.heap.size w w' := by
  obtain ⟨A1, c1, rfl, hc1, hm1⟩ := h1.form
  obtain ⟨A2, c2, rfl, hc2, hm2⟩ := h2.form
  unfold maxLen at hm1 hm2
  by_cases hl : xs.length = ys.length
  · have hlb : ((xs.length : Int) != (ys.length : Int)) = false := by simp [hl]
    have HL := hid hl
    clear hl
    go_enter Try.func15, Try.ntmps15
    go_wp2
    go_loopw [5] (fun i wr => ∃ k : Nat, i = .int .i64 k ∧ k ≤ xs.length ∧ xs.take k = ys.take k ∧ Below w.heap.size w wr) (fun i _ => xs.length - (intOf i).toNat)
    case atStart => exact ⟨0, rfl, by omega, rfl, Below.refl _ _⟩
    case round =>
      obtain ⟨k, rfl, hk, he, hb⟩ := hrel
      by_cases hlt : k < xs.length
      · obtain ⟨b1, o1, rfl, -, hx⟩ := row_lines (h1.below hb) (by omega)
        obtain ⟨b2, o2, rfl, -, hy⟩ := row_lines (h2.below hb) (by have := HL.out; omega)
        have hlt2 : k < ys.length := by have := HL.out; omega
        obtain ⟨hx0, hx1, hx2, hx3, hx4⟩ := hx k hlt
        obtain ⟨hy0, hy1, hy2, hy3, hy4⟩ := hy k hlt2
        have HB := hid hb
        have HE := hid he
        clear hx hy h1 h2 hb he
        by_cases hxy : xs[k] = ys[k]
        · have hdec : decide (xs[k] = ys[k]) = true := by simpa using hxy
          have HX := hid hxy
          clear hxy
          go_wp2
          go_still_tail 8, (by kernel_rfl)
          go_wp2_with fail
          refine (eqLine_c xs[k] ys[k] _).mono ?_
          rintro e w2 ⟨rfl, hb2⟩
          rw [hdec]
          have HB2 := hid (HB.out.drew.trans (hb2.mono HB.out.size))
          clear hb2 hdec
          go_wp2
          exact ⟨⟨k + 1, by go_num, by omega, take_succ_eq hlt hlt2 HE.out HX.out, HB2.out⟩, by simp [intOf]; omega⟩
        · have hdec : decide (xs[k] = ys[k]) = false := by simpa using hxy
          have HX := hid hxy
          clear hxy
          go_wp2
          go_still_tail 8, (by kernel_rfl)
          go_wp2_with fail
          refine (eqLine_c xs[k] ys[k] _).mono ?_
          rintro e w2 ⟨rfl, hb2⟩
          rw [hdec]
          have HB2 := hid (HB.out.drew.trans (hb2.mono HB.out.size))
          clear hb2 hdec
          go_wp2
          go_ret
          refine ⟨ret_bool ?_, HB2.out⟩
          symm
          rw [decide_eq_false_iff_not]
          rintro rfl
          exact HX.out rfl
      · go_wp2
        go_ret
        refine ⟨ret_bool ?_, hb⟩
        symm
        rw [decide_eq_true_iff]
        have := HL.out
        rwa [List.take_of_length_le (by omega), List.take_of_length_le (by omega)] at he
  · have hlb : ((xs.length : Int) != (ys.length : Int)) = true := by simp; omega
    have HN : Hid (xs ≠ ys) := fun h => hl (by rw [h])
    clear hl
    go_enter Try.func15, Try.ntmps15
    go_wp2
    go_ret
    exact ⟨ret_bool (by simp [HN.out]), Below.refl _ _⟩

/-- The marked element. -/
def markLine (k : Int) : Ln := ⟨(k), (k + 1), ((k + 1 + 1) % 3 == 0), (k + 1 + 1 + 1), (k + 1 + 1 + 1 + 1)⟩
def marksLine (k : Int) (n : Nat) : List Ln := (List.range n).map fun (j : Nat) => markLine (k + 5 * (j : Int))
theorem marksLine_len (k : Int) (n : Nat) : (marksLine k n).length = n := by simp [marksLine]
theorem marksLine_at (k : Int) (n j : Nat) (hj : j < (marksLine k n).length) : (marksLine k n)[j] = markLine (k + 5 * (j : Int)) := by simp [marksLine]
theorem marksLine_succ (k : Int) (n : Nat) : marksLine k (n + 1) = marksLine k n ++ [markLine (k + 5 * (n : Int))] := by simp [marksLine, List.range_succ]
theorem marksLine_set (k : Int) (xs : List Ln) (j : Nat) (x u : Ln) : (marksLine k j ++ x :: xs.drop (j + 1)).set j u = marksLine k j ++ u :: xs.drop (j + 1) := by
  rw [List.set_append_right _ _ (by rw [marksLine_len]; exact Nat.le_refl _), marksLine_len, Nat.sub_self, List.set_cons_zero]

theorem marksLine_mid (k : Int) (xs : List Ln) (j : Nat) (x : Ln) (h : j < (marksLine k j ++ x :: xs.drop (j + 1)).length) : (marksLine k j ++ x :: xs.drop (j + 1))[j] = x := by
  rw [List.getElem_append_right (by rw [marksLine_len]; exact Nat.le_refl _)]
  simp [marksLine_len]

set_option maxHeartbeats 1600000 in
theorem markLineS_c (v1 : Value) (xs : List Ln) (base : Nat) (k : Int) (w : World) (h1 : Own lineE 56 base w v1 xs) (hn : xs.length ≤ 4194304) (hk0 : 0 ≤ k) (hk1 : k ≤ 1099511627776) :
    Calls Try.prog 16 #[v1, .int .i64 k] w fun e w' => e = .returned (.int .i64 (k + 5 * xs.length)) ∧ Own lineE 56 base w' v1 (marksLine k xs.length) ∧ w.grownBy w' v1.ownBlock := by
  obtain ⟨A, c, rfl, hc, hm, hA⟩ := h1.shape
  unfold maxLen at hm
  have HI := hid (show (Try.prog.info? 3).map (·.size) = some 1 by kernel_rfl)
  have HIB := hid (show (Try.prog.info? 4).map (·.size) = some 1 by kernel_rfl)
  go_enter Try.func16, Try.ntmps16
  go_wp2
  go_loopw [1, 5] (fun kk i wr => ∃ j : Nat, i = .int .i64 j ∧ kk = .int .i64 (k + 5 * j) ∧ j ≤ xs.length ∧ w.grownBy wr (Value.slice A xs.length c).ownBlock ∧ Own lineE 56 base wr (.slice A xs.length c) (marksLine k j ++ xs.drop j)) (fun _ i _ => xs.length - (intOf i).toNat)
  case atStart => exact ⟨0, rfl, by simp, by omega, World.grownBy.refl _ _, by simpa [marksLine] using h1⟩
  case round =>
    obtain ⟨j, rfl, rfl, hj, hg, ho⟩ := hrel
    by_cases hlt : j < xs.length
    · obtain ⟨g, rfl, hg1, hg2⟩ := hA (by omega)
      rw [List.drop_eq_getElem_cons hlt] at ho
      have HG0 := hid hg
      have HO0 := hid ho
      have hl : ∀ x : Ln, (marksLine k j ++ x :: xs.drop (j + 1)).length = xs.length := by intro x; simp [marksLine_len]; omega
      have HLN := hid hl
      clear ho hg h1 hA hl
      go_wp2_with (refine wpList_put1 lineE rfl 3 _ _ rfl _ _ g _ _ j 0 _ _ (⟨(k + 5 * (j : Int)), xs[j].h, xs[j].t, xs[j].k, xs[j].c⟩ : Ln) (.int .i64 (k + 5 * (j : Int))) HO0.out (HLN.out _).symm (by rw [HLN.out]; exact hlt) (by decide) rfl rfl rfl rfl rfl HI.out (by rw [marksLine_mid]; rfl) _ (marksLine_set k xs j _ _).symm ?_)
      intro w1 ho1 hg1
      have HO1 := hid ho1
      have HG1 := hid (grown_trans HG0.out hg1)
      clear ho1 hg1
      go_wp2_with (refine wpList_put1 lineE rfl 3 _ _ rfl _ _ g _ _ j 1 _ _ (⟨(k + 5 * (j : Int)), (k + 5 * (j : Int) + 1), xs[j].t, xs[j].k, xs[j].c⟩ : Ln) (.int .i64 (k + 5 * (j : Int) + 1)) HO1.out (HLN.out _).symm (by rw [HLN.out]; exact hlt) (by decide) rfl rfl rfl rfl rfl HI.out (by rw [marksLine_mid]; rfl) _ (marksLine_set k xs j _ _).symm ?_)
      intro w2 ho2 hg2
      have HO2 := hid ho2
      have HG2 := hid (grown_trans HG1.out hg2)
      clear ho2 hg2
      go_wp2_with (refine wpList_put1 lineE rfl 4 _ _ rfl _ _ g _ _ j 2 _ _ (⟨(k + 5 * (j : Int)), (k + 5 * (j : Int) + 1), ((k + 5 * (j : Int) + 1 + 1) % 3 == 0), xs[j].k, xs[j].c⟩ : Ln) (.bool ((k + 5 * (j : Int) + 1 + 1) % 3 == 0)) HO2.out (HLN.out _).symm (by rw [HLN.out]; exact hlt) (by decide) rfl rfl rfl rfl rfl HIB.out (by rw [marksLine_mid]; rfl) _ (marksLine_set k xs j _ _).symm ?_)
      intro w3 ho3 hg3
      have HO3 := hid ho3
      have HG3 := hid (grown_trans HG2.out hg3)
      clear ho3 hg3
      go_wp2_with (refine wpList_put1 lineE rfl 3 _ _ rfl _ _ g _ _ j 3 _ _ (⟨(k + 5 * (j : Int)), (k + 5 * (j : Int) + 1), ((k + 5 * (j : Int) + 1 + 1) % 3 == 0), (k + 5 * (j : Int) + 1 + 1 + 1), xs[j].c⟩ : Ln) (.int .i64 (k + 5 * (j : Int) + 1 + 1 + 1)) HO3.out (HLN.out _).symm (by rw [HLN.out]; exact hlt) (by decide) rfl rfl rfl rfl rfl HI.out (by rw [marksLine_mid]; rfl) _ (marksLine_set k xs j _ _).symm ?_)
      intro w4 ho4 hg4
      have HO4 := hid ho4
      have HG4 := hid (grown_trans HG3.out hg4)
      clear ho4 hg4
      go_wp2_with (refine wpList_put1 lineE rfl 3 _ _ rfl _ _ g _ _ j 4 _ _ (⟨(k + 5 * (j : Int)), (k + 5 * (j : Int) + 1), ((k + 5 * (j : Int) + 1 + 1) % 3 == 0), (k + 5 * (j : Int) + 1 + 1 + 1), (k + 5 * (j : Int) + 1 + 1 + 1 + 1)⟩ : Ln) (.int .i64 (k + 5 * (j : Int) + 1 + 1 + 1 + 1)) HO4.out (HLN.out _).symm (by rw [HLN.out]; exact hlt) (by decide) rfl rfl rfl rfl rfl HI.out (by rw [marksLine_mid]; rfl) _ (marksLine_set k xs j _ _).symm ?_)
      intro w5 ho5 hg5
      have HO5 := hid ho5
      have HG5 := hid (grown_trans HG4.out hg5)
      clear ho5 hg5
      go_wp2
      refine ⟨⟨j + 1, by go_num, by go_num, by omega, HG5.out, ?_⟩, by simp [intOf]; omega⟩
      rw [marksLine_succ, List.append_assoc]
      exact HO5.out
    · go_wp2
      go_ret
      have e : j = xs.length := by omega
      subst e
      exact ⟨rfl, by simpa using ho, hg⟩

set_option maxHeartbeats 800000 in
theorem heldLineS_c (v1 : Value) (k : Int) (n : Nat) (w : World) (h1 : Row lineE w v1 (marksLine k n)) (hn : n ≤ 4194304) (hk0 : 0 ≤ k) (hk1 : k ≤ 1099511627776) :
    Calls Try.prog 30 #[v1, .int .i64 k] w fun e w' => e = .returned (.int .i64 (k + 5 * n)) ∧ Dr w w' := by
  obtain ⟨A, c, rfl, hc, hm⟩ := h1.form
  unfold maxLen at hm
  have hlen := marksLine_len k n
  rw [hlen] at h1 hc ⊢
  go_enter Try.func30, Try.ntmps30
  go_wp2
  go_loopw [1, 5] (fun kk i wr => ∃ j : Nat, i = .int .i64 j ∧ kk = .int .i64 (k + 5 * j) ∧ j ≤ n ∧ Dr w wr) (fun _ i _ => n - (intOf i).toNat)
  case atStart => exact ⟨0, rfl, by simp, by omega, Dr.refl _⟩
  case round =>
    obtain ⟨j, rfl, rfl, hj, hd⟩ := hrel
    by_cases hlt : j < n
    · obtain ⟨b1, o1, rfl, hb1, hx⟩ := row_lines (h1.dr hd) (by omega)
      obtain ⟨hx0, hx1, hx2, hx3, hx4⟩ := hx j (by omega)
      rw [marksLine_at] at hx0 hx1 hx2 hx3 hx4
      simp only [markLine] at hx0 hx1 hx2 hx3 hx4
      have HD := hid hd
      clear hx h1 hd
      go_wp2
      exact ⟨⟨j + 1, by go_num, by go_num, by omega, HD.out⟩, by simp [intOf]; omega⟩
    · go_wp2
      go_ret
      have e : j = n := by omega
      subst e
      exact ⟨rfl, hd⟩

theorem szLineS_t (v1 : Value) (L : List Ln) (l : Int) (w : World) (h1 : Row lineE w v1 L) (h0 : 0 ≤ l) (hl : l ≤ 4194304) (h : (L.length : Int) ≤ l) :
    Calls Try.prog 10 #[v1, .int .i64 l] w fun e w' => e = .returned (.int .i64 (l - L.length)) ∧ Dr w w' := by
  obtain ⟨A1, c1, rfl, hc1, hm1⟩ := h1.form
  unfold maxLen at hm1
  go_enter Try.func10, Try.ntmps10
  go_wp2
  go_ret
  exact ⟨rfl, Dr.refl _⟩
theorem szLineS_f (v1 : Value) (L : List Ln) (l : Int) (w : World) (h1 : Row lineE w v1 L) (h0 : 0 ≤ l) (hl : l ≤ 4194304) (h : l < (L.length : Int)) :
    Calls Try.prog 10 #[v1, .int .i64 l] w fun e w' => e = .returned (.int .i64 (-1)) ∧ Dr w w' := by
  obtain ⟨A1, c1, rfl, hc1, hm1⟩ := h1.form
  unfold maxLen at hm1
  go_enter Try.func10, Try.ntmps10
  go_wp2
  go_ret
  exact ⟨rfl, Dr.refl _⟩


end Go.Proofs.Ytmenkjloabficaa
