/-
  Contracts: the bound by scaled sides, by the program and by the reference.
-/
import Derived.Test.YtkddlfgfhjpcjaaScale
import Derived.Test.YtkddlfgfhjpcjaaCat
import Derived.StillTailTactics
import Derived.Deep.RegionHeld3
namespace Go.Proofs.Ytkddlfgfhjpcjaa
set_option linter.unusedSimpArgs false
set_option linter.unusedVariables false
open Go.RowKit

def okS (n b x : Int) : Prop := (1 ≤ n ∧ n ≤ 6) ∧ (1 ≤ b ∧ b ≤ 200) ∧ 0 ≤ x ∧ x ≤ b
def scl (n b x : Int) : Int := if (n + 1) * x % b = 0 then n * x else (n + 1) * x / b * b
theorem okS.mul {n b x : Int} (h : okS n b x) : (0 ≤ (n + 1) * x ∧ (n + 1) * x ≤ 1400) ∧ (0 ≤ n * x ∧ n * x ≤ 1200) := by
  obtain ⟨⟨h1, h2⟩, ⟨h3, h4⟩, h5, h6⟩ := h
  have : n = 1 ∨ n = 2 ∨ n = 3 ∨ n = 4 ∨ n = 5 ∨ n = 6 := by omega
  rcases this with rfl | rfl | rfl | rfl | rfl | rfl <;> omega
theorem okS.quo {n b x : Int} (h : okS n b x) : 0 ≤ (n + 1) * x / b ∧ (n + 1) * x / b ≤ 1400 ∧ 0 ≤ (n + 1) * x / b * b ∧ (n + 1) * x / b * b ≤ 1400 := by
  obtain ⟨h1, h2⟩ := h.mul.1
  have hb := h.2.1
  have h3 := Int.ediv_nonneg h1 (show 0 ≤ b by omega)
  have h4 := Int.ediv_mul_le ((n + 1) * x) (show b ≠ 0 by omega)
  have h5 : (n + 1) * x / b ≤ (n + 1) * x := Int.ediv_le_self _ h1
  have h6 := Int.mul_nonneg h3 (show 0 ≤ b by omega)
  omega
theorem scl_bd {n b x : Int} (h : okS n b x) : 0 ≤ scl n b x ∧ scl n b x ≤ 1400 := by
  have h1 := h.mul
  have h2 := h.quo
  unfold scl
  split <;> omega

set_option maxHeartbeats 1600000 in
theorem scale_c (n b x : Int) (w : World) (h : okS n b x) : Calls Try.prog 53 #[.int .i64 n, .int .i64 b, .int .i64 x] w fun e w' => e = .returned (.int .i64 (scl n b x)) ∧ w = w' := by
  have h1 := h.mul
  have h2 := h.quo
  have hb := h.2.1
  have hn := h.1
  have hx := h.2.2
  have HS : Hid (∀ z, (((n + 1) * x % b = 0 → z = n * x) ∧ (¬ (n + 1) * x % b = 0 → z = (n + 1) * x / b * b)) → z = scl n b x) := fun z hz => by
    unfold scl
    split
    · rename_i e; exact hz.1 e
    · rename_i e; exact hz.2 e
  go_enter Try.func53, Try.ntmps53
  go_wp2
  all_goals
    rename_i e
    go_ret
    exact ⟨ret_int (HS.out _ ⟨fun h => by simp_all, fun h => by simp_all⟩), rfl⟩

set_option maxHeartbeats 1600000 in
theorem ScaleLength_c (n b x : Int) (w : World) (h : okS n b x) : Calls Try.prog 56 #[.int .i64 n, .int .i64 b, .int .i64 x] w fun e w' => e = .returned (.int .i64 (scl n b x)) ∧ w = w' := by
  have h1 := h.mul
  have h2 := h.quo
  have hb := h.2.1
  have hn := h.1
  have hx := h.2.2
  have hc := Int.mul_comm x (n + 1)
  have HS : Hid (∀ z, (((n + 1) * x % b = 0 → z = n * x) ∧ (¬ (n + 1) * x % b = 0 → z = (n + 1) * x / b * b)) → z = scl n b x) := fun z hz => by
    unfold scl
    split
    · rename_i e; exact hz.1 e
    · rename_i e; exact hz.2 e
  go_enter Try.func56, Try.ntmps56
  go_wp2
  all_goals
    rename_i e
    go_ret
    exact ⟨ret_int (HS.out _ ⟨fun h => by simp_all, fun h => by simp_all⟩), rfl⟩

theorem roundUp_c (n d : Int) (w : World) (h1 : 0 ≤ n ∧ n ≤ 1000000000) (h2 : 1 ≤ d ∧ d ≤ 1000000000) : Calls Try.prog 57 #[.int .i64 n, .int .i64 d] w fun e w' => e = .returned (.int .i64 ((n + d - 1) / d)) ∧ w = w' := by
  go_enter Try.func57, Try.ntmps57
  go_wp2
  go_ret
  exact ⟨rfl, rfl⟩
theorem ceilDiv_c (n d : Int) (w : World) (h1 : 0 ≤ n ∧ n ≤ 1000000000) (h2 : 1 ≤ d ∧ d ≤ 1000000000) : Calls Try.prog 54 #[.int .i64 n, .int .i64 d] w fun e w' => e = .returned (.int .i64 ((n + d - 1) / d)) ∧ w = w' := by
  go_enter Try.func54, Try.ntmps54
  go_wp2
  go_ret
  exact ⟨rfl, rfl⟩

def scS (n m x y : Int) (f : List Pn) : Int := (f.map fun p => scl n x p.w * scl m y p.h).sum
theorem scS_nil (n m x y : Int) : scS n m x y [] = 0 := rfl
theorem scS_succ (n m x y : Int) (f : List Pn) (k : Nat) (hk : k < f.length) : scS n m x y (f.take (k + 1)) = scS n m x y (f.take k) + scl n x f[k].w * scl m y f[k].h := by
  rw [List.take_succ_eq_append_getElem hk]
  simp only [scS, List.map_append, List.sum_append, List.map_cons, List.map_nil, List.sum_cons, List.sum_nil]
  omega
def okA (n m x y : Int) : Prop := (1 ≤ n ∧ n ≤ 6) ∧ (1 ≤ m ∧ m ≤ 6) ∧ (1 ≤ x ∧ x ≤ 200) ∧ (1 ≤ y ∧ y ≤ 200)
theorem okA.d {n m x y : Int} (h : okA n m x y) : (1 ≤ n * x ∧ n * x ≤ 1200) ∧ (1 ≤ n * x * m ∧ n * x * m ≤ 7200) ∧ (1 ≤ n * x * m * y ∧ n * x * m * y ≤ 1440000) := by
  obtain ⟨⟨h1, h2⟩, ⟨h3, h4⟩, ⟨h5, h6⟩, h7, h8⟩ := h
  have k1 : 1 ≤ n * x ∧ n * x ≤ 1200 := by
    have : n = 1 ∨ n = 2 ∨ n = 3 ∨ n = 4 ∨ n = 5 ∨ n = 6 := by omega
    rcases this with rfl | rfl | rfl | rfl | rfl | rfl <;> omega
  obtain ⟨q, hq⟩ : ∃ q, q = n * x := ⟨_, rfl⟩
  rw [← hq] at k1 ⊢
  have k2 : 1 ≤ q * m ∧ q * m ≤ 7200 := by
    have : m = 1 ∨ m = 2 ∨ m = 3 ∨ m = 4 ∨ m = 5 ∨ m = 6 := by omega
    rcases this with rfl | rfl | rfl | rfl | rfl | rfl <;> omega
  refine ⟨k1, k2, ?_, ?_⟩
  · have : (1 : Int) * 1 ≤ q * m * y := Int.mul_le_mul (by omega) (by omega) (by omega) (by omega)
    omega
  · have : q * m * y ≤ 7200 * 200 := Int.mul_le_mul (by omega) (by omega) (by omega) (by omega)
    omega
theorem pw_ok {n m x y : Int} {f : List Pn} (ha : okA n m x y) (hv : vwB x y f = true) (hf : fxB x y f = true) : f.length ≤ 24 ∧ ∀ p ∈ f, okS n x p.w ∧ okS m y p.h := by
  have h1 := vwB_iff.1 hv
  have h2 := fxB_iff.1 hf
  refine ⟨h1.2.2.1, fun p hp => ?_⟩
  have h3 := h1.2.2.2 p hp
  have h4 := h2 p hp
  unfold okPn at h3
  unfold okA at ha
  unfold okS
  omega
theorem scS_bd {n m x y : Int} {f : List Pn} (h : ∀ p ∈ f, okS n x p.w ∧ okS m y p.h) : 0 ≤ scS n m x y f ∧ scS n m x y f ≤ 1960000 * f.length := by
  induction f with
  | nil => simp [scS]
  | cons p f ih =>
    have h1 := ih (fun q hq => h q (by simp [hq]))
    have h2 := h p (by simp)
    have h3 := scl_bd h2.1
    have h4 := scl_bd h2.2
    have h5 := Int.mul_nonneg h3.1 h4.1
    have h6 : scl n x p.w * scl m y p.h ≤ 1400 * 1400 := Int.mul_le_mul h3.2 h4.2 h4.1 (by omega)
    have e : scS n m x y (p :: f) = scl n x p.w * scl m y p.h + scS n m x y f := by simp [scS]
    rw [e, List.length_cons]
    omega
def scbOk (x y : Int) (f : List Pn) (n m : Int) : Bool := pwB x y f && decide ((1 ≤ n ∧ n ≤ 6) ∧ (1 ≤ m ∧ m ≤ 6))
def scbOut (x y : Int) (f : List Pn) (n m : Int) : Int := if scbOk x y f n m = true then (scS n m x y f + n * x * m * y - 1) / (n * x * m * y) else -1
theorem scbOut_f {x y : Int} {f : List Pn} {n m : Int} (h : scbOk x y f n m = false) : scbOut x y f n m = -1 := by simp [scbOut, h]
theorem scbOut_g {x y : Int} {f : List Pn} {n m : Int} (h : pwB x y f = false) : scbOut x y f n m = -1 := scbOut_f (by simp [scbOk, h])
theorem scbOut_n {x y : Int} {f : List Pn} {n m : Int} (h : ¬ ((1 ≤ n ∧ n ≤ 6) ∧ (1 ≤ m ∧ m ≤ 6))) : scbOut x y f n m = -1 := scbOut_f (by unfold scbOk; rw [decide_eq_false h, Bool.and_false])
theorem scbOut_t {x y : Int} {f : List Pn} {n m : Int} (h : pwB x y f = true) (h2 : (1 ≤ n ∧ n ≤ 6) ∧ (1 ≤ m ∧ m ≤ 6)) : scbOut x y f n m = (scS n m x y f + n * x * m * y - 1) / (n * x * m * y) := by
  unfold scbOut scbOk
  rw [h, decide_eq_true h2, Bool.and_true, if_pos rfl]

set_option maxHeartbeats 6400000 in
set_option maxRecDepth 100000 in
theorem ScaleBound_c (x y n m : Int) (f : List Pn) (A : Option Addr) (c : Nat) (w : World) (h : Row paneE w (.slice A f.length c) f) : Calls Try.prog 26 #[.agg #[.int .i64 x, .int .i64 y, .slice A f.length c], .int .i64 n, .int .i64 m] w fun e w' => e = .returned (.int .i64 (scbOut x y f n m)) ∧ Below w.heap.size w w' := by
  obtain ⟨-, hc1, hm1, -⟩ := h.at_
  unfold maxLen at hm1
  have hb0 := (Below.refl w.heap.size w).alloc (Nat.le_refl _) (.cells #[.int .i64 x, .int .i64 y, .slice A f.length c] 40)
  have HB0 := hid hb0
  have HQ0 := hid (Blk.new w #[.int .i64 x, .int .i64 y, .slice A f.length c] 40)
  have HH := hid (h.go hb0)
  clear h hb0
  go_enter Try.func26, Try.ntmps26
  go_wp2_with fail
  refine (plainWork_c x y f A c _ HH.out).mono ?_
  rintro e w1 ⟨rfl, hb⟩
  have HB1 := hid (HB0.out.trans (hb.mono HB0.out.size))
  have HQ1 := hid (HQ0.out.go hb)
  have HR1 := hid (HH.out.go hb)
  clear hb
  have c_q := fun (o : Nat) => HQ1.out.cell o
  have l_q := HQ1.out.lt
  cases hp : pwB x y f with
  | false =>
    have HF := hid (scbOut_g (n := n) (m := m) hp)
    clear hp
    go_wp2
    go_ret
    exact ⟨ret_int HF.out.symm, HB1.out⟩
  | true =>
    by_cases hnm : (1 ≤ n ∧ n ≤ 6) ∧ (1 ≤ m ∧ m ≤ 6)
    · have HT := hid (scbOut_t hp hnm)
      have hp2 := hp
      unfold pwB at hp2
      rw [Bool.and_eq_true] at hp2
      have hv := vwB_iff.1 hp2.1
      have HA := hid (show okA n m x y from ⟨hnm.1, hnm.2, hv.1, hv.2.1⟩)
      have HOK := hid (pw_ok HA.out hp2.1 hp2.2).2
      have h24 := hv.2.2.1
      obtain ⟨⟨n1, n2⟩, m1, m2⟩ := hnm
      obtain ⟨⟨w1', w2'⟩, ⟨h1', h2'⟩, -⟩ := hv
      clear hp hp2
      go_wp2
      go_loopw [7, 32] (fun s i wr => ∃ k : Nat, s = .int .i64 (scS n m x y (f.take k)) ∧ i = .int .i64 k ∧ k ≤ f.length ∧ Below w1.heap.size w1 wr) (fun _ i _ => f.length - (intOf i).toNat)
      case atStart => exact ⟨0, by simp [scS_nil], rfl, by omega, Below.refl _ _⟩
      case round =>
        obtain ⟨k, rfl, rfl, hk, hb⟩ := hrel
        have HB := hid (HB1.out.trans (hb.mono HB1.out.size))
        have HR := hid (HR1.out.go hb)
        have HQ := hid (HQ1.out.go hb)
        have HBo := hid hb
        have hsz := hb.size
        clear hb c_q l_q
        have c_q := fun (o : Nat) => HQ.out.cell o
        have l_q := HQ.out.lt
        by_cases hlt : k < f.length
        · obtain ⟨b1, o1, rfl, hb1, hx⟩ := row_panes HR.out (by omega)
          obtain ⟨x0, x1, x2, x3⟩ := hx k hlt
          have HBa := hid (HBo.out.alloc hsz (.cells #[.int .i64 f[k].w, .int .i64 f[k].h, .bool f[k].t, .int .i64 f[k].k] 51))
          have hk2 := HOK.out _ (List.getElem_mem hlt)
          have HK1 := hid hk2.1
          have HK2 := hid hk2.2
          have s1 := scl_bd hk2.1
          have s2 := scl_bd hk2.2
          have s3 : scl n x f[k].w * scl m y f[k].h ≤ 1400 * 1400 := Int.mul_le_mul s1.2 s2.2 s2.1 (by omega)
          have s4 := Int.mul_nonneg s1.1 s2.1
          have s5 := scS_bd (n := n) (m := m) (x := x) (y := y) (f := f.take k) (fun p hp => HOK.out p (List.mem_of_mem_take hp))
          have s6 := List.length_take_le k f
          have hs1 : IntKind.i64.wrap (scl n x f[k].w * scl m y f[k].h) = scl n x f[k].w * scl m y f[k].h := IntWalk.i64_in _ (by omega)
          have hs2 : IntKind.i64.wrap (scS n m x y (f.take k) + scl n x f[k].w * scl m y f[k].h) = scS n m x y (f.take k) + scl n x f[k].w * scl m y f[k].h := IntWalk.i64_in _ (by omega)
          have HSU := hid (scS_succ n m x y f k hlt)
          clear hx hk2 s1 s2 s3 s4 s5 s6
          go_wp2
          go_quiet ((go_at_call 56; exact Calls.quiet_of_same (same_quiet (ScaleLength_c _ _ _ _ (by first | exact HK1.out | exact HK2.out)))))
          go_wp2
          exact ⟨⟨k + 1, by rw [HSU.out], by go_num, by omega, HBa.out.trans (below_draws _ _ _)⟩, by simp [intOf]; omega⟩
        · have e : f.take k = f := List.take_of_length_le (by omega)
          rw [e]
          have s5 := scS_bd (n := n) (m := m) (x := x) (y := y) (f := f) HOK.out
          obtain ⟨d1, d2, d3⟩ := HA.out.d
          clear e
          go_wp2_with fail
          refine (roundUp_c _ _ _ (by omega) (by omega)).mono ?_
          rintro e w9 ⟨rfl, rfl⟩
          go_wp2
          go_ret
          exact ⟨ret_int HT.out.symm, HB.out⟩
    · have HF := hid (scbOut_n (x := x) (y := y) (f := f) hnm)
      have hcase : n < 1 ∨ (1 ≤ n ∧ 6 < n) ∨ (1 ≤ n ∧ n ≤ 6 ∧ m < 1) ∨ (1 ≤ n ∧ n ≤ 6 ∧ 1 ≤ m ∧ 6 < m) := by omega
      clear hp hnm
      rcases hcase with h1 | ⟨h1, h2⟩ | ⟨h1, h2, h3⟩ | ⟨h1, h2, h3, h4⟩
      all_goals
        go_wp2
        go_ret
        exact ⟨ret_int HF.out.symm, HB1.out⟩

set_option maxHeartbeats 6400000 in
set_option maxRecDepth 100000 in
theorem sScaleBound_c (x y n m : Int) (f : List Pn) (A : Option Addr) (c : Nat) (w : World) (h : Row paneE w (.slice A f.length c) f) (hn : f.length ≤ 4194304) : Calls Try.prog 25 #[.agg #[.int .i64 x, .int .i64 y, .slice A f.length c], .int .i64 n, .int .i64 m] w fun e w' => e = .returned (.int .i64 (scbOut x y f n m)) ∧ Below w.heap.size w w' := by
  obtain ⟨-, hc1, hm1, -⟩ := h.at_
  unfold maxLen at hm1
  have hb0 := (Below.refl w.heap.size w).alloc (Nat.le_refl _) (.cells #[.int .i64 x, .int .i64 y, .slice A f.length c] 40)
  have HB0 := hid hb0
  have HQ0 := hid (Blk.new w #[.int .i64 x, .int .i64 y, .slice A f.length c] 40)
  have HH := hid (h.go hb0)
  clear h hb0
  go_enter Try.func25, Try.ntmps25
  go_wp2_with fail
  refine (svalidWork_c x y f A c _ HH.out hn).mono ?_
  rintro e w1 ⟨rfl, hb⟩
  have HB1 := hid (HB0.out.trans (hb.mono HB0.out.size))
  have HQ1 := hid (HQ0.out.go hb)
  have HR1 := hid (HH.out.go hb)
  clear hb
  have c_q := fun (o : Nat) => HQ1.out.cell o
  have l_q := HQ1.out.lt
  cases hv : vwB x y f with
  | false =>
    have HF := hid (scbOut_g (n := n) (m := m) (pwB_f hv))
    clear hv
    go_wp2
    go_ret
    exact ⟨ret_int HF.out.symm, HB1.out⟩
  | true =>
    have HVV := hid hv
    clear hv
    go_wp2_with fail
    refine (fixed_c x y f A c _ HR1.out).mono ?_
    rintro e w2 ⟨rfl, hb⟩
    have HB2 := hid (HB1.out.trans (hb.mono HB1.out.size))
    have HQ2 := hid (HQ1.out.go hb)
    have HR2 := hid (HR1.out.go hb)
    clear hb c_q l_q
    have c_q := fun (o : Nat) => HQ2.out.cell o
    have l_q := HQ2.out.lt
    cases hf : fxB x y f with
    | false =>
      have HF := hid (scbOut_g (n := n) (m := m) (pwB_g hf))
      clear hf
      go_wp2
      go_ret
      exact ⟨ret_int HF.out.symm, HB2.out⟩
    | true =>
      have HFF := hid hf
      clear hf
      by_cases hn1 : 1 ≤ n ∧ n ≤ 6
      · obtain ⟨n1, n2⟩ := hn1
        go_wp2_with fail
        refine (inRange_t _ _ _ _ n1 n2).mono ?_; rintro e w3 ⟨rfl, rfl⟩
        by_cases hm1' : 1 ≤ m ∧ m ≤ 6
        · obtain ⟨m1, m2⟩ := hm1'
          go_wp2_with fail
          refine (inRange_t _ _ _ _ m1 m2).mono ?_; rintro e w4 ⟨rfl, rfl⟩
          have HT := hid (scbOut_t (pwB_t HVV.out HFF.out) ⟨⟨n1, n2⟩, m1, m2⟩)
          have hv := vwB_iff.1 HVV.out
          have HA := hid (show okA n m x y from ⟨⟨n1, n2⟩, ⟨m1, m2⟩, hv.1, hv.2.1⟩)
          have HOK := hid (pw_ok HA.out HVV.out HFF.out).2
          have h24 := hv.2.2.1
          obtain ⟨⟨w1', w2'⟩, ⟨h1', h2'⟩, -⟩ := hv
          go_wp2
          go_loopw [7, 8] (fun s i wr => ∃ k : Nat, s = .int .i64 (scS n m x y (f.take k)) ∧ i = .int .i64 k ∧ k ≤ f.length ∧ Dr w2 wr) (fun _ i _ => f.length - (intOf i).toNat)
          case atStart => exact ⟨0, by simp [scS_nil], rfl, by omega, Dr.refl _⟩
          case round =>
            obtain ⟨k, rfl, rfl, hk, hd⟩ := hrel
            have HD := hid hd
            have HQ := hid (HQ2.out.go (hd.below _))
            have HR := hid (HR2.out.drR hd)
            clear hd c_q l_q
            have c_q := fun (o : Nat) => HQ.out.cell o
            have l_q := HQ.out.lt
            by_cases hlt : k < f.length
            · obtain ⟨b1, o1, rfl, hb1, hx⟩ := row_panes HR.out (by omega)
              obtain ⟨x0, x1, x2, x3⟩ := hx k hlt
              have hk2 := HOK.out _ (List.getElem_mem hlt)
              have HK1 := hid hk2.1
              have HK2 := hid hk2.2
              have s1 := scl_bd hk2.1
              have s2 := scl_bd hk2.2
              have s3 : scl n x f[k].w * scl m y f[k].h ≤ 1400 * 1400 := Int.mul_le_mul s1.2 s2.2 s2.1 (by omega)
              have s4 := Int.mul_nonneg s1.1 s2.1
              have s5 := scS_bd (n := n) (m := m) (x := x) (y := y) (f := f.take k) (fun p hp => HOK.out p (List.mem_of_mem_take hp))
              have s6 := List.length_take_le k f
              have hs1 : IntKind.i64.wrap (scl n x f[k].w * scl m y f[k].h) = scl n x f[k].w * scl m y f[k].h := IntWalk.i64_in _ (by omega)
              have hs2 : IntKind.i64.wrap (scS n m x y (f.take k) + scl n x f[k].w * scl m y f[k].h) = scS n m x y (f.take k) + scl n x f[k].w * scl m y f[k].h := IntWalk.i64_in _ (by omega)
              have HSU := hid (scS_succ n m x y f k hlt)
              clear hx hk2 s1 s2 s3 s4 s5 s6
              go_wp2
              go_quiet ((go_at_call 53; exact Calls.quiet_of_same (same_quiet (scale_c _ _ _ _ (by first | exact HK1.out | exact HK2.out)))))
              go_wp2
              exact ⟨⟨k + 1, by rw [HSU.out], by go_num, by omega, HD.out.step _⟩, by simp [intOf]; omega⟩
            · have e : f.take k = f := List.take_of_length_le (by omega)
              rw [e]
              have s5 := scS_bd (n := n) (m := m) (x := x) (y := y) (f := f) HOK.out
              obtain ⟨d1, d2, d3⟩ := HA.out.d
              clear e
              go_wp2_with fail
              refine (ceilDiv_c _ _ _ (by omega) (by omega)).mono ?_
              rintro e w9 ⟨rfl, rfl⟩
              go_wp2
              go_ret
              exact ⟨ret_int HT.out.symm, HB2.out.trans (HD.out.below _)⟩
        · have HF := hid (scbOut_n (x := x) (y := y) (f := f) (n := n) (m := m) (fun h => hm1' h.2))
          have h3 : m < 1 ∨ 6 < m := by omega
          have H3 := hid h3
          clear hm1' h3
          go_wp2_with fail
          refine (inRange_f _ _ _ _ H3.out).mono ?_; rintro e w4 ⟨rfl, rfl⟩
          go_wp2
          go_ret
          exact ⟨ret_int HF.out.symm, HB2.out⟩
      · have HF := hid (scbOut_n (x := x) (y := y) (f := f) (n := n) (m := m) (fun h => hn1 h.1))
        have h3 : n < 1 ∨ 6 < n := by omega
        have H3 := hid h3
        clear hn1 h3
        go_wp2_with fail
        refine (inRange_f _ _ _ _ H3.out).mono ?_; rintro e w4 ⟨rfl, rfl⟩
        go_wp2
        go_ret
        exact ⟨ret_int HF.out.symm, HB2.out⟩

end Go.Proofs.Ytkddlfgfhjpcjaa
