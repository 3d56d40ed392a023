/-
  Contracts: the bound by scaled sides, by the program and by the reference.
-/
import Derived.Test.YtkddlfgfhjpcjaaWorkV
namespace Go.Proofs.Ytkddlfgfhjpcjaa
set_option linter.unusedSimpArgs false
set_option linter.unusedVariables false
open Go.RowKit

def fxB (x y : Int) (f : List Pn) : Bool := decide (∀ p ∈ f, p.t = false ∧ p.w ≤ x ∧ p.h ≤ y)
theorem fxB_iff {x y : Int} {f : List Pn} : fxB x y f = true ↔ ∀ p ∈ f, p.t = false ∧ p.w ≤ x ∧ p.h ≤ y := by unfold fxB; rw [decide_eq_true_iff]
theorem fxB_not {x y : Int} {f : List Pn} {k : Nat} (hk : k < f.length) (h : ¬ (f[k].t = false ∧ f[k].w ≤ x ∧ f[k].h ≤ y)) : fxB x y f = false := by
  rw [← Bool.not_eq_true, fxB_iff]; exact fun h2 => h (h2 _ (List.getElem_mem hk))
def fxTo (x y : Int) (f : List Pn) (k : Nat) : Prop := ∀ p ∈ f.take k, p.t = false ∧ p.w ≤ x ∧ p.h ≤ y
theorem fxTo_succ {x y : Int} {f : List Pn} {k : Nat} (hk : k < f.length) (h : fxTo x y f k) (h2 : f[k].t = false ∧ f[k].w ≤ x ∧ f[k].h ≤ y) : fxTo x y f (k + 1) := fun p hp => by
  rw [List.take_succ_eq_append_getElem hk] at hp
  rcases List.mem_append.1 hp with hp | hp
  · exact h p hp
  · simp at hp; subst hp; exact h2
theorem fxTo_end {x y : Int} {f : List Pn} {k : Nat} (hk : f.length ≤ k) (h : fxTo x y f k) : fxB x y f = true := fxB_iff.2 fun p hp => h p (by rw [List.take_of_length_le hk]; exact hp)
theorem fx_case {x y : Int} {p : Pn} (h : ¬ (p.t = false ∧ p.w ≤ x ∧ p.h ≤ y)) : p.t = true ∨ (p.t = false ∧ x < p.w) ∨ (p.t = false ∧ p.w ≤ x ∧ y < p.h) := by
  cases h1 : p.t with
  | true => exact .inl rfl
  | false =>
    by_cases h2 : p.w ≤ x
    · rcases Int.lt_or_le y p.h with h3 | h3
      · exact .inr (.inr ⟨rfl, h2, h3⟩)
      · exact absurd ⟨h1, h2, h3⟩ h
    · exact .inr (.inl ⟨rfl, by omega⟩)

set_option maxHeartbeats 3200000 in
set_option maxRecDepth 100000 in
theorem fixed_c (x y : Int) (f : List Pn) (A : Option Addr) (c : Nat) (w : World) (h : Row paneE w (.slice A f.length c) f) : Calls Try.prog 51 #[.agg #[.int .i64 x, .int .i64 y, .slice A f.length c]] w fun e w' => e = .returned (.bool (fxB x y f)) ∧ Below w.heap.size w w' := by
  obtain ⟨-, hc1, hm1, -⟩ := h.at_
  unfold maxLen at hm1
  have hb0 := (Below.refl w.heap.size w).alloc (Nat.le_refl _) (.cells #[.int .i64 x, .int .i64 y, .slice A f.length c] 40)
  have HB0 := hid hb0
  have HQ0 := hid (Blk.new w #[.int .i64 x, .int .i64 y, .slice A f.length c] 40)
  have HH := hid (h.go hb0)
  clear h hb0
  go_enter Try.func51, Try.ntmps51
  go_wp2
  go_loopw [3] (fun i wr => ∃ k : Nat, i = .int .i64 k ∧ k ≤ f.length ∧ fxTo x y f k ∧ Dr (w.alloc (.cells #[.int .i64 x, .int .i64 y, .slice A f.length c] 40)) wr) (fun i _ => f.length - (intOf i).toNat)
  case atStart => exact ⟨0, rfl, by omega, fun p hp => by simp at hp, Dr.refl _⟩
  case round =>
    obtain ⟨k, rfl, hk, ho, hd⟩ := hrel
    have HO := hid ho
    have HD := hid hd
    have HQ := hid (HQ0.out.go (hd.below _))
    have c_q := fun (o : Nat) => HQ.out.cell o
    have l_q := HQ.out.lt
    by_cases hlt : k < f.length
    · obtain ⟨b1, o1, rfl, hb1, hx⟩ := row_panes (HH.out.drR hd) (by omega)
      obtain ⟨x0, x1, x2, x3⟩ := hx k hlt
      clear hx ho hd
      by_cases hp : f[k].t = false ∧ f[k].w ≤ x ∧ f[k].h ≤ y
      · have HO2 := hid (fxTo_succ hlt HO.out hp)
        obtain ⟨t1, t2, t3⟩ := hp
        have d2 : decide (x < f[k].w) = false := decide_eq_false (by omega)
        have d3 : decide (y < f[k].h) = false := decide_eq_false (by omega)
        rw [t1] at x2
        go_wp2
        go_quiet (fail)
        go_wp2
        exact ⟨⟨k + 1, by go_num, by omega, HO2.out, HD.out.step _⟩, by simp [intOf]; omega⟩
      · have HF := hid (fxB_not hlt hp)
        have hcase := fx_case hp
        clear hp
        rcases hcase with t1 | ⟨t1, t2⟩ | ⟨t1, t2, t3⟩
        · rw [t1] at x2
          go_wp2
          go_quiet (fail)
          go_wp2
          go_ret
          exact ⟨ret_bool HF.out.symm, HB0.out.trans ((HD.out.step _).below _)⟩
        · rw [t1] at x2
          have d2 : decide (x < f[k].w) = true := decide_eq_true t2
          go_wp2
          go_quiet (fail)
          go_wp2
          go_ret
          exact ⟨ret_bool HF.out.symm, HB0.out.trans ((HD.out.step _).below _)⟩
        · rw [t1] at x2
          have d2 : decide (x < f[k].w) = false := decide_eq_false (by omega)
          have d3 : decide (y < f[k].h) = true := decide_eq_true t3
          go_wp2
          go_quiet (fail)
          go_wp2
          go_ret
          exact ⟨ret_bool HF.out.symm, HB0.out.trans ((HD.out.step _).below _)⟩
    · have HT := hid (fxTo_end (by omega) HO.out)
      go_wp2
      go_ret
      exact ⟨ret_bool HT.out.symm, HB0.out.trans (HD.out.below _)⟩

def pwB (x y : Int) (f : List Pn) : Bool := vwB x y f && fxB x y f
theorem pwB_f {x y : Int} {f : List Pn} (h : vwB x y f = false) : pwB x y f = false := by simp [pwB, h]
theorem pwB_g {x y : Int} {f : List Pn} (h : fxB x y f = false) : pwB x y f = false := by simp [pwB, h]
theorem pwB_t {x y : Int} {f : List Pn} (h : vwB x y f = true) (h2 : fxB x y f = true) : pwB x y f = true := by simp [pwB, h, h2]

set_option maxHeartbeats 3200000 in
set_option maxRecDepth 100000 in
theorem plainWork_c (x y : Int) (f : List Pn) (A : Option Addr) (c : Nat) (w : World) (h : Row paneE w (.slice A f.length c) f) : Calls Try.prog 55 #[.agg #[.int .i64 x, .int .i64 y, .slice A f.length c]] w fun e w' => e = .returned (.bool (pwB x y f)) ∧ Below w.heap.size w w' := by
  obtain ⟨-, hc1, hm1, -⟩ := h.at_
  unfold maxLen at hm1
  have hb0 := (Below.refl w.heap.size w).alloc (Nat.le_refl _) (.cells #[.int .i64 x, .int .i64 y, .slice A f.length c] 40)
  have HB0 := hid hb0
  have HQ0 := hid (Blk.new w #[.int .i64 x, .int .i64 y, .slice A f.length c] 40)
  have HH := hid (h.go hb0)
  clear h hb0
  go_enter Try.func55, Try.ntmps55
  go_wp2_with fail
  refine (ValidWork_c x y f A c _ HH.out).mono ?_
  rintro e w1 ⟨rfl, hb⟩
  have HB1 := hid (HB0.out.trans (hb.mono HB0.out.size))
  have HQ1 := hid (HQ0.out.go hb)
  have HR1 := hid (HH.out.go hb)
  clear hb
  cases hv : vwB x y f with
  | false =>
    have HF := hid (pwB_f hv)
    clear hv
    go_wp2
    go_ret
    exact ⟨ret_bool HF.out.symm, HB1.out⟩
  | true =>
    have HV := hid hv
    have c_q := fun (o : Nat) => HQ1.out.cell o
    have l_q := HQ1.out.lt
    clear hv
    go_wp2
    go_loopw [11] (fun i wr => ∃ k : Nat, i = .int .i64 k ∧ k ≤ f.length ∧ fxTo x y f k ∧ Below w1.heap.size w1 wr) (fun i _ => f.length - (intOf i).toNat)
    case atStart => exact ⟨0, rfl, by omega, fun p hp => by simp at hp, Below.refl _ _⟩
    case round =>
      obtain ⟨k, rfl, hk, ho, hb⟩ := hrel
      have HO := hid ho
      have HB := hid (HB1.out.trans (hb.mono HB1.out.size))
      have HR := hid (HR1.out.go hb)
      have HQ := hid (HQ1.out.go hb)
      have hsz := hb.size
      have HBo := hid hb
      clear ho hb c_q l_q
      have c_q := fun (o : Nat) => HQ.out.cell o
      have l_q := HQ.out.lt
      by_cases hlt : k < f.length
      · obtain ⟨b1, o1, rfl, hb1, hx⟩ := row_panes HR.out (by omega)
        obtain ⟨x0, x1, x2, x3⟩ := hx k hlt
        have HBa := hid (HBo.out.alloc hsz (.cells #[.int .i64 f[k].w, .int .i64 f[k].h, .bool f[k].t, .int .i64 f[k].k] 51))
        clear hx
        by_cases hp : f[k].t = false ∧ f[k].w ≤ x ∧ f[k].h ≤ y
        · have HO2 := hid (fxTo_succ hlt HO.out hp)
          obtain ⟨t1, t2, t3⟩ := hp
          rw [t1] at x2 HBa
          go_wp2
          exact ⟨⟨k + 1, by go_num, by omega, HO2.out, HBa.out⟩, by simp [intOf]; omega⟩
        · have HF := hid (pwB_g (fxB_not hlt hp))
          have hcase := fx_case hp
          have HBz := hid (HB1.out.trans (HBa.out.mono HB1.out.size))
          clear hp
          rcases hcase with t1 | ⟨t1, t2⟩ | ⟨t1, t2, t3⟩
          all_goals
            rw [t1] at x2 HBz
            go_wp2
            go_ret
            exact ⟨ret_bool HF.out.symm, HBz.out⟩
      · have HT := hid (pwB_t HV.out (fxTo_end (by omega) HO.out))
        go_wp2
        go_ret
        exact ⟨ret_bool HT.out.symm, HB.out⟩

end Go.Proofs.Ytkddlfgfhjpcjaa
