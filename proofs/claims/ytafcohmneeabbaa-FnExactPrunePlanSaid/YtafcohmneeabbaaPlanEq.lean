/-
  Contracts of the small functions over plans: equality, marks.
-/
import Derived.Test.YtafcohmneeabbaaPlan
namespace Go.Proofs.Ytafcohmneeabbaa
set_option linter.unusedSimpArgs false
set_option linter.unusedVariables false
open Go.RowKit

theorem Sh.same_eq {s1 s2 : Sh} {p : Pl} (h1 : s1.same p) (h2 : s2.same p) : (s1.o != s2.o) = false ∧ (s1.a != s2.a) = false ∧ (s1.p != s2.p) = false ∧ (s1.t != s2.t) = false := by
  obtain ⟨a1, a2, a3, a4⟩ := h1
  obtain ⟨b1, b2, b3, b4⟩ := h2
  rw [a1, a2, a3, a4, b1, b2, b3, b4]
  simp

def EqS (n : Nat) : Prop := ∀ (m : Nat) (v1 v2 : Value) (L : List Pl) (w : World), FR w.heap.size w n v1 L → FR w.heap.size w m v2 L →
  Calls Try.prog 54 #[v1, v2] w fun e w' => e = .returned (.bool true) ∧ Below w.heap.size w w'

set_option maxHeartbeats 800000 in
theorem eqPlan_of (n : Nat) (ih : EqS n) (m : Nat) (p : Pl) (s1 s2 : Sh) (w : World) (h1 : PR w.heap.size w n p s1) (h2 : PR w.heap.size w m p s2) :
    Calls Try.prog 28 #[.agg #[.int .i64 s1.o, .int .i64 s1.a, .int .i64 s1.p, .bool s1.t, .slice s1.ka s1.kn s1.kc], .agg #[.int .i64 s2.o, .int .i64 s2.a, .int .i64 s2.p, .bool s2.t, .slice s2.ka s2.kn s2.kc]] w fun e w' => e = .returned (.bool true) ∧ Below w.heap.size w w' := by
  have HI := hid ih
  have H1 := hid (fun w1 (hb : Below w.heap.size w w1) => h1.2.go hb)
  have H2 := hid (fun w1 (hb : Below w.heap.size w w1) => h2.2.go hb)
  obtain ⟨g1, g2, g3, g4⟩ := Sh.same_eq h1.1 h2.1
  clear h1 h2 ih
  have HB := hid (((Below.refl _ _).alloc (Nat.le_refl _) (.cells #[.int .i64 s1.o, .int .i64 s1.a, .int .i64 s1.p, .bool s1.t, .slice s1.ka s1.kn s1.kc] 30)).alloc (by simp) (.cells #[.int .i64 s2.o, .int .i64 s2.a, .int .i64 s2.p, .bool s2.t, .slice s2.ka s2.kn s2.kc] 30) : Below w.heap.size w _)
  go_enter Try.func28, Try.ntmps28
  go_wp2_with fail
  all_goals first | (refine (HI.out m _ _ _ _ (H1.out _ HB.out) (H2.out _ HB.out)).mono ?_) | (exfalso; simp_all; done)
  rintro e w2 ⟨rfl, hb⟩
  have HB2 := hid (HB.out.trans (hb.mono HB.out.size))
  clear hb
  go_wp2
  go_ret
  exact ⟨rfl, HB2.out⟩

set_option maxHeartbeats 1600000 in
theorem eqPlanS_any : ∀ n, EqS n
  | 0 => fun _ _ _ _ _ h => h.elim
  | n + 1 => by
    have HI := hid (eqPlan_of n (eqPlanS_any n))
    intro m v1 v2 L w h1 h2
    cases m with
    | zero => exact h2.elim
    | succ m =>
    obtain ⟨S1, hr1, hl1, hS1⟩ := h1
    obtain ⟨S2, hr2, hl2, hS2⟩ := h2
    obtain ⟨A1, c1, rfl, hc1, hm1⟩ := hr1.form
    obtain ⟨A2, c2, rfl, hc2, hm2⟩ := hr2.form
    unfold maxLen at hm1 hm2
    have hlb : ((S1.length : Int) != (S2.length : Int)) = false := by rw [hl1, hl2]; simp
    have HS1 := hid hS1
    have HS2 := hid hS2
    have HL1 := hid hl1
    have HL2 := hid hl2
    clear hS1 hS2 hl1 hl2
    go_enter Try.func54, Try.ntmps54
    go_wp2
    go_loopw [5] (fun i wr => ∃ k : Nat, i = .int .i64 k ∧ k ≤ S1.length ∧ Below w.heap.size w wr) (fun i _ => S1.length - (intOf i).toNat)
    case atStart => exact ⟨0, rfl, by omega, Below.refl _ _⟩
    case round =>
      obtain ⟨k, rfl, hk, hb⟩ := hrel
      by_cases hlt : k < S1.length
      · have hlt2 : k < S2.length := by have := HL1.out; have := HL2.out; omega
        have hkl : k < L.length := by have := HL1.out; omega
        obtain ⟨b1, o1, rfl, -, hx⟩ := row_shs (hr1.below hb) (by omega)
        obtain ⟨b2, o2, rfl, -, hy⟩ := row_shs (hr2.below hb) (by omega)
        obtain ⟨hx0, hx1, hx2, hx3, hx4⟩ := hx k hlt
        obtain ⟨hy0, hy1, hy2, hy3, hy4⟩ := hy k hlt2
        have HB := hid hb
        have HP1 := hid (fun w1 (hb1 : Below w.heap.size w w1) => PR.go (HS1.out k hlt hkl) hb1)
        have HP2 := hid (fun w1 (hb1 : Below w.heap.size w w1) => PR.go (HS2.out k hlt2 hkl) hb1)
        clear hx hy hr1 hr2 hb
        go_wp2
        go_still_tail 8, (by kernel_rfl)
        go_wp2_with fail
        refine (HI.out m L[k] S1[k] S2[k] _ (HP1.out _ HB.out.drew) (HP2.out _ HB.out.drew)).mono ?_
        rintro e w2 ⟨rfl, hb2⟩
        have HB2 := hid (HB.out.drew.trans (hb2.mono HB.out.size))
        clear hb2
        go_wp2
        exact ⟨⟨k + 1, by go_num, by omega, HB2.out⟩, by simp [intOf]; omega⟩
      · go_wp2
        go_ret
        exact ⟨rfl, hb⟩

theorem eqPlan_c {n m : Nat} {p : Pl} {s1 s2 : Sh} {w : World} (h1 : PR w.heap.size w n p s1) (h2 : PR w.heap.size w m p s2) :
    Calls Try.prog 28 #[.agg #[.int .i64 s1.o, .int .i64 s1.a, .int .i64 s1.p, .bool s1.t, .slice s1.ka s1.kn s1.kc], .agg #[.int .i64 s2.o, .int .i64 s2.a, .int .i64 s2.p, .bool s2.t, .slice s2.ka s2.kn s2.kc]] w fun e w' => e = .returned (.bool true) ∧ Below w.heap.size w w' := eqPlan_of n (eqPlanS_any n) m p s1 s2 w h1 h2
theorem szPlan_c {n : Nat} {p : Pl} {s : Sh} {left : Int} {w : World} (h : PR w.heap.size w n p s) (h0 : 0 ≤ left) (h1 : left ≤ 4194304) :
    Calls Try.prog 24 #[.agg #[.int .i64 s.o, .int .i64 s.a, .int .i64 s.p, .bool s.t, .slice s.ka s.kn s.kc], .int .i64 left] w fun e w' => e = .returned (.int .i64 (szR left (tot p.ks))) ∧ Below w.heap.size w w' := szPlan_of n (szPlanS_any n) p s left w h h0 h1
theorem toPlan_c {n : Nat} {p : Pl} {s : Sh} {w : World} (h : PR w.heap.size w n p s) (h0 : tot p.ks ≤ 4194304) :
    Calls Try.prog 26 #[.agg #[.int .i64 s.o, .int .i64 s.a, .int .i64 s.p, .bool s.t, .slice s.ka s.kn s.kc]] w fun e w' => ∃ s' : Sh, e = .returned (.agg #[.int .i64 s'.o, .int .i64 s'.a, .int .i64 s'.p, .bool s'.t, .slice s'.ka s'.kn s'.kc]) ∧ s'.same p ∧ OD 30 w' n w.heap.size w'.heap.size s'.kv p.ks ∧ Below w.heap.size w w' := toPlan_of n (toPlanS_any n) p s w h h0

end Go.Proofs.Ytafcohmneeabbaa
