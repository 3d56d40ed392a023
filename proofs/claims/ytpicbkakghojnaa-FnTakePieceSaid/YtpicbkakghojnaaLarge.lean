/-
  Contracts: the better one of two clear boxes; the largest clear box in plain words.
-/
import Derived.Test.YtpicbkakghojnaaEqPc
namespace Go.Proofs.Ytpicbkakghojnaa
set_option linter.unusedSimpArgs false
set_option linter.unusedVariables false
open Go.RowKit

def ar (b : Bx) : Int := b.w * b.h
def btB (a b : Bx) : Bool := if ar a ≠ ar b then decide (ar b < ar a) else if a.y ≠ b.y then decide (a.y < b.y) else if a.x ≠ b.x then decide (a.x < b.x) else decide (a.w < b.w)
/-- Sides from 0 to 200. -/
def sB (b : Bx) : Prop := (0 ≤ b.w ∧ b.w ≤ 200) ∧ (0 ≤ b.h ∧ b.h ≤ 200)
theorem sB.ar {b : Bx} (h : sB b) : 0 ≤ b.w * b.h ∧ b.w * b.h ≤ 40000 := by
  obtain ⟨⟨h1, h2⟩, h3, h4⟩ := h
  exact ⟨Int.mul_nonneg h1 h3, by have := Int.mul_le_mul h2 h4 h3 (by decide); omega⟩

theorem boxArea_c (b : Bx) (w : World) (h : sB b) : Calls Try.prog 87 #[.agg #[.int .i64 b.x, .int .i64 b.y, .int .i64 b.w, .int .i64 b.h]] w fun e w' => e = .returned (.int .i64 (ar b)) ∧ Below w.heap.size w w' := by
  obtain ⟨h1, h2⟩ := h.ar
  have hw : IntKind.i64.wrap (b.w * b.h) = b.w * b.h := IntWalk.i64_in _ (by omega)
  clear h1 h2 h
  go_enter Try.func87, Try.ntmps87
  go_wp2
  go_ret
  exact ⟨rfl, (Below.refl _ _).alloc (Nat.le_refl _) _⟩

set_option maxHeartbeats 6400000 in
set_option maxRecDepth 100000 in
theorem betterClear_c (a b : Bx) (w : World) (ha : sB a) (hb : sB b) : Calls Try.prog 77 #[.agg #[.int .i64 a.x, .int .i64 a.y, .int .i64 a.w, .int .i64 a.h], .agg #[.int .i64 b.x, .int .i64 b.y, .int .i64 b.w, .int .i64 b.h]] w fun e w' => e = .returned (.bool (btB a b)) ∧ Below w.heap.size w w' := by
  have B2 := hid (((Below.refl _ _).alloc (Nat.le_refl _) (.cells #[.int .i64 a.x, .int .i64 a.y, .int .i64 a.w, .int .i64 a.h] 33)).alloc (by simp) (.cells #[.int .i64 b.x, .int .i64 b.y, .int .i64 b.w, .int .i64 b.h] 33) : Below w.heap.size w _)
  obtain ⟨W, hW⟩ : ∃ W, W = (w.alloc (.cells #[.int .i64 a.x, .int .i64 a.y, .int .i64 a.w, .int .i64 a.h] 33)).alloc (.cells #[.int .i64 b.x, .int .i64 b.y, .int .i64 b.w, .int .i64 b.h] 33) := ⟨_, rfl⟩
  have K0 : Blk W w.heap.size #[.int .i64 a.x, .int .i64 a.y, .int .i64 a.w, .int .i64 a.h] 33 := by rw [hW]; exact (Blk.new _ _ _).alloc _
  have K1 : Blk W (w.heap.size + 1) #[.int .i64 b.x, .int .i64 b.y, .int .i64 b.w, .int .i64 b.h] 33 := by
    rw [hW]; have := Blk.new (w.alloc (.cells #[.int .i64 a.x, .int .i64 a.y, .int .i64 a.w, .int .i64 a.h] 33)) #[.int .i64 b.x, .int .i64 b.y, .int .i64 b.w, .int .i64 b.h] 33; simpa using this
  rw [← hW] at B2
  have HW := hid hW
  have HK0 := hid K0
  have HK1 := hid K1
  have hq0 := fun (q : GW W.heap.size W) (o : Nat) => (K0.go q.h).cell o
  have hq1 := fun (q : GW W.heap.size W) (o : Nat) => (K1.go q.h).cell o
  have hp0 := fun (o : Nat) => K0.cell o
  have hp1 := fun (o : Nat) => K1.cell o
  have HA := hid (fun w => boxArea_c a w ha)
  have HB := hid (fun w => boxArea_c b w hb)
  have HV : Hid (btB a b = if ar a ≠ ar b then decide (ar b < ar a) else if a.y ≠ b.y then decide (a.y < b.y) else if a.x ≠ b.x then decide (a.x < b.x) else decide (a.w < b.w)) := rfl
  generalize btB a b = V at HV
  generalize ar a = A at HA HV
  generalize ar b = B at HB HV
  clear hW K0 K1 ha hb
  by_cases hne : A = B
  · have d0 : (A != B) = false := by simp [hne]
    have hcase : (∃ t, V = t ∧ ((a.y != b.y) = true ∧ decide (a.y < b.y) = t)) ∨ (∃ t, V = t ∧ ((a.y != b.y) = false ∧ (a.x != b.x) = true ∧ decide (a.x < b.x) = t)) ∨ (∃ t, V = t ∧ ((a.y != b.y) = false ∧ (a.x != b.x) = false ∧ decide (a.w < b.w) = t)) := by
      rw [HV.out]
      by_cases h1 : a.y = b.y
      · by_cases h2 : a.x = b.x
        · exact .inr (.inr ⟨_, by simp [hne, h1, h2], by simp [h1], by simp [h2], rfl⟩)
        · exact .inr (.inl ⟨_, by simp [hne, h1, h2], by simp [h1], by simp [h2], rfl⟩)
      · exact .inl ⟨_, by simp [hne, h1], by simp [h1], rfl⟩
    clear HV hne
    rcases hcase with ⟨t, rfl, e1, e2⟩ | ⟨t, rfl, e1, e2, e3⟩ | ⟨t, rfl, e1, e2, e3⟩
    all_goals
      go_enter Try.func77, Try.ntmps77
      go_wp2
      rw [← HW.out]
      refine wp_region_grow W.heap.size W (by kernel_rfl) (by kernel_rfl) ?_
      repeat (go_big_quiet_step (first | (go_at_call 87; (first | with_reducible exact GW.call (Nat.le_refl _) (HA.out _) | with_reducible exact GW.call (Nat.le_refl _) (HB.out _)))))
      refine wpQuiet_nil ?_
      rintro _ ⟨q, rfl⟩
      have HQ := hid (B2.out.trans (q.h.mono (by have := B2.out.size; omega)))
      go_wp2
      go_ret
      exact ⟨rfl, HQ.out⟩
  · have d0 : (A != B) = true := by simp [hne]
    have HV2 : Hid (decide (B < A) = V) := by rw [Hid, HV.out]; simp [hne]
    clear HV hne
    go_enter Try.func77, Try.ntmps77
    go_wp2
    rw [← HW.out]
    refine wp_region_grow W.heap.size W (by kernel_rfl) (by kernel_rfl) ?_
    repeat (go_big_quiet_step (first | (go_at_call 87; (first | with_reducible exact GW.call (Nat.le_refl _) (HA.out _) | with_reducible exact GW.call (Nat.le_refl _) (HB.out _)))))
    refine wpQuiet_nil ?_
    intro wq hwq
    have hqq : Below W.heap.size W wq := by obtain ⟨q, rfl⟩ := hwq; exact q.h
    have HQ := hid (B2.out.trans (hqq.mono (by have := B2.out.size; omega)))
    have k0 := HK0.out.go hqq
    have k1 := HK1.out.go hqq
    have hr0 := fun (q : GW wq.heap.size wq) (o : Nat) => (k0.go q.h).cell o
    have hr1 := fun (q : GW wq.heap.size wq) (o : Nat) => (k1.go q.h).cell o
    have hs0 := fun (o : Nat) => k0.cell o
    have hs1 := fun (o : Nat) => k1.cell o
    clear hwq hqq hq0 hq1 hp0 hp1 k0 k1
    go_wp2
    refine wp_region_grow wq.heap.size wq (by kernel_rfl) (by kernel_rfl) ?_
    repeat (go_big_quiet_step (first | (go_at_call 87; (first | with_reducible exact GW.call (Nat.le_refl _) (HA.out _) | with_reducible exact GW.call (Nat.le_refl _) (HB.out _)))))
    refine wpQuiet_nil ?_
    rintro _ ⟨q, rfl⟩
    have HQ2 := hid (HQ.out.trans (q.h.mono HQ.out.size))
    go_wp2
    go_ret
    exact ⟨ret_bool HV2.out, HQ2.out⟩

end Go.Proofs.Ytpicbkakghojnaa
