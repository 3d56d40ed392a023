/-
  Contracts: plans drawn out of a code (written by a program of mine).
-/
import Derived.Test.YtafcohmneeabbaaGrowD
namespace Go.Proofs.Ytafcohmneeabbaa
set_option linter.unusedSimpArgs false
set_option linter.unusedVariables false
open Go.RowKit

/-- What a call answers that draws a plan. -/
def PlanDraw (w : World) (e : Ending) (w' : World) : Prop := ∃ (n : Nat) (s : Sh) (p : Pl), e = .returned (.agg #[.int .i64 s.o, .int .i64 s.a, .int .i64 s.p, .bool s.t, .slice s.ka s.kn s.kc]) ∧ s.same p ∧ FQ (fun q => w.heap.size ≤ q ∧ q < w'.heap.size) w' n s.kv p.ks ∧ Below w.heap.size w w'
theorem draw_fin {N n : Nat} {s : Sh} {p : Pl} {w w2 wf : World} (h : FQ (fun q => N ≤ q ∧ q < w2.heap.size) w2 n s.kv p.ks) (hs : s.same p) (hN : w.heap.size < N) (hb : Below w.heap.size w w2) (hf : Kp (fun q => q = w.heap.size) w2 wf) : PlanDraw w (.returned (.agg #[.int .i64 s.o, .int .i64 s.a, .int .i64 s.p, .bool s.t, .slice s.ka s.kn s.kc])) wf := by
  have h1 := hf.size
  have h2 := hb.size
  exact ⟨n, s, p, rfl, hs, h.heap (fun q hq => hf.block q hq.2 (by omega)) (fun q hq => ⟨by omega, by omega⟩), hb.trans (hf.toBelow h2 (fun q e => by omega))⟩

set_option maxHeartbeats 3200000 in
set_option maxRecDepth 100000 in
theorem DrawPlanSize_c (v : Value) (L : List Int) (w : World) (h : Row byteE w v L) (hb : ∀ x ∈ L, 0 ≤ x ∧ x ≤ 255) : Calls Try.prog 14 #[v] w (PlanDraw w) := by
  have HR := hid h
  have HB := hid hb
  clear h hb
  go_enter Try.func14, Try.ntmps14
  go_wp2_with fail
  refine (newReader_c w.heap.size _ L _ (HR.out.below ((Below.refl _ _).alloc (Nat.le_refl _) _)) (by simp) HB.out).mono ?_
  rintro e w1 ⟨rfl, hR, hb, hs⟩
  have HB1 := hid (((Below.refl _ _).alloc (Nat.le_refl _) _).trans (hb.mono (by simp)) : Below w.heap.size w w1)
  have HQ1 := hid ((Blk.new w #[.int .i64 0, .int .i64 0, .int .i64 0, .bool false, .slice none 0 0] 30).go hb)
  simp only [World.size_alloc] at hR hs
  have HR1 := hid hR
  clear hR hb
  go_wp2_with fail
  refine (anyPlan_c w.heap.size (w.heap.size + 1) 0 _ HR1.out (by omega)).mono ?_
  rintro e w2 ⟨n, s, p, W, H, pA, pn, pc, rfl, k1, k2, k3, k4⟩
  have HQ2 := hid (HQ1.out.grown k4 (fun e => by injection e with e; omega))
  have HB2 := hid (below_gr HB1.out k4 HB1.out.size (Nat.le_succ _))
  have HF := hid k2
  have HS := hid k1
  have hs2 := k4.size
  clear k1 k2 k3 k4
  have c_Q := fun (o : Nat) => HQ2.out.cell o
  have f_Q := fun (o : Nat) => HQ2.out.frz o
  have l_Q := HQ2.out.lt
  have c_F := fun (o : Nat) => (show Blk ((((((((w2.setCell ⟨w.heap.size, 0, none⟩ (.int .i64 s.o)).setCell ⟨w.heap.size, 1, none⟩ (.int .i64 s.a)).setCell ⟨w.heap.size, 2, none⟩ (.int .i64 s.p)).setCell ⟨w.heap.size, 3, none⟩ (.bool s.t)).setCell ⟨w.heap.size, 4, none⟩ (.slice s.ka s.kn s.kc))).alloc (.cells #[.int .i64 W, .int .i64 H, .slice pA pn pc] 47)).alloc (.cells #[.int .i64 s.o, .int .i64 s.a, .int .i64 s.p, .bool s.t, .slice s.ka s.kn s.kc] 30)) w.heap.size #[.int .i64 s.o, .int .i64 s.a, .int .i64 s.p, .bool s.t, .slice s.ka s.kn s.kc] 30 by have := (((((((HQ2.out).set 0 (.int .i64 s.o)).set 1 (.int .i64 s.a)).set 2 (.int .i64 s.p)).set 3 (.bool s.t)).set 4 (.slice s.ka s.kn s.kc)).alloc (.cells #[.int .i64 W, .int .i64 H, .slice pA pn pc] 47)).alloc (.cells #[.int .i64 s.o, .int .i64 s.a, .int .i64 s.p, .bool s.t, .slice s.ka s.kn s.kc] 30); simpa using this).cell o
  go_wp2
  clear c_Q f_Q
  exact bodyPost_ret (v := .agg #[.int .i64 s.o, .int .i64 s.a, .int .i64 s.p, .bool s.t, .slice s.ka s.kn s.kc]) (by simp [results, Try.results14, go_sem, c_F]) rfl (draw_fin HF.out HS.out (by omega) HB2.out ((((((((Kp.refl (fun q => q = w.heap.size) w2).set (q := w.heap.size) (.inl rfl) 0 (.int .i64 s.o)).set (q := w.heap.size) (.inl rfl) 1 (.int .i64 s.a)).set (q := w.heap.size) (.inl rfl) 2 (.int .i64 s.p)).set (q := w.heap.size) (.inl rfl) 3 (.bool s.t)).set (q := w.heap.size) (.inl rfl) 4 (.slice s.ka s.kn s.kc)).alloc (.cells #[.int .i64 W, .int .i64 H, .slice pA pn pc] 47)).alloc (.cells #[.int .i64 s.o, .int .i64 s.a, .int .i64 s.p, .bool s.t, .slice s.ka s.kn s.kc] 30)))

set_option maxHeartbeats 3200000 in
set_option maxRecDepth 100000 in
theorem DrawStagesOf_c (v : Value) (L : List Int) (w : World) (h : Row byteE w v L) (hb : ∀ x ∈ L, 0 ≤ x ∧ x ≤ 255) : Calls Try.prog 18 #[v] w (PlanDraw w) := by
  have HR := hid h
  have HB := hid hb
  clear h hb
  go_enter Try.func18, Try.ntmps18
  go_wp2_with fail
  refine (DrawPlanSize_c v L _ (HR.out.go ((Below.refl _ _).alloc (Nat.le_refl _) _)) HB.out).mono ?_
  rintro e w1 ⟨n, s, p, rfl, k1, k2, hb⟩
  have HB1 := hid (((Below.refl _ _).alloc (Nat.le_refl _) _).trans (hb.mono (by simp)) : Below w.heap.size w w1)
  have HQ1 := hid ((Blk.new w #[.int .i64 0, .int .i64 0, .int .i64 0, .bool false, .slice none 0 0] 30).go hb)
  simp only [World.size_alloc] at k2
  have HF := hid k2
  have HS := hid k1
  clear k1 k2 hb
  have c_Q := fun (o : Nat) => HQ1.out.cell o
  have f_Q := fun (o : Nat) => HQ1.out.frz o
  have l_Q := HQ1.out.lt
  have c_F := fun (o : Nat) => (show Blk (((((w1.setCell ⟨w.heap.size, 0, none⟩ (.int .i64 s.o)).setCell ⟨w.heap.size, 1, none⟩ (.int .i64 s.a)).setCell ⟨w.heap.size, 2, none⟩ (.int .i64 s.p)).setCell ⟨w.heap.size, 3, none⟩ (.bool s.t)).setCell ⟨w.heap.size, 4, none⟩ (.slice s.ka s.kn s.kc)) w.heap.size #[.int .i64 s.o, .int .i64 s.a, .int .i64 s.p, .bool s.t, .slice s.ka s.kn s.kc] 30 by have := (((((HQ1.out).set 0 (.int .i64 s.o)).set 1 (.int .i64 s.a)).set 2 (.int .i64 s.p)).set 3 (.bool s.t)).set 4 (.slice s.ka s.kn s.kc); simpa using this).cell o
  go_wp2
  clear c_Q f_Q
  exact bodyPost_ret (v := .agg #[.int .i64 s.o, .int .i64 s.a, .int .i64 s.p, .bool s.t, .slice s.ka s.kn s.kc]) (by simp [results, Try.results18, go_sem, c_F]) rfl (draw_fin (N := w.heap.size + 1) HF.out HS.out (Nat.lt_succ_self _) HB1.out ((((((Kp.refl (fun q => q = w.heap.size) w1).set (q := w.heap.size) (.inl rfl) 0 (.int .i64 s.o)).set (q := w.heap.size) (.inl rfl) 1 (.int .i64 s.a)).set (q := w.heap.size) (.inl rfl) 2 (.int .i64 s.p)).set (q := w.heap.size) (.inl rfl) 3 (.bool s.t)).set (q := w.heap.size) (.inl rfl) 4 (.slice s.ka s.kn s.kc)))

set_option maxHeartbeats 3200000 in
set_option maxRecDepth 100000 in
theorem DrawLeastTable_c (v : Value) (L : List Int) (w : World) (h : Row byteE w v L) (hb : ∀ x ∈ L, 0 ≤ x ∧ x ≤ 255) : Calls Try.prog 21 #[v] w (PlanDraw w) := by
  have HR := hid h
  have HB := hid hb
  clear h hb
  go_enter Try.func21, Try.ntmps21
  go_wp2_with fail
  refine (DrawPlanSize_c v L _ (HR.out.go ((Below.refl _ _).alloc (Nat.le_refl _) _)) HB.out).mono ?_
  rintro e w1 ⟨n, s, p, rfl, k1, k2, hb⟩
  have HB1 := hid (((Below.refl _ _).alloc (Nat.le_refl _) _).trans (hb.mono (by simp)) : Below w.heap.size w w1)
  have HQ1 := hid ((Blk.new w #[.int .i64 0, .int .i64 0, .int .i64 0, .bool false, .slice none 0 0] 30).go hb)
  simp only [World.size_alloc] at k2
  have HF := hid k2
  have HS := hid k1
  clear k1 k2 hb
  have c_Q := fun (o : Nat) => HQ1.out.cell o
  have f_Q := fun (o : Nat) => HQ1.out.frz o
  have l_Q := HQ1.out.lt
  have c_F := fun (o : Nat) => (show Blk (((((w1.setCell ⟨w.heap.size, 0, none⟩ (.int .i64 s.o)).setCell ⟨w.heap.size, 1, none⟩ (.int .i64 s.a)).setCell ⟨w.heap.size, 2, none⟩ (.int .i64 s.p)).setCell ⟨w.heap.size, 3, none⟩ (.bool s.t)).setCell ⟨w.heap.size, 4, none⟩ (.slice s.ka s.kn s.kc)) w.heap.size #[.int .i64 s.o, .int .i64 s.a, .int .i64 s.p, .bool s.t, .slice s.ka s.kn s.kc] 30 by have := (((((HQ1.out).set 0 (.int .i64 s.o)).set 1 (.int .i64 s.a)).set 2 (.int .i64 s.p)).set 3 (.bool s.t)).set 4 (.slice s.ka s.kn s.kc); simpa using this).cell o
  go_wp2
  clear c_Q f_Q
  exact bodyPost_ret (v := .agg #[.int .i64 s.o, .int .i64 s.a, .int .i64 s.p, .bool s.t, .slice s.ka s.kn s.kc]) (by simp [results, Try.results21, go_sem, c_F]) rfl (draw_fin (N := w.heap.size + 1) HF.out HS.out (Nat.lt_succ_self _) HB1.out ((((((Kp.refl (fun q => q = w.heap.size) w1).set (q := w.heap.size) (.inl rfl) 0 (.int .i64 s.o)).set (q := w.heap.size) (.inl rfl) 1 (.int .i64 s.a)).set (q := w.heap.size) (.inl rfl) 2 (.int .i64 s.p)).set (q := w.heap.size) (.inl rfl) 3 (.bool s.t)).set (q := w.heap.size) (.inl rfl) 4 (.slice s.ka s.kn s.kc)))

theorem PlanDraw.pr {w w' : World} {n : Nat} {s : Sh} {p : Pl} (h1 : s.same p) (h2 : FQ (fun q => w.heap.size ≤ q ∧ q < w'.heap.size) w' n s.kv p.ks) : PR w'.heap.size w' n p s := ⟨h1, FQ.fr (fun q hq => hq.2) h2⟩

end Go.Proofs.Ytafcohmneeabbaa