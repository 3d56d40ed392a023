/-
  Contracts of the small functions over works (a sheet and its panes): adapted from pieces.
-/
import Derived.Test.YtkddlfgfhjpcjaaPane
import Derived.Deep.RegionHeld3
namespace Go.Proofs.Ytkddlfgfhjpcjaa
set_option linter.unusedSimpArgs false
set_option linter.unusedVariables false
open Go.RowKit

theorem szPaneS_t (v1 : Value) (L : List Pn) (l : Int) (w : World) (h1 : Row paneE w v1 L) (h0 : 0 ≤ l) (hl : l ≤ 4194304) (h : (L.length : Int) ≤ l) :
    Calls Try.prog 45 #[v1, .int .i64 l] w fun e w' => e = .returned (.int .i64 (l - L.length)) ∧ Dr w w' := by
  obtain ⟨A1, c1, rfl, hc1, hm1⟩ := h1.form
  unfold maxLen at hm1
  go_enter Try.func45, Try.ntmps45
  go_wp2
  go_ret
  exact ⟨rfl, Dr.refl _⟩
theorem szPaneS_f (v1 : Value) (L : List Pn) (l : Int) (w : World) (h1 : Row paneE w v1 L) (h0 : 0 ≤ l) (hl : l ≤ 4194304) (h : l < (L.length : Int)) :
    Calls Try.prog 45 #[v1, .int .i64 l] w fun e w' => e = .returned (.int .i64 (-1)) ∧ Dr w w' := by
  obtain ⟨A1, c1, rfl, hc1, hm1⟩ := h1.form
  unfold maxLen at hm1
  go_enter Try.func45, Try.ntmps45
  go_wp2
  go_ret
  exact ⟨rfl, Dr.refl _⟩

theorem bcellW {W w1 : World} (hb : Below W.heap.size W w1) : (∀ b o, b < W.heap.size → w1.cell? ⟨b, o, none⟩ = W.cell? ⟨b, o, none⟩) ∧ (∀ b o, b < W.heap.size → w1.frozen? ⟨b, o, none⟩ = W.frozen? ⟨b, o, none⟩) ∧ W.heap.size ≤ w1.heap.size :=
  ⟨fun b o h => hb.cell (p := ⟨b, o, none⟩) h, fun b o h => by unfold World.frozen?; rw [hb.block b h], hb.size⟩

/-- A work: its sides, its panes. -/
structure Wk where
  w : Int
  h : Int
  f : List Pn
/-- A work as it lies: the panes as a slice value. -/
structure Ws where
  w : Int
  h : Int
  ka : Option Addr
  kn : Nat
  kc : Nat
def Ws.kv (s : Ws) : Value := .slice s.ka s.kn s.kc
def Ws.same (s : Ws) (p : Wk) : Prop := s.w = p.w ∧ s.h = p.h
/-- The work s reads as p, below block B. -/
def WvR (B : Nat) (w : World) (p : Wk) (s : Ws) : Prop := s.same p ∧ RowB paneE B w s.kv p.f
theorem WvR.go {w w' : World} {p : Wk} {s : Ws} (h : WvR w.heap.size w p s) (hb : Below w.heap.size w w') : WvR w'.heap.size w' p s := ⟨h.1, h.2.go hb⟩
theorem WvR.below {B : Nat} {w w' : World} {p : Wk} {s : Ws} (h : WvR B w p s) (hb : Below B w w') : WvR B w' p s := ⟨h.1, h.2.below hb⟩
theorem WvR.up {B B' : Nat} {w : World} {p : Wk} {s : Ws} (h : WvR B w p s) (hB : B ≤ B') : WvR B' w p s := ⟨h.1, h.2.more hB⟩

theorem work_info : (Try.prog.info? 40).map (fun i => (i.zero, i.size, i.bytes)) = some (some (.agg #[.int .i64 0, .int .i64 0, .slice none 0 0]), 3, 40) := by kernel_rfl

theorem below_ws {x y : Int} {ka : Option Addr} {kn kc : Nat} {ty : TypeId} (w : World) : Below w.heap.size w (w.alloc (.cells #[.int .i64 x, .int .i64 y, .slice ka kn kc] ty)) := (Below.refl _ _).alloc (Nat.le_refl _) _
theorem Own.setCell_far {α : Type} {E : Enc α} {e : TypeId} {base : Nat} {w : World} {v : Value} {L : List α} {p : Addr} (h : Own E e base w v L) (hp : p.block < base) (u : Value) : Own E e base (w.setCell p u) v L := ownsRow_setCell_below h hp u

set_option maxHeartbeats 1600000 in
theorem toWork_c (p : Wk) (s : Ws) (w : World) (h : WvR w.heap.size w p s) (hn : p.f.length ≤ 4194304) : Calls Try.prog 20 #[.agg #[.int .i64 s.w, .int .i64 s.h, .slice s.ka s.kn s.kc]] w fun e w' => ∃ s' : Ws, e = .returned (.agg #[.int .i64 s'.w, .int .i64 s'.h, .slice s'.ka s'.kn s'.kc]) ∧ s'.same p ∧ Own paneE 51 w.heap.size w' s'.kv p.f ∧ Below w.heap.size w w' := by
  have HF := hid (fun w1 (hb : Below w.heap.size w w1) => h.2.go hb)
  have HS := hid h.1
  clear h
  go_enter Try.func20, Try.ntmps20
  go_wp2_with fail
  have B3 := hid ((((Below.refl _ _).alloc (Nat.le_refl _) (.cells #[.int .i64 s.w, .int .i64 s.h, .slice s.ka s.kn s.kc] 35)).alloc (by simp) (.cells #[.int .i64 0, .int .i64 0, .slice none 0 0] 40)).alloc (by simp; omega) (.cells #[.int .i64 s.w, .int .i64 s.h, .slice none 0 0] 40) : Below w.heap.size w _)
  refine (toPaneS_c _ p.f _ (HF.out _ B3.out) hn).mono ?_
  rintro e w2 ⟨v', rfl, ho, hb⟩
  obtain ⟨A', c', rfl, hc1, hm⟩ := ho.rowB.form
  have HO := hid ho
  have HB := hid (B3.out.trans (hb.mono (by simp; omega)))
  obtain ⟨hc, hf, hsz⟩ := bcellW hb
  have hz : w.heap.size + 2 < w2.heap.size := by have := hsz; simp at this; omega
  clear ho hb hsz hm hc1
  go_wp2
  refine bodyPost_ret (v := .agg #[.int .i64 s.w, .int .i64 s.h, .slice A' p.f.length c']) (by simp [results, Try.results20, go_sem, hc, hz]) rfl ⟨⟨s.w, s.h, A', p.f.length, c'⟩, rfl, HS.out, ?_, ?_⟩
  · have H1 := (((HO.out.setCell_far (p := ⟨w.heap.size + 1 + 1, 2, none⟩) (by simp) (.slice A' p.f.length c')).setCell_far (p := ⟨w.heap.size + 1, 0, none⟩) (by simp) (.int .i64 s.w)).setCell_far (p := ⟨w.heap.size + 1, 1, none⟩) (by simp) (.int .i64 s.h)).setCell_far (p := ⟨w.heap.size + 1, 2, none⟩) (by simp) (.slice A' p.f.length c')
    exact H1.base_le (by simp; omega)
  · exact (((HB.out.setCell (by simp; omega) _).setCell (by simp) _).setCell (by simp) _).setCell (by simp) _

set_option maxHeartbeats 1600000 in
theorem szWork_t (p : Wk) (s : Ws) (l : Int) (w : World) (h : WvR w.heap.size w p s) (h0 : 0 ≤ l) (hl : l ≤ 4194304) (hn : (p.f.length : Int) ≤ l) : Calls Try.prog 18 #[.agg #[.int .i64 s.w, .int .i64 s.h, .slice s.ka s.kn s.kc], .int .i64 l] w fun e w' => e = .returned (.int .i64 (l - p.f.length)) ∧ Below w.heap.size w w' := by
  have HB0 := hid (below_ws (x := s.w) (y := s.h) (ka := s.ka) (kn := s.kn) (kc := s.kc) (ty := 35) w)
  have HF := hid (h.2.go HB0.out)
  clear h
  go_enter Try.func18, Try.ntmps18
  go_wp2_with fail
  refine (szPaneS_t _ p.f l _ HF.out h0 hl hn).mono ?_
  rintro e w2 ⟨rfl, hd⟩
  have HB2 := hid (HB0.out.trans (hd.below _))
  clear hd
  go_wp2
  go_ret
  exact ⟨rfl, HB2.out⟩

set_option maxHeartbeats 1600000 in
theorem szWork_f (p : Wk) (s : Ws) (l : Int) (w : World) (h : WvR w.heap.size w p s) (h0 : 0 ≤ l) (hl : l ≤ 4194304) (hn : l < (p.f.length : Int)) : Calls Try.prog 18 #[.agg #[.int .i64 s.w, .int .i64 s.h, .slice s.ka s.kn s.kc], .int .i64 l] w fun e w' => e = .returned (.int .i64 (-1)) ∧ Below w.heap.size w w' := by
  have HB0 := hid (below_ws (x := s.w) (y := s.h) (ka := s.ka) (kn := s.kn) (kc := s.kc) (ty := 35) w)
  have HF := hid (h.2.go HB0.out)
  clear h
  go_enter Try.func18, Try.ntmps18
  go_wp2_with fail
  refine (szPaneS_f _ p.f l _ HF.out h0 hl hn).mono ?_
  rintro e w2 ⟨rfl, hd⟩
  have HB2 := hid (HB0.out.trans (hd.below _))
  clear hd
  go_wp2
  go_ret
  exact ⟨rfl, HB2.out⟩

theorem Ws.same_eq {s1 s2 : Ws} {p : Wk} (h1 : s1.same p) (h2 : s2.same p) : (s1.w != s2.w) = false ∧ (s1.h != s2.h) = false := by
  obtain ⟨a2, a3⟩ := h1
  obtain ⟨b2, b3⟩ := h2
  rw [a2, a3, b2, b3]
  simp

set_option maxHeartbeats 1600000 in
theorem eqWork_c (p : Wk) (s1 s2 : Ws) (w : World) (h1 : WvR w.heap.size w p s1) (h2 : WvR w.heap.size w p s2) : Calls Try.prog 23 #[.agg #[.int .i64 s1.w, .int .i64 s1.h, .slice s1.ka s1.kn s1.kc], .agg #[.int .i64 s2.w, .int .i64 s2.h, .slice s2.ka s2.kn s2.kc]] w fun e w' => e = .returned (.bool true) ∧ Below w.heap.size w w' := by
  have HB0 := hid ((below_ws (x := s1.w) (y := s1.h) (ka := s1.ka) (kn := s1.kn) (kc := s1.kc) (ty := 40) w).alloc (by simp) (.cells #[.int .i64 s2.w, .int .i64 s2.h, .slice s2.ka s2.kn s2.kc] 40))
  have H1 := hid (h1.2.go HB0.out)
  have H2 := hid (h2.2.go HB0.out)
  obtain ⟨g2, g3⟩ := Ws.same_eq h1.1 h2.1
  clear h1 h2
  go_enter Try.func23, Try.ntmps23
  go_wp2_with fail
  refine (eqPaneS_c _ _ p.f p.f _ H1.out H2.out).mono ?_
  rintro e w2 ⟨rfl, hb⟩
  simp only [decide_true]
  have HB2 := hid (HB0.out.trans (hb.mono HB0.out.size))
  clear hb
  go_wp2
  go_ret
  exact ⟨rfl, HB2.out⟩

end Go.Proofs.Ytkddlfgfhjpcjaa
