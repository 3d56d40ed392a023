/-
  Contracts of the small functions over pieces of glass.
-/
import Derived.Test.YtpicbkakghojnaaBox
import Derived.Test.YtpicbkakghojnaaBoxP
import Derived.Deep.RegionHeld3
namespace Go.Proofs.Ytpicbkakghojnaa
set_option linter.unusedSimpArgs false
set_option linter.unusedVariables false
open Go.RowKit

/-- A piece: its label, its sides, its flaws. -/
structure Pc where
  l : Int
  w : Int
  h : Int
  f : List Bx
/-- A piece as it lies: the flaws as a slice value. -/
structure Ps where
  l : Int
  w : Int
  h : Int
  ka : Option Addr
  kn : Nat
  kc : Nat
def Ps.kv (s : Ps) : Value := .slice s.ka s.kn s.kc
def psE : Enc Ps := ⟨4, fun s => [.int .i64 s.l, .int .i64 s.w, .int .i64 s.h, .slice s.ka s.kn s.kc], fun _ => rfl, by decide, by simp [Value.oneCell']⟩
def Ps.same (s : Ps) (p : Pc) : Prop := s.l = p.l ∧ s.w = p.w ∧ s.h = p.h
/-- The piece s reads as p, below block B. -/
def PvR (B : Nat) (w : World) (p : Pc) (s : Ps) : Prop := s.same p ∧ RowB boxE B w s.kv p.f
theorem PvR.go {w w' : World} {p : Pc} {s : Ps} (h : PvR w.heap.size w p s) (hb : Below w.heap.size w w') : PvR w'.heap.size w' p s := ⟨h.1, h.2.go hb⟩
theorem PvR.below {B : Nat} {w w' : World} {p : Pc} {s : Ps} (h : PvR B w p s) (hb : Below B w w') : PvR B w' p s := ⟨h.1, h.2.below hb⟩
theorem PvR.up {B B' : Nat} {w : World} {p : Pc} {s : Ps} (h : PvR B w p s) (hB : B ≤ B') : PvR B' w p s := ⟨h.1, h.2.more hB⟩

theorem piece_info : (Try.prog.info? 31).map (fun i => (i.zero, i.size, i.bytes)) = some (some (.agg #[.int .i64 0, .int .i64 0, .int .i64 0, .slice none 0 0]), 4, 48) := by kernel_rfl

theorem below_ps {l x y : Int} {ka : Option Addr} {kn kc : Nat} {ty : TypeId} (w : World) : Below w.heap.size w (w.alloc (.cells #[.int .i64 l, .int .i64 x, .int .i64 y, .slice ka kn kc] ty)) := (Below.refl _ _).alloc (Nat.le_refl _) _
theorem Own.setCell_far {α : Type} {E : Enc α} {e : TypeId} {base : Nat} {w : World} {v : Value} {L : List α} {p : Addr} (h : Own E e base w v L) (hp : p.block < base) (u : Value) : Own E e base (w.setCell p u) v L := ownsRow_setCell_below h hp u

set_option maxHeartbeats 1600000 in
theorem toPiece_c (p : Pc) (s : Ps) (w : World) (h : PvR w.heap.size w p s) (hn : p.f.length ≤ 4194304) : Calls Try.prog 16 #[.agg #[.int .i64 s.l, .int .i64 s.w, .int .i64 s.h, .slice s.ka s.kn s.kc]] w fun e w' => ∃ s' : Ps, e = .returned (.agg #[.int .i64 s'.l, .int .i64 s'.w, .int .i64 s'.h, .slice s'.ka s'.kn s'.kc]) ∧ s'.same p ∧ Own boxE 33 w.heap.size w' s'.kv p.f ∧ Below w.heap.size w w' := by
  have HF := hid (fun w1 (hb : Below w.heap.size w w1) => h.2.go hb)
  have HS := hid h.1
  clear h
  go_enter Try.func16, Try.ntmps16
  go_wp2_with fail
  have B3 := hid ((((Below.refl _ _).alloc (Nat.le_refl _) (.cells #[.int .i64 s.l, .int .i64 s.w, .int .i64 s.h, .slice s.ka s.kn s.kc] 24)).alloc (by simp) (.cells #[.int .i64 0, .int .i64 0, .int .i64 0, .slice none 0 0] 31)).alloc (by simp; omega) (.cells #[.int .i64 s.l, .int .i64 s.w, .int .i64 s.h, .slice none 0 0] 31) : Below w.heap.size w _)
  refine (toBoxS_c _ p.f _ (HF.out _ B3.out) hn).mono ?_
  rintro e w2 ⟨v', rfl, ho, hb⟩
  obtain ⟨A', c', rfl, hc1, hm⟩ := ho.rowB.form
  have HO := hid ho
  have HB := hid (B3.out.trans (hb.mono (by simp; omega)))
  obtain ⟨hc, hf, hsz⟩ := bcell hb
  have hz : w.heap.size + 2 < w2.heap.size := by have := hsz; simp at this; omega
  clear ho hb hsz hm hc1
  go_wp2
  refine bodyPost_ret (v := .agg #[.int .i64 s.l, .int .i64 s.w, .int .i64 s.h, .slice A' p.f.length c']) (by simp [results, Try.results16, go_sem, hc, hz]) rfl ⟨⟨s.l, s.w, s.h, A', p.f.length, c'⟩, rfl, HS.out, ?_, ?_⟩
  · have H1 := ((((HO.out.setCell_far (p := ⟨w.heap.size + 1 + 1, 3, none⟩) (by simp) (.slice A' p.f.length c')).setCell_far (p := ⟨w.heap.size + 1, 0, none⟩) (by simp) (.int .i64 s.l)).setCell_far (p := ⟨w.heap.size + 1, 1, none⟩) (by simp) (.int .i64 s.w)).setCell_far (p := ⟨w.heap.size + 1, 2, none⟩) (by simp) (.int .i64 s.h)).setCell_far (p := ⟨w.heap.size + 1, 3, none⟩) (by simp) (.slice A' p.f.length c')
    exact H1.base_le (by simp; omega)
  · exact ((((HB.out.setCell (by simp; omega) _).setCell (by simp) _).setCell (by simp) _).setCell (by simp) _).setCell (by simp) _

set_option maxHeartbeats 1600000 in
theorem szPiece_t (p : Pc) (s : Ps) (l : Int) (w : World) (h : PvR w.heap.size w p s) (h0 : 0 ≤ l) (hl : l ≤ 4194304) (hn : (p.f.length : Int) ≤ l) : Calls Try.prog 14 #[.agg #[.int .i64 s.l, .int .i64 s.w, .int .i64 s.h, .slice s.ka s.kn s.kc], .int .i64 l] w fun e w' => e = .returned (.int .i64 (l - p.f.length)) ∧ Below w.heap.size w w' := by
  have HB0 := hid (below_ps (l := s.l) (x := s.w) (y := s.h) (ka := s.ka) (kn := s.kn) (kc := s.kc) (ty := 24) w)
  have HF := hid (h.2.go HB0.out)
  clear h
  go_enter Try.func14, Try.ntmps14
  go_wp2_with fail
  refine (szBoxS_t _ p.f l _ HF.out h0 hl hn).mono ?_
  rintro e w2 ⟨rfl, hd⟩
  have HB2 := hid (HB0.out.trans (hd.below _))
  clear hd
  go_wp2
  go_ret
  exact ⟨rfl, HB2.out⟩

set_option maxHeartbeats 1600000 in
theorem szPiece_f (p : Pc) (s : Ps) (l : Int) (w : World) (h : PvR w.heap.size w p s) (h0 : 0 ≤ l) (hl : l ≤ 4194304) (hn : l < (p.f.length : Int)) : Calls Try.prog 14 #[.agg #[.int .i64 s.l, .int .i64 s.w, .int .i64 s.h, .slice s.ka s.kn s.kc], .int .i64 l] w fun e w' => e = .returned (.int .i64 (-1)) ∧ Below w.heap.size w w' := by
  have HB0 := hid (below_ps (l := s.l) (x := s.w) (y := s.h) (ka := s.ka) (kn := s.kn) (kc := s.kc) (ty := 24) w)
  have HF := hid (h.2.go HB0.out)
  clear h
  go_enter Try.func14, Try.ntmps14
  go_wp2_with fail
  refine (szBoxS_f _ p.f l _ HF.out h0 hl hn).mono ?_
  rintro e w2 ⟨rfl, hd⟩
  have HB2 := hid (HB0.out.trans (hd.below _))
  clear hd
  go_wp2
  go_ret
  exact ⟨rfl, HB2.out⟩

theorem Ps.same_eq {s1 s2 : Ps} {p : Pc} (h1 : s1.same p) (h2 : s2.same p) : (s1.l != s2.l) = false ∧ (s1.w != s2.w) = false ∧ (s1.h != s2.h) = false := by
  obtain ⟨a1, a2, a3⟩ := h1
  obtain ⟨b1, b2, b3⟩ := h2
  rw [a1, a2, a3, b1, b2, b3]
  simp

set_option maxHeartbeats 1600000 in
theorem eqPiece_c (p : Pc) (s1 s2 : Ps) (w : World) (h1 : PvR w.heap.size w p s1) (h2 : PvR w.heap.size w p s2) : Calls Try.prog 19 #[.agg #[.int .i64 s1.l, .int .i64 s1.w, .int .i64 s1.h, .slice s1.ka s1.kn s1.kc], .agg #[.int .i64 s2.l, .int .i64 s2.w, .int .i64 s2.h, .slice s2.ka s2.kn s2.kc]] w fun e w' => e = .returned (.bool true) ∧ Below w.heap.size w w' := by
  have HB0 := hid ((below_ps (l := s1.l) (x := s1.w) (y := s1.h) (ka := s1.ka) (kn := s1.kn) (kc := s1.kc) (ty := 31) w).alloc (by simp) (.cells #[.int .i64 s2.l, .int .i64 s2.w, .int .i64 s2.h, .slice s2.ka s2.kn s2.kc] 31))
  have H1 := hid (h1.2.go HB0.out)
  have H2 := hid (h2.2.go HB0.out)
  obtain ⟨g1, g2, g3⟩ := Ps.same_eq h1.1 h2.1
  clear h1 h2
  go_enter Try.func19, Try.ntmps19
  go_wp2_with fail
  refine (eqBoxS_c _ _ p.f p.f _ H1.out H2.out).mono ?_
  rintro e w2 ⟨rfl, hb⟩
  simp only [decide_true]
  have HB2 := hid (HB0.out.trans (hb.mono HB0.out.size))
  clear hb
  go_wp2
  go_ret
  exact ⟨rfl, HB2.out⟩

set_option maxHeartbeats 1600000 in
theorem markPiece_c (p : Pc) (s : Ps) (base : Nat) (k : Int) (w : World) (h : Own boxE 33 base w s.kv p.f) (hn : p.f.length ≤ 4194304) (hk0 : 0 ≤ k) (hk1 : k ≤ 1099511627776) : Calls Try.prog 32 #[.agg #[.int .i64 s.l, .int .i64 s.w, .int .i64 s.h, .slice s.ka s.kn s.kc], .int .i64 k] w fun e w' => e = .returned (.int .i64 (k + 4 * p.f.length)) ∧ Own boxE 33 base w' s.kv (marksBox k p.f.length) ∧ w.grownBy w' s.kv.ownBlock := by
  have HO := hid (h.alloc (.cells #[.int .i64 s.l, .int .i64 s.w, .int .i64 s.h, .slice s.ka s.kn s.kc] 31))
  have HG := hid (World.grownBy_alloc w (.cells #[.int .i64 s.l, .int .i64 s.w, .int .i64 s.h, .slice s.ka s.kn s.kc] 31) s.kv.ownBlock)
  clear h
  go_enter Try.func32, Try.ntmps32
  go_wp2_with fail
  refine (markBoxS_c _ p.f base k _ HO.out hn hk0 hk1).mono ?_
  rintro e w2 ⟨rfl, ho, hg⟩
  have HO2 := hid ho
  have HG2 := hid (grown_trans HG.out hg)
  clear ho hg
  go_wp2
  go_ret
  exact ⟨rfl, HO2.out, HG2.out⟩

set_option maxHeartbeats 1600000 in
theorem heldPiece_c (s : Ps) (k : Int) (n : Nat) (w : World) (h : Row boxE w s.kv (marksBox k n)) (hn : n ≤ 4194304) (hk0 : 0 ≤ k) (hk1 : k ≤ 1099511627776) : Calls Try.prog 33 #[.agg #[.int .i64 s.l, .int .i64 s.w, .int .i64 s.h, .slice s.ka s.kn s.kc], .int .i64 k] w fun e w' => e = .returned (.int .i64 (k + 4 * n)) ∧ Below w.heap.size w w' := by
  have HB0 := hid (below_ps (l := s.l) (x := s.w) (y := s.h) (ka := s.ka) (kn := s.kn) (kc := s.kc) (ty := 31) w)
  have HF := hid (h.go HB0.out)
  clear h
  go_enter Try.func33, Try.ntmps33
  go_wp2_with fail
  refine (heldBoxS_c _ k n _ HF.out hn hk0 hk1).mono ?_
  rintro e w2 ⟨rfl, hd⟩
  have HB2 := hid (HB0.out.trans (hd.below _))
  clear hd
  go_wp2
  go_ret
  exact ⟨rfl, HB2.out⟩

end Go.Proofs.Ytpicbkakghojnaa
