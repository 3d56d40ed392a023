/-
  Contract: a plan is grown by the reference's generator (written by a program of mine).
-/
import Derived.Test.YtafcohmneeabbaaGrowP
import Derived.Test.YtafcohmneeabbaaGrow
import Derived.Test.YtafcohmneeabbaaCat
import Derived.StillTailTactics
import Derived.Deep.RegionHeld3
import Derived.Deep.DeepCutAuto
import Derived.Deep.RegionLaw
namespace Go.Proofs.Ytafcohmneeabbaa
set_option linter.unusedSimpArgs false
set_option linter.unusedVariables false
open Go.RowKit

def gcst : Nat → Int
  | 0 => 8
  | d + 1 => 2 * gcst d + 8
theorem gcst_pos (d : Nat) : 8 ≤ gcst d := by
  induction d with
  | zero => simp [gcst]
  | succ d ih => simp only [gcst]; omega
def okG (w w' : World) (pv : Value) (q : Nat) : Prop := w.heap.size ≤ q ∧ q < w'.heap.size ∧ pv.ownBlock ≠ some q
def kpS (a kb : Nat) (pv : Value) (q : Nat) : Prop := q = a ∨ q = kb ∨ pv.ownBlock = some q
/-- The parts of a tree of cuts: where it is cut. -/
def okT : Tr → Prop
  | .leaf _ _ _ => True
  | .cut _ a l r => (1 ≤ a ∧ a ≤ 1000) ∧ okT l ∧ okT r
def GP (n : Nat) (s : Sh) (p : Pl) : Prop := s.same p ∧ ∃ t : Tr, wf p = some t ∧ okT t ∧ cuts t + 1 ≤ 2 ^ (n - 1)
theorem gp_leaf {n : Nat} {o p : Int} {t : Bool} (h : o = 1 ∨ (o = 0 ∧ p = 0 ∧ t = false)) : GP (n + 1) ⟨o, 0, p, t, none, 0, 0⟩ (.mk o 0 p t []) :=
  ⟨⟨rfl, rfl, rfl, rfl⟩, .leaf o p t, wf_leaf (by unfold cutB; rw [decide_eq_false_iff_not]; omega) p t h, True.intro, by have := Nat.one_le_two_pow (n := n); simp only [cuts, Nat.add_sub_cancel]; omega⟩
theorem gp_two {n : Nat} {o a : Int} {ka : Option Addr} {kn kc : Nat} {s1 s2 : Sh} {p1 p2 : Pl} (ho : o = 2 ∨ o = 3) (ha : 1 ≤ a ∧ a ≤ 1000) (hn : 1 ≤ n) (h1 : GP n s1 p1) (h2 : GP n s2 p2) : GP (n + 1) ⟨o, a, 0, false, ka, kn, kc⟩ (.mk o a 0 false [p1, p2]) := by
  obtain ⟨-, t1, w1, k1, c1⟩ := h1
  obtain ⟨-, t2, w2, k2, c2⟩ := h2
  refine ⟨⟨rfl, rfl, rfl, rfl⟩, .cut o a t1 t2, ?_, ⟨ha, k1, k2⟩, ?_⟩
  · rw [wf_cut2 (by unfold cutB; rw [decide_eq_true_iff]; exact ho), w1, w2]
  · obtain ⟨m, rfl⟩ : ∃ m, n = m + 1 := ⟨n - 1, by omega⟩
    simp only [Nat.add_sub_cancel] at c1 c2 ⊢
    simp only [cuts]
    rw [Nat.pow_succ]
    omega
def GrowOut (B a kb base : Nat) (W H : Int) (pv : Value) (m : Int) (n : Nat) (w : World) (e : Ending) (w' : World) : Prop :=
  ∃ (s : Sh) (p : Pl) (pv' : Value) (F' : List Pn), e = .returned (.agg #[.int .i64 s.o, .int .i64 s.a, .int .i64 s.p, .bool s.t, .slice s.ka s.kn s.kc]) ∧ GP n s p ∧ FQ (okG w w' pv') w' n s.kv p.ks ∧ Rd B w' a m ∧ Blk w' kb #[.int .i64 W, .int .i64 H, pv'] 47 ∧ Own paneE 83 base w' pv' F' ∧ F'.length ≤ 24 ∧
    (pv'.ownBlock = pv.ownBlock ∨ ∀ q, pv'.ownBlock = some q → w.heap.size ≤ q) ∧ Kp (kpS a kb pv) w w'
def GrowS (d : Nat) : Prop := ∀ (B a kb base : Nat) (x y m W H : Int) (pv : Value) (F : List Pn) (w : World), Rd B w a m → m + gcst d ≤ 900000 → (1 ≤ x ∧ x ≤ 1000) → (1 ≤ y ∧ y ≤ 1000) →
  Blk w kb #[.int .i64 W, .int .i64 H, pv] 47 → Own paneE 83 base w pv F → F.length ≤ 24 → (a < base ∧ kb < base ∧ base ≤ w.heap.size ∧ B ≤ kb ∧ kb ≠ a) →
  Calls Try.prog 62 #[.pointer (some ⟨a, 0, none⟩), .pointer (some ⟨kb, 0, none⟩), .int .i64 x, .int .i64 y, .int .i64 d] w (GrowOut B a kb base W H pv (m + gcst d) (d + 1) w)

/-- Where the walk stands. -/
structure GSt (B a kb base : Nat) (W H : Int) (pv : Value) (F : List Pn) (m : Int) (w w1 : World) : Prop where
  rd : Rd B w1 a m
  kw : Blk w1 kb #[.int .i64 W, .int .i64 H, pv] 47
  ow : Own paneE 83 base w1 pv F
  rs : Blk w1 w.heap.size #[.int .i64 0, .int .i64 0, .int .i64 0, .bool false, .slice none 0 0] 30
  kp : Kp (kpS a kb pv) w w1
  nq : pv.ownBlock ≠ some w.heap.size
theorem GSt.go {B a kb base : Nat} {W H : Int} {pv : Value} {F : List Pn} {m : Int} {w w1 w2 : World} (h : GSt B a kb base W H pv F m w w1) (hb : Below w1.heap.size w1 w2) : GSt B a kb base W H pv F m w w2 :=
  ⟨h.rd.below hb, h.kw.go hb, h.ow.below hb, h.rs.go hb, h.kp.below hb, h.nq⟩
theorem GSt.pick {B a kb base : Nat} {W H : Int} {pv : Value} {F : List Pn} {m m' : Int} {w w1 w2 : World} (h : GSt B a kb base W H pv F m w w1) (hR : Rd B w2 a m') (hg : w1.grownBy w2 (some a)) (hc : a < base ∧ kb < base ∧ base ≤ w.heap.size ∧ B ≤ kb ∧ kb ≠ a) : GSt B a kb base W H pv F m' w w2 :=
  ⟨hR, h.kw.grown hg (fun e => by injection e with e; omega), h.ow.kept hg (by
    cases hv : pv.ownBlock with
    | none => exact .inl rfl
    | some k => exact .inr (fun e => by injection e with e; have := (h.ow.lt k hv).1; omega)), h.rs.grown hg (fun e => by injection e with e; omega), h.kp.grown hg (fun k hk => by injection hk with hk; exact .inl (.inl hk.symm)), h.nq⟩

theorem GSt.up {B a kb base : Nat} {W H : Int} {pv : Value} {F : List Pn} {m m' : Int} {w w1 : World} (h : GSt B a kb base W H pv F m w w1) (hm : m ≤ m') : GSt B a kb base W H pv F m' w w1 := ⟨h.rd.up hm, h.kw, h.ow, h.rs, h.kp, h.nq⟩

theorem GSt.setO {B a kb base g : Nat} {W H : Int} {pv : Value} {F : List Pn} {m : Int} {w w1 : World} (h : GSt B a kb base W H pv F m w w1) (hg : w.heap.size < g) (hp : pv.ownBlock ≠ some g) {i : Nat} (hc : a < base ∧ kb < base ∧ base ≤ w.heap.size ∧ B ≤ kb ∧ kb ≠ a) (u : Value) : GSt B a kb base W H pv F m w (w1.setCell ⟨g, i, none⟩ u) := by
  have hgr : w1.grownBy (w1.setCell ⟨g, i, none⟩ u) (some g) := ⟨rfl, rfl, rfl, by simp, fun k _ hne => heap_setCell_other w1 ⟨g, i, none⟩ k _ (fun e => hne (by rw [e]))⟩
  have hlo := h.rd.lo
  exact ⟨h.rd.grown hgr (fun k hk => by injection hk with hk; omega), h.kw.grown hgr (fun e => by injection e with e; omega), h.ow.kept hgr (.inr hp), h.rs.grown hgr (fun e => by injection e with e; omega), h.kp.grown hgr (fun k hk => by injection hk with hk; omega), h.nq⟩

theorem Kp.gr {g : Nat} {w w' : World} (h : Kp (fun q => q = g) w w') : w.grownBy w' (some g) := ⟨h.os, h.tape, h.output, h.size, fun k hk hne => h.block k hk (fun e => hne (by rw [e]))⟩
theorem kpS_out {a kb base : Nat} {pv : Value} {w : World} {F : List Pn} (how : Own paneE 83 base w pv F) {q : Nat} (h1 : q ≠ a) (h2 : q ≠ kb) (h3 : pv.ownBlock ≠ some q) : ¬ kpS a kb pv q := fun h => by
  rcases h with h | h | h
  · exact h1 h
  · exact h2 h
  · exact h3 h

theorem grow_leaf {B a kb base n : Nat} {W H : Int} {pv : Value} {F : List Pn} {m m' : Int} {w w1 wf : World} (hc : a < base ∧ kb < base ∧ base ≤ w.heap.size ∧ B ≤ kb ∧ kb ≠ a) (hS : GSt B a kb base W H pv F m w w1) (hF : F.length ≤ 24) (hf : Kp (fun q => q = w.heap.size) w1 wf) (hm : m ≤ m') (o p : Int) (t : Bool) (hop : o = 1 ∨ (o = 0 ∧ p = 0 ∧ t = false)) :
    GrowOut B a kb base W H pv m' (n + 1) w (.returned (.agg #[.int .i64 o, .int .i64 0, .int .i64 p, .bool t, .slice none 0 0])) wf := by
  have hla := hS.rd.lt
  have hlo := hS.rd.lo
  refine ⟨⟨o, 0, p, t, none, 0, 0⟩, .mk o 0 p t [], pv, F, rfl, gp_leaf hop, FQ.nil _ _ _, (hS.rd.grown hf.gr (fun k hk => by injection hk with hk; omega)).up hm, hS.kw.grown hf.gr (fun e => by injection e with e; omega), hS.ow.kept hf.gr (.inr hS.nq), hF, .inl rfl, hS.kp.grown hf.gr (fun k hk => by injection hk with hk; omega)⟩

theorem grow_new {B a kb base n : Nat} {W H : Int} {pv v5 : Value} {F M : List Pn} {m m' : Int} {w wa w5 wf : World} (hc : a < base ∧ kb < base ∧ base ≤ w.heap.size ∧ B ≤ kb ∧ kb ≠ a) (hZ : GSt B a kb base W H pv F m w wa) (ho : Own paneE 83 base w5 v5 M) (hg : wa.grownBy w5 pv.ownBlock) (hat : v5.ownBlock = pv.ownBlock ∨ v5.ownBlock = some wa.heap.size) (hK : Blk w5 kb #[.int .i64 W, .int .i64 H, pv] 47) (hM : M.length ≤ 24)
    (hf : Kp (fun q => q = w.heap.size) (w5.setCell ⟨kb, 2, none⟩ v5) wf) (hm : m ≤ m') (o p : Int) (t : Bool) (hop : o = 1 ∨ (o = 0 ∧ p = 0 ∧ t = false)) :
    GrowOut B a kb base W H pv m' (n + 1) w (.returned (.agg #[.int .i64 o, .int .i64 0, .int .i64 p, .bool t, .slice none 0 0])) wf := by
  have hla := hZ.rd.lt
  have hlo := hZ.rd.lo
  have hpl := hZ.ow.lt
  have hvl := ho.lt
  have hq := hZ.rs.lt
  have hs := hZ.kp.size
  have hg6 : w5.grownBy (w5.setCell ⟨kb, 2, none⟩ v5) (some kb) := ⟨rfl, rfl, rfl, by simp, fun k _ hne => heap_setCell_other w5 ⟨kb, 2, none⟩ k _ (fun e => hne (by rw [e]))⟩
  have hnq : v5.ownBlock ≠ some w.heap.size := fun e => by
    rcases hat with h | h
    · exact hZ.nq (by rw [← h]; exact e)
    · rw [h] at e; injection e with e; omega
  refine ⟨⟨o, 0, p, t, none, 0, 0⟩, .mk o 0 p t [], v5, M, rfl, gp_leaf hop, FQ.nil _ _ _, (((hZ.rd.grown hg (fun k hk => by have := (hpl k hk).1; omega)).grown hg6 (fun k hk => by injection hk with hk; omega)).grown hf.gr (fun k hk => by injection hk with hk; omega)).up hm, ?_, (ho.kept hg6 (.inr (fun e => by have := (hvl kb e).1; omega))).kept hf.gr (.inr hnq), hM, ?_, ?_⟩
  · have := hK.set 2 v5
    exact Blk.grown (by simpa using this) hf.gr (fun e => by injection e with e; omega)
  · rcases hat with h | h
    · exact .inl h
    · exact .inr (fun q e => by rw [h] at e; injection e with e; omega)
  · exact ((hZ.kp.grown hg (fun k hk => .inl (.inr (.inr hk)))).set (.inl (.inr (.inl rfl))) 2 v5).grown hf.gr (fun k hk => by injection hk with hk; omega)

theorem grow_two {B a kb base n : Nat} {W H : Int} {pv pv1 pv2 : Value} {F F1 F2 : List Pn} {m2 m3 m' : Int} {w w2 w3 wx wq wf : World} {s1 s2 : Sh} {p1 p2 : Pl} {t : TypeId} (hc : a < base ∧ kb < base ∧ base ≤ w.heap.size ∧ B ≤ kb ∧ kb ≠ a) (h2 : GSt B a kb base W H pv F m2 w w2)
    (a1 : GP n s1 p1) (a2 : FQ (okG w2 w3 pv1) w3 n s1.kv p1.ks) (a4 : Own paneE 83 base w3 pv1 F1) (a5 : pv1.ownBlock = pv.ownBlock ∨ ∀ q, pv1.ownBlock = some q → w2.heap.size ≤ q) (a6 : Kp (kpS a kb pv) w2 w3)
    (hb : Below w3.heap.size w3 wx)
    (b1 : GP n s2 p2) (b2 : FQ (okG wx wq pv2) wq n s2.kv p2.ks) (b3 : Rd B wq a m3) (b4 : Blk wq kb #[.int .i64 W, .int .i64 H, pv2] 47) (b5 : Own paneE 83 base wq pv2 F2) (b6 : F2.length ≤ 24) (b7 : pv2.ownBlock = pv1.ownBlock ∨ ∀ q, pv2.ownBlock = some q → wx.heap.size ≤ q) (b8 : Kp (kpS a kb pv1) wx wq)
    (hf : Kp (fun q => q = w.heap.size) wq wf) (hsz : wq.heap.size < wf.heap.size) (hg : Blk wf wq.heap.size #[.int .i64 s1.o, .int .i64 s1.a, .int .i64 s1.p, .bool s1.t, .slice s1.ka s1.kn s1.kc, .int .i64 s2.o, .int .i64 s2.a, .int .i64 s2.p, .bool s2.t, .slice s2.ka s2.kn s2.kc] t)
    (hm : m3 ≤ m') (o at' : Int) (ho : o = 2 ∨ o = 3) (hat : 1 ≤ at' ∧ at' ≤ 1000) :
    GrowOut B a kb base W H pv m' (n + 1) w (.returned (.agg #[.int .i64 o, .int .i64 at', .int .i64 0, .bool false, .slice (some ⟨wq.heap.size, 0, none⟩) 2 2])) wf := by
  have hlo := b3.lo
  have z1 := h2.kp.size
  have z0 := h2.rs.lt
  have z2 := a6.size
  have z3 := hb.size
  have z4 := b8.size
  have hla := b3.lt
  have hla2 := h2.rd.lt
  have hp1 := a4.lt
  have hp2 := b5.lt
  obtain ⟨c1, c2, c3, c4, c5⟩ := hc
  have b9 : pv2.ownBlock ≠ some w.heap.size := fun e => by
    rcases b7 with h | h
    · rcases a5 with h' | h'
      · exact h2.nq (by rw [← h', ← h]; exact e)
      · have := h' _ (by rw [← h]; exact e); omega
    · have := h _ e; omega
  refine ⟨⟨o, at', 0, false, some ⟨wq.heap.size, 0, none⟩, 2, 2⟩, .mk o at' 0 false [p1, p2], pv2, F2, rfl, gp_two ho hat (by cases n with | zero => exact a2.elim | succ n => omega) a1 b1, ?_, (b3.grown hf.gr (fun k hk => by injection hk with hk; omega)).up hm, b4.grown hf.gr (fun e => by injection e with e; omega), b5.kept hf.gr (by
      cases hv : pv2.ownBlock with
      | none => exact .inl rfl
      | some k => exact .inr (fun e => b9 (by rw [hv, e]))), b6, ?_, ?_⟩
  · refine FQ.two hg ⟨by omega, hsz, fun e => by have := (hp2 _ e).2; omega⟩ a1.1 b1.1 (a2.heap (fun q hq => ?_) (fun q hq => ?_)) (b2.heap (fun q hq => ?_) (fun q hq => ?_))
    · obtain ⟨q1, q2, q3⟩ := hq
      rw [hf.block q (by omega) (by omega), b8.block q (by omega) (kpS_out a4 (by omega) (by omega) q3), hb.block q (by omega)]
    · obtain ⟨q1, q2, q3⟩ := hq
      refine ⟨by omega, by omega, fun e => ?_⟩
      rcases b7 with h | h
      · exact q3 (by rw [← h]; exact e)
      · have := h q e; omega
    · obtain ⟨q1, q2, q3⟩ := hq
      exact hf.block q (by omega) (by omega)
    · obtain ⟨q1, q2, q3⟩ := hq
      exact ⟨by omega, by omega, q3⟩
  · rcases b7 with h | h
    · rcases a5 with h' | h'
      · exact .inl (by rw [h, h'])
      · exact .inr (fun q e => by have := h' q (by rw [← h]; exact e); omega)
    · exact .inr (fun q e => by have := h q e; omega)
  · refine (((h2.kp.trans a6 (fun q hq e => e)).below hb).trans b8 (fun q hq e => ?_)).grown hf.gr (fun k hk => by injection hk with hk; omega)
    rcases e with e | e | e
    · exact .inl e
    · exact .inr (.inl e)
    · rcases a5 with h' | h'
      · exact .inr (.inr (by rw [← h']; exact e))
      · have := h' q e; omega

def bA (d : Nat) (x y c : Int) : Bool := decide (0 < (d : Int) ∧ 1 < x ∧ (c < 3 ∨ (c < 4 ∧ y = 1)))
def bB (d : Nat) (y c : Int) : Bool := decide (0 < (d : Int) ∧ 1 < y ∧ c < 6)

set_option maxHeartbeats 12800000 in
set_option maxRecDepth 100000 in
theorem grow_c : ∀ d : Nat, d ≤ 100 → GrowS d := by
  intro d
  induction d using Nat.strongRecOn with
  | _ d ih =>
  intro hd100 B a kb base x y m W H pv F w hR hm hx hy hkw how hF hc
  have HC := hid hc
  have hla := hR.lt
  obtain ⟨i0, hi0, hz0, hz1, hz2⟩ := info_parts pane_info
  have hst : GSt B a kb base W H pv F m w (w.alloc (.cells #[.int .i64 0, .int .i64 0, .int .i64 0, .bool false, .slice none 0 0] 30)) :=
    ⟨hR.alloc _, hkw.alloc _, how.alloc _, Blk.new _ _ _, (Kp.refl _ _).alloc _, fun e => by have := (how.lt _ e).2; omega⟩
  have HS0 := hid hst
  have HIH0 := hid ih
  obtain ⟨h1, h2, h3, h4, h5⟩ := hc
  have hcp := gcst_pos d
  clear hR hkw how hst ih
  go_enter Try.func62, Try.ntmps62
  go_wp2_with fail
  refine (pick_c B a 8 _ _ HS0.out.rd (by omega) (by omega) (by omega)).mono ?_
  rintro e w1 ⟨c, rfl, hp, hR, hg⟩
  have hc8 : 0 ≤ c ∧ c ≤ 7 := by obtain ⟨p1, p2⟩ := hp; omega
  have HS1 := hid (HS0.out.pick hR hg HC.out)
  have hs1 := HS1.out.kp.size
  clear hp hR hg
  go_upto_region 2 with (fail)
  go_cut [40] (fun v wx => v = .bool (bA d x y c) ∧ wx = w1)
  case first =>
    have HBA : Hid (∀ b : Bool, (b = true ↔ (0 < (d : Int) ∧ 1 < x ∧ (c < 3 ∨ (c < 4 ∧ y = 1)))) → b = bA d x y c) := fun b h => by rw [Bool.eq_iff_iff, h, bA, decide_eq_true_iff]
    go_wp2
    all_goals
      go_meet
      case rel => exact ⟨by congr 1; exact HBA.out _ (by simp; omega), rfl⟩
  case rest =>
    obtain ⟨rfl, rfl⟩ := hcut
    cases hA : bA d x y c with
    | true =>
      have hAA : 0 < (d : Int) ∧ 1 < x ∧ (c < 3 ∨ (c < 4 ∧ y = 1)) := by rw [bA, decide_eq_true_iff] at hA; exact hA
      obtain ⟨hd0, hx1, -⟩ := hAA
      clear hA
      obtain ⟨d', hd'⟩ : ∃ q : Nat, d = q + 1 := ⟨d - 1, by omega⟩
      have hdd : (d : Int) - 1 = (d' : Int) := by omega
      have hcs : gcst d = 2 * gcst d' + 8 := by rw [hd', gcst]
      have HIH := hid (HIH0.out d' (by omega) (by omega))
      have hd100' : d' ≤ 100 := by omega
      have HDD := hid hd'
      have hcp' := gcst_pos d'
      clear hd' HIH0
      go_wp2_with fail
      refine (pick_c B a (x - 1) _ _ HS1.out.rd (by omega) (by omega) (by omega)).mono ?_
      rintro e w2 ⟨z, rfl, hp, hR, hg⟩
      have hz : 0 ≤ z ∧ 1 + z ≤ x - 1 := by obtain ⟨p1, p2⟩ := hp; omega
      have HS2 := hid (HS1.out.pick hR hg HC.out)
      have hs2 := HS2.out.kp.size
      have l_Q2 := HS2.out.rs.lt
      clear hp hR hg
      go_wp2_with fail
      refine (HIH.out B a kb base (1 + z) (y) _ W H pv F _ HS2.out.rd (by omega) (by omega) (by omega) HS2.out.kw HS2.out.ow hF ⟨by omega, by omega, by omega, by omega, HC.out.2.2.2.2⟩).mono ?_
      rintro e w3 ⟨s1, p1, pv1, F1, rfl, a1, a2, a3, a4, a5, a6, a7, a8⟩
      have HA := hid (And.intro a1 (And.intro a2 (And.intro a5 (And.intro a7 a8))))
      have hz3 := a8.size
      have HG0 := hid ((Blk.new w3 #[.int .i64 s1.o, .int .i64 s1.a, .int .i64 s1.p, .bool s1.t, .slice s1.ka s1.kn s1.kc] 30).draw1)
      have HBx := hid (((Below.refl w3.heap.size w3).alloc (Nat.le_refl _) (.cells #[.int .i64 s1.o, .int .i64 s1.a, .int .i64 s1.p, .bool s1.t, .slice s1.ka s1.kn s1.kc] 30)).drew)
      have HRx := hid (a3.below HBx.out)
      have HKx := hid (a4.go HBx.out)
      have HOx := hid (a5.below HBx.out)
      have HF1 := hid a6
      have HQx := hid ((a8.blk HS2.out.rs (kpS_out HS2.out.ow (by omega) (by omega) HS2.out.nq)).go HBx.out)
      have hzx : w3.heap.size + 1 = ((w3.alloc (.cells #[.int .i64 s1.o, .int .i64 s1.a, .int .i64 s1.p, .bool s1.t, .slice s1.ka s1.kn s1.kc] 30)).drew).heap.size := by simp
      have HZX := hid hzx
      have HNE : Hid (w3.heap.size ≠ w.heap.size) := by rw [Hid]; omega
      have HPN : Hid (pv1.ownBlock ≠ some w3.heap.size) := fun e => by have := (a5.lt _ e).2; omega
      have hw1 : IntKind.i64.wrap (x - (1 + z)) = x - (1 + z) := IntWalk.i64_in _ (by omega)
      have hw2 : IntKind.i64.wrap (d' : Int) = (d' : Int) := IntWalk.i64_in _ (by omega)
      clear a1 a2 a3 a4 a5 a6 a7 a8 hzx
      go_wp2
      go_region_held3 (fun w' => ∀ o : Nat, w'.cell? ⟨w3.heap.size, o, none⟩ = (#[.int .i64 s1.o, .int .i64 s1.a, .int .i64 s1.p, .bool s1.t, .slice s1.ka s1.kn s1.kc] : Array Value)[o]?) (first | with_reducible exact fun o => HG0.out.cell o | with_reducible exact fun o => ZG.out.cell o | with_reducible exact fun o => (ZG.out.alloc _).cell o | with_reducible exact fun o => (ZG.out.setO (p := ⟨w.heap.size, 0, none⟩) HNE.out _).cell o | with_reducible exact fun o => ((ZG.out.setO (p := ⟨w.heap.size, 0, none⟩) HNE.out _).setO (p := ⟨w.heap.size, 1, none⟩) HNE.out _).cell o | with_reducible exact fun o => (((ZG.out.setO (p := ⟨w.heap.size, 0, none⟩) HNE.out _).setO (p := ⟨w.heap.size, 1, none⟩) HNE.out _).setO (p := ⟨w.heap.size, 2, none⟩) HNE.out _).cell o | with_reducible exact fun o => ((((ZG.out.setO (p := ⟨w.heap.size, 0, none⟩) HNE.out _).setO (p := ⟨w.heap.size, 1, none⟩) HNE.out _).setO (p := ⟨w.heap.size, 2, none⟩) HNE.out _).setO (p := ⟨w.heap.size, 3, none⟩) HNE.out _).cell o | with_reducible exact fun o => (((((ZG.out.setO (p := ⟨w.heap.size, 0, none⟩) HNE.out _).setO (p := ⟨w.heap.size, 1, none⟩) HNE.out _).setO (p := ⟨w.heap.size, 2, none⟩) HNE.out _).setO (p := ⟨w.heap.size, 3, none⟩) HNE.out _).setO (p := ⟨w.heap.size, 4, none⟩) HNE.out _).cell o | with_reducible exact fun o => ((((((ZG.out.setO (p := ⟨w.heap.size, 0, none⟩) HNE.out _).setO (p := ⟨w.heap.size, 1, none⟩) HNE.out _).setO (p := ⟨w.heap.size, 2, none⟩) HNE.out _).setO (p := ⟨w.heap.size, 3, none⟩) HNE.out _).setO (p := ⟨w.heap.size, 4, none⟩) HNE.out _).alloc _).cell o | exact fun o => ((((((ZG.out.setO (p := ⟨w.heap.size, 0, none⟩) HNE.out _).setO (p := ⟨w.heap.size, 1, none⟩) HNE.out _).setO (p := ⟨w.heap.size, 2, none⟩) HNE.out _).setO (p := ⟨w.heap.size, 3, none⟩) HNE.out _).setO (p := ⟨w.heap.size, 4, none⟩) HNE.out _).alloc _).cell o | fail)
        (first | (go_at_call 62; refine (HIH.out B a kb base (x - (1 + z)) (y) _ W H pv1 F1 _ HRx.out (by omega) (by omega) (by omega) HKx.out HOx.out HF1.out ⟨by omega, by omega, by have := HZX.out; omega, by omega, HC.out.2.2.2.2⟩).mono ?_; rintro e wq ⟨s2, p2, pv2, F2, rfl, b1, b2, b3, b4, b5, b6, b7, b8⟩; have HB := hid (And.intro b1 (And.intro b2 (And.intro b3 (And.intro b4 (And.intro b5 (And.intro b6 (And.intro b7 b8))))))); have ZG := hid (b8.blk HG0.out (kpS_out HOx.out (by omega) (by omega) HPN.out)); have ZQ := hid (b8.blk HQx.out (kpS_out HOx.out (by omega) (by omega) (by rcases HA.out.2.2.2.1 with h | h; rw [h]; exact HS2.out.nq; exact fun e => by have := h _ e; omega))); have c_Q := fun (o : Nat) => ZQ.out.cell o; have f_Q := fun (o : Nat) => ZQ.out.frz o; have l_Q := ZQ.out.lt; clear b1 b2 b3 b4 b5 b6 b7 b8) | fail)
      all_goals
        go_wp2
        have HNK : Hid (wq.heap.size ≠ w.heap.size) := by rw [Hid]; omega
        have c_F := fun (o : Nat) => (show Blk ((((((wq.setCell ⟨w.heap.size, 0, none⟩ (.int .i64 2)).setCell ⟨w.heap.size, 1, none⟩ (.int .i64 (1 + z))).setCell ⟨w.heap.size, 2, none⟩ (.int .i64 0)).setCell ⟨w.heap.size, 3, none⟩ (.bool false)).setCell ⟨w.heap.size, 4, none⟩ (.slice (some ⟨wq.heap.size, 0, none⟩) 2 2)).alloc (.cells #[.int .i64 s1.o, .int .i64 s1.a, .int .i64 s1.p, .bool s1.t, .slice s1.ka s1.kn s1.kc, .int .i64 s2.o, .int .i64 s2.a, .int .i64 s2.p, .bool s2.t, .slice s2.ka s2.kn s2.kc] 30)) w.heap.size #[.int .i64 2, .int .i64 (1 + z), .int .i64 0, .bool false, .slice (some ⟨wq.heap.size, 0, none⟩) 2 2] 30 by have := (((((ZQ.out.set 0 (.int .i64 2)).set 1 (.int .i64 (1 + z))).set 2 (.int .i64 0)).set 3 (.bool false)).set 4 (.slice (some ⟨wq.heap.size, 0, none⟩) 2 2)).alloc (.cells #[.int .i64 s1.o, .int .i64 s1.a, .int .i64 s1.p, .bool s1.t, .slice s1.ka s1.kn s1.kc, .int .i64 s2.o, .int .i64 s2.a, .int .i64 s2.p, .bool s2.t, .slice s2.ka s2.kn s2.kc] 30); simpa using this).cell o
        clear c_Q f_Q
        obtain ⟨a1, a2, a5, a7, a8⟩ := HA.out
        obtain ⟨b1, b2, b3, b4, b5, b6, b7, b8⟩ := HB.out
        rw [HDD.out]
        exact bodyPost_ret (v := .agg #[.int .i64 2, .int .i64 (1 + z), .int .i64 0, .bool false, .slice (some ⟨wq.heap.size, 0, none⟩) 2 2]) (by simp [results, Try.results62, go_sem, c_F]) rfl (grow_two HC.out HS2.out a1 a2 a5 a7 a8 HBx.out b1 b2 b3 b4 b5 b6 b7 b8 (((((((Kp.refl (fun q => q = w.heap.size) wq).set (q := w.heap.size) (.inl rfl) 0 (.int .i64 2)).set (q := w.heap.size) (.inl rfl) 1 (.int .i64 (1 + z))).set (q := w.heap.size) (.inl rfl) 2 (.int .i64 0)).set (q := w.heap.size) (.inl rfl) 3 (.bool false)).set (q := w.heap.size) (.inl rfl) 4 (.slice (some ⟨wq.heap.size, 0, none⟩) 2 2)).alloc (.cells #[.int .i64 s1.o, .int .i64 s1.a, .int .i64 s1.p, .bool s1.t, .slice s1.ka s1.kn s1.kc, .int .i64 s2.o, .int .i64 s2.a, .int .i64 s2.p, .bool s2.t, .slice s2.ka s2.kn s2.kc] 30)) (by simp) (by have := Blk.new (((((wq.setCell ⟨w.heap.size, 0, none⟩ (.int .i64 2)).setCell ⟨w.heap.size, 1, none⟩ (.int .i64 (1 + z))).setCell ⟨w.heap.size, 2, none⟩ (.int .i64 0)).setCell ⟨w.heap.size, 3, none⟩ (.bool false)).setCell ⟨w.heap.size, 4, none⟩ (.slice (some ⟨wq.heap.size, 0, none⟩) 2 2)) #[.int .i64 s1.o, .int .i64 s1.a, .int .i64 s1.p, .bool s1.t, .slice s1.ka s1.kn s1.kc, .int .i64 s2.o, .int .i64 s2.a, .int .i64 s2.p, .bool s2.t, .slice s2.ka s2.kn s2.kc] 30; simpa using this) (by rw [← HDD.out, hcs]; omega) 2 (1 + z) (by omega) (by omega))
    | false =>
      clear hA
      go_upto_region 6 with (fail)
      go_cut [75] (fun v wx => v = .bool (bB d y c) ∧ wx = wc)
      case first =>
        have HBB : Hid (∀ b : Bool, (b = true ↔ (0 < (d : Int) ∧ 1 < y ∧ c < 6)) → b = bB d y c) := fun b h => by rw [Bool.eq_iff_iff, h, bB, decide_eq_true_iff]
        go_wp2
        all_goals
          go_meet
          case rel => exact ⟨by congr 1; exact HBB.out _ (by simp; omega), rfl⟩
      case rest =>
        obtain ⟨rfl, rfl⟩ := hcut
        cases hB : bB d y c with
        | true =>
          have hBB : 0 < (d : Int) ∧ 1 < y ∧ c < 6 := by rw [bB, decide_eq_true_iff] at hB; exact hB
          obtain ⟨hd0, hy1, -⟩ := hBB
          clear hB
          obtain ⟨d', hd'⟩ : ∃ q : Nat, d = q + 1 := ⟨d - 1, by omega⟩
          have hdd : (d : Int) - 1 = (d' : Int) := by omega
          have hcs : gcst d = 2 * gcst d' + 8 := by rw [hd', gcst]
          have HIH := hid (HIH0.out d' (by omega) (by omega))
          have hd100' : d' ≤ 100 := by omega
          have HDD := hid hd'
          have hcp' := gcst_pos d'
          clear hd' HIH0
          go_wp2_with fail
          refine (pick_c B a (y - 1) _ _ HS1.out.rd (by omega) (by omega) (by omega)).mono ?_
          rintro e w2 ⟨z, rfl, hp, hR, hg⟩
          have hz : 0 ≤ z ∧ 1 + z ≤ y - 1 := by obtain ⟨p1, p2⟩ := hp; omega
          have HS2 := hid (HS1.out.pick hR hg HC.out)
          have hs2 := HS2.out.kp.size
          have l_Q2 := HS2.out.rs.lt
          clear hp hR hg
          go_wp2_with fail
          refine (HIH.out B a kb base (x) (1 + z) _ W H pv F _ HS2.out.rd (by omega) (by omega) (by omega) HS2.out.kw HS2.out.ow hF ⟨by omega, by omega, by omega, by omega, HC.out.2.2.2.2⟩).mono ?_
          rintro e w3 ⟨s1, p1, pv1, F1, rfl, a1, a2, a3, a4, a5, a6, a7, a8⟩
          have HA := hid (And.intro a1 (And.intro a2 (And.intro a5 (And.intro a7 a8))))
          have hz3 := a8.size
          have HG0 := hid ((Blk.new w3 #[.int .i64 s1.o, .int .i64 s1.a, .int .i64 s1.p, .bool s1.t, .slice s1.ka s1.kn s1.kc] 30).draw1)
          have HBx := hid (((Below.refl w3.heap.size w3).alloc (Nat.le_refl _) (.cells #[.int .i64 s1.o, .int .i64 s1.a, .int .i64 s1.p, .bool s1.t, .slice s1.ka s1.kn s1.kc] 30)).drew)
          have HRx := hid (a3.below HBx.out)
          have HKx := hid (a4.go HBx.out)
          have HOx := hid (a5.below HBx.out)
          have HF1 := hid a6
          have HQx := hid ((a8.blk HS2.out.rs (kpS_out HS2.out.ow (by omega) (by omega) HS2.out.nq)).go HBx.out)
          have hzx : w3.heap.size + 1 = ((w3.alloc (.cells #[.int .i64 s1.o, .int .i64 s1.a, .int .i64 s1.p, .bool s1.t, .slice s1.ka s1.kn s1.kc] 30)).drew).heap.size := by simp
          have HZX := hid hzx
          have HNE : Hid (w3.heap.size ≠ w.heap.size) := by rw [Hid]; omega
          have HPN : Hid (pv1.ownBlock ≠ some w3.heap.size) := fun e => by have := (a5.lt _ e).2; omega
          have hw1 : IntKind.i64.wrap (y - (1 + z)) = y - (1 + z) := IntWalk.i64_in _ (by omega)
          have hw2 : IntKind.i64.wrap (d' : Int) = (d' : Int) := IntWalk.i64_in _ (by omega)
          clear a1 a2 a3 a4 a5 a6 a7 a8 hzx
          go_wp2
          go_region_held3 (fun w' => ∀ o : Nat, w'.cell? ⟨w3.heap.size, o, none⟩ = (#[.int .i64 s1.o, .int .i64 s1.a, .int .i64 s1.p, .bool s1.t, .slice s1.ka s1.kn s1.kc] : Array Value)[o]?) (first | with_reducible exact fun o => HG0.out.cell o | with_reducible exact fun o => ZG.out.cell o | with_reducible exact fun o => (ZG.out.alloc _).cell o | with_reducible exact fun o => (ZG.out.setO (p := ⟨w.heap.size, 0, none⟩) HNE.out _).cell o | with_reducible exact fun o => ((ZG.out.setO (p := ⟨w.heap.size, 0, none⟩) HNE.out _).setO (p := ⟨w.heap.size, 1, none⟩) HNE.out _).cell o | with_reducible exact fun o => (((ZG.out.setO (p := ⟨w.heap.size, 0, none⟩) HNE.out _).setO (p := ⟨w.heap.size, 1, none⟩) HNE.out _).setO (p := ⟨w.heap.size, 2, none⟩) HNE.out _).cell o | with_reducible exact fun o => ((((ZG.out.setO (p := ⟨w.heap.size, 0, none⟩) HNE.out _).setO (p := ⟨w.heap.size, 1, none⟩) HNE.out _).setO (p := ⟨w.heap.size, 2, none⟩) HNE.out _).setO (p := ⟨w.heap.size, 3, none⟩) HNE.out _).cell o | with_reducible exact fun o => (((((ZG.out.setO (p := ⟨w.heap.size, 0, none⟩) HNE.out _).setO (p := ⟨w.heap.size, 1, none⟩) HNE.out _).setO (p := ⟨w.heap.size, 2, none⟩) HNE.out _).setO (p := ⟨w.heap.size, 3, none⟩) HNE.out _).setO (p := ⟨w.heap.size, 4, none⟩) HNE.out _).cell o | with_reducible exact fun o => ((((((ZG.out.setO (p := ⟨w.heap.size, 0, none⟩) HNE.out _).setO (p := ⟨w.heap.size, 1, none⟩) HNE.out _).setO (p := ⟨w.heap.size, 2, none⟩) HNE.out _).setO (p := ⟨w.heap.size, 3, none⟩) HNE.out _).setO (p := ⟨w.heap.size, 4, none⟩) HNE.out _).alloc _).cell o | exact fun o => ((((((ZG.out.setO (p := ⟨w.heap.size, 0, none⟩) HNE.out _).setO (p := ⟨w.heap.size, 1, none⟩) HNE.out _).setO (p := ⟨w.heap.size, 2, none⟩) HNE.out _).setO (p := ⟨w.heap.size, 3, none⟩) HNE.out _).setO (p := ⟨w.heap.size, 4, none⟩) HNE.out _).alloc _).cell o | fail)
            (first | (go_at_call 62; refine (HIH.out B a kb base (x) (y - (1 + z)) _ W H pv1 F1 _ HRx.out (by omega) (by omega) (by omega) HKx.out HOx.out HF1.out ⟨by omega, by omega, by have := HZX.out; omega, by omega, HC.out.2.2.2.2⟩).mono ?_; rintro e wq ⟨s2, p2, pv2, F2, rfl, b1, b2, b3, b4, b5, b6, b7, b8⟩; have HB := hid (And.intro b1 (And.intro b2 (And.intro b3 (And.intro b4 (And.intro b5 (And.intro b6 (And.intro b7 b8))))))); have ZG := hid (b8.blk HG0.out (kpS_out HOx.out (by omega) (by omega) HPN.out)); have ZQ := hid (b8.blk HQx.out (kpS_out HOx.out (by omega) (by omega) (by rcases HA.out.2.2.2.1 with h | h; rw [h]; exact HS2.out.nq; exact fun e => by have := h _ e; omega))); have c_Q := fun (o : Nat) => ZQ.out.cell o; have f_Q := fun (o : Nat) => ZQ.out.frz o; have l_Q := ZQ.out.lt; clear b1 b2 b3 b4 b5 b6 b7 b8) | fail)
          all_goals
            go_wp2
            have HNK : Hid (wq.heap.size ≠ w.heap.size) := by rw [Hid]; omega
            have c_F := fun (o : Nat) => (show Blk ((((((wq.setCell ⟨w.heap.size, 0, none⟩ (.int .i64 3)).setCell ⟨w.heap.size, 1, none⟩ (.int .i64 (1 + z))).setCell ⟨w.heap.size, 2, none⟩ (.int .i64 0)).setCell ⟨w.heap.size, 3, none⟩ (.bool false)).setCell ⟨w.heap.size, 4, none⟩ (.slice (some ⟨wq.heap.size, 0, none⟩) 2 2)).alloc (.cells #[.int .i64 s1.o, .int .i64 s1.a, .int .i64 s1.p, .bool s1.t, .slice s1.ka s1.kn s1.kc, .int .i64 s2.o, .int .i64 s2.a, .int .i64 s2.p, .bool s2.t, .slice s2.ka s2.kn s2.kc] 30)) w.heap.size #[.int .i64 3, .int .i64 (1 + z), .int .i64 0, .bool false, .slice (some ⟨wq.heap.size, 0, none⟩) 2 2] 30 by have := (((((ZQ.out.set 0 (.int .i64 3)).set 1 (.int .i64 (1 + z))).set 2 (.int .i64 0)).set 3 (.bool false)).set 4 (.slice (some ⟨wq.heap.size, 0, none⟩) 2 2)).alloc (.cells #[.int .i64 s1.o, .int .i64 s1.a, .int .i64 s1.p, .bool s1.t, .slice s1.ka s1.kn s1.kc, .int .i64 s2.o, .int .i64 s2.a, .int .i64 s2.p, .bool s2.t, .slice s2.ka s2.kn s2.kc] 30); simpa using this).cell o
            clear c_Q f_Q
            obtain ⟨a1, a2, a5, a7, a8⟩ := HA.out
            obtain ⟨b1, b2, b3, b4, b5, b6, b7, b8⟩ := HB.out
            rw [HDD.out]
            exact bodyPost_ret (v := .agg #[.int .i64 3, .int .i64 (1 + z), .int .i64 0, .bool false, .slice (some ⟨wq.heap.size, 0, none⟩) 2 2]) (by simp [results, Try.results62, go_sem, c_F]) rfl (grow_two HC.out HS2.out a1 a2 a5 a7 a8 HBx.out b1 b2 b3 b4 b5 b6 b7 b8 (((((((Kp.refl (fun q => q = w.heap.size) wq).set (q := w.heap.size) (.inl rfl) 0 (.int .i64 3)).set (q := w.heap.size) (.inl rfl) 1 (.int .i64 (1 + z))).set (q := w.heap.size) (.inl rfl) 2 (.int .i64 0)).set (q := w.heap.size) (.inl rfl) 3 (.bool false)).set (q := w.heap.size) (.inl rfl) 4 (.slice (some ⟨wq.heap.size, 0, none⟩) 2 2)).alloc (.cells #[.int .i64 s1.o, .int .i64 s1.a, .int .i64 s1.p, .bool s1.t, .slice s1.ka s1.kn s1.kc, .int .i64 s2.o, .int .i64 s2.a, .int .i64 s2.p, .bool s2.t, .slice s2.ka s2.kn s2.kc] 30)) (by simp) (by have := Blk.new (((((wq.setCell ⟨w.heap.size, 0, none⟩ (.int .i64 3)).setCell ⟨w.heap.size, 1, none⟩ (.int .i64 (1 + z))).setCell ⟨w.heap.size, 2, none⟩ (.int .i64 0)).setCell ⟨w.heap.size, 3, none⟩ (.bool false)).setCell ⟨w.heap.size, 4, none⟩ (.slice (some ⟨wq.heap.size, 0, none⟩) 2 2)) #[.int .i64 s1.o, .int .i64 s1.a, .int .i64 s1.p, .bool s1.t, .slice s1.ka s1.kn s1.kc, .int .i64 s2.o, .int .i64 s2.a, .int .i64 s2.p, .bool s2.t, .slice s2.ka s2.kn s2.kc] 30; simpa using this) (by rw [← HDD.out, hcs]; omega) 3 (1 + z) (by omega) (by omega))
        | false =>
          clear hB
          have c_Q := fun (o : Nat) => HS1.out.rs.cell o
          have f_Q := fun (o : Nat) => HS1.out.rs.frz o
          have l_Q := HS1.out.rs.lt
          by_cases h7 : c = 7
          · have e7 : (c == 7) = true := by simpa using h7
            clear h7
            have c_F := fun (o : Nat) => (show Blk (((((wc.setCell ⟨w.heap.size, 0, none⟩ (.int .i64 0)).setCell ⟨w.heap.size, 1, none⟩ (.int .i64 0)).setCell ⟨w.heap.size, 2, none⟩ (.int .i64 0)).setCell ⟨w.heap.size, 3, none⟩ (.bool false)).setCell ⟨w.heap.size, 4, none⟩ (.slice none 0 0)) w.heap.size #[.int .i64 0, .int .i64 0, .int .i64 0, .bool false, .slice none 0 0] 30 by have := (((((HS1.out.rs.set 0 (.int .i64 0)).set 1 (.int .i64 0)).set 2 (.int .i64 0)).set 3 (.bool false)).set 4 (.slice none 0 0)); simpa using this).cell o
            go_wp2
            clear c_Q f_Q
            exact bodyPost_ret (v := .agg #[.int .i64 0, .int .i64 0, .int .i64 0, .bool false, .slice none 0 0]) (by simp [results, Try.results62, go_sem, c_F]) rfl (grow_leaf HC.out HS1.out hF ((((((Kp.refl (fun q => q = w.heap.size) wc).set (q := w.heap.size) (.inl rfl) 0 (.int .i64 0)).set (q := w.heap.size) (.inl rfl) 1 (.int .i64 0)).set (q := w.heap.size) (.inl rfl) 2 (.int .i64 0)).set (q := w.heap.size) (.inl rfl) 3 (.bool false)).set (q := w.heap.size) (.inl rfl) 4 (.slice none 0 0)) (by omega) 0 0 false (.inr ⟨rfl, rfl, rfl⟩))
          · have e7 : (c == 7) = false := by simpa using h7
            clear h7
            obtain ⟨pA, pc, rfl, hpc, hpm, -⟩ := HS1.out.ow.shape
            unfold maxLen at hpm
            have c_k := fun (o : Nat) => HS1.out.kw.cell o
            have l_k := HS1.out.kw.lt
            go_wp2
            go_loopw [16] (fun i wr => ∃ q : Nat, i = .int .i64 q ∧ q ≤ F.length ∧ Below wc.heap.size wc wr) (fun i _ => F.length - (intOf i).toNat)
            case atStart => exact ⟨0, rfl, by omega, Below.refl _ _⟩
            case round =>
              obtain ⟨wo, rfl⟩ : ∃ wo : World, wo = wr := ⟨_, rfl⟩
              obtain ⟨i, rfl, hi, hb⟩ := hrel
              have HSo := hid (HS1.out.go hb)
              have HBo := hid hb
              clear hb c_k l_k c_Q f_Q l_Q
              have c_Q := fun (o : Nat) => HSo.out.rs.cell o
              have f_Q := fun (o : Nat) => HSo.out.rs.frz o
              have l_Q := HSo.out.rs.lt
              have c_k := fun (o : Nat) => HSo.out.kw.cell o
              have l_k := HSo.out.kw.lt
              by_cases hil : i < F.length
              · go_wp2
                go_loopw [17] (fun t wr => ∃ u : Nat, t = .int .i64 u ∧ u ≤ 2 ∧ Below wo.heap.size wo wr) (fun t _ => 2 - (intOf t).toNat)
                case atStart => exact ⟨0, rfl, by omega, Below.refl _ _⟩
                case round =>
                  obtain ⟨u, rfl, hu, hb⟩ := hrel
                  have HSi := hid (HSo.out.go hb)
                  have HBi := hid hb
                  clear hb c_k l_k c_Q f_Q l_Q
                  have c_Q := fun (o : Nat) => HSi.out.rs.cell o
                  have f_Q := fun (o : Nat) => HSi.out.rs.frz o
                  have l_Q := HSi.out.rs.lt
                  have c_k := fun (o : Nat) => HSi.out.kw.cell o
                  have l_k := HSi.out.kw.lt
                  by_cases hu2 : u < 2
                  · have HRW := hid HSi.out.ow.rowB
                    have HQP : Hid (∀ q : GW (wr.heap.size + 1) (wr.alloc (.cells #[.int .i64 1, .int .i64 0, .int .i64 (i : Int), .bool ((u : Int) == 1), .slice none 0 0] 30)), Row paneE q.w (.slice pA F.length pc) F) := fun q => RowB.go (RowB.go HRW.out ((Below.refl _ _).alloc (Nat.le_refl _) _)) (by simpa using q.h)
                    have hq := fun q : GW (wr.heap.size + 1) (wr.alloc (.cells #[.int .i64 1, .int .i64 0, .int .i64 (i : Int), .bool ((u : Int) == 1), .slice none 0 0] 30)) => q.cell
                    go_wp2
                    refine wp_region_grow (wr.heap.size + 1) _ (by kernel_rfl) (by kernel_rfl) ?_
                    repeat (go_big_quiet_step (first | (go_at_call 73; exact GW.call (by simp) (fitsPlan_c x y W H F pA pc i _ _ (HQP.out _) hil)) | fail))
                    refine wpQuiet_nil ?_
                    rintro _ ⟨q, rfl⟩
                    obtain ⟨qw, hqw⟩ := q
                    have HBq := hid (show Below wr.heap.size wr qw from ((Below.refl _ _).alloc (Nat.le_refl _) _).trans (hqw.mono (by omega)))
                    have HSq := hid (HSi.out.go HBq.out)
                    have HPq := hid ((Blk.new wr #[.int .i64 1, .int .i64 0, .int .i64 (i : Int), .bool ((u : Int) == 1), .slice none 0 0] 30).below hqw (Nat.lt_succ_self _))
                    clear hq HQP HRW c_k l_k c_Q f_Q l_Q
                    have c_Q := fun (o : Nat) => HSq.out.rs.cell o
                    have f_Q := fun (o : Nat) => HSq.out.rs.frz o
                    have l_Q := HSq.out.rs.lt
                    have c_P := fun (o : Nat) => HPq.out.cell o
                    have l_P := HPq.out.lt
                    cases hfv : fitV F[i] ((u : Int) == 1) x y with
                    | true =>
                      have c_F := fun (o : Nat) => (show Blk (((((qw.setCell ⟨w.heap.size, 0, none⟩ (.int .i64 1)).setCell ⟨w.heap.size, 1, none⟩ (.int .i64 0)).setCell ⟨w.heap.size, 2, none⟩ (.int .i64 (i : Int))).setCell ⟨w.heap.size, 3, none⟩ (.bool ((u : Int) == 1))).setCell ⟨w.heap.size, 4, none⟩ (.slice none 0 0)) w.heap.size #[.int .i64 1, .int .i64 0, .int .i64 (i : Int), .bool ((u : Int) == 1), .slice none 0 0] 30 by have := (((((HSq.out.rs.set 0 (.int .i64 1)).set 1 (.int .i64 0)).set 2 (.int .i64 (i : Int))).set 3 (.bool ((u : Int) == 1))).set 4 (.slice none 0 0)); simpa using this).cell o
                      go_wp2
                      clear c_Q f_Q
                      exact bodyPost_ret (v := .agg #[.int .i64 1, .int .i64 0, .int .i64 (i : Int), .bool ((u : Int) == 1), .slice none 0 0]) (by simp [results, Try.results62, go_sem, c_F]) rfl (grow_leaf HC.out HSq.out hF ((((((Kp.refl (fun q => q = w.heap.size) qw).set (q := w.heap.size) (.inl rfl) 0 (.int .i64 1)).set (q := w.heap.size) (.inl rfl) 1 (.int .i64 0)).set (q := w.heap.size) (.inl rfl) 2 (.int .i64 (i : Int))).set (q := w.heap.size) (.inl rfl) 3 (.bool ((u : Int) == 1))).set (q := w.heap.size) (.inl rfl) 4 (.slice none 0 0)) (by omega) 1 i ((u : Int) == 1) (.inl rfl))
                    | false =>
                      have HBz := hid (HBi.out.trans (HBq.out.mono HBi.out.size))
                      go_wp2
                      exact ⟨⟨u + 1, by go_num, by omega, HBz.out⟩, by simp [intOf]; omega⟩
                  · have HBx := hid (HBo.out.trans (HBi.out.mono HBo.out.size))
                    go_wp2
                    exact ⟨⟨i + 1, by go_num, by omega, HBx.out⟩, by simp [intOf]; omega⟩
              · by_cases h24 : F.length = 24
                · have e24 : ((F.length : Int) == 24) = true := by simp [h24]
                  clear h24
                  have c_F := fun (o : Nat) => (show Blk (((((wo.setCell ⟨w.heap.size, 0, none⟩ (.int .i64 0)).setCell ⟨w.heap.size, 1, none⟩ (.int .i64 0)).setCell ⟨w.heap.size, 2, none⟩ (.int .i64 0)).setCell ⟨w.heap.size, 3, none⟩ (.bool false)).setCell ⟨w.heap.size, 4, none⟩ (.slice none 0 0)) w.heap.size #[.int .i64 0, .int .i64 0, .int .i64 0, .bool false, .slice none 0 0] 30 by have := (((((HSo.out.rs.set 0 (.int .i64 0)).set 1 (.int .i64 0)).set 2 (.int .i64 0)).set 3 (.bool false)).set 4 (.slice none 0 0)); simpa using this).cell o
                  go_wp2
                  clear c_Q f_Q
                  exact bodyPost_ret (v := .agg #[.int .i64 0, .int .i64 0, .int .i64 0, .bool false, .slice none 0 0]) (by simp [results, Try.results62, go_sem, c_F]) rfl (grow_leaf HC.out HSo.out hF ((((((Kp.refl (fun q => q = w.heap.size) wo).set (q := w.heap.size) (.inl rfl) 0 (.int .i64 0)).set (q := w.heap.size) (.inl rfl) 1 (.int .i64 0)).set (q := w.heap.size) (.inl rfl) 2 (.int .i64 0)).set (q := w.heap.size) (.inl rfl) 3 (.bool false)).set (q := w.heap.size) (.inl rfl) 4 (.slice none 0 0)) (by omega) 0 0 false (.inr ⟨rfl, rfl, rfl⟩))
                · have e24 : ((F.length : Int) == 24) = false := by simp; omega
                  have hF24 : F.length ≤ 23 := by omega
                  clear h24
                  go_upto_region 23 with (fail)
                  go_cut [19] (fun v wx => ∃ tb : Bool, v = .bool tb ∧ GSt B a kb base W H (.slice pA F.length pc) F (m + 1 + 1) w wx)
                  case first =>
                    go_wp2_with fail
                    refine (pick_c B a 3 _ _ HSo.out.rd (by omega) (by omega) (by omega)).mono ?_
                    rintro e w5 ⟨z, rfl, hp, hR, hg⟩
                    have HS5 := hid (HSo.out.pick hR hg HC.out)
                    clear hp hR hg
                    go_wp2
                    all_goals
                      go_meet
                      case rel => exact ⟨_, rfl, HS5.out⟩
                  case rest =>
                    obtain ⟨tb, rfl, hst⟩ := hcut
                    have HS6 := hid hst
                    have hs6 := HS6.out.kp.size
                    clear hst c_Q f_Q l_Q c_k l_k
                    have l_Q := HS6.out.rs.lt
                    go_upto_region 24 with (fail)
                    go_cut [20] (fun v wx => ∃ (g : Nat) (t : Bool) (kd : Int), v = .pointer (some ⟨g, 0, none⟩) ∧ Blk wx g #[.int .i64 x, .int .i64 y, .bool t, .int .i64 kd] 83 ∧ GSt B a kb base W H (.slice pA F.length pc) F (m + 1 + 1 + 1 + 1) w wx ∧ w.heap.size < g ∧ (Value.slice pA F.length pc).ownBlock ≠ some g)
                    case first =>
                      cases tb
                      · go_wp2_with fail
                        refine (pick_c B a 2 _ _ HS6.out.rd (by omega) (by omega) (by omega)).mono ?_
                        rintro e w7 ⟨z, rfl, hp, hR, hg⟩
                        have HS7 := hid (HS6.out.pick hR hg HC.out)
                        clear hp hR hg
                        go_wp2_with fail
                        refine (pick_c B a 2 _ _ HS7.out.rd (by omega) (by omega) (by omega)).mono ?_
                        rintro e w8 ⟨z2, rfl, hp, hR, hg⟩
                        have HS8 := hid (HS7.out.pick hR hg HC.out)
                        clear hp hR hg
                        have hz8 := HS8.out.rs.lt
                        have hp8 := HS8.out.ow.lt
                        have HP8 : Hid ((Value.slice pA F.length pc).ownBlock ≠ some w8.heap.size) := fun e => by have := (hp8 _ e).2; omega
                        clear hp8
                        go_wp2
                        go_meet
                        case rel => exact ⟨w8.heap.size, _, _, rfl, Blk.new _ _ _, HS8.out.go ((Below.refl _ _).alloc (Nat.le_refl _) _), hz8, HP8.out⟩
                      · go_wp2_with fail
                        refine (pick_c B a 2 _ _ HS6.out.rd (by omega) (by omega) (by omega)).mono ?_
                        rintro e w7 ⟨z, rfl, hp, hR, hg⟩
                        have HS7 := hid (HS6.out.pick hR hg HC.out)
                        clear hp hR hg
                        have hz7 := HS7.out.rs.lt
                        have hp7 := HS7.out.ow.lt
                        have HP7 : Hid ((Value.slice pA F.length pc).ownBlock ≠ some w7.heap.size) := fun e => by have := (hp7 _ e).2; omega
                        clear hp7
                        go_wp2
                        go_meet
                        case rel => exact ⟨w7.heap.size, _, _, rfl, Blk.new _ _ _, (HS7.out.go ((Below.refl _ _).alloc (Nat.le_refl _) _)).up (by omega), hz7, HP7.out⟩
                    case rest =>
                      obtain ⟨g, t, kd, rfl, hg, hst, hwg, hpg⟩ := hcut
                      have HS9 := hid hst
                      have HG9 := hid hg
                      have HPG := hid hpg
                      clear hg hst hpg l_Q
                      have l_Q := HS9.out.rs.lt
                      have c_g := fun (o : Nat) => HG9.out.cell o
                      have f_g := fun (o : Nat) => HG9.out.frz o
                      have l_g := HG9.out.lt
                      cases tb
                      · go_upto_region 28 with (fail)
                        obtain ⟨wz, hwz⟩ : ∃ Z : World, Z = wc := ⟨_, rfl⟩
                        have HSz := hid (show GSt B a kb base W H (.slice pA F.length pc) F (m + 1 + 1 + 1 + 1) w wz by rw [hwz]; exact HS9.out)
                        have HGz := hid (show Blk wz g #[.int .i64 x, .int .i64 y, .bool t, .int .i64 kd] 83 by rw [hwz]; exact HG9.out)
                        rw [← hwz]
                        clear hwz c_g f_g l_g l_Q
                        have l_Q := HSz.out.rs.lt
                        have c_g := fun (o : Nat) => HGz.out.cell o
                        have l_g := HGz.out.lt
                        have c_k := fun (o : Nat) => HSz.out.kw.cell o
                        have f_k := fun (o : Nat) => HSz.out.kw.frz o
                        have l_k := HSz.out.kw.lt
                        have HZ := hid (show GSt B a kb base W H (.slice pA F.length pc) F (m + 1 + 1 + 1 + 1) w ((wz.alloc (.cells #[.int .i64 x, .int .i64 y, .bool t, .int .i64 kd] 83)).drew) from HSz.out.go (((Below.refl wz.heap.size wz).alloc (Nat.le_refl _) _).drew))
                        have HE := hid ((Own.lit paneE wz base 83 #[.int .i64 x, .int .i64 y, .bool t, .int .i64 kd] [(⟨x, y, t, kd⟩ : Pn)] 1 rfl rfl (by omega) (by simp [maxLen])).dr (Dr.refl _).one).rowB
                        obtain ⟨M2, hM2⟩ : ∃ Z, Z = F ++ [(⟨x, y, t, kd⟩ : Pn)] := ⟨_, rfl⟩
                        have HM2 := hid hM2
                        have hM3 : M2.length = F.length + 1 := by rw [hM2]; simp
                        have hM4 : (1 : Int) ≤ M2.length ∧ M2.length ≤ 24 := by omega
                        obtain ⟨hM5, hM6⟩ := hM4
                        have HM3 := hid hM3
                        have HLn : Hid (F.length + [(⟨x, y, t, kd⟩ : Pn)].length ≤ 4194304) := by rw [Hid]; simp; omega
                        have HBS : Hid (base ≤ ((wz.alloc (.cells #[.int .i64 x, .int .i64 y, .bool t, .int .i64 kd] 83)).drew).heap.size) := by rw [Hid]; simp; omega
                        have HPK : Hid (some kb ≠ (Value.slice pA F.length pc).ownBlock) := fun e => by have := (HSz.out.ow.lt _ e.symm).1; omega
                        have HPQ : Hid (some w.heap.size ≠ (Value.slice pA F.length pc).ownBlock) := fun e => HSz.out.nq e.symm
                        clear hM2 hM3
                        go_region_law (first | (refine step_cat paneE _ rfl (.tmp 164) (.tmp 166) _ rfl base 83 i0 _ 32 Try.underlying45 hi0 hz0 hz1 hz2 rfl (by omega) _ _ rfl HZ.out.ow _ _ _ rfl HE.out HLn.out HBS.out M2 HM2.out ?_; intro v5 w5 ho5 hg5 hat5; have HO5 := hid ho5; have HG5 := hid hg5; have HAT5 := hid hat5; obtain ⟨A5, c5, rfl, hc5, hm5, -⟩ := ho5.shape; have HK5 := hid (HZ.out.kw.grown hg5 HPK.out); have HQ5 := hid (HZ.out.rs.grown hg5 HPQ.out); have c_k5 := fun (o : Nat) => HK5.out.cell o; have f_k5 := fun (o : Nat) => HK5.out.frz o; have l_k5 := HK5.out.lt; clear ho5 hg5 hat5 c_k f_k l_k c_g l_g l_Q) | fail)
                        all_goals
                          obtain ⟨w6, hw6⟩ : ∃ Z : World, Z = (w5.setCell ⟨kb, 2, none⟩ (.slice A5 M2.length c5)) := ⟨_, rfl⟩
                          have HQ6 := hid (show Blk w6 w.heap.size #[.int .i64 0, .int .i64 0, .int .i64 0, .bool false, .slice none 0 0] 30 by rw [hw6]; exact HQ5.out.setO (by simp; omega) _)
                          have HK6 := hid (show Blk w6 kb #[.int .i64 W, .int .i64 H, .slice A5 M2.length c5] 47 by rw [hw6]; have := HK5.out.set 2 (.slice A5 M2.length c5); simpa using this)
                          have HW6 := hid hw6
                          rw [← hw6]
                          clear hw6 c_k5 f_k5 l_k5
                          have c_Q := fun (o : Nat) => HQ6.out.cell o
                          have f_Q := fun (o : Nat) => HQ6.out.frz o
                          have l_Q := HQ6.out.lt
                          have c_k := fun (o : Nat) => HK6.out.cell o
                          have l_k := HK6.out.lt
                          have c_F := fun (o : Nat) => (show Blk (((((w6.setCell ⟨w.heap.size, 0, none⟩ (.int .i64 1)).setCell ⟨w.heap.size, 1, none⟩ (.int .i64 0)).setCell ⟨w.heap.size, 2, none⟩ (.int .i64 ((M2.length : Int) - 1))).setCell ⟨w.heap.size, 3, none⟩ (.bool false)).setCell ⟨w.heap.size, 4, none⟩ (.slice none 0 0)) w.heap.size #[.int .i64 1, .int .i64 0, .int .i64 ((M2.length : Int) - 1), .bool false, .slice none 0 0] 30 by have := (((((HQ6.out.set 0 (.int .i64 1)).set 1 (.int .i64 0)).set 2 (.int .i64 ((M2.length : Int) - 1))).set 3 (.bool false)).set 4 (.slice none 0 0)); simpa using this).cell o
                          go_wp2
                          clear c_Q f_Q
                          exact bodyPost_ret (v := .agg #[.int .i64 1, .int .i64 0, .int .i64 ((M2.length : Int) - 1), .bool false, .slice none 0 0]) (by simp [results, Try.results62, go_sem, c_F]) rfl (grow_new HC.out HZ.out HO5.out HG5.out HAT5.out HK5.out hM6 (by rw [← HW6.out]; exact ((((((Kp.refl (fun q => q = w.heap.size) w6).set (q := w.heap.size) (.inl rfl) 0 (.int .i64 1)).set (q := w.heap.size) (.inl rfl) 1 (.int .i64 0)).set (q := w.heap.size) (.inl rfl) 2 (.int .i64 ((M2.length : Int) - 1))).set (q := w.heap.size) (.inl rfl) 3 (.bool false)).set (q := w.heap.size) (.inl rfl) 4 (.slice none 0 0))) (by omega) 1 ((M2.length : Int) - 1) false (.inl rfl))
                      · go_upto_region 28 with (fail)
                        obtain ⟨wz, hwz⟩ : ∃ Z : World, Z = ((wc.setCell ⟨g, 0, none⟩ (.int .i64 y)).setCell ⟨g, 1, none⟩ (.int .i64 x)) := ⟨_, rfl⟩
                        have HSz := hid (show GSt B a kb base W H (.slice pA F.length pc) F (m + 1 + 1 + 1 + 1) w wz by rw [hwz]; exact ((HS9.out.setO hwg HPG.out HC.out _).setO hwg HPG.out HC.out _))
                        have HGz := hid (show Blk wz g #[.int .i64 y, .int .i64 x, .bool t, .int .i64 kd] 83 by rw [hwz]; exact (by have := (HG9.out.set 0 (.int .i64 y)).set 1 (.int .i64 x); simpa using this))
                        rw [← hwz]
                        clear hwz c_g f_g l_g l_Q
                        have l_Q := HSz.out.rs.lt
                        have c_g := fun (o : Nat) => HGz.out.cell o
                        have l_g := HGz.out.lt
                        have c_k := fun (o : Nat) => HSz.out.kw.cell o
                        have f_k := fun (o : Nat) => HSz.out.kw.frz o
                        have l_k := HSz.out.kw.lt
                        have HZ := hid (show GSt B a kb base W H (.slice pA F.length pc) F (m + 1 + 1 + 1 + 1) w ((wz.alloc (.cells #[.int .i64 y, .int .i64 x, .bool t, .int .i64 kd] 83)).drew) from HSz.out.go (((Below.refl wz.heap.size wz).alloc (Nat.le_refl _) _).drew))
                        have HE := hid ((Own.lit paneE wz base 83 #[.int .i64 y, .int .i64 x, .bool t, .int .i64 kd] [(⟨y, x, t, kd⟩ : Pn)] 1 rfl rfl (by omega) (by simp [maxLen])).dr (Dr.refl _).one).rowB
                        obtain ⟨M2, hM2⟩ : ∃ Z, Z = F ++ [(⟨y, x, t, kd⟩ : Pn)] := ⟨_, rfl⟩
                        have HM2 := hid hM2
                        have hM3 : M2.length = F.length + 1 := by rw [hM2]; simp
                        have hM4 : (1 : Int) ≤ M2.length ∧ M2.length ≤ 24 := by omega
                        obtain ⟨hM5, hM6⟩ := hM4
                        have HM3 := hid hM3
                        have HLn : Hid (F.length + [(⟨y, x, t, kd⟩ : Pn)].length ≤ 4194304) := by rw [Hid]; simp; omega
                        have HBS : Hid (base ≤ ((wz.alloc (.cells #[.int .i64 y, .int .i64 x, .bool t, .int .i64 kd] 83)).drew).heap.size) := by rw [Hid]; simp; omega
                        have HPK : Hid (some kb ≠ (Value.slice pA F.length pc).ownBlock) := fun e => by have := (HSz.out.ow.lt _ e.symm).1; omega
                        have HPQ : Hid (some w.heap.size ≠ (Value.slice pA F.length pc).ownBlock) := fun e => HSz.out.nq e.symm
                        clear hM2 hM3
                        go_region_law (first | (refine step_cat paneE _ rfl (.tmp 164) (.tmp 166) _ rfl base 83 i0 _ 32 Try.underlying45 hi0 hz0 hz1 hz2 rfl (by omega) _ _ rfl HZ.out.ow _ _ _ rfl HE.out HLn.out HBS.out M2 HM2.out ?_; intro v5 w5 ho5 hg5 hat5; have HO5 := hid ho5; have HG5 := hid hg5; have HAT5 := hid hat5; obtain ⟨A5, c5, rfl, hc5, hm5, -⟩ := ho5.shape; have HK5 := hid (HZ.out.kw.grown hg5 HPK.out); have HQ5 := hid (HZ.out.rs.grown hg5 HPQ.out); have c_k5 := fun (o : Nat) => HK5.out.cell o; have f_k5 := fun (o : Nat) => HK5.out.frz o; have l_k5 := HK5.out.lt; clear ho5 hg5 hat5 c_k f_k l_k c_g l_g l_Q) | fail)
                        all_goals
                          obtain ⟨w6, hw6⟩ : ∃ Z : World, Z = (w5.setCell ⟨kb, 2, none⟩ (.slice A5 M2.length c5)) := ⟨_, rfl⟩
                          have HQ6 := hid (show Blk w6 w.heap.size #[.int .i64 0, .int .i64 0, .int .i64 0, .bool false, .slice none 0 0] 30 by rw [hw6]; exact HQ5.out.setO (by simp; omega) _)
                          have HK6 := hid (show Blk w6 kb #[.int .i64 W, .int .i64 H, .slice A5 M2.length c5] 47 by rw [hw6]; have := HK5.out.set 2 (.slice A5 M2.length c5); simpa using this)
                          have HW6 := hid hw6
                          rw [← hw6]
                          clear hw6 c_k5 f_k5 l_k5
                          have c_Q := fun (o : Nat) => HQ6.out.cell o
                          have f_Q := fun (o : Nat) => HQ6.out.frz o
                          have l_Q := HQ6.out.lt
                          have c_k := fun (o : Nat) => HK6.out.cell o
                          have l_k := HK6.out.lt
                          have c_F := fun (o : Nat) => (show Blk (((((w6.setCell ⟨w.heap.size, 0, none⟩ (.int .i64 1)).setCell ⟨w.heap.size, 1, none⟩ (.int .i64 0)).setCell ⟨w.heap.size, 2, none⟩ (.int .i64 ((M2.length : Int) - 1))).setCell ⟨w.heap.size, 3, none⟩ (.bool true)).setCell ⟨w.heap.size, 4, none⟩ (.slice none 0 0)) w.heap.size #[.int .i64 1, .int .i64 0, .int .i64 ((M2.length : Int) - 1), .bool true, .slice none 0 0] 30 by have := (((((HQ6.out.set 0 (.int .i64 1)).set 1 (.int .i64 0)).set 2 (.int .i64 ((M2.length : Int) - 1))).set 3 (.bool true)).set 4 (.slice none 0 0)); simpa using this).cell o
                          go_wp2
                          clear c_Q f_Q
                          exact bodyPost_ret (v := .agg #[.int .i64 1, .int .i64 0, .int .i64 ((M2.length : Int) - 1), .bool true, .slice none 0 0]) (by simp [results, Try.results62, go_sem, c_F]) rfl (grow_new HC.out HZ.out HO5.out HG5.out HAT5.out HK5.out hM6 (by rw [← HW6.out]; exact ((((((Kp.refl (fun q => q = w.heap.size) w6).set (q := w.heap.size) (.inl rfl) 0 (.int .i64 1)).set (q := w.heap.size) (.inl rfl) 1 (.int .i64 0)).set (q := w.heap.size) (.inl rfl) 2 (.int .i64 ((M2.length : Int) - 1))).set (q := w.heap.size) (.inl rfl) 3 (.bool true)).set (q := w.heap.size) (.inl rfl) 4 (.slice none 0 0))) (by omega) 1 ((M2.length : Int) - 1) true (.inl rfl))

end Go.Proofs.Ytafcohmneeabbaa
