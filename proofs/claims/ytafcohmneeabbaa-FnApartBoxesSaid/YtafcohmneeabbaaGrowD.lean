/-
  Contracts: works with plans drawn by the generators of the reference (written by a program of mine).
-/
import Derived.Test.YtafcohmneeabbaaGrowC
namespace Go.Proofs.Ytafcohmneeabbaa
set_option linter.unusedSimpArgs false
set_option linter.unusedVariables false
open Go.RowKit

theorem gpk_bd {n x : Int} (h : Pk n x) (b : Int) (hb : n ≤ b + 1) (h0 : 0 ≤ b) : 0 ≤ x ∧ x ≤ b := by
  obtain ⟨h1, h2⟩ := h; omega
theorem gr_kp {a kb : Nat} {n c : Nat} {w w1 w2 : World} (h : w.grownBy w1 (some a)) (hk : Kp (kpS a kb (.slice none n c)) w1 w2) (hb : w.heap.size ≤ kb) : w.grownBy w2 (some a) :=
  ⟨hk.os.trans h.os, hk.tape.trans h.tape, hk.output.trans h.output, Nat.le_trans h.size hk.size, fun k hkk hne => (hk.block k (Nat.lt_of_lt_of_le hkk h.size) (fun e => by
    rcases e with e | e | e
    · exact hne (by rw [e])
    · omega
    · cases e)).trans (h.block k hkk hne)⟩
theorem GP.up {n m : Nat} {s : Sh} {p : Pl} (h : GP n s p) (hm : n ≤ m) : GP m s p := by
  obtain ⟨h1, t, h2, h3, h4⟩ := h
  exact ⟨h1, t, h2, h3, Nat.le_trans h4 (Nat.pow_le_pow_right (by omega) (by omega))⟩
theorem FQ.up' {ok : Nat → Prop} {w : World} : ∀ {n : Nat} {v : Value} {L : List Pl}, FQ ok w n v L → FQ ok w (n + 1) v L
  | 0, _, _, h => h.elim
  | n + 1, _, _, h => by
    obtain ⟨S, h1, h2, h3⟩ := h
    exact ⟨S, h1, h2, fun k h4 h5 => ⟨(h3 k h4 h5).1, (h3 k h4 h5).2.up'⟩⟩
theorem FQ.ups {ok : Nat → Prop} {w : World} {n m : Nat} {v : Value} {L : List Pl} (h : FQ ok w n v L) (hm : n ≤ m) : FQ ok w m v L := by
  induction m with
  | zero =>
    have e : n = 0 := by omega
    rw [e] at h; exact h
  | succ m ih =>
    by_cases e : n = m + 1
    · rw [e] at h; exact h
    · exact (ih (by omega)).up'
theorem grow_k (d : Nat) (hd : d ≤ 100) (B a kb base : Nat) (x y m W H : Int) (pv : Value) (F : List Pn) (w : World) (h1 : Rd B w a m) (h2 : m + gcst d ≤ 900000) (h3 : 1 ≤ x ∧ x ≤ 1000) (h4 : 1 ≤ y ∧ y ≤ 1000)
    (h5 : Blk w kb #[.int .i64 W, .int .i64 H, pv] 47) (h6 : Own paneE 83 base w pv F) (h7 : F.length ≤ 24) (h8 : a < base ∧ kb < base ∧ base ≤ w.heap.size ∧ B ≤ kb ∧ kb ≠ a) :
    Calls Try.prog 62 #[.pointer (some ⟨a, 0, none⟩), .pointer (some ⟨kb, 0, none⟩), .int .i64 x, .int .i64 y, .int .i64 d] w (GrowOut B a kb base W H pv (m + gcst d) (d + 1) w) := grow_c d hd B a kb base x y m W H pv F w h1 h2 h3 h4 h5 h6 h7 h8
theorem gcst_4 (d : Nat) (h : d ≤ 4) : gcst d ≤ 248 := by
  match d, h with
  | 0, _ => simp [gcst]
  | 1, _ => simp [gcst]
  | 2, _ => simp [gcst]
  | 3, _ => simp [gcst]
  | 4, _ => simp [gcst]

theorem blk01 {w : World} {kb : Nat} {x y : Int} {v : Value} {t : TypeId} (h : Blk w kb #[.int .i64 x, .int .i64 y, v] t) : w.cell? ⟨kb, 0, none⟩ = some (.int .i64 x) ∧ w.cell? ⟨kb, 1, none⟩ = some (.int .i64 y) := ⟨h.cell 0, h.cell 1⟩
theorem blk01s {w : World} {kb pb : Nat} {x y : Int} {v : Value} {t : TypeId} (h : Blk w kb #[.int .i64 x, .int .i64 y, v] t) (hp : kb ≠ pb) (u0 u1 u2 u3 u4 : Value) : (((((w.setCell ⟨pb, 0, none⟩ u0).setCell ⟨pb, 1, none⟩ u1).setCell ⟨pb, 2, none⟩ u2).setCell ⟨pb, 3, none⟩ u3).setCell ⟨pb, 4, none⟩ u4).cell? ⟨kb, 0, none⟩ = some (.int .i64 x) ∧ (((((w.setCell ⟨pb, 0, none⟩ u0).setCell ⟨pb, 1, none⟩ u1).setCell ⟨pb, 2, none⟩ u2).setCell ⟨pb, 3, none⟩ u3).setCell ⟨pb, 4, none⟩ u4).cell? ⟨kb, 1, none⟩ = some (.int .i64 y) :=
  blk01 (((((h.setO (p := ⟨pb, 0, none⟩) hp u0).setO (p := ⟨pb, 1, none⟩) hp u1).setO (p := ⟨pb, 2, none⟩) hp u2).setO (p := ⟨pb, 3, none⟩) hp u3).setO (p := ⟨pb, 4, none⟩) hp u4)
/-- Where the walk stands: the reader, the work under way in block kb, the result's two blocks. -/
structure WSt (B a kb : Nat) (x y m : Int) (w w1 : World) : Prop where
  rd : Rd B w1 a m
  gr : w.grownBy w1 (some a)
  kw : Blk w1 kb #[.int .i64 x, .int .i64 y, .slice none 0 0] 47
  rq : Blk w1 w.heap.size #[.int .i64 0, .int .i64 0, .slice none 0 0] 47
  rr : Blk w1 (w.heap.size + 1) #[.int .i64 0, .int .i64 0, .int .i64 0, .bool false, .slice none 0 0] 30
  lk : w.heap.size + 1 < kb
  la : a < w.heap.size
  lB : B ≤ a
theorem WSt.go {B a kb : Nat} {x y m : Int} {w w1 w2 : World} (h : WSt B a kb x y m w w1) (hb : Below w1.heap.size w1 w2) : WSt B a kb x y m w w2 :=
  ⟨h.rd.below hb, gr_below h.gr hb, h.kw.go hb, h.rq.go hb, h.rr.go hb, h.lk, h.la, h.lB⟩
theorem WSt.pick {B a kb : Nat} {x y m m' : Int} {w w1 w2 : World} (h : WSt B a kb x y m w w1) (hR : Rd B w2 a m') (hg : w1.grownBy w2 (some a)) : WSt B a kb x y m' w w2 :=
  have h1 := h.lk
  have h2 := h.la
  ⟨hR, grown_trans h.gr hg, h.kw.grown hg (fun e => by injection e with e; omega), h.rq.grown hg (fun e => by injection e with e; omega), h.rr.grown hg (fun e => by injection e with e; omega), h.lk, h.la, h.lB⟩
/-- What the region leaves that grows the plan. -/
def WRel (B a kb pb : Nat) (x y m : Int) (w wx : World) : Prop :=
  ∃ (s : Sh) (p : Pl) (pA : Option Addr) (pn pc : Nat), Blk wx kb #[.int .i64 x, .int .i64 y, .slice pA pn pc] 47 ∧ Blk wx pb #[.int .i64 s.o, .int .i64 s.a, .int .i64 s.p, .bool s.t, .slice s.ka s.kn s.kc] 30 ∧ GP 5 s p ∧ FQ (fun q => w.heap.size + 1 < q ∧ q < wx.heap.size) wx 5 s.kv p.ks ∧ Rd B wx a (m + 400) ∧ w.grownBy wx (some a) ∧
    Blk wx w.heap.size #[.int .i64 0, .int .i64 0, .slice none 0 0] 47 ∧ Blk wx (w.heap.size + 1) #[.int .i64 0, .int .i64 0, .int .i64 0, .bool false, .slice none 0 0] 30 ∧ w.heap.size + 1 < kb ∧ w.heap.size + 1 < pb
set_option maxHeartbeats 1600000 in
theorem wrel_mk {B a kb pb d : Nat} {x y m m' : Int} {w wg wc we : World} {s : Sh} {p : Pl} {pv : Value} {F : List Pn} (hS : WSt B a kb x y m' w wg) (hd : d ≤ 4) (hm : m' ≤ m + 3)
    (b1 : GP (d + 1) s p) (b2 : FQ (okG wg wc pv) wc (d + 1) s.kv p.ks) (b3 : Rd B wc a (m' + gcst d)) (b4 : Blk wc kb #[.int .i64 x, .int .i64 y, pv] 47) (b5 : Own paneE 83 (kb + 1) wc pv F) (b8 : Kp (kpS a kb (.slice none 0 0)) wg wc)
    (hf : Kp (fun q => q = pb) wc we) (hpe : Blk we pb #[.int .i64 s.o, .int .i64 s.a, .int .i64 s.p, .bool s.t, .slice s.ka s.kn s.kc] 30) (hpb : pb < wg.heap.size ∨ wc.heap.size ≤ pb) (hpk : pb ≠ kb) (hpl : w.heap.size + 1 < pb) : WRel B a kb pb x y m w we := by
  obtain ⟨A, c, rfl, -⟩ := b5.shape
  have hlk := hS.lk
  have hrl := hS.rr.lt
  have hla := hS.la
  have hlB := hS.lB
  have hgs := hS.gr.size
  have hcs := b8.size
  have hcd := gcst_4 d hd
  have g1 := gr_kp hS.gr b8 (by omega)
  have q1 : Blk wc w.heap.size _ _ := b8.blk hS.rq (fun e => by rcases e with e | e | e; omega; omega; cases e)
  have q2 : Blk wc (w.heap.size + 1) _ _ := b8.blk hS.rr (fun e => by rcases e with e | e | e; omega; omega; cases e)
  have hgr := hf.gr
  have hes := hgr.size
  refine ⟨s, p, A, F.length, c, b4.grown hgr (fun e => by injection e with e; omega), hpe, b1.up (by omega), ((b2.ups (show d + 1 ≤ 5 by omega)).heap (fun q hq => ?_) (fun q hq => ?_)), (b3.grown hgr (fun k hk => by injection hk with hk; omega)).up (by omega), ?_, q1.grown hgr (fun e => by injection e with e; omega), q2.grown hgr (fun e => by injection e with e; omega), hlk, hpl⟩
  · obtain ⟨h1, h2, h3⟩ := hq
    exact hgr.block q (by omega) (fun e => by injection e with e; omega)
  · obtain ⟨h1, h2, h3⟩ := hq
    exact ⟨by omega, by omega⟩
  · have h2 := g1
    exact ⟨hgr.os.trans h2.os, hgr.tape.trans h2.tape, hgr.output.trans h2.output, by have := h2.size; omega, fun k hk hne => (hgr.block k (by have := h2.size; omega) (fun e => by injection e with e; omega)).trans (h2.block k hk hne)⟩

/-- What a call answers that draws a work and a plan for it. -/
def WPOut (B a : Nat) (m : Int) (w : World) (e : Ending) (w' : World) : Prop :=
  ∃ (s : Sh) (p : Pl) (W H : Int) (pA : Option Addr) (pn pc : Nat), e = .returned (.tuple #[.agg #[.int .i64 W, .int .i64 H, .slice pA pn pc], .agg #[.int .i64 s.o, .int .i64 s.a, .int .i64 s.p, .bool s.t, .slice s.ka s.kn s.kc]]) ∧ GP 5 s p ∧ FQ (fun q => w.heap.size ≤ q ∧ q < w'.heap.size) w' 5 s.kv p.ks ∧ (1 ≤ W ∧ W ≤ 1000) ∧ (1 ≤ H ∧ H ≤ 1000) ∧ Rd B w' a m ∧ w.grownBy w' (some a)
theorem wp_fin {B a : Nat} {m x y : Int} {w wx wf : World} {s : Sh} {p : Pl} (h4 : FQ (fun q => w.heap.size + 1 < q ∧ q < wx.heap.size) wx 5 s.kv p.ks) (h5 : Rd B wx a (m + 400)) (h6 : w.grownBy wx (some a)) (hla : a < w.heap.size) (hlo : B ≤ a) (hf : Kp (fun q => q = w.heap.size ∨ q = w.heap.size + 1) wx wf) (hx : 1 ≤ x ∧ x ≤ 1000) (hy : 1 ≤ y ∧ y ≤ 1000) :
    FQ (fun q => w.heap.size ≤ q ∧ q < wf.heap.size) wf 5 s.kv p.ks ∧ (1 ≤ x ∧ x ≤ 1000) ∧ (1 ≤ y ∧ y ≤ 1000) ∧ Rd B wf a (m + 400) ∧ w.grownBy wf (some a) := by
  have hs := hf.size
  have hs6 := h6.size
  have hl5 := h5.lt
  refine ⟨h4.heap (fun q hq => hf.block q hq.2 (by omega)) (fun q hq => ⟨by omega, by omega⟩), hx, hy, ?_, ?_⟩
  · obtain ⟨A, n, c, L, q, e1, e2, e3, e4⟩ := h5
    exact ⟨A, n, c, L, q, (hf.block a hl5 (by omega)).trans e1, e2.heap (fun k hk => hf.block k (by omega) (by omega)), e3, e4⟩
  · exact ⟨hf.os.trans h6.os, hf.tape.trans h6.tape, hf.output.trans h6.output, by omega, fun k hk hne => (hf.block k (by omega) (by omega)).trans (h6.block k hk hne)⟩

set_option maxHeartbeats 6400000 in
set_option maxRecDepth 100000 in
theorem workPlan_c (B a : Nat) (m : Int) (w : World) (h : Rd B w a m) (hm : m ≤ 500000) : Calls Try.prog 36 #[.pointer (some ⟨a, 0, none⟩)] w (WPOut B a (m + 400) w) := by
  have HR0 := hid h
  have HG0 := hid (World.grownBy.refl w (some a))
  have hla := h.lt
  have hlo := h.lo
  clear h
  go_enter Try.func36, Try.ntmps36
  have HR1 := hid (HR0.out.alloc (.cells #[.int .i64 0, .int .i64 0, .slice none 0 0] 47))
  have HG1 := hid (gr_alloc HG0.out (.cells #[.int .i64 0, .int .i64 0, .slice none 0 0] 47))
  have HQ_1 := hid (show Blk (w.alloc (.cells #[.int .i64 0, .int .i64 0, .slice none 0 0] 47)) (w.heap.size) #[.int .i64 0, .int .i64 0, .slice none 0 0] 47 by have := Blk.new w #[.int .i64 0, .int .i64 0, .slice none 0 0] 47; simpa using this)
  have HR2 := hid (HR1.out.alloc (.cells #[.int .i64 0, .int .i64 0, .int .i64 0, .bool false, .slice none 0 0] 30))
  have HG2 := hid (gr_alloc HG1.out (.cells #[.int .i64 0, .int .i64 0, .int .i64 0, .bool false, .slice none 0 0] 30))
  have HQ_2 := hid (HQ_1.out.alloc (.cells #[.int .i64 0, .int .i64 0, .int .i64 0, .bool false, .slice none 0 0] 30))
  have HR_2 := hid (show Blk ((w.alloc (.cells #[.int .i64 0, .int .i64 0, .slice none 0 0] 47)).alloc (.cells #[.int .i64 0, .int .i64 0, .int .i64 0, .bool false, .slice none 0 0] 30)) (w.heap.size + 1) #[.int .i64 0, .int .i64 0, .int .i64 0, .bool false, .slice none 0 0] 30 by have := Blk.new (w.alloc (.cells #[.int .i64 0, .int .i64 0, .slice none 0 0] 47)) #[.int .i64 0, .int .i64 0, .int .i64 0, .bool false, .slice none 0 0] 30; simpa using this)
  have ZL := hid (lit_row ((w.alloc (.cells #[.int .i64 0, .int .i64 0, .slice none 0 0] 47)).alloc (.cells #[.int .i64 0, .int .i64 0, .int .i64 0, .bool false, .slice none 0 0] 30)) (w.heap.size + 1 + 1) (by simp) #[.int .i64 12, .int .i64 20, .int .i64 8, .int .i64 30, .int .i64 1, .int .i64 5] [12, 20, 8, 30, 1, 5] 6 rfl rfl (by simp [maxLen]))
  have HR3 := hid (HR2.out.alloc (.cells #[.int .i64 12, .int .i64 20, .int .i64 8, .int .i64 30, .int .i64 1, .int .i64 5] 3))
  have HG3 := hid (gr_alloc HG2.out (.cells #[.int .i64 12, .int .i64 20, .int .i64 8, .int .i64 30, .int .i64 1, .int .i64 5] 3))
  have HQ_3 := hid (HQ_2.out.alloc (.cells #[.int .i64 12, .int .i64 20, .int .i64 8, .int .i64 30, .int .i64 1, .int .i64 5] 3))
  have HR_3 := hid (HR_2.out.alloc (.cells #[.int .i64 12, .int .i64 20, .int .i64 8, .int .i64 30, .int .i64 1, .int .i64 5] 3))
  go_wp2_with fail
  refine (one_c B a _ [12, 20, 8, 30, 1, 5] _ _ HR3.out ZL.out (by simp [Value.ownBlock]; omega) (by simp) (by simp) (by omega)).mono ?_
  rintro e w1 ⟨x1, rfl, hp, hR, hg⟩
  have hx1 : 1 ≤ x1 ∧ x1 ≤ 30 := by simp at hp; omega
  clear hp ZL
  have HR4 := hid hR
  have HG4 := hid (grown_trans HG3.out hg)
  have HQ_4 := hid (HQ_3.out.grown hg (fun e => by injection e with e; omega))
  have HR_4 := hid (HR_3.out.grown hg (fun e => by injection e with e; omega))
  have hs4 := hg.size
  (try simp only [World.size_alloc, World.size_setCell] at hs4)
  clear hR hg
  try clear c_Q f_Q l_Q
  have c_Q := fun (o : Nat) => HQ_4.out.cell o
  have f_Q := fun (o : Nat) => HQ_4.out.frz o
  have l_Q := HQ_4.out.lt
  try clear c_R f_R l_R
  have c_R := fun (o : Nat) => HR_4.out.cell o
  have f_R := fun (o : Nat) => HR_4.out.frz o
  have l_R := HR_4.out.lt
  have ZL := hid (lit_row (w1) (w1.heap.size) (by simp) #[.int .i64 10, .int .i64 16, .int .i64 6, .int .i64 20, .int .i64 1, .int .i64 9] [10, 16, 6, 20, 1, 9] 6 rfl rfl (by simp [maxLen]))
  have HR5 := hid (HR4.out.alloc (.cells #[.int .i64 10, .int .i64 16, .int .i64 6, .int .i64 20, .int .i64 1, .int .i64 9] 3))
  have HG5 := hid (gr_alloc HG4.out (.cells #[.int .i64 10, .int .i64 16, .int .i64 6, .int .i64 20, .int .i64 1, .int .i64 9] 3))
  have HQ_5 := hid (HQ_4.out.alloc (.cells #[.int .i64 10, .int .i64 16, .int .i64 6, .int .i64 20, .int .i64 1, .int .i64 9] 3))
  have HR_5 := hid (HR_4.out.alloc (.cells #[.int .i64 10, .int .i64 16, .int .i64 6, .int .i64 20, .int .i64 1, .int .i64 9] 3))
  go_wp2_with fail
  refine (one_c B a _ [10, 16, 6, 20, 1, 9] _ _ HR5.out ZL.out (by simp [Value.ownBlock]; omega) (by simp) (by simp) (by omega)).mono ?_
  rintro e w2 ⟨x2, rfl, hp, hR, hg⟩
  have hx2 : 1 ≤ x2 ∧ x2 ≤ 20 := by simp at hp; omega
  clear hp ZL
  have HR6 := hid hR
  have HG6 := hid (grown_trans HG5.out hg)
  have HQ_6 := hid (HQ_5.out.grown hg (fun e => by injection e with e; omega))
  have HR_6 := hid (HR_5.out.grown hg (fun e => by injection e with e; omega))
  have hs6 := hg.size
  (try simp only [World.size_alloc, World.size_setCell] at hs6)
  clear hR hg
  try clear c_Q f_Q l_Q
  have c_Q := fun (o : Nat) => HQ_6.out.cell o
  have f_Q := fun (o : Nat) => HQ_6.out.frz o
  have l_Q := HQ_6.out.lt
  try clear c_R f_R l_R
  have c_R := fun (o : Nat) => HR_6.out.cell o
  have f_R := fun (o : Nat) => HR_6.out.frz o
  have l_R := HR_6.out.lt
  have HR7 := hid (HR6.out.alloc (.cells #[.int .i64 x1, .int .i64 x2, .slice none 0 0] 47))
  have HG7 := hid (gr_alloc HG6.out (.cells #[.int .i64 x1, .int .i64 x2, .slice none 0 0] 47))
  have HQ_7 := hid (HQ_6.out.alloc (.cells #[.int .i64 x1, .int .i64 x2, .slice none 0 0] 47))
  have HR_7 := hid (HR_6.out.alloc (.cells #[.int .i64 x1, .int .i64 x2, .slice none 0 0] 47))
  have HK_7 := hid (show Blk (w2.alloc (.cells #[.int .i64 x1, .int .i64 x2, .slice none 0 0] 47)) (w2.heap.size) #[.int .i64 x1, .int .i64 x2, .slice none 0 0] 47 by have := Blk.new w2 #[.int .i64 x1, .int .i64 x2, .slice none 0 0] 47; simpa using this)
  obtain ⟨wA, hwA⟩ : ∃ Z : World, Z = w2.alloc (.cells #[.int .i64 x1, .int .i64 x2, .slice none 0 0] 47) := ⟨_, rfl⟩
  have HS := hid (show WSt B a (w2.heap.size) x1 x2 (m + 1 + 1) w wA by rw [hwA]; exact ⟨HR7.out, HG7.out, HK_7.out, HQ_7.out, HR_7.out, by omega, hla, hlo⟩)
  have hkA : w2.heap.size < wA.heap.size := HS.out.kw.lt
  have hsA : w.heap.size + 1 < wA.heap.size := HS.out.rr.lt
  go_upto_region 2 with (fail)
  rw [← hwA]
  try clear c_Q f_Q l_Q c_R f_R l_R c_K f_K l_K
  clear hwA
  obtain ⟨kb, hkb⟩ : ∃ q, q = w2.heap.size := ⟨_, rfl⟩
  rw [← hkb] at HS hkA ⊢
  clear hkb
  have hkl : w.heap.size + 1 < kb := HS.out.lk
  have c_K := fun (o : Nat) => HS.out.kw.cell o
  go_cut [4, 5] (fun v u wx => ∃ pb : Nat, v = .pointer (some ⟨kb, 0, none⟩) ∧ u = .pointer (some ⟨pb, 0, none⟩) ∧ WRel B a kb pb x1 x2 m w wx)
  case first =>
    have S1 := hid (show WSt B a kb x1 x2 (m + 1 + 1) w ((wA.alloc (.cells #[.int .i64 3, .int .i64 2, .int .i64 4, .int .i64 1, .int .i64 0] 3)).drew) from HS.out.go (((Below.refl _ _).alloc (Nat.le_refl _) _).drew))
    have S2 := hid (show WSt B a kb x1 x2 (m + 1 + 1) w (((wA.alloc (.cells #[.int .i64 0, .int .i64 0, .int .i64 0, .bool false, .slice none 0 0] 30)).alloc (.cells #[.int .i64 3, .int .i64 2, .int .i64 4, .int .i64 1, .int .i64 0] 3)).drew) from HS.out.go ((((Below.refl _ _).alloc (Nat.le_refl _) _).alloc (by simp) _).drew))
    have S3 := hid (show WSt B a kb x1 x2 (m + 1 + 1) w (((wA.alloc (.cells #[.int .i64 3, .int .i64 2, .int .i64 4, .int .i64 1, .int .i64 0] 3)).alloc (.cells #[.int .i64 0, .int .i64 0, .int .i64 0, .bool false, .slice none 0 0] 30)).drew) from HS.out.go ((((Below.refl _ _).alloc (Nat.le_refl _) _).alloc (by simp) _).drew))
    have ZL1 := hid ((lit_row wA wA.heap.size (by simp) #[.int .i64 3, .int .i64 2, .int .i64 4, .int .i64 1, .int .i64 0] [3, 2, 4, 1, 0] 5 rfl rfl (by simp [maxLen])).drR (Dr.refl _).one)
    have ZL2 := hid ((lit_row (wA.alloc (.cells #[.int .i64 0, .int .i64 0, .int .i64 0, .bool false, .slice none 0 0] 30)) (wA.heap.size + 1) (by simp) #[.int .i64 3, .int .i64 2, .int .i64 4, .int .i64 1, .int .i64 0] [3, 2, 4, 1, 0] 5 rfl rfl (by simp [maxLen])).drR (Dr.refl _).one)
    have ZL3 := hid (((lit_row wA wA.heap.size (by simp) #[.int .i64 3, .int .i64 2, .int .i64 4, .int .i64 1, .int .i64 0] [3, 2, 4, 1, 0] 5 rfl rfl (by simp [maxLen])).go ((Below.refl _ _).alloc (Nat.le_refl _) (.cells #[.int .i64 0, .int .i64 0, .int .i64 0, .bool false, .slice none 0 0] 30))).drR (Dr.refl _).one)
    have P2 := hid (show Blk (((wA.alloc (.cells #[.int .i64 0, .int .i64 0, .int .i64 0, .bool false, .slice none 0 0] 30)).alloc (.cells #[.int .i64 3, .int .i64 2, .int .i64 4, .int .i64 1, .int .i64 0] 3)).drew) wA.heap.size #[.int .i64 0, .int .i64 0, .int .i64 0, .bool false, .slice none 0 0] 30 from ((Blk.new wA #[.int .i64 0, .int .i64 0, .int .i64 0, .bool false, .slice none 0 0] 30).alloc _).draw1)
    have P3 := hid (show Blk (((wA.alloc (.cells #[.int .i64 3, .int .i64 2, .int .i64 4, .int .i64 1, .int .i64 0] 3)).alloc (.cells #[.int .i64 0, .int .i64 0, .int .i64 0, .bool false, .slice none 0 0] 30)).drew) (wA.heap.size + 1) #[.int .i64 0, .int .i64 0, .int .i64 0, .bool false, .slice none 0 0] 30 from Blk.draw1 (by have := Blk.new (wA.alloc (.cells #[.int .i64 3, .int .i64 2, .int .i64 4, .int .i64 1, .int .i64 0] 3)) #[.int .i64 0, .int .i64 0, .int .i64 0, .bool false, .slice none 0 0] 30; simpa using this))
    go_region_held3 (fun w' => w'.cell? ⟨kb, 0, none⟩ = some (.int .i64 x1) ∧ w'.cell? ⟨kb, 1, none⟩ = some (.int .i64 x2)) (first | with_reducible exact blk01 (HS.out.kw.draw1) | with_reducible exact blk01 ((HS.out.kw.alloc _).draw1) | with_reducible exact blk01 (((HS.out.kw.alloc _).alloc _).draw1) | with_reducible exact blk01 (SB.out.kw) | with_reducible exact blk01 ((SB.out.kw.alloc _)) | with_reducible exact blk01 (ZK.out) | with_reducible exact blk01 ((ZK.out.alloc _)) | with_reducible exact blk01s ZK.out (Ne.symm PL.out.1) _ _ _ _ _ | with_reducible exact blk01s ZK.out (Nat.ne_of_lt SB.out.kw.lt) _ _ _ _ _ | with_reducible exact blk01s (ZK.out.alloc _) (Nat.ne_of_lt ZK.out.lt) _ _ _ _ _ | (trace_state; fail)) (first | (go_at_call 61; ((with_reducible refine (one_c B a _ [3, 2, 4, 1, 0] (m + 1 + 1) _ S1.out.rd ZL1.out (by simp [Value.ownBlock]; omega) (by simp) (by simp) (by omega)).mono ?_); rintro e wb ⟨x3, rfl, hp, hR, hg⟩; have hx3 : 0 ≤ x3 ∧ x3 ≤ 4 := (by simp at hp; omega); clear hp; obtain ⟨d, rfl⟩ := Int.eq_ofNat_of_zero_le hx3.1; have hd4 : d ≤ 4 := (by omega); have hcd := gcst_4 d hd4; have SB := hid (S1.out.pick hR hg); have hsb := hg.size; clear hR hg hx3 hcd)) | (go_at_call 61; ((with_reducible refine (one_c B a _ [3, 2, 4, 1, 0] (m + 1 + 1) _ S2.out.rd ZL2.out (by simp [Value.ownBlock]; omega) (by simp) (by simp) (by omega)).mono ?_); rintro e wb ⟨x3, rfl, hp, hR, hg⟩; have hx3 : 0 ≤ x3 ∧ x3 ≤ 4 := (by simp at hp; omega); clear hp; obtain ⟨d, rfl⟩ := Int.eq_ofNat_of_zero_le hx3.1; have hd4 : d ≤ 4 := (by omega); have hcd := gcst_4 d hd4; have SB := hid (S2.out.pick hR hg); have hsb := hg.size; have PB := hid (P2.out.grown hg (fun e => by injection e with e; omega)); have PL : Hid (wA.heap.size ≠ kb ∧ w.heap.size + 1 < wA.heap.size ∧ wA.heap.size < wb.heap.size) := (by rw [Hid]; simp at hsb; omega); clear hR hg hx3 hcd)) | (go_at_call 61; ((with_reducible refine (one_c B a _ [3, 2, 4, 1, 0] (m + 1 + 1) _ S3.out.rd ZL3.out (by simp [Value.ownBlock]; omega) (by simp) (by simp) (by omega)).mono ?_); rintro e wb ⟨x3, rfl, hp, hR, hg⟩; have hx3 : 0 ≤ x3 ∧ x3 ≤ 4 := (by simp at hp; omega); clear hp; obtain ⟨d, rfl⟩ := Int.eq_ofNat_of_zero_le hx3.1; have hd4 : d ≤ 4 := (by omega); have hcd := gcst_4 d hd4; have SB := hid (S3.out.pick hR hg); have hsb := hg.size; have PB := hid (P3.out.grown hg (fun e => by injection e with e; omega)); have PL : Hid (wA.heap.size + 1 ≠ kb ∧ w.heap.size + 1 < wA.heap.size + 1 ∧ wA.heap.size + 1 < wb.heap.size) := (by rw [Hid]; simp at hsb; omega); clear hR hg hx3 hcd)) | (go_at_call 62; ((with_reducible refine (grow_k d (by omega) B a kb (kb + 1) x1 x2 (m + 1 + 1 + 1) x1 x2 (.slice none 0 0) [] _ SB.out.rd (by have := gcst_4 d hd4; omega) (by omega) (by omega) SB.out.kw (Own.nil_ _ _ _) (by simp) ⟨by omega, by omega, Nat.succ_le_of_lt SB.out.kw.lt, by omega, by omega⟩).mono ?_); rintro e wc ⟨s, p, pv, F, rfl, b1, b2, b3, b4, b5, b6, b7, b8⟩; have HB := hid (And.intro b1 (And.intro b2 (And.intro b3 (And.intro b4 (And.intro b5 b8))))); have ZK := hid b4; have hsc := b8.size; have PC := hid (b8.blk PB.out (fun e => by have h1 := PL.out; rcases e with e | e | e; omega; omega; cases e)); have c_P := (fun (o : Nat) => PC.out.cell o); have f_P := (fun (o : Nat) => PC.out.frz o); have l_P := PC.out.lt; clear b1 b2 b3 b4 b5 b6 b7 b8)) | (have SD := hid (SB.out.go ((Below.refl _ _).alloc (Nat.le_refl _) (.cells #[.int .i64 0, .int .i64 0, .int .i64 0, .bool false, .slice none 0 0] 30))); (go_at_call 62; ((with_reducible refine (grow_k d (by omega) B a kb (kb + 1) x1 x2 (m + 1 + 1 + 1) x1 x2 (.slice none 0 0) [] _ SD.out.rd (by have := gcst_4 d hd4; omega) (by omega) (by omega) SD.out.kw (Own.nil_ _ _ _) (by simp) ⟨by omega, by omega, Nat.succ_le_of_lt SD.out.kw.lt, by omega, by omega⟩).mono ?_); rintro e wc ⟨s, p, pv, F, rfl, b1, b2, b3, b4, b5, b6, b7, b8⟩; have HB := hid (And.intro b1 (And.intro b2 (And.intro b3 (And.intro b4 (And.intro b5 b8))))); have ZK := hid b4; have hsc := b8.size; have PC := hid (b8.blk (Blk.new wb #[.int .i64 0, .int .i64 0, .int .i64 0, .bool false, .slice none 0 0] 30) (fun e => by have h1 := SB.out.kw.lt; have h2 := SB.out.rd.lt; rcases e with e | e | e; omega; omega; cases e)); have c_P := (fun (o : Nat) => PC.out.cell o); have f_P := (fun (o : Nat) => PC.out.frz o); have l_P := PC.out.lt; clear b1 b2 b3 b4 b5 b6 b7 b8))) | (go_at_call 62; ((with_reducible refine (grow_k d (by omega) B a kb (kb + 1) x1 x2 (m + 1 + 1 + 1) x1 x2 (.slice none 0 0) [] _ SB.out.rd (by have := gcst_4 d hd4; omega) (by omega) (by omega) SB.out.kw (Own.nil_ _ _ _) (by simp) ⟨by omega, by omega, Nat.succ_le_of_lt SB.out.kw.lt, by omega, by omega⟩).mono ?_); rintro e wc ⟨s, p, pv, F, rfl, b1, b2, b3, b4, b5, b6, b7, b8⟩; have HB := hid (And.intro b1 (And.intro b2 (And.intro b3 (And.intro b4 (And.intro b5 b8))))); have ZK := hid b4; have hsc := b8.size; clear b1 b2 b3 b4 b5 b6 b7 b8)) | fail)
    all_goals
      obtain ⟨b1, b2, b3, b4, b5, b8⟩ := HB.out
      have hrr := SB.out.rr.lt
      have hkk := ZK.out.lt
      go_wp2
      go_meet
      case rel => first | exact ⟨_, rfl, rfl, wrel_mk SB.out hd4 (by omega) b1 b2 b3 b4 b5 b8 ((((((Kp.refl (fun q => q = wA.heap.size) wc).set (q := wA.heap.size) (.inl rfl) 0 (.int .i64 s.o)).set (q := wA.heap.size) (.inl rfl) 1 (.int .i64 s.a)).set (q := wA.heap.size) (.inl rfl) 2 (.int .i64 s.p)).set (q := wA.heap.size) (.inl rfl) 3 (.bool s.t)).set (q := wA.heap.size) (.inl rfl) 4 (.slice s.ka s.kn s.kc)) (by have := ((((PC.out.set 0 (.int .i64 s.o)).set 1 (.int .i64 s.a)).set 2 (.int .i64 s.p)).set 3 (.bool s.t)).set 4 (.slice s.ka s.kn s.kc); simpa using this) (.inl PL.out.2.2) PL.out.1 PL.out.2.1⟩ | exact ⟨_, rfl, rfl, wrel_mk SB.out hd4 (by omega) b1 b2 b3 b4 b5 b8 ((((((Kp.refl (fun q => q = (wA.heap.size + 1)) wc).set (q := (wA.heap.size + 1)) (.inl rfl) 0 (.int .i64 s.o)).set (q := (wA.heap.size + 1)) (.inl rfl) 1 (.int .i64 s.a)).set (q := (wA.heap.size + 1)) (.inl rfl) 2 (.int .i64 s.p)).set (q := (wA.heap.size + 1)) (.inl rfl) 3 (.bool s.t)).set (q := (wA.heap.size + 1)) (.inl rfl) 4 (.slice s.ka s.kn s.kc)) (by have := ((((PC.out.set 0 (.int .i64 s.o)).set 1 (.int .i64 s.a)).set 2 (.int .i64 s.p)).set 3 (.bool s.t)).set 4 (.slice s.ka s.kn s.kc); simpa using this) (.inl PL.out.2.2) PL.out.1 PL.out.2.1⟩ | exact ⟨_, rfl, rfl, wrel_mk SD.out hd4 (by omega) b1 b2 b3 b4 b5 b8 ((((((Kp.refl (fun q => q = wb.heap.size) wc).set (q := wb.heap.size) (.inl rfl) 0 (.int .i64 s.o)).set (q := wb.heap.size) (.inl rfl) 1 (.int .i64 s.a)).set (q := wb.heap.size) (.inl rfl) 2 (.int .i64 s.p)).set (q := wb.heap.size) (.inl rfl) 3 (.bool s.t)).set (q := wb.heap.size) (.inl rfl) 4 (.slice s.ka s.kn s.kc)) (by have := ((((PC.out.set 0 (.int .i64 s.o)).set 1 (.int .i64 s.a)).set 2 (.int .i64 s.p)).set 3 (.bool s.t)).set 4 (.slice s.ka s.kn s.kc); simpa using this) (.inl (by simp)) (Nat.ne_of_gt SB.out.kw.lt) hrr⟩ | exact ⟨_, rfl, rfl, wrel_mk SB.out hd4 (by omega) b1 b2 b3 b4 b5 b8 ((Kp.refl _ _).alloc _) (Blk.new _ _ _) (.inr (Nat.le_refl _)) (Nat.ne_of_gt hkk) (by omega)⟩ | (trace_state; fail)
  case rest =>
    obtain ⟨pb, rfl, rfl, hW⟩ := hcut
    obtain ⟨s, pl, pA, pn, pc, k1, k2, k3, k4, k5, k6, k7, k8, k9, k10⟩ := hW
    have HK := hid k1
    have HP := hid k2
    have HX := hid (And.intro k3 (And.intro k4 (And.intro k5 k6)))
    have HQ := hid k7
    have HR := hid k8
    have hks := k6.size
    clear k1 k2 k3 k4 k5 k6 k7 k8 c_K
    have c_K := fun (o : Nat) => HK.out.cell o
    have f_K := fun (o : Nat) => HK.out.frz o
    have l_K := HK.out.lt
    have c_P := fun (o : Nat) => HP.out.cell o
    have f_P := fun (o : Nat) => HP.out.frz o
    have l_P := HP.out.lt
    have c_Q := fun (o : Nat) => HQ.out.cell o
    have f_Q := fun (o : Nat) => HQ.out.frz o
    have l_Q := HQ.out.lt
    have c_R := fun (o : Nat) => HR.out.cell o
    have f_R := fun (o : Nat) => HR.out.frz o
    have l_R := HR.out.lt
    go_upto_region 3 with (fail)
    go_region
    all_goals
      obtain ⟨wf, hwf⟩ : ∃ Z : World, Z = ((((((((wc.setCell ⟨w.heap.size, 0, none⟩ (.int .i64 x1)).setCell ⟨w.heap.size, 1, none⟩ (.int .i64 x2)).setCell ⟨w.heap.size, 2, none⟩ (.slice pA pn pc)).setCell ⟨w.heap.size + 1, 0, none⟩ (.int .i64 s.o)).setCell ⟨w.heap.size + 1, 1, none⟩ (.int .i64 s.a)).setCell ⟨w.heap.size + 1, 2, none⟩ (.int .i64 s.p)).setCell ⟨w.heap.size + 1, 3, none⟩ (.bool s.t)).setCell ⟨w.heap.size + 1, 4, none⟩ (.slice s.ka s.kn s.kc)).drew := ⟨_, rfl⟩
      have BQ := hid (show Blk wf w.heap.size #[.int .i64 x1, .int .i64 x2, .slice pA pn pc] 47 by rw [hwf]; have := ((((((((HQ.out).set 0 (.int .i64 x1)).set 1 (.int .i64 x2)).set 2 (.slice pA pn pc)).setO (p := ⟨w.heap.size + 1, 0, none⟩) (by simp) (.int .i64 s.o)).setO (p := ⟨w.heap.size + 1, 1, none⟩) (by simp) (.int .i64 s.a)).setO (p := ⟨w.heap.size + 1, 2, none⟩) (by simp) (.int .i64 s.p)).setO (p := ⟨w.heap.size + 1, 3, none⟩) (by simp) (.bool s.t)).setO (p := ⟨w.heap.size + 1, 4, none⟩) (by simp) (.slice s.ka s.kn s.kc); exact Blk.draw1 (by simpa using this))
      have BR := hid (show Blk wf (w.heap.size + 1) #[.int .i64 s.o, .int .i64 s.a, .int .i64 s.p, .bool s.t, .slice s.ka s.kn s.kc] 30 by rw [hwf]; have := ((((((((HR.out).setO (p := ⟨w.heap.size, 0, none⟩) (by simp) (.int .i64 x1)).setO (p := ⟨w.heap.size, 1, none⟩) (by simp) (.int .i64 x2)).setO (p := ⟨w.heap.size, 2, none⟩) (by simp) (.slice pA pn pc)).set 0 (.int .i64 s.o)).set 1 (.int .i64 s.a)).set 2 (.int .i64 s.p)).set 3 (.bool s.t)).set 4 (.slice s.ka s.kn s.kc); exact Blk.draw1 (by simpa using this))
      have HKP := hid (show Kp (fun q => q = w.heap.size ∨ q = w.heap.size + 1) wc wf by rw [hwf]; exact (((((((((Kp.refl (fun q => q = w.heap.size ∨ q = w.heap.size + 1) wc).set (q := w.heap.size) (.inl (.inl rfl)) 0 (.int .i64 x1)).set (q := w.heap.size) (.inl (.inl rfl)) 1 (.int .i64 x2)).set (q := w.heap.size) (.inl (.inl rfl)) 2 (.slice pA pn pc)).set (q := w.heap.size + 1) (.inl (.inr rfl)) 0 (.int .i64 s.o)).set (q := w.heap.size + 1) (.inl (.inr rfl)) 1 (.int .i64 s.a)).set (q := w.heap.size + 1) (.inl (.inr rfl)) 2 (.int .i64 s.p)).set (q := w.heap.size + 1) (.inl (.inr rfl)) 3 (.bool s.t)).set (q := w.heap.size + 1) (.inl (.inr rfl)) 4 (.slice s.ka s.kn s.kc)).dr (Dr.refl _).one)
      rw [← hwf]
      clear hwf c_K f_K l_K c_P f_P l_P c_Q f_Q l_Q c_R f_R l_R
      have c_BQ := fun (o : Nat) => BQ.out.cell o
      have c_BR := fun (o : Nat) => BR.out.cell o
      go_wp2
      refine bodyPost_ret (v := .tuple #[.agg #[.int .i64 x1, .int .i64 x2, .slice pA pn pc], .agg #[.int .i64 s.o, .int .i64 s.a, .int .i64 s.p, .bool s.t, .slice s.ka s.kn s.kc]]) (by simp [results, Try.results36, go_sem, c_BQ, c_BR]) rfl ?_
      obtain ⟨k3, k4, k5, k6⟩ := HX.out
      exact ⟨s, pl, x1, x2, pA, pn, pc, rfl, k3, wp_fin k4 k5 k6 hla hlo HKP.out (by omega) (by omega)⟩

theorem RowQ.take {α : Type} {E : Enc α} {ok : Nat → Prop} {w : World} {A : Option Addr} {n c : Nat} {L : List α} (h : RowQ E ok w (.slice A n c) L) (k : Nat) (hk : k ≤ n) : RowQ E ok w (.slice A k c) (L.take k) := by
  obtain ⟨A', c', h0, h1, h2, h3⟩ := h
  injection h0 with hA hn hc
  subst hA; subst hn; subst hc
  have hl : (L.take k).length = k := by simp; omega
  refine ⟨A, c, by rw [hl], by omega, h2, fun h => ?_⟩
  obtain ⟨b, off, rfl, hb, hc⟩ := h3 (by omega)
  refine ⟨b, off, rfl, hb, fun j u hu => hc j u ?_⟩
  rw [← E.flat_take, List.getElem?_take] at hu
  split at hu
  · exact hu
  · cases hu
theorem FQ.take {ok : Nat → Prop} {w : World} {n c k m : Nat} {A : Option Addr} {L : List Pl} (h : FQ ok w n (.slice A m c) L) (hk : k ≤ m) : FQ ok w n (.slice A k c) (L.take k) := by
  cases n with
  | zero => exact h.elim
  | succ n =>
    obtain ⟨S, h1, h2, h3⟩ := h
    refine ⟨S.take k, h1.take k hk, by simp [h2], fun j h4 h5 => ?_⟩
    rw [List.getElem_take, List.getElem_take]
    exact h3 j (by rw [List.length_take] at h4; omega) (by rw [List.length_take] at h5; omega)
theorem FQ.len {ok : Nat → Prop} {w : World} {n m c : Nat} {A : Option Addr} {L : List Pl} (h : FQ ok w n (.slice A m c) L) : m = L.length ∧ m ≤ c ∧ c ≤ maxLen := by
  cases n with
  | zero => exact h.elim
  | succ n =>
    obtain ⟨S, ⟨A', c', h0, h1, h2, -⟩, h3, -⟩ := h
    injection h0 with hA hn hc
    subst hn; subst hc
    exact ⟨h3, h1, h2⟩
theorem FQ.nilv {ok : Nat → Prop} {w : World} {n m c : Nat} {A : Option Addr} {L : List Pl} (h : FQ ok w n (.slice A m c) L) (hm : 0 < m) : ∃ b off, A = some ⟨b, off, none⟩ := by
  cases n with
  | zero => exact h.elim
  | succ n =>
    obtain ⟨S, ⟨A', c', h0, h1, h2, h4⟩, h3, -⟩ := h
    injection h0 with hA hn hc
    subst hA; subst hn
    obtain ⟨b, off, e, -⟩ := h4 hm
    exact ⟨b, off, e⟩

/-- Where the walk of anyPlan stands: the reader, the work in block kb, the plan in block pb, the result's two blocks; the plan's rows lie from block w.heap.size + 2 on below N. -/
structure ASt (B a kb pb N : Nat) (m : Int) (n : Nat) (W H : Int) (pA : Option Addr) (pn pc : Nat) (s : Sh) (p : Pl) (w w1 : World) : Prop where
  rd : Rd B w1 a m
  gr : w.grownBy w1 (some a)
  kw : Blk w1 kb #[.int .i64 W, .int .i64 H, .slice pA pn pc] 47
  pw : Blk w1 pb #[.int .i64 s.o, .int .i64 s.a, .int .i64 s.p, .bool s.t, .slice s.ka s.kn s.kc] 30
  fq : FQ (fun q => w.heap.size + 1 < q ∧ q < N) w1 n s.kv p.ks
  sm : s.same p
  rq : Blk w1 w.heap.size #[.int .i64 0, .int .i64 0, .slice none 0 0] 47
  rr : Blk w1 (w.heap.size + 1) #[.int .i64 0, .int .i64 0, .int .i64 0, .bool false, .slice none 0 0] 30
  lk : N ≤ kb
  lp : N ≤ pb
  nkp : kb ≠ pb
  lN : w.heap.size + 1 < N
  la : a < w.heap.size
  lB : B ≤ a
section
variable {B a kb pb N : Nat} {m : Int} {n : Nat} {W H : Int} {pA : Option Addr} {pn pc : Nat} {s : Sh} {p : Pl} {w w1 w2 : World}
theorem ASt.up (h : ASt B a kb pb N m n W H pA pn pc s p w w1) {m' : Int} (hm : m ≤ m') : ASt B a kb pb N m' n W H pA pn pc s p w w1 := { h with rd := h.rd.up hm }
theorem ASt.go (h : ASt B a kb pb N m n W H pA pn pc s p w w1) (hb : Below w1.heap.size w1 w2) : ASt B a kb pb N m n W H pA pn pc s p w w2 :=
  have hl := h.kw.lt
  have hk := h.lk
  ⟨h.rd.below hb, gr_below h.gr hb, h.kw.go hb, h.pw.go hb, h.fq.heap (fun q hq => hb.block q (by omega)) (fun q hq => hq), h.sm, h.rq.go hb, h.rr.go hb, h.lk, h.lp, h.nkp, h.lN, h.la, h.lB⟩
theorem ASt.pick {m' : Int} (h : ASt B a kb pb N m n W H pA pn pc s p w w1) (hR : Rd B w2 a m') (hg : w1.grownBy w2 (some a)) : ASt B a kb pb N m' n W H pA pn pc s p w w2 :=
  have hl := h.kw.lt
  have hk := h.lk
  have hp := h.lp
  have hN := h.lN
  have ha := h.la
  ⟨hR, grown_trans h.gr hg, h.kw.grown hg (fun e => by injection e with e; omega), h.pw.grown hg (fun e => by injection e with e; omega), h.fq.heap (fun q hq => hg.block q (by omega) (fun e => by injection e with e; omega)) (fun q hq => hq), h.sm, h.rq.grown hg (fun e => by injection e with e; omega), h.rr.grown hg (fun e => by injection e with e; omega), h.lk, h.lp, h.nkp, h.lN, h.la, h.lB⟩
theorem ASt.setP (h : ASt B a kb pb N m n W H pA pn pc s p w w1) (i : Nat) (u : Value) (s' : Sh) (p' : Pl) (hc : (#[.int .i64 s.o, .int .i64 s.a, .int .i64 s.p, .bool s.t, .slice s.ka s.kn s.kc] : Array Value).setIfInBounds i u = #[.int .i64 s'.o, .int .i64 s'.a, .int .i64 s'.p, .bool s'.t, .slice s'.ka s'.kn s'.kc])
    (hs : s'.same p') (hf : FQ (fun q => w.heap.size + 1 < q ∧ q < N) w1 n s'.kv p'.ks) : ASt B a kb pb N m n W H pA pn pc s' p' w (w1.setCell ⟨pb, i, none⟩ u) := by
  have hl := h.kw.lt
  have hk := h.lk
  have hp := h.lp
  have hN := h.lN
  have ha := h.la
  have hB := h.lB
  have hbl : ∀ q, q ≠ pb → (w1.setCell ⟨pb, i, none⟩ u).heap[q]? = w1.heap[q]? := fun q hq => heap_setCell_other w1 ⟨pb, i, none⟩ q u hq
  refine ⟨h.rd.set (by omega) (by omega) i u, gr_set h.gr (by omega) i u, h.kw.setO (p := ⟨pb, i, none⟩) h.nkp u, ?_, hf.heap (fun q hq => hbl q (by omega)) (fun q hq => hq), hs, h.rq.setO (p := ⟨pb, i, none⟩) (by simp; omega) u, h.rr.setO (p := ⟨pb, i, none⟩) (by simp; omega) u, hk, hp, h.nkp, hN, ha, hB⟩
  have := h.pw.set i u
  rw [hc] at this
  exact this
theorem ASt.setK (h : ASt B a kb pb N m n W H pA pn pc s p w w1) (x : Int) : ASt B a kb pb N m n x H pA pn pc s p w (w1.setCell ⟨kb, 0, none⟩ (.int .i64 x)) := by
  have hl := h.kw.lt
  have hk := h.lk
  have hp := h.lp
  have hN := h.lN
  have ha := h.la
  have hB := h.lB
  have hbl : ∀ q, q ≠ kb → (w1.setCell ⟨kb, 0, none⟩ (.int .i64 x)).heap[q]? = w1.heap[q]? := fun q hq => heap_setCell_other w1 ⟨kb, 0, none⟩ q _ hq
  refine ⟨h.rd.set (by omega) (by omega) 0 _, gr_set h.gr (by omega) 0 _, ?_, h.pw.setO (p := ⟨kb, 0, none⟩) h.nkp.symm _, h.fq.heap (fun q hq => hbl q (by omega)) (fun q hq => hq), h.sm, h.rq.setO (p := ⟨kb, 0, none⟩) (by simp; omega) _, h.rr.setO (p := ⟨kb, 0, none⟩) (by simp; omega) _, hk, hp, h.nkp, hN, ha, hB⟩
  have := h.kw.set 0 (.int .i64 x)
  simpa using this
end
/-- What a call answers that draws a work and some plan. -/
def AnyOut (B a : Nat) (m : Int) (w : World) (e : Ending) (w' : World) : Prop :=
  ∃ (n : Nat) (s : Sh) (p : Pl) (W H : Int) (pA : Option Addr) (pn pc : Nat), e = .returned (.tuple #[.agg #[.int .i64 W, .int .i64 H, .slice pA pn pc], .agg #[.int .i64 s.o, .int .i64 s.a, .int .i64 s.p, .bool s.t, .slice s.ka s.kn s.kc]]) ∧ s.same p ∧ FQ (fun q => w.heap.size ≤ q ∧ q < w'.heap.size) w' n s.kv p.ks ∧ Rd B w' a m ∧ w.grownBy w' (some a)
theorem any_fin {B a kb pb N : Nat} {m : Int} {n : Nat} {W H : Int} {pA : Option Addr} {pn pc : Nat} {s : Sh} {p : Pl} {w wx wf : World} (h : ASt B a kb pb N m n W H pA pn pc s p w wx) (hf : Kp (fun q => q = w.heap.size ∨ q = w.heap.size + 1) wx wf) : AnyOut B a m w (.returned (.tuple #[.agg #[.int .i64 W, .int .i64 H, .slice pA pn pc], .agg #[.int .i64 s.o, .int .i64 s.a, .int .i64 s.p, .bool s.t, .slice s.ka s.kn s.kc]])) wf := by
  have hs := hf.size
  have h6 := h.gr
  have hs6 := h6.size
  have hl5 := h.rd.lt
  have hla := h.la
  have hlo := h.lB
  have hl := h.kw.lt
  have hk := h.lk
  refine ⟨n, s, p, W, H, pA, pn, pc, rfl, h.sm, h.fq.heap (fun q hq => hf.block q (by omega) (by omega)) (fun q hq => ⟨by omega, by omega⟩), ?_, ?_⟩
  · obtain ⟨A, n, c, L, q, e1, e2, e3, e4⟩ := h.rd
    exact ⟨A, n, c, L, q, (hf.block a hl5 (by omega)).trans e1, e2.heap (fun k hk => hf.block k (by omega) (by omega)), e3, e4⟩
  · exact ⟨hf.os.trans h6.os, hf.tape.trans h6.tape, hf.output.trans h6.output, by omega, fun k hk hne => (hf.block k (by omega) (by omega)).trans (h6.block k hk hne)⟩

set_option maxHeartbeats 6400000 in
set_option maxRecDepth 100000 in
theorem anyPlan_c (B a : Nat) (m : Int) (w : World) (h : Rd B w a m) (hm : m ≤ 400000) : Calls Try.prog 43 #[.pointer (some ⟨a, 0, none⟩)] w (AnyOut B a (m + 500) w) := by
  have HR0 := hid h
  have HG0 := hid (World.grownBy.refl w (some a))
  have hla := h.lt
  have hlo := h.lo
  clear h
  go_enter Try.func43, Try.ntmps43
  have HR1 := hid (HR0.out.alloc (.cells #[.int .i64 0, .int .i64 0, .slice none 0 0] 47))
  have HG1 := hid (gr_alloc HG0.out (.cells #[.int .i64 0, .int .i64 0, .slice none 0 0] 47))
  have HQ_1 := hid (show Blk (w.alloc (.cells #[.int .i64 0, .int .i64 0, .slice none 0 0] 47)) (w.heap.size) #[.int .i64 0, .int .i64 0, .slice none 0 0] 47 by have := Blk.new w #[.int .i64 0, .int .i64 0, .slice none 0 0] 47; simpa using this)
  have HR2 := hid (HR1.out.alloc (.cells #[.int .i64 0, .int .i64 0, .int .i64 0, .bool false, .slice none 0 0] 30))
  have HG2 := hid (gr_alloc HG1.out (.cells #[.int .i64 0, .int .i64 0, .int .i64 0, .bool false, .slice none 0 0] 30))
  have HQ_2 := hid (HQ_1.out.alloc (.cells #[.int .i64 0, .int .i64 0, .int .i64 0, .bool false, .slice none 0 0] 30))
  have HR_2 := hid (show Blk ((w.alloc (.cells #[.int .i64 0, .int .i64 0, .slice none 0 0] 47)).alloc (.cells #[.int .i64 0, .int .i64 0, .int .i64 0, .bool false, .slice none 0 0] 30)) (w.heap.size + 1) #[.int .i64 0, .int .i64 0, .int .i64 0, .bool false, .slice none 0 0] 30 by have := Blk.new (w.alloc (.cells #[.int .i64 0, .int .i64 0, .slice none 0 0] 47)) #[.int .i64 0, .int .i64 0, .int .i64 0, .bool false, .slice none 0 0] 30; simpa using this)
  have hz0 : w.heap.size + 1 + 1 = ((w.alloc (.cells #[.int .i64 0, .int .i64 0, .slice none 0 0] 47)).alloc (.cells #[.int .i64 0, .int .i64 0, .int .i64 0, .bool false, .slice none 0 0] 30)).heap.size := by simp
  have HZ0 := hid hz0
  clear hz0
  go_wp2_with fail
  refine (workPlan_c B a m _ HR2.out (by omega)).mono ?_
  rintro e w1 ⟨s, pl, W, H, pA, pn, pc, rfl, k1, k2, k3, k4, k5, k6⟩
  have hk6 := k6.size
  have hz1 : w.heap.size + 1 < w1.heap.size := by have := HZ0.out; omega
  have hbb := (((Below.refl w1.heap.size w1).alloc (Nat.le_refl _) (.cells #[.int .i64 W, .int .i64 H, .slice pA pn pc] 47)).alloc (by simp) (.cells #[.int .i64 s.o, .int .i64 s.a, .int .i64 s.p, .bool s.t, .slice s.ka s.kn s.kc] 30))
  have HA := hid (show ASt B a w1.heap.size (w1.heap.size + 1) w1.heap.size (m + 400) 5 W H pA pn pc s pl w ((w1.alloc (.cells #[.int .i64 W, .int .i64 H, .slice pA pn pc] 47)).alloc (.cells #[.int .i64 s.o, .int .i64 s.a, .int .i64 s.p, .bool s.t, .slice s.ka s.kn s.kc] 30)) from ⟨k5.below hbb, gr_below (grown_trans HG2.out k6) hbb, (Blk.new w1 _ _).alloc _, by have := Blk.new (w1.alloc (.cells #[.int .i64 W, .int .i64 H, .slice pA pn pc] 47)) #[.int .i64 s.o, .int .i64 s.a, .int .i64 s.p, .bool s.t, .slice s.ka s.kn s.kc] 30; simpa using this, k2.heap (fun q hq => hbb.block q hq.2) (fun q hq => ⟨by have := HZ0.out; omega, hq.2⟩), k1.1, (HQ_2.out.grown k6 (fun e => by injection e with e; omega)).go hbb, (HR_2.out.grown k6 (fun e => by injection e with e; omega)).go hbb, Nat.le_refl _, by omega, by omega, hz1, hla, hlo⟩)
  obtain ⟨kw1, kw2⟩ := k3
  obtain ⟨hkl2, hkl3⟩ := k2.len.2
  unfold maxLen at hkl3
  clear k1 k2 k4 k5 k6 hbb
  go_wp2_with fail
  refine (pick_c B a 20 _ _ HA.out.rd (by omega) (by omega) (by omega)).mono ?_
  rintro e w2 ⟨x, rfl, hp, hR, hg⟩
  have HA2 := hid (HA.out.pick hR hg)
  have hs2 : w1.heap.size + 1 < w2.heap.size := HA2.out.pw.lt
  clear hp hR hg HA
  try clear c_K f_K l_K c_P f_P l_P c_Q f_Q l_Q c_R f_R l_R
  have c_K := fun (o : Nat) => HA2.out.kw.cell o
  have f_K := fun (o : Nat) => HA2.out.kw.frz o
  have l_K := HA2.out.kw.lt
  have c_P := fun (o : Nat) => HA2.out.pw.cell o
  have f_P := fun (o : Nat) => HA2.out.pw.frz o
  have l_P := HA2.out.pw.lt
  have c_Q := fun (o : Nat) => HA2.out.rq.cell o
  have f_Q := fun (o : Nat) => HA2.out.rq.frz o
  have l_Q := HA2.out.rq.lt
  have c_R := fun (o : Nat) => HA2.out.rr.cell o
  have f_R := fun (o : Nat) => HA2.out.rr.frz o
  have l_R := HA2.out.rr.lt
  have hcase : (x == 0) = true ∨ ((x == 0) = false ∧ (x == 1) = true) ∨ ((x == 0) = false ∧ (x == 1) = false ∧ (x == 2) = true) ∨ ((x == 0) = false ∧ (x == 1) = false ∧ (x == 2) = false ∧ (x == 3) = true) ∨ ((x == 0) = false ∧ (x == 1) = false ∧ (x == 2) = false ∧ (x == 3) = false ∧ (x == 4) = true) ∨ ((x == 0) = false ∧ (x == 1) = false ∧ (x == 2) = false ∧ (x == 3) = false ∧ (x == 4) = false ∧ (x == 5) = true) ∨ ((x == 0) = false ∧ (x == 1) = false ∧ (x == 2) = false ∧ (x == 3) = false ∧ (x == 4) = false ∧ (x == 5) = false) := by
    simp only [beq_iff_eq, beq_eq_false_iff_ne]; omega
  rcases hcase with e0 | ⟨e0, e1⟩ | ⟨e0, e1, e2⟩ | ⟨e0, e1, e2, e3⟩ | ⟨e0, e1, e2, e3, e4⟩ | ⟨e0, e1, e2, e3, e4, e5⟩ | ⟨e0, e1, e2, e3, e4, e5⟩
  · have ZL := hid (lit_row w2 w2.heap.size (by simp) #[.int .i64 0, .int .i64 201, .int .i64 (W + 1)] [0, 201, W + 1] 3 rfl rfl (by simp [maxLen]))
    have SB := hid (HA2.out.go ((Below.refl _ _).alloc (Nat.le_refl _) (.cells #[.int .i64 0, .int .i64 201, .int .i64 (W + 1)] 3)))
    go_wp2_with fail
    refine (one_c B a _ [0, 201, W + 1] _ _ SB.out.rd ZL.out (by simp [Value.ownBlock]; omega) (by simp) (by simp) (by omega)).mono ?_
    rintro e w3 ⟨x3, rfl, hp, hR, hg⟩
    have SC := hid (SB.out.pick hR hg)
    clear hp ZL hR hg
    try clear c_K f_K l_K c_P f_P l_P c_Q f_Q l_Q c_R f_R l_R
    have c_K := fun (o : Nat) => SC.out.kw.cell o
    have f_K := fun (o : Nat) => SC.out.kw.frz o
    have l_K := SC.out.kw.lt
    have c_P := fun (o : Nat) => SC.out.pw.cell o
    have f_P := fun (o : Nat) => SC.out.pw.frz o
    have l_P := SC.out.pw.lt
    have c_Q := fun (o : Nat) => SC.out.rq.cell o
    have f_Q := fun (o : Nat) => SC.out.rq.frz o
    have l_Q := SC.out.rq.lt
    have c_R := fun (o : Nat) => SC.out.rr.cell o
    have f_R := fun (o : Nat) => SC.out.rr.frz o
    have l_R := SC.out.rr.lt
    go_upto_region 16 with (fail)
    obtain ⟨wy, hwy⟩ : ∃ Z : World, Z = (w3.setCell ⟨w1.heap.size, 0, none⟩ (.int .i64 x3)) := ⟨_, rfl⟩
    have HY := hid (show ASt B a w1.heap.size (w1.heap.size + 1) w1.heap.size (m + 500) 5 x3 H pA pn pc s pl w wy by rw [hwy]; exact (SC.out.setK x3).up (by omega))
    rw [← hwy]
    clear hwy
    try clear c_K f_K l_K c_P f_P l_P c_Q f_Q l_Q c_R f_R l_R
    have c_K := fun (o : Nat) => HY.out.kw.cell o
    have f_K := fun (o : Nat) => HY.out.kw.frz o
    have l_K := HY.out.kw.lt
    have c_P := fun (o : Nat) => HY.out.pw.cell o
    have f_P := fun (o : Nat) => HY.out.pw.frz o
    have l_P := HY.out.pw.lt
    have c_Q := fun (o : Nat) => HY.out.rq.cell o
    have f_Q := fun (o : Nat) => HY.out.rq.frz o
    have l_Q := HY.out.rq.lt
    have c_R := fun (o : Nat) => HY.out.rr.cell o
    have f_R := fun (o : Nat) => HY.out.rr.frz o
    have l_R := HY.out.rr.lt
    go_region
    all_goals
      obtain ⟨wf, hwf⟩ : ∃ Z : World, Z = ((((((((wy.setCell ⟨w.heap.size, 0, none⟩ (.int .i64 x3)).setCell ⟨w.heap.size, 1, none⟩ (.int .i64 H)).setCell ⟨w.heap.size, 2, none⟩ (.slice pA pn pc)).setCell ⟨w.heap.size + 1, 0, none⟩ (.int .i64 s.o)).setCell ⟨w.heap.size + 1, 1, none⟩ (.int .i64 s.a)).setCell ⟨w.heap.size + 1, 2, none⟩ (.int .i64 s.p)).setCell ⟨w.heap.size + 1, 3, none⟩ (.bool s.t)).setCell ⟨w.heap.size + 1, 4, none⟩ (.slice s.ka s.kn s.kc)).drew := ⟨_, rfl⟩
      have BQ := hid (show Blk wf w.heap.size #[.int .i64 x3, .int .i64 H, .slice pA pn pc] 47 by rw [hwf]; have := ((((((((HY.out.rq).set 0 (.int .i64 x3)).set 1 (.int .i64 H)).set 2 (.slice pA pn pc)).setO (p := ⟨w.heap.size + 1, 0, none⟩) (by simp) (.int .i64 s.o)).setO (p := ⟨w.heap.size + 1, 1, none⟩) (by simp) (.int .i64 s.a)).setO (p := ⟨w.heap.size + 1, 2, none⟩) (by simp) (.int .i64 s.p)).setO (p := ⟨w.heap.size + 1, 3, none⟩) (by simp) (.bool s.t)).setO (p := ⟨w.heap.size + 1, 4, none⟩) (by simp) (.slice s.ka s.kn s.kc); exact Blk.draw1 (by simpa using this))
      have BR := hid (show Blk wf (w.heap.size + 1) #[.int .i64 s.o, .int .i64 s.a, .int .i64 s.p, .bool s.t, .slice s.ka s.kn s.kc] 30 by rw [hwf]; have := ((((((((HY.out.rr).setO (p := ⟨w.heap.size, 0, none⟩) (by simp) (.int .i64 x3)).setO (p := ⟨w.heap.size, 1, none⟩) (by simp) (.int .i64 H)).setO (p := ⟨w.heap.size, 2, none⟩) (by simp) (.slice pA pn pc)).set 0 (.int .i64 s.o)).set 1 (.int .i64 s.a)).set 2 (.int .i64 s.p)).set 3 (.bool s.t)).set 4 (.slice s.ka s.kn s.kc); exact Blk.draw1 (by simpa using this))
      have HKP := hid (show Kp (fun q => q = w.heap.size ∨ q = w.heap.size + 1) wy wf by rw [hwf]; exact (((((((((Kp.refl (fun q => q = w.heap.size ∨ q = w.heap.size + 1) wy).set (q := w.heap.size) (.inl (.inl rfl)) 0 (.int .i64 x3)).set (q := w.heap.size) (.inl (.inl rfl)) 1 (.int .i64 H)).set (q := w.heap.size) (.inl (.inl rfl)) 2 (.slice pA pn pc)).set (q := w.heap.size + 1) (.inl (.inr rfl)) 0 (.int .i64 s.o)).set (q := w.heap.size + 1) (.inl (.inr rfl)) 1 (.int .i64 s.a)).set (q := w.heap.size + 1) (.inl (.inr rfl)) 2 (.int .i64 s.p)).set (q := w.heap.size + 1) (.inl (.inr rfl)) 3 (.bool s.t)).set (q := w.heap.size + 1) (.inl (.inr rfl)) 4 (.slice s.ka s.kn s.kc)).dr (Dr.refl _).one)
      rw [← hwf]
      clear hwf
      try clear c_K f_K l_K c_P f_P l_P c_Q f_Q l_Q c_R f_R l_R
      have c_BQ := fun (o : Nat) => BQ.out.cell o
      have c_BR := fun (o : Nat) => BR.out.cell o
      go_wp2
      exact bodyPost_ret (v := .tuple #[.agg #[.int .i64 x3, .int .i64 H, .slice pA pn pc], .agg #[.int .i64 s.o, .int .i64 s.a, .int .i64 s.p, .bool s.t, .slice s.ka s.kn s.kc]]) (by simp [results, Try.results43, go_sem, c_BQ, c_BR]) rfl (any_fin HY.out HKP.out)
  · have ZL := hid (lit_row w2 w2.heap.size (by simp) #[.int .i64 0, .int .i64 200, .int .i64 (-1)] [0, 200, -1] 3 rfl rfl (by simp [maxLen]))
    have SB := hid (HA2.out.go ((Below.refl _ _).alloc (Nat.le_refl _) (.cells #[.int .i64 0, .int .i64 200, .int .i64 (-1)] 3)))
    go_wp2_with fail
    refine (one_c B a _ [0, 200, -1] _ _ SB.out.rd ZL.out (by simp [Value.ownBlock]; omega) (by simp) (by simp) (by omega)).mono ?_
    rintro e w3 ⟨x3, rfl, hp, hR, hg⟩
    have SC := hid (SB.out.pick hR hg)
    clear hp ZL hR hg
    try clear c_K f_K l_K c_P f_P l_P c_Q f_Q l_Q c_R f_R l_R
    have c_K := fun (o : Nat) => SC.out.kw.cell o
    have f_K := fun (o : Nat) => SC.out.kw.frz o
    have l_K := SC.out.kw.lt
    have c_P := fun (o : Nat) => SC.out.pw.cell o
    have f_P := fun (o : Nat) => SC.out.pw.frz o
    have l_P := SC.out.pw.lt
    have c_Q := fun (o : Nat) => SC.out.rq.cell o
    have f_Q := fun (o : Nat) => SC.out.rq.frz o
    have l_Q := SC.out.rq.lt
    have c_R := fun (o : Nat) => SC.out.rr.cell o
    have f_R := fun (o : Nat) => SC.out.rr.frz o
    have l_R := SC.out.rr.lt
    go_upto_region 16 with (fail)
    obtain ⟨wy, hwy⟩ : ∃ Z : World, Z = (w3.setCell ⟨w1.heap.size + 1, 1, none⟩ (.int .i64 x3)) := ⟨_, rfl⟩
    have HY := hid (show ASt B a w1.heap.size (w1.heap.size + 1) w1.heap.size (m + 500) 5 W H pA pn pc (⟨s.o, x3, s.p, s.t, s.ka, s.kn, s.kc⟩ : Sh) (.mk pl.o x3 pl.p pl.t pl.ks) w wy by rw [hwy]; exact (SC.out.setP 1 (.int .i64 x3) (⟨s.o, x3, s.p, s.t, s.ka, s.kn, s.kc⟩ : Sh) (.mk pl.o x3 pl.p pl.t pl.ks) rfl ⟨SC.out.sm.1, rfl, SC.out.sm.2.2.1, SC.out.sm.2.2.2⟩ SC.out.fq).up (by omega))
    rw [← hwy]
    clear hwy
    try clear c_K f_K l_K c_P f_P l_P c_Q f_Q l_Q c_R f_R l_R
    have c_K := fun (o : Nat) => HY.out.kw.cell o
    have f_K := fun (o : Nat) => HY.out.kw.frz o
    have l_K := HY.out.kw.lt
    have c_P := fun (o : Nat) => HY.out.pw.cell o
    have f_P := fun (o : Nat) => HY.out.pw.frz o
    have l_P := HY.out.pw.lt
    have c_Q := fun (o : Nat) => HY.out.rq.cell o
    have f_Q := fun (o : Nat) => HY.out.rq.frz o
    have l_Q := HY.out.rq.lt
    have c_R := fun (o : Nat) => HY.out.rr.cell o
    have f_R := fun (o : Nat) => HY.out.rr.frz o
    have l_R := HY.out.rr.lt
    go_region
    all_goals
      obtain ⟨wf, hwf⟩ : ∃ Z : World, Z = ((((((((wy.setCell ⟨w.heap.size, 0, none⟩ (.int .i64 W)).setCell ⟨w.heap.size, 1, none⟩ (.int .i64 H)).setCell ⟨w.heap.size, 2, none⟩ (.slice pA pn pc)).setCell ⟨w.heap.size + 1, 0, none⟩ (.int .i64 s.o)).setCell ⟨w.heap.size + 1, 1, none⟩ (.int .i64 x3)).setCell ⟨w.heap.size + 1, 2, none⟩ (.int .i64 s.p)).setCell ⟨w.heap.size + 1, 3, none⟩ (.bool s.t)).setCell ⟨w.heap.size + 1, 4, none⟩ (.slice s.ka s.kn s.kc)).drew := ⟨_, rfl⟩
      have BQ := hid (show Blk wf w.heap.size #[.int .i64 W, .int .i64 H, .slice pA pn pc] 47 by rw [hwf]; have := ((((((((HY.out.rq).set 0 (.int .i64 W)).set 1 (.int .i64 H)).set 2 (.slice pA pn pc)).setO (p := ⟨w.heap.size + 1, 0, none⟩) (by simp) (.int .i64 s.o)).setO (p := ⟨w.heap.size + 1, 1, none⟩) (by simp) (.int .i64 x3)).setO (p := ⟨w.heap.size + 1, 2, none⟩) (by simp) (.int .i64 s.p)).setO (p := ⟨w.heap.size + 1, 3, none⟩) (by simp) (.bool s.t)).setO (p := ⟨w.heap.size + 1, 4, none⟩) (by simp) (.slice s.ka s.kn s.kc); exact Blk.draw1 (by simpa using this))
      have BR := hid (show Blk wf (w.heap.size + 1) #[.int .i64 s.o, .int .i64 x3, .int .i64 s.p, .bool s.t, .slice s.ka s.kn s.kc] 30 by rw [hwf]; have := ((((((((HY.out.rr).setO (p := ⟨w.heap.size, 0, none⟩) (by simp) (.int .i64 W)).setO (p := ⟨w.heap.size, 1, none⟩) (by simp) (.int .i64 H)).setO (p := ⟨w.heap.size, 2, none⟩) (by simp) (.slice pA pn pc)).set 0 (.int .i64 s.o)).set 1 (.int .i64 x3)).set 2 (.int .i64 s.p)).set 3 (.bool s.t)).set 4 (.slice s.ka s.kn s.kc); exact Blk.draw1 (by simpa using this))
      have HKP := hid (show Kp (fun q => q = w.heap.size ∨ q = w.heap.size + 1) wy wf by rw [hwf]; exact (((((((((Kp.refl (fun q => q = w.heap.size ∨ q = w.heap.size + 1) wy).set (q := w.heap.size) (.inl (.inl rfl)) 0 (.int .i64 W)).set (q := w.heap.size) (.inl (.inl rfl)) 1 (.int .i64 H)).set (q := w.heap.size) (.inl (.inl rfl)) 2 (.slice pA pn pc)).set (q := w.heap.size + 1) (.inl (.inr rfl)) 0 (.int .i64 s.o)).set (q := w.heap.size + 1) (.inl (.inr rfl)) 1 (.int .i64 x3)).set (q := w.heap.size + 1) (.inl (.inr rfl)) 2 (.int .i64 s.p)).set (q := w.heap.size + 1) (.inl (.inr rfl)) 3 (.bool s.t)).set (q := w.heap.size + 1) (.inl (.inr rfl)) 4 (.slice s.ka s.kn s.kc)).dr (Dr.refl _).one)
      rw [← hwf]
      clear hwf
      try clear c_K f_K l_K c_P f_P l_P c_Q f_Q l_Q c_R f_R l_R
      have c_BQ := fun (o : Nat) => BQ.out.cell o
      have c_BR := fun (o : Nat) => BR.out.cell o
      go_wp2
      exact bodyPost_ret (v := .tuple #[.agg #[.int .i64 W, .int .i64 H, .slice pA pn pc], .agg #[.int .i64 s.o, .int .i64 x3, .int .i64 s.p, .bool s.t, .slice s.ka s.kn s.kc]]) (by simp [results, Try.results43, go_sem, c_BQ, c_BR]) rfl (any_fin HY.out HKP.out)
  · have ZL := hid (lit_row w2 w2.heap.size (by simp) #[.int .i64 4, .int .i64 (-1), .int .i64 1, .int .i64 0] [4, -1, 1, 0] 4 rfl rfl (by simp [maxLen]))
    have SB := hid (HA2.out.go ((Below.refl _ _).alloc (Nat.le_refl _) (.cells #[.int .i64 4, .int .i64 (-1), .int .i64 1, .int .i64 0] 3)))
    go_wp2_with fail
    refine (one_c B a _ [4, -1, 1, 0] _ _ SB.out.rd ZL.out (by simp [Value.ownBlock]; omega) (by simp) (by simp) (by omega)).mono ?_
    rintro e w3 ⟨x3, rfl, hp, hR, hg⟩
    have SC := hid (SB.out.pick hR hg)
    clear hp ZL hR hg
    try clear c_K f_K l_K c_P f_P l_P c_Q f_Q l_Q c_R f_R l_R
    have c_K := fun (o : Nat) => SC.out.kw.cell o
    have f_K := fun (o : Nat) => SC.out.kw.frz o
    have l_K := SC.out.kw.lt
    have c_P := fun (o : Nat) => SC.out.pw.cell o
    have f_P := fun (o : Nat) => SC.out.pw.frz o
    have l_P := SC.out.pw.lt
    have c_Q := fun (o : Nat) => SC.out.rq.cell o
    have f_Q := fun (o : Nat) => SC.out.rq.frz o
    have l_Q := SC.out.rq.lt
    have c_R := fun (o : Nat) => SC.out.rr.cell o
    have f_R := fun (o : Nat) => SC.out.rr.frz o
    have l_R := SC.out.rr.lt
    go_upto_region 16 with (fail)
    obtain ⟨wy, hwy⟩ : ∃ Z : World, Z = (w3.setCell ⟨w1.heap.size + 1, 0, none⟩ (.int .i64 x3)) := ⟨_, rfl⟩
    have HY := hid (show ASt B a w1.heap.size (w1.heap.size + 1) w1.heap.size (m + 500) 5 W H pA pn pc (⟨x3, s.a, s.p, s.t, s.ka, s.kn, s.kc⟩ : Sh) (.mk x3 pl.a pl.p pl.t pl.ks) w wy by rw [hwy]; exact (SC.out.setP 0 (.int .i64 x3) (⟨x3, s.a, s.p, s.t, s.ka, s.kn, s.kc⟩ : Sh) (.mk x3 pl.a pl.p pl.t pl.ks) rfl ⟨rfl, SC.out.sm.2.1, SC.out.sm.2.2.1, SC.out.sm.2.2.2⟩ SC.out.fq).up (by omega))
    rw [← hwy]
    clear hwy
    try clear c_K f_K l_K c_P f_P l_P c_Q f_Q l_Q c_R f_R l_R
    have c_K := fun (o : Nat) => HY.out.kw.cell o
    have f_K := fun (o : Nat) => HY.out.kw.frz o
    have l_K := HY.out.kw.lt
    have c_P := fun (o : Nat) => HY.out.pw.cell o
    have f_P := fun (o : Nat) => HY.out.pw.frz o
    have l_P := HY.out.pw.lt
    have c_Q := fun (o : Nat) => HY.out.rq.cell o
    have f_Q := fun (o : Nat) => HY.out.rq.frz o
    have l_Q := HY.out.rq.lt
    have c_R := fun (o : Nat) => HY.out.rr.cell o
    have f_R := fun (o : Nat) => HY.out.rr.frz o
    have l_R := HY.out.rr.lt
    go_region
    all_goals
      obtain ⟨wf, hwf⟩ : ∃ Z : World, Z = ((((((((wy.setCell ⟨w.heap.size, 0, none⟩ (.int .i64 W)).setCell ⟨w.heap.size, 1, none⟩ (.int .i64 H)).setCell ⟨w.heap.size, 2, none⟩ (.slice pA pn pc)).setCell ⟨w.heap.size + 1, 0, none⟩ (.int .i64 x3)).setCell ⟨w.heap.size + 1, 1, none⟩ (.int .i64 s.a)).setCell ⟨w.heap.size + 1, 2, none⟩ (.int .i64 s.p)).setCell ⟨w.heap.size + 1, 3, none⟩ (.bool s.t)).setCell ⟨w.heap.size + 1, 4, none⟩ (.slice s.ka s.kn s.kc)).drew := ⟨_, rfl⟩
      have BQ := hid (show Blk wf w.heap.size #[.int .i64 W, .int .i64 H, .slice pA pn pc] 47 by rw [hwf]; have := ((((((((HY.out.rq).set 0 (.int .i64 W)).set 1 (.int .i64 H)).set 2 (.slice pA pn pc)).setO (p := ⟨w.heap.size + 1, 0, none⟩) (by simp) (.int .i64 x3)).setO (p := ⟨w.heap.size + 1, 1, none⟩) (by simp) (.int .i64 s.a)).setO (p := ⟨w.heap.size + 1, 2, none⟩) (by simp) (.int .i64 s.p)).setO (p := ⟨w.heap.size + 1, 3, none⟩) (by simp) (.bool s.t)).setO (p := ⟨w.heap.size + 1, 4, none⟩) (by simp) (.slice s.ka s.kn s.kc); exact Blk.draw1 (by simpa using this))
      have BR := hid (show Blk wf (w.heap.size + 1) #[.int .i64 x3, .int .i64 s.a, .int .i64 s.p, .bool s.t, .slice s.ka s.kn s.kc] 30 by rw [hwf]; have := ((((((((HY.out.rr).setO (p := ⟨w.heap.size, 0, none⟩) (by simp) (.int .i64 W)).setO (p := ⟨w.heap.size, 1, none⟩) (by simp) (.int .i64 H)).setO (p := ⟨w.heap.size, 2, none⟩) (by simp) (.slice pA pn pc)).set 0 (.int .i64 x3)).set 1 (.int .i64 s.a)).set 2 (.int .i64 s.p)).set 3 (.bool s.t)).set 4 (.slice s.ka s.kn s.kc); exact Blk.draw1 (by simpa using this))
      have HKP := hid (show Kp (fun q => q = w.heap.size ∨ q = w.heap.size + 1) wy wf by rw [hwf]; exact (((((((((Kp.refl (fun q => q = w.heap.size ∨ q = w.heap.size + 1) wy).set (q := w.heap.size) (.inl (.inl rfl)) 0 (.int .i64 W)).set (q := w.heap.size) (.inl (.inl rfl)) 1 (.int .i64 H)).set (q := w.heap.size) (.inl (.inl rfl)) 2 (.slice pA pn pc)).set (q := w.heap.size + 1) (.inl (.inr rfl)) 0 (.int .i64 x3)).set (q := w.heap.size + 1) (.inl (.inr rfl)) 1 (.int .i64 s.a)).set (q := w.heap.size + 1) (.inl (.inr rfl)) 2 (.int .i64 s.p)).set (q := w.heap.size + 1) (.inl (.inr rfl)) 3 (.bool s.t)).set (q := w.heap.size + 1) (.inl (.inr rfl)) 4 (.slice s.ka s.kn s.kc)).dr (Dr.refl _).one)
      rw [← hwf]
      clear hwf
      try clear c_K f_K l_K c_P f_P l_P c_Q f_Q l_Q c_R f_R l_R
      have c_BQ := fun (o : Nat) => BQ.out.cell o
      have c_BR := fun (o : Nat) => BR.out.cell o
      go_wp2
      exact bodyPost_ret (v := .tuple #[.agg #[.int .i64 W, .int .i64 H, .slice pA pn pc], .agg #[.int .i64 x3, .int .i64 s.a, .int .i64 s.p, .bool s.t, .slice s.ka s.kn s.kc]]) (by simp [results, Try.results43, go_sem, c_BQ, c_BR]) rfl (any_fin HY.out HKP.out)
  · by_cases hk0 : 0 < s.kn
    · obtain ⟨b1, o1, hka⟩ := HA2.out.fq.nilv hk0
      have HKA := hid hka
      clear hka
      have hk1 : (1 : Int) ≤ (s.kc : Int) := by omega
      have hk2 : 1 ≤ s.kc := by omega
      go_upto_region 16 with (fail)
      obtain ⟨wy, hwy⟩ : ∃ Z : World, Z = (w2.setCell ⟨w1.heap.size + 1, 4, none⟩ (.slice s.ka 1 s.kc)) := ⟨_, rfl⟩
      have HY := hid (show ASt B a w1.heap.size (w1.heap.size + 1) w1.heap.size (m + 500) 5 W H pA pn pc (⟨s.o, s.a, s.p, s.t, s.ka, 1, s.kc⟩ : Sh) (.mk pl.o pl.a pl.p pl.t (pl.ks.take 1)) w wy by rw [hwy]; exact (HA2.out.setP 4 (.slice s.ka 1 s.kc) (⟨s.o, s.a, s.p, s.t, s.ka, 1, s.kc⟩ : Sh) (.mk pl.o pl.a pl.p pl.t (pl.ks.take 1)) rfl ⟨HA2.out.sm.1, HA2.out.sm.2.1, HA2.out.sm.2.2.1, HA2.out.sm.2.2.2⟩ (FQ.take (m := s.kn) HA2.out.fq (show 1 ≤ s.kn from hk0))).up (by omega))
      rw [← hwy]
      clear hwy
      try clear c_K f_K l_K c_P f_P l_P c_Q f_Q l_Q c_R f_R l_R
      have c_K := fun (o : Nat) => HY.out.kw.cell o
      have f_K := fun (o : Nat) => HY.out.kw.frz o
      have l_K := HY.out.kw.lt
      have c_P := fun (o : Nat) => HY.out.pw.cell o
      have f_P := fun (o : Nat) => HY.out.pw.frz o
      have l_P := HY.out.pw.lt
      have c_Q := fun (o : Nat) => HY.out.rq.cell o
      have f_Q := fun (o : Nat) => HY.out.rq.frz o
      have l_Q := HY.out.rq.lt
      have c_R := fun (o : Nat) => HY.out.rr.cell o
      have f_R := fun (o : Nat) => HY.out.rr.frz o
      have l_R := HY.out.rr.lt
      go_region
      all_goals
        obtain ⟨wf, hwf⟩ : ∃ Z : World, Z = ((((((((wy.setCell ⟨w.heap.size, 0, none⟩ (.int .i64 W)).setCell ⟨w.heap.size, 1, none⟩ (.int .i64 H)).setCell ⟨w.heap.size, 2, none⟩ (.slice pA pn pc)).setCell ⟨w.heap.size + 1, 0, none⟩ (.int .i64 s.o)).setCell ⟨w.heap.size + 1, 1, none⟩ (.int .i64 s.a)).setCell ⟨w.heap.size + 1, 2, none⟩ (.int .i64 s.p)).setCell ⟨w.heap.size + 1, 3, none⟩ (.bool s.t)).setCell ⟨w.heap.size + 1, 4, none⟩ (.slice s.ka 1 s.kc)).drew := ⟨_, rfl⟩
        have BQ := hid (show Blk wf w.heap.size #[.int .i64 W, .int .i64 H, .slice pA pn pc] 47 by rw [hwf]; have := ((((((((HY.out.rq).set 0 (.int .i64 W)).set 1 (.int .i64 H)).set 2 (.slice pA pn pc)).setO (p := ⟨w.heap.size + 1, 0, none⟩) (by simp) (.int .i64 s.o)).setO (p := ⟨w.heap.size + 1, 1, none⟩) (by simp) (.int .i64 s.a)).setO (p := ⟨w.heap.size + 1, 2, none⟩) (by simp) (.int .i64 s.p)).setO (p := ⟨w.heap.size + 1, 3, none⟩) (by simp) (.bool s.t)).setO (p := ⟨w.heap.size + 1, 4, none⟩) (by simp) (.slice s.ka 1 s.kc); exact Blk.draw1 (by simpa using this))
        have BR := hid (show Blk wf (w.heap.size + 1) #[.int .i64 s.o, .int .i64 s.a, .int .i64 s.p, .bool s.t, .slice s.ka 1 s.kc] 30 by rw [hwf]; have := ((((((((HY.out.rr).setO (p := ⟨w.heap.size, 0, none⟩) (by simp) (.int .i64 W)).setO (p := ⟨w.heap.size, 1, none⟩) (by simp) (.int .i64 H)).setO (p := ⟨w.heap.size, 2, none⟩) (by simp) (.slice pA pn pc)).set 0 (.int .i64 s.o)).set 1 (.int .i64 s.a)).set 2 (.int .i64 s.p)).set 3 (.bool s.t)).set 4 (.slice s.ka 1 s.kc); exact Blk.draw1 (by simpa using this))
        have HKP := hid (show Kp (fun q => q = w.heap.size ∨ q = w.heap.size + 1) wy wf by rw [hwf]; exact (((((((((Kp.refl (fun q => q = w.heap.size ∨ q = w.heap.size + 1) wy).set (q := w.heap.size) (.inl (.inl rfl)) 0 (.int .i64 W)).set (q := w.heap.size) (.inl (.inl rfl)) 1 (.int .i64 H)).set (q := w.heap.size) (.inl (.inl rfl)) 2 (.slice pA pn pc)).set (q := w.heap.size + 1) (.inl (.inr rfl)) 0 (.int .i64 s.o)).set (q := w.heap.size + 1) (.inl (.inr rfl)) 1 (.int .i64 s.a)).set (q := w.heap.size + 1) (.inl (.inr rfl)) 2 (.int .i64 s.p)).set (q := w.heap.size + 1) (.inl (.inr rfl)) 3 (.bool s.t)).set (q := w.heap.size + 1) (.inl (.inr rfl)) 4 (.slice s.ka 1 s.kc)).dr (Dr.refl _).one)
        rw [← hwf]
        clear hwf
        try clear c_K f_K l_K c_P f_P l_P c_Q f_Q l_Q c_R f_R l_R
        have c_BQ := fun (o : Nat) => BQ.out.cell o
        have c_BR := fun (o : Nat) => BR.out.cell o
        go_wp2
        exact bodyPost_ret (v := .tuple #[.agg #[.int .i64 W, .int .i64 H, .slice pA pn pc], .agg #[.int .i64 s.o, .int .i64 s.a, .int .i64 s.p, .bool s.t, .slice s.ka 1 s.kc]]) (by simp [results, Try.results43, go_sem, c_BQ, c_BR]) rfl (any_fin HY.out HKP.out)
    · have hk1 : decide ((0 : Int) < (s.kn : Int)) = false := by simp; omega
      go_upto_region 16 with (fail)
      obtain ⟨wy, hwy⟩ : ∃ Z : World, Z = w2 := ⟨_, rfl⟩
      have HY := hid (show ASt B a w1.heap.size (w1.heap.size + 1) w1.heap.size (m + 500) 5 W H pA pn pc s pl w wy by rw [hwy]; exact (HA2.out).up (by omega))
      rw [← hwy]
      clear hwy
      try clear c_K f_K l_K c_P f_P l_P c_Q f_Q l_Q c_R f_R l_R
      have c_K := fun (o : Nat) => HY.out.kw.cell o
      have f_K := fun (o : Nat) => HY.out.kw.frz o
      have l_K := HY.out.kw.lt
      have c_P := fun (o : Nat) => HY.out.pw.cell o
      have f_P := fun (o : Nat) => HY.out.pw.frz o
      have l_P := HY.out.pw.lt
      have c_Q := fun (o : Nat) => HY.out.rq.cell o
      have f_Q := fun (o : Nat) => HY.out.rq.frz o
      have l_Q := HY.out.rq.lt
      have c_R := fun (o : Nat) => HY.out.rr.cell o
      have f_R := fun (o : Nat) => HY.out.rr.frz o
      have l_R := HY.out.rr.lt
      go_region
      all_goals
        obtain ⟨wf, hwf⟩ : ∃ Z : World, Z = ((((((((wy.setCell ⟨w.heap.size, 0, none⟩ (.int .i64 W)).setCell ⟨w.heap.size, 1, none⟩ (.int .i64 H)).setCell ⟨w.heap.size, 2, none⟩ (.slice pA pn pc)).setCell ⟨w.heap.size + 1, 0, none⟩ (.int .i64 s.o)).setCell ⟨w.heap.size + 1, 1, none⟩ (.int .i64 s.a)).setCell ⟨w.heap.size + 1, 2, none⟩ (.int .i64 s.p)).setCell ⟨w.heap.size + 1, 3, none⟩ (.bool s.t)).setCell ⟨w.heap.size + 1, 4, none⟩ (.slice s.ka s.kn s.kc)).drew := ⟨_, rfl⟩
        have BQ := hid (show Blk wf w.heap.size #[.int .i64 W, .int .i64 H, .slice pA pn pc] 47 by rw [hwf]; have := ((((((((HY.out.rq).set 0 (.int .i64 W)).set 1 (.int .i64 H)).set 2 (.slice pA pn pc)).setO (p := ⟨w.heap.size + 1, 0, none⟩) (by simp) (.int .i64 s.o)).setO (p := ⟨w.heap.size + 1, 1, none⟩) (by simp) (.int .i64 s.a)).setO (p := ⟨w.heap.size + 1, 2, none⟩) (by simp) (.int .i64 s.p)).setO (p := ⟨w.heap.size + 1, 3, none⟩) (by simp) (.bool s.t)).setO (p := ⟨w.heap.size + 1, 4, none⟩) (by simp) (.slice s.ka s.kn s.kc); exact Blk.draw1 (by simpa using this))
        have BR := hid (show Blk wf (w.heap.size + 1) #[.int .i64 s.o, .int .i64 s.a, .int .i64 s.p, .bool s.t, .slice s.ka s.kn s.kc] 30 by rw [hwf]; have := ((((((((HY.out.rr).setO (p := ⟨w.heap.size, 0, none⟩) (by simp) (.int .i64 W)).setO (p := ⟨w.heap.size, 1, none⟩) (by simp) (.int .i64 H)).setO (p := ⟨w.heap.size, 2, none⟩) (by simp) (.slice pA pn pc)).set 0 (.int .i64 s.o)).set 1 (.int .i64 s.a)).set 2 (.int .i64 s.p)).set 3 (.bool s.t)).set 4 (.slice s.ka s.kn s.kc); exact Blk.draw1 (by simpa using this))
        have HKP := hid (show Kp (fun q => q = w.heap.size ∨ q = w.heap.size + 1) wy wf by rw [hwf]; exact (((((((((Kp.refl (fun q => q = w.heap.size ∨ q = w.heap.size + 1) wy).set (q := w.heap.size) (.inl (.inl rfl)) 0 (.int .i64 W)).set (q := w.heap.size) (.inl (.inl rfl)) 1 (.int .i64 H)).set (q := w.heap.size) (.inl (.inl rfl)) 2 (.slice pA pn pc)).set (q := w.heap.size + 1) (.inl (.inr rfl)) 0 (.int .i64 s.o)).set (q := w.heap.size + 1) (.inl (.inr rfl)) 1 (.int .i64 s.a)).set (q := w.heap.size + 1) (.inl (.inr rfl)) 2 (.int .i64 s.p)).set (q := w.heap.size + 1) (.inl (.inr rfl)) 3 (.bool s.t)).set (q := w.heap.size + 1) (.inl (.inr rfl)) 4 (.slice s.ka s.kn s.kc)).dr (Dr.refl _).one)
        rw [← hwf]
        clear hwf
        try clear c_K f_K l_K c_P f_P l_P c_Q f_Q l_Q c_R f_R l_R
        have c_BQ := fun (o : Nat) => BQ.out.cell o
        have c_BR := fun (o : Nat) => BR.out.cell o
        go_wp2
        exact bodyPost_ret (v := .tuple #[.agg #[.int .i64 W, .int .i64 H, .slice pA pn pc], .agg #[.int .i64 s.o, .int .i64 s.a, .int .i64 s.p, .bool s.t, .slice s.ka s.kn s.kc]]) (by simp [results, Try.results43, go_sem, c_BQ, c_BR]) rfl (any_fin HY.out HKP.out)
  · have ZL := hid (lit_row w2 w2.heap.size (by simp) #[.int .i64 1, .int .i64 30, .int .i64 (-1)] [1, 30, -1] 3 rfl rfl (by simp [maxLen]))
    have SB := hid (HA2.out.go ((Below.refl _ _).alloc (Nat.le_refl _) (.cells #[.int .i64 1, .int .i64 30, .int .i64 (-1)] 3)))
    go_wp2_with fail
    refine (one_c B a _ [1, 30, -1] _ _ SB.out.rd ZL.out (by simp [Value.ownBlock]; omega) (by simp) (by simp) (by omega)).mono ?_
    rintro e w3 ⟨x3, rfl, hp, hR, hg⟩
    have SC := hid (SB.out.pick hR hg)
    clear hp ZL hR hg
    try clear c_K f_K l_K c_P f_P l_P c_Q f_Q l_Q c_R f_R l_R
    have c_K := fun (o : Nat) => SC.out.kw.cell o
    have f_K := fun (o : Nat) => SC.out.kw.frz o
    have l_K := SC.out.kw.lt
    have c_P := fun (o : Nat) => SC.out.pw.cell o
    have f_P := fun (o : Nat) => SC.out.pw.frz o
    have l_P := SC.out.pw.lt
    have c_Q := fun (o : Nat) => SC.out.rq.cell o
    have f_Q := fun (o : Nat) => SC.out.rq.frz o
    have l_Q := SC.out.rq.lt
    have c_R := fun (o : Nat) => SC.out.rr.cell o
    have f_R := fun (o : Nat) => SC.out.rr.frz o
    have l_R := SC.out.rr.lt
    go_upto_region 16 with (fail)
    obtain ⟨wy, hwy⟩ : ∃ Z : World, Z = (w3.setCell ⟨w1.heap.size + 1, 2, none⟩ (.int .i64 x3)) := ⟨_, rfl⟩
    have HY := hid (show ASt B a w1.heap.size (w1.heap.size + 1) w1.heap.size (m + 500) 5 W H pA pn pc (⟨s.o, s.a, x3, s.t, s.ka, s.kn, s.kc⟩ : Sh) (.mk pl.o pl.a x3 pl.t pl.ks) w wy by rw [hwy]; exact (SC.out.setP 2 (.int .i64 x3) (⟨s.o, s.a, x3, s.t, s.ka, s.kn, s.kc⟩ : Sh) (.mk pl.o pl.a x3 pl.t pl.ks) rfl ⟨SC.out.sm.1, SC.out.sm.2.1, rfl, SC.out.sm.2.2.2⟩ SC.out.fq).up (by omega))
    rw [← hwy]
    clear hwy
    try clear c_K f_K l_K c_P f_P l_P c_Q f_Q l_Q c_R f_R l_R
    have c_K := fun (o : Nat) => HY.out.kw.cell o
    have f_K := fun (o : Nat) => HY.out.kw.frz o
    have l_K := HY.out.kw.lt
    have c_P := fun (o : Nat) => HY.out.pw.cell o
    have f_P := fun (o : Nat) => HY.out.pw.frz o
    have l_P := HY.out.pw.lt
    have c_Q := fun (o : Nat) => HY.out.rq.cell o
    have f_Q := fun (o : Nat) => HY.out.rq.frz o
    have l_Q := HY.out.rq.lt
    have c_R := fun (o : Nat) => HY.out.rr.cell o
    have f_R := fun (o : Nat) => HY.out.rr.frz o
    have l_R := HY.out.rr.lt
    go_region
    all_goals
      obtain ⟨wf, hwf⟩ : ∃ Z : World, Z = ((((((((wy.setCell ⟨w.heap.size, 0, none⟩ (.int .i64 W)).setCell ⟨w.heap.size, 1, none⟩ (.int .i64 H)).setCell ⟨w.heap.size, 2, none⟩ (.slice pA pn pc)).setCell ⟨w.heap.size + 1, 0, none⟩ (.int .i64 s.o)).setCell ⟨w.heap.size + 1, 1, none⟩ (.int .i64 s.a)).setCell ⟨w.heap.size + 1, 2, none⟩ (.int .i64 x3)).setCell ⟨w.heap.size + 1, 3, none⟩ (.bool s.t)).setCell ⟨w.heap.size + 1, 4, none⟩ (.slice s.ka s.kn s.kc)).drew := ⟨_, rfl⟩
      have BQ := hid (show Blk wf w.heap.size #[.int .i64 W, .int .i64 H, .slice pA pn pc] 47 by rw [hwf]; have := ((((((((HY.out.rq).set 0 (.int .i64 W)).set 1 (.int .i64 H)).set 2 (.slice pA pn pc)).setO (p := ⟨w.heap.size + 1, 0, none⟩) (by simp) (.int .i64 s.o)).setO (p := ⟨w.heap.size + 1, 1, none⟩) (by simp) (.int .i64 s.a)).setO (p := ⟨w.heap.size + 1, 2, none⟩) (by simp) (.int .i64 x3)).setO (p := ⟨w.heap.size + 1, 3, none⟩) (by simp) (.bool s.t)).setO (p := ⟨w.heap.size + 1, 4, none⟩) (by simp) (.slice s.ka s.kn s.kc); exact Blk.draw1 (by simpa using this))
      have BR := hid (show Blk wf (w.heap.size + 1) #[.int .i64 s.o, .int .i64 s.a, .int .i64 x3, .bool s.t, .slice s.ka s.kn s.kc] 30 by rw [hwf]; have := ((((((((HY.out.rr).setO (p := ⟨w.heap.size, 0, none⟩) (by simp) (.int .i64 W)).setO (p := ⟨w.heap.size, 1, none⟩) (by simp) (.int .i64 H)).setO (p := ⟨w.heap.size, 2, none⟩) (by simp) (.slice pA pn pc)).set 0 (.int .i64 s.o)).set 1 (.int .i64 s.a)).set 2 (.int .i64 x3)).set 3 (.bool s.t)).set 4 (.slice s.ka s.kn s.kc); exact Blk.draw1 (by simpa using this))
      have HKP := hid (show Kp (fun q => q = w.heap.size ∨ q = w.heap.size + 1) wy wf by rw [hwf]; exact (((((((((Kp.refl (fun q => q = w.heap.size ∨ q = w.heap.size + 1) wy).set (q := w.heap.size) (.inl (.inl rfl)) 0 (.int .i64 W)).set (q := w.heap.size) (.inl (.inl rfl)) 1 (.int .i64 H)).set (q := w.heap.size) (.inl (.inl rfl)) 2 (.slice pA pn pc)).set (q := w.heap.size + 1) (.inl (.inr rfl)) 0 (.int .i64 s.o)).set (q := w.heap.size + 1) (.inl (.inr rfl)) 1 (.int .i64 s.a)).set (q := w.heap.size + 1) (.inl (.inr rfl)) 2 (.int .i64 x3)).set (q := w.heap.size + 1) (.inl (.inr rfl)) 3 (.bool s.t)).set (q := w.heap.size + 1) (.inl (.inr rfl)) 4 (.slice s.ka s.kn s.kc)).dr (Dr.refl _).one)
      rw [← hwf]
      clear hwf
      try clear c_K f_K l_K c_P f_P l_P c_Q f_Q l_Q c_R f_R l_R
      have c_BQ := fun (o : Nat) => BQ.out.cell o
      have c_BR := fun (o : Nat) => BR.out.cell o
      go_wp2
      exact bodyPost_ret (v := .tuple #[.agg #[.int .i64 W, .int .i64 H, .slice pA pn pc], .agg #[.int .i64 s.o, .int .i64 s.a, .int .i64 x3, .bool s.t, .slice s.ka s.kn s.kc]]) (by simp [results, Try.results43, go_sem, c_BQ, c_BR]) rfl (any_fin HY.out HKP.out)
  · go_upto_region 16 with (fail)
    obtain ⟨wy, hwy⟩ : ∃ Z : World, Z = (w2.setCell ⟨w1.heap.size + 1, 3, none⟩ (.bool !s.t)) := ⟨_, rfl⟩
    have HY := hid (show ASt B a w1.heap.size (w1.heap.size + 1) w1.heap.size (m + 500) 5 W H pA pn pc (⟨s.o, s.a, s.p, !s.t, s.ka, s.kn, s.kc⟩ : Sh) (.mk pl.o pl.a pl.p (!pl.t) pl.ks) w wy by rw [hwy]; exact (HA2.out.setP 3 (.bool !s.t) (⟨s.o, s.a, s.p, !s.t, s.ka, s.kn, s.kc⟩ : Sh) (.mk pl.o pl.a pl.p (!pl.t) pl.ks) rfl ⟨HA2.out.sm.1, HA2.out.sm.2.1, HA2.out.sm.2.2.1, by simp [HA2.out.sm.2.2.2, Pl.t]⟩ HA2.out.fq).up (by omega))
    rw [← hwy]
    clear hwy
    try clear c_K f_K l_K c_P f_P l_P c_Q f_Q l_Q c_R f_R l_R
    have c_K := fun (o : Nat) => HY.out.kw.cell o
    have f_K := fun (o : Nat) => HY.out.kw.frz o
    have l_K := HY.out.kw.lt
    have c_P := fun (o : Nat) => HY.out.pw.cell o
    have f_P := fun (o : Nat) => HY.out.pw.frz o
    have l_P := HY.out.pw.lt
    have c_Q := fun (o : Nat) => HY.out.rq.cell o
    have f_Q := fun (o : Nat) => HY.out.rq.frz o
    have l_Q := HY.out.rq.lt
    have c_R := fun (o : Nat) => HY.out.rr.cell o
    have f_R := fun (o : Nat) => HY.out.rr.frz o
    have l_R := HY.out.rr.lt
    go_region
    all_goals
      obtain ⟨wf, hwf⟩ : ∃ Z : World, Z = ((((((((wy.setCell ⟨w.heap.size, 0, none⟩ (.int .i64 W)).setCell ⟨w.heap.size, 1, none⟩ (.int .i64 H)).setCell ⟨w.heap.size, 2, none⟩ (.slice pA pn pc)).setCell ⟨w.heap.size + 1, 0, none⟩ (.int .i64 s.o)).setCell ⟨w.heap.size + 1, 1, none⟩ (.int .i64 s.a)).setCell ⟨w.heap.size + 1, 2, none⟩ (.int .i64 s.p)).setCell ⟨w.heap.size + 1, 3, none⟩ (.bool !s.t)).setCell ⟨w.heap.size + 1, 4, none⟩ (.slice s.ka s.kn s.kc)).drew := ⟨_, rfl⟩
      have BQ := hid (show Blk wf w.heap.size #[.int .i64 W, .int .i64 H, .slice pA pn pc] 47 by rw [hwf]; have := ((((((((HY.out.rq).set 0 (.int .i64 W)).set 1 (.int .i64 H)).set 2 (.slice pA pn pc)).setO (p := ⟨w.heap.size + 1, 0, none⟩) (by simp) (.int .i64 s.o)).setO (p := ⟨w.heap.size + 1, 1, none⟩) (by simp) (.int .i64 s.a)).setO (p := ⟨w.heap.size + 1, 2, none⟩) (by simp) (.int .i64 s.p)).setO (p := ⟨w.heap.size + 1, 3, none⟩) (by simp) (.bool !s.t)).setO (p := ⟨w.heap.size + 1, 4, none⟩) (by simp) (.slice s.ka s.kn s.kc); exact Blk.draw1 (by simpa using this))
      have BR := hid (show Blk wf (w.heap.size + 1) #[.int .i64 s.o, .int .i64 s.a, .int .i64 s.p, .bool !s.t, .slice s.ka s.kn s.kc] 30 by rw [hwf]; have := ((((((((HY.out.rr).setO (p := ⟨w.heap.size, 0, none⟩) (by simp) (.int .i64 W)).setO (p := ⟨w.heap.size, 1, none⟩) (by simp) (.int .i64 H)).setO (p := ⟨w.heap.size, 2, none⟩) (by simp) (.slice pA pn pc)).set 0 (.int .i64 s.o)).set 1 (.int .i64 s.a)).set 2 (.int .i64 s.p)).set 3 (.bool !s.t)).set 4 (.slice s.ka s.kn s.kc); exact Blk.draw1 (by simpa using this))
      have HKP := hid (show Kp (fun q => q = w.heap.size ∨ q = w.heap.size + 1) wy wf by rw [hwf]; exact (((((((((Kp.refl (fun q => q = w.heap.size ∨ q = w.heap.size + 1) wy).set (q := w.heap.size) (.inl (.inl rfl)) 0 (.int .i64 W)).set (q := w.heap.size) (.inl (.inl rfl)) 1 (.int .i64 H)).set (q := w.heap.size) (.inl (.inl rfl)) 2 (.slice pA pn pc)).set (q := w.heap.size + 1) (.inl (.inr rfl)) 0 (.int .i64 s.o)).set (q := w.heap.size + 1) (.inl (.inr rfl)) 1 (.int .i64 s.a)).set (q := w.heap.size + 1) (.inl (.inr rfl)) 2 (.int .i64 s.p)).set (q := w.heap.size + 1) (.inl (.inr rfl)) 3 (.bool !s.t)).set (q := w.heap.size + 1) (.inl (.inr rfl)) 4 (.slice s.ka s.kn s.kc)).dr (Dr.refl _).one)
      rw [← hwf]
      clear hwf
      try clear c_K f_K l_K c_P f_P l_P c_Q f_Q l_Q c_R f_R l_R
      have c_BQ := fun (o : Nat) => BQ.out.cell o
      have c_BR := fun (o : Nat) => BR.out.cell o
      go_wp2
      exact bodyPost_ret (v := .tuple #[.agg #[.int .i64 W, .int .i64 H, .slice pA pn pc], .agg #[.int .i64 s.o, .int .i64 s.a, .int .i64 s.p, .bool !s.t, .slice s.ka s.kn s.kc]]) (by simp [results, Try.results43, go_sem, c_BQ, c_BR]) rfl (any_fin HY.out HKP.out)
  · go_upto_region 16 with (fail)
    obtain ⟨wy, hwy⟩ : ∃ Z : World, Z = w2 := ⟨_, rfl⟩
    have HY := hid (show ASt B a w1.heap.size (w1.heap.size + 1) w1.heap.size (m + 500) 5 W H pA pn pc s pl w wy by rw [hwy]; exact (HA2.out).up (by omega))
    rw [← hwy]
    clear hwy
    try clear c_K f_K l_K c_P f_P l_P c_Q f_Q l_Q c_R f_R l_R
    have c_K := fun (o : Nat) => HY.out.kw.cell o
    have f_K := fun (o : Nat) => HY.out.kw.frz o
    have l_K := HY.out.kw.lt
    have c_P := fun (o : Nat) => HY.out.pw.cell o
    have f_P := fun (o : Nat) => HY.out.pw.frz o
    have l_P := HY.out.pw.lt
    have c_Q := fun (o : Nat) => HY.out.rq.cell o
    have f_Q := fun (o : Nat) => HY.out.rq.frz o
    have l_Q := HY.out.rq.lt
    have c_R := fun (o : Nat) => HY.out.rr.cell o
    have f_R := fun (o : Nat) => HY.out.rr.frz o
    have l_R := HY.out.rr.lt
    go_region
    all_goals
      obtain ⟨wf, hwf⟩ : ∃ Z : World, Z = ((((((((wy.setCell ⟨w.heap.size, 0, none⟩ (.int .i64 W)).setCell ⟨w.heap.size, 1, none⟩ (.int .i64 H)).setCell ⟨w.heap.size, 2, none⟩ (.slice pA pn pc)).setCell ⟨w.heap.size + 1, 0, none⟩ (.int .i64 s.o)).setCell ⟨w.heap.size + 1, 1, none⟩ (.int .i64 s.a)).setCell ⟨w.heap.size + 1, 2, none⟩ (.int .i64 s.p)).setCell ⟨w.heap.size + 1, 3, none⟩ (.bool s.t)).setCell ⟨w.heap.size + 1, 4, none⟩ (.slice s.ka s.kn s.kc)).drew := ⟨_, rfl⟩
      have BQ := hid (show Blk wf w.heap.size #[.int .i64 W, .int .i64 H, .slice pA pn pc] 47 by rw [hwf]; have := ((((((((HY.out.rq).set 0 (.int .i64 W)).set 1 (.int .i64 H)).set 2 (.slice pA pn pc)).setO (p := ⟨w.heap.size + 1, 0, none⟩) (by simp) (.int .i64 s.o)).setO (p := ⟨w.heap.size + 1, 1, none⟩) (by simp) (.int .i64 s.a)).setO (p := ⟨w.heap.size + 1, 2, none⟩) (by simp) (.int .i64 s.p)).setO (p := ⟨w.heap.size + 1, 3, none⟩) (by simp) (.bool s.t)).setO (p := ⟨w.heap.size + 1, 4, none⟩) (by simp) (.slice s.ka s.kn s.kc); exact Blk.draw1 (by simpa using this))
      have BR := hid (show Blk wf (w.heap.size + 1) #[.int .i64 s.o, .int .i64 s.a, .int .i64 s.p, .bool s.t, .slice s.ka s.kn s.kc] 30 by rw [hwf]; have := ((((((((HY.out.rr).setO (p := ⟨w.heap.size, 0, none⟩) (by simp) (.int .i64 W)).setO (p := ⟨w.heap.size, 1, none⟩) (by simp) (.int .i64 H)).setO (p := ⟨w.heap.size, 2, none⟩) (by simp) (.slice pA pn pc)).set 0 (.int .i64 s.o)).set 1 (.int .i64 s.a)).set 2 (.int .i64 s.p)).set 3 (.bool s.t)).set 4 (.slice s.ka s.kn s.kc); exact Blk.draw1 (by simpa using this))
      have HKP := hid (show Kp (fun q => q = w.heap.size ∨ q = w.heap.size + 1) wy wf by rw [hwf]; exact (((((((((Kp.refl (fun q => q = w.heap.size ∨ q = w.heap.size + 1) wy).set (q := w.heap.size) (.inl (.inl rfl)) 0 (.int .i64 W)).set (q := w.heap.size) (.inl (.inl rfl)) 1 (.int .i64 H)).set (q := w.heap.size) (.inl (.inl rfl)) 2 (.slice pA pn pc)).set (q := w.heap.size + 1) (.inl (.inr rfl)) 0 (.int .i64 s.o)).set (q := w.heap.size + 1) (.inl (.inr rfl)) 1 (.int .i64 s.a)).set (q := w.heap.size + 1) (.inl (.inr rfl)) 2 (.int .i64 s.p)).set (q := w.heap.size + 1) (.inl (.inr rfl)) 3 (.bool s.t)).set (q := w.heap.size + 1) (.inl (.inr rfl)) 4 (.slice s.ka s.kn s.kc)).dr (Dr.refl _).one)
      rw [← hwf]
      clear hwf
      try clear c_K f_K l_K c_P f_P l_P c_Q f_Q l_Q c_R f_R l_R
      have c_BQ := fun (o : Nat) => BQ.out.cell o
      have c_BR := fun (o : Nat) => BR.out.cell o
      go_wp2
      exact bodyPost_ret (v := .tuple #[.agg #[.int .i64 W, .int .i64 H, .slice pA pn pc], .agg #[.int .i64 s.o, .int .i64 s.a, .int .i64 s.p, .bool s.t, .slice s.ka s.kn s.kc]]) (by simp [results, Try.results43, go_sem, c_BQ, c_BR]) rfl (any_fin HY.out HKP.out)

end Go.Proofs.Ytafcohmneeabbaa
