/-
  Contracts: where a largest clear box may begin and end (written by a program of mine).
-/
import Derived.Test.YtpicbkakghojnaaLarge
namespace Go.Proofs.Ytpicbkakghojnaa
set_option linter.unusedSimpArgs false
set_option linter.unusedVariables false
open Go.RowKit

/-- No block in common. -/
def Dj (v u : Value) : Prop := ∀ k, v.ownBlock = some k → u.ownBlock ≠ some k
theorem Dj.symm {v u : Value} (h : Dj v u) : Dj u v := fun k h1 h2 => h k h2 h1
theorem Dj.kept {v u : Value} (h : Dj v u) : v.ownBlock = none ∨ v.ownBlock ≠ u.ownBlock := by
  cases e : v.ownBlock with
  | none => exact .inl rfl
  | some k => exact .inr (fun e2 => h k e e2.symm)
/-- A list of numbers at the head of edges. -/
def edL (a : Int) (F : List Bx) (g : Bx → Int) : List Int := a :: F.map g
theorem edL_take {a : Int} {F : List Bx} {g : Bx → Int} {k : Nat} (hk : k < F.length) : edL a (F.take (k + 1)) g = edL a (F.take k) g ++ [g F[k]] := by
  simp only [edL]
  rw [List.take_succ_eq_append_getElem hk]
  simp only [List.map_append, List.map_cons, List.map_nil, List.cons_append]
theorem edL_len (a : Int) (F : List Bx) (g : Bx → Int) (k : Nat) (h : F.length ≤ 6) : (edL a (F.take k) g).length ≤ 7 := by
  simp only [edL, List.length_cons, List.length_map, List.length_take]; omega
def ED (B q4 q5 : Nat) (W w : World) (v0 v1 v2 v3 : Value) (L0 L1 L2 L3 : List Int) : Prop :=
  (Own intE 3 B w v0 L0 ∧ Own intE 3 B w v1 L1 ∧ Own intE 3 B w v2 L2 ∧ Own intE 3 B w v3 L3) ∧
  (Dj v0 v1 ∧ Dj v0 v2 ∧ Dj v0 v3 ∧ Dj v1 v2 ∧ Dj v1 v3 ∧ Dj v2 v3) ∧
  (Blk w q4 #[v0, v1] 87 ∧ Blk w q5 #[v2, v3] 87) ∧
  (v0.ownBlock ≠ some q4 ∧ v1.ownBlock ≠ some q4 ∧ v2.ownBlock ≠ some q4 ∧ v3.ownBlock ≠ some q4) ∧
  (v0.ownBlock ≠ some q5 ∧ v1.ownBlock ≠ some q5 ∧ v2.ownBlock ≠ some q5 ∧ v3.ownBlock ≠ some q5) ∧ Below B W w ∧ B ≤ q4 ∧ B ≤ q5 ∧ q4 ≠ q5
section
variable {B q4 q5 n : Nat} {W w w' : World} {v0 v1 v2 v3 v' : Value} {L0 L1 L2 L3 L' : List Int}
theorem ED.alloc (h : ED B q4 q5 W w v0 v1 v2 v3 L0 L1 L2 L3) (o : Obj) : ED B q4 q5 W (w.alloc o) v0 v1 v2 v3 L0 L1 L2 L3 := by
  obtain ⟨⟨a0, a1, a2, a3⟩, h2, ⟨k4, k5⟩, h4, h5, h6, h7, h8, h9⟩ := h
  exact ⟨⟨a0.alloc o, a1.alloc o, a2.alloc o, a3.alloc o⟩, h2, ⟨k4.alloc o, k5.alloc o⟩, h4, h5, h6.alloc (by have := k4.lt; omega) o, h7, h8, h9⟩
theorem dj_new {u v v' : Value} {L : List Int} (hu : Own intE 3 B w u L) (hd : Dj v u) (hat : v'.ownBlock = v.ownBlock ∨ v'.ownBlock = some n) (hn : w.heap.size ≤ n) : Dj v' u := by
  intro k hk e
  rcases hat with h | h
  · rw [h] at hk; exact hd k hk e
  · rw [h] at hk; injection hk with hk; have := (hu.lt k e).2; omega
theorem nq_new {v v' : Value} {q : Nat} (hq : v.ownBlock ≠ some q) (hat : v'.ownBlock = v.ownBlock ∨ v'.ownBlock = some n) (hn : q < n) : v'.ownBlock ≠ some q := by
  rcases hat with h | h
  · rw [h]; exact hq
  · rw [h]; intro e; injection e; omega
theorem ED.push0 (h : ED B q4 q5 W w v0 v1 v2 v3 L0 L1 L2 L3) (ho : Own intE 3 B w' v' L') (hg : w.grownBy w' v0.ownBlock) (hat : v'.ownBlock = v0.ownBlock ∨ v'.ownBlock = some n) (hn : w.heap.size ≤ n) : ED B q4 q5 W (w'.setCell ⟨q4, 0, none⟩ v') v' v1 v2 v3 L' L1 L2 L3 := by
  obtain ⟨⟨a0, a1, a2, a3⟩, ⟨d01, d02, d03, d12, d13, d23⟩, ⟨k4, k5⟩, ⟨n40, n41, n42, n43⟩, ⟨n50, n51, n52, n53⟩, hb, b4, b5, hne⟩ := h
  have l4 := k4.lt
  have l5 := k5.lt
  refine ⟨⟨ho.setCell_ne (p := ⟨q4, 0, none⟩) (nq_new (q := q4) n40 hat (by omega)) v', (a1.kept hg (d01.symm).kept).setCell_ne (p := ⟨q4, 0, none⟩) n41 v', (a2.kept hg (d02.symm).kept).setCell_ne (p := ⟨q4, 0, none⟩) n42 v', (a3.kept hg (d03.symm).kept).setCell_ne (p := ⟨q4, 0, none⟩) n43 v'⟩, ⟨dj_new a1 d01 hat hn, dj_new a2 d02 hat hn, dj_new a3 d03 hat hn, d12, d13, d23⟩, ⟨by have := (k4.grown hg (fun e => n40 e.symm)).set 0 v'; simpa using this, (k5.grown hg (fun e => n50 e.symm)).setO (p := ⟨q4, 0, none⟩) (by simp; omega) v'⟩, ⟨nq_new n40 hat (by omega), n41, n42, n43⟩, ⟨nq_new n50 hat (by omega), n51, n52, n53⟩, (hb.grown hg (by omega) (fun k hk => (a0.lt k hk).1)).setCell (by simp; omega) _, b4, b5, hne⟩
theorem ED.blk0 (h : ED B q4 q5 W w v0 v1 v2 v3 L0 L1 L2 L3) (hg : w.grownBy w' v0.ownBlock) : Blk w' q4 #[v0, v1] 87 ∧ Blk w' q5 #[v2, v3] 87 := by
  obtain ⟨-, -, ⟨k4, k5⟩, ⟨n40, n41, n42, n43⟩, ⟨n50, n51, n52, n53⟩, -⟩ := h
  exact ⟨k4.grown hg (fun e => n40 e.symm), k5.grown hg (fun e => n50 e.symm)⟩
theorem ED.push1 (h : ED B q4 q5 W w v0 v1 v2 v3 L0 L1 L2 L3) (ho : Own intE 3 B w' v' L') (hg : w.grownBy w' v1.ownBlock) (hat : v'.ownBlock = v1.ownBlock ∨ v'.ownBlock = some n) (hn : w.heap.size ≤ n) : ED B q4 q5 W (w'.setCell ⟨q4, 1, none⟩ v') v0 v' v2 v3 L0 L' L2 L3 := by
  obtain ⟨⟨a0, a1, a2, a3⟩, ⟨d01, d02, d03, d12, d13, d23⟩, ⟨k4, k5⟩, ⟨n40, n41, n42, n43⟩, ⟨n50, n51, n52, n53⟩, hb, b4, b5, hne⟩ := h
  have l4 := k4.lt
  have l5 := k5.lt
  refine ⟨⟨(a0.kept hg (d01).kept).setCell_ne (p := ⟨q4, 1, none⟩) n40 v', ho.setCell_ne (p := ⟨q4, 1, none⟩) (nq_new (q := q4) n41 hat (by omega)) v', (a2.kept hg (d12.symm).kept).setCell_ne (p := ⟨q4, 1, none⟩) n42 v', (a3.kept hg (d13.symm).kept).setCell_ne (p := ⟨q4, 1, none⟩) n43 v'⟩, ⟨(dj_new a0 d01.symm hat hn).symm, d02, d03, dj_new a2 d12 hat hn, dj_new a3 d13 hat hn, d23⟩, ⟨by have := (k4.grown hg (fun e => n41 e.symm)).set 1 v'; simpa using this, (k5.grown hg (fun e => n51 e.symm)).setO (p := ⟨q4, 1, none⟩) (by simp; omega) v'⟩, ⟨n40, nq_new n41 hat (by omega), n42, n43⟩, ⟨n50, nq_new n51 hat (by omega), n52, n53⟩, (hb.grown hg (by omega) (fun k hk => (a1.lt k hk).1)).setCell (by simp; omega) _, b4, b5, hne⟩
theorem ED.blk1 (h : ED B q4 q5 W w v0 v1 v2 v3 L0 L1 L2 L3) (hg : w.grownBy w' v1.ownBlock) : Blk w' q4 #[v0, v1] 87 ∧ Blk w' q5 #[v2, v3] 87 := by
  obtain ⟨-, -, ⟨k4, k5⟩, ⟨n40, n41, n42, n43⟩, ⟨n50, n51, n52, n53⟩, -⟩ := h
  exact ⟨k4.grown hg (fun e => n41 e.symm), k5.grown hg (fun e => n51 e.symm)⟩
theorem ED.push2 (h : ED B q4 q5 W w v0 v1 v2 v3 L0 L1 L2 L3) (ho : Own intE 3 B w' v' L') (hg : w.grownBy w' v2.ownBlock) (hat : v'.ownBlock = v2.ownBlock ∨ v'.ownBlock = some n) (hn : w.heap.size ≤ n) : ED B q4 q5 W (w'.setCell ⟨q5, 0, none⟩ v') v0 v1 v' v3 L0 L1 L' L3 := by
  obtain ⟨⟨a0, a1, a2, a3⟩, ⟨d01, d02, d03, d12, d13, d23⟩, ⟨k4, k5⟩, ⟨n40, n41, n42, n43⟩, ⟨n50, n51, n52, n53⟩, hb, b4, b5, hne⟩ := h
  have l4 := k4.lt
  have l5 := k5.lt
  refine ⟨⟨(a0.kept hg (d02).kept).setCell_ne (p := ⟨q5, 0, none⟩) n50 v', (a1.kept hg (d12).kept).setCell_ne (p := ⟨q5, 0, none⟩) n51 v', ho.setCell_ne (p := ⟨q5, 0, none⟩) (nq_new (q := q5) n52 hat (by omega)) v', (a3.kept hg (d23.symm).kept).setCell_ne (p := ⟨q5, 0, none⟩) n53 v'⟩, ⟨d01, (dj_new a0 d02.symm hat hn).symm, d03, (dj_new a1 d12.symm hat hn).symm, d13, dj_new a3 d23 hat hn⟩, ⟨(k4.grown hg (fun e => n42 e.symm)).setO (p := ⟨q5, 0, none⟩) (by simp; omega) v', by have := (k5.grown hg (fun e => n52 e.symm)).set 0 v'; simpa using this⟩, ⟨n40, n41, nq_new n42 hat (by omega), n43⟩, ⟨n50, n51, nq_new n52 hat (by omega), n53⟩, (hb.grown hg (by omega) (fun k hk => (a2.lt k hk).1)).setCell (by simp; omega) _, b4, b5, hne⟩
theorem ED.blk2 (h : ED B q4 q5 W w v0 v1 v2 v3 L0 L1 L2 L3) (hg : w.grownBy w' v2.ownBlock) : Blk w' q4 #[v0, v1] 87 ∧ Blk w' q5 #[v2, v3] 87 := by
  obtain ⟨-, -, ⟨k4, k5⟩, ⟨n40, n41, n42, n43⟩, ⟨n50, n51, n52, n53⟩, -⟩ := h
  exact ⟨k4.grown hg (fun e => n42 e.symm), k5.grown hg (fun e => n52 e.symm)⟩
theorem ED.push3 (h : ED B q4 q5 W w v0 v1 v2 v3 L0 L1 L2 L3) (ho : Own intE 3 B w' v' L') (hg : w.grownBy w' v3.ownBlock) (hat : v'.ownBlock = v3.ownBlock ∨ v'.ownBlock = some n) (hn : w.heap.size ≤ n) : ED B q4 q5 W (w'.setCell ⟨q5, 1, none⟩ v') v0 v1 v2 v' L0 L1 L2 L' := by
  obtain ⟨⟨a0, a1, a2, a3⟩, ⟨d01, d02, d03, d12, d13, d23⟩, ⟨k4, k5⟩, ⟨n40, n41, n42, n43⟩, ⟨n50, n51, n52, n53⟩, hb, b4, b5, hne⟩ := h
  have l4 := k4.lt
  have l5 := k5.lt
  refine ⟨⟨(a0.kept hg (d03).kept).setCell_ne (p := ⟨q5, 1, none⟩) n50 v', (a1.kept hg (d13).kept).setCell_ne (p := ⟨q5, 1, none⟩) n51 v', (a2.kept hg (d23).kept).setCell_ne (p := ⟨q5, 1, none⟩) n52 v', ho.setCell_ne (p := ⟨q5, 1, none⟩) (nq_new (q := q5) n53 hat (by omega)) v'⟩, ⟨d01, d02, (dj_new a0 d03.symm hat hn).symm, d12, (dj_new a1 d13.symm hat hn).symm, (dj_new a2 d23.symm hat hn).symm⟩, ⟨(k4.grown hg (fun e => n43 e.symm)).setO (p := ⟨q5, 1, none⟩) (by simp; omega) v', by have := (k5.grown hg (fun e => n53 e.symm)).set 1 v'; simpa using this⟩, ⟨n40, n41, n42, nq_new n43 hat (by omega)⟩, ⟨n50, n51, n52, nq_new n53 hat (by omega)⟩, (hb.grown hg (by omega) (fun k hk => (a3.lt k hk).1)).setCell (by simp; omega) _, b4, b5, hne⟩
theorem ED.blk3 (h : ED B q4 q5 W w v0 v1 v2 v3 L0 L1 L2 L3) (hg : w.grownBy w' v3.ownBlock) : Blk w' q4 #[v0, v1] 87 ∧ Blk w' q5 #[v2, v3] 87 := by
  obtain ⟨-, -, ⟨k4, k5⟩, ⟨n40, n41, n42, n43⟩, ⟨n50, n51, n52, n53⟩, -⟩ := h
  exact ⟨k4.grown hg (fun e => n43 e.symm), k5.grown hg (fun e => n53 e.symm)⟩
end
def EdgesOut (base : Nat) (p : Pc) (e : Ending) (w' : World) : Prop := ∃ v0 v1 v2 v3 : Value, e = .returned (.tuple #[.agg #[v0, v1], .agg #[v2, v3]]) ∧
  Own intE 3 base w' v0 (edL 0 p.f (fun b => b.x + b.w)) ∧ Own intE 3 base w' v1 (edL p.w p.f (fun b => b.x)) ∧ Own intE 3 base w' v2 (edL 0 p.f (fun b => b.y + b.h)) ∧ Own intE 3 base w' v3 (edL p.h p.f (fun b => b.y))

set_option maxHeartbeats 12800000 in
set_option maxRecDepth 100000 in
theorem edgesOf_c (p : Pc) (s : Ps) (w : World) (h : PvR w.heap.size w p s) (hv : VP p) : Calls Try.prog 76 #[.agg #[.int .i64 s.l, .int .i64 s.w, .int .i64 s.h, .slice s.ka s.kn s.kc]] w fun e w' => EdgesOut w.heap.size p e w' ∧ Below w.heap.size w w' := by
  obtain ⟨⟨g1, g2, g3⟩, hr⟩ := id h
  obtain ⟨sl, sw, sh, ka, kn, kc⟩ := s
  obtain ⟨pl, pw, ph, f⟩ := p
  simp only at g1 g2 g3 hr
  subst g1; subst g2; subst g3
  obtain ⟨A1, c1, e1, hc1, hm1⟩ := hr.form
  simp only [Ps.kv, Value.slice.injEq] at e1
  obtain ⟨rfl, rfl, rfl⟩ := e1
  unfold maxLen at hm1
  have h6 : f.length ≤ 6 := hv.2.2.2.1
  have HVF : Hid (∀ g ∈ f, VB g) := fun g hg => (hv.2.2.2.2 g hg).1
  have HLK := hid (fun a g k => edL_len a f g k h6)
  obtain ⟨i0, hi0, hz0, hz1, hz2⟩ := info_parts int_info
  have B0 := hid (((below_ps (l := sl) (x := sw) (y := sh) (ka := ka) (kn := f.length) (kc := kc) (ty := 31) w).alloc (by simp) (.cells #[.slice none 0 0, .slice none 0 0] 87)).alloc (by simp; omega) (.cells #[.slice none 0 0, .slice none 0 0] 87))
  obtain ⟨W, hW⟩ : ∃ W, W = ((w.alloc (.cells #[.int .i64 sl, .int .i64 sw, .int .i64 sh, .slice ka f.length kc] 31)).alloc (.cells #[.slice none 0 0, .slice none 0 0] 87)).alloc (.cells #[.slice none 0 0, .slice none 0 0] 87) := ⟨_, rfl⟩
  have K0 : Blk W w.heap.size #[.int .i64 sl, .int .i64 sw, .int .i64 sh, .slice ka f.length kc] 31 := by rw [hW]; exact ((Blk.new _ _ _).alloc _).alloc _
  have K1 : Blk W (w.heap.size + 1) #[.slice none 0 0, .slice none 0 0] 87 := by
    rw [hW]; have := (Blk.new (w.alloc (.cells #[.int .i64 sl, .int .i64 sw, .int .i64 sh, .slice ka f.length kc] 31)) #[.slice none 0 0, .slice none 0 0] 87).alloc (.cells #[.slice none 0 0, .slice none 0 0] 87); simpa using this
  have K2 : Blk W (w.heap.size + 1 + 1) #[.slice none 0 0, .slice none 0 0] 87 := by
    rw [hW]; have := (Blk.new ((w.alloc (.cells #[.int .i64 sl, .int .i64 sw, .int .i64 sh, .slice ka f.length kc] 31)).alloc (.cells #[.slice none 0 0, .slice none 0 0] 87)) #[.slice none 0 0, .slice none 0 0] 87); simpa using this
  have HR := hid hr
  have HW := hid hW
  rw [← hW] at B0
  have HK0 := hid K0
  have HK1 := hid K1
  have HK2 := hid K2
  have hp0 := fun (o : Nat) => K0.cell o
  have q0 : w.heap.size + 1 + 1 < W.heap.size := K2.lt
  have q1 : w.heap.size < W.heap.size := K0.lt
  have q11 : w.heap.size < W.heap.size + 1 := by omega
  have q12 : w.heap.size < W.heap.size + 1 + 1 := by omega
  have q13 : w.heap.size < W.heap.size + 1 + 1 + 1 := by omega
  have q14 : w.heap.size < W.heap.size + 1 + 1 + 1 + 1 := by omega
  have q15 : w.heap.size < W.heap.size + 1 + 1 + 1 + 1 + 1 := by omega
  have q16 : w.heap.size < W.heap.size + 1 + 1 + 1 + 1 + 1 + 1 := by omega
  clear hW K0 K1 K2 h hr hc1 hv
  go_enter Try.func76, Try.ntmps76
  go_upto_region 1 with (fail)
  rw [← HW.out]
  have HST : Hid (ED W.heap.size (W.heap.size + 1 + 1) (W.heap.size + 1 + 1 + 1 + 1 + 1) W ((((((W.alloc (.cells #[.int .i64 0] 3)).alloc (.cells #[.int .i64 sw] 3)).alloc (.cells #[.slice (some ⟨W.heap.size, 0, none⟩) 1 1, .slice (some ⟨W.heap.size + 1, 0, none⟩) 1 1] 87)).alloc (.cells #[.int .i64 0] 3)).alloc (.cells #[.int .i64 sh] 3)).alloc (.cells #[.slice (some ⟨W.heap.size + 1 + 1 + 1, 0, none⟩) 1 1, .slice (some ⟨W.heap.size + 1 + 1 + 1 + 1, 0, none⟩) 1 1] 87))
      (.slice (some ⟨W.heap.size, 0, none⟩) 1 1) (.slice (some ⟨W.heap.size + 1, 0, none⟩) 1 1) (.slice (some ⟨W.heap.size + 1 + 1 + 1, 0, none⟩) 1 1) (.slice (some ⟨W.heap.size + 1 + 1 + 1 + 1, 0, none⟩) 1 1) (edL 0 (f.take 0) (fun b => b.x + b.w)) (edL sw (f.take 0) (fun b => b.x)) (edL 0 (f.take 0) (fun b => b.y + b.h)) (edL sh (f.take 0) (fun b => b.y))) := by
    have own1 : ∀ (X : World) (q : Nat) (x : Int) (hq : q = X.heap.size) (hB : W.heap.size ≤ X.heap.size), Own intE 3 W.heap.size (X.alloc (.cells #[.int .i64 x] 3)) (.slice (some ⟨q, 0, none⟩) 1 1) [x] := fun X q x hq hB => by subst hq; exact Own.lit intE X W.heap.size 3 #[.int .i64 x] [x] 1 rfl rfl hB (by simp [maxLen])
    have blk1 : ∀ (X : World) (q : Nat) (cs : Array Value) (hq : q = X.heap.size), Blk (X.alloc (.cells cs 87)) q cs 87 := fun X q cs hq => by subst hq; exact Blk.new _ _ _
    refine ⟨⟨((((own1 _ _ _ rfl (by omega)).alloc _).alloc _).alloc _).alloc _ |>.alloc _, (((own1 _ _ _ (by simp) (by simp)).alloc _).alloc _).alloc _ |>.alloc _, ((own1 _ _ _ (by simp) (by simp; omega)).alloc _).alloc _, (own1 _ _ _ (by simp) (by simp; omega)).alloc _⟩, ?_, ⟨(((blk1 _ _ _ (by simp)).alloc _).alloc _).alloc _, blk1 _ _ _ (by simp)⟩, ?_, ?_, ?_, by omega, by omega, by omega⟩
    · refine ⟨?_, ?_, ?_, ?_, ?_, ?_⟩ <;> (intro k h1 h2; simp [Value.ownBlock] at h1 h2; omega)
    · refine ⟨?_, ?_, ?_, ?_⟩ <;> simp [Value.ownBlock] <;> omega
    · refine ⟨?_, ?_, ?_, ?_⟩ <;> simp [Value.ownBlock] <;> omega
    · exact ((((((Below.refl _ _).alloc (Nat.le_refl _) _).alloc (by simp) _).alloc (by simp; omega) _).alloc (by simp; omega) _).alloc (by simp; omega) _).alloc (by simp; omega) _
  go_wp2
  go_loopw [21] (fun i wr => ∃ k : Nat, i = .int .i64 k ∧ k ≤ f.length ∧ ∃ v0 v1 v2 v3, ED W.heap.size (W.heap.size + 1 + 1) (W.heap.size + 1 + 1 + 1 + 1 + 1) W wr v0 v1 v2 v3 (edL 0 (f.take k) (fun b => b.x + b.w)) (edL sw (f.take k) (fun b => b.x)) (edL 0 (f.take k) (fun b => b.y + b.h)) (edL sh (f.take k) (fun b => b.y))) (fun i _ => f.length - (intOf i).toNat)
  case atStart => exact ⟨0, rfl, by omega, _, _, _, _, HST.out⟩
  case round =>
    obtain ⟨k, rfl, hk, v0, v1, v2, v3, hst⟩ := hrel
    obtain ⟨-, -, ⟨k4, k5⟩, -, -, hbw, -⟩ := id hst
    have HBr := hid (B0.out.trans (hbw.mono (by omega)))
    have HBW := hid hbw
    have kk := HK0.out.go hbw
    have r0 := fun (o : Nat) => kk.cell o
    have c4 := fun (o : Nat) => k4.cell o
    have f4 := fun (o : Nat) => k4.frz o
    have l4 := k4.lt
    have c5 := fun (o : Nat) => k5.cell o
    have f5 := fun (o : Nat) => k5.frz o
    have l5 := k5.lt
    have l0 := kk.lt
    have HST1 := hid hst
    clear hst hbw kk k4 k5 hp0 HST
    by_cases hlt : k < f.length
    · obtain ⟨b1, o1, rfl, hb1, hx⟩ := row_boxs (HR.out.below HBr.out) (Nat.lt_of_le_of_lt (Nat.zero_le _) hlt)
      obtain ⟨x0, x1, x2, x3⟩ := hx k hlt
      have hvb := HVF.out _ (List.getElem_mem hlt)
      unfold VB at hvb
      obtain ⟨n1, n2, n3, n4, n5, n6, n7, n8⟩ := hvb
      have HE0 := hid (edL_take (a := 0) (g := fun b => b.x + b.w) hlt)
      have HE1 := hid (edL_take (a := sw) (g := fun b => b.x) hlt)
      have HE2 := hid (edL_take (a := 0) (g := fun b => b.y + b.h) hlt)
      have HE3 := hid (edL_take (a := sh) (g := fun b => b.y) hlt)
      have HS0 := hid (HST1.out.alloc (.cells #[.int .i64 f[k].x, .int .i64 f[k].y, .int .i64 f[k].w, .int .i64 f[k].h] 33))
      have Kx := hid (Blk.new wr #[.int .i64 f[k].x, .int .i64 f[k].y, .int .i64 f[k].w, .int .i64 f[k].h] 33)
      clear hx
      go_wp2_with (at_builtin; refine wpList_pushN intE _ rfl (.tmp 26) (.tmp 32) _ rfl W.heap.size 3 i0 _ 8 Try.underlying85 hi0 hz0 hz1 hz2 rfl (by omega) _ _ rfl HS0.out.1.1 _ (f[k].x + f[k].w) _ rfl rfl (by simp) (Nat.le_trans (HLK.out _ _ k) (by omega)) (by simp; omega) (edL 0 (f.take (k + 1)) (fun b => b.x + b.w)) HE0.out ?_)
      intro v0' w0' ho' hg' hat'
      obtain ⟨A0, cap0, rfl, -⟩ := ho'.shape
      have HS1 := hid (HS0.out.push0 ho' hg' hat' (by first | omega | (simp; done) | (simp; omega)))
      obtain ⟨k4, k5⟩ := HS0.out.blk0 hg'
      have kx := Kx.out.grown hg' (fun e => by have := (HST1.out.1.1.lt _ e.symm).2; omega)
      have Kx1 := hid (kx.setO (p := ⟨W.heap.size + 1 + 1, 0, none⟩) (by simp; omega) (.slice A0 (edL 0 (f.take (k + 1)) (fun b => b.x + b.w)).length cap0))
      (try clear c4 f4 l4 c5 f5 l5 cx lx)
      have c4 := fun (o : Nat) => k4.cell o
      have f4 := fun (o : Nat) => k4.frz o
      have l4 := k4.lt
      have c5 := fun (o : Nat) => k5.cell o
      have f5 := fun (o : Nat) => k5.frz o
      have l5 := k5.lt
      have cx := fun (o : Nat) => kx.cell o
      have lx := kx.lt
      have sz0 := hg'.size
      clear ho' hg' hat' k4 k5 kx
      go_wp2_with (at_builtin; refine wpList_pushN intE _ rfl (.tmp 36) (.tmp 39) _ rfl W.heap.size 3 i0 _ 8 Try.underlying85 hi0 hz0 hz1 hz2 rfl (by omega) _ _ rfl HS1.out.1.2.1 _ (f[k].x) _ rfl rfl (by simp) (Nat.le_trans (HLK.out _ _ k) (by omega)) (by simp; omega) (edL sw (f.take (k + 1)) (fun b => b.x)) HE1.out ?_)
      intro v1' w1' ho' hg' hat'
      obtain ⟨A1, cap1, rfl, -⟩ := ho'.shape
      have HS2 := hid (HS1.out.push1 ho' hg' hat' (by first | omega | (simp; done) | (simp; omega)))
      obtain ⟨k4, k5⟩ := HS1.out.blk1 hg'
      have kx := Kx1.out.grown hg' (fun e => by have := (HST1.out.1.2.1.lt _ e.symm).2; omega)
      have Kx2 := hid (kx.setO (p := ⟨W.heap.size + 1 + 1, 1, none⟩) (by simp; omega) (.slice A1 (edL sw (f.take (k + 1)) (fun b => b.x)).length cap1))
      (try clear c4 f4 l4 c5 f5 l5 cx lx)
      have c4 := fun (o : Nat) => k4.cell o
      have f4 := fun (o : Nat) => k4.frz o
      have l4 := k4.lt
      have c5 := fun (o : Nat) => k5.cell o
      have f5 := fun (o : Nat) => k5.frz o
      have l5 := k5.lt
      have cx := fun (o : Nat) => kx.cell o
      have lx := kx.lt
      have sz1 := hg'.size
      clear ho' hg' hat' k4 k5 kx
      go_wp2_with (at_builtin; refine wpList_pushN intE _ rfl (.tmp 43) (.tmp 49) _ rfl W.heap.size 3 i0 _ 8 Try.underlying85 hi0 hz0 hz1 hz2 rfl (by omega) _ _ rfl HS2.out.1.2.2.1 _ (f[k].y + f[k].h) _ rfl rfl (by simp) (Nat.le_trans (HLK.out _ _ k) (by omega)) (by simp; omega) (edL 0 (f.take (k + 1)) (fun b => b.y + b.h)) HE2.out ?_)
      intro v2' w2' ho' hg' hat'
      obtain ⟨A2, cap2, rfl, -⟩ := ho'.shape
      have HS3 := hid (HS2.out.push2 ho' hg' hat' (by first | omega | (simp; done) | (simp; omega)))
      obtain ⟨k4, k5⟩ := HS2.out.blk2 hg'
      have kx := Kx2.out.grown hg' (fun e => by have := (HST1.out.1.2.2.1.lt _ e.symm).2; omega)
      have Kx3 := hid (kx.setO (p := ⟨W.heap.size + 1 + 1 + 1 + 1 + 1, 0, none⟩) (by simp; omega) (.slice A2 (edL 0 (f.take (k + 1)) (fun b => b.y + b.h)).length cap2))
      (try clear c4 f4 l4 c5 f5 l5 cx lx)
      have c4 := fun (o : Nat) => k4.cell o
      have f4 := fun (o : Nat) => k4.frz o
      have l4 := k4.lt
      have c5 := fun (o : Nat) => k5.cell o
      have f5 := fun (o : Nat) => k5.frz o
      have l5 := k5.lt
      have cx := fun (o : Nat) => kx.cell o
      have lx := kx.lt
      have sz2 := hg'.size
      clear ho' hg' hat' k4 k5 kx
      go_wp2_with (at_builtin; refine wpList_pushN intE _ rfl (.tmp 53) (.tmp 56) _ rfl W.heap.size 3 i0 _ 8 Try.underlying85 hi0 hz0 hz1 hz2 rfl (by omega) _ _ rfl HS3.out.1.2.2.2 _ (f[k].y) _ rfl rfl (by simp) (Nat.le_trans (HLK.out _ _ k) (by omega)) (by simp; omega) (edL sh (f.take (k + 1)) (fun b => b.y)) HE3.out ?_)
      intro v3' w3' ho' hg' hat'
      obtain ⟨A3, cap3, rfl, -⟩ := ho'.shape
      have HS4 := hid (HS3.out.push3 ho' hg' hat' (by first | omega | (simp; done) | (simp; omega)))
      obtain ⟨k4, k5⟩ := HS3.out.blk3 hg'
      have kx := Kx3.out.grown hg' (fun e => by have := (HST1.out.1.2.2.2.lt _ e.symm).2; omega)
      have Kx4 := hid (kx.setO (p := ⟨W.heap.size + 1 + 1 + 1 + 1 + 1, 1, none⟩) (by simp; omega) (.slice A3 (edL sh (f.take (k + 1)) (fun b => b.y)).length cap3))
      (try clear c4 f4 l4 c5 f5 l5 cx lx)
      have c4 := fun (o : Nat) => k4.cell o
      have f4 := fun (o : Nat) => k4.frz o
      have l4 := k4.lt
      have c5 := fun (o : Nat) => k5.cell o
      have f5 := fun (o : Nat) => k5.frz o
      have l5 := k5.lt
      have cx := fun (o : Nat) => kx.cell o
      have lx := kx.lt
      have sz3 := hg'.size
      clear ho' hg' hat' k4 k5 kx
      go_wp2
      exact ⟨⟨k + 1, by go_num, by omega, _, _, _, _, HS4.out⟩, by simp [intOf]; omega⟩
    · have e : f.take k = f := List.take_of_length_le (by omega)
      rw [e] at HST1
      have k1 := HK1.out.go HBW.out
      have k2 := HK2.out.go HBW.out
      have c1 := fun (o : Nat) => k1.cell o
      have f1 := fun (o : Nat) => k1.frz o
      have l1 := k1.lt
      have c2 := fun (o : Nat) => k2.cell o
      have f2 := fun (o : Nat) => k2.frz o
      have l2 := k2.lt
      obtain ⟨A0, cap0, rfl, -⟩ := HST1.out.1.1.shape
      obtain ⟨A1', cap1, rfl, -⟩ := HST1.out.1.2.1.shape
      obtain ⟨A2, cap2, rfl, -⟩ := HST1.out.1.2.2.1.shape
      obtain ⟨A3, cap3, rfl, -⟩ := HST1.out.1.2.2.2.shape
      clear e k1 k2
      go_wp2
      go_region
      all_goals
        go_wp2
        refine bodyPost_ret (v := .tuple #[.agg #[.slice A0 (edL 0 f (fun b => b.x + b.w)).length cap0, .slice A1' (edL sw f (fun b => b.x)).length cap1], .agg #[.slice A2 (edL 0 f (fun b => b.y + b.h)).length cap2, .slice A3 (edL sh f (fun b => b.y)).length cap3]]) (by simp [results, Try.results76, go_sem, c1, c2]) rfl ⟨⟨_, _, _, _, rfl, ?_, ?_, ?_, ?_⟩, ?_⟩
        · exact (((((HST1.out.1.1.dr (Dr.refl _).one).setCell_far (p := ⟨_, _, none⟩) (by simp; omega) _).setCell_far (p := ⟨_, _, none⟩) (by simp; omega) _).setCell_far (p := ⟨_, _, none⟩) (by simp; omega) _).setCell_far (p := ⟨_, _, none⟩) (by simp; omega) _).base_le (by omega)
        · exact (((((HST1.out.1.2.1.dr (Dr.refl _).one).setCell_far (p := ⟨_, _, none⟩) (by simp; omega) _).setCell_far (p := ⟨_, _, none⟩) (by simp; omega) _).setCell_far (p := ⟨_, _, none⟩) (by simp; omega) _).setCell_far (p := ⟨_, _, none⟩) (by simp; omega) _).base_le (by omega)
        · exact (((((HST1.out.1.2.2.1.dr (Dr.refl _).one).setCell_far (p := ⟨_, _, none⟩) (by simp; omega) _).setCell_far (p := ⟨_, _, none⟩) (by simp; omega) _).setCell_far (p := ⟨_, _, none⟩) (by simp; omega) _).setCell_far (p := ⟨_, _, none⟩) (by simp; omega) _).base_le (by omega)
        · exact (((((HST1.out.1.2.2.2.dr (Dr.refl _).one).setCell_far (p := ⟨_, _, none⟩) (by simp; omega) _).setCell_far (p := ⟨_, _, none⟩) (by simp; omega) _).setCell_far (p := ⟨_, _, none⟩) (by simp; omega) _).setCell_far (p := ⟨_, _, none⟩) (by simp; omega) _).base_le (by omega)
        · exact ((((HBr.out.drew.setCell (by simp <;> omega) _).setCell (by simp <;> omega) _).setCell (by simp <;> omega) _).setCell (by simp <;> omega) _)

end Go.Proofs.Ytpicbkakghojnaa
