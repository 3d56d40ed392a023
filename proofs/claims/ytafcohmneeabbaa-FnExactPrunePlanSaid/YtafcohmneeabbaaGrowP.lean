/-
  Plans that are grown: reads deep in blocks of which a predicate is told; worlds that keep all blocks but some; whether a leaf fits.
-/
import Derived.Test.YtafcohmneeabbaaPlanSz
import Derived.Test.YtafcohmneeabbaaPane
import Derived.Test.YtafcohmneeabbaaRead
import Derived.Test.YtafcohmneeabbaaBlk
import Derived.Test.YtafcohmneeabbaaRange
namespace Go.Proofs.Ytafcohmneeabbaa
set_option linter.unusedSimpArgs false
set_option linter.unusedVariables false
open Go.RowKit

def RowQ {α : Type} (E : Enc α) (ok : Nat → Prop) (w : World) (v : Value) (L : List α) : Prop :=
  ∃ A c, v = .slice A L.length c ∧ L.length ≤ c ∧ c ≤ maxLen ∧ (0 < L.length → ∃ b off, A = some ⟨b, off, none⟩ ∧ ok b ∧ ∀ j u, (E.flat L)[j]? = some u → w.cell? ⟨b, off + j, none⟩ = some u)
theorem RowQ.heap {α : Type} {E : Enc α} {ok ok' : Nat → Prop} {w w' : World} {v : Value} {L : List α} (h : RowQ E ok w v L) (hk : ∀ b, ok b → w'.heap[b]? = w.heap[b]?) (ho : ∀ b, ok b → ok' b) : RowQ E ok' w' v L := by
  obtain ⟨A, c, h1, h2, h3, h4⟩ := h
  refine ⟨A, c, h1, h2, h3, fun h0 => ?_⟩
  obtain ⟨b, off, e, hb, hc⟩ := h4 h0
  exact ⟨b, off, e, ho b hb, fun j u hu => (World.cell?_of_block (w := w) (hk b hb)).trans (hc j u hu)⟩
theorem RowQ.rowB {α : Type} {E : Enc α} {ok : Nat → Prop} {w : World} {v : Value} {L : List α} {B : Nat} (h : RowQ E ok w v L) (hB : ∀ b, ok b → b < B) : RowB E B w v L := by
  obtain ⟨A, c, h1, h2, h3, h4⟩ := h
  refine ⟨A, c, h1, h2, h3, fun h0 => ?_⟩
  obtain ⟨b, off, e, hb, hc⟩ := h4 h0
  exact ⟨b, off, e, hB b hb, hc⟩

/-- The slice value v reads, deep, in blocks that are ok, as the plans L. -/
def FQ (ok : Nat → Prop) (w : World) : Nat → Value → List Pl → Prop
  | 0, _, _ => False
  | n + 1, v, L => ∃ S : List Sh, RowQ shE ok w v S ∧ S.length = L.length ∧ ∀ k (h1 : k < S.length) (h2 : k < L.length), S[k].same L[k] ∧ FQ ok w n S[k].kv L[k].ks
theorem FQ.heap {ok ok' : Nat → Prop} {w w' : World} (hk : ∀ b, ok b → w'.heap[b]? = w.heap[b]?) (ho : ∀ b, ok b → ok' b) : ∀ {n : Nat} {v : Value} {L : List Pl}, FQ ok w n v L → FQ ok' w' n v L
  | 0, _, _, h => h
  | n + 1, v, L, h => by
    obtain ⟨S, h1, h2, h3⟩ := h
    exact ⟨S, h1.heap hk ho, h2, fun k h4 h5 => ⟨(h3 k h4 h5).1, FQ.heap hk ho (h3 k h4 h5).2⟩⟩
theorem FQ.fr {ok : Nat → Prop} {w : World} {B : Nat} (hB : ∀ b, ok b → b < B) : ∀ {n : Nat} {v : Value} {L : List Pl}, FQ ok w n v L → FR B w n v L
  | 0, _, _, h => h
  | n + 1, v, L, h => by
    obtain ⟨S, h1, h2, h3⟩ := h
    exact ⟨S, h1.rowB hB, h2, fun k h4 h5 => ⟨(h3 k h4 h5).1, FQ.fr hB (h3 k h4 h5).2⟩⟩
theorem FQ.nil (ok : Nat → Prop) (w : World) (n : Nat) : FQ ok w (n + 1) (.slice none 0 0) [] := ⟨[], ⟨none, 0, rfl, by simp, by simp [maxLen], fun h => by simp at h⟩, rfl, fun k h => by simp at h⟩
theorem FQ.two {ok : Nat → Prop} {w : World} {n g : Nat} {s1 s2 : Sh} {p1 p2 : Pl} {t : TypeId} (hg : Blk w g #[.int .i64 s1.o, .int .i64 s1.a, .int .i64 s1.p, .bool s1.t, .slice s1.ka s1.kn s1.kc, .int .i64 s2.o, .int .i64 s2.a, .int .i64 s2.p, .bool s2.t, .slice s2.ka s2.kn s2.kc] t)
    (hok : ok g) (h1 : s1.same p1) (h2 : s2.same p2) (h3 : FQ ok w n s1.kv p1.ks) (h4 : FQ ok w n s2.kv p2.ks) : FQ ok w (n + 1) (.slice (some ⟨g, 0, none⟩) 2 2) [p1, p2] := by
  refine ⟨[s1, s2], ⟨some ⟨g, 0, none⟩, 2, rfl, by simp, by simp [maxLen], fun _ => ⟨g, 0, rfl, hok, fun j u hu => ?_⟩⟩, rfl, fun k hk1 hk2 => ?_⟩
  · rw [Nat.zero_add, hg.cell]
    have e : (shE.flat [s1, s2]) = [.int .i64 s1.o, .int .i64 s1.a, .int .i64 s1.p, .bool s1.t, .slice s1.ka s1.kn s1.kc, .int .i64 s2.o, .int .i64 s2.a, .int .i64 s2.p, .bool s2.t, .slice s2.ka s2.kn s2.kc] := rfl
    rw [e] at hu
    simpa using hu
  · match k, hk1 with
    | 0, _ => exact ⟨h1, h3⟩
    | 1, _ => exact ⟨h2, h4⟩

/-- All blocks are kept but those that S tells. -/
structure Kp (S : Nat → Prop) (w w' : World) : Prop where
  os : w'.os = w.os
  tape : w'.tape = w.tape
  output : w'.output = w.output
  size : w.heap.size ≤ w'.heap.size
  block : ∀ k, k < w.heap.size → ¬ S k → w'.heap[k]? = w.heap[k]?
theorem Kp.refl (S : Nat → Prop) (w : World) : Kp S w w := ⟨rfl, rfl, rfl, Nat.le_refl _, fun _ _ _ => rfl⟩
theorem Kp.trans {S S' : Nat → Prop} {a b c : World} (h : Kp S a b) (k : Kp S' b c) (hs : ∀ q, q < a.heap.size → S' q → S q) : Kp S a c :=
  ⟨k.os.trans h.os, k.tape.trans h.tape, k.output.trans h.output, Nat.le_trans h.size k.size, fun i hi h2 => (k.block i (Nat.lt_of_lt_of_le hi h.size) (fun e => h2 (hs i hi e))).trans (h.block i hi h2)⟩
theorem Kp.of_grown {S : Nat → Prop} {w w' : World} {r : Option Nat} (h : w.grownBy w' r) (hr : ∀ k, r = some k → S k) : Kp S w w' :=
  ⟨h.os, h.tape, h.output, h.size, fun k hk h3 => h.block k hk (fun e => h3 (hr k e.symm))⟩
theorem Kp.grown {S : Nat → Prop} {a w w' : World} {r : Option Nat} (h : Kp S a w) (hg : w.grownBy w' r) (hr : ∀ k, r = some k → S k ∨ a.heap.size ≤ k) : Kp S a w' :=
  h.trans (Kp.of_grown (S := fun k => r = some k) hg (fun _ e => e)) (fun q hq e => by rcases hr q e with h1 | h1; exact h1; omega)
theorem Kp.alloc {S : Nat → Prop} {a w : World} (h : Kp S a w) (o : Obj) : Kp S a (w.alloc o) := h.grown (World.grownBy_alloc w o none) (fun k e => by cases e)
theorem Kp.below {S : Nat → Prop} {a w w' : World} (h : Kp S a w) (hb : Below w.heap.size w w') : Kp S a w' := h.grown (grown_of_below hb none) (fun k e => by cases e)
theorem Kp.dr {S : Nat → Prop} {a w w' : World} (h : Kp S a w) (hd : Dr w w') : Kp S a w' := h.below (hd.below _)
theorem Kp.set {S : Nat → Prop} {a w : World} (h : Kp S a w) {q : Nat} (hq : S q ∨ a.heap.size ≤ q) (i : Nat) (u : Value) : Kp S a (w.setCell ⟨q, i, none⟩ u) :=
  h.trans (S' := fun k => k = q) ⟨rfl, rfl, rfl, by simp, fun k hk hne => heap_setCell_other w ⟨q, i, none⟩ k u hne⟩ (fun k hk e => by subst e; rcases hq with h1 | h1; exact h1; omega)
theorem Kp.toBelow {S : Nat → Prop} {w w' : World} {B : Nat} (h : Kp S w w') (hB : B ≤ w.heap.size) (hs : ∀ q, S q → B ≤ q) : Below B w w' :=
  ⟨h.os, h.tape, h.output, h.size, fun k hk => h.block k (by omega) (fun e => by have := hs k e; omega)⟩
theorem Kp.blk {S : Nat → Prop} {w w' : World} {g : Nat} {cs : Array Value} {t : TypeId} (h : Kp S w w') (hb : Blk w g cs t) (hg : ¬ S g) : Blk w' g cs t := by rw [Blk, h.block g hb.lt hg]; exact hb

def fitV (q : Pn) (t : Bool) (x y : Int) : Bool := if t then (q.t && (q.w != q.h) && (q.h == x) && (q.w == y)) else ((q.w == x) && (q.h == y))

set_option maxHeartbeats 3200000 in
set_option maxRecDepth 100000 in
theorem fitsPlan_c (x y ww wh : Int) (F : List Pn) (A : Option Addr) (c : Nat) (i : Nat) (t : Bool) (w : World) (h : Row paneE w (.slice A F.length c) F) (hi : i < F.length) : Calls Try.prog 73 #[.agg #[.int .i64 ww, .int .i64 wh, .slice A F.length c], .agg #[.int .i64 1, .int .i64 0, .int .i64 i, .bool t, .slice none 0 0], .int .i64 x, .int .i64 y] w fun e w' => e = .returned (.bool (fitV F[i] t x y)) ∧ Below w.heap.size w w' := by
  obtain ⟨-, hc1, hm1, -⟩ := h.at_
  unfold maxLen at hm1
  have hb0 := ((Below.refl w.heap.size w).alloc (Nat.le_refl _) (.cells #[.int .i64 ww, .int .i64 wh, .slice A F.length c] 47)).alloc (by simp) (.cells #[.int .i64 1, .int .i64 0, .int .i64 i, .bool t, .slice none 0 0] 30)
  have HB0 := hid hb0
  have HH := hid (h.go hb0)
  obtain ⟨b1, o1, rfl, hb1, hx⟩ := row_panes HH.out (by omega)
  obtain ⟨x0, x1, x2, x3⟩ := hx i hi
  have hr1 : (0 : Int) ≤ (i : Int) := by omega
  have hr2 : (i : Int) ≤ (F.length : Int) - 1 := by omega
  have HFV : Hid (∀ c : Bool, c = (if t then (F[i].t && (F[i].w != F[i].h) && (F[i].h == x) && (F[i].w == y)) else ((F[i].w == x) && (F[i].h == y))) → c = fitV F[i] t x y) := fun c e => e
  clear h hb0 hx
  go_enter Try.func73, Try.ntmps73
  go_wp2_with fail
  refine (inRange_t _ _ _ _ hr1 hr2).mono ?_; rintro e w3 ⟨rfl, rfl⟩
  cases t
  all_goals
    go_wp2
    all_goals
      go_ret
      exact ⟨ret_bool (HFV.out _ (by simp_all)), HB0.out.alloc HB0.out.size _⟩

end Go.Proofs.Ytafcohmneeabbaa
