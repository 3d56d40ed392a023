/-
  Plans as trees, and how a plan lies in memory: read deep ('FR'), owned deep ('OD'). No program in sight.
-/
import Derived.Test.YtafcohmneeabbaaWords
namespace Go.Proofs.Ytafcohmneeabbaa
set_option linter.unusedSimpArgs false
set_option linter.unusedVariables false
open Go.RowKit

/-- Outside the blocks lo .. hi - 1 the world w' is as w was. -/
structure Rng (lo hi : Nat) (w w' : World) : Prop where
  os : w'.os = w.os
  tape : w'.tape = w.tape
  output : w'.output = w.output
  size : w.heap.size ≤ w'.heap.size
  block : ∀ k, k < w.heap.size → (k < lo ∨ hi ≤ k) → w'.heap[k]? = w.heap[k]?

theorem Rng.refl (lo hi : Nat) (w : World) : Rng lo hi w w := ⟨rfl, rfl, rfl, Nat.le_refl _, fun _ _ _ => rfl⟩
theorem Rng.trans {lo hi : Nat} {a b c : World} (h : Rng lo hi a b) (k : Rng lo hi b c) : Rng lo hi a c :=
  ⟨k.os.trans h.os, k.tape.trans h.tape, k.output.trans h.output, Nat.le_trans h.size k.size, fun i hi h2 => (k.block i (Nat.lt_of_lt_of_le hi h.size) h2).trans (h.block i hi h2)⟩
theorem Rng.mono {lo hi lo' hi' : Nat} {w w' : World} (h : Rng lo hi w w') (h1 : lo' ≤ lo) (h2 : hi ≤ hi') : Rng lo' hi' w w' :=
  ⟨h.os, h.tape, h.output, h.size, fun k hk h3 => h.block k hk (by omega)⟩
theorem Rng.of_grown {lo hi : Nat} {w w' : World} {r : Option Nat} (h : w.grownBy w' r) (hr : ∀ k, r = some k → lo ≤ k ∧ k < hi) : Rng lo hi w w' :=
  ⟨h.os, h.tape, h.output, h.size, fun k hk h3 => h.block k hk (fun e => by have := hr k e.symm; omega)⟩
theorem Rng.of_dr {lo hi : Nat} {w w' : World} (h : Dr w w') : Rng lo hi w w' := by
  have := h.below w.heap.size
  exact ⟨this.os, this.tape, this.output, this.size, fun k hk _ => this.block k hk⟩
theorem Rng.below {lo hi B : Nat} {w w' : World} (h : Rng lo hi w w') (hB : B ≤ lo) (hs : B ≤ w.heap.size) : Below B w w' :=
  ⟨h.os, h.tape, h.output, h.size, fun k hk => h.block k (by omega) (by omega)⟩

section
variable {α : Type} {E : Enc α} {w w' : World} {v : Value} {L : List α} {e : TypeId} {base : Nat}
theorem Own.heap (h : Own E e base w v L) (hk : ∀ k, v.ownBlock = some k → w'.heap[k]? = w.heap[k]?) : Own E e base w' v L := by
  refine ⟨h.1, ?_⟩
  rcases h.2 with h2 | ⟨g, cap, cur, h1, h2, h3, h4⟩
  · exact .inl h2
  · exact .inr ⟨g, cap, cur, h1, h2, by rw [hk g (by rw [h1]; rfl)]; exact h3, h4⟩
theorem Own.rng {lo hi : Nat} (h : Own E e base w v L) (hr : Rng lo hi w w') (ho : ∀ k, v.ownBlock = some k → k < lo ∨ hi ≤ k) : Own E e base w' v L :=
  h.heap fun k hk => hr.block k (h.lt k hk).2 (ho k hk)
theorem RowB.heap {B : Nat} (h : RowB E B w v L) (hk : ∀ k, k < B → w'.heap[k]? = w.heap[k]?) : RowB E B w' v L :=
  h.keep fun p hp => World.cell?_of_block (w := w) (hk p.block hp)
end

/-- A part of a plan, its Kids as they lie. -/
structure Sh where
  o : Int
  a : Int
  p : Int
  t : Bool
  ka : Option Addr
  kn : Nat
  kc : Nat
def Sh.kv (s : Sh) : Value := .slice s.ka s.kn s.kc
def Sh.v (s : Sh) : Value := .agg #[.int .i64 s.o, .int .i64 s.a, .int .i64 s.p, .bool s.t, .slice s.ka s.kn s.kc]
def shE : Enc Sh := ⟨5, fun s => [.int .i64 s.o, .int .i64 s.a, .int .i64 s.p, .bool s.t, .slice s.ka s.kn s.kc], fun _ => rfl, by decide, by simp [Value.oneCell']⟩
def Sh.zero : Sh := ⟨0, 0, 0, false, none, 0, 0⟩

/-- A plan. -/
inductive Pl where
  | mk (o a p : Int) (t : Bool) (ks : List Pl)
def Pl.o : Pl → Int | .mk o _ _ _ _ => o
def Pl.a : Pl → Int | .mk _ a _ _ _ => a
def Pl.p : Pl → Int | .mk _ _ p _ _ => p
def Pl.t : Pl → Bool | .mk _ _ _ t _ => t
def Pl.ks : Pl → List Pl | .mk _ _ _ _ ks => ks

/-- The part's own data are those of the plan. -/
def Sh.same (s : Sh) (p : Pl) : Prop := s.o = p.o ∧ s.a = p.a ∧ s.p = p.p ∧ s.t = p.t

/-- How many parts a list of plans has. -/
def tot : List Pl → Nat
  | [] => 0
  | .mk _ _ _ _ ks :: L => 1 + tot ks + tot L
theorem tot_cons (p : Pl) (L : List Pl) : tot (p :: L) = 1 + tot p.ks + tot L := by cases p; rw [tot]; rfl
theorem tot_append (L M : List Pl) : tot (L ++ M) = tot L + tot M := by
  induction L with
  | nil => simp [tot]
  | cons p L ih => rw [List.cons_append, tot_cons, tot_cons, ih]; omega
theorem tot_len (L : List Pl) : L.length ≤ tot L := by
  induction L with
  | nil => simp
  | cons p L ih => rw [tot_cons, List.length_cons]; omega

/-- The slice value v reads, deep, below block B, as the plans L. -/
def FR (B : Nat) (w : World) : Nat → Value → List Pl → Prop
  | 0, _, _ => False
  | n + 1, v, L => ∃ S : List Sh, RowB shE B w v S ∧ S.length = L.length ∧ ∀ k (h1 : k < S.length) (h2 : k < L.length), S[k].same L[k] ∧ FR B w n S[k].kv L[k].ks

/-- The part s reads, deep, as the plan p. -/
def PR (B : Nat) (w : World) (n : Nat) (p : Pl) (s : Sh) : Prop := s.same p ∧ FR B w n s.kv p.ks

theorem FR.heap {B B' : Nat} {w w' : World} (hB : B ≤ B') (hk : ∀ k, k < B → w'.heap[k]? = w.heap[k]?) : ∀ {n : Nat} {v : Value} {L : List Pl}, FR B w n v L → FR B' w' n v L
  | 0, _, _, h => h
  | n + 1, v, L, h => by
    obtain ⟨S, h1, h2, h3⟩ := h
    exact ⟨S, (h1.heap hk).more hB, h2, fun k h4 h5 => ⟨(h3 k h4 h5).1, FR.heap hB hk (h3 k h4 h5).2⟩⟩
theorem FR.go {w w' : World} {n : Nat} {v : Value} {L : List Pl} (h : FR w.heap.size w n v L) (hb : Below w.heap.size w w') : FR w'.heap.size w' n v L := FR.heap hb.size hb.block h
theorem FR.below {B : Nat} {w w' : World} {n : Nat} {v : Value} {L : List Pl} (h : FR B w n v L) (hb : Below B w w') : FR B w' n v L := FR.heap (Nat.le_refl _) hb.block h
theorem PR.go {w w' : World} {n : Nat} {p : Pl} {s : Sh} (h : PR w.heap.size w n p s) (hb : Below w.heap.size w w') : PR w'.heap.size w' n p s := ⟨h.1, h.2.go hb⟩
theorem PR.below {B : Nat} {w w' : World} {n : Nat} {p : Pl} {s : Sh} (h : PR B w n p s) (hb : Below B w w') : PR B w' n p s := ⟨h.1, h.2.below hb⟩
theorem PR.rng {B lo hi : Nat} {w w' : World} {n : Nat} {p : Pl} {s : Sh} (h : PR B w n p s) (hr : Rng lo hi w w') (hB : B ≤ lo) (hs : B ≤ w.heap.size) : PR B w' n p s := h.below (hr.below hB hs)

/-- Plans side by side, each of them D in blocks of its own. -/
def OL (D : Nat → Nat → Value → List Pl → Prop) : Nat → Nat → List Sh → List Pl → Prop
  | lo, hi, [], [] => lo ≤ hi
  | lo, hi, s :: S, p :: L => ∃ m, lo ≤ m ∧ D lo m s.kv p.ks ∧ s.same p ∧ OL D m hi S L
  | _, _, _, _ => False

/-- The slice value v reads, deep, as the plans L, and owns all of its memory, which lies in the blocks lo .. hi - 1. -/
def OD (e : TypeId) (w : World) : Nat → Nat → Nat → Value → List Pl → Prop
  | 0, _, _, _, _ => False
  | n + 1, lo, hi, v, L => ∃ S l h, Own shE e lo w v S ∧ lo ≤ l ∧ l ≤ h ∧ h ≤ hi ∧ (∀ k, v.ownBlock = some k → k < hi ∧ (k < l ∨ h ≤ k)) ∧ OL (OD e w n) l h S L

section
variable {D D' : Nat → Nat → Value → List Pl → Prop}
theorem OL.le : ∀ {S : List Sh} {L : List Pl} {lo hi : Nat}, OL D lo hi S L → lo ≤ hi
  | [], [], _, _, h => h
  | s :: S, p :: L, lo, hi, h => by
    obtain ⟨m, h1, _, _, h4⟩ := h
    have := OL.le h4
    omega
  | [], _ :: _, _, _, h => h.elim
  | _ :: _, [], _, _, h => h.elim
theorem OL.len : ∀ {S : List Sh} {L : List Pl} {lo hi : Nat}, OL D lo hi S L → S.length = L.length
  | [], [], _, _, _ => rfl
  | s :: S, p :: L, lo, hi, h => by
    obtain ⟨m, _, _, _, h4⟩ := h
    have := OL.len h4
    simp [this]
  | [], _ :: _, _, _, h => h.elim
  | _ :: _, [], _, _, h => h.elim
theorem OL.imp : ∀ {S : List Sh} {L : List Pl} {lo hi : Nat}, OL D lo hi S L → (∀ l m v ks, lo ≤ l → m ≤ hi → D l m v ks → D' l m v ks) → OL D' lo hi S L
  | [], [], _, _, h, _ => h
  | s :: S, p :: L, lo, hi, h, f => by
    obtain ⟨m, h1, h2, h3, h4⟩ := h
    have := h4.le
    exact ⟨m, h1, f _ _ _ _ (Nat.le_refl _) (by omega) h2, h3, h4.imp fun l m v ks a b c => f l m v ks (by omega) b c⟩
  | [], _ :: _, _, _, h, _ => h.elim
  | _ :: _, [], _, _, h, _ => h.elim
theorem OL.more : ∀ {S : List Sh} {L : List Pl} {lo hi : Nat}, OL D lo hi S L → ∀ {hi'}, hi ≤ hi' → OL D lo hi' S L
  | [], [], _, _, h, hi', h' => Nat.le_trans h h'
  | s :: S, p :: L, lo, hi, h, hi', h' => by
    obtain ⟨m, h1, h2, h3, h4⟩ := h
    exact ⟨m, h1, h2, h3, h4.more h'⟩
  | [], _ :: _, _, _, h, _, _ => h.elim
  | _ :: _, [], _, _, h, _, _ => h.elim
theorem OL.append : ∀ {S : List Sh} {L : List Pl} {lo m hi : Nat}, OL D lo m S L → ∀ {S' : List Sh} {L' : List Pl}, OL D m hi S' L' → (∀ l l' h v ks, l ≤ l' → D l' h v ks → D l h v ks) → OL D lo hi (S ++ S') (L ++ L')
  | [], [], lo, m, hi, h, [], [], h', f => Nat.le_trans h h'
  | [], [], lo, m, hi, h, s :: S', p :: L', h', f => by
    obtain ⟨q, h1, h2, h3, h4⟩ := h'
    have h : lo ≤ m := h
    exact ⟨q, by omega, f lo m q _ _ h h2, h3, h4⟩
  | [], [], lo, m, hi, h, [], _ :: _, h', f => h'.elim
  | [], [], lo, m, hi, h, _ :: _, [], h', f => h'.elim
  | s :: S, p :: L, lo, m, hi, h, S', L', h', f => by
    obtain ⟨q, h1, h2, h3, h4⟩ := h
    exact ⟨q, h1, h2, h3, h4.append h' f⟩
  | [], _ :: _, _, _, _, h, _, _, _, _ => h.elim
  | _ :: _, [], _, _, _, h, _, _, _, _ => h.elim
end

section
variable {e : TypeId} {w w' : World}
theorem OD.le {n lo hi : Nat} {v : Value} {L : List Pl} (h : OD e w n lo hi v L) : lo ≤ hi := by
  cases n with
  | zero => exact h.elim
  | succ n => obtain ⟨S, l, m, _, h1, h2, h3, _⟩ := h; omega
theorem OD.base_le {n lo hi lo' : Nat} {v : Value} {L : List Pl} (h : OD e w n lo hi v L) (hl : lo' ≤ lo) : OD e w n lo' hi v L := by
  cases n with
  | zero => exact h.elim
  | succ n =>
    obtain ⟨S, l, m, ho, h1, h2, h3, h4, h5⟩ := h
    exact ⟨S, l, m, ho.base_le hl, by omega, h2, h3, h4, h5⟩
theorem OD.top_le {n lo hi hi' : Nat} {v : Value} {L : List Pl} (h : OD e w n lo hi v L) (hl : hi ≤ hi') : OD e w n lo hi' v L := by
  cases n with
  | zero => exact h.elim
  | succ n =>
    obtain ⟨S, l, m, ho, h1, h2, h3, h4, h5⟩ := h
    exact ⟨S, l, m, ho, h1, h2, by omega, fun k hk => ⟨by have := h4 k hk; omega, (h4 k hk).2⟩, h5⟩
theorem OD.heap : ∀ {n lo hi : Nat} {v : Value} {L : List Pl}, OD e w n lo hi v L → (∀ k, lo ≤ k → k < hi → w'.heap[k]? = w.heap[k]?) → OD e w' n lo hi v L
  | 0, _, _, _, _, h, _ => h.elim
  | n + 1, lo, hi, v, L, h, hk => by
    obtain ⟨S, l, m, ho, h1, h2, h3, h4, h5⟩ := h
    exact ⟨S, l, m, ho.heap fun k hk' => hk k (ho.lt k hk').1 (h4 k hk').1, h1, h2, h3, h4, h5.imp fun a b v ks ha hb hd => hd.heap fun k h6 h7 => hk k (by omega) (by omega)⟩
theorem OD.rng {n lo hi lo' hi' : Nat} {v : Value} {L : List Pl} (h : OD e w n lo hi v L) (hr : Rng lo' hi' w w') (hs : hi ≤ w.heap.size) (hd : hi ≤ lo' ∨ hi' ≤ lo) : OD e w' n lo hi v L :=
  h.heap fun k h1 h2 => hr.block k (by omega) (by omega)
theorem OD.below {n lo hi B : Nat} {v : Value} {L : List Pl} (h : OD e w n lo hi v L) (hb : Below B w w') (hB : hi ≤ B) : OD e w' n lo hi v L :=
  h.heap fun k _ h2 => hb.block k (by omega)
theorem OL_fr {n : Nat} {B : Nat} (hD : ∀ lo hi v ks, OD e w n lo hi v ks → hi ≤ B → FR B w n v ks) : ∀ {S : List Sh} {L : List Pl} {lo hi : Nat}, OL (OD e w n) lo hi S L → hi ≤ B → ∀ k (h1 : k < S.length) (h2 : k < L.length), S[k].same L[k] ∧ FR B w n S[k].kv L[k].ks
  | [], [], _, _, _, _, k, h1, _ => by simp at h1
  | s :: S, p :: L, lo, hi, h, hB, k, h1, h2 => by
    obtain ⟨m, h3, h4, h5, h6⟩ := h
    have := h6.le
    cases k with
    | zero => exact ⟨h5, hD _ _ _ _ h4 (by omega)⟩
    | succ k => exact OL_fr hD h6 hB k (by simpa using h1) (by simpa using h2)
  | [], _ :: _, _, _, h, _, _, _, _ => h.elim
  | _ :: _, [], _, _, h, _, _, _, _ => h.elim
theorem Own.rowH {α : Type} {E : Enc α} {base B : Nat} {v : Value} {L : List α} (h : Own E e base w v L) (hB : ∀ k, v.ownBlock = some k → k < B) : RowB E B w v L := by
  obtain ⟨A, c, rfl, h1, h2, h3⟩ := h.rowB
  refine ⟨A, c, rfl, h1, h2, fun h0 => ?_⟩
  obtain ⟨b, off, rfl, h4, h5⟩ := h3 h0
  exact ⟨b, off, rfl, hB b rfl, h5⟩
theorem OD.fr {B : Nat} : ∀ {n lo hi : Nat} {v : Value} {L : List Pl}, OD e w n lo hi v L → hi ≤ B → FR B w n v L
  | 0, _, _, _, _, h, _ => h.elim
  | n + 1, lo, hi, v, L, h, hB => by
    obtain ⟨S, l, m, ho, h1, h2, h3, h4, h5⟩ := h
    exact ⟨S, ho.rowH fun k hk => by have := h4 k hk; omega, h5.len, OL_fr (fun _ _ _ _ h h' => OD.fr h h') h5 (by omega)⟩
end

/-- The plans L are marked by the numbers from k on; k' is the next number. -/
inductive Mk : Int → List Pl → Int → Prop
  | nil (k : Int) : Mk k [] k
  | cons {k k1 k2 : Int} {ks L : List Pl} : Mk (k + 4) ks k1 → Mk k1 L k2 → Mk k (.mk k (k + 1) (k + 1 + 1) ((k + 1 + 1 + 1) % 3 == 0) ks :: L) k2
theorem Mk.append {k k1 k2 : Int} {L M : List Pl} (h : Mk k L k1) (h' : Mk k1 M k2) : Mk k (L ++ M) k2 := by
  induction h with
  | nil => exact h'
  | cons a b _ ih => exact .cons a (ih h')
theorem Mk.snoc {k k1 k2 : Int} {L ks : List Pl} (h : Mk k L k1) (h' : Mk (k1 + 4) ks k2) : Mk k (L ++ [.mk k1 (k1 + 1) (k1 + 1 + 1) ((k1 + 1 + 1 + 1) % 3 == 0) ks]) k2 := h.append (.cons h' (.nil _))
theorem Mk.tot {k k2 : Int} {L : List Pl} (h : Mk k L k2) : k2 = k + 4 * tot L := by
  induction h with
  | nil k => simp [Proofs.Ytafcohmneeabbaa.tot]
  | cons _ _ ih1 ih2 => rw [tot_cons]; simp only [Pl.ks]; omega

end Go.Proofs.Ytafcohmneeabbaa
