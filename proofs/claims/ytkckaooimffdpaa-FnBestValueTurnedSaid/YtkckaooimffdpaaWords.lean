/-
  Words for memory: a slice value that reads as a list ('Row'), a slice that the call owns ('Own'), and how both last over later worlds. No program in sight.
-/
import Derived.WalkKit
import Derived.WalkSpells
import Derived.WalkLawsBesides
import Derived.Maps.AppendAt
import Derived.Deep.MidRow
namespace Go.Proofs.Ytkckaooimffdpaa
set_option linter.unusedSimpArgs false
set_option linter.unusedVariables false
open Go.RowKit

theorem hid {p : Prop} (h : p) : Hid p := h
theorem ret_int {k : IntKind} {a b : Int} (h : a = b) : Ending.returned (.int k a) = .returned (.int k b) := by rw [h]
theorem ret_bool {a b : Bool} (h : a = b) : Ending.returned (.bool a) = .returned (.bool b) := by rw [h]
theorem grown_trans {w0 w1 w2 : World} {row : Option Nat} (h1 : w0.grownBy w1 row) (h2 : w1.grownBy w2 row) : w0.grownBy w2 row :=
  ⟨h2.os.trans h1.os, h2.tape.trans h1.tape, h2.output.trans h1.output, Nat.le_trans h1.size h2.size, fun k hk hne => (h2.block k (Nat.lt_of_lt_of_le hk h1.size) hne).trans (h1.block k hk hne)⟩
theorem grown_of_below {w0 w1 : World} (h : Below w0.heap.size w0 w1) (row : Option Nat) : w0.grownBy w1 row := ⟨h.os, h.tape, h.output, h.size, fun k hk _ => h.block k hk⟩
theorem cast_beq0 {n : Nat} (h : 0 < n) : ((n : Int) == 0) = false := by rw [beq_eq_false_iff_ne]; omega
theorem cast_beq0_t {n : Nat} (h : n = 0) : ((n : Int) == 0) = true := by subst h; rfl
theorem max_if (a b : Int) : (if a < b then b else a) = max a b := by split <;> omega
theorem min_if (a b : Int) : (if b < a then b else a) = min a b := by split <;> omega
theorem ownBlock_slice (A : Option Addr) (n c n' c' : Nat) : (Value.slice A n c).ownBlock = (Value.slice A n' c').ownBlock := by cases A <;> rfl

theorem le2 (n : Nat) : n ≤ n + 1 + 1 := by omega
/-- Four cells of a struct stored. -/
theorem below_set4 {B : Nat} {a w : World} (h : Below B a w) {p0 p1 p2 p3 : Addr} (h0 : B ≤ p0.block) (h1 : B ≤ p1.block) (h2 : B ≤ p2.block) (h3 : B ≤ p3.block) (u0 u1 u2 u3 : Value) : Below B a ((((w.setCell p0 u0).setCell p1 u1).setCell p2 u2).setCell p3 u3) :=
  (((h.setCell h0 _).setCell h1 _).setCell h2 _).setCell h3 _

/-- What a walk wants of a later world: all cells that were there read as before. -/
theorem bcell {W w1 : World} (hb : Below W.heap.size W w1) : (∀ b o, b < W.heap.size → w1.cell? ⟨b, o, none⟩ = W.cell? ⟨b, o, none⟩) ∧ (∀ b o, b < W.heap.size → w1.frozen? ⟨b, o, none⟩ = W.frozen? ⟨b, o, none⟩) ∧ W.heap.size ≤ w1.heap.size :=
  ⟨fun b o h => hb.cell (p := ⟨b, o, none⟩) h, fun b o h => hb.frozen (p := ⟨b, o, none⟩) h, hb.size⟩

/-- Some answers of the tape were drawn, nothing else. -/
def Dr (w w' : World) : Prop := ∃ n, w' = w.drewN n
theorem Dr.refl (w : World) : Dr w w := ⟨0, rfl⟩
theorem Dr.step {w w' : World} (h : Dr w w') (n : Nat) : Dr w (w'.drewN n) := by
  obtain ⟨m, rfl⟩ := h
  exact ⟨m + n, by rw [World.drewN_drewN]⟩
theorem Dr.one {w w' : World} (h : Dr w w') : Dr w w'.drew := h.step 1
theorem Dr.trans {a b c : World} (h : Dr a b) (k : Dr b c) : Dr a c := by
  obtain ⟨n, rfl⟩ := k
  exact h.step n
theorem Dr.cell {w w' : World} (h : Dr w w') (p : Addr) : w'.cell? p = w.cell? p := by
  obtain ⟨n, rfl⟩ := h
  rfl
theorem Dr.size {w w' : World} (h : Dr w w') : w'.heap.size = w.heap.size := by
  obtain ⟨n, rfl⟩ := h
  rfl
theorem Dr.below {w w' : World} (h : Dr w w') (B : Nat) : Below B w w' := by
  obtain ⟨n, rfl⟩ := h
  exact below_drewN (Below.refl _ _) n
theorem below_draws (w : World) (B n : Nat) : Below B w (w.drewN n) := below_drewN (Below.refl _ _) n

/-- How an element lies in memory: its cells. -/
structure Enc (α : Type) where
  sz : Nat
  cells : α → List Value
  len : ∀ a, (cells a).length = sz
  pos : 0 < sz
  one : ∀ a u, u ∈ cells a → u.oneCell' = true

def intE : Enc Int := ⟨1, fun x => [.int .i64 x], fun _ => rfl, by decide, by simp [Value.oneCell']⟩
def byteE : Enc Int := ⟨1, fun x => [.int .u8 x], fun _ => rfl, by decide, by simp [Value.oneCell']⟩
def boolE : Enc Bool := ⟨1, fun x => [.bool x], fun _ => rfl, by decide, by simp [Value.oneCell']⟩

section
variable {α : Type} (E : Enc α)

/-- The cells of a list of elements, one after the other. -/
def Enc.flat (L : List α) : List Value := L.flatMap E.cells

theorem Enc.flat_len (L : List α) : (E.flat L).length = L.length * E.sz := by
  induction L with
  | nil => simp [Enc.flat]
  | cons a L ih => simp [Enc.flat, E.len] at *; rw [ih, Nat.add_mul]; omega

theorem Enc.flat_nil : E.flat [] = [] := rfl
theorem Enc.flat_cons (a : α) (L : List α) : E.flat (a :: L) = E.cells a ++ E.flat L := by simp [Enc.flat]
theorem Enc.flat_append (L M : List α) : E.flat (L ++ M) = E.flat L ++ E.flat M := by simp [Enc.flat]
theorem Enc.flat_one (a : α) : E.flat [a] = E.cells a := by simp [Enc.flat]

theorem Enc.flat_at (L : List α) (k j : Nat) (hk : k < L.length) (hj : j < E.sz) : (E.flat L)[k * E.sz + j]? = (E.cells L[k])[j]? := by
  induction L generalizing k with
  | nil => simp at hk
  | cons a L ih =>
    rw [E.flat_cons]
    cases k with
    | zero => simp; rw [List.getElem?_append_left (by rw [E.len]; exact hj)]
    | succ k =>
      rw [List.getElem?_append_right (by rw [E.len, Nat.add_mul]; omega), E.len]
      have e : (k + 1) * E.sz + j - E.sz = k * E.sz + j := by rw [Nat.add_mul]; omega
      rw [e, ih k (by simpa using hk)]
      rfl

theorem Enc.flat_take (L : List α) (k : Nat) : (E.flat L).take (k * E.sz) = E.flat (L.take k) := by
  induction L generalizing k with
  | nil => simp [Enc.flat]
  | cons a L ih =>
    cases k with
    | zero => simp [Enc.flat]
    | succ k =>
      rw [E.flat_cons, List.take_succ_cons, E.flat_cons, List.take_append, E.len, List.take_of_length_le (by rw [E.len, Nat.add_mul]; omega)]
      have e : (k + 1) * E.sz - E.sz = k * E.sz := by rw [Nat.add_mul]; omega
      rw [e, ih k]

theorem Enc.flat_drop (L : List α) (k : Nat) : (E.flat L).drop (k * E.sz) = E.flat (L.drop k) := by
  induction L generalizing k with
  | nil => simp [Enc.flat]
  | cons a L ih =>
    cases k with
    | zero => simp [Enc.flat]
    | succ k =>
      rw [E.flat_cons, List.drop_succ_cons, List.drop_append, E.len, List.drop_of_length_le (by rw [E.len, Nat.add_mul]; omega), List.nil_append]
      have e : (k + 1) * E.sz - E.sz = k * E.sz := by rw [Nat.add_mul]; omega
      rw [e, ih k]

theorem Enc.flat_one_cell (L : List α) : ∀ u ∈ E.flat L, u.oneCell' = true := by
  intro u hu
  simp only [Enc.flat, List.mem_flatMap] at hu
  obtain ⟨a, _, h⟩ := hu
  exact E.one a u h

/-- The slice value v reads, below block B, as the list L. -/
def RowB (B : Nat) (w : World) (v : Value) (L : List α) : Prop :=
  ∃ A c, v = .slice A L.length c ∧ L.length ≤ c ∧ c ≤ maxLen ∧
    (0 < L.length → ∃ b off, A = some ⟨b, off, none⟩ ∧ b < B ∧ ∀ j u, (E.flat L)[j]? = some u → w.cell? ⟨b, off + j, none⟩ = some u)

abbrev Row (w : World) (v : Value) (L : List α) : Prop := RowB E w.heap.size w v L

/-- The slice value v lies at the head of a row of its own, from block 'base' on, which may be written, and reads as L. -/
def Own (e : TypeId) (base : Nat) (w : World) (v : Value) (L : List α) : Prop := w.ownsRow base e E.sz v L.length (E.flat L)
end

section
variable {α : Type} {E : Enc α} {w w' : World} {B B' : Nat} {v : Value} {L : List α} {e : TypeId} {base : Nat}

theorem RowB.keep (h : RowB E B w v L) (hk : ∀ p : Addr, p.block < B → w'.cell? p = w.cell? p) : RowB E B w' v L := by
  obtain ⟨A, c, rfl, h1, h2, h3⟩ := h
  refine ⟨A, c, rfl, h1, h2, fun hn => ?_⟩
  obtain ⟨b, off, rfl, hb, hc⟩ := h3 hn
  exact ⟨b, off, rfl, hb, fun j u hu => (hk _ hb).trans (hc j u hu)⟩

theorem RowB.more (h : RowB E B w v L) (hB : B ≤ B') : RowB E B' w v L := by
  obtain ⟨A, c, rfl, h1, h2, h3⟩ := h
  refine ⟨A, c, rfl, h1, h2, fun hn => ?_⟩
  obtain ⟨b, off, rfl, hb, hc⟩ := h3 hn
  exact ⟨b, off, rfl, by omega, hc⟩

theorem RowB.below (h : RowB E B w v L) (hb : Below B w w') : RowB E B w' v L := h.keep fun _ hp => hb.cell hp

/-- A row of the world w lasts into every world that leaves w's blocks as they were. -/
theorem RowB.go (h : RowB E w.heap.size w v L) (hb : Below w.heap.size w w') : RowB E w'.heap.size w' v L := (h.below hb).more hb.size

theorem RowB.dr (h : RowB E B w v L) (hd : Dr w w') : RowB E B w' v L := h.keep fun p _ => hd.cell p
theorem RowB.drR (h : RowB E w.heap.size w v L) (hd : Dr w w') : RowB E w'.heap.size w' v L := (h.dr hd).more (Nat.le_of_eq hd.size.symm)

theorem RowB.form (h : RowB E B w v L) : ∃ A c, v = .slice A L.length c ∧ L.length ≤ c ∧ c ≤ maxLen := by
  obtain ⟨A, c, h0, h1, h2, _⟩ := h
  exact ⟨A, c, h0, h1, h2⟩

/-- Where element k lies. -/
theorem RowB.at_ {A : Option Addr} {n c : Nat} (h : RowB E B w (.slice A n c) L) : n = L.length ∧ n ≤ c ∧ c ≤ maxLen ∧ (0 < n → ∃ b off, A = some ⟨b, off, none⟩ ∧ b < B ∧
    ∀ k j u, (hk : k < L.length) → j < E.sz → (E.cells L[k])[j]? = some u → w.cell? ⟨b, off + (k * E.sz + j), none⟩ = some u) := by
  obtain ⟨A', c', h0, h1, h2, h3⟩ := h
  injection h0 with hA hn hc
  subst hA; subst hn; subst hc
  refine ⟨rfl, h1, h2, fun h => ?_⟩
  obtain ⟨b, off, rfl, hb, hc⟩ := h3 h
  exact ⟨b, off, rfl, hb, fun k j u hk hj hu => hc _ _ (by rw [E.flat_at L k j hk hj]; exact hu)⟩

theorem RowB.take {A : Option Addr} {n c : Nat} (h : RowB E B w (.slice A n c) L) (k : Nat) (hk : k ≤ n) : RowB E B w (.slice A k c) (L.take k) := by
  obtain ⟨A', c', h0, h1, h2, h3⟩ := h
  injection h0 with hA hn hc
  subst hA; subst hn; subst hc
  have hl : (L.take k).length = k := by simp; omega
  refine ⟨A, c, by rw [hl], by omega, h2, fun h => ?_⟩
  obtain ⟨b, off, rfl, hb, hc⟩ := h3 (by omega)
  refine ⟨b, off, rfl, hb, fun j u hu => hc j u ?_⟩
  rw [← E.flat_take, List.getElem?_take] at hu
  split at hu
  · exact hu
  · cases hu

theorem RowB.nil_ (B : Nat) (w : World) : RowB E B w (.slice none 0 0) [] := ⟨none, 0, rfl, by simp, by simp [maxLen], fun h => by simp at h⟩

theorem Own.rowB (h : Own E e base w v L) : RowB E w.heap.size w v L := by
  rcases h.2 with ⟨rfl, hn⟩ | ⟨g, cap, cur, rfl, hg, hh, hn, hc, hs, ht⟩
  · have : L = [] := List.eq_nil_of_length_eq_zero hn
    subst this
    exact RowB.nil_ _ _
  · refine ⟨_, _, rfl, hn, hc, fun h0 => ⟨g, 0, rfl, (Array.getElem?_eq_some_iff.1 hh).1, fun j u hu => ?_⟩⟩
    rw [cell_of_row w g (0 + j) cur e (0, 0) hh]
    have ht' : cur.toList.take (L.length * E.sz) = E.flat L := ht
    rw [← ht', List.getElem?_take] at hu
    split at hu
    · simpa using hu
    · cases hu

theorem Own.lt (h : Own E e base w v L) : ∀ k, v.ownBlock = some k → base ≤ k ∧ k < w.heap.size := World.ownsRow.lt h

theorem Own.nil_ (w : World) (base : Nat) (e : TypeId) : Own E e base w (.slice none 0 0) [] := by
  have := World.ownsRow_nil w base e E.sz
  simpa [Own, Enc.flat] using this

theorem Own.base_le (h : Own E e base w v L) {base' : Nat} (hb : base' ≤ base) : Own E e base' w v L := by
  refine ⟨h.1, ?_⟩
  rcases h.2 with h2 | ⟨g, cap, cur, h1, h2, h3⟩
  · exact .inl h2
  · exact .inr ⟨g, cap, cur, h1, by omega, h3⟩

/-- What is owned lasts where its own block is not among those that turn. -/
theorem Own.kept {row : Option Nat} (h : Own E e base w v L) (hg : w.grownBy w' row) (hne : v.ownBlock = none ∨ v.ownBlock ≠ row) : Own E e base w' v L := World.ownsRow.kept h hg hne

theorem Own.below (h : Own E e base w v L) (hb : Below w.heap.size w w') : Own E e base w' v L := by
  refine ⟨h.1, ?_⟩
  rcases h.2 with h2 | ⟨g, cap, cur, h1, h2, h3, h4⟩
  · exact .inl h2
  · exact .inr ⟨g, cap, cur, h1, h2, by rw [hb.block g (Array.getElem?_eq_some_iff.1 h3).1]; exact h3, h4⟩

theorem Own.dr (h : Own E e base w v L) (hd : Dr w w') : Own E e base w' v L := h.below (hd.below _)

theorem Own.belowB {B : Nat} (h : Own E e base w v L) (hb : Below B w w') (hB : ∀ k, v.ownBlock = some k → k < B) : Own E e base w' v L := by
  refine ⟨h.1, ?_⟩
  rcases h.2 with h2 | ⟨g, cap, cur, h1, h2, h3, h4⟩
  · exact .inl h2
  · exact .inr ⟨g, cap, cur, h1, h2, by rw [hb.block g (hB g (by rw [h1]; rfl))]; exact h3, h4⟩

theorem Own.alloc (h : Own E e base w v L) (o : Obj) : Own E e base (w.alloc o) v L := World.ownsRow.alloc h o

/-- A slice literal of n elements. -/
theorem Own.lit (E : Enc α) (w : World) (base : Nat) (e : TypeId) (cs : Array Value) (L : List α) (n : Nat) (hn : n = L.length) (hcs : cs.toList = E.flat L) (hb : base ≤ w.heap.size) (hm : n ≤ maxLen) :
    Own E e base (w.alloc (.cells cs e)) (.slice (some ⟨w.heap.size, 0, none⟩) n n) L := by
  subst hn
  have := World.ownsRow_lit (base := base) (e := e) (size := E.sz) w cs L.length hb hm (by rw [← Array.length_toList, hcs, E.flat_len])
  rw [hcs] at this
  exact this
theorem Own.lit0 (E : Enc α) (w : World) (base : Nat) (e : TypeId) (hb : base ≤ w.heap.size) : Own E e base (w.alloc (.cells #[] e)) (.slice (some ⟨w.heap.size, 0, none⟩) 0 0) [] :=
  Own.lit E w base e #[] [] 0 rfl rfl hb (by simp [maxLen])

theorem Own.len_max (h : Own E e base w v L) : L.length ≤ maxLen := by
  obtain ⟨A, c, _, h1, h2⟩ := h.rowB.form
  omega

/-- One element stored into an owned row. -/
theorem Own.form (h : Own E e base w v L) (h0 : 0 < L.length) : ∃ g cap, v = .slice (some ⟨g, 0, none⟩) L.length cap ∧ base ≤ g ∧ g < w.heap.size ∧ L.length ≤ cap ∧ cap ≤ maxLen := by
  rcases h.2 with ⟨_, hn⟩ | ⟨g, cap, cur, rfl, hg, hh, hn, hc, hs, ht⟩
  · omega
  · exact ⟨g, cap, rfl, hg, (Array.getElem?_eq_some_iff.1 hh).1, hn, hc⟩

theorem Own.shape (h : Own E e base w v L) : ∃ A c, v = .slice A L.length c ∧ L.length ≤ c ∧ c ≤ maxLen ∧ (0 < L.length → ∃ g, A = some ⟨g, 0, none⟩ ∧ base ≤ g ∧ g < w.heap.size) := by
  rcases h.2 with ⟨rfl, hn⟩ | ⟨g, cap, cur, rfl, hg, hh, hn, hc, hs, ht⟩
  · exact ⟨none, 0, by rw [hn], by omega, by simp [maxLen], fun h => by omega⟩
  · exact ⟨_, cap, rfl, hn, hc, fun _ => ⟨g, rfl, hg, (Array.getElem?_eq_some_iff.1 hh).1⟩⟩

theorem set_flat (E : Enc α) (h1 : E.sz = 1) (L : List α) (k : Nat) (a : α) (u : Value) (hu : E.cells a = [u]) : (E.flat L).set k u = E.flat (L.set k a) := by
  have hc : ∀ b, ∃ x, E.cells b = [x] := fun b => by
    have := E.len b
    rw [h1] at this
    exact List.length_eq_one_iff.1 this
  induction L generalizing k with
  | nil => simp [Enc.flat]
  | cons b L ih =>
    obtain ⟨x, hx⟩ := hc b
    cases k with
    | zero => simp [Enc.flat_cons, hx, hu]
    | succ k => simp [Enc.flat_cons, hx, ih]

theorem Own.store1 {n cap g : Nat} (h1 : E.sz = 1) (h : Own E e base w (.slice (some ⟨g, 0, none⟩) n cap) L) (k : Nat) (a : α) (u : Value) (hu : E.cells a = [u]) (hn : n = L.length) :
    Own E e base (w.setCell ⟨g, k, none⟩ u) (.slice (some ⟨g, 0, none⟩) n cap) (L.set k a) ∧ w.grownBy (w.setCell ⟨g, k, none⟩ u) (some g) := by
  subst hn
  have := World.ownsRow.stored h k u
  refine ⟨?_, this.2⟩
  have h2 := this.1
  rw [set_flat E h1 L k a u hu] at h2
  unfold Own
  rw [List.length_set]
  exact h2

theorem Own.cellAt {n cap g : Nat} (h : Own E e base w (.slice (some ⟨g, 0, none⟩) n cap) L) (hn : n = L.length) (k j : Nat) (hk : k < L.length) (hj : j < E.sz) : w.cell? ⟨g, k * E.sz + j, none⟩ = (E.cells L[k])[j]? := by
  subst hn
  rw [World.ownsRow.cellAt h (k * E.sz + j) (by have := Nat.mul_le_mul_right E.sz (show k + 1 ≤ L.length from hk); rw [Nat.add_mul] at this; omega)]
  exact E.flat_at L k j hk hj

theorem Own.frozen {n cap g : Nat} (h : Own E e base w (.slice (some ⟨g, 0, none⟩) n cap) L) (hn : n = L.length) (k : Nat) : w.frozen? ⟨g, k, none⟩ = false := by
  subst hn
  exact World.ownsRow.frozenAt h k

end

theorem own_ne {α β : Type} {E : Enc α} {F : Enc β} {e e' : TypeId} {b b' : Nat} {w w' : World} {v v' : Value} {L : List α} {M : List β} (h : Own E e b w v L) (h' : Own F e' b' w' v' M) (hb : w.heap.size ≤ b') : v.ownBlock = none ∨ v.ownBlock ≠ v'.ownBlock := by
  cases hv : v.ownBlock with
  | none => exact .inl rfl
  | some k =>
    refine .inr fun h2 => ?_
    have h3 := (h.lt k hv).2
    have h4 := (h'.lt k h2.symm).1
    omega
theorem own_ne' {α β : Type} {E : Enc α} {F : Enc β} {e e' : TypeId} {b b' : Nat} {w w' : World} {v v' : Value} {L : List α} {M : List β} (h : Own E e b w v L) (h' : Own F e' b' w' v' M) (hb : w.heap.size ≤ b') : v'.ownBlock = none ∨ v'.ownBlock ≠ v.ownBlock := by
  cases hv : v'.ownBlock with
  | none => exact .inl rfl
  | some k =>
    refine .inr fun h2 => ?_
    have h3 := (h.lt k h2.symm).2
    have h4 := (h'.lt k hv).1
    omega

/-- 'append(v, x)', v owned: x has just been laid in a block of its own. -/
theorem wpList_push {α : Type} (E : Enc α) {P : Program} (w : World) {ops : Array Oper} {rest : List Oper} {o : Oper} {a : Act} {Q : Exit → Act → World → Prop} (hgd : o.guard = none) (s x : Operand) (t : TypeId)
    (ho : o.op = .call { callee := .builtin .append, args := #[s, x], argTypes := #[t, t] })
    (base : Nat) (e : TypeId) (i : TypeInfo) (z : Value) (bytes : Nat) (ht : P.underlying t = some (.slice e)) (hi : P.info? e = some i) (hz : i.zero = some z)
    (hsize : i.size = E.sz) (hby : i.bytes = bytes) (hzs : z.cells.size = E.sz) (hbs : bytes ≤ 4096)
    (v : Value) (L : List α) (hs : a.eval s = v) (hown : Own E e base w v L)
    (cs : Array Value) (el : α) (hcs : cs = (E.cells el).toArray) (hx : a.eval x = .slice (some ⟨w.heap.size, 0, none⟩) 1 1)
    (hL : L.length ≤ 4194304) (hbase : base ≤ w.heap.size)
    (h : ∀ v' w', Own E e base w' v' (L ++ [el]) → w.grownBy w' v.ownBlock → (v'.ownBlock = v.ownBlock ∨ v'.ownBlock = some (w.heap.size + 1)) → wpList P ops Q rest (a.put o.dst v') w') :
    wpList P ops Q (o :: rest) a (w.alloc (.cells cs e)) := by
  subst hcs
  refine wpList_plain hgd fun K hK => ?_
  have hcell : ∀ j u, (E.cells el)[j]? = some u → (w.alloc (.cells (E.cells el).toArray e)).cell? ((⟨w.heap.size, 0, none⟩ : Addr).add j) = some u := by
    intro j u hu
    have : (⟨w.heap.size, 0, none⟩ : Addr).add j = ⟨w.heap.size, j, none⟩ := by unfold Addr.add; split <;> simp_all
    rw [this, World.cell?_alloc_at _ _ _ _ rfl]
    simpa using hu
  obtain ⟨v', w', hrun, h2, h3, _, h4⟩ := run_append_own_at (P := P) (w.alloc (.cells (E.cells el).toArray e)) base t o.type e i z E.sz bytes ht hi hz hsize hby hzs E.pos v L.length (E.flat L)
    (World.ownsRow.alloc hown _) ⟨w.heap.size, 0, none⟩ 1 1 (E.cells el) (by rw [E.len]; omega) hcell (fun u hu => E.one el u hu) (by simp only [maxLen]; omega) (Nat.le_trans (Nat.mul_le_mul_left _ hbs) (by omega)) (by simp; omega)
  unfold Oper.wp execOp
  simp only [ho, resolve, invoke, builtin, Sem.run_bind, Sem.run_pure, Result.andThen_ok, List.map_toArray, List.map_cons, List.map_nil, hs, hx, hrun]
  refine hK _ _ (h v' w' ?_ ?_ ?_)
  · unfold Own
    rw [List.length_append, E.flat_append, E.flat_one]
    exact h2
  · have hg := World.grownBy_alloc w (.cells (E.cells el).toArray e) v.ownBlock
    exact ⟨h3.os.trans hg.os, h3.tape.trans hg.tape, h3.output.trans hg.output, Nat.le_trans hg.size h3.size, fun k hk hne => (h3.block k (by simp; omega) hne).trans (hg.block k hk hne)⟩
  · rcases h4 with h4 | h4
    · exact .inl h4
    · exact .inr (by simpa using h4)

/-- The same, the new list under a name of its own. -/
theorem wpList_pushL {α : Type} (E : Enc α) {P : Program} (w : World) {ops : Array Oper} {rest : List Oper} {o : Oper} {a : Act} {Q : Exit → Act → World → Prop} (hgd : o.guard = none) (s x : Operand) (t : TypeId)
    (ho : o.op = .call { callee := .builtin .append, args := #[s, x], argTypes := #[t, t] })
    (base : Nat) (e : TypeId) (i : TypeInfo) (z : Value) (bytes : Nat) (ht : P.underlying t = some (.slice e)) (hi : P.info? e = some i) (hz : i.zero = some z)
    (hsize : i.size = E.sz) (hby : i.bytes = bytes) (hzs : z.cells.size = E.sz) (hbs : bytes ≤ 4096)
    (v : Value) (L : List α) (hs : a.eval s = v) (hown : Own E e base w v L)
    (cs : Array Value) (el : α) (hcs : cs = (E.cells el).toArray) (hx : a.eval x = .slice (some ⟨w.heap.size, 0, none⟩) 1 1)
    (hL : L.length ≤ 4194304) (hbase : base ≤ w.heap.size) (L' : List α) (hL' : L' = L ++ [el])
    (h : ∀ v' w', Own E e base w' v' L' → w.grownBy w' v.ownBlock → (v'.ownBlock = v.ownBlock ∨ v'.ownBlock = some (w.heap.size + 1)) → wpList P ops Q rest (a.put o.dst v') w') :
    wpList P ops Q (o :: rest) a (w.alloc (.cells cs e)) := by
  subst hL'
  exact wpList_push E w hgd s x t ho base e i z bytes ht hi hz hsize hby hzs hbs v L hs hown cs el hcs hx hL hbase h

/-- The same, the element's block known by number. -/
theorem wpList_pushN {α : Type} (E : Enc α) {P : Program} (w : World) {ops : Array Oper} {rest : List Oper} {o : Oper} {a : Act} {Q : Exit → Act → World → Prop} (hgd : o.guard = none) (s x : Operand) (t : TypeId)
    (ho : o.op = .call { callee := .builtin .append, args := #[s, x], argTypes := #[t, t] })
    (base : Nat) (e : TypeId) (i : TypeInfo) (z : Value) (bytes : Nat) (ht : P.underlying t = some (.slice e)) (hi : P.info? e = some i) (hz : i.zero = some z)
    (hsize : i.size = E.sz) (hby : i.bytes = bytes) (hzs : z.cells.size = E.sz) (hbs : bytes ≤ 4096)
    (v : Value) (L : List α) (hs : a.eval s = v) (hown : Own E e base w v L)
    (cs : Array Value) (el : α) (nb : Nat) (hcs : cs = (E.cells el).toArray) (hx : a.eval x = .slice (some ⟨nb, 0, none⟩) 1 1) (hnb : nb = w.heap.size)
    (hL : L.length ≤ 4194304) (hbase : base ≤ w.heap.size) (L' : List α) (hL' : L' = L ++ [el])
    (h : ∀ v' w', Own E e base w' v' L' → w.grownBy w' v.ownBlock → (v'.ownBlock = v.ownBlock ∨ v'.ownBlock = some (w.heap.size + 1)) → wpList P ops Q rest (a.put o.dst v') w') :
    wpList P ops Q (o :: rest) a (w.alloc (.cells cs e)) := by
  subst hL'
  subst hnb
  exact wpList_push E w hgd s x t ho base e i z bytes ht hi hz hsize hby hzs hbs v L hs hown cs el hcs hx hL hbase h

/-- 'make([]T, n)': n zero elements, owned. -/
theorem made_flat {α : Type} (E : Enc α) (z : Array Value) (z0 : α) (hz : z.toList = E.cells z0) (n : Nat) : (madeCells z (n * E.sz)).toList = E.flat (List.replicate n z0) := by
  have hzs : z.size = E.sz := by rw [← Array.length_toList, hz, E.len]
  apply List.ext_getElem?
  intro j
  by_cases hj : j < n * E.sz
  · have hk : j / E.sz < n := Nat.div_lt_of_lt_mul (by rw [Nat.mul_comm]; exact hj)
    have hm : j % E.sz < E.sz := Nat.mod_lt _ E.pos
    have e : j = (j / E.sz) * E.sz + j % E.sz := by rw [Nat.mul_comm]; exact (Nat.div_add_mod j E.sz).symm
    have h1 : (E.flat (List.replicate n z0))[j]? = (E.cells z0)[j % E.sz]? := by
      have h2 := E.flat_at (List.replicate n z0) (j / E.sz) (j % E.sz) (by simpa using hk) hm
      rw [← e] at h2
      rw [h2]
      simp
    rw [h1, ← hz]
    simp [madeCells, hj, hzs, hm]
  · rw [List.getElem?_eq_none (by simp [size_madeCells]; omega), List.getElem?_eq_none (by rw [E.flat_len]; simpa using hj)]

theorem wpList_mk {α : Type} (E : Enc α) {P : Program} (w : World) {ops : Array Oper} {rest : List Oper} {o : Oper} {a : Act} {Q : Exit → Act → World → Prop}
    (hg : o.guard = none) (l c : Operand) (t : TypeId) (hop : o.op = Op.makeSlice t l c)
    (base : Nat) (e : TypeId) (i : TypeInfo) (z : Value) (z0 : α) (bytes : Nat) (h1 : P.underlying t = some (.slice e)) (h2 : P.info? e = some i) (h3 : i.zero = some z) (h4 : i.size = E.sz) (h5 : i.bytes = bytes) (hz0 : z.cells.toList = E.cells z0)
    (kl kc : IntKind) (Ln C : Int) (n : Nat) (hl : a.eval l = .int kl Ln) (hc : a.eval c = .int kc C) (hL : Ln = (n : Int)) (hC : C = (n : Int)) (hn : n ≤ 4194304) (hbs : bytes ≤ 4096) (b4 : base ≤ w.heap.size)
    (hK : ∀ w', Own E e base w' (.slice (some ⟨w.heap.size, 0, none⟩) n n) (List.replicate n z0) → w.grownBy w' none → w.heap.size < w'.heap.size → wpList P ops Q rest (a.put o.dst (.slice (some ⟨w.heap.size, 0, none⟩) n n)) w') :
    wpList P ops Q (o :: rest) a w := by
  refine wpList_make_full w hg l c t hop base e i z E.sz h1 h2 h3 h4 kl kc Ln C n hl hc hL hC (by rw [h5]; exact Nat.le_trans (Nat.mul_le_mul hbs hn) (by omega)) (by simp only [maxLen]; omega) b4 ?_
  intro w' hown hgr
  refine hK w' ?_ hgr ?_
  · unfold Own
    rw [List.length_replicate, ← made_flat E z.cells z0 hz0 n]
    exact hown
  · exact (World.ownsRow.lt hown w.heap.size rfl).2

/-- vs laid over xs from o on. -/
def laidAt : List Value → Nat → List Value → List Value
  | xs, _, [] => xs
  | xs, o, u :: us => laidAt (xs.set o u) (o + 1) us
theorem laidAt_eq : ∀ (vs xs : List Value) (o : Nat), o + vs.length ≤ xs.length → laidAt xs o vs = xs.take o ++ vs ++ xs.drop (o + vs.length)
  | [], xs, o, _ => by simp [laidAt]
  | u :: us, xs, o, h => by
    simp only [List.length_cons] at h
    rw [laidAt, laidAt_eq us _ _ (by simp; omega)]
    have h1 : (xs.set o u).take (o + 1) = xs.take o ++ [u] := by
      rw [List.take_set, List.take_succ_eq_append_getElem (by omega), List.set_append_right _ _ (by simp; omega)]
      have e : o - (List.take o xs).length = 0 := by simp; omega
      rw [e]; rfl
    have h2 : (xs.set o u).drop (o + 1 + us.length) = xs.drop (o + (us.length + 1)) := by
      rw [List.drop_set, if_pos (by omega)]
      congr 1; omega
    rw [h1, h2, List.length_cons]
    simp

theorem laidAt_flat {α : Type} (E : Enc α) (L : List α) (k : Nat) (a : α) (hk : k < L.length) : laidAt (E.flat L) (k * E.sz) (E.cells a) = E.flat (L.set k a) := by
  rw [laidAt_eq _ _ _ (by rw [E.len, E.flat_len]; have := Nat.mul_le_mul_right E.sz (show k + 1 ≤ L.length from hk); rw [Nat.add_mul] at this; omega), E.flat_take, E.len]
  have e : k * E.sz + E.sz = (k + 1) * E.sz := by rw [Nat.add_mul]; omega
  rw [e, E.flat_drop, List.set_eq_take_append_cons_drop, if_pos hk, E.flat_append, E.flat_cons, List.append_assoc]

theorem ownsRow_setCells {e : TypeId} {base size g n cap : Nat} : ∀ (vs xs : List Value) (o : Nat) (w : World), w.ownsRow base e size (.slice (some ⟨g, 0, none⟩) n cap) n xs →
    (w.setCells g o vs).ownsRow base e size (.slice (some ⟨g, 0, none⟩) n cap) n (laidAt xs o vs) ∧ w.grownBy (w.setCells g o vs) (some g)
  | [], xs, o, w, h => ⟨h, World.grownBy.refl _ _⟩
  | u :: us, xs, o, w, h => by
    have h1 := World.ownsRow.stored h o u
    have h2 := ownsRow_setCells us (xs.set o u) (o + 1) _ h1.1
    exact ⟨h2.1, grown_trans h1.2 h2.2⟩

theorem flat_set_field {α : Type} (E : Enc α) (L : List α) (k j : Nat) (u : Value) (el : α) (hk : k < L.length) (hj : j < E.sz) (hel : E.cells el = (E.cells L[k]).set j u) : (E.flat L).set (k * E.sz + j) u = E.flat (L.set k el) := by
  have h1 : L = L.take k ++ L[k] :: L.drop (k + 1) := by rw [← List.drop_eq_getElem_cons hk, List.take_append_drop]
  have h2 : L.set k el = L.take k ++ el :: L.drop (k + 1) := by rw [List.set_eq_take_append_cons_drop, if_pos hk]
  have hl : (E.flat (L.take k)).length = k * E.sz := by rw [E.flat_len, List.length_take, Nat.min_eq_left (Nat.le_of_lt hk)]
  rw [h2]
  have h3 : E.flat L = E.flat (L.take k) ++ (E.cells L[k] ++ E.flat (L.drop (k + 1))) := by rw [← E.flat_cons, ← E.flat_append, ← h1]
  rw [h3, E.flat_append, E.flat_cons, hel, List.set_append_right _ _ (by omega), hl, Nat.add_sub_cancel_left, List.set_append_left _ _ (by rw [E.len]; exact hj)]

/-- One field of an element stored: 'v[k].f = u'. -/
theorem Own.field {α : Type} {E : Enc α} {e : TypeId} {base g n cap : Nat} {w : World} {L : List α} (h : Own E e base w (.slice (some ⟨g, 0, none⟩) n cap) L) (k j : Nat) (u : Value) (el : α) (hn : n = L.length) (hk : k < L.length) (hj : j < E.sz) (hel : E.cells el = (E.cells L[k]).set j u) :
    Own E e base (w.setCell ⟨g, k * E.sz + j, none⟩ u) (.slice (some ⟨g, 0, none⟩) n cap) (L.set k el) ∧ w.grownBy (w.setCell ⟨g, k * E.sz + j, none⟩ u) (some g) := by
  subst hn
  obtain ⟨h1, h2⟩ := World.ownsRow.stored h (k * E.sz + j) u
  refine ⟨?_, h2⟩
  unfold Own
  rw [List.length_set, ← flat_set_field E L k j u el hk hj hel]
  exact h1

/-- A struct stored into an owned row: 'v[k] = x'. -/
theorem wpList_put {α : Type} (E : Enc α) {P : Program} {w : World} {ops : Array Oper} {rest : List Oper} {o : Oper} {a : Act} {Q : Exit → Act → World → Prop} (hgd : o.guard = none) (ty : TypeId) (x y : Operand) (ho : o.op = .store ty x y)
    (e : TypeId) (base g n cap k : Nat) (L : List α) (el : α) (hown : Own E e base w (.slice (some ⟨g, 0, none⟩) n cap) L) (hn : n = L.length) (hk : k < L.length)
    (hx : a.eval x = .pointer (some ⟨g, k * E.sz, none⟩)) (hy : a.eval y = .agg (E.cells el).toArray) (hi : (P.info? ty).map (·.size) = some E.sz) (L' : List α) (hL' : L' = L.set k el)
    (h : ∀ w', Own E e base w' (.slice (some ⟨g, 0, none⟩) n cap) L' → w.grownBy w' (some g) → wpList P ops Q rest (a.put o.dst undef) w') : wpList P ops Q (o :: rest) a w := by
  subst hn
  subst hL'
  obtain ⟨h1, h2⟩ := ownsRow_setCells (E.cells el) (E.flat L) (k * E.sz) w hown
  rw [laidAt_flat E L k el hk] at h1
  have hfit : k * E.sz + E.sz ≤ L.length * E.sz := by have := Nat.mul_le_mul_right E.sz (show k + 1 ≤ L.length from hk); rw [Nat.add_mul] at this; omega
  refine wpList_store_mid hgd ty x y ho g (k * E.sz) (E.cells el).toArray hx hy ?_ (by simpa [E.len] using hi) (all_oneCell_toArray (E.one el)) ?_
  · intro j hj
    have hj' : j < E.sz := by simpa [E.len] using hj
    refine ⟨?_, World.ownsRow.frozenAt hown _⟩
    rw [World.ownsRow.cellAt hown (k * E.sz + j) (by omega)]
    rw [List.getElem?_eq_getElem (by rw [E.flat_len]; omega)]
    rfl
  · refine h _ ?_ (by simpa using h2)
    unfold Own
    rw [List.length_set]
    simpa using h1

/-- One cell stored into an owned row: 'v[k] = x', 'v[k].f = x'. -/
theorem wpList_put1 {α : Type} (E : Enc α) {P : Program} {w : World} {ops : Array Oper} {rest : List Oper} {o : Oper} {a : Act} {Q : Exit → Act → World → Prop} (hgd : o.guard = none) (ty : TypeId) (x y : Operand) (ho : o.op = .store ty x y)
    (e : TypeId) (base g n cap k j off : Nat) (L : List α) (el : α) (u : Value) (hown : Own E e base w (.slice (some ⟨g, 0, none⟩) n cap) L) (hn : n = L.length) (hk : k < L.length) (hj : j < E.sz)
    (hoff : off = k * E.sz + j) (hx : a.eval x = .pointer (some ⟨g, off, none⟩)) (hy : a.eval y = u) (hu : u.cells = #[u]) (h1 : u.oneCell' = true) (hi : (P.info? ty).map (·.size) = some 1)
    (hel : E.cells el = (E.cells L[k]).set j u) (L' : List α) (hL' : L' = L.set k el)
    (h : ∀ w', Own E e base w' (.slice (some ⟨g, 0, none⟩) n cap) L' → w.grownBy w' (some g) → wpList P ops Q rest (a.put o.dst undef) w') : wpList P ops Q (o :: rest) a w := by
  subst hoff
  subst hL'
  have hf := hown.field k j u el hn hk hj hel
  subst hn
  have hfit : k * E.sz + j < L.length * E.sz := by have := Nat.mul_le_mul_right E.sz (show k + 1 ≤ L.length from hk); rw [Nat.add_mul] at this; omega
  refine wpList_plain hgd fun K hK => ?_
  have hrun := run_storeCells_cells (P := P) g (k * E.sz + j) [u] 0 w (fun q hq => by
      have hq0 : q = 0 := by simp at hq; omega
      subst hq0
      rw [Nat.add_zero, World.ownsRow.cellAt hown (k * E.sz + j) hfit, List.getElem?_eq_getElem (by rw [E.flat_len]; omega)]
      rfl) (fun q _ => World.ownsRow.frozenAt hown _) (fun v hv => by simp at hv; subst hv; exact h1)
  have hst : (storeVar ty ⟨g, k * E.sz + j, none⟩ u).run P w = .ok () (w.setCell ⟨g, k * E.sz + j, none⟩ u) := by
    cases hq : P.info? ty with
    | none => simp [hq] at hi
    | some i =>
      have hs : i.size = 1 := by simpa [hq] using hi
      simp only [Nat.add_zero] at hrun
      simp [storeVar, sizeOf, typeInfo, hq, hu, hs, hrun, World.setCells]
  unfold Oper.wp execOp
  simp only [ho, hx, hy, Instr.storeAt, Instr.sureAddr, Sem.run_bind, Sem.run_pure, Result.andThen_ok, hst]
  exact hK _ _ (h _ hf.1 hf.2)

theorem replicate_set {α : Type} (xs : List α) (z : α) (k n : Nat) (hk : k < xs.length) (hn : n = xs.length) (a : α) (ha : a = xs[k]) : (xs.take k ++ List.replicate (n - k) z).set k a = xs.take (k + 1) ++ List.replicate (n - (k + 1)) z := by
  subst hn; subst ha
  rw [List.set_append_right _ _ (by simp; omega)]
  have e : xs.length - k = (xs.length - (k + 1)) + 1 := by omega
  have e2 : k - (List.take k xs).length = 0 := by simp; omega
  rw [e2, e, List.replicate_succ, List.set_cons_zero, List.take_succ_eq_append_getElem hk, List.append_assoc]
  rfl

end Go.Proofs.Ytkckaooimffdpaa
