/-
  Contracts: the reader of a code (pseudo-random numbers), as the generators of the reference use it.
-/
import Derived.Test.YtkckaooimffdpaaInts
import Derived.Test.YtkckaooimffdpaaBlk
import Derived.Laws.Bits64
import Derived.Laws.BitsLemmas
namespace Go.Proofs.Ytkckaooimffdpaa
set_option linter.unusedSimpArgs false
set_option linter.unusedVariables false
open Go.RowKit

/-- The reader lies in block a; its bytes below block B; its position is at most m. -/
def Rd (B : Nat) (w : World) (a : Nat) (m : Int) : Prop := ∃ A n c, ∃ L : List Int, ∃ p : Int, Blk w a #[.slice A n c, .int .i64 p] 63 ∧ RowB byteE B w (.slice A n c) L ∧ B ≤ a ∧ (∀ x ∈ L, 0 ≤ x ∧ x ≤ 255) ∧ 0 ≤ p ∧ p ≤ m ∧ n ≤ 2000
theorem grown_keep {w w' : World} {row : Option Nat} {B : Nat} (hg : w.grownBy w' row) (hr : ∀ k, row = some k → B ≤ k) (hB : B ≤ w.heap.size) (p : Addr) (hp : p.block < B) : w'.cell? p = w.cell? p :=
  World.cell?_of_block (hg.block p.block (by omega) (fun e => by have := hr _ e.symm; omega))
theorem Rd.grown {B a : Nat} {w w' : World} {m : Int} {row : Option Nat} (h : Rd B w a m) (hg : w.grownBy w' row) (hr : ∀ k, row = some k → B ≤ k ∧ k ≠ a) : Rd B w' a m := by
  obtain ⟨A, n, c, L, p, h1, h2, h3, h4⟩ := h
  exact ⟨A, n, c, L, p, h1.grown hg (fun e => (hr a e.symm).2 rfl), h2.keep (grown_keep hg (fun k hk => (hr k hk).1) (by have := h1.lt; omega)), h3, h4⟩
theorem Rd.up {B a : Nat} {w : World} {m m' : Int} (h : Rd B w a m) (hm : m ≤ m') : Rd B w a m' := by
  obtain ⟨A, n, c, L, p, h1, h2, h3, h4, h5, h6, h7⟩ := h
  exact ⟨A, n, c, L, p, h1, h2, h3, h4, h5, by omega, h7⟩
theorem Rd.draw {B a : Nat} {w : World} {m : Int} (h : Rd B w a m) (n : Nat) : Rd B (w.drewN n) a m := by
  obtain ⟨A, n', c, L, p, h1, h2, h3⟩ := h
  exact ⟨A, n', c, L, p, h1.draw n, h2.dr ((Dr.refl _).step n), h3⟩
/-- What was grown, but for the reader's block, goes on so. -/
theorem gr_step {w w1 w2 : World} {a : Nat} {row : Option Nat} (h : w.grownBy w1 (some a)) (hg : w1.grownBy w2 row) (hr : ∀ k, row = some k → k = a ∨ w.heap.size ≤ k) : w.grownBy w2 (some a) :=
  ⟨hg.os.trans h.os, hg.tape.trans h.tape, hg.output.trans h.output, Nat.le_trans h.size hg.size, fun k hk hne => (hg.block k (Nat.lt_of_lt_of_le hk h.size) (fun e => by
    rcases hr k e.symm with e2 | e2
    · exact hne (by rw [e2])
    · omega)).trans (h.block k hk hne)⟩
theorem gr_alloc {w w1 : World} {a : Nat} (h : w.grownBy w1 (some a)) (o : Obj) : w.grownBy (w1.alloc o) (some a) := gr_step h (World.grownBy_alloc w1 o none) (fun k hk => by cases hk)
theorem gr_set {w w1 : World} {a q : Nat} (h : w.grownBy w1 (some a)) (hq : w.heap.size ≤ q) (i : Nat) (u : Value) : w.grownBy (w1.setCell ⟨q, i, none⟩ u) (some a) := by
  refine gr_step h (row := some q) ⟨rfl, rfl, rfl, by simp, fun k _ hne => heap_setCell_other w1 ⟨q, i, none⟩ k u (fun e => hne (by rw [e]))⟩ (fun k hk => .inr (by injection hk with hk; omega))
theorem Rd.below {B a : Nat} {w w' : World} {m : Int} (h : Rd B w a m) (hb : Below w.heap.size w w') : Rd B w' a m := h.grown (grown_of_below hb none) (fun k hk => by cases hk)
theorem gr_below {w w1 w2 : World} {a : Nat} (h : w.grownBy w1 (some a)) (hb : Below w1.heap.size w1 w2) : w.grownBy w2 (some a) := gr_step h (grown_of_below hb none) (fun k hk => by cases hk)
theorem below_gr {N a : Nat} {w w1 w2 : World} (h : Below N w w1) (hg : w1.grownBy w2 (some a)) (hN : N ≤ w1.heap.size) (ha : N ≤ a) : Below N w w2 := h.grown hg hN (fun k hk => by injection hk with hk; omega)
theorem Rd.alloc {B a : Nat} {w : World} {m : Int} (h : Rd B w a m) (o : Obj) : Rd B (w.alloc o) a m := h.grown (World.grownBy_alloc w o none) (fun k hk => by cases hk)
theorem Rd.set {B a q : Nat} {w : World} {m : Int} (h : Rd B w a m) (hB : B ≤ q) (hq : q ≠ a) (i : Nat) (u : Value) : Rd B (w.setCell ⟨q, i, none⟩ u) a m :=
  h.grown (row := some q) ⟨rfl, rfl, rfl, by simp, fun k _ hne => heap_setCell_other w ⟨q, i, none⟩ k u (fun e => hne (by rw [e]))⟩ (fun k hk => by injection hk with hk; subst hk; exact ⟨hB, hq⟩)
theorem grown_draws (w : World) (row : Option Nat) (n : Nat) : w.grownBy (w.drewN n) row := grown_of_below (below_draws w w.heap.size n) row
theorem Rd.lt {B a : Nat} {w : World} {m : Int} (h : Rd B w a m) : a < w.heap.size := by
  obtain ⟨A, n, c, L, p, h1, _⟩ := h
  exact h1.lt
theorem Rd.lo {B a : Nat} {w : World} {m : Int} (h : Rd B w a m) : B ≤ a := by
  obtain ⟨A, n, c, L, p, _, _, h3, _⟩ := h
  exact h3

/-- What a reader answers that is asked for a number below n. -/
def Pk (n x : Int) : Prop := 0 ≤ x ∧ (x < n ∨ x = 0)
def PickOut (B a : Nat) (m n : Int) (w : World) (e : Ending) (w' : World) : Prop := ∃ x, e = .returned (.int .i64 x) ∧ Pk n x ∧ Rd B w' a m ∧ w.grownBy w' (some a)

theorem row_bytes {B : Nat} {w : World} {A : Option Addr} {n c : Nat} {L : List Int} (h : RowB byteE B w (.slice A n c) L) (hn : 0 < n) : ∃ b off, A = some ⟨b, off, none⟩ ∧ b < B ∧ n = L.length ∧ ∀ k, (hk : k < L.length) → w.cell? ⟨b, off + k, none⟩ = some (.int .u8 L[k]) := by
  obtain ⟨h1, h2, h3, h4⟩ := h.at_
  obtain ⟨b, off, rfl, hb, hc⟩ := h4 hn
  exact ⟨b, off, rfl, hb, h1, fun k hk => by have := hc k 0 _ hk (by decide) rfl; simpa [byteE] using this⟩

theorem bits_xor_i64 (x y : Int) (hx0 : 0 ≤ x) (hx : x < 2147483648) (hy0 : 0 ≤ y) (hy : y < 2147483648) : ∃ z, bits .xor .i64 x y = z ∧ 0 ≤ z ∧ z < 2147483648 := by
  obtain ⟨a, rfl⟩ := Int.eq_ofNat_of_zero_le hx0
  obtain ⟨b, rfl⟩ := Int.eq_ofNat_of_zero_le hy0
  have hz : a ^^^ b < 2 ^ 31 := Nat.xor_lt_two_pow (by omega) (by omega)
  have h1 : (BitVec.ofInt 64 (a : Int)).toNat = a := by
    rw [BitVec.ofInt_natCast, BitVec.toNat_ofNat]; exact Nat.mod_eq_of_lt (by omega)
  have h2 : (BitVec.ofInt 64 (b : Int)).toNat = b := by
    rw [BitVec.ofInt_natCast, BitVec.toNat_ofNat]; exact Nat.mod_eq_of_lt (by omega)
  refine ⟨((a ^^^ b : Nat) : Int), ?_, by omega, by omega⟩
  show IntKind.i64.wrap ((BitVec.ofInt 64 (a : Int) ^^^ BitVec.ofInt 64 (b : Int)).toNat : Int) = _
  rw [BitVec.toNat_xor, h1, h2, IntKind.wrap_i64]
  omega

theorem pk_mod {x n : Int} (hx : 0 ≤ x) (hn : 1 ≤ n) : Pk n (x % n) := ⟨Int.emod_nonneg _ (by omega), .inl (Int.emod_lt_of_pos _ (by omega))⟩
theorem pk_zero (n : Int) : Pk n 0 := ⟨Int.le_refl _, .inr rfl⟩

set_option maxHeartbeats 3200000 in
set_option maxRecDepth 100000 in
theorem pick_c (B a : Nat) (n m : Int) (w : World) (h : Rd B w a m) (hm : m ≤ 1000000) (hn : -1000000 ≤ n) (hn2 : n ≤ 1000000) : Calls Try.prog 22 #[.pointer (some ⟨a, 0, none⟩), .int .i64 n] w (PickOut B a (m + 1) n w) := by
  obtain ⟨A, l, c, L, p, hk, hr, hBa, hL, hp0, hp1, hl⟩ := h
  have HK := hid hk
  have hc := fun (o : Nat) => hk.cell o
  have hf := fun (o : Nat) => hk.frz o
  have hlt := hk.lt
  have hg : w.grownBy (w.setCell ⟨a, 1, none⟩ (.int .i64 (p + 1))) (some a) := ⟨rfl, rfl, rfl, by simp, fun k _ hne => heap_setCell_other w ⟨a, 1, none⟩ k _ (fun e => hne (by rw [e]))⟩
  have HG := hid hg
  have HRD : Hid (Rd B (w.setCell ⟨a, 1, none⟩ (.int .i64 (p + 1))) a (m + 1)) :=
    ⟨A, l, c, L, p + 1, by have := hk.set 1 (.int .i64 (p + 1)); simpa using this, hr.keep (grown_keep hg (fun k hk => by injection hk; omega) (by omega)), hBa, hL, by omega, by omega, hl⟩
  have hpm : p ≤ 1000000 := by omega
  clear hg hk
  by_cases h1 : n < 1
  · have d1 : decide (n < 1) = true := by simpa using h1
    go_enter Try.func22, Try.ntmps22
    go_wp2
    go_ret
    exact ⟨0, rfl, pk_zero _, HRD.out, HG.out⟩
  · have d1 : decide (n < 1) = false := by simpa using h1
    by_cases h0 : l = 0
    · subst h0
      have d2 : (((0 : Nat) : Int) == 0) = true := rfl
      go_enter Try.func22, Try.ntmps22
      go_wp2
      go_ret
      exact ⟨0, rfl, pk_zero _, HRD.out, HG.out⟩
    · have d2 : ((l : Int) == 0) = false := cast_beq0 (by omega)
      obtain ⟨b, off, rfl, hb, rfl, hx⟩ := row_bytes hr (by omega)
      have hba : b ≠ a := by omega
      have hblt : b < w.heap.size := by omega
      have hx' : ∀ k, (hk : k < L.length) → (w.setCell ⟨a, 1, none⟩ (.int .i64 (p + 1))).cell? ⟨b, off + k, none⟩ = some (.int .u8 L[k]) := fun k hk => by
        rw [World.cell?_setCell_other _ _ _ _ (fun e => by injection e with e1; exact hba e1.symm)]; exact hx k hk
      obtain ⟨k, rfl⟩ := Int.eq_ofNat_of_zero_le hp0
      have hmod : ∀ z : Int, 0 ≤ z → 0 ≤ z % n ∧ z % n < n := fun z hz => ⟨Int.emod_nonneg _ (by omega), Int.emod_lt_of_pos _ (by omega)⟩
      have HN := hid h1
      by_cases hkl : k < L.length
      · have hxk := hx' k hkl
        obtain ⟨l1, l2⟩ := hL _ (List.getElem_mem hkl)
        have hcv : IntKind.i64.wrap L[k] = L[k] := IntWalk.i64_in _ (by omega)
        have hrm : L[k].tmod n = L[k] % n := IntWalk.rem_in _ _ l1
        have hn0 : n ≠ 0 := by omega
        clear hx hx' hmod h1
        go_enter Try.func22, Try.ntmps22
        go_wp2
        go_ret
        exact ⟨_, rfl, pk_mod l1 (by have := HN.out; omega), HRD.out, HG.out⟩
      · have hN : 0 < L.length := by omega
        obtain ⟨j1, hj1⟩ : ∃ j, j = k % L.length := ⟨_, rfl⟩
        obtain ⟨j2, hj2⟩ : ∃ j, j = (k * 7 + 3) % L.length := ⟨_, rfl⟩
        obtain ⟨d, hd⟩ : ∃ d, d = k / L.length := ⟨_, rfl⟩
        have hj1l : j1 < L.length := by rw [hj1]; exact Nat.mod_lt _ hN
        have hj2l : j2 < L.length := by rw [hj2]; exact Nat.mod_lt _ hN
        have hdl : d ≤ 1000000 := by rw [hd]; exact Nat.le_trans (Nat.div_le_self _ _) (by omega)
        have x1 := hx' j1 hj1l
        have x2 := hx' j2 hj2l
        obtain ⟨l1, l2⟩ := hL _ (List.getElem_mem hj1l)
        obtain ⟨l3, l4⟩ := hL _ (List.getElem_mem hj2l)
        have e57 : (k : Int).tmod (L.length : Int) = (j1 : Int) := by rw [hj1]; rfl
        have e89 : (k : Int).tdiv (L.length : Int) = (d : Int) := by rw [hd]; rfl
        have e74 : ((k : Int) * 7 + 3).tmod (L.length : Int) = (j2 : Int) := by rw [hj2]; exact IntWalk.up_tmod (by omega) rfl
        have HJ := hid (And.intro hj1 (And.intro hj2 hd))
        clear hj1 hj2 hd
        obtain ⟨b1, hb1⟩ : ∃ y, y = L[j1] := ⟨_, rfl⟩
        obtain ⟨b2, hb2⟩ : ∃ y, y = L[j2] := ⟨_, rfl⟩
        rw [← hb1] at x1 l1 l2
        rw [← hb2] at x2 l3 l4
        clear hb1 hb2
        have hpm' : (k : Int) ≤ 1000000 := hpm
        obtain ⟨X, hX⟩ : ∃ X, X = b1 * 131 + b2 * 1117 + (k : Int) * 29 + (d : Int) * 53 := ⟨_, rfl⟩
        have hX0 : 0 ≤ X := by omega
        have hX1 : X < 2147483648 := by omega
        obtain ⟨z, hz, hz0, hz1⟩ := bits_xor_i64 X (X / 64) hX0 hX1 (by omega) (by omega)
        have c1 : IntKind.i64.wrap b1 = b1 := IntWalk.i64_in _ (by omega)
        have c2 : IntKind.i64.wrap b2 = b2 := IntWalk.i64_in _ (by omega)
        have e61 : IntKind.i64.wrap (b1 * 131) = b1 * 131 := IntWalk.i64_in _ (by omega)
        have e67 : IntKind.i64.wrap ((k : Int) * 7) = (k : Int) * 7 := IntWalk.i64_in _ (by omega)
        have e68 : IntKind.i64.wrap ((k : Int) * 7 + 3) = (k : Int) * 7 + 3 := IntWalk.i64_in _ (by omega)
        have e78 : IntKind.i64.wrap (b2 * 1117) = b2 * 1117 := IntWalk.i64_in _ (by omega)
        have e79 : IntKind.i64.wrap (b1 * 131 + b2 * 1117) = b1 * 131 + b2 * 1117 := IntWalk.i64_in _ (by omega)
        have e81 : IntKind.i64.wrap ((k : Int) * 29) = (k : Int) * 29 := IntWalk.i64_in _ (by omega)
        have e82 : IntKind.i64.wrap (b1 * 131 + b2 * 1117 + (k : Int) * 29) = b1 * 131 + b2 * 1117 + (k : Int) * 29 := IntWalk.i64_in _ (by omega)
        have e90 : IntKind.i64.wrap ((d : Int) * 53) = (d : Int) * 53 := IntWalk.i64_in _ (by omega)
        have e91 : IntKind.i64.wrap (b1 * 131 + b2 * 1117 + (k : Int) * 29 + (d : Int) * 53) = X := by rw [hX]; exact IntWalk.i64_in _ (by omega)
        have hzr : z.tmod n = z % n := IntWalk.rem_in _ _ hz0
        have hn0 : n ≠ 0 := by omega
        have hNn : L.length ≠ 0 := by omega
        have HX := hid hX
        clear hX hx hx' hmod h1
        go_enter Try.func22, Try.ntmps22
        go_wp2
        go_quiet (fail)
        go_wp2
        go_ret
        exact ⟨_, rfl, pk_mod hz0 (by have := HN.out; omega), HRD.out.draw _, grown_trans HG.out (grown_draws _ _ _)⟩

theorem lit_row (X : World) (q : Nat) (hq : q = X.heap.size) (cs : Array Value) (L : List Int) (n : Nat) (hn : n = L.length) (hcs : cs.toList = intE.flat L) (hm : n ≤ maxLen) : Row intE (X.alloc (.cells cs 3)) (.slice (some ⟨q, 0, none⟩) n n) L := by
  subst hq
  exact (Own.lit intE X X.heap.size 3 cs L n hn hcs (Nat.le_refl _) hm).rowB

/-- One of the numbers of a list. -/
def OneOut (B a : Nat) (m : Int) (L : List Int) (w : World) (e : Ending) (w' : World) : Prop := ∃ x, e = .returned (.int .i64 x) ∧ x ∈ L ∧ Rd B w' a m ∧ w.grownBy w' (some a)

set_option maxHeartbeats 1600000 in
theorem one_c (B a : Nat) (v : Value) (L : List Int) (m : Int) (w : World) (h : Rd B w a m) (hv : Row intE w v L) (hva : v.ownBlock ≠ some a) (hL : 0 < L.length) (hL2 : L.length ≤ 100) (hm : m ≤ 1000000) : Calls Try.prog 32 #[.pointer (some ⟨a, 0, none⟩), v] w (OneOut B a (m + 1) L w) := by
  obtain ⟨b, off, hA, hb, hx⟩ : ∃ b off, (∃ c, v = .slice (some ⟨b, off, none⟩) L.length c) ∧ b < w.heap.size ∧ ∀ k, (hk : k < L.length) → w.cell? ⟨b, off + k, none⟩ = some (.int .i64 L[k]) := by
    obtain ⟨A1, c1, rfl, hc1, hm1⟩ := hv.form
    obtain ⟨b, off, rfl, hb, hx⟩ := row_cells1 hv hL
    exact ⟨b, off, ⟨c1, rfl⟩, hb, hx⟩
  obtain ⟨c1, rfl⟩ := hA
  have hba : b ≠ a := fun e => hva (by rw [e]; rfl)
  have HX := hid hx
  have hn1 : (-1000000 : Int) ≤ (L.length : Int) := by omega
  have hn2 : (L.length : Int) ≤ 1000000 := by omega
  clear hv hva hx
  go_enter Try.func32, Try.ntmps32
  go_wp2_with fail
  refine (pick_c B a L.length m _ h hm hn1 hn2).mono ?_
  rintro e w1 ⟨x, rfl, ⟨hx0, hx1⟩, hR, hg⟩
  obtain ⟨k, rfl⟩ := Int.eq_ofNat_of_zero_le hx0
  have hk : k < L.length := by omega
  have hxk : w1.cell? ⟨b, off + k, none⟩ = some (.int .i64 L[k]) := hg.cell (HX.out k hk) (fun e => by injection e with e; exact hba e)
  have HR := hid hR
  have HG := hid hg
  clear hR hg hx0 hx1
  go_wp2
  go_ret
  exact ⟨_, rfl, List.getElem_mem hk, HR.out, HG.out⟩

set_option maxHeartbeats 1600000 in
/-- A new reader: its block is new. -/
theorem newReader_c (B : Nat) (v : Value) (L : List Int) (w : World) (h : RowB byteE B w v L) (hBw : B ≤ w.heap.size) (hb : ∀ x ∈ L, 0 ≤ x ∧ x ≤ 255) : Calls Try.prog 20 #[v] w fun e w' => e = .returned (.pointer (some ⟨w.heap.size, 0, none⟩)) ∧ Rd B w' w.heap.size 0 ∧ Below w.heap.size w w' ∧ w.heap.size < w'.heap.size := by
  obtain ⟨A1, c1, rfl, hc1, hm1⟩ := h.form
  have HR := hid h
  have HB := hid hb
  unfold maxLen at hm1
  clear hb h
  by_cases hl : 2000 < L.length
  · have hd : decide ((2000 : Int) < (L.length : Int)) = true := by simp; omega
    go_enter Try.func20, Try.ntmps20
    go_wp2
    go_ret
    refine ⟨rfl, ⟨A1, 2000, c1, L.take 2000, 0, Blk.new _ _ _, ?_, hBw, fun x hx => HB.out x (List.mem_of_mem_take hx), by omega, by omega, by omega⟩, (Below.refl _ _).alloc (Nat.le_refl _) _, by simp⟩
    exact (HR.out.take 2000 (by omega)).below (((Below.refl _ _).alloc (Nat.le_refl _) _).mono hBw)
  · have hd : decide ((2000 : Int) < (L.length : Int)) = false := by simp; omega
    go_enter Try.func20, Try.ntmps20
    go_wp2
    go_ret
    exact ⟨rfl, ⟨A1, L.length, c1, L, 0, Blk.new _ _ _, HR.out.below (((Below.refl _ _).alloc (Nat.le_refl _) _).mono hBw), hBw, HB.out, by omega, by omega, by omega⟩, (Below.refl _ _).alloc (Nat.le_refl _) _, by simp⟩

end Go.Proofs.Ytkckaooimffdpaa
