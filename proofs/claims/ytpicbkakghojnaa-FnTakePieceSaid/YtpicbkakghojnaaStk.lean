/-
  Contracts of the small functions over lists of pieces of glass (stocks).
-/
import Derived.Test.YtpicbkakghojnaaPieceT
namespace Go.Proofs.Ytpicbkakghojnaa
set_option linter.unusedSimpArgs false
set_option linter.unusedVariables false
open Go.RowKit

/-- The pieces S read as L, below block B. -/
def PsR (B : Nat) (w : World) (L : List Pc) (S : List Ps) : Prop := S.length = L.length ∧ ∀ k (h1 : k < S.length) (h2 : k < L.length), PvR B w L[k] S[k]
/-- The slice value v reads as the stock L, below block B. -/
def StR (B : Nat) (w : World) (v : Value) (L : List Pc) : Prop := ∃ S : List Ps, RowB psE B w v S ∧ PsR B w L S
theorem PsR.go {w w' : World} {L : List Pc} {S : List Ps} (h : PsR w.heap.size w L S) (hb : Below w.heap.size w w') : PsR w'.heap.size w' L S := ⟨h.1, fun k h1 h2 => (h.2 k h1 h2).go hb⟩
theorem StR.go {w w' : World} {L : List Pc} {v : Value} (h : StR w.heap.size w v L) (hb : Below w.heap.size w w') : StR w'.heap.size w' v L := by
  obtain ⟨S, h1, h2⟩ := h
  exact ⟨S, h1.go hb, h2.go hb⟩
theorem StR.form {B : Nat} {w : World} {L : List Pc} {v : Value} (h : StR B w v L) : ∃ A c, v = .slice A L.length c ∧ L.length ≤ c ∧ c ≤ maxLen := by
  obtain ⟨S, h1, h2⟩ := h
  obtain ⟨A, c, rfl, h3, h4⟩ := h1.form
  exact ⟨A, c, by rw [h2.1], by rw [← h2.1]; exact h3, h4⟩

theorem row_pss {B : Nat} {w : World} {A : Option Addr} {n c : Nat} {S : List Ps} (h : RowB psE B w (.slice A n c) S) (hn : 0 < n) : ∃ b off, A = some ⟨b, off, none⟩ ∧ b < B ∧
    ∀ k, (hk : k < S.length) → w.cell? ⟨b, off + k * 4, none⟩ = some (.int .i64 S[k].l) ∧ w.cell? ⟨b, off + k * 4 + 1, none⟩ = some (.int .i64 S[k].w) ∧ w.cell? ⟨b, off + k * 4 + 2, none⟩ = some (.int .i64 S[k].h) ∧ w.cell? ⟨b, off + k * 4 + 3, none⟩ = some (.slice S[k].ka S[k].kn S[k].kc) := by
  obtain ⟨h1, h2, h3, h4⟩ := h.at_
  obtain ⟨b, off, rfl, hb, hc⟩ := h4 hn
  exact ⟨b, off, rfl, hb, fun k hk => ⟨hc k 0 _ hk (by decide) rfl, hc k 1 _ hk (by decide) rfl, hc k 2 _ hk (by decide) rfl, hc k 3 _ hk (by decide) rfl⟩⟩

/-- Piece k of a stock: where it lies and what it reads as. -/
theorem StR.at_ {B : Nat} {w : World} {A : Option Addr} {n c : Nat} {L : List Pc} (h : StR B w (.slice A n c) L) (k : Nat) (hk : k < L.length) : ∃ b off, ∃ s : Ps, A = some ⟨b, off, none⟩ ∧ b < B ∧ PvR B w L[k] s ∧
    w.cell? ⟨b, off + k * 4, none⟩ = some (.int .i64 s.l) ∧ w.cell? ⟨b, off + k * 4 + 1, none⟩ = some (.int .i64 s.w) ∧ w.cell? ⟨b, off + k * 4 + 2, none⟩ = some (.int .i64 s.h) ∧ w.cell? ⟨b, off + k * 4 + 3, none⟩ = some (.slice s.ka s.kn s.kc) := by
  obtain ⟨S, h1, h2, h3⟩ := h
  have hn : n = S.length := h1.at_.1
  obtain ⟨b, off, rfl, hb, hx⟩ := row_pss h1 (by omega)
  exact ⟨b, off, S[k], rfl, hb, h3 k (by omega) hk, hx k (by omega)⟩

/-- How many flaws. -/
def fsum (L : List Pc) : Nat := (L.map fun p => p.f.length).sum
theorem fsum_nil : fsum [] = 0 := rfl
theorem fsum_take (L : List Pc) (k : Nat) (h : k < L.length) : fsum (L.take (k + 1)) = fsum (L.take k) + L[k].f.length := by
  rw [List.take_succ_eq_append_getElem h]; simp only [fsum, List.map_append, List.sum_append, List.map_cons, List.map_nil, List.sum_cons, List.sum_nil, Nat.add_zero]
theorem fsum_le (L : List Pc) (k : Nat) : fsum (L.take k) ≤ fsum L := by
  have : fsum L = fsum (L.take k) + fsum (L.drop k) := by
    conv => lhs; rw [← List.take_append_drop k L]
    simp only [fsum, List.map_append, List.sum_append]
  omega

set_option maxHeartbeats 1600000 in
theorem szPieceS_t (v : Value) (L : List Pc) (l : Int) (w : World) (h : StR w.heap.size w v L) (h0 : 0 ≤ l) (hl : l ≤ 4194304) (hn : (L.length : Int) + fsum L ≤ l) : Calls Try.prog 23 #[v, .int .i64 l] w fun e w' => e = .returned (.int .i64 (l - L.length - fsum L)) ∧ Below w.heap.size w w' := by
  obtain ⟨A, c, rfl, hc1, hm1⟩ := h.form
  unfold maxLen at hm1
  go_enter Try.func23, Try.ntmps23
  go_wp2
  go_loopw [1, 5] (fun n i wr => ∃ k : Nat, i = .int .i64 k ∧ k ≤ L.length ∧ n = .int .i64 (l - L.length - fsum (L.take k)) ∧ Below w.heap.size w wr) (fun _ i _ => L.length - (intOf i).toNat)
  case atStart => exact ⟨0, rfl, by omega, by simp [fsum_nil], Below.refl _ _⟩
  case round =>
    obtain ⟨k, rfl, hk, rfl, hb⟩ := hrel
    by_cases hlt : k < L.length
    · obtain ⟨b1, o1, s, rfl, hb1, hp, x0, x1, x2, x3⟩ := (h.go hb).at_ k hlt
      have e1 := fsum_take L k hlt
      have e2 := fsum_le L (k + 1)
      have e3 := fsum_le L k
      have HB := hid hb
      have HP := hid hp
      have HE := hid e1
      have g1 : (L[k].f.length : Int) ≤ l - L.length - fsum (L.take k) := by omega
      have g2 : decide (l - (L.length : Int) - (fsum (L.take k) : Int) - (L[k].f.length : Int) < 0) = false := by simp; omega
      have g3 : (l - (L.length : Int) - (fsum (L.take k) : Int)) ≤ 4194304 := by omega
      have g4 : 0 ≤ (l - (L.length : Int) - (fsum (L.take k) : Int)) := by omega
      clear h hb hp e1
      go_wp2_with fail
      refine (szPiece_t L[k] s _ _ HP.out g4 g3 g1).mono ?_
      rintro e w1 ⟨rfl, hb⟩
      have HB1 := hid (HB.out.trans (hb.mono HB.out.size))
      clear hb
      go_wp2
      exact ⟨⟨k + 1, by go_num, by omega, by rw [HE.out]; go_num, HB1.out⟩, by simp [intOf]; omega⟩
    · have e : L.take k = L := List.take_of_length_le (by omega)
      have HE := hid e
      have HB := hid hb
      clear e hb
      go_wp2
      go_ret
      exact ⟨ret_int (by rw [HE.out]), HB.out⟩

set_option maxHeartbeats 1600000 in
theorem szPieceS_f (v : Value) (L : List Pc) (l : Int) (w : World) (h : StR w.heap.size w v L) (h0 : 0 ≤ l) (hl : l ≤ 4194304) (hn : l < (L.length : Int) + fsum L) : Calls Try.prog 23 #[v, .int .i64 l] w fun e w' => e = .returned (.int .i64 (-1)) ∧ Below w.heap.size w w' := by
  obtain ⟨A, c, rfl, hc1, hm1⟩ := h.form
  unfold maxLen at hm1
  by_cases hle : (L.length : Int) ≤ l
  · go_enter Try.func23, Try.ntmps23
    go_wp2
    go_loopw [1, 5] (fun n i wr => ∃ k : Nat, i = .int .i64 k ∧ k ≤ L.length ∧ n = .int .i64 (l - L.length - fsum (L.take k)) ∧ (L.length : Int) + fsum (L.take k) ≤ l ∧ Below w.heap.size w wr) (fun _ i _ => L.length - (intOf i).toNat)
    case atStart => exact ⟨0, rfl, by omega, by simp [fsum_nil], by simp [fsum_nil]; omega, Below.refl _ _⟩
    case round =>
      obtain ⟨k, rfl, hk, rfl, hle2, hb⟩ := hrel
      by_cases hlt : k < L.length
      · obtain ⟨b1, o1, s, rfl, hb1, hp, x0, x1, x2, x3⟩ := (h.go hb).at_ k hlt
        have e1 := fsum_take L k hlt
        have HB := hid hb
        have HP := hid hp
        have HE := hid e1
        have g3 : (l - (L.length : Int) - (fsum (L.take k) : Int)) ≤ 4194304 := by omega
        have g4 : 0 ≤ (l - (L.length : Int) - (fsum (L.take k) : Int)) := by omega
        clear h hb hp
        by_cases g1 : (L[k].f.length : Int) ≤ l - L.length - fsum (L.take k)
        · have g2 : decide (l - (L.length : Int) - (fsum (L.take k) : Int) - (L[k].f.length : Int) < 0) = false := by simp; omega
          have g5 : (L.length : Int) + fsum (L.take (k + 1)) ≤ l := by omega
          have G5 := hid g5
          clear g5 e1
          go_wp2_with fail
          refine (szPiece_t L[k] s _ _ HP.out g4 g3 g1).mono ?_
          rintro e w1 ⟨rfl, hb⟩
          have HB1 := hid (HB.out.trans (hb.mono HB.out.size))
          clear hb
          go_wp2
          exact ⟨⟨k + 1, by go_num, by omega, by rw [HE.out]; go_num, G5.out, HB1.out⟩, by simp [intOf]; omega⟩
        · clear e1
          go_wp2_with fail
          refine (szPiece_f L[k] s _ _ HP.out g4 g3 (by omega)).mono ?_
          rintro e w1 ⟨rfl, hb⟩
          have HB1 := hid (HB.out.trans (hb.mono HB.out.size))
          clear hb
          go_wp2
          go_ret
          exact ⟨rfl, HB1.out⟩
      · have e : L.take k = L := List.take_of_length_le (by omega)
        rw [e] at hle2
        omega
  · go_enter Try.func23, Try.ntmps23
    go_wp2
    go_ret
    exact ⟨rfl, Below.refl _ _⟩

theorem rep_push {α : Type} (S : List α) (z a : α) (n k : Nat) (hk : S.length = k) (hn : k < n) : (S ++ List.replicate (n - k) z).set k a = (S ++ [a]) ++ List.replicate (n - (k + 1)) z := by
  subst hk
  rw [List.set_append_right _ _ (Nat.le_refl _), Nat.sub_self]
  have e : n - S.length = (n - (S.length + 1)) + 1 := by omega
  rw [e, List.replicate_succ, List.set_cons_zero, List.append_assoc]
  rfl

/-- Pieces whose flaws are the call's own, from block B on. -/
def PsO (B : Nat) (w : World) (L : List Pc) (S : List Ps) : Prop := ∀ k (h1 : k < S.length) (h2 : k < L.length), S[k].same L[k] ∧ Own boxE 33 B w S[k].kv L[k].f
theorem PsO.below {B : Nat} {w w' : World} {L : List Pc} {S : List Ps} (h : PsO B w L S) (hb : Below w.heap.size w w') : PsO B w' L S := fun k h1 h2 => ⟨(h k h1 h2).1, (h k h1 h2).2.below hb⟩
theorem PsO.kept {B g : Nat} {w w' : World} {L : List Pc} {S : List Ps} (h : PsO B w L S) (hg : w.grownBy w' (some g)) (hlt : g < B) : PsO B w' L S := fun k h1 h2 => ⟨(h k h1 h2).1, (h k h1 h2).2.kept hg (by
  cases e : S[k].kv.ownBlock with
  | none => exact .inl rfl
  | some b => exact .inr (by have := ((h k h1 h2).2.lt b e).1; intro h; injection h; omega))⟩
theorem PsO.snoc {B : Nat} {w : World} {L : List Pc} {S : List Ps} {s : Ps} (h : PsO B w L S) (hk : S.length < L.length) (hs : s.same L[S.length]) (ho : Own boxE 33 B w s.kv L[S.length].f) : PsO B w L (S ++ [s]) := fun k h1 h2 => by
  by_cases hk2 : k < S.length
  · rw [List.getElem_append_left hk2]; exact h k hk2 h2
  · have e : k = S.length := by simp at h1; omega
    subst e
    rw [List.getElem_append_right (Nat.le_refl _)]
    simp only [Nat.sub_self, List.getElem_cons_zero]
    exact ⟨hs, ho⟩
theorem PsO.nil_ (B : Nat) (w : World) (L : List Pc) : PsO B w L [] := fun k h1 => by simp at h1
theorem PsO.read {B : Nat} {w : World} {L : List Pc} {S : List Ps} (h : PsO B w L S) (hl : S.length = L.length) : PsR w.heap.size w L S := ⟨hl, fun k h1 h2 => ⟨(h k h1 h2).1, (h k h1 h2).2.rowB⟩⟩

set_option maxHeartbeats 1600000 in
theorem toPieceS_c (v : Value) (L : List Pc) (w : World) (h : StR w.heap.size w v L) (hn : L.length + fsum L ≤ 4194304) : Calls Try.prog 25 #[v] w fun e w' => ∃ v', e = .returned v' ∧ StR w'.heap.size w' v' L ∧ Below w.heap.size w w' := by
  obtain ⟨A, c, rfl, hc1, hm1⟩ := h.form
  unfold maxLen at hm1
  obtain ⟨i0, hi0, hz0, hz1, hz2⟩ := info_parts piece_info
  have hnl : L.length ≤ 4194304 := by omega
  go_enter Try.func25, Try.ntmps25
  go_wp2_with (at_make; refine wpList_mk psE _ rfl _ _ 44 rfl w.heap.size 31 i0 _ ⟨0, 0, 0, none, 0, 0⟩ 48 Try.underlying44 hi0 hz0 hz1 hz2 rfl _ _ _ _ L.length rfl rfl rfl rfl hnl (by omega) (Nat.le_refl _) ?_)
  intro w1 hown hgr hlt1
  have HB1 := hid ((Below.refl _ _).grown hgr (Nat.le_refl _) (by simp) : Below w.heap.size w w1)
  have HO1 := hid hown
  have HZ1 := hid hlt1
  clear hown hgr hlt1
  go_wp2
  go_loopw [4] (fun i wr => ∃ k : Nat, i = .int .i64 k ∧ k ≤ L.length ∧ w.heap.size < wr.heap.size ∧ Below w.heap.size w wr ∧ ∃ S : List Ps, S.length = k ∧ Own psE 31 w.heap.size wr (.slice (some ⟨w.heap.size, 0, none⟩) L.length L.length) (S ++ List.replicate (L.length - k) ⟨0, 0, 0, none, 0, 0⟩) ∧ PsO (w.heap.size + 1) wr L S) (fun i _ => L.length - (intOf i).toNat)
  case atStart => exact ⟨0, rfl, by omega, HZ1.out, HB1.out, [], rfl, by simpa using HO1.out, PsO.nil_ _ _ _⟩
  case round =>
    obtain ⟨k, rfl, hk, hz, hb, S, hS, ho, hp⟩ := hrel
    clear HO1 HB1 HZ1
    have HS := hid hS
    clear hS
    by_cases hlt : k < L.length
    · obtain ⟨b1, o1, s, rfl, hlt1, hp1, hx0, hx1, hx2, hx3⟩ := (h.go hb).at_ k hlt
      have HB := hid hb
      have HO := hid ho
      have HP := hid hp
      have HP1 := hid hp1
      have hsz := hb.size
      have hf : L[k].f.length ≤ 4194304 := by
        have e1 := fsum_take L k hlt
        have e2 := fsum_le L (k + 1)
        omega
      have HF := hid hf
      clear h hb ho hp hp1 hf
      go_wp2_with fail
      refine (toPiece_c L[k] s _ HP1.out HF.out).mono ?_
      rintro e w2 ⟨s2, rfl, hs2, ho2, hb2⟩
      have HB2 := hid (HB.out.trans (hb2.mono HB.out.size))
      have HO2 := hid (HO.out.below hb2)
      have HSm := hid hs2
      have HP2 := hid (HP.out.below hb2)
      have HOf := hid (ho2.base_le (base' := w.heap.size + 1) hz)
      have hz2 := hb2.size
      clear hb2 ho2 hs2
      go_wp2_with (refine wpList_put psE rfl 31 _ _ rfl _ _ _ _ _ k _ s2 HO2.out (by simp [HS.out]; omega) (by simp [HS.out]; omega) rfl rfl (by rw [hi0]; simp [hz1, psE]) _ (rep_push S ⟨0, 0, 0, none, 0, 0⟩ s2 L.length k HS.out hlt).symm ?_)
      intro w3 ho3 hg3
      have HO3 := hid ho3
      have HB3 := hid (HB2.out.grown hg3 HB2.out.size (fun q hq => by simp at hq; omega))
      have HOf3 := hid (HOf.out.kept hg3 (by
        cases e : s2.kv.ownBlock with
        | none => exact .inl rfl
        | some b => exact .inr (by have := (HOf.out.lt b e).1; intro h; injection h; omega)))
      have HP3 := hid (HP2.out.kept hg3 (Nat.lt_succ_self _))
      have hz3 := hg3.size
      clear ho3 hg3
      go_wp2
      refine ⟨⟨k + 1, by go_num, by omega, by omega, HB3.out, S ++ [s2], by simp [HS.out], by rw [List.append_assoc]; exact HO3.out, ?_⟩, by simp [intOf]; omega⟩
      have e := HS.out
      subst e
      exact HP3.out.snoc hlt HSm.out HOf3.out
    · have e : k = L.length := by omega
      subst e
      have HB := hid hb
      have HR : Hid (StR wr.heap.size wr (.slice (some ⟨w.heap.size, 0, none⟩) L.length L.length) L) := ⟨S, by simpa using ho.rowB, hp.read HS.out⟩
      clear hb ho hp
      go_wp2
      go_ret
      exact ⟨_, rfl, HR.out, HB.out⟩

set_option maxHeartbeats 1600000 in
set_option maxRecDepth 100000 in
theorem eqPieceS_c (v1 v2 : Value) (L : List Pc) (w : World) (h1 : StR w.heap.size w v1 L) (h2 : StR w.heap.size w v2 L) : Calls Try.prog 27 #[v1, v2] w fun e w' => e = .returned (.bool true) ∧ Below w.heap.size w w' := by
  obtain ⟨A1, c1, rfl, hc1, hm1⟩ := h1.form
  obtain ⟨A2, c2, rfl, hc2, hm2⟩ := h2.form
  unfold maxLen at hm1 hm2
  have hlb : ((L.length : Int) != (L.length : Int)) = false := by simp
  go_enter Try.func27, Try.ntmps27
  go_wp2
  go_loopw [5] (fun i wr => ∃ k : Nat, i = .int .i64 k ∧ k ≤ L.length ∧ Below w.heap.size w wr) (fun i _ => L.length - (intOf i).toNat)
  case atStart => exact ⟨0, rfl, by omega, Below.refl _ _⟩
  case round =>
    obtain ⟨k, rfl, hk, hb⟩ := hrel
    by_cases hlt : k < L.length
    · obtain ⟨b1, o1, s1, rfl, -, hp1, hx0, hx1, hx2, hx3⟩ := (h1.go hb).at_ k hlt
      obtain ⟨b2, o2, s2, rfl, -, hp2, hy0, hy1, hy2, hy3⟩ := (h2.go hb).at_ k hlt
      have HB := hid hb
      have HP1 := hid hp1
      have HP2 := hid hp2
      clear h1 h2 hb hp1 hp2
      go_wp2
      go_still_tail 8, (by kernel_rfl)
      go_wp2_with fail
      refine (eqPiece_c L[k] s1 s2 _ (HP1.out.go (below_draws _ _ 1)) (HP2.out.go (below_draws _ _ 1))).mono ?_
      rintro e w2 ⟨rfl, hb2⟩
      have HB2 := hid (HB.out.drew.trans (hb2.mono HB.out.size))
      clear hb2
      go_wp2
      exact ⟨⟨k + 1, by go_num, by omega, HB2.out⟩, by simp [intOf]; omega⟩
    · have HB := hid hb
      clear hb
      go_wp2
      go_ret
      exact ⟨rfl, HB.out⟩

end Go.Proofs.Ytpicbkakghojnaa
