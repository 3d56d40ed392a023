/-
  Contracts: a list without one of its numbers, by the laws; lengths and a bar drawn out of a code.
-/
import Derived.Test.YtkckaooimffdpaaFewF
import Derived.Test.YtkckaooimffdpaaBarDr
import Derived.Test.YtkckaooimffdpaaCat
import Derived.Deep.RegionHeld3
namespace Go.Proofs.Ytkckaooimffdpaa
set_option linter.unusedSimpArgs false
set_option linter.unusedVariables false
open Go.RowKit

theorem RowB.voidF {α : Type} {E : Enc α} {B : Nat} {w : World} {L : List α} (A : Option Addr) (c : Nat) (n : Nat) (h0 : L.length = 0) (hn : n = 0) (hc : c ≤ maxLen) : RowB E B w (.slice A n c) L := by
  subst hn
  exact ⟨A, c, by rw [h0], by omega, hc, fun h => by omega⟩
theorem RowB.dropF {α : Type} {E : Enc α} {B : Nat} {w : World} {b off n c : Nat} {L : List α} (h : RowB E B w (.slice (some ⟨b, off, none⟩) n c) L) (k : Nat) (hk : k ≤ n) : RowB E B w (.slice (some ⟨b, off + k * E.sz, none⟩) (n - k) (c - k)) (L.drop k) := by
  obtain ⟨A', c', h0, h1, h2, h3⟩ := h
  injection h0 with hA hn hc
  subst hn; subst hc
  have hl : (L.drop k).length = L.length - k := by simp
  refine ⟨_, c - k, by rw [hl], by rw [hl]; omega, by omega, fun h0 => ?_⟩
  obtain ⟨b', off', e, hb, hc⟩ := h3 (by rw [hl] at h0; omega)
  rw [← hA] at e
  injection e with e
  injection e with e1 e2
  subst e1 e2
  refine ⟨b, _, rfl, hb, fun j u hu => ?_⟩
  rw [← E.flat_drop, List.getElem?_drop] at hu
  rw [Nat.add_assoc]
  exact hc _ u hu
abbrev JnOut (M : List Int) (w : World) (e : Ending) (w' : World) : Prop := ∃ v, e = .returned v ∧ Own intE 3 w.heap.size w' v M ∧ Below w.heap.size w w'

set_option maxHeartbeats 6400000 in
set_option maxRecDepth 100000 in
theorem join_c (v1 v2 : Value) (L M : List Int) (w : World) (h1 : Row intE w v1 L) (h2 : Row intE w v2 M) (hL : L.length + M.length ≤ 1000) : Calls Try.prog 29 #[v1, v2] w (JnOut (L ++ M) w) := by
  obtain ⟨i0, hi0, hz0, hz1, hz2⟩ := info_parts int_info
  have ZA := hid ((Below.refl w.heap.size w).alloc (Nat.le_refl _) (.cells #[] 3))
  have ZO0 := hid (Own.lit0 intE w w.heap.size 3 (Nat.le_refl _))
  have Z1 := hid (h1.below ZA.out)
  have HN1 : Hid (([] : List Int).length + L.length ≤ 4194304) := by rw [Hid]; simp; omega
  have HN2 : Hid (L.length + M.length ≤ 4194304) := by rw [Hid]; omega
  have H2 := hid h2
  clear h1 h2 hL
  go_enter Try.func29, Try.ntmps29
  go_wp2_with (at_builtin; refine wpList_cat intE _ rfl (.tmp 5) (.tmp 6) _ rfl w.heap.size 3 i0 _ 8 Try.underlying23 hi0 hz0 hz1 hz2 rfl (by omega) (.slice (some ⟨w.heap.size, 0, none⟩) 0 0) _ rfl ZO0.out _ _ _ rfl Z1.out HN1.out (by simp) L (by simp) ?_)
  intro v3 w3 ho3 hg3 hat3
  have HO3 := hid ho3
  have HB3 := hid (ZA.out.grown hg3 (by simp) (by simp [Value.ownBlock]))
  have Z2 := hid (H2.out.below HB3.out)
  have hs3 := HB3.out.size
  clear ho3 hg3 hat3
  go_wp2_with (at_builtin; refine wpList_cat intE _ rfl (.tmp 7) (.tmp 8) _ rfl w.heap.size 3 i0 _ 8 Try.underlying23 hi0 hz0 hz1 hz2 rfl (by omega) _ _ rfl HO3.out _ _ _ rfl Z2.out HN2.out hs3 (L ++ M) rfl ?_)
  intro v4 w4 ho4 hg4 hat4
  have HO4 := hid ho4
  have HB4 := hid (HB3.out.grown hg4 hs3 (fun z hz => (HO3.out.lt z hz).1))
  clear ho4 hg4 hat4
  go_wp2
  go_ret
  exact ⟨_, rfl, HO4.out, HB4.out⟩

set_option maxHeartbeats 12800000 in
set_option maxRecDepth 100000 in
theorem without_c (v : Value) (L : List Int) (k : Nat) (w : World) (h : Row intE w v L) (hk : k < L.length) (hL : L.length ≤ 1000) : Calls Try.prog 10 #[v, .int .i64 (k : Nat)] w (JnOut (wo L k) w) := by
  obtain ⟨A1, c1, rfl, hc1, hm1⟩ := h.form
  unfold maxLen at hm1
  obtain ⟨b1, o1, rfl, hb1, -⟩ := row_cells1 h (by omega)
  have HTK := hid (h.take k (by omega))
  have HDR : Hid (∀ wz, Below w.heap.size w wz → RowB intE w.heap.size wz (.slice (if c1 = k + 1 then some ⟨b1, o1, none⟩ else some ⟨b1, o1 + (k + 1), none⟩) (L.length - (k + 1)) (c1 - (k + 1))) (L.drop (k + 1))) := fun wz hb => by
    by_cases hcap : c1 = k + 1
    · rw [if_pos hcap]
      exact RowB.voidF _ _ _ (by simp; omega) (by omega) (by rw [hcap]; simp [maxLen])
    · rw [if_neg hcap]
      have := (h.dropF (k + 1) hk).below hb
      simpa [intE] using this
  have HN2 : Hid ((L.take k).length + (L.drop (k + 1)).length ≤ 1000) := by rw [Hid]; simp; omega
  have hw1 : IntKind.i64.wrap ((k : Int) + 1) = (k : Int) + 1 := IntWalk.i64_in _ (by omega)
  have hj0 : (0 : Int) ≤ (k : Int) + 1 := by omega
  have htn : ((k : Int) + 1).toNat = k + 1 := by omega
  have hjc : (k : Int) ≤ (c1 : Int) := by omega
  have hjn : (k : Int) + 1 ≤ (L.length : Int) := by omega
  have ZK := hid ((Below.refl w.heap.size w).drew)
  have R1 : Row intE w.drew (.slice (some ⟨b1, o1, none⟩) k c1) (L.take k) := HTK.out.below ZK.out
  have R2 : Row intE w.drew _ (L.drop (k + 1)) := HDR.out _ ZK.out
  have HJ := hid ((join_c _ _ (L.take k) (L.drop (k + 1)) w.drew R1 R2 HN2.out).mono (R' := fun e w' => JnOut (wo L k) w e w') (by
    rintro e w3 ⟨v3, rfl, ho3, hb3⟩
    exact ⟨v3, rfl, ho3, ZK.out.trans (hb3.mono (by simp))⟩))
  clear h R1 R2
  go_enter Try.func10, Try.ntmps10
  go_wp2
  go_region_held3 (fun w' => ∀ b o, b < w.heap.size → w'.cell? ⟨b, o, none⟩ = w.cell? ⟨b, o, none⟩) (first | with_reducible exact fun b o h => ZK.out.cell (p := ⟨b, o, none⟩) h | with_reducible exact fun b o h => ZX.out.cell (p := ⟨b, o, none⟩) h)
    (first | (go_at_call 29; (generalize (if c1 = k + 1 then (some ⟨b1, o1, none⟩ : Option Addr) else some ⟨b1, o1 + (k + 1), none⟩) = U at HJ ⊢); (with_reducible refine HJ.out.mono ?_); rintro e w3 ⟨v3, rfl, ho3, hb3⟩; have ZO := hid ho3; have ZX := hid hb3; clear ho3 hb3) | fail)
  all_goals
    go_wp2
    go_ret
    exact ⟨_, rfl, ZO.out, ZX.out⟩

def DfOut (w : World) (e : Ending) (w' : World) : Prop := ∃ (v : Value) (L : List Int) (bar : Int), e = .returned (.tuple #[v, .int .i64 bar]) ∧ Row intE w' v L ∧ L.length ≤ 14 ∧ (7 ≤ bar ∧ bar ≤ 20) ∧ Below w.heap.size w w'

set_option maxHeartbeats 6400000 in
set_option maxRecDepth 100000 in
theorem DrawFewestBars_c (v : Value) (C : List Int) (w : World) (h : Row byteE w v C) (hb : ∀ x ∈ C, 0 ≤ x ∧ x ≤ 255) : Calls Try.prog 7 #[v] w (DfOut w) := by
  have HR := hid h
  have HB := hid hb
  clear h hb
  go_enter Try.func7, Try.ntmps7
  go_wp2_with fail
  refine (newReader_c w.heap.size _ C _ HR.out (Nat.le_refl _) HB.out).mono ?_
  rintro e w1 ⟨rfl, hR, hb, hs⟩
  have HB1 := hid hb
  have HR1 := hid hR
  clear hR hb
  go_wp2_with fail
  refine (sbarLengths_c w.heap.size w.heap.size 0 _ HR1.out (by omega)).mono ?_
  rintro e w2 ⟨vl, L, bar, rfl, hlen, hbd, hbar, ho, hR, hg⟩
  have hs2 := hg.size
  have HB2 := hid (below_gr HB1.out hg HB1.out.size (Nat.le_refl _))
  have HR2 := hid hR
  have HL2 := hid ho
  have HBA := hid hbar
  have hbar1 := hbar.1
  have hbar2 := hbar.2
  obtain ⟨A1, c1, rfl, hc1, hm1, -⟩ := ho.shape
  unfold maxLen at hm1
  have HRL2 := hid HL2.out.rowB
  clear hR hg ho hbd hbar
  by_cases h6 : 6 < L.length
  · have d1 : decide ((6 : Int) < (L.length : Int)) = true := decide_eq_true (by omega)
    have d2 : decide (6 < L.length) = true := decide_eq_true h6
    have hla : w.heap.size < w1.heap.size := hs
    go_wp2_with fail
    refine (pick_c w.heap.size w.heap.size 8 _ _ HR2.out (by omega) (by omega) (by omega)).mono ?_
    rintro e w3 ⟨x, rfl, hp, hR, hg⟩
    have HB3 := hid (below_gr HB2.out hg HB2.out.size (Nat.le_refl _))
    have HL3 := hid (HL2.out.kept hg (bown_na HL2.out (by omega)))
    have HRL3 := hid HL3.out.rowB
    clear hp hR hg
    by_cases hx : 0 < x
    · have e1 : decide (0 < x) = true := decide_eq_true hx
      have hc6 : (6 : Int) ≤ (c1 : Int) := by omega
      have HT := hid (HRL3.out.take 6 (by omega))
      have HTL : Hid ((L.take 6).length ≤ 14) := by rw [Hid, List.length_take]; omega
      clear hx
      go_wp2
      exact bodyPost_ret (v := .tuple #[.slice A1 6 c1, .int .i64 bar]) (by simp [results, Try.results7, go_sem]) rfl ⟨_, L.take 6, bar, rfl, HT.out, HTL.out, HBA.out, HB3.out⟩
    · have e1 : decide (0 < x) = false := decide_eq_false hx
      clear hx
      go_wp2
      exact bodyPost_ret (v := .tuple #[.slice A1 L.length c1, .int .i64 bar]) (by simp [results, Try.results7, go_sem]) rfl ⟨_, L, bar, rfl, HRL3.out, hlen, HBA.out, HB3.out⟩
  · have d1 : decide ((6 : Int) < (L.length : Int)) = false := decide_eq_false (by omega)
    have d2 : decide (6 < L.length) = false := decide_eq_false h6
    go_wp2
    exact bodyPost_ret (v := .tuple #[.slice A1 L.length c1, .int .i64 bar]) (by simp [results, Try.results7, go_sem]) rfl ⟨_, L, bar, rfl, HRL2.out, hlen, HBA.out, HB2.out⟩

end Go.Proofs.Ytkckaooimffdpaa
