/-
  Contracts: bars drawn out of a code; the greatest number and the sum of a list, by the laws.
-/
import Derived.Test.YtkckaooimffdpaaBarDs
namespace Go.Proofs.Ytkckaooimffdpaa
set_option linter.unusedSimpArgs false
set_option linter.unusedVariables false
open Go.RowKit

/-- A row of the call's own stays one that reads where another row of its own is stored to. -/
theorem Own.keptRow {α β : Type} {E : Enc α} {E' : Enc β} {e e' : TypeId} {base base' g n c : Nat} {w w' : World} {v : Value} {L : List α} {M : List β} (h : Own E e base w v L) (hg : w.grownBy w' (some g)) (h' : Own E' e' base' w (.slice (some ⟨g, 0, none⟩) n c) M) (hne : ∀ k, v.ownBlock = some k → k ≠ g) : RowB E w'.heap.size w' v L :=
  (h.kept hg (by
    cases hv : v.ownBlock with
    | none => exact .inl rfl
    | some k => exact .inr (fun e => by injection e with e; exact hne k hv e))).rowB
def GbDraw (w : World) (e : Ending) (w' : World) : Prop := ∃ (v1 v3 : Value) (L G : List Int) (bar : Int), e = .returned (.tuple #[v1, .int .i64 bar, v3]) ∧ Row intE w' v1 L ∧ Row intE w' v3 G ∧ L.length ≤ 14 ∧ (∀ x ∈ L, 0 ≤ x ∧ x ≤ 30) ∧ (7 ≤ bar ∧ bar ≤ 20) ∧ Below w.heap.size w w'

set_option maxHeartbeats 6400000 in
set_option maxRecDepth 100000 in
theorem DrawGoodBars_c (v : Value) (C : List Int) (w : World) (h : Row byteE w v C) (hb : ∀ x ∈ C, 0 ≤ x ∧ x ≤ 255) : Calls Try.prog 11 #[v] w (GbDraw w) := by
  have HR := hid h
  have HB := hid hb
  clear h hb
  go_enter Try.func11, Try.ntmps11
  go_wp2_with fail
  refine (newReader_c w.heap.size _ C _ HR.out (Nat.le_refl _) HB.out).mono ?_
  rintro e w1 ⟨rfl, hR, hb, hs⟩
  have HB1 := hid hb
  have HR1 := hid hR
  clear hR hb
  go_wp2_with fail
  refine (sbarLengths_c w.heap.size w.heap.size 0 _ HR1.out (by omega)).mono ?_
  rintro e w2 ⟨vl, L, bar, rfl, hlen, hbd, hbar, ho, hR, hg⟩
  have hs2 := hg.size
  have HB2 := hid (below_gr HB1.out hg HB1.out.size (Nat.le_refl _))
  have HR2 := hid hR
  have HL2 := hid ho
  have HBD := hid hbd
  have HBA := hid hbar
  have hbar1 := hbar.1
  have hbar2 := hbar.2
  obtain ⟨A1, c1, rfl, hc1, hm1, -⟩ := ho.shape
  unfold maxLen at hm1
  clear hR hg ho hbd hbar
  have HL3 := hid (HL2.out.alloc (.cells #[] 3))
  have HR3 := hid (HR2.out.alloc (.cells #[] 3))
  have HB3 := hid (HB2.out.alloc HB2.out.size (.cells #[] 3))
  have HZ3 := hid (Own.lit0 intE w2 w2.heap.size 3 (Nat.le_refl _))
  have HRL3 := hid HL3.out.rowB
  have HRZ3 := hid HZ3.out.rowB
  go_wp2_with fail
  refine (svalidBars_c _ L bar _ HRL3.out).mono ?_
  rintro e w3 ⟨rfl, rfl⟩
  cases hv : brB 20 L bar with
  | false =>
    clear hv
    go_wp2
    exact bodyPost_ret (v := .tuple #[.slice A1 L.length c1, .int .i64 bar, .slice (some ⟨w2.heap.size, 0, none⟩) 0 0]) (by simp [results, Try.results11, go_sem]) rfl ⟨_, _, L, [], bar, rfl, HRL3.out, HRZ3.out, hlen, HBD.out, HBA.out, HB3.out⟩
  | true =>
    have HV := hid (brB_iff.1 hv)
    clear hv
    go_wp2_with fail
    refine (supTo_c L.length _ (by omega)).mono ?_
    rintro e w4 ⟨vu, rfl, ho, hb⟩
    have HU4 := hid ho.rowB
    have HL4 := hid (HL3.out.below hb)
    have HR4 := hid (HR3.out.below hb)
    have HB4 := hid (HB3.out.trans (hb.mono HB3.out.size))
    have hs4 := hb.size
    (try simp only [World.size_alloc] at hs4)
    have HRL4 := hid HL4.out.rowB
    clear ho hb
    go_wp2_with fail
    refine (sfirstFit_c _ _ L bar _ HRL4.out HU4.out HV.out).mono ?_
    rintro e w5 ⟨vf, G, rfl, hGl, ho, hb⟩
    have HF5 := hid ho
    have HL5 := hid (HL4.out.below hb)
    have HR5 := hid (HR4.out.below hb)
    have HB5 := hid (HB4.out.trans (hb.mono HB4.out.size))
    have hs5 := hb.size
    have HGL := hid hGl
    obtain ⟨A2, c2, rfl, hc2, hm2, -⟩ := ho.shape
    unfold maxLen at hm2
    have HRG5 := hid ho.rowB
    have HRL5 := hid HL5.out.rowB
    have hla : w.heap.size < w1.heap.size := hs
    clear ho hb hGl
    by_cases hg0 : 0 < G.length
    · have d1 : decide ((0 : Int) < (G.length : Int)) = true := decide_eq_true (by omega)
      have d2 : decide (0 < G.length) = true := decide_eq_true hg0
      have hG14 : G.length ≤ 14 := by have := HGL.out; omega
      go_wp2_with fail
      refine (pick_c w.heap.size w.heap.size 2 _ _ HR5.out (by omega) (by omega) (by omega)).mono ?_
      rintro e w6 ⟨x, rfl, hp, hR, hg⟩
      have hs6 := hg.size
      have HR6 := hid hR
      have HB6 := hid (below_gr HB5.out hg HB5.out.size (Nat.le_refl _))
      have HF6 := hid (HF5.out.kept hg (bown_na HF5.out (by omega)))
      have HL6 := hid (HL5.out.kept hg (bown_na HL5.out (by omega)))
      have HRG6 := hid HF6.out.rowB
      have HRL6 := hid HL6.out.rowB
      clear hp hR hg
      by_cases hx : x = 0
      · have e1 : (x == 0) = true := by simpa using hx
        clear hx
        go_wp2_with fail
        refine (pick_c w.heap.size w.heap.size (G.length : Int) _ _ HR6.out (by omega) (by omega) (by omega)).mono ?_
        rintro e w7 ⟨y, rfl, hp, hR, hg⟩
        have hy : 0 ≤ y ∧ y < (G.length : Int) := by obtain ⟨p1, p2⟩ := hp; omega
        obtain ⟨j, rfl⟩ := Int.eq_ofNat_of_zero_le hy.1
        have hjl : j < G.length := by omega
        have hs7 := hg.size
        have HR7 := hid hR
        have HB7 := hid (below_gr HB6.out hg HB6.out.size (Nat.le_refl _))
        have HF7 := hid (HF6.out.kept hg (bown_na HF6.out (by omega)))
        have HL7 := hid (HL6.out.kept hg (bown_na HL6.out (by omega)))
        clear hp hR hg hy
        have ZL := hid (lit_row w7 w7.heap.size rfl #[.int .i64 0, .int .i64 1, .int .i64 2, .int .i64 5, .int .i64 (-1), .int .i64 30] [0, 1, 2, 5, -1, 30] 6 rfl rfl (by simp [maxLen]))
        have HR8 := hid (HR7.out.alloc (.cells #[.int .i64 0, .int .i64 1, .int .i64 2, .int .i64 5, .int .i64 (-1), .int .i64 30] 3))
        have HB8 := hid (HB7.out.alloc HB7.out.size (.cells #[.int .i64 0, .int .i64 1, .int .i64 2, .int .i64 5, .int .i64 (-1), .int .i64 30] 3))
        have HF8 := hid (HF7.out.alloc (.cells #[.int .i64 0, .int .i64 1, .int .i64 2, .int .i64 5, .int .i64 (-1), .int .i64 30] 3))
        have HL8 := hid (HL7.out.alloc (.cells #[.int .i64 0, .int .i64 1, .int .i64 2, .int .i64 5, .int .i64 (-1), .int .i64 30] 3))
        go_wp2_with fail
        refine (one_c w.heap.size w.heap.size _ [0, 1, 2, 5, -1, 30] _ _ HR8.out ZL.out (by simp [Value.ownBlock]; omega) (by simp) (by simp) (by omega)).mono ?_
        rintro e w9 ⟨z, rfl, hp, hR, hg⟩
        have HB9 := hid (below_gr HB8.out hg HB8.out.size (Nat.le_refl _))
        have HF9 := hid (HF8.out.kept hg (bown_na HF8.out (by omega)))
        have HL9 := hid (HL8.out.kept hg (bown_na HL8.out (by omega)))
        clear hp hR hg ZL
        obtain ⟨g, cap, e2, hg1, hg2, hg3, hg4⟩ := HF9.out.form hg0
        injection e2 with e2 e3 e4
        subst e2
        subst e4
        clear e3
        have hcl := HF9.out.own_int rfl j hjl
        have hfr := HF9.out.frozen rfl j
        obtain ⟨ho5, hg5⟩ := HF9.out.store1 rfl j z (.int .i64 z) rfl rfl
        have HRG := hid ho5.rowB
        have HRL := hid (HL9.out.keptRow hg5 HF9.out (fun k hk => by have h1 := (HL2.out.lt k hk).2; omega))
        have HBF := hid (HB9.out.setCell (p := ⟨g, j, none⟩) (by show w.heap.size ≤ g; omega) (.int .i64 z))
        clear ho5 hg5
        go_wp2
        exact bodyPost_ret (v := .tuple #[.slice A1 L.length c1, .int .i64 bar, .slice (some ⟨g, 0, none⟩) G.length c2]) (by simp [results, Try.results11, go_sem]) rfl ⟨_, _, L, G.set j z, bar, rfl, HRL.out, HRG.out, hlen, HBD.out, HBA.out, HBF.out⟩
      · have e1 : (x == 0) = false := by simpa using hx
        clear hx
        go_wp2
        exact bodyPost_ret (v := .tuple #[.slice A1 L.length c1, .int .i64 bar, .slice A2 G.length c2]) (by simp [results, Try.results11, go_sem]) rfl ⟨_, _, L, G, bar, rfl, HRL6.out, HRG6.out, hlen, HBD.out, HBA.out, HB6.out⟩
    · have d1 : decide ((0 : Int) < (G.length : Int)) = false := decide_eq_false (by omega)
      have d2 : decide (0 < G.length) = false := decide_eq_false hg0
      go_wp2
      exact bodyPost_ret (v := .tuple #[.slice A1 L.length c1, .int .i64 bar, .slice A2 G.length c2]) (by simp [results, Try.results11, go_sem]) rfl ⟨_, _, L, G, bar, rfl, HRL5.out, HRG5.out, hlen, HBD.out, HBA.out, HB5.out⟩

set_option maxHeartbeats 1600000 in
theorem highest_c (v : Value) (G : List Int) (w : World) (h : Row intE w v G) : Calls Try.prog 14 #[v] w fun e w' => e = .returned (.int .i64 (hik G G.length)) ∧ w = w' := by
  obtain ⟨A1, c1, rfl, hc1, hm1⟩ := h.form
  unfold maxLen at hm1
  have HH := hid h
  clear h
  go_enter Try.func14, Try.ntmps14
  go_wp2
  go_loop [3, 4] (fun o i => ∃ k : Nat, i = .int .i64 k ∧ o = .int .i64 (hik G k) ∧ k ≤ G.length) (fun _ i => G.length - (intOf i).toNat)
  case atStart => exact ⟨0, rfl, rfl, by omega⟩
  case round =>
    obtain ⟨k, rfl, rfl, hk⟩ := hrel
    by_cases hlt : k < G.length
    · obtain ⟨b1, o1, rfl, hb1, hx⟩ := row_cells1 HH.out (by omega)
      have x0 := hx k hlt
      have HE : Hid (hik G (k + 1) = max (hik G k) G[k]) := by rw [Hid, hik, getD_at hlt]
      clear hx
      by_cases hm : hik G k < G[k]
      · have HE2 : Hid (hik G (k + 1) = G[k]) := by rw [Hid, HE.out]; omega
        go_wp2
        go_round
        case rel => exact ⟨k + 1, by go_num, by rw [HE2.out], by omega⟩
        case measure => simp [intOf]; omega
      · have HE2 : Hid (hik G (k + 1) = hik G k) := by rw [Hid, HE.out]; omega
        go_wp2
        go_round
        case rel => exact ⟨k + 1, by go_num, by rw [HE2.out], by omega⟩
        case measure => simp [intOf]; omega
    · have e : k = G.length := by omega
      subst e
      go_wp2
      go_ret
      exact ⟨rfl, rfl⟩

set_option maxHeartbeats 1600000 in
theorem total_c (v : Value) (L : List Int) (w : World) (h : Row intE w v L) (hL : L.length ≤ 1000) (hb : ∀ x ∈ L, 0 ≤ x ∧ x ≤ 1000) : Calls Try.prog 15 #[v] w fun e w' => e = .returned (.int .i64 (sumk L L.length)) ∧ w = w' := by
  obtain ⟨A1, c1, rfl, hc1, hm1⟩ := h.form
  unfold maxLen at hm1
  have HH := hid h
  have HB := hid hb
  clear h hb
  go_enter Try.func15, Try.ntmps15
  go_wp2
  go_loop [3, 4] (fun o i => ∃ k : Nat, i = .int .i64 k ∧ o = .int .i64 (sumk L k) ∧ k ≤ L.length) (fun _ i => L.length - (intOf i).toNat)
  case atStart => exact ⟨0, rfl, rfl, by omega⟩
  case round =>
    obtain ⟨k, rfl, rfl, hk⟩ := hrel
    have hsb := sumk_bd HB.out k hk
    by_cases hlt : k < L.length
    · obtain ⟨b1, o1, rfl, hb1, hx⟩ := row_cells1 HH.out (by omega)
      have x0 := hx k hlt
      have hxb := HB.out _ (List.getElem_mem hlt)
      have HE : Hid (sumk L (k + 1) = sumk L k + L[k]) := by rw [Hid, sumk, getD_at hlt]
      clear hx
      go_wp2
      go_round
      case rel => exact ⟨k + 1, by go_num, by rw [HE.out], by omega⟩
      case measure => simp [intOf]; omega
    · have e : k = L.length := by omega
      subst e
      go_wp2
      go_ret
      exact ⟨rfl, rfl⟩

end Go.Proofs.Ytkckaooimffdpaa
