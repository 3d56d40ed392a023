/-
  Contract: good bars, by the reference.
-/
import Derived.Test.YtkckaooimffdpaaBarS
namespace Go.Proofs.Ytkckaooimffdpaa
set_option linter.unusedSimpArgs false
set_option linter.unusedVariables false
open Go.RowKit

set_option maxHeartbeats 6400000 in
set_option maxRecDepth 100000 in
theorem sgoodBars_c (v1 v3 : Value) (L G : List Int) (bar : Int) (w : World) (h1 : Row intE w v1 L) (h3 : Row intE w v3 G) (hok : BrOk 20 L bar) : Calls Try.prog 33 #[v1, .int .i64 bar, v3] w fun e w' => e = .returned (.bool (gbB L bar G)) ∧ Below w.heap.size w w' := by
  obtain ⟨A1, c1, rfl, hc1, hm1⟩ := h1.form
  obtain ⟨A3, c3, rfl, hc3, hm3⟩ := h3.form
  unfold maxLen at hm1 hm3
  have HH := hid h1
  have HG := hid h3
  have HOKL := hid hok
  clear h1 h3 hok
  go_enter Try.func33, Try.ntmps33
  go_wp2
  go_loop [7] (fun i => ∃ k : Nat, i = .int .i64 k ∧ k ≤ G.length ∧ ∀ j, (hj : j < G.length) → j < k → 0 ≤ G[j] ∧ G[j] ≤ (L.length : Int) - 1) (fun i => G.length - (intOf i).toNat)
  case atStart => exact ⟨0, rfl, by omega, fun j _ h => by omega⟩
  case round =>
    obtain ⟨k, rfl, hk, hok⟩ := hrel
    have HOK := hid hok
    clear hok
    by_cases hlt : k < G.length
    · obtain ⟨b3, o3, rfl, hb3, hx⟩ := row_cells1 HG.out (by omega)
      have x0 := hx k hlt
      clear hx
      by_cases g1 : 0 ≤ G[k] ∧ G[k] ≤ (L.length : Int) - 1
      · have HOK2 : Hid (∀ j, (hj : j < G.length) → j < k + 1 → 0 ≤ G[j] ∧ G[j] ≤ (L.length : Int) - 1) := fun j hj hj2 => by
          by_cases e : j = k
          · subst e; exact g1
          · exact HOK.out j hj (by omega)
        obtain ⟨g2, g3⟩ := g1
        go_wp2_with fail
        refine (inRange_t _ _ _ _ g2 g3).mono ?_; rintro e w3 ⟨rfl, rfl⟩
        go_wp2
        go_round
        case rel => exact ⟨k + 1, by go_num, by omega, HOK2.out⟩
        case measure => simp [intOf]; omega
      · have HF : Hid (gbB L bar G = false) := gbB_not.2 (fun h => g1 (h.2.2.1 _ (List.getElem_mem hlt)))
        have G1 : Hid (G[k] < 0 ∨ (L.length : Int) - 1 < G[k]) := by rw [Hid]; omega
        clear g1
        go_wp2_with fail
        refine (inRange_f _ _ _ _ G1.out).mono ?_; rintro e w3 ⟨rfl, rfl⟩
        go_wp2
        go_ret
        exact ⟨ret_bool HF.out.symm, Below.refl _ _⟩
    · by_cases hl : G.length = L.length
      · have d1 : ((G.length : Int) != (L.length : Int)) = false := by simp [hl]
        have HL := hid hl
        have hL20 := HOKL.out.2.1
        have hLG : L.length ≤ G.length := by omega
        have HGM : Hid (∀ g ∈ G, 0 ≤ g ∧ g ≤ 19) := fun g hg => by
          obtain ⟨j, hj, rfl⟩ := List.getElem_of_mem hg
          have := HOK.out j hj (by omega)
          omega
        have HXM : Hid (∀ x ∈ L, 0 ≤ x ∧ x ≤ 200) := fun x hx => by have h1 := HOKL.out.2.2 x hx; have h2 := HOKL.out.1; omega
        clear hl
        go_wp2_with fail
        refine (sloads_c _ _ L G _ HH.out HG.out hL20 hLG HGM.out HXM.out).mono ?_
        rintro e w2 ⟨v2, rfl, ho, hb⟩
        have hln : (flR L G (nbk G L.length) L.length).length = nbk G L.length := flR_len _ _ _ _
        obtain ⟨S, hS⟩ : ∃ S, S = flR L G (nbk G L.length) L.length := ⟨_, rfl⟩
        have HS := hid hS
        rw [← hS] at ho hln
        have HLN := hid hln
        obtain ⟨A2, c2, rfl, hc2, hm2, -⟩ := ho.shape
        unfold maxLen at hm2
        have HR := hid ho.rowB
        have HB2 := hid hb
        clear ho hb hS hln
        go_wp2
        go_loop [9] (fun i => ∃ k : Nat, i = .int .i64 k ∧ k ≤ S.length ∧ ∀ j, (hj : j < S.length) → j < k → 1 ≤ S[j] ∧ S[j] ≤ bar) (fun i => S.length - (intOf i).toNat)
        case atStart => exact ⟨0, rfl, by omega, fun j _ h => by omega⟩
        case round =>
          obtain ⟨k', rfl, hk', hok2⟩ := hrel
          have HOK2 := hid hok2
          clear hok2
          by_cases hlt2 : k' < S.length
          · obtain ⟨b2, o2, rfl, hb2, hx⟩ := row_cells1 HR.out (by omega)
            have x0 := hx k' hlt2
            have HSK : Hid (S[k'] = ldk L G G.length (k' : Nat)) := by
              have h1 := HS.out
              subst h1
              rw [Hid, flR_at, HL.out]
            have HKN : Hid (k' < nbk G G.length) := by have := HLN.out; rw [Hid, HL.out]; omega
            clear hx
            by_cases g1 : 1 ≤ S[k'] ∧ S[k'] ≤ bar
            · have HOK3 : Hid (∀ j, (hj : j < S.length) → j < k' + 1 → 1 ≤ S[j] ∧ S[j] ≤ bar) := fun j hj hj2 => by
                by_cases e : j = k'
                · subst e; exact g1
                · exact HOK2.out j hj (by omega)
              obtain ⟨g2, g3⟩ := g1
              go_wp2_with fail
              refine (inRange_t _ _ _ _ g2 g3).mono ?_; rintro e w3 ⟨rfl, rfl⟩
              go_wp2
              go_round
              case rel => exact ⟨k' + 1, by go_num, by omega, HOK3.out⟩
              case measure => simp [intOf]; omega
            · have HF : Hid (gbB L bar G = false) := gbB_not.2 (fun h => g1 (by rw [HSK.out]; exact h.2.2.2 k' HKN.out))
              have G1 : Hid (S[k'] < 1 ∨ bar < S[k']) := by rw [Hid]; omega
              clear g1
              go_wp2_with fail
              refine (inRange_f _ _ _ _ G1.out).mono ?_; rintro e w3 ⟨rfl, rfl⟩
              go_wp2
              go_ret
              exact ⟨ret_bool HF.out.symm, HB2.out⟩
          · have HT : Hid (gbB L bar G = true) := gbB_iff.2 ⟨HOKL.out, HL.out, fun g hg => by
                obtain ⟨i, hi, rfl⟩ := List.getElem_of_mem hg
                exact HOK.out i hi (by omega), fun q hq => by
                have h1 := HLN.out
                rw [← HL.out] at h1
                have h2 := HOK2.out q (by omega) (by omega)
                have h3 : S[q]'(by omega) = ldk L G G.length (q : Nat) := by
                  have h4 := HS.out
                  subst h4
                  rw [flR_at, HL.out]
                rw [h3] at h2
                exact h2⟩
            go_wp2
            go_ret
            exact ⟨ret_bool HT.out.symm, HB2.out⟩
      · have d1 : ((G.length : Int) != (L.length : Int)) = true := by rw [bne_iff_ne]; omega
        have HF : Hid (gbB L bar G = false) := gbB_not.2 (fun h => hl h.2.1)
        clear hl
        go_wp2
        go_ret
        exact ⟨ret_bool HF.out.symm, Below.refl _ _⟩

set_option maxHeartbeats 3200000 in
theorem sGoodBars_c (v1 v3 : Value) (L G : List Int) (bar : Int) (w : World) (h1 : Row intE w v1 L) (h3 : Row intE w v3 G) : Calls Try.prog 13 #[v1, .int .i64 bar, v3] w fun e w' => e = .returned (.bool (gbB L bar G)) ∧ Below w.heap.size w w' := by
  obtain ⟨A1, c1, rfl, hc1, hm1⟩ := h1.form
  obtain ⟨A3, c3, rfl, hc3, hm3⟩ := h3.form
  have HH := hid h1
  have HG := hid h3
  clear h1 h3
  go_enter Try.func13, Try.ntmps13
  go_wp2_with fail
  refine (svalidBars_c _ L bar _ HH.out).mono ?_
  rintro e w1 ⟨rfl, rfl⟩
  cases hb : brB 20 L bar with
  | false =>
    have HF : Hid (gbB L bar G = false) := gbB_not.2 (fun h => brB_not.1 hb h.1)
    clear hb
    go_wp2
    go_ret
    exact ⟨ret_bool HF.out.symm, Below.refl _ _⟩
  | true =>
    have HB := hid (brB_iff.1 hb)
    clear hb
    go_wp2_with fail
    refine (sgoodBars_c _ _ L G bar _ HH.out HG.out HB.out).mono ?_
    rintro e w2 ⟨rfl, hb⟩
    have HB2 := hid hb
    clear hb
    go_wp2
    go_ret
    exact ⟨rfl, HB2.out⟩

end Go.Proofs.Ytkckaooimffdpaa
