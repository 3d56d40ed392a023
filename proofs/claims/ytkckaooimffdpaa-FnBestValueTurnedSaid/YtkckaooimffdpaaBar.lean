/-
  Contracts: lengths for bars and good bars, by the program.
-/
import Derived.Test.YtkckaooimffdpaaBarP
import Derived.Test.YtkckaooimffdpaaInts
import Derived.Test.YtkckaooimffdpaaRange
import Derived.Test.YtkckaooimffdpaaBlk
import Derived.StillTailTactics
import Derived.Deep.DeepCutAuto
namespace Go.Proofs.Ytkckaooimffdpaa
set_option linter.unusedSimpArgs false
set_option linter.unusedVariables false
open Go.RowKit

set_option maxHeartbeats 3200000 in
set_option maxRecDepth 100000 in
theorem barLengths_c (v : Value) (L : List Int) (bar : Int) (most : Nat) (w : World) (h : Row intE w v L) (hmost : most ≤ 1000) : Calls Try.prog 23 #[v, .int .i64 bar, .int .i64 most] w fun e w' => e = .returned (.bool (brB most L bar)) ∧ w = w' := by
  obtain ⟨A1, c1, rfl, hc1, hm1⟩ := h.form
  unfold maxLen at hm1
  have HH := hid h
  clear h
  by_cases h1 : bar < 1
  · have HF : Hid (brB most L bar = false) := brB_not.2 (fun h => by have := h.1.1; omega)
    go_enter Try.func23, Try.ntmps23
    go_wp2
    go_ret
    exact ⟨ret_bool HF.out.symm, rfl⟩
  · by_cases h2 : 200 < bar
    · have HF : Hid (brB most L bar = false) := brB_not.2 (fun h => by have := h.1.2; omega)
      go_enter Try.func23, Try.ntmps23
      go_wp2
      go_ret
      exact ⟨ret_bool HF.out.symm, rfl⟩
    · by_cases h3 : most < L.length
      · have HF : Hid (brB most L bar = false) := brB_not.2 (fun h => by have := h.2.1; omega)
        have d3 : decide ((most : Int) < (L.length : Int)) = true := decide_eq_true (by omega)
        have d4 : decide (most < L.length) = true := decide_eq_true h3
        clear h3
        go_enter Try.func23, Try.ntmps23
        go_wp2
        go_ret
        exact ⟨ret_bool HF.out.symm, rfl⟩
      · have d3 : decide ((most : Int) < (L.length : Int)) = false := decide_eq_false (by omega)
        have d4 : decide (most < L.length) = false := decide_eq_false h3
        have H3 := hid h3
        clear h3
        go_enter Try.func23, Try.ntmps23
        go_wp2
        go_loop [23] (fun i => ∃ k : Nat, i = .int .i64 k ∧ k ≤ L.length ∧ ∀ j, (hj : j < L.length) → j < k → 1 ≤ L[j] ∧ L[j] ≤ bar) (fun i => L.length - (intOf i).toNat)
        case atStart => exact ⟨0, rfl, by omega, fun j _ h => by omega⟩
        case round =>
          obtain ⟨k, rfl, hk, hok⟩ := hrel
          have HOK := hid hok
          clear hok
          by_cases hlt : k < L.length
          · obtain ⟨b1, o1, rfl, hb1, hx⟩ := row_cells1 HH.out (by omega)
            have x0 := hx k hlt
            clear hx
            by_cases g1 : L[k] < 1
            · have HF : Hid (brB most L bar = false) := brB_not.2 (fun h => by have := (h.2.2 _ (List.getElem_mem hlt)).1; omega)
              go_wp2
              go_ret
              exact ⟨ret_bool HF.out.symm, rfl⟩
            · by_cases g2 : bar < L[k]
              · have HF : Hid (brB most L bar = false) := brB_not.2 (fun h => by have := (h.2.2 _ (List.getElem_mem hlt)).2; omega)
                go_wp2
                go_ret
                exact ⟨ret_bool HF.out.symm, rfl⟩
              · have HOK2 : Hid (∀ j, (hj : j < L.length) → j < k + 1 → 1 ≤ L[j] ∧ L[j] ≤ bar) := fun j hj hj2 => by
                  by_cases e : j = k
                  · subst e; omega
                  · exact HOK.out j hj (by omega)
                go_wp2
                go_round
                case rel => exact ⟨k + 1, by go_num, by omega, HOK2.out⟩
                case measure => simp [intOf]; omega
          · have HT : Hid (brB most L bar = true) := brB_iff.2 ⟨by omega, by have := H3.out; omega, fun x hx => by
              obtain ⟨j, hj, rfl⟩ := List.getElem_of_mem hx
              exact HOK.out j hj (by omega)⟩
            go_wp2
            go_ret
            exact ⟨ret_bool HT.out.symm, rfl⟩

set_option maxHeartbeats 12800000 in
set_option maxRecDepth 100000 in
theorem GoodBars_c (v1 v3 : Value) (L G : List Int) (bar : Int) (w : World) (h1 : Row intE w v1 L) (h3 : Row intE w v3 G) : Calls Try.prog 12 #[v1, .int .i64 bar, v3] w fun e w' => e = .returned (.bool (gbB L bar G)) ∧ Below w.heap.size w w' := by
  obtain ⟨i0, hi0, hz0, hz1, hz2⟩ := info_parts int_info
  obtain ⟨A1, c1, rfl, hc1, hm1⟩ := h1.form
  obtain ⟨A3, c3, rfl, hc3, hm3⟩ := h3.form
  unfold maxLen at hm1 hm3
  have HH := hid h1
  have HG := hid h3
  clear h1 h3
  go_enter Try.func12, Try.ntmps12
  go_wp2_with fail
  refine (barLengths_c _ L bar 20 _ HH.out (by omega)).mono ?_
  rintro e w1 ⟨rfl, rfl⟩
  cases hb : brB 20 L bar with
  | false =>
    have HF : Hid (gbB L bar G = false) := gbB_not.2 (fun h => brB_not.1 hb h.1)
    clear hb
    go_wp2
    go_ret
    exact ⟨ret_bool HF.out.symm, Below.refl _ _⟩
  | true =>
    have HB := hid (brB_iff.1 hb)
    clear hb
    by_cases hl : G.length = L.length
    · have d1 : ((G.length : Int) != (L.length : Int)) = false := by simp [hl]
      have HL := hid hl
      have hn20 : G.length ≤ 20 := by have := HB.out.2.1; omega
      have hmem : ∀ x ∈ L, 0 ≤ x ∧ x ≤ 200 := fun x hx => by have h1 := HB.out.2.2 x hx; have h2 := HB.out.1; omega
      have HM := hid hmem
      clear hl hmem
      go_wp2_with (at_make; refine wpList_mk intE _ rfl _ _ 23 rfl w.heap.size 3 i0 _ 0 8 Try.underlying23 hi0 hz0 hz1 hz2 rfl _ _ _ _ G.length rfl rfl rfl rfl (by omega) (by omega) (Nat.le_refl _) ?_)
      intro w2 hown hgr hlt2
      have HB2 := hid ((Below.refl _ _).grown hgr (Nat.le_refl _) (by simp) : Below w.heap.size w w2)
      have HO2 := hid (show Own intE 3 w.heap.size w2 (.slice (some ⟨w.heap.size, 0, none⟩) G.length G.length) (flR L G G.length 0) by rw [flR_zero]; exact hown)
      clear hown hgr
      go_wp2
      go_loopw [8, 29] (fun g i wr => ∃ k : Nat, i = .int .i64 k ∧ g = .int .i64 (mxk G k) ∧ k ≤ G.length ∧ (∀ j, (hj : j < G.length) → j < k → 0 ≤ G[j] ∧ G[j] ≤ (L.length : Int) - 1) ∧ Own intE 3 w.heap.size wr (.slice (some ⟨w.heap.size, 0, none⟩) G.length G.length) (flR L G G.length k) ∧ Below w.heap.size w wr) (fun _ i _ => G.length - (intOf i).toNat)
      case atStart => exact ⟨0, rfl, rfl, by omega, fun j _ h => by omega, HO2.out, HB2.out⟩
      case round =>
        obtain ⟨k, rfl, rfl, hk, hok, ho, hb⟩ := hrel
        have HOK := hid hok
        have HO := hid ho
        have HBr := hid hb
        have hsz := hb.size
        have hmlo := mxk_lo G k
        have hmhi : mxk G k < 21 := mxk_hi (by omega) k (fun i hi => by rw [getD_at (show i < G.length by omega)]; have h1 := HOK.out i (by omega) hi; have h2 := HL.out; omega)
        clear hok ho
        by_cases hlt : k < G.length
        · have hlL : k < L.length := by have := HL.out; omega
          obtain ⟨b3, o3, rfl, hb3, hx3⟩ := row_cells1 (HG.out.below hb) (by omega)
          have y0 := hx3 k hlt
          obtain ⟨b1, o1, rfl, hb1, hx1⟩ := row_cells1 (HH.out.below hb) (by omega)
          have x0 := hx1 k hlL
          clear hx1 hx3 hb
          by_cases hr : 0 ≤ G[k] ∧ G[k] ≤ (L.length : Int) - 1
          · obtain ⟨m, hm⟩ := Int.eq_ofNat_of_zero_le hr.1
            have hmG : m < G.length := by have := HL.out; omega
            have HMG : Hid (G.getD k 0 = (m : Int)) := by rw [Hid, getD_at hlt]; exact hm
            have HOK2 : Hid (∀ j, (hj : j < G.length) → j < k + 1 → 0 ≤ G[j] ∧ G[j] ≤ (L.length : Int) - 1) := fun j hj hj2 => by
              by_cases e : j = k
              · subst e; exact hr
              · exact HOK.out j hj (by omega)
            rw [hm] at y0
            have hbd := ldk_bd (G := G) HM.out (by omega) (m : Int) k
            have hLk := HM.out _ (List.getElem_mem hlL)
            have HSET := hid (flR_set (L := L) (m := G.length) HMG.out)
            have HMX : Hid (mxk G (k + 1) = max (mxk G k) (m : Int)) := by rw [Hid, mxk, HMG.out]
            have hcl := HO.out.own_int (flR_len _ _ _ _).symm m (by rw [flR_len]; exact hmG)
            rw [flR_at] at hcl
            have hfr := HO.out.frozen (flR_len _ _ _ _).symm m
            obtain ⟨u, hu⟩ : ∃ u, u = ldk L G k (m : Int) := ⟨_, rfl⟩
            rw [← hu] at hcl hbd HSET
            obtain ⟨x, hx⟩ : ∃ x, x = L[k] := ⟨_, rfl⟩
            rw [getD_at hlL, ← hx] at HSET
            rw [← hx] at x0 hLk
            have hw1 : IntKind.i64.wrap (u + x) = u + x := IntWalk.i64_in _ (by omega)
            have hs1 : w.heap.size < wr.heap.size := by obtain ⟨g', cap', e1, -, e2, -⟩ := HO.out.form (by rw [flR_len]; omega); injection e1 with e1; injection e1 with e1; injection e1 with e1; omega
            clear hu hx hm hr
            go_upto_region 10 with (fail)
            go_still_tail 10, (by kernel_rfl)
            obtain ⟨W3, hW3⟩ : ∃ Z : World, Z = ({ heap := wr.heap, tape := wr.tape, drawn := wr.drawn + 1, os := wr.os, output := wr.output } : World) := ⟨_, rfl⟩
            have hb3 : Below w.heap.size w W3 := by rw [hW3]; exact HBr.out.drew
            have ho3 : Own intE 3 w.heap.size W3 (.slice (some ⟨w.heap.size, 0, none⟩) G.length G.length) (flR L G G.length k) := by rw [hW3]; exact HO.out.dr (Dr.refl _).one
            have hcl3 : W3.cell? ⟨w.heap.size, m, none⟩ = some (.int .i64 u) := by rw [hW3]; exact hcl
            have hfr3 : W3.frozen? ⟨w.heap.size, m, none⟩ = false := by rw [hW3]; exact hfr
            have hs3 : w.heap.size < W3.heap.size := by rw [hW3]; exact hs1
            rw [← hW3]
            obtain ⟨ho4, hg4⟩ := ho3.store1 rfl m (u + x) (.int .i64 (u + x)) rfl (flR_len _ _ _ _).symm
            rw [HSET.out] at ho4
            have HO4 := hid ho4
            have HB4 := hid (hb3.setCell (p := ⟨w.heap.size, m, none⟩) (Nat.le_refl _) (.int .i64 (u + x)))
            clear hW3 hb3 ho3 ho4 hg4 hcl hfr x0 y0 hw1
            by_cases hmx : mxk G k < (m : Int)
            · have HM2 : Hid (mxk G (k + 1) = (m : Int)) := by rw [Hid, HMX.out]; omega
              go_wp2
              exact ⟨⟨k + 1, by go_num, by rw [HM2.out], by omega, HOK2.out, HO4.out, HB4.out⟩, by simp [intOf]; omega⟩
            · have HM2 : Hid (mxk G (k + 1) = mxk G k) := by rw [Hid, HMX.out]; omega
              go_wp2
              exact ⟨⟨k + 1, by go_num, by rw [HM2.out], by omega, HOK2.out, HO4.out, HB4.out⟩, by simp [intOf]; omega⟩
          · have HF : Hid (gbB L bar G = false) := gbB_not.2 (fun h => hr (h.2.2.1 _ (List.getElem_mem hlt)))
            have HL' := HL.out
            by_cases g1 : G[k] < 0
            · clear hr HL'
              go_wp2
              go_ret
              exact ⟨ret_bool HF.out.symm, HBr.out⟩
            · have g2 : (G.length : Int) ≤ G[k] := by omega
              clear hr HL'
              go_wp2
              go_ret
              exact ⟨ret_bool HF.out.symm, HBr.out⟩
        · have e : k = G.length := by omega
          subst e
          have hnb := nbk_eq G G.length
          obtain ⟨nb, hnb2⟩ : ∃ q, q = nbk G G.length := ⟨_, rfl⟩
          rw [← hnb2] at hnb
          have hmx : mxk G G.length = (nb : Int) - 1 := by omega
          have hnbl : nb ≤ G.length := by
            have : mxk G G.length < (G.length : Int) := mxk_hi (by omega) _ (fun i hi => by rw [getD_at hi]; have h1 := HOK.out i hi hi; have h2 := HL.out; omega)
            omega
          have hcl : ∀ j, j < G.length → wr.cell? ⟨w.heap.size, j, none⟩ = some (.int .i64 (ldk L G G.length (j : Nat))) := fun j hj => by
            have := HO.out.own_int (flR_len _ _ _ _).symm j (by rw [flR_len]; exact hj)
            rw [flR_at] at this
            exact this
          have HCL := hid hcl
          have HNB := hid hnb2
          rw [hmx]
          clear hnb hnb2 hmx hcl hmlo hmhi hb hlt hk
          go_wp2
          go_loop [61] (fun i => ∃ j : Nat, i = .int .i64 j ∧ j ≤ nb ∧ ∀ q, q < j → 1 ≤ ldk L G G.length (q : Nat) ∧ ldk L G G.length (q : Nat) ≤ bar) (fun i => nb - (intOf i).toNat)
          case atStart => exact ⟨0, rfl, by omega, fun q h => by omega⟩
          case round =>
            obtain ⟨j, rfl, hj, hok2⟩ := hrel
            have HOK2 := hid hok2
            clear hok2
            by_cases hjl : j < nb
            · have x0 := HCL.out j (by omega)
              have hbd := ldk_bd (G := G) HM.out (by omega) (j : Nat) G.length
              obtain ⟨u, hu⟩ : ∃ u, u = ldk L G G.length (j : Nat) := ⟨_, rfl⟩
              have HU := hid hu
              rw [← hu] at x0 hbd
              clear hu
              by_cases g0 : u = 0
              · have e0 : (u == 0) = true := by simpa using g0
                have HF : Hid (gbB L bar G = false) := gbB_not.2 (fun h => by have := (h.2.2.2 j (by rw [← HNB.out]; exact hjl)).1; rw [← HU.out] at this; omega)
                clear g0
                go_wp2
                go_ret
                exact ⟨ret_bool HF.out.symm, HBr.out⟩
              · have e0 : (u == 0) = false := by simpa using g0
                by_cases g1 : bar < u
                · have d2 : decide (bar < u) = true := decide_eq_true g1
                  have HF : Hid (gbB L bar G = false) := gbB_not.2 (fun h => by have := (h.2.2.2 j (by rw [← HNB.out]; exact hjl)).2; rw [← HU.out] at this; omega)
                  clear g0
                  go_wp2
                  go_ret
                  exact ⟨ret_bool HF.out.symm, HBr.out⟩
                · have d2 : decide (bar < u) = false := decide_eq_false g1
                  have HOK3 : Hid (∀ q, q < j + 1 → 1 ≤ ldk L G G.length (q : Nat) ∧ ldk L G G.length (q : Nat) ≤ bar) := fun q hq => by
                    by_cases e : q = j
                    · subst e; rw [← HU.out]; omega
                    · exact HOK2.out q (by omega)
                  clear g0
                  go_wp2
                  go_round
                  case rel => exact ⟨j + 1, by go_num, by omega, HOK3.out⟩
                  case measure => simp [intOf]; omega
            · have HT : Hid (gbB L bar G = true) := gbB_iff.2 ⟨HB.out, HL.out, fun g hg => by
                obtain ⟨i, hi, rfl⟩ := List.getElem_of_mem hg
                exact HOK.out i hi hi, fun q hq => HOK2.out q (by rw [← HNB.out] at hq; omega)⟩
              go_wp2
              go_ret
              exact ⟨ret_bool HT.out.symm, HBr.out⟩
    · have d1 : ((G.length : Int) != (L.length : Int)) = true := by rw [bne_iff_ne]; omega
      have HF : Hid (gbB L bar G = false) := gbB_not.2 (fun h => hl h.2.1)
      clear hl
      go_wp2
      go_ret
      exact ⟨ret_bool HF.out.symm, Below.refl _ _⟩

end Go.Proofs.Ytkckaooimffdpaa
