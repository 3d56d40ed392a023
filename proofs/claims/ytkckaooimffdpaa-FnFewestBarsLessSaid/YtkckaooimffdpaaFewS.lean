/-
  Contract: the least number of bars of every set, by the reference.
-/
import Derived.Test.YtkckaooimffdpaaFewW
namespace Go.Proofs.Ytkckaooimffdpaa
set_option linter.unusedSimpArgs false
set_option linter.unusedVariables false
open Go.RowKit

noncomputable def fLZ (L : List Int) (bar : Int) (t : Nat) : Int := (fL L bar t : Int)
def smZ (L : List Int) (t : Nat) : Int := sm L t L.length
theorem own_other {e : TypeId} {base g g2 n2 c2 : Nat} {w w' : World} {M : List Int} (h : Own intE e base w (.slice (some ⟨g2, 0, none⟩) n2 c2) M) (hg : w.grownBy w' (some g)) (hne : g2 ≠ g) : Own intE e base w' (.slice (some ⟨g2, 0, none⟩) n2 c2) M := h.kept hg (.inr (by intro e; injection e with e; exact hne e))
theorem curS_skip' {L : List Int} {bar : Int} {s g : Nat} {x : Int} (h0 : 0 < g) (h : CurS L bar s g x) (hn : ¬ (g &&& s = g ∧ sm L g L.length ≤ bar)) : CurS L bar s (g - 1) x := by
  obtain ⟨q, rfl⟩ : ∃ q, g = q + 1 := ⟨g - 1, by omega⟩
  exact curS_skip h hn
theorem curS_take' {L : List Int} {bar : Int} {s g : Nat} {x : Int} (h0 : 0 < g) (h : CurS L bar s g x) (hn : g &&& s = g ∧ sm L g L.length ≤ bar) : CurS L bar s (g - 1) (min x (1 + fLZ L bar (s - g))) := by
  obtain ⟨q, rfl⟩ : ∃ q, g = q + 1 := ⟨g - 1, by omega⟩
  exact curS_take h hn
def FewOut (L : List Int) (bar : Int) (w : World) (e : Ending) (w' : World) : Prop := ∃ v, e = .returned v ∧ Own intE 3 w.heap.size w' v (tb (fLZ L bar) (2 ^ L.length) (2 ^ L.length) 0) ∧ Below w.heap.size w w'

set_option maxHeartbeats 12800000 in
set_option maxRecDepth 100000 in
theorem sfewest_c (v : Value) (L : List Int) (bar : Int) (w : World) (h : Row intE w v L) (hok : BrOk 7 L bar) : Calls Try.prog 28 #[v, .int .i64 bar] w (FewOut L bar w) := by
  obtain ⟨i0, hi0, hz0, hz1, hz2⟩ := info_parts int_info
  obtain ⟨A1, c1, rfl, hc1, hm1⟩ := h.form
  unfold maxLen at hm1
  have HH := hid h
  have hL7 := hok.2.1
  have hb0 : 1 ≤ bar ∧ bar ≤ 200 := hok.1
  have HOK : Hid (∀ x ∈ L, 0 ≤ x ∧ x ≤ bar) := fun x hx => by have := hok.2.2 x hx; omega
  clear h hok
  go_enter Try.func28, Try.ntmps28
  go_wp2_with fail
  refine (spower_c L.length _ hL7).mono ?_
  rintro e w1 ⟨rfl, rfl⟩
  have hN1 := pow_ge1 L.length
  have hN2 := pow_le7 hL7
  obtain ⟨N, hN⟩ : ∃ N, N = 2 ^ L.length := ⟨_, rfl⟩
  have HN := hid hN
  rw [← hN] at hN1 hN2 ⊢
  clear hN
  go_wp2_with (at_make; refine wpList_mk intE _ rfl _ _ 23 rfl w.heap.size 3 i0 _ 0 8 Try.underlying23 hi0 hz0 hz1 hz2 rfl _ _ _ _ N rfl rfl rfl rfl (by omega) (by omega) (Nat.le_refl _) ?_)
  intro w2 hown hgr hlt2
  have HB2 := hid ((Below.refl _ _).grown hgr (Nat.le_refl _) (by simp) : Below w.heap.size w w2)
  have HS2 := hid (show Own intE 3 w.heap.size w2 (.slice (some ⟨w.heap.size, 0, none⟩) N N) (tb (smZ L) N 1 0) by rw [← tb_start (f := smZ L) N (sm_zero L _)]; exact hown)
  have hs2 := HB2.out.size
  clear hown hgr
  go_wp2_with (at_make; refine wpList_mk intE _ rfl _ _ 23 rfl w.heap.size 3 i0 _ 0 8 Try.underlying23 hi0 hz0 hz1 hz2 rfl _ _ _ _ N rfl rfl rfl rfl (by omega) (by omega) hs2 ?_)
  intro w3 hown hgr hlt3
  have HB3 := hid (HB2.out.grown hgr hs2 (by simp) : Below w.heap.size w w3)
  have HF3 := hid (show Own intE 3 w.heap.size w3 (.slice (some ⟨w2.heap.size, 0, none⟩) N N) (tb (fLZ L bar) N 1 0) by rw [← tb_start (f := fLZ L bar) N (by unfold fLZ; rw [fL_zero HOK.out (by omega)]; rfl)]; exact hown)
  have HS3 := hid (HS2.out.kept hgr (.inr (by simp [Value.ownBlock])))
  obtain ⟨B2, hB2⟩ : ∃ b, b = w2.heap.size := ⟨_, rfl⟩
  rw [← hB2] at hlt2 hlt3 HF3 ⊢
  clear hown hgr hs2 HB2 HS2 hB2
  clear w2
  go_wp2
  go_loopw [8] (fun i wr => ∃ s : Nat, i = .int .i64 (s : Nat) ∧ 1 ≤ s ∧ s ≤ N ∧ Own intE 3 w.heap.size wr (.slice (some ⟨w.heap.size, 0, none⟩) N N) (tb (smZ L) N s 0) ∧ Own intE 3 w.heap.size wr (.slice (some ⟨B2, 0, none⟩) N N) (tb (fLZ L bar) N s 0) ∧ Below w.heap.size w wr) (fun i _ => N - (intOf i).toNat)
  case atStart => exact ⟨1, rfl, by omega, by omega, HS3.out, HF3.out, HB3.out⟩
  case round =>
    obtain ⟨s, rfl, hs1, hsN, ho1, ho2, hb⟩ := hrel
    have HS := hid ho1
    have HF := hid ho2
    have HBr := hid hb
    clear ho1 ho2 hb
    by_cases hlt : s < N
    · obtain ⟨wo, rfl⟩ : ∃ wo : World, wo = wr := ⟨_, rfl⟩
      go_wp2
      go_loopw [9] (fun i wr => ∃ k : Nat, i = .int .i64 (k : Nat) ∧ k ≤ L.length ∧ Own intE 3 w.heap.size wr (.slice (some ⟨w.heap.size, 0, none⟩) N N) (tb (smZ L) N s (sm L s k)) ∧ Own intE 3 w.heap.size wr (.slice (some ⟨B2, 0, none⟩) N N) (tb (fLZ L bar) N s 0) ∧ Below w.heap.size w wr) (fun i _ => L.length - (intOf i).toNat)
      case atStart => exact ⟨0, rfl, by omega, HS.out, HF.out, HBr.out⟩
      case round =>
        obtain ⟨k, rfl, hk, ho1, ho2, hb⟩ := hrel
        have HSi := hid ho1
        have HFi := hid ho2
        have HBi := hid hb
        clear ho1 ho2 hb
        by_cases hltk : k < L.length
        · go_wp2_with fail
          refine (shas_c s k _ (by omega) (by omega)).mono ?_
          rintro e w5 ⟨rfl, rfl⟩
          cases ht : s.testBit k with
          | false =>
            have HE : Hid (sm L s (k + 1) = sm L s k) := by rw [Hid, sm, ht]; simp
            clear ht
            go_wp2
            go_roundw
            case rel => exact ⟨k + 1, by go_num, by omega, by rw [HE.out]; exact HSi.out, HFi.out, HBi.out⟩
            case measure => simp [intOf]; omega
          | true =>
            obtain ⟨b1, o1, rfl, hb1, hx⟩ := row_cells1 (HH.out.below HBi.out) (by omega)
            have x0 := hx k hltk
            clear hx
            have hbd := sm_bd HOK.out (by omega) s k
            have hbk : bar * k ≤ 200 * 7 := Int.mul_le_mul (by omega) (by omega) (by omega) (by omega)
            have hxb := HOK.out _ (List.getElem_mem hltk)
            have HE : Hid (sm L s (k + 1) = sm L s k + L[k]) := by rw [Hid, sm, ht, getD_at hltk]; simp
            have hcl := HSi.out.own_int (tb_len _ _ _ _).symm s (by rw [tb_len]; exact hlt)
            rw [tb_at, if_neg (by omega), if_pos rfl] at hcl
            have hfr := HSi.out.frozen (tb_len _ _ _ _).symm s
            obtain ⟨u, hu⟩ : ∃ u, u = sm L s k := ⟨_, rfl⟩
            obtain ⟨x, hx⟩ : ∃ x, x = L[k] := ⟨_, rfl⟩
            rw [← hu] at hbd hcl HSi
            rw [← hx] at x0 hxb
            have HE2 : Hid (sm L s (k + 1) = u + x) := by rw [Hid, HE.out, hu, hx]
            have hw1 : IntKind.i64.wrap (u + x) = u + x := IntWalk.i64_in _ (by omega)
            have hw2 : IntKind.i64.wrap (x + u) = x + u := IntWalk.i64_in _ (by omega)
            clear hu hx HE ht hbk
            go_upto_region 11 with (fail)
            go_still_tail 12, (by kernel_rfl)
            obtain ⟨W3, hW3⟩ : ∃ Z : World, Z = ({ heap := wr.heap, tape := wr.tape, drawn := wr.drawn + 1, os := wr.os, output := wr.output } : World) := ⟨_, rfl⟩
            have hb3 : Below w.heap.size w W3 := by rw [hW3]; exact HBi.out.drew
            have ho3 : Own intE 3 w.heap.size W3 (.slice (some ⟨w.heap.size, 0, none⟩) N N) (tb (smZ L) N s u) := by rw [hW3]; exact HSi.out.dr (Dr.refl _).one
            have hf3 : Own intE 3 w.heap.size W3 (.slice (some ⟨B2, 0, none⟩) N N) (tb (fLZ L bar) N s 0) := by rw [hW3]; exact HFi.out.dr (Dr.refl _).one
            have hcl3 : W3.cell? ⟨w.heap.size, s, none⟩ = some (.int .i64 u) := by rw [hW3]; exact hcl
            have hfr3 : W3.frozen? ⟨w.heap.size, s, none⟩ = false := by rw [hW3]; exact hfr
            rw [← hW3]
            obtain ⟨ho4, hg4⟩ := ho3.store1 rfl s (u + x) (.int .i64 (u + x)) rfl (tb_len _ _ _ _).symm
            rw [tb_set] at ho4
            have HS4 := hid ho4
            have HF4 := hid (own_other hf3 hg4 (by omega))
            have HB4 := hid (hb3.setCell (p := ⟨w.heap.size, s, none⟩) (Nat.le_refl _) (.int .i64 (u + x)))
            clear hW3 hb3 ho3 hf3 ho4 hg4 hcl hfr x0 hw1 hw2
            go_wp2
            exact ⟨⟨k + 1, by go_num, by omega, by rw [HE2.out]; exact HS4.out, HF4.out, HB4.out⟩, by simp [intOf]; omega⟩
        · have e : k = L.length := by omega
          subst e
          have HSn := hid (show Own intE 3 w.heap.size wr (.slice (some ⟨w.heap.size, 0, none⟩) N N) (tb (smZ L) N (s + 1) 0) by rw [← tb_next]; exact HSi.out)
          have hcl := HFi.out.own_int (tb_len _ _ _ _).symm s (by rw [tb_len]; exact hlt)
          rw [tb_at, if_neg (by omega), if_pos rfl] at hcl
          have hfr := HFi.out.frozen (tb_len _ _ _ _).symm s
          have hw1 : IntKind.i64.wrap ((L.length : Int) + 1) = (L.length : Int) + 1 := IntWalk.i64_in _ (by omega)
          have HN' := HN.out
          obtain ⟨ho4, hg4⟩ := HFi.out.store1 rfl s ((L.length : Int) + 1) (.int .i64 ((L.length : Int) + 1)) rfl (tb_len _ _ _ _).symm
          rw [tb_set] at ho4
          have HF4 := hid ho4
          have HS4 := hid (own_other HSn.out hg4 (by omega))
          have HB4 := hid (HBi.out.setCell (p := ⟨B2, s, none⟩) (by show w.heap.size ≤ B2; omega) (.int .i64 ((L.length : Int) + 1)))
          clear HN' ho4 hg4 HSn HSi HFi HBi
          go_wp2
          obtain ⟨wp, rfl⟩ : ∃ wp : World, wp = wr := ⟨_, rfl⟩
          go_loopw [10] (fun i wr => ∃ (g : Nat) (x : Int), i = .int .i64 (g : Nat) ∧ g ≤ s ∧ CurS L bar s g x ∧ Own intE 3 w.heap.size wr (.slice (some ⟨w.heap.size, 0, none⟩) N N) (tb (smZ L) N (s + 1) 0) ∧ Own intE 3 w.heap.size wr (.slice (some ⟨B2, 0, none⟩) N N) (tb (fLZ L bar) N s x) ∧ Below w.heap.size w wr) (fun i _ => (intOf i).toNat)
          case atStart => exact ⟨s, _, rfl, Nat.le_refl _, curS_start L bar s, HS4.out, HF4.out, HB4.out⟩
          case round =>
            obtain ⟨g, x, rfl, hg, hcu, ho1, ho2, hb⟩ := hrel
            have HCU := hid hcu
            have HSi := hid ho1
            have HFi := hid ho2
            have HBi := hid hb
            clear ho1 ho2 hb hcu hcl hfr
            by_cases hg0 : 0 < g
            · go_wp2_with fail
              refine (sinside_c g s _ (by omega) (by omega)).mono ?_
              rintro e w5 ⟨rfl, rfl⟩
              cases hin : decide (g &&& s = g) with
              | false =>
                have HC := hid (curS_skip' hg0 HCU.out (fun h => by rw [decide_eq_true h.1] at hin; cases hin))
                clear hin
                go_wp2
                exact ⟨⟨g - 1, x, by go_num, by omega, HC.out, HSi.out, HFi.out, HBi.out⟩, by simp [intOf]; omega⟩
              | true =>
                have HIN := hid (of_decide_eq_true hin)
                have hcl := HSi.out.own_int (tb_len _ _ _ _).symm g (by rw [tb_len]; omega)
                rw [tb_at, if_pos (by omega)] at hcl
                have HSM : Hid (smZ L g = sm L g L.length) := rfl
                obtain ⟨u, hu⟩ : ∃ u, u = smZ L g := ⟨_, rfl⟩
                have HU := hid hu
                rw [← hu] at hcl
                clear hu hin
                by_cases hle : u ≤ bar
                · have hd1 : decide (u ≤ bar) = true := decide_eq_true hle
                  have HC := hid (curS_take' hg0 HCU.out ⟨HIN.out, by rw [← HSM.out, ← HU.out]; exact hle⟩)
                  have hxb := curS_bd HOK.out (by omega) HCU.out
                  have hc2 := HFi.out.own_int (tb_len _ _ _ _).symm s (by rw [tb_len]; omega)
                  rw [tb_at, if_neg (by omega), if_pos rfl] at hc2
                  have hc3 := HFi.out.own_int (tb_len _ _ _ _).symm (s - g) (by rw [tb_len]; omega)
                  rw [tb_at, if_pos (by omega)] at hc3
                  have hfr := HFi.out.frozen (tb_len _ _ _ _).symm s
                  have hfb : 0 ≤ fLZ L bar (s - g) ∧ fLZ L bar (s - g) ≤ 7 := by have := fL_le HOK.out (by omega) (s - g); unfold fLZ; omega
                  obtain ⟨d, hd⟩ : ∃ d, d = s - g := ⟨_, rfl⟩
                  obtain ⟨y, hy⟩ : ∃ y, y = fLZ L bar (s - g) := ⟨_, rfl⟩
                  rw [← hy] at hc3 hfb HC
                  rw [← hd] at hc3
                  have hw0 : IntKind.i64.wrap ((s : Int) - (g : Int)) = (d : Int) := by rw [IntWalk.i64_in _ (by omega)]; omega
                  have hdN : d < N := by omega
                  have hw1 : IntKind.i64.wrap (1 + y) = 1 + y := IntWalk.i64_in _ (by omega)
                  have HMIN : Hid (min x (1 + y) = if 1 + y < x then 1 + y else x) := by rw [Hid]; split <;> omega
                  clear hle hy hd
                  go_upto_region 17 with (fail)
                  go_still_tail 15, (by kernel_rfl)
                  obtain ⟨W3, hW3⟩ : ∃ Z : World, Z = ({ heap := wr.heap, tape := wr.tape, drawn := wr.drawn + 1, os := wr.os, output := wr.output } : World) := ⟨_, rfl⟩
                  have hb3 : Below w.heap.size w W3 := by rw [hW3]; exact HBi.out.drew
                  have ho3 : Own intE 3 w.heap.size W3 (.slice (some ⟨w.heap.size, 0, none⟩) N N) (tb (smZ L) N (s + 1) 0) := by rw [hW3]; exact HSi.out.dr (Dr.refl _).one
                  have hf3 : Own intE 3 w.heap.size W3 (.slice (some ⟨B2, 0, none⟩) N N) (tb (fLZ L bar) N s x) := by rw [hW3]; exact HFi.out.dr (Dr.refl _).one
                  have hcl3 : W3.cell? ⟨B2, s, none⟩ = some (.int .i64 x) := by rw [hW3]; exact hc2
                  have hfr3 : W3.frozen? ⟨B2, s, none⟩ = false := by rw [hW3]; exact hfr
                  rw [← hW3]
                  obtain ⟨z, hz⟩ : ∃ z, z = if 1 + y < x then 1 + y else x := ⟨_, rfl⟩
                  rw [HMIN.out, ← hz] at HC
                  obtain ⟨ho4, hg4⟩ := hf3.store1 rfl s z (.int .i64 z) rfl (tb_len _ _ _ _).symm
                  rw [tb_set] at ho4
                  have HF4 := hid ho4
                  have HS4 := hid (own_other ho3 hg4 (by omega))
                  have HB4 := hid (hb3.setCell (p := ⟨B2, s, none⟩) (by show w.heap.size ≤ B2; omega) (.int .i64 z))
                  clear hW3 hb3 ho3 hf3 ho4 hg4 hc2 hc3 hfr hw0 hw1 HMIN
                  subst hz
                  go_wp2
                  exact ⟨⟨g - 1, _, by go_num, by omega, HC.out, HS4.out, HF4.out, HB4.out⟩, by simp [intOf]; omega⟩
                · have hd1 : decide (u ≤ bar) = false := decide_eq_false hle
                  have HC := hid (curS_skip' hg0 HCU.out (fun h => hle (by rw [HU.out, HSM.out]; exact h.2)))
                  clear hle
                  go_wp2
                  exact ⟨⟨g - 1, x, by go_num, by omega, HC.out, HSi.out, HFi.out, HBi.out⟩, by simp [intOf]; omega⟩
            · have e : g = 0 := by omega
              subst e
              have HE := hid (curS_end HOK.out (by omega) hL7 (by rw [← HN.out]; exact hlt) (by omega) HCU.out)
              have HFn := hid (show Own intE 3 w.heap.size wr (.slice (some ⟨B2, 0, none⟩) N N) (tb (fLZ L bar) N (s + 1) 0) by rw [← tb_next]; have := HFi.out; rw [HE.out] at this; exact this)
              go_wp2
              exact ⟨⟨s + 1, by go_num, by omega, by omega, HSi.out, HFn.out, HBi.out⟩, by simp [intOf]; omega⟩
    · have e : s = N := by omega
      subst e
      go_wp2
      go_ret
      exact ⟨_, rfl, by rw [← HN.out]; exact HF.out, HBr.out⟩

end Go.Proofs.Ytkckaooimffdpaa
