/-
  Contracts: lengths for bars and good bars, by the reference.
-/
import Derived.Test.YtkckaooimffdpaaBar
namespace Go.Proofs.Ytkckaooimffdpaa
set_option linter.unusedSimpArgs false
set_option linter.unusedVariables false
open Go.RowKit

set_option maxHeartbeats 3200000 in
set_option maxRecDepth 100000 in
theorem svalidBars_c (v : Value) (L : List Int) (bar : Int) (w : World) (h : Row intE w v L) : Calls Try.prog 27 #[v, .int .i64 bar] w fun e w' => e = .returned (.bool (brB 20 L bar)) ∧ w = w' := by
  obtain ⟨A1, c1, rfl, hc1, hm1⟩ := h.form
  unfold maxLen at hm1
  have HH := hid h
  clear h
  go_enter Try.func27, Try.ntmps27
  go_wp2
  go_loop [5] (fun i => ∃ k : Nat, i = .int .i64 k ∧ k ≤ L.length ∧ ∀ j, (hj : j < L.length) → j < k → 1 ≤ L[j] ∧ L[j] ≤ bar) (fun i => L.length - (intOf i).toNat)
  case atStart => exact ⟨0, rfl, by omega, fun j _ h => by omega⟩
  case round =>
    obtain ⟨k, rfl, hk, hok⟩ := hrel
    have HOK := hid hok
    clear hok
    by_cases hlt : k < L.length
    · obtain ⟨b1, o1, rfl, hb1, hx⟩ := row_cells1 HH.out (by omega)
      have x0 := hx k hlt
      clear hx
      by_cases g1 : 1 ≤ L[k] ∧ L[k] ≤ bar
      · have HOK2 : Hid (∀ j, (hj : j < L.length) → j < k + 1 → 1 ≤ L[j] ∧ L[j] ≤ bar) := fun j hj hj2 => by
          by_cases e : j = k
          · subst e; exact g1
          · exact HOK.out j hj (by omega)
        obtain ⟨g2, g3⟩ := g1
        go_wp2_with fail
        refine (inRange_t _ _ _ _ g2 g3).mono ?_; rintro e w3 ⟨rfl, rfl⟩
        go_wp2
        go_round
        case rel => exact ⟨k + 1, by go_num, by omega, HOK2.out⟩
        case measure => simp [intOf]; omega
      · have HF : Hid (brB 20 L bar = false) := brB_not.2 (fun h => g1 (h.2.2 _ (List.getElem_mem hlt)))
        have G1 : Hid (L[k] < 1 ∨ bar < L[k]) := by rw [Hid]; omega
        clear g1
        go_wp2_with fail
        refine (inRange_f _ _ _ _ G1.out).mono ?_; rintro e w3 ⟨rfl, rfl⟩
        go_wp2
        go_ret
        exact ⟨ret_bool HF.out.symm, rfl⟩
    · by_cases hb : 1 ≤ bar ∧ bar ≤ 200
      · obtain ⟨g2, g3⟩ := hb
        by_cases h20 : L.length ≤ 20
        · have d1 : decide ((L.length : Int) ≤ 20) = true := decide_eq_true (by omega)
          have HT : Hid (brB 20 L bar = true) := brB_iff.2 ⟨⟨g2, g3⟩, h20, fun x hx => by
              obtain ⟨j, hj, rfl⟩ := List.getElem_of_mem hx
              exact HOK.out j hj (by omega)⟩
          go_wp2_with fail
          refine (inRange_t _ _ _ _ g2 g3).mono ?_; rintro e w3 ⟨rfl, rfl⟩
          go_wp2
          go_ret
          exact ⟨ret_bool HT.out.symm, rfl⟩
        · have d1 : decide ((L.length : Int) ≤ 20) = false := decide_eq_false (by omega)
          have HF : Hid (brB 20 L bar = false) := brB_not.2 (fun h => h20 h.2.1)
          clear h20
          go_wp2_with fail
          refine (inRange_t _ _ _ _ g2 g3).mono ?_; rintro e w3 ⟨rfl, rfl⟩
          go_wp2
          go_ret
          exact ⟨ret_bool HF.out.symm, rfl⟩
      · have HF : Hid (brB 20 L bar = false) := brB_not.2 (fun h => hb h.1)
        have G1 : Hid (bar < 1 ∨ 200 < bar) := by rw [Hid]; omega
        clear hb
        go_wp2_with fail
        refine (inRange_f _ _ _ _ G1.out).mono ?_; rintro e w3 ⟨rfl, rfl⟩
        go_wp2
        go_ret
        exact ⟨ret_bool HF.out.symm, rfl⟩

def slen : Value → Nat
  | .slice _ n _ => n
  | _ => 0
def LdOut (L G : List Int) (w : World) (e : Ending) (w' : World) : Prop := ∃ v, e = .returned v ∧ Own intE 3 w.heap.size w' v (flR L G (nbk G L.length) L.length) ∧ Below w.heap.size w w'

set_option maxHeartbeats 12800000 in
set_option maxRecDepth 100000 in
theorem sloads_c (v1 v2 : Value) (L G : List Int) (w : World) (h1 : Row intE w v1 L) (h2 : Row intE w v2 G) (hL : L.length ≤ 20) (hl : L.length ≤ G.length) (hG : ∀ g ∈ G, 0 ≤ g ∧ g ≤ 19) (hx : ∀ x ∈ L, 0 ≤ x ∧ x ≤ 200) : Calls Try.prog 45 #[v1, v2] w (LdOut L G w) := by
  obtain ⟨i0, hi0, hz0, hz1, hz2⟩ := info_parts int_info
  obtain ⟨A1, c1, rfl, hc1, hm1⟩ := h1.form
  obtain ⟨A2, c2, rfl, hc2, hm2⟩ := h2.form
  unfold maxLen at hm1 hm2
  have HH := hid h1
  have HG := hid h2
  have HGM := hid hG
  have HXM := hid hx
  have HO0 := hid (Own.lit0 intE w w.heap.size 3 (Nat.le_refl w.heap.size))
  have HB0 := hid ((Below.refl w.heap.size w).alloc (Nat.le_refl _) (.cells #[] 3))
  clear h1 h2 hG hx
  go_enter Try.func45, Try.ntmps45
  go_wp2
  go_loopw [5, 6] (fun o i wr => ∃ (k : Nat) (A : Option Addr) (c : Nat), i = .int .i64 k ∧ k ≤ L.length ∧ o = .slice A (nbk G k) c ∧ Own intE 3 w.heap.size wr o (flR L G (nbk G k) k) ∧ Below w.heap.size w wr) (fun _ i _ => L.length - (intOf i).toNat)
  case atStart => exact ⟨0, _, _, rfl, by omega, rfl, by rw [flR_zero]; exact HO0.out, HB0.out⟩
  case round =>
    obtain ⟨k, A, c, rfl, hk, rfl, ho, hb⟩ := hrel
    have HO := hid ho
    have HBr := hid hb
    have hsz := hb.size
    clear ho hb
    by_cases hlt : k < L.length
    · have hkG : k < G.length := by omega
      obtain ⟨b1, o1, rfl, hb1, hx1⟩ := row_cells1 HH.out (by omega)
      obtain ⟨b2, o2, rfl, hb2, hx2⟩ := row_cells1 HG.out (by omega)
      have hgm := HGM.out _ (List.getElem_mem hkG)
      obtain ⟨m, hm⟩ := Int.eq_ofNat_of_zero_le hgm.1
      have hm19 : m ≤ 19 := by omega
      have HMG : Hid (G.getD k 0 = (m : Int)) := by rw [Hid, getD_at hkG]; exact hm
      have HX1 := hid (hx1 k hlt)
      have HX2 := hid (show w.cell? ⟨b2, o2 + k, none⟩ = some (.int .i64 m) by rw [← hm]; exact hx2 k hkG)
      have HXK := hid (HXM.out _ (List.getElem_mem hlt))
      have HLK : Hid (L.getD k 0 = L[k]) := getD_at hlt 0
      have hnb := nbk_eq G k
      have hnb1 := nbk_eq G (k + 1)
      have hmx : mxk G (k + 1) = max (mxk G k) (m : Int) := by rw [mxk, HMG.out]
      have hnbK : nbk G (k + 1) = max (nbk G k) (m + 1) := by omega
      have HNB := hid hnbK
      have hnb20 : nbk G k ≤ 20 := by
        have : mxk G k < 20 := mxk_hi (by omega) k (fun i hi => by rw [getD_at (show i < G.length by omega)]; have := HGM.out _ (List.getElem_mem (show i < G.length by omega)); omega)
        omega
      obtain ⟨N, hN⟩ : ∃ N, N = nbk G k := ⟨_, rfl⟩
      have HNN : Hid (mxk G k < N) := by rw [Hid]; omega
      have HNM : Hid (nbk G (k + 1) = max N (m + 1)) := by rw [Hid, hN]; exact hnbK
      rw [← hN] at HO hnb20 ⊢
      obtain ⟨x, hxk⟩ : ∃ x, x = L[k] := ⟨_, rfl⟩
      rw [← hxk] at HX1 HXK HLK
      clear hx1 hx2 hm hgm hnb hnb1 hmx hnbK HNB hN hxk
      go_wp2
      go_loopw [5] (fun o wr => ∃ (q : Nat) (A : Option Addr) (c : Nat), N ≤ q ∧ q ≤ max N (m + 1) ∧ o = .slice A q c ∧ Own intE 3 w.heap.size wr o (flR L G q k) ∧ Below w.heap.size w wr) (fun o _ => m + 1 - slen o)
      case atStart => exact ⟨N, _, _, Nat.le_refl _, by omega, rfl, HO.out, HBr.out⟩
      case round =>
        obtain ⟨q, A', c', hq1, hq2, rfl, ho, hb⟩ := hrel
        have HOi := hid ho
        have HBi := hid hb
        have hszi := hb.size
        have x2 := (hb.cell (p := ⟨b2, o2 + k, none⟩) hb2).trans HX2.out
        by_cases hqm : q ≤ m
        · have HLn : Hid ((flR L G q k).length ≤ 4194304) := by rw [Hid, flR_len]; omega
          have HL2 : Hid (flR L G (q + 1) k = flR L G q k ++ [0]) := (flR_push (by have := HNN.out; omega)).symm
          clear ho hb
          go_wp2_with (at_builtin; refine wpList_pushN intE _ rfl (.tmp 21) (.tmp 22) _ rfl w.heap.size 3 i0 _ 8 Try.underlying23 hi0 hz0 hz1 hz2 rfl (by omega) _ _ rfl HOi.out _ (0 : Int) _ rfl rfl (by simp) HLn.out hszi (flR L G (q + 1) k) HL2.out ?_)
          intro v4 w4 ho4 hg4 hat4
          obtain ⟨A4, c4, rfl, -⟩ := ho4.shape
          rw [flR_len] at ho4 ⊢
          have HO4 := hid ho4
          have HB4 := hid (HBi.out.grown hg4 hszi (fun z hz => (HOi.out.lt z hz).1))
          clear ho4 hg4 hat4
          go_wp2
          exact ⟨⟨q + 1, A4, c4, by omega, by omega, rfl, HO4.out, HB4.out⟩, by simp [slen]; omega⟩
        · have hqe : q = nbk G (k + 1) := by have := HNM.out; omega
          have hmq : m < q := by omega
          have x1 := (hb.cell (p := ⟨b1, o1 + k, none⟩) hb1).trans HX1.out
          obtain ⟨g, cap, e1, hg1, hg2, hg3, hg4⟩ := HOi.out.form (by rw [flR_len]; omega)
          rw [flR_len] at e1 hg3
          injection e1 with e1 e2 e3
          subst e1
          subst e3
          have hcl := HOi.out.own_int (flR_len _ _ _ _).symm m (by rw [flR_len]; exact hmq)
          rw [flR_at] at hcl
          have hfr := HOi.out.frozen (flR_len _ _ _ _).symm m
          have hbd := ldk_bd (G := G) HXM.out (by omega) (m : Int) k
          obtain ⟨u, hu⟩ : ∃ u, u = ldk L G k (m : Int) := ⟨_, rfl⟩
          have HSET : Hid ((flR L G q k).set m (u + x) = flR L G q (k + 1)) := by
            have := flR_set (L := L) (m := q) HMG.out
            rw [HLK.out, ← hu] at this
            exact this
          rw [← hu] at hcl hbd
          have hxb := HXK.out
          have hw1 : IntKind.i64.wrap (u + x) = u + x := IntWalk.i64_in _ (by omega)
          have HQE := hid hqe
          unfold maxLen at hg4
          clear ho hb hu hqe e2
          go_upto_region 7 with (fail)
          go_still_tail 18, (by kernel_rfl)
          obtain ⟨W3, hW3⟩ : ∃ Z : World, Z = ({ heap := wr.heap, tape := wr.tape, drawn := wr.drawn + 1, os := wr.os, output := wr.output } : World) := ⟨_, rfl⟩
          have hb3 : Below w.heap.size w W3 := by rw [hW3]; exact HBi.out.drew
          have ho3 : Own intE 3 w.heap.size W3 (.slice (some ⟨g, 0, none⟩) q c') (flR L G q k) := by rw [hW3]; exact HOi.out.dr (Dr.refl _).one
          have hcl3 : W3.cell? ⟨g, m, none⟩ = some (.int .i64 u) := by rw [hW3]; exact hcl
          have hfr3 : W3.frozen? ⟨g, m, none⟩ = false := by rw [hW3]; exact hfr
          have hs3 : g < W3.heap.size := by rw [hW3]; exact hg2
          rw [← hW3]
          obtain ⟨ho4, hgr4⟩ := ho3.store1 rfl m (u + x) (.int .i64 (u + x)) rfl (flR_len _ _ _ _).symm
          rw [HSET.out] at ho4
          have HO4 := hid ho4
          have HB4 := hid (hb3.setCell (p := ⟨g, m, none⟩) hg1 (.int .i64 (u + x)))
          clear hW3 hb3 ho3 ho4 hgr4 hcl hfr x1 x2 hw1
          go_wp2
          exact ⟨⟨k + 1, _, _, by go_num, by omega, by rw [HQE.out], by rw [← HQE.out]; exact HO4.out, HB4.out⟩, by simp [intOf]; omega⟩
    · have e : k = L.length := by omega
      subst e
      go_wp2
      go_ret
      exact ⟨_, rfl, HO.out, HBr.out⟩

end Go.Proofs.Ytkckaooimffdpaa
