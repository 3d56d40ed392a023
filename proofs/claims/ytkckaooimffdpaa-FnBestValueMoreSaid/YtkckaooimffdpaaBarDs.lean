/-
  Contracts: numbers up to one, first fit, bars drawn out of a code.
-/
import Derived.Test.YtkckaooimffdpaaBarDr
namespace Go.Proofs.Ytkckaooimffdpaa
set_option linter.unusedSimpArgs false
set_option linter.unusedVariables false
open Go.RowKit

def upL (n : Nat) : List Int := (List.range n).map fun i : Nat => (i : Int)
theorem upL_len (n : Nat) : (upL n).length = n := by simp [upL]
theorem upL_succ (n : Nat) : upL (n + 1) = upL n ++ [(n : Int)] := by simp [upL, List.range_succ]
theorem upL_at (n i : Nat) (h : i < (upL n).length) : (upL n)[i] = (i : Int) := by simp [upL]
def UpOut (n : Nat) (w : World) (e : Ending) (w' : World) : Prop := ∃ v, e = .returned v ∧ Own intE 3 w.heap.size w' v (upL n) ∧ Below w.heap.size w w'

set_option maxHeartbeats 3200000 in
set_option maxRecDepth 100000 in
theorem supTo_c (n : Nat) (w : World) (hn : n ≤ 1000) : Calls Try.prog 31 #[.int .i64 n] w (UpOut n w) := by
  obtain ⟨i0, hi0, hz0, hz1, hz2⟩ := info_parts int_info
  have HO0 := hid (Own.lit0 intE w w.heap.size 3 (Nat.le_refl w.heap.size))
  have HB0 := hid ((Below.refl w.heap.size w).alloc (Nat.le_refl _) (.cells #[] 3))
  go_enter Try.func31, Try.ntmps31
  go_wp2
  go_loopw [3, 4] (fun o i wr => ∃ k : Nat, i = .int .i64 k ∧ k ≤ n ∧ Own intE 3 w.heap.size wr o (upL k) ∧ Below w.heap.size w wr) (fun _ i _ => n - (intOf i).toNat)
  case atStart => exact ⟨0, rfl, by omega, by rw [show upL 0 = [] from rfl]; exact HO0.out, HB0.out⟩
  case round =>
    obtain ⟨k, rfl, hk, ho, hb⟩ := hrel
    have HO := hid ho
    have HB := hid hb
    clear ho hb
    by_cases hlt : k < n
    · have HLn : Hid ((upL k).length ≤ 4194304) := by rw [Hid, upL_len]; omega
      have HL2 := hid (upL_succ k)
      go_wp2_with (at_builtin; refine wpList_pushN intE _ rfl (.tmp 11) (.tmp 13) _ rfl w.heap.size 3 i0 _ 8 Try.underlying23 hi0 hz0 hz1 hz2 rfl (by omega) _ _ rfl HO.out _ (k : Int) _ rfl rfl (by simp) HLn.out HB.out.size (upL (k + 1)) HL2.out ?_)
      intro v4 w4 ho4 hg4 hat4
      have HO4 := hid ho4
      have HB4 := hid (HB.out.grown hg4 HB.out.size (fun z hz => (HO.out.lt z hz).1))
      clear ho4 hg4 hat4
      go_wp2
      exact ⟨⟨k + 1, by go_num, by omega, HO4.out, HB4.out⟩, by simp [intOf]; omega⟩
    · have e : k = n := by omega
      subst e
      go_wp2
      go_ret
      exact ⟨_, rfl, HO.out, HB.out⟩

def FfOut (n : Nat) (w : World) (e : Ending) (w' : World) : Prop := ∃ v, ∃ M : List Int, e = .returned v ∧ M.length = n ∧ Own intE 3 w.heap.size w' v M ∧ Below w.heap.size w w'
theorem set_bd {S : List Int} {b z : Int} {q : Nat} (h : ∀ y ∈ S, 0 ≤ y ∧ y ≤ b) (hz : 0 ≤ z ∧ z ≤ b) : ∀ y ∈ S.set q z, 0 ≤ y ∧ y ≤ b := fun y hy => by
  rcases List.mem_or_eq_of_mem_set hy with h1 | rfl
  · exact h y h1
  · exact hz

set_option maxHeartbeats 12800000 in
set_option maxRecDepth 100000 in
theorem sfirstFit_c (v1 v3 : Value) (L : List Int) (bar : Int) (w : World) (h1 : Row intE w v1 L) (h3 : Row intE w v3 (upL L.length)) (hok : BrOk 20 L bar) : Calls Try.prog 30 #[v1, .int .i64 bar, v3] w (FfOut L.length w) := by
  obtain ⟨i0, hi0, hz0, hz1, hz2⟩ := info_parts int_info
  obtain ⟨A1, c1, rfl, hc1, hm1⟩ := h1.form
  obtain ⟨A3, c3, rfl, hc3, hm3⟩ := h3.form
  unfold maxLen at hm1 hm3
  have h20 := hok.2.1
  obtain ⟨hbar1, hbar2⟩ := hok.1
  rw [upL_len] at hc3 h3 ⊢
  have HH := hid h1
  have HG := hid h3
  have HOK := hid hok.2.2
  clear h1 h3 hok
  go_enter Try.func30, Try.ntmps30
  go_wp2_with (at_make; refine wpList_mk intE _ rfl _ _ 23 rfl w.heap.size 3 i0 _ 0 8 Try.underlying23 hi0 hz0 hz1 hz2 rfl _ _ _ _ L.length rfl rfl rfl rfl (by omega) (by omega) (Nat.le_refl _) ?_)
  intro w2 hown hgr hlt2
  have HB2 := hid ((Below.refl _ _).grown hgr (Nat.le_refl _) (by simp) : Below w.heap.size w w2)
  have HO2 := hid hown
  have HS0 := hid (Own.lit0 intE w2 (w.heap.size + 1) 3 hlt2)
  have HO2b := hid (hown.alloc (.cells #[] 3))
  have HB2b := hid (HB2.out.alloc HB2.out.size (.cells #[] 3))
  clear hown hgr
  go_wp2
  go_loopw [8, 9] (fun s i wr => ∃ (k : Nat) (S M : List Int) (A : Option Addr) (c : Nat), i = .int .i64 k ∧ k ≤ L.length ∧ s = .slice A S.length c ∧ S.length ≤ k ∧ (∀ y ∈ S, 0 ≤ y ∧ y ≤ 200) ∧ M.length = L.length ∧ Own intE 3 (w.heap.size + 1) wr s S ∧ Own intE 3 w.heap.size wr (.slice (some ⟨w.heap.size, 0, none⟩) L.length L.length) M ∧ Below w.heap.size w wr) (fun _ i _ => L.length - (intOf i).toNat)
  case atStart => exact ⟨0, [], _, _, _, rfl, by omega, rfl, by simp, by simp, by simp, HS0.out, HO2b.out, HB2b.out⟩
  case round =>
    obtain ⟨k, S, M, A, c, rfl, hk, rfl, hS, hbd, hM, hs, ho, hb⟩ := hrel
    have HS := hid hs
    have HO := hid ho
    have HBr := hid hb
    have HBD := hid hbd
    have HM := hid hM
    clear hs ho hbd hM
    by_cases hlt : k < L.length
    · obtain ⟨b1, o1, rfl, hb1, hx1⟩ := row_cells1 HH.out (by omega)
      obtain ⟨b3, o3, rfl, hb3, hx3⟩ := row_cells1 HG.out (by omega)
      have x0 := (hb.cell (p := ⟨b1, o1 + k, none⟩) hb1).trans (hx1 k hlt)
      have y0 : wr.cell? ⟨b3, o3 + k, none⟩ = some (.int .i64 (k : Int)) := (hb.cell (p := ⟨b3, o3 + k, none⟩) hb3).trans (by rw [hx3 k (by rw [upL_len]; exact hlt), upL_at])
      have hxk := HOK.out _ (List.getElem_mem hlt)
      obtain ⟨x, hx⟩ : ∃ x, x = L[k] := ⟨_, rfl⟩
      rw [← hx] at x0 hxk
      have Y0 := hid (hx3 k (by rw [upL_len]; exact hlt))
      clear hx hx1 hx3 hb
      obtain ⟨As, cs, e1, hcs, hcm, -⟩ := HS.out.shape
      injection e1 with e1 e2 e3
      subst e1
      subst e3
      unfold maxLen at hcm
      clear e2
      go_wp2
      go_loop [11] (fun b => ∃ q : Nat, b = .int .i64 q ∧ q ≤ S.length) (fun b => S.length - (intOf b).toNat)
      case atStart => exact ⟨0, rfl, by omega⟩
      case round =>
        obtain ⟨q, rfl, hq⟩ := hrel
        by_cases hql : q < S.length
        · obtain ⟨g, cap, e1, hg1, hg2, hg3, hg4⟩ := HS.out.form (by omega)
          injection e1 with e1 e2 e3
          subst e1
          subst e3
          clear e2
          have hcl := HS.out.own_int rfl q hql
          have hfr := HS.out.frozen rfl q
          have hyb := HBD.out _ (List.getElem_mem hql)
          obtain ⟨u, hu⟩ : ∃ u, u = S[q] := ⟨_, rfl⟩
          rw [← hu] at hcl hyb
          clear hu
          by_cases hfit : bar < u + x
          · go_wp2
            go_round
            case rel => exact ⟨q + 1, by go_num, by omega⟩
            case measure => simp [intOf]; omega
          · -- it fits on bar q
            have hqe : ((q : Int) == (S.length : Int)) = false := by rw [beq_eq_false_iff_ne]; omega
            have hqe2 : (q == S.length) = false := by rw [beq_eq_false_iff_ne]; omega
            obtain ⟨hs5, hgr5⟩ := HS.out.store1 rfl q (u + x) (.int .i64 (u + x)) rfl rfl
            have HS5 := hid hs5
            have HO5 := hid (HO.out.kept hgr5 (.inr (fun e => by simp [Value.ownBlock] at e; omega)))
            have HB5 := hid (HBr.out.setCell (p := ⟨g, q, none⟩) (by show w.heap.size ≤ g; omega) (.int .i64 (u + x)))
            have HBD5 := hid (set_bd (q := q) HBD.out (show 0 ≤ u + x ∧ u + x ≤ 200 by omega))
            obtain ⟨W5, hW5⟩ : ∃ Z : World, Z = wr.setCell ⟨g, q, none⟩ (.int .i64 (u + x)) := ⟨_, rfl⟩
            have hMl : k < M.length := by rw [HM.out]; exact hlt
            have hcl5 : W5.frozen? ⟨w.heap.size, k, none⟩ = false := by rw [hW5]; exact HO5.out.frozen HM.out.symm k
            have hoc5 : W5.cell? ⟨w.heap.size, k, none⟩ = some (.int .i64 M[k]) := by rw [hW5]; exact HO5.out.own_int HM.out.symm k hMl
            have hsz5 : w.heap.size < W5.heap.size := by rw [hW5]; simp; omega
            have hy5 : W5.cell? ⟨b3, o3 + k, none⟩ = some (.int .i64 (k : Int)) := by rw [hW5]; exact (HB5.out.cell (p := ⟨b3, o3 + k, none⟩) hb3).trans (by rw [Y0.out, upL_at])
            obtain ⟨ho6, hgr6⟩ := HO5.out.store1 rfl k (q : Int) (.int .i64 q) rfl HM.out.symm
            rw [← hW5] at ho6 hgr6
            have HO6 := hid ho6
            have hs6 := HS5.out
            rw [← hW5] at hs6
            have HS6 := hid (hs6.kept hgr6 (.inr (fun e => by simp [Value.ownBlock] at e; omega)))
            have hb6 := HB5.out
            rw [← hW5] at hb6
            have HB6 := hid (hb6.setCell (p := ⟨w.heap.size, k, none⟩) (Nat.le_refl _) (.int .i64 q))
            have HW5 := hid hW5
            clear hs5 hgr5 ho6 hgr6 hs6 hb6 hW5 y0
            go_upto_region 13 with (fail)
            rw [← HW5.out]
            clear hcl hfr x0
            go_wp2
            exact ⟨⟨k + 1, S.set q (u + x), M.set k (q : Int), _, _, by go_num, by omega, by rw [List.length_set], by simp; omega, HBD5.out, by rw [List.length_set]; exact HM.out, by have := HS6.out; simpa using this, by have := HO6.out; simpa using this, HB6.out⟩, by simp [intOf]; omega⟩
        · obtain rfl : q = S.length := by omega
          have HLn : Hid (S.length ≤ 4194304) := by rw [Hid]; omega
          obtain ⟨S4, hS4⟩ : ∃ Z : List Int, Z = S ++ [0] := ⟨_, rfl⟩
          have HS4e := hid hS4
          have hlen4 : S4.length = S.length + 1 := by rw [hS4]; simp
          have HL4 := hid hlen4
          have HBD4 : Hid (∀ y ∈ S4, 0 ≤ y ∧ y ≤ 200) := fun y hy => by
            rw [hS4] at hy
            rcases List.mem_append.1 hy with h | h
            · exact HBD.out y h
            · simp only [List.mem_singleton] at h; omega
          have hz4 : S4[S.length]'(by omega) = 0 := by subst hS4; simp
          have HZ4 := hid hz4
          clear hS4 hz4
          go_wp2_with (at_builtin; refine wpList_pushN intE _ rfl (.tmp 49) (.tmp 50) _ rfl (w.heap.size + 1) 3 i0 _ 8 Try.underlying23 hi0 hz0 hz1 hz2 rfl (by omega) _ _ rfl HS.out _ (0 : Int) _ rfl rfl (by simp) HLn.out (by have := HO.out.lt w.heap.size rfl; omega) S4 HS4e.out ?_)
          intro v4 w4 ho4 hg4 hat4
          obtain ⟨g, cap, rfl, hg1, hg2, hg3, hg4'⟩ := ho4.form (by omega)
          unfold maxLen at hg4'
          have HS4 := hid ho4
          have HO4 := hid (HO.out.kept hg4 (.inr (fun e => by have := (HS.out.lt w.heap.size (by rw [← e]; rfl)).1; omega)))
          have HB4 := hid (HBr.out.grown hg4 HBr.out.size (fun z hz => by have := (HS.out.lt z hz).1; omega))
          have hcl : w4.cell? ⟨g, S.length, none⟩ = some (.int .i64 0) := by
            have := ho4.own_int rfl S.length (by omega)
            rw [HZ4.out] at this
            exact this
          have hfr := ho4.frozen rfl S.length
          have hl0 : S.length < S4.length := by omega
          obtain ⟨n4, hn4⟩ : ∃ q, q = S4.length := ⟨_, rfl⟩
          have HN4 := hid hn4
          clear ho4 hg4 hat4
          obtain ⟨hs5, hgr5⟩ := HS4.out.store1 rfl S.length x (.int .i64 x) rfl rfl
          have HS5 := hid hs5
          have HO5 := hid (HO4.out.kept hgr5 (.inr (fun e => by simp [Value.ownBlock] at e; omega)))
          have HB5 := hid (HB4.out.setCell (p := ⟨g, S.length, none⟩) (by show w.heap.size ≤ g; omega) (.int .i64 x))
          have HBD5 := hid (set_bd (q := S.length) HBD4.out (show 0 ≤ x ∧ x ≤ 200 by omega))
          obtain ⟨W5, hW5⟩ : ∃ Z : World, Z = w4.setCell ⟨g, S.length, none⟩ (.int .i64 x) := ⟨_, rfl⟩
          have hMl : k < M.length := by rw [HM.out]; exact hlt
          have hcl5 : W5.frozen? ⟨w.heap.size, k, none⟩ = false := by rw [hW5]; exact HO5.out.frozen HM.out.symm k
          have hoc5 : W5.cell? ⟨w.heap.size, k, none⟩ = some (.int .i64 M[k]) := by rw [hW5]; exact HO5.out.own_int HM.out.symm k hMl
          have hsz5 : w.heap.size < W5.heap.size := by rw [hW5]; simp; omega
          have hy5 : W5.cell? ⟨b3, o3 + k, none⟩ = some (.int .i64 (k : Int)) := by rw [hW5]; exact (HB5.out.cell (p := ⟨b3, o3 + k, none⟩) hb3).trans (by rw [Y0.out, upL_at])
          obtain ⟨ho6, hgr6⟩ := HO5.out.store1 rfl k (S.length : Int) (.int .i64 S.length) rfl HM.out.symm
          rw [← hW5] at ho6 hgr6
          have HO6 := hid ho6
          have hs6 := HS5.out
          rw [← hW5] at hs6
          have HS6 := hid (hs6.kept hgr6 (.inr (fun e => by simp [Value.ownBlock] at e; omega)))
          have hb6 := HB5.out
          rw [← hW5] at hb6
          have HB6 := hid (hb6.setCell (p := ⟨w.heap.size, k, none⟩) (Nat.le_refl _) (.int .i64 S.length))
          have HW5 := hid hW5
          clear hs5 hgr5 ho6 hgr6 hs6 hb6 hW5 y0 hn4 HZ4 hlen4
          go_upto_region 13 with (fail)
          rw [← HW5.out]
          clear hcl hfr x0
          go_wp2
          exact ⟨⟨k + 1, S4.set S.length x, M.set k (S.length : Int), _, _, by go_num, by omega, by rw [List.length_set], by have := HL4.out; simp; omega, HBD5.out, by rw [List.length_set]; exact HM.out, by have := HS6.out; simpa using this, by have := HO6.out; simpa using this, HB6.out⟩, by simp [intOf]; omega⟩
    · go_wp2
      go_ret
      exact ⟨_, M, rfl, HM.out, HO.out, HBr.out⟩

end Go.Proofs.Ytkckaooimffdpaa
