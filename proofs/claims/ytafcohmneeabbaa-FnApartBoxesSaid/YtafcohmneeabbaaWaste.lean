/-
  Contract: the boxes of waste of a plan, by the reference.
-/
import Derived.Test.YtafcohmneeabbaaSpread
namespace Go.Proofs.Ytafcohmneeabbaa
set_option linter.unusedSimpArgs false
set_option linter.unusedVariables false
open Go.RowKit

def BxsOut (w : World) (e : Ending) (w' : World) : Prop := ∃ (v : Value) (L : List Bx), e = .returned v ∧ Row boxE w' v L ∧ Below w.heap.size w w'

set_option maxHeartbeats 6400000 in
set_option maxRecDepth 100000 in
theorem wastesOf_c (W H : Int) (pA : Option Addr) (pn pc : Nat) (t : Tr) (s : Sh) (w : World) (hT : TR w.heap.size w t s) (hok : okT t) (hc : cuts t ≤ 15) (hW : 1 ≤ W ∧ W ≤ 1000) (hH : 1 ≤ H ∧ H ≤ 1000) : Calls Try.prog 37 #[.agg #[.int .i64 W, .int .i64 H, .slice pA pn pc], .agg #[.int .i64 s.o, .int .i64 s.a, .int .i64 s.p, .bool s.t, .slice s.ka s.kn s.kc]] w (BxsOut w) := by
  obtain ⟨i0, hi0, hz0, hz1, hz2⟩ := info_parts box_info
  have hB : Below w.heap.size w (((w.alloc (.cells #[.int .i64 W, .int .i64 H, .slice pA pn pc] 47)).alloc (.cells #[.int .i64 s.o, .int .i64 s.a, .int .i64 s.p, .bool s.t, .slice s.ka s.kn s.kc] 30)).alloc (.cells #[] 53)) :=
    (((Below.refl w.heap.size w).alloc (Nat.le_refl _) _).alloc (by simp) _).alloc (by simp; omega) _
  have HB0 := hid hB
  have HT0 := hid (hT.go hB)
  have HTO := hid hT.tro
  have HOK := hid hok
  have hO0 : Own boxE 53 (w.heap.size + 2) (((w.alloc (.cells #[.int .i64 W, .int .i64 H, .slice pA pn pc] 47)).alloc (.cells #[.int .i64 s.o, .int .i64 s.a, .int .i64 s.p, .bool s.t, .slice s.ka s.kn s.kc] 30)).alloc (.cells #[] 53)) (.slice (some ⟨w.heap.size + 1 + 1, 0, none⟩) 0 0) [] := by
    have := Own.lit0 boxE ((w.alloc (.cells #[.int .i64 W, .int .i64 H, .slice pA pn pc] 47)).alloc (.cells #[.int .i64 s.o, .int .i64 s.a, .int .i64 s.p, .bool s.t, .slice s.ka s.kn s.kc] 30)) (w.heap.size + 2) 53 (by simp)
    simpa using this
  have HO0 := hid hO0
  have HBD : Hid (bndB 1000 (⟨0, 0, W, H⟩ : Bx)) := by rw [Hid]; unfold bndB; simp only; omega
  clear hB hT hok hO0
  go_enter Try.func37, Try.ntmps37
  go_wp2_with fail
  refine (spread_c t HTO.out s ⟨0, 0, W, H⟩ 1000 _ HT0.out HOK.out HBD.out (by omega) (by omega)).mono ?_
  rintro e w1 ⟨v1, P, rfl, ho, hl, hp, hb⟩
  have HB1 := hid (HB0.out.trans (hb.mono (by simp; omega)))
  have HO1 := hid (HO0.out.below hb)
  have hs1 : w.heap.size + 1 + 1 + 1 ≤ w1.heap.size := by have := hb.size; simpa using this
  simp only [World.size_alloc] at ho
  obtain ⟨A1, c1, rfl, hc1, hm1, hA⟩ := ho.shape
  unfold maxLen at hm1
  have HRP := hid ho.rowB
  have HA := hid hA
  clear ho hb hp hA
  go_wp2
  go_loopw [5, 7] (fun o i wr => ∃ k : Nat, ∃ L : List Bx, i = .int .i64 k ∧ k ≤ P.length ∧ L.length ≤ k ∧ Own boxE 53 (w.heap.size + 2) wr o L ∧ (o.ownBlock = some (w.heap.size + 1 + 1) ∨ ∀ q, o.ownBlock = some q → w1.heap.size ≤ q) ∧ Kp (fun q => q = w.heap.size + 1 + 1) w1 wr) (fun _ i _ => P.length - (intOf i).toNat)
  case atStart => exact ⟨0, [], rfl, by omega, by simp, HO1.out, .inl rfl, Kp.refl _ _⟩
  case round =>
    obtain ⟨k, L, rfl, hk, hL, ho, hob, hkp⟩ := hrel
    have HO := hid ho
    have HOB := hid hob
    have HKP := hid hkp
    have hsr := hkp.size
    clear ho hob hkp
    by_cases hlt : k < P.length
    · obtain ⟨g, rfl, hg1, hg2⟩ := HA.out (by omega)
      obtain ⟨b1, o1, e1, hb1, hx⟩ := row_plcs HRP.out (by omega)
      injection e1 with e1
      injection e1 with e1 e2 e3
      subst e1
      subst e2
      obtain ⟨x0, x1, x2, x3, x4, x5⟩ := hx k hlt
      have hcl : ∀ o u, w1.cell? ⟨g, o, none⟩ = some u → wr.cell? ⟨g, o, none⟩ = some u := fun o u h => (World.cell?_of_block (w := w1) (HKP.out.block g hg2 (by omega))).trans h
      replace x0 := hcl _ _ x0
      replace x2 := hcl _ _ x2
      replace x3 := hcl _ _ x3
      replace x4 := hcl _ _ x4
      replace x5 := hcl _ _ x5
      have hgr : g < wr.heap.size := by omega
      simp only [Nat.zero_add] at x0 x2 x3 x4 x5
      clear hx hcl x1 e3
      by_cases hn : P[k].p < 0
      · have d1 : decide (P[k].p < 0) = true := decide_eq_true hn
        have HLn : Hid (L.length ≤ 4194304) := by rw [Hid]; omega
        obtain ⟨L2, hL2⟩ : ∃ M : List Bx, M = L ++ [P[k].b] := ⟨_, rfl⟩
        have HL2 := hid hL2
        have hlen : L2.length ≤ k + 1 := by rw [hL2]; simp; omega
        clear hn hL2
        go_wp2_with (at_builtin; refine wpList_pushN boxE _ rfl (.tmp 28) (.tmp 34) _ rfl (w.heap.size + 2) 53 i0 _ 32 Try.underlying23 hi0 hz0 hz1 hz2 rfl (by omega) _ _ rfl HO.out _ P[k].b _ rfl rfl (by simp) HLn.out (by omega) L2 HL2.out ?_)
        intro v4 w4 ho4 hg4 hat4
        have HO4 := hid ho4
        have HK4 := hid (HKP.out.grown hg4 (fun q hq => by rcases HOB.out with h | h; (rw [h] at hq; injection hq with hq; exact .inl hq.symm); exact .inr (h q hq)))
        have HOB4 : Hid (v4.ownBlock = some (w.heap.size + 1 + 1) ∨ ∀ q, v4.ownBlock = some q → w1.heap.size ≤ q) := by
          rcases hat4 with h | h
          · rw [Hid, h]; exact HOB.out
          · exact .inr (fun q hq => by rw [h] at hq; injection hq with hq; omega)
        clear ho4 hg4 hat4
        go_wp2
        exact ⟨⟨k + 1, L2, by go_num, by omega, hlen, HO4.out, HOB4.out, HK4.out⟩, by simp [intOf]; omega⟩
      · have d1 : decide (P[k].p < 0) = false := decide_eq_false hn
        clear hn
        go_wp2
        exact ⟨⟨k + 1, L, by go_num, by omega, by omega, HO.out, HOB.out, HKP.out⟩, by simp [intOf]; omega⟩
    · go_wp2
      go_ret
      exact ⟨_, L, rfl, HO.out.rowB, HB1.out.trans (HKP.out.toBelow HB1.out.size (fun q e => by omega))⟩

end Go.Proofs.Ytafcohmneeabbaa
