/-
  Contracts: the least number of groups, by the program.
-/
import Derived.Test.YtkckaooimffdpaaFewS
namespace Go.Proofs.Ytkckaooimffdpaa
set_option linter.unusedSimpArgs false
set_option linter.unusedVariables false
open Go.RowKit

set_option maxHeartbeats 3200000 in
set_option maxRecDepth 100000 in
theorem testFew_c (A : Option Addr) (c : Nat) (L : List Int) (bar : Int) (g : Nat) (p q : Nat) (w : World) (hp : w.cell? ⟨p, 0, none⟩ = some (.slice A L.length c)) (hq : w.cell? ⟨q, 0, none⟩ = some (.int .i64 bar)) (hpl : p < w.heap.size) (hql : q < w.heap.size) (h : Row intE w (.slice A L.length c) L) (hg : g < 128) (hL : L.length ≤ 7) (hb : ∀ x ∈ L, 0 ≤ x ∧ x ≤ 200) : Calls Try.prog 25 #[.int .i64 (g : Nat), .pointer (some ⟨p, 0, none⟩), .pointer (some ⟨q, 0, none⟩)] w fun e w' => e = .returned (.bool (decide (sm L g L.length ≤ bar))) ∧ Below w.heap.size w w' := by
  have HH := hid h
  have HB := hid hb
  clear h hb
  go_enter Try.func25, Try.ntmps25
  go_wp2
  go_quiet ((go_at_call 26; exact Calls.quiet_of_same (same_quiet (sumIn_c _ L g _ HH.out hg hL HB.out))))
  go_wp2
  go_ret
  exact ⟨rfl, below_draws _ _ _⟩

set_option maxHeartbeats 12800000 in
set_option maxRecDepth 100000 in
theorem fewestGroups_c (A : Option Addr) (c : Nat) (L : List Int) (bar : Int) (p q : Nat) (w : World) (hp : w.cell? ⟨p, 0, none⟩ = some (.slice A L.length c)) (hq : w.cell? ⟨q, 0, none⟩ = some (.int .i64 bar)) (hpl : p < w.heap.size) (hql : q < w.heap.size) (h : Row intE w (.slice A L.length c) L) (hok : BrOk 7 L bar) : Calls Try.prog 24 #[.int .i64 (L.length : Nat), .func (.func 25) #[] #[.pointer (some ⟨p, 0, none⟩), .pointer (some ⟨q, 0, none⟩)]] w fun e w' => e = .returned (.int .i64 (fLZ L bar (2 ^ L.length - 1))) ∧ Below w.heap.size w w' := by
  obtain ⟨i0, hi0, hz0, hz1, hz2⟩ := info_parts int_info
  have HH := hid h
  have HP := hid hp
  have HQ := hid hq
  have hL7 := hok.2.1
  have hb0 : 1 ≤ bar ∧ bar ≤ 200 := hok.1
  have HOK : Hid (∀ x ∈ L, 0 ≤ x ∧ x ≤ bar) := fun x hx => by have := hok.2.2 x hx; omega
  have hN1 := pow_ge1 L.length
  have hN2 := pow_le7 hL7
  have hN' : ((2 : Int) ^ L.length) = ((2 ^ L.length : Nat) : Int) := by push_cast; rfl
  obtain ⟨N, hN⟩ : ∃ N, N = 2 ^ L.length := ⟨_, rfl⟩
  have HN := hid hN
  rw [← hN] at hN1 hN2 hN' ⊢
  have hsh : IntKind.i64.wrap (N : Int) = (N : Int) := IntWalk.i64_in _ (by omega)
  clear h hok hp hq hN
  go_enter Try.func24, Try.ntmps24
  go_wp2_with (at_make; refine wpList_mk intE _ rfl _ _ 23 rfl w.heap.size 3 i0 _ 0 8 Try.underlying23 hi0 hz0 hz1 hz2 rfl _ _ _ _ N rfl rfl rfl rfl (by omega) (by omega) (Nat.le_refl _) ?_)
  intro w2 hown hgr hlt2
  have HB2 := hid ((Below.refl _ _).grown hgr (Nat.le_refl _) (by simp) : Below w.heap.size w w2)
  have HF2 := hid (show Own intE 3 w.heap.size w2 (.slice (some ⟨w.heap.size, 0, none⟩) N N) (tb (fLZ L bar) N 1 0) by rw [← tb_start (f := fLZ L bar) N (by unfold fLZ; rw [fL_zero HOK.out (by omega)]; rfl)]; exact hown)
  clear hown hgr
  go_wp2
  go_loopw [6] (fun i wr => ∃ s : Nat, i = .int .i64 (s : Nat) ∧ 1 ≤ s ∧ s ≤ N ∧ Own intE 3 w.heap.size wr (.slice (some ⟨w.heap.size, 0, none⟩) N N) (tb (fLZ L bar) N s 0) ∧ Below w.heap.size w wr) (fun i _ => N - (intOf i).toNat)
  case atStart => exact ⟨1, rfl, by omega, by omega, HF2.out, HB2.out⟩
  case round =>
    obtain ⟨s, rfl, hs1, hsN, ho, hb⟩ := hrel
    have HF := hid ho
    have HBr := hid hb
    clear ho hb
    by_cases hlt : s < N
    · obtain ⟨wo, rfl⟩ : ∃ wo : World, wo = wr := ⟨_, rfl⟩
      have hcl := HF.out.own_int (tb_len _ _ _ _).symm s (by rw [tb_len]; exact hlt)
      rw [tb_at, if_neg (by omega), if_pos rfl] at hcl
      have hfr := HF.out.frozen (tb_len _ _ _ _).symm s
      have hsz : w.heap.size < wo.heap.size := (HF.out.lt w.heap.size rfl).2
      obtain ⟨ho4, hg4⟩ := HF.out.store1 rfl s (-1) (.int .i64 (-1)) rfl (tb_len _ _ _ _).symm
      rw [tb_set] at ho4
      have HF4 := hid ho4
      have HB4 := hid (HBr.out.setCell (p := ⟨w.heap.size, s, none⟩) (Nat.le_refl _) (.int .i64 (-1)))
      clear ho4 hg4
      go_wp2
      clear hfr hsz hcl
      go_loopw [7] (fun i wr => ∃ (g : Nat) (x : Int), i = .int .i64 (g : Nat) ∧ g &&& s = g ∧ CurI L bar s g x ∧ Own intE 3 w.heap.size wr (.slice (some ⟨w.heap.size, 0, none⟩) N N) (tb (fLZ L bar) N s x) ∧ Below w.heap.size w wr) (fun i _ => (intOf i).toNat)
      case atStart => exact ⟨s, _, rfl, by simp, curI_start L bar s, HF4.out, HB4.out⟩
      case round =>
        obtain ⟨g, x, rfl, hgs, hcu, ho, hb⟩ := hrel
        have HGS := hid hgs
        have HCU := hid hcu
        have HFi := hid ho
        have HBi := hid hb
        have hle : g ≤ s := by rw [← hgs]; exact Nat.and_le_right
        clear ho hb hgs hcu
        by_cases hg0 : 0 < g
        · have hwA := andNot_n s g (by omega) HGS.out
          have hwB : bits .and .i64 ((g : Int) - 1) (s : Int) = (((g - 1) &&& s : Nat) : Int) := by rw [show (g : Int) - 1 = ((g - 1 : Nat) : Int) by omega]; exact and_n _ _ (by omega) (by omega)
          have HNL := hid (next_le (s := s) hg0)
          have HNS : Hid (((g - 1) &&& s) &&& s = (g - 1) &&& s) := by rw [Hid, Nat.and_assoc, Nat.and_self]
          have HCK := hid (fun h : ¬ sm L g L.length ≤ bar => curI_skip (show s < 128 by omega) hg0 HGS.out HCU.out h)
          have HCT := hid (fun (h : sm L g L.length ≤ bar) h2 => curI_take (show s < 128 by omega) hg0 HGS.out HCU.out h h2)
          have HCE := hid (fun h h2 => curI_keep (show s < 128 by omega) hg0 HGS.out HCU.out h h2)
          have hxb := curI_bd HOK.out (by omega) HCU.out
          have hc3 := HFi.out.own_int (tb_len _ _ _ _).symm (s - g) (by rw [tb_len]; omega)
          rw [tb_at, if_pos (by omega)] at hc3
          have hc2 := HFi.out.own_int (tb_len _ _ _ _).symm s (by rw [tb_len]; omega)
          rw [tb_at, if_neg (by omega), if_pos rfl] at hc2
          have hfr := HFi.out.frozen (tb_len _ _ _ _).symm s
          have hfb : 0 ≤ fLZ L bar (s - g) ∧ fLZ L bar (s - g) ≤ 7 := by have := fL_le HOK.out (by omega) (s - g); unfold fLZ; omega
          have HY : Hid (fLZ L bar (s - g) = (fL L bar (s - g) : Int)) := rfl
          obtain ⟨y, hy⟩ : ∃ y, y = fLZ L bar (s - g) := ⟨_, rfl⟩
          rw [← hy] at hc3 hfb HY
          have HYY := HY.out
          rw [← HY.out] at HCT HCE
          clear hy
          obtain ⟨d, hd⟩ : ∃ d, d = s - g := ⟨_, rfl⟩
          rw [← hd] at hc3 hwA
          have hdN : d < N := by omega
          obtain ⟨m, hm⟩ : ∃ m, m = (g - 1) &&& s := ⟨_, rfl⟩
          rw [← hm] at hwB HNL HNS HCK HCT HCE
          clear hd hm HYY
          have hp := (HBi.out.cell (p := ⟨p, 0, none⟩) hpl).trans HP.out
          have hq := (HBi.out.cell (p := ⟨q, 0, none⟩) hql).trans HQ.out
          have hpl2 : p < wr.heap.size := by have := HBi.out.size; omega
          have hql2 : q < wr.heap.size := by have := HBi.out.size; omega
          have HP2 := hid hp
          have HQ2 := hid hq
          clear hp hq
          go_wp2_with fail
          refine (testFew_c A c L bar g p q _ HP2.out HQ2.out hpl2 hql2 (HH.out.go HBi.out) (by omega) hL7 (fun x hx => by have := HOK.out x hx; omega)).mono ?_
          rintro e w5 ⟨rfl, hb⟩
          have HF5 := hid (HFi.out.below hb)
          have HB5 := hid (HBi.out.trans (hb.mono HBi.out.size))
          have hc2 := HF5.out.own_int (tb_len _ _ _ _).symm s (by rw [tb_len]; omega)
          rw [tb_at, if_neg (by omega), if_pos rfl] at hc2
          have hfr := HF5.out.frozen (tb_len _ _ _ _).symm s
          have hsz : w.heap.size < w5.heap.size := (HF5.out.lt w.heap.size rfl).2
          obtain ⟨ho4, hg4⟩ := HF5.out.store1 rfl s (y + 1) (.int .i64 (y + 1)) rfl (tb_len _ _ _ _).symm
          rw [tb_set] at ho4
          have HF6 := hid ho4
          have HB6 := hid (HB5.out.setCell (p := ⟨w.heap.size, s, none⟩) (Nat.le_refl _) (.int .i64 (y + 1)))
          have hw1 : IntKind.i64.wrap (y + 1) = y + 1 := IntWalk.i64_in _ (by omega)
          have hy0 : decide (y < 0) = false := decide_eq_false (by omega)
          clear hb HP2 HQ2 HFi HBi hc3 hwA ho4 hg4
          by_cases hle2 : sm L g L.length ≤ bar
          · have hd1 : decide (sm L g L.length ≤ bar) = true := decide_eq_true hle2
            have HT := hid (HCT.out hle2)
            rw [hd1]
            clear hd1 hle2 HCT HCK
            by_cases hx0 : x < 0
            · have HC := hid (HT.out (.inl hx0))
              clear HCE HT
              go_wp2
              exact ⟨⟨m, y + 1, rfl, HNS.out, HC.out, HF6.out, HB6.out⟩, by have := HNL.out; simp [intOf]; omega⟩
            · by_cases hx1 : y + 1 < x
              · have HC := hid (HT.out (.inr hx1))
                clear HCE HT
                go_wp2
                exact ⟨⟨m, y + 1, rfl, HNS.out, HC.out, HF6.out, HB6.out⟩, by have := HNL.out; simp [intOf]; omega⟩
              · have HC := hid (HCE.out (by omega) (by omega))
                clear HCE HT
                go_wp2
                exact ⟨⟨m, x, rfl, HNS.out, HC.out, HF5.out, HB5.out⟩, by have := HNL.out; simp [intOf]; omega⟩
          · have hd1 : decide (sm L g L.length ≤ bar) = false := decide_eq_false hle2
            have HC := hid (HCK.out (by omega))
            rw [hd1]
            clear hd1 hle2 HCT HCK HCE
            go_wp2
            exact ⟨⟨m, x, rfl, HNS.out, HC.out, HF5.out, HB5.out⟩, by have := HNL.out; simp [intOf]; omega⟩
        · have e : g = 0 := by omega
          subst e
          have HE := hid (curI_end HOK.out (by omega) hL7 (by rw [← HN.out]; exact hlt) (by omega) HCU.out)
          have HFn := hid (show Own intE 3 w.heap.size wr (.slice (some ⟨w.heap.size, 0, none⟩) N N) (tb (fLZ L bar) N (s + 1) 0) by rw [← tb_next]; have := HFi.out; rw [HE.out] at this; exact this)
          go_wp2
          exact ⟨⟨s + 1, by go_num, by omega, by omega, HFn.out, HBi.out⟩, by simp [intOf]; omega⟩
    · have e : s = N := by omega
      subst e
      have hcl := HF.out.own_int (tb_len _ _ _ _).symm (s - 1) (by rw [tb_len]; omega)
      rw [tb_at, if_pos (by omega)] at hcl
      obtain ⟨z, hz⟩ : ∃ z, z = fLZ L bar (s - 1) := ⟨_, rfl⟩
      have HZ := hid hz
      rw [← hz] at hcl
      obtain ⟨d, hd⟩ : ∃ d, d = s - 1 := ⟨_, rfl⟩
      rw [← hd] at hcl
      have hw0 : (s : Int) - 1 = (d : Int) := by omega
      have hdN : d < s := by omega
      clear hz hd
      go_wp2
      go_ret
      exact ⟨ret_int HZ.out, HBr.out⟩

end Go.Proofs.Ytkckaooimffdpaa
