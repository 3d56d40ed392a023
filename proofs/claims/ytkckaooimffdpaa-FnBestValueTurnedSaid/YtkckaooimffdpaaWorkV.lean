/-
  Contracts: valid works, by the program and by the reference.
-/
import Derived.Test.YtkckaooimffdpaaPaneV
import Derived.Test.YtkckaooimffdpaaWork
namespace Go.Proofs.Ytkckaooimffdpaa
set_option linter.unusedSimpArgs false
set_option linter.unusedVariables false
open Go.RowKit

def VW (x y : Int) (f : List Pn) : Prop := (1 ≤ x ∧ x ≤ 200) ∧ (1 ≤ y ∧ y ≤ 200) ∧ f.length ≤ 24 ∧ ∀ p ∈ f, okPn p
instance (x y : Int) (f : List Pn) : Decidable (VW x y f) := by unfold VW; infer_instance
def vwB (x y : Int) (f : List Pn) : Bool := decide (VW x y f)
theorem vwB_iff {x y : Int} {f : List Pn} : vwB x y f = true ↔ VW x y f := by simp [vwB]
theorem vwB_not {x y : Int} {f : List Pn} : vwB x y f = false ↔ ¬ VW x y f := by simp [vwB]

set_option maxHeartbeats 3200000 in
set_option maxRecDepth 100000 in
theorem ValidWork_c (x y : Int) (f : List Pn) (A : Option Addr) (c : Nat) (w : World) (h : Row paneE w (.slice A f.length c) f) : Calls Try.prog 47 #[.agg #[.int .i64 x, .int .i64 y, .slice A f.length c]] w fun e w' => e = .returned (.bool (vwB x y f)) ∧ Below w.heap.size w w' := by
  obtain ⟨-, hc1, hm1, -⟩ := h.at_
  unfold maxLen at hm1
  have HB0 := hid ((Below.refl w.heap.size w).alloc (Nat.le_refl _) (.cells #[.int .i64 x, .int .i64 y, .slice A f.length c] 35))
  have HH := hid h
  clear h
  by_cases hv : (1 ≤ x ∧ x ≤ 200) ∧ (1 ≤ y ∧ y ≤ 200) ∧ f.length ≤ 24
  · obtain ⟨⟨h1, h2⟩, ⟨h3, h4⟩, h5⟩ := hv
    have HV := hid (show (1 ≤ x ∧ x ≤ 200) ∧ (1 ≤ y ∧ y ≤ 200) ∧ f.length ≤ 24 from ⟨⟨h1, h2⟩, ⟨h3, h4⟩, h5⟩)
    go_enter Try.func47, Try.ntmps47
    go_wp2
    go_loopw [32] (fun i wr => ∃ k : Nat, i = .int .i64 k ∧ k ≤ f.length ∧ (∀ p ∈ f.take k, okPn p) ∧ Below w.heap.size w wr) (fun i _ => f.length - (intOf i).toNat)
    case atStart => exact ⟨0, rfl, by omega, by simp, HB0.out⟩
    case round =>
      obtain ⟨k, rfl, hk, ho, hb⟩ := hrel
      have HO := hid ho
      have HB := hid hb
      have HR := hid (HH.out.go hb)
      have hsz := hb.size
      clear ho hb
      by_cases hlt : k < f.length
      · obtain ⟨b1, o1, rfl, hb1, hx⟩ := row_panes HR.out (by omega)
        obtain ⟨x0, x1, x2, x3⟩ := hx k hlt
        have HBa := hid (HB.out.alloc hsz (.cells #[.int .i64 f[k].w, .int .i64 f[k].h, .bool f[k].t, .int .i64 f[k].k] 40))
        clear hx
        go_wp2_with fail
        refine (ValidPane_c f[k] _).mono ?_
        rintro e w2 ⟨rfl, hb⟩
        have HB2 := hid (HBa.out.trans (hb.mono HBa.out.size))
        clear hb
        by_cases hp : okPn f[k]
        · have hv := vpnB_iff.2 hp
          have HO2 : Hid (∀ p ∈ f.take (k + 1), okPn p) := fun p hq => by
            rw [List.take_succ_eq_append_getElem hlt] at hq
            rcases List.mem_append.1 hq with hq | hq
            · exact HO.out p hq
            · simp at hq; subst hq; exact hp
          clear hp
          go_wp2
          exact ⟨⟨k + 1, by go_num, by omega, HO2.out, HB2.out⟩, by simp [intOf]; omega⟩
        · have hv := vpnB_not.2 hp
          have HF : Hid (vwB x y f = false) := vwB_not.2 (fun h => hp (h.2.2.2 _ (List.getElem_mem hlt)))
          clear hp
          go_wp2
          go_ret
          exact ⟨ret_bool HF.out.symm, HB2.out⟩
      · have HT : Hid (vwB x y f = true) := vwB_iff.2 ⟨HV.out.1, HV.out.2.1, HV.out.2.2, fun p hp => HO.out p (by rw [List.take_of_length_le (by omega)]; exact hp)⟩
        go_wp2
        go_ret
        exact ⟨ret_bool HT.out.symm, HB.out⟩
  · have HF : Hid (vwB x y f = false) := vwB_not.2 (fun h => hv ⟨h.1, h.2.1, h.2.2.1⟩)
    have hcase : x < 1 ∨ (1 ≤ x ∧ 200 < x) ∨ (1 ≤ x ∧ x ≤ 200 ∧ y < 1) ∨ (1 ≤ x ∧ x ≤ 200 ∧ 1 ≤ y ∧ 200 < y) ∨ (1 ≤ x ∧ x ≤ 200 ∧ 1 ≤ y ∧ y ≤ 200 ∧ 24 < f.length) := by omega
    clear hv
    rcases hcase with h1 | ⟨h1, h2⟩ | ⟨h1, h2, h3⟩ | ⟨h1, h2, h3, h4⟩ | ⟨h1, h2, h3, h4, h5⟩
    all_goals
      go_enter Try.func47, Try.ntmps47
      go_wp2
      go_ret
      exact ⟨ret_bool HF.out.symm, HB0.out⟩

def vpsB (f : List Pn) : Bool := decide (f.length ≤ 24 ∧ ∀ p ∈ f, okPn p)
set_option maxHeartbeats 3200000 in
set_option maxRecDepth 100000 in
theorem svalidPanes_c (v : Value) (f : List Pn) (w : World) (h : Row paneE w v f) (hn : f.length ≤ 4194304) : Calls Try.prog 52 #[v] w fun e w' => e = .returned (.bool (vpsB f)) ∧ Below w.heap.size w w' := by
  obtain ⟨A, c, rfl, hc1, hm1⟩ := h.form
  unfold maxLen at hm1
  have HH := hid h
  clear h
  go_enter Try.func52, Try.ntmps52
  go_wp2
  go_loopw [3] (fun i wr => ∃ k : Nat, i = .int .i64 k ∧ k ≤ f.length ∧ (∀ p ∈ f.take k, okPn p) ∧ Below w.heap.size w wr) (fun i _ => f.length - (intOf i).toNat)
  case atStart => exact ⟨0, rfl, by omega, by simp, Below.refl _ _⟩
  case round =>
    obtain ⟨k, rfl, hk, ho, hb⟩ := hrel
    have HO := hid ho
    have HB := hid hb
    have HR := hid (HH.out.go hb)
    have hsz := hb.size
    clear ho hb
    by_cases hlt : k < f.length
    · obtain ⟨b1, o1, rfl, hb1, hx⟩ := row_panes HR.out (by omega)
      obtain ⟨x0, x1, x2, x3⟩ := hx k hlt
      clear hx
      by_cases hp : okPn f[k]
      · have HP := hid hp
        have HO2 : Hid (∀ p ∈ f.take (k + 1), okPn p) := fun p hq => by
          rw [List.take_succ_eq_append_getElem hlt] at hq
          rcases List.mem_append.1 hq with hq | hq
          · exact HO.out p hq
          · simp at hq; subst hq; exact hp
        clear hp
        go_wp2_with fail
        refine (svalidPane_t f[k] _ HP.out).mono ?_
        rintro e w2 ⟨rfl, hb⟩
        have HB2 := hid (HB.out.trans (hb.mono hsz))
        clear hb
        go_wp2
        exact ⟨⟨k + 1, by go_num, by omega, HO2.out, HB2.out⟩, by simp [intOf]; omega⟩
      · have HP := hid hp
        have HF : Hid (vpsB f = false) := by rw [Hid]; unfold vpsB; rw [decide_eq_false_iff_not]; exact fun h => hp (h.2 _ (List.getElem_mem hlt))
        clear hp
        go_wp2_with fail
        refine (svalidPane_f f[k] _ HP.out).mono ?_
        rintro e w2 ⟨rfl, hb⟩
        have HB2 := hid (HB.out.trans (hb.mono hsz))
        clear hb
        go_wp2
        go_ret
        exact ⟨ret_bool HF.out.symm, HB2.out⟩
    · have HA : Hid (∀ p ∈ f, okPn p) := fun p hp => HO.out p (by rw [List.take_of_length_le (by omega)]; exact hp)
      have HT : Hid (vpsB f = decide ((f.length : Int) ≤ 24)) := by
        rw [Hid]; unfold vpsB
        rw [Bool.eq_iff_iff, decide_eq_true_iff, decide_eq_true_iff]
        exact ⟨fun h => by omega, fun h => ⟨by omega, HA.out⟩⟩
      go_wp2
      go_ret
      exact ⟨ret_bool HT.out.symm, HB.out⟩

theorem vw_split (x y : Int) (f : List Pn) (h1 : 1 ≤ x ∧ x ≤ 200) (h2 : 1 ≤ y ∧ y ≤ 200) : vwB x y f = vpsB f := by
  rw [Bool.eq_iff_iff, vwB_iff]
  unfold vpsB VW
  rw [decide_eq_true_iff]
  exact ⟨fun h => h.2.2, fun h => ⟨h1, h2, h⟩⟩

set_option maxHeartbeats 3200000 in
set_option maxRecDepth 100000 in
theorem svalidWork_c (x y : Int) (f : List Pn) (A : Option Addr) (c : Nat) (w : World) (h : Row paneE w (.slice A f.length c) f) (hn : f.length ≤ 4194304) : Calls Try.prog 49 #[.agg #[.int .i64 x, .int .i64 y, .slice A f.length c]] w fun e w' => e = .returned (.bool (vwB x y f)) ∧ Below w.heap.size w w' := by
  have HB0 := hid ((Below.refl w.heap.size w).alloc (Nat.le_refl _) (.cells #[.int .i64 x, .int .i64 y, .slice A f.length c] 35))
  have HH := hid (h.go HB0.out)
  clear h
  by_cases h1 : 1 ≤ x ∧ x ≤ 200
  · by_cases h2 : 1 ≤ y ∧ y ≤ 200
    · have HS := hid (vw_split x y f h1 h2)
      obtain ⟨a1, a2⟩ := h1
      obtain ⟨a3, a4⟩ := h2
      go_enter Try.func49, Try.ntmps49
      go_wp2_with fail
      refine (inRange_t _ _ _ _ a1 a2).mono ?_; rintro e w1 ⟨rfl, rfl⟩
      go_wp2_with fail
      refine (inRange_t _ _ _ _ a3 a4).mono ?_; rintro e w1 ⟨rfl, rfl⟩
      go_wp2_with fail
      refine (svalidPanes_c _ f _ HH.out hn).mono ?_
      rintro e w2 ⟨rfl, hb⟩
      have HB2 := hid (HB0.out.trans (hb.mono HB0.out.size))
      clear hb
      go_wp2
      go_ret
      exact ⟨ret_bool HS.out.symm, HB2.out⟩
    · have HF : Hid (vwB x y f = false) := vwB_not.2 (fun h => h2 h.2.1)
      have h3 : y < 1 ∨ 200 < y := by omega
      have H3 := hid h3
      obtain ⟨a1, a2⟩ := h1
      clear h2 h3
      go_enter Try.func49, Try.ntmps49
      go_wp2_with fail
      refine (inRange_t _ _ _ _ a1 a2).mono ?_; rintro e w1 ⟨rfl, rfl⟩
      go_wp2_with fail
      refine (inRange_f _ _ _ _ H3.out).mono ?_; rintro e w1 ⟨rfl, rfl⟩
      go_wp2
      go_ret
      exact ⟨ret_bool HF.out.symm, HB0.out⟩
  · have HF : Hid (vwB x y f = false) := vwB_not.2 (fun h => h1 h.1)
    have h3 : x < 1 ∨ 200 < x := by omega
    have H3 := hid h3
    clear h1 h3
    go_enter Try.func49, Try.ntmps49
    go_wp2_with fail
    refine (inRange_f _ _ _ _ H3.out).mono ?_; rintro e w1 ⟨rfl, rfl⟩
    go_wp2
    go_ret
    exact ⟨ret_bool HF.out.symm, HB0.out⟩

end Go.Proofs.Ytkckaooimffdpaa
