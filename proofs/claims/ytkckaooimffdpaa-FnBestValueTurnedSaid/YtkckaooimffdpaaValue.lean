/-
  Contracts: the bound of values, by the program and by the reference.
-/
import Derived.Test.YtkckaooimffdpaaWorkV
import Derived.StillTailTactics
namespace Go.Proofs.Ytkckaooimffdpaa
set_option linter.unusedSimpArgs false
set_option linter.unusedVariables false
open Go.RowKit

def okV (V : List Int) : Prop := ∀ v ∈ V, 1 ≤ v ∧ v ≤ 1000
def OB (x y : Int) (f : List Pn) (V : List Int) : Prop := VW x y f ∧ x ≤ 16 ∧ y ≤ 16 ∧ f.length ≤ 7 ∧ V.length = f.length ∧ okV V
instance (V : List Int) : Decidable (okV V) := by unfold okV; infer_instance
instance (x y : Int) (f : List Pn) (V : List Int) : Decidable (OB x y f V) := by unfold OB; infer_instance
def obB (x y : Int) (f : List Pn) (V : List Int) : Bool := decide (OB x y f V)
theorem obB_iff {x y : Int} {f : List Pn} {V : List Int} : obB x y f V = true ↔ OB x y f V := by unfold obB; rw [decide_eq_true_iff]
theorem obB_not {x y : Int} {f : List Pn} {V : List Int} (h : ¬ OB x y f V) : obB x y f V = false := by unfold obB; rw [decide_eq_false_iff_not]; exact h
def okVTo (V : List Int) (k : Nat) : Prop := ∀ v ∈ V.take k, 1 ≤ v ∧ v ≤ 1000
theorem okVTo_succ {V : List Int} {k : Nat} (hk : k < V.length) (h : okVTo V k) (h2 : 1 ≤ V[k] ∧ V[k] ≤ 1000) : okVTo V (k + 1) := fun p hp => by
  rw [List.take_succ_eq_append_getElem hk] at hp
  rcases List.mem_append.1 hp with hp | hp
  · exact h p hp
  · simp at hp; subst hp; exact h2
theorem okVTo_end {V : List Int} {k : Nat} (hk : V.length ≤ k) (h : okVTo V k) : okV V := fun p hp => h p (by rw [List.take_of_length_le hk]; exact hp)

set_option maxHeartbeats 3200000 in
set_option maxRecDepth 100000 in
theorem bestTold_c (x y : Int) (f : List Pn) (A : Option Addr) (c : Nat) (v : Value) (V : List Int) (w : World) (h : Row paneE w (.slice A f.length c) f) (h' : Row intE w v V) : Calls Try.prog 35 #[.agg #[.int .i64 x, .int .i64 y, .slice A f.length c], v] w fun e w' => e = .returned (.bool (obB x y f V)) ∧ Below w.heap.size w w' := by
  obtain ⟨-, hc1, hm1, -⟩ := h.at_
  obtain ⟨A2, c2, rfl, hc2, hm2⟩ := h'.form
  unfold maxLen at hm1 hm2
  have hb0 := (Below.refl w.heap.size w).alloc (Nat.le_refl _) (.cells #[.int .i64 x, .int .i64 y, .slice A f.length c] 35)
  have HB0 := hid hb0
  have HQ0 := hid (Blk.new w #[.int .i64 x, .int .i64 y, .slice A f.length c] 35)
  have HH := hid (h.go hb0)
  have HV := hid (h'.go hb0)
  clear h h' hb0
  go_enter Try.func35, Try.ntmps35
  go_wp2_with fail
  refine (ValidWork_c x y f A c _ HH.out).mono ?_
  rintro e w1 ⟨rfl, hb⟩
  have HB1 := hid (HB0.out.trans (hb.mono HB0.out.size))
  have HQ1 := hid (HQ0.out.go hb)
  have HV1 := hid (HV.out.go hb)
  have c_q := fun (o : Nat) => HQ1.out.cell o
  have l_q := HQ1.out.lt
  clear hb
  cases hv : vwB x y f with
  | false =>
    have HF := hid (obB_not (V := V) (fun h => by have := vwB_iff.2 h.1; rw [hv] at this; cases this))
    clear hv
    go_wp2
    go_ret
    exact ⟨ret_bool HF.out.symm, HB1.out⟩
  | true =>
    have HVW := hid (vwB_iff.1 hv)
    clear hv
    by_cases hs : (x ≤ 16 ∧ y ≤ 16) ∧ f.length ≤ 7 ∧ V.length = f.length
    · obtain ⟨⟨s1, s2⟩, s3, s4⟩ := hs
      have HS := hid (show (x ≤ 16 ∧ y ≤ 16) ∧ f.length ≤ 7 ∧ V.length = f.length from ⟨⟨s1, s2⟩, s3, s4⟩)
      have e1 : ((V.length : Int) != (f.length : Int)) = false := by simp [s4]
      clear s4
      go_wp2
      go_loopw [34] (fun i wr => ∃ k : Nat, i = .int .i64 k ∧ k ≤ V.length ∧ okVTo V k ∧ Below w1.heap.size w1 wr) (fun i _ => V.length - (intOf i).toNat)
      case atStart => exact ⟨0, rfl, by omega, fun p hp => by simp at hp, Below.refl _ _⟩
      case round =>
        obtain ⟨k, rfl, hk, ho, hb⟩ := hrel
        have HO := hid ho
        have HBo := hid hb
        have HB := hid (HB1.out.trans (hb.mono HB1.out.size))
        have HR := hid (HV1.out.go hb)
        clear ho hb
        by_cases hlt : k < V.length
        · obtain ⟨b1, o1, rfl, hb1, hx⟩ := row_cells1 HR.out (by omega)
          have x0 := hx k hlt
          clear hx
          by_cases hp : 1 ≤ V[k] ∧ V[k] ≤ 1000
          · have HO2 := hid (okVTo_succ hlt HO.out hp)
            obtain ⟨t1, t2⟩ := hp
            go_wp2
            exact ⟨⟨k + 1, by go_num, by omega, HO2.out, HBo.out⟩, by simp [intOf]; omega⟩
          · have HF := hid (obB_not (x := x) (y := y) (f := f) (V := V) (fun h => hp (h.2.2.2.2.2 _ (List.getElem_mem hlt))))
            have hcase : V[k] < 1 ∨ (1 ≤ V[k] ∧ 1000 < V[k]) := by omega
            clear hp
            rcases hcase with t1 | ⟨t1, t2⟩
            all_goals
              go_wp2
              go_ret
              exact ⟨ret_bool HF.out.symm, HB.out⟩
        · have HT := hid (obB_iff.2 (show OB x y f V from ⟨HVW.out, HS.out.1.1, HS.out.1.2, HS.out.2.1, HS.out.2.2, okVTo_end (by omega) HO.out⟩))
          go_wp2
          go_ret
          exact ⟨ret_bool HT.out.symm, HB.out⟩
    · have HF := hid (obB_not (x := x) (y := y) (f := f) (V := V) (fun h => hs ⟨⟨h.2.1, h.2.2.1⟩, h.2.2.2.1, h.2.2.2.2.1⟩))
      have hcase : 16 < x ∨ (x ≤ 16 ∧ 16 < y) ∨ (x ≤ 16 ∧ y ≤ 16 ∧ 7 < f.length) ∨ (x ≤ 16 ∧ y ≤ 16 ∧ f.length ≤ 7 ∧ V.length ≠ f.length) := by omega
      clear hs
      rcases hcase with t1 | ⟨t1, t2⟩ | ⟨t1, t2, t3⟩ | ⟨t1, t2, t3, t4⟩
      · go_wp2
        go_ret
        exact ⟨ret_bool HF.out.symm, HB1.out⟩
      · go_wp2
        go_ret
        exact ⟨ret_bool HF.out.symm, HB1.out⟩
      · go_wp2
        go_ret
        exact ⟨ret_bool HF.out.symm, HB1.out⟩
      · have e1 : ((V.length : Int) != (f.length : Int)) = true := by simp; omega
        clear t4
        go_wp2
        go_ret
        exact ⟨ret_bool HF.out.symm, HB1.out⟩

set_option maxHeartbeats 3200000 in
set_option maxRecDepth 100000 in
theorem svalidValues_c (x y : Int) (f : List Pn) (A : Option Addr) (c : Nat) (v : Value) (V : List Int) (w : World) (h : Row paneE w (.slice A f.length c) f) (h' : Row intE w v V) (hn : f.length ≤ 4194304) : Calls Try.prog 37 #[.agg #[.int .i64 x, .int .i64 y, .slice A f.length c], v] w fun e w' => e = .returned (.bool (obB x y f V)) ∧ Below w.heap.size w w' := by
  obtain ⟨-, hc1, hm1, -⟩ := h.at_
  obtain ⟨A2, c2, rfl, hc2, hm2⟩ := h'.form
  unfold maxLen at hm1 hm2
  have hb0 := (Below.refl w.heap.size w).alloc (Nat.le_refl _) (.cells #[.int .i64 x, .int .i64 y, .slice A f.length c] 35)
  have HB0 := hid hb0
  have HQ0 := hid (Blk.new w #[.int .i64 x, .int .i64 y, .slice A f.length c] 35)
  have HH := hid (h.go hb0)
  have HV := hid (h'.go hb0)
  have c_q := fun (o : Nat) => HQ0.out.cell o
  have l_q := HQ0.out.lt
  clear h h' hb0
  go_enter Try.func37, Try.ntmps37
  go_wp2
  go_loopw [5] (fun i wr => ∃ k : Nat, i = .int .i64 k ∧ k ≤ V.length ∧ okVTo V k ∧ wr = w.alloc (.cells #[.int .i64 x, .int .i64 y, .slice A f.length c] 35)) (fun i _ => V.length - (intOf i).toNat)
  case atStart => exact ⟨0, rfl, by omega, fun p hp => by simp at hp, rfl⟩
  case round =>
    obtain ⟨k, rfl, hk, ho, rfl⟩ := hrel
    have HO := hid ho
    clear ho
    by_cases hlt : k < V.length
    · obtain ⟨b1, o1, rfl, hb1, hx⟩ := row_cells1 HV.out (by omega)
      have x0 := hx k hlt
      clear hx
      by_cases hp : 1 ≤ V[k] ∧ V[k] ≤ 1000
      · have HO2 := hid (okVTo_succ hlt HO.out hp)
        obtain ⟨t1, t2⟩ := hp
        go_wp2_with fail
        refine (inRange_t _ _ _ _ t1 t2).mono ?_; rintro e w3 ⟨rfl, rfl⟩
        go_wp2
        exact ⟨⟨k + 1, by go_num, by omega, HO2.out, by first | trivial | rfl⟩, by simp [intOf]; omega⟩
      · have HF := hid (obB_not (x := x) (y := y) (f := f) (V := V) (fun h => hp (h.2.2.2.2.2 _ (List.getElem_mem hlt))))
        have hcase : V[k] < 1 ∨ 1000 < V[k] := by omega
        have HC := hid hcase
        clear hp hcase
        go_wp2_with fail
        refine (inRange_f _ _ _ _ HC.out).mono ?_; rintro e w3 ⟨rfl, rfl⟩
        go_wp2
        go_ret
        exact ⟨ret_bool HF.out.symm, HB0.out⟩
    · have HVV := hid (okVTo_end (by omega) HO.out)
      go_wp2_with fail
      refine (svalidWork_c x y f A c _ HH.out hn).mono ?_
      rintro e w3 ⟨rfl, hb⟩
      have HB3 := hid (HB0.out.trans (hb.mono HB0.out.size))
      have HQ3 := hid (HQ0.out.go hb)
      clear hb c_q l_q
      have c_q := fun (o : Nat) => HQ3.out.cell o
      have l_q := HQ3.out.lt
      cases hv : vwB x y f with
      | false =>
        have HF := hid (obB_not (V := V) (fun h => by have := vwB_iff.2 h.1; rw [hv] at this; cases this))
        clear hv
        go_wp2
        go_ret
        exact ⟨ret_bool HF.out.symm, HB3.out⟩
      | true =>
        have HVW := hid (vwB_iff.1 hv)
        clear hv
        by_cases hs : V.length = f.length
        · have e1 : ((V.length : Int) == (f.length : Int)) = true := by simp [hs]
          have HS := hid hs
          clear hs
          by_cases h7 : V.length ≤ 7
          · have d7 : decide ((V.length : Int) ≤ 7) = true := decide_eq_true (by omega)
            by_cases h16 : x ≤ 16
            · have d16 : decide (x ≤ 16) = true := decide_eq_true h16
              have HT : Hid (obB x y f V = decide (y ≤ 16)) := by
                rw [Hid, Bool.eq_iff_iff, obB_iff, decide_eq_true_iff]
                exact ⟨fun h => h.2.2.1, fun h => ⟨HVW.out, h16, h, by have := HS.out; omega, HS.out, HVV.out⟩⟩
              go_wp2
              go_ret
              exact ⟨ret_bool HT.out.symm, HB3.out⟩
            · have d16 : decide (x ≤ 16) = false := decide_eq_false h16
              have HF := hid (obB_not (x := x) (y := y) (f := f) (V := V) (fun h => h16 h.2.1))
              go_wp2
              go_ret
              exact ⟨ret_bool HF.out.symm, HB3.out⟩
          · have d7 : decide ((V.length : Int) ≤ 7) = false := decide_eq_false (by omega)
            have HF := hid (obB_not (x := x) (y := y) (f := f) (V := V) (fun h => h7 (by have := h.2.2.2.1; have := HS.out; omega)))
            go_wp2
            go_ret
            exact ⟨ret_bool HF.out.symm, HB3.out⟩
        · have e1 : ((V.length : Int) == (f.length : Int)) = false := by rw [beq_eq_false_iff_ne]; omega
          have HF := hid (obB_not (x := x) (y := y) (f := f) (V := V) (fun h => hs h.2.2.2.2.1))
          clear hs
          go_wp2
          go_ret
          exact ⟨ret_bool HF.out.symm, HB3.out⟩

def vbL (x y : Int) (Z : List (Int × Pn)) : Int := Z.foldl (fun a q => max a (q.1 * x * y / (q.2.w * q.2.h))) 0
def vbK (x y : Int) (V : List Int) (f : List Pn) (k : Nat) : Int := vbL x y ((V.zip f).take k)
theorem vbK_zero (x y : Int) (V : List Int) (f : List Pn) : vbK x y V f 0 = 0 := by simp [vbK, vbL]
theorem vbK_succ (x y : Int) (V : List Int) (f : List Pn) (k : Nat) (h1 : k < V.length) (h2 : k < f.length) : vbK x y V f (k + 1) = max (vbK x y V f k) (V[k] * x * y / (f[k].w * f[k].h)) := by
  unfold vbK vbL
  rw [List.take_succ_eq_append_getElem (show k < (V.zip f).length by simp; omega), List.foldl_append]
  simp
theorem vbK_succ' (x y : Int) (V : List Int) (f : List Pn) (k : Nat) (h1 : k < V.length) (h2 : k < f.length) : vbK x y V f (k + 1) = if vbK x y V f k < V[k] * x * y / (f[k].w * f[k].h) then V[k] * x * y / (f[k].w * f[k].h) else vbK x y V f k := by
  rw [vbK_succ x y V f k h1 h2]
  split <;> omega
theorem vb_num {x y v : Int} (hx : 1 ≤ x ∧ x ≤ 16) (hy : 1 ≤ y ∧ y ≤ 16) (hv : 1 ≤ v ∧ v ≤ 1000) : (0 ≤ v * x ∧ v * x ≤ 16000) ∧ (0 ≤ v * x * y ∧ v * x * y ≤ 256000) := by
  have h1 : v * x ≤ 1000 * 16 := Int.mul_le_mul (by omega) (by omega) (by omega) (by omega)
  have h2 := Int.mul_nonneg (show 0 ≤ v by omega) (show 0 ≤ x by omega)
  have h3 : v * x * y ≤ 16000 * 16 := Int.mul_le_mul (by omega) (by omega) (by omega) (by omega)
  have h4 := Int.mul_nonneg h2 (show 0 ≤ y by omega)
  omega
theorem vb_quo {n d : Int} (h : 0 ≤ n ∧ n ≤ 256000) (hd : 1 ≤ d) : 0 ≤ n / d ∧ n / d ≤ 256000 := by
  have h1 := Int.ediv_nonneg h.1 (show 0 ≤ d by omega)
  have h2 : n / d ≤ n := Int.ediv_le_self _ h.1
  omega
theorem vbK_bd {x y : Int} {f : List Pn} {V : List Int} (h : OB x y f V) : ∀ k, k ≤ V.length → 0 ≤ vbK x y V f k ∧ vbK x y V f k ≤ 256000 := by
  intro k
  induction k with
  | zero => intro _; rw [vbK_zero]; omega
  | succ k ih =>
    intro hk
    have hl := h.2.2.2.2.1
    have h1 := ih (by omega)
    rw [vbK_succ x y V f k (by omega) (by omega)]
    have hv := h.2.2.2.2.2 _ (List.getElem_mem (show k < V.length by omega))
    have hp := (h.1.2.2.2 _ (List.getElem_mem (show k < f.length by omega))).area
    have h2 := vb_num (x := x) (y := y) ⟨h.1.1.1, h.2.1⟩ ⟨h.1.2.1.1, h.2.2.1⟩ hv
    have h3 := vb_quo h2.2 hp.1
    omega
def vbOut (x y : Int) (f : List Pn) (V : List Int) : Int := if obB x y f V = true then vbK x y V f V.length else -1
theorem vbOut_t {x y : Int} {f : List Pn} {V : List Int} (h : obB x y f V = true) : vbOut x y f V = vbK x y V f V.length := by simp [vbOut, h]
theorem vbOut_f {x y : Int} {f : List Pn} {V : List Int} (h : obB x y f V = false) : vbOut x y f V = -1 := by simp [vbOut, h]

end Go.Proofs.Ytkckaooimffdpaa
