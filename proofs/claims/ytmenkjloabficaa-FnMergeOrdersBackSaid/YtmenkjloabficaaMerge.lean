/-
  Contracts: what two orders are together, by the program and by the reference.
-/
import Derived.Test.YtmenkjloabficaaOrdS
import Derived.Test.YtmenkjloabficaaCat
import Derived.StillTailTactics
import Derived.Deep.RegionHeld3
import Derived.Lib.SliceRun
namespace Go.Proofs.Ytmenkjloabficaa
set_option linter.unusedSimpArgs false
set_option linter.unusedVariables false
open Go.RowKit

def OwRes (base : Nat) (L : List Ln) (w : World) (e : Ending) (w' : World) : Prop := ∃ v, e = .returned v ∧ Own lineE 56 base w' v L ∧ Below w.heap.size w w'

set_option maxHeartbeats 1600000 in
set_option maxRecDepth 100000 in
theorem CloneLine_c (v : Value) (L : List Ln) (w : World) (h : Row lineE w v L) (hn : L.length ≤ 4194304) : Calls Try.prog 49 #[v] w (OwRes w.heap.size L w) := by
  obtain ⟨i0, hi0, hz0, hz1, hz2⟩ := info_parts line_info
  have qN : ∀ (w : World) (a : Option Addr) (n c n' c' : Nat), (binOp .eql 26 (.slice a n c) (.slice none n' c')).run Try.prog w = .ok (.bool a.isNone) w := fun w a n c n' c' => Lib.run_eql_slice_nil w _ _ a n c n' c' Try.underlying26
  have HH0 := hid h
  obtain ⟨A1, c1, rfl, hc1, hm1⟩ := h.form
  unfold maxLen at hm1
  have HN : Hid (([] : List Ln).length + L.length ≤ 4194304) := by rw [Hid]; simpa using hn
  have HO := hid (Own.lit0 lineE w w.heap.size 56 (Nat.le_refl _))
  have HB : Hid (Below w.heap.size w (w.alloc (.cells #[] 56))) := (Below.refl _ _).alloc (Nat.le_refl _) _
  have HR := hid (HH0.out.below HB.out)
  have hsz := HB.out.size
  cases A1 with
  | none =>
    have hl : L = [] := by
      obtain ⟨-, -, -, h4⟩ := HH0.out.at_
      rcases Nat.eq_zero_or_pos L.length with h0 | h0
      · exact List.length_eq_zero_iff.1 h0
      · obtain ⟨b, off, e, -⟩ := h4 h0
        cases e
    subst hl
    clear h
    go_enter Try.func49, Try.ntmps49
    go_wp2
    go_ret
    exact ⟨_, rfl, Own.nil_ _ _ _, Below.refl _ _⟩
  | some A =>
    obtain ⟨L2, hL2⟩ : ∃ Z : List Ln, Z = [] ++ L := ⟨_, rfl⟩
    have HL2 := hid hL2
    clear h hL2
    go_enter Try.func49, Try.ntmps49
    go_wp2_with (at_builtin; refine wpList_cat lineE _ rfl (.tmp 5) (.tmp 6) _ rfl w.heap.size 56 i0 _ 40 Try.underlying26 hi0 hz0 hz1 hz2 rfl (by omega) _ _ rfl HO.out _ _ _ rfl HR.out HN.out hsz L2 HL2.out ?_)
    intro v5 w5 ho5 hg5 hat5
    have HO5 := hid (show Own lineE 56 w.heap.size w5 v5 L by rw [HL2.out, List.nil_append] at ho5; exact ho5)
    have HB5 := hid (HB.out.grown hg5 hsz (fun z hz => (HO.out.lt z hz).1))
    clear ho5 hg5 hat5
    go_wp2
    go_ret
    exact ⟨_, rfl, HO5.out, HB5.out⟩

set_option maxHeartbeats 3200000 in
set_option maxRecDepth 100000 in
theorem addLine_c (v : Value) (L : List Ln) (x : Ln) (w : World) (h : Row lineE w v L) (hn : L.length ≤ 100) (hb : ∀ l ∈ L, -100000 ≤ l.c ∧ l.c ≤ 100000) (hx : -1000 ≤ x.c ∧ x.c ≤ 1000) : Calls Try.prog 50 #[v, .agg #[.int .i64 x.w, .int .i64 x.h, .bool x.t, .int .i64 x.k, .int .i64 x.c]] w (OwRes w.heap.size (addL L x.p x.c) w) := by
  obtain ⟨i0, hi0, hz0, hz1, hz2⟩ := info_parts line_info
  have HH0 := hid (h.go ((Below.refl _ _).alloc (Nat.le_refl _) (.cells #[.int .i64 x.w, .int .i64 x.h, .bool x.t, .int .i64 x.k, .int .i64 x.c] 56)))
  have HQ0 := hid (Blk.new w #[.int .i64 x.w, .int .i64 x.h, .bool x.t, .int .i64 x.k, .int .i64 x.c] 56)
  have HA0 := hid ((Below.refl w.heap.size w).alloc (Nat.le_refl _) (.cells #[.int .i64 x.w, .int .i64 x.h, .bool x.t, .int .i64 x.k, .int .i64 x.c] 56))
  have HBD := hid hb
  obtain ⟨r, hr⟩ := plp_ex L x.p
  have HR := hid hr
  obtain ⟨hx1, hx2⟩ := hx
  clear h hb hr
  go_enter Try.func50, Try.ntmps50
  go_wp2_with fail
  refine (CloneLine_c _ L _ HH0.out (by omega)).mono ?_
  rintro e w1 ⟨v1, rfl, ho1, hb1⟩
  have HO1 := hid (ho1.base_le (base' := w.heap.size) (by simp))
  have HD1 := hid (fun q hq => Nat.ne_of_gt (show w.heap.size < q by have := (ho1.lt q hq).1; simp at this; omega))
  have HB1 := hid (HA0.out.trans (hb1.mono (by simp)))
  have HQ1 := hid (HQ0.out.go hb1)
  have HR1 := hid ho1.rowB
  clear ho1 hb1 HQ0 HA0 HH0
  have c_x := fun (o : Nat) => HQ1.out.cell o
  have l_x := HQ1.out.lt
  go_wp2_with fail
  refine (findLine_c _ L x.p r _ HR1.out HR.out).mono ?_
  rintro e w2 ⟨rfl, hb2⟩
  have HO2 := hid (HO1.out.below hb2)
  have HB2 := hid (HB1.out.trans (hb2.mono HB1.out.size))
  have HQ2 := hid (HQ1.out.go hb2)
  clear hb2 HO1 HB1 HQ1 HR1 c_x l_x
  have c_x := fun (o : Nat) => HQ2.out.cell o
  have l_x := HQ2.out.lt
  have hsz := HB2.out.size
  obtain ⟨hr1, hr2, hr3⟩ := HR.out
  by_cases hrl : r < L.length
  · have hpv := plV_t hrl
    have HE := hid (addL_at L x.p x.c r hrl hr2 (hr3 hrl))
    have hbd := HBD.out _ (List.getElem_mem hrl)
    obtain ⟨hd1, hd2⟩ := hbd
    rw [hpv]
    obtain ⟨g, cap, rfl, hg1, hg2, hcap, hmc⟩ := HO2.out.form (by omega)
    unfold maxLen at hmc
    have y4 : w2.cell? ⟨g, r * 5 + 4, none⟩ = some (.int .i64 L[r].c) := HO2.out.cellAt rfl r 4 hrl (by decide)
    have hfz := HO2.out.frozen rfl (r * 5 + 4)
    have hgx : g ≠ w.heap.size := HD1.out g rfl
    obtain ⟨ho3, hg3⟩ := HO2.out.field r 4 (.int .i64 (L[r].c + x.c)) (L[r].p.ln (L[r].c + x.c)) rfl hrl (by decide) rfl
    have HO3 := hid (show Own lineE 56 w.heap.size _ _ (addL L x.p x.c) by rw [HE.out]; exact ho3)
    have HB3 := hid (HB2.out.setCell (p := ⟨g, r * 5 + 4, none⟩) hg1 (.int .i64 (L[r].c + x.c)))
    have hs1 : IntKind.i64.wrap (L[r].c + x.c) = L[r].c + x.c := IntWalk.i64_in _ (by omega)
    clear hr1 hr2 hr3 hpv ho3 hg3
    go_wp2
    go_still_tail 10, (by kernel_rfl)
    go_wp2
    go_ret
    exact ⟨_, rfl, HO3.out.dr (Dr.refl _).one, HB3.out.drew⟩
  · have hpv := plV_f (L := L) hrl
    have HE := hid (addL_none L x.p x.c (fun l hl => hr2 l (by rw [List.take_of_length_le (by omega)]; exact hl)))
    rw [hpv]
    obtain ⟨M2, hM2⟩ : ∃ Z, Z = L ++ [x] := ⟨_, rfl⟩
    have HM2 := hid hM2
    have HN : Hid (L.length ≤ 4194304) := by rw [Hid]; omega
    clear hr1 hr2 hr3 hpv hM2
    go_wp2_with (at_builtin; refine wpList_pushN lineE _ rfl (.tmp 26) (.tmp 28) _ rfl w.heap.size 56 i0 _ 40 Try.underlying26 hi0 hz0 hz1 hz2 rfl (by omega) _ _ rfl HO2.out _ x _ rfl rfl (by simp) HN.out hsz M2 HM2.out ?_)
    intro v5 w5 ho5 hg5 hat5
    have HO5 := hid (show Own lineE 56 w.heap.size w5 v5 (addL L x.p x.c) by rw [HE.out]; rw [HM2.out] at ho5; exact ho5)
    have HB5 := hid (HB2.out.grown hg5 hsz (fun z hz => (HO2.out.lt z hz).1))
    clear ho5 hg5 hat5
    go_wp2
    go_ret
    exact ⟨_, rfl, HO5.out, HB5.out⟩

set_option maxHeartbeats 3200000 in
set_option maxRecDepth 100000 in
theorem saddPanes_c (v : Value) (L : List Ln) (p : Pn) (c : Int) (w : World) (h : Row lineE w v L) (hn : L.length ≤ 100) (hb : ∀ l ∈ L, -100000 ≤ l.c ∧ l.c ≤ 100000) (hx : -1000 ≤ c ∧ c ≤ 1000) : Calls Try.prog 48 #[v, .agg #[.int .i64 p.w, .int .i64 p.h, .bool p.t, .int .i64 p.k], .int .i64 c] w (OwRes w.heap.size (addL L p c) w) := by
  obtain ⟨i0, hi0, hz0, hz1, hz2⟩ := info_parts line_info
  obtain ⟨A1, c1, rfl, hc1, hm1⟩ := h.form
  have HB0 := hid ((Below.refl w.heap.size w).alloc (Nat.le_refl _) (.cells #[.int .i64 p.w, .int .i64 p.h, .bool p.t, .int .i64 p.k] 38))
  have HQ0 := hid ((Blk.new w #[.int .i64 p.w, .int .i64 p.h, .bool p.t, .int .i64 p.k] 38).alloc (.cells #[] 56))
  have HB1 := hid (HB0.out.alloc HB0.out.size (.cells #[] 56))
  have HO1 := hid (show Own lineE 56 (w.heap.size + 1) ((w.alloc (.cells #[.int .i64 p.w, .int .i64 p.h, .bool p.t, .int .i64 p.k] 38)).alloc (.cells #[] 56)) (.slice (some ⟨w.heap.size + 1, 0, none⟩) 0 0) [] by simpa using Own.lit0 lineE (w.alloc (.cells #[.int .i64 p.w, .int .i64 p.h, .bool p.t, .int .i64 p.k] 38)) (w.heap.size + 1) 56 (by simp))
  have HR1 := hid (RowB.below h HB1.out)
  have HN : Hid (([] : List Ln).length + L.length ≤ 4194304) := by rw [Hid]; simp; omega
  have HBD := hid hb
  obtain ⟨hx1, hx2⟩ := hx
  obtain ⟨L2, hL2⟩ : ∃ Z : List Ln, Z = [] ++ L := ⟨_, rfl⟩
  have HL2 := hid hL2
  clear h hL2 hb
  go_enter Try.func48, Try.ntmps48
  go_wp2_with (at_builtin; refine wpList_cat lineE _ rfl (.tmp 9) (.tmp 10) _ rfl (w.heap.size + 1) 56 i0 _ 40 Try.underlying26 hi0 hz0 hz1 hz2 rfl (by omega) _ _ rfl HO1.out _ _ _ rfl HR1.out HN.out (by simp) L2 HL2.out ?_)
  intro v5 w5 ho5 hg5 hat5
  have ho6 : Own lineE 56 (w.heap.size + 1) w5 v5 L := by rw [HL2.out, List.nil_append] at ho5; exact ho5
  have HB5 := hid (HB1.out.grown hg5 HB1.out.size (fun z hz => by have := (HO1.out.lt z hz).1; omega))
  have HQ5 := hid (HQ0.out.grown hg5 (fun e => by have := (HO1.out.lt _ e.symm).1; omega))
  obtain ⟨A, cap, rfl, hcap, hmc, hA⟩ := ho6.shape
  unfold maxLen at hmc
  have HO6 := hid ho6
  have HD6 := hid (fun q hq => (show q ≠ w.heap.size by have := (ho6.lt q hq).1; omega))
  have HAA := hid hA
  clear ho5 hg5 hat5 ho6 hA HQ0 HB0 HB1 HO1 HR1 HN HL2
  go_wp2
  go_loopw [8] (fun i wr => ∃ k : Nat, i = .int .i64 k ∧ k ≤ L.length ∧ (∀ l ∈ L.take k, l.p ≠ p) ∧ Dr w5 wr) (fun i _ => L.length - (intOf i).toNat)
  case atStart => exact ⟨0, rfl, by omega, by simp, Dr.refl _⟩
  case round =>
    obtain ⟨k, rfl, hk, hno, hd⟩ := hrel
    have HNO := hid hno
    have HD := hid hd
    have HO7 := hid (HO6.out.dr hd)
    have HQ7 := hid (HQ5.out.go (hd.below _))
    have HB7 := hid (HB5.out.trans (hd.below _))
    have hsz7 := HB7.out.size
    clear hno hd
    have c_p := fun (o : Nat) => HQ7.out.cell o
    have l_p := HQ7.out.lt
    by_cases hlt : k < L.length
    · obtain ⟨g, rfl, hg1, hg2⟩ := HAA.out (by omega)
      have y0 : wr.cell? ⟨g, k * 5, none⟩ = some (.int .i64 L[k].w) := HO7.out.cellAt rfl k 0 hlt (by decide)
      have y1 : wr.cell? ⟨g, k * 5 + 1, none⟩ = some (.int .i64 L[k].h) := HO7.out.cellAt rfl k 1 hlt (by decide)
      have y2 : wr.cell? ⟨g, k * 5 + 2, none⟩ = some (.bool L[k].t) := HO7.out.cellAt rfl k 2 hlt (by decide)
      have y3 : wr.cell? ⟨g, k * 5 + 3, none⟩ = some (.int .i64 L[k].k) := HO7.out.cellAt rfl k 3 hlt (by decide)
      by_cases he : L[k].p = p
      · obtain ⟨g1, g2, g3, g4⟩ := pane_eq he
        simp only [Ln.p] at g1 g2 g3 g4
        have HE := hid (addL_at L p c k hlt HNO.out he)
        have hbd := HBD.out _ (List.getElem_mem hlt)
        obtain ⟨hd1, hd2⟩ := hbd
        clear he
        have HX := hid (show ∀ wz, Dr wr wz → Own lineE 56 w.heap.size (wz.setCell ⟨g, k * 5 + 4, none⟩ (.int .i64 (L[k].c + c))) (.slice (some ⟨g, 0, none⟩) L.length cap) (addL L p c) ∧ Below w.heap.size w (wz.setCell ⟨g, k * 5 + 4, none⟩ (.int .i64 (L[k].c + c))) from fun wz hz => by
          have h1 := ((HO7.out.dr hz).field k 4 (.int .i64 (L[k].c + c)) (L[k].p.ln (L[k].c + c)) rfl hlt (by decide) rfl).1
          rw [HE.out]
          exact ⟨h1.base_le (by omega), (HB7.out.trans (hz.below _)).setCell (p := ⟨g, k * 5 + 4, none⟩) (by show w.heap.size ≤ g; omega) _⟩)
        go_wp2
        go_quiet (fail)
        obtain ⟨W2, hW2⟩ : ∃ Z : World, Z = wr.drewN nq := ⟨_, rfl⟩
        have y4 : W2.cell? ⟨g, k * 5 + 4, none⟩ = some (.int .i64 L[k].c) := by rw [hW2]; exact HO7.out.cellAt rfl k 4 hlt (by decide)
        have hfz : W2.frozen? ⟨g, k * 5 + 4, none⟩ = false := by rw [hW2]; exact HO7.out.frozen rfl (k * 5 + 4)
        have HDW : Hid (Dr wr W2) := ⟨nq, hW2⟩
        rw [← hW2]
        clear hW2 y0 y1 y2 y3 c_p
        have hs1 : IntKind.i64.wrap (L[k].c + c) = L[k].c + c := IntWalk.i64_in _ (by omega)
        go_wp2
        go_ret
        exact ⟨_, rfl, (HX.out _ HDW.out).1, (HX.out _ HDW.out).2⟩
      · have HNO2 : Hid (∀ l ∈ L.take (k + 1), l.p ≠ p) := fun l hl => by
          rw [List.take_succ_eq_append_getElem hlt] at hl
          rcases List.mem_append.1 hl with hl | hl
          · exact HNO.out l hl
          · simp at hl; subst hl; exact he
        have hcase := pane_ne he
        simp only [Ln.p] at hcase
        clear he
        rcases hcase with g1 | ⟨g1, g2⟩ | ⟨g1, g2, g3⟩ | ⟨g1, g2, g3, g4⟩
        all_goals
          go_wp2
          go_quiet (fail)
          go_wp2
          exact ⟨⟨k + 1, by go_num, by omega, HNO2.out, HD.out.step _⟩, by simp [intOf]; omega⟩
    · have HE := hid (addL_none L p c (fun l hl => HNO.out l (by rw [List.take_of_length_le (by omega)]; exact hl)))
      obtain ⟨M2, hM2⟩ : ∃ Z, Z = L ++ [p.ln c] := ⟨_, rfl⟩
      have HM2 := hid hM2
      have HN : Hid (L.length ≤ 4194304) := by rw [Hid]; omega
      have HO8 := hid (HO7.out.base_le (base' := w.heap.size) (by omega))
      clear hM2
      go_wp2_with (at_builtin; refine wpList_pushN lineE _ rfl (.tmp 37) (.tmp 41) _ rfl w.heap.size 56 i0 _ 40 Try.underlying26 hi0 hz0 hz1 hz2 rfl (by omega) _ _ rfl HO8.out _ (p.ln c) _ rfl rfl (by simp) HN.out hsz7 M2 HM2.out ?_)
      intro v9 w9 ho9 hg9 hat9
      have HO9 := hid (show Own lineE 56 w.heap.size w9 v9 (addL L p c) by rw [HE.out]; rw [HM2.out] at ho9; exact ho9)
      have HB9 := hid (HB7.out.grown hg9 hsz7 (fun z hz => (HO8.out.lt z hz).1))
      clear ho9 hg9 hat9
      go_wp2
      go_ret
      exact ⟨_, rfl, HO9.out, HB9.out⟩

theorem mergeTo_bd {a b : List Ln} (ha : VO a) (hb : VO b) : ∀ k, k ≤ b.length → ∀ l ∈ mergeL a (b.take k), -(24 + 1000 * (k : Int)) ≤ l.c ∧ l.c ≤ 24 + 1000 * (k : Int) := by
  intro k
  induction k with
  | zero => intro _ l hl; rw [List.take_zero, mergeL_nil] at hl; have := (ha.2.1 l hl).2; omega
  | succ k ih =>
    intro hk l hl
    rw [mergeL_succ a b k (by omega)] at hl
    have hc := (hb.2.1 _ (List.getElem_mem (show k < b.length by omega))).2
    have := addL_bd (B := 24 + 1000 * (k : Int)) (by omega) (ih (by omega)) (by omega) l hl
    omega
theorem mergeTo_ok {a b : List Ln} (ha : VO a) (hb : VO b) {k : Nat} (hk : k ≤ b.length) : (mergeL a (b.take k)).length ≤ 100 ∧ ∀ l ∈ mergeL a (b.take k), -100000 ≤ l.c ∧ l.c ≤ 100000 := by
  have h1 := ha.1
  have h2 := hb.1
  refine ⟨?_, fun l hl => ?_⟩
  · have := mergeL_len a (b.take k)
    have := List.length_take_le k b
    omega
  · have := mergeTo_bd ha hb k hk l hl
    omega
def mergeOk (a b : List Ln) : Bool := voB a && voB b && voB (mergeL a b)
def mergeOut (a b : List Ln) : List Ln := if mergeOk a b = true then mergeL a b else []
theorem mergeOk_iff {a b : List Ln} : mergeOk a b = true ↔ VO a ∧ VO b ∧ VO (mergeL a b) := by rw [mergeOk, Bool.and_eq_true, Bool.and_eq_true, voB_iff, voB_iff, voB_iff, and_assoc]
theorem mergeOk_t {a b : List Ln} (h : VO a) (h2 : VO b) (h3 : VO (mergeL a b)) : mergeOk a b = true := mergeOk_iff.2 ⟨h, h2, h3⟩
theorem mergeOk_f {a b : List Ln} (h : ¬ (VO a ∧ VO b ∧ VO (mergeL a b))) : mergeOk a b = false := by rw [← Bool.not_eq_true, mergeOk_iff]; exact h
theorem mergeOut_t {a b : List Ln} (h : mergeOk a b = true) : mergeOut a b = mergeL a b := by simp [mergeOut, h]
theorem mergeOut_f {a b : List Ln} (h : mergeOk a b = false) : mergeOut a b = [] := by simp [mergeOut, h]
theorem mergeOut_len (a b : List Ln) : (mergeOut a b).length ≤ 8 := by
  cases h : mergeOk a b with
  | false => rw [mergeOut_f h]; simp
  | true => rw [mergeOut_t h]; exact (mergeOk_iff.1 h).2.2.1
def MgRes (base : Nat) (a b : List Ln) (w : World) (e : Ending) (w' : World) : Prop := ∃ v, e = .returned (.tuple #[v, .bool (mergeOk a b)]) ∧ Own lineE 56 base w' v (mergeOut a b) ∧ Below w.heap.size w w'
theorem ret_vbm {v : Value} {a b : Bool} (h : a = b) : Ending.returned (.tuple #[v, .bool a]) = .returned (.tuple #[v, .bool b]) := by rw [h]

set_option maxHeartbeats 6400000 in
set_option maxRecDepth 100000 in
theorem MergeOrders_c (v u : Value) (a b : List Ln) (w : World) (h : Row lineE w v a) (h' : Row lineE w u b) : Calls Try.prog 35 #[v, u] w (MgRes w.heap.size a b w) := by
  obtain ⟨i0, hi0, hz0, hz1, hz2⟩ := info_parts line_info
  have HH0 := hid h
  have HG0 := hid h'
  obtain ⟨A1, c1, rfl, hc1, hm1⟩ := h.form
  obtain ⟨A2, c2, rfl, hc2, hm2⟩ := h'.form
  unfold maxLen at hm1 hm2
  clear h h'
  go_enter Try.func35, Try.ntmps35
  go_wp2_with fail
  refine (ValidOrder_c _ a _ HH0.out).mono ?_
  rintro e w1 ⟨rfl, hb⟩
  have HB := hid hb
  have HG1 := hid (HG0.out.go hb)
  have HH1 := hid (HH0.out.go hb)
  clear hb
  cases hv : voB a with
  | false =>
    have hk : mergeOk a b = false := mergeOk_f (fun h => by have := voB_iff.2 h.1; rw [hv] at this; cases this)
    have HE := hid (mergeOut_f hk)
    have HK := hid hk
    clear hv hk
    go_wp2
    go_ret2
    exact ⟨_, ret_vbm HK.out.symm, by rw [HE.out]; exact Own.nil_ _ _ _, HB.out⟩
  | true =>
    have HV := hid (voB_iff.1 hv)
    have h8 := HV.out.1
    clear hv
    go_wp2_with fail
    refine (ValidOrder_c _ b _ HG1.out).mono ?_
    rintro e w2 ⟨rfl, hb⟩
    have HB2 := hid (HB.out.trans (hb.mono HB.out.size))
    have HH2 := hid (HH1.out.go hb)
    clear hb
    cases hv : voB b with
    | false =>
      have hk : mergeOk a b = false := mergeOk_f (fun h => by have := voB_iff.2 h.2.1; rw [hv] at this; cases this)
      have HE := hid (mergeOut_f hk)
      have HK := hid hk
      clear hv hk
      go_wp2
      go_ret2
      exact ⟨_, ret_vbm HK.out.symm, by rw [HE.out]; exact Own.nil_ _ _ _, HB2.out⟩
    | true =>
      have HV2 := hid (voB_iff.1 hv)
      have h82 := HV2.out.1
      clear hv
      go_wp2_with fail
      refine (CloneLine_c _ a _ HH2.out (by omega)).mono ?_
      rintro e w3 ⟨v3, rfl, ho3, hb3⟩
      have HO3 := hid (ho3.base_le HB2.out.size)
      have HB3 := hid (HB2.out.trans (hb3.mono HB2.out.size))
      clear ho3 hb3
      go_wp2
      go_loopw [6, 21] (fun o i wr => ∃ k : Nat, i = .int .i64 k ∧ k ≤ b.length ∧ Own lineE 56 w.heap.size wr o (mergeL a (b.take k)) ∧ Below w.heap.size w wr) (fun _ i _ => b.length - (intOf i).toNat)
      case atStart => exact ⟨0, rfl, by omega, by simpa [mergeL_nil] using HO3.out, HB3.out⟩
      case round =>
        obtain ⟨k, rfl, hk, ho, hb⟩ := hrel
        have HO := hid ho
        have HBr := hid hb
        have HR := hid (HG0.out.go hb)
        have hsz := hb.size
        clear ho hb HO3 HB3
        by_cases hlt : k < b.length
        · obtain ⟨b1, o1, rfl, hb1, hx⟩ := row_lines HR.out (by omega)
          obtain ⟨x0, x1, x2, x3, x4⟩ := hx k hlt
          have hc24 := (HV2.out.2.1 _ (List.getElem_mem hlt)).2
          have HOKM := hid (mergeTo_ok HV.out HV2.out (k := k) (by omega))
          have HSU := hid (mergeL_succ a b k hlt)
          have HA := hid ((Below.refl wr.heap.size wr).alloc (Nat.le_refl _) (.cells #[.int .i64 b[k].w, .int .i64 b[k].h, .bool b[k].t, .int .i64 b[k].k, .int .i64 b[k].c] 56))
          have HRW := hid ((HO.out.below HA.out).rowB)
          clear hx
          go_wp2_with fail
          refine (addLine_c _ _ b[k] _ HRW.out HOKM.out.1 HOKM.out.2 (by omega)).mono ?_
          rintro e w5 ⟨v5, rfl, ho5, hb5⟩
          have HB5 := hid (HBr.out.trans ((HA.out.trans (hb5.mono HA.out.size)).mono hsz))
          have HO5 := hid (show Own lineE 56 w.heap.size w5 v5 (mergeL a (b.take (k + 1))) by rw [HSU.out]; exact ho5.base_le (Nat.le_trans hsz HA.out.size))
          clear ho5 hb5
          go_wp2
          exact ⟨⟨k + 1, by go_num, by omega, HO5.out, HB5.out⟩, by simp [intOf]; omega⟩
        · have HO5 := hid (show Own lineE 56 w.heap.size wr _ (mergeL a b) by have := HO.out; rw [List.take_of_length_le (by omega)] at this; exact this)
          have HRW := hid HO5.out.rowB
          clear HO
          go_wp2_with fail
          refine (ValidOrder_c _ (mergeL a b) _ HRW.out).mono ?_
          rintro e w5 ⟨rfl, hb⟩
          have HB5 := hid (HBr.out.trans (hb.mono hsz))
          have HO6 := hid (HO5.out.below hb)
          clear hb
          cases hv : voB (mergeL a b) with
          | false =>
            have hk : mergeOk a b = false := mergeOk_f (fun h => by have := voB_iff.2 h.2.2; rw [hv] at this; cases this)
            have HE := hid (mergeOut_f hk)
            have HK := hid hk
            clear hv hk
            go_wp2
            go_ret2
            exact ⟨_, ret_vbm HK.out.symm, by rw [HE.out]; exact Own.nil_ _ _ _, HB5.out⟩
          | true =>
            have hk : mergeOk a b = true := mergeOk_t HV.out HV2.out (voB_iff.1 hv)
            have HK := hid hk
            have HF := hid (show Own lineE 56 w.heap.size w5 _ (mergeOut a b) by rw [mergeOut_t hk]; exact HO6.out)
            clear hk hv
            go_wp2
            go_ret2
            exact ⟨_, ret_vbm HK.out.symm, HF.out, HB5.out⟩

set_option maxHeartbeats 6400000 in
set_option maxRecDepth 100000 in
theorem sMergeOrders_c (v u : Value) (a b : List Ln) (w : World) (h : Row lineE w v a) (h' : Row lineE w u b) (hna : a.length ≤ 4194304) (hnb : b.length ≤ 4194304) : Calls Try.prog 34 #[v, u] w (MgRes w.heap.size a b w) := by
  obtain ⟨i0, hi0, hz0, hz1, hz2⟩ := info_parts line_info
  have HH0 := hid h
  have HG0 := hid h'
  obtain ⟨A1, c1, rfl, hc1, hm1⟩ := h.form
  obtain ⟨A2, c2, rfl, hc2, hm2⟩ := h'.form
  unfold maxLen at hm1 hm2
  clear h h'
  go_enter Try.func34, Try.ntmps34
  go_wp2_with fail
  refine (svalidOrder_c _ a _ HH0.out hna).mono ?_
  rintro e w1 ⟨rfl, hb⟩
  have HB := hid hb
  have HG1 := hid (HG0.out.go hb)
  have HH1 := hid (HH0.out.go hb)
  clear hb
  cases hv : voB a with
  | false =>
    have hk : mergeOk a b = false := mergeOk_f (fun h => by have := voB_iff.2 h.1; rw [hv] at this; cases this)
    have HE := hid (mergeOut_f hk)
    have HK := hid hk
    clear hv hk
    go_wp2
    go_ret2
    exact ⟨_, ret_vbm HK.out.symm, by rw [HE.out]; exact Own.nil_ _ _ _, HB.out⟩
  | true =>
    have HV := hid (voB_iff.1 hv)
    have h8 := HV.out.1
    clear hv
    go_wp2_with fail
    refine (svalidOrder_c _ b _ HG1.out hnb).mono ?_
    rintro e w2 ⟨rfl, hb⟩
    have HB2 := hid (HB.out.trans (hb.mono HB.out.size))
    have HH2 := hid (HH1.out.go hb)
    clear hb
    cases hv : voB b with
    | false =>
      have hk : mergeOk a b = false := mergeOk_f (fun h => by have := voB_iff.2 h.2.1; rw [hv] at this; cases this)
      have HE := hid (mergeOut_f hk)
      have HK := hid hk
      clear hv hk
      go_wp2
      go_ret2
      exact ⟨_, ret_vbm HK.out.symm, by rw [HE.out]; exact Own.nil_ _ _ _, HB2.out⟩
    | true =>
      have HV2 := hid (voB_iff.1 hv)
      have h82 := HV2.out.1
      clear hv
      have HA3 := hid (HB2.out.alloc HB2.out.size (.cells #[] 56))
      have HL3 := hid (Own.lit0 lineE w2 w.heap.size 56 HB2.out.size)
      have HR3 := hid (HH0.out.below HA3.out)
      have HN : Hid (([] : List Ln).length + a.length ≤ 4194304) := by rw [Hid]; simp; omega
      obtain ⟨L2, hL2⟩ : ∃ Z : List Ln, Z = [] ++ a := ⟨_, rfl⟩
      have HL2 := hid hL2
      have hsz2 := HB2.out.size
      clear hL2
      go_wp2_with (at_builtin; refine wpList_cat lineE _ rfl (.tmp 16) (.tmp 17) _ rfl w.heap.size 56 i0 _ 40 Try.underlying26 hi0 hz0 hz1 hz2 rfl (by omega) _ _ rfl HL3.out _ _ _ rfl HR3.out HN.out (by simp; omega) L2 HL2.out ?_)
      intro v3 w3 ho3 hg3 hat3
      have HO3 := hid (show Own lineE 56 w.heap.size w3 v3 a by rw [HL2.out, List.nil_append] at ho3; exact ho3)
      have HB3 := hid (HA3.out.grown hg3 HA3.out.size (fun z hz => (HL3.out.lt z hz).1))
      clear ho3 hg3 hat3 HL2 HL3 HR3 HA3 HN
      go_wp2
      go_loopw [6, 7] (fun o i wr => ∃ k : Nat, i = .int .i64 k ∧ k ≤ b.length ∧ Own lineE 56 w.heap.size wr o (mergeL a (b.take k)) ∧ Below w.heap.size w wr) (fun _ i _ => b.length - (intOf i).toNat)
      case atStart => exact ⟨0, rfl, by omega, by simpa [mergeL_nil] using HO3.out, HB3.out⟩
      case round =>
        obtain ⟨k, rfl, hk, ho, hb⟩ := hrel
        have HO := hid ho
        have HBr := hid hb
        have HR := hid (RowB.below HG0.out hb)
        have hsz := hb.size
        clear ho hb HO3 HB3
        by_cases hlt : k < b.length
        · obtain ⟨b1, o1, rfl, hb1, hx⟩ := row_lines HR.out (by omega)
          obtain ⟨x0, x1, x2, x3, x4⟩ := hx k hlt
          have hc24 := (HV2.out.2.1 _ (List.getElem_mem hlt)).2
          have HOKM := hid (mergeTo_ok HV.out HV2.out (k := k) (by omega))
          have HSU := hid (mergeL_succ a b k hlt)
          have HRW := hid ((HO.out.dr (Dr.refl _).one).rowB)
          have HC24 : Hid (-1000 ≤ b[k].c ∧ b[k].c ≤ 1000) := by rw [Hid]; omega
          clear hx
          go_wp2
          go_region_held3 (fun w' => ∀ b o, b < w.heap.size → w'.cell? ⟨b, o, none⟩ = wr.cell? ⟨b, o, none⟩) (first | with_reducible exact fun b o h => ((Below.refl w.heap.size wr).drew).cell (p := ⟨b, o, none⟩) h | with_reducible exact fun b o h => ZW.out.cell (p := ⟨b, o, none⟩) h | fail)
            (first | (go_at_call 48; refine (saddPanes_c _ _ b[k].p b[k].c _ HRW.out HOKM.out.1 HOKM.out.2 HC24.out).mono ?_; rintro e w5 ⟨v5, rfl, ho5, hb5⟩; have ZO := hid ho5; have ZW := hid ((Below.refl w.heap.size wr).drew.trans (hb5.mono hsz)); clear ho5 hb5) | fail)
          all_goals
            have HB5 := hid (HBr.out.trans ZW.out)
            have HO5 := hid (show Own lineE 56 w.heap.size _ _ (mergeL a (b.take (k + 1))) by rw [HSU.out]; exact ZO.out.base_le hsz)
            go_wp2
            exact ⟨⟨k + 1, by go_num, by omega, HO5.out, HB5.out⟩, by simp [intOf]; omega⟩
        · have HO5 := hid (show Own lineE 56 w.heap.size wr _ (mergeL a b) by have := HO.out; rw [List.take_of_length_le (by omega)] at this; exact this)
          have HRW := hid HO5.out.rowB
          have hml := mergeL_len a b
          clear HO
          go_wp2_with fail
          refine (svalidOrder_c _ (mergeL a b) _ HRW.out (by omega)).mono ?_
          rintro e w5 ⟨rfl, hb⟩
          have HB5 := hid (HBr.out.trans (hb.mono hsz))
          have HO6 := hid (HO5.out.below hb)
          clear hb
          cases hv : voB (mergeL a b) with
          | false =>
            have hk : mergeOk a b = false := mergeOk_f (fun h => by have := voB_iff.2 h.2.2; rw [hv] at this; cases this)
            have HE := hid (mergeOut_f hk)
            have HK := hid hk
            clear hv hk
            go_wp2
            go_ret2
            exact ⟨_, ret_vbm HK.out.symm, by rw [HE.out]; exact Own.nil_ _ _ _, HB5.out⟩
          | true =>
            have hk : mergeOk a b = true := mergeOk_t HV.out HV2.out (voB_iff.1 hv)
            have HK := hid hk
            have HF := hid (show Own lineE 56 w.heap.size w5 _ (mergeOut a b) by rw [mergeOut_t hk]; exact HO6.out)
            clear hk hv
            go_wp2
            go_ret2
            exact ⟨_, ret_vbm HK.out.symm, HF.out, HB5.out⟩

end Go.Proofs.Ytmenkjloabficaa
