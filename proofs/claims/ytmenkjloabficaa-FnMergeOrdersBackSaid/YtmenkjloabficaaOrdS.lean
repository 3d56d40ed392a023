/-
  Contracts: valid orders by the reference; the area of an order.
-/
import Derived.Test.YtmenkjloabficaaOrd
import Derived.BigQuiet
import Derived.Deep.QuietTactic
namespace Go.Proofs.Ytmenkjloabficaa
set_option linter.unusedSimpArgs false
set_option linter.unusedVariables false
open Go.RowKit

theorem pane_eq {a b : Pn} (h : a = b) : (a.w == b.w) = true ∧ (a.h == b.h) = true ∧ (a.t == b.t) = true ∧ (a.k == b.k) = true := by subst h; simp
theorem goodTo.sum {L : List Ln} {k : Nat} (h : goodTo L k) : 0 ≤ sumC (L.take k) ∧ sumC (L.take k) ≤ 24 * k := by
  have h1 := sumC_bd (L := L.take k) (fun l hl => (h.1 l hl).2)
  have h2 : (L.take k).length ≤ k := List.length_take_le _ _
  omega

set_option maxHeartbeats 3200000 in
set_option maxRecDepth 100000 in
theorem svalidOrder_c (v : Value) (L : List Ln) (w : World) (h : Row lineE w v L) (hn : L.length ≤ 4194304) : Calls Try.prog 37 #[v] w fun e w' => e = .returned (.bool (voB L)) ∧ Below w.heap.size w w' := by
  obtain ⟨A1, c1, rfl, hc1, hm1⟩ := h.form
  unfold maxLen at hm1
  have HH := hid h
  clear h
  go_enter Try.func37, Try.ntmps37
  go_wp2
  go_loopw [3, 4] (fun s i wr => ∃ k : Nat, ∃ n : Int, i = .int .i64 k ∧ s = .int .i64 n ∧ n = sumC (L.take k) ∧ 0 ≤ n ∧ n ≤ 24 * (k : Int) ∧ k ≤ L.length ∧ goodTo L k ∧ Below w.heap.size w wr) (fun _ i _ => L.length - (intOf i).toNat)
  case atStart => exact ⟨0, 0, rfl, rfl, by simp [sumC], by omega, by omega, by omega, goodTo_zero L, Below.refl _ _⟩
  case round =>
    obtain ⟨k, n, rfl, rfl, hns, hn0, hn1, hk, hg, hb⟩ := hrel
    have HNS := hid hns
    have HG := hid hg
    have HB := hid hb
    have HR := hid (HH.out.go hb)
    have hsz := hb.size
    clear hns hg hb
    by_cases hlt : k < L.length
    · obtain ⟨b1, o1, rfl, hb1, hx⟩ := row_lines HR.out (by omega)
      obtain ⟨x0, x1, x2, x3, x4⟩ := hx k hlt
      clear hx
      by_cases hp : okPn L[k].p
      · have HP := hid hp
        clear hp
        go_wp2_with fail
        refine (svalidPane_t L[k].p _ HP.out).mono ?_
        rintro e w2 ⟨rfl, hb⟩
        have HB2 := hid (HB.out.trans (hb.mono HB.out.size))
        have HR2 := hid (HR.out.go hb)
        have x4' := (hb.cell (p := ⟨b1, o1 + k * 5 + 4, none⟩) hb1).trans x4
        have hb1' : b1 < w2.heap.size := by have := hb.size; omega
        clear hb x0 x1 x2 x3 x4
        by_cases hc : 1 ≤ L[k].c ∧ L[k].c ≤ 24
        · obtain ⟨hc1', hc2'⟩ := hc
          go_wp2_with fail
          refine (inRange_t _ _ _ _ hc1' hc2').mono ?_
          rintro e w3 ⟨rfl, hw⟩
          obtain rfl := hw
          go_wp2
          go_loopw [5] (fun i wi => ∃ q : Nat, i = .int .i64 q ∧ q ≤ k ∧ (∀ l ∈ L.take q, l.p ≠ L[k].p) ∧ Dr w2 wi) (fun i _ => k - (intOf i).toNat)
          case atStart => exact ⟨0, rfl, by omega, by simp, Dr.refl _⟩
          case round =>
            obtain ⟨q, rfl, hq, hno, hd⟩ := hrel
            have HNO := hid hno
            have HD := hid hd
            clear hno hd
            obtain ⟨b9, o9, e9, -, hy⟩ := row_lines (HR2.out.drR HD.out) (by omega)
            simp only [Option.some.injEq, Addr.mk.injEq, and_true] at e9
            obtain ⟨rfl, rfl⟩ := e9
            obtain ⟨y0, y1, y2, y3, y4⟩ := hy k hlt
            by_cases hqk : q < k
            · have hql : q < L.length := by omega
              obtain ⟨z0, z1, z2, z3, z4⟩ := hy q hql
              clear hy
              by_cases he : L[q].p = L[k].p
              · have HF : Hid (voB L = false) := voB_not.2 (fun hv => hv.no_dup k hlt (List.mem_map.2 ⟨L[q], List.mem_take_iff_getElem.2 ⟨q, by omega, rfl⟩, he⟩))
                obtain ⟨g1, g2, g3, g4⟩ := pane_eq he
                simp only [Ln.p] at g1 g2 g3 g4
                have HE := hid he
                clear he
                go_wp2
                go_quiet (fail)
                go_wp2
                go_ret
                exact ⟨ret_bool HF.out.symm, HB2.out.trans ((HD.out.step _).below _)⟩
              · have HNO2 : Hid (∀ l ∈ L.take (q + 1), l.p ≠ L[k].p) := fun l hl => by
                  rw [List.take_succ_eq_append_getElem hql] at hl
                  rcases List.mem_append.1 hl with hl | hl
                  · exact HNO.out l hl
                  · simp at hl; subst hl; exact he
                have hcase := pane_ne he
                simp only [Ln.p] at hcase
                clear he
                rcases hcase with g1 | ⟨g1, g2⟩ | ⟨g1, g2, g3⟩ | ⟨g1, g2, g3, g4⟩
                all_goals
                  go_wp2
                  go_quiet (fail)
                  go_wp2
                  exact ⟨⟨q + 1, by go_num, by omega, HNO2.out, HD.out.step _⟩, by simp [intOf]; omega⟩
            · have e : q = k := by omega
              have HG2 := hid (goodTo_succ hlt HG.out HP.out hc1' hc2' (fun hin => by
                obtain ⟨l, hl, e2⟩ := List.mem_map.1 hin
                exact HNO.out l (by rw [e]; exact hl) e2))
              have HS2 : Hid (n + L[k].c = sumC (L.take (k + 1))) := by rw [Hid, sumC_succ L k hlt, HNS.out]
              clear e hy
              go_wp2
              exact ⟨⟨k + 1, n + L[k].c, by go_num, by go_num, HS2.out, by omega, by omega, by omega, HG2.out, HB2.out.trans (HD.out.below _)⟩, by simp [intOf]; omega⟩
        · have HF : Hid (voB L = false) := voB_not.2 (fun hv => hc (hv.2.1 _ (List.getElem_mem hlt)).2)
          have hc' : L[k].c < 1 ∨ 24 < L[k].c := by omega
          have HC := hid hc'
          clear hc hc'
          go_wp2_with fail
          refine (inRange_f _ _ _ _ HC.out).mono ?_
          rintro e w3 ⟨rfl, hw⟩
          obtain rfl := hw
          go_wp2
          go_ret
          exact ⟨ret_bool HF.out.symm, HB2.out⟩
      · have HF : Hid (voB L = false) := voB_not.2 (fun hv => hp (hv.2.1 _ (List.getElem_mem hlt)).1)
        have HP := hid hp
        clear hp
        go_wp2_with fail
        refine (svalidPane_f L[k].p _ HP.out).mono ?_
        rintro e w2 ⟨rfl, hb⟩
        have HB2 := hid (HB.out.trans (hb.mono HB.out.size))
        clear hb
        go_wp2
        go_ret
        exact ⟨ret_bool HF.out.symm, HB2.out⟩
    · have hnl : n = sumC L := by have := HNS.out; rw [List.take_of_length_le (by omega)] at this; exact this
      have HNL := hid hnl
      clear hnl
      by_cases h8 : L.length ≤ 8
      · have d8 : decide ((L.length : Int) ≤ 8) = true := decide_eq_true (by omega)
        by_cases h24 : n ≤ 24
        · have d24 : decide (n ≤ 24) = true := decide_eq_true h24
          have HT : Hid (voB L = true) := voB_iff.2 (good_end (by omega) HG.out h8 (by rw [← HNL.out]; exact h24))
          go_wp2
          go_ret
          exact ⟨ret_bool HT.out.symm, HB.out⟩
        · have d24 : decide (n ≤ 24) = false := decide_eq_false h24
          have HF : Hid (voB L = false) := voB_not.2 (fun hv => h24 (by rw [HNL.out]; exact hv.2.2.2))
          go_wp2
          go_ret
          exact ⟨ret_bool HF.out.symm, HB.out⟩
      · have d8 : decide ((L.length : Int) ≤ 8) = false := decide_eq_false (by omega)
        have HF : Hid (voB L = false) := voB_not.2 (fun hv => h8 hv.1)
        go_wp2
        go_ret
        exact ⟨ret_bool HF.out.symm, HB.out⟩

def areaV (L : List Ln) : Int := if voB L = true then areaO L else -1
theorem areaV_t {L : List Ln} (h : voB L = true) : areaV L = areaO L := by simp [areaV, h]
theorem areaV_f {L : List Ln} (h : voB L = false) : areaV L = -1 := by simp [areaV, h]
theorem VO.take {L : List Ln} (h : VO L) (k : Nat) : VO (L.take k) :=
  ⟨Nat.le_trans (List.length_take_le' _ _) h.1, fun l hl => h.2.1 l (List.mem_of_mem_take hl), by rw [List.map_take]; exact h.2.2.1.sublist (List.take_sublist _ _), h.sum_to k⟩

set_option maxHeartbeats 3200000 in
set_option maxRecDepth 100000 in
theorem OrderArea_c (v : Value) (L : List Ln) (w : World) (h : Row lineE w v L) : Calls Try.prog 24 #[v] w fun e w' => e = .returned (.int .i64 (areaV L)) ∧ Below w.heap.size w w' := by
  have HH0 := hid h
  obtain ⟨A1, c1, rfl, hc1, hm1⟩ := h.form
  unfold maxLen at hm1
  clear h
  go_enter Try.func24, Try.ntmps24
  go_wp2_with fail
  refine (ValidOrder_c _ L _ HH0.out).mono ?_
  rintro e w1 ⟨rfl, hb⟩
  have HB := hid hb
  have HH := hid (HH0.out.go hb)
  clear hb
  cases hv : voB L with
  | false =>
    have HE := hid (areaV_f hv)
    clear hv
    go_wp2
    go_ret
    exact ⟨ret_int HE.out.symm, HB.out⟩
  | true =>
    have HE := hid (areaV_t hv)
    have HV := hid (voB_iff.1 hv)
    clear hv
    go_wp2
    go_loopw [3, 11] (fun s i wr => ∃ k : Nat, ∃ n : Int, i = .int .i64 k ∧ s = .int .i64 n ∧ n = areaO (L.take k) ∧ k ≤ L.length ∧ Below w.heap.size w wr) (fun _ i _ => L.length - (intOf i).toNat)
    case atStart => exact ⟨0, 0, rfl, rfl, by simp [areaO], by omega, HB.out⟩
    case round =>
      obtain ⟨k, n, rfl, rfl, hns, hk, hb⟩ := hrel
      have HNS := hid hns
      have HBr := hid hb
      have HR := hid (HH0.out.go hb)
      have hsz := hb.size
      have hbd := (HV.out.take k).areaO_bd
      rw [← hns] at hbd
      clear hns hb
      by_cases hlt : k < L.length
      · obtain ⟨b1, o1, rfl, hb1, hx⟩ := row_lines HR.out (by omega)
        obtain ⟨x0, x1, x2, x3, x4⟩ := hx k hlt
        have hl := HV.out.2.1 _ (List.getElem_mem hlt)
        have hok := hl.1
        unfold okPn Ln.p at hok
        simp only at hok
        obtain ⟨e1, e2, e3, e4, e5, e6⟩ := hok
        obtain ⟨-, e7, e8⟩ := hl
        have m1 : 0 ≤ L[k].c * L[k].w := Int.mul_nonneg (by omega) (by omega)
        have m2 : L[k].c * L[k].w ≤ 24 * 200 := Int.mul_le_mul (by omega) (by omega) (by omega) (by omega)
        have m3 : 0 ≤ L[k].c * L[k].w * L[k].h := Int.mul_nonneg m1 (by omega)
        have m4 : L[k].c * L[k].w * L[k].h ≤ 24 * 200 * 200 := Int.mul_le_mul m2 (by omega) (by omega) (by omega)
        have hw1 : IntKind.i64.wrap (L[k].c * L[k].w) = L[k].c * L[k].w := IntWalk.i64_in _ (by omega)
        have hw2 : IntKind.i64.wrap (L[k].c * L[k].w * L[k].h) = L[k].c * L[k].w * L[k].h := IntWalk.i64_in _ (by omega)
        have hw3 : IntKind.i64.wrap (n + L[k].c * L[k].w * L[k].h) = n + L[k].c * L[k].w * L[k].h := IntWalk.i64_in _ (by omega)
        have HN2 : Hid (n + L[k].c * L[k].w * L[k].h = areaO (L.take (k + 1))) := by rw [Hid, areaO_succ L k hlt, HNS.out]
        clear hx m1 m2 m3 m4 hbd
        go_wp2
        exact ⟨⟨k + 1, n + L[k].c * L[k].w * L[k].h, by go_num, rfl, HN2.out, by omega, HBr.out.alloc hsz _⟩, by simp [intOf]; omega⟩
      · have HF : Hid (areaV L = n) := by have := HNS.out; rw [List.take_of_length_le (by omega)] at this; rw [Hid, HE.out, this]
        go_wp2
        go_ret
        exact ⟨ret_int HF.out.symm, HBr.out⟩

end Go.Proofs.Ytmenkjloabficaa
