/-
  Contracts: the area of a stock, by both.
-/
import Derived.Test.YtpicbkakghojnaaStkV
namespace Go.Proofs.Ytpicbkakghojnaa
set_option linter.unusedSimpArgs false
set_option linter.unusedVariables false
open Go.RowKit

def stA (L : List Pc) : Int := (L.map fun p => p.w * p.h).sum
theorem stA_nil : stA [] = 0 := rfl
theorem VP.area {p : Pc} (h : VP p) : 1 ≤ p.w * p.h ∧ p.w * p.h ≤ 40000 := by
  obtain ⟨-, ⟨h1, h2⟩, ⟨h3, h4⟩, -⟩ := h
  have a := Int.mul_le_mul h1 h3 (by decide) (by omega)
  have b := Int.mul_le_mul h2 h4 (by omega) (by decide)
  omega
theorem stA_bd : ∀ (L : List Pc), (∀ p ∈ L, VP p) → 0 ≤ stA L ∧ stA L ≤ 40000 * (L.length : Int)
  | [], _ => by simp [stA]
  | p :: L, h => by
    have h1 := (h p (by simp)).area
    have h2 := stA_bd L (fun q hq => h q (by simp [hq]))
    have e : stA (p :: L) = p.w * p.h + stA L := by simp [stA]
    rw [e, List.length_cons]
    omega
theorem stA_take {L : List Pc} (h : VS L) (k : Nat) (hk : k < L.length) :
    stA (L.take (k + 1)) = stA (L.take k) + L[k].w * L[k].h ∧ 0 ≤ stA (L.take k) ∧ stA (L.take k) ≤ 800000 ∧ 1 ≤ L[k].w * L[k].h ∧ L[k].w * L[k].h ≤ 40000 := by
  have h1 : stA (L.take (k + 1)) = stA (L.take k) + L[k].w * L[k].h := by
    rw [List.take_succ_eq_append_getElem hk]; simp only [stA, List.map_append, List.sum_append, List.map_cons, List.map_nil, List.sum_cons, List.sum_nil, Int.add_zero]
  have h2 := (h.2.1 L[k] (List.getElem_mem hk)).area
  have h3 := stA_bd (L.take k) (fun p hp => h.2.1 p (List.mem_of_mem_take hp))
  have h4 : (L.take k).length ≤ 20 := by have := h.1; simp; omega
  omega
noncomputable def stR (L : List Pc) : Int := if VS L then stA L else -1
theorem stR_t {L : List Pc} (h : VS L) : stR L = stA L := if_pos h
theorem stR_f {L : List Pc} (h : ¬ VS L) : stR L = -1 := if_neg h

set_option maxHeartbeats 3200000 in
set_option maxRecDepth 100000 in
theorem StockArea_c (v : Value) (L : List Pc) (w : World) (h : StR w.heap.size w v L) : Calls Try.prog 29 #[v] w fun e w' => e = .returned (.int .i64 (stR L)) ∧ Below w.heap.size w w' := by
  obtain ⟨A, c, rfl, hc1, hm1⟩ := h.form
  unfold maxLen at hm1
  have HVS := hid (ValidStock_c (.slice A L.length c) L w h)
  by_cases hv : VS L
  · rw [vsB_iff.2 hv] at HVS
    have HR := hid (stR_t hv)
    have HV := hid hv
    clear hv
    go_enter Try.func29, Try.ntmps29
    go_wp2_with fail
    refine HVS.out.mono ?_
    rintro e w1 ⟨rfl, hb⟩
    have HB1 := hid hb
    clear hb
    go_wp2
    go_loopw [3, 11] (fun n i wr => ∃ k : Nat, i = .int .i64 k ∧ k ≤ L.length ∧ n = .int .i64 (stA (L.take k)) ∧ Below w.heap.size w wr) (fun _ i _ => L.length - (intOf i).toNat)
    case atStart => exact ⟨0, rfl, by omega, by simp [stA_nil], HB1.out⟩
    case round =>
      obtain ⟨k, rfl, hk, rfl, hb⟩ := hrel
      by_cases hlt : k < L.length
      · obtain ⟨b1, o1, s, rfl, hb1, ⟨⟨g1, g2, g3⟩, -⟩, x0, x1, x2, x3⟩ := (h.go hb).at_ k hlt
        obtain ⟨e1, e2, e3, e4, e5⟩ := stA_take HV.out k hlt
        rw [← g2, ← g3] at e1 e4 e5
        have hw1 : IntKind.i64.wrap (s.w * s.h) = s.w * s.h := IntWalk.i64_in _ (by omega)
        have hw2 : IntKind.i64.wrap (stA (L.take k) + s.w * s.h) = stA (L.take k) + s.w * s.h := IntWalk.i64_in _ (by omega)
        have HE := hid e1
        have HB := hid hb
        have HB0 := hid (HB.out.alloc HB.out.size (.cells #[.int .i64 s.l, .int .i64 s.w, .int .i64 s.h, .slice s.ka s.kn s.kc] 31))
        clear h hb e1 g1 g2 g3 HVS
        go_wp2
        exact ⟨⟨k + 1, by go_num, by omega, by rw [HE.out], HB0.out⟩, by simp [intOf]; omega⟩
      · have e : stR L = stA (L.take k) := by rw [List.take_of_length_le (by omega)]; exact HR.out
        have HE := hid e
        have HB := hid hb
        clear e hb
        go_wp2
        go_ret
        exact ⟨ret_int HE.out.symm, HB.out⟩
  · rw [vsB_not.2 hv] at HVS
    have HR := hid (stR_f hv)
    clear hv
    go_enter Try.func29, Try.ntmps29
    go_wp2_with fail
    refine HVS.out.mono ?_
    rintro e w1 ⟨rfl, hb⟩
    have HB1 := hid hb
    clear hb
    go_wp2
    go_ret
    exact ⟨ret_int HR.out.symm, HB1.out⟩

set_option maxHeartbeats 3200000 in
set_option maxRecDepth 100000 in
theorem sstockArea_c (v : Value) (L : List Pc) (w : World) (h : StR w.heap.size w v L) (hv : VS L) : Calls Try.prog 63 #[v] w fun e w' => e = .returned (.int .i64 (stA L)) ∧ Below w.heap.size w w' := by
  obtain ⟨A, c, rfl, hc1, hm1⟩ := h.form
  unfold maxLen at hm1
  have HV := hid hv
  clear hv
  go_enter Try.func63, Try.ntmps63
  go_wp2
  go_loopw [3, 4] (fun n i wr => ∃ k : Nat, i = .int .i64 k ∧ k ≤ L.length ∧ n = .int .i64 (stA (L.take k)) ∧ Below w.heap.size w wr) (fun _ i _ => L.length - (intOf i).toNat)
  case atStart => exact ⟨0, rfl, by omega, by simp [stA_nil], Below.refl _ _⟩
  case round =>
    obtain ⟨k, rfl, hk, rfl, hb⟩ := hrel
    by_cases hlt : k < L.length
    · obtain ⟨b1, o1, s, rfl, hb1, ⟨⟨g1, g2, g3⟩, -⟩, x0, x1, x2, x3⟩ := (h.go hb).at_ k hlt
      obtain ⟨e1, e2, e3, e4, e5⟩ := stA_take HV.out k hlt
      rw [← g2, ← g3] at e1 e4 e5
      have hw1 : IntKind.i64.wrap (s.w * s.h) = s.w * s.h := IntWalk.i64_in _ (by omega)
      have hw2 : IntKind.i64.wrap (stA (L.take k) + s.w * s.h) = stA (L.take k) + s.w * s.h := IntWalk.i64_in _ (by omega)
      have HE := hid e1
      have HB := hid hb
      clear h hb e1 g1 g2 g3
      go_wp2
      go_quiet (fail)
      go_wp2
      exact ⟨⟨k + 1, by go_num, by omega, by rw [HE.out], below_drewN HB.out _⟩, by simp [intOf]; omega⟩
    · have e : stA L = stA (L.take k) := by rw [List.take_of_length_le (by omega)]
      have HE := hid e
      have HB := hid hb
      clear e hb
      go_wp2
      go_ret
      exact ⟨ret_int HE.out.symm, HB.out⟩

set_option maxHeartbeats 3200000 in
set_option maxRecDepth 100000 in
theorem sStockArea_c (v : Value) (L : List Pc) (w : World) (h : StR w.heap.size w v L) (hI : S64 L) : Calls Try.prog 28 #[v] w fun e w' => e = .returned (.int .i64 (stR L)) ∧ Below w.heap.size w w' := by
  have HVS := hid (svalidStock_c v L w h hI)
  by_cases hv : VS L
  · rw [vsB_iff.2 hv] at HVS
    have HR := hid (stR_t hv)
    have HV := hid hv
    clear hv
    go_enter Try.func28, Try.ntmps28
    go_wp2_with fail
    refine HVS.out.mono ?_
    rintro e w1 ⟨rfl, hb⟩
    have HB1 := hid hb
    clear hb
    go_wp2_with fail
    refine (sstockArea_c v L _ (h.go HB1.out) HV.out).mono ?_
    rintro e w2 ⟨rfl, hb⟩
    have HB2 := hid (HB1.out.trans (hb.mono HB1.out.size))
    clear hb
    go_wp2
    go_ret
    exact ⟨ret_int HR.out.symm, HB2.out⟩
  · rw [vsB_not.2 hv] at HVS
    have HR := hid (stR_f hv)
    clear hv
    go_enter Try.func28, Try.ntmps28
    go_wp2_with fail
    refine HVS.out.mono ?_
    rintro e w1 ⟨rfl, hb⟩
    have HB1 := hid hb
    clear hb
    go_wp2
    go_ret
    exact ⟨ret_int HR.out.symm, HB1.out⟩

end Go.Proofs.Ytpicbkakghojnaa
