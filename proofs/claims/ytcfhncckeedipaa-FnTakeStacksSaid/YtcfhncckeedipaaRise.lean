/-
  Contracts: the longest rises (the program's and the reference's).
-/
import Derived.Test.YtcfhncckeedipaaTurn
import Derived.Test.YtcfhncckeedipaaRiseP
import Derived.StillTailTactics
namespace Go.Proofs.Ytcfhncckeedipaa
set_option linter.unusedSimpArgs false
set_option linter.unusedVariables false
open Go.RowKit

set_option maxHeartbeats 1000000 in
set_option maxRecDepth 100000 in
theorem rises_c (v : Value) (L : List Int) (w : World) (h : Row intE w v L) (hn : L.length ≤ 24) : Calls Try.prog 71 #[v] w fun e w' => ∃ v', e = .returned v' ∧ Own intE 3 w.heap.size w' v' (risesL L) ∧ Below w.heap.size w w' := by
  obtain ⟨A1, c1, rfl, hc1, hm1⟩ := h.form
  unfold maxLen at hm1
  obtain ⟨i0, hi0, hz0, hz1, hz2⟩ := info_parts int_info
  go_enter Try.func71, Try.ntmps71
  go_wp2
  have ho0 := Own.lit0 intE w w.heap.size 3 (Nat.le_refl _)
  have hb0 : Below w.heap.size w (w.alloc (.cells #[] 3)) := (Below.refl _ _).alloc (Nat.le_refl _) _
  go_loopw [3, 4] (fun v i wr => ∃ k : Nat, i = .int .i64 k ∧ k ≤ L.length ∧ Below w.heap.size w wr ∧ Own intE 3 w.heap.size wr v (risesTo L k)) (fun _ i _ => L.length - (intOf i).toNat)
  case atStart => exact ⟨0, rfl, by omega, hb0, ho0⟩
  case round =>
    obtain ⟨k, rfl, hk, hb, ho⟩ := hrel
    clear ho0 hb0
    obtain ⟨wo, rfl⟩ : ∃ wo : World, wo = wr := ⟨_, rfl⟩
    by_cases hlt : k < L.length
    · obtain ⟨b1, o1, rfl, hlt1, hx⟩ := row_cells1 (h.below hb) (by omega)
      have hxk := hx k hlt
      have hrow := ho.rowB
      have hlen := risesTo_len L k
      obtain ⟨A2, c2, rfl, hc2, hm2⟩ := hrow.form
      unfold maxLen at hm2
      have HX := hid hx
      have HH := hid h
      have HB := hid hb
      have HO := hid ho
      have HR := hid hrow
      rw [hlen] at hc2
      clear hx h hb ho hrow
      go_wp2
      go_loopw [5, 6] (fun n j wi => ∃ q : Nat, j = .int .i64 q ∧ q ≤ k ∧ n = .int .i64 (riseTo L (risesTo L k) k q) ∧ Dr wo wi) (fun _ j _ => k - (intOf j).toNat)
      case atStart => exact ⟨0, rfl, by omega, rfl, Dr.refl _⟩
      case round =>
        obtain ⟨q, rfl, hq, rfl, hd⟩ := hrel
        have hlo := riseTo_lo L (risesTo L k) k q
        have hhi := riseTo_hi L (risesTo L k) k k (by omega) (risesTo_hi L k) q
        by_cases hqk : q < k
        · have hql : q < L.length := by omega
          have hqr : q < (risesTo L k).length := by rw [hlen]; exact hqk
          obtain ⟨b2, o2, hA2, -, hy⟩ := row_cells1 (HR.out.dr hd) (by rw [hlen]; omega)
          subst hA2
          have hc1' : wr.cell? ⟨b1, o1 + q, none⟩ = some (.int .i64 L[q]) := (hd.cell _).trans (HX.out q hql)
          have hc2' : wr.cell? ⟨b1, o1 + k, none⟩ = some (.int .i64 L[k]) := (hd.cell _).trans hxk
          have hc3' := hy q hqr
          have b3 := risesTo_at_hi L k q hqr
          have b4 := risesTo_at_lo L k q hqr
          have HD := hid hd
          clear hy hd hxk hlen
          by_cases hlt2 : L[q] < L[k]
          · have HE := hid (riseTo_yes hql hlt hqr hlt2)
            go_wp2
            go_quiet (fail)
            go_wp2
            have hmx : max (riseTo L (risesTo L k) k q) ((risesTo L k)[q] + 1) = riseTo L (risesTo L k) k (q + 1) := HE.out.symm
            refine ⟨⟨q + 1, by go_num, by omega, ?_, HD.out.step _⟩, by simp [intOf]; omega⟩
            rw [← hmx, max_if]
          · have HE := hid (riseTo_no (R := risesTo L k) hql hlt hlt2)
            go_wp2
            go_quiet (fail)
            go_wp2
            refine ⟨⟨q + 1, by go_num, by omega, by rw [HE.out], HD.out.step _⟩, by simp [intOf]; omega⟩
        · have e : q = k := by omega
          subst e
          have ho1 := HO.out.dr hd
          have HB1 := hid (HB.out.trans (hd.below _))
          go_wp2_with (at_builtin; refine wpList_push intE _ rfl (.tmp 35) (.tmp 37) _ rfl w.heap.size 3 i0 _ 8 Try.underlying24 hi0 hz0 hz1 hz2 rfl (by omega) _ (risesTo L q) rfl ho1 _ (riseTo L (risesTo L q) q q) rfl rfl (by rw [hlen]; omega) HB1.out.size ?_)
          intro v' w' ho' hg' hat'
          have hb' := HB1.out.grown hg' HB1.out.size (fun k hk => (ho1.lt k ((ownBlock_slice _ _ _ _ _).trans hk)).1)
          go_wp2
          refine ⟨⟨q + 1, by go_num, by omega, hb', ho'⟩, by simp [intOf]; omega⟩
    · have e : k = L.length := by omega
      subst e
      go_wp2
      go_ret
      exact ⟨_, rfl, ho, hb⟩

set_option maxHeartbeats 1000000 in
set_option maxRecDepth 100000 in
theorem risesOf_c (v : Value) (L : List Int) (w : World) (h : Row intE w v L) (hn : L.length ≤ 24) : Calls Try.prog 69 #[v] w fun e w' => ∃ v', e = .returned v' ∧ Own intE 3 w.heap.size w' v' (risesL L) ∧ Below w.heap.size w w' := by
  obtain ⟨A1, c1, rfl, hc1, hm1⟩ := h.form
  unfold maxLen at hm1
  obtain ⟨i0, hi0, hz0, hz1, hz2⟩ := info_parts int_info
  go_enter Try.func69, Try.ntmps69
  go_wp2_with (at_make; refine wpList_mk intE _ rfl _ _ 24 rfl w.heap.size 3 i0 _ 0 8 Try.underlying24 hi0 hz0 hz1 hz2 rfl _ _ _ _ L.length rfl rfl rfl rfl (by omega) (by omega) (Nat.le_refl _) ?_)
  intro w1 hown hgr hlt1
  have HB1 := hid ((Below.refl _ _).grown hgr (Nat.le_refl _) (by simp) : Below w.heap.size w w1)
  have HO1 := hid hown
  clear hown hgr
  go_wp2
  go_loopw [13] (fun i wr => ∃ k : Nat, i = .int .i64 k ∧ k ≤ L.length ∧ Below w.heap.size w wr ∧ Own intE 3 w.heap.size wr (.slice (some ⟨w.heap.size, 0, none⟩) L.length L.length) (risesTo L k ++ List.replicate (L.length - k) 0)) (fun i _ => L.length - (intOf i).toNat)
  case atStart => exact ⟨0, rfl, by omega, HB1.out, by simpa [risesTo] using HO1.out⟩
  case round =>
    obtain ⟨k, rfl, hk, hb, ho⟩ := hrel
    obtain ⟨wo, rfl⟩ : ∃ wo : World, wo = wr := ⟨_, rfl⟩
    by_cases hlt : k < L.length
    · obtain ⟨b1, o1, rfl, hlt1, hx⟩ := row_cells1 (h.below hb) (by omega)
      have hxk := hx k hlt
      have hfr := ho.frozen (by simp [risesTo_len]; omega) k
      have hcl := ho.own_int (by simp [risesTo_len]; omega) k (by simp [risesTo_len]; omega)
      obtain ⟨ho2, -⟩ := ho.store1 rfl k 1 (.int .i64 1) rfl (by simp [risesTo_len]; omega)
      rw [riseRow_start L k hlt] at ho2
      have hsz := hb.size
      have HH := hid h
      have HB := hid (hb.setCell (p := ⟨w.heap.size, k, none⟩) (Nat.le_refl _) (.int .i64 1))
      have HO := hid ho2
      clear hx h hb ho ho2 HO1 HB1
      go_wp2
      go_loopw [25] (fun j wi => ∃ q : Nat, j = .int .i64 q ∧ q ≤ k ∧ Below w.heap.size w wi ∧ Own intE 3 w.heap.size wi (.slice (some ⟨w.heap.size, 0, none⟩) L.length L.length) (riseRow L k q)) (fun j _ => k - (intOf j).toNat)
      case atStart => exact ⟨0, rfl, by omega, HB.out, HO.out⟩
      case round =>
        obtain ⟨q, rfl, hq, hb, ho⟩ := hrel
        clear hfr hcl hsz
        have hlen := riseRow_len L k q hlt
        have hlo := riseTo_lo L (risesTo L k) k q
        have hhi := riseTo_hi L (risesTo L k) k k (by omega) (risesTo_hi L k) q
        obtain ⟨b2, o2, hA, hlt2, hx⟩ := row_cells1 (HH.out.below hb) (by omega)
        injection hA with hA
        injection hA with hA1 hA2
        subst hA1; subst hA2
        by_cases hqk : q < k
        · have hql : q < L.length := by omega
          have hqr : q < (risesTo L k).length := by rw [risesTo_len]; exact hqk
          have hc1' := hx q hql
          have hc3' := ho.own_int (by omega) q (by omega)
          rw [riseRow_at L k q q hqk] at hc3'
          have hc4' := ho.own_int (by omega) k (by omega)
          rw [riseRow_self L k q] at hc4'
          have hfr := ho.frozen (by omega) k
          have b3 := risesTo_at_hi L k q hqr
          have b4 := risesTo_at_lo L k q hqr
          have hsz := hb.size
          have HB := hid hb
          clear hx hb
          by_cases hlt3 : L[q] < L[k]
          · obtain ⟨ho2, -⟩ := ho.store1 rfl k (max (riseTo L (risesTo L k) k q) ((risesTo L k)[q] + 1)) (.int .i64 (max (riseTo L (risesTo L k) k q) ((risesTo L k)[q] + 1))) rfl (by omega)
            rw [riseRow_set L k q (q + 1) _ (riseTo_yes hql hlt hqr hlt3).symm] at ho2
            have HO2 := hid ho2
            clear ho ho2 hlen HO HH
            go_wp2
            go_still_tail 13, (by kernel_rfl)
            go_wp2
            rw [max_if]
            exact ⟨⟨q + 1, by go_num, by omega, (HB.out.setCell (p := ⟨w.heap.size, k, none⟩) (Nat.le_refl _) _).drew, HO2.out⟩, by simp [intOf]; omega⟩
          · have HE := hid (riseTo_no (R := risesTo L k) hql hlt hlt3)
            have HO2 := hid ho
            clear ho hlen HO HH
            go_wp2
            refine ⟨⟨q + 1, by go_num, by omega, HB.out, ?_⟩, by simp [intOf]; omega⟩
            have e : riseRow L k (q + 1) = riseRow L k q := by unfold riseRow; rw [HE.out]
            rw [e]
            exact HO2.out
        · have e : q = k := by omega
          subst e
          rw [riseRow_end] at ho
          have HO2 := hid ho
          have HB := hid hb
          clear ho hb
          go_wp2
          refine ⟨⟨q + 1, by go_num, by omega, HB.out, HO2.out⟩, by simp [intOf]; omega⟩
    · have e : k = L.length := by omega
      subst e
      go_wp2
      go_ret
      exact ⟨_, rfl, by unfold risesL; simpa using ho, hb⟩

end Go.Proofs.Ytcfhncckeedipaa
