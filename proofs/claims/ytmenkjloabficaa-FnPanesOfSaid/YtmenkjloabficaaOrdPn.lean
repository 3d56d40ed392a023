/-
  Contracts: the panes of an order, by the program and by the reference.
-/
import Derived.Test.YtmenkjloabficaaOrdS
namespace Go.Proofs.Ytmenkjloabficaa
set_option linter.unusedSimpArgs false
set_option linter.unusedVariables false
open Go.RowKit

def panesOut (L : List Ln) : List Pn := if voB L = true then panesL L else []
theorem panesOut_t {L : List Ln} (h : voB L = true) : panesOut L = panesL L := by simp [panesOut, h]
theorem panesOut_f {L : List Ln} (h : voB L = false) : panesOut L = [] := by simp [panesOut, h]
def PnRes (base : Nat) (M : List Pn) (w : World) (e : Ending) (w' : World) : Prop := ∃ v, e = .returned v ∧ Own paneE 38 base w' v M ∧ Below w.heap.size w w'
theorem rep_succ {α : Type} (X : List α) (j : Nat) (p : α) : (X ++ List.replicate j p) ++ [p] = X ++ List.replicate (j + 1) p := by rw [List.append_assoc, List.replicate_succ']
theorem VO.panes_len {L : List Ln} (h : VO L) (k : Nat) : (panesL (L.take k)).length ≤ 24 := by
  have h1 := panesL_len (h.take k).pos
  have := h.sum_to k
  omega
theorem panesOut_len (L : List Ln) : (panesOut L).length ≤ 24 := by
  cases hv : voB L with
  | false => rw [panesOut_f hv]; simp
  | true =>
    rw [panesOut_t hv]
    have h1 := panesL_len (voB_iff.1 hv).pos
    have := (voB_iff.1 hv).2.2.2
    omega

set_option maxHeartbeats 6400000 in
set_option maxRecDepth 100000 in
theorem PanesOf_c (v : Value) (L : List Ln) (w : World) (h : Row lineE w v L) : Calls Try.prog 13 #[v] w (PnRes w.heap.size (panesOut L) w) := by
  obtain ⟨i0, hi0, hz0, hz1, hz2⟩ := info_parts pane_info
  have HH0 := hid h
  obtain ⟨A1, c1, rfl, hc1, hm1⟩ := h.form
  unfold maxLen at hm1
  clear h
  go_enter Try.func13, Try.ntmps13
  go_wp2_with fail
  refine (ValidOrder_c _ L _ HH0.out).mono ?_
  rintro e w1 ⟨rfl, hb⟩
  have HB := hid hb
  have HH := hid (HH0.out.go hb)
  clear hb
  cases hv : voB L with
  | false =>
    have HE := hid (panesOut_f hv)
    clear hv
    go_wp2
    go_ret
    exact ⟨_, rfl, by rw [HE.out]; exact Own.nil_ _ _ _, HB.out⟩
  | true =>
    have HE := hid (panesOut_t hv)
    have HV := hid (voB_iff.1 hv)
    clear hv
    go_wp2
    go_loopw [3, 11] (fun o i wr => ∃ k : Nat, i = .int .i64 k ∧ k ≤ L.length ∧ Own paneE 38 w.heap.size wr o (panesL (L.take k)) ∧ Below w.heap.size w wr) (fun _ i _ => L.length - (intOf i).toNat)
    case atStart => exact ⟨0, rfl, by omega, by simpa [panesL] using Own.nil_ _ _ _, HB.out⟩
    case round =>
      obtain ⟨k, rfl, hk, ho, hb⟩ := hrel
      obtain ⟨wo, rfl⟩ : ∃ wo : World, wo = wr := ⟨_, rfl⟩
      have HO := hid ho
      have HBr := hid hb
      have HR := hid (HH0.out.go hb)
      have hsz := hb.size
      clear ho hb
      by_cases hlt : k < L.length
      · obtain ⟨b1, o1, rfl, hb1, hx⟩ := row_lines HR.out (by omega)
        obtain ⟨x0, x1, x2, x3, x4⟩ := hx k hlt
        obtain ⟨n, hn⟩ := Int.eq_ofNat_of_zero_le (HV.out.pos _ (List.getElem_mem hlt))
        have hn24 := (HV.out.2.1 _ (List.getElem_mem hlt)).2.2
        have hpl := HV.out.panes_len k
        have HSU := hid (panesL_succ L k hlt)
        have hnc : n ≤ 24 := by omega
        have HNC : Hid (L[k].c.toNat = n) := by rw [Hid, hn]; rfl
        have HN := hid hn
        rw [hn] at x4
        have HQ0 := hid (Blk.new wo #[.int .i64 L[k].w, .int .i64 L[k].h, .bool L[k].t, .int .i64 L[k].k, .int .i64 (n : Int)] 56)
        have HO0 := hid (HO.out.alloc (.cells #[.int .i64 L[k].w, .int .i64 L[k].h, .bool L[k].t, .int .i64 L[k].k, .int .i64 (n : Int)] 56))
        have HB0 := hid (HBr.out.alloc hsz (.cells #[.int .i64 L[k].w, .int .i64 L[k].h, .bool L[k].t, .int .i64 L[k].k, .int .i64 (n : Int)] 56))
        have HD0 := hid (fun q hq => Nat.ne_of_lt (HO.out.lt q hq).2)
        clear hx hn hn24
        go_wp2
        go_loopw [3, 17] (fun o j wi => ∃ q : Nat, j = .int .i64 q ∧ q ≤ n ∧ Own paneE 38 w.heap.size wi o (panesL (L.take k) ++ List.replicate q L[k].p) ∧ (∀ z, o.ownBlock = some z → z ≠ wo.heap.size) ∧ Blk wi wo.heap.size #[.int .i64 L[k].w, .int .i64 L[k].h, .bool L[k].t, .int .i64 L[k].k, .int .i64 (n : Int)] 56 ∧ Below w.heap.size w wi) (fun _ j _ => n - (intOf j).toNat)
        case atStart => exact ⟨0, rfl, by omega, by simpa using HO0.out, HD0.out, HQ0.out, HB0.out⟩
        case round =>
          obtain ⟨q, rfl, hq, ho, hdj, hblk, hb⟩ := hrel
          have HOi := hid ho
          have HBi := hid hb
          have HQi := hid hblk
          have HDi := hid hdj
          have hszi := hb.size
          clear ho hb hblk hdj HQ0 HO0 HB0 HD0
          by_cases hqn : q < n
          · have c_Q := fun (o : Nat) => HQi.out.cell o
            have l_Q := HQi.out.lt
            have HLn : Hid ((panesL (L.take k) ++ List.replicate q L[k].p).length ≤ 4194304) := by rw [Hid]; simp; omega
            obtain ⟨M2, hM2⟩ : ∃ Z, Z = (panesL (L.take k) ++ List.replicate q L[k].p) ++ [L[k].p] := ⟨_, rfl⟩
            have HM2 := hid hM2
            clear hM2
            go_wp2_with (at_builtin; refine wpList_pushN paneE _ rfl (.tmp 19) (.tmp 22) _ rfl w.heap.size 38 i0 _ 32 Try.underlying24 hi0 hz0 hz1 hz2 rfl (by omega) _ _ rfl HOi.out _ L[k].p _ rfl rfl (by simp) HLn.out hszi M2 HM2.out ?_)
            intro v5 w5 ho5 hg5 hat5
            have HO5 := hid (show Own paneE 38 w.heap.size w5 v5 (panesL (L.take k) ++ List.replicate (q + 1) L[k].p) by rw [← rep_succ, ← HM2.out]; exact ho5)
            have HB5 := hid (HBi.out.grown hg5 hszi (fun z hz => (HOi.out.lt z hz).1))
            have HQ5 := hid (HQi.out.grown hg5 (fun e => HDi.out _ e.symm rfl))
            have HD5 : Hid (∀ z, v5.ownBlock = some z → z ≠ wo.heap.size) := fun z hz => by
              rcases hat5 with e | e
              · exact HDi.out z (e ▸ hz)
              · rw [e] at hz
                injection hz with hz
                have := HQi.out.lt
                omega
            clear ho5 hg5 hat5 c_Q l_Q
            go_wp2
            exact ⟨⟨q + 1, by go_num, by omega, HO5.out, HD5.out, HQ5.out, HB5.out⟩, by simp [intOf]; omega⟩
          · have e : q = n := by omega
            have HO5 := hid (show Own paneE 38 w.heap.size wr _ (panesL (L.take (k + 1))) by rw [HSU.out, HNC.out, ← e]; exact HOi.out)
            clear e
            go_wp2
            exact ⟨⟨k + 1, by go_num, by omega, HO5.out, HBi.out⟩, by simp [intOf]; omega⟩
      · have HF := hid (show Own paneE 38 w.heap.size wo _ (panesOut L) by have := HO.out; rw [List.take_of_length_le (by omega)] at this; rw [HE.out]; exact this)
        go_wp2
        go_ret
        exact ⟨_, rfl, HF.out, HBr.out⟩

set_option maxHeartbeats 6400000 in
set_option maxRecDepth 100000 in
theorem spanesOf_c (v : Value) (L : List Ln) (w : World) (h : Row lineE w v L) (hv : VO L) : Calls Try.prog 38 #[v] w (PnRes w.heap.size (panesL L) w) := by
  obtain ⟨i0, hi0, hz0, hz1, hz2⟩ := info_parts pane_info
  have HH0 := hid h
  obtain ⟨A1, c1, rfl, hc1, hm1⟩ := h.form
  unfold maxLen at hm1
  have HV := hid hv
  have HS0 := hid (Own.lit0 paneE w w.heap.size 38 (Nat.le_refl _))
  have HB0 : Hid (Below w.heap.size w (w.alloc (.cells #[] 38))) := (Below.refl _ _).alloc (Nat.le_refl _) _
  clear h hv
  go_enter Try.func38, Try.ntmps38
  go_wp2
  go_loopw [3, 4] (fun o i wr => ∃ k : Nat, i = .int .i64 k ∧ k ≤ L.length ∧ Own paneE 38 w.heap.size wr o (panesL (L.take k)) ∧ Below w.heap.size w wr) (fun _ i _ => L.length - (intOf i).toNat)
  case atStart => exact ⟨0, rfl, by omega, by simpa [panesL] using HS0.out, HB0.out⟩
  case round =>
    obtain ⟨k, rfl, hk, ho, hb⟩ := hrel
    obtain ⟨wo, rfl⟩ : ∃ wo : World, wo = wr := ⟨_, rfl⟩
    have HO := hid ho
    have HBr := hid hb
    have hsz := hb.size
    clear ho hb HS0 HB0
    by_cases hlt : k < L.length
    · obtain ⟨b1, o1, rfl, hb1, hx⟩ := row_lines HH0.out (by omega)
      have HX : Hid (∀ wz, Below w.heap.size w wz → wz.cell? ⟨b1, o1 + k * 5, none⟩ = some (.int .i64 L[k].w) ∧ wz.cell? ⟨b1, o1 + k * 5 + 1, none⟩ = some (.int .i64 L[k].h) ∧ wz.cell? ⟨b1, o1 + k * 5 + 2, none⟩ = some (.bool L[k].t) ∧ wz.cell? ⟨b1, o1 + k * 5 + 3, none⟩ = some (.int .i64 L[k].k) ∧ wz.cell? ⟨b1, o1 + k * 5 + 4, none⟩ = some (.int .i64 L[k].c)) := fun wz hb =>
        ⟨(hb.cell (p := ⟨b1, _, none⟩) hb1).trans (hx k hlt).1, (hb.cell (p := ⟨b1, _, none⟩) hb1).trans (hx k hlt).2.1, (hb.cell (p := ⟨b1, _, none⟩) hb1).trans (hx k hlt).2.2.1, (hb.cell (p := ⟨b1, _, none⟩) hb1).trans (hx k hlt).2.2.2.1, (hb.cell (p := ⟨b1, _, none⟩) hb1).trans (hx k hlt).2.2.2.2⟩
      obtain ⟨n, hn⟩ := Int.eq_ofNat_of_zero_le (HV.out.pos _ (List.getElem_mem hlt))
      have hn24 := (HV.out.2.1 _ (List.getElem_mem hlt)).2.2
      have hpl := HV.out.panes_len k
      have HSU := hid (panesL_succ L k hlt)
      have hnc : n ≤ 24 := by omega
      have HNC : Hid (L[k].c.toNat = n) := by rw [Hid, hn]; rfl
      have HN := hid hn
      clear hx hn hn24
      go_wp2
      go_loopw [3, 5] (fun o j wi => ∃ q : Nat, j = .int .i64 q ∧ q ≤ n ∧ Own paneE 38 w.heap.size wi o (panesL (L.take k) ++ List.replicate q L[k].p) ∧ Below w.heap.size w wi) (fun _ j _ => n - (intOf j).toNat)
      case atStart => exact ⟨0, rfl, by omega, by simpa using HO.out, HBr.out⟩
      case round =>
        obtain ⟨q, rfl, hq, ho, hb⟩ := hrel
        have HOi := hid ho
        have HBi := hid hb
        have hszi := hb.size
        obtain ⟨x0, x1, x2, x3, x4⟩ := HX.out wr hb
        rw [HN.out] at x4
        clear ho hb
        by_cases hqn : q < n
        · have HLn : Hid ((panesL (L.take k) ++ List.replicate q L[k].p).length ≤ 4194304) := by rw [Hid]; simp; omega
          obtain ⟨M2, hM2⟩ : ∃ Z, Z = (panesL (L.take k) ++ List.replicate q L[k].p) ++ [L[k].p] := ⟨_, rfl⟩
          have HM2 := hid hM2
          have hq2 : (q : Int) < (n : Int) := by omega
          clear hM2
          go_wp2_with (at_builtin; refine wpList_pushN paneE _ rfl (.tmp 22) (.tmp 28) _ rfl w.heap.size 38 i0 _ 32 Try.underlying24 hi0 hz0 hz1 hz2 rfl (by omega) _ _ rfl HOi.out _ L[k].p _ rfl rfl (by simp) HLn.out hszi M2 HM2.out ?_)
          intro v5 w5 ho5 hg5 hat5
          have HO5 := hid (show Own paneE 38 w.heap.size w5 v5 (panesL (L.take k) ++ List.replicate (q + 1) L[k].p) by rw [← rep_succ, ← HM2.out]; exact ho5)
          have HB5 := hid (HBi.out.grown hg5 hszi (fun z hz => (HOi.out.lt z hz).1))
          clear ho5 hg5 hat5
          go_wp2
          exact ⟨⟨q + 1, by go_num, by omega, HO5.out, HB5.out⟩, by simp [intOf]; omega⟩
        · have e : q = n := by omega
          have HO5 := hid (show Own paneE 38 w.heap.size wr _ (panesL (L.take (k + 1))) by rw [HSU.out, HNC.out, ← e]; exact HOi.out)
          have hq2 : ¬ (q : Int) < (n : Int) := by omega
          clear e
          go_wp2
          exact ⟨⟨k + 1, by go_num, by omega, HO5.out, HBi.out⟩, by simp [intOf]; omega⟩
    · have HF := hid (show Own paneE 38 w.heap.size wo _ (panesL L) by have := HO.out; rw [List.take_of_length_le (by omega)] at this; exact this)
      go_wp2
      go_ret
      exact ⟨_, rfl, HF.out, HBr.out⟩

set_option maxHeartbeats 3200000 in
set_option maxRecDepth 100000 in
theorem sPanesOf_c (v : Value) (L : List Ln) (w : World) (h : Row lineE w v L) (hn : L.length ≤ 4194304) : Calls Try.prog 11 #[v] w (PnRes w.heap.size (panesOut L) w) := by
  have HH0 := hid h
  clear h
  go_enter Try.func11, Try.ntmps11
  go_wp2_with fail
  refine (svalidOrder_c _ L _ HH0.out hn).mono ?_
  rintro e w1 ⟨rfl, hb⟩
  have HB := hid hb
  have HH := hid (HH0.out.go hb)
  clear hb
  cases hv : voB L with
  | false =>
    have HE := hid (panesOut_f hv)
    clear hv
    go_wp2
    go_ret
    exact ⟨_, rfl, by rw [HE.out]; exact Own.nil_ _ _ _, HB.out⟩
  | true =>
    have HE := hid (panesOut_t hv)
    have HV := hid (voB_iff.1 hv)
    clear hv
    go_wp2_with fail
    refine (spanesOf_c _ L _ HH.out HV.out).mono ?_
    rintro e w2 ⟨r, rfl, ho, hb⟩
    have HO := hid (ho.base_le HB.out.size)
    have HB2 := hid (HB.out.trans (hb.mono HB.out.size))
    clear ho hb
    go_wp2
    go_ret
    exact ⟨_, rfl, by rw [HE.out]; exact HO.out, HB2.out⟩

end Go.Proofs.Ytmenkjloabficaa
