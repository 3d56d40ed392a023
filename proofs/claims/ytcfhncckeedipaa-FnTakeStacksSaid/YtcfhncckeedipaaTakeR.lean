/-
  Contracts: TakeStacks, by the program and by the reference: the loops.
-/
import Derived.Test.YtcfhncckeedipaaTakeS
namespace Go.Proofs.Ytcfhncckeedipaa
set_option linter.unusedSimpArgs false
set_option linter.unusedVariables false
open Go.RowKit

def takeOut (L S : List Int) : List Int := if vsB L S = true then upList (takeN L S) else []
def takeOk (L S : List Int) : Bool := vsB L S && decide (takeN L S = L.length)
theorem takeOut_t {L S : List Int} (h : vsB L S = true) : takeOut L S = upList (takeN L S) := by simp [takeOut, h]
theorem takeOut_f {L S : List Int} (h : vsB L S = false) : takeOut L S = [] := by simp [takeOut, h]
theorem takeOk_f {L S : List Int} (h : vsB L S = false) : takeOk L S = false := by simp [takeOk, h]
theorem takeOk_all {L S : List Int} (h : vsB L S = true) (hn : takeN L S = L.length) : takeOk L S = true := by simp [takeOk, h, hn]
theorem takeOk_no {L S : List Int} {m : Nat} (hn : takeN L S = m) (hm : m < L.length) : takeOk L S = false := by
  unfold takeOk
  rw [hn]
  have : ¬ m = L.length := by omega
  simp [this]
def TkRes (base : Nat) (L S : List Int) (w : World) (e : Ending) (w' : World) : Prop := ∃ v, e = .returned (.tuple #[v, .bool (takeOk L S)]) ∧ Own intE 3 base w' v (takeOut L S) ∧ Below w.heap.size w w'
theorem ret_vb {v : Value} {a b : Bool} (h : a = b) : Ending.returned (.tuple #[v, .bool a]) = .returned (.tuple #[v, .bool b]) := by rw [h]

set_option maxHeartbeats 6400000 in
set_option maxRecDepth 100000 in
theorem TakeStacks_c (v u : Value) (L S : List Int) (w : World) (h : Row intE w v L) (h' : Row intE w u S) : Calls Try.prog 35 #[v, u] w (TkRes w.heap.size L S w) := by
  obtain ⟨i0, hi0, hz0, hz1, hz2⟩ := info_parts int_info
  have HH0 := hid h
  have HS0 := hid h'
  obtain ⟨A1, c1, rfl, hc1, hm1⟩ := h.form
  obtain ⟨A2, c2, rfl, hc2, hm2⟩ := h'.form
  unfold maxLen at hm1 hm2
  clear h h'
  go_enter Try.func35, Try.ntmps35
  go_wp2_with fail
  refine (validStacks_c _ _ L S _ HH0.out HS0.out).mono ?_
  rintro e w1 ⟨rfl, hb⟩
  have HB := hid hb
  have HH := hid (HH0.out.go hb)
  have HS := hid (HS0.out.go hb)
  clear hb
  cases hv : vsB L S with
  | false =>
    have HE := hid (takeOut_f hv)
    have HK := hid (takeOk_f hv)
    clear hv
    go_wp2
    go_ret2
    exact ⟨_, ret_vb HK.out.symm, by rw [HE.out]; exact Own.nil_ _ _ _, HB.out⟩
  | true =>
    have HE := hid (takeOut_t hv)
    have HV := hid hv
    have HVS := hid (vsB_iff.1 hv)
    have hL24 := HVS.out.1.1
    clear hv
    go_wp2
    go_loopw [6, 15] (fun o i wr => ∃ k : Nat, i = .int .i64 k ∧ k ≤ L.length ∧ (∀ j, j < k → blockB L S j = false) ∧ Own intE 3 w.heap.size wr o (upList k) ∧ Below w.heap.size w wr) (fun _ i _ => L.length - (intOf i).toNat)
    case atStart => exact ⟨0, rfl, by omega, fun j hj => by omega, by simpa [upList] using Own.nil_ _ _ _, HB.out⟩
    case round =>
      obtain ⟨k, rfl, hk, hno, ho, hb⟩ := hrel
      have HO := hid ho
      have HBr := hid hb
      have HNO := hid hno
      have HHr := hid (HH0.out.below hb)
      have HSr := hid (HS0.out.below hb)
      have hszr := hb.size
      clear ho hb hno
      by_cases hlt : k < L.length
      · obtain ⟨i, hi, hLi⟩ := HVS.out.1.has k hlt
        have hiS : i < S.length := by have := HVS.out.2.1; omega
        have HP : Hid (placeL L k = i) := by
          rw [Hid, placeL_of_mem (hLi ▸ List.getElem_mem hi), idx_at HVS.out.1.2.2.2 hi hLi]
        obtain ⟨b2, o2, rfl, hb2, hy⟩ := row_cells1 HSr.out (by omega)
        have hy' := hy i hiS
        have HTB := hid (top_block HVS.out hi hLi)
        have HLI := hid hLi
        clear hy hLi
        go_wp2_with fail
        refine (slicesIndex_c _ L k _ (HHr.out.more hszr)).mono ?_
        rintro e w2 ⟨rfl, rfl⟩
        rw [HP.out]
        go_wp2_with fail
        refine (topOf_c _ _ L S S[i] k _ (HHr.out.more hszr) (HSr.out.more hszr) HVS.out.2.1).mono ?_
        rintro e w2 ⟨rfl, rfl⟩
        cases hbk : blockB L S k with
        | true =>
          have hne : (lastTo (topB L S S[i] k) L.length != (i : Int)) = true := by
            rw [bne_iff_ne]; intro e
            have := HTB.out.1 e
            rw [hbk] at this; cases this
          have HN := hid (takeN_at hlt hbk HNO.out)
          have HOK := hid (takeOk_no HN.out hlt)
          clear hbk
          go_wp2
          go_ret2
          exact ⟨_, ret_vb HOK.out.symm, by rw [HE.out, HN.out]; exact HO.out, HBr.out⟩
        | false =>
          have hne : (lastTo (topB L S S[i] k) L.length != (i : Int)) = false := by
            have := HTB.out.2 hbk
            simp [this]
          have HNO2 : Hid (∀ j, j < k + 1 → blockB L S j = false) := fun j hj => by
            by_cases e : j = k
            · subst e; exact hbk
            · exact HNO.out j (by omega)
          have hLn : Hid ((upList k).length ≤ 4194304) := by rw [Hid, upList_len]; omega
          obtain ⟨L2, hL2⟩ : ∃ Z : List Int, Z = upList k ++ [(k : Int)] := ⟨_, rfl⟩
          have HL2 := hid hL2
          clear hbk hL2
          go_wp2_with (at_builtin; refine wpList_pushN intE _ rfl (.tmp 32) (.tmp 34) _ rfl w.heap.size 3 i0 _ 8 Try.underlying24 hi0 hz0 hz1 hz2 rfl (by omega) _ _ rfl HO.out _ (k : Int) _ rfl rfl (by simp) hLn.out hszr L2 HL2.out ?_)
          intro v5 w5 ho5 hg5 hat5
          have HO5 := hid (show Own intE 3 w.heap.size w5 v5 (upList (k + 1)) by rw [upList_succ, ← HL2.out]; exact ho5)
          have HB5 := hid (HBr.out.grown hg5 hszr (fun q hq => (HO.out.lt q hq).1))
          clear ho5 hg5 hat5 hne
          go_wp2
          exact ⟨⟨k + 1, by go_num, by omega, HNO2.out, HO5.out, HB5.out⟩, by simp [intOf]; omega⟩
      · have e : k = L.length := by omega
        have HN : Hid (takeN L S = L.length) := takeN_all (fun j hj => HNO.out j (by omega))
        have HOK := hid (takeOk_all HV.out HN.out)
        subst e
        go_wp2
        go_ret2
        exact ⟨_, ret_vb HOK.out.symm, by rw [HE.out, HN.out]; exact HO.out, HBr.out⟩

set_option maxHeartbeats 6400000 in
set_option maxRecDepth 100000 in
theorem sTakeStacks_c (v u : Value) (L S : List Int) (w : World) (h : Row intE w v L) (h' : Row intE w u S) : Calls Try.prog 37 #[v, u] w (TkRes w.heap.size L S w) := by
  obtain ⟨i0, hi0, hz0, hz1, hz2⟩ := info_parts int_info
  have HH0 := hid h
  have HS0 := hid h'
  obtain ⟨A1, c1, rfl, hc1, hm1⟩ := h.form
  obtain ⟨A2, c2, rfl, hc2, hm2⟩ := h'.form
  unfold maxLen at hm1 hm2
  clear h h'
  go_enter Try.func37, Try.ntmps37
  go_wp2_with fail
  refine (svalidStacks_c _ _ L S _ HH0.out HS0.out).mono ?_
  rintro e w1 ⟨rfl, hd⟩
  have HB := hid (hd.below w.heap.size)
  have hsz1 := hd.size
  clear hd
  cases hv : vsB L S with
  | false =>
    have HE := hid (takeOut_f hv)
    have HK := hid (takeOk_f hv)
    clear hv
    go_wp2
    go_ret2
    exact ⟨_, ret_vb HK.out.symm, by rw [HE.out]; exact Own.nil_ _ _ _, HB.out⟩
  | true =>
    have HE := hid (takeOut_t hv)
    have HV := hid hv
    have HVS := hid (vsB_iff.1 hv)
    have hL24 := HVS.out.1.1
    have HO0 := hid (Own.lit0 intE w1 w.heap.size 3 (Nat.le_of_eq hsz1.symm))
    have HB0 := hid (HB.out.alloc (Nat.le_of_eq hsz1.symm) (.cells #[] 3))
    clear hv hsz1
    go_wp2
    go_loopw [6, 7] (fun o i wr => ∃ k : Nat, i = .int .i64 k ∧ k ≤ L.length ∧ (∀ j, j < k → blockB L S j = false) ∧ Own intE 3 w.heap.size wr o (upList k) ∧ Below w.heap.size w wr) (fun _ i _ => L.length - (intOf i).toNat)
    case atStart => exact ⟨0, rfl, by omega, fun j hj => by omega, by simpa [upList] using HO0.out, HB0.out⟩
    case round =>
      obtain ⟨k, rfl, hk, hno, ho, hb⟩ := hrel
      have HO := hid ho
      have HBr := hid hb
      have HNO := hid hno
      have HHr := hid (HH0.out.below hb)
      have HSr := hid (HS0.out.below hb)
      have hszr := hb.size
      clear ho hb hno HO0 HB0
      by_cases hlt : k < L.length
      · obtain ⟨i, hi, hLi⟩ := HVS.out.1.has k hlt
        have hiS : i < S.length := by have := HVS.out.2.1; omega
        have HP : Hid (placeL L k = i) := by
          rw [Hid, placeL_of_mem (hLi ▸ List.getElem_mem hi), idx_at HVS.out.1.2.2.2 hi hLi]
        obtain ⟨b1, o1, rfl, hb1, hx⟩ := row_cells1 HHr.out (by omega)
        obtain ⟨b2, o2, rfl, hb2, hy⟩ := row_cells1 HSr.out (by omega)
        have HX := hid hx
        have HY := hid hy
        have HBI := hid (block_iff HVS.out hi hLi)
        clear hx hy hLi
        go_wp2_with fail
        refine (placeIn_c _ L k _ (HHr.out.more hszr)).mono ?_
        rintro e w2 ⟨rfl, hw⟩
        obtain rfl := hw.symm
        rw [HP.out]
        go_wp2
        go_loopw [9] (fun j wi => ∃ q : Nat, j = .int .i64 q ∧ i < q ∧ q ≤ L.length ∧ (∀ j (hj : j < L.length), i < j → j < q → ¬ (S[i] = S[j]'(by have := HVS.out.2.1; omega) ∧ (k : Int) < L[j])) ∧ Dr wr wi) (fun j _ => L.length - (intOf j).toNat)
        case atStart => exact ⟨i + 1, by go_num, by omega, by omega, fun j hj h1 h2 => by omega, Dr.refl _⟩
        case round =>
          obtain ⟨q, rfl, hiq, hq, hno, hd⟩ := hrel
          have HNQ := hid hno
          have HDR := hid hd
          clear hno hd
          by_cases hql : q < L.length
          · have hqS : q < S.length := by have := HVS.out.2.1; omega
            have hx' := (HDR.out.cell _).trans (HX.out q hql)
            have hy1 := (HDR.out.cell _).trans (HY.out q hqS)
            have hy2 := (HDR.out.cell _).trans (HY.out i hiS)
            by_cases hs : S[q] = S[i]
            · have t1 : (S[q] == S[i]) = true := by simpa using hs
              by_cases hm : (k : Int) < L[q]
              · have t2 : decide ((k : Int) < L[q]) = true := decide_eq_true hm
                have HB1 : Hid (blockB L S k = true) := HBI.out.2 ⟨q, hql, hiq, hs.symm, hm⟩
                have HN := hid (takeN_at hlt HB1.out HNO.out)
                have HOK := hid (takeOk_no HN.out hlt)
                have HSS := hid hs
                clear hs hm
                go_wp2
                go_quiet (fail)
                go_wp2
                go_ret2
                have HDx := HDR.out.step
                exact ⟨_, ret_vb HOK.out.symm, by rw [HE.out, HN.out]; exact HO.out.dr (HDx _), HBr.out.trans ((HDx _).below _)⟩
              · have t2 : decide ((k : Int) < L[q]) = false := decide_eq_false hm
                have HNQ2 : Hid (∀ j (hj : j < L.length), i < j → j < q + 1 → ¬ (S[i] = S[j]'(by have := HVS.out.2.1; omega) ∧ (k : Int) < L[j])) := fun j hj h1 h2 => by
                  by_cases e : j = q
                  · subst e; exact fun h => hm h.2
                  · exact HNQ.out j hj h1 (by omega)
                have HSS := hid hs
                clear hs hm
                go_wp2
                go_quiet (fail)
                go_wp2
                exact ⟨⟨q + 1, by go_num, by omega, by omega, HNQ2.out, HDR.out.step _⟩, by simp [intOf]; omega⟩
            · have t1 : (S[q] == S[i]) = false := by simpa using hs
              have HNQ2 : Hid (∀ j (hj : j < L.length), i < j → j < q + 1 → ¬ (S[i] = S[j]'(by have := HVS.out.2.1; omega) ∧ (k : Int) < L[j])) := fun j hj h1 h2 => by
                by_cases e : j = q
                · subst e; exact fun h => hs h.1.symm
                · exact HNQ.out j hj h1 (by omega)
              clear hs
              go_wp2
              go_quiet (fail)
              go_wp2
              exact ⟨⟨q + 1, by go_num, by omega, by omega, HNQ2.out, HDR.out.step _⟩, by simp [intOf]; omega⟩
          · have HBK : Hid (blockB L S k = false) := by
              rw [Hid, ← Bool.not_eq_true, HBI.out]
              rintro ⟨j, hj, h1, h2, h3⟩
              exact HNQ.out j hj h1 (by omega) ⟨h2, h3⟩
            have HNO2 : Hid (∀ j, j < k + 1 → blockB L S j = false) := fun j hj => by
              by_cases e : j = k
              · subst e; exact HBK.out
              · exact HNO.out j (by omega)
            have hLn : Hid ((upList k).length ≤ 4194304) := by rw [Hid, upList_len]; omega
            obtain ⟨L2, hL2⟩ : ∃ Z : List Int, Z = upList k ++ [(k : Int)] := ⟨_, rfl⟩
            have HL2 := hid hL2
            have HO2 := hid (HO.out.dr HDR.out)
            have HB2 := hid (HBr.out.trans (HDR.out.below _))
            clear hL2
            go_wp2_with (at_builtin; refine wpList_pushN intE _ rfl (.tmp 50) (.tmp 52) _ rfl w.heap.size 3 i0 _ 8 Try.underlying24 hi0 hz0 hz1 hz2 rfl (by omega) _ _ rfl HO2.out _ (k : Int) _ rfl rfl (by simp) hLn.out HB2.out.size L2 HL2.out ?_)
            intro v5 w5 ho5 hg5 hat5
            have HO5 := hid (show Own intE 3 w.heap.size w5 v5 (upList (k + 1)) by rw [upList_succ, ← HL2.out]; exact ho5)
            have HB5 := hid (HB2.out.grown hg5 HB2.out.size (fun q hq => (HO2.out.lt q hq).1))
            clear ho5 hg5 hat5
            go_wp2
            exact ⟨⟨k + 1, by go_num, by omega, HNO2.out, HO5.out, HB5.out⟩, by simp [intOf]; omega⟩
      · have e : k = L.length := by omega
        have HN : Hid (takeN L S = L.length) := takeN_all (fun j hj => HNO.out j (by omega))
        have HOK := hid (takeOk_all HV.out HN.out)
        subst e
        go_wp2
        go_ret2
        exact ⟨_, ret_vb HOK.out.symm, by rw [HE.out, HN.out]; exact HO.out, HBr.out⟩

end Go.Proofs.Ytcfhncckeedipaa
