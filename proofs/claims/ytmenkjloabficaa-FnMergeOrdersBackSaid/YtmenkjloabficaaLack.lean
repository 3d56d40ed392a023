/-
  Contracts: what is left of an order, by the program and by the reference.
-/
import Derived.Test.YtmenkjloabficaaOrdS
import Derived.Test.YtmenkjloabficaaCat
import Derived.StillTailTactics
import Derived.Deep.RegionHeld3
namespace Go.Proofs.Ytmenkjloabficaa
set_option linter.unusedSimpArgs false
set_option linter.unusedVariables false
open Go.RowKit

/-- What LackOf is told for. -/
def VL (L : List Ln) (G : List Int) : Prop := VO L ∧ okG L G
def okGB (L : List Ln) (G : List Int) : Bool := decide (G.length = L.length) && (List.range L.length).all fun i => decide (0 ≤ G.getD i 0 ∧ G.getD i 0 ≤ (L.getD i ⟨0, 0, false, 0, 0⟩).c)
theorem okGB_iff {L : List Ln} {G : List Int} : okGB L G = true ↔ okG L G := by
  unfold okGB okG
  rw [Bool.and_eq_true, decide_eq_true_iff, List.all_eq_true]
  constructor
  · rintro ⟨h1, h2⟩
    refine ⟨h1, fun i hi => ?_⟩
    have := h2 i (List.mem_range.2 hi)
    rw [decide_eq_true_iff, List.getD_eq_getElem?_getD (l := L), List.getElem?_eq_getElem hi] at this
    exact this
  · rintro ⟨h1, h2⟩
    refine ⟨h1, fun i hi => ?_⟩
    rw [List.mem_range] at hi
    rw [decide_eq_true_iff, List.getD_eq_getElem?_getD (l := L), List.getElem?_eq_getElem hi]
    exact h2 i hi
def lackOk (L : List Ln) (G : List Int) : Bool := voB L && okGB L G
def lackOut (L : List Ln) (G : List Int) : List Ln := if lackOk L G = true then lackL L G else []
theorem lackOk_t {L : List Ln} {G : List Int} (h : VO L) (h2 : okG L G) : lackOk L G = true := by rw [lackOk, voB_iff.2 h, okGB_iff.2 h2]; rfl
theorem lackOk_f {L : List Ln} {G : List Int} (h : ¬ (VO L ∧ okG L G)) : lackOk L G = false := by
  rw [← Bool.not_eq_true, lackOk, Bool.and_eq_true, voB_iff, okGB_iff]; exact h
theorem lackOk_iff {L : List Ln} {G : List Int} : lackOk L G = true ↔ VO L ∧ okG L G := by rw [lackOk, Bool.and_eq_true, voB_iff, okGB_iff]
theorem lackOut_t {L : List Ln} {G : List Int} (h : lackOk L G = true) : lackOut L G = lackL L G := by simp [lackOut, h]
theorem lackOut_f {L : List Ln} {G : List Int} (h : lackOk L G = false) : lackOut L G = [] := by simp [lackOut, h]
theorem lackOut_len (L : List Ln) (G : List Int) : (lackOut L G).length ≤ 8 := by
  cases h : lackOk L G with
  | false => rw [lackOut_f h]; simp
  | true =>
    rw [lackOut_t h]
    have := lackL_len L G
    have := (lackOk_iff.1 h).1.1
    omega
def LkRes (base : Nat) (L : List Ln) (G : List Int) (w : World) (e : Ending) (w' : World) : Prop := ∃ v, e = .returned (.tuple #[v, .bool (lackOk L G)]) ∧ Own lineE 56 base w' v (lackOut L G) ∧ Below w.heap.size w w'
theorem ret_vbl {v : Value} {a b : Bool} (h : a = b) : Ending.returned (.tuple #[v, .bool a]) = .returned (.tuple #[v, .bool b]) := by rw [h]
/-- The first k numbers fit. -/
def okGTo (L : List Ln) (G : List Int) (k : Nat) : Prop := ∀ i (hi : i < L.length), i < k → 0 ≤ G.getD i 0 ∧ G.getD i 0 ≤ L[i].c
theorem okGTo_succ {L : List Ln} {G : List Int} {k : Nat} (hk : k < L.length) (hg : k < G.length) (h : okGTo L G k) (h1 : 0 ≤ G[k]) (h2 : G[k] ≤ L[k].c) : okGTo L G (k + 1) := by
  intro i hi hik
  by_cases e : i = k
  · subst e
    rw [List.getD_eq_getElem?_getD, List.getElem?_eq_getElem hg]
    exact ⟨h1, h2⟩
  · exact h i hi (by omega)

set_option maxHeartbeats 6400000 in
set_option maxRecDepth 100000 in
theorem LackOf_c (v u : Value) (L : List Ln) (G : List Int) (w : World) (h : Row lineE w v L) (h' : Row intE w u G) : Calls Try.prog 27 #[v, u] w (LkRes w.heap.size L G w) := by
  obtain ⟨i0, hi0, hz0, hz1, hz2⟩ := info_parts line_info
  have HH0 := hid h
  have HG0 := hid h'
  obtain ⟨A1, c1, rfl, hc1, hm1⟩ := h.form
  obtain ⟨A2, c2, rfl, hc2, hm2⟩ := h'.form
  unfold maxLen at hm1 hm2
  clear h h'
  go_enter Try.func27, Try.ntmps27
  go_wp2_with fail
  refine (ValidOrder_c _ L _ HH0.out).mono ?_
  rintro e w1 ⟨rfl, hb⟩
  have HB := hid hb
  clear hb
  cases hv : voB L with
  | false =>
    have hk : lackOk L G = false := lackOk_f (fun h => by have := voB_iff.2 h.1; rw [hv] at this; cases this)
    have HE := hid (lackOut_f hk)
    have HK := hid hk
    clear hv hk
    go_wp2
    go_ret2
    exact ⟨_, ret_vbl HK.out.symm, by rw [HE.out]; exact Own.nil_ _ _ _, HB.out⟩
  | true =>
    have HV := hid (voB_iff.1 hv)
    have h8 := HV.out.1
    clear hv
    by_cases hl : G.length = L.length
    · have e1 : ((G.length : Int) != (L.length : Int)) = false := by simp [hl]
      have HL := hid hl
      clear hl
      go_wp2
      go_loopw [6, 21] (fun o i wr => ∃ k : Nat, i = .int .i64 k ∧ k ≤ L.length ∧ okGTo L G k ∧ Own lineE 56 w.heap.size wr o (lackL (L.take k) (G.take k)) ∧ Below w.heap.size w wr) (fun _ i _ => L.length - (intOf i).toNat)
      case atStart => exact ⟨0, rfl, by omega, fun i hi h => by omega, by simpa [lackL] using Own.nil_ _ _ _, HB.out⟩
      case round =>
        obtain ⟨k, rfl, hk, hok, ho, hb⟩ := hrel
        have HO := hid ho
        have HBr := hid hb
        have HOK := hid hok
        have HR := hid (HH0.out.go hb)
        have HGR := hid (HG0.out.go hb)
        have hsz := hb.size
        clear ho hb hok
        by_cases hlt : k < L.length
        · have hgl : k < G.length := by have := HL.out; omega
          obtain ⟨b1, o1, rfl, hb1, hx⟩ := row_lines HR.out (by omega)
          obtain ⟨x0, x1, x2, x3, x4⟩ := hx k hlt
          obtain ⟨b2, o2, rfl, hb2, hy⟩ := row_cells1 HGR.out (by omega)
          have y0 := hy k hgl
          have hl24 := (HV.out.2.1 _ (List.getElem_mem hlt)).2
          obtain ⟨hl1, hl2⟩ := hl24
          have HLS := hid (lackL_succ (L := L) (G := G) k hlt hgl)
          have HB0 := hid (HBr.out.alloc hsz (.cells #[.int .i64 L[k].w, .int .i64 L[k].h, .bool L[k].t, .int .i64 L[k].k, .int .i64 L[k].c] 56))
          have HLn := hid (show (lackL (L.take k) (G.take k)).length ≤ 4194304 by have := lackL_len (L.take k) (G.take k); have := List.length_take_le k L; omega)
          clear hx hy
          by_cases hg0 : G[k] < 0
          · have d1 : decide (G[k] < 0) = true := decide_eq_true hg0
            have hk' : lackOk L G = false := lackOk_f (fun h => by
              have := (h.2.2 k hlt).1
              rw [List.getD_eq_getElem?_getD, List.getElem?_eq_getElem hgl] at this
              simp only [Option.getD_some] at this
              omega)
            have HE := hid (lackOut_f hk')
            have HK := hid hk'
            clear hg0 hk'
            go_wp2
            go_quiet (fail)
            go_wp2
            go_ret2
            exact ⟨_, ret_vbl HK.out.symm, by rw [HE.out]; exact Own.nil_ _ _ _, HB0.out.trans (below_draws _ _ _)⟩
          · have d1 : decide (G[k] < 0) = false := decide_eq_false hg0
            by_cases hg1 : L[k].c < G[k]
            · have d2 : decide (L[k].c < G[k]) = true := decide_eq_true hg1
              have hk' : lackOk L G = false := lackOk_f (fun h => by
                have := (h.2.2 k hlt).2
                rw [List.getD_eq_getElem?_getD, List.getElem?_eq_getElem hgl] at this
                simp only [Option.getD_some] at this
                omega)
              have HE := hid (lackOut_f hk')
              have HK := hid hk'
              clear hg0 hg1 hk'
              go_wp2
              go_quiet (fail)
              go_wp2
              go_ret2
              exact ⟨_, ret_vbl HK.out.symm, by rw [HE.out]; exact Own.nil_ _ _ _, HB0.out.trans (below_draws _ _ _)⟩
            · have d2 : decide (L[k].c < G[k]) = false := decide_eq_false hg1
              have HOK2 := hid (okGTo_succ hlt hgl HOK.out (by omega) (by omega))
              have hs1 : IntKind.i64.wrap (L[k].c - G[k]) = L[k].c - G[k] := IntWalk.i64_in _ (by omega)
              have hg3 : 0 ≤ G[k] := by omega
              have hg4 : G[k] ≤ L[k].c := by omega
              clear hg0 hg1
              go_wp2
              go_quiet (fail)
              rename_i nq
              obtain ⟨W2, hW2⟩ : ∃ Z : World, Z = (wr.alloc (.cells #[.int .i64 L[k].w, .int .i64 L[k].h, .bool L[k].t, .int .i64 L[k].k, .int .i64 L[k].c] 56)).drewN nq := ⟨_, rfl⟩
              have hbw : Below wr.heap.size wr W2 := by rw [hW2]; exact below_drewN ((Below.refl _ _).alloc (Nat.le_refl _) _) nq
              have hq2 : Blk W2 wr.heap.size #[.int .i64 L[k].w, .int .i64 L[k].h, .bool L[k].t, .int .i64 L[k].k, .int .i64 L[k].c] 56 := by rw [hW2]; exact (Blk.new wr _ _).draw nq
              rw [← hW2]
              clear hW2
              have y1 := ((bcellB hbw).1 b2 (o2 + k) hb2).trans y0
              have c_8 := fun (o : Nat) => hq2.cell o
              have f_8 := fun (o : Nat) => hq2.frz o
              have l_8 := hq2.lt
              have HBW := hid hbw
              have HQ2 := hid hq2
              clear hbw hq2
              go_wp2
              go_still_tail 8, (by kernel_rfl)
              obtain ⟨W3, hW3⟩ : ∃ Z : World, Z = ({ heap := W2.heap, tape := W2.tape, drawn := W2.drawn + 1, os := W2.os, output := W2.output } : World) := ⟨_, rfl⟩
              have hbw : Below wr.heap.size wr W3 := by rw [hW3]; exact HBW.out.drew
              have hq3 : Blk W3 wr.heap.size #[.int .i64 L[k].w, .int .i64 L[k].h, .bool L[k].t, .int .i64 L[k].k, .int .i64 L[k].c] 56 := by rw [hW3]; exact HQ2.out.draw1
              rw [← hW3]
              clear hW3 c_8 f_8 l_8 y1
              have c_8 := fun (o : Nat) => hq3.cell o
              have f_8 := fun (o : Nat) => hq3.frz o
              have l_8 := hq3.lt
              have hbw3 := hbw.setCell (p := ⟨wr.heap.size, 4, none⟩) (Nat.le_refl _) (.int .i64 (L[k].c - G[k]))
              have HO3 := hid (HO.out.below hbw3)
              have HB3 := hid (HBr.out.trans (hbw3.mono hsz))
              have hsz3 := HB3.out.size
              clear hbw hq3 hbw3
              by_cases hp : 0 < L[k].c - G[k]
              · have t1 : decide (0 < L[k].c - G[k]) = true := decide_eq_true hp
                obtain ⟨M2, hM2⟩ : ∃ Z, Z = lackL (L.take k) (G.take k) ++ [(⟨L[k].w, L[k].h, L[k].t, L[k].k, L[k].c - G[k]⟩ : Ln)] := ⟨_, rfl⟩
                have HM2 := hid hM2
                have HM3 : Hid (lackL (L.take (k + 1)) (G.take (k + 1)) = M2) := by rw [Hid, HLS.out, if_pos hp, hM2]; rfl
                clear hM2
                go_wp2_with (at_builtin; refine wpList_pushN lineE _ rfl (.tmp 51) (.tmp 53) _ rfl w.heap.size 56 i0 _ 40 Try.underlying26 hi0 hz0 hz1 hz2 rfl (by omega) _ _ rfl HO3.out _ (⟨L[k].w, L[k].h, L[k].t, L[k].k, L[k].c - G[k]⟩ : Ln) _ rfl rfl (by simp) HLn.out hsz3 M2 HM2.out ?_)
                intro v5 w5 ho5 hg5 hat5
                have HO5 := hid (show Own lineE 56 w.heap.size w5 v5 (lackL (L.take (k + 1)) (G.take (k + 1))) by rw [HM3.out]; exact ho5)
                have HB5 := hid (HB3.out.grown hg5 hsz3 (fun z hz => (HO3.out.lt z hz).1))
                clear ho5 hg5 hat5 c_8 f_8 l_8
                go_wp2
                exact ⟨⟨k + 1, by go_num, by omega, HOK2.out, HO5.out, HB5.out⟩, by simp [intOf]; omega⟩
              · have t1 : decide (0 < L[k].c - G[k]) = false := decide_eq_false hp
                have HO5 := hid (show Own lineE 56 w.heap.size _ u6 (lackL (L.take (k + 1)) (G.take (k + 1))) by rw [HLS.out, if_neg hp, List.append_nil]; exact HO3.out)
                go_wp2
                exact ⟨⟨k + 1, by go_num, by omega, HOK2.out, HO5.out, HB3.out⟩, by simp [intOf]; omega⟩
        · have e : k = L.length := by omega
          subst e
          have hk' : lackOk L G = true := lackOk_t HV.out ⟨HL.out, fun i hi => HOK.out i hi hi⟩
          have HK := hid hk'
          have HF := hid (show Own lineE 56 w.heap.size wr _ (lackOut L G) by have := HO.out; rw [List.take_of_length_le (Nat.le_refl _), List.take_of_length_le (by rw [HL.out]; exact Nat.le_refl _)] at this; rw [lackOut_t hk']; exact this)
          clear hk'
          go_wp2
          go_ret2
          exact ⟨_, ret_vbl HK.out.symm, HF.out, HBr.out⟩
    · have e1 : ((G.length : Int) != (L.length : Int)) = true := by simp; omega
      have hk : lackOk L G = false := lackOk_f (fun h => hl h.2.1)
      have HE := hid (lackOut_f hk)
      have HK := hid hk
      clear hl hk
      go_wp2
      go_ret2
      exact ⟨_, ret_vbl HK.out.symm, by rw [HE.out]; exact Own.nil_ _ _ _, HB.out⟩

set_option maxHeartbeats 6400000 in
set_option maxRecDepth 100000 in
theorem sLackOf_c (v u : Value) (L : List Ln) (G : List Int) (w : World) (h : Row lineE w v L) (h' : Row intE w u G) (hn : L.length ≤ 4194304) : Calls Try.prog 25 #[v, u] w (LkRes w.heap.size L G w) := by
  obtain ⟨i0, hi0, hz0, hz1, hz2⟩ := info_parts line_info
  have HH0 := hid h
  have HG0 := hid h'
  obtain ⟨A1, c1, rfl, hc1, hm1⟩ := h.form
  obtain ⟨A2, c2, rfl, hc2, hm2⟩ := h'.form
  unfold maxLen at hm1 hm2
  clear h h'
  go_enter Try.func25, Try.ntmps25
  go_wp2_with fail
  refine (svalidOrder_c _ L _ HH0.out hn).mono ?_
  rintro e w1 ⟨rfl, hb⟩
  have HB := hid hb
  clear hb
  cases hv : voB L with
  | false =>
    have hk : lackOk L G = false := lackOk_f (fun h => by have := voB_iff.2 h.1; rw [hv] at this; cases this)
    have HE := hid (lackOut_f hk)
    have HK := hid hk
    clear hv hk
    go_wp2
    go_ret2
    exact ⟨_, ret_vbl HK.out.symm, by rw [HE.out]; exact Own.nil_ _ _ _, HB.out⟩
  | true =>
    have HV := hid (voB_iff.1 hv)
    have h8 := HV.out.1
    clear hv
    by_cases hl : G.length = L.length
    · have e1 : ((G.length : Int) != (L.length : Int)) = false := by simp [hl]
      have HL := hid hl
      have HS0 := hid (Own.lit0 lineE w1 w.heap.size 56 HB.out.size)
      have HB0 := hid (HB.out.alloc HB.out.size (.cells #[] 56))
      clear hl
      go_wp2
      go_loopw [6, 7] (fun o i wr => ∃ k : Nat, i = .int .i64 k ∧ k ≤ L.length ∧ okGTo L G k ∧ Own lineE 56 w.heap.size wr o (lackL (L.take k) (G.take k)) ∧ Below w.heap.size w wr) (fun _ i _ => L.length - (intOf i).toNat)
      case atStart => exact ⟨0, rfl, by omega, fun i hi h => by omega, by simpa [lackL] using HS0.out, HB0.out⟩
      case round =>
        obtain ⟨k, rfl, hk, hok, ho, hb⟩ := hrel
        have HO := hid ho
        have HBr := hid hb
        have HOK := hid hok
        have HR := hid (RowB.below HH0.out hb)
        have HGR := hid (RowB.below HG0.out hb)
        have hsz := hb.size
        clear ho hb hok HS0 HB0
        by_cases hlt : k < L.length
        · have hgl : k < G.length := by have := HL.out; omega
          obtain ⟨b1, o1, rfl, hb1, hx⟩ := row_lines HR.out (by omega)
          obtain ⟨x0, x1, x2, x3, x4⟩ := hx k hlt
          obtain ⟨b2, o2, rfl, hb2, hy⟩ := row_cells1 HGR.out (by omega)
          have y0 := hy k hgl
          have hl24 := (HV.out.2.1 _ (List.getElem_mem hlt)).2
          obtain ⟨hl1, hl2⟩ := hl24
          have HLS := hid (lackL_succ (L := L) (G := G) k hlt hgl)
          have HLn := hid (show (lackL (L.take k) (G.take k)).length + [(⟨L[k].w, L[k].h, L[k].t, L[k].k, L[k].c - G[k]⟩ : Ln)].length ≤ 4194304 by have := lackL_len (L.take k) (G.take k); have := List.length_take_le k L; simp; omega)
          clear hx hy
          by_cases hg : 0 ≤ G[k] ∧ G[k] ≤ L[k].c
          · obtain ⟨hg3, hg4⟩ := hg
            have HG3 := hid hg3
            have HG4 := hid hg4
            have HOK2 := hid (okGTo_succ hlt hgl HOK.out hg3 hg4)
            have hs1 : IntKind.i64.wrap (L[k].c - G[k]) = L[k].c - G[k] := IntWalk.i64_in _ (by omega)
            go_wp2
            go_quiet ((go_at_call 45; exact Calls.quiet_of_same (same_quiet (inRange_t _ _ _ _ HG3.out HG4.out))))
            rename_i nq
            obtain ⟨W2, hW2⟩ : ∃ Z : World, Z = wr.drewN nq := ⟨_, rfl⟩
            have hbw : Below wr.heap.size wr W2 := by rw [hW2]; exact below_draws _ _ _
            rw [← hW2]
            clear hW2 HG3 HG4
            have HBW := hid hbw
            have HC2 := hid (bcellB hbw).1
            have hbl1 : b1 < wr.heap.size := by omega
            have hbl2 : b2 < wr.heap.size := by omega
            replace x0 := (HC2.out b1 _ hbl1).trans x0
            replace x1 := (HC2.out b1 _ hbl1).trans x1
            replace x2 := (HC2.out b1 _ hbl1).trans x2
            replace x3 := (HC2.out b1 _ hbl1).trans x3
            replace x4 := (HC2.out b1 _ hbl1).trans x4
            replace y0 := (HC2.out b2 _ hbl2).trans y0
            clear hbw hbl1 hbl2 HC2
            by_cases hp : G[k] < L[k].c
            · have d2 : decide (G[k] < L[k].c) = true := decide_eq_true hp
              have HP : Hid (0 < L[k].c - G[k]) := by rw [Hid]; omega
              clear hp
              go_wp2
              go_quiet (fail)
              obtain ⟨W3, hW3⟩ : ∃ Z : World, Z = W2.drewN nq := ⟨_, rfl⟩
              have hbw : Below wr.heap.size wr W3 := by rw [hW3]; exact HBW.out.trans (below_draws _ _ _)
              have hc3 : ∀ p, W3.cell? p = W2.cell? p := by rw [hW3]; exact fun p => rfl
              rw [← hW3]
              clear hW3
              replace x0 := (hc3 _).trans x0
              replace x1 := (hc3 _).trans x1
              replace x2 := (hc3 _).trans x2
              replace x3 := (hc3 _).trans x3
              replace x4 := (hc3 _).trans x4
              replace y0 := (hc3 _).trans y0
              have HO3 := hid (HO.out.below hbw)
              have HB3 := hid (HBr.out.trans (hbw.mono hsz))
              have hsz3 := HB3.out.size
              clear hbw hc3 HBW
              obtain ⟨M2, hM2⟩ : ∃ Z, Z = lackL (L.take k) (G.take k) ++ [(⟨L[k].w, L[k].h, L[k].t, L[k].k, L[k].c - G[k]⟩ : Ln)] := ⟨_, rfl⟩
              have HM2 := hid hM2
              have HM3 : Hid (lackL (L.take (k + 1)) (G.take (k + 1)) = M2) := by rw [Hid, HLS.out, if_pos HP.out, hM2]; rfl
              clear hM2
              have ZA := hid (((Below.refl w.heap.size W3).alloc hsz3 (.cells #[.int .i64 L[k].w, .int .i64 L[k].h, .bool L[k].t, .int .i64 L[k].k, .int .i64 (L[k].c - G[k])] 56)).drew)
              have ZO := hid ((HO3.out.alloc (.cells #[.int .i64 L[k].w, .int .i64 L[k].h, .bool L[k].t, .int .i64 L[k].k, .int .i64 (L[k].c - G[k])] 56)).dr (Dr.refl _).one)
              have ZE := hid ((Own.lit lineE W3 w.heap.size 56 #[.int .i64 L[k].w, .int .i64 L[k].h, .bool L[k].t, .int .i64 L[k].k, .int .i64 (L[k].c - G[k])] [(⟨L[k].w, L[k].h, L[k].t, L[k].k, L[k].c - G[k]⟩ : Ln)] 1 rfl rfl hsz3 (by simp [maxLen])).dr (Dr.refl _).one).rowB
              have HZS : Hid (w.heap.size ≤ ((W3.alloc (.cells #[.int .i64 L[k].w, .int .i64 L[k].h, .bool L[k].t, .int .i64 L[k].k, .int .i64 (L[k].c - G[k])] 56)).drew).heap.size) := Nat.le_trans hsz3 ZA.out.size
              go_wp2
              go_region_held3 (fun w' => ∀ b o, b < w.heap.size → w'.cell? ⟨b, o, none⟩ = W3.cell? ⟨b, o, none⟩) (first | with_reducible exact fun b o h => ZA.out.cell (p := ⟨b, o, none⟩) h | with_reducible exact fun b o h => ((Below.refl w.heap.size W3).drew).cell (p := ⟨b, o, none⟩) h | with_reducible exact fun b o h => ZW.out.cell (p := ⟨b, o, none⟩) h | fail)
                (first | (refine step_cat lineE _ rfl (.tmp 46) (.tmp 63) _ rfl w.heap.size 56 i0 _ 40 Try.underlying26 hi0 hz0 hz1 hz2 rfl (by omega) _ _ rfl ZO.out _ _ _ rfl ZE.out HLn.out HZS.out M2 HM2.out ?_; intro v5 w5 ho5 hg5 hat5; have ZO5 := hid ho5; have ZW := hid (ZA.out.grown hg5 HZS.out (fun z hz => (ZO.out.lt z hz).1)); clear ho5 hg5 hat5) | fail)
              all_goals
                have HO5 := hid (show Own lineE 56 w.heap.size _ _ (lackL (L.take (k + 1)) (G.take (k + 1))) by rw [HM3.out]; exact ZO5.out)
                go_wp2
                exact ⟨⟨k + 1, by go_num, by omega, HOK2.out, HO5.out, HB3.out.trans ZW.out⟩, by simp [intOf]; omega⟩
            · have d2 : decide (G[k] < L[k].c) = false := decide_eq_false hp
              have HP : Hid (¬ 0 < L[k].c - G[k]) := by rw [Hid]; omega
              have HO5 := hid (show Own lineE 56 w.heap.size W2 u6 (lackL (L.take (k + 1)) (G.take (k + 1))) by rw [HLS.out, if_neg HP.out, List.append_nil]; exact HO.out.below HBW.out)
              have HB5 := hid (HBr.out.trans (HBW.out.mono hsz))
              clear hp HP
              go_wp2
              go_quiet (fail)
              go_wp2
              exact ⟨⟨k + 1, by go_num, by omega, HOK2.out, HO5.out.dr ((Dr.refl _).step _), HB5.out.trans (below_draws _ _ _)⟩, by simp [intOf]; omega⟩
          · have HR2 : Hid (G[k] < 0 ∨ L[k].c < G[k]) := by rw [Hid]; omega
            have hk' : lackOk L G = false := lackOk_f (fun h => by
              have := h.2.2 k hlt
              rw [List.getD_eq_getElem?_getD, List.getElem?_eq_getElem hgl] at this
              simp only [Option.getD_some] at this
              exact hg this)
            have HE := hid (lackOut_f hk')
            have HK := hid hk'
            clear hg hk'
            go_wp2
            go_quiet ((go_at_call 45; exact Calls.quiet_of_same (same_quiet (inRange_f _ _ _ _ HR2.out))))
            go_wp2
            go_ret2
            exact ⟨_, ret_vbl HK.out.symm, by rw [HE.out]; exact Own.nil_ _ _ _, HBr.out.trans (below_draws _ _ _)⟩
        · have e : k = L.length := by omega
          subst e
          have hk' : lackOk L G = true := lackOk_t HV.out ⟨HL.out, fun i hi => HOK.out i hi hi⟩
          have HK := hid hk'
          have HF := hid (show Own lineE 56 w.heap.size wr _ (lackOut L G) by have := HO.out; rw [List.take_of_length_le (Nat.le_refl _), List.take_of_length_le (by rw [HL.out]; exact Nat.le_refl _)] at this; rw [lackOut_t hk']; exact this)
          clear hk'
          go_wp2
          go_ret2
          exact ⟨_, ret_vbl HK.out.symm, HF.out, HBr.out⟩
    · have e1 : ((G.length : Int) != (L.length : Int)) = true := by simp; omega
      have hk : lackOk L G = false := lackOk_f (fun h => hl h.2.1)
      have HE := hid (lackOut_f hk)
      have HK := hid hk
      clear hl hk
      go_wp2
      go_ret2
      exact ⟨_, ret_vbl HK.out.symm, by rw [HE.out]; exact Own.nil_ _ _ _, HB.out⟩

end Go.Proofs.Ytmenkjloabficaa
