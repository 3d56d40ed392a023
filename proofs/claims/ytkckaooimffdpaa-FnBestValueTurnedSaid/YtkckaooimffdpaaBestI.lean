/-
  Contract: the best pane for some glass, by the program.
-/
import Derived.Test.YtkckaooimffdpaaFits
namespace Go.Proofs.Ytkckaooimffdpaa
set_option linter.unusedSimpArgs false
set_option linter.unusedVariables false
open Go.RowKit

def BpOut (m : Int) (w : World) (e : Ending) (w' : World) : Prop := ∃ (o p : Int) (t : Bool), e = .returned (.tuple #[.agg #[.int .i64 o, .int .i64 0, .int .i64 p, .bool t, .slice none 0 0], .int .i64 m]) ∧ Below w.heap.size w w'
theorem lfj_step {q : Pn} {v x y m : Int} {j : Nat} (hj : j < 2) : lfj q v x y m (j + 1) = up1 (lfj q v x y m j) v (fitV q (decide (j = 1)) x y) := by
  rcases (by omega : j = 0 ∨ j = 1) with rfl | rfl <;> rfl
theorem lfj_bd {q : Pn} {v m : Int} (x y : Int) (hm : 0 ≤ m ∧ m ≤ 1000) (hv : 1 ≤ v ∧ v ≤ 1000) (j : Nat) : 0 ≤ lfj q v x y m j ∧ lfj q v x y m j ≤ 1000 := by
  match j with
  | 0 => exact hm
  | 1 => exact up1_bd _ hm hv
  | _ + 2 => exact up1_bd _ (up1_bd _ hm hv) hv
theorem up1_t {m v : Int} {b : Bool} (hb : b = true) (h : m < v) : up1 m v b = v := by unfold up1; rw [if_pos ⟨hb, h⟩]
theorem up1_f {m v : Int} {b : Bool} (h : b = false ∨ ¬ m < v) : up1 m v b = m := by
  unfold up1
  rw [if_neg]
  rintro ⟨h1, h2⟩
  rcases h with h | h
  · rw [h] at h1; cases h1
  · exact h h2
theorem bool_cell {w : World} {g j : Nat} (h : Blk w g #[.bool false, .bool true] 4) (hj : j < 2) : w.cell? ⟨g, j, none⟩ = some (.bool (decide (j = 1))) := by
  rw [h.cell]
  rcases (by omega : j = 0 ∨ j = 1) with rfl | rfl <;> rfl
/-- Where the walk of the best pane stands: its work, its result, its plan. -/
def BpSt (w : World) (x y : Int) (A : Option Addr) (n c : Nat) (o p : Int) (t : Bool) (wr : World) : Prop :=
  Blk wr w.heap.size #[.int .i64 x, .int .i64 y, .slice A n c] 35 ∧ Blk wr (w.heap.size + 1) #[.int .i64 0, .int .i64 0, .int .i64 0, .bool false, .slice none 0 0] 69 ∧ Blk wr (w.heap.size + 1 + 1) #[.int .i64 o, .int .i64 0, .int .i64 p, .bool t, .slice none 0 0] 69 ∧ Below w.heap.size w wr
theorem BpSt.start (w : World) (x y : Int) (A : Option Addr) (n c : Nat) : BpSt w x y A n c 0 0 false (((w.alloc (.cells #[.int .i64 x, .int .i64 y, .slice A n c] 35)).alloc (.cells #[.int .i64 0, .int .i64 0, .int .i64 0, .bool false, .slice none 0 0] 69)).alloc (.cells #[.int .i64 0, .int .i64 0, .int .i64 0, .bool false, .slice none 0 0] 69)) := by
  refine ⟨((Blk.new w _ _).alloc _).alloc _, ?_, ?_, (((Below.refl _ _).alloc (Nat.le_refl _) _).alloc (by simp) _).alloc (by simp; omega) _⟩
  · have := (Blk.new (w.alloc (.cells #[.int .i64 x, .int .i64 y, .slice A n c] 35)) #[.int .i64 0, .int .i64 0, .int .i64 0, .bool false, .slice none 0 0] 69).alloc (.cells #[.int .i64 0, .int .i64 0, .int .i64 0, .bool false, .slice none 0 0] 69)
    simpa using this
  · have := Blk.new ((w.alloc (.cells #[.int .i64 x, .int .i64 y, .slice A n c] 35)).alloc (.cells #[.int .i64 0, .int .i64 0, .int .i64 0, .bool false, .slice none 0 0] 69)) #[.int .i64 0, .int .i64 0, .int .i64 0, .bool false, .slice none 0 0] 69
    simpa using this
theorem BpSt.go {w wr wz : World} {x y o p : Int} {A : Option Addr} {n c : Nat} {t : Bool} (h : BpSt w x y A n c o p t wr) (hb : Below wr.heap.size wr wz) : BpSt w x y A n c o p t wz :=
  ⟨h.1.go hb, h.2.1.go hb, h.2.2.1.go hb, h.2.2.2.trans (hb.mono h.2.2.2.size)⟩
theorem BpSt.put {w wr : World} {x y o p : Int} {A : Option Addr} {n c : Nat} {t : Bool} (h : BpSt w x y A n c o p t wr) (o' p' : Int) (t' : Bool) : BpSt w x y A n c o' p' t' (((((wr.setCell ⟨w.heap.size + 1 + 1, 0, none⟩ (.int .i64 o')).setCell ⟨w.heap.size + 1 + 1, 1, none⟩ (.int .i64 0)).setCell ⟨w.heap.size + 1 + 1, 2, none⟩ (.int .i64 p')).setCell ⟨w.heap.size + 1 + 1, 3, none⟩ (.bool t')).setCell ⟨w.heap.size + 1 + 1, 4, none⟩ (.slice none 0 0)) := by
  obtain ⟨h1, h2, h3, h4⟩ := h
  refine ⟨((((h1.setO (by simp; omega) _).setO (by simp; omega) _).setO (by simp; omega) _).setO (by simp; omega) _).setO (by simp; omega) _, ((((h2.setO (by simp) _).setO (by simp) _).setO (by simp) _).setO (by simp) _).setO (by simp) _, ?_, ?_⟩
  · have := ((((h3.set 0 (.int .i64 o')).set 1 (.int .i64 0)).set 2 (.int .i64 p')).set 3 (.bool t')).set 4 (.slice none 0 0)
    exact this
  · exact ((((h4.setCell (by show w.heap.size ≤ w.heap.size + 1 + 1; omega) _).setCell (by show w.heap.size ≤ w.heap.size + 1 + 1; omega) _).setCell (by show w.heap.size ≤ w.heap.size + 1 + 1; omega) _).setCell (by show w.heap.size ≤ w.heap.size + 1 + 1; omega) _).setCell (by show w.heap.size ≤ w.heap.size + 1 + 1; omega) _

set_option maxHeartbeats 12800000 in
set_option maxRecDepth 100000 in
theorem bestPane_c (x y a b : Int) (f : List Pn) (A : Option Addr) (c : Nat) (v : Value) (V : List Int) (w : World) (h : Row paneE w (.slice A f.length c) f) (h' : Row intE w v V) (hl : V.length = f.length) (hV : okV V) : Calls Try.prog 48 #[.agg #[.int .i64 x, .int .i64 y, .slice A f.length c], v, .int .i64 a, .int .i64 b] w (BpOut (lfk f V a b V.length) w) := by
  obtain ⟨-, hc1, hm1, -⟩ := h.at_
  obtain ⟨A2, c2, rfl, hc2, hm2⟩ := h'.form
  unfold maxLen at hm1 hm2
  have HF := hid h
  have HVR := hid h'
  have HV := hid hV
  have HL := hid hl
  clear h h' hV hl
  go_enter Try.func48, Try.ntmps48
  go_wp2
  go_loopw [11, 19] (fun m i wr => ∃ (k : Nat) (o p : Int) (t : Bool), i = .int .i64 k ∧ m = .int .i64 (lfk f V a b k) ∧ k ≤ V.length ∧ BpSt w x y A f.length c o p t wr) (fun _ i _ => V.length - (intOf i).toNat)
  case atStart => exact ⟨0, 0, 0, false, rfl, rfl, by omega, BpSt.start w x y A f.length c⟩
  case round =>
    obtain ⟨k, o, p, t, rfl, rfl, hk, hst⟩ := hrel
    have HST := hid hst
    obtain ⟨hk1, hk2, hk3, hb⟩ := hst
    have HB := hid hb
    have c_K := fun (o : Nat) => hk1.cell o
    have f_K := fun (o : Nat) => hk1.frz o
    have l_K := hk1.lt
    have c_Q := fun (o : Nat) => hk2.cell o
    have f_Q := fun (o : Nat) => hk2.frz o
    have l_Q := hk2.lt
    have c_P := fun (o : Nat) => hk3.cell o
    have f_P := fun (o : Nat) => hk3.frz o
    have l_P := hk3.lt
    by_cases hlt : k < V.length
    · clear hk1 hk2 hk3 hb
      have hltf : k < f.length := by have := HL.out; omega
      obtain ⟨b2, o2, rfl, hb2, hx⟩ := row_cells1 (HVR.out.go HB.out) (by omega)
      have x0 := hx k hlt
      have hvk := HV.out _ (List.getElem_mem hlt)
      have hmb := lfk_bd (f := f) a b HV.out k (by omega)
      clear hx
      obtain ⟨m, hm⟩ : ∃ m, m = lfk f V a b k := ⟨_, rfl⟩
      have HS : Hid (lfk f V a b (k + 1) = lfj f[k] V[k] a b m 2) := by rw [Hid, lfk, ← hm, List.getD_eq_getElem?_getD, List.getElem?_eq_getElem hltf, List.getD_eq_getElem?_getD, List.getElem?_eq_getElem hlt]; rfl
      rw [← hm] at hmb ⊢
      obtain ⟨u, hu⟩ : ∃ u, u = V[k] := ⟨_, rfl⟩
      rw [← hu] at x0 hvk HS
      clear hm hu
      have hwo := l_P
      obtain ⟨wo, rfl⟩ : ∃ wo : World, wo = wr := ⟨_, rfl⟩
      have ZB := hid ((Below.refl wo.heap.size wo).alloc (Nat.le_refl _) (.cells #[.bool false, .bool true] 4))
      have ZS := hid (HST.out.go ZB.out)
      have ZN := hid (Blk.new wo #[.bool false, .bool true] 4)
      go_wp2
      go_loopw [11, 26] (fun m' i wr => ∃ (j : Nat) (o p : Int) (t : Bool), i = .int .i64 j ∧ m' = .int .i64 (lfj f[k] u a b m j) ∧ j ≤ 2 ∧ BpSt w x y A f.length c o p t wr ∧ Blk wr wo.heap.size #[.bool false, .bool true] 4) (fun _ i _ => 2 - (intOf i).toNat)
      case atStart => exact ⟨0, o, p, t, rfl, rfl, by omega, ZS.out, ZN.out⟩
      case round =>
        clear c_K f_K l_K c_Q f_Q l_Q c_P f_P l_P x0 ZB ZS ZN
        obtain ⟨j, o, p, t, rfl, rfl, hj, hst, hbl⟩ := hrel
        have HSTi := hid hst
        have HBL := hid hbl
        obtain ⟨hk1, hk2, hk3, hb⟩ := hst
        have HBi := hid hb
        have c_K := fun (o : Nat) => hk1.cell o
        have f_K := fun (o : Nat) => hk1.frz o
        have l_K := hk1.lt
        have c_P := fun (o : Nat) => hk3.cell o
        have f_P := fun (o : Nat) => hk3.frz o
        have l_P := hk3.lt
        clear hk1 hk2 hk3 hb
        by_cases hj2 : j < 2
        · have x1 := bool_cell hbl hj2
          have l_L := hbl.lt
          have hbd := lfj_bd (q := f[k]) a b hmb hvk j
          have HSTEP := hid (lfj_step (q := f[k]) (v := u) (x := a) (y := b) (m := m) hj2)
          obtain ⟨m', hm'⟩ : ∃ m', m' = lfj f[k] u a b m j := ⟨_, rfl⟩
          obtain ⟨tt, htt⟩ : ∃ tt, tt = decide (j = 1) := ⟨_, rfl⟩
          rw [← hm'] at hbd HSTEP ⊢
          rw [← htt] at x1 HSTEP
          have HFr := hid (HF.out.go HBi.out)
          clear hm' htt hbl
          by_cases hgt : m' < u
          · go_wp2_with fail
            refine (paneFills_c a b x y f A c k tt _ HFr.out hltf).mono ?_
            rintro e w5 ⟨rfl, hb⟩
            have HST5 := hid (HSTi.out.go hb)
            have HBL5 := hid (HBL.out.go hb)
            clear hb c_K f_K l_K c_P f_P l_P
            obtain ⟨hk1, hk2, hk3, hb⟩ := HST5.out
            have c_P := fun (o : Nat) => hk3.cell o
            have f_P := fun (o : Nat) => hk3.frz o
            have l_P := hk3.lt
            clear hk1 hk2 hk3 hb
            cases hfit : fitV f[k] tt a b with
            | true =>
              have HN := hid (HSTEP.out.trans (up1_t hfit hgt))
              have HPUT := hid (HST5.out.put 1 k tt)
              have HBL6 := hid (((((HBL5.out.setO (p := ⟨w.heap.size + 1 + 1, 0, none⟩) (by simp; omega) (.int .i64 1)).setO (p := ⟨w.heap.size + 1 + 1, 1, none⟩) (by simp; omega) (.int .i64 0)).setO (p := ⟨w.heap.size + 1 + 1, 2, none⟩) (by simp; omega) (.int .i64 k)).setO (p := ⟨w.heap.size + 1 + 1, 3, none⟩) (by simp; omega) (.bool tt)).setO (p := ⟨w.heap.size + 1 + 1, 4, none⟩) (by simp; omega) (.slice none 0 0))
              clear hgt hfit HSTEP
              go_wp2
              exact ⟨⟨j + 1, _, _, _, by go_num, by rw [HN.out], by omega, HPUT.out, HBL6.out⟩, by simp [intOf]; omega⟩
            | false =>
              have HN := hid (HSTEP.out.trans (up1_f (.inl hfit)))
              clear hgt hfit HSTEP
              go_wp2
              exact ⟨⟨j + 1, _, _, _, by go_num, by rw [HN.out], by omega, HST5.out, HBL5.out⟩, by simp [intOf]; omega⟩
          · have HN := hid (HSTEP.out.trans (up1_f (.inr hgt)))
            clear HSTEP
            go_wp2
            exact ⟨⟨j + 1, _, _, _, by go_num, by rw [HN.out], by omega, HSTi.out, HBL.out⟩, by simp [intOf]; omega⟩
        · have e : j = 2 := by omega
          subst e
          go_wp2
          exact ⟨⟨k + 1, _, _, _, by go_num, by rw [HS.out], by omega, HSTi.out⟩, by simp [intOf]; omega⟩
    · have e : k = V.length := by omega
      subst e
      have hq : Blk (((((wr.setCell ⟨w.heap.size + 1, 0, none⟩ (.int .i64 o)).setCell ⟨w.heap.size + 1, 1, none⟩ (.int .i64 0)).setCell ⟨w.heap.size + 1, 2, none⟩ (.int .i64 p)).setCell ⟨w.heap.size + 1, 3, none⟩ (.bool t)).setCell ⟨w.heap.size + 1, 4, none⟩ (.slice none 0 0)) (w.heap.size + 1) #[.int .i64 o, .int .i64 0, .int .i64 p, .bool t, .slice none 0 0] 69 := ((((hk2.set 0 (.int .i64 o)).set 1 (.int .i64 0)).set 2 (.int .i64 p)).set 3 (.bool t)).set 4 (.slice none 0 0)
      have hbF : Below w.heap.size w (((((wr.setCell ⟨w.heap.size + 1, 0, none⟩ (.int .i64 o)).setCell ⟨w.heap.size + 1, 1, none⟩ (.int .i64 0)).setCell ⟨w.heap.size + 1, 2, none⟩ (.int .i64 p)).setCell ⟨w.heap.size + 1, 3, none⟩ (.bool t)).setCell ⟨w.heap.size + 1, 4, none⟩ (.slice none 0 0)) := ((((hb.setCell (by show w.heap.size ≤ w.heap.size + 1; omega) _).setCell (by show w.heap.size ≤ w.heap.size + 1; omega) _).setCell (by show w.heap.size ≤ w.heap.size + 1; omega) _).setCell (by show w.heap.size ≤ w.heap.size + 1; omega) _).setCell (by show w.heap.size ≤ w.heap.size + 1; omega) _
      have HQF := hid hq
      have HBF := hid hbF
      clear hq hbF hk1 hk2 hk3 hb
      go_wp2
      obtain ⟨WF, hWF⟩ : ∃ Z : World, Z = (((((wr.setCell ⟨w.heap.size + 1, 0, none⟩ (.int .i64 o)).setCell ⟨w.heap.size + 1, 1, none⟩ (.int .i64 0)).setCell ⟨w.heap.size + 1, 2, none⟩ (.int .i64 p)).setCell ⟨w.heap.size + 1, 3, none⟩ (.bool t)).setCell ⟨w.heap.size + 1, 4, none⟩ (.slice none 0 0)) := ⟨_, rfl⟩
      rw [← hWF] at HQF HBF ⊢
      have c_F := fun (o : Nat) => HQF.out.cell o
      clear hWF
      exact bodyPost_ret (v := .tuple #[.agg #[.int .i64 o, .int .i64 0, .int .i64 p, .bool t, .slice none 0 0], .int .i64 (lfk f V a b V.length)]) (by simp [results, Try.results48, go_sem, c_F]) rfl ⟨o, p, t, rfl, HBF.out⟩

end Go.Proofs.Ytkckaooimffdpaa
