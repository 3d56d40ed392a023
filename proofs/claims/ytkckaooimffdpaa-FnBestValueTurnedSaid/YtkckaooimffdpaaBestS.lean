/-
  Contract: the best pane for some glass, by the reference.
-/
import Derived.Test.YtkckaooimffdpaaBestI
namespace Go.Proofs.Ytkckaooimffdpaa
set_option linter.unusedSimpArgs false
set_option linter.unusedVariables false
open Go.RowKit

set_option maxHeartbeats 12800000 in
set_option maxRecDepth 100000 in
theorem leafValue_c (x y a b : Int) (f : List Pn) (A : Option Addr) (c : Nat) (v : Value) (V : List Int) (w : World) (h : Row paneE w (.slice A f.length c) f) (h' : Row intE w v V) (hl : V.length = f.length) (hV : okV V) : Calls Try.prog 50 #[.agg #[.int .i64 x, .int .i64 y, .slice A f.length c], v, .int .i64 a, .int .i64 b] w (BpOut (lfk f V a b V.length) w) := by
  obtain ⟨-, hc1, hm1, -⟩ := h.at_
  obtain ⟨A2, c2, rfl, hc2, hm2⟩ := h'.form
  unfold maxLen at hm1 hm2
  have HF := hid h
  have HVR := hid h'
  have HV := hid hV
  have HL := hid hl
  clear h h' hV hl
  go_enter Try.func50, Try.ntmps50
  go_wp2
  go_loopw [11, 12] (fun m i wr => ∃ (k : Nat) (o p : Int) (t : Bool), i = .int .i64 k ∧ m = .int .i64 (lfk f V a b k) ∧ k ≤ V.length ∧ BpSt w x y A f.length c o p t wr) (fun _ i _ => V.length - (intOf i).toNat)
  case atStart => exact ⟨0, 0, 0, false, rfl, rfl, by omega, BpSt.start w x y A f.length c⟩
  case round =>
    obtain ⟨k, o, p, t, rfl, rfl, hk, hst⟩ := hrel
    have HST := hid hst
    obtain ⟨hk1, hk2, hk3, hb⟩ := hst
    have HB := hid hb
    have c_K := fun (o : Nat) => hk1.cell o
    have f_K := fun (o : Nat) => hk1.frz o
    have l_K := hk1.lt
    have c_Q := fun (o : Nat) => hk2.cell o
    have f_Q := fun (o : Nat) => hk2.frz o
    have l_Q := hk2.lt
    have c_P := fun (o : Nat) => hk3.cell o
    have f_P := fun (o : Nat) => hk3.frz o
    have l_P := hk3.lt
    by_cases hlt : k < V.length
    · clear hk1 hk2 hk3 hb
      have hltf : k < f.length := by have := HL.out; omega
      obtain ⟨b2, o2, rfl, hb2, hx⟩ := row_cells1 HVR.out (by omega)
      have x0 := hx k hlt
      have hvk := HV.out _ (List.getElem_mem hlt)
      have hmb := lfk_bd (f := f) a b HV.out k (by omega)
      clear hx
      obtain ⟨m, hm⟩ : ∃ m, m = lfk f V a b k := ⟨_, rfl⟩
      have HS : Hid (lfk f V a b (k + 1) = lfj f[k] V[k] a b m 2) := by rw [Hid, lfk, ← hm, List.getD_eq_getElem?_getD, List.getElem?_eq_getElem hltf, List.getD_eq_getElem?_getD, List.getElem?_eq_getElem hlt]; rfl
      rw [← hm] at hmb ⊢
      obtain ⟨u, hu⟩ : ∃ u, u = V[k] := ⟨_, rfl⟩
      rw [← hu] at x0 hvk HS
      clear hm hu
      have hwo := l_P
      obtain ⟨wo, rfl⟩ : ∃ wo : World, wo = wr := ⟨_, rfl⟩
      go_wp2
      go_loopw [11, 13] (fun m' i wr => ∃ (j : Nat) (o p : Int) (t : Bool), i = .int .i64 j ∧ m' = .int .i64 (lfj f[k] u a b m j) ∧ j ≤ 2 ∧ BpSt w x y A f.length c o p t wr) (fun _ i _ => 2 - (intOf i).toNat)
      case atStart => exact ⟨0, o, p, t, rfl, rfl, by omega, HST.out⟩
      case round =>
        clear c_K f_K l_K c_Q f_Q l_Q c_P f_P l_P
        obtain ⟨j, o, p, t, rfl, rfl, hj, hst⟩ := hrel
        have HSTi := hid hst
        have x1 := (hst.2.2.2.cell (p := ⟨b2, o2 + k, none⟩) hb2).trans x0
        have hbb2 : b2 < wr.heap.size := by have := hst.2.2.2.size; omega
        obtain ⟨hk1, hk2, hk3, hb⟩ := hst
        have HBi := hid hb
        have c_K := fun (o : Nat) => hk1.cell o
        have f_K := fun (o : Nat) => hk1.frz o
        have l_K := hk1.lt
        have c_P := fun (o : Nat) => hk3.cell o
        have f_P := fun (o : Nat) => hk3.frz o
        have l_P := hk3.lt
        clear hk1 hk2 hk3 hb
        by_cases hj2 : j < 2
        · have hbd := lfj_bd (q := f[k]) a b hmb hvk j
          have HSTEP := hid (lfj_step (q := f[k]) (v := u) (x := a) (y := b) (m := m) hj2)
          have hje : ((j : Int) == 1) = decide (j = 1) := by
            rcases (by omega : j = 0 ∨ j = 1) with rfl | rfl <;> rfl
          obtain ⟨m', hm'⟩ : ∃ m', m' = lfj f[k] u a b m j := ⟨_, rfl⟩
          obtain ⟨tt, htt⟩ : ∃ tt, tt = decide (j = 1) := ⟨_, rfl⟩
          rw [← hm'] at hbd HSTEP ⊢
          rw [← htt] at hje HSTEP
          have ZB := hid ((Below.refl wr.heap.size wr).alloc (Nat.le_refl _) (.cells #[.int .i64 1, .int .i64 0, .int .i64 k, .bool tt, .slice none 0 0] 69))
          have ZS := hid (HSTi.out.go ZB.out)
          have ZN := hid (Blk.new wr #[.int .i64 1, .int .i64 0, .int .i64 k, .bool tt, .slice none 0 0] 69)
          have HFr := hid (HF.out.go ZS.out.2.2.2)
          have hwr : w.heap.size + 1 + 1 < wr.heap.size := l_P
          clear hm' htt
          by_cases hgt : m' < u
          · go_wp2_with fail
            refine (fitsPlan_c a b x y f A c k tt _ HFr.out hltf).mono ?_
            rintro e w5 ⟨rfl, hb⟩
            have HST5 := hid (ZS.out.go hb)
            have HBL5 := hid (ZN.out.go hb)
            have x2 := (HST5.out.2.2.2.cell (p := ⟨b2, o2 + k, none⟩) hb2).trans x0
            have hbb5 : b2 < w5.heap.size := by have := HST5.out.2.2.2.size; omega
            clear hb c_K f_K l_K c_P f_P l_P x1 hbb2
            obtain ⟨hk1, hk2, hk3, hb⟩ := HST5.out
            have c_P := fun (o : Nat) => hk3.cell o
            have f_P := fun (o : Nat) => hk3.frz o
            have l_P := hk3.lt
            have c_L := fun (o : Nat) => HBL5.out.cell o
            have f_L := fun (o : Nat) => HBL5.out.frz o
            have l_L := HBL5.out.lt
            clear hk1 hk2 hk3 hb
            cases hfit : fitV f[k] tt a b with
            | true =>
              have HN := hid (HSTEP.out.trans (up1_t hfit hgt))
              have HPUT := hid (HST5.out.put 1 k tt)
              clear hgt hfit HSTEP
              go_wp2
              exact ⟨⟨j + 1, _, _, _, by go_num, by rw [HN.out], by omega, HPUT.out⟩, by simp [intOf]; omega⟩
            | false =>
              have HN := hid (HSTEP.out.trans (up1_f (.inl hfit)))
              clear hgt hfit HSTEP
              go_wp2
              exact ⟨⟨j + 1, _, _, _, by go_num, by rw [HN.out], by omega, HST5.out⟩, by simp [intOf]; omega⟩
          · have HN := hid (HSTEP.out.trans (up1_f (.inr hgt)))
            clear HSTEP
            go_wp2
            exact ⟨⟨j + 1, _, _, _, by go_num, by rw [HN.out], by omega, ZS.out⟩, by simp [intOf]; omega⟩
        · have e : j = 2 := by omega
          subst e
          go_wp2
          exact ⟨⟨k + 1, _, _, _, by go_num, by rw [HS.out], by omega, HSTi.out⟩, by simp [intOf]; omega⟩
    · have e : k = V.length := by omega
      subst e
      have hq : Blk (((((wr.setCell ⟨w.heap.size + 1, 0, none⟩ (.int .i64 o)).setCell ⟨w.heap.size + 1, 1, none⟩ (.int .i64 0)).setCell ⟨w.heap.size + 1, 2, none⟩ (.int .i64 p)).setCell ⟨w.heap.size + 1, 3, none⟩ (.bool t)).setCell ⟨w.heap.size + 1, 4, none⟩ (.slice none 0 0)) (w.heap.size + 1) #[.int .i64 o, .int .i64 0, .int .i64 p, .bool t, .slice none 0 0] 69 := ((((hk2.set 0 (.int .i64 o)).set 1 (.int .i64 0)).set 2 (.int .i64 p)).set 3 (.bool t)).set 4 (.slice none 0 0)
      have hbF : Below w.heap.size w (((((wr.setCell ⟨w.heap.size + 1, 0, none⟩ (.int .i64 o)).setCell ⟨w.heap.size + 1, 1, none⟩ (.int .i64 0)).setCell ⟨w.heap.size + 1, 2, none⟩ (.int .i64 p)).setCell ⟨w.heap.size + 1, 3, none⟩ (.bool t)).setCell ⟨w.heap.size + 1, 4, none⟩ (.slice none 0 0)) := ((((hb.setCell (by show w.heap.size ≤ w.heap.size + 1; omega) _).setCell (by show w.heap.size ≤ w.heap.size + 1; omega) _).setCell (by show w.heap.size ≤ w.heap.size + 1; omega) _).setCell (by show w.heap.size ≤ w.heap.size + 1; omega) _).setCell (by show w.heap.size ≤ w.heap.size + 1; omega) _
      have HQF := hid hq
      have HBF := hid hbF
      clear hq hbF hk1 hk2 hk3 hb
      go_wp2
      obtain ⟨WF, hWF⟩ : ∃ Z : World, Z = (((((wr.setCell ⟨w.heap.size + 1, 0, none⟩ (.int .i64 o)).setCell ⟨w.heap.size + 1, 1, none⟩ (.int .i64 0)).setCell ⟨w.heap.size + 1, 2, none⟩ (.int .i64 p)).setCell ⟨w.heap.size + 1, 3, none⟩ (.bool t)).setCell ⟨w.heap.size + 1, 4, none⟩ (.slice none 0 0)) := ⟨_, rfl⟩
      rw [← hWF] at HQF HBF ⊢
      have c_F := fun (o : Nat) => HQF.out.cell o
      clear hWF
      exact bodyPost_ret (v := .tuple #[.agg #[.int .i64 o, .int .i64 0, .int .i64 p, .bool t, .slice none 0 0], .int .i64 (lfk f V a b V.length)]) (by simp [results, Try.results50, go_sem, c_F]) rfl ⟨o, p, t, rfl, HBF.out⟩

end Go.Proofs.Ytkckaooimffdpaa
