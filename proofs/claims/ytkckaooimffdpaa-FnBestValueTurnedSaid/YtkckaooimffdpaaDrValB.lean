/-
  Contract: a work that may be invalid, drawn by the generators of the reference.
-/
import Derived.Test.YtkckaooimffdpaaDrVal
namespace Go.Proofs.Ytkckaooimffdpaa
set_option linter.unusedSimpArgs false
set_option linter.unusedVariables false
open Go.RowKit

def AwOut (B a : Nat) (m : Int) (w : World) (e : Ending) (w' : World) : Prop := ∃ (W H : Int) (A : Option Addr) (c : Nat) (L : List Pn), e = .returned (.agg #[.int .i64 W, .int .i64 H, .slice A L.length c]) ∧ L.length ≤ 7 ∧ (0 ≤ W ∧ W ≤ 201) ∧ (6 ≤ H ∧ H ≤ 16) ∧ (∀ p ∈ L, bdP p) ∧ Own paneE 40 w.heap.size w' (.slice A L.length c) L ∧ Rd B w' a m ∧ w.grownBy w' (some a)
theorem set_grown (w : World) (q i : Nat) (u : Value) : w.grownBy (w.setCell ⟨q, i, none⟩ u) (some q) := ⟨rfl, rfl, rfl, by simp, fun k hk hne => heap_setCell_other w ⟨q, i, none⟩ k u (fun e => hne (by rw [e]))⟩
theorem own_nb {v : Value} {lo kb : Nat} (h : ∀ k, v.ownBlock = some k → lo ≤ k ∧ k < kb) : v.ownBlock = none ∨ v.ownBlock ≠ some kb := by
  cases hv : v.ownBlock with
  | none => exact .inl rfl
  | some k => exact .inr (fun e => by injection e with e; have := (h k hv).2; omega)
theorem aw_end {B a : Nat} {m : Int} {w wr : World} {W H : Int} {A : Option Addr} {c : Nat} {L : List Pn} (hR : Rd B wr a m) (hG : w.grownBy wr (some a)) (hO : Own paneE 40 (w.heap.size + 1) wr (.slice A L.length c) L) (hQ : Blk wr w.heap.size #[.int .i64 0, .int .i64 0, .slice none 0 0] 35) (ha : a < w.heap.size) (hB : B ≤ a) (hL : L.length ≤ 7) (hW : 0 ≤ W ∧ W ≤ 201) (hH : 6 ≤ H ∧ H ≤ 16) (hT : ∀ p ∈ L, bdP p) :
    (AwOut B a m w (.returned (.agg #[.int .i64 W, .int .i64 H, .slice A L.length c])) (((wr.setCell ⟨w.heap.size, 0, none⟩ (.int .i64 W)).setCell ⟨w.heap.size, 1, none⟩ (.int .i64 H)).setCell ⟨w.heap.size, 2, none⟩ (.slice A L.length c))) ∧
    Blk (((wr.setCell ⟨w.heap.size, 0, none⟩ (.int .i64 W)).setCell ⟨w.heap.size, 1, none⟩ (.int .i64 H)).setCell ⟨w.heap.size, 2, none⟩ (.slice A L.length c)) w.heap.size #[.int .i64 W, .int .i64 H, .slice A L.length c] 35 := by
  refine ⟨⟨W, H, A, c, L, rfl, hL, hW, hH, hT, ?_, ?_, ?_⟩, ((hQ.set 0 (.int .i64 W)).set 1 (.int .i64 H)).set 2 (.slice A L.length c)⟩
  · exact ((((hO.setCell_far (p := ⟨w.heap.size, 0, none⟩) (by show w.heap.size < w.heap.size + 1; omega) _).setCell_far (p := ⟨w.heap.size, 1, none⟩) (by show w.heap.size < w.heap.size + 1; omega) _).setCell_far (p := ⟨w.heap.size, 2, none⟩) (by show w.heap.size < w.heap.size + 1; omega) _).base_le (by omega))
  · exact (((hR.set (q := w.heap.size) (by omega) (by omega) 0 (.int .i64 W)).set (q := w.heap.size) (by omega) (by omega) 1 (.int .i64 H)).set (q := w.heap.size) (by omega) (by omega) 2 (.slice A L.length c))
  · exact gr_set (gr_set (gr_set hG (Nat.le_refl _) 0 (.int .i64 W)) (Nat.le_refl _) 1 (.int .i64 H)) (Nat.le_refl _) 2 (.slice A L.length c)

set_option maxHeartbeats 12800000 in
set_option maxRecDepth 100000 in
theorem anySheetWork_c (B a : Nat) (m : Int) (w : World) (h : Rd B w a m) (hm : m ≤ 400000) : Calls Try.prog 34 #[.pointer (some ⟨a, 0, none⟩), .bool true] w (AwOut B a (m + 100) w) := by
  have HR0 := hid h
  have HG0 := hid (World.grownBy.refl w (some a))
  have hla := h.lt
  have hlo := h.lo
  clear h
  go_enter Try.func34, Try.ntmps34
  have HR1 := hid (HR0.out.alloc (.cells #[.int .i64 0, .int .i64 0, .slice none 0 0] 35))
  have HG1 := hid (gr_alloc HG0.out (.cells #[.int .i64 0, .int .i64 0, .slice none 0 0] 35))
  have HQ1 := hid (Blk.new w #[.int .i64 0, .int .i64 0, .slice none 0 0] 35)
  go_wp2_with fail
  refine (sheetWork_c B a m _ HR1.out (by omega)).mono ?_
  rintro e w1 ⟨W, H, A1, c1, L, rfl, hL7, hW, hH, hT, hO, hR, hg⟩
  rw [World.size_alloc] at hO
  have hs1 : w.heap.size + 1 ≤ w1.heap.size := by have := hg.size; simp at this; omega
  have HT := hid hT
  have HR2 := hid (hR.alloc (.cells #[.int .i64 W, .int .i64 H, .slice A1 L.length c1] 35))
  have HG2 := hid (gr_alloc (grown_trans HG1.out hg) (.cells #[.int .i64 W, .int .i64 H, .slice A1 L.length c1] 35))
  have HQ2 := hid ((HQ1.out.grown hg (fun e => by injection e with e; omega)).alloc (.cells #[.int .i64 W, .int .i64 H, .slice A1 L.length c1] 35))
  have HK2 := hid (Blk.new w1 #[.int .i64 W, .int .i64 H, .slice A1 L.length c1] 35)
  have HO2 := hid (hO.alloc (.cells #[.int .i64 W, .int .i64 H, .slice A1 L.length c1] 35))
  obtain ⟨A', c', e0, hc1, hm1, -⟩ := hO.shape
  injection e0 with e0 e1 e2
  subst e0
  subst e2
  clear e1
  unfold maxLen at hm1
  have hOlt := hO.lt
  have HOL := hid hOlt
  clear hT hO hR hg HR0 HG0 HR1 HG1 HQ1 hOlt
  go_wp2_with fail
  refine (pick_c B a 16 _ _ HR2.out (by omega) (by omega) (by omega)).mono ?_
  rintro e w2 ⟨x, rfl, hp, hR, hg⟩
  have HR3 := hid hR
  have HG3 := hid (grown_trans HG2.out hg)
  have HQ3 := hid (HQ2.out.grown hg (fun e => by injection e with e; omega))
  have HK3 := hid (HK2.out.grown hg (fun e => by injection e with e; omega))
  have HO3 := hid (HO2.out.kept hg (bown_na HO2.out (by omega)))
  have hs2 : w1.heap.size < w2.heap.size := HK3.out.lt
  obtain ⟨kb, hkb⟩ : ∃ kb, kb = w1.heap.size := ⟨_, rfl⟩
  have HOL2 : Hid (∀ k, (Value.slice A1 L.length c1).ownBlock = some k → w.heap.size + 1 ≤ k ∧ k < kb) := by rw [hkb]; exact HOL.out
  rw [← hkb] at HK3 hs1 hs2 ⊢
  clear hp hR hg HR2 HG2 HQ2 HK2 HO2 HOL hkb
  have c_K := fun (o : Nat) => HK3.out.cell o
  have f_K := fun (o : Nat) => HK3.out.frz o
  have l_K := HK3.out.lt
  have c_Q := fun (o : Nat) => HQ3.out.cell o
  have f_Q := fun (o : Nat) => HQ3.out.frz o
  have l_Q := HQ3.out.lt
  by_cases hx0 : x = 0
  · have e1 : (x == 0) = true := by simpa using hx0
    clear hx0
    have ZL := hid (lit_row w2 w2.heap.size rfl #[.int .i64 0, .int .i64 17, .int .i64 201] [0, 17, 201] 3 rfl rfl (by simp [maxLen]))
    have HR4 := hid (HR3.out.alloc (.cells #[.int .i64 0, .int .i64 17, .int .i64 201] 3))
    have HG4 := hid (gr_alloc HG3.out (.cells #[.int .i64 0, .int .i64 17, .int .i64 201] 3))
    have HQ4 := hid (HQ3.out.alloc (.cells #[.int .i64 0, .int .i64 17, .int .i64 201] 3))
    have HK4 := hid (HK3.out.alloc (.cells #[.int .i64 0, .int .i64 17, .int .i64 201] 3))
    have HO4 := hid (HO3.out.alloc (.cells #[.int .i64 0, .int .i64 17, .int .i64 201] 3))
    go_wp2_with fail
    refine (one_c B a _ [0, 17, 201] _ _ HR4.out ZL.out (by simp [Value.ownBlock]; omega) (by simp) (by simp) (by omega)).mono ?_
    rintro e w3 ⟨y, rfl, hp, hR, hg⟩
    have hy : 0 ≤ y ∧ y ≤ 201 := by simp at hp; omega
    have HG5 := hid (gr_set (grown_trans HG4.out hg) (q := kb) (by omega) 0 (.int .i64 y))
    have HR5 := hid (hR.set (q := kb) (by omega) (by omega) 0 (.int .i64 y))
    have HQ5 := hid ((HQ4.out.grown hg (fun e => by injection e with e; omega)).setO (p := ⟨kb, 0, none⟩) (by show w.heap.size ≠ kb; omega) (.int .i64 y))
    have HKg := HK4.out.grown hg (fun e => by injection e with e; omega)
    have HK5 := hid (HKg.set 0 (.int .i64 y))
    have HO5 := hid (show Own paneE 40 (w.heap.size + 1) (w3.setCell ⟨kb, 0, none⟩ (.int .i64 y)) (.slice A1 L.length c1) L from
      (HO4.out.kept hg (bown_na HO4.out (by omega))).kept (set_grown w3 kb 0 (.int .i64 y)) (own_nb HOL2.out))
    clear c_K f_K l_K c_Q f_Q l_Q
    have c_K := fun (o : Nat) => HKg.cell o
    have f_K := fun (o : Nat) => HKg.frz o
    have l_K := HKg.lt
    clear hp hR hg ZL
    obtain ⟨hEND, hBLK⟩ := aw_end (HR5.out.up (m' := m + 100) (by omega)) HG5.out HO5.out HQ5.out hla hlo hL7 hy hH HT.out
    have HEND := hid hEND
    have HBLK := hid hBLK
    have c_Q := fun (o : Nat) => HQ5.out.cell o
    have f_Q := fun (o : Nat) => HQ5.out.frz o
    have l_Q := HQ5.out.lt
    clear hEND hBLK
    have c_5 := fun (o : Nat) => HK5.out.cell o
    go_wp2
    obtain ⟨WF, hWF⟩ : ∃ Z : World, Z = ((((w3.setCell ⟨kb, 0, none⟩ (.int .i64 y)).setCell ⟨w.heap.size, 0, none⟩ (.int .i64 y)).setCell ⟨w.heap.size, 1, none⟩ (.int .i64 H)).setCell ⟨w.heap.size, 2, none⟩ (.slice A1 L.length c1)) := ⟨_, rfl⟩
    rw [← hWF] at HEND HBLK ⊢
    have c_F := fun (o : Nat) => HBLK.out.cell o
    clear hWF
    exact bodyPost_ret (v := .agg #[.int .i64 y, .int .i64 H, .slice A1 L.length c1]) (by simp [results, Try.results34, go_sem, c_F]) rfl HEND.out
  · have e1 : (x == 0) = false := by simpa using hx0
    clear hx0
    by_cases hx1 : x = 1
    · have e2 : (x == 1) = true := by simpa using hx1
      clear hx1
      by_cases hl0 : 0 < L.length
      · have d0 : decide (0 < L.length) = true := decide_eq_true hl0
        obtain ⟨g, cap, e3, hg1, hg2, hg3, hg4⟩ := HO3.out.form hl0
        injection e3 with e3 e4 e5
        subst e3
        subst e5
        clear e4
        have hgkb := (HOL2.out g rfl).2
        have hcl := HO3.out.cellAt rfl 0 0 hl0 (by decide)
        have hfr := HO3.out.frozen rfl 0
        have hcl2 : w2.cell? ⟨g, 0, none⟩ = some (.int .i64 L[0].w) := hcl
        have hw1 : IntKind.i64.wrap (W + 1) = W + 1 := IntWalk.i64_in _ (by omega)
        obtain ⟨hoF, hgF⟩ := HO3.out.field 0 0 (.int .i64 (W + 1)) ⟨W + 1, L[0].h, L[0].t, L[0].k⟩ rfl hl0 (by decide) rfl
        have hT5 : ∀ p ∈ L.set 0 ⟨W + 1, L[0].h, L[0].t, L[0].k⟩, bdP p := fun p hp => by
          rcases List.mem_or_eq_of_mem_set hp with h1 | rfl
          · exact HT.out p h1
          · have := HT.out _ (List.getElem_mem hl0)
            unfold bdP at this ⊢
            simp only
            omega
        have hGF := gr_set HG3.out (q := g) (by omega) 0 (.int .i64 (W + 1))
        have hRF := HR3.out.set (q := g) (by omega) (by omega) 0 (.int .i64 (W + 1))
        have hQF := HQ3.out.setO (p := ⟨g, 0, none⟩) (by show w.heap.size ≠ g; omega) (.int .i64 (W + 1))
        have HKF := hid (HK3.out.setO (p := ⟨g, 0, none⟩) (by show kb ≠ g; omega) (.int .i64 (W + 1)))
        obtain ⟨L5, hL5⟩ : ∃ L5, L5 = L.set 0 ⟨W + 1, L[0].h, L[0].t, L[0].k⟩ := ⟨_, rfl⟩
        have hl5 : L5.length = L.length := by rw [hL5]; simp
        rw [← hL5] at hT5 hoF
        obtain ⟨hEND, hBLK⟩ := aw_end (L := L5) (A := some ⟨g, 0, none⟩) (c := c1) (wr := w2.setCell ⟨g, 0, none⟩ (.int .i64 (W + 1))) (hRF.up (m' := m + 100) (by omega)) hGF (by rw [hl5]; exact hoF) hQF hla hlo (by omega) (show 0 ≤ W ∧ W ≤ 201 by omega) hH hT5
        rw [hl5] at hEND hBLK
        have HEND := hid hEND
        have HBLK := hid hBLK
        clear hEND hBLK hoF hgF hGF hRF hQF hT5 hL5 hl5 hcl hg4
        go_wp2
        obtain ⟨WF, hWF⟩ : ∃ Z : World, Z = ((((w2.setCell ⟨g, 0, none⟩ (.int .i64 (W + 1))).setCell ⟨w.heap.size, 0, none⟩ (.int .i64 W)).setCell ⟨w.heap.size, 1, none⟩ (.int .i64 H)).setCell ⟨w.heap.size, 2, none⟩ (.slice (some ⟨g, 0, none⟩) L.length c1)) := ⟨_, rfl⟩
        rw [← hWF] at HEND HBLK ⊢
        have c_F := fun (o : Nat) => HBLK.out.cell o
        clear hWF
        exact bodyPost_ret (v := .agg #[.int .i64 W, .int .i64 H, .slice (some ⟨g, 0, none⟩) L.length c1]) (by simp [results, Try.results34, go_sem, c_F]) rfl HEND.out
      · have d0 : decide (0 < L.length) = false := decide_eq_false hl0
        obtain ⟨hEND, hBLK⟩ := aw_end (HR3.out.up (m' := m + 100) (by omega)) HG3.out HO3.out HQ3.out hla hlo hL7 (show 0 ≤ W ∧ W ≤ 201 by omega) hH HT.out
        have HEND := hid hEND
        have HBLK := hid hBLK
        clear hEND hBLK
        go_wp2
        obtain ⟨WF, hWF⟩ : ∃ Z : World, Z = (((w2.setCell ⟨w.heap.size, 0, none⟩ (.int .i64 W)).setCell ⟨w.heap.size, 1, none⟩ (.int .i64 H)).setCell ⟨w.heap.size, 2, none⟩ (.slice A1 L.length c1)) := ⟨_, rfl⟩
        rw [← hWF] at HEND HBLK ⊢
        have c_F := fun (o : Nat) => HBLK.out.cell o
        clear hWF
        exact bodyPost_ret (v := .agg #[.int .i64 W, .int .i64 H, .slice A1 L.length c1]) (by simp [results, Try.results34, go_sem, c_F]) rfl HEND.out
    · have e2 : (x == 1) = false := by simpa using hx1
      clear hx1
      obtain ⟨hEND, hBLK⟩ := aw_end (HR3.out.up (m' := m + 100) (by omega)) HG3.out HO3.out HQ3.out hla hlo hL7 (show 0 ≤ W ∧ W ≤ 201 by omega) hH HT.out
      have HEND := hid hEND
      have HBLK := hid hBLK
      clear hEND hBLK
      go_wp2
      obtain ⟨WF, hWF⟩ : ∃ Z : World, Z = (((w2.setCell ⟨w.heap.size, 0, none⟩ (.int .i64 W)).setCell ⟨w.heap.size, 1, none⟩ (.int .i64 H)).setCell ⟨w.heap.size, 2, none⟩ (.slice A1 L.length c1)) := ⟨_, rfl⟩
      rw [← hWF] at HEND HBLK ⊢
      have c_F := fun (o : Nat) => HBLK.out.cell o
      clear hWF
      exact bodyPost_ret (v := .agg #[.int .i64 W, .int .i64 H, .slice A1 L.length c1]) (by simp [results, Try.results34, go_sem, c_F]) rfl HEND.out

end Go.Proofs.Ytkckaooimffdpaa
