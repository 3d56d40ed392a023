/-
  Contracts: a piece taken out of a stock, by the reference.
-/
import Derived.Test.YtpicbkakghojnaaStkW
namespace Go.Proofs.Ytpicbkakghojnaa
set_option linter.unusedSimpArgs false
set_option linter.unusedVariables false
open Go.RowKit

/-- What a call answers that takes piece j. -/
def TkT (L : List Pc) (j : Nat) (hj : j < L.length) (e : Ending) (w' : World) : Prop := ∃ (s : Ps) (v' : Value), e = .returned (.tuple #[.agg #[.int .i64 s.l, .int .i64 s.w, .int .i64 s.h, .slice s.ka s.kn s.kc], v', .bool true]) ∧ PvR w'.heap.size w' L[j] s ∧ StR w'.heap.size w' v' (L.eraseIdx j)
theorem pvr_res4 {w : World} {g : Nat} {s : Ps} {p : Pc} (h : PvR w.heap.size w p s) (hk : s.kv.ownBlock ≠ some g) (u0 u1 u2 u3 : Value) :
    PvR ((((w.setCell ⟨g, 0, none⟩ u0).setCell ⟨g, 1, none⟩ u1).setCell ⟨g, 2, none⟩ u2).setCell ⟨g, 3, none⟩ u3).heap.size ((((w.setCell ⟨g, 0, none⟩ u0).setCell ⟨g, 1, none⟩ u1).setCell ⟨g, 2, none⟩ u2).setCell ⟨g, 3, none⟩ u3) p s := by
  refine ⟨h.1, ?_⟩
  obtain ⟨A, c, h1, h2, h3, h4⟩ := h.2
  refine ⟨A, c, h1, h2, h3, fun h0 => ?_⟩
  obtain ⟨b, off, rfl, hb, hc⟩ := h4 h0
  have hne : g ≠ b := fun e => by
    subst e
    apply hk
    simp only [Ps.kv, Value.slice.injEq] at h1
    unfold Ps.kv
    rw [h1.1]
    rfl
  refine ⟨b, off, rfl, by simpa using hb, fun j u hu => ?_⟩
  have key : ∀ (X : World) (i : Nat) (x : Value), (X.setCell ⟨g, i, none⟩ x).cell? ⟨b, off + j, none⟩ = X.cell? ⟨b, off + j, none⟩ := fun X i x => World.cell?_setCell_other _ _ _ _ (fun e => by injection e with e1; exact hne e1)
  rw [key, key, key, key]
  exact hc j u hu

set_option maxHeartbeats 6400000 in
set_option maxRecDepth 100000 in
theorem sTakePiece_t (v : Value) (L : List Pc) (x : Int) (j : Nat) (w : World) (h : StR w.heap.size w v L) (hI : S64 L) (hvs : VS L) (hj : j < L.length) (hp : placeP (labs L) x = j) : Calls Try.prog 48 #[v, .int .i64 x] w fun e w' => TkT L j hj e w' ∧ Below w.heap.size w w' := by
  have hn : L.length ≤ 4194304 := Nat.le_trans hvs.1 (by omega)
  have HF : Hid (∀ q ∈ L, q.f.length ≤ 4194304) := fun q hq => Nat.le_trans (hvs.2.1 q hq).2.2.2.1 (by omega)
  have HB0 := hid ((Below.refl w.heap.size w).alloc (Nat.le_refl _) (.cells #[.int .i64 0, .int .i64 0, .int .i64 0, .slice none 0 0] 31))
  have HK := hid (Blk.new w #[.int .i64 0, .int .i64 0, .int .i64 0, .slice none 0 0] 31)
  have HL := hid (fun w1 (hb : Below w.heap.size w w1) => h.go hb)
  have HVS := hid (vsB_iff.2 hvs)
  have HP := hid hp
  have HI := hid hI
  obtain ⟨A1, c1, rfl, hc1, hm1⟩ := h.form
  unfold maxLen at hm1
  obtain ⟨b1, o1, s, rfl, hb1, hps, y0, y1, y2, y3⟩ := h.at_ j hj
  have HPs := hid (fun X (hb : Below w.heap.size w X) => hps.go hb)
  have Y := hid (And.intro y0 (And.intro y1 (And.intro y2 y3)))
  clear h hvs hp hI hps y0 y1 y2 y3
  go_enter Try.func48, Try.ntmps48
  go_wp2_with fail
  refine (svalidStock_c _ L _ (HL.out _ HB0.out) HI.out).mono ?_
  rintro e w1 ⟨rfl, hb⟩
  rw [HVS.out]
  have HB1 := hid (HB0.out.trans (hb.mono HB0.out.size))
  have HK1 := hid (HK.out.go hb)
  clear hb
  go_wp2_with fail
  refine (sfindLabel_c _ L x _ (HL.out _ HB1.out)).mono ?_
  rintro e w2 ⟨rfl, hb⟩
  rw [HP.out]
  have HB2 := hid (HB1.out.trans (hb.mono HB1.out.size))
  have HK2 := hid (HK1.out.go hb)
  clear hb
  go_wp2_with fail
  refine (sfindLabel_c _ L x _ (HL.out _ HB2.out)).mono ?_
  rintro e w3 ⟨rfl, hb⟩
  rw [HP.out]
  have HB3 := hid (HB2.out.trans (hb.mono HB2.out.size))
  have HK3 := hid (HK2.out.go hb)
  have x0 := (HB3.out.cell (p := ⟨b1, o1 + j * 4, none⟩) hb1).trans Y.out.1
  have x1 := (HB3.out.cell (p := ⟨b1, o1 + j * 4 + 1, none⟩) hb1).trans Y.out.2.1
  have x2 := (HB3.out.cell (p := ⟨b1, o1 + j * 4 + 2, none⟩) hb1).trans Y.out.2.2.1
  have x3 := (HB3.out.cell (p := ⟨b1, o1 + j * 4 + 3, none⟩) hb1).trans Y.out.2.2.2
  have b1l : b1 < w3.heap.size := by have := HB3.out.size; omega
  have l_q := HK3.out.lt
  clear hb
  go_wp2_with fail
  refine (scopyPiece_c L[j] s _ (HPs.out _ HB3.out) (HF.out _ (List.getElem_mem hj))).mono ?_
  rintro e w4 ⟨⟨s2, rfl, hs2, ho2⟩, hb⟩
  have HB4 := hid (HB3.out.trans (hb.mono HB3.out.size))
  have HK4 := hid (HK3.out.go hb)
  have HS2 := hid hs2
  have HO2 := hid ho2
  clear hb hs2 ho2 x0 x1 x2 x3
  go_wp2_with fail
  refine (without_c _ L j _ (HL.out _ HB4.out) hn HF.out hj).mono ?_
  rintro e w5 ⟨⟨v', rfl, hst⟩, hb⟩
  have HB5 := hid (HB4.out.trans (hb.mono HB4.out.size))
  have k5 := HK4.out.go hb
  have c_q := fun (o : Nat) => k5.cell o
  have f_q := fun (o : Nat) => k5.frz o
  have l_q5 := k5.lt
  have l_q4 := HK4.out.lt
  have HO5 := hid (HO2.out.below hb)
  have HST := hid hst
  clear hb hst k5
  go_wp2
  refine bodyPost_ret (v := .tuple #[.agg #[.int .i64 s2.l, .int .i64 s2.w, .int .i64 s2.h, .slice s2.ka s2.kn s2.kc], v', .bool true]) (by simp [results, Try.results48, go_sem, c_q]) rfl ⟨⟨s2, v', rfl, ?_, ?_⟩, ?_⟩
  · exact pvr_res4 ⟨HS2.out, HO5.out.rowB⟩ (fun e => by have := (HO5.out.lt _ e).1; omega) _ _ _ _
  · have hst2 : OSt w4.heap.size ((((w5.setCell ⟨w.heap.size, 0, none⟩ (.int .i64 s2.l)).setCell ⟨w.heap.size, 1, none⟩ (.int .i64 s2.w)).setCell ⟨w.heap.size, 2, none⟩ (.int .i64 s2.h)).setCell ⟨w.heap.size, 3, none⟩ (.slice s2.ka s2.kn s2.kc)) v' (L.eraseIdx j) :=
      ((((HST.out.gr (grown_setCell _ ⟨w.heap.size, 0, none⟩ _) l_q4).gr (grown_setCell _ ⟨w.heap.size, 1, none⟩ _) l_q4).gr (grown_setCell _ ⟨w.heap.size, 2, none⟩ _) l_q4).gr (grown_setCell _ ⟨w.heap.size, 3, none⟩ _) l_q4)
    exact hst2.read
  · exact ((((HB5.out.setCell (by simp <;> omega) _).setCell (by simp <;> omega) _).setCell (by simp <;> omega) _).setCell (by simp <;> omega) _)

set_option maxHeartbeats 6400000 in
set_option maxRecDepth 100000 in
theorem sTakePiece_f (v : Value) (L : List Pc) (x : Int) (w : World) (h : StR w.heap.size w v L) (hI : S64 L) (hf : ¬ (VS L ∧ 0 ≤ placeP (labs L) x)) : Calls Try.prog 48 #[v, .int .i64 x] w fun e w' => e = .returned (.tuple #[.agg #[.int .i64 0, .int .i64 0, .int .i64 0, .slice none 0 0], .slice none 0 0, .bool false]) ∧ Below w.heap.size w w' := by
  have HB0 := hid ((Below.refl w.heap.size w).alloc (Nat.le_refl _) (.cells #[.int .i64 0, .int .i64 0, .int .i64 0, .slice none 0 0] 31))
  have HK := hid (Blk.new w #[.int .i64 0, .int .i64 0, .int .i64 0, .slice none 0 0] 31)
  have HL := hid (fun w1 (hb : Below w.heap.size w w1) => h.go hb)
  have HI := hid hI
  have hbd := placeP_bd (labs L) x
  cases hv : vsB L with
  | false =>
    have HV := hid hv
    clear hv h hf hI hbd
    go_enter Try.func48, Try.ntmps48
    go_wp2_with fail
    refine (svalidStock_c _ L _ (HL.out _ HB0.out) HI.out).mono ?_
    rintro e w1 ⟨rfl, hb⟩
    rw [HV.out]
    have HB1 := hid (HB0.out.trans (hb.mono HB0.out.size))
    have k1 := HK.out.go hb
    have c_q := fun (o : Nat) => k1.cell o
    have f_q := fun (o : Nat) => k1.frz o
    have l_q := k1.lt
    clear hb k1
    go_wp2
    refine bodyPost_ret (v := .tuple #[.agg #[.int .i64 0, .int .i64 0, .int .i64 0, .slice none 0 0], .slice none 0 0, .bool false]) (by simp [results, Try.results48, go_sem, c_q]) rfl ⟨rfl, ?_⟩
    exact ((((HB1.out.setCell (by simp <;> omega) _).setCell (by simp <;> omega) _).setCell (by simp <;> omega) _).setCell (by simp <;> omega) _)
  | true =>
    have HV := hid hv
    have hx : placeP (labs L) x = -1 := by
      have h1 : ¬ 0 ≤ placeP (labs L) x := fun h2 => hf ⟨vsB_iff.1 hv, h2⟩
      omega
    have HX := hid hx
    clear hv h hf hI hbd hx
    go_enter Try.func48, Try.ntmps48
    go_wp2_with fail
    refine (svalidStock_c _ L _ (HL.out _ HB0.out) HI.out).mono ?_
    rintro e w1 ⟨rfl, hb⟩
    rw [HV.out]
    have HB1 := hid (HB0.out.trans (hb.mono HB0.out.size))
    have HK1 := hid (HK.out.go hb)
    clear hb
    go_wp2_with fail
    refine (sfindLabel_c _ L x _ (HL.out _ HB1.out)).mono ?_
    rintro e w2 ⟨rfl, hb⟩
    rw [HX.out]
    have HB2 := hid (HB1.out.trans (hb.mono HB1.out.size))
    have k1 := HK1.out.go hb
    have c_q := fun (o : Nat) => k1.cell o
    have f_q := fun (o : Nat) => k1.frz o
    have l_q := k1.lt
    clear hb k1
    go_wp2
    refine bodyPost_ret (v := .tuple #[.agg #[.int .i64 0, .int .i64 0, .int .i64 0, .slice none 0 0], .slice none 0 0, .bool false]) (by simp [results, Try.results48, go_sem, c_q]) rfl ⟨rfl, ?_⟩
    exact ((((HB2.out.setCell (by simp <;> omega) _).setCell (by simp <;> omega) _).setCell (by simp <;> omega) _).setCell (by simp <;> omega) _)

end Go.Proofs.Ytpicbkakghojnaa
