/-
  Contract: the table of greatest values, by the reference: a list of rows.
-/
import Derived.Test.YtkckaooimffdpaaBestV
import Derived.Test.YtkckaooimffdpaaBestS
namespace Go.Proofs.Ytkckaooimffdpaa
set_option linter.unusedSimpArgs false
set_option linter.unusedVariables false
open Go.RowKit

/-- A row of m numbers, told by its block. -/
def rwE (m : Nat) : Enc Nat := ⟨1, fun g => [.slice (some ⟨g, 0, none⟩) m m], fun _ => rfl, by decide, by simp [Value.oneCell']⟩
theorem ints_info : (Try.prog.info? 23).map (fun i => (i.zero, i.size, i.bytes)) = some (some (.slice none 0 0), 1, 24) := by kernel_rfl
/-- Where the walk stands: the work, the list of the rows, the rows. -/
def VsSt (w : World) (x y : Int) (A : Option Addr) (n c m : Nat) (ov : Value) (G : List Nat) (R : Nat → List Int) (wr : World) : Prop :=
  Blk wr w.heap.size #[.int .i64 x, .int .i64 y, .slice A n c] 35 ∧ Own (rwE m) 23 (w.heap.size + 1) wr ov G ∧ (∀ i, (hi : i < G.length) → Own intE 3 (w.heap.size + 1) wr (.slice (some ⟨G[i], 0, none⟩) m m) (R i)) ∧ (∀ i j, (hi : i < G.length) → (hj : j < G.length) → i ≠ j → G[i] ≠ G[j]) ∧ (∀ i, (hi : i < G.length) → ov.ownBlock ≠ some G[i]) ∧ Below w.heap.size w wr
section
variable {w wr wz : World} {x y : Int} {A : Option Addr} {n c m : Nat} {ov : Value} {G : List Nat} {R R' : Nat → List Int}
theorem VsSt.start (w : World) (x y : Int) (A : Option Addr) (n c m : Nat) (R : Nat → List Int) : VsSt w x y A n c m (.slice (some ⟨w.heap.size + 1, 0, none⟩) 0 0) [] R ((w.alloc (.cells #[.int .i64 x, .int .i64 y, .slice A n c] 35)).alloc (.cells #[] 23)) := by
  refine ⟨(Blk.new w _ _).alloc _, ?_, fun i hi => by simp at hi, fun i j hi => by simp at hi, fun i hi => by simp at hi, ((Below.refl _ _).alloc (Nat.le_refl _) _).alloc (by simp) _⟩
  have := Own.lit0 (rwE m) (w.alloc (.cells #[.int .i64 x, .int .i64 y, .slice A n c] 35)) (w.heap.size + 1) 23 (by simp)
  rw [World.size_alloc] at this
  exact this
theorem VsSt.go (h : VsSt w x y A n c m ov G R wr) (hb : Below wr.heap.size wr wz) : VsSt w x y A n c m ov G R wz :=
  ⟨h.1.go hb, h.2.1.below hb, fun i hi => (h.2.2.1 i hi).below hb, h.2.2.2.1, h.2.2.2.2.1, h.2.2.2.2.2.trans (hb.mono h.2.2.2.2.2.size)⟩
theorem VsSt.rows (h : VsSt w x y A n c m ov G R wr) (hR : ∀ i, i < G.length → R' i = R i) : VsSt w x y A n c m ov G R' wr :=
  ⟨h.1, h.2.1, fun i hi => by rw [hR i hi]; exact h.2.2.1 i hi, h.2.2.2.1, h.2.2.2.2.1, h.2.2.2.2.2⟩
theorem VsSt.push {w1 : World} {v' : Value} (h : VsSt w x y A n c m ov G R wr) (hr : Own intE 3 (w.heap.size + 1) w1 (.slice (some ⟨wr.heap.size, 0, none⟩) m m) (R G.length)) (hg : wr.grownBy w1 none) (hlt : wr.heap.size < w1.heap.size) (ho : Own (rwE m) 23 (w.heap.size + 1) wz v' (G ++ [wr.heap.size])) (hg2 : w1.grownBy wz ov.ownBlock) (hat : v'.ownBlock = ov.ownBlock ∨ v'.ownBlock = some (w1.heap.size + 1)) : VsSt w x y A n c m v' (G ++ [wr.heap.size]) R wz := by
  obtain ⟨h1, h2, h3, h4, h5, h6⟩ := h
  have hGlt : ∀ i, (hi : i < G.length) → G[i] < wr.heap.size := fun i hi => ((h3 i hi).lt G[i] rfl).2
  have hsz := h6.size
  have hovl : ∀ k, ov.ownBlock = some k → w.heap.size + 1 ≤ k ∧ k < wr.heap.size := h2.lt
  refine ⟨?_, ho, fun i hi => ?_, fun i j hi hj hij => ?_, fun i hi => ?_, ?_⟩
  · refine (h1.grown hg (by simp)).grown hg2 (fun e => ?_)
    have := (hovl _ e.symm).1
    omega
  · by_cases hi2 : i < G.length
    · rw [List.getElem_append_left hi2]
      refine ((h3 i hi2).kept hg (.inr (by simp [Value.ownBlock]))).kept hg2 (.inr (fun e => h5 i hi2 e.symm))
    · have hie : i = G.length := by simp at hi; omega
      subst hie
      simp only [List.getElem_concat_length]
      refine hr.kept hg2 (.inr (fun e => ?_))
      have := (hovl wr.heap.size e.symm).2
      omega
  · by_cases hi2 : i < G.length
    · rw [List.getElem_append_left hi2]
      by_cases hj2 : j < G.length
      · rw [List.getElem_append_left hj2]; exact h4 i j hi2 hj2 hij
      · have hje : j = G.length := by simp at hj; omega
        subst hje
        simp only [List.getElem_concat_length]
        have := hGlt i hi2; omega
    · have hie : i = G.length := by simp at hi; omega
      subst hie
      have hj2 : j < G.length := by simp at hj; omega
      simp only [List.getElem_concat_length]
      rw [List.getElem_append_left hj2]
      have := hGlt j hj2; omega
  · intro e
    by_cases hi2 : i < G.length
    · rw [List.getElem_append_left hi2] at e
      rcases hat with hat | hat
      · rw [hat] at e; exact h5 i hi2 e
      · rw [hat] at e; injection e with e; have := hGlt i hi2; omega
    · have hie : i = G.length := by simp at hi; omega
      subst hie
      simp only [List.getElem_concat_length] at e
      rcases hat with hat | hat
      · rw [hat] at e; have := (hovl _ e).2; omega
      · rw [hat] at e; injection e with e; omega
  · exact (h6.grown hg hsz (by simp)).grown hg2 (by have := hg.size; omega) (fun z hz => by have := (hovl z hz).1; omega)
theorem VsSt.at_ {ob n1 c1 : Nat} (h : VsSt w x y A n c m (.slice (some ⟨ob, 0, none⟩) n1 c1) G R wr) (hm : ∀ i, (R i).length = m) {i : Nat} (hi : i < G.length) (hn : n1 = G.length) : ∃ g, G[i]? = some g ∧ g < wr.heap.size ∧ wr.cell? ⟨ob, i, none⟩ = some (.slice (some ⟨g, 0, none⟩) m m) ∧ ∀ j, j < m → wr.cell? ⟨g, j, none⟩ = some (.int .i64 ((R i).getD j 0)) ∧ wr.frozen? ⟨g, j, none⟩ = false := by
  obtain ⟨h1, h2, h3, h4, h5, h6⟩ := h
  refine ⟨G[i], List.getElem?_eq_getElem hi, ((h3 i hi).lt _ rfl).2, ?_, fun j hj => ⟨?_, (h3 i hi).frozen (hm i).symm j⟩⟩
  · have := h2.cellAt hn i 0 hi (rwE m).pos
    rw [show i * (rwE m).sz + 0 = i from by show i * 1 + 0 = i; omega] at this
    rw [this]; rfl
  · have h7 := (h3 i hi).own_int (hm i).symm j (by rw [hm]; exact hj)
    rw [h7, List.getD_eq_getElem?_getD, List.getElem?_eq_getElem (by rw [hm]; exact hj)]; rfl
theorem VsSt.put (h : VsSt w x y A n c m ov G R wr) (hm : ∀ i, (R i).length = m) {i g : Nat} (hg : G[i]? = some g) (k : Nat) (u : Int) (hi1 : R' i = (R i).set k u) (hi2 : ∀ j, j ≠ i → R' j = R j) : VsSt w x y A n c m ov G R' (wr.setCell ⟨g, k, none⟩ (.int .i64 u)) := by
  obtain ⟨h1, h2, h3, h4, h5, h6⟩ := h
  obtain ⟨hi, rfl⟩ := List.getElem?_eq_some_iff.1 hg
  obtain ⟨ho, hgr⟩ := (h3 i hi).store1 rfl k u (.int .i64 u) rfl (hm i).symm
  have hb : w.heap.size + 1 ≤ G[i] := ((h3 i hi).lt _ rfl).1
  refine ⟨h1.setO (by show w.heap.size ≠ G[i]; omega) _, h2.kept hgr (.inr (h5 i hi)), fun j hj => ?_, h4, h5, h6.setCell (by show w.heap.size ≤ G[i]; omega) _⟩
  by_cases e : j = i
  · subst e
    rw [hi1]; exact ho
  · rw [hi2 j e]
    refine (h3 j hj).kept hgr (.inr (fun e2 => ?_))
    injection e2 with e2
    exact h4 j i hj hi e e2
theorem VsSt.form (h : VsSt w x y A n c m ov G R wr) (h0 : 0 < G.length) : ∃ ob cap, ov = .slice (some ⟨ob, 0, none⟩) G.length cap ∧ ob < wr.heap.size ∧ G.length ≤ cap ∧ cap ≤ maxLen := by
  obtain ⟨ob, cap, e, -, h2, h3, h4⟩ := h.2.1.form h0
  exact ⟨ob, cap, e, h2, h3, h4⟩
end
theorem rowT_getD {lf : Nat → Nat → Int} {H a b i j : Nat} (h1 : 1 ≤ i) (h2 : 1 ≤ j) (h3 : j ≤ H) (h4 : i < a ∨ (i = a ∧ j < b)) : (rowT lf H a b i).getD j 0 = bv lf i j := by
  have hj : j < (rowT lf H a b i).length := by rw [rowT_len]; omega
  rw [List.getD_eq_getElem?_getD, List.getElem?_eq_getElem hj]
  show (rowT lf H a b i)[j] = _
  rw [rowT_at, cellT_done h1 h2 h3 h4]
def VsOut (w : World) (x y : Nat) (A : Option Addr) (n c : Nat) (lf : Nat → Nat → Int) (e : Ending) (w' : World) : Prop := ∃ ov G, e = .returned ov ∧ VsSt w x y A n c (y + 1) ov G (rowT lf y (x + 1) 1) w' ∧ G.length = x + 1

set_option maxHeartbeats 12800000 in
set_option maxRecDepth 100000 in
theorem svalueTable_c (x y : Nat) (f : List Pn) (A : Option Addr) (c : Nat) (v : Value) (V : List Int) (w : World) (h : Row paneE w (.slice A f.length c) f) (h' : Row intE w v V) (hl : V.length = f.length) (hV : okV V) (hx : 1 ≤ x ∧ x ≤ 16) (hy : 1 ≤ y ∧ y ≤ 16) : Calls Try.prog 38 #[.agg #[.int .i64 (x : Nat), .int .i64 (y : Nat), .slice A f.length c], v] w (VsOut w x y A f.length c (lfW f V)) := by
  obtain ⟨-, hc1, hm1, -⟩ := h.at_
  obtain ⟨A2, c2, rfl, hc2, hm2⟩ := h'.form
  unfold maxLen at hm1 hm2
  obtain ⟨i0, hi0, hz0, hz1, hz2⟩ := info_parts int_info
  obtain ⟨i1, hi1, hz3, hz4, hz5⟩ := info_parts ints_info
  have HST0 := hid (VsSt.start w x y A f.length c (y + 1) (rowT (lfW f V) y 0 1))
  have HF := hid h
  have HVR := hid h'
  have HV := hid hV
  have HL := hid hl
  have HLF : Hid (∀ i j, 0 ≤ lfW f V i j ∧ lfW f V i j ≤ 1000) := fun i j => lfk_bd _ _ hV _ (Nat.le_refl _)
  have HRL := hid (fun (a b i : Nat) => rowT_len (lfW f V) y a b i)
  clear h h' hV hl
  go_enter Try.func38, Try.ntmps38
  go_wp2
  go_loopw [5, 6] (fun o i wr => ∃ (a : Nat) (A' : Option Addr) (c' : Nat) (G : List Nat), i = .int .i64 (a : Nat) ∧ a ≤ x + 1 ∧ o = .slice A' a c' ∧ G.length = a ∧ VsSt w x y A f.length c (y + 1) o G (rowT (lfW f V) y a 1) wr) (fun _ i _ => x + 1 - (intOf i).toNat)
  case atStart => exact ⟨0, _, _, [], rfl, by omega, rfl, rfl, HST0.out⟩
  case round =>
    clear HST0
    obtain ⟨a, A', c', G, rfl, ha2, rfl, hGl, hst⟩ := hrel
    have HST := hid hst
    have HGL := hid hGl
    have c_K := fun (o : Nat) => hst.1.cell o
    have f_K := fun (o : Nat) => hst.1.frz o
    have l_K := hst.1.lt
    have hsz : w.heap.size + 1 ≤ wr.heap.size := by omega
    clear hst hGl
    by_cases hax : a ≤ x
    · have hw0 : IntKind.i64.wrap ((y : Int) + 1) = (y : Int) + 1 := IntWalk.i64_in _ (by omega)
      go_wp2_with (at_make; refine wpList_mk intE _ rfl _ _ 23 rfl (w.heap.size + 1) 3 i0 _ 0 8 Try.underlying23 hi0 hz0 hz1 hz2 rfl _ _ _ _ (y + 1) rfl rfl (by push_cast; rfl) (by push_cast; rfl) (by omega) (by omega) hsz ?_)
      intro w2 hown hgr hlt2
      have HOV := hid (HST.out.2.1.kept hgr (by cases hv : (Value.slice A' a c').ownBlock with | none => exact .inl rfl | some k => exact .inr (by simp)))
      have HR := hid (show Own intE 3 (w.heap.size + 1) w2 (.slice (some ⟨wr.heap.size, 0, none⟩) (y + 1) (y + 1)) (rowT (lfW f V) y a 1 G.length) by rw [HGL.out, ← rowT_start]; exact hown)
      have HGR := hid hgr
      have hs2 : w.heap.size + 1 ≤ w2.heap.size := by omega
      have HLn : Hid (G.length ≤ 4194304) := by rw [Hid, HGL.out]; omega
      clear hown hgr c_K f_K l_K
      go_wp2_with (at_builtin; refine wpList_pushN (rwE (y + 1)) w2 rfl (.tmp 19) (.tmp 24) _ rfl (w.heap.size + 1) 23 i1 _ 24 Try.underlying59 hi1 hz3 hz4 hz5 rfl (by omega) (.slice A' a c') G (by rfl) HOV.out _ wr.heap.size w2.heap.size (by rfl) (by rfl) rfl HLn.out hs2 (G ++ [wr.heap.size]) rfl ?_)
      intro v' w3 ho3 hg3 hat3
      have HST3 := hid (HST.out.push HR.out HGR.out hlt2 ho3 hg3 hat3)
      obtain ⟨G3, hG3⟩ : ∃ Z, Z = G ++ [wr.heap.size] := ⟨_, rfl⟩
      have hl3 : G3.length = a + 1 := by rw [hG3]; simp [HGL.out]
      rw [← hG3] at HST3
      obtain ⟨ob, cap, e1, hob, hcap1, hcap2⟩ := HST3.out.form (by omega)
      unfold maxLen at hcap2
      subst e1
      rw [hl3] at HST3 hcap1 ⊢
      have HL3 := hid hl3
      clear ho3 hg3 hat3 hG3 hl3 HST HOV HR HGR HLn hsz hs2
      go_wp2
      go_loopw [7] (fun i wr => ∃ b : Nat, i = .int .i64 (b : Nat) ∧ 1 ≤ b ∧ b ≤ y + 1 ∧ (a = 0 → b = 1) ∧ VsSt w x y A f.length c (y + 1) (.slice (some ⟨ob, 0, none⟩) (a + 1) cap) G3 (rowT (lfW f V) y a b) wr) (fun i _ => y + 1 - (intOf i).toNat)
      case atStart => exact ⟨1, rfl, by omega, by omega, fun _ => rfl, HST3.out⟩
      case round =>
        clear HST3 hob
        obtain ⟨b, rfl, hb1, hb2, hab, hst⟩ := hrel
        have HST := hid hst
        have HAB := hid hab
        have c_K := fun (o : Nat) => hst.1.cell o
        have f_K := fun (o : Nat) => hst.1.frz o
        have l_K := hst.1.lt
        have HFr := hid (HF.out.go hst.2.2.2.2.2)
        have HVRr := hid (HVR.out.go hst.2.2.2.2.2)
        clear hst hab
        by_cases hby : b ≤ y
        · by_cases ha0 : 0 < a
          · go_wp2_with fail
            refine (show Calls Try.prog 50 #[.agg #[.int .i64 (x : Nat), .int .i64 (y : Nat), .slice A f.length c], _, .int .i64 (a : Nat), .int .i64 (b : Nat)] _ (BpOut (lfW f V a b) _) from leafValue_c x y (a : Nat) (b : Nat) f A c _ V _ HFr.out HVRr.out HL.out HV.out).mono ?_
            rintro e w5 ⟨o, p, t, rfl, hb⟩
            obtain ⟨W6, hW6⟩ : ∃ Z : World, Z = w5.alloc (.cells #[.int .i64 o, .int .i64 0, .int .i64 p, .bool t, .slice none 0 0] 69) := ⟨_, rfl⟩
            have HST6 := hid (show VsSt w x y A f.length c (y + 1) (.slice (some ⟨ob, 0, none⟩) (a + 1) cap) G3 (rowT (lfW f V) y a b) W6 by rw [hW6]; exact HST.out.go (hb.alloc hb.size (.cells #[.int .i64 o, .int .i64 0, .int .i64 p, .bool t, .slice none 0 0] 69)))
            have hob6 : ob < W6.heap.size := (HST6.out.2.1.lt ob rfl).2
            clear hb c_K f_K l_K
            go_wp2
            rw [← hW6]
            clear hW6
            go_loopw [9, 10] (fun m i wr => ∃ q : Nat, i = .int .i64 (q : Nat) ∧ 1 ≤ q ∧ q ≤ a / 2 + 1 ∧ m = .int .i64 (mxo (fun z => bv (lfW f V) z b + bv (lfW f V) (a - z) b) (lfW f V a b) (q - 1)) ∧ Dr W6 wr) (fun _ i _ => a / 2 + 1 - (intOf i).toNat)
            case atStart => exact ⟨1, rfl, by omega, by omega, rfl, Dr.refl _⟩
            case round =>
              obtain ⟨q, rfl, hq1, hq2, rfl, hd⟩ := hrel
              have HD := hid hd
              have HSTr := hid (HST6.out.go (hd.below _))
              have hsz := hd.size
              clear hd
              by_cases hqa : q ≤ a / 2
              · have hqa2 : (q : Int) ≤ (a : Int) / 2 := by omega
                obtain ⟨g1, -, hg1, k1, kk1⟩ := HSTr.out.at_ (HRL.out a b) (i := q) (by rw [HL3.out]; omega) HL3.out.symm
                obtain ⟨g2, -, hg2, k2, kk2⟩ := HSTr.out.at_ (HRL.out a b) (i := a - q) (by rw [HL3.out]; omega) HL3.out.symm
                have x1 := (kk1 b (by omega)).1
                have x2 := (kk2 b (by omega)).1
                rw [rowT_getD (by omega) (by omega) (by omega) (by omega)] at x1 x2
                have hb1' := bv_bd HLF.out (w := q) (h := b) (by omega)
                have hb2' := bv_bd HLF.out (w := a - q) (h := b) (by omega)
                have HM := hid (mxo_step (fun z => bv (lfW f V) z b + bv (lfW f V) (a - z) b) (lfW f V a b) hq1)
                obtain ⟨m, hm⟩ : ∃ m, m = mxo (fun z => bv (lfW f V) z b + bv (lfW f V) (a - z) b) (lfW f V a b) (q - 1) := ⟨_, rfl⟩
                obtain ⟨u1, hu1⟩ : ∃ u, u = bv (lfW f V) q b := ⟨_, rfl⟩
                obtain ⟨u2, hu2⟩ : ∃ u, u = bv (lfW f V) (a - q) b := ⟨_, rfl⟩
                have HM2 : Hid (mxo (fun z => bv (lfW f V) z b + bv (lfW f V) (a - z) b) (lfW f V a b) q = if m < u1 + u2 then u1 + u2 else m) := by rw [Hid, HM.out, hm, hu1, hu2]
                rw [← hm]
                rw [← hu1] at x1 hb1'
                rw [← hu2] at x2 hb2'
                obtain ⟨d, hd⟩ : ∃ d, d = a - q := ⟨_, rfl⟩
                rw [← hd] at k2
                have hw0 : IntKind.i64.wrap ((a : Int) - (q : Int)) = (d : Int) := by rw [IntWalk.i64_in _ (by omega)]; omega
                have hd17 : d < a + 1 := by omega
                have hq17 : q < a + 1 := by omega
                have hb17 : b < y + 1 := by omega
                have hw1 : IntKind.i64.wrap (u1 + u2) = u1 + u2 := IntWalk.i64_in _ (by omega)
                clear hm hu1 hu2 hd HM kk1 kk2
                go_wp2
                go_quiet (fail)
                go_wp2
                exact ⟨⟨q + 1, by go_num, by omega, by omega, by rw [Nat.add_sub_cancel, HM2.out], HD.out.step _⟩, by simp [intOf]; omega⟩
              · have hqe : q = a / 2 + 1 := by omega
                subst hqe
                have hqa2 : ¬ ((a / 2 + 1 : Nat) : Int) ≤ (a : Int) / 2 := by omega
                rw [Nat.add_sub_cancel]
                obtain ⟨m1, hm1⟩ : ∃ m, m = mxo (fun z => bv (lfW f V) z b + bv (lfW f V) (a - z) b) (lfW f V a b) (a / 2) := ⟨_, rfl⟩
                have HM1 := hid hm1
                rw [← hm1]
                obtain ⟨q0, hq0⟩ : ∃ q0, q0 = a / 2 + 1 := ⟨_, rfl⟩
                rw [← hq0] at hqa2 ⊢
                obtain ⟨W7, rfl⟩ : ∃ Z : World, Z = wr := ⟨_, rfl⟩
                clear hm1 hq0 hq2 hq1 hqa
                go_wp2
                go_loopw [9, 11] (fun m i wr => ∃ q : Nat, i = .int .i64 (q : Nat) ∧ 1 ≤ q ∧ q ≤ b / 2 + 1 ∧ m = .int .i64 (mxo (fun z => bv (lfW f V) a z + bv (lfW f V) a (b - z)) m1 (q - 1)) ∧ Dr W6 wr) (fun _ i _ => b / 2 + 1 - (intOf i).toNat)
                case atStart => exact ⟨1, rfl, by omega, by omega, rfl, HD.out⟩
                case round =>
                  clear HD HSTr hsz
                  obtain ⟨q, rfl, hq1, hq2, rfl, hd⟩ := hrel
                  have HD := hid hd
                  have HSTr := hid (HST6.out.go (hd.below _))
                  have hsz := hd.size
                  obtain ⟨g1, hgg, hg1, k1, kk1⟩ := HSTr.out.at_ (HRL.out a b) (i := a) (by rw [HL3.out]; omega) HL3.out.symm
                  have HGG := hid hgg
                  have ha17 : a < a + 1 := by omega
                  clear hd hgg
                  by_cases hqb : q ≤ b / 2
                  · have hqb2 : (q : Int) ≤ (b : Int) / 2 := by omega
                    have x1 := (kk1 q (by omega)).1
                    have x2 := (kk1 (b - q) (by omega)).1
                    rw [rowT_getD (by omega) (by omega) (by omega) (by omega)] at x1 x2
                    have hb1' := bv_bd HLF.out (w := a) (h := q) (by omega)
                    have hb2' := bv_bd HLF.out (w := a) (h := b - q) (by omega)
                    have HM := hid (mxo_step (fun z => bv (lfW f V) a z + bv (lfW f V) a (b - z)) m1 hq1)
                    obtain ⟨m, hm⟩ : ∃ m, m = mxo (fun z => bv (lfW f V) a z + bv (lfW f V) a (b - z)) m1 (q - 1) := ⟨_, rfl⟩
                    obtain ⟨u1, hu1⟩ : ∃ u, u = bv (lfW f V) a q := ⟨_, rfl⟩
                    obtain ⟨u2, hu2⟩ : ∃ u, u = bv (lfW f V) a (b - q) := ⟨_, rfl⟩
                    have HM2 : Hid (mxo (fun z => bv (lfW f V) a z + bv (lfW f V) a (b - z)) m1 q = if m < u1 + u2 then u1 + u2 else m) := by rw [Hid, HM.out, hm, hu1, hu2]
                    rw [← hm]
                    rw [← hu1] at x1 hb1'
                    rw [← hu2] at x2 hb2'
                    obtain ⟨d, hd⟩ : ∃ d, d = b - q := ⟨_, rfl⟩
                    rw [← hd] at x2
                    have hw0 : IntKind.i64.wrap ((b : Int) - (q : Int)) = (d : Int) := by rw [IntWalk.i64_in _ (by omega)]; omega
                    have hd17 : d < y + 1 := by omega
                    have hq17 : q < y + 1 := by omega
                    have hw1 : IntKind.i64.wrap (u1 + u2) = u1 + u2 := IntWalk.i64_in _ (by omega)
                    clear hm hu1 hu2 hd HM kk1
                    go_wp2
                    go_quiet (fail)
                    go_wp2
                    exact ⟨⟨q + 1, by go_num, by omega, by omega, by rw [Nat.add_sub_cancel, HM2.out], HD.out.step _⟩, by simp [intOf]; omega⟩
                  · have hqe : q = b / 2 + 1 := by omega
                    subst hqe
                    have hqb2 : ¬ ((b / 2 + 1 : Nat) : Int) ≤ (b : Int) / 2 := by omega
                    rw [Nat.add_sub_cancel]
                    have HBV : Hid (mxo (fun z => bv (lfW f V) a z + bv (lfW f V) a (b - z)) m1 (b / 2) = bv (lfW f V) a b) := by rw [Hid, bv_eq _ ha0 hb1, HM1.out]
                    obtain ⟨m2, hm2⟩ : ∃ m, m = mxo (fun z => bv (lfW f V) a z + bv (lfW f V) a (b - z)) m1 (b / 2) := ⟨_, rfl⟩
                    rw [← hm2] at HBV ⊢
                    obtain ⟨q1, hq1'⟩ : ∃ q0, q0 = b / 2 + 1 := ⟨_, rfl⟩
                    rw [← hq1'] at hqb2 ⊢
                    obtain ⟨hcl, hfr⟩ := kk1 b (by omega)
                    have hb17 : b < y + 1 := by omega
                    have HPUT := hid (HSTr.out.put (R' := rowT (lfW f V) y a (b + 1)) (HRL.out a b) HGG.out b m2 (by rw [HBV.out, rowT_set ha0 hb1 hby]) (fun j hj => (rowT_other hj).symm))
                    clear hm2 hq1' hq1 hq2 hqb HBV kk1
                    go_wp2
                    exact ⟨⟨b + 1, by go_num, by omega, by omega, fun h => by omega, HPUT.out⟩, by simp [intOf]; omega⟩
          · have ha : a = 0 := by omega
            have hbe := HAB.out ha
            have HN := hid (HST.out.rows (R' := rowT (lfW f V) y (a + 1) 1) (fun i hi => by
              rw [HL3.out] at hi
              rw [ha, rowT_zero _ _ _ i (by omega)]))
            have d0 : decide (0 < a) = false := decide_eq_false ha0
            have d1 : decide ((0 : Int) < (a : Int)) = false := decide_eq_false (by omega)
            clear hbe
            subst ha
            go_wp2
            exact ⟨⟨1, _, _, G3, rfl, by omega, rfl, HL3.out, HN.out⟩, by simp [intOf]⟩
        · have hbe : b = y + 1 := by omega
          subst hbe
          have HN := hid (show VsSt w x y A f.length c (y + 1) (.slice (some ⟨ob, 0, none⟩) (a + 1) cap) G3 (rowT (lfW f V) y (a + 1) 1) wr from HST.out.rows (fun i _ => (rowT_next _ _ _ i).symm))
          go_wp2
          exact ⟨⟨a + 1, _, _, G3, by go_num, by omega, rfl, HL3.out, HN.out⟩, by simp [intOf]; omega⟩
    · have hae : a = x + 1 := by omega
      subst hae
      go_wp2
      go_ret
      exact ⟨_, G, rfl, HST.out, HGL.out⟩

end Go.Proofs.Ytkckaooimffdpaa
