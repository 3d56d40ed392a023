/-
  Contracts: the cuts of a plan in a list, NumbersOf and AboveOf of the program.
-/
import Derived.Test.YtjohhjpoglaagaaKnots
namespace Go.Proofs.Ytjohhjpoglaagaa
set_option linter.unusedSimpArgs false
set_option linter.unusedVariables false
open Go.RowKit

theorem ret_vi {v : Value} {a b : Int} (h : a = b) : Ending.returned (.tuple #[v, .int .i64 a]) = .returned (.tuple #[v, .int .i64 b]) := by rw [h]
theorem ret_vb {v : Value} {a b : Bool} (h : a = b) : Ending.returned (.tuple #[v, .bool a]) = .returned (.tuple #[v, .bool b]) := by rw [h]
theorem grown_chain {w w2 w3 : World} {r r2 : Option Nat} (h1 : w.grownBy w2 r) (h2 : w2.grownBy w3 r2) (hr : r2 = r ∨ ∃ g, r2 = some g ∧ w.heap.size ≤ g) : w.grownBy w3 r :=
  ⟨h2.os.trans h1.os, h2.tape.trans h1.tape, h2.output.trans h1.output, Nat.le_trans h1.size h2.size, fun k hk hne => by
    rw [h2.block k (Nat.lt_of_lt_of_le hk h1.size) ?_, h1.block k hk hne]
    rcases hr with rfl | ⟨g, rfl, hg⟩
    · exact hne
    · simp; omega⟩
theorem own_chain {w w2 : World} {r r2 r3 : Option Nat} (hs : w.heap.size ≤ w2.heap.size) (h2 : r2 = r ∨ ∃ g, r2 = some g ∧ w.heap.size ≤ g) (h3 : r3 = r2 ∨ ∃ g, r3 = some g ∧ w2.heap.size ≤ g) : r3 = r ∨ ∃ g, r3 = some g ∧ w.heap.size ≤ g := by
  rcases h3 with rfl | ⟨g, rfl, hg⟩
  · exact h2
  · exact .inr ⟨g, rfl, by omega⟩
/-- The box with number n and all below 'base' stand while a list elsewhere grows. -/
theorem cell_away {w w' : World} {r : Option Nat} {base n : Nat} (hg : w.grownBy w' r) (ha : ∀ k, r = some k → base ≤ k ∧ k ≠ n) (hs : n < w.heap.size) (hbs : base ≤ w.heap.size) : ∀ b o, (b = n ∨ b < base) → w'.cell? ⟨b, o, none⟩ = w.cell? ⟨b, o, none⟩ := by
  intro b o hb
  refine World.cell?_of_block (w := w) (a := ⟨b, o, none⟩) (hg.block b (by rcases hb with rfl | hb <;> omega) fun e => ?_)
  have := ha b e.symm
  rcases hb with rfl | hb <;> omega

abbrev AkI (t : Tr) : Prop := ∀ (s : Sh) (i up : Int) (w : World) (base : Nat) (v : Value) (L : List Kn), TR base w t s → Own knE 65 base w v L → base ≤ w.heap.size → L.length + cuts t ≤ 1000 → 0 ≤ i → i + nodes t ≤ 1000 →
  Calls Try.prog 81 #[v, .agg #[.int .i64 s.o, .int .i64 s.a, .int .i64 s.p, .bool s.t, .slice s.ka s.kn s.kc], .int .i64 i, .int .i64 up] w fun e w' => ∃ v', e = .returned (.tuple #[v', .int .i64 (i + nodes t)]) ∧ Own knE 65 base w' v' (L ++ kn t i up) ∧ w.grownBy w' v.ownBlock ∧ (v'.ownBlock = v.ownBlock ∨ ∃ g, v'.ownBlock = some g ∧ w.heap.size ≤ g)

set_option maxHeartbeats 1600000 in
theorem addKnots_leaf (o p : Int) (t : Bool) : AkI (.leaf o p t) := by
  intro s i up w base v L h ho hbs hln hi0 hi1
  have HB0 := hid (below_pl (o := s.o) (a := s.a) (p := s.p) (t := s.t) (ka := s.ka) (kn := s.kn) (kc := s.kc) (ty := 29) w)
  have HC := hid h.cutF
  have HO := hid ho
  simp only [nodes] at hi1
  clear h ho
  go_enter Try.func81, Try.ntmps81
  go_wp2_with fail
  refine (isCut_f s HC.out _).mono ?_
  rintro e w1 ⟨rfl, hb⟩
  have HB1 := hid (HB0.out.trans (hb.mono HB0.out.size))
  clear hb
  go_wp2
  go_ret2
  exact ⟨_, rfl, by rw [kn, List.append_nil]; exact HO.out.below HB1.out, grown_of_below HB1.out _, .inl rfl⟩

set_option maxHeartbeats 6400000 in
theorem addKnots_cut (o a : Int) (l r : Tr) (ihl : AkI l) (ihr : AkI r) : AkI (.cut o a l r) := by
  intro s i up w base v L h ho hbs hln hi0 hi1
  have HC := hid h.cutT
  obtain ⟨h1, h2, h3, h4, -, sl, sr, hr, hl, hrr⟩ := h
  obtain ⟨so, sa, sp, st, ka, kn', kc⟩ := s
  simp only at h1 h2 h3 h4
  subst h1; subst h2; subst h3; subst h4
  obtain ⟨rfl, hkc, b1, o1, rfl, hb1, x0, x1, x2, x3, x4, y0, y1, y2, y3, y4⟩ := row_two hr
  have HB0 := hid (below_pl (o := so) (a := sa) (p := 0) (t := false) (ka := some ⟨b1, o1, none⟩) (kn := 2) (kc := kc) (ty := 29) w)
  have HL := hid (fun w1 (hb : Below base w w1) => hl.below hb)
  have HR := hid (fun w1 (hb : Below base w w1) => hrr.below hb)
  have HIL := hid ihl
  have HIR := hid ihr
  simp only [nodes, cuts] at hi1 hln
  have HV : Hid (L ++ kn (.cut so sa l r) i up = ((L ++ [⟨i, up⟩]) ++ kn l (i + 1) i) ++ kn r (i + 1 + nodes l) i) := by rw [Hid, kn]; simp
  obtain ⟨L1, hL1⟩ : ∃ L', L' = L ++ [(⟨i, up⟩ : Kn)] := ⟨_, rfl⟩
  have hl1 : L1.length = L.length + 1 := by rw [hL1]; simp
  have hl2 : (L1 ++ kn l (i + 1) i).length = L.length + 1 + cuts l := by rw [List.length_append, kn_len, hl1]
  have HL1 := hid hL1
  have HLn1 : Hid (L1.length + cuts l ≤ 1000) := by rw [Hid]; omega
  have HLn2 : Hid ((L1 ++ kn l (i + 1) i).length + cuts r ≤ 1000) := by rw [Hid]; omega
  have HLn0 : Hid (L.length ≤ 4194304) := by rw [Hid]; omega
  have HO := hid ho
  have hblt : ∀ k, v.ownBlock = some k → base ≤ k ∧ k ≠ w.heap.size := fun k hk => by have := ho.lt k hk; omega
  have HA := hid hblt
  obtain ⟨i0, hj, hj0, hj1, hj2⟩ := info_parts kn_info
  have hb1' : b1 < w.heap.size := by omega
  clear hl hrr hr ihl ihr hL1 hl1 hl2 ho hblt
  go_enter Try.func81, Try.ntmps81
  go_wp2_with fail
  refine (isCut_t ⟨so, sa, 0, false, some ⟨b1, o1, none⟩, 2, kc⟩ HC.out _).mono ?_
  rintro e w1 ⟨rfl, hb⟩
  have HB1 := hid (HB0.out.trans (hb.mono HB0.out.size))
  obtain ⟨hcc, hf, hsz⟩ := bcell hb
  have hz : w.heap.size < w1.heap.size := by simp at hsz; omega
  have hz1 : b1 < w1.heap.size := by omega
  have hz2 : b1 < w.heap.size + 1 := by omega
  have HO1 := hid (HO.out.below HB1.out)
  clear hb hf
  go_wp2_with (at_builtin; refine wpList_pushL knE _ rfl (.tmp 17) (.tmp 21) _ rfl base 65 i0 _ 16 Try.underlying60 hj hj0 hj1 hj2 rfl (by omega) _ _ rfl HO1.out _ ⟨i, up⟩ rfl rfl HLn0.out (by omega) L1 HL1.out ?_)
  intro v2 w2 ho2 hg2 hat2
  have hA2 : ∀ k, v2.ownBlock = some k → base ≤ k ∧ k ≠ w.heap.size := fun k hk => ⟨(ho2.lt k hk).1, fun e => by
    rcases hat2 with e2 | e2
    · rw [e2] at hk; exact (HA.out k hk).2 e
    · rw [e2] at hk; simp at hk; omega⟩
  have HA2 := hid hA2
  have hc2 := cell_away hg2 HA.out hz (by omega)
  have HG2 := hid (grown_chain (grown_of_below HB1.out v.ownBlock) hg2 (.inl rfl))
  have HB2 := hid (HB1.out.mono hbs |>.grown hg2 (by omega) (fun k hk => (HA.out k hk).1) : Below base w w2)
  have HO2 := hid ho2
  have HAT2 : Hid (v2.ownBlock = v.ownBlock ∨ ∃ g, v2.ownBlock = some g ∧ w.heap.size ≤ g) := by
    rcases hat2 with e | e
    · exact .inl e
    · exact .inr ⟨_, e, by omega⟩
  have hz3 : w.heap.size < w2.heap.size := by have := hg2.size; omega
  have hz4 : base ≤ w2.heap.size := by omega
  clear ho2 hg2 hat2 hA2
  go_wp2_with fail
  refine (HIL.out sl (i + 1) i _ base v2 L1 (HL.out _ HB2.out) HO2.out hz4 HLn1.out (by omega) (by omega)).mono ?_
  rintro e w3 ⟨v3, rfl, ho3, hg3, hat3⟩
  have hA3 : ∀ k, v3.ownBlock = some k → base ≤ k ∧ k ≠ w.heap.size := fun k hk => ⟨(ho3.lt k hk).1, fun e => by
    rcases hat3 with e2 | ⟨g, e2, e3⟩
    · rw [e2] at hk; exact (HA2.out k hk).2 e
    · rw [e2] at hk; simp at hk; omega⟩
  have HA3 := hid hA3
  have hc3 := cell_away hg3 HA2.out hz3 hz4
  have HG3 := hid (grown_chain HG2.out hg3 HAT2.out)
  have HB3 := hid (HB2.out.grown hg3 hz4 (fun k hk => (HA2.out k hk).1))
  have HO3 := hid ho3
  have HAT3 := hid (own_chain HG2.out.size HAT2.out hat3)
  have hz5 : w.heap.size < w3.heap.size := by have := hg3.size; omega
  have hz6 : base ≤ w3.heap.size := by omega
  clear ho3 hg3 hat3 hA3
  go_wp2_with fail
  refine (HIR.out sr (i + 1 + nodes l) i _ base v3 _ (HR.out _ HB3.out) HO3.out hz6 HLn2.out (by omega) (by omega)).mono ?_
  rintro e w4 ⟨v4, rfl, ho4, hg4, hat4⟩
  have HG4 := hid (grown_chain HG3.out hg4 HAT3.out)
  have HO4 := hid ho4
  have HAT4 := hid (own_chain HG3.out.size HAT3.out hat4)
  clear ho4 hg4 hat4 hc2 hc3 hcc
  go_wp2
  go_ret2
  exact ⟨v4, ret_vi (by simp only [nodes]; omega), by rw [HV.out, ← HL1.out]; exact HO4.out, HG4.out, HAT4.out⟩

theorem addKnots_c : ∀ (t : Tr), AkI t
  | .leaf o p t => addKnots_leaf o p t
  | .cut o a l r => addKnots_cut o a l r (addKnots_c l) (addKnots_c r)

/-- The cuts of a plan, none if it is not well formed. -/
def knOut (p : Pl) : List Kn := match wf p with | some t => if (nodes t : Int) ≤ 255 then kn t 0 (-1) else [] | none => []
theorem knOut_some {p : Pl} {t : Tr} (h : wf p = some t) (hn : (nodes t : Int) ≤ 255) : knOut p = kn t 0 (-1) := by simp [knOut, h, hn]
theorem knOut_neg {p : Pl} (h : psz p < 0) : knOut p = [] := by
  unfold knOut
  unfold psz cp at h
  cases hw : wf p with
  | none => rfl
  | some t =>
    rw [hw] at h
    simp only at h ⊢
    by_cases hn : (nodes t : Int) ≤ 255
    · rw [if_pos hn] at h; omega
    · rw [if_neg hn]
theorem knOut_len (p : Pl) : (knOut p).length ≤ 127 := by
  unfold knOut
  cases wf p with
  | none => simp
  | some t =>
    simp only
    by_cases hn : (nodes t : Int) ≤ 255
    · rw [if_pos hn, kn_len]; have := nodes_cuts t; omega
    · rw [if_neg hn]; simp
def okB (p : Pl) : Bool := decide (0 ≤ psz p)

set_option maxHeartbeats 1600000 in
theorem knotsOf_c {n : Nat} {p : Pl} {s : Sh} {w : World} (h : PR w.heap.size w n p s) : Calls Try.prog 64 #[.agg #[.int .i64 s.o, .int .i64 s.a, .int .i64 s.p, .bool s.t, .slice s.ka s.kn s.kc]] w fun e w' => ∃ v, e = .returned (.tuple #[v, .bool (okB p)]) ∧ Own knE 65 w.heap.size w' v (knOut p) ∧ Below w.heap.size w w' := by
  have HB0 := hid (below_pl (o := s.o) (a := s.a) (p := s.p) (t := s.t) (ka := s.ka) (kn := s.kn) (kc := s.kc) (ty := 29) w)
  have HP := hid h
  clear h
  by_cases hneg : psz p < 0
  · have HV := hid (knOut_neg hneg)
    have HE : Hid (okB p = false) := by simp [Hid, okB]; omega
    go_enter Try.func64, Try.ntmps64
    go_wp2_with fail
    refine (PlanSize_c (n := n) (p := p) (s := s) (HP.out.go HB0.out)).mono ?_
    rintro e w1 ⟨rfl, hb⟩
    have HB1 := hid (HB0.out.trans (hb.mono HB0.out.size))
    clear hb
    go_wp2
    go_ret2
    exact ⟨.slice none 0 0, ret_vb HE.out.symm, by rw [HV.out]; exact Own.nil_ _ _ _, HB1.out⟩
  · obtain ⟨t, hw, -, hn⟩ := cp_tree (p := p) (room := 255) (by unfold psz at hneg; omega)
    have HV := hid (knOut_some hw hn)
    have HE : Hid (okB p = true) := by simp [Hid, okB]; omega
    have HT := hid (addKnots_c t)
    have HR := hid (HP.out.tr hw)
    have HC : Hid (([] : List Kn).length + cuts t ≤ 1000) := by rw [Hid]; have := nodes_cuts t; simp; omega
    clear hw
    go_enter Try.func64, Try.ntmps64
    go_wp2_with fail
    refine (PlanSize_c (n := n) (p := p) (s := s) (HP.out.go HB0.out)).mono ?_
    rintro e w1 ⟨rfl, hb⟩
    have HB1 := hid (HB0.out.trans (hb.mono HB0.out.size))
    obtain ⟨hcc, hf, hsz⟩ := bcell hb
    clear hb hf
    go_wp2_with fail
    refine (HT.out s 0 (-1) _ w1.heap.size _ [] (HR.out.go HB1.out) (Own.nil_ _ _ _) (Nat.le_refl _) HC.out (by omega) (by omega)).mono ?_
    rintro e w2 ⟨v2, rfl, ho, hg, ha⟩
    have HO := hid ho
    have HB2 := hid (HB1.out.grown hg HB1.out.size (fun k hk => by simp [Value.ownBlock] at hk))
    clear ho hg ha hcc
    go_wp2
    go_ret2
    exact ⟨v2, ret_vb HE.out.symm, by rw [HV.out]; exact HO.out.base_le HB1.out.size, HB2.out⟩

def numOut (p : Pl) : List Int := (knOut p).map (·.n)
theorem numOut_len (p : Pl) : (numOut p).length ≤ 127 := by rw [numOut, List.length_map]; exact knOut_len p

set_option maxHeartbeats 3200000 in
theorem NumbersOf_c {n : Nat} {p : Pl} {s : Sh} {w : World} (h : PR w.heap.size w n p s) : Calls Try.prog 31 #[.agg #[.int .i64 s.o, .int .i64 s.a, .int .i64 s.p, .bool s.t, .slice s.ka s.kn s.kc]] w fun e w' => ∃ v, e = .returned v ∧ Own intE 3 w.heap.size w' v (numOut p) ∧ Below w.heap.size w w' := by
  have HB0 := hid (below_pl (o := s.o) (a := s.a) (p := s.p) (t := s.t) (ka := s.ka) (kn := s.kn) (kc := s.kc) (ty := 29) w)
  have HP := hid h
  have hkl := knOut_len p
  obtain ⟨K, hK⟩ : ∃ K, K = knOut p := ⟨_, rfl⟩
  have HV : Hid (numOut p = K.map (·.n)) := by rw [hK]; rfl
  rw [← hK] at hkl
  have HK := hid hK
  obtain ⟨i0, hj, hj0, hj1, hj2⟩ := info_parts int_info
  clear h hK
  go_enter Try.func31, Try.ntmps31
  go_wp2_with fail
  refine (knotsOf_c (n := n) (p := p) (s := s) (HP.out.go HB0.out)).mono ?_
  rintro e w1 ⟨v1, rfl, ho, hb⟩
  rw [← HK.out] at ho
  obtain ⟨A1, c1, rfl, hc1, hm1⟩ := ho.rowB.form
  unfold maxLen at hm1
  have HB1 := hid (HB0.out.trans (hb.mono HB0.out.size))
  have HR := hid (ho.rowB)
  clear hb ho
  go_wp2
  go_loopw [15, 5] (fun i x wr => ∃ k : Nat, i = .int .i64 k ∧ k ≤ K.length ∧ Own intE 3 w1.heap.size wr x ((K.map (·.n)).take k) ∧ Below w1.heap.size w1 wr) (fun i _ _ => K.length - (intOf i).toNat)
  case atStart => exact ⟨0, rfl, by omega, Own.nil_ _ _ _, Below.refl _ _⟩
  case round =>
    obtain ⟨k, rfl, hk, ho, hb⟩ := hrel
    have HO := hid ho
    have HB := hid hb
    by_cases hlt : k < K.length
    · obtain ⟨b1, o1, rfl, -, hx⟩ := row_kns (HR.out.below hb) (by omega)
      obtain ⟨hx0, hx1⟩ := hx k hlt
      have hsz := hb.size
      have hT : (K.map (·.n)).take (k + 1) = (K.map (·.n)).take k ++ [K[k].n] := by rw [List.take_succ_eq_append_getElem (by simpa using hlt)]; simp
      have HLn : Hid (((K.map (·.n)).take k).length ≤ 4194304) := by rw [Hid]; simp; omega
      obtain ⟨L2, hL2⟩ : ∃ L2, L2 = (K.map (·.n)).take k ++ [K[k].n] := ⟨_, rfl⟩
      have HL2 := hid hL2
      have HT := hid hT
      clear hx ho hb hL2 hT
      obtain ⟨W, hW⟩ : ∃ W, W = wr.alloc (.cells #[.int .i64 K[k].n, .int .i64 K[k].a] 65) := ⟨_, rfl⟩
      have HOW : Hid (Own intE 3 w1.heap.size (wr.alloc (.cells #[.int .i64 K[k].n, .int .i64 K[k].a] 65)) _ ((K.map (·.n)).take k)) := HO.out.alloc _
      have HBW := hid (HB.out.alloc hsz (.cells #[.int .i64 K[k].n, .int .i64 K[k].a] 65))
      clear hW
      go_wp2_with (at_builtin; refine wpList_pushN intE _ rfl (.tmp 19) (.tmp 22) _ rfl w1.heap.size 3 i0 _ 8 Try.underlying38 hj hj0 hj1 hj2 rfl (by omega) _ _ rfl HOW.out _ K[k].n _ rfl rfl (by simp) HLn.out HBW.out.size L2 HL2.out ?_)
      intro v2 w2 ho2 hg2 hat2
      have HO2 := hid ho2
      have HB2 := hid (HBW.out.grown hg2 HBW.out.size (fun q hq => (HO.out.lt q hq).1))
      clear ho2 hg2 hat2
      go_wp2
      exact ⟨⟨k + 1, by go_num, by omega, by rw [HT.out, ← HL2.out]; exact HO2.out, HB2.out⟩, by simp [intOf]; omega⟩
    · have HE : Hid ((K.map (·.n)).take k = K.map (·.n)) := List.take_of_length_le (by simp; omega)
      clear ho hb
      go_wp2
      go_ret
      exact ⟨_, rfl, by rw [HV.out, ← HE.out]; exact HO.out.base_le HB1.out.size, HB1.out.trans (HB.out.mono HB1.out.size)⟩

end Go.Proofs.Ytjohhjpoglaagaa
