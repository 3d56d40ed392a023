/-
  Contracts: best steps.
-/
import Derived.Test.YtjohhjpoglaagaaKnotsI
import Derived.Test.YtjohhjpoglaagaaCat
import Derived.Deep.RegionHeld3
import Derived.RegionTactic
import Derived.ChangeAlike
namespace Go.Proofs.Ytjohhjpoglaagaa
set_option linter.unusedSimpArgs false
set_option linter.unusedVariables false
open Go.RowKit

def bst : Tr → Int → List Int
  | .leaf _ _ _, _ => []
  | .cut _ _ l r, i => i :: (if lst r < lst l then bst r (i + 1 + nodes l) ++ bst l (i + 1) else bst l (i + 1) ++ bst r (i + 1 + nodes l))
theorem bst_len : ∀ (t : Tr) (i : Int), (bst t i).length = cuts t
  | .leaf _ _ _, _ => rfl
  | .cut _ _ l r, i => by
    rw [bst, cuts]
    split
    · rw [List.length_cons, List.length_append, bst_len l, bst_len r]; omega
    · rw [List.length_cons, List.length_append, bst_len l, bst_len r]; omega

abbrev AbI (t : Tr) : Prop := ∀ (s : Sh) (i : Int) (w : World) (base : Nat) (v : Value) (L : List Int), TR base w t s → Own intE 3 base w v L → base ≤ w.heap.size → L.length + cuts t ≤ 1000 → 0 ≤ i → i + nodes t ≤ 1000 →
  Calls Try.prog 74 #[v, .agg #[.int .i64 s.o, .int .i64 s.a, .int .i64 s.p, .bool s.t, .slice s.ka s.kn s.kc], .int .i64 i] w fun e w' => ∃ v', e = .returned v' ∧ Own intE 3 base w' v' (L ++ bst t i) ∧ w.grownBy w' v.ownBlock ∧ (v'.ownBlock = v.ownBlock ∨ ∃ g, v'.ownBlock = some g ∧ w.heap.size ≤ g)

set_option maxHeartbeats 1600000 in
theorem addBest_leaf (o p : Int) (t : Bool) : AbI (.leaf o p t) := by
  intro s i w base v L h ho hbs hln hi0 hi1
  have HB0 := hid (below_pl (o := s.o) (a := s.a) (p := s.p) (t := s.t) (ka := s.ka) (kn := s.kn) (kc := s.kc) (ty := 29) w)
  have HC := hid h.cutF
  have HO := hid ho
  clear h ho
  go_enter Try.func74, Try.ntmps74
  go_wp2_with fail
  refine (isCut_f s HC.out _).mono ?_
  rintro e w1 ⟨rfl, hb⟩
  have HB1 := hid (HB0.out.trans (hb.mono HB0.out.size))
  clear hb
  go_wp2
  go_ret
  exact ⟨_, rfl, by rw [bst, List.append_nil]; exact HO.out.below HB1.out, grown_of_below HB1.out _, .inl rfl⟩

set_option maxHeartbeats 6400000 in
set_option maxRecDepth 100000 in
theorem addBest_cut (o a : Int) (l r : Tr) (hn : nodes (.cut o a l r) ≤ 255) (ihl : AbI l) (ihr : AbI r) : AbI (.cut o a l r) := by
  intro s i w base v L h ho hbs hln hi0 hi1
  have HC := hid h.cutT
  obtain ⟨h1, h2, h3, h4, -, sl, sr, hr, hl, hrr⟩ := h
  obtain ⟨so, sa, sp, st, ka, kn', kc⟩ := s
  simp only at h1 h2 h3 h4
  subst h1; subst h2; subst h3; subst h4
  obtain ⟨rfl, hkc, b1, o1, rfl, hb1, x0, x1, x2, x3, x4, y0, y1, y2, y3, y4⟩ := row_two hr
  have HB0 := hid (below_pl (o := so) (a := sa) (p := 0) (t := false) (ka := some ⟨b1, o1, none⟩) (kn := 2) (kc := kc) (ty := 29) w)
  have HL := hid (fun w1 (hb : Below base w w1) => hl.below hb)
  have HR := hid (fun w1 (hb : Below base w w1) => hrr.below hb)
  have HIL := hid ihl
  have HIR := hid ihr
  simp only [nodes, cuts] at hi1 hln hn
  obtain ⟨L1, hL1⟩ : ∃ L', L' = L ++ [i] := ⟨_, rfl⟩
  have hl1 : L1.length = L.length + 1 := by rw [hL1]; simp
  have HL1 := hid hL1
  have HLn1 := hid hl1
  have HLn0 : Hid (L.length ≤ 4194304) := by rw [Hid]; omega
  have HO := hid ho
  have hblt : ∀ k, v.ownBlock = some k → base ≤ k ∧ k ≠ w.heap.size := fun k hk => by have := ho.lt k hk; omega
  have HA := hid hblt
  obtain ⟨i0, hj, hj0, hj1, hj2⟩ := info_parts int_info
  have hb1' : b1 < w.heap.size := by omega
  clear hl hrr hr ihl ihr hL1 hl1 ho hblt
  go_enter Try.func74, Try.ntmps74
  go_wp2_with fail
  refine (isCut_t ⟨so, sa, 0, false, some ⟨b1, o1, none⟩, 2, kc⟩ HC.out _).mono ?_
  rintro e w1 ⟨rfl, hb⟩
  have HB1 := hid (HB0.out.trans (hb.mono HB0.out.size))
  obtain ⟨hcc, hf, hsz⟩ := bcell hb
  have hz : w.heap.size < w1.heap.size := by simp at hsz; omega
  have hz1 : b1 < w1.heap.size := by omega
  have hz2 : b1 < w.heap.size + 1 := by omega
  have HO1 := hid (HO.out.below HB1.out)
  clear hb hf
  go_wp2_with (at_builtin; refine wpList_pushL intE _ rfl (.tmp 15) (.tmp 17) _ rfl base 3 i0 _ 8 Try.underlying38 hj hj0 hj1 hj2 rfl (by omega) _ _ rfl HO1.out _ i rfl rfl HLn0.out (by omega) L1 HL1.out ?_)
  intro v2 w2 ho2 hg2 hat2
  have hA2 : ∀ k, v2.ownBlock = some k → base ≤ k ∧ k ≠ w.heap.size := fun k hk => ⟨(ho2.lt k hk).1, fun e => by
    rcases hat2 with e2 | e2
    · rw [e2] at hk; exact (HA.out k hk).2 e
    · rw [e2] at hk; simp at hk; omega⟩
  have HA2 := hid hA2
  have hc2 := cell_away hg2 HA.out hz (by omega)
  have HG2 := hid (grown_chain (grown_of_below HB1.out v.ownBlock) hg2 (.inl rfl))
  have HB2 := hid (HB1.out.mono hbs |>.grown hg2 (by omega) (fun k hk => (HA.out k hk).1) : Below base w w2)
  have HO2 := hid ho2
  have HAT2 : Hid (v2.ownBlock = v.ownBlock ∨ ∃ g, v2.ownBlock = some g ∧ w.heap.size ≤ g) := by
    rcases hat2 with e | e
    · exact .inl e
    · exact .inr ⟨_, e, by omega⟩
  have hz3 : w.heap.size < w2.heap.size := by have := hg2.size; omega
  have hz4 : base ≤ w2.heap.size := by omega
  have hz5 : b1 < w2.heap.size := by omega
  clear ho2 hg2 hat2 hA2
  go_wp2
  have HA2w : Hid (∀ k, v2.ownBlock = some k → k < w2.heap.size) := fun k hk => (HO2.out.lt k hk).2
  have hbl := lst_bd l
  have hbr := lst_bd r
  have np1 := nodes_pos l
  have np2 := nodes_pos r
  have HTL := hid (tableFor_c l (by omega))
  have HTR := hid (tableFor_c r (by omega))
  have HLs : Hid (∀ w1, Below base w w1 → base ≤ w1.heap.size → TR w1.heap.size w1 l sl) := fun w1 hb hs => TR.heap hs (fun _ _ => rfl) (HL.out w1 hb)
  have HRs : Hid (∀ w1, Below base w w1 → base ≤ w1.heap.size → TR w1.heap.size w1 r sr) := fun w1 hb hs => TR.heap hs (fun _ _ => rfl) (HR.out w1 hb)
  have hnl : nodes l ≤ 255 := by omega
  have HBW : Hid (∀ X Y : Array Value, Below base w (((w2.alloc (.cells X 29)).alloc (.cells Y 29)).drew)) := fun X Y => ((HB2.out.alloc hz4 _).alloc (by simp; omega) _).drew
  have HSW : Hid (∀ X Y : Array Value, base ≤ (((w2.alloc (.cells X 29)).alloc (.cells Y 29)).drew).heap.size) := fun X Y => by simp; omega
  have HOW : Hid (∀ X Y : Array Value, Own intE 3 base (((w2.alloc (.cells X 29)).alloc (.cells Y 29)).drew) v2 L1) := fun X Y => ((HO2.out.alloc _).alloc _).dr (Dr.refl _).one
  have HGW : Hid (∀ X Y : Array Value, w.grownBy (((w2.alloc (.cells X 29)).alloc (.cells Y 29)).drew) v.ownBlock) := fun X Y => grown_trans (grown_trans (grown_trans HG2.out (World.grownBy_alloc _ _ _)) (World.grownBy_alloc _ _ _)) (grown_of_below ((Dr.refl _).one.below _) _)
  go_region
  all_goals
    go_wp2_with fail
    refine (PlanSize_tr (t := l) (s := sl) (HLs.out _ (HBW.out _ _) (HSW.out _ _)) hnl).mono ?_
    rintro e w5 ⟨rfl, hb5⟩
    have HB5 := hid ((HBW.out _ _).trans (hb5.mono (HSW.out _ _)))
    have HO5 := hid ((HOW.out _ _).below hb5)
    have HG5 := hid (grown_trans (HGW.out _ _) (grown_of_below hb5 _))
    obtain ⟨hc5, hf5, hs5⟩ := bcell hb5
    have hp5 : w2.heap.size + 1 < w5.heap.size := by simp at hs5; omega
    have hp5' : w2.heap.size < w5.heap.size := by omega
    have hs5' : base ≤ w5.heap.size := by omega
    clear hb5 hf5 hs5
    go_wp2
    have ZK := hid ((Below.refl _ _).drew : Below w5.heap.size w5 w5.drew)
    go_region_held3 (fun w' => ∀ b o, b < w5.heap.size → w'.cell? ⟨b, o, none⟩ = w5.cell? ⟨b, o, none⟩) (exact fun b o h => ZK.out.cell (p := ⟨b, o, none⟩) h)
      (first | (go_at_call 54; ((with_reducible refine (HTL.out sl _ (HLs.out _ (HB5.out.trans (ZK.out.mono hs5')) (Nat.le_trans hs5' ZK.out.size))).mono ?_); rintro e wq ⟨rfl, hb⟩; replace ZK := hid (ZK.out.trans (hb.mono ZK.out.size)); clear hb)) | (go_at_call 54; ((with_reducible refine (HTR.out sr _ (HRs.out _ (HB5.out.trans (ZK.out.mono hs5')) (Nat.le_trans hs5' ZK.out.size))).mono ?_); rintro e wq ⟨rfl, hb⟩; replace ZK := hid (ZK.out.trans (hb.mono ZK.out.size)); clear hb)))
    all_goals
      have HB6 := hid (HB5.out.trans (ZK.out.mono hs5'))
      have HO6 := hid (HO5.out.below ZK.out)
      have HG6 := hid (grown_trans HG5.out (grown_of_below ZK.out _))
      have hs6 := Nat.le_trans hs5' ZK.out.size
      have hp6 := Nat.lt_of_lt_of_le hp5' ZK.out.size
      have hp6' := Nat.lt_of_lt_of_le hp5 ZK.out.size
      clear ZK
      by_cases hcmp : lst r < lst l
      · have HV : Hid (L ++ bst (.cut so sa l r) i = ((L ++ [i]) ++ bst r (i + 1 + nodes l)) ++ bst l (i + 1)) := by rw [Hid, bst, if_pos hcmp]; simp
        go_wp2_with fail
        refine (HIR.out sr (i + 1 + nodes l) _ base v2 L1 (HR.out _ HB6.out) HO6.out hs6 (by have := HLn1.out; omega) (by omega) (by omega)).mono ?_
        rintro e w8 ⟨v8, rfl, ho8, hg8, hat8⟩
        have hA8 := HA2w.out
        have cA8 := cell_away (n := w2.heap.size) hg8 (fun k hk => ⟨(HA2.out k hk).1, by have := hA8 k hk; omega⟩) hp6 hs6
        have cB8 := cell_away (n := w2.heap.size + 1) hg8 (fun k hk => ⟨(HA2.out k hk).1, by have := hA8 k hk; omega⟩) hp6' hs6
        have HG8 := hid (grown_chain HG6.out hg8 HAT2.out)
        have HB8 := hid (HB6.out.grown hg8 hs6 (fun k hk => (HA2.out k hk).1))
        have HO8 := hid ho8
        have HAT8 := hid (own_chain HG6.out.size HAT2.out hat8)
        have hs8 : base ≤ w8.heap.size := by have := hg8.size; omega
        have HLn8 : Hid ((L1 ++ bst r (i + 1 + nodes l)).length + cuts l ≤ 1000) := by rw [Hid, List.length_append, bst_len, HLn1.out]; omega
        have hq8 : w2.heap.size < w8.heap.size := by have := hg8.size; omega
        clear ho8 hg8 hat8 hA8
        go_wp2_with fail
        refine (HIL.out sl (i + 1) _ base v8 _ (HL.out _ HB8.out) HO8.out hs8 HLn8.out (by omega) (by omega)).mono ?_
        rintro e w9 ⟨v9, rfl, ho9, hg9, hat9⟩
        have HG9 := hid (grown_chain HG8.out hg9 HAT8.out)
        have HO9 := hid ho9
        have HAT9 := hid (own_chain HG8.out.size HAT8.out hat9)
        clear ho9 hg9 hat9 cA8 cB8
        go_wp2
        go_ret
        exact ⟨v9, rfl, by rw [HV.out, ← HL1.out]; exact HO9.out, HG9.out, HAT9.out⟩
      · have HV : Hid (L ++ bst (.cut so sa l r) i = ((L ++ [i]) ++ bst l (i + 1)) ++ bst r (i + 1 + nodes l)) := by rw [Hid, bst, if_neg hcmp]; simp
        go_wp2_with fail
        refine (HIL.out sl (i + 1) _ base v2 L1 (HL.out _ HB6.out) HO6.out hs6 (by have := HLn1.out; omega) (by omega) (by omega)).mono ?_
        rintro e w8 ⟨v8, rfl, ho8, hg8, hat8⟩
        have hA8 := HA2w.out
        have cA8 := cell_away (n := w2.heap.size) hg8 (fun k hk => ⟨(HA2.out k hk).1, by have := hA8 k hk; omega⟩) hp6 hs6
        have cB8 := cell_away (n := w2.heap.size + 1) hg8 (fun k hk => ⟨(HA2.out k hk).1, by have := hA8 k hk; omega⟩) hp6' hs6
        have HG8 := hid (grown_chain HG6.out hg8 HAT2.out)
        have HB8 := hid (HB6.out.grown hg8 hs6 (fun k hk => (HA2.out k hk).1))
        have HO8 := hid ho8
        have HAT8 := hid (own_chain HG6.out.size HAT2.out hat8)
        have hs8 : base ≤ w8.heap.size := by have := hg8.size; omega
        have HLn8 : Hid ((L1 ++ bst l (i + 1)).length + cuts r ≤ 1000) := by rw [Hid, List.length_append, bst_len, HLn1.out]; omega
        have hq8 : w2.heap.size < w8.heap.size := by have := hg8.size; omega
        clear ho8 hg8 hat8 hA8
        go_wp2_with fail
        refine (HIR.out sr (i + 1 + nodes l) _ base v8 _ (HR.out _ HB8.out) HO8.out hs8 HLn8.out (by omega) (by omega)).mono ?_
        rintro e w9 ⟨v9, rfl, ho9, hg9, hat9⟩
        have HG9 := hid (grown_chain HG8.out hg9 HAT8.out)
        have HO9 := hid ho9
        have HAT9 := hid (own_chain HG8.out.size HAT8.out hat9)
        clear ho9 hg9 hat9 cA8 cB8
        go_wp2
        go_ret
        exact ⟨v9, rfl, by rw [HV.out, ← HL1.out]; exact HO9.out, HG9.out, HAT9.out⟩

theorem addBest_c : ∀ (t : Tr), nodes t ≤ 255 → AbI t
  | .leaf o p t, _ => addBest_leaf o p t
  | .cut o a l r, h => addBest_cut o a l r h (addBest_c l (by simp only [nodes] at h; omega)) (addBest_c r (by simp only [nodes] at h; omega))

def bstOut (p : Pl) : List Int := match wf p with | some t => if (nodes t : Int) ≤ 255 then bst t 0 else [] | none => []
theorem bstOut_some {p : Pl} {t : Tr} (h : wf p = some t) (hn : (nodes t : Int) ≤ 255) : bstOut p = bst t 0 := by simp [bstOut, h, hn]
theorem bstOut_neg {p : Pl} (h : psz p < 0) : bstOut p = [] := by
  unfold bstOut
  unfold psz cp at h
  cases hw : wf p with
  | none => rfl
  | some t =>
    rw [hw] at h
    simp only at h ⊢
    by_cases hn : (nodes t : Int) ≤ 255
    · rw [if_pos hn] at h; omega
    · rw [if_neg hn]
theorem bstOut_len (p : Pl) : (bstOut p).length ≤ 127 := by
  unfold bstOut
  cases wf p with
  | none => simp
  | some t =>
    simp only
    by_cases hn : (nodes t : Int) ≤ 255
    · rw [if_pos hn, bst_len]; have := nodes_cuts t; omega
    · rw [if_neg hn]; simp

set_option maxHeartbeats 1600000 in
theorem BestSteps_c {n : Nat} {p : Pl} {s : Sh} {w : World} (h : PR w.heap.size w n p s) : Calls Try.prog 46 #[.agg #[.int .i64 s.o, .int .i64 s.a, .int .i64 s.p, .bool s.t, .slice s.ka s.kn s.kc]] w fun e w' => ∃ v, e = .returned v ∧ Own intE 3 w.heap.size w' v (bstOut p) ∧ Below w.heap.size w w' := by
  have HB0 := hid (below_pl (o := s.o) (a := s.a) (p := s.p) (t := s.t) (ka := s.ka) (kn := s.kn) (kc := s.kc) (ty := 29) w)
  have HP := hid h
  clear h
  by_cases hneg : psz p < 0
  · have HV := hid (bstOut_neg hneg)
    go_enter Try.func46, Try.ntmps46
    go_wp2_with fail
    refine (PlanSize_c (n := n) (p := p) (s := s) (HP.out.go HB0.out)).mono ?_
    rintro e w1 ⟨rfl, hb⟩
    have HB1 := hid (HB0.out.trans (hb.mono HB0.out.size))
    clear hb
    go_wp2
    go_ret
    exact ⟨.slice none 0 0, rfl, by rw [HV.out]; exact Own.nil_ _ _ _, HB1.out⟩
  · obtain ⟨t, hw, -, hn⟩ := cp_tree (p := p) (room := 255) (by unfold psz at hneg; omega)
    have HV := hid (bstOut_some hw hn)
    have HT := hid (addBest_c t (by omega))
    have HR := hid (HP.out.tr hw)
    have HC : Hid (([] : List Int).length + cuts t ≤ 1000) := by rw [Hid]; have := nodes_cuts t; simp; omega
    clear hw
    go_enter Try.func46, Try.ntmps46
    go_wp2_with fail
    refine (PlanSize_c (n := n) (p := p) (s := s) (HP.out.go HB0.out)).mono ?_
    rintro e w1 ⟨rfl, hb⟩
    have HB1 := hid (HB0.out.trans (hb.mono HB0.out.size))
    obtain ⟨hcc, hf, hsz⟩ := bcell hb
    clear hb hf
    go_wp2_with fail
    refine (HT.out s 0 _ w1.heap.size _ [] (HR.out.go HB1.out) (Own.nil_ _ _ _) (Nat.le_refl _) HC.out (by omega) (by omega)).mono ?_
    rintro e w2 ⟨v2, rfl, ho, hg, ha⟩
    have HO := hid ho
    have HB2 := hid (HB1.out.grown hg HB1.out.size (fun k hk => by simp [Value.ownBlock] at hk))
    clear ho hg ha hcc
    go_wp2
    go_ret
    exact ⟨v2, rfl, by rw [HV.out]; exact HO.out.base_le HB1.out.size, HB2.out⟩

abbrev BsS (t : Tr) : Prop := ∀ (s : Sh) (i : Int) (w : World), TR w.heap.size w t s → 0 ≤ i → i + nodes t ≤ 1000 →
  Calls Try.prog 73 #[.agg #[.int .i64 s.o, .int .i64 s.a, .int .i64 s.p, .bool s.t, .slice s.ka s.kn s.kc], .int .i64 i] w fun e w' => ∃ v, e = .returned v ∧ Own intE 3 w.heap.size w' v (bst t i) ∧ Below w.heap.size w w'

set_option maxHeartbeats 1600000 in
theorem sbestSteps_leaf (o p : Int) (t : Bool) : BsS (.leaf o p t) := by
  intro s i w h hi0 hi1
  have HB0 := hid (below_pl (o := s.o) (a := s.a) (p := s.p) (t := s.t) (ka := s.ka) (kn := s.kn) (kc := s.kc) (ty := 29) w)
  have HC := hid h.cutF
  clear h
  go_enter Try.func73, Try.ntmps73
  go_wp2_with fail
  refine (sisCut_f s HC.out _).mono ?_
  rintro e w1 ⟨rfl, hb⟩
  have HB1 := hid (HB0.out.trans (hb.mono HB0.out.size))
  clear hb
  go_wp2
  go_ret
  exact ⟨_, rfl, (Own.lit0 intE w1 w.heap.size 3 HB1.out.size), HB1.out.alloc HB1.out.size _⟩

set_option maxHeartbeats 6400000 in
set_option maxRecDepth 100000 in
theorem sbestSteps_cut (o a : Int) (l r : Tr) (ihl : BsS l) (ihr : BsS r) (hn : nodes (.cut o a l r) ≤ 255) : BsS (.cut o a l r) := by
  intro s i w h hi0 hi1
  have HC := hid h.cutT
  obtain ⟨h1, h2, h3, h4, -, sl, sr, hr, hl, hrr⟩ := h
  obtain ⟨so, sa, sp, st, ka, kn, kc⟩ := s
  simp only at h1 h2 h3 h4
  subst h1; subst h2; subst h3; subst h4
  obtain ⟨rfl, hkc, b1, o1, rfl, hb1, x0, x1, x2, x3, x4, y0, y1, y2, y3, y4⟩ := row_two hr
  have HB0 := hid (below_pl (o := so) (a := sa) (p := 0) (t := false) (ka := some ⟨b1, o1, none⟩) (kn := 2) (kc := kc) (ty := 29) w)
  have HL := hid (fun w1 (hb : Below w.heap.size w w1) => hl.go hb)
  have HR := hid (fun w1 (hb : Below w.heap.size w w1) => hrr.go hb)
  have HIL := hid ihl
  have HIR := hid ihr
  simp only [nodes] at hi1 hn
  have np1 := nodes_pos l
  have np2 := nodes_pos r
  have hbl := lst_bd l
  have hbr := lst_bd r
  have HTL := hid (sleast_c l (by omega))
  have HTR := hid (sleast_c r (by omega))
  have hc1 := nodes_cuts l
  have hc2' := nodes_cuts r
  have HL1 : Hid ((bst l (i + 1)).length ≤ 255) := by rw [Hid, bst_len]; omega
  have HL2 : Hid ((bst r (i + 1 + nodes l)).length ≤ 255) := by rw [Hid, bst_len]; omega
  obtain ⟨i0, hj, hj0, hj1, hj2⟩ := info_parts int_info
  have hw1 : IntKind.i64.wrap (i + 1) = i + 1 := IntWalk.i64_in _ (by omega)
  have hw2 : IntKind.i64.wrap (i + 1 + nodes l) = i + 1 + nodes l := IntWalk.i64_in _ (by omega)
  clear hl hrr hr ihl ihr hc1 hc2'
  go_enter Try.func73, Try.ntmps73
  go_wp2_with fail
  refine (sisCut_t ⟨so, sa, 0, false, some ⟨b1, o1, none⟩, 2, kc⟩ HC.out _).mono ?_
  rintro e w1 ⟨rfl, hb⟩
  have HB1 := hid (HB0.out.trans (hb.mono HB0.out.size))
  obtain ⟨hcc, hf, hsz⟩ := bcell hb
  have hz : w.heap.size < w1.heap.size := by simp at hsz; omega
  have hz1 : b1 < w1.heap.size := by omega
  have hz2 : b1 < w.heap.size + 1 := by omega
  clear hb hf
  go_wp2_with fail
  refine (HIL.out sl (i + 1) _ (HL.out _ HB1.out) (by omega) (by omega)).mono ?_
  rintro e w2 ⟨v2, rfl, ho, hb⟩
  have HB2 := hid (HB1.out.trans (hb.mono HB1.out.size))
  have HO2 := hid ho
  obtain ⟨hc2, hf2, hs2⟩ := bcell hb
  have hz3 : w.heap.size < w2.heap.size := by omega
  have hz4 : b1 < w2.heap.size := by omega
  clear ho hb hf2
  go_wp2
  have ZK := hid ((Below.refl _ _).drew : Below w2.heap.size w2 w2.drew)
  go_region_held3 (fun w' => ∀ b o, b < w2.heap.size → w'.cell? ⟨b, o, none⟩ = w2.cell? ⟨b, o, none⟩) (exact fun b o h => ZK.out.cell (p := ⟨b, o, none⟩) h)
    (first | (go_at_call 48; ((with_reducible refine (splanSize_tr (t := l) (s := sl) (HL.out _ (HB2.out.trans (ZK.out.mono HB2.out.size))) (by omega)).mono ?_); rintro e wq ⟨rfl, hb⟩; replace ZK := hid (ZK.out.trans (hb.mono ZK.out.size)); clear hb)) | (go_at_call 73; ((with_reducible refine (HIR.out sr (i + 1 + nodes l) _ (HR.out _ (HB2.out.trans (ZK.out.mono HB2.out.size))) (by omega) (by omega)).mono ?_); rintro e w3 ⟨v3, rfl, ho, hb⟩; have ZS := hid (ZK.out.size); replace ZK := hid (ZK.out.trans (hb.mono ZK.out.size)); have ZO := hid ho; clear ho hb)))
  all_goals
    have HB3 := hid (HB2.out.trans (ZK.out.mono HB2.out.size))
    have HO3 := hid (HO2.out.below ZK.out)
    have hz5 := Nat.lt_of_lt_of_le hz3 ZK.out.size
    have hz6 := Nat.lt_of_lt_of_le hz4 ZK.out.size
    have hc3 := bcell ZK.out |>.1
    clear ZK
    go_wp2
    have ZK := hid ((Below.refl _ _).drew : Below w3.heap.size w3 w3.drew)
    go_region_held3 (fun w' => ∀ b o, b < w3.heap.size → w'.cell? ⟨b, o, none⟩ = w3.cell? ⟨b, o, none⟩) (exact fun b o h => ZK.out.cell (p := ⟨b, o, none⟩) h)
      (first | (go_at_call 53; ((with_reducible refine (HTL.out sl _ (HL.out _ (HB3.out.trans (ZK.out.mono HB3.out.size)))).mono ?_); rintro e wq ⟨rfl, hb⟩; replace ZK := hid (ZK.out.trans (hb.mono ZK.out.size)); clear hb)) | (go_at_call 53; ((with_reducible refine (HTR.out sr _ (HR.out _ (HB3.out.trans (ZK.out.mono HB3.out.size)))).mono ?_); rintro e wq ⟨rfl, hb⟩; replace ZK := hid (ZK.out.trans (hb.mono ZK.out.size)); clear hb)))
    all_goals
      have HB4 := hid (HB3.out.trans (ZK.out.mono HB3.out.size))
      have HO4 := hid (HO3.out.below ZK.out)
      have HZ4 := hid (ZO.out.below ZK.out)
      clear ZK
      by_cases hcmp : lst r < lst l
      · have HV : Hid (bst (.cut so sa l r) i = ([i] ++ bst r (i + 1 + nodes l)) ++ bst l (i + 1)) := by rw [Hid, bst, if_pos hcmp]; simp
        obtain ⟨La, hLa⟩ : ∃ L, L = [i] ++ bst r (i + 1 + nodes l) := ⟨_, rfl⟩
        obtain ⟨Lb, hLb⟩ : ∃ L, L = ([i] ++ bst r (i + 1 + nodes l)) ++ bst l (i + 1) := ⟨_, rfl⟩
        have HLa := hid hLa
        have HLb := hid hLb
        have HRa : Hid ([i].length + (bst r (i + 1 + nodes l)).length ≤ 4194304) := by have := HL2.out; rw [Hid]; simp; omega
        have HRb : Hid (([i] ++ bst r (i + 1 + nodes l)).length + (bst l (i + 1)).length ≤ 4194304) := by have := HL2.out; have := HL1.out; rw [Hid]; simp; omega
        clear hLa hLb
        go_wp2_with (at_builtin; refine wpList_cat intE _ rfl (.tmp 45) (.tmp 46) _ rfl w.heap.size 3 i0 _ 8 Try.underlying38 hj hj0 hj1 hj2 rfl (by omega) _ _ rfl (Own.lit intE _ w.heap.size 3 #[.int .i64 i] [i] 1 rfl rfl HB4.out.size (by simp [maxLen])) _ _ _ rfl (HZ4.out.alloc _).rowB HRa.out (HB4.out.alloc HB4.out.size _).size La HLa.out ?_)
        intro v5 w5 ho5 hg5 hat5
        have HBq := hid (((Below.refl _ _).alloc (Nat.le_refl _) _).grown hg5 (by simp) (fun q hq => by simp [Value.ownBlock] at hq; omega))
        have HO5 := hid ho5
        have HX5 := hid (HO4.out.below HBq.out)
        have HB5 := hid (HB4.out.trans (HBq.out.mono HB4.out.size))
        have HRb' : Hid (La.length + (bst l (i + 1)).length ≤ 4194304) := by rw [Hid, HLa.out]; exact HRb.out
        have HLb' : Hid (Lb = La ++ bst l (i + 1)) := by rw [Hid, HLa.out]; exact HLb.out
        clear ho5 hg5 hat5
        go_wp2_with (at_builtin; refine wpList_cat intE _ rfl (.tmp 47) (.tmp 48) _ rfl w.heap.size 3 i0 _ 8 Try.underlying38 hj hj0 hj1 hj2 rfl (by omega) _ _ rfl HO5.out _ _ _ rfl HX5.out.rowB HRb'.out HB5.out.size Lb HLb'.out ?_)
        intro v6 w6 ho6 hg6 hat6
        have HO6 := hid ho6
        have HB6 := hid (HB5.out.grown hg6 HB5.out.size (fun q hq => (HO5.out.lt q hq).1))
        clear ho6 hg6 hat6
        go_wp2
        go_ret
        exact ⟨v6, rfl, by rw [HV.out, ← HLb.out]; exact HO6.out, HB6.out⟩
      · have HV : Hid (bst (.cut so sa l r) i = ([i] ++ bst l (i + 1)) ++ bst r (i + 1 + nodes l)) := by rw [Hid, bst, if_neg hcmp]; simp
        obtain ⟨La, hLa⟩ : ∃ L, L = [i] ++ bst l (i + 1) := ⟨_, rfl⟩
        obtain ⟨Lb, hLb⟩ : ∃ L, L = ([i] ++ bst l (i + 1)) ++ bst r (i + 1 + nodes l) := ⟨_, rfl⟩
        have HLa := hid hLa
        have HLb := hid hLb
        have HRa : Hid ([i].length + (bst l (i + 1)).length ≤ 4194304) := by have := HL1.out; rw [Hid]; simp; omega
        have HRb : Hid (([i] ++ bst l (i + 1)).length + (bst r (i + 1 + nodes l)).length ≤ 4194304) := by have := HL2.out; have := HL1.out; rw [Hid]; simp; omega
        clear hLa hLb
        go_wp2_with (at_builtin; refine wpList_cat intE _ rfl (.tmp 45) (.tmp 46) _ rfl w.heap.size 3 i0 _ 8 Try.underlying38 hj hj0 hj1 hj2 rfl (by omega) _ _ rfl (Own.lit intE _ w.heap.size 3 #[.int .i64 i] [i] 1 rfl rfl HB4.out.size (by simp [maxLen])) _ _ _ rfl (HO4.out.alloc _).rowB HRa.out (HB4.out.alloc HB4.out.size _).size La HLa.out ?_)
        intro v5 w5 ho5 hg5 hat5
        have HBq := hid (((Below.refl _ _).alloc (Nat.le_refl _) _).grown hg5 (by simp) (fun q hq => by simp [Value.ownBlock] at hq; omega))
        have HO5 := hid ho5
        have HX5 := hid (HZ4.out.below HBq.out)
        have HB5 := hid (HB4.out.trans (HBq.out.mono HB4.out.size))
        have HRb' : Hid (La.length + (bst r (i + 1 + nodes l)).length ≤ 4194304) := by rw [Hid, HLa.out]; exact HRb.out
        have HLb' : Hid (Lb = La ++ bst r (i + 1 + nodes l)) := by rw [Hid, HLa.out]; exact HLb.out
        clear ho5 hg5 hat5
        go_wp2_with (at_builtin; refine wpList_cat intE _ rfl (.tmp 47) (.tmp 48) _ rfl w.heap.size 3 i0 _ 8 Try.underlying38 hj hj0 hj1 hj2 rfl (by omega) _ _ rfl HO5.out _ _ _ rfl HX5.out.rowB HRb'.out HB5.out.size Lb HLb'.out ?_)
        intro v6 w6 ho6 hg6 hat6
        have HO6 := hid ho6
        have HB6 := hid (HB5.out.grown hg6 HB5.out.size (fun q hq => (HO5.out.lt q hq).1))
        clear ho6 hg6 hat6
        go_wp2
        go_ret
        exact ⟨v6, rfl, by rw [HV.out, ← HLb.out]; exact HO6.out, HB6.out⟩

theorem sbestSteps_tr : ∀ (t : Tr), nodes t ≤ 255 → BsS t
  | .leaf o p t, _ => sbestSteps_leaf o p t
  | .cut o a l r, h => sbestSteps_cut o a l r (sbestSteps_tr l (by simp only [nodes] at h; omega)) (sbestSteps_tr r (by simp only [nodes] at h; omega)) h

set_option maxHeartbeats 1600000 in
theorem sBestSteps_c {n : Nat} {p : Pl} {s : Sh} {w : World} (h : PR w.heap.size w n p s) : Calls Try.prog 45 #[.agg #[.int .i64 s.o, .int .i64 s.a, .int .i64 s.p, .bool s.t, .slice s.ka s.kn s.kc]] w fun e w' => ∃ v, e = .returned v ∧ Own intE 3 w.heap.size w' v (bstOut p) ∧ Below w.heap.size w w' := by
  have HB0 := hid (below_pl (o := s.o) (a := s.a) (p := s.p) (t := s.t) (ka := s.ka) (kn := s.kn) (kc := s.kc) (ty := 29) w)
  have HP := hid h
  clear h
  by_cases hneg : psz p < 0
  · have HV := hid (bstOut_neg hneg)
    go_enter Try.func45, Try.ntmps45
    go_wp2_with fail
    refine (splanSize_c (n := n) (p := p) (s := s) (HP.out.go HB0.out)).mono ?_
    rintro e w1 ⟨rfl, hb⟩
    have HB1 := hid (HB0.out.trans (hb.mono HB0.out.size))
    clear hb
    go_wp2
    go_ret
    exact ⟨.slice none 0 0, rfl, by rw [HV.out]; exact Own.nil_ _ _ _, HB1.out⟩
  · obtain ⟨t, hw, -, hn⟩ := cp_tree (p := p) (room := 255) (by unfold psz at hneg; omega)
    have HV := hid (bstOut_some hw hn)
    have HT := hid (sbestSteps_tr t (by omega))
    have HR := hid (HP.out.tr hw)
    clear hw
    go_enter Try.func45, Try.ntmps45
    go_wp2_with fail
    refine (splanSize_c (n := n) (p := p) (s := s) (HP.out.go HB0.out)).mono ?_
    rintro e w1 ⟨rfl, hb⟩
    have HB1 := hid (HB0.out.trans (hb.mono HB0.out.size))
    obtain ⟨hcc, hf, hsz⟩ := bcell hb
    clear hb hf
    go_wp2_with fail
    refine (HT.out s 0 _ (HR.out.go HB1.out) (by omega) (by omega)).mono ?_
    rintro e w2 ⟨v2, rfl, ho, hb⟩
    have HO := hid ho
    have HB2 := hid (HB1.out.trans (hb.mono HB1.out.size))
    clear ho hb hcc
    go_wp2
    go_ret
    exact ⟨v2, rfl, by rw [HV.out]; exact HO.out.base_le HB1.out.size, HB2.out⟩

end Go.Proofs.Ytjohhjpoglaagaa
