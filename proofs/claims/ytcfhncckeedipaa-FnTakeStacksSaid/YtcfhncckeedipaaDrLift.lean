/-
  Contracts: orders and stacks drawn by the generators of the reference.
-/
import Derived.Test.YtcfhncckeedipaaDrRise
import Derived.Test.YtcfhncckeedipaaPutI
namespace Go.Proofs.Ytcfhncckeedipaa
set_option linter.unusedSimpArgs false
set_option linter.unusedVariables false
open Go.RowKit

/-- What a call answers that draws an order and stacks. -/
def LfDr (w : World) (e : Ending) (w' : World) : Prop := ∃ (v u : Value) (L S : List Int), e = .returned (.tuple #[v, u]) ∧ Row intE w' v L ∧ Row intE w' u S ∧ L.length ≤ 14 ∧ Below w.heap.size w w'

set_option maxHeartbeats 6400000 in
set_option maxRecDepth 100000 in
theorem DrawLiftsOf_c (v : Value) (L : List Int) (w : World) (h : Row byteE w v L) (hb : ∀ x ∈ L, 0 ≤ x ∧ x ≤ 255) : Calls Try.prog 19 #[v] w (LfDr w) := by
  obtain ⟨i0, hi0, hz0, hz1, hz2⟩ := info_parts int_info
  have HR0 := hid h
  have HB := hid hb
  clear h hb
  go_enter Try.func19, Try.ntmps19
  go_wp2_with fail
  refine (newReader_c w.heap.size v L _ HR0.out (Nat.le_refl _) HB.out).mono ?_
  rintro e w1 ⟨rfl, hR, hb, hlt⟩
  have HB1 := hid hb
  have HRd := hid hR
  clear hR hb
  go_wp2_with fail
  refine (anyTurn_c w.heap.size w.heap.size 0 _ HRd.out (by omega)).mono ?_
  rintro e w2 ⟨u, M, rfl, hl, hT, hst, hn, hR, hg⟩
  obtain ⟨g, c, rfl, hg1, hg2, hc1, hc2⟩ := hst.some_form hn
  unfold maxLen at hc2
  have HST := hid hst
  have HR2 := hid hR
  have HB2 := hid (below_gr HB1.out hg HB1.out.size (Nat.le_refl _))
  have hs2 := hg.size
  clear hst hR hg hn hT
  have HO0 := hid (Own.lit0 intE w2 w2.heap.size 3 (Nat.le_refl _))
  have HR2a := hid (HR2.out.alloc (.cells #[] 3))
  have HST2a := hid (HST.out.alloc (.cells #[] 3))
  have HB2a := hid (HB2.out.alloc HB2.out.size (.cells #[] 3))
  have HGW := hid (show g ≠ w.heap.size by omega)
  go_wp2
  go_loopw [6, 7] (fun o i wr => ∃ k : Nat, ∃ S : List Int, i = .int .i64 k ∧ k ≤ M.length ∧ S.length = k ∧ Own intE 3 w2.heap.size wr o S ∧ Own intE 3 w1.heap.size wr (.slice (some ⟨g, 0, none⟩) M.length c) M ∧ Rd w.heap.size wr w.heap.size (30 + k) ∧ w2.heap.size ≤ wr.heap.size ∧ Below w.heap.size w wr) (fun _ i _ => M.length - (intOf i).toNat)
  case atStart => exact ⟨0, [], rfl, by omega, rfl, HO0.out, HST2a.out, HR2a.out.up (by omega), by simp, HB2a.out⟩
  case round =>
    obtain ⟨k, S, rfl, hk, hS, ho, hst, hR, hz2r, hb⟩ := hrel
    have HO := hid ho
    have HSr := hid hst
    have HRr := hid hR
    have HBr := hid hb
    have HSL := hid hS
    have hszr := hb.size
    have hltr := hR.lt
    clear ho hst hR hb hS HO0 HR2a HST2a HB2a
    by_cases hlt2 : k < M.length
    · go_wp2_with fail
      refine (pick_c w.heap.size w.heap.size 4 _ _ HRr.out (by omega) (by omega) (by omega)).mono ?_
      rintro e w3 ⟨y, rfl, hp, hR, hg⟩
      have hy := pk_be hp 3 (by omega) (by omega)
      have HO3 := hid (HO.out.kept hg (own_nb HO.out (by omega)))
      have HS3 := hid (HSr.out.kept hg (own_nb HSr.out hlt))
      have HR3 := hid hR
      have HB3 := hid (below_gr HBr.out hg HBr.out.size (Nat.le_refl _))
      have hs3 := hg.size
      clear hp hR hg
      obtain ⟨L2, hL2⟩ : ∃ Z : List Int, Z = S ++ [y] := ⟨_, rfl⟩
      have HL2 := hid hL2
      have hl2 : L2.length = k + 1 := by rw [hL2]; simp [HSL.out]
      have HLL := hid hl2
      have hLn : Hid (S.length ≤ 4194304) := by rw [Hid, HSL.out]; omega
      have HOW : Hid (w2.heap.size ≤ w3.heap.size) := (show w2.heap.size ≤ w3.heap.size by omega)
      clear hL2 hl2
      go_wp2_with (at_builtin; refine wpList_pushN intE _ rfl (.tmp 19) (.tmp 22) _ rfl w2.heap.size 3 i0 _ 8 Try.underlying24 hi0 hz0 hz1 hz2 rfl (by omega) _ _ rfl HO3.out _ y _ rfl rfl (by simp) hLn.out HOW.out L2 HL2.out ?_)
      intro v5 w5 ho5 hg5 hat5
      have hlo5 := fun q hq => (HO3.out.lt q hq).1
      have HS5 := hid (HS3.out.kept hg5 (.inr (fun e => by have := hlo5 g e.symm; omega)))
      have HR5 := hid (HR3.out.grown hg5 (fun q hq => by have := hlo5 q hq; omega))
      have HB5 := hid (HB3.out.grown hg5 HB3.out.size (fun q hq => by have := hlo5 q hq; omega))
      have HZ5 : Hid (w2.heap.size ≤ w5.heap.size) := Nat.le_trans HOW.out hg5.size
      clear hg5 hat5 hlo5
      go_wp2
      exact ⟨⟨k + 1, L2, by go_num, by omega, HLL.out, ho5, HS5.out, HR5.out.up (by omega), HZ5.out, HB5.out⟩, by simp [intOf]; omega⟩
    · have HMr := hid HSr.out.rowB
      go_wp2_with fail
      refine (validTurn_c _ M _ HMr.out).mono ?_
      rintro e w4 ⟨rfl, hd⟩
      have HO4 := hid (HO.out.dr hd)
      have HS4 := hid (HSr.out.dr hd)
      have HR4 := hid (HRr.out.grown (grown_of_below (hd.below _) none) (fun k hk => by cases hk))
      have HB4 := hid (HBr.out.trans (hd.below _))
      have hs4 := hd.size
      clear hd
      cases hv : vtB M with
      | false =>
        have HOf := HO4
        have HSf := HS4
        have HRf := hid (HR4.out.up (m' := 60) (by omega))
        have HBf := HB4
        obtain ⟨Sf, hSf⟩ : ∃ Z, Z = S := ⟨_, rfl⟩
        rw [← hSf] at HOf
        clear hv hSf HO4 HS4 HR4 HB4
        obtain ⟨As, cs, hvs, hcs, hms, hgs⟩ := HOf.out.shape
        subst hvs
        unfold maxLen at hms
        have HGS := hid hgs
        clear hgs
        by_cases h0 : 0 < Sf.length
        · obtain ⟨gs, rfl, hgs1, hgs2⟩ := HGS.out h0
          have d0 : decide ((0 : Int) < (Sf.length : Int)) = true := by simp; omega
          go_wp2_with fail
          refine (pick_c w.heap.size w.heap.size 10 _ _ HRf.out (by omega) (by omega) (by omega)).mono ?_
          rintro e w8 ⟨x, rfl, ⟨hx0, -⟩, hR, hg⟩
          have HO8 := hid (HOf.out.kept hg (own_nb HOf.out (by omega)))
          have HS8 := hid (HSf.out.kept hg (own_nb HSf.out hlt))
          have HR8 := hid hR
          have HB8 := hid (below_gr HBf.out hg HBf.out.size (Nat.le_refl _))
          have hs8 := hg.size
          clear hR hg
          by_cases hx : x = 0
          · have d1 : (x == 0) = true := by simpa using hx
            clear hx
            have ZL := hid (lit_row w8 w8.heap.size rfl #[.int .i64 (-1), .int .i64 24, .int .i64 23] [-1, 24, 23] 3 rfl rfl (by simp [maxLen]))
            have hltf := HR8.out.lt
            go_wp2_with fail
            refine (one_c w.heap.size w.heap.size _ [-1, 24, 23] _ _ (HR8.out.alloc _) ZL.out (by simp [Value.ownBlock]; omega) (by simp) (by simp) (by omega)).mono ?_
            rintro e w9 ⟨z, rfl, hp, hR, hg⟩
            have hs9 := hg.size
            simp only [World.size_alloc] at hs9
            have ho9 := (HO8.out.alloc (.cells #[.int .i64 (-1), .int .i64 24, .int .i64 23] 3)).kept hg (own_nb (HO8.out.alloc (.cells #[.int .i64 (-1), .int .i64 24, .int .i64 23] 3)) (by omega))
            have hst9 := (HS8.out.alloc (.cells #[.int .i64 (-1), .int .i64 24, .int .i64 23] 3)).kept hg (own_nb (HS8.out.alloc (.cells #[.int .i64 (-1), .int .i64 24, .int .i64 23] 3)) hlt)
            have HB9 := hid ((below_gr (HB8.out.alloc HB8.out.size _) hg (by simp; omega) (Nat.le_refl _)).setCell (p := ⟨gs, 0, none⟩) (by simp; omega) (.int .i64 z))
            have hc0 := ho9.own_int rfl 0 h0
            have hfr := ho9.frozen rfl 0
            obtain ⟨ho6, hg6⟩ := ho9.store1 rfl 0 z (.int .i64 z) rfl rfl
            have HST6 := hid (hst9.kept hg6 (.inr (by simp [Value.ownBlock]; omega))).rowB
            have HO6 := hid ho6.rowB
            clear hp hR hg ho9 hst9 ho6 hg6
            go_wp2
            go_ret2
            exact ⟨_, _, M, Sf.set 0 z, rfl, HST6.out, HO6.out, hl, HB9.out⟩
          · have d1 : (x == 0) = false := by simpa using hx
            clear hx
            go_wp2
            go_ret2
            exact ⟨_, _, M, Sf, rfl, HS8.out.rowB, HO8.out.rowB, hl, HB8.out⟩
        · have d0 : decide ((0 : Int) < (Sf.length : Int)) = false := decide_eq_false (by omega)
          go_wp2
          go_ret2
          exact ⟨_, _, M, Sf, rfl, HSf.out.rowB, HOf.out.rowB, hl, HBf.out⟩
      | true =>
        have HV := hid (vtB_iff.1 hv)
        clear hv
        go_wp2_with fail
        refine (pick_c w.heap.size w.heap.size 3 _ _ HR4.out (by omega) (by omega) (by omega)).mono ?_
        rintro e w5 ⟨y, rfl, ⟨hy0, -⟩, hR, hg⟩
        have HO5 := hid (HO4.out.kept hg (own_nb HO4.out (by omega)))
        have HS5 := hid (HS4.out.kept hg (own_nb HS4.out hlt))
        have HR5 := hid hR
        have HB5 := hid (below_gr HB4.out hg HB4.out.size (Nat.le_refl _))
        have hs5 := hg.size
        clear hR hg
        by_cases hy : y = 0
        · have d1 : (y == 0) = true := by simpa using hy
          clear hy
          go_wp2_with fail
          refine (sputStacks_c _ M _ HS5.out.rowB HV.out).mono ?_
          rintro e w6 ⟨r, rfl, ho, hb⟩
          have HOf := hid (ho.base_le (base' := w2.heap.size) (by omega))
          have HSf := hid (HS5.out.below hb)
          have HRf := hid ((HR5.out.below hb).up (m' := 60) (by omega))
          have HBf := hid (HB5.out.trans (hb.mono HB5.out.size))
          have hs6 := hb.size
          obtain ⟨Sf, hSf⟩ : ∃ Z, Z = putL M := ⟨_, rfl⟩
          rw [← hSf] at HOf
          clear ho hb hSf
          obtain ⟨As, cs, hvs, hcs, hms, hgs⟩ := HOf.out.shape
          subst hvs
          unfold maxLen at hms
          have HGS := hid hgs
          clear hgs
          by_cases h0 : 0 < Sf.length
          · obtain ⟨gs, rfl, hgs1, hgs2⟩ := HGS.out h0
            have d0 : decide ((0 : Int) < (Sf.length : Int)) = true := by simp; omega
            go_wp2_with fail
            refine (pick_c w.heap.size w.heap.size 10 _ _ HRf.out (by omega) (by omega) (by omega)).mono ?_
            rintro e w8 ⟨x, rfl, ⟨hx0, -⟩, hR, hg⟩
            have HO8 := hid (HOf.out.kept hg (own_nb HOf.out (by omega)))
            have HS8 := hid (HSf.out.kept hg (own_nb HSf.out hlt))
            have HR8 := hid hR
            have HB8 := hid (below_gr HBf.out hg HBf.out.size (Nat.le_refl _))
            have hs8 := hg.size
            clear hR hg
            by_cases hx : x = 0
            · have d1 : (x == 0) = true := by simpa using hx
              clear hx
              have ZL := hid (lit_row w8 w8.heap.size rfl #[.int .i64 (-1), .int .i64 24, .int .i64 23] [-1, 24, 23] 3 rfl rfl (by simp [maxLen]))
              have hltf := HR8.out.lt
              go_wp2_with fail
              refine (one_c w.heap.size w.heap.size _ [-1, 24, 23] _ _ (HR8.out.alloc _) ZL.out (by simp [Value.ownBlock]; omega) (by simp) (by simp) (by omega)).mono ?_
              rintro e w9 ⟨z, rfl, hp, hR, hg⟩
              have hs9 := hg.size
              simp only [World.size_alloc] at hs9
              have ho9 := (HO8.out.alloc (.cells #[.int .i64 (-1), .int .i64 24, .int .i64 23] 3)).kept hg (own_nb (HO8.out.alloc (.cells #[.int .i64 (-1), .int .i64 24, .int .i64 23] 3)) (by omega))
              have hst9 := (HS8.out.alloc (.cells #[.int .i64 (-1), .int .i64 24, .int .i64 23] 3)).kept hg (own_nb (HS8.out.alloc (.cells #[.int .i64 (-1), .int .i64 24, .int .i64 23] 3)) hlt)
              have HB9 := hid ((below_gr (HB8.out.alloc HB8.out.size _) hg (by simp; omega) (Nat.le_refl _)).setCell (p := ⟨gs, 0, none⟩) (by simp; omega) (.int .i64 z))
              have hc0 := ho9.own_int rfl 0 h0
              have hfr := ho9.frozen rfl 0
              obtain ⟨ho6, hg6⟩ := ho9.store1 rfl 0 z (.int .i64 z) rfl rfl
              have HST6 := hid (hst9.kept hg6 (.inr (by simp [Value.ownBlock]; omega))).rowB
              have HO6 := hid ho6.rowB
              clear hp hR hg ho9 hst9 ho6 hg6
              go_wp2
              go_ret2
              exact ⟨_, _, M, Sf.set 0 z, rfl, HST6.out, HO6.out, hl, HB9.out⟩
            · have d1 : (x == 0) = false := by simpa using hx
              clear hx
              go_wp2
              go_ret2
              exact ⟨_, _, M, Sf, rfl, HS8.out.rowB, HO8.out.rowB, hl, HB8.out⟩
          · have d0 : decide ((0 : Int) < (Sf.length : Int)) = false := decide_eq_false (by omega)
            go_wp2
            go_ret2
            exact ⟨_, _, M, Sf, rfl, HSf.out.rowB, HOf.out.rowB, hl, HBf.out⟩
        · have d1 : (y == 0) = false := by simpa using hy
          have HOf := HO5
          have HSf := HS5
          have HRf := hid (HR5.out.up (m' := 60) (by omega))
          have HBf := HB5
          obtain ⟨Sf, hSf⟩ : ∃ Z, Z = S := ⟨_, rfl⟩
          rw [← hSf] at HOf
          clear hy hSf
          obtain ⟨As, cs, hvs, hcs, hms, hgs⟩ := HOf.out.shape
          subst hvs
          unfold maxLen at hms
          have HGS := hid hgs
          clear hgs
          by_cases h0 : 0 < Sf.length
          · obtain ⟨gs, rfl, hgs1, hgs2⟩ := HGS.out h0
            have d0 : decide ((0 : Int) < (Sf.length : Int)) = true := by simp; omega
            go_wp2_with fail
            refine (pick_c w.heap.size w.heap.size 10 _ _ HRf.out (by omega) (by omega) (by omega)).mono ?_
            rintro e w8 ⟨x, rfl, ⟨hx0, -⟩, hR, hg⟩
            have HO8 := hid (HOf.out.kept hg (own_nb HOf.out (by omega)))
            have HS8 := hid (HSf.out.kept hg (own_nb HSf.out hlt))
            have HR8 := hid hR
            have HB8 := hid (below_gr HBf.out hg HBf.out.size (Nat.le_refl _))
            have hs8 := hg.size
            clear hR hg
            by_cases hx : x = 0
            · have d1 : (x == 0) = true := by simpa using hx
              clear hx
              have ZL := hid (lit_row w8 w8.heap.size rfl #[.int .i64 (-1), .int .i64 24, .int .i64 23] [-1, 24, 23] 3 rfl rfl (by simp [maxLen]))
              have hltf := HR8.out.lt
              go_wp2_with fail
              refine (one_c w.heap.size w.heap.size _ [-1, 24, 23] _ _ (HR8.out.alloc _) ZL.out (by simp [Value.ownBlock]; omega) (by simp) (by simp) (by omega)).mono ?_
              rintro e w9 ⟨z, rfl, hp, hR, hg⟩
              have hs9 := hg.size
              simp only [World.size_alloc] at hs9
              have ho9 := (HO8.out.alloc (.cells #[.int .i64 (-1), .int .i64 24, .int .i64 23] 3)).kept hg (own_nb (HO8.out.alloc (.cells #[.int .i64 (-1), .int .i64 24, .int .i64 23] 3)) (by omega))
              have hst9 := (HS8.out.alloc (.cells #[.int .i64 (-1), .int .i64 24, .int .i64 23] 3)).kept hg (own_nb (HS8.out.alloc (.cells #[.int .i64 (-1), .int .i64 24, .int .i64 23] 3)) hlt)
              have HB9 := hid ((below_gr (HB8.out.alloc HB8.out.size _) hg (by simp; omega) (Nat.le_refl _)).setCell (p := ⟨gs, 0, none⟩) (by simp; omega) (.int .i64 z))
              have hc0 := ho9.own_int rfl 0 h0
              have hfr := ho9.frozen rfl 0
              obtain ⟨ho6, hg6⟩ := ho9.store1 rfl 0 z (.int .i64 z) rfl rfl
              have HST6 := hid (hst9.kept hg6 (.inr (by simp [Value.ownBlock]; omega))).rowB
              have HO6 := hid ho6.rowB
              clear hp hR hg ho9 hst9 ho6 hg6
              go_wp2
              go_ret2
              exact ⟨_, _, M, Sf.set 0 z, rfl, HST6.out, HO6.out, hl, HB9.out⟩
            · have d1 : (x == 0) = false := by simpa using hx
              clear hx
              go_wp2
              go_ret2
              exact ⟨_, _, M, Sf, rfl, HS8.out.rowB, HO8.out.rowB, hl, HB8.out⟩
          · have d0 : decide ((0 : Int) < (Sf.length : Int)) = false := decide_eq_false (by omega)
            go_wp2
            go_ret2
            exact ⟨_, _, M, Sf, rfl, HSf.out.rowB, HOf.out.rowB, hl, HBf.out⟩

set_option maxHeartbeats 3200000 in
set_option maxRecDepth 100000 in
theorem DrawTakeStacks_c (v : Value) (L : List Int) (w : World) (h : Row byteE w v L) (hb : ∀ x ∈ L, 0 ≤ x ∧ x ≤ 255) : Calls Try.prog 36 #[v] w (LfDr w) := by
  have HR0 := hid h
  have HB := hid hb
  clear h hb
  go_enter Try.func36, Try.ntmps36
  go_wp2_with fail
  refine (DrawLiftsOf_c _ L _ HR0.out HB.out).mono ?_
  rintro e w1 ⟨v1, u1, M, S, rfl, h1, h2, h3, h4⟩
  have H1 := hid h1
  have H2 := hid h2
  have H4 := hid h4
  clear h1 h2 h4
  go_wp2
  go_ret2
  exact ⟨_, _, M, S, rfl, H1.out, H2.out, h3, H4.out⟩

end Go.Proofs.Ytcfhncckeedipaa
