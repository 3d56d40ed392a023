/-
  Contracts: two orders drawn, and an order drawn with what was given.
-/
import Derived.Test.YtmenkjloabficaaDrOrd
namespace Go.Proofs.Ytmenkjloabficaa
set_option linter.unusedSimpArgs false
set_option linter.unusedVariables false
open Go.RowKit

def OrdTwo (w : World) (e : Ending) (w' : World) : Prop := ∃ (v u : Value) (a b : List Ln), e = .returned (.tuple #[v, u]) ∧ Row lineE w' v a ∧ Row lineE w' u b ∧ a.length ≤ 5 ∧ b.length ≤ 6 ∧ Below w.heap.size w w'

set_option maxHeartbeats 6400000 in
set_option maxRecDepth 100000 in
theorem DrawMergeOrders_c (v : Value) (L : List Int) (w : World) (h : Row byteE w v L) (hb : ∀ x ∈ L, 0 ≤ x ∧ x ≤ 255) : Calls Try.prog 36 #[v] w (OrdTwo w) := by
  obtain ⟨i0, hi0, hz0, hz1, hz2⟩ := info_parts line_info
  have HR0 := hid h
  have HB := hid hb
  clear h hb
  go_enter Try.func36, Try.ntmps36
  go_wp2_with fail
  refine (newReader_c w.heap.size v L _ HR0.out (Nat.le_refl _) HB.out).mono ?_
  rintro e w1 ⟨rfl, hR, hb, hlt⟩
  have HB1 := hid hb
  have HR1 := hid hR
  clear hR hb
  go_wp2_with fail
  refine (anyOrder_c w.heap.size w.heap.size 0 _ HR1.out (by omega)).mono ?_
  rintro e w2 ⟨va, a, rfl, hla, hTa, ho, hR, hg⟩
  have HB2 := hid (below_gr HB1.out hg HB1.out.size (Nat.le_refl _))
  have HA2 := hid ho
  have HR2 := hid hR
  have hs2 := hg.size
  clear ho hR hg hTa
  go_wp2_with fail
  refine (anyOrder_c w.heap.size w.heap.size (0 + 80) _ HR2.out (by omega)).mono ?_
  rintro e w3 ⟨vb, b, rfl, hlb, hTb, ho, hR, hg⟩
  have HB3 := hid (below_gr HB2.out hg HB2.out.size (Nat.le_refl _))
  have HA3 := hid (HA2.out.kept hg (own_na HA2.out (by omega)))
  have HO3 := hid ho
  have HR3 := hid hR
  have hs3 := hg.size
  clear ho hR hg hTb
  obtain ⟨Aa, ca, rfl, hca, hmca, hAa⟩ := HA3.out.shape
  obtain ⟨Ab, cb, rfl, hcb, hmcb, hAb⟩ := HO3.out.shape
  unfold maxLen at hmca hmcb
  clear hAb
  by_cases hL : 0 < a.length
  · obtain ⟨g, rfl, hg1, hg2⟩ := hAa hL
    clear hAa
    go_wp2_with fail
    refine (pick_c w.heap.size w.heap.size 2 _ _ HR3.out (by omega) (by omega) (by omega)).mono ?_
    rintro e w4 ⟨y, rfl, hp, hR, hg⟩
    have HB4 := hid (below_gr HB3.out hg HB3.out.size (Nat.le_refl _))
    have HA4 := hid (HA3.out.kept hg (own_na HA3.out (by omega)))
    have HO4 := hid (HO3.out.kept hg (own_na HO3.out (by omega)))
    clear hp hR hg
    by_cases hy : y = 0
    · have d1 : (y == 0) = true := by simpa using hy
      have y0 : w4.cell? ⟨g, 0, none⟩ = some (.int .i64 a[0].w) := HA4.out.cellAt rfl 0 0 hL (by decide)
      have y1 : w4.cell? ⟨g, 1, none⟩ = some (.int .i64 a[0].h) := HA4.out.cellAt rfl 0 1 hL (by decide)
      have y2 : w4.cell? ⟨g, 2, none⟩ = some (.bool a[0].t) := HA4.out.cellAt rfl 0 2 hL (by decide)
      have y3 : w4.cell? ⟨g, 3, none⟩ = some (.int .i64 a[0].k) := HA4.out.cellAt rfl 0 3 hL (by decide)
      have HE := hid (Own.lit lineE w4 w4.heap.size 56 #[.int .i64 a[0].w, .int .i64 a[0].h, .bool a[0].t, .int .i64 a[0].k, .int .i64 2] [(⟨a[0].w, a[0].h, a[0].t, a[0].k, 2⟩ : Ln)] 1 rfl rfl (Nat.le_refl _) (by simp [maxLen]))
      have HB5 := hid (HB4.out.alloc HB4.out.size (.cells #[.int .i64 a[0].w, .int .i64 a[0].h, .bool a[0].t, .int .i64 a[0].k, .int .i64 2] 56))
      have HA5 := hid (HA4.out.alloc (.cells #[.int .i64 a[0].w, .int .i64 a[0].h, .bool a[0].t, .int .i64 a[0].k, .int .i64 2] 56))
      have HO5 := hid (HO4.out.alloc (.cells #[.int .i64 a[0].w, .int .i64 a[0].h, .bool a[0].t, .int .i64 a[0].k, .int .i64 2] 56)).rowB
      have hlA := fun q hq => (HA4.out.lt q hq).2
      have HLA := hid hlA
      have HN : Hid ([(⟨a[0].w, a[0].h, a[0].t, a[0].k, 2⟩ : Ln)].length + b.length ≤ 4194304) := by rw [Hid]; simp; omega
      obtain ⟨L2, hL2⟩ : ∃ Z : List Ln, Z = [(⟨a[0].w, a[0].h, a[0].t, a[0].k, 2⟩ : Ln)] ++ b := ⟨_, rfl⟩
      have HL2 := hid hL2
      have hlen : L2.length ≤ 6 := by rw [hL2]; simp; omega
      clear hy hL2 hlA
      go_wp2_with (at_builtin; refine wpList_cat lineE _ rfl (.tmp 26) (.tmp 27) _ rfl w4.heap.size 56 i0 _ 40 Try.underlying26 hi0 hz0 hz1 hz2 rfl (by omega) _ _ rfl HE.out _ _ _ rfl HO5.out HN.out (by simp) L2 HL2.out ?_)
      intro v6 w6 ho6 hg6 hat6
      have HB6 := hid (HB5.out.grown hg6 HB5.out.size (fun q hq => by have := (HE.out.lt q hq).1; have := HB4.out.size; omega))
      have HA6 := hid ((HA5.out.kept hg6 (.inr (fun e => by
        have h1 := HLA.out g rfl
        have h2 := (HE.out.lt g e.symm).1
        omega))).rowB)
      have HO6 := hid ho6.rowB
      clear ho6 hg6 hat6
      go_wp2
      go_ret2
      exact ⟨_, _, a, L2, rfl, HA6.out, HO6.out, hla, hlen, HB6.out⟩
    · have d1 : (y == 0) = false := by simpa using hy
      have HA6 := hid HA4.out.rowB
      have HO6 := hid HO4.out.rowB
      clear hy
      go_wp2
      go_ret2
      exact ⟨_, _, a, b, rfl, HA6.out, HO6.out, hla, by omega, HB4.out⟩
  · have HA6 := hid HA3.out.rowB
    have HO6 := hid HO3.out.rowB
    clear hAa
    go_wp2
    go_ret2
    exact ⟨_, _, a, b, rfl, HA6.out, HO6.out, hla, by omega, HB3.out⟩

def OrdGiv (w : World) (e : Ending) (w' : World) : Prop := ∃ (v u : Value) (a : List Ln) (G : List Int), e = .returned (.tuple #[v, u]) ∧ Row lineE w' v a ∧ Row intE w' u G ∧ a.length ≤ 5 ∧ G.length ≤ 5 ∧ Below w.heap.size w w'

set_option maxHeartbeats 6400000 in
set_option maxRecDepth 100000 in
theorem DrawLackOf_c (v : Value) (L : List Int) (w : World) (h : Row byteE w v L) (hb : ∀ x ∈ L, 0 ≤ x ∧ x ≤ 255) : Calls Try.prog 31 #[v] w (OrdGiv w) := by
  obtain ⟨i0, hi0, hz0, hz1, hz2⟩ := info_parts int_info
  have HR0 := hid h
  have HB := hid hb
  clear h hb
  go_enter Try.func31, Try.ntmps31
  go_wp2_with fail
  refine (newReader_c w.heap.size v L _ HR0.out (Nat.le_refl _) HB.out).mono ?_
  rintro e w1 ⟨rfl, hR, hb, hlt⟩
  have HB1 := hid hb
  have HR1 := hid hR
  clear hR hb
  go_wp2_with fail
  refine (anyOrder_c w.heap.size w.heap.size 0 _ HR1.out (by omega)).mono ?_
  rintro e w2 ⟨va, a, rfl, hla, hTa, ho, hR, hg⟩
  have HB2 := hid (below_gr HB1.out hg HB1.out.size (Nat.le_refl _))
  have HA2 := hid ho
  have HR2 := hid hR
  have HT := hid hTa
  have hs2 := hg.size
  clear ho hR hg hTa
  obtain ⟨Aa, ca, rfl, hca, hmca, hAa⟩ := HA2.out.shape
  unfold maxLen at hmca
  have HAA := hid hAa
  have HA3 := hid (HA2.out.alloc (.cells #[] 3))
  have HR3 := hid (HR2.out.alloc (.cells #[] 3))
  have HB3 := hid (HB2.out.alloc HB2.out.size (.cells #[] 3))
  have HS3 := hid (Own.lit0 intE w2 w2.heap.size 3 (Nat.le_refl _))
  clear hAa
  go_wp2
  go_loopw [6, 7] (fun o i wr => ∃ k : Nat, ∃ G : List Int, i = .int .i64 k ∧ k ≤ a.length ∧ G.length = k ∧ Own intE 3 w2.heap.size wr o G ∧ o.ownBlock ≠ none ∧ Own lineE 56 w1.heap.size wr (.slice Aa a.length ca) a ∧ Rd w.heap.size wr w.heap.size (80 + k) ∧ Below w.heap.size w wr ∧ w2.heap.size ≤ wr.heap.size) (fun _ i _ => a.length - (intOf i).toNat)
  case atStart => exact ⟨0, [], rfl, by omega, rfl, HS3.out, by simp [Value.ownBlock], HA3.out, HR3.out.up (by omega), HB3.out, by simp⟩
  case round =>
    obtain ⟨k, G, rfl, hk, hG, hst, hn, ho, hR, hb, hsz⟩ := hrel
    have HST := hid hst
    have HO := hid ho
    have HRr := hid hR
    have HBr := hid hb
    have HN := hid hn
    clear hst ho hR hb hn HA3 HR3 HB3 HS3
    by_cases hlt : k < a.length
    · obtain ⟨g, rfl, hg1, hg2⟩ := HAA.out (by omega)
      have y4 : wr.cell? ⟨g, k * 5 + 4, none⟩ = some (.int .i64 a[k].c) := HO.out.cellAt rfl k 4 hlt (by decide)
      have hck := HT.out _ (List.getElem_mem hlt)
      obtain ⟨hck1, hck2⟩ := hck
      clear hmca hca
      go_wp2_with fail
      all_goals
        refine (pick_c w.heap.size w.heap.size _ _ _ HRr.out (by omega) (by omega) (by omega)).mono ?_
        rintro e w4 ⟨y, rfl, hp, hR, hg⟩
        have hrow := fun q hq => (HST.out.lt q hq).1
        have HB4 := hid (below_gr HBr.out hg HBr.out.size (Nat.le_refl _))
        have HST4 := hid (HST.out.kept hg (own_na HST.out (by omega)))
        have HO4 := hid (HO.out.kept hg (own_na HO.out (by omega)))
        have HR4 := hid hR
        have hsz4 := hg.size
        clear hp hR hg y4
        obtain ⟨G2, hG2⟩ : ∃ M : List Int, M = G ++ [y] := ⟨_, rfl⟩
        have HG2 := hid hG2
        have hlen : G2.length = k + 1 := by rw [hG2]; simp; omega
        have HLn : Hid (G.length ≤ 4194304) := by rw [Hid]; omega
        clear hG2
        go_wp2_with (at_builtin; refine wpList_pushN intE _ rfl (.tmp 19) (.tmp 29) _ rfl w2.heap.size 3 i0 _ 8 Try.underlying41 hi0 hz0 hz1 hz2 rfl (by omega) _ _ rfl HST4.out _ y _ rfl rfl (by simp) HLn.out (by omega) G2 HG2.out ?_)
        intro v6 w6 ho6 hg6 hat6
        have HR6 := hid (HR4.out.grown hg6 (fun q hq => by have := hrow q hq; omega))
        have HB6 := hid (HB4.out.grown hg6 HB4.out.size (fun q hq => by have := hrow q hq; omega))
        have HO6 := hid (HO4.out.kept hg6 (.inr (fun e => by
          have h1 : w2.heap.size ≤ g := hrow g e.symm
          omega)))
        have hs6 := hg6.size
        have hn6 : v6.ownBlock ≠ none := by
          rcases hat6 with e | e
          · rw [e]; exact HN.out
          · rw [e]; simp
        clear hat6 hg6 hrow
        go_wp2
        exact ⟨⟨k + 1, G2, by go_num, by omega, hlen, ho6, hn6, HO6.out, HR6.out.up (by push_cast; omega), HB6.out, by omega⟩, by simp [intOf]; omega⟩
    · subst hG
      have HE : Hid (G.length = a.length) := by rw [Hid]; omega
      clear hk
      obtain ⟨Ag, cg, rfl, hcg, hmg, hAg⟩ := HST.out.shape
      unfold maxLen at hmg
      by_cases hG0 : 0 < G.length
      · obtain ⟨g, rfl, hg1, hg2⟩ := hAg hG0
        go_wp2_with fail
        refine (pick_c w.heap.size w.heap.size 10 _ _ HRr.out (by have := HE.out; omega) (by omega) (by omega)).mono ?_
        rintro e w4 ⟨y, rfl, hp, hR, hg⟩
        have HB4 := hid (below_gr HBr.out hg HBr.out.size (Nat.le_refl _))
        have HST4 := hid (HST.out.kept hg (own_na HST.out (by omega)))
        have HO4 := hid (HO.out.kept hg (own_na HO.out (by omega)))
        have HR4 := hid hR
        have hsz4 := hg.size
        clear hp hR hg
        by_cases hy : y = 0
        · have d1 : (y == 0) = true := by simpa using hy
          clear hy
          have ZL := hid (lit_row w4 w4.heap.size rfl #[.int .i64 (-1), .int .i64 30] [-1, 30] 2 rfl rfl (by simp [maxLen]))
          have HR5 := hid (HR4.out.alloc (.cells #[.int .i64 (-1), .int .i64 30] 3))
          have HB5 := hid (HB4.out.alloc HB4.out.size (.cells #[.int .i64 (-1), .int .i64 30] 3))
          have HST5 := hid (HST4.out.alloc (.cells #[.int .i64 (-1), .int .i64 30] 3))
          have HO5 := hid (HO4.out.alloc (.cells #[.int .i64 (-1), .int .i64 30] 3))
          go_wp2_with fail
          refine (one_c w.heap.size w.heap.size _ [-1, 30] _ _ HR5.out ZL.out (by simp [Value.ownBlock]; omega) (by simp) (by simp) (by have := HE.out; omega)).mono ?_
          rintro e w6 ⟨z, rfl, hp, hR, hg⟩
          have HB6 := hid (below_gr HB5.out hg HB5.out.size (Nat.le_refl _))
          have HST6 := hid (HST5.out.kept hg (own_na HST5.out (by omega)))
          have HO6 := hid (HO5.out.kept hg (own_na HO5.out (by omega)))
          clear hp hR hg
          have hcl := HST6.out.own_int rfl 0 hG0
          have hfr := HST6.out.frozen rfl 0
          obtain ⟨ho7, hg7⟩ := HST6.out.store1 rfl 0 z (.int .i64 z) rfl rfl
          have HST7 := hid ho7.rowB
          have HO7 := hid ((HO6.out.kept hg7 (.inr (fun e => by
            obtain ⟨ga, e1, h1, h2⟩ := HAA.out (by have := HE.out; omega)
            rw [e1] at e
            have e2 : ga = g := by simpa [Value.ownBlock] using e
            omega))).rowB)
          have HB7 := hid (HB6.out.setCell (p := ⟨g, 0, none⟩) (by show w.heap.size ≤ g; omega) (.int .i64 z))
          clear ho7 hg7
          go_wp2
          go_ret2
          exact ⟨_, _, a, G.set 0 z, rfl, HO7.out, HST7.out, hla, by have := HE.out; simp; omega, HB7.out⟩
        · have d1 : (y == 0) = false := by simpa using hy
          clear hy
          have HST7 := hid HST4.out.rowB
          have HO7 := hid HO4.out.rowB
          go_wp2
          go_ret2
          exact ⟨_, _, a, G, rfl, HO7.out, HST7.out, hla, by have := HE.out; omega, HB4.out⟩
      · have HST7 := hid HST.out.rowB
        have HO7 := hid HO.out.rowB
        go_wp2
        go_ret2
        exact ⟨_, _, a, G, rfl, HO7.out, HST7.out, hla, by have := HE.out; omega, HBr.out⟩

end Go.Proofs.Ytmenkjloabficaa
