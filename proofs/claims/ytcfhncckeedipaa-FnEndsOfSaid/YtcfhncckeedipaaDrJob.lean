/-
  Contracts: jobs drawn by the generators of the reference, and an order of them.
-/
import Derived.Test.YtcfhncckeedipaaDrTurnB
import Derived.Test.YtcfhncckeedipaaJob
namespace Go.Proofs.Ytcfhncckeedipaa
set_option linter.unusedSimpArgs false
set_option linter.unusedVariables false
open Go.RowKit

/-- What a call answers that draws jobs. -/
def JbDraw (B a : Nat) (m : Int) (w : World) (e : Ending) (w' : World) : Prop := ∃ (v : Value) (L : List Jb), e = .returned v ∧ L.length ≤ 7 ∧ Own jobE 30 w.heap.size w' v L ∧ v.ownBlock ≠ none ∧ Rd B w' a m ∧ w.grownBy w' (some a)

set_option maxHeartbeats 6400000 in
set_option maxRecDepth 100000 in
theorem someJobs_c (B a : Nat) (m : Int) (w : World) (h : Rd B w a m) (hm : m ≤ 500000) : Calls Try.prog 53 #[.pointer (some ⟨a, 0, none⟩)] w (JbDraw B a (m + 40) w) := by
  obtain ⟨i0, hi0, hz0, hz1, hz2⟩ := info_parts job_info
  have HI := hid (show (Try.prog.info? 3).map (·.size) = some 1 by kernel_rfl)
  have HR0 := hid h
  have HG0 := hid (World.grownBy.refl w (some a))
  have hla := h.lt
  have hlo := h.lo
  clear h
  go_enter Try.func53, Try.ntmps53
  have HS0 := hid (Own.lit0 jobE w w.heap.size 30 (Nat.le_refl w.heap.size))
  have HR1 := hid (HR0.out.alloc (.cells #[] 30))
  have HG1 := hid (gr_alloc HG0.out (.cells #[] 30))
  have ZL := hid (lit_row (w.alloc (.cells #[] 30)) (w.heap.size + 1) (by simp) #[.int .i64 4, .int .i64 3, .int .i64 5, .int .i64 2, .int .i64 7, .int .i64 0] [4, 3, 5, 2, 7, 0] 6 rfl rfl (by simp [maxLen]))
  have HS0b := hid (HS0.out.alloc (.cells #[.int .i64 4, .int .i64 3, .int .i64 5, .int .i64 2, .int .i64 7, .int .i64 0] 3))
  have HR2 := hid (HR1.out.alloc (.cells #[.int .i64 4, .int .i64 3, .int .i64 5, .int .i64 2, .int .i64 7, .int .i64 0] 3))
  have HG2 := hid (gr_alloc HG1.out (.cells #[.int .i64 4, .int .i64 3, .int .i64 5, .int .i64 2, .int .i64 7, .int .i64 0] 3))
  go_wp2_with fail
  refine (one_c B a _ [4, 3, 5, 2, 7, 0] _ _ HR2.out ZL.out (by simp [Value.ownBlock]; omega) (by simp) (by simp) (by omega)).mono ?_
  rintro e w1 ⟨x1, rfl, hp, hR, hg⟩
  have hx1 : 0 ≤ x1 ∧ x1 ≤ 7 := by simp at hp; omega
  have HR3 := hid hR
  have HG3 := hid (grown_trans HG2.out hg)
  have HS1 := hid (HS0b.out.kept hg (own_nb HS0b.out (by omega)))
  clear hp hR hg
  go_wp2
  go_loopw [3, 4] (fun o i wr => ∃ k : Int, ∃ L : List Jb, i = .int .i64 k ∧ 0 ≤ k ∧ k ≤ 7 ∧ (L.length : Int) ≤ 7 - k ∧ Own jobE 30 w.heap.size wr o L ∧ o.ownBlock ≠ none ∧ Rd B wr a (m + 1 + 4 * (7 - k)) ∧ w.grownBy wr (some a)) (fun _ i _ => (intOf i).toNat)
  case atStart => exact ⟨x1, [], rfl, by omega, by omega, by simp; omega, HS1.out, by simp [Value.ownBlock], HR3.out.up (by omega), HG3.out⟩
  case round =>
    obtain ⟨k, L, rfl, hk0, hk1, hL, hst, hn, hR, hG⟩ := hrel
    have HST := hid hst
    have HRr := hid hR
    have HGr := hid hG
    have HN := hid hn
    clear hst hR hG hn
    by_cases hk : 0 < k
    · go_wp2_with fail
      refine (pick_c B a 20 _ _ HRr.out (by omega) (by omega) (by omega)).mono ?_
      rintro e w2 ⟨y, rfl, hp, hR, hg⟩
      have hy := pk_be hp 19 (by omega) (by omega)
      have HST2 := hid ((HST.out.kept hg (own_nb HST.out hla)).alloc (.cells #[.int .i64 3, .int .i64 5, .int .i64 (1 + y), .int .i64 0] 3))
      have HR2 := hid (hR.alloc (.cells #[.int .i64 3, .int .i64 5, .int .i64 (1 + y), .int .i64 0] 3))
      have HG2 := hid (gr_alloc (grown_trans HGr.out hg) (.cells #[.int .i64 3, .int .i64 5, .int .i64 (1 + y), .int .i64 0] 3))
      have ZL := hid (lit_row w2 w2.heap.size rfl #[.int .i64 3, .int .i64 5, .int .i64 (1 + y), .int .i64 0] [3, 5, 1 + y, 0] 4 rfl rfl (by simp [maxLen]))
      have hs2 := (grown_trans HGr.out hg).size
      clear hp hR hg
      go_wp2_with fail
      refine (one_c B a _ [3, 5, 1 + y, 0] _ _ HR2.out ZL.out (by simp [Value.ownBlock]; omega) (by simp) (by simp) (by omega)).mono ?_
      rintro e w3 ⟨x, rfl, hp, hR, hg⟩
      have HST3 := hid (HST2.out.kept hg (own_nb HST2.out hla))
      have HR3 := hid hR
      have HG3 := hid (grown_trans HG2.out hg)
      clear hp hR hg
      go_wp2_with fail
      refine (pick_c B a 20 _ _ HR3.out (by omega) (by omega) (by omega)).mono ?_
      rintro e w4 ⟨y2, rfl, hp, hR, hg⟩
      have hy2 := pk_be hp 19 (by omega) (by omega)
      have HST4 := hid ((HST3.out.kept hg (own_nb HST3.out hla)).alloc (.cells #[.int .i64 4, .int .i64 5, .int .i64 (1 + y2), .int .i64 0] 3))
      have HR4 := hid (hR.alloc (.cells #[.int .i64 4, .int .i64 5, .int .i64 (1 + y2), .int .i64 0] 3))
      have HG4 := hid (gr_alloc (grown_trans HG3.out hg) (.cells #[.int .i64 4, .int .i64 5, .int .i64 (1 + y2), .int .i64 0] 3))
      have ZL2 := hid (lit_row w4 w4.heap.size rfl #[.int .i64 4, .int .i64 5, .int .i64 (1 + y2), .int .i64 0] [4, 5, 1 + y2, 0] 4 rfl rfl (by simp [maxLen]))
      have hs4 := (grown_trans HG3.out hg).size
      clear hp hR hg
      go_wp2_with fail
      refine (one_c B a _ [4, 5, 1 + y2, 0] _ _ HR4.out ZL2.out (by simp [Value.ownBlock]; omega) (by simp) (by simp) (by omega)).mono ?_
      rintro e w5 ⟨x2, rfl, hp, hR, hg⟩
      have HST5 := hid (HST4.out.kept hg (own_nb HST4.out hla))
      have HR5 := hid hR
      have HG5 := hid (grown_trans HG4.out hg)
      clear hp hR hg
      obtain ⟨L2, hL2⟩ : ∃ M : List Jb, M = L ++ [⟨x, x2⟩] := ⟨_, rfl⟩
      have HL2 := hid hL2
      have hlen : (L2.length : Int) ≤ 7 - (k - 1) := by rw [hL2]; simp; omega
      have HLn : Hid (L.length ≤ 4194304) := by rw [Hid]; omega
      clear hL2
      go_wp2_with (at_builtin; refine wpList_pushN jobE _ rfl (.tmp 13) (.tmp 27) _ rfl w.heap.size 30 i0 _ 16 Try.underlying23 hi0 hz0 hz1 hz2 rfl (by omega) _ _ rfl HST5.out _ (⟨x, x2⟩ : Jb) _ rfl rfl rfl HLn.out HG5.out.size L2 HL2.out ?_)
      intro v6 w6 ho6 hg6 hat6
      have hrow := fun k hk => (HST5.out.lt k hk).1
      have HR6 := hid (HR5.out.grown hg6 (fun k hk => by have := hrow k hk; omega))
      have HG6 := hid (gr_step HG5.out hg6 (fun k hk => .inr (hrow k hk)))
      have hn6 : v6.ownBlock ≠ none := by
        rcases hat6 with e | e
        · rw [e]; exact HN.out
        · rw [e]; simp
      clear hat6 hg6 hrow
      go_wp2
      exact ⟨⟨k - 1, L2, by go_num, by omega, by omega, hlen, ho6, hn6, HR6.out.up (by omega), HG6.out⟩, by simp [intOf]; omega⟩
    · obtain ⟨g, c, rfl, hg1, hg2, hc1, hc2⟩ := HST.out.some_form HN.out
      unfold maxLen at hc2
      by_cases h0 : 0 < L.length
      · have d0 : decide ((0 : Int) < (L.length : Int)) = true := by simp; omega
        go_wp2_with fail
        refine (pick_c B a 16 _ _ HRr.out (by omega) (by omega) (by omega)).mono ?_
        rintro e w2 ⟨x, rfl, hp, hR, hg⟩
        have HST2 := hid (HST.out.kept hg (own_nb HST.out hla))
        have HR2 := hid hR
        have HG2 := hid (grown_trans HGr.out hg)
        have hs2 := hg.size
        clear hp hR hg
        by_cases hx : x = 0
        · have d1 : (x == 0) = true := by simpa using hx
          clear hx
          have ZL := hid (lit_row w2 w2.heap.size rfl #[.int .i64 (-1), .int .i64 501] [-1, 501] 2 rfl rfl (by simp [maxLen]))
          have HST2a := hid (HST2.out.alloc (.cells #[.int .i64 (-1), .int .i64 501] 3))
          go_wp2_with fail
          refine (one_c B a _ [-1, 501] _ _ (HR2.out.alloc _) ZL.out (by simp [Value.ownBlock]; omega) (by simp) (by simp) (by omega)).mono ?_
          rintro e w4 ⟨z, rfl, hp, hR, hg⟩
          have HST4 := hid (HST2a.out.kept hg (own_nb HST2a.out hla))
          have HR4 := hid hR
          have HG4 := hid (grown_trans (gr_alloc HG2.out _) hg)
          have HW := hid hg1
          clear hp hR hg
          go_wp2_with (refine wpList_put1 jobE rfl 3 _ _ rfl 30 w.heap.size g L.length _ 0 1 _ L (⟨L[0].c, z⟩ : Jb) (.int .i64 z) HST4.out rfl h0 (by decide) rfl rfl rfl rfl rfl HI.out rfl _ rfl ?_)
          intro w5 ho5 hg5
          have HR5 := hid (HR4.out.grown hg5 (fun j hj => by simp at hj; omega))
          have HG5 := hid (gr_step HG4.out hg5 (fun j hj => .inr (by simp at hj; omega)))
          go_wp2
          go_ret
          exact ⟨_, _, rfl, by simp; omega, ho5, by simp [Value.ownBlock], HR5.out.up (by omega), HG5.out⟩
        · have d1 : (x == 0) = false := by simpa using hx
          clear hx
          go_wp2
          go_ret
          exact ⟨_, L, rfl, by omega, HST2.out, by simp [Value.ownBlock], HR2.out.up (by omega), HG2.out⟩
      · have d0 : decide ((0 : Int) < (L.length : Int)) = false := decide_eq_false (by omega)
        go_wp2
        go_ret
        exact ⟨_, L, rfl, by omega, HST.out, by simp [Value.ownBlock], HRr.out.up (by omega), HGr.out⟩

def JbTn (w : World) (e : Ending) (w' : World) : Prop := ∃ (v u : Value) (L : List Jb) (O : List Int), e = .returned (.tuple #[v, u]) ∧ Row jobE w' v L ∧ Row intE w' u O ∧ L.length ≤ 7 ∧ Below w.heap.size w w'

set_option maxHeartbeats 6400000 in
set_option maxRecDepth 100000 in
theorem DrawEndsOf_c (v : Value) (L : List Int) (w : World) (h : Row byteE w v L) (hb : ∀ x ∈ L, 0 ≤ x ∧ x ≤ 255) : Calls Try.prog 14 #[v] w (JbTn w) := by
  have HR0 := hid h
  have HB := hid hb
  clear h hb
  go_enter Try.func14, Try.ntmps14
  go_wp2_with fail
  refine (newReader_c w.heap.size v L _ HR0.out (Nat.le_refl _) HB.out).mono ?_
  rintro e w1 ⟨rfl, hR, hb, hlt⟩
  have HB1 := hid hb
  have HRd := hid hR
  clear hR hb
  go_wp2_with fail
  refine (someJobs_c w.heap.size w.heap.size 0 _ HRd.out (by omega)).mono ?_
  rintro e w2 ⟨u, M, rfl, hl, hst, hn, hR, hg⟩
  obtain ⟨g, c, rfl, hg1, hg2, hc1, hc2⟩ := hst.some_form hn
  have HST := hid hst
  have HR2 := hid hR
  have HB2 := hid (below_gr HB1.out hg HB1.out.size (Nat.le_refl _))
  have hs2 := hg.size
  clear hst hR hg hc2 hn
  go_wp2_with fail
  refine (turnOf_c w.heap.size w.heap.size _ M.length _ HR2.out (by omega) (by omega)).mono ?_
  rintro e w3 ⟨u2, O, rfl, hO, hT, hso, hn2, hR, hg⟩
  obtain ⟨g2, c2, rfl, hg3, hg4, hc3, hc4⟩ := hso.some_form hn2
  have HST3 := hid (HST.out.kept hg (own_nb HST.out hlt))
  have HO3 := hid hso
  have HR3 := hid hR
  have HB3 := hid (below_gr HB2.out hg HB2.out.size (Nat.le_refl _))
  have hs3 := hg.size
  have hOl : O.length ≤ 7 := by omega
  clear hso hR hg hc4 hO hn2
  by_cases h0 : 0 < O.length
  · have d0 : decide ((0 : Int) < (O.length : Int)) = true := by simp; omega
    go_wp2_with fail
    refine (pick_c w.heap.size w.heap.size 12 _ _ HR3.out (by omega) (by omega) (by omega)).mono ?_
    rintro e w4 ⟨x, rfl, ⟨hx0, -⟩, hR, hg⟩
    have HST4 := hid (HST3.out.kept hg (own_nb HST3.out hlt))
    have HO4 := hid (HO3.out.kept hg (own_nb HO3.out (by omega)))
    have HR4 := hid hR
    have HB4 := hid (below_gr HB3.out hg HB3.out.size (Nat.le_refl _))
    have hs4 := hg.size
    clear hR hg
    by_cases hx : x = 0
    · have d1 : (x == 0) = true := by simpa using hx
      clear hx
      obtain ⟨y, hy⟩ : ∃ y, y = O[O.length - 1] := ⟨_, rfl⟩
      have hcl : w4.cell? ⟨g2, O.length - 1, none⟩ = some (.int .i64 y) := by rw [hy]; exact HO4.out.own_int rfl (O.length - 1) (by omega)
      have hyr : 0 ≤ y ∧ y ≤ 24 := by rw [hy]; exact hT _ (List.getElem_mem _)
      have hw1 : IntKind.i64.wrap ((O.length : Int) - 1) = (O.length : Int) - 1 := IntWalk.i64_in _ (by omega)
      have hw2 : ((O.length : Int) - 1).toNat = O.length - 1 := by omega
      have hw3 : 0 ≤ (O.length : Int) - 1 := by omega
      have HY := hid hy
      have ZL := hid (lit_row w4 w4.heap.size rfl #[.int .i64 (-1), .int .i64 16, .int .i64 y] [-1, 16, y] 3 rfl rfl (by simp [maxLen]))
      clear hy hT
      go_wp2_with fail
      refine (one_c w.heap.size w.heap.size _ [-1, 16, y] _ _ (HR4.out.alloc _) ZL.out (by simp [Value.ownBlock]; omega) (by simp) (by simp) (by omega)).mono ?_
      rintro e w5 ⟨z, rfl, hp, hR, hg⟩
      have hs5 := hg.size
      simp only [World.size_alloc] at hs5
      have ho5 := (HO4.out.alloc (.cells #[.int .i64 (-1), .int .i64 16, .int .i64 y] 3)).kept hg (own_nb (HO4.out.alloc (.cells #[.int .i64 (-1), .int .i64 16, .int .i64 y] 3)) (by omega))
      have hst5 := (HST4.out.alloc (.cells #[.int .i64 (-1), .int .i64 16, .int .i64 y] 3)).kept hg (own_nb (HST4.out.alloc (.cells #[.int .i64 (-1), .int .i64 16, .int .i64 y] 3)) hlt)
      have HB5 := hid ((below_gr (HB4.out.alloc HB4.out.size _) hg (by simp; omega) (Nat.le_refl _)).setCell (p := ⟨g2, 0, none⟩) (by simp; omega) (.int .i64 z))
      have hc0 := ho5.own_int rfl 0 h0
      have hfr := ho5.frozen rfl 0
      obtain ⟨ho6, hg6⟩ := ho5.store1 rfl 0 z (.int .i64 z) rfl rfl
      have hst6 := hst5.kept hg6 (.inr (by simp [Value.ownBlock]; omega))
      have HST6 := hid hst6.rowB
      have HO6 := hid ho6.rowB
      clear hp hR hg ho5 hst5 ho6 hg6 hst6 hw1 hw2 hw3 hcl
      go_wp2
      go_ret2
      exact ⟨_, _, M, O.set 0 z, rfl, HST6.out, HO6.out, hl, HB5.out⟩
    · have d1 : (x == 0) = false := by simpa using hx
      clear hx
      go_wp2
      go_ret2
      exact ⟨_, _, M, O, rfl, HST4.out.rowB, HO4.out.rowB, hl, HB4.out⟩
  · have d0 : decide ((0 : Int) < (O.length : Int)) = false := decide_eq_false (by omega)
    go_wp2
    go_ret2
    exact ⟨_, _, M, O, rfl, HST3.out.rowB, HO3.out.rowB, hl, HB3.out⟩

end Go.Proofs.Ytcfhncckeedipaa
