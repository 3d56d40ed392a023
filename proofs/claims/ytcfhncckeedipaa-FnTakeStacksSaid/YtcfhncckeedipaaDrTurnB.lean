/-
  Contracts: orders drawn by the generators of the reference, any; orders of a number of jobs.
-/
import Derived.Test.YtcfhncckeedipaaDrTurn
namespace Go.Proofs.Ytcfhncckeedipaa
set_option linter.unusedSimpArgs false
set_option linter.unusedVariables false
open Go.RowKit

set_option maxHeartbeats 6400000 in
set_option maxRecDepth 100000 in
theorem anyTurn_c (B a : Nat) (m : Int) (w : World) (h : Rd B w a m) (hm : m ≤ 400000) : Calls Try.prog 61 #[.pointer (some ⟨a, 0, none⟩)] w (TnDraw B a (m + 30) w) := by
  have hla := h.lt
  have hlo := h.lo
  have HR0 := hid h
  clear h
  go_enter Try.func61, Try.ntmps61
  go_wp2_with fail
  refine (someTurn_c B a _ _ HR0.out (by omega)).mono ?_
  rintro e w1 ⟨v, L, rfl, hl, hT, hst, hn, hR, hg⟩
  obtain ⟨g, cap, rfl, hg1, hg2, hc1, hm1⟩ := hst.some_form hn
  have HST := hid hst
  have HT := hid hT
  have HR1 := hid hR
  have HG1 := hid hg
  have hs1 := hg.size
  clear hT hst hR hg hm1 hn
  by_cases h0 : 0 < L.length
  · have d0 : decide ((0 : Int) < (L.length : Int)) = true := by simp; omega
    go_wp2_with fail
    refine (pick_c B a 12 _ _ HR1.out (by omega) (by omega) (by omega)).mono ?_
    rintro e w2 ⟨x, rfl, hp, hR, hg⟩
    have HST2 := hid (HST.out.kept hg (own_nb HST.out hla))
    have HR2 := hid hR
    have HG2 := hid (grown_trans HG1.out hg)
    have hs2 := hg.size
    clear hp hR hg
    by_cases hx : x = 0
    · have d1 : (x == 0) = true := by simpa using hx
      clear hx
      go_wp2_with fail
      refine (pick_c B a L.length _ _ HR2.out (by omega) (by omega) (by omega)).mono ?_
      rintro e w3 ⟨y, rfl, ⟨hy0, hy1⟩, hR, hg⟩
      obtain ⟨k, rfl⟩ := Int.eq_ofNat_of_zero_le hy0
      have hk : k < L.length := by omega
      have HST3 := hid (HST2.out.kept hg (own_nb HST2.out hla))
      have HR3 := hid hR
      have HG3 := hid (grown_trans HG2.out hg)
      have hs3 := hg.size
      have ZL := hid (lit_row w3 w3.heap.size rfl #[.int .i64 0, .int .i64 (-1), .int .i64 24] [0, -1, 24] 3 rfl rfl (by simp [maxLen]))
      have HST3a := hid (HST3.out.alloc (.cells #[.int .i64 0, .int .i64 (-1), .int .i64 24] 3))
      clear hR hg hy1
      go_wp2_with fail
      refine (one_c B a _ [0, -1, 24] _ _ (HR3.out.alloc _) ZL.out (by simp [Value.ownBlock]; omega) (by simp) (by simp) (by omega)).mono ?_
      rintro e w4 ⟨z, rfl, hp, hR, hg⟩
      have hz : -1 ≤ z ∧ z ≤ 24 := by simp at hp; omega
      have hst4 := HST3a.out.kept hg (own_nb HST3a.out hla)
      have HR4 := hid hR
      have HG4 := hid (grown_trans (gr_alloc HG3.out _) hg)
      have hs4 := hg.size
      simp only [World.size_alloc] at hs4
      have hcl := hst4.own_int rfl k hk
      have hfr := hst4.frozen rfl k
      have hst5 := hst4.store1 rfl k z (.int .i64 z) rfl rfl
      have HST5 := hid hst5.1
      have HG5 := hid (gr_set HG4.out hg1 k (.int .i64 z))
      have HR5 := hid (HR4.out.set (q := g) (by omega) (by omega) k (.int .i64 z))
      have HT2 : Hid (∀ x ∈ L.set k z, -1 ≤ x ∧ x ≤ 24) := fun p hp => by
        rcases List.mem_or_eq_of_mem_set hp with hp | hp
        · exact HT.out p hp
        · subst hp; exact hz
      clear hp hR hg hst4 hst5
      go_wp2
      go_ret
      exact ⟨_, L.set k z, rfl, by simp; exact hl, HT2.out, HST5.out, by simp [Value.ownBlock], HR5.out.up (by omega), HG5.out⟩
    · have d1 : (x == 0) = false := by simpa using hx
      clear hx
      go_wp2
      go_ret
      exact ⟨_, L, rfl, hl, HT.out, HST2.out, by simp [Value.ownBlock], HR2.out.up (by omega), HG2.out⟩
  · have d0 : decide ((0 : Int) < (L.length : Int)) = false := decide_eq_false (by omega)
    go_wp2
    go_ret
    exact ⟨_, L, rfl, hl, HT.out, HST.out, by simp [Value.ownBlock], HR1.out.up (by omega), HG1.out⟩

/-- What a call answers that draws an order of n jobs. -/
def TnOf (B a : Nat) (m : Int) (n : Nat) (w : World) (e : Ending) (w' : World) : Prop := ∃ (v : Value) (L : List Int), e = .returned v ∧ L.length = n ∧ (∀ x ∈ L, 0 ≤ x ∧ x ≤ 24) ∧ Own intE 3 w.heap.size w' v L ∧ v.ownBlock ≠ none ∧ Rd B w' a m ∧ w.grownBy w' (some a)

set_option maxHeartbeats 6400000 in
set_option maxRecDepth 100000 in
theorem turnOf_c (B a : Nat) (m : Int) (n : Nat) (w : World) (h : Rd B w a m) (hm : m ≤ 500000) (hn : n ≤ 16) : Calls Try.prog 54 #[.pointer (some ⟨a, 0, none⟩), .int .i64 n] w (TnOf B a (m + n) n w) := by
  obtain ⟨i0, hi0, hz0, hz1, hz2⟩ := info_parts int_info
  have HR0 := hid h
  have HG0 := hid (World.grownBy.refl w (some a))
  have hla := h.lt
  have hlo := h.lo
  clear h
  go_enter Try.func54, Try.ntmps54
  have HS0 := hid (Own.lit0 intE w w.heap.size 3 (Nat.le_refl w.heap.size))
  have HR1 := hid (HR0.out.alloc (.cells #[] 3))
  have HG1 := hid (gr_alloc HG0.out (.cells #[] 3))
  go_wp2
  go_loopw [5, 6] (fun o i wr => ∃ k : Nat, ∃ L : List Int, i = .int .i64 k ∧ k ≤ n ∧ L.length = k ∧ (∀ x ∈ L, 0 ≤ x ∧ x ≤ 24) ∧ Own intE 3 w.heap.size wr o L ∧ o.ownBlock ≠ none ∧ Rd B wr a (m + k) ∧ w.grownBy wr (some a)) (fun _ i _ => n - (intOf i).toNat)
  case atStart => exact ⟨0, [], rfl, by omega, rfl, by simp, HS0.out, by simp [Value.ownBlock], HR1.out.up (by omega), HG1.out⟩
  case round =>
    obtain ⟨k, L, rfl, hk0, hL, hT, hst, hnn, hR, hG⟩ := hrel
    have HST := hid hst
    have HRr := hid hR
    have HGr := hid hG
    have HT := hid hT
    have HN := hid hnn
    have HL := hid hL
    have hLn : L.length ≤ 16 := by omega
    clear hst hR hG hT hnn
    obtain ⟨g, c, rfl, hg1, hg2, hc1, hc2⟩ := HST.out.some_form HN.out
    unfold maxLen at hc2
    clear hL
    by_cases hk : k < n
    · have hLk : L.length ≤ k := Nat.le_of_eq HL.out
      go_wp2_with fail
      refine (pick_c B a (L.length + 1) _ _ HRr.out (by omega) (by omega) (by omega)).mono ?_
      rintro e w2 ⟨y, rfl, hp, hR, hg⟩
      have hy := pk_be hp L.length (by omega) (by omega)
      have hs2 := hg.size
      have HST2 := hid (HST.out.kept hg (own_nb HST.out hla))
      have HR2 := hid hR
      have HG2 := hid (grown_trans HGr.out hg)
      clear hp hR hg
      obtain ⟨j, rfl⟩ := Int.eq_ofNat_of_zero_le hy.1
      have hj : j ≤ L.length := by omega
      clear hy
      rcases Nat.lt_or_eq_of_le (Nat.le_trans hj hc1) with hjc | rfl
      all_goals
        go_wp2_with fail
        refine (scopyInts_c w2.heap.size _ (L.drop j) _ (by first | (have := HST2.out.rowB.dropT j hj; simpa [intE] using this) | exact RowB.void _ _ _ (by first | omega | (simp; omega)) (by first | omega | (simp; omega)) (by simp [maxLen])) (Nat.le_refl _) (by simp; omega)).mono ?_
        rintro e w3 ⟨vr, rfl, hor, hnr, hb⟩
        have HST3 := hid (HST2.out.below hb)
        have HR3 := hid (HR2.out.below (hb.mono (by omega)))
        have HG3 := hid (gr_below HG2.out hb)
        have HOR := hid hor
        clear hor hnr hb
        have HTK := hid (HST3.out.take j hj)
        obtain ⟨L2, hL2⟩ : ∃ M : List Int, M = L.take j ++ [(k : Int)] := ⟨_, rfl⟩
        have HL2 := hid hL2
        clear hL2
        have HLn : Hid ((L.take j).length ≤ 4194304) := by rw [Hid]; simp; omega
        go_wp2_with (at_builtin; refine wpList_pushN intE _ rfl (.tmp 26) (.tmp 28) _ rfl w.heap.size 3 i0 _ 8 Try.underlying24 hi0 hz0 hz1 hz2 rfl (by omega) _ _ rfl HTK.out _ (k : Int) _ rfl rfl rfl HLn.out HG3.out.size L2 HL2.out ?_)
        intro v4 w4 ho4 hg4 hat4
        have HR4 := hid (HR3.out.grown hg4 (fun q hq => by simp [Value.ownBlock] at hq; omega))
        have HG4 := hid (gr_step HG3.out hg4 (fun q hq => by simp [Value.ownBlock] at hq; omega))
        have HOR4 := hid ((HOR.out.kept hg4 (by
          refine .inr (fun e => ?_)
          cases hv : vr.ownBlock with
          | none => rw [hv] at e; simp [Value.ownBlock] at e
          | some q => rw [hv] at e; simp [Value.ownBlock] at e; have := (HOR.out.lt q hv).1; omega)).rowB)
        have HO4 := hid ho4
        have hs4 := hg4.size
        have hn4 : v4.ownBlock ≠ none := by rcases hat4 with e | e <;> rw [e] <;> simp [Value.ownBlock]
        have HN4 := hid hn4
        have hv4 : ∀ q, v4.ownBlock = some q → q ≠ a := fun q hq => by have := (ho4.lt q hq).1; omega
        have HV4 := hid hv4
        clear ho4 hg4 hat4 hn4 hv4
        obtain ⟨L3, hL3⟩ : ∃ M : List Int, M = L2 ++ L.drop j := ⟨_, rfl⟩
        have HL3 := hid hL3
        have hlen3 : L3.length = L.length + 1 := by rw [hL3, HL2.out]; simp; omega
        have HLEN3 := hid hlen3
        have HB3 : Hid (∀ x ∈ L3, 0 ≤ x ∧ x ≤ 24) := by
          intro x hx
          rw [hL3, HL2.out, List.append_assoc] at hx
          rcases List.mem_append.1 hx with hx | hx
          · exact HT.out x (List.mem_of_mem_take hx)
          · rcases List.mem_append.1 hx with hx | hx
            · simp at hx; omega
            · exact HT.out x (List.mem_of_mem_drop hx)
        clear hL3 hlen3
        have HLm : Hid (L2.length + (L.drop j).length ≤ 4194304) := by rw [Hid, HL2.out]; simp; omega
        go_wp2_with (at_builtin; go_loud (refine wpList_cat intE _ rfl (.tmp 29) (.tmp 30) _ rfl w.heap.size 3 i0 _ 8 Try.underlying24 hi0 hz0 hz1 hz2 rfl (by omega) _ _ rfl HO4.out _ _ _ rfl HOR4.out HLm.out HG4.out.size L3 HL3.out ?_))
        intro v5 w5 ho5 hg5 hat5
        have HR5 := hid (HR4.out.grown hg5 (fun q hq => by have h1 := HV4.out q hq; have h2 := (HO4.out.lt q hq).1; omega))
        have HG5 := hid (gr_step HG4.out hg5 (fun q hq => .inr (HO4.out.lt q hq).1))
        have hn5 : v5.ownBlock ≠ none := by
          rcases hat5 with e | e
          · rw [e]; exact HN4.out
          · rw [e]; simp
        have hl3 : L3.length = k + 1 := by have := HLEN3.out; have := HL.out; omega
        go_wp2
        exact ⟨⟨k + 1, L3, by go_num, by omega, hl3, HB3.out, ho5, hn5, HR5.out.up (by omega), HG5.out⟩, by simp [intOf]; omega⟩
    · go_wp2
      go_ret
      have e : k = n := by omega
      exact ⟨_, L, rfl, HL.out.trans e, HT.out, HST.out, HN.out, HRr.out.up (by omega), HGr.out⟩

end Go.Proofs.Ytcfhncckeedipaa
