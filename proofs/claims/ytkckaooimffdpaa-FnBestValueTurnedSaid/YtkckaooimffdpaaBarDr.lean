/-
  Contracts: lengths, bars drawn by the generators of the reference; first fit, numbers up to one.
-/
import Derived.Test.YtkckaooimffdpaaBarT
import Derived.Test.YtkckaooimffdpaaRead
namespace Go.Proofs.Ytkckaooimffdpaa
set_option linter.unusedSimpArgs false
set_option linter.unusedVariables false
open Go.RowKit

theorem bpk_bd {n x : Int} (h : Pk n x) (b : Int) (hb : n ≤ b + 1) (h0 : 0 ≤ b) : 0 ≤ x ∧ x ≤ b := by
  obtain ⟨h1, h2⟩ := h; omega
theorem bown_na {α : Type} {E : Enc α} {e : TypeId} {base a : Nat} {w : World} {v : Value} {L : List α} (h : Own E e base w v L) (ha : a < base) : v.ownBlock = none ∨ v.ownBlock ≠ some a := by
  cases hv : v.ownBlock with
  | none => exact .inl rfl
  | some k => exact .inr (fun e => by injection e with e; have := (h.lt k hv).1; omega)

/-- What a call answers that draws lengths for a bar. -/
def BlOut (B a : Nat) (m : Int) (w : World) (e : Ending) (w' : World) : Prop := ∃ (v : Value) (L : List Int) (bar : Int), e = .returned (.tuple #[v, .int .i64 bar]) ∧ L.length ≤ 14 ∧ (∀ x ∈ L, 0 ≤ x ∧ x ≤ 30) ∧ (7 ≤ bar ∧ bar ≤ 20) ∧ Own intE 3 w.heap.size w' v L ∧ Rd B w' a m ∧ w.grownBy w' (some a)

set_option maxHeartbeats 6400000 in
set_option maxRecDepth 100000 in
theorem sbarLengths_c (B a : Nat) (m : Int) (w : World) (h : Rd B w a m) (hm : m ≤ 500000) : Calls Try.prog 21 #[.pointer (some ⟨a, 0, none⟩)] w (BlOut B a (m + 40) w) := by
  obtain ⟨i0, hi0, hz0, hz1, hz2⟩ := info_parts int_info
  have HR0 := hid h
  have HG0 := hid (World.grownBy.refl w (some a))
  have hla := h.lt
  have hlo := h.lo
  clear h
  go_enter Try.func21, Try.ntmps21
  have ZL := hid (lit_row w w.heap.size rfl #[.int .i64 10, .int .i64 12, .int .i64 20, .int .i64 7] [10, 12, 20, 7] 4 rfl rfl (by simp [maxLen]))
  have HR1 := hid (HR0.out.alloc (.cells #[.int .i64 10, .int .i64 12, .int .i64 20, .int .i64 7] 3))
  have HG1 := hid (gr_alloc HG0.out (.cells #[.int .i64 10, .int .i64 12, .int .i64 20, .int .i64 7] 3))
  go_wp2_with fail
  refine (one_c B a _ [10, 12, 20, 7] _ _ HR1.out ZL.out (by simp [Value.ownBlock]; omega) (by simp) (by simp) (by omega)).mono ?_
  rintro e w1 ⟨bar, rfl, hp, hR, hg⟩
  have hbar : 7 ≤ bar ∧ bar ≤ 20 := by simp at hp; omega
  have HR2 := hid hR
  have HG2 := hid (grown_trans HG1.out hg)
  have hs1 : w.heap.size < w1.heap.size := by have := hg.size; simp at this; omega
  clear hp hR hg ZL
  have HS0 := hid (Own.lit0 intE w1 w.heap.size 3 HG2.out.size)
  have HR3 := hid (HR2.out.alloc (.cells #[] 3))
  have HG3 := hid (gr_alloc HG2.out (.cells #[] 3))
  have ZL := hid (lit_row (w1.alloc (.cells #[] 3)) (w1.heap.size + 1) (by simp) #[.int .i64 5, .int .i64 7, .int .i64 4, .int .i64 3, .int .i64 9, .int .i64 0, .int .i64 14] [5, 7, 4, 3, 9, 0, 14] 7 rfl rfl (by simp [maxLen]))
  have HS0b := hid (HS0.out.alloc (.cells #[.int .i64 5, .int .i64 7, .int .i64 4, .int .i64 3, .int .i64 9, .int .i64 0, .int .i64 14] 3))
  have HR4 := hid (HR3.out.alloc (.cells #[.int .i64 5, .int .i64 7, .int .i64 4, .int .i64 3, .int .i64 9, .int .i64 0, .int .i64 14] 3))
  have HG4 := hid (gr_alloc HG3.out (.cells #[.int .i64 5, .int .i64 7, .int .i64 4, .int .i64 3, .int .i64 9, .int .i64 0, .int .i64 14] 3))
  go_wp2_with fail
  refine (one_c B a _ [5, 7, 4, 3, 9, 0, 14] _ _ HR4.out ZL.out (by simp [Value.ownBlock]; omega) (by simp) (by simp) (by omega)).mono ?_
  rintro e w2 ⟨x1, rfl, hp, hR, hg⟩
  have hx1 : 0 ≤ x1 ∧ x1 ≤ 14 := by simp at hp; omega
  have HR5 := hid hR
  have HG5 := hid (grown_trans HG4.out hg)
  have HS1 := hid (HS0b.out.kept hg (bown_na HS0b.out hla))
  clear hp hR hg ZL
  go_wp2
  go_loopw [5, 6] (fun o i wr => ∃ k : Int, ∃ L : List Int, i = .int .i64 k ∧ 0 ≤ k ∧ k ≤ 14 ∧ (L.length : Int) ≤ 14 - k ∧ (∀ x ∈ L, 0 ≤ x ∧ x ≤ 30) ∧ Own intE 3 w.heap.size wr o L ∧ Rd B wr a (m + 1 + 1 + (14 - k)) ∧ w.grownBy wr (some a)) (fun _ i _ => (intOf i).toNat)
  case atStart => exact ⟨x1, [], rfl, by omega, by omega, by simp; omega, by simp, HS1.out, HR5.out.up (by omega), HG5.out⟩
  case round =>
    obtain ⟨k, L, rfl, hk0, hk1, hL, hT, hst, hR, hG⟩ := hrel
    have HST := hid hst
    have HRr := hid hR
    have HGr := hid hG
    have HT := hid hT
    clear hst hR hG hT
    by_cases hk : 0 < k
    · go_wp2_with fail
      refine (pick_c B a bar _ _ HRr.out (by omega) (by omega) (by omega)).mono ?_
      rintro e w3 ⟨y, rfl, hp, hR, hg⟩
      have hy := bpk_bd hp 20 (by omega) (by omega)
      have HST2 := hid (HST.out.kept hg (bown_na HST.out hla))
      have HR6 := hid hR
      have HG6 := hid (grown_trans HGr.out hg)
      clear hp hR hg
      obtain ⟨L2, hL2⟩ : ∃ M : List Int, M = L ++ [1 + y] := ⟨_, rfl⟩
      have HL2 := hid hL2
      have hlen : (L2.length : Int) ≤ 14 - (k - 1) := by rw [hL2]; simp; omega
      have HT2 : Hid (∀ x ∈ L2, 0 ≤ x ∧ x ≤ 30) := fun x hx => by
        rw [hL2] at hx
        rcases List.mem_append.1 hx with hx | hx
        · exact HT.out x hx
        · simp only [List.mem_singleton] at hx; omega
      have HLn : Hid (L.length ≤ 4194304) := by rw [Hid]; omega
      clear hL2
      go_wp2_with (at_builtin; refine wpList_pushN intE _ rfl (.tmp 18) (.tmp 23) _ rfl w.heap.size 3 i0 _ 8 Try.underlying23 hi0 hz0 hz1 hz2 rfl (by omega) _ _ rfl HST2.out _ (1 + y) _ rfl rfl (by simp) HLn.out HG6.out.size L2 HL2.out ?_)
      intro v4 w4 ho4 hg4 hat4
      have HO4 := hid ho4
      have HR7 := hid (HR6.out.grown hg4 (fun z hz => by have := (HST2.out.lt z hz).1; omega))
      have HG7 := hid (gr_step HG6.out hg4 (fun z hz => .inr (HST2.out.lt z hz).1))
      clear ho4 hg4 hat4
      go_wp2
      exact ⟨⟨k - 1, L2, by go_num, by omega, by omega, hlen, HT2.out, HO4.out, HR7.out.up (by omega), HG7.out⟩, by simp [intOf]; omega⟩
    · obtain ⟨A1, c1, rfl, hc1, hm1, hA⟩ := HST.out.shape
      unfold maxLen at hm1
      have HA := hid hA
      clear hA
      by_cases hl0 : 0 < L.length
      · have d0 : decide (0 < L.length) = true := decide_eq_true hl0
        go_wp2_with fail
        refine (pick_c B a 16 _ _ HRr.out (by omega) (by omega) (by omega)).mono ?_
        rintro e w3 ⟨y, rfl, hp, hR, hg⟩
        have HST2 := hid (HST.out.kept hg (bown_na HST.out hla))
        have HR6 := hid hR
        have HG6 := hid (grown_trans HGr.out hg)
        have hsz3 := HG6.out.size
        clear hp hR hg
        by_cases hy : y = 0
        · have e1 : (y == 0) = true := by simpa using hy
          clear hy
          have ZL := hid (lit_row w3 w3.heap.size rfl #[.int .i64 0, .int .i64 (bar + 1)] [0, bar + 1] 2 rfl rfl (by simp [maxLen]))
          have HR7 := hid (HR6.out.alloc (.cells #[.int .i64 0, .int .i64 (bar + 1)] 3))
          have HG7 := hid (gr_alloc HG6.out (.cells #[.int .i64 0, .int .i64 (bar + 1)] 3))
          have HST3 := hid (HST2.out.alloc (.cells #[.int .i64 0, .int .i64 (bar + 1)] 3))
          go_wp2_with fail
          refine (one_c B a _ [0, bar + 1] _ _ HR7.out ZL.out (by simp [Value.ownBlock]; omega) (by simp) (by simp) (by omega)).mono ?_
          rintro e w4 ⟨z, rfl, hp, hR, hg⟩
          have hz : 0 ≤ z ∧ z ≤ 30 := by simp at hp; omega
          have HST4 := hid (HST3.out.kept hg (bown_na HST3.out hla))
          have HR8 := hid hR
          have HG8 := hid (grown_trans HG7.out hg)
          clear hp hR hg ZL
          obtain ⟨g, rfl, hg1, hg2⟩ := HA.out hl0
          have hcl := HST4.out.own_int rfl 0 hl0
          have hfr := HST4.out.frozen rfl 0
          have hg3 : g < w4.heap.size := (HST4.out.lt g rfl).2
          obtain ⟨ho5, hg5⟩ := HST4.out.store1 rfl 0 z (.int .i64 z) rfl rfl
          have HO5 := hid ho5
          have HR9 := hid (HR8.out.grown hg5 (fun q hq => by injection hq with hq; omega))
          have HG9 := hid (gr_step HG8.out hg5 (fun q hq => .inr (by injection hq with hq; omega)))
          have HT5 : Hid (∀ x ∈ L.set 0 z, 0 ≤ x ∧ x ≤ 30) := fun x hx => by
            rcases List.mem_or_eq_of_mem_set hx with h1 | rfl
            · exact HT.out x h1
            · exact hz
          clear ho5 hg5
          go_wp2
          go_ret2
          exact ⟨_, L.set 0 z, bar, rfl, by simp; omega, HT5.out, hbar, by have := HO5.out; simpa using this, HR9.out.up (by omega), HG9.out⟩
        · have e1 : (y == 0) = false := by simpa using hy
          clear hy
          go_wp2
          go_ret2
          exact ⟨_, L, bar, rfl, by omega, HT.out, hbar, HST2.out, HR6.out.up (by omega), HG6.out⟩
      · have d0 : decide (0 < L.length) = false := decide_eq_false hl0
        go_wp2
        go_ret2
        exact ⟨_, L, bar, rfl, by omega, HT.out, hbar, HST.out, HRr.out.up (by omega), HGr.out⟩

end Go.Proofs.Ytkckaooimffdpaa
