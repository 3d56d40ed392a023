/-
  Contracts: boxes drawn by the generators of the reference.
-/
import Derived.Test.YtafcohmneeabbaaDrBox
namespace Go.Proofs.Ytafcohmneeabbaa
set_option linter.unusedSimpArgs false
set_option linter.unusedVariables false
open Go.RowKit

def BxTwo (w : World) (e : Ending) (w' : World) : Prop := ∃ a b : Bx, e = .returned (.tuple #[.agg #[.int .i64 a.x, .int .i64 a.y, .int .i64 a.w, .int .i64 a.h], .agg #[.int .i64 b.x, .int .i64 b.y, .int .i64 b.w, .int .i64 b.h]]) ∧ tB a ∧ tB b ∧ Below w.heap.size w w'

/-- What a call answers that draws boxes. -/
def BxDraw (B a : Nat) (m : Int) (w : World) (e : Ending) (w' : World) : Prop := ∃ (v : Value) (L : List Bx), e = .returned v ∧ L.length ≤ 9 ∧ (∀ b ∈ L, tB b) ∧ Own boxE 53 w.heap.size w' v L ∧ v.ownBlock ≠ none ∧ Rd B w' a m ∧ w.grownBy w' (some a)
theorem smB_tB {b : Bx} (h : smB b) : tB b := by unfold smB at h; unfold tB; omega

set_option maxHeartbeats 6400000 in
set_option maxRecDepth 100000 in
theorem anyBoxes_c (B a : Nat) (m : Int) (w : World) (h : Rd B w a m) (hm : m ≤ 500000) : Calls Try.prog 38 #[.pointer (some ⟨a, 0, none⟩)] w (BxDraw B a (m + 60) w) := by
  obtain ⟨i0, hi0, hz0, hz1, hz2⟩ := info_parts box_info
  have HR0 := hid h
  have HG0 := hid (World.grownBy.refl w (some a))
  have hla := h.lt
  have hlo := h.lo
  clear h
  go_enter Try.func38, Try.ntmps38
  have HS0 := hid (Own.lit0 boxE w w.heap.size 53 (Nat.le_refl w.heap.size))
  have HR1 := hid (HR0.out.alloc (.cells #[] 53))
  have HG1 := hid (gr_alloc HG0.out (.cells #[] 53))
  have ZL := hid (lit_row (w.alloc (.cells #[] 53)) (w.heap.size + 1) (by simp) #[.int .i64 3, .int .i64 2, .int .i64 5, .int .i64 1, .int .i64 0, .int .i64 8] [3, 2, 5, 1, 0, 8] 6 rfl rfl (by simp [maxLen]))
  have HS0b := hid (HS0.out.alloc (.cells #[.int .i64 3, .int .i64 2, .int .i64 5, .int .i64 1, .int .i64 0, .int .i64 8] 3))
  have HR2 := hid (HR1.out.alloc (.cells #[.int .i64 3, .int .i64 2, .int .i64 5, .int .i64 1, .int .i64 0, .int .i64 8] 3))
  have HG2 := hid (gr_alloc HG1.out (.cells #[.int .i64 3, .int .i64 2, .int .i64 5, .int .i64 1, .int .i64 0, .int .i64 8] 3))
  go_wp2_with fail
  refine (one_c B a _ [3, 2, 5, 1, 0, 8] _ _ HR2.out ZL.out (by simp [Value.ownBlock]; omega) (by simp) (by simp) (by omega)).mono ?_
  rintro e w1 ⟨x1, rfl, hp, hR, hg⟩
  have hx1 : 0 ≤ x1 ∧ x1 ≤ 8 := by simp at hp; omega
  have HR3 := hid hR
  have HG3 := hid (grown_trans HG2.out hg)
  have HS1 := hid (HS0b.out.kept hg (own_na HS0b.out (by omega)))
  clear hp hR hg
  go_wp2
  go_loopw [3, 4] (fun o i wr => ∃ k : Int, ∃ L : List Bx, i = .int .i64 k ∧ 0 ≤ k ∧ k ≤ 8 ∧ (L.length : Int) ≤ 8 - k ∧ (∀ b ∈ L, tB b) ∧ Own boxE 53 w.heap.size wr o L ∧ o.ownBlock ≠ none ∧ Rd B wr a (m + 1 + 4 * (8 - k)) ∧ w.grownBy wr (some a)) (fun _ i _ => (intOf i).toNat)
  case atStart => exact ⟨x1, [], rfl, by omega, by omega, by simp; omega, by simp, HS1.out, by simp [Value.ownBlock], HR3.out.up (by omega), HG3.out⟩
  case round =>
    obtain ⟨k, L, rfl, hk0, hk1, hL, hT, hst, hn, hR, hG⟩ := hrel
    have HST := hid hst
    have HRr := hid hR
    have HGr := hid hG
    have HT := hid hT
    have HN := hid hn
    clear hst hR hG hT hn
    by_cases hk : 0 < k
    · go_wp2_with fail
      refine (someBox_c B a 12 12 _ _ HRr.out (by omega) (by omega) (by omega) (by omega) (by omega)).mono ?_
      rintro e w2 ⟨b, rfl, hb, hR, hg⟩
      have HST2 := hid (HST.out.kept hg (own_na HST.out hla))
      have HR2 := hid hR
      have HG2 := hid (grown_trans HGr.out hg)
      have HSB := hid (smB_tB hb)
      clear hb hR hg
      obtain ⟨L2, hL2⟩ : ∃ M : List Bx, M = L ++ [b] := ⟨_, rfl⟩
      have HL2 := hid hL2
      have hlen : (L2.length : Int) ≤ 8 - (k - 1) := by rw [hL2]; simp; omega
      have HT2 : Hid (∀ c ∈ L2, tB c) := fun c hc => by
        rw [hL2] at hc
        rcases List.mem_append.1 hc with hc | hc
        · exact HT.out c hc
        · simp at hc; subst hc; exact HSB.out
      have HLn : Hid (L.length ≤ 4194304) := by rw [Hid]; omega
      clear hL2
      go_wp2_with (at_builtin; refine wpList_pushN boxE _ rfl (.tmp 13) (.tmp 16) _ rfl w.heap.size 53 i0 _ 32 Try.underlying23 hi0 hz0 hz1 hz2 rfl (by omega) _ _ rfl HST2.out _ b _ rfl rfl (by simp) HLn.out HG2.out.size L2 HL2.out ?_)
      intro v6 w6 ho6 hg6 hat6
      have hrow := fun k hk => (HST2.out.lt k hk).1
      have HR6 := hid (HR2.out.grown hg6 (fun k hk => by have := hrow k hk; omega))
      have HG6 := hid (gr_step HG2.out hg6 (fun k hk => .inr (hrow k hk)))
      have hn6 : v6.ownBlock ≠ none := by
        rcases hat6 with e | e
        · rw [e]; exact HN.out
        · rw [e]; simp
      clear hat6 hg6 hrow
      go_wp2
      exact ⟨⟨k - 1, L2, by go_num, by omega, by omega, hlen, HT2.out, ho6, hn6, HR6.out.up (by omega), HG6.out⟩, by simp [intOf]; omega⟩
    · go_wp2_with fail
      refine (pick_c B a 12 _ _ HRr.out (by omega) (by omega) (by omega)).mono ?_
      rintro e w2 ⟨x, rfl, hp, hR, hg⟩
      have HST2 := hid (HST.out.kept hg (own_na HST.out hla))
      have HR2 := hid hR
      have HG2 := hid (grown_trans HGr.out hg)
      clear hp hR hg
      by_cases hx : x = 0
      · have d1 : (x == 0) = true := by simpa using hx
        clear hx
        go_wp2_with fail
        refine (anyBox_c B a _ _ HR2.out (by omega)).mono ?_
        rintro e w3 ⟨b, rfl, hb, hR, hg⟩
        have HST3 := hid (HST2.out.kept hg (own_na HST2.out hla))
        have HR3 := hid hR
        have HG3 := hid (grown_trans HG2.out hg)
        have HSB := hid hb
        clear hb hR hg
        obtain ⟨L2, hL2⟩ : ∃ M : List Bx, M = L ++ [b] := ⟨_, rfl⟩
        have HL2 := hid hL2
        have hlen : L2.length ≤ 9 := by rw [hL2]; simp; omega
        have HT2 : Hid (∀ c ∈ L2, tB c) := fun c hc => by
          rw [hL2] at hc
          rcases List.mem_append.1 hc with hc | hc
          · exact HT.out c hc
          · simp at hc; subst hc; exact HSB.out
        have HLn : Hid (L.length ≤ 4194304) := by rw [Hid]; omega
        clear hL2
        go_wp2_with (at_builtin; refine wpList_pushN boxE _ rfl (.tmp 21) (.tmp 24) _ rfl w.heap.size 53 i0 _ 32 Try.underlying23 hi0 hz0 hz1 hz2 rfl (by omega) _ _ rfl HST3.out _ b _ rfl rfl (by simp) HLn.out HG3.out.size L2 HL2.out ?_)
        intro v6 w6 ho6 hg6 hat6
        have hrow := fun k hk => (HST3.out.lt k hk).1
        have HR6 := hid (HR3.out.grown hg6 (fun k hk => by have := hrow k hk; omega))
        have HG6 := hid (gr_step HG3.out hg6 (fun k hk => .inr (hrow k hk)))
        have hn6 : v6.ownBlock ≠ none := by
          rcases hat6 with e | e
          · rw [e]; exact HN.out
          · rw [e]; simp
        clear hat6 hg6 hrow
        go_wp2
        go_ret
        exact ⟨_, L2, rfl, hlen, HT2.out, ho6, hn6, HR6.out.up (by omega), HG6.out⟩
      · have d1 : (x == 0) = false := by simpa using hx
        clear hx
        go_wp2
        go_ret
        exact ⟨_, L, rfl, by omega, HT.out, HST2.out, HN.out, HR2.out.up (by omega), HG2.out⟩

def BxsDr (w : World) (e : Ending) (w' : World) : Prop := ∃ (v : Value) (L : List Bx), e = .returned v ∧ Row boxE w' v L ∧ L.length ≤ 9 ∧ (∀ b ∈ L, tB b) ∧ Below w.heap.size w w'

end Go.Proofs.Ytafcohmneeabbaa
