/-
  Contracts: stocks drawn by the generators of the reference (written by a program of mine).
-/
import Derived.Test.YtpicbkakghojnaaStkO
import Derived.Test.YtpicbkakghojnaaDrDrB
namespace Go.Proofs.Ytpicbkakghojnaa
set_option linter.unusedSimpArgs false
set_option linter.unusedVariables false
open Go.RowKit

/-- What a call answers that draws a stock. -/
def StDraw (B a : Nat) (m : Int) (w : World) (e : Ending) (w' : World) : Prop := ∃ (v : Value) (L : List Pc), e = .returned v ∧ L.length ≤ 6 ∧ (∀ p ∈ L, tP 3 p) ∧ OSt w.heap.size w' v L ∧ Rd B w' a m ∧ w.grownBy w' (some a)

set_option maxHeartbeats 6400000 in
set_option maxRecDepth 100000 in
theorem someStock_c (B a : Nat) (m : Int) (w : World) (h : Rd B w a m) (hm : m ≤ 500000) : Calls Try.prog 88 #[.pointer (some ⟨a, 0, none⟩)] w (StDraw B a (m + 200) w) := by
  obtain ⟨i0, hi0, hz0, hz1, hz2⟩ := info_parts piece_info
  have HR0 := hid h
  have HG0 := hid (World.grownBy.refl w (some a))
  have hla := h.lt
  have hlo := h.lo
  clear h
  go_enter Try.func88, Try.ntmps88
  have HS0 := hid (OSt.lit0 w (Nat.le_refl w.heap.size))
  have HR1 := hid (HR0.out.alloc (.cells #[] 31))
  have HG1 := hid (gr_alloc HG0.out (.cells #[] 31))
  have ZL := hid (lit_row (w.alloc (.cells #[] 31)) (w.heap.size + 1) (by simp) #[.int .i64 2, .int .i64 3, .int .i64 1, .int .i64 4, .int .i64 0, .int .i64 6] [2, 3, 1, 4, 0, 6] 6 rfl rfl (by simp [maxLen]))
  have HS0b := hid (HS0.out.below ((Below.refl _ _).alloc (Nat.le_refl _) (.cells #[.int .i64 2, .int .i64 3, .int .i64 1, .int .i64 4, .int .i64 0, .int .i64 6] 3)))
  have HR2 := hid (HR1.out.alloc (.cells #[.int .i64 2, .int .i64 3, .int .i64 1, .int .i64 4, .int .i64 0, .int .i64 6] 3))
  have HG2 := hid (gr_alloc HG1.out (.cells #[.int .i64 2, .int .i64 3, .int .i64 1, .int .i64 4, .int .i64 0, .int .i64 6] 3))
  go_wp2_with fail
  refine (one_c B a _ [2, 3, 1, 4, 0, 6] _ _ HR2.out ZL.out (by simp [Value.ownBlock]; omega) (by simp) (by simp) (by omega)).mono ?_
  rintro e w1 ⟨x1, rfl, hp, hR, hg⟩
  have hx1 : 0 ≤ x1 ∧ x1 ≤ 6 := by simp at hp; omega
  have HR1 := hid hR
  have HG1 := hid (grown_trans HG2.out hg)
  have HS1 := hid (HS0b.out.gr hg hla)
  clear hp hR hg
  go_wp2
  go_loopw [3, 4, 5] (fun o l i wr => ∃ k : Int, ∃ la : Int, ∃ L : List Pc, i = .int .i64 k ∧ l = .int .i64 la ∧ 0 ≤ k ∧ k ≤ 6 ∧ 0 ≤ la ∧ la ≤ 3 * (6 - k) ∧ (L.length : Int) ≤ 6 - k ∧ (∀ p ∈ L, tP 3 p) ∧ OSt w.heap.size wr o L ∧ Rd B wr a (m + 1 + 21 * (6 - k)) ∧ w.grownBy wr (some a)) (fun _ _ i _ => (intOf i).toNat)
  case atStart => exact ⟨x1, 0, [], rfl, rfl, by omega, by omega, by omega, by omega, by simp; omega, by simp, HS1.out, HR1.out.up (by omega), HG1.out⟩
  case round =>
    obtain ⟨k, la, L, rfl, rfl, hk0, hk1, hl0, hl1, hL, hT, hst, hR, hG⟩ := hrel
    have HST := hid hst
    have HRr := hid hR
    have HGr := hid hG
    have HT := hid hT
    clear hst hR hG hT
    by_cases hk : 0 < k
    · go_wp2_with fail
      refine (pick_c B a 3 _ _ HRr.out (by omega) (by omega) (by omega)).mono ?_
      rintro e w2 ⟨y, rfl, hp, hR, hg⟩
      have hy := pk_bd hp 2 (by omega) (by omega)
      have HST2 := hid (HST.out.gr hg hla)
      have HR2 := hid hR
      have HG2 := hid (grown_trans HGr.out hg)
      clear hp hR hg
      go_wp2_with fail
      refine (somePiece_c B a (la + 1 + y) _ _ HR2.out (by omega) (by omega) (by omega)).mono ?_
      rintro e w3 ⟨q, s, rfl, hs, hq, ho, hR, hg⟩
      have hst3 := HST2.out.gr hg hla
      have HR3 := hid hR
      have HG3 := hid (grown_trans HG2.out hg)
      have HDJ := hid (dj_lt (fun j hj => Nat.lt_succ_of_lt (HST2.out.own_lt j hj).2) ho)
      have HO := hid (ho.base_le (base' := w.heap.size) (by have := HG2.out.size; omega))
      have HQS := hid hs
      have HQT := hid hq
      obtain ⟨S, hS, hown, hpo, hd⟩ := hst3
      have HSL := hid hS
      have HOW := hid hown
      have HPO := hid hpo
      have HD := hid hd
      obtain ⟨S2, hS2⟩ : ∃ M : List Ps, M = S ++ [s] := ⟨_, rfl⟩
      have HS2' := hid hS2
      have HSl : Hid (S.length ≤ 4194304) := by rw [Hid, HSL.out]; omega
      clear hs hq ho hR hg hS hown hpo hd hS2
      go_wp2_with (at_builtin; refine wpList_pushN psE _ rfl (.tmp 19) (.tmp 23) _ rfl w.heap.size 31 i0 _ 48 Try.underlying44 hi0 hz0 hz1 hz2 rfl (by omega) _ _ rfl HOW.out _ s _ rfl rfl rfl HSl.out HG3.out.size S2 HS2'.out ?_)
      intro v' w' ho' hg' hat'
      have hrow := fun k hk => (HOW.out.lt k hk).1
      rw [HS2'.out] at ho'
      have HN := hid (ost_push HSL.out HPO.out HD.out ho' hg' hat' (by omega) HQS.out HO.out HDJ.out)
      have HR4 := hid (HR3.out.grown hg' (fun k hk => by have := hrow k hk; omega))
      have HG4 := hid (gr_step HG3.out hg' (fun k hk => .inr (hrow k hk)))
      have HT2 : Hid (∀ p ∈ L ++ [q], tP 3 p) := fun p hp => by
        rcases List.mem_append.1 hp with hp | hp
        · exact HT.out p hp
        · simp at hp; subst hp; exact HQT.out
      clear ho' hg' hat' hrow
      go_wp2
      exact ⟨⟨k - 1, la + 1 + y, L ++ [q], rfl, rfl, by omega, by omega, by omega, by omega, by simp; omega, HT2.out, HN.out, HR4.out.up (by omega), HG4.out⟩, by simp [intOf]; omega⟩
    · go_wp2
      go_ret
      exact ⟨_, L, rfl, by omega, HT.out, HST.out, HRr.out.up (by omega), HGr.out⟩

end Go.Proofs.Ytpicbkakghojnaa
