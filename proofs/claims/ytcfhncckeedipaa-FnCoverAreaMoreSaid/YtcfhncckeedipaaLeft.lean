/-
  Contracts: LeftOver (the program's and the reference's).
-/
import Derived.Test.YtcfhncckeedipaaMeet
import Derived.Deep.DeepCutAuto
namespace Go.Proofs.Ytcfhncckeedipaa
set_option linter.unusedSimpArgs false
set_option linter.unusedVariables false
open Go.RowKit

/-- The cells of a box in a block of its own. -/
def bxAt (w : World) (g : Nat) (b : Bx) : Prop := w.cell? ⟨g, 0, none⟩ = some (.int .i64 b.x) ∧ w.cell? ⟨g, 1, none⟩ = some (.int .i64 b.y) ∧ w.cell? ⟨g, 2, none⟩ = some (.int .i64 b.w) ∧ w.cell? ⟨g, 3, none⟩ = some (.int .i64 b.h)
/-- What stands between the tests of leftOver. -/
def loSt (a m : Bx) (g : Nat) (w wr : World) (v : Value) (L : List Bx) : Prop :=
  bxAt wr w.heap.size a ∧ bxAt wr g m ∧ w.heap.size < g ∧ Own boxE 44 (g + 1) wr v L ∧ Below w.heap.size w wr ∧ g < wr.heap.size

theorem loSt_push {a m : Bx} {g : Nat} {w wr w' : World} {v v' : Value} {L M : List Bx} (h : loSt a m g w wr v L) (ho : Own boxE 44 (g + 1) w' v' M) (hg : wr.grownBy w' v.ownBlock) : loSt a m g w w' v' M := by
  obtain ⟨⟨p1, p2, p3, p4⟩, ⟨q1, q2, q3, q4⟩, hlg, hown, hbel, hgs⟩ := h
  have hne : ∀ b, b ≤ g → some b ≠ v.ownBlock := fun b hb e => by have := (hown.lt b e.symm).1; omega
  refine ⟨⟨hg.cell p1 (hne _ (by simp; omega)), hg.cell p2 (hne _ (by simp; omega)), hg.cell p3 (hne _ (by simp; omega)), hg.cell p4 (hne _ (by simp; omega))⟩,
    ⟨hg.cell q1 (hne _ (by simp)), hg.cell q2 (hne _ (by simp)), hg.cell q3 (hne _ (by simp)), hg.cell q4 (hne _ (by simp))⟩, hlg, ho, hbel.grown hg hbel.size (fun k hk => by have := (hown.lt k hk).1; omega), Nat.lt_of_lt_of_le hgs hg.size⟩

set_option maxHeartbeats 4000000 in
set_option maxRecDepth 100000 in
theorem sleftOver_c (a b : Bx) (w : World) (ha : VB a) (hb : VB b) : Calls Try.prog 77 #[.agg #[.int .i64 a.x, .int .i64 a.y, .int .i64 a.w, .int .i64 a.h], .agg #[.int .i64 b.x, .int .i64 b.y, .int .i64 b.w, .int .i64 b.h]] w fun e w' =>
    ∃ v, e = .returned v ∧ Own boxE 44 w.heap.size w' v (leftL a b) ∧ Below w.heap.size w w' := by
  obtain ⟨i0, hi0, hz0, hz1, hz2⟩ := info_parts box_info
  by_cases hm : mtB a b = true
  · have hmv := meetRaw_valid ha hb (mtB_iff.1 hm)
    have hml : Hid (leftL a b = leftParts a (meetRaw a b)) := by rw [Hid, leftL, if_pos hm]
    go_enter Try.func77, Try.ntmps77
    go_wp2_with fail
    refine (smeetOf_t a b _ ha hb hm).mono ?_
    rintro e w1 ⟨rfl, hb1⟩
    obtain ⟨m, hmm⟩ : ∃ m, meetRaw a b = m := ⟨_, rfl⟩
    rw [hmm] at hmv hml ⊢
    obtain ⟨hc1, hf1, hs1⟩ := bcell hb1
    have HBW : Hid (Below w.heap.size w w1) := (((Below.refl _ _).alloc (Nat.le_refl _) _).alloc (by simp) _).trans (hb1.mono (by simp; omega))
    have hlt1 : w.heap.size < w1.heap.size := by have := hs1; simp at this; omega
    clear hb1 hmm hm
    unfold VB at ha hb hmv
    obtain ⟨a1, a2, a3, a4, a5, a6, a7, a8⟩ := ha
    obtain ⟨m1, m2, m3, m4, m5, m6, m7, m8⟩ := hmv
    clear hb
    go_upto_region 4 with (fail)
    go_cut [7] (fun v wr => ∃ v0, v = v0 ∧ loSt a m w1.heap.size w wr v0 [])
    case first =>
      go_wp2
      go_meet
      case rel =>
        refine ⟨_, rfl, ?_, ?_, by omega, (by have := Own.lit0 boxE (w1.alloc (.cells #[.int .i64 m.x, .int .i64 m.y, .int .i64 m.w, .int .i64 m.h] 44)) (w1.heap.size + 1) 44 (by simp); simpa using this), (HBW.out.alloc (by first | omega | (simp; done) | (simp; omega)) _).alloc (by first | omega | (simp; done) | (simp; omega)) _, (by first | omega | (simp; done) | (simp; omega))⟩
        · refine ⟨?_, ?_, ?_, ?_⟩ <;> (rw [World.cell?_alloc_past _ _ _ (by simp; omega), World.cell?_alloc_past _ _ _ hlt1, hc1 _ _ (by simp; omega), World.cell?_alloc_past _ _ _ (by simp), World.cell?_alloc_at _ _ _ _ rfl]; rfl)
        · refine ⟨?_, ?_, ?_, ?_⟩ <;> (rw [World.cell?_alloc_past _ _ _ (by simp), World.cell?_alloc_at _ _ _ _ rfl]; rfl)
    case rest =>
      obtain ⟨v0, rfl, hst⟩ := hcut
      clear hc1 hf1 hs1 hlt1
      have HST := hid hst
      obtain ⟨⟨p1, p2, p3, p4⟩, ⟨q1, q2, q3, q4⟩, hlg, hown, hbel, hgs⟩ := hst
      have HO := hid hown
      have HLN : Hid (([] : List Bx).length ≤ 4194304) := by
        have l1 := opt_len (a.x < m.x) ⟨a.x, a.y, m.x - a.x, a.h⟩
        have l2 := opt_len (m.x + m.w < a.x + a.w) ⟨m.x + m.w, a.y, a.x + a.w - m.x - m.w, a.h⟩
        have l3 := opt_len (a.y < m.y) ⟨m.x, a.y, m.w, m.y - a.y⟩
        simp only [Hid, lp1, lp2, lp3, List.length_append, List.length_nil]
        omega
      clear hown hbel
      go_upto_if 23 with (fail)
      go_cut [7] (fun v wr => ∃ v0, v = v0 ∧ loSt a m w1.heap.size w wr v0 (lp1 a m))
      case first =>
        by_cases hc : a.x < m.x
        · have HE : Hid (lp1 a m = [⟨a.x, a.y, m.x - a.x, a.h⟩]) := opt_t hc _
          obtain ⟨L2, hL2⟩ : ∃ M : List Bx, M = ([]) ++ [⟨a.x, a.y, m.x - a.x, a.h⟩] := ⟨_, rfl⟩
          have HL2 := hid hL2
          clear hL2
          go_wp2_with (at_builtin; refine wpList_pushL boxE _ rfl (.tmp 24) (.tmp 37) _ rfl (w1.heap.size + 1) 44 i0 _ 32 Try.underlying47 hi0 hz0 hz1 hz2 rfl (by omega) _ _ rfl HO.out _ ⟨a.x, a.y, m.x - a.x, a.h⟩ rfl rfl HLN.out hgs L2 HL2.out ?_)
          intro v' w' ho' hg' hat'
          have HST' := hid (loSt_push HST.out ho' hg')
          clear ho' hg' hat'
          go_wp2
          go_meet
          case rel => exact ⟨_, rfl, by rw [HE.out]; rw [← HL2.out.trans (List.nil_append _)]; exact HST'.out⟩
        · have HE : Hid (lp1 a m = []) := opt_f hc _
          go_wp2
          go_meet
          case rel => exact ⟨_, rfl, by rw [HE.out]; exact HST.out⟩
      case rest =>
        obtain ⟨v1, rfl, hst⟩ := hcut
        have HST := hid hst
        obtain ⟨⟨p1, p2, p3, p4⟩, ⟨q1, q2, q3, q4⟩, hlg, hown, hbel, hgs⟩ := hst
        have HO := hid hown
        have HLN : Hid ((lp1 a m : List Bx).length ≤ 4194304) := by
          have l1 := opt_len (a.x < m.x) ⟨a.x, a.y, m.x - a.x, a.h⟩
          have l2 := opt_len (m.x + m.w < a.x + a.w) ⟨m.x + m.w, a.y, a.x + a.w - m.x - m.w, a.h⟩
          have l3 := opt_len (a.y < m.y) ⟨m.x, a.y, m.w, m.y - a.y⟩
          simp only [Hid, lp1, lp2, lp3, List.length_append, List.length_nil]
          omega
        clear hown hbel
        go_upto_if 49 with (fail)
        go_cut [7] (fun v wr => ∃ v0, v = v0 ∧ loSt a m w1.heap.size w wr v0 (lp1 a m ++ lp2 a m))
        case first =>
          by_cases hc : m.x + m.w < a.x + a.w
          · have HE : Hid (lp2 a m = [⟨m.x + m.w, a.y, a.x + a.w - m.x - m.w, a.h⟩]) := opt_t hc _
            obtain ⟨L2, hL2⟩ : ∃ M : List Bx, M = (lp1 a m) ++ [⟨m.x + m.w, a.y, a.x + a.w - m.x - m.w, a.h⟩] := ⟨_, rfl⟩
            have HL2 := hid hL2
            clear hL2
            go_wp2_with (at_builtin; refine wpList_pushL boxE _ rfl (.tmp 50) (.tmp 72) _ rfl (w1.heap.size + 1) 44 i0 _ 32 Try.underlying47 hi0 hz0 hz1 hz2 rfl (by omega) _ _ rfl HO.out _ ⟨m.x + m.w, a.y, a.x + a.w - m.x - m.w, a.h⟩ rfl rfl HLN.out hgs L2 HL2.out ?_)
            intro v' w' ho' hg' hat'
            have HST' := hid (loSt_push HST.out ho' hg')
            clear ho' hg' hat'
            go_wp2
            go_meet
            case rel => exact ⟨_, rfl, by rw [HE.out]; exact HL2.out ▸ HST'.out⟩
          · have HE : Hid (lp2 a m = []) := opt_f hc _
            go_wp2
            go_meet
            case rel => exact ⟨_, rfl, by rw [HE.out, List.append_nil]; exact HST.out⟩
        case rest =>
          obtain ⟨v2, rfl, hst⟩ := hcut
          have HST := hid hst
          obtain ⟨⟨p1, p2, p3, p4⟩, ⟨q1, q2, q3, q4⟩, hlg, hown, hbel, hgs⟩ := hst
          have HO := hid hown
          have HLN : Hid ((lp1 a m ++ lp2 a m : List Bx).length ≤ 4194304) := by
            have l1 := opt_len (a.x < m.x) ⟨a.x, a.y, m.x - a.x, a.h⟩
            have l2 := opt_len (m.x + m.w < a.x + a.w) ⟨m.x + m.w, a.y, a.x + a.w - m.x - m.w, a.h⟩
            have l3 := opt_len (a.y < m.y) ⟨m.x, a.y, m.w, m.y - a.y⟩
            simp only [Hid, lp1, lp2, lp3, List.length_append, List.length_nil]
            omega
          clear hown hbel
          go_upto_if 78 with (fail)
          go_cut [7] (fun v wr => ∃ v0, v = v0 ∧ loSt a m w1.heap.size w wr v0 (lp1 a m ++ lp2 a m ++ lp3 a m))
          case first =>
            by_cases hc : a.y < m.y
            · have HE : Hid (lp3 a m = [⟨m.x, a.y, m.w, m.y - a.y⟩]) := opt_t hc _
              obtain ⟨L2, hL2⟩ : ∃ M : List Bx, M = (lp1 a m ++ lp2 a m) ++ [⟨m.x, a.y, m.w, m.y - a.y⟩] := ⟨_, rfl⟩
              have HL2 := hid hL2
              clear hL2
              go_wp2_with (at_builtin; refine wpList_pushL boxE _ rfl (.tmp 79) (.tmp 92) _ rfl (w1.heap.size + 1) 44 i0 _ 32 Try.underlying47 hi0 hz0 hz1 hz2 rfl (by omega) _ _ rfl HO.out _ ⟨m.x, a.y, m.w, m.y - a.y⟩ rfl rfl HLN.out hgs L2 HL2.out ?_)
              intro v' w' ho' hg' hat'
              have HST' := hid (loSt_push HST.out ho' hg')
              clear ho' hg' hat'
              go_wp2
              go_meet
              case rel => exact ⟨_, rfl, by rw [HE.out]; exact HL2.out ▸ HST'.out⟩
            · have HE : Hid (lp3 a m = []) := opt_f hc _
              go_wp2
              go_meet
              case rel => exact ⟨_, rfl, by rw [HE.out, List.append_nil]; exact HST.out⟩
          case rest =>
            obtain ⟨v3, rfl, hst⟩ := hcut
            have HST := hid hst
            obtain ⟨⟨p1, p2, p3, p4⟩, ⟨q1, q2, q3, q4⟩, hlg, hown, hbel, hgs⟩ := hst
            have HO := hid hown
            have HLN : Hid ((lp1 a m ++ lp2 a m ++ lp3 a m : List Bx).length ≤ 4194304) := by
              have l1 := opt_len (a.x < m.x) ⟨a.x, a.y, m.x - a.x, a.h⟩
              have l2 := opt_len (m.x + m.w < a.x + a.w) ⟨m.x + m.w, a.y, a.x + a.w - m.x - m.w, a.h⟩
              have l3 := opt_len (a.y < m.y) ⟨m.x, a.y, m.w, m.y - a.y⟩
              simp only [Hid, lp1, lp2, lp3, List.length_append, List.length_nil]
              omega
            clear hown hbel
            go_upto_if 104 with (fail)
            go_cut [7] (fun v wr => ∃ v0, v = v0 ∧ loSt a m w1.heap.size w wr v0 (lp1 a m ++ lp2 a m ++ lp3 a m ++ lp4 a m))
            case first =>
              by_cases hc : m.y + m.h < a.y + a.h
              · have HE : Hid (lp4 a m = [⟨m.x, m.y + m.h, m.w, a.y + a.h - m.y - m.h⟩]) := opt_t hc _
                obtain ⟨L2, hL2⟩ : ∃ M : List Bx, M = (lp1 a m ++ lp2 a m ++ lp3 a m) ++ [⟨m.x, m.y + m.h, m.w, a.y + a.h - m.y - m.h⟩] := ⟨_, rfl⟩
                have HL2 := hid hL2
                clear hL2
                go_wp2_with (at_builtin; refine wpList_pushL boxE _ rfl (.tmp 105) (.tmp 127) _ rfl (w1.heap.size + 1) 44 i0 _ 32 Try.underlying47 hi0 hz0 hz1 hz2 rfl (by omega) _ _ rfl HO.out _ ⟨m.x, m.y + m.h, m.w, a.y + a.h - m.y - m.h⟩ rfl rfl HLN.out hgs L2 HL2.out ?_)
                intro v' w' ho' hg' hat'
                have HST' := hid (loSt_push HST.out ho' hg')
                clear ho' hg' hat'
                go_wp2
                go_meet
                case rel => exact ⟨_, rfl, by rw [HE.out]; exact HL2.out ▸ HST'.out⟩
              · have HE : Hid (lp4 a m = []) := opt_f hc _
                go_wp2
                go_meet
                case rel => exact ⟨_, rfl, by rw [HE.out, List.append_nil]; exact HST.out⟩
            case rest =>
              obtain ⟨v4, rfl, hst⟩ := hcut
              obtain ⟨-, -, hlg, hown, hbel, hgs⟩ := hst
              have HO := hid hown
              have HBL := hid hbel
              clear hown hbel
              go_wp2
              go_ret
              refine ⟨_, rfl, ?_, HBL.out⟩
              rw [hml.out]
              exact HO.out.base_le (by omega)
  · have hm' : mtB a b = false := by simpa using hm
    have hml : Hid (leftL a b = [a]) := by rw [Hid, leftL, if_neg hm]
    go_enter Try.func77, Try.ntmps77
    go_wp2_with fail
    refine (smeetOf_f a b _ ha hb hm').mono ?_
    rintro e w1 ⟨rfl, hb1⟩
    obtain ⟨hc1, hf1, hs1⟩ := bcell hb1
    have hlt1 : w.heap.size < w1.heap.size := by have := hs1; simp at this; omega
    have HBW : Hid (Below w.heap.size w w1) := (((Below.refl _ _).alloc (Nat.le_refl _) _).alloc (by simp) _).trans (hb1.mono (by simp; omega))
    clear hb1 hm hm'
    go_wp2
    go_ret
    refine ⟨_, rfl, ?_, ((HBW.out.alloc (by first | omega | (simp; done) | (simp; omega)) _).alloc (by first | omega | (simp; done) | (simp; omega)) _)⟩
    rw [hml.out]
    have := Own.lit boxE (w1.alloc (.cells #[.int .i64 0, .int .i64 0, .int .i64 0, .int .i64 0] 44)) w.heap.size 44 #[.int .i64 a.x, .int .i64 a.y, .int .i64 a.w, .int .i64 a.h] [a] 1 rfl rfl (by simp; omega) (by simp [maxLen])
    simpa using this

end Go.Proofs.Ytcfhncckeedipaa
