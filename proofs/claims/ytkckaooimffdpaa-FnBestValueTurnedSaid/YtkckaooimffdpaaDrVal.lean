/-
  Contracts: works drawn by the generators of the reference.
-/
import Derived.Test.YtkckaooimffdpaaBestW
import Derived.Test.YtkckaooimffdpaaBarDr
import Derived.Test.YtkckaooimffdpaaCat
import Derived.Deep.RegionHeld3
import Derived.Deep.RegionLaw
namespace Go.Proofs.Ytkckaooimffdpaa
set_option linter.unusedSimpArgs false
set_option linter.unusedVariables false
open Go.RowKit

def bdP (p : Pn) : Prop := 0 ≤ p.w ∧ p.w ≤ 300 ∧ 0 ≤ p.h ∧ p.h ≤ 300
/-- Where the walk stands that draws a work: its reader, what has grown, the panes, the work, the result. -/
def SwSt (B a kb : Nat) (w0 : World) (W H : Int) (sv : Value) (L : List Pn) (m : Int) (wz : World) : Prop :=
  Rd B wz a m ∧ w0.grownBy wz (some a) ∧ Own paneE 40 (kb + 1) wz sv L ∧ Blk wz kb #[.int .i64 W, .int .i64 H, sv] 35 ∧ Blk wz w0.heap.size #[.int .i64 0, .int .i64 0, .slice none 0 0] 35 ∧ (a < w0.heap.size ∧ w0.heap.size < kb ∧ B ≤ a)
section
variable {B a kb : Nat} {w0 wz wq : World} {W H : Int} {sv : Value} {L : List Pn} {m m' : Int}
theorem SwSt.pick (h : SwSt B a kb w0 W H sv L m wz) (hR : Rd B wq a m') (hg : wz.grownBy wq (some a)) : SwSt B a kb w0 W H sv L m' wq :=
  ⟨hR, grown_trans h.2.1 hg, h.2.2.1.kept hg (bown_na h.2.2.1 (by have := h.2.2.2.2.2; omega)), h.2.2.2.1.grown hg (by intro e; injection e with e; have := h.2.2.2.2.2; omega), h.2.2.2.2.1.grown hg (by intro e; injection e with e; have := h.2.2.2.2.2; omega), h.2.2.2.2.2⟩
theorem SwSt.below (h : SwSt B a kb w0 W H sv L m wz) (hb : Below wz.heap.size wz wq) : SwSt B a kb w0 W H sv L m wq :=
  ⟨h.1.below hb, gr_below h.2.1 hb, h.2.2.1.below hb, h.2.2.2.1.go hb, h.2.2.2.2.1.go hb, h.2.2.2.2.2⟩
theorem SwSt.alloc (h : SwSt B a kb w0 W H sv L m wz) (o : Obj) : SwSt B a kb w0 W H sv L m (wz.alloc o) := h.below ((Below.refl _ _).alloc (Nat.le_refl _) o)
theorem SwSt.draw (h : SwSt B a kb w0 W H sv L m wz) : SwSt B a kb w0 W H sv L m wz.drew := h.below (Below.refl _ _).drew
theorem SwSt.up (h : SwSt B a kb w0 W H sv L m wz) (hm : m ≤ m') : SwSt B a kb w0 W H sv L m' wz := ⟨h.1.up hm, h.2⟩
theorem SwSt.s (h : SwSt B a kb w0 W H sv L m wz) : wz.cell? ⟨kb, 0, none⟩ = some (.int .i64 W) ∧ wz.cell? ⟨kb, 1, none⟩ = some (.int .i64 H) := ⟨h.2.2.2.1.cell 0, h.2.2.2.1.cell 1⟩
theorem SwSt.rd (h : SwSt B a kb w0 W H sv L m wz) : Rd B wz a m := h.1
theorem SwSt.ow (h : SwSt B a kb w0 W H sv L m wz) : Own paneE 40 (kb + 1) wz sv L := h.2.2.1
theorem SwSt.bs (h : SwSt B a kb w0 W H sv L m wz) : kb + 1 ≤ wz.heap.size := h.2.2.2.1.lt
theorem SwSt.c2 (h : SwSt B a kb w0 W H sv L m wz) : wz.cell? ⟨kb, 2, none⟩ = some sv := h.2.2.2.1.cell 2
theorem SwSt.ck (h : SwSt B a kb w0 W H sv L m wz) (o : Nat) : wz.cell? ⟨kb, o, none⟩ = (#[.int .i64 W, .int .i64 H, sv] : Array Value)[o]? := h.2.2.2.1.cell o
theorem SwSt.lt (h : SwSt B a kb w0 W H sv L m wz) : kb < wz.heap.size := h.2.2.2.1.lt
/-- One more pane: the list has grown, the work is told. -/
theorem SwSt.push {w5 : World} {v5 : Value} {L' : List Pn} (h : SwSt B a kb w0 W H sv L m wz) (ho : Own paneE 40 (kb + 1) w5 v5 L') (hg : wz.grownBy w5 sv.ownBlock) : SwSt B a kb w0 W H v5 L' m (w5.setCell ⟨kb, 2, none⟩ v5) := by
  obtain ⟨h1, h2, h3, h4, h5, h6, h7, h8⟩ := h
  have hne : ∀ k, sv.ownBlock = some k → kb + 1 ≤ k := fun k hk => (h3.lt k hk).1
  have r5 : Rd B w5 a m := h1.grown hg (fun k hk => by have := hne k hk; omega)
  have g5 := gr_step h2 hg (fun k hk => .inr (by have := hne k hk; omega))
  have b5 := h4.grown hg (fun e => by have := hne kb e.symm; omega)
  have q5 := h5.grown hg (fun e => by have := hne _ e.symm; omega)
  exact ⟨r5.set (by omega) (by omega) 2 v5, gr_set g5 (by omega) 2 v5, ownsRow_setCell_below ho (show kb < kb + 1 by omega) v5, b5.set 2 v5, q5.setO (by show w0.heap.size ≠ kb; omega) v5, h6, h7, h8⟩
theorem SwSt.blk5 {w5 : World} (h : SwSt B a kb w0 W H sv L m wz) (hg : wz.grownBy w5 sv.ownBlock) : Blk w5 kb #[.int .i64 W, .int .i64 H, sv] 35 :=
  h.2.2.2.1.grown hg (fun e => by have := (h.2.2.1.lt kb e.symm).1; omega)
end
theorem blk_s {w : World} {kb : Nat} {W H : Int} {sv : Value} (h : Blk w kb #[.int .i64 W, .int .i64 H, sv] 35) : w.cell? ⟨kb, 0, none⟩ = some (.int .i64 W) ∧ w.cell? ⟨kb, 1, none⟩ = some (.int .i64 H) := ⟨h.cell 0, h.cell 1⟩
theorem blk_s2 {w : World} {kb : Nat} {W H : Int} {sv : Value} (h : Blk w kb #[.int .i64 W, .int .i64 H, sv] 35) (v : Value) : (w.setCell ⟨kb, 2, none⟩ v).cell? ⟨kb, 0, none⟩ = some (.int .i64 W) ∧ (w.setCell ⟨kb, 2, none⟩ v).cell? ⟨kb, 1, none⟩ = some (.int .i64 H) := ⟨(h.set 2 v).cell 0, (h.set 2 v).cell 1⟩
theorem w1_of {x : Int} (h : 0 ≤ x ∧ x ≤ 299) : IntKind.i64.wrap (1 + x) = 1 + x := IntWalk.i64_in _ (by omega)
theorem pane_lit (w : World) (x1 x2 : Int) (t : Bool) (x4 : Int) : RowB paneE (w.heap.size + 1) (w.alloc (.cells #[.int .i64 x1, .int .i64 x2, .bool t, .int .i64 x4] 40)) (.slice (some ⟨w.heap.size, 0, none⟩) 1 1) [⟨x1, x2, t, x4⟩] := by
  have := (Own.lit paneE w w.heap.size 40 #[.int .i64 x1, .int .i64 x2, .bool t, .int .i64 x4] [⟨x1, x2, t, x4⟩] 1 rfl rfl (Nat.le_refl _) (by simp [maxLen])).rowB
  simpa using this
def SwOut (B a : Nat) (m : Int) (w : World) (e : Ending) (w' : World) : Prop := ∃ (W H : Int) (A : Option Addr) (c : Nat) (L : List Pn), e = .returned (.agg #[.int .i64 W, .int .i64 H, .slice A L.length c]) ∧ L.length ≤ 7 ∧ (6 ≤ W ∧ W ≤ 16) ∧ (6 ≤ H ∧ H ≤ 16) ∧ (∀ p ∈ L, bdP p) ∧ Own paneE 40 w.heap.size w' (.slice A L.length c) L ∧ Rd B w' a m ∧ w.grownBy w' (some a)

set_option maxHeartbeats 12800000 in
set_option maxRecDepth 100000 in
theorem sheetWork_c (B a : Nat) (m : Int) (w : World) (h : Rd B w a m) (hm : m ≤ 500000) : Calls Try.prog 46 #[.pointer (some ⟨a, 0, none⟩), .bool true] w (SwOut B a (m + 60) w) := by
  obtain ⟨i0, hi0, hz0, hz1, hz2⟩ := info_parts pane_info
  have HR0 := hid h
  have HG0 := hid (World.grownBy.refl w (some a))
  have hla := h.lt
  have hlo := h.lo
  clear h
  go_enter Try.func46, Try.ntmps46
  have HR1 := hid (HR0.out.alloc (.cells #[.int .i64 0, .int .i64 0, .slice none 0 0] 35))
  have HG1 := hid (gr_alloc HG0.out (.cells #[.int .i64 0, .int .i64 0, .slice none 0 0] 35))
  have HQ1 := hid (Blk.new w #[.int .i64 0, .int .i64 0, .slice none 0 0] 35)
  have ZL := hid (lit_row (w.alloc (.cells #[.int .i64 0, .int .i64 0, .slice none 0 0] 35)) (w.heap.size + 1) (by simp) #[.int .i64 10, .int .i64 8, .int .i64 12, .int .i64 16, .int .i64 6] [10, 8, 12, 16, 6] 5 rfl rfl (by simp [maxLen]))
  have HR2 := hid (HR1.out.alloc (.cells #[.int .i64 10, .int .i64 8, .int .i64 12, .int .i64 16, .int .i64 6] 3))
  have HG2 := hid (gr_alloc HG1.out (.cells #[.int .i64 10, .int .i64 8, .int .i64 12, .int .i64 16, .int .i64 6] 3))
  have HQ2 := hid (HQ1.out.alloc (.cells #[.int .i64 10, .int .i64 8, .int .i64 12, .int .i64 16, .int .i64 6] 3))
  go_wp2_with fail
  refine (one_c B a _ [10, 8, 12, 16, 6] _ _ HR2.out ZL.out (by simp [Value.ownBlock]; omega) (by simp) (by simp) (by omega)).mono ?_
  rintro e w1 ⟨W, rfl, hp, hR, hg⟩
  have hW : 6 ≤ W ∧ W ≤ 16 := by simp at hp; omega
  have HR3 := hid hR
  have HG3 := hid (grown_trans HG2.out hg)
  have HQ3 := hid (HQ2.out.grown hg (fun e => by injection e with e; omega))
  have hs1 : w.heap.size + 2 ≤ w1.heap.size := by have := hg.size; simp at this; omega
  clear hp hR hg ZL
  have ZL := hid (lit_row w1 w1.heap.size rfl #[.int .i64 8, .int .i64 10, .int .i64 6, .int .i64 16, .int .i64 12] [8, 10, 6, 16, 12] 5 rfl rfl (by simp [maxLen]))
  have HR4 := hid (HR3.out.alloc (.cells #[.int .i64 8, .int .i64 10, .int .i64 6, .int .i64 16, .int .i64 12] 3))
  have HG4 := hid (gr_alloc HG3.out (.cells #[.int .i64 8, .int .i64 10, .int .i64 6, .int .i64 16, .int .i64 12] 3))
  have HQ4 := hid (HQ3.out.alloc (.cells #[.int .i64 8, .int .i64 10, .int .i64 6, .int .i64 16, .int .i64 12] 3))
  go_wp2_with fail
  refine (one_c B a _ [8, 10, 6, 16, 12] _ _ HR4.out ZL.out (by simp [Value.ownBlock]; omega) (by simp) (by simp) (by omega)).mono ?_
  rintro e w2 ⟨H, rfl, hp, hR, hg⟩
  have hH : 6 ≤ H ∧ H ≤ 16 := by simp at hp; omega
  have HR5 := hid hR
  have HG5 := hid (grown_trans HG4.out hg)
  have HQ5 := hid (HQ4.out.grown hg (fun e => by injection e with e; omega))
  have hs2 : w1.heap.size < w2.heap.size := by have := hg.size; simp at this; omega
  clear hp hR hg ZL
  have ZS0 := hid (show SwSt B a w2.heap.size w W H (.slice none 0 0) [] (m + 1 + 1) (w2.alloc (.cells #[.int .i64 W, .int .i64 H, .slice none 0 0] 35)) from
    ⟨HR5.out.alloc _, gr_alloc HG5.out _, Own.nil_ _ _ _, Blk.new _ _ _, HQ5.out.alloc _, hla, by omega, hlo⟩)
  obtain ⟨kb, hkb⟩ : ∃ kb, kb = w2.heap.size := ⟨_, rfl⟩
  rw [← hkb] at ZS0
  have hkl : w.heap.size < kb := by omega
  have ZL := hid (lit_row (w2.alloc (.cells #[.int .i64 W, .int .i64 H, .slice none 0 0] 35)) (w2.heap.size + 1) (by simp) #[.int .i64 3, .int .i64 4, .int .i64 2, .int .i64 5, .int .i64 1, .int .i64 0, .int .i64 7] [3, 4, 2, 5, 1, 0, 7] 7 rfl rfl (by simp [maxLen]))
  have ZS1 := hid (ZS0.out.alloc (.cells #[.int .i64 3, .int .i64 4, .int .i64 2, .int .i64 5, .int .i64 1, .int .i64 0, .int .i64 7] 3))
  go_wp2_with fail
  refine (one_c B a _ [3, 4, 2, 5, 1, 0, 7] _ _ ZS1.out.1 ZL.out (by simp [Value.ownBlock]; omega) (by simp) (by simp) (by omega)).mono ?_
  rintro e w3 ⟨x1, rfl, hp, hR, hg⟩
  have hx1 : 0 ≤ x1 ∧ x1 ≤ 7 := by simp at hp; omega
  have ZS2 := hid (ZS1.out.pick hR hg)
  rw [← hkb]
  clear hp hR hg ZL ZS0 ZS1 hkb HR0 HG0 HR1 HG1 HQ1 HR2 HG2 HQ2 HR3 HG3 HQ3 HR4 HG4 HQ4 HR5 HG5 HQ5
  go_wp2
  go_loopw [6] (fun i wr => ∃ (k : Int) (sv : Value) (L : List Pn), i = .int .i64 k ∧ 0 ≤ k ∧ k ≤ 7 ∧ (L.length : Int) ≤ 7 - k ∧ (∀ p ∈ L, bdP p) ∧ SwSt B a kb w W H sv L (m + 3 + 4 * (7 - k)) wr) (fun i _ => (intOf i).toNat)
  case atStart => exact ⟨x1, _, [], rfl, by omega, by omega, by simp; omega, by simp, ZS2.out.up (by omega)⟩
  case round =>
    clear ZS2
    obtain ⟨k, sv, L, rfl, hk0, hk1, hL, hT, hst⟩ := hrel
    have HST := hid hst
    have HT := hid hT
    have HC := hid hst.2.2.2.1
    have c_K := fun (o : Nat) => hst.2.2.2.1.cell o
    have f_K := fun (o : Nat) => hst.2.2.2.1.frz o
    have l_K := hst.2.2.2.1.lt
    clear hst hT
    by_cases hk : 0 < k
    · obtain ⟨A1, c1, rfl, hc1, hm1, -⟩ := HST.out.2.2.1.shape
      unfold maxLen at hm1
      have HLn : Hid (L.length + 1 ≤ 4194304) := by rw [Hid]; omega
      have ZC := hid HST.out.draw
      go_wp2
      clear c_K f_K l_K HC
      have c2 := fun (o : Nat) => ZC.out.ck o
      have l2 := ZC.out.lt
      go_region_law
        (first | (go_simp; go_at_call 22; (with_reducible refine (pick_c B a _ _ _ ZC.out.rd (by omega) (by omega) (by omega)).mono ?_); rintro e wq ⟨x, rfl, hp, hR, hg⟩; have hbx := bpk_bd hp 299 (by omega) (by omega); have hwx := w1_of hbx; replace ZC := hid (ZC.out.pick hR hg); clear c2 l2; have c2 := fun (o : Nat) => ZC.out.ck o; have l2 := ZC.out.lt; clear hp hR hg) | (refine step_cat paneE _ rfl (.tmp 22) (.tmp 42) _ rfl (kb + 1) 40 i0 _ 32 Try.underlying33 hi0 hz0 hz1 hz2 rfl (by omega) _ _ rfl (ZC.out.alloc _).ow _ _ _ rfl (pane_lit _ _ _ _ _) HLn.out (ZC.out.alloc _).bs _ rfl ?_; intro v5 w5 ho5 hg5 hat5; obtain ⟨A5, c5, rfl, -, -, -⟩ := ho5.shape; clear c2 l2; have ZP := hid ((ZC.out.alloc _).push ho5 hg5); have ZQ := hid ((ZC.out.alloc _).blk5 hg5); have c_q := fun (o : Nat) => ZQ.out.cell o; have f_q := fun (o : Nat) => ZQ.out.frz o; have l_q := ZQ.out.lt; clear ho5 hg5 hat5) | fail)
      all_goals
        go_wp2
        have ZP' := ZP.out
        simp only [List.length_append, List.length_singleton] at ZP'
        refine ⟨⟨k - 1, _, _, ?_, ?_, ?_, ?_, ?_, ZP'.up ?_⟩, ?_⟩
        · go_num
        · omega
        · omega
        · rw [List.length_append]; simp only [List.length_singleton]; omega
        · intro p hp
          rcases List.mem_append.1 hp with hp | hp
          · exact HT.out p hp
          · simp only [List.mem_singleton] at hp
            subst hp
            unfold bdP
            simp only [*]
            omega
        · omega
        · simp [intOf]; omega
    · obtain ⟨A1, c1, rfl, hc1, hm1, -⟩ := HST.out.2.2.1.shape
      have HQ := hid ((((HST.out.2.2.2.2.1.set 0 (.int .i64 W)).set 1 (.int .i64 H)).set 2 (.slice A1 L.length c1)))
      have HSF := hid HST.out
      have hq := HST.out.2.2.2.2.2
      have HRF := hid ((((HST.out.1.set (q := w.heap.size) (by omega) (by omega) 0 (.int .i64 W)).set (q := w.heap.size) (by omega) (by omega) 1 (.int .i64 H)).set (q := w.heap.size) (by omega) (by omega) 2 (.slice A1 L.length c1)))
      have HGF := hid (gr_set (gr_set (gr_set HST.out.2.1 (Nat.le_refl _) 0 (.int .i64 W)) (Nat.le_refl _) 1 (.int .i64 H)) (Nat.le_refl _) 2 (.slice A1 L.length c1))
      have HOF := hid (show Own paneE 40 w.heap.size (((wr.setCell ⟨w.heap.size, 0, none⟩ (.int .i64 W)).setCell ⟨w.heap.size, 1, none⟩ (.int .i64 H)).setCell ⟨w.heap.size, 2, none⟩ (.slice A1 L.length c1)) (.slice A1 L.length c1) L from
        (((HST.out.2.2.1.setCell_far (p := ⟨w.heap.size, 0, none⟩) (by show w.heap.size < kb + 1; omega) _).setCell_far (p := ⟨w.heap.size, 1, none⟩) (by show w.heap.size < kb + 1; omega) _).setCell_far (p := ⟨w.heap.size, 2, none⟩) (by show w.heap.size < kb + 1; omega) _).base_le (by omega))
      have c_Q := fun (o : Nat) => HST.out.2.2.2.2.1.cell o
      have f_Q := fun (o : Nat) => HST.out.2.2.2.2.1.frz o
      have l_Q := HST.out.2.2.2.2.1.lt
      go_wp2
      obtain ⟨WF, hWF⟩ : ∃ Z : World, Z = (((wr.setCell ⟨w.heap.size, 0, none⟩ (.int .i64 W)).setCell ⟨w.heap.size, 1, none⟩ (.int .i64 H)).setCell ⟨w.heap.size, 2, none⟩ (.slice A1 L.length c1)) := ⟨_, rfl⟩
      rw [← hWF] at HQ HRF HGF HOF ⊢
      have c_F := fun (o : Nat) => HQ.out.cell o
      clear hWF
      exact bodyPost_ret (v := .agg #[.int .i64 W, .int .i64 H, .slice A1 L.length c1]) (by simp [results, Try.results46, go_sem, c_F]) rfl ⟨W, H, A1, c1, L, rfl, by omega, hW, hH, HT.out, HOF.out, HRF.out.up (by omega), HGF.out⟩

end Go.Proofs.Ytkckaooimffdpaa
