/-
  Contract: the leaves of a plan with their boxes, by the reference (written by a program of mine).
-/
import Derived.Test.YtafcohmneeabbaaPlc
namespace Go.Proofs.Ytafcohmneeabbaa
set_option linter.unusedSimpArgs false
set_option linter.unusedVariables false
open Go.RowKit

/-- All cuts of a tree are down or across. -/
def TrO : Tr → Prop
  | .leaf _ _ _ => True
  | .cut o _ l r => (o = 2 ∨ o = 3) ∧ TrO l ∧ TrO r
theorem TR.tro {B : Nat} {w : World} : ∀ {t : Tr} {s : Sh}, TR B w t s → TrO t
  | .leaf _ _ _, _, _ => True.intro
  | .cut o a l r, s, h => by
    obtain ⟨_, _, _, _, h1, sl, sr, _, h2, h3⟩ := h
    exact ⟨cutB_t h1, h2.tro, h3.tro⟩

set_option maxHeartbeats 6400000 in
set_option maxRecDepth 100000 in
theorem spread_down (a : Int) (l r : Tr) (ihl : SprS l) (ihr : SprS r) : SprS (.cut 2 a l r) := by
  intro s b M w h hok hb hM0 hM
  obtain ⟨h1, h2, h3, h4, -, sl, sr, hr, hl, hrr⟩ := h
  obtain ⟨so, sa, sp, st, ka, kn, kc⟩ := s
  simp only at h1 h2 h3 h4
  subst h1; subst h2; subst h3; subst h4
  obtain ⟨rfl, hkc, b1, o1, rfl, hb1, x0, x1, x2, x3, x4, y0, y1, y2, y3, y4⟩ := row_two hr
  obtain ⟨⟨ha1, ha2⟩, hokl, hokr⟩ := hok
  have hcu : cuts (.cut 2 sa l r) = 1 + cuts l + cuts r := rfl
  rw [hcu] at hM ⊢
  clear hcu
  have hb' := hb
  unfold bndB at hb'
  obtain ⟨⟨bx1, bx2⟩, ⟨by1, by2⟩, ⟨bw1, bw2⟩, ⟨bh1, bh2⟩⟩ := hb'
  have HBL : Hid (bndB (M + 1000) (⟨b.x, b.y, sa, b.h⟩ : Bx)) := by rw [Hid]; unfold bndB; simp only; omega
  have HBR : Hid (bndB (M + 1000) (⟨b.x + sa, b.y, b.w - sa, b.h⟩ : Bx)) := by rw [Hid]; unfold bndB; simp only; omega
  have HB0 := hid (((Below.refl w.heap.size w).alloc (Nat.le_refl _) (.cells #[.int .i64 2, .int .i64 sa, .int .i64 0, .bool false, .slice (some ⟨b1, o1, none⟩) 2 kc] 30)).alloc (by simp) (.cells #[.int .i64 b.x, .int .i64 b.y, .int .i64 b.w, .int .i64 b.h] 53))
  have HL := hid (fun w1 (hb : Below w.heap.size w w1) => hl.go hb)
  have HR := hid (fun w1 (hb : Below w.heap.size w w1) => hrr.go hb)
  have HIL := hid (fun w1 h => ihl sl (⟨b.x, b.y, sa, b.h⟩ : Bx) (M + 1000) w1 h hokl HBL.out (by omega) (by omega))
  have HIR := hid (fun w1 h => ihr sr (⟨b.x + sa, b.y, b.w - sa, b.h⟩ : Bx) (M + 1000) w1 h hokr HBR.out (by omega) (by omega))
  obtain ⟨i0, hi0, hz0, hz1, hz2⟩ := info_parts plc_info
  have hcl : cuts l ≤ 100 := by omega
  have hcr : cuts r ≤ 100 := by omega
  have hMb : M ≤ 100000 := by omega
  have HMM := hid hM
  clear hl hrr hr ihl ihr hokl hokr hb hM
  go_enter Try.func63, Try.ntmps63
  obtain ⟨W, hW⟩ : ∃ Z : World, Z = ((w.alloc (.cells #[.int .i64 2, .int .i64 sa, .int .i64 0, .bool false, .slice (some ⟨b1, o1, none⟩) 2 kc] 30)).alloc (.cells #[.int .i64 b.x, .int .i64 b.y, .int .i64 b.w, .int .i64 b.h] 53)) := ⟨_, rfl⟩
  have HP := hid (show Blk W w.heap.size #[.int .i64 2, .int .i64 sa, .int .i64 0, .bool false, .slice (some ⟨b1, o1, none⟩) 2 kc] 30 by rw [hW]; exact (Blk.new w _ _).alloc _)
  have HX := hid (show Blk W (w.heap.size + 1) #[.int .i64 b.x, .int .i64 b.y, .int .i64 b.w, .int .i64 b.h] 53 by rw [hW]; have := Blk.new (w.alloc (.cells #[.int .i64 2, .int .i64 sa, .int .i64 0, .bool false, .slice (some ⟨b1, o1, none⟩) 2 kc] 30)) #[.int .i64 b.x, .int .i64 b.y, .int .i64 b.w, .int .i64 b.h] 53; simpa using this)
  have HW0 := hid (show Below w.heap.size w W by rw [hW]; exact HB0.out)
  have hWs : W.heap.size = w.heap.size + 2 := by rw [hW]; simp
  have hN : w.heap.size + 2 ≤ W.heap.size := by omega
  have HWS := hid hWs
  go_upto_region 3 with (fail)
  rw [← hW]
  clear hW hWs
  have hcc := (bcell HW0.out).1
  have z0 := (hcc b1 o1 hb1).trans x0
  have z1 := (hcc b1 (o1 + 1) hb1).trans x1
  have z2 := (hcc b1 (o1 + 2) hb1).trans x2
  have z3 := (hcc b1 (o1 + 3) hb1).trans x3
  have z4 := (hcc b1 (o1 + 4) hb1).trans x4
  have v0 := (hcc b1 (o1 + 5) hb1).trans y0
  have v1 := (hcc b1 (o1 + 5 + 1) hb1).trans y1
  have v2 := (hcc b1 (o1 + 5 + 2) hb1).trans y2
  have v3 := (hcc b1 (o1 + 5 + 3) hb1).trans y3
  have v4 := (hcc b1 (o1 + 5 + 4) hb1).trans y4
  have c_P := fun (o : Nat) => HP.out.cell o
  have c_X := fun (o : Nat) => HX.out.cell o
  have hN1 : b1 < w.heap.size + 2 := by omega
  clear hcc x0 x1 x2 x3 x4 y0 y1 y2 y3 y4
  have ZK := hid ((Below.refl _ _).drew : Below (w.heap.size + 2) W W.drew)
  have ZB := hid (HW0.out.drew)
  have ZS := hid (show w.heap.size + 2 ≤ W.drew.heap.size from hN)
  go_region_held3 (fun w' => ∀ b o, b < w.heap.size + 2 → w'.cell? ⟨b, o, none⟩ = W.cell? ⟨b, o, none⟩) (exact fun b o h => ZK.out.cell (p := ⟨b, o, none⟩) h)
    (first | (go_at_call 63; ((with_reducible refine (HIL.out _ (HL.out _ ZB.out)).mono ?_); rintro e wq ⟨vl, P1, rfl, ho, hl1, hp1, hb⟩; replace ZK := hid (ZK.out.trans (hb.mono ZS.out)); replace ZB := hid (ZB.out.trans (hb.mono ZB.out.size)); replace ZS := hid (Nat.le_trans ZS.out hb.size); have HO1 := hid ho; have HL1 := hid hl1; have HP1 := hid hp1; clear hb ho hl1 hp1)) | fail)
  all_goals
    obtain ⟨w2, hw2⟩ : ∃ Z : World, Z = wq := ⟨_, rfl⟩
    have HO2 := hid (show Own plcE 75 (w.heap.size + 2) w2 vl P1 by rw [hw2]; have := HO1.out; simp only [World.size_drew, HWS.out] at this; exact this)
    rw [← hw2] at ZK ZB ZS ⊢
    clear hw2 HO1
    have zc : ∀ b o, b < w.heap.size + 2 → w2.cell? ⟨b, o, none⟩ = W.cell? ⟨b, o, none⟩ := fun b o h => ZK.out.cell (p := ⟨b, o, none⟩) h
    have hs2 := ZS.out
    have HLl : Hid (∀ P2 : List Plc, P2.length ≤ cuts r + 1 → P1.length + P2.length ≤ 4194304) := fun P2 h => by have := HL1.out; omega
    go_upto_region 4 with (fail)
    have YK := hid ((Below.refl _ _).drew : Below (w.heap.size + 2) w2 w2.drew)
    have YB := hid (ZB.out.drew)
    have YS := hid (show w.heap.size + 2 ≤ w2.drew.heap.size from hs2)
    have YO := hid (HO2.out.dr (Dr.refl _).one)
    have hw1 : IntKind.i64.wrap (b.x + sa) = b.x + sa := IntWalk.i64_in _ (by omega)
    have hw2 : IntKind.i64.wrap (b.w - sa) = b.w - sa := IntWalk.i64_in _ (by omega)
    go_region_held3 (fun w' => ∀ b o, b < w.heap.size + 2 → w'.cell? ⟨b, o, none⟩ = W.cell? ⟨b, o, none⟩) (exact fun b o h => (YK.out.cell (p := ⟨b, o, none⟩) h).trans (zc b o h))
      (first | (go_at_call 63; ((with_reducible refine (HIR.out _ (HR.out _ YB.out)).mono ?_); rintro e wr ⟨vr, P2, rfl, ho, hl1, hp1, hb⟩; replace YK := hid (YK.out.trans (hb.mono YS.out)); replace YB := hid (YB.out.trans (hb.mono YB.out.size)); replace YO := hid (YO.out.below hb); replace YS := hid (Nat.le_trans YS.out hb.size); have HO3 := hid ho; have HL3 := hid hl1; have HP3 := hid hp1; have HLn := hid (HLl.out P2 hl1); obtain ⟨P3, hP3⟩ : ∃ Z, Z = P1 ++ P2 := ⟨_, rfl⟩; have HPP := hid hP3; clear hb ho hl1 hp1 hP3)) | (refine step_cat plcE _ rfl (.tmp 25) (.tmp 45) _ rfl (w.heap.size + 2) 75 i0 _ 48 Try.underlying72 hi0 hz0 hz1 hz2 rfl (by omega) _ _ rfl YO.out _ _ _ rfl HO3.out.rowB HLn.out YS.out P3 HPP.out ?_; intro v4 w4 ho4 hg4 hat4; have YO4 := hid ho4; have YB4 := hid (YB.out.grown hg4 YB.out.size (fun q hq => by have := (YO.out.lt q hq).1; omega)); replace YK := hid (YK.out.grown hg4 YS.out (fun q hq => (YO.out.lt q hq).1)); clear ho4 hg4 hat4) | fail)
    all_goals
      clear hw1 hw2
      go_wp2
      go_ret
      exact ⟨_, P3, rfl, YO4.out.base_le (by omega), by rw [HPP.out, List.length_append]; have h1 := HL1.out; have h2 := HL3.out; omega, fun q hq => by rw [HPP.out] at hq; rcases List.mem_append.1 hq with h | h; exact (HP1.out q h).up (by omega); exact (HP3.out q h).up (by omega), YB4.out⟩

set_option maxHeartbeats 6400000 in
set_option maxRecDepth 100000 in
theorem spread_across (a : Int) (l r : Tr) (ihl : SprS l) (ihr : SprS r) : SprS (.cut 3 a l r) := by
  intro s b M w h hok hb hM0 hM
  obtain ⟨h1, h2, h3, h4, -, sl, sr, hr, hl, hrr⟩ := h
  obtain ⟨so, sa, sp, st, ka, kn, kc⟩ := s
  simp only at h1 h2 h3 h4
  subst h1; subst h2; subst h3; subst h4
  obtain ⟨rfl, hkc, b1, o1, rfl, hb1, x0, x1, x2, x3, x4, y0, y1, y2, y3, y4⟩ := row_two hr
  obtain ⟨⟨ha1, ha2⟩, hokl, hokr⟩ := hok
  have hcu : cuts (.cut 3 sa l r) = 1 + cuts l + cuts r := rfl
  rw [hcu] at hM ⊢
  clear hcu
  have hb' := hb
  unfold bndB at hb'
  obtain ⟨⟨bx1, bx2⟩, ⟨by1, by2⟩, ⟨bw1, bw2⟩, ⟨bh1, bh2⟩⟩ := hb'
  have HBL : Hid (bndB (M + 1000) (⟨b.x, b.y, b.w, sa⟩ : Bx)) := by rw [Hid]; unfold bndB; simp only; omega
  have HBR : Hid (bndB (M + 1000) (⟨b.x, b.y + sa, b.w, b.h - sa⟩ : Bx)) := by rw [Hid]; unfold bndB; simp only; omega
  have HB0 := hid (((Below.refl w.heap.size w).alloc (Nat.le_refl _) (.cells #[.int .i64 3, .int .i64 sa, .int .i64 0, .bool false, .slice (some ⟨b1, o1, none⟩) 2 kc] 30)).alloc (by simp) (.cells #[.int .i64 b.x, .int .i64 b.y, .int .i64 b.w, .int .i64 b.h] 53))
  have HL := hid (fun w1 (hb : Below w.heap.size w w1) => hl.go hb)
  have HR := hid (fun w1 (hb : Below w.heap.size w w1) => hrr.go hb)
  have HIL := hid (fun w1 h => ihl sl (⟨b.x, b.y, b.w, sa⟩ : Bx) (M + 1000) w1 h hokl HBL.out (by omega) (by omega))
  have HIR := hid (fun w1 h => ihr sr (⟨b.x, b.y + sa, b.w, b.h - sa⟩ : Bx) (M + 1000) w1 h hokr HBR.out (by omega) (by omega))
  obtain ⟨i0, hi0, hz0, hz1, hz2⟩ := info_parts plc_info
  have hcl : cuts l ≤ 100 := by omega
  have hcr : cuts r ≤ 100 := by omega
  have hMb : M ≤ 100000 := by omega
  have HMM := hid hM
  clear hl hrr hr ihl ihr hokl hokr hb hM
  go_enter Try.func63, Try.ntmps63
  obtain ⟨W, hW⟩ : ∃ Z : World, Z = ((w.alloc (.cells #[.int .i64 3, .int .i64 sa, .int .i64 0, .bool false, .slice (some ⟨b1, o1, none⟩) 2 kc] 30)).alloc (.cells #[.int .i64 b.x, .int .i64 b.y, .int .i64 b.w, .int .i64 b.h] 53)) := ⟨_, rfl⟩
  have HP := hid (show Blk W w.heap.size #[.int .i64 3, .int .i64 sa, .int .i64 0, .bool false, .slice (some ⟨b1, o1, none⟩) 2 kc] 30 by rw [hW]; exact (Blk.new w _ _).alloc _)
  have HX := hid (show Blk W (w.heap.size + 1) #[.int .i64 b.x, .int .i64 b.y, .int .i64 b.w, .int .i64 b.h] 53 by rw [hW]; have := Blk.new (w.alloc (.cells #[.int .i64 3, .int .i64 sa, .int .i64 0, .bool false, .slice (some ⟨b1, o1, none⟩) 2 kc] 30)) #[.int .i64 b.x, .int .i64 b.y, .int .i64 b.w, .int .i64 b.h] 53; simpa using this)
  have HW0 := hid (show Below w.heap.size w W by rw [hW]; exact HB0.out)
  have hWs : W.heap.size = w.heap.size + 2 := by rw [hW]; simp
  have hN : w.heap.size + 2 ≤ W.heap.size := by omega
  have HWS := hid hWs
  go_upto_region 6 with (fail)
  rw [← hW]
  clear hW hWs
  have hcc := (bcell HW0.out).1
  have z0 := (hcc b1 o1 hb1).trans x0
  have z1 := (hcc b1 (o1 + 1) hb1).trans x1
  have z2 := (hcc b1 (o1 + 2) hb1).trans x2
  have z3 := (hcc b1 (o1 + 3) hb1).trans x3
  have z4 := (hcc b1 (o1 + 4) hb1).trans x4
  have v0 := (hcc b1 (o1 + 5) hb1).trans y0
  have v1 := (hcc b1 (o1 + 5 + 1) hb1).trans y1
  have v2 := (hcc b1 (o1 + 5 + 2) hb1).trans y2
  have v3 := (hcc b1 (o1 + 5 + 3) hb1).trans y3
  have v4 := (hcc b1 (o1 + 5 + 4) hb1).trans y4
  have c_P := fun (o : Nat) => HP.out.cell o
  have c_X := fun (o : Nat) => HX.out.cell o
  have hN1 : b1 < w.heap.size + 2 := by omega
  clear hcc x0 x1 x2 x3 x4 y0 y1 y2 y3 y4
  have ZK := hid ((Below.refl _ _).drew : Below (w.heap.size + 2) W W.drew)
  have ZB := hid (HW0.out.drew)
  have ZS := hid (show w.heap.size + 2 ≤ W.drew.heap.size from hN)
  go_region_held3 (fun w' => ∀ b o, b < w.heap.size + 2 → w'.cell? ⟨b, o, none⟩ = W.cell? ⟨b, o, none⟩) (exact fun b o h => ZK.out.cell (p := ⟨b, o, none⟩) h)
    (first | (go_at_call 63; ((with_reducible refine (HIL.out _ (HL.out _ ZB.out)).mono ?_); rintro e wq ⟨vl, P1, rfl, ho, hl1, hp1, hb⟩; replace ZK := hid (ZK.out.trans (hb.mono ZS.out)); replace ZB := hid (ZB.out.trans (hb.mono ZB.out.size)); replace ZS := hid (Nat.le_trans ZS.out hb.size); have HO1 := hid ho; have HL1 := hid hl1; have HP1 := hid hp1; clear hb ho hl1 hp1)) | fail)
  all_goals
    obtain ⟨w2, hw2⟩ : ∃ Z : World, Z = wq := ⟨_, rfl⟩
    have HO2 := hid (show Own plcE 75 (w.heap.size + 2) w2 vl P1 by rw [hw2]; have := HO1.out; simp only [World.size_drew, HWS.out] at this; exact this)
    rw [← hw2] at ZK ZB ZS ⊢
    clear hw2 HO1
    have zc : ∀ b o, b < w.heap.size + 2 → w2.cell? ⟨b, o, none⟩ = W.cell? ⟨b, o, none⟩ := fun b o h => ZK.out.cell (p := ⟨b, o, none⟩) h
    have hs2 := ZS.out
    have HLl : Hid (∀ P2 : List Plc, P2.length ≤ cuts r + 1 → P1.length + P2.length ≤ 4194304) := fun P2 h => by have := HL1.out; omega
    go_upto_region 7 with (fail)
    have YK := hid ((Below.refl _ _).drew : Below (w.heap.size + 2) w2 w2.drew)
    have YB := hid (ZB.out.drew)
    have YS := hid (show w.heap.size + 2 ≤ w2.drew.heap.size from hs2)
    have YO := hid (HO2.out.dr (Dr.refl _).one)
    have hw1 : IntKind.i64.wrap (b.y + sa) = b.y + sa := IntWalk.i64_in _ (by omega)
    have hw2 : IntKind.i64.wrap (b.h - sa) = b.h - sa := IntWalk.i64_in _ (by omega)
    go_region_held3 (fun w' => ∀ b o, b < w.heap.size + 2 → w'.cell? ⟨b, o, none⟩ = W.cell? ⟨b, o, none⟩) (exact fun b o h => (YK.out.cell (p := ⟨b, o, none⟩) h).trans (zc b o h))
      (first | (go_at_call 63; ((with_reducible refine (HIR.out _ (HR.out _ YB.out)).mono ?_); rintro e wr ⟨vr, P2, rfl, ho, hl1, hp1, hb⟩; replace YK := hid (YK.out.trans (hb.mono YS.out)); replace YB := hid (YB.out.trans (hb.mono YB.out.size)); replace YO := hid (YO.out.below hb); replace YS := hid (Nat.le_trans YS.out hb.size); have HO3 := hid ho; have HL3 := hid hl1; have HP3 := hid hp1; have HLn := hid (HLl.out P2 hl1); obtain ⟨P3, hP3⟩ : ∃ Z, Z = P1 ++ P2 := ⟨_, rfl⟩; have HPP := hid hP3; clear hb ho hl1 hp1 hP3)) | (refine step_cat plcE _ rfl (.tmp 63) (.tmp 83) _ rfl (w.heap.size + 2) 75 i0 _ 48 Try.underlying72 hi0 hz0 hz1 hz2 rfl (by omega) _ _ rfl YO.out _ _ _ rfl HO3.out.rowB HLn.out YS.out P3 HPP.out ?_; intro v4 w4 ho4 hg4 hat4; have YO4 := hid ho4; have YB4 := hid (YB.out.grown hg4 YB.out.size (fun q hq => by have := (YO.out.lt q hq).1; omega)); replace YK := hid (YK.out.grown hg4 YS.out (fun q hq => (YO.out.lt q hq).1)); clear ho4 hg4 hat4) | fail)
    all_goals
      clear hw1 hw2
      go_wp2
      go_ret
      exact ⟨_, P3, rfl, YO4.out.base_le (by omega), by rw [HPP.out, List.length_append]; have h1 := HL1.out; have h2 := HL3.out; omega, fun q hq => by rw [HPP.out] at hq; rcases List.mem_append.1 hq with h | h; exact (HP1.out q h).up (by omega); exact (HP3.out q h).up (by omega), YB4.out⟩

theorem spread_c : ∀ (t : Tr), TrO t → SprS t
  | .leaf o p t, _ => spread_leaf o p t
  | .cut o a l r, h => by
    obtain ⟨h1, h2, h3⟩ := h
    rcases h1 with rfl | rfl
    · exact spread_down a l r (spread_c l h2) (spread_c r h3)
    · exact spread_across a l r (spread_c l h2) (spread_c r h3)

end Go.Proofs.Ytafcohmneeabbaa
