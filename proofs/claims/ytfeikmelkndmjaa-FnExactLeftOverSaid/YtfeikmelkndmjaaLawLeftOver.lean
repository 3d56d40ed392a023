/-
  The law FnExactLeftOver, walked (written by a program of mine).
-/
import Derived.Test.YtfeikmelkndmjaaLeftI
import Derived.Deep.RegionHeld3
namespace Go.Proofs.Ytfeikmelkndmjaa
set_option linter.unusedSimpArgs false
set_option linter.unusedVariables false
open Go.RowKit

set_option maxHeartbeats 4000000 in
set_option maxRecDepth 100000 in
theorem FnExactLeftOver_c (x0 : Bx) (x1 : Bx) (w : World)  :
    Calls Try.prog 3 #[.agg #[.int .i64 x0.x, .int .i64 x0.y, .int .i64 x0.w, .int .i64 x0.h], .agg #[.int .i64 x1.x, .int .i64 x1.y, .int .i64 x1.w, .int .i64 x1.h]] w fun e w' => e = .returned (.bool true) ∧ Below w.heap.size w w' := by
  have hO := leftOut_len x0 x1
  go_enter Try.func3, Try.ntmps3
  have HF0 := hid ((((Below.refl _ _).alloc (by simp) _).alloc (by simp) _) : Below w.heap.size w ((w.alloc (.cells #[.int .i64 x0.x, .int .i64 x0.y, .int .i64 x0.w, .int .i64 x0.h] 23)).alloc (.cells #[.int .i64 x1.x, .int .i64 x1.y, .int .i64 x1.w, .int .i64 x1.h] 23)))
  have HB0 := hid (Below.refl ((w.alloc (.cells #[.int .i64 x0.x, .int .i64 x0.y, .int .i64 x0.w, .int .i64 x0.h] 23)).alloc (.cells #[.int .i64 x1.x, .int .i64 x1.y, .int .i64 x1.w, .int .i64 x1.h] 23)).heap.size ((w.alloc (.cells #[.int .i64 x0.x, .int .i64 x0.y, .int .i64 x0.w, .int .i64 x0.h] 23)).alloc (.cells #[.int .i64 x1.x, .int .i64 x1.y, .int .i64 x1.w, .int .i64 x1.h] 23)))
  have hn0 : w.heap.size < w.heap.size + 1 + 1 := by omega
  go_wp2_with fail
  have ZB := hid (HB0.out.drew)
  obtain ⟨hcZ, hfZ, hsZ⟩ := bcell HB0.out
  go_region_held3 (fun w' => w'.cell? ⟨w.heap.size, 0, none⟩ = some (.int .i64 x0.x) ∧ w'.cell? ⟨w.heap.size, 1, none⟩ = some (.int .i64 x0.y) ∧ w'.cell? ⟨w.heap.size, 2, none⟩ = some (.int .i64 x0.w) ∧ w'.cell? ⟨w.heap.size, 3, none⟩ = some (.int .i64 x0.h) ∧ w'.cell? ⟨w.heap.size + 1, 0, none⟩ = some (.int .i64 x1.x) ∧ w'.cell? ⟨w.heap.size + 1, 1, none⟩ = some (.int .i64 x1.y) ∧ w'.cell? ⟨w.heap.size + 1, 2, none⟩ = some (.int .i64 x1.w) ∧ w'.cell? ⟨w.heap.size + 1, 3, none⟩ = some (.int .i64 x1.h)) (go_keep)
    (first | (go_at_call 10; refine (toBox_c _ _).mono ?_; rintro e wq ⟨rfl, hb⟩; (try clear hc hf hs); have hl0 : w.heap.size < wq.heap.size := (by have := hb.size; (try simp at this); omega); have hl1 : w.heap.size + 1 < wq.heap.size := (by have := hb.size; (try simp at this); omega); replace ZB := hid (ZB.out.trans (hb.mono ZB.out.size)); obtain ⟨hc, hf, hs⟩ := bcell hb; clear hb) | (go_at_call 9; refine (sLeftOver_c x0 x1 _).mono ?_; rintro e w1 ⟨vw, rfl, ho, hb⟩; clear hc hf hs; have hl0 : w.heap.size < w1.heap.size := (by have := hb.size; (try simp at this); omega); have hl1 : w.heap.size + 1 < w1.heap.size := (by have := hb.size; (try simp at this); omega); have ZS := hid ZB.out.size; have Zw := hid ho; clear ho; replace ZB := hid (ZB.out.trans (hb.mono ZB.out.size)); obtain ⟨hc, hf, hs⟩ := bcell hb; clear hb))
  have Hw_1 := Zw
  clear Zw
  have HS1 := ZS
  clear ZS
  have HB1 := ZB
  clear ZB hc hf hs hcZ hfZ hsZ hl0 hl1
  go_wp2_with fail
  have Zw := hid (Hw_1.out.dr (Dr.refl _).one)
  have ZB := hid (HB1.out.drew)
  obtain ⟨hcZ, hfZ, hsZ⟩ := bcell HB1.out
  have hdz : w1.drew.heap.size = w1.heap.size := rfl
  have hk0 : w.heap.size < w1.heap.size := by have := HB1.out.size; simp at this; omega
  have hk1 : w.heap.size + 1 < w1.heap.size := by have := HB1.out.size; simp at this; omega
  go_region_held3 (fun w' => w'.cell? ⟨w.heap.size, 0, none⟩ = some (.int .i64 x0.x) ∧ w'.cell? ⟨w.heap.size, 1, none⟩ = some (.int .i64 x0.y) ∧ w'.cell? ⟨w.heap.size, 2, none⟩ = some (.int .i64 x0.w) ∧ w'.cell? ⟨w.heap.size, 3, none⟩ = some (.int .i64 x0.h) ∧ w'.cell? ⟨w.heap.size + 1, 0, none⟩ = some (.int .i64 x1.x) ∧ w'.cell? ⟨w.heap.size + 1, 1, none⟩ = some (.int .i64 x1.y) ∧ w'.cell? ⟨w.heap.size + 1, 2, none⟩ = some (.int .i64 x1.w) ∧ w'.cell? ⟨w.heap.size + 1, 3, none⟩ = some (.int .i64 x1.h)) (go_keep)
    (first | (go_at_call 10; refine (toBox_c _ _).mono ?_; rintro e wq ⟨rfl, hb⟩; (try clear hc hf hs); have hl0 : w.heap.size < wq.heap.size := (by have := hb.size; (try simp at this); omega); have hl1 : w.heap.size + 1 < wq.heap.size := (by have := hb.size; (try simp at this); omega); replace Zw := hid (Zw.out.below hb); replace ZB := hid (ZB.out.trans (hb.mono ZB.out.size)); obtain ⟨hc, hf, hs⟩ := bcell hb; clear hb) | (go_at_call 11; refine (LeftOver_c x0 x1 _).mono ?_; rintro e w2 ⟨vg, rfl, ho, hb⟩; have HN_w_g := hid (own_ne Zw.out ho (Nat.le_refl _)); have HN_g_w := hid (own_ne' Zw.out ho (Nat.le_refl _)); clear hc hf hs; have hl0 : w.heap.size < w2.heap.size := (by have := hb.size; (try simp at this); omega); have hl1 : w.heap.size + 1 < w2.heap.size := (by have := hb.size; (try simp at this); omega); replace Zw := hid (Zw.out.below hb); have ZS := hid ZB.out.size; have Zg := hid ho; clear ho; replace ZB := hid (ZB.out.trans (hb.mono ZB.out.size)); obtain ⟨hc, hf, hs⟩ := bcell hb; clear hb))
  have Hw_2 := Zw
  clear Zw
  have Hg_2 := Zg
  clear Zg
  have HS2 := ZS
  clear ZS
  have HB2 := ZB
  clear ZB hc hf hs hcZ hfZ hsZ hdz hk0 hk1 hl0 hl1
  go_wp2_with fail
  refine (eqBoxS_c _ _ _ _ _ Hg_2.out.rowB Hw_2.out.rowB).mono ?_
  rintro e w3 ⟨rfl, hb⟩
  have Hw_3 := hid (Hw_2.out.below hb)
  have Hg_3 := hid (Hg_2.out.below hb)
  have HB3 := hid (HB2.out.trans (hb.mono HB2.out.size))
  clear hb
  simp only [decide_true]
  go_wp2_with fail
  refine (markBoxS_c _ (leftOut x0 x1) _ 1 _ Hg_3.out (by omega) (by omega) (by omega)).mono ?_
  rintro e w4 ⟨rfl, ho, hg⟩
  have Hw_4 := hid (Hw_3.out.kept hg HN_w_g.out)
  have Hg_4 := hid ho
  have HB4 := hid (HB3.out.grown hg HB3.out.size (fun k hk => Nat.le_trans HS2.out (Hg_3.out.lt k hk).1))
  clear hg ho
  go_wp2_with fail
  refine (heldBoxS_c _ 1 (leftOut x0 x1).length _ Hg_4.out.rowB (by omega) (by omega) (by omega)).mono ?_
  rintro e w5 ⟨rfl, hd⟩
  have Hw_5 := hid (Hw_4.out.dr hd)
  have Hg_5 := hid (Hg_4.out.dr hd)
  have HB5 := hid (HB4.out.trans (hd.below _))
  clear hd
  go_wp2_with fail
  have Zw := hid (Hw_5.out.dr (Dr.refl _).one)
  have Zg := hid (Hg_5.out.dr (Dr.refl _).one)
  have ZB := hid (HB5.out.drew)
  obtain ⟨hcZ, hfZ, hsZ⟩ := bcell HB5.out
  have hdz : w5.drew.heap.size = w5.heap.size := rfl
  have hk0 : w.heap.size < w5.heap.size := by have := HB5.out.size; simp at this; omega
  have hk1 : w.heap.size + 1 < w5.heap.size := by have := HB5.out.size; simp at this; omega
  go_region_held3 (fun w' => w'.cell? ⟨w.heap.size, 0, none⟩ = some (.int .i64 x0.x) ∧ w'.cell? ⟨w.heap.size, 1, none⟩ = some (.int .i64 x0.y) ∧ w'.cell? ⟨w.heap.size, 2, none⟩ = some (.int .i64 x0.w) ∧ w'.cell? ⟨w.heap.size, 3, none⟩ = some (.int .i64 x0.h) ∧ w'.cell? ⟨w.heap.size + 1, 0, none⟩ = some (.int .i64 x1.x) ∧ w'.cell? ⟨w.heap.size + 1, 1, none⟩ = some (.int .i64 x1.y) ∧ w'.cell? ⟨w.heap.size + 1, 2, none⟩ = some (.int .i64 x1.w) ∧ w'.cell? ⟨w.heap.size + 1, 3, none⟩ = some (.int .i64 x1.h)) (go_keep)
    (first | (go_at_call 10; refine (toBox_c _ _).mono ?_; rintro e wq ⟨rfl, hb⟩; (try clear hc hf hs); have hl0 : w.heap.size < wq.heap.size := (by have := hb.size; (try simp at this); omega); have hl1 : w.heap.size + 1 < wq.heap.size := (by have := hb.size; (try simp at this); omega); replace Zw := hid (Zw.out.below hb); replace Zg := hid (Zg.out.below hb); replace ZB := hid (ZB.out.trans (hb.mono ZB.out.size)); obtain ⟨hc, hf, hs⟩ := bcell hb; clear hb) | (go_at_call 11; refine (LeftOver_c x0 x1 _).mono ?_; rintro e w6 ⟨vh, rfl, ho, hb⟩; have HN_w_h := hid (own_ne Zw.out ho (Nat.le_refl _)); have HN_h_w := hid (own_ne' Zw.out ho (Nat.le_refl _)); have HN_g_h := hid (own_ne Zg.out ho (Nat.le_refl _)); have HN_h_g := hid (own_ne' Zg.out ho (Nat.le_refl _)); clear hc hf hs; have hl0 : w.heap.size < w6.heap.size := (by have := hb.size; (try simp at this); omega); have hl1 : w.heap.size + 1 < w6.heap.size := (by have := hb.size; (try simp at this); omega); replace Zw := hid (Zw.out.below hb); replace Zg := hid (Zg.out.below hb); have ZS := hid ZB.out.size; have Zh := hid ho; clear ho; replace ZB := hid (ZB.out.trans (hb.mono ZB.out.size)); obtain ⟨hc, hf, hs⟩ := bcell hb; clear hb))
  have Hw_6 := Zw
  clear Zw
  have Hg_6 := Zg
  clear Zg
  have Hh_6 := Zh
  clear Zh
  have HS6 := ZS
  clear ZS
  have HB6 := ZB
  clear ZB hc hf hs hcZ hfZ hsZ hdz hk0 hk1 hl0 hl1
  go_wp2_with fail
  refine (eqBoxS_c _ _ _ _ _ Hh_6.out.rowB Hw_6.out.rowB).mono ?_
  rintro e w7 ⟨rfl, hb⟩
  have Hw_7 := hid (Hw_6.out.below hb)
  have Hg_7 := hid (Hg_6.out.below hb)
  have Hh_7 := hid (Hh_6.out.below hb)
  have HB7 := hid (HB6.out.trans (hb.mono HB6.out.size))
  clear hb
  simp only [decide_true]
  go_wp2_with fail
  refine (heldBoxS_c _ 1 (leftOut x0 x1).length _ Hg_7.out.rowB (by omega) (by omega) (by omega)).mono ?_
  rintro e w8 ⟨rfl, hd⟩
  have Hw_8 := hid (Hw_7.out.dr hd)
  have Hg_8 := hid (Hg_7.out.dr hd)
  have Hh_8 := hid (Hh_7.out.dr hd)
  have HB8 := hid (HB7.out.trans (hd.below _))
  clear hd
  go_wp2
  go_ret
  exact ⟨rfl, HF0.out.trans (HB8.out.mono HF0.out.size)⟩

end Go.Proofs.Ytfeikmelkndmjaa
