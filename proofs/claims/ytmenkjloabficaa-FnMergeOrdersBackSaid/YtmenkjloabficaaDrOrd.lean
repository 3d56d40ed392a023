/-
  Contracts: panes and orders drawn by the generators of the reference (written by a program of mine).
-/
import Derived.Test.YtmenkjloabficaaRead
import Derived.Test.YtmenkjloabficaaMerge
namespace Go.Proofs.Ytmenkjloabficaa
set_option linter.unusedSimpArgs false
set_option linter.unusedVariables false
open Go.RowKit

theorem pk_bd {n x : Int} (h : Pk n x) (b : Int) (hb : n ≤ b + 1) (h0 : 0 ≤ b) : 0 ≤ x ∧ x ≤ b := by
  obtain ⟨h1, h2⟩ := h; omega
theorem own_na {α : Type} {E : Enc α} {e : TypeId} {base a : Nat} {w : World} {v : Value} {L : List α} (h : Own E e base w v L) (ha : a < base) : v.ownBlock = none ∨ v.ownBlock ≠ some a := by
  cases hv : v.ownBlock with
  | none => exact .inl rfl
  | some k => exact .inr (fun e => by injection e with e; have := (h.lt k hv).1; omega)
/-- What a call answers that draws a pane. -/
def PaneDr (B a : Nat) (m : Int) (w : World) (e : Ending) (w' : World) : Prop := ∃ b : Pn, e = .returned (.agg #[.int .i64 b.w, .int .i64 b.h, .bool b.t, .int .i64 b.k]) ∧ Rd B w' a m ∧ w.grownBy w' (some a)

set_option maxHeartbeats 3200000 in
set_option maxRecDepth 100000 in
theorem somePane_c (B a : Nat) (m : Int) (w : World) (h : Rd B w a m) (hm : m ≤ 900000) : Calls Try.prog 57 #[.pointer (some ⟨a, 0, none⟩)] w (PaneDr B a (m + 4) w) := by
  have HR0 := hid h
  have HG0 := hid (World.grownBy.refl w (some a))
  have hla := h.lt
  have hlo := h.lo
  clear h
  go_enter Try.func57, Try.ntmps57
  have HR1 := hid (HR0.out.alloc (.cells #[.int .i64 0, .int .i64 0, .bool false, .int .i64 0] 38))
  have HG1 := hid (gr_alloc HG0.out (.cells #[.int .i64 0, .int .i64 0, .bool false, .int .i64 0] 38))
  have HQ_1 := hid (show Blk (w.alloc (.cells #[.int .i64 0, .int .i64 0, .bool false, .int .i64 0] 38)) (w.heap.size) #[.int .i64 0, .int .i64 0, .bool false, .int .i64 0] 38 by have := Blk.new w #[.int .i64 0, .int .i64 0, .bool false, .int .i64 0] 38; simpa using this)
  go_wp2_with fail
  refine (pick_c B a (8) _ _ HR1.out (by omega) (by omega) (by omega)).mono ?_
  rintro e w1 ⟨x1, rfl, hp, hR, hg⟩
  have hx1 := pk_bd hp 10 (by omega) (by omega)
  clear hp
  have HR2 := hid hR
  have HG2 := hid (grown_trans HG1.out hg)
  have HQ_2 := hid (HQ_1.out.grown hg (fun e => by injection e with e; omega))
  have hs2 := hg.size
  (try simp only [World.size_alloc, World.size_setCell] at hs2)
  clear hR hg
  try clear c_Q f_Q l_Q
  have c_Q := fun (o : Nat) => HQ_2.out.cell o
  have f_Q := fun (o : Nat) => HQ_2.out.frz o
  have l_Q := HQ_2.out.lt
  go_wp2_with fail
  refine (pick_c B a (8) _ _ HR2.out (by omega) (by omega) (by omega)).mono ?_
  rintro e w2 ⟨x2, rfl, hp, hR, hg⟩
  have hx2 := pk_bd hp 10 (by omega) (by omega)
  clear hp
  have HR3 := hid hR
  have HG3 := hid (grown_trans HG2.out hg)
  have HQ_3 := hid (HQ_2.out.grown hg (fun e => by injection e with e; omega))
  have hs3 := hg.size
  (try simp only [World.size_alloc, World.size_setCell] at hs3)
  clear hR hg
  try clear c_Q f_Q l_Q
  have c_Q := fun (o : Nat) => HQ_3.out.cell o
  have f_Q := fun (o : Nat) => HQ_3.out.frz o
  have l_Q := HQ_3.out.lt
  go_wp2_with fail
  refine (pick_c B a (2) _ _ HR3.out (by omega) (by omega) (by omega)).mono ?_
  rintro e w3 ⟨x3, rfl, hp, hR, hg⟩
  have hx3 := pk_bd hp 10 (by omega) (by omega)
  clear hp
  have HR4 := hid hR
  have HG4 := hid (grown_trans HG3.out hg)
  have HQ_4 := hid (HQ_3.out.grown hg (fun e => by injection e with e; omega))
  have hs4 := hg.size
  (try simp only [World.size_alloc, World.size_setCell] at hs4)
  clear hR hg
  try clear c_Q f_Q l_Q
  have c_Q := fun (o : Nat) => HQ_4.out.cell o
  have f_Q := fun (o : Nat) => HQ_4.out.frz o
  have l_Q := HQ_4.out.lt
  go_wp2_with fail
  refine (pick_c B a (3) _ _ HR4.out (by omega) (by omega) (by omega)).mono ?_
  rintro e w4 ⟨x4, rfl, hp, hR, hg⟩
  have hx4 := pk_bd hp 10 (by omega) (by omega)
  clear hp
  have HR5 := hid hR
  have HG5 := hid (grown_trans HG4.out hg)
  have HQ_5 := hid (HQ_4.out.grown hg (fun e => by injection e with e; omega))
  have hs5 := hg.size
  (try simp only [World.size_alloc, World.size_setCell] at hs5)
  clear hR hg
  try clear c_Q f_Q l_Q
  have c_Q := fun (o : Nat) => HQ_5.out.cell o
  have f_Q := fun (o : Nat) => HQ_5.out.frz o
  have l_Q := HQ_5.out.lt
  go_wp2
  have HR6 := hid (HR5.out.set (q := w.heap.size) (by omega) (by omega) 0 (.int .i64 (1 + x1)))
  have HG6 := hid (gr_set (q := w.heap.size) HG5.out (by omega) 0 (.int .i64 (1 + x1)))
  have HQ_6 := hid (HQ_5.out.set 0 (.int .i64 (1 + x1)))
  have HQ_6n := hid (show Blk _ (w.heap.size) #[.int .i64 (1 + x1), .int .i64 0, .bool false, .int .i64 0] 38 by have := HQ_6.out; simpa using this)
  have HR7 := hid (HR6.out.set (q := w.heap.size) (by omega) (by omega) 1 (.int .i64 (1 + x2)))
  have HG7 := hid (gr_set (q := w.heap.size) HG6.out (by omega) 1 (.int .i64 (1 + x2)))
  have HQ_7 := hid (HQ_6n.out.set 1 (.int .i64 (1 + x2)))
  have HQ_7n := hid (show Blk _ (w.heap.size) #[.int .i64 (1 + x1), .int .i64 (1 + x2), .bool false, .int .i64 0] 38 by have := HQ_7.out; simpa using this)
  have HR8 := hid (HR7.out.set (q := w.heap.size) (by omega) (by omega) 2 (.bool (x3 == 0)))
  have HG8 := hid (gr_set (q := w.heap.size) HG7.out (by omega) 2 (.bool (x3 == 0)))
  have HQ_8 := hid (HQ_7n.out.set 2 (.bool (x3 == 0)))
  have HQ_8n := hid (show Blk _ (w.heap.size) #[.int .i64 (1 + x1), .int .i64 (1 + x2), .bool (x3 == 0), .int .i64 0] 38 by have := HQ_8.out; simpa using this)
  have HR9 := hid (HR8.out.set (q := w.heap.size) (by omega) (by omega) 3 (.int .i64 x4))
  have HG9 := hid (gr_set (q := w.heap.size) HG8.out (by omega) 3 (.int .i64 x4))
  have HQ_9 := hid (HQ_8n.out.set 3 (.int .i64 x4))
  have HQ_9n := hid (show Blk _ (w.heap.size) #[.int .i64 (1 + x1), .int .i64 (1 + x2), .bool (x3 == 0), .int .i64 x4] 38 by have := HQ_9.out; simpa using this)
  refine bodyPost_ret (v := .agg #[.int .i64 (1 + x1), .int .i64 (1 + x2), .bool (x3 == 0), .int .i64 x4]) (by simp [results, Try.results57, go_sem, c_Q]) rfl ⟨⟨1 + x1, 1 + x2, x3 == 0, x4⟩, rfl, HR9.out.up (by omega), HG9.out⟩

set_option maxHeartbeats 3200000 in
set_option maxRecDepth 100000 in
theorem anyPane_c (B a : Nat) (m : Int) (w : World) (h : Rd B w a m) (hm : m ≤ 800000) : Calls Try.prog 54 #[.pointer (some ⟨a, 0, none⟩)] w (PaneDr B a (m + 8) w) := by
  have HR0 := hid h
  have HG0 := hid (World.grownBy.refl w (some a))
  have hla := h.lt
  have hlo := h.lo
  clear h
  go_enter Try.func54, Try.ntmps54
  have HR1 := hid (HR0.out.alloc (.cells #[.int .i64 0, .int .i64 0, .bool false, .int .i64 0] 38))
  have HG1 := hid (gr_alloc HG0.out (.cells #[.int .i64 0, .int .i64 0, .bool false, .int .i64 0] 38))
  have HQ_1 := hid (show Blk (w.alloc (.cells #[.int .i64 0, .int .i64 0, .bool false, .int .i64 0] 38)) (w.heap.size) #[.int .i64 0, .int .i64 0, .bool false, .int .i64 0] 38 by have := Blk.new w #[.int .i64 0, .int .i64 0, .bool false, .int .i64 0] 38; simpa using this)
  go_wp2_with fail
  refine (somePane_c B a _ _ HR1.out (by omega)).mono ?_
  rintro e w1 ⟨b1, rfl, hR, hg⟩
  have HR2 := hid hR
  have HG2 := hid (grown_trans HG1.out hg)
  have HQ_2 := hid (HQ_1.out.grown hg (fun e => by injection e with e; omega))
  have hs2 := hg.size
  (try simp only [World.size_alloc, World.size_setCell] at hs2)
  clear hR hg
  try clear c_Q f_Q l_Q
  have c_Q := fun (o : Nat) => HQ_2.out.cell o
  have f_Q := fun (o : Nat) => HQ_2.out.frz o
  have l_Q := HQ_2.out.lt
  have HR3 := hid (HR2.out.alloc (.cells #[.int .i64 b1.w, .int .i64 b1.h, .bool b1.t, .int .i64 b1.k] 38))
  have HG3 := hid (gr_alloc HG2.out (.cells #[.int .i64 b1.w, .int .i64 b1.h, .bool b1.t, .int .i64 b1.k] 38))
  have HQ_3 := hid (HQ_2.out.alloc (.cells #[.int .i64 b1.w, .int .i64 b1.h, .bool b1.t, .int .i64 b1.k] 38))
  have Hb_3 := hid (show Blk (w1.alloc (.cells #[.int .i64 b1.w, .int .i64 b1.h, .bool b1.t, .int .i64 b1.k] 38)) (w1.heap.size) #[.int .i64 b1.w, .int .i64 b1.h, .bool b1.t, .int .i64 b1.k] 38 by have := Blk.new w1 #[.int .i64 b1.w, .int .i64 b1.h, .bool b1.t, .int .i64 b1.k] 38; simpa using this)
  go_wp2_with fail
  refine (pick_c B a (16) _ _ HR3.out (by omega) (by omega) (by omega)).mono ?_
  rintro e w2 ⟨x3, rfl, hp, hR, hg⟩
  have hx3 := pk_bd hp 1000 (by omega) (by omega)
  clear hp
  have HR4 := hid hR
  have HG4 := hid (grown_trans HG3.out hg)
  have HQ_4 := hid (HQ_3.out.grown hg (fun e => by injection e with e; omega))
  have Hb_4 := hid (Hb_3.out.grown hg (fun e => by injection e with e; omega))
  have hs4 := hg.size
  (try simp only [World.size_alloc, World.size_setCell] at hs4)
  clear hR hg
  try clear c_Q f_Q l_Q
  have c_Q := fun (o : Nat) => HQ_4.out.cell o
  have f_Q := fun (o : Nat) => HQ_4.out.frz o
  have l_Q := HQ_4.out.lt
  try clear c_b f_b l_b
  have c_b := fun (o : Nat) => Hb_4.out.cell o
  have f_b := fun (o : Nat) => Hb_4.out.frz o
  have l_b := Hb_4.out.lt
  have hcase : ((x3 == 0) = true) ∨ ((x3 == 0) = false ∧ (x3 == 1) = true) ∨ ((x3 == 0) = false ∧ (x3 == 1) = false) := by simp only [beq_iff_eq, beq_eq_false_iff_ne]; omega
  rcases hcase with e0 | ⟨e0, e1⟩ | ⟨e0, e1⟩
  · have ZL := hid (lit_row (w2) (w2.heap.size) (by simp) #[.int .i64 0, .int .i64 201, .int .i64 200] [0, 201, 200] 3 rfl rfl (by simp [maxLen]))
    have HR5 := hid (HR4.out.alloc (.cells #[.int .i64 0, .int .i64 201, .int .i64 200] 3))
    have HG5 := hid (gr_alloc HG4.out (.cells #[.int .i64 0, .int .i64 201, .int .i64 200] 3))
    have HQ_5 := hid (HQ_4.out.alloc (.cells #[.int .i64 0, .int .i64 201, .int .i64 200] 3))
    have Hb_5 := hid (Hb_4.out.alloc (.cells #[.int .i64 0, .int .i64 201, .int .i64 200] 3))
    go_wp2_with fail
    refine (one_c B a _ [0, 201, 200] _ _ HR5.out ZL.out (by simp [Value.ownBlock]; omega) (by simp) (by simp) (by omega)).mono ?_
    rintro e w3 ⟨x4, rfl, hp, hR, hg⟩
    have hx4 : 0 ≤ x4 ∧ x4 ≤ 201 := by simp at hp; omega
    clear hp ZL
    have HR6 := hid hR
    have HG6 := hid (grown_trans HG5.out hg)
    have HQ_6 := hid (HQ_5.out.grown hg (fun e => by injection e with e; omega))
    have Hb_6 := hid (Hb_5.out.grown hg (fun e => by injection e with e; omega))
    have hs6 := hg.size
    (try simp only [World.size_alloc, World.size_setCell] at hs6)
    clear hR hg
    try clear c_Q f_Q l_Q
    have c_Q := fun (o : Nat) => HQ_6.out.cell o
    have f_Q := fun (o : Nat) => HQ_6.out.frz o
    have l_Q := HQ_6.out.lt
    try clear c_b f_b l_b
    have c_b := fun (o : Nat) => Hb_6.out.cell o
    have f_b := fun (o : Nat) => Hb_6.out.frz o
    have l_b := Hb_6.out.lt
    have HR7 := hid (HR6.out.set (q := w1.heap.size) (by omega) (by omega) 0 (.int .i64 x4))
    have HG7 := hid (gr_set (q := w1.heap.size) HG6.out (by omega) 0 (.int .i64 x4))
    have HQ_7 := hid (HQ_6.out.setO (p := ⟨w1.heap.size, 0, none⟩) (by simp; omega) (.int .i64 x4))
    have Hb_7 := hid (Hb_6.out.set 0 (.int .i64 x4))
    have Hb_7n := hid (show Blk _ (w1.heap.size) #[.int .i64 x4, .int .i64 b1.h, .bool b1.t, .int .i64 b1.k] 38 by have := Hb_7.out; simpa using this)
    go_wp2
    have HR8 := hid (HR7.out.set (q := w.heap.size) (by omega) (by omega) 0 (.int .i64 x4))
    have HG8 := hid (gr_set (q := w.heap.size) HG7.out (by omega) 0 (.int .i64 x4))
    have HQ_8 := hid (HQ_7.out.set 0 (.int .i64 x4))
    have Hb_8 := hid (Hb_7n.out.setO (p := ⟨w.heap.size, 0, none⟩) (by simp; omega) (.int .i64 x4))
    have HQ_8n := hid (show Blk _ (w.heap.size) #[.int .i64 x4, .int .i64 0, .bool false, .int .i64 0] 38 by have := HQ_8.out; simpa using this)
    have HR9 := hid (HR8.out.set (q := w.heap.size) (by omega) (by omega) 1 (.int .i64 b1.h))
    have HG9 := hid (gr_set (q := w.heap.size) HG8.out (by omega) 1 (.int .i64 b1.h))
    have HQ_9 := hid (HQ_8n.out.set 1 (.int .i64 b1.h))
    have Hb_9 := hid (Hb_8.out.setO (p := ⟨w.heap.size, 1, none⟩) (by simp; omega) (.int .i64 b1.h))
    have HQ_9n := hid (show Blk _ (w.heap.size) #[.int .i64 x4, .int .i64 b1.h, .bool false, .int .i64 0] 38 by have := HQ_9.out; simpa using this)
    have HR10 := hid (HR9.out.set (q := w.heap.size) (by omega) (by omega) 2 (.bool b1.t))
    have HG10 := hid (gr_set (q := w.heap.size) HG9.out (by omega) 2 (.bool b1.t))
    have HQ_10 := hid (HQ_9n.out.set 2 (.bool b1.t))
    have Hb_10 := hid (Hb_9.out.setO (p := ⟨w.heap.size, 2, none⟩) (by simp; omega) (.bool b1.t))
    have HQ_10n := hid (show Blk _ (w.heap.size) #[.int .i64 x4, .int .i64 b1.h, .bool b1.t, .int .i64 0] 38 by have := HQ_10.out; simpa using this)
    have HR11 := hid (HR10.out.set (q := w.heap.size) (by omega) (by omega) 3 (.int .i64 b1.k))
    have HG11 := hid (gr_set (q := w.heap.size) HG10.out (by omega) 3 (.int .i64 b1.k))
    have HQ_11 := hid (HQ_10n.out.set 3 (.int .i64 b1.k))
    have Hb_11 := hid (Hb_10.out.setO (p := ⟨w.heap.size, 3, none⟩) (by simp; omega) (.int .i64 b1.k))
    have HQ_11n := hid (show Blk _ (w.heap.size) #[.int .i64 x4, .int .i64 b1.h, .bool b1.t, .int .i64 b1.k] 38 by have := HQ_11.out; simpa using this)
    refine bodyPost_ret (v := .agg #[.int .i64 x4, .int .i64 b1.h, .bool b1.t, .int .i64 b1.k]) (by simp [results, Try.results54, go_sem, c_Q]) rfl ⟨⟨x4, b1.h, b1.t, b1.k⟩, rfl, HR11.out.up (by omega), HG11.out⟩
  · have ZL := hid (lit_row (w2) (w2.heap.size) (by simp) #[.int .i64 (-1), .int .i64 10, .int .i64 9] [-1, 10, 9] 3 rfl rfl (by simp [maxLen]))
    have HR5 := hid (HR4.out.alloc (.cells #[.int .i64 (-1), .int .i64 10, .int .i64 9] 3))
    have HG5 := hid (gr_alloc HG4.out (.cells #[.int .i64 (-1), .int .i64 10, .int .i64 9] 3))
    have HQ_5 := hid (HQ_4.out.alloc (.cells #[.int .i64 (-1), .int .i64 10, .int .i64 9] 3))
    have Hb_5 := hid (Hb_4.out.alloc (.cells #[.int .i64 (-1), .int .i64 10, .int .i64 9] 3))
    go_wp2_with fail
    refine (one_c B a _ [-1, 10, 9] _ _ HR5.out ZL.out (by simp [Value.ownBlock]; omega) (by simp) (by simp) (by omega)).mono ?_
    rintro e w3 ⟨x4, rfl, hp, hR, hg⟩
    have hx4 : -1 ≤ x4 ∧ x4 ≤ 10 := by simp at hp; omega
    clear hp ZL
    have HR6 := hid hR
    have HG6 := hid (grown_trans HG5.out hg)
    have HQ_6 := hid (HQ_5.out.grown hg (fun e => by injection e with e; omega))
    have Hb_6 := hid (Hb_5.out.grown hg (fun e => by injection e with e; omega))
    have hs6 := hg.size
    (try simp only [World.size_alloc, World.size_setCell] at hs6)
    clear hR hg
    try clear c_Q f_Q l_Q
    have c_Q := fun (o : Nat) => HQ_6.out.cell o
    have f_Q := fun (o : Nat) => HQ_6.out.frz o
    have l_Q := HQ_6.out.lt
    try clear c_b f_b l_b
    have c_b := fun (o : Nat) => Hb_6.out.cell o
    have f_b := fun (o : Nat) => Hb_6.out.frz o
    have l_b := Hb_6.out.lt
    have HR7 := hid (HR6.out.set (q := w1.heap.size) (by omega) (by omega) 3 (.int .i64 x4))
    have HG7 := hid (gr_set (q := w1.heap.size) HG6.out (by omega) 3 (.int .i64 x4))
    have HQ_7 := hid (HQ_6.out.setO (p := ⟨w1.heap.size, 3, none⟩) (by simp; omega) (.int .i64 x4))
    have Hb_7 := hid (Hb_6.out.set 3 (.int .i64 x4))
    have Hb_7n := hid (show Blk _ (w1.heap.size) #[.int .i64 b1.w, .int .i64 b1.h, .bool b1.t, .int .i64 x4] 38 by have := Hb_7.out; simpa using this)
    go_wp2
    have HR8 := hid (HR7.out.set (q := w.heap.size) (by omega) (by omega) 0 (.int .i64 b1.w))
    have HG8 := hid (gr_set (q := w.heap.size) HG7.out (by omega) 0 (.int .i64 b1.w))
    have HQ_8 := hid (HQ_7.out.set 0 (.int .i64 b1.w))
    have Hb_8 := hid (Hb_7n.out.setO (p := ⟨w.heap.size, 0, none⟩) (by simp; omega) (.int .i64 b1.w))
    have HQ_8n := hid (show Blk _ (w.heap.size) #[.int .i64 b1.w, .int .i64 0, .bool false, .int .i64 0] 38 by have := HQ_8.out; simpa using this)
    have HR9 := hid (HR8.out.set (q := w.heap.size) (by omega) (by omega) 1 (.int .i64 b1.h))
    have HG9 := hid (gr_set (q := w.heap.size) HG8.out (by omega) 1 (.int .i64 b1.h))
    have HQ_9 := hid (HQ_8n.out.set 1 (.int .i64 b1.h))
    have Hb_9 := hid (Hb_8.out.setO (p := ⟨w.heap.size, 1, none⟩) (by simp; omega) (.int .i64 b1.h))
    have HQ_9n := hid (show Blk _ (w.heap.size) #[.int .i64 b1.w, .int .i64 b1.h, .bool false, .int .i64 0] 38 by have := HQ_9.out; simpa using this)
    have HR10 := hid (HR9.out.set (q := w.heap.size) (by omega) (by omega) 2 (.bool b1.t))
    have HG10 := hid (gr_set (q := w.heap.size) HG9.out (by omega) 2 (.bool b1.t))
    have HQ_10 := hid (HQ_9n.out.set 2 (.bool b1.t))
    have Hb_10 := hid (Hb_9.out.setO (p := ⟨w.heap.size, 2, none⟩) (by simp; omega) (.bool b1.t))
    have HQ_10n := hid (show Blk _ (w.heap.size) #[.int .i64 b1.w, .int .i64 b1.h, .bool b1.t, .int .i64 0] 38 by have := HQ_10.out; simpa using this)
    have HR11 := hid (HR10.out.set (q := w.heap.size) (by omega) (by omega) 3 (.int .i64 x4))
    have HG11 := hid (gr_set (q := w.heap.size) HG10.out (by omega) 3 (.int .i64 x4))
    have HQ_11 := hid (HQ_10n.out.set 3 (.int .i64 x4))
    have Hb_11 := hid (Hb_10.out.setO (p := ⟨w.heap.size, 3, none⟩) (by simp; omega) (.int .i64 x4))
    have HQ_11n := hid (show Blk _ (w.heap.size) #[.int .i64 b1.w, .int .i64 b1.h, .bool b1.t, .int .i64 x4] 38 by have := HQ_11.out; simpa using this)
    refine bodyPost_ret (v := .agg #[.int .i64 b1.w, .int .i64 b1.h, .bool b1.t, .int .i64 x4]) (by simp [results, Try.results54, go_sem, c_Q]) rfl ⟨⟨b1.w, b1.h, b1.t, x4⟩, rfl, HR11.out.up (by omega), HG11.out⟩
  · go_wp2
    have HR5 := hid (HR4.out.set (q := w.heap.size) (by omega) (by omega) 0 (.int .i64 b1.w))
    have HG5 := hid (gr_set (q := w.heap.size) HG4.out (by omega) 0 (.int .i64 b1.w))
    have HQ_5 := hid (HQ_4.out.set 0 (.int .i64 b1.w))
    have Hb_5 := hid (Hb_4.out.setO (p := ⟨w.heap.size, 0, none⟩) (by simp; omega) (.int .i64 b1.w))
    have HQ_5n := hid (show Blk _ (w.heap.size) #[.int .i64 b1.w, .int .i64 0, .bool false, .int .i64 0] 38 by have := HQ_5.out; simpa using this)
    have HR6 := hid (HR5.out.set (q := w.heap.size) (by omega) (by omega) 1 (.int .i64 b1.h))
    have HG6 := hid (gr_set (q := w.heap.size) HG5.out (by omega) 1 (.int .i64 b1.h))
    have HQ_6 := hid (HQ_5n.out.set 1 (.int .i64 b1.h))
    have Hb_6 := hid (Hb_5.out.setO (p := ⟨w.heap.size, 1, none⟩) (by simp; omega) (.int .i64 b1.h))
    have HQ_6n := hid (show Blk _ (w.heap.size) #[.int .i64 b1.w, .int .i64 b1.h, .bool false, .int .i64 0] 38 by have := HQ_6.out; simpa using this)
    have HR7 := hid (HR6.out.set (q := w.heap.size) (by omega) (by omega) 2 (.bool b1.t))
    have HG7 := hid (gr_set (q := w.heap.size) HG6.out (by omega) 2 (.bool b1.t))
    have HQ_7 := hid (HQ_6n.out.set 2 (.bool b1.t))
    have Hb_7 := hid (Hb_6.out.setO (p := ⟨w.heap.size, 2, none⟩) (by simp; omega) (.bool b1.t))
    have HQ_7n := hid (show Blk _ (w.heap.size) #[.int .i64 b1.w, .int .i64 b1.h, .bool b1.t, .int .i64 0] 38 by have := HQ_7.out; simpa using this)
    have HR8 := hid (HR7.out.set (q := w.heap.size) (by omega) (by omega) 3 (.int .i64 b1.k))
    have HG8 := hid (gr_set (q := w.heap.size) HG7.out (by omega) 3 (.int .i64 b1.k))
    have HQ_8 := hid (HQ_7n.out.set 3 (.int .i64 b1.k))
    have Hb_8 := hid (Hb_7.out.setO (p := ⟨w.heap.size, 3, none⟩) (by simp; omega) (.int .i64 b1.k))
    have HQ_8n := hid (show Blk _ (w.heap.size) #[.int .i64 b1.w, .int .i64 b1.h, .bool b1.t, .int .i64 b1.k] 38 by have := HQ_8.out; simpa using this)
    refine bodyPost_ret (v := .agg #[.int .i64 b1.w, .int .i64 b1.h, .bool b1.t, .int .i64 b1.k]) (by simp [results, Try.results54, go_sem, c_Q]) rfl ⟨⟨b1.w, b1.h, b1.t, b1.k⟩, rfl, HR8.out.up (by omega), HG8.out⟩

/-- What a call answers that draws an order. -/
def OrdDraw (B a : Nat) (m : Int) (n : Nat) (w : World) (e : Ending) (w' : World) : Prop := ∃ (v : Value) (L : List Ln), e = .returned v ∧ L.length ≤ n ∧ (∀ l ∈ L, -100000 ≤ l.c ∧ l.c ≤ 100000) ∧ Own lineE 56 w.heap.size w' v L ∧ Rd B w' a m ∧ w.grownBy w' (some a)

set_option maxHeartbeats 6400000 in
set_option maxRecDepth 100000 in
theorem someOrder_c (B a : Nat) (m : Int) (w : World) (h : Rd B w a m) (hm : m ≤ 700000) : Calls Try.prog 53 #[.pointer (some ⟨a, 0, none⟩)] w (OrdDraw B a (m + 40) 4 w) := by
  obtain ⟨i0, hi0, hz0, hz1, hz2⟩ := info_parts line_info
  have HR0 := hid h
  have HG0 := hid (World.grownBy.refl w (some a))
  have hla := h.lt
  have hlo := h.lo
  clear h
  go_enter Try.func53, Try.ntmps53
  have HS0 := hid (Own.lit0 lineE w w.heap.size 56 (Nat.le_refl w.heap.size))
  have HR1 := hid (HR0.out.alloc (.cells #[] 56))
  have HG1 := hid (gr_alloc HG0.out (.cells #[] 56))
  have ZL := hid (lit_row (w.alloc (.cells #[] 56)) (w.heap.size + 1) (by simp) #[.int .i64 2, .int .i64 3, .int .i64 1, .int .i64 4, .int .i64 0] [2, 3, 1, 4, 0] 5 rfl rfl (by simp [maxLen]))
  have HS0b := hid (HS0.out.alloc (.cells #[.int .i64 2, .int .i64 3, .int .i64 1, .int .i64 4, .int .i64 0] 3))
  have HR2 := hid (HR1.out.alloc (.cells #[.int .i64 2, .int .i64 3, .int .i64 1, .int .i64 4, .int .i64 0] 3))
  have HG2 := hid (gr_alloc HG1.out (.cells #[.int .i64 2, .int .i64 3, .int .i64 1, .int .i64 4, .int .i64 0] 3))
  go_wp2_with fail
  refine (one_c B a _ [2, 3, 1, 4, 0] _ _ HR2.out ZL.out (by simp [Value.ownBlock]; omega) (by simp) (by simp) (by omega)).mono ?_
  rintro e w1 ⟨x1, rfl, hp, hR, hg⟩
  have hx1 : 0 ≤ x1 ∧ x1 ≤ 4 := by simp at hp; omega
  have HR3 := hid hR
  have HG3 := hid (grown_trans HG2.out hg)
  have HS1 := hid (HS0b.out.kept hg (own_na HS0b.out (by omega)))
  clear hp hR hg
  go_wp2
  go_loopw [3, 4] (fun o i wr => ∃ k : Int, ∃ L : List Ln, i = .int .i64 k ∧ 0 ≤ k ∧ k ≤ 4 ∧ (L.length : Int) ≤ 4 - k ∧ (∀ l ∈ L, -(1000 * (4 - k)) ≤ l.c ∧ l.c ≤ 1000 * (4 - k)) ∧ Own lineE 56 w.heap.size wr o L ∧ Rd B wr a (m + 1 + 5 * (4 - k)) ∧ w.grownBy wr (some a)) (fun _ i _ => (intOf i).toNat)
  case atStart => exact ⟨x1, [], rfl, by omega, by omega, by simp; omega, by simp, HS1.out, HR3.out.up (by omega), HG3.out⟩
  case round =>
    obtain ⟨k, L, rfl, hk0, hk1, hL, hT, hst, hR, hG⟩ := hrel
    have HST := hid hst
    have HRr := hid hR
    have HGr := hid hG
    have HT := hid hT
    clear hst hR hG hT
    by_cases hk : 0 < k
    · go_wp2_with fail
      refine (somePane_c B a _ _ HRr.out (by omega)).mono ?_
      rintro e w2 ⟨b, rfl, hR, hg⟩
      have HST2 := hid (HST.out.kept hg (own_na HST.out hla))
      have HR2 := hid hR
      have HG2 := hid (grown_trans HGr.out hg)
      clear hR hg
      go_wp2_with fail
      refine (pick_c B a 4 _ _ HR2.out (by omega) (by omega) (by omega)).mono ?_
      rintro e w3 ⟨x, rfl, hp, hR, hg⟩
      have hx := pk_bd hp 10 (by omega) (by omega)
      have HST3 := hid (HST2.out.kept hg (own_na HST2.out hla))
      have HR3 := hid hR
      have HG3 := hid (grown_trans HG2.out hg)
      have HRW := hid HST3.out.rowB
      have HT2 : Hid (∀ l ∈ L, -100000 ≤ l.c ∧ l.c ≤ 100000) := fun l hl => by have := HT.out l hl; omega
      clear hp hR hg
      go_wp2_with fail
      refine (saddPanes_c _ L b (1 + x) _ HRW.out (by omega) HT2.out (by omega)).mono ?_
      rintro e w4 ⟨v4, rfl, ho4, hb4⟩
      have HO4 := hid (ho4.base_le HG3.out.size)
      have HR4 := hid (HR3.out.below hb4)
      have HG4 := hid (gr_below HG3.out hb4)
      have hl4 : ((addL L b (1 + x)).length : Int) ≤ 4 - (k - 1) := by have := (addL_len L b (1 + x)).1; omega
      have HT4 : Hid (∀ l ∈ addL L b (1 + x), -(1000 * (4 - (k - 1))) ≤ l.c ∧ l.c ≤ 1000 * (4 - (k - 1))) := fun l hl => by
        have := addL_bd (B := 1000 * (4 - k)) (by omega) HT.out (by omega) l hl
        omega
      clear ho4 hb4
      go_wp2
      exact ⟨⟨k - 1, _, by go_num, by omega, by omega, hl4, HT4.out, HO4.out, HR4.out.up (by omega), HG4.out⟩, by simp [intOf]; omega⟩
    · go_wp2
      go_ret
      exact ⟨_, L, rfl, by omega, fun l hl => by have := HT.out l hl; omega, HST.out, HRr.out.up (by omega), HGr.out⟩

theorem own_count {e : TypeId} {base g n cap : Nat} {w : World} {L : List Ln} (h : Own lineE e base w (.slice (some ⟨g, 0, none⟩) n cap) L) (k : Nat) (c : Int) (hn : n = L.length) (hk : k < L.length) :
    Own lineE e base (w.setCell ⟨g, k * 5 + 4, none⟩ (.int .i64 c)) (.slice (some ⟨g, 0, none⟩) n cap) (L.set k (L[k].p.ln c)) ∧ w.grownBy (w.setCell ⟨g, k * 5 + 4, none⟩ (.int .i64 c)) (some g) :=
  h.field k 4 (.int .i64 c) (L[k].p.ln c) hn hk (by decide) rfl
theorem own_pane {e : TypeId} {base g n cap : Nat} {w : World} {L : List Ln} (h : Own lineE e base w (.slice (some ⟨g, 0, none⟩) n cap) L) (k : Nat) (p : Pn) (hn : n = L.length) (hk : k < L.length) :
    Own lineE e base ((((w.setCell ⟨g, k * 5, none⟩ (.int .i64 p.w)).setCell ⟨g, k * 5 + 1, none⟩ (.int .i64 p.h)).setCell ⟨g, k * 5 + 2, none⟩ (.bool p.t)).setCell ⟨g, k * 5 + 3, none⟩ (.int .i64 p.k)) (.slice (some ⟨g, 0, none⟩) n cap) (L.set k (p.ln L[k].c)) := by
  obtain ⟨h1, -⟩ := h.field k 0 (.int .i64 p.w) (⟨p.w, L[k].h, L[k].t, L[k].k, L[k].c⟩ : Ln) hn hk (by decide) rfl
  obtain ⟨h2, -⟩ := h1.field k 1 (.int .i64 p.h) (⟨p.w, p.h, L[k].t, L[k].k, L[k].c⟩ : Ln) (by simpa using hn) (by simpa using hk) (by decide) (by rw [List.getElem_set_self]; rfl)
  obtain ⟨h3, -⟩ := h2.field k 2 (.bool p.t) (⟨p.w, p.h, p.t, L[k].k, L[k].c⟩ : Ln) (by simpa using hn) (by simpa using hk) (by decide) (by rw [List.getElem_set_self]; rfl)
  obtain ⟨h4, -⟩ := h3.field k 3 (.int .i64 p.k) (p.ln L[k].c) (by simpa using hn) (by simpa using hk) (by decide) (by rw [List.getElem_set_self]; rfl)
  simp only [List.set_set] at h4
  exact h4
theorem set_cnt {L : List Ln} {k : Nat} {x : Ln} (h : ∀ l ∈ L, -100000 ≤ l.c ∧ l.c ≤ 100000) (hx : -100000 ≤ x.c ∧ x.c ≤ 100000) : ∀ l ∈ L.set k x, -100000 ≤ l.c ∧ l.c ≤ 100000 := fun l hl => by
  rcases List.mem_or_eq_of_mem_set hl with h1 | rfl
  · exact h l h1
  · exact hx

set_option maxHeartbeats 6400000 in
set_option maxRecDepth 100000 in
theorem anyOrder_c (B a : Nat) (m : Int) (w : World) (h : Rd B w a m) (hm : m ≤ 600000) : Calls Try.prog 42 #[.pointer (some ⟨a, 0, none⟩)] w (OrdDraw B a (m + 80) 5 w) := by
  obtain ⟨i0, hi0, hz0, hz1, hz2⟩ := info_parts line_info
  have HR0 := hid h
  have hla := h.lt
  have hlo := h.lo
  clear h
  go_enter Try.func42, Try.ntmps42
  go_wp2_with fail
  refine (someOrder_c B a _ _ HR0.out (by omega)).mono ?_
  rintro e w1 ⟨v1, L, rfl, hl, ht, ho, hR, hg⟩
  have HR1 := hid hR
  have HG1 := hid hg
  have HO1 := hid ho
  have HT := hid ht
  have hs1 := hg.size
  obtain ⟨A, cap, rfl, hcap, hmc, hA⟩ := ho.shape
  unfold maxLen at hmc
  have HAA := hid hA
  clear hR hg ho ht hA
  by_cases hL : 0 < L.length
  · obtain ⟨g, rfl, hg1, hg2⟩ := HAA.out hL
    go_wp2_with fail
    refine (pick_c B a L.length _ _ HR1.out (by omega) (by omega) (by omega)).mono ?_
    rintro e w2 ⟨y, rfl, hp, hR, hg⟩
    have hy : 0 ≤ y ∧ y < L.length := by obtain ⟨h1, h2⟩ := hp; omega
    have HR2 := hid hR
    have HG2 := hid (grown_trans HG1.out hg)
    have HO2 := hid (HO1.out.kept hg (own_na HO1.out hla))
    clear hp hR hg
    obtain ⟨k, rfl⟩ := Int.eq_ofNat_of_zero_le hy.1
    have hk : k < L.length := by omega
    clear hy
    go_wp2_with fail
    refine (pick_c B a 20 _ _ HR2.out (by omega) (by omega) (by omega)).mono ?_
    rintro e w3 ⟨z, rfl, hp, hR, hg⟩
    have hz := pk_bd hp 30 (by omega) (by omega)
    have HR3 := hid hR
    have HG3 := hid (grown_trans HG2.out hg)
    have HO3 := hid (HO2.out.kept hg (own_na HO2.out hla))
    have hs3 := HG3.out.size
    clear hp hR hg
    have hcase : ((z == 0) = true) ∨ ((z == 0) = false ∧ (z == 1) = true) ∨ ((z == 0) = false ∧ (z == 1) = false ∧ (z == 2) = true) ∨ ((z == 0) = false ∧ (z == 1) = false ∧ (z == 2) = false) := by simp only [beq_iff_eq, beq_eq_false_iff_ne]; omega
    rcases hcase with e0 | ⟨e0, e1⟩ | ⟨e0, e1, e2⟩ | ⟨e0, e1, e2⟩
    · have ZL := hid (lit_row w3 w3.heap.size rfl #[.int .i64 0, .int .i64 25, .int .i64 24] [0, 25, 24] 3 rfl rfl (by simp [maxLen]))
      have HR4 := hid (HR3.out.alloc (.cells #[.int .i64 0, .int .i64 25, .int .i64 24] 3))
      have HG4 := hid (gr_alloc HG3.out (.cells #[.int .i64 0, .int .i64 25, .int .i64 24] 3))
      have HO4 := hid (HO3.out.alloc (.cells #[.int .i64 0, .int .i64 25, .int .i64 24] 3))
      go_wp2_with fail
      refine (one_c B a _ [0, 25, 24] _ _ HR4.out ZL.out (by simp [Value.ownBlock]; omega) (by simp) (by simp) (by omega)).mono ?_
      rintro e w4 ⟨x4, rfl, hp, hR, hg⟩
      have hx4 : 0 ≤ x4 ∧ x4 ≤ 25 := by simp at hp; omega
      have HR5 := hid hR
      have HG5 := hid (grown_trans HG4.out hg)
      have HO5 := hid (HO4.out.kept hg (own_na HO4.out hla))
      clear hp hR hg
      have hf5 := HO5.out.frozen rfl (k * 5 + 4)
      have hy5 : w4.cell? ⟨g, k * 5 + 4, none⟩ = some (.int .i64 L[k].c) := HO5.out.cellAt rfl k 4 hk (by decide)
      obtain ⟨ho6, hg6⟩ := own_count HO5.out k x4 rfl hk
      have HO6 := hid ho6
      have HR6 := hid (HR5.out.grown hg6 (fun q hq => by injection hq with hq; omega))
      have HG6 := hid (gr_step HG5.out hg6 (fun q hq => by injection hq with hq; omega))
      clear ho6 hg6
      go_wp2
      go_ret
      exact ⟨_, _, rfl, by simp; omega, set_cnt HT.out (by simp only [Pn.ln]; omega), HO6.out, HR6.out.up (by omega), HG6.out⟩
    · have y0 : w3.cell? ⟨g, k * 5, none⟩ = some (.int .i64 L[k].w) := HO3.out.cellAt rfl k 0 hk (by decide)
      have y1 : w3.cell? ⟨g, k * 5 + 1, none⟩ = some (.int .i64 L[k].h) := HO3.out.cellAt rfl k 1 hk (by decide)
      have y2 : w3.cell? ⟨g, k * 5 + 2, none⟩ = some (.bool L[k].t) := HO3.out.cellAt rfl k 2 hk (by decide)
      have y3 : w3.cell? ⟨g, k * 5 + 3, none⟩ = some (.int .i64 L[k].k) := HO3.out.cellAt rfl k 3 hk (by decide)
      have y4 : w3.cell? ⟨g, k * 5 + 4, none⟩ = some (.int .i64 L[k].c) := HO3.out.cellAt rfl k 4 hk (by decide)
      obtain ⟨L2, hL2⟩ : ∃ M : List Ln, M = L ++ [L[k]] := ⟨_, rfl⟩
      have HL2 := hid hL2
      have hlen : L2.length ≤ 5 := by rw [hL2]; simp; omega
      have HT2 : Hid (∀ l ∈ L2, -100000 ≤ l.c ∧ l.c ≤ 100000) := fun c hc => by
        rw [hL2] at hc
        rcases List.mem_append.1 hc with hc | hc
        · exact HT.out c hc
        · simp at hc; subst hc; exact HT.out _ (List.getElem_mem hk)
      have HLn : Hid (L.length ≤ 4194304) := by rw [Hid]; omega
      clear hL2
      go_wp2_with (at_builtin; refine wpList_pushN lineE _ rfl (.tmp 27) (.tmp 32) _ rfl w.heap.size 56 i0 _ 40 Try.underlying26 hi0 hz0 hz1 hz2 rfl (by omega) _ _ rfl HO3.out _ L[k] _ rfl rfl (by simp) HLn.out HG3.out.size L2 HL2.out ?_)
      intro v6 w6 ho6 hg6 hat6
      have hrow := fun k hk => (HO3.out.lt k hk).1
      have HR6 := hid (HR3.out.grown hg6 (fun k hk => by have := hrow k hk; omega))
      have HG6 := hid (gr_step HG3.out hg6 (fun k hk => .inr (hrow k hk)))
      clear hat6 hg6 hrow y0 y1 y2 y3 y4
      go_wp2
      go_ret
      exact ⟨_, L2, rfl, hlen, HT2.out, ho6, HR6.out.up (by omega), HG6.out⟩
    · go_wp2_with fail
      refine (anyPane_c B a _ _ HR3.out (by omega)).mono ?_
      rintro e w4 ⟨p, rfl, hR, hg⟩
      have HR5 := hid hR
      have HG5 := hid (grown_trans HG3.out hg)
      have HO5 := hid (HO3.out.kept hg (own_na HO3.out hla))
      clear hR hg
      have hf5 := fun (o : Nat) => HO5.out.frozen rfl o
      have hy0 : w4.cell? ⟨g, k * 5, none⟩ = some (.int .i64 L[k].w) := HO5.out.cellAt rfl k 0 hk (by decide)
      have hy1 : w4.cell? ⟨g, k * 5 + 1, none⟩ = some (.int .i64 L[k].h) := HO5.out.cellAt rfl k 1 hk (by decide)
      have hy2 : w4.cell? ⟨g, k * 5 + 2, none⟩ = some (.bool L[k].t) := HO5.out.cellAt rfl k 2 hk (by decide)
      have hy3 : w4.cell? ⟨g, k * 5 + 3, none⟩ = some (.int .i64 L[k].k) := HO5.out.cellAt rfl k 3 hk (by decide)
      have HO6 := hid (own_pane HO5.out k p rfl hk)
      have HR6 := hid ((((HR5.out.set (q := g) (by omega) (by omega) (k * 5) (.int .i64 p.w)).set (q := g) (by omega) (by omega) (k * 5 + 1) (.int .i64 p.h)).set (q := g) (by omega) (by omega) (k * 5 + 2) (.bool p.t)).set (q := g) (by omega) (by omega) (k * 5 + 3) (.int .i64 p.k))
      have HG6 := hid (gr_set (q := g) (gr_set (q := g) (gr_set (q := g) (gr_set (q := g) HG5.out (by omega) (k * 5) (.int .i64 p.w)) (by omega) (k * 5 + 1) (.int .i64 p.h)) (by omega) (k * 5 + 2) (.bool p.t)) (by omega) (k * 5 + 3) (.int .i64 p.k))
      go_wp2
      go_ret
      exact ⟨_, L.set k (p.ln L[k].c), rfl, by simp; omega, set_cnt HT.out (HT.out L[k] (List.getElem_mem hk)), HO6.out, HR6.out.up (by omega), HG6.out⟩
    · go_wp2
      go_ret
      exact ⟨_, L, rfl, by omega, HT.out, HO3.out, HR3.out.up (by omega), HG3.out⟩
  · go_wp2
    go_ret
    exact ⟨_, L, rfl, by omega, HT.out, HO1.out, HR1.out.up (by omega), HG1.out⟩

def OrdDr (n : Nat) (w : World) (e : Ending) (w' : World) : Prop := ∃ (v : Value) (L : List Ln), e = .returned v ∧ Row lineE w' v L ∧ L.length ≤ n ∧ Below w.heap.size w w'

set_option maxHeartbeats 3200000 in
set_option maxRecDepth 100000 in
theorem DrawPanesOf_c (v : Value) (L : List Int) (w : World) (h : Row byteE w v L) (hb : ∀ x ∈ L, 0 ≤ x ∧ x ≤ 255) : Calls Try.prog 19 #[v] w (OrdDr 5 w) := by
  have HR0 := hid h
  have HB := hid hb
  clear h hb
  go_enter Try.func19, Try.ntmps19
  go_wp2_with fail
  refine (newReader_c w.heap.size v L _ HR0.out (Nat.le_refl _) HB.out).mono ?_
  rintro e w1 ⟨rfl, hR, hb, hlt⟩
  have HB1 := hid hb
  have HRd := hid hR
  clear hR hb
  go_wp2_with fail
  refine (anyOrder_c w.heap.size w.heap.size 0 _ HRd.out (by omega)).mono ?_
  rintro e w2 ⟨u, M, rfl, hl, hT, hst, hR, hg⟩
  have HB2 := hid (below_gr HB1.out hg HB1.out.size (Nat.le_refl _))
  have HS := hid hst.rowB
  clear hst hR hg
  go_wp2
  go_ret
  exact ⟨_, M, rfl, HS.out, hl, HB2.out⟩

end Go.Proofs.Ytmenkjloabficaa
