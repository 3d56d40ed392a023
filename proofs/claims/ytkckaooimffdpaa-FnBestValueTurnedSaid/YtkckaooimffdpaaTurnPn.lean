/-
  Contract: a pane turned, by the program.
-/
import Derived.Test.YtkckaooimffdpaaValL
import Derived.Test.YtkckaooimffdpaaPaneV
namespace Go.Proofs.Ytkckaooimffdpaa
set_option linter.unusedSimpArgs false
set_option linter.unusedVariables false
open Go.RowKit

set_option maxHeartbeats 3200000 in
set_option maxRecDepth 100000 in
theorem swapSides_c (p : Pn) (w : World) : Calls Try.prog 40 #[.agg #[.int .i64 p.w, .int .i64 p.h, .bool p.t, .int .i64 p.k]] w fun e w' => e = .returned (.agg #[.int .i64 p.h, .int .i64 p.w, .bool p.t, .int .i64 p.k]) ∧ Below w.heap.size w w' := by
  go_enter Try.func40, Try.ntmps40
  go_wp2
  obtain ⟨WF, hWF⟩ : ∃ Z : World, Z = ((w.alloc (.cells #[.int .i64 p.h, .int .i64 p.w, .bool p.t, .int .i64 p.k] 40)).alloc (.cells #[.int .i64 p.h, .int .i64 p.w, .bool p.t, .int .i64 p.k] 40)) := ⟨_, rfl⟩
  have hk : Blk WF (w.heap.size + 1) #[.int .i64 p.h, .int .i64 p.w, .bool p.t, .int .i64 p.k] 40 := by
    rw [hWF]
    have := Blk.new (w.alloc (.cells #[.int .i64 p.h, .int .i64 p.w, .bool p.t, .int .i64 p.k] 40)) #[.int .i64 p.h, .int .i64 p.w, .bool p.t, .int .i64 p.k] 40
    rw [World.size_alloc] at this
    exact this
  have hb : Below w.heap.size w WF := by rw [hWF]; exact ((Below.refl _ _).alloc (Nat.le_refl _) _).alloc (by simp) _
  rw [← hWF]
  have c_F := fun (o : Nat) => hk.cell o
  clear hWF
  exact bodyPost_ret (v := .agg #[.int .i64 p.h, .int .i64 p.w, .bool p.t, .int .i64 p.k]) (by simp [results, Try.results40, go_sem, c_F]) rfl ⟨rfl, hb⟩

set_option maxHeartbeats 3200000 in
set_option maxRecDepth 100000 in
theorem TurnPane_c (p : Pn) (w : World) (h : okPn p) : Calls Try.prog 19 #[.agg #[.int .i64 p.w, .int .i64 p.h, .bool p.t, .int .i64 p.k]] w fun e w' => e = .returned (.agg #[.int .i64 p.h, .int .i64 p.w, .bool p.t, .int .i64 p.k]) ∧ Below w.heap.size w w' := by
  have HV : Hid (vpnB p = true) := vpnB_iff.2 h
  clear h
  go_enter Try.func19, Try.ntmps19
  go_wp2_with fail
  refine (ValidPane_c p _).mono ?_
  rintro e w1 ⟨rfl, hb⟩
  rw [HV.out]
  have hb0 : Below w.heap.size w ((w.alloc (.cells #[.int .i64 p.w, .int .i64 p.h, .bool p.t, .int .i64 p.k] 40)).alloc (.cells #[.int .i64 0, .int .i64 0, .bool false, .int .i64 0] 40)) := ((Below.refl _ _).alloc (Nat.le_refl _) _).alloc (by simp) _
  have HK1 := hid (((Blk.new w #[.int .i64 p.w, .int .i64 p.h, .bool p.t, .int .i64 p.k] 40).alloc (.cells #[.int .i64 0, .int .i64 0, .bool false, .int .i64 0] 40)).go hb)
  have HQ1 := hid (show Blk w1 (w.heap.size + 1) #[.int .i64 0, .int .i64 0, .bool false, .int .i64 0] 40 by
    have := (Blk.new (w.alloc (.cells #[.int .i64 p.w, .int .i64 p.h, .bool p.t, .int .i64 p.k] 40)) #[.int .i64 0, .int .i64 0, .bool false, .int .i64 0] 40).go hb
    rw [World.size_alloc] at this
    exact this)
  have HB1 := hid (hb0.trans (hb.mono hb0.size))
  have c_K := fun (o : Nat) => HK1.out.cell o
  have l_K := HK1.out.lt
  clear hb hb0
  go_wp2_with fail
  refine (swapSides_c p _).mono ?_
  rintro e w2 ⟨rfl, hb⟩
  have HQ2 := hid (HQ1.out.go hb)
  have HB2 := hid (HB1.out.trans (hb.mono HB1.out.size))
  have c_Q := fun (o : Nat) => HQ2.out.cell o
  have f_Q := fun (o : Nat) => HQ2.out.frz o
  have l_Q := HQ2.out.lt
  have HQF := hid ((((HQ2.out.set 0 (.int .i64 p.h)).set 1 (.int .i64 p.w)).set 2 (.bool p.t)).set 3 (.int .i64 p.k))
  have HBF := hid ((((HB2.out.setCell (p := ⟨w.heap.size + 1, 0, none⟩) (by show w.heap.size ≤ w.heap.size + 1; omega) (.int .i64 p.h)).setCell (p := ⟨w.heap.size + 1, 1, none⟩) (by show w.heap.size ≤ w.heap.size + 1; omega) (.int .i64 p.w)).setCell (p := ⟨w.heap.size + 1, 2, none⟩) (by show w.heap.size ≤ w.heap.size + 1; omega) (.bool p.t)).setCell (p := ⟨w.heap.size + 1, 3, none⟩) (by show w.heap.size ≤ w.heap.size + 1; omega) (.int .i64 p.k))
  clear hb
  go_wp2
  obtain ⟨WF, hWF⟩ : ∃ Z : World, Z = ((((w2.setCell ⟨w.heap.size + 1, 0, none⟩ (.int .i64 p.h)).setCell ⟨w.heap.size + 1, 1, none⟩ (.int .i64 p.w)).setCell ⟨w.heap.size + 1, 2, none⟩ (.bool p.t)).setCell ⟨w.heap.size + 1, 3, none⟩ (.int .i64 p.k)) := ⟨_, rfl⟩
  rw [← hWF] at HQF HBF ⊢
  have c_F := fun (o : Nat) => HQF.out.cell o
  clear hWF
  exact bodyPost_ret (v := .agg #[.int .i64 p.h, .int .i64 p.w, .bool p.t, .int .i64 p.k]) (by simp [results, Try.results19, go_sem, c_F]) rfl ⟨rfl, HBF.out⟩

end Go.Proofs.Ytkckaooimffdpaa
