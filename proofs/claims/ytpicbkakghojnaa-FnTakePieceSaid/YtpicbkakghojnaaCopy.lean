/-
  Contracts: copies of pieces, by both.
-/
import Derived.Test.YtpicbkakghojnaaCutT
import Derived.Test.YtpicbkakghojnaaCat
namespace Go.Proofs.Ytpicbkakghojnaa
set_option linter.unusedSimpArgs false
set_option linter.unusedVariables false
open Go.RowKit

set_option maxHeartbeats 3200000 in
set_option maxRecDepth 100000 in
theorem copyPiece_c (p : Pc) (s : Ps) (w : World) (h : PvR w.heap.size w p s) (hn : p.f.length ≤ 4194304) : Calls Try.prog 65 #[.agg #[.int .i64 s.l, .int .i64 s.w, .int .i64 s.h, .slice s.ka s.kn s.kc]] w fun e w' => PcOut w.heap.size p e w' ∧ Below w.heap.size w w' := by
  have B2 := hid ((below_ps (l := s.l) (x := s.w) (y := s.h) (ka := s.ka) (kn := s.kn) (kc := s.kc) (ty := 31) w).alloc (by simp) (.cells #[.int .i64 0, .int .i64 0, .int .i64 0, .slice none 0 0] 31))
  obtain ⟨W, hW⟩ : ∃ W, W = (w.alloc (.cells #[.int .i64 s.l, .int .i64 s.w, .int .i64 s.h, .slice s.ka s.kn s.kc] 31)).alloc (.cells #[.int .i64 0, .int .i64 0, .int .i64 0, .slice none 0 0] 31) := ⟨_, rfl⟩
  have K0 : Blk W w.heap.size #[.int .i64 s.l, .int .i64 s.w, .int .i64 s.h, .slice s.ka s.kn s.kc] 31 := by rw [hW]; exact (Blk.new _ _ _).alloc _
  have K1 : Blk W (w.heap.size + 1) #[.int .i64 0, .int .i64 0, .int .i64 0, .slice none 0 0] 31 := by
    rw [hW]; have := Blk.new (w.alloc (.cells #[.int .i64 s.l, .int .i64 s.w, .int .i64 s.h, .slice s.ka s.kn s.kc] 31)) #[.int .i64 0, .int .i64 0, .int .i64 0, .slice none 0 0] 31; simpa using this
  have HW := hid hW
  rw [← hW] at B2
  have hp0 := fun (o : Nat) => K0.cell o
  have HK0 := hid K0
  have HK1 := hid K1
  have HR := hid (h.2.below B2.out)
  have HS := hid h.1
  have HN : Hid (([] : List Bx).length + p.f.length ≤ 4194304) := by rw [Hid]; simpa using hn
  have q0 : w.heap.size + 1 < W.heap.size := K1.lt
  obtain ⟨i0, hi0, hz0, hz1, hz2⟩ := info_parts box_info
  obtain ⟨L2, hL2⟩ : ∃ M : List Bx, M = [] ++ p.f := ⟨_, rfl⟩
  have HL2 := hid hL2
  clear hW K0 K1 h hn hL2
  go_enter Try.func65, Try.ntmps65
  go_upto_region 1 with (fail)
  rw [← HW.out]
  go_wp2_with (at_builtin; refine wpList_cat boxE _ rfl (.const (.slice none 0 0)) (.tmp 4) _ rfl W.heap.size 33 i0 _ 32 Try.underlying29 hi0 hz0 hz1 hz2 rfl (by omega) _ _ rfl (Own.nil_ _ _ _) _ _ _ rfl HR.out HN.out (Nat.le_refl _) L2 HL2.out ?_)
  intro v' w' ho' hg' hat'
  obtain ⟨A', cap', rfl, -⟩ := ho'.shape
  have hL : L2 = p.f := by rw [HL2.out]; simp
  have k0 := HK0.out.grown hg' (by simp [Value.ownBlock])
  have k1 := HK1.out.grown hg' (by simp [Value.ownBlock])
  have HB := hid (B2.out.grown hg' (by omega) (by simp [Value.ownBlock]))
  have HO := hid ho'
  have c0 := fun (o : Nat) => k0.cell o
  have f0 := fun (o : Nat) => k0.frz o
  have c1 := fun (o : Nat) => k1.cell o
  have f1 := fun (o : Nat) => k1.frz o
  have HL := hid hL
  clear ho' hg' hat' k0 k1 hL hp0
  go_wp2
  refine bodyPost_ret (v := .agg #[.int .i64 s.l, .int .i64 s.w, .int .i64 s.h, .slice A' L2.length cap']) (by simp [results, Try.results65, go_sem, c1]) rfl ⟨?_, ?_⟩
  · refine ⟨⟨s.l, s.w, s.h, A', L2.length, cap'⟩, rfl, HS.out, ?_⟩
    rw [← HL.out]
    exact ((((((HO.out.setCell_far (p := ⟨w.heap.size, 3, none⟩) (by simp; omega) _).setCell_far (p := ⟨w.heap.size + 1, 0, none⟩) (by simp; omega) _).setCell_far (p := ⟨w.heap.size + 1, 1, none⟩) (by simp; omega) _).setCell_far (p := ⟨w.heap.size + 1, 2, none⟩) (by simp; omega) _).setCell_far (p := ⟨w.heap.size + 1, 3, none⟩) (by simp; omega) _).base_le (by omega))
  · exact (((((HB.out.setCell (by simp) _).setCell (by simp) _).setCell (by simp) _).setCell (by simp) _).setCell (by simp) _)

set_option maxHeartbeats 3200000 in
set_option maxRecDepth 100000 in
theorem scopyPiece_c (p : Pc) (s : Ps) (w : World) (h : PvR w.heap.size w p s) (hn : p.f.length ≤ 4194304) : Calls Try.prog 64 #[.agg #[.int .i64 s.l, .int .i64 s.w, .int .i64 s.h, .slice s.ka s.kn s.kc]] w fun e w' => PcOut w.heap.size p e w' ∧ Below w.heap.size w w' := by
  have B2 := hid ((below_ps (l := s.l) (x := s.w) (y := s.h) (ka := s.ka) (kn := s.kn) (kc := s.kc) (ty := 31) w).alloc (by simp) (.cells #[.int .i64 0, .int .i64 0, .int .i64 0, .slice none 0 0] 31))
  obtain ⟨W, hW⟩ : ∃ W, W = (w.alloc (.cells #[.int .i64 s.l, .int .i64 s.w, .int .i64 s.h, .slice s.ka s.kn s.kc] 31)).alloc (.cells #[.int .i64 0, .int .i64 0, .int .i64 0, .slice none 0 0] 31) := ⟨_, rfl⟩
  have K0 : Blk W w.heap.size #[.int .i64 s.l, .int .i64 s.w, .int .i64 s.h, .slice s.ka s.kn s.kc] 31 := by rw [hW]; exact (Blk.new _ _ _).alloc _
  have K1 : Blk W (w.heap.size + 1) #[.int .i64 0, .int .i64 0, .int .i64 0, .slice none 0 0] 31 := by
    rw [hW]; have := Blk.new (w.alloc (.cells #[.int .i64 s.l, .int .i64 s.w, .int .i64 s.h, .slice s.ka s.kn s.kc] 31)) #[.int .i64 0, .int .i64 0, .int .i64 0, .slice none 0 0] 31; simpa using this
  have HW := hid hW
  rw [← hW] at B2
  have hp0 := fun (o : Nat) => K0.cell o
  have HK1 := hid K1
  have HR := hid (h.2.below B2.out)
  have HS := hid h.1
  have HN : Hid (([] : List Bx).length + p.f.length ≤ 4194304) := by rw [Hid]; simpa using hn
  have q0 : w.heap.size + 1 < W.heap.size := K1.lt
  have q1 : w.heap.size < W.heap.size := by omega
  obtain ⟨i0, hi0, hz0, hz1, hz2⟩ := info_parts box_info
  obtain ⟨L2, hL2⟩ : ∃ M : List Bx, M = [] ++ p.f := ⟨_, rfl⟩
  have HL2 := hid hL2
  clear hW K0 K1 h hn hL2
  go_enter Try.func64, Try.ntmps64
  go_upto_region 1 with (fail)
  rw [← HW.out]
  have ZK := hid ((Below.refl _ _).drew : Below (w.heap.size + 1) W W.drew)
  have ZA := hid (((Below.refl _ _).alloc (by omega) _).drew : Below (w.heap.size + 1) W (W.alloc (.cells #[] 33)).drew)
  have ZOA := hid ((Own.lit0 boxE W W.heap.size 33 (Nat.le_refl _)).dr (Dr.refl _).one)
  have ZRA := hid (HR.out.below (ZA.out.mono (Nat.le_succ _)))
  have ZBA := hid (B2.out.trans (ZA.out.mono (Nat.le_succ _)))
  have Zk := hid (show Blk (W.alloc (.cells #[] 33)).drew (w.heap.size + 1) _ _ from (HK1.out.alloc (.cells #[] 33)).draw1)
  go_region_held3 (fun w' => ∀ b o, b < w.heap.size + 1 → w'.cell? ⟨b, o, none⟩ = W.cell? ⟨b, o, none⟩) (first | with_reducible exact fun b o h => ZK.out.cell (p := ⟨b, o, none⟩) h | with_reducible exact fun b o h => ZA.out.cell (p := ⟨b, o, none⟩) h | with_reducible exact fun b o h => ZW.out.cell (p := ⟨b, o, none⟩) h | with_reducible exact fun b o h => (ZW.out.setCell (Nat.le_refl _) _).cell (p := ⟨b, o, none⟩) h | with_reducible exact fun b o h => ((ZW.out.setCell (Nat.le_refl _) _).setCell (Nat.le_refl _) _).cell (p := ⟨b, o, none⟩) h | with_reducible exact fun b o h => (((ZW.out.setCell (Nat.le_refl _) _).setCell (Nat.le_refl _) _).setCell (Nat.le_refl _) _).cell (p := ⟨b, o, none⟩) h | with_reducible exact fun b o h => ((((ZW.out.setCell (Nat.le_refl _) _).setCell (Nat.le_refl _) _).setCell (Nat.le_refl _) _).setCell (Nat.le_refl _) _).cell (p := ⟨b, o, none⟩) h)
    (first | (refine step_cat boxE _ rfl (.tmp 9) (.tmp 11) _ rfl W.heap.size 33 i0 _ 32 Try.underlying29 hi0 hz0 hz1 hz2 rfl (by omega) (.slice (some ⟨W.heap.size, 0, none⟩) 0 0) _ rfl ZOA.out _ _ _ rfl ZRA.out HN.out (by simp) L2 HL2.out ?_; intro v' w' ho' hg' hat'; obtain ⟨A', cap', rfl, -⟩ := ho'.shape; have ZO := hid ho'; have k1 := Zk.out.grown hg' (by simp [Value.ownBlock]; omega); have c1 := (fun (o : Nat) => k1.cell o); have f1 := (fun (o : Nat) => k1.frz o); have HB := hid (ZBA.out.grown hg' (by simp; omega) (by simp [Value.ownBlock]; omega)); have ZW := hid (ZA.out.grown hg' (by simp; omega) (by simp [Value.ownBlock]; omega)); clear ho' hg' hat' k1))
  go_wp2
  have hL : L2 = p.f := by rw [HL2.out]; simp
  refine bodyPost_ret (v := .agg #[.int .i64 s.l, .int .i64 s.w, .int .i64 s.h, .slice A' L2.length cap']) (by simp [results, Try.results64, go_sem, c1]) rfl ⟨?_, ?_⟩
  · refine ⟨⟨s.l, s.w, s.h, A', L2.length, cap'⟩, rfl, HS.out, ?_⟩
    rw [← hL]
    exact (((((ZO.out.setCell_far (p := ⟨w.heap.size + 1, 0, none⟩) (by simp; omega) _).setCell_far (p := ⟨w.heap.size + 1, 1, none⟩) (by simp; omega) _).setCell_far (p := ⟨w.heap.size + 1, 2, none⟩) (by simp; omega) _).setCell_far (p := ⟨w.heap.size + 1, 3, none⟩) (by simp; omega) _).base_le (by omega))
  · exact ((((HB.out.setCell (by simp) _).setCell (by simp) _).setCell (by simp) _).setCell (by simp) _)

end Go.Proofs.Ytpicbkakghojnaa
