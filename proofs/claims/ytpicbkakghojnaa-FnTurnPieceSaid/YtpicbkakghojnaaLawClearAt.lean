/-
  The law FnExactClearAt, walked.
-/
import Derived.Test.YtpicbkakghojnaaPieceT
namespace Go.Proofs.Ytpicbkakghojnaa
set_option linter.unusedSimpArgs false
set_option linter.unusedVariables false
open Go.RowKit

theorem Own.pvr {e : TypeId} {w : World} {lo : Nat} {p : Pc} {s : Ps} (hs : s.same p) (h : Own boxE e lo w s.kv p.f) : PvR w.heap.size w p s := ⟨hs, h.rowB⟩

set_option maxHeartbeats 3200000 in
set_option maxRecDepth 100000 in
theorem FnExactClearAt_c (p : Pc) (s : Ps) (b : Bx) (w : World) (h : PvR w.heap.size w p s ∧ I64 p.l ∧ I64 p.w ∧ I64 p.h) : Calls Try.prog 3 #[.agg #[.int .i64 s.l, .int .i64 s.w, .int .i64 s.h, .slice s.ka s.kn s.kc], .agg #[.int .i64 b.x, .int .i64 b.y, .int .i64 b.w, .int .i64 b.h]] w fun e w' => e = .returned (.bool true) ∧ Below w.heap.size w w' := by
  have B2 := hid ((below_ps (l := s.l) (x := s.w) (y := s.h) (ka := s.ka) (kn := s.kn) (kc := s.kc) (ty := 24) w).alloc (by simp) (.cells #[.int .i64 b.x, .int .i64 b.y, .int .i64 b.w, .int .i64 b.h] 26))
  obtain ⟨h, -, hW, hH⟩ := h
  have HI := hid (And.intro hW hH)
  have HP := hid (fun w1 (hb : Below w.heap.size w w1) => h.go hb)
  clear h hW hH
  by_cases hle : (p.f.length : Int) ≤ 1048576
  · have HT : Hid (p.f.length ≤ 4194304) := by rw [Hid]; omega
    have HN : Hid (decide ((1048576 : Int) - p.f.length < 0) = false) := by rw [Hid]; simp; omega
    go_enter Try.func3, Try.ntmps3
    go_wp2_with fail
    refine (szPiece_t p s 1048576 _ (HP.out _ B2.out) (by omega) (by omega) hle).mono ?_
    rintro e w1 ⟨rfl, hb⟩
    have HB1 := hid (B2.out.trans (hb.mono B2.out.size))
    obtain ⟨c1, f1, z1⟩ := bcell hb
    have y1 : w.heap.size < w1.heap.size := by simp at z1; omega
    have y1' : w.heap.size + 1 < w1.heap.size := by simp at z1; omega
    clear hb f1 z1
    have hneg : decide ((1048576 : Int) - p.f.length < 0) = false := HN.out
    go_wp2
    have ZK := hid ((Below.refl _ _).drew : Below w1.heap.size w1 w1.drew)
    go_region_held3 (fun w' => ∀ b o, b < w1.heap.size → w'.cell? ⟨b, o, none⟩ = w1.cell? ⟨b, o, none⟩) (exact fun b o h => ZK.out.cell (p := ⟨b, o, none⟩) h)
      (first | (go_at_call 16; ((with_reducible refine (toPiece_c p s _ (HP.out _ (HB1.out.trans (ZK.out.mono HB1.out.size))) HT.out).mono ?_); rintro e w6 ⟨s1, rfl, hs1, hod1, hb⟩; have HP1 := hid (Own.pvr hs1 hod1); replace ZK := hid (ZK.out.trans (hb.mono ZK.out.size)); clear hb hs1 hod1)) | (go_at_call 17; ((with_reducible refine (toBox_c b _).mono ?_); rintro e w7 ⟨rfl, hb⟩; (try replace HP1 := hid (HP1.out.go hb)); replace ZK := hid (ZK.out.trans (hb.mono ZK.out.size)); clear hb)) | (go_at_call 15; ((with_reducible refine (sClearAt_c p s1 b _ HP1.out HI.out.1 HI.out.2).mono ?_); rintro e w8 ⟨rfl, hb⟩; replace ZK := hid (ZK.out.trans (hb.mono ZK.out.size)); clear hb)))
    all_goals
      have HB2 := hid (HB1.out.trans (ZK.out.mono HB1.out.size))
      obtain ⟨c8, f8, z8⟩ := bcell ZK.out
      have y8 : w.heap.size < w8.heap.size := by omega
      have y8' : w.heap.size + 1 < w8.heap.size := by omega
      clear HP1 ZK f8
      go_wp2_with fail
      refine (toPiece_c p s _ (HP.out _ HB2.out) HT.out).mono ?_
      rintro e w9 ⟨s2, rfl, hs2, hod2, hb⟩
      have HB3 := hid (HB2.out.trans (hb.mono HB2.out.size))
      have HP2 := hid (Own.pvr hs2 hod2)
      obtain ⟨c9, f9, z9⟩ := bcell hb
      have y9 : w.heap.size < w9.heap.size := by omega
      have y9' : w.heap.size + 1 < w9.heap.size := by omega
      have y9a : w.heap.size < w9.heap.size + 1 := by omega
      have y9b : w.heap.size + 1 < w9.heap.size + 1 := by omega
      have HQP : Hid (∀ q : GW (w9.heap.size + 1) (w9.alloc (.cells #[.int .i64 s2.l, .int .i64 s2.w, .int .i64 s2.h, .slice s2.ka s2.kn s2.kc] 31)), PvR q.w.heap.size q.w p s2) := fun q => (HP2.out.go (below_ps _)).go (q.h.mono (Nat.le_of_eq (by simp)))
      have hq := fun q : GW (w9.heap.size + 1) (w9.alloc (.cells #[.int .i64 s2.l, .int .i64 s2.w, .int .i64 s2.h, .slice s2.ka s2.kn s2.kc] 31)) => q.cell
      clear hb hs2 hod2 f9
      go_wp2
      refine wp_region_grow (w9.heap.size + 1) _ (by kernel_rfl) (by kernel_rfl) ?_
      repeat (go_big_quiet_step (first | (go_at_call 17; exact GW.call (by simp) (toBox_c b _)) | (go_at_call 18; exact GW.call (by simp) (ClearAt_c p s2 b _ (HQP.out _)))))
      refine wpQuiet_nil ?_
      rintro _ ⟨q, rfl⟩
      have HQ := hid q.h
      have HB4 := hid (HB3.out.trans ((below_ps (l := s2.l) (x := s2.w) (y := s2.h) (ka := s2.ka) (kn := s2.kn) (kc := s2.kc) (ty := 31) w9).mono HB3.out.size))
      have HB5 := hid (HB4.out.trans (q.h.mono (by omega)))
      have hc := q.cell
      have hzq : w9.heap.size + 1 ≤ q.w.heap.size := by have := q.h.size; simpa using this
      have HP5 := hid (HQP.out q)
      clear HQP hq
      obtain ⟨q, hqq⟩ := q
      simp only at HQ HB5 hc hzq HP5
      have yq : w.heap.size < q.heap.size := by omega
      have yq' : w9.heap.size < q.heap.size := by omega
      go_wp2
      have ZK := hid ((Below.refl _ _).drew : Below q.heap.size q q.drew)
      go_region_held3 (fun w' => ∀ b o, b < q.heap.size → w'.cell? ⟨b, o, none⟩ = q.cell? ⟨b, o, none⟩) (exact fun b o h => ZK.out.cell (p := ⟨b, o, none⟩) h)
        (first | (go_at_call 16; ((with_reducible refine (toPiece_c p s _ (HP.out _ (HB5.out.trans (ZK.out.mono HB5.out.size))) HT.out).mono ?_); rintro e w6 ⟨s3, rfl, hs3, hod3, hb⟩; have HP3 := hid (Own.pvr hs3 hod3); replace ZK := hid (ZK.out.trans (hb.mono ZK.out.size)); clear hb hs3 hod3)) | (go_at_call 19; ((with_reducible refine (eqPiece_c p s2 s3 _ (HP5.out.go ZK.out) HP3.out).mono ?_); rintro e w7 ⟨rfl, hb⟩; replace ZK := hid (ZK.out.trans (hb.mono ZK.out.size)); clear hb)))
      all_goals
        go_wp2
        go_ret
        exact ⟨rfl, HB5.out.trans (ZK.out.mono HB5.out.size)⟩
  · have HE := hid hle
    go_enter Try.func3, Try.ntmps3
    go_wp2_with fail
    refine (szPiece_f p s 1048576 _ (HP.out _ B2.out) (by omega) (by omega) (by omega)).mono ?_
    rintro e w1 ⟨rfl, hb⟩
    have HB1 := hid (B2.out.trans (hb.mono B2.out.size))
    clear hb
    go_wp2
    go_ret
    exact ⟨rfl, HB1.out⟩

end Go.Proofs.Ytpicbkakghojnaa
