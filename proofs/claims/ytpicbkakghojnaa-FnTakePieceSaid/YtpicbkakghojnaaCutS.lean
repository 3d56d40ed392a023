/-
  Contracts: a part cut out of a piece, by the reference.
-/
import Derived.Test.YtpicbkakghojnaaCut
import Derived.Deep.DeepCutAuto
namespace Go.Proofs.Ytpicbkakghojnaa
set_option linter.unusedSimpArgs false
set_option linter.unusedVariables false
open Go.RowKit

set_option maxHeartbeats 12800000 in
set_option maxRecDepth 100000 in
theorem scutOut_c (p : Pc) (s : Ps) (b : Bx) (l : Int) (w : World) (h : PvR w.heap.size w p s) (hVF : ∀ g ∈ p.f, VB g) (hVB : VB b) (h6 : p.f.length ≤ 6) : Calls Try.prog 68 #[.agg #[.int .i64 s.l, .int .i64 s.w, .int .i64 s.h, .slice s.ka s.kn s.kc], .agg #[.int .i64 b.x, .int .i64 b.y, .int .i64 b.w, .int .i64 b.h], .int .i64 l] w fun e w' => PcOut w.heap.size ⟨l, b.w, b.h, coF p.f b⟩ e w' ∧ Below w.heap.size w w' := by
  obtain ⟨⟨g1, g2, g3⟩, hr⟩ := id h
  obtain ⟨sl, sw, sh, ka, kn, kc⟩ := s
  obtain ⟨pl, pw, ph, f⟩ := p
  simp only at g1 g2 g3 hr hVF h6
  subst g1; subst g2; subst g3
  obtain ⟨A1, c1, e1, hc1, hm1⟩ := hr.form
  simp only [Ps.kv, Value.slice.injEq] at e1
  obtain ⟨rfl, rfl, rfl⟩ := e1
  unfold maxLen at hm1
  have B3 := hid (((below_ps (l := sl) (x := sw) (y := sh) (ka := ka) (kn := f.length) (kc := kc) (ty := 31) w).alloc (by simp) (.cells #[.int .i64 b.x, .int .i64 b.y, .int .i64 b.w, .int .i64 b.h] 33)).alloc (by simp; omega) (.cells #[.int .i64 0, .int .i64 0, .int .i64 0, .slice none 0 0] 31))
  have HR := hid hr
  obtain ⟨W, hW⟩ : ∃ W, W = ((w.alloc (.cells #[.int .i64 sl, .int .i64 sw, .int .i64 sh, .slice ka f.length kc] 31)).alloc (.cells #[.int .i64 b.x, .int .i64 b.y, .int .i64 b.w, .int .i64 b.h] 33)).alloc (.cells #[.int .i64 0, .int .i64 0, .int .i64 0, .slice none 0 0] 31) := ⟨_, rfl⟩
  have K0 : Blk W w.heap.size #[.int .i64 sl, .int .i64 sw, .int .i64 sh, .slice ka f.length kc] 31 := by rw [hW]; exact ((Blk.new _ _ _).alloc _).alloc _
  have K1 : Blk W (w.heap.size + 1) #[.int .i64 b.x, .int .i64 b.y, .int .i64 b.w, .int .i64 b.h] 33 := by
    rw [hW]; have := (Blk.new (w.alloc (.cells #[.int .i64 sl, .int .i64 sw, .int .i64 sh, .slice ka f.length kc] 31)) #[.int .i64 b.x, .int .i64 b.y, .int .i64 b.w, .int .i64 b.h] 33).alloc (.cells #[.int .i64 0, .int .i64 0, .int .i64 0, .slice none 0 0] 31); simpa using this
  have K2 : Blk W (w.heap.size + 1 + 1) #[.int .i64 0, .int .i64 0, .int .i64 0, .slice none 0 0] 31 := by
    rw [hW]; have := (Blk.new ((w.alloc (.cells #[.int .i64 sl, .int .i64 sw, .int .i64 sh, .slice ka f.length kc] 31)).alloc (.cells #[.int .i64 b.x, .int .i64 b.y, .int .i64 b.w, .int .i64 b.h] 33)) #[.int .i64 0, .int .i64 0, .int .i64 0, .slice none 0 0] 31); simpa using this
  have HW := hid hW
  rw [← hW] at B3
  have HQ0 := hid K0
  have HQ1 := hid K1
  have HQ2 := hid K2
  have hsW : W.heap.size = w.heap.size + 1 + 1 + 1 := by rw [hW]; simp
  have HsW := hid hsW
  have hp0 := fun (o : Nat) => K0.cell o
  have hp1 := fun (o : Nat) => K1.cell o
  have HVF : Hid (∀ g ∈ f, VB g) := hVF
  have HVB := hid hVB
  have HLK := hid (fun k => coF_lenK f b k h6)
  obtain ⟨i0, hi0, hz0, hz1, hz2⟩ := info_parts box_info
  have HST0 : Hid (pcSt W.heap.size (W.heap.size + 1) l b.w b.h W ((W.alloc (.cells #[] 33)).alloc (.cells #[.int .i64 l, .int .i64 b.w, .int .i64 b.h, .slice (some ⟨W.heap.size, 0, none⟩) 0 0] 31)) (.slice (some ⟨W.heap.size, 0, none⟩) 0 0) []) :=
    ⟨((Below.refl _ _).alloc (Nat.le_refl _) _).alloc (by simp) _, Nat.le_succ _, by have := Blk.new (W.alloc (.cells #[] 33)) #[.int .i64 l, .int .i64 b.w, .int .i64 b.h, .slice (some ⟨W.heap.size, 0, none⟩) 0 0] 31; simpa using this, (Own.lit0 boxE W W.heap.size 33 (Nat.le_refl _)).alloc _, by simp [Value.ownBlock]⟩
  have q0 : w.heap.size < W.heap.size := by omega
  have q1 : w.heap.size + 1 < W.heap.size := by omega
  clear hW K0 K1 K2 h hr hc1 hVF hVB hsW
  go_enter Try.func68, Try.ntmps68
  go_upto_region 1 with (fail)
  rw [← HW.out]
  go_wp2
  go_loopw [8] (fun i wr => ∃ k : Nat, i = .int .i64 k ∧ k ≤ f.length ∧ ∃ v, pcSt W.heap.size (W.heap.size + 1) l b.w b.h W wr v (coF (f.take k) b)) (fun i _ => f.length - (intOf i).toNat)
  case atStart => exact ⟨0, rfl, by omega, _, HST0.out⟩
  case round =>
    obtain ⟨k, rfl, hk, v, hst⟩ := hrel
    obtain ⟨hbw, -, hkg, ho, -⟩ := id hst
    have HST := hid hst
    have HO := hid ho
    have HX := hid (fun X (hb : Below wr.heap.size wr X) => hst.below hb)
    have HBr := hid (B3.out.trans (hbw.mono B3.out.size))
    have R0 := HQ0.out.go hbw
    have R1 := HQ1.out.go hbw
    have hr0 := fun (o : Nat) => R0.cell o
    have hr1 := fun (o : Nat) => R1.cell o
    have hzr : W.heap.size + 1 < wr.heap.size := hkg.lt
    have z1 : w.heap.size < wr.heap.size := by omega
    have z2 : w.heap.size + 1 < wr.heap.size := by omega
    have HBW := hid hbw
    have HR0 := hid R0
    have HR1 := hid R1
    clear hst hbw hkg ho R0 R1 hp0 hp1 HST0
    by_cases hlt : k < f.length
    · obtain ⟨b1, o1, rfl, hb1, hx⟩ := row_boxs (HR.out.below HBr.out) (Nat.lt_of_le_of_lt (Nat.zero_le _) hlt)
      obtain ⟨x0, x1, x2, x3⟩ := hx k hlt
      have y3 : b1 < wr.heap.size := by omega
      clear hx
      cases hm : mtB f[k] b with
      | true =>
        have HC := hid (coF_t hlt hm)
        have hmv := meetRaw_in (HVF.out _ (List.getElem_mem hlt)) HVB.out hm
        have HM := hid hm
        have hvb := HVB.out
        clear hm
        go_upto_region 6 with (fail)
        go_cut [9, 10] (fun pm mt wx => ∃ q, pm = .pointer (some ⟨q, 0, none⟩) ∧ mt = .bool true ∧ Below wr.heap.size wr wx ∧ Blk wx q #[.int .i64 (meetRaw f[k] b).x, .int .i64 (meetRaw f[k] b).y, .int .i64 (meetRaw f[k] b).w, .int .i64 (meetRaw f[k] b).h] 33)
        case first =>
          have ZK := hid ((Below.refl _ _).drew : Below wr.heap.size wr wr.drew)
          go_region_held3 (fun w' => ∀ b o, b < wr.heap.size → w'.cell? ⟨b, o, none⟩ = wr.cell? ⟨b, o, none⟩) (first | with_reducible exact fun b o h => ZK.out.cell (p := ⟨b, o, none⟩) h | with_reducible exact fun b o h => (ZK.out.alloc ZK.out.size _).cell (p := ⟨b, o, none⟩) h | with_reducible exact fun b o h => (((Below.refl _ _).alloc (Nat.le_refl _) _).drew).cell (p := ⟨b, o, none⟩) h | with_reducible exact fun b o h => ((((ZK.out.setCell (Nat.le_refl _) _).setCell (Nat.le_refl _) _).setCell (Nat.le_refl _) _).setCell (Nat.le_refl _) _).cell (p := ⟨b, o, none⟩) h)
            (first | (go_at_call 83; ((with_reducible refine (smeetOf_t f[k] b _ (HVF.out _ (List.getElem_mem hlt)) HVB.out HM.out).mono ?_); rintro e wq ⟨rfl, hb⟩; obtain ⟨hc2, hf2, hs2⟩ := bcell hb; (try have hz2 : wr.heap.size < wq.heap.size := (by simp at hs2; omega)); (try have ZB := hid ((Blk.new wr #[.int .i64 0, .int .i64 0, .int .i64 0, .int .i64 0] 33).draw1.go hb)); (first | with_reducible replace ZK := hid (ZK.out.trans (hb.mono ZK.out.size)) | with_reducible replace ZK := hid ((((Below.refl wr.heap.size wr).alloc (Nat.le_refl _) _).drew).trans (hb.mono (((Below.refl wr.heap.size wr).alloc (Nat.le_refl _) _).drew).size))); clear hb hs2)))
          all_goals
            go_wp2
            go_meet
            case rel =>
              first
                | exact ⟨_, rfl, rfl, ZK.out.alloc ZK.out.size _, Blk.new _ _ _⟩
                | exact ⟨_, rfl, rfl, ((((ZK.out.setCell (Nat.le_refl _) _).setCell (Nat.le_refl _) _).setCell (Nat.le_refl _) _).setCell (Nat.le_refl _) _), by have := (((ZB.out.set 0 (.int .i64 (meetRaw f[k] b).x)).set 1 (.int .i64 (meetRaw f[k] b).y)).set 2 (.int .i64 (meetRaw f[k] b).w)).set 3 (.int .i64 (meetRaw f[k] b).h); simpa using this⟩
        case rest =>
          obtain ⟨q, rfl, rfl, hbx, hkq⟩ := hcut
          obtain ⟨m, hmm⟩ : ∃ m, meetRaw f[k] b = m := ⟨_, rfl⟩
          rw [hmm] at hmv HC hkq
          have hst := HX.out _ hbx
          have HSX := hid hst
          have hkg := hst.2.2.1
          have hcg := fun (o : Nat) => hkg.cell o
          have hfg := fun (o : Nat) => hkg.frz o
          have hcq := fun (o : Nat) => hkq.cell o
          have R1 := HR1.out.go hbx
          have hr1x := fun (o : Nat) => R1.cell o
          unfold VB at hmv hvb
          obtain ⟨m1, m2, m3, m4, m5, m6, m7, m8⟩ := hmv
          obtain ⟨n1, n2, n3, n4, n5, n6, n7, n8⟩ := hvb
          obtain ⟨L2, hL2⟩ : ∃ M : List Bx, M = coF (f.take k) b ++ [shB m b] := ⟨_, rfl⟩
          have HL2 := hid hL2
          have hgx : W.heap.size + 1 < wc.heap.size := hkg.lt
          clear hL2 hmm hst hkg R1 hbx hkq
          go_wp2_with (at_builtin; refine wpList_pushN boxE _ rfl (.tmp 37) (.tmp 53) _ rfl W.heap.size 33 i0 _ 32 Try.underlying29 hi0 hz0 hz1 hz2 rfl (by omega) _ _ rfl HSX.out.2.2.2.1 _ (shB m b) _ rfl rfl (by simp) (Nat.le_trans (HLK.out k) (by omega)) (by omega) L2 HL2.out ?_)
          intro v' w' ho' hg' hat'
          obtain ⟨A', cap', rfl, -⟩ := ho'.shape
          have HST' := hid (HSX.out.push ho' hg' hat' (by omega))
          have hkw := HSX.out.blkG hg'
          have hcw := fun (o : Nat) => hkw.cell o
          have hfw := fun (o : Nat) => hkw.frz o
          clear ho' hg' hat' hkw
          go_wp2
          exact ⟨⟨k + 1, by go_num, by omega, _, by rw [HC.out, ← HL2.out]; exact HST'.out⟩, by simp [intOf]; omega⟩
      | false =>
        have HC := hid (coF_f hlt hm)
        have HM := hid hm
        clear hm
        go_upto_region 6 with (fail)
        go_cut [9, 10] (fun _ mt wx => mt = .bool false ∧ Below wr.heap.size wr wx)
        case first =>
          have ZK := hid ((Below.refl _ _).drew : Below wr.heap.size wr wr.drew)
          go_region_held3 (fun w' => ∀ b o, b < wr.heap.size → w'.cell? ⟨b, o, none⟩ = wr.cell? ⟨b, o, none⟩) (first | with_reducible exact fun b o h => ZK.out.cell (p := ⟨b, o, none⟩) h | with_reducible exact fun b o h => (ZK.out.alloc ZK.out.size _).cell (p := ⟨b, o, none⟩) h | with_reducible exact fun b o h => (((Below.refl _ _).alloc (Nat.le_refl _) _).drew).cell (p := ⟨b, o, none⟩) h | with_reducible exact fun b o h => ((((ZK.out.setCell (Nat.le_refl _) _).setCell (Nat.le_refl _) _).setCell (Nat.le_refl _) _).setCell (Nat.le_refl _) _).cell (p := ⟨b, o, none⟩) h)
            (first | (go_at_call 83; ((with_reducible refine (smeetOf_f f[k] b _ (HVF.out _ (List.getElem_mem hlt)) HVB.out HM.out).mono ?_); rintro e wq ⟨rfl, hb⟩; obtain ⟨hc2, hf2, hs2⟩ := bcell hb; (try have hz2 : wr.heap.size < wq.heap.size := (by simp at hs2; omega)); (first | with_reducible replace ZK := hid (ZK.out.trans (hb.mono ZK.out.size)) | with_reducible replace ZK := hid ((((Below.refl wr.heap.size wr).alloc (Nat.le_refl _) _).drew).trans (hb.mono (((Below.refl wr.heap.size wr).alloc (Nat.le_refl _) _).drew).size))); clear hb hs2)))
          all_goals
            go_wp2
            go_meet
            case rel =>
              first
                | exact ⟨rfl, ZK.out.alloc ZK.out.size _⟩
                | exact ⟨rfl, ((((ZK.out.setCell (Nat.le_refl _) _).setCell (Nat.le_refl _) _).setCell (Nat.le_refl _) _).setCell (Nat.le_refl _) _)⟩
        case rest =>
          obtain ⟨rfl, hbx⟩ := hcut
          have HST' := hid (HX.out _ hbx)
          clear hbx
          go_wp2
          exact ⟨⟨k + 1, by go_num, by omega, v, by rw [HC.out]; exact HST'.out⟩, by simp [intOf]; omega⟩
    · have e : f.take k = f := List.take_of_length_le (by omega)
      rw [e] at HST HO
      have R2 := HQ2.out.go HBW.out
      have R3 := HST.out.2.2.1
      have hr2 := fun (o : Nat) => R2.cell o
      have hf2 := fun (o : Nat) => R2.frz o
      have hr3 := fun (o : Nat) => R3.cell o
      obtain ⟨A', cap', rfl, -⟩ := HO.out.shape
      have z6 : w.heap.size + 1 + 1 < wr.heap.size := by have := HsW.out; omega
      clear e R2 R3 HX
      go_wp2
      refine bodyPost_ret (v := .agg #[.int .i64 l, .int .i64 b.w, .int .i64 b.h, .slice A' (coF f b).length cap']) (by simp [results, Try.results68, go_sem, hr2]) rfl ⟨?_, ?_⟩
      · refine ⟨⟨l, b.w, b.h, A', (coF f b).length, cap'⟩, rfl, ⟨rfl, rfl, rfl⟩, ?_⟩
        have hs := HsW.out
        exact ((((HO.out.setCell_far (p := ⟨w.heap.size + 1 + 1, 0, none⟩) (by simp; omega) _).setCell_far (p := ⟨w.heap.size + 1 + 1, 1, none⟩) (by simp; omega) _).setCell_far (p := ⟨w.heap.size + 1 + 1, 2, none⟩) (by simp; omega) _).setCell_far (p := ⟨w.heap.size + 1 + 1, 3, none⟩) (by simp; omega) _).base_le (by omega)
      · exact ((((HBr.out.setCell (by simp; omega) _).setCell (by simp; omega) _).setCell (by simp; omega) _).setCell (by simp; omega) _)

end Go.Proofs.Ytpicbkakghojnaa
