/-
  The law FnEndsOf, walked.
-/
import Derived.Test.YtcfhncckeedipaaDrJob
import Derived.Test.YtcfhncckeedipaaEndsOf
import Derived.Test.YtcfhncckeedipaaLawInts
import Derived.Test.YtcfhncckeedipaaGrow
namespace Go.Proofs.Ytcfhncckeedipaa
set_option linter.unusedSimpArgs false
set_option linter.unusedVariables false
open Go.RowKit

theorem equalInts_same (v1 v2 : Value) (xs : List Int) (w : World) (h1 : Row intE w v1 xs) (h2 : Row intE w v2 xs) :
    Calls Try.prog 16 #[v1, v2] w fun e w' => e = .returned (.bool true) ∧ Dr w w' :=
  (equalInts_c v1 v2 xs xs w h1 h2).mono fun e w' ⟨h, hd⟩ => ⟨by rw [h]; simp, hd⟩

theorem ends_facts {L : List Jb} {O : List Int} (h : 0 < (endsOut L O).length) : VR L O ∧ (endsOut L O).length = O.length ∧ (∀ k (hk : k < (endsOut L O).length), (endsOut L O)[k] = heatTo L O (k + 1)) ∧ spanOut L O = heatTo L O O.length := by
  cases hv : vrB L O with
  | false => rw [endsOut_f hv] at h; simp at h
  | true =>
    refine ⟨vrB_iff.1 hv, by rw [endsOut_t hv, endsTo_len], fun k hk => ?_, spanOut_t hv⟩
    have e := endsOut_t hv
    simp only [e]
    rw [endsTo_at]

set_option maxHeartbeats 12800000 in
set_option maxRecDepth 100000 in
theorem FnEndsOf_c (v : Value) (L : List Int) (w : World) (h : Row byteE w v L ∧ ∀ x ∈ L, 0 ≤ x ∧ x ≤ 255) : Calls Try.prog 3 #[v] w fun e w' => e = .returned (.bool true) ∧ Below w.heap.size w w' := by
  obtain ⟨h, hb⟩ := h
  obtain ⟨A, c, rfl, hc1, hm1⟩ := h.form
  unfold maxLen at hm1
  by_cases hle : 1048576 < L.length
  · have hd : decide ((1048576 : Int) < (L.length : Int)) = true := by simp; omega
    go_enter Try.func3, Try.ntmps3
    go_wp2
    go_ret
    exact ⟨rfl, Below.refl _ _⟩
  · have hd : decide ((1048576 : Int) < (L.length : Int)) = false := by simp; omega
    have HH := hid h
    have HB := hid hb
    clear h hb hle
    go_enter Try.func3, Try.ntmps3
    go_wp2_with fail
    refine (DrawEndsOf_c _ L _ HH.out HB.out).mono ?_
    rintro e w1 ⟨u, o, M, O, rfl, hM, hO, -, hb⟩
    have HM1 := hid hM
    have HO1 := hid hO
    have HB1 := hid hb
    clear hM hO hb
    go_wp2_with fail
    refine (EndsOf_c _ _ M O _ HM1.out HO1.out).mono ?_
    rintro e w2 ⟨r1, rfl, hr, hb⟩
    have HM2 := hid (HM1.out.go hb)
    have HO2 := hid (HO1.out.go hb)
    have HB2 := hid (HB1.out.trans (hb.mono HB1.out.size))
    have HE2 := hid hr.rowB
    clear hr hb
    obtain ⟨A1, k1, rfl, hk1, hm2⟩ := HE2.out.form
    unfold maxLen at hm2
    go_wp2_with fail
    refine (sEndsOf_c _ _ M O _ HM2.out HO2.out).mono ?_
    rintro e w3 ⟨r2, rfl, hr, hb⟩
    have HM3 := hid (HM2.out.go hb)
    have HO3 := hid (HO2.out.go hb)
    have HB3 := hid (HB2.out.trans (hb.mono HB2.out.size))
    have HE3 := hid (HE2.out.go hb)
    have HS3 := hid hr.rowB
    clear hr hb
    go_wp2_with fail
    refine (equalInts_same _ _ _ _ HE3.out HS3.out).mono ?_
    rintro e w4 ⟨rfl, hd4⟩
    have HM4 := hid (HM3.out.drR hd4)
    have HO4 := hid (HO3.out.drR hd4)
    have HB4 := hid (HB3.out.trans (hd4.below _))
    have HE4 := hid (HE3.out.drR hd4)
    clear hd4
    by_cases h0 : 0 < (endsOut M O).length
    · obtain ⟨hvr, hlen, hat, hsp⟩ := ends_facts h0
      obtain ⟨E, hE⟩ : ∃ E, E = endsOut M O := ⟨_, rfl⟩
      rw [← hE] at HE4 hk1 hlen hat h0 ⊢
      have h0b : ((E.length : Int) == 0) = false := cast_beq0 h0
      have HAT := hid hat
      have HSP := hid hsp
      have HVR := hid hvr
      have HLEN := hid hlen
      have hE16 : E.length ≤ 16 := by have := hvr.1.1; have := hvr.2.1; omega
      clear hE hlen hat hsp hvr
      go_wp2
      go_loopw [6, 7] (fun c i wr => ∃ k : Nat, i = .int .i64 k ∧ c = .int .i64 (cutTo M O k) ∧ k ≤ E.length ∧ Dr w4 wr) (fun _ i _ => E.length - (intOf i).toNat)
      case atStart => exact ⟨0, rfl, rfl, by omega, Dr.refl _⟩
      case round =>
        obtain ⟨k, rfl, rfl, hk, hd⟩ := hrel
        have HDR := hid hd
        clear hd
        by_cases hlt : k < E.length
        · obtain ⟨b1, o1, rfl, -, hx⟩ := row_cells1 (HE4.out.drR HDR.out) (by omega)
          obtain ⟨b2, o2, hA2, -, hy⟩ : ∃ b2 o2, (∃ c2, o = .slice (some ⟨b2, o2, none⟩) O.length c2 ∧ O.length ≤ c2 ∧ c2 ≤ maxLen) ∧ True ∧ ∀ k, (hk : k < O.length) → wr.cell? ⟨b2, o2 + k, none⟩ = some (.int .i64 O[k]) := by
            have hr := HO4.out.drR HDR.out
            obtain ⟨A2, c2, rfl, hc2, hm2⟩ := hr.form
            obtain ⟨b2, o2, rfl, -, hy⟩ := row_cells1 hr (by have := HLEN.out; omega)
            exact ⟨b2, o2, ⟨c2, rfl, hc2, hm2⟩, trivial, hy⟩
          obtain ⟨c2, rfl, hc2, hm3⟩ := hA2
          unfold maxLen at hm3
          have hltO : k < O.length := by have := HLEN.out; omega
          have hy' := hy k hltO
          obtain ⟨m, hm, hOm, hjm⟩ := jobAt_eq HVR.out.2 k hltO
          rw [hOm] at hy'
          obtain ⟨b3, o3, hA3, hz⟩ : ∃ b3 o3, (∃ c3, u = .slice (some ⟨b3, o3, none⟩) M.length c3 ∧ M.length ≤ c3 ∧ c3 ≤ maxLen) ∧ ∀ k, (hk : k < M.length) → wr.cell? ⟨b3, o3 + k * 2, none⟩ = some (.int .i64 M[k].c) ∧ wr.cell? ⟨b3, o3 + k * 2 + 1, none⟩ = some (.int .i64 M[k].h) := by
            have hr := HM4.out.drR HDR.out
            obtain ⟨A2, c2, rfl, hc2, hm2⟩ := hr.form
            obtain ⟨b2, o2, rfl, -, hy⟩ := row_jobs hr (by omega)
            exact ⟨b2, o2, ⟨c2, rfl, hc2, hm2⟩, hy⟩
          obtain ⟨c3, rfl, hc3, hm4⟩ := hA3
          unfold maxLen at hm4
          obtain ⟨z0, z1⟩ := hz m hm
          have hx' := hx k hlt
          have cb := cutTo_bd (O := O) HVR.out.1 k
          have tb := heatTo_bd (O := O) HVR.out.1 k
          have jb := HVR.out.1.2 _ (List.getElem_mem hm)
          unfold okJ at jb
          obtain ⟨cb1, cb2⟩ := cb
          obtain ⟨tb1, tb2⟩ := tb
          obtain ⟨j1, j2, j3, j4⟩ := jb
          have HC : Hid (cutTo M O (k + 1) = cutTo M O k + M[m].c) := by rw [Hid, cutTo, hjm]
          have hT : heatTo M O (k + 1) = max (heatTo M O k) (cutTo M O k + M[m].c) + M[m].h := by rw [heatTo, hjm]
          have hEk := HAT.out k hlt
          have t1 : decide (E[k] < cutTo M O k + M[m].c + M[m].h) = false := decide_eq_false (by omega)
          have hs1 : IntKind.i64.wrap (cutTo M O k + M[m].c + M[m].h) = cutTo M O k + M[m].c + M[m].h := IntWalk.i64_in _ (by omega)
          by_cases hk0 : k = 0
          · have hk0d : decide (0 < k) = false := decide_eq_false (by omega)
            have HK0 := hid hk0
            clear hT hEk hOm hjm hx hy hz HE4 HO4 HM4 hk0
            go_wp2
            go_quiet (fail)
            clear hs1
            go_wp2
            exact ⟨⟨k + 1, by go_num, by have := HC.out; rw [this], by omega, HDR.out.step _⟩, by simp [intOf]; omega⟩
          · have hk0d : decide (0 < k) = true := decide_eq_true (by omega)
            obtain ⟨y, hx2, hEk2⟩ : ∃ y, wr.cell? ⟨b1, o1 + (k - 1), none⟩ = some (.int .i64 y) ∧ y = heatTo M O k := by
              have h1 := hx (k - 1) (by omega)
              rw [HAT.out (k - 1) (by omega)] at h1
              have e1 : k - 1 + 1 = k := by omega
              rw [e1] at h1
              exact ⟨_, h1, rfl⟩
            have t2 : decide (E[k] < y + M[m].h) = false := decide_eq_false (by omega)
            have e2 : 0 ≤ y := by omega
            have e3 : y ≤ 16000 := by omega
            have hs2 : IntKind.i64.wrap (y + M[m].h) = y + M[m].h := IntWalk.i64_in _ (by omega)
            have hw1 : IntKind.i64.wrap ((k : Int) - 1) = (k : Int) - 1 := IntWalk.i64_in _ (by omega)
            have hw2 : ((k : Int) - 1).toNat = k - 1 := by omega
            have hw3 : 0 ≤ (k : Int) - 1 := by omega
            clear hT hEk hOm hjm hx hy hz HE4 HO4 HM4 hEk2 hk0
            go_wp2
            go_quiet (fail)
            clear hw1 hw2 hw3 hs1 hs2
            go_wp2
            exact ⟨⟨k + 1, by go_num, by have := HC.out; rw [this], by omega, HDR.out.step _⟩, by simp [intOf]; omega⟩
        · have e : k = E.length := by omega
          obtain ⟨b1, o1, rfl, hb1, hx⟩ := row_cells1 (HE4.out.drR HDR.out) (by omega)
          have hx' := hx (E.length - 1) (by omega)
          have hEk := HAT.out (E.length - 1) (by omega)
          have hlen := HLEN.out
          have e1 : E.length - 1 + 1 = O.length := by omega
          rw [e1, ← HSP.out] at hEk
          rw [hEk] at hx'
          have HC : Hid (∀ w, Row jobE w u M → Row intE w o O → Calls Try.prog 18 #[u, o] w fun e w' => e = .returned (.int .i64 (spanOut M O)) ∧ Below w.heap.size w w') := fun w h1 h2 => SpanOf_c _ _ M O w h1 h2
          have hw1 : IntKind.i64.wrap ((E.length : Int) - 1) = (E.length : Int) - 1 := IntWalk.i64_in _ (by omega)
          have hw2 : ((E.length : Int) - 1).toNat = E.length - 1 := by omega
          have hw3 : 0 ≤ (E.length : Int) - 1 := by omega
          have hself : (spanOut M O == spanOut M O) = true := by simp
          have HMr := hid (HM4.out.drR HDR.out)
          have HOr := hid (HO4.out.drR HDR.out)
          have HBr := hid (HB4.out.trans (HDR.out.below _))
          subst e
          clear hx hEk hlen e1
          go_wp2
          have hq := fun (q : GW wr.heap.size wr) => q.cell
          refine wp_region_grow wr.heap.size wr (by kernel_rfl) (by kernel_rfl) ?_
          repeat (go_big_quiet_step (first | (go_at_call 18; exact GW.call (Nat.le_refl _) (HC.out _ (HMr.out.go (GW.h _)) (HOr.out.go (GW.h _))))))
          refine wpQuiet_nil ?_
          rintro _ ⟨q, rfl⟩
          have HQ := hid q.h
          go_wp2
          go_ret
          exact ⟨rfl, HBr.out.trans (HQ.out.mono HBr.out.size)⟩
    · have hE : endsOut M O = [] := List.eq_nil_of_length_eq_zero (by omega)
      have h0b : (((endsOut M O).length : Int) == 0) = true := cast_beq0_t (by omega)
      clear hE h0
      go_wp2_with fail
      refine (sEndsOf_c _ _ M O _ HM4.out HO4.out).mono ?_
      rintro e w5 ⟨r2, rfl, hr, hb⟩
      have HB5 := hid (HB4.out.trans (hb.mono HB4.out.size))
      have HE5 := hid (HE4.out.go hb)
      have HS5 := hid hr.rowB
      clear hr hb
      go_wp2_with fail
      refine (equalInts_same _ _ _ _ HE5.out HS5.out).mono ?_
      rintro e w6 ⟨rfl, hd6⟩
      have HB6 := hid (HB5.out.trans (hd6.below _))
      clear hd6
      go_wp2
      go_ret
      exact ⟨rfl, HB6.out⟩

end Go.Proofs.Ytcfhncckeedipaa
