/-
  The law FnTakeStacks, walked (written by a program of mine).
-/
import Derived.Test.YtcfhncckeedipaaDrLift
import Derived.Test.YtcfhncckeedipaaTakeR
namespace Go.Proofs.Ytcfhncckeedipaa
set_option linter.unusedSimpArgs false
set_option linter.unusedVariables false
open Go.RowKit

set_option maxHeartbeats 12800000 in
set_option maxRecDepth 100000 in
theorem FnTakeStacks_c (v : Value) (L : List Int) (w : World) (h : Row byteE w v L ∧ ∀ x ∈ L, 0 ≤ x ∧ x ≤ 255) : Calls Try.prog 9 #[v] w fun e w' => e = .returned (.bool true) ∧ Below w.heap.size w w' := by
  obtain ⟨h, hb⟩ := h
  obtain ⟨A, c, rfl, hc1, hm1⟩ := h.form
  unfold maxLen at hm1
  by_cases hle : 1048576 < L.length
  · have hd : decide ((1048576 : Int) < (L.length : Int)) = true := by simp; omega
    go_enter Try.func9, Try.ntmps9
    go_wp2
    go_ret
    exact ⟨rfl, Below.refl _ _⟩
  · have hd : decide ((1048576 : Int) < (L.length : Int)) = false := by simp; omega
    have HH := hid h
    have HB := hid hb
    clear h hb hle
    go_enter Try.func9, Try.ntmps9
    go_wp2_with fail
    refine (DrawTakeStacks_c _ L _ HH.out HB.out).mono ?_
    rintro e w1 ⟨u, o, M, S, rfl, hM, hS, hl, hb⟩
    have HM1 := hid hM
    have HS1 := hid hS
    have HB1 := hid hb
    clear hM hS hb
    obtain ⟨Am, km, hvm, hkm, hmm⟩ := HM1.out.form
    subst hvm
    unfold maxLen at hmm
    obtain ⟨k0, hk0⟩ : ∃ b, b = takeOk M S := ⟨_, rfl⟩
    have HK := hid hk0
    have hkn : (k0 != k0) = false := by simp
    have hke : (k0 == k0) = true := by simp
    clear hk0
    go_wp2_with fail
    refine (TakeStacks_c _ _ M S _ HM1.out HS1.out).mono ?_
    rintro e w2 ⟨r1, rfl, hr, hb⟩
    have HM_2 := hid (HM1.out.go hb)
    have HS_2 := hid (HS1.out.go hb)
    have HB_2 := hid (HB1.out.trans (hb.mono HB1.out.size))
    have HE_2 := hid (hr.rowB)
    rw [← HK.out]
    obtain ⟨A1, k1, rfl, hk1, hm2⟩ := HE_2.out.form
    unfold maxLen at hm2
    clear hb hr
    go_wp2_with fail
    refine (sTakeStacks_c _ _ M S _ HM_2.out HS_2.out).mono ?_
    rintro e w3 ⟨r2, rfl, hr, hb⟩
    have HM_3 := hid (HM_2.out.go hb)
    have HS_3 := hid (HS_2.out.go hb)
    have HE_3 := hid (HE_2.out.go hb)
    have HB_3 := hid (HB_2.out.trans (hb.mono HB_2.out.size))
    have HF_3 := hid (hr.rowB)
    rw [← HK.out]
    clear hb hr
    obtain ⟨x, hx⟩ : ∃ x, x = liftsV M S := ⟨_, rfl⟩
    have HX := hid hx
    clear hx
    go_wp2_with fail
    refine (LiftsOf_c _ _ M S _ HM_3.out HS_3.out).mono ?_
    rintro e w4 ⟨rfl, hb⟩
    have HM_4 := hid (HM_3.out.go hb)
    have HS_4 := hid (HS_3.out.go hb)
    have HE_4 := hid (HE_3.out.go hb)
    have HF_4 := hid (HF_3.out.go hb)
    have HB_4 := hid (HB_3.out.trans (hb.mono HB_3.out.size))
    rw [← HX.out]
    clear hb
    cases hv : vsB M S with
    | false =>
      have hx0 : decide (x < 0) = true := by rw [HX.out, liftsV_f hv]; rfl
      clear hv
      go_wp2_with fail
      refine (equalInts_same _ _ _ _ HE_4.out HF_4.out).mono ?_
      rintro e w5 ⟨rfl, hd⟩
      have HM_5 := hid (HM_4.out.drR hd)
      have HS_5 := hid (HS_4.out.drR hd)
      have HE_5 := hid (HE_4.out.drR hd)
      have HF_5 := hid (HF_4.out.drR hd)
      have HB_5 := hid (HB_4.out.trans (hd.below _))
      clear hd
      go_wp2_with fail
      refine (equalInts_same _ _ _ _ HE_5.out HF_5.out).mono ?_
      rintro e w6 ⟨rfl, hd⟩
      have HM_6 := hid (HM_5.out.drR hd)
      have HS_6 := hid (HS_5.out.drR hd)
      have HE_6 := hid (HE_5.out.drR hd)
      have HF_6 := hid (HF_5.out.drR hd)
      have HB_6 := hid (HB_5.out.trans (hd.below _))
      clear hd
      go_wp2
      go_ret
      exact ⟨rfl, HB_6.out⟩
    | true =>
      have hvs := vsB_iff.1 hv
      have h3 : x = (liftsN M S : Nat) := by rw [HX.out, liftsV_t hv]
      have hx0 : decide (x < 0) = false := decide_eq_false (by omega)
      have hTO := takeOut_t hv
      have hcase : (k0 = true ∧ (x == 0) = true ∧ takeN M S = M.length) ∨ (k0 = false ∧ (x == 0) = false) := by
        by_cases h : takeN M S = M.length
        · have h4 := (take_lifts hvs).1 h
          exact .inl ⟨by rw [HK.out]; exact takeOk_all hv h, by rw [h3, h4]; rfl, h⟩
        · have h4 : liftsN M S ≠ 0 := fun e => h ((take_lifts hvs).2 e)
          have h5 := takeN_le M S
          exact .inr ⟨by rw [HK.out]; exact takeOk_no rfl (by omega), by rw [h3, beq_eq_false_iff_ne]; omega⟩
      have HCA := hid hcase
      have HTO := hid hTO
      clear hv hvs h3 hTO hcase
      go_wp2_with fail
      refine (equalInts_same _ _ _ _ HE_4.out HF_4.out).mono ?_
      rintro e w5 ⟨rfl, hd⟩
      have HM_5 := hid (HM_4.out.drR hd)
      have HS_5 := hid (HS_4.out.drR hd)
      have HE_5 := hid (HE_4.out.drR hd)
      have HF_5 := hid (HF_4.out.drR hd)
      have HB_5 := hid (HB_4.out.trans (hd.below _))
      clear hd
      have htl := takeN_le M S
      have hlenE : (takeOut M S).length = takeN M S := by rw [HTO.out, upList_len]
      have HEu := hid (show Row intE _ _ (upList (takeN M S)) by have := HE_5.out; rw [HTO.out] at this; exact this)
      rw [hlenE] at hk1 ⊢
      simp only [HTO.out, upList_len] at HEu
      obtain ⟨n, hn⟩ : ∃ n, n = takeN M S := ⟨_, rfl⟩
      have HN := hid hn
      rw [← hn] at HEu hk1 htl ⊢
      clear hn hlenE
      go_wp2
      go_loop [10] (fun i => ∃ k : Nat, i = .int .i64 k ∧ k ≤ n) (fun i => n - (intOf i).toNat)
      case atStart => exact ⟨0, rfl, by omega⟩
      case round =>
        obtain ⟨k, rfl, hk⟩ := hrel
        by_cases hlt : k < n
        · obtain ⟨b1, o1, rfl, -, hx⟩ := row_cells1 HEu.out (by omega)
          have hx' := hx k (by rw [upList_len]; exact hlt)
          rw [upList_at] at hx'
          have hkk : ((k : Int) != (k : Int)) = false := by simp
          clear hx
          go_wp2
          go_round
          case rel => exact ⟨k + 1, by go_num, by omega⟩
          case measure => simp [intOf]; omega
        · rcases HCA.out with ⟨h1, h2, h4⟩ | ⟨h1, h2⟩
          · have hfin : ((n : Int) == (M.length : Int)) = true := by rw [HN.out, h4]; simp
            subst h1
            clear h4
            go_wp2
            go_ret
            exact ⟨rfl, HB_5.out⟩
          · subst h1
            go_wp2
            go_ret
            exact ⟨rfl, HB_5.out⟩

end Go.Proofs.Ytcfhncckeedipaa
