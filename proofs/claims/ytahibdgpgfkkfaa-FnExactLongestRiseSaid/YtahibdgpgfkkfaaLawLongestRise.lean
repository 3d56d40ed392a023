/-
  The law FnExactLongestRise, walked.
-/
import Derived.Test.YtahibdgpgfkkfaaLong
import Derived.Test.YtahibdgpgfkkfaaLongS
namespace Go.Proofs.Ytahibdgpgfkkfaa
open Go.RowKit

theorem riseOut_len (L : List Int) : (riseOut L).length ≤ L.length := by
  unfold riseOut
  split
  · rename_i h
    rw [List.length_map]
    unfold riseIdx
    rw [List.length_reverse]
    rcases Nat.eq_zero_or_pos L.length with h0 | h0
    · have : L = [] := List.eq_nil_of_length_eq_zero h0
      subst this; decide
    · rw [chain_ok]
      · have := top_le L; omega
      · intro _
        have := pick_top L (vtB_iff.1 h) h0
        have ht := top_nonneg (risesL L)
        rwa [show (((top (risesL L)).toNat : Nat) : Int) = top (risesL L) by omega]
  · simp

theorem own_ne {α β : Type} {E : Enc α} {F : Enc β} {e e' : TypeId} {b b' : Nat} {w w' : World} {v v' : Value} {L : List α} {M : List β} (h : Own E e b w v L) (h' : Own F e' b' w' v' M) (hb : w.heap.size ≤ b') : v.ownBlock = none ∨ v.ownBlock ≠ v'.ownBlock := by
  cases hv : v.ownBlock with
  | none => exact .inl rfl
  | some k =>
    refine .inr fun h2 => ?_
    have h3 := (h.lt k hv).2
    have h4 := (h'.lt k h2.symm).1
    omega
theorem own_ne' {α β : Type} {E : Enc α} {F : Enc β} {e e' : TypeId} {b b' : Nat} {w w' : World} {v v' : Value} {L : List α} {M : List β} (h : Own E e b w v L) (h' : Own F e' b' w' v' M) (hb : w.heap.size ≤ b') : v'.ownBlock = none ∨ v'.ownBlock ≠ v.ownBlock := by
  cases hv : v'.ownBlock with
  | none => exact .inl rfl
  | some k =>
    refine .inr fun h2 => ?_
    have h3 := (h.lt k h2.symm).2
    have h4 := (h'.lt k hv).1
    omega

set_option maxHeartbeats 2000000 in
set_option maxRecDepth 100000 in
theorem FnExactLongestRise_c (v : Value) (L : List Int) (w : World) (h : Row intE w v L) :
    Calls Try.prog 3 #[v] w fun e w' => e = .returned (.bool true) ∧ Below w.heap.size w w' := by
  obtain ⟨A1, c1, rfl, hc1, hm1⟩ := h.form
  unfold maxLen at hm1
  by_cases hL : L.length ≤ 1048576
  · have hO := riseOut_len L
    go_enter Try.func3, Try.ntmps3
    go_wp2_with fail
    refine (toIntS_c _ L _ h (by omega)).mono ?_
    rintro e w1 ⟨v1, rfl, ho1, hb1⟩
    have HB1 := hid hb1; clear hb1
    go_wp2_with fail
    refine (sLongestRise_c _ L _ ho1.rowB).mono ?_
    rintro e w2 ⟨vw, rfl, how, hb2⟩
    have HB2 := hid (HB1.out.trans (hb2.mono HB1.out.size)); clear hb2
    have HW := hid how; clear how ho1
    go_wp2_with fail
    refine (toIntS_c _ L _ (h.go HB2.out) (by omega)).mono ?_
    rintro e w3 ⟨vx, rfl, hox, hb3⟩
    have HN1 := hid (own_ne HW.out hox (Nat.le_refl _))
    have HW3 := hid (HW.out.below hb3)
    have HX3 := hid hox
    have HB3 := hid (HB2.out.trans (hb3.mono HB2.out.size)); clear hb3 hox
    go_wp2_with fail
    refine (LongestRise_c _ L _ HX3.out.rowB).mono ?_
    rintro e w4 ⟨vg, rfl, hog, hb4⟩
    have HW4 := hid (HW3.out.below hb4)
    have HX4 := hid (HX3.out.below hb4)
    have HG4 := hid hog
    have HN2 := hid (own_ne' HX3.out hog (Nat.le_refl _))
    have HN3 := hid (own_ne HW3.out hog (Nat.le_refl _))
    have HB4 := hid (HB3.out.trans (hb4.mono HB3.out.size)); clear hb4 hog
    go_wp2_with fail
    refine (eqIntS_c _ _ _ _ _ HG4.out.rowB HW4.out.rowB).mono ?_
    rintro e w5 ⟨rfl, hd5⟩
    have HW5 := hid (HW4.out.dr hd5)
    have HX5 := hid (HX4.out.dr hd5)
    have HG5 := hid (HG4.out.dr hd5)
    have HB5 := hid (HB4.out.trans (hd5.below _)); clear hd5
    simp only [decide_true]
    go_wp2_with fail
    refine (toIntS_c _ L _ (h.go HB5.out) (by omega)).mono ?_
    rintro e w6 ⟨v6, rfl, ho6, hb6⟩
    have HW6 := hid (HW5.out.below hb6)
    have HX6 := hid (HX5.out.below hb6)
    have HG6 := hid (HG5.out.below hb6)
    have H6 := hid ho6
    have HB6 := hid (HB5.out.trans (hb6.mono HB5.out.size)); clear hb6 ho6
    go_wp2_with fail
    refine (eqIntS_c _ _ _ _ _ HX6.out.rowB H6.out.rowB).mono ?_
    rintro e w7 ⟨rfl, hd7⟩
    have HW7 := hid (HW6.out.dr hd7)
    have HX7 := hid (HX6.out.dr hd7)
    have HG7 := hid (HG6.out.dr hd7)
    have HB7 := hid (HB6.out.trans (hd7.below _)); clear hd7
    simp only [decide_true]
    go_wp2_with fail
    refine (markIntS_c _ L _ 1 _ HX7.out (by omega) (by omega) (by omega)).mono ?_
    rintro e w8 ⟨rfl, -, hg8⟩
    have HW8 := hid (HW7.out.kept hg8 HN1.out)
    have HG8 := hid (HG7.out.kept hg8 HN2.out)
    have HB8 := hid (HB7.out.grown hg8 HB7.out.size (fun k hk => Nat.le_trans HB2.out.size (HX7.out.lt k hk).1)); clear hg8
    go_wp2_with fail
    refine (eqIntS_c _ _ _ _ _ HG8.out.rowB HW8.out.rowB).mono ?_
    rintro e w9 ⟨rfl, hd9⟩
    have HW9 := hid (HW8.out.dr hd9)
    have HG9 := hid (HG8.out.dr hd9)
    have HB9 := hid (HB8.out.trans (hd9.below _)); clear hd9
    simp only [decide_true]
    go_wp2_with fail
    refine (markIntS_c _ (riseOut L) _ 1 _ HG9.out (by omega) (by omega) (by omega)).mono ?_
    rintro e w10 ⟨rfl, hog10, hg10⟩
    have HW10 := hid (HW9.out.kept hg10 HN3.out)
    have HG10 := hid hog10
    have HB10 := hid (HB9.out.grown hg10 HB9.out.size (fun k hk => Nat.le_trans HB3.out.size (HG9.out.lt k hk).1)); clear hg10 hog10
    go_wp2_with fail
    refine (heldIntS_c _ 1 (riseOut L).length _ HG10.out.rowB (by omega) (by omega) (by omega)).mono ?_
    rintro e w11 ⟨rfl, hd11⟩
    have HW11 := hid (HW10.out.dr hd11)
    have HG11 := hid (HG10.out.dr hd11)
    have HB11 := hid (HB10.out.trans (hd11.below _)); clear hd11
    go_wp2_with fail
    refine (toIntS_c _ L _ (h.go HB11.out) (by omega)).mono ?_
    rintro e w12 ⟨v12, rfl, ho12, hb12⟩
    have HW12 := hid (HW11.out.below hb12)
    have HG12 := hid (HG11.out.below hb12)
    have H12 := hid ho12
    have HB12 := hid (HB11.out.trans (hb12.mono HB11.out.size)); clear hb12 ho12
    go_wp2_with fail
    refine (LongestRise_c _ L _ H12.out.rowB).mono ?_
    rintro e w13 ⟨vh, rfl, ho13, hb13⟩
    have HW13 := hid (HW12.out.below hb13)
    have HG13 := hid (HG12.out.below hb13)
    have H13 := hid ho13
    have HB13 := hid (HB12.out.trans (hb13.mono HB12.out.size)); clear hb13 ho13
    go_wp2_with fail
    refine (eqIntS_c _ _ _ _ _ H13.out.rowB HW13.out.rowB).mono ?_
    rintro e w14 ⟨rfl, hd14⟩
    have HG14 := hid (HG13.out.dr hd14)
    have HB14 := hid (HB13.out.trans (hd14.below _)); clear hd14
    simp only [decide_true]
    go_wp2_with fail
    refine (heldIntS_c _ 1 (riseOut L).length _ HG14.out.rowB (by omega) (by omega) (by omega)).mono ?_
    rintro e w15 ⟨rfl, hd15⟩
    have HB15 := hid (HB14.out.trans (hd15.below _)); clear hd15
    go_wp2
    go_ret
    exact ⟨rfl, HB15.out⟩
  · have hL' : 1048576 < (L.length : Int) := by omega
    go_enter Try.func3, Try.ntmps3
    go_wp2
    go_ret
    exact ⟨rfl, Below.refl _ _⟩

end Go.Proofs.Ytahibdgpgfkkfaa
