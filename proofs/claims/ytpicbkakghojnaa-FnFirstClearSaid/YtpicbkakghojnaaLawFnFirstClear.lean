/-
  The law FnFirstClear, walked (written by a program of mine).
-/
import Derived.Test.YtpicbkakghojnaaDrDrB
import Derived.Test.YtpicbkakghojnaaPcAt
import Derived.Test.YtpicbkakghojnaaFirstT
namespace Go.Proofs.Ytpicbkakghojnaa
set_option linter.unusedSimpArgs false
set_option linter.unusedVariables false
open Go.RowKit

theorem fcX_some {f : List Bx} {a b y : Int} {c : Bx} : ∀ (n : Nat) (x0 : Int), fcX f a b y n x0 = some c → c.y = y ∧ c.w = a ∧ c.h = b ∧ x0 ≤ c.x ∧ c.x < x0 + n ∧ clB f c = true ∧ ∀ x : Int, x0 ≤ x → x < c.x → clB f ⟨x, y, a, b⟩ = false
  | 0, _, h => by simp [fcX] at h
  | n + 1, x0, h => by
    rw [fcX] at h
    split at h
    · rename_i hc
      injection h with h
      subst h
      exact ⟨rfl, rfl, rfl, Int.le_refl _, by simp only; omega, hc, fun x h1 h2 => by simp only at h2; omega⟩
    · rename_i hc
      obtain ⟨h1, h2, h3, h4, h5, h6, h7⟩ := fcX_some n (x0 + 1) h
      refine ⟨h1, h2, h3, by omega, by omega, h6, fun x hx1 hx2 => ?_⟩
      by_cases e : x = x0
      · subst e; simpa using hc
      · exact h7 x (by omega) hx2
theorem fcX_none {f : List Bx} {a b y : Int} : ∀ (n : Nat) (x0 : Int), fcX f a b y n x0 = none → ∀ x : Int, x0 ≤ x → x < x0 + n → clB f ⟨x, y, a, b⟩ = false
  | 0, _, _ => fun x h1 h2 => by omega
  | n + 1, x0, h => by
    rw [fcX] at h
    split at h
    · cases h
    · rename_i hc
      intro x h1 h2
      by_cases e : x = x0
      · subst e; simpa using hc
      · exact fcX_none n (x0 + 1) h x (by omega) (by omega)
theorem fcY_some {f : List Bx} {a b : Int} {m : Nat} {c : Bx} : ∀ (n : Nat) (y0 : Int), fcY f a b m n y0 = some c → c.w = a ∧ c.h = b ∧ 0 ≤ c.x ∧ c.x < m ∧ y0 ≤ c.y ∧ c.y < y0 + n ∧ clB f c = true ∧ ∀ y x : Int, y0 ≤ y → 0 ≤ x → x < m → (y < c.y ∨ (y = c.y ∧ x < c.x)) → clB f ⟨x, y, a, b⟩ = false
  | 0, _, h => by simp [fcY] at h
  | n + 1, y0, h => by
    rw [fcY] at h
    split at h
    · rename_i c' hc
      injection h with h
      subst h
      obtain ⟨h1, h2, h3, h4, h5, h6, h7⟩ := fcX_some m 0 hc
      refine ⟨h2, h3, by omega, by omega, by omega, by omega, h6, fun y x hy hx hm ho => ?_⟩
      have e : y = y0 := by omega
      subst e
      exact h7 x hx (by omega)
    · rename_i hc
      obtain ⟨h1, h2, h3, h4, h5, h6, h7, h8⟩ := fcY_some n (y0 + 1) h
      refine ⟨h1, h2, h3, h4, by omega, by omega, h7, fun y x hy hx hm ho => ?_⟩
      by_cases e : y = y0
      · subst e; exact fcX_none m 0 hc x hx (by omega)
      · exact h8 y x (by omega) hx hm ho
theorem caB_in {p : Pc} (hp : VP p) {x y a b : Int} (h0 : 0 ≤ x) (h1 : 0 ≤ y) (ha : 1 ≤ a) (hb : 1 ≤ b) (h2 : x + a ≤ p.w) (h3 : y + b ≤ p.h) : caB p ⟨x, y, a, b⟩ = clB p.f ⟨x, y, a, b⟩ := by
  have ho : okF p.w p.h ⟨x, y, a, b⟩ := by
    obtain ⟨-, ⟨w1, w2⟩, ⟨w3, w4⟩, -⟩ := hp
    unfold okF VB
    simp only
    omega
  rw [caB, vpB_iff.2 hp]
  simp [ho]
theorem fcG_some {p : Pc} {a b : Int} {c : Bx} (h : fcG p a b = some c) : VP p ∧ (1 ≤ a ∧ a ≤ 200) ∧ (1 ≤ b ∧ b ≤ 200) ∧ c.w = a ∧ c.h = b ∧ (0 ≤ c.x ∧ c.x + a ≤ p.w) ∧ (0 ≤ c.y ∧ c.y + b ≤ p.h) ∧ caB p c = true ∧
    ∀ y x : Int, 0 ≤ y → 0 ≤ x → x + a ≤ p.w → (y < c.y ∨ (y = c.y ∧ x < c.x)) → caB p ⟨x, y, a, b⟩ = false := by
  unfold fcG at h
  split at h
  · rename_i hc
    obtain ⟨hp, ha, hb⟩ := hc
    unfold fcR at h
    obtain ⟨h1, h2, h3, h4, h5, h6, h7, h8⟩ := fcY_some _ _ h
    have g1 : c.x + a ≤ p.w := by omega
    have g2 : c.y + b ≤ p.h := by omega
    refine ⟨hp, ha, hb, h1, h2, ⟨h3, g1⟩, ⟨by omega, g2⟩, ?_, fun y x hy hx hxa ho => ?_⟩
    · obtain ⟨cx, cy, cw, ch⟩ := c
      simp only at h1 h2 h3 h5 g1 g2
      subst h1 h2
      rw [caB_in hp h3 (by omega) ha.1 hb.1 g1 g2]
      exact h7
    · rw [caB_in hp hx hy ha.1 hb.1 hxa (by omega)]
      exact h8 y x hy hx (by omega) ho
  · cases h

set_option maxHeartbeats 1600000 in
theorem equalBox_c (b : Bx) (w : World) : Calls Try.prog 41 #[.agg #[.int .i64 b.x, .int .i64 b.y, .int .i64 b.w, .int .i64 b.h], .agg #[.int .i64 b.x, .int .i64 b.y, .int .i64 b.w, .int .i64 b.h]] w fun e w' => e = .returned (.bool true) ∧ Below w.heap.size w w' := by
  go_enter Try.func41, Try.ntmps41
  go_wp2
  go_ret
  exact ⟨rfl, ((Below.refl _ _).alloc (Nat.le_refl _) _).alloc (by simp) _⟩

set_option maxHeartbeats 12800000 in
set_option maxRecDepth 100000 in
theorem FnFirstClear_c (v : Value) (L : List Int) (w : World) (h : Row byteE w v L ∧ ∀ x ∈ L, 0 ≤ x ∧ x ≤ 255) : Calls Try.prog 10 #[v] w fun e w' => e = .returned (.bool true) ∧ Below w.heap.size w w' := by
  obtain ⟨h, hb⟩ := h
  obtain ⟨A, c, rfl, hc1, hm1⟩ := h.form
  unfold maxLen at hm1
  by_cases hle : 1048576 < L.length
  · have hd : decide ((1048576 : Int) < (L.length : Int)) = true := by simp; omega
    go_enter Try.func10, Try.ntmps10
    go_wp2
    go_ret
    exact ⟨rfl, Below.refl _ _⟩
  · have hd : decide ((1048576 : Int) < (L.length : Int)) = false := by simp; omega
    have HH := hid h
    have HB := hid hb
    clear h hb hle
    go_enter Try.func10, Try.ntmps10
    go_wp2_with fail
    refine (DrawFirstClear_c _ L _ HH.out HB.out).mono ?_
    rintro e w1 ⟨p, s, a, b, rfl, ⟨a0, a1⟩, ⟨b0, b1⟩, hs, ht, ho, hb⟩
    have HS := hid hs
    have HI := hid (tP_I64 ht)
    have HB1 := hid (hb.alloc hb.size (.cells #[.int .i64 s.l, .int .i64 s.w, .int .i64 s.h, .slice s.ka s.kn s.kc] 31))
    have hsz := hb.size
    have Hp_1 := hid (PcAt.mk_ ho hsz)
    clear hs ht ho hb
    obtain ⟨r, hr⟩ : ∃ r, r = fcG p a b := ⟨_, rfl⟩
    have HR := hid hr
    clear hr
    go_wp2_with fail
    refine (FirstClear_c p s a b _ (Hp_1.out.pvr HS.out)).mono ?_
    rintro e w2 ⟨rfl, hb⟩
    have Hp_2 := hid (Hp_1.out.go hb)
    have HB2 := hid (HB1.out.trans (hb.mono HB1.out.size))
    clear hb
    try clear c_p l_p
    have c_p := fun (o : Nat) => (Hp_2.out.1).cell o
    have l_p := (Hp_2.out.1).lt
    rw [← HR.out]
    have Hp_3 := hid (Hp_2.out.go ((Below.refl _ _).alloc (Nat.le_refl _) (.cells #[.int .i64 (fcV r).x, .int .i64 (fcV r).y, .int .i64 (fcV r).w, .int .i64 (fcV r).h] 33)))
    have HB3 := hid (HB2.out.trans (((Below.refl _ _).alloc (Nat.le_refl _) (.cells #[.int .i64 (fcV r).x, .int .i64 (fcV r).y, .int .i64 (fcV r).w, .int .i64 (fcV r).h] 33)).mono HB2.out.size))
    have Ho_3 := hid (Blk.new w2 #[.int .i64 (fcV r).x, .int .i64 (fcV r).y, .int .i64 (fcV r).w, .int .i64 (fcV r).h] 33)
    go_wp2_with fail
    refine (sFirstClear_c p s a b _ (Hp_3.out.pvr HS.out) HI.out.1 HI.out.2).mono ?_
    rintro e w4 ⟨rfl, hb⟩
    have Hp_4 := hid (Hp_3.out.go hb)
    have Ho_4 := hid (Ho_3.out.go hb)
    have HB4 := hid (HB3.out.trans (hb.mono HB3.out.size))
    clear hb
    try clear c_p l_p
    have c_p := fun (o : Nat) => (Hp_4.out.1).cell o
    have l_p := (Hp_4.out.1).lt
    try clear c_o l_o
    have c_o := fun (o : Nat) => (Ho_4.out).cell o
    have l_o := (Ho_4.out).lt
    rw [← HR.out]
    have Hp_5 := hid (Hp_4.out.go ((Below.refl _ _).alloc (Nat.le_refl _) (.cells #[.int .i64 (fcV r).x, .int .i64 (fcV r).y, .int .i64 (fcV r).w, .int .i64 (fcV r).h] 33)))
    have Ho_5 := hid (Ho_4.out.go ((Below.refl _ _).alloc (Nat.le_refl _) (.cells #[.int .i64 (fcV r).x, .int .i64 (fcV r).y, .int .i64 (fcV r).w, .int .i64 (fcV r).h] 33)))
    have HB5 := hid (HB4.out.trans (((Below.refl _ _).alloc (Nat.le_refl _) (.cells #[.int .i64 (fcV r).x, .int .i64 (fcV r).y, .int .i64 (fcV r).w, .int .i64 (fcV r).h] 33)).mono HB4.out.size))
    have Ht_5 := hid (Blk.new w4 #[.int .i64 (fcV r).x, .int .i64 (fcV r).y, .int .i64 (fcV r).w, .int .i64 (fcV r).h] 33)
    have hne : (fcO r != fcO r) = false := by simp
    have heq : (fcO r == fcO r) = true := by simp
    go_wp2_with fail
    refine (equalBox_c (fcV r) _).mono ?_
    rintro e w6 ⟨rfl, hb⟩
    have Hp_6 := hid (Hp_5.out.go hb)
    have Ho_6 := hid (Ho_5.out.go hb)
    have Ht_6 := hid (Ht_5.out.go hb)
    have HB6 := hid (HB5.out.trans (hb.mono HB5.out.size))
    clear hb
    try clear c_p l_p
    have c_p := fun (o : Nat) => (Hp_6.out.1).cell o
    have l_p := (Hp_6.out.1).lt
    try clear c_o l_o
    have c_o := fun (o : Nat) => (Ho_6.out).cell o
    have l_o := (Ho_6.out).lt
    try clear c_t l_t
    have c_t := fun (o : Nat) => (Ht_6.out).cell o
    have l_t := (Ht_6.out).lt
    cases r with
    | none =>
      have hn : fcO none = false := rfl
      go_wp2_with fail
      refine (equalBox_c (fcV none) _).mono ?_
      rintro e w7 ⟨rfl, hb⟩
      have Hp_7 := hid (Hp_6.out.go hb)
      have Ho_7 := hid (Ho_6.out.go hb)
      have Ht_7 := hid (Ht_6.out.go hb)
      have HB7 := hid (HB6.out.trans (hb.mono HB6.out.size))
      clear hb
      try clear c_p l_p
      have c_p := fun (o : Nat) => (Hp_7.out.1).cell o
      have l_p := (Hp_7.out.1).lt
      try clear c_o l_o
      have c_o := fun (o : Nat) => (Ho_7.out).cell o
      have l_o := (Ho_7.out).lt
      try clear c_t l_t
      have c_t := fun (o : Nat) => (Ht_7.out).cell o
      have l_t := (Ht_7.out).lt
      go_wp2
      go_ret
      exact ⟨rfl, HB7.out⟩
    | some c =>
      have hn : fcO (some c) = true := rfl
      obtain ⟨hp, ⟨a2, a3⟩, ⟨b2, b3⟩, cw, ch, ⟨x0, x1⟩, ⟨y0, y1⟩, hcl, hall⟩ := fcG_some HR.out.symm
      obtain ⟨cx, cy, cw', ch'⟩ := c
      simp only at cw ch x0 x1 y0 y1 hcl hall
      subst cw ch
      obtain ⟨g1, g2, g3⟩ := HS.out
      have HALL := hid hall
      have HCL := hid hcl
      have HCA := hid (fun b w hp => ClearAt_c p s b w hp)
      have hwb : p.w ≤ 200 := hp.2.1.2
      have hhb : p.h ≤ 200 := hp.2.2.1.2
      rw [← g2] at x1 hwb HALL
      rw [← g3] at y1 hhb
      have hbb := fun (o : Nat) => Ho_6.out.cell o
      clear hall hcl hp g1 g2 g3
      simp only [fcV, Option.getD_some] at *
      go_wp2
      go_loopw [10] (fun i wr => ∃ y : Int, i = .int .i64 y ∧ 0 ≤ y ∧ y ≤ cy + 1 ∧ Below w6.heap.size w6 wr) (fun i _ => 300 - (intOf i).toNat)
      case atStart => exact ⟨0, rfl, by omega, by omega, Below.refl _ _⟩
      case round =>
        obtain ⟨y, rfl, hy0, hy1, hb⟩ := hrel
        have HBy := hid hb
        have ko := Ho_6.out.go hb
        have kp := (Hp_6.out.go hb).1
        have c_o2 := fun (o : Nat) => ko.cell o
        have c_p2 := fun (o : Nat) => kp.cell o
        have HKo := hid ko
        have Hpy := hid (Hp_6.out.go hb)
        clear hb ko kp c_o c_p c_t hbb
        by_cases hy : y ≤ cy
        · go_wp2
          go_loopw [11] (fun i wi => ∃ x : Int, i = .int .i64 x ∧ 0 ≤ x ∧ x ≤ 201 ∧ Below w6.heap.size w6 wi) (fun i _ => 300 - (intOf i).toNat)
          case atStart => exact ⟨0, rfl, by omega, by omega, HBy.out⟩
          case round =>
            obtain ⟨x, rfl, hx0, hx1, hb⟩ := hrel
            have HBx := hid hb
            have ko := Ho_6.out.go hb
            have kp := (Hp_6.out.go hb).1
            clear c_o2 c_p2
            have c_o2 := fun (o : Nat) => ko.cell o
            have c_p2 := fun (o : Nat) => kp.cell o
            have Hpx := hid (Hp_6.out.go hb)
            clear hb ko kp
            by_cases hxa : x + cw' ≤ s.w
            · have hcase : y < cy ∨ (cy ≤ y ∧ x < cx) ∨ (cy ≤ y ∧ cx ≤ x) := by omega
              rcases hcase with e1 | ⟨e1, e2⟩ | ⟨e1, e2⟩
              · have HF := hid (HALL.out y x hy0 hx0 hxa (.inl e1))
                go_wp2_with fail
                refine (HCA.out ⟨x, y, cw', ch'⟩ _ (Hpx.out.pvr HS.out)).mono ?_
                rintro e wz ⟨rfl, hb⟩
                rw [HF.out]
                have HBz := hid (HBx.out.trans (hb.mono HBx.out.size))
                clear hb
                go_wp2
                first | exact ⟨⟨x + 1, by go_num, by omega, by omega, HBz.out⟩, by simp [intOf]; omega⟩ | (refine ⟨?_, by simp [intOf]; omega⟩; (repeat apply Exists.intro); exact ⟨⟨x + 1, by go_num, by omega, by omega, HBz.out⟩, rfl⟩)
              · have HF := hid (HALL.out y x hy0 hx0 hxa (.inr ⟨by omega, e2⟩))
                go_wp2_with fail
                refine (HCA.out ⟨x, y, cw', ch'⟩ _ (Hpx.out.pvr HS.out)).mono ?_
                rintro e wz ⟨rfl, hb⟩
                rw [HF.out]
                have HBz := hid (HBx.out.trans (hb.mono HBx.out.size))
                clear hb
                go_wp2
                first | exact ⟨⟨x + 1, by go_num, by omega, by omega, HBz.out⟩, by simp [intOf]; omega⟩ | (refine ⟨?_, by simp [intOf]; omega⟩; (repeat apply Exists.intro); exact ⟨⟨x + 1, by go_num, by omega, by omega, HBz.out⟩, rfl⟩)
              · go_wp2
                first | exact ⟨⟨y + 1, by go_num, by omega, by omega, HBx.out⟩, by simp [intOf]; omega⟩ | (refine ⟨?_, by simp [intOf]; omega⟩; (repeat apply Exists.intro); exact ⟨⟨y + 1, by go_num, by omega, by omega, HBx.out⟩, rfl⟩)
            · go_wp2
              first | exact ⟨⟨y + 1, by go_num, by omega, by omega, HBx.out⟩, by simp [intOf]; omega⟩ | (refine ⟨?_, by simp [intOf]; omega⟩; (repeat apply Exists.intro); exact ⟨⟨y + 1, by go_num, by omega, by omega, HBx.out⟩, rfl⟩)
        · go_wp2_with fail
          refine (HCA.out ⟨cx, cy, cw', ch'⟩ _ (Hpy.out.pvr HS.out)).mono ?_
          rintro e wz ⟨rfl, hb⟩
          rw [HCL.out]
          have ko := HKo.out.go hb
          have c_o3 := fun (o : Nat) => ko.cell o
          have HBz := hid (HBy.out.trans (hb.mono HBy.out.size))
          have q1 : (cw' == cw') = true := by simp
          have q2 : (ch' == ch') = true := by simp
          clear hb ko
          go_wp2
          go_ret
          exact ⟨rfl, HB6.out.trans (HBz.out.mono HB6.out.size)⟩

end Go.Proofs.Ytpicbkakghojnaa
