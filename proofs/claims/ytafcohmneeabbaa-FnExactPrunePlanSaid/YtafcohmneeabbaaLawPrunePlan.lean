/-
  The law FnExactPrunePlan, walked (written by a program of mine).
-/
import Derived.Test.YtafcohmneeabbaaPruneI
import Derived.Test.YtafcohmneeabbaaHeldPl
namespace Go.Proofs.Ytafcohmneeabbaa
set_option linter.unusedSimpArgs false
set_option linter.unusedVariables false
open Go.RowKit

theorem OD.pr {e : TypeId} {w : World} {n lo : Nat} {p : Pl} {s : Sh} (hs : s.same p) (h : OD e w n lo w.heap.size s.kv p.ks) : PR w.heap.size w n p s := ⟨hs, h.fr (Nat.le_refl _)⟩
theorem pr_mk {B : Nat} {w : World} {n : Nat} {p : Pl} {s : Sh} (h1 : s.same p) (h2 : FR B w n s.kv p.ks) : PR B w n p s := ⟨h1, h2⟩
theorem PR.more {B B' : Nat} {w : World} {n : Nat} {p : Pl} {s : Sh} (h : PR B w n p s) (hB : B ≤ B') : PR B' w n p s := ⟨h.1, FR.heap hB (fun _ _ => rfl) h.2⟩
theorem Blk.rng {w w' : World} {g lo hi : Nat} {cs : Array Value} {t : TypeId} (h : Blk w g cs t) (hr : Rng lo hi w w') (hg : g < lo ∨ hi ≤ g) : Blk w' g cs t := (hr.block g h.lt hg).trans h

set_option maxHeartbeats 12800000 in
set_option maxRecDepth 100000 in
theorem FnExactPrunePlan_c (n : Nat) (s : Sh) (p : Pl) (w : World) (h : PR w.heap.size w n p s) : Calls Try.prog 7 #[.agg #[.int .i64 s.o, .int .i64 s.a, .int .i64 s.p, .bool s.t, .slice s.ka s.kn s.kc]] w fun e w' => e = .returned (.bool true) ∧ Below w.heap.size w w' := by
  have hB := below_pl (o := s.o) (a := s.a) (p := s.p) (t := s.t) (ka := s.ka) (kn := s.kn) (kc := s.kc) (ty := 35) w
  have HB0 := hid hB
  have HP := hid (fun w1 (hb : Below w.heap.size w w1) => h.go hb)
  have QA0 := hid (Blk.new w #[.int .i64 s.o, .int .i64 s.a, .int .i64 s.p, .bool s.t, .slice s.ka s.kn s.kc] 35)
  have htp := prOut_tot p
  clear hB h
  by_cases hle : (tot p.ks : Int) ≤ 1048576
  · have HE := hid (szR_t hle)
    have HT : Hid (tot p.ks ≤ 4194304) := by rw [Hid]; omega
    have z0 : w.heap.size + 1 = (w.alloc (.cells #[.int .i64 s.o, .int .i64 s.a, .int .i64 s.p, .bool s.t, .slice s.ka s.kn s.kc] 35)).heap.size := by simp
    have Z0 := hid z0
    clear z0
    go_enter Try.func7, Try.ntmps7
    go_wp2_with fail
    refine (szPlan_c (n := n) (p := p) (s := s) (HP.out _ HB0.out) (by omega) (by omega)).mono ?_
    rintro e w1 ⟨rfl, hb⟩
    have QA_1 := hid (QA0.out.go hb)
    have HB_1 := hid (HB0.out.trans (hb.mono HB0.out.size))
    have z1 := hb.size
    (try simp only [World.size_alloc] at z1)
    clear hb
    try clear c_A l_A
    have c_A := fun (o : Nat) => QA_1.out.cell o
    have l_A := QA_1.out.lt
    have y1 : w.heap.size + 1 ≤ w1.heap.size := by have := Z0.out; omega
    rw [HE.out]
    go_wp2_with fail
    refine (toPlan_c (n := n) (p := p) (s := s) (HP.out _ HB_1.out) HT.out).mono ?_
    rintro e w2 ⟨s0, rfl, hs, hod, hb⟩
    have HPc := hid (OD.pr hs hod)
    have QA_2 := hid (QA_1.out.go hb)
    have HB_2 := hid (HB_1.out.trans (hb.mono HB_1.out.size))
    have z2 := hb.size
    (try simp only [World.size_alloc] at z2)
    clear hb hs hod
    try clear c_A l_A
    have c_A := fun (o : Nat) => QA_2.out.cell o
    have l_A := QA_2.out.lt
    go_wp2_with fail
    refine (sPrunePlan_c (n := n) (p := p) (s := s0) HPc.out).mono ?_
    rintro e w3 ⟨sw, rfl, hpr, hb⟩
    have QA_3 := hid (QA_2.out.go hb)
    have HB_3 := hid (HB_2.out.trans (hb.mono HB_2.out.size))
    have z3 := hb.size
    (try simp only [World.size_alloc] at z3)
    clear hb
    try clear c_A l_A
    have c_A := fun (o : Nat) => QA_3.out.cell o
    have l_A := QA_3.out.lt
    have HW_0 := hid hpr
    clear hpr
    have hb : Below w3.heap.size w3 (w3.alloc (.cells #[.int .i64 sw.o, .int .i64 sw.a, .int .i64 sw.p, .bool sw.t, .slice sw.ka sw.kn sw.kc] 30)) := (Below.refl _ _).alloc (Nat.le_refl _) _
    have Q4_n := hid (Blk.new w3 #[.int .i64 sw.o, .int .i64 sw.a, .int .i64 sw.p, .bool sw.t, .slice sw.ka sw.kn sw.kc] 30)
    have QA_4 := hid (QA_3.out.go hb)
    have HB_4 := hid (HB_3.out.trans (hb.mono HB_3.out.size))
    have z4 := hb.size
    (try simp only [World.size_alloc] at z4)
    clear hb
    have HW_1 := hid (HW_0.out.below ((Below.refl _ _).alloc (Nat.le_refl _) (.cells #[.int .i64 sw.o, .int .i64 sw.a, .int .i64 sw.p, .bool sw.t, .slice sw.ka sw.kn sw.kc] 30) : Below w3.heap.size w3 _))
    try clear c_A l_A
    have c_A := fun (o : Nat) => QA_4.out.cell o
    have l_A := QA_4.out.lt
    try clear c_4 l_4
    have c_4 := fun (o : Nat) => Q4_n.out.cell o
    have l_4 := Q4_n.out.lt
    go_wp2_with fail
    refine (toPlan_c (n := n) (p := p) (s := s) (HP.out _ HB_4.out) HT.out).mono ?_
    rintro e w4 ⟨sx, rfl, hs, hod, hb⟩
    have HXs := hid hs
    simp only [World.size_alloc] at hod
    have HX_0 := hid hod
    have QA_5 := hid (QA_4.out.go hb)
    have Q4_5 := hid (Q4_n.out.go hb)
    have HB_5 := hid (HB_4.out.trans (hb.mono HB_4.out.size))
    have HW_5 := hid (HW_1.out.below (hb.mono (by simp)))
    have z5 := hb.size
    (try simp only [World.size_alloc] at z5)
    clear hb hs hod
    try clear c_A l_A
    have c_A := fun (o : Nat) => QA_5.out.cell o
    have l_A := QA_5.out.lt
    try clear c_4 l_4
    have c_4 := fun (o : Nat) => Q4_5.out.cell o
    have l_4 := Q4_5.out.lt
    have y4 : w3.heap.size + 1 ≤ w4.heap.size := HX_0.out.le
    have hb : Below w4.heap.size w4 (w4.alloc (.cells #[.int .i64 sx.o, .int .i64 sx.a, .int .i64 sx.p, .bool sx.t, .slice sx.ka sx.kn sx.kc] 30)) := (Below.refl _ _).alloc (Nat.le_refl _) _
    have Q5_n := hid (Blk.new w4 #[.int .i64 sx.o, .int .i64 sx.a, .int .i64 sx.p, .bool sx.t, .slice sx.ka sx.kn sx.kc] 30)
    have QA_6 := hid (QA_5.out.go hb)
    have Q4_6 := hid (Q4_5.out.go hb)
    have HB_6 := hid (HB_5.out.trans (hb.mono HB_5.out.size))
    have HW_6 := hid (HW_5.out.below (hb.mono (by omega)))
    have HX_6 := hid (HX_0.out.below hb (Nat.le_refl _))
    have z6 := hb.size
    (try simp only [World.size_alloc] at z6)
    clear hb
    try clear c_A l_A
    have c_A := fun (o : Nat) => QA_6.out.cell o
    have l_A := QA_6.out.lt
    try clear c_4 l_4
    have c_4 := fun (o : Nat) => Q4_6.out.cell o
    have l_4 := Q4_6.out.lt
    try clear c_5 l_5
    have c_5 := fun (o : Nat) => Q5_n.out.cell o
    have l_5 := Q5_n.out.lt
    have HPx := hid (show PR (w4.alloc (.cells #[.int .i64 sx.o, .int .i64 sx.a, .int .i64 sx.p, .bool sx.t, .slice sx.ka sx.kn sx.kc] 30)).heap.size _ n p sx from ⟨HXs.out, HX_6.out.fr (by simp)⟩)
    go_wp2_with fail
    refine (PrunePlan_c (n := n) (p := p) (s := sx) HPx.out).mono ?_
    rintro e w5 ⟨sg, rfl, hs, hod, hb⟩
    have HGs := hid hs
    simp only [World.size_alloc] at hod
    have HG_0 := hid hod
    have QA_7 := hid (QA_6.out.go hb)
    have Q4_7 := hid (Q4_6.out.go hb)
    have Q5_7 := hid (Q5_n.out.go hb)
    have HB_7 := hid (HB_6.out.trans (hb.mono HB_6.out.size))
    have HW_7 := hid (HW_6.out.below (hb.mono (by simp; omega)))
    have HX_7 := hid (HX_6.out.below hb (by simp))
    have z7 := hb.size
    (try simp only [World.size_alloc] at z7)
    clear hb hs hod
    try clear c_A l_A
    have c_A := fun (o : Nat) => QA_7.out.cell o
    have l_A := QA_7.out.lt
    try clear c_4 l_4
    have c_4 := fun (o : Nat) => Q4_7.out.cell o
    have l_4 := Q4_7.out.lt
    try clear c_5 l_5
    have c_5 := fun (o : Nat) => Q5_7.out.cell o
    have l_5 := Q5_7.out.lt
    have y5 : w4.heap.size + 1 ≤ w5.heap.size := HG_0.out.le
    have hb : Below w5.heap.size w5 (w5.alloc (.cells #[.int .i64 sg.o, .int .i64 sg.a, .int .i64 sg.p, .bool sg.t, .slice sg.ka sg.kn sg.kc] 30)) := (Below.refl _ _).alloc (Nat.le_refl _) _
    have Q6_n := hid (Blk.new w5 #[.int .i64 sg.o, .int .i64 sg.a, .int .i64 sg.p, .bool sg.t, .slice sg.ka sg.kn sg.kc] 30)
    have QA_8 := hid (QA_7.out.go hb)
    have Q4_8 := hid (Q4_7.out.go hb)
    have Q5_8 := hid (Q5_7.out.go hb)
    have HB_8 := hid (HB_7.out.trans (hb.mono HB_7.out.size))
    have HW_8 := hid (HW_7.out.below (hb.mono (by omega)))
    have HX_8 := hid (HX_7.out.below hb (by omega))
    have HG_8 := hid (HG_0.out.below hb (Nat.le_refl _))
    have z8 := hb.size
    (try simp only [World.size_alloc] at z8)
    clear hb
    try clear c_A l_A
    have c_A := fun (o : Nat) => QA_8.out.cell o
    have l_A := QA_8.out.lt
    try clear c_4 l_4
    have c_4 := fun (o : Nat) => Q4_8.out.cell o
    have l_4 := Q4_8.out.lt
    try clear c_5 l_5
    have c_5 := fun (o : Nat) => Q5_8.out.cell o
    have l_5 := Q5_8.out.lt
    try clear c_6 l_6
    have c_6 := fun (o : Nat) => Q6_n.out.cell o
    have l_6 := Q6_n.out.lt
    go_wp2_with fail
    refine (eqPlan_c (n := 256) (m := 256) (p := prOut p) (s1 := sg) (s2 := sw) ⟨HGs.out, HG_8.out.fr (by simp <;> omega)⟩ (HW_8.out.more (by simp <;> omega))).mono ?_
    rintro e w6 ⟨rfl, hb⟩
    have QA_9 := hid (QA_8.out.go hb)
    have Q4_9 := hid (Q4_8.out.go hb)
    have Q5_9 := hid (Q5_8.out.go hb)
    have Q6_9 := hid (Q6_n.out.go hb)
    have HB_9 := hid (HB_8.out.trans (hb.mono HB_8.out.size))
    have HW_9 := hid (HW_8.out.below (hb.mono (by simp; omega)))
    have HX_9 := hid (HX_8.out.below hb (by simp; omega))
    have HG_9 := hid (HG_8.out.below hb (by simp))
    have z9 := hb.size
    (try simp only [World.size_alloc] at z9)
    clear hb
    try clear c_A l_A
    have c_A := fun (o : Nat) => QA_9.out.cell o
    have l_A := QA_9.out.lt
    try clear c_4 l_4
    have c_4 := fun (o : Nat) => Q4_9.out.cell o
    have l_4 := Q4_9.out.lt
    try clear c_5 l_5
    have c_5 := fun (o : Nat) => Q5_9.out.cell o
    have l_5 := Q5_9.out.lt
    try clear c_6 l_6
    have c_6 := fun (o : Nat) => Q6_9.out.cell o
    have l_6 := Q6_9.out.lt
    have y6 : w5.heap.size + 1 ≤ w6.heap.size := by omega
    go_wp2
    have ZK := hid ((Below.refl _ _).drew : Below w6.heap.size w6 w6.drew)
    go_region_held3 (fun w' => ∀ b o, b < w6.heap.size → w'.cell? ⟨b, o, none⟩ = w6.cell? ⟨b, o, none⟩) (exact fun b o h => ZK.out.cell (p := ⟨b, o, none⟩) h)
      (first | (go_at_call 26; ((with_reducible refine (toPlan_c (n := n) (p := p) (s := s) (HP.out _ (HB_9.out.trans (ZK.out.mono HB_9.out.size))) HT.out).mono ?_); rintro e w7 ⟨s3, rfl, hs3, hod3, hb⟩; have HP3 := hid (OD.pr hs3 hod3); replace ZK := hid (ZK.out.trans (hb.mono ZK.out.size)); clear hb hs3 hod3)) | (go_at_call 28; ((with_reducible refine (eqPlan_c (n := n) (m := n) (p := p) (s1 := sx) (s2 := s3) (pr_mk HXs.out ((HX_9.out.below ZK.out (by omega)).fr (by have := ZK.out.size; omega))) HP3.out).mono ?_); rintro e w8 ⟨rfl, hb⟩; replace ZK := hid (ZK.out.trans (hb.mono ZK.out.size)); clear hb)) | fail)
    all_goals
      have hb := ZK.out
      have QA_10 := hid (QA_9.out.go hb)
      have Q4_10 := hid (Q4_9.out.go hb)
      have Q5_10 := hid (Q5_9.out.go hb)
      have Q6_10 := hid (Q6_9.out.go hb)
      have HB_10 := hid (HB_9.out.trans (hb.mono HB_9.out.size))
      have HW_10 := hid (HW_9.out.below (hb.mono (by omega)))
      have HX_10 := hid (HX_9.out.below hb (by omega))
      have HG_10 := hid (HG_9.out.below hb (by omega))
      have z10 := hb.size
      (try simp only [World.size_alloc] at z10)
      clear hb ZK
      have y8 : w5.heap.size + 1 ≤ w8.heap.size := by omega
      try clear c_A l_A
      have c_A := fun (o : Nat) => QA_10.out.cell o
      have l_A := QA_10.out.lt
      try clear c_4 l_4
      have c_4 := fun (o : Nat) => Q4_10.out.cell o
      have l_4 := Q4_10.out.lt
      try clear c_5 l_5
      have c_5 := fun (o : Nat) => Q5_10.out.cell o
      have l_5 := Q5_10.out.lt
      try clear c_6 l_6
      have c_6 := fun (o : Nat) => Q6_10.out.cell o
      have l_6 := Q6_10.out.lt
      go_wp2_with fail
      refine (markPlan_c (n := n) (p := p) (s := sx) HX_10.out (by omega) (by omega) (by omega)).mono ?_
      rintro e w9 ⟨Lx, rfl, -, -, -, hr⟩
      have QA_11 := hid (QA_10.out.rng hr (.inl (by omega)))
      have Q4_11 := hid (Q4_10.out.rng hr (.inl (by omega)))
      have Q5_11 := hid (Q5_10.out.rng hr (.inr (by omega)))
      have Q6_11 := hid (Q6_10.out.rng hr (.inr (by omega)))
      have HB_11 := hid (HB_10.out.trans (hr.below (by omega) (HB_10.out.size)))
      have HW_11 := hid (HW_10.out.rng hr (by omega) (by omega))
      have HG_11 := hid (HG_10.out.rng hr (by omega) (.inr (by omega)))
      have z11 := hr.size
      (try simp only [World.size_alloc] at z11)
      clear hr
      try clear c_A l_A
      have c_A := fun (o : Nat) => QA_11.out.cell o
      have l_A := QA_11.out.lt
      try clear c_4 l_4
      have c_4 := fun (o : Nat) => Q4_11.out.cell o
      have l_4 := Q4_11.out.lt
      try clear c_5 l_5
      have c_5 := fun (o : Nat) => Q5_11.out.cell o
      have l_5 := Q5_11.out.lt
      try clear c_6 l_6
      have c_6 := fun (o : Nat) => Q6_11.out.cell o
      have l_6 := Q6_11.out.lt
      have y9 : w5.heap.size + 1 ≤ w9.heap.size := by omega
      have dk1 : decide ((1 : Int) + 4 * (tot p.ks : Int) < 0) = false := decide_eq_false (by omega)
      go_wp2_with fail
      refine (eqPlan_c (n := 256) (m := 256) (p := prOut p) (s1 := sg) (s2 := sw) ⟨HGs.out, HG_11.out.fr (by omega)⟩ (HW_11.out.more (by omega))).mono ?_
      rintro e w10 ⟨rfl, hb⟩
      have QA_12 := hid (QA_11.out.go hb)
      have Q4_12 := hid (Q4_11.out.go hb)
      have Q5_12 := hid (Q5_11.out.go hb)
      have Q6_12 := hid (Q6_11.out.go hb)
      have HB_12 := hid (HB_11.out.trans (hb.mono HB_11.out.size))
      have HW_12 := hid (HW_11.out.below (hb.mono (by omega)))
      have HG_12 := hid (HG_11.out.below hb (by omega))
      have z12 := hb.size
      (try simp only [World.size_alloc] at z12)
      clear hb
      try clear c_A l_A
      have c_A := fun (o : Nat) => QA_12.out.cell o
      have l_A := QA_12.out.lt
      try clear c_4 l_4
      have c_4 := fun (o : Nat) => Q4_12.out.cell o
      have l_4 := Q4_12.out.lt
      try clear c_5 l_5
      have c_5 := fun (o : Nat) => Q5_12.out.cell o
      have l_5 := Q5_12.out.lt
      try clear c_6 l_6
      have c_6 := fun (o : Nat) => Q6_12.out.cell o
      have l_6 := Q6_12.out.lt
      go_wp2_with fail
      refine (markPlan_c (n := 256) (p := prOut p) (s := sg) HG_12.out (by omega) (by omega) (by omega)).mono ?_
      rintro e w11 ⟨Lg, rfl, hmk, htl, hod, hr⟩
      have HMK := hid hmk
      have HL_0 := hid hod
      have QA_13 := hid (QA_12.out.rng hr (.inl (by omega)))
      have Q4_13 := hid (Q4_12.out.rng hr (.inl (by omega)))
      have Q5_13 := hid (Q5_12.out.rng hr (.inl (by omega)))
      have Q6_13 := hid (Q6_12.out.rng hr (.inr (by omega)))
      have HB_13 := hid (HB_12.out.trans (hr.below (by omega) (HB_12.out.size)))
      have HW_13 := hid (HW_12.out.rng hr (by omega) (by omega))
      have z13 := hr.size
      (try simp only [World.size_alloc] at z13)
      clear hr hmk htl hod
      try clear c_A l_A
      have c_A := fun (o : Nat) => QA_13.out.cell o
      have l_A := QA_13.out.lt
      try clear c_4 l_4
      have c_4 := fun (o : Nat) => Q4_13.out.cell o
      have l_4 := Q4_13.out.lt
      try clear c_5 l_5
      have c_5 := fun (o : Nat) => Q5_13.out.cell o
      have l_5 := Q5_13.out.lt
      try clear c_6 l_6
      have c_6 := fun (o : Nat) => Q6_13.out.cell o
      have l_6 := Q6_13.out.lt
      have y11 : w5.heap.size + 1 ≤ w11.heap.size := by omega
      have dm1 : decide ((1 : Int) + 4 * (tot (prOut p).ks : Int) < 0) = false := decide_eq_false (by omega)
      go_wp2_with fail
      refine (heldPlan_c (n := 256) (s := sg) (L := Lg) (k := 1) (HL_0.out.fr (by omega)) HMK.out (by omega) (by omega)).mono ?_
      rintro e w12 ⟨rfl, hb⟩
      have QA_14 := hid (QA_13.out.go hb)
      have Q4_14 := hid (Q4_13.out.go hb)
      have Q5_14 := hid (Q5_13.out.go hb)
      have Q6_14 := hid (Q6_13.out.go hb)
      have HB_14 := hid (HB_13.out.trans (hb.mono HB_13.out.size))
      have HW_14 := hid (HW_13.out.below (hb.mono (by omega)))
      have HL_14 := hid (HL_0.out.below hb (by omega))
      have z14 := hb.size
      (try simp only [World.size_alloc] at z14)
      clear hb
      try clear c_A l_A
      have c_A := fun (o : Nat) => QA_14.out.cell o
      have l_A := QA_14.out.lt
      try clear c_4 l_4
      have c_4 := fun (o : Nat) => Q4_14.out.cell o
      have l_4 := Q4_14.out.lt
      try clear c_5 l_5
      have c_5 := fun (o : Nat) => Q5_14.out.cell o
      have l_5 := Q5_14.out.lt
      try clear c_6 l_6
      have c_6 := fun (o : Nat) => Q6_14.out.cell o
      have l_6 := Q6_14.out.lt
      have y12 : w5.heap.size + 1 ≤ w12.heap.size := by omega
      go_wp2_with fail
      refine (toPlan_c (n := n) (p := p) (s := s) (HP.out _ HB_14.out) HT.out).mono ?_
      rintro e w13 ⟨s4, rfl, hs, hod, hb⟩
      have HP4 := hid (OD.pr hs hod)
      have QA_15 := hid (QA_14.out.go hb)
      have Q4_15 := hid (Q4_14.out.go hb)
      have Q5_15 := hid (Q5_14.out.go hb)
      have Q6_15 := hid (Q6_14.out.go hb)
      have HB_15 := hid (HB_14.out.trans (hb.mono HB_14.out.size))
      have HW_15 := hid (HW_14.out.below (hb.mono (by omega)))
      have HL_15 := hid (HL_14.out.below hb (by omega))
      have z15 := hb.size
      (try simp only [World.size_alloc] at z15)
      clear hb hs hod
      try clear c_A l_A
      have c_A := fun (o : Nat) => QA_15.out.cell o
      have l_A := QA_15.out.lt
      try clear c_4 l_4
      have c_4 := fun (o : Nat) => Q4_15.out.cell o
      have l_4 := Q4_15.out.lt
      try clear c_5 l_5
      have c_5 := fun (o : Nat) => Q5_15.out.cell o
      have l_5 := Q5_15.out.lt
      try clear c_6 l_6
      have c_6 := fun (o : Nat) => Q6_15.out.cell o
      have l_6 := Q6_15.out.lt
      have y13 : w5.heap.size + 1 ≤ w13.heap.size := by omega
      go_wp2_with fail
      refine (PrunePlan_c (n := n) (p := p) (s := s4) HP4.out).mono ?_
      rintro e w14 ⟨sh, rfl, hs, hod, hb⟩
      have HHs := hid hs
      have HH_0 := hid hod
      have QA_16 := hid (QA_15.out.go hb)
      have Q4_16 := hid (Q4_15.out.go hb)
      have Q5_16 := hid (Q5_15.out.go hb)
      have Q6_16 := hid (Q6_15.out.go hb)
      have HB_16 := hid (HB_15.out.trans (hb.mono HB_15.out.size))
      have HW_16 := hid (HW_15.out.below (hb.mono (by omega)))
      have HL_16 := hid (HL_15.out.below hb (by omega))
      have z16 := hb.size
      (try simp only [World.size_alloc] at z16)
      clear hb hs hod
      try clear c_A l_A
      have c_A := fun (o : Nat) => QA_16.out.cell o
      have l_A := QA_16.out.lt
      try clear c_4 l_4
      have c_4 := fun (o : Nat) => Q4_16.out.cell o
      have l_4 := Q4_16.out.lt
      try clear c_5 l_5
      have c_5 := fun (o : Nat) => Q5_16.out.cell o
      have l_5 := Q5_16.out.lt
      try clear c_6 l_6
      have c_6 := fun (o : Nat) => Q6_16.out.cell o
      have l_6 := Q6_16.out.lt
      have y14 : w5.heap.size + 1 ≤ w14.heap.size := by omega
      have hb : Below w14.heap.size w14 (w14.alloc (.cells #[.int .i64 sh.o, .int .i64 sh.a, .int .i64 sh.p, .bool sh.t, .slice sh.ka sh.kn sh.kc] 30)) := (Below.refl _ _).alloc (Nat.le_refl _) _
      have Q9_n := hid (Blk.new w14 #[.int .i64 sh.o, .int .i64 sh.a, .int .i64 sh.p, .bool sh.t, .slice sh.ka sh.kn sh.kc] 30)
      have QA_17 := hid (QA_16.out.go hb)
      have Q4_17 := hid (Q4_16.out.go hb)
      have Q5_17 := hid (Q5_16.out.go hb)
      have Q6_17 := hid (Q6_16.out.go hb)
      have HB_17 := hid (HB_16.out.trans (hb.mono HB_16.out.size))
      have HW_17 := hid (HW_16.out.below (hb.mono (by omega)))
      have HL_17 := hid (HL_16.out.below hb (by omega))
      have HH_17 := hid (HH_0.out.below hb (Nat.le_refl _))
      have z17 := hb.size
      (try simp only [World.size_alloc] at z17)
      clear hb
      try clear c_A l_A
      have c_A := fun (o : Nat) => QA_17.out.cell o
      have l_A := QA_17.out.lt
      try clear c_4 l_4
      have c_4 := fun (o : Nat) => Q4_17.out.cell o
      have l_4 := Q4_17.out.lt
      try clear c_5 l_5
      have c_5 := fun (o : Nat) => Q5_17.out.cell o
      have l_5 := Q5_17.out.lt
      try clear c_6 l_6
      have c_6 := fun (o : Nat) => Q6_17.out.cell o
      have l_6 := Q6_17.out.lt
      try clear c_9 l_9
      have c_9 := fun (o : Nat) => Q9_n.out.cell o
      have l_9 := Q9_n.out.lt
      go_wp2_with fail
      refine (eqPlan_c (n := 256) (m := 256) (p := prOut p) (s1 := sh) (s2 := sw) ⟨HHs.out, HH_17.out.fr (by simp)⟩ (HW_17.out.more (by simp; omega))).mono ?_
      rintro e w15 ⟨rfl, hb⟩
      have QA_18 := hid (QA_17.out.go hb)
      have Q4_18 := hid (Q4_17.out.go hb)
      have Q5_18 := hid (Q5_17.out.go hb)
      have Q6_18 := hid (Q6_17.out.go hb)
      have Q9_18 := hid (Q9_n.out.go hb)
      have HB_18 := hid (HB_17.out.trans (hb.mono HB_17.out.size))
      have HW_18 := hid (HW_17.out.below (hb.mono (by simp; omega)))
      have HL_18 := hid (HL_17.out.below hb (by simp; omega))
      have HH_18 := hid (HH_17.out.below hb (by simp))
      have z18 := hb.size
      (try simp only [World.size_alloc] at z18)
      clear hb
      try clear c_A l_A
      have c_A := fun (o : Nat) => QA_18.out.cell o
      have l_A := QA_18.out.lt
      try clear c_4 l_4
      have c_4 := fun (o : Nat) => Q4_18.out.cell o
      have l_4 := Q4_18.out.lt
      try clear c_5 l_5
      have c_5 := fun (o : Nat) => Q5_18.out.cell o
      have l_5 := Q5_18.out.lt
      try clear c_6 l_6
      have c_6 := fun (o : Nat) => Q6_18.out.cell o
      have l_6 := Q6_18.out.lt
      try clear c_9 l_9
      have c_9 := fun (o : Nat) => Q9_18.out.cell o
      have l_9 := Q9_18.out.lt
      have y15 : w5.heap.size + 1 ≤ w15.heap.size := by omega
      go_wp2_with fail
      refine (heldPlan_c (n := 256) (s := sg) (L := Lg) (k := 1) (HL_18.out.fr (by omega)) HMK.out (by omega) (by omega)).mono ?_
      rintro e w16 ⟨rfl, hb⟩
      have QA_19 := hid (QA_18.out.go hb)
      have Q4_19 := hid (Q4_18.out.go hb)
      have Q5_19 := hid (Q5_18.out.go hb)
      have Q6_19 := hid (Q6_18.out.go hb)
      have Q9_19 := hid (Q9_18.out.go hb)
      have HB_19 := hid (HB_18.out.trans (hb.mono HB_18.out.size))
      have HW_19 := hid (HW_18.out.below (hb.mono (by omega)))
      have HL_19 := hid (HL_18.out.below hb (by omega))
      have z19 := hb.size
      (try simp only [World.size_alloc] at z19)
      clear hb
      try clear c_A l_A
      have c_A := fun (o : Nat) => QA_19.out.cell o
      have l_A := QA_19.out.lt
      try clear c_4 l_4
      have c_4 := fun (o : Nat) => Q4_19.out.cell o
      have l_4 := Q4_19.out.lt
      try clear c_5 l_5
      have c_5 := fun (o : Nat) => Q5_19.out.cell o
      have l_5 := Q5_19.out.lt
      try clear c_6 l_6
      have c_6 := fun (o : Nat) => Q6_19.out.cell o
      have l_6 := Q6_19.out.lt
      try clear c_9 l_9
      have c_9 := fun (o : Nat) => Q9_19.out.cell o
      have l_9 := Q9_19.out.lt
      go_wp2
      go_ret
      exact ⟨rfl, HB_19.out⟩
  · have HE := hid (szR_f hle)
    clear hle
    go_enter Try.func7, Try.ntmps7
    go_wp2_with fail
    refine (szPlan_c (n := n) (p := p) (s := s) (HP.out _ HB0.out) (by omega) (by omega)).mono ?_
    rintro e w1 ⟨rfl, hb⟩
    have HB1 := hid (HB0.out.trans (hb.mono HB0.out.size))
    rw [HE.out]
    clear hb
    go_wp2
    go_ret
    exact ⟨rfl, HB1.out⟩

end Go.Proofs.Ytafcohmneeabbaa
