/-
  The law FnExactTurnPiece, walked (written by a program of mine).
-/
import Derived.Test.YtpicbkakghojnaaTurnPs
import Derived.Test.YtpicbkakghojnaaPcAt
import Derived.Test.YtpicbkakghojnaaLawClearAt
namespace Go.Proofs.Ytpicbkakghojnaa
set_option linter.unusedSimpArgs false
set_option linter.unusedVariables false
open Go.RowKit

set_option maxHeartbeats 6400000 in
set_option maxRecDepth 100000 in
theorem FnExactTurnPiece_c (p : Pc) (s : Ps) (w : World) (h : PvR w.heap.size w p s ∧ I64 p.l ∧ I64 p.w ∧ I64 p.h) : Calls Try.prog 7 #[.agg #[.int .i64 s.l, .int .i64 s.w, .int .i64 s.h, .slice s.ka s.kn s.kc]] w fun e w' => e = .returned (.bool true) ∧ Below w.heap.size w w' := by
  have HB0 := hid (below_ps (l := s.l) (x := s.w) (y := s.h) (ka := s.ka) (kn := s.kn) (kc := s.kc) (ty := 24) w)
  obtain ⟨h, -, hW, hH⟩ := h
  have HI := hid (And.intro hW hH)
  have HP := hid (fun w1 (hb : Below w.heap.size w w1) => h.go hb)
  have HK := hid (Blk.new w #[.int .i64 s.l, .int .i64 s.w, .int .i64 s.h, .slice s.ka s.kn s.kc] 24)
  clear h hW hH
  by_cases hle : (p.f.length : Int) ≤ 1048576
  · have HT : Hid (p.f.length ≤ 4194304) := by rw [Hid]; omega
    have hneg : decide ((1048576 : Int) - p.f.length < 0) = false := by simp; omega
    have hk0 : decide ((1 : Int) + 4 * p.f.length < 0) = false := by simp; omega
    have HRL := hid (tuR_len p)
    have HSP := hid (fun s w => sTurnPiece_c p s w)
    have HIP := hid (fun s w => TurnPiece_c p s w)
    generalize tuR p = r at HRL HSP HIP
    have hk1 : decide ((1 : Int) + 4 * r.f.length < 0) = false := by simp; omega
    have hqm : ((1 : Int) + 4 * (r.f.length : Int) != 1 + 4 * (r.f.length : Int)) = false := by simp
    have hlt6 : r.f.length ≤ 4194304 := Nat.le_trans HRL.out (by omega)
    have hltp : p.f.length ≤ 4194304 := HT.out
    go_enter Try.func7, Try.ntmps7
    go_wp2_with fail
    refine (szPiece_t p s 1048576 _ (HP.out _ HB0.out) (by omega) (by omega) hle).mono ?_
    rintro e w1 ⟨rfl, hb⟩
    have HK_1 := hid (HK.out.go hb)
    have HB1 := hid (HB0.out.trans (hb.mono HB0.out.size))
    clear hb
    try clear c_K l_K
    have c_K := fun (o : Nat) => (HK_1.out).cell o
    have l_K := (HK_1.out).lt
    go_wp2_with fail
    refine (toPiece_c p s _ (HP.out _ HB1.out) HT.out).mono ?_
    rintro e w2 ⟨s1, rfl, hs1, hod1, hb⟩
    have HP1 := hid (Own.pvr hs1 hod1)
    clear hs1 hod1
    have HK_2 := hid (HK_1.out.go hb)
    have HB2 := hid (HB1.out.trans (hb.mono HB1.out.size))
    clear hb
    try clear c_K l_K
    have c_K := fun (o : Nat) => (HK_2.out).cell o
    have l_K := (HK_2.out).lt
    go_wp2_with fail
    refine (HSP.out s1 _ HP1.out HI.out.1 HI.out.2).mono ?_
    rintro e w3 ⟨⟨sw, rfl, hsw, how⟩, hb⟩
    have HSw := hid hsw
    have HOw := hid how
    have i0 := hb.size
    clear hsw how
    have HK_3 := hid (HK_2.out.go hb)
    have HB3 := hid (HB2.out.trans (hb.mono HB2.out.size))
    clear hb
    try clear c_K l_K
    have c_K := fun (o : Nat) => (HK_3.out).cell o
    have l_K := (HK_3.out).lt
    have i1 := l_K
    have hsz_w : w2.heap.size ≤ w3.heap.size := i0
    have HK_4 := hid (HK_3.out.go ((Below.refl _ _).alloc (Nat.le_refl _) (.cells #[.int .i64 sw.l, .int .i64 sw.w, .int .i64 sw.h, .slice sw.ka sw.kn sw.kc] 31)))
    have HB4 := hid (HB3.out.trans (((Below.refl _ _).alloc (Nat.le_refl _) (.cells #[.int .i64 sw.l, .int .i64 sw.w, .int .i64 sw.h, .slice sw.ka sw.kn sw.kc] 31)).mono HB3.out.size))
    have Hw_4 := hid (PcAt.mk_ (s := sw) HOw.out hsz_w)
    go_wp2_with fail
    refine (toPiece_c p s _ (HP.out _ HB4.out) HT.out).mono ?_
    rintro e w5 ⟨s2, rfl, hs2, hod2, hb⟩
    have HS2 := hid hs2
    have HO2 := hid (hod2.base_le (base' := w3.heap.size + 1) (by simp))
    have i2 := hb.size
    have i3 : w3.heap.size + 1 ≤ w5.heap.size := by simpa using i2
    clear hs2 hod2 i2
    have HK_5 := hid (HK_4.out.go hb)
    have Hw_5 := hid (Hw_4.out.go hb)
    have HB5 := hid (HB4.out.trans (hb.mono HB4.out.size))
    clear hb
    try clear c_K l_K
    have c_K := fun (o : Nat) => (HK_5.out).cell o
    have l_K := (HK_5.out).lt
    try clear c_w l_w
    have c_w := fun (o : Nat) => (Hw_5.out.1).cell o
    have l_w := (Hw_5.out.1).lt
    have i4 := l_K
    have hsz_x : w3.heap.size + 1 ≤ w5.heap.size := i3
    have HK_6 := hid (HK_5.out.go ((Below.refl _ _).alloc (Nat.le_refl _) (.cells #[.int .i64 s2.l, .int .i64 s2.w, .int .i64 s2.h, .slice s2.ka s2.kn s2.kc] 31)))
    have Hw_6 := hid (Hw_5.out.go ((Below.refl _ _).alloc (Nat.le_refl _) (.cells #[.int .i64 s2.l, .int .i64 s2.w, .int .i64 s2.h, .slice s2.ka s2.kn s2.kc] 31)))
    have HB6 := hid (HB5.out.trans (((Below.refl _ _).alloc (Nat.le_refl _) (.cells #[.int .i64 s2.l, .int .i64 s2.w, .int .i64 s2.h, .slice s2.ka s2.kn s2.kc] 31)).mono HB5.out.size))
    have Hx_6 := hid (PcAt.mk_ (s := s2) HO2.out hsz_x)
    go_wp2_with fail
    refine (HIP.out s2 _ (Hx_6.out.pvr HS2.out)).mono ?_
    rintro e w7 ⟨⟨sg, rfl, hsg, hog⟩, hb⟩
    have HSg := hid hsg
    have HOg := hid (hog.base_le (base' := w5.heap.size + 1) (by simp))
    have i5 := hb.size
    have i6 : w5.heap.size + 1 ≤ w7.heap.size := by simpa using i5
    clear hsg hog i5
    have HK_7 := hid (HK_6.out.go hb)
    have Hw_7 := hid (Hw_6.out.go hb)
    have Hx_7 := hid (Hx_6.out.go hb)
    have HB7 := hid (HB6.out.trans (hb.mono HB6.out.size))
    clear hb
    try clear c_K l_K
    have c_K := fun (o : Nat) => (HK_7.out).cell o
    have l_K := (HK_7.out).lt
    try clear c_w l_w
    have c_w := fun (o : Nat) => (Hw_7.out.1).cell o
    have l_w := (Hw_7.out.1).lt
    try clear c_x l_x
    have c_x := fun (o : Nat) => (Hx_7.out.1).cell o
    have l_x := (Hx_7.out.1).lt
    have hsz_g : w5.heap.size + 1 ≤ w7.heap.size := i6
    have HK_8 := hid (HK_7.out.go ((Below.refl _ _).alloc (Nat.le_refl _) (.cells #[.int .i64 sg.l, .int .i64 sg.w, .int .i64 sg.h, .slice sg.ka sg.kn sg.kc] 31)))
    have Hw_8 := hid (Hw_7.out.go ((Below.refl _ _).alloc (Nat.le_refl _) (.cells #[.int .i64 sg.l, .int .i64 sg.w, .int .i64 sg.h, .slice sg.ka sg.kn sg.kc] 31)))
    have Hx_8 := hid (Hx_7.out.go ((Below.refl _ _).alloc (Nat.le_refl _) (.cells #[.int .i64 sg.l, .int .i64 sg.w, .int .i64 sg.h, .slice sg.ka sg.kn sg.kc] 31)))
    have HB8 := hid (HB7.out.trans (((Below.refl _ _).alloc (Nat.le_refl _) (.cells #[.int .i64 sg.l, .int .i64 sg.w, .int .i64 sg.h, .slice sg.ka sg.kn sg.kc] 31)).mono HB7.out.size))
    have Hg_8 := hid (PcAt.mk_ (s := sg) HOg.out hsz_g)
    go_wp2_with fail
    refine (eqPiece_c r sg sw _ (Hg_8.out.pvr HSg.out) (Hw_8.out.pvr HSw.out)).mono ?_
    rintro e w9 ⟨rfl, hb⟩
    have HK_9 := hid (HK_8.out.go hb)
    have Hw_9 := hid (Hw_8.out.go hb)
    have Hx_9 := hid (Hx_8.out.go hb)
    have Hg_9 := hid (Hg_8.out.go hb)
    have HB9 := hid (HB8.out.trans (hb.mono HB8.out.size))
    clear hb
    try clear c_K l_K
    have c_K := fun (o : Nat) => (HK_9.out).cell o
    have l_K := (HK_9.out).lt
    try clear c_w l_w
    have c_w := fun (o : Nat) => (Hw_9.out.1).cell o
    have l_w := (Hw_9.out.1).lt
    try clear c_x l_x
    have c_x := fun (o : Nat) => (Hx_9.out.1).cell o
    have l_x := (Hx_9.out.1).lt
    try clear c_g l_g
    have c_g := fun (o : Nat) => (Hg_9.out.1).cell o
    have l_g := (Hg_9.out.1).lt
    go_wp2
    have ZK := hid ((Below.refl _ _).drew : Below w9.heap.size w9 w9.drew)
    go_region_held3 (fun w' => ∀ b o, b < w9.heap.size → w'.cell? ⟨b, o, none⟩ = w9.cell? ⟨b, o, none⟩) (exact fun b o h => ZK.out.cell (p := ⟨b, o, none⟩) h)
      (first | (go_at_call 16; ((with_reducible refine (toPiece_c p s _ (HP.out _ (HB9.out.trans (ZK.out.mono HB9.out.size))) HT.out).mono ?_); rintro e wA ⟨s3, rfl, hs3, hod3, hb⟩; have HP3 := hid (Own.pvr hs3 hod3); replace ZK := hid (ZK.out.trans (hb.mono ZK.out.size)); clear hb hs3 hod3)) | (go_at_call 19; ((with_reducible refine (eqPiece_c p s2 s3 _ ((Hx_9.out.go ZK.out).pvr HS2.out) HP3.out).mono ?_); rintro e wB ⟨rfl, hb⟩; replace ZK := hid (ZK.out.trans (hb.mono ZK.out.size)); clear hb)))
    have hb := ZK.out
    have HK_10 := hid (HK_9.out.go hb)
    have Hw_10 := hid (Hw_9.out.go hb)
    have Hx_10 := hid (Hx_9.out.go hb)
    have Hg_10 := hid (Hg_9.out.go hb)
    have HB10 := hid (HB9.out.trans (hb.mono HB9.out.size))
    clear hb ZK
    try clear c_K l_K
    have c_K := fun (o : Nat) => (HK_10.out).cell o
    have l_K := (HK_10.out).lt
    try clear c_w l_w
    have c_w := fun (o : Nat) => (Hw_10.out.1).cell o
    have l_w := (Hw_10.out.1).lt
    try clear c_x l_x
    have c_x := fun (o : Nat) => (Hx_10.out.1).cell o
    have l_x := (Hx_10.out.1).lt
    try clear c_g l_g
    have c_g := fun (o : Nat) => (Hg_10.out.1).cell o
    have l_g := (Hg_10.out.1).lt
    go_wp2_with fail
    refine (markPiece_c p s2 _ 1 _ Hx_10.out.2.1 hltp (by omega) (by omega)).mono ?_
    rintro e w11 ⟨rfl, ho, hg⟩
    have HK_11 := hid (HK_10.out.kept_lo hg (fun k hk => by have := (Hx_10.out.rows k hk).1; omega))
    have Hw_11 := hid (Hw_10.out.kept_hi hg (fun k hk => by have := (Hx_10.out.rows k hk).1; omega))
    have Hx_11 := hid (Hx_10.out.mark ho hg)
    have Hg_11 := hid (Hg_10.out.kept_lo hg (fun k hk => by have := (Hx_10.out.rows k hk).2; omega))
    have HB11 := hid (HB10.out.grown hg HB10.out.size (fun k hk => by have := (Hx_10.out.rows k hk).1; omega))
    clear hg ho
    try clear c_K l_K
    have c_K := fun (o : Nat) => (HK_11.out).cell o
    have l_K := (HK_11.out).lt
    try clear c_w l_w
    have c_w := fun (o : Nat) => (Hw_11.out.1).cell o
    have l_w := (Hw_11.out.1).lt
    try clear c_x l_x
    have c_x := fun (o : Nat) => (Hx_11.out.1).cell o
    have l_x := (Hx_11.out.1).lt
    try clear c_g l_g
    have c_g := fun (o : Nat) => (Hg_11.out.1).cell o
    have l_g := (Hg_11.out.1).lt
    go_wp2_with fail
    refine (eqPiece_c r sg sw _ (Hg_11.out.pvr HSg.out) (Hw_11.out.pvr HSw.out)).mono ?_
    rintro e w12 ⟨rfl, hb⟩
    have HK_12 := hid (HK_11.out.go hb)
    have Hw_12 := hid (Hw_11.out.go hb)
    have Hx_12 := hid (Hx_11.out.go hb)
    have Hg_12 := hid (Hg_11.out.go hb)
    have HB12 := hid (HB11.out.trans (hb.mono HB11.out.size))
    clear hb
    try clear c_K l_K
    have c_K := fun (o : Nat) => (HK_12.out).cell o
    have l_K := (HK_12.out).lt
    try clear c_w l_w
    have c_w := fun (o : Nat) => (Hw_12.out.1).cell o
    have l_w := (Hw_12.out.1).lt
    try clear c_x l_x
    have c_x := fun (o : Nat) => (Hx_12.out.1).cell o
    have l_x := (Hx_12.out.1).lt
    try clear c_g l_g
    have c_g := fun (o : Nat) => (Hg_12.out.1).cell o
    have l_g := (Hg_12.out.1).lt
    go_wp2_with fail
    refine (markPiece_c r sg _ 1 _ Hg_12.out.2.1 hlt6 (by omega) (by omega)).mono ?_
    rintro e w13 ⟨rfl, ho, hg⟩
    have HK_13 := hid (HK_12.out.kept_lo hg (fun k hk => by have := (Hg_12.out.rows k hk).1; omega))
    have Hw_13 := hid (Hw_12.out.kept_hi hg (fun k hk => by have := (Hg_12.out.rows k hk).1; omega))
    have Hx_13 := hid (Hx_12.out.kept_hi hg (fun k hk => by have := (Hg_12.out.rows k hk).1; omega))
    have Hg_13 := hid (Hg_12.out.mark ho hg)
    have HB13 := hid (HB12.out.grown hg HB12.out.size (fun k hk => by have := (Hg_12.out.rows k hk).1; omega))
    clear hg ho
    try clear c_K l_K
    have c_K := fun (o : Nat) => (HK_13.out).cell o
    have l_K := (HK_13.out).lt
    try clear c_w l_w
    have c_w := fun (o : Nat) => (Hw_13.out.1).cell o
    have l_w := (Hw_13.out.1).lt
    try clear c_x l_x
    have c_x := fun (o : Nat) => (Hx_13.out.1).cell o
    have l_x := (Hx_13.out.1).lt
    try clear c_g l_g
    have c_g := fun (o : Nat) => (Hg_13.out.1).cell o
    have l_g := (Hg_13.out.1).lt
    go_wp2_with fail
    refine (heldPiece_c sg 1 r.f.length _ Hg_13.out.2.1.rowB hlt6 (by omega) (by omega)).mono ?_
    rintro e w14 ⟨rfl, hb⟩
    have HK_14 := hid (HK_13.out.go hb)
    have Hw_14 := hid (Hw_13.out.go hb)
    have Hx_14 := hid (Hx_13.out.go hb)
    have Hg_14 := hid (Hg_13.out.go hb)
    have HB14 := hid (HB13.out.trans (hb.mono HB13.out.size))
    clear hb
    try clear c_K l_K
    have c_K := fun (o : Nat) => (HK_14.out).cell o
    have l_K := (HK_14.out).lt
    try clear c_w l_w
    have c_w := fun (o : Nat) => (Hw_14.out.1).cell o
    have l_w := (Hw_14.out.1).lt
    try clear c_x l_x
    have c_x := fun (o : Nat) => (Hx_14.out.1).cell o
    have l_x := (Hx_14.out.1).lt
    try clear c_g l_g
    have c_g := fun (o : Nat) => (Hg_14.out.1).cell o
    have l_g := (Hg_14.out.1).lt
    go_wp2_with fail
    refine (toPiece_c p s _ (HP.out _ HB14.out) HT.out).mono ?_
    rintro e w15 ⟨s4, rfl, hs4, hod4, hb⟩
    have HP4 := hid (Own.pvr hs4 hod4)
    clear hs4 hod4
    have HK_15 := hid (HK_14.out.go hb)
    have Hw_15 := hid (Hw_14.out.go hb)
    have Hx_15 := hid (Hx_14.out.go hb)
    have Hg_15 := hid (Hg_14.out.go hb)
    have HB15 := hid (HB14.out.trans (hb.mono HB14.out.size))
    clear hb
    try clear c_K l_K
    have c_K := fun (o : Nat) => (HK_15.out).cell o
    have l_K := (HK_15.out).lt
    try clear c_w l_w
    have c_w := fun (o : Nat) => (Hw_15.out.1).cell o
    have l_w := (Hw_15.out.1).lt
    try clear c_x l_x
    have c_x := fun (o : Nat) => (Hx_15.out.1).cell o
    have l_x := (Hx_15.out.1).lt
    try clear c_g l_g
    have c_g := fun (o : Nat) => (Hg_15.out.1).cell o
    have l_g := (Hg_15.out.1).lt
    go_wp2_with fail
    refine (HIP.out s4 _ HP4.out).mono ?_
    rintro e w16 ⟨⟨sh, rfl, hsh, hoh⟩, hb⟩
    have HSh := hid hsh
    have HOh := hid hoh
    have i7 := hb.size
    clear hsh hoh
    have HK_16 := hid (HK_15.out.go hb)
    have Hw_16 := hid (Hw_15.out.go hb)
    have Hx_16 := hid (Hx_15.out.go hb)
    have Hg_16 := hid (Hg_15.out.go hb)
    have HB16 := hid (HB15.out.trans (hb.mono HB15.out.size))
    clear hb
    try clear c_K l_K
    have c_K := fun (o : Nat) => (HK_16.out).cell o
    have l_K := (HK_16.out).lt
    try clear c_w l_w
    have c_w := fun (o : Nat) => (Hw_16.out.1).cell o
    have l_w := (Hw_16.out.1).lt
    try clear c_x l_x
    have c_x := fun (o : Nat) => (Hx_16.out.1).cell o
    have l_x := (Hx_16.out.1).lt
    try clear c_g l_g
    have c_g := fun (o : Nat) => (Hg_16.out.1).cell o
    have l_g := (Hg_16.out.1).lt
    have hsz_h : w15.heap.size ≤ w16.heap.size := i7
    have HK_17 := hid (HK_16.out.go ((Below.refl _ _).alloc (Nat.le_refl _) (.cells #[.int .i64 sh.l, .int .i64 sh.w, .int .i64 sh.h, .slice sh.ka sh.kn sh.kc] 31)))
    have Hw_17 := hid (Hw_16.out.go ((Below.refl _ _).alloc (Nat.le_refl _) (.cells #[.int .i64 sh.l, .int .i64 sh.w, .int .i64 sh.h, .slice sh.ka sh.kn sh.kc] 31)))
    have Hx_17 := hid (Hx_16.out.go ((Below.refl _ _).alloc (Nat.le_refl _) (.cells #[.int .i64 sh.l, .int .i64 sh.w, .int .i64 sh.h, .slice sh.ka sh.kn sh.kc] 31)))
    have Hg_17 := hid (Hg_16.out.go ((Below.refl _ _).alloc (Nat.le_refl _) (.cells #[.int .i64 sh.l, .int .i64 sh.w, .int .i64 sh.h, .slice sh.ka sh.kn sh.kc] 31)))
    have HB17 := hid (HB16.out.trans (((Below.refl _ _).alloc (Nat.le_refl _) (.cells #[.int .i64 sh.l, .int .i64 sh.w, .int .i64 sh.h, .slice sh.ka sh.kn sh.kc] 31)).mono HB16.out.size))
    have Hh_17 := hid (PcAt.mk_ (s := sh) HOh.out hsz_h)
    go_wp2_with fail
    refine (eqPiece_c r sh sw _ (Hh_17.out.pvr HSh.out) (Hw_17.out.pvr HSw.out)).mono ?_
    rintro e w18 ⟨rfl, hb⟩
    have HK_18 := hid (HK_17.out.go hb)
    have Hw_18 := hid (Hw_17.out.go hb)
    have Hx_18 := hid (Hx_17.out.go hb)
    have Hg_18 := hid (Hg_17.out.go hb)
    have Hh_18 := hid (Hh_17.out.go hb)
    have HB18 := hid (HB17.out.trans (hb.mono HB17.out.size))
    clear hb
    try clear c_K l_K
    have c_K := fun (o : Nat) => (HK_18.out).cell o
    have l_K := (HK_18.out).lt
    try clear c_w l_w
    have c_w := fun (o : Nat) => (Hw_18.out.1).cell o
    have l_w := (Hw_18.out.1).lt
    try clear c_x l_x
    have c_x := fun (o : Nat) => (Hx_18.out.1).cell o
    have l_x := (Hx_18.out.1).lt
    try clear c_g l_g
    have c_g := fun (o : Nat) => (Hg_18.out.1).cell o
    have l_g := (Hg_18.out.1).lt
    try clear c_h l_h
    have c_h := fun (o : Nat) => (Hh_18.out.1).cell o
    have l_h := (Hh_18.out.1).lt
    go_wp2_with fail
    refine (heldPiece_c sg 1 r.f.length _ Hg_18.out.2.1.rowB hlt6 (by omega) (by omega)).mono ?_
    rintro e w19 ⟨rfl, hb⟩
    have HK_19 := hid (HK_18.out.go hb)
    have Hw_19 := hid (Hw_18.out.go hb)
    have Hx_19 := hid (Hx_18.out.go hb)
    have Hg_19 := hid (Hg_18.out.go hb)
    have Hh_19 := hid (Hh_18.out.go hb)
    have HB19 := hid (HB18.out.trans (hb.mono HB18.out.size))
    clear hb
    try clear c_K l_K
    have c_K := fun (o : Nat) => (HK_19.out).cell o
    have l_K := (HK_19.out).lt
    try clear c_w l_w
    have c_w := fun (o : Nat) => (Hw_19.out.1).cell o
    have l_w := (Hw_19.out.1).lt
    try clear c_x l_x
    have c_x := fun (o : Nat) => (Hx_19.out.1).cell o
    have l_x := (Hx_19.out.1).lt
    try clear c_g l_g
    have c_g := fun (o : Nat) => (Hg_19.out.1).cell o
    have l_g := (Hg_19.out.1).lt
    try clear c_h l_h
    have c_h := fun (o : Nat) => (Hh_19.out.1).cell o
    have l_h := (Hh_19.out.1).lt
    go_wp2
    go_ret
    exact ⟨rfl, HB19.out⟩
  · have HE := hid hle
    go_enter Try.func7, Try.ntmps7
    go_wp2_with fail
    refine (szPiece_f p s 1048576 _ (HP.out _ HB0.out) (by omega) (by omega) (by omega)).mono ?_
    rintro e w1 ⟨rfl, hb⟩
    have HB1 := hid (HB0.out.trans (hb.mono HB0.out.size))
    clear hb
    go_wp2
    go_ret
    exact ⟨rfl, HB1.out⟩

end Go.Proofs.Ytpicbkakghojnaa
