/-
  Contract: the table of greatest values, by the program.
-/
import Derived.Test.YtkckaooimffdpaaValP
import Derived.Test.YtkckaooimffdpaaBestI
import Derived.Deep.MidRow
namespace Go.Proofs.Ytkckaooimffdpaa
set_option linter.unusedSimpArgs false
set_option linter.unusedVariables false
open Go.RowKit

theorem tab_info : (Try.prog.info? 57).map (fun i => i.zero) = some (some (.agg (Array.replicate 289 (.int .i64 0)))) := by kernel_rfl
theorem tab_zero : ∃ Z : Array Value, Z.toList = intE.flat (List.replicate 289 0) ∧ ∀ w : World, (zeroValue 57).run Try.prog w = .ok (.agg Z) w := by
  obtain ⟨i, hi, hz⟩ : ∃ i, Try.prog.info? 57 = some i ∧ i.zero = some (.agg (Array.replicate 289 (.int .i64 0))) := by
    have h := tab_info
    cases h2 : Try.prog.info? 57 with
    | none => rw [h2] at h; cases h
    | some i => rw [h2] at h; simp only [Option.map_some, Option.some.injEq] at h; exact ⟨i, rfl, h⟩
  obtain ⟨Z, hZ⟩ : ∃ Z, Z = Array.replicate 289 (Value.int .i64 0) := ⟨_, rfl⟩
  rw [← hZ] at hz
  refine ⟨Z, ?_, fun w => ?_⟩
  · rw [hZ]
    have : ∀ n, intE.flat (List.replicate n 0) = List.replicate n (Value.int .i64 0) := by
      intro n
      induction n with
      | zero => rfl
      | succ n ih => rw [List.replicate_succ, Enc.flat_cons, ih]; rfl
    rw [this, Array.toList_replicate]
  · simp [zeroValue, typeInfo, hi, hz]

/-- Where the walk stands: the work, the result's cells, the table. -/
def VtSt (w : World) (x y : Int) (A : Option Addr) (n c : Nat) (T : List Int) (wr : World) : Prop :=
  Blk wr w.heap.size #[.int .i64 x, .int .i64 y, .slice A n c] 35 ∧ Own intE 57 w.heap.size wr (.slice (some ⟨w.heap.size + 1, 0, none⟩) 289 289) (List.replicate 289 0) ∧ Own intE 57 w.heap.size wr (.slice (some ⟨w.heap.size + 1 + 1, 0, none⟩) 289 289) T ∧ Below w.heap.size w wr
theorem VtSt.start (w : World) (x y : Int) (A : Option Addr) (n c : Nat) (Z : Array Value) (hZ : Z.toList = intE.flat (List.replicate 289 0)) : VtSt w x y A n c (List.replicate 289 0) (((w.alloc (.cells #[.int .i64 x, .int .i64 y, .slice A n c] 35)).alloc (.cells Z 57)).alloc (.cells Z 57)) := by
  refine ⟨((Blk.new w _ _).alloc _).alloc _, ?_, ?_, (((Below.refl _ _).alloc (Nat.le_refl _) _).alloc (by simp) _).alloc (by simp; omega) _⟩
  · have := (Own.lit intE (w.alloc (.cells #[.int .i64 x, .int .i64 y, .slice A n c] 35)) w.heap.size 57 Z (List.replicate 289 0) 289 List.length_replicate.symm hZ (by simp) (by simp [maxLen])).alloc (.cells Z 57)
    rw [World.size_alloc] at this
    exact this
  · have := Own.lit intE ((w.alloc (.cells #[.int .i64 x, .int .i64 y, .slice A n c] 35)).alloc (.cells Z 57)) w.heap.size 57 Z (List.replicate 289 0) 289 List.length_replicate.symm hZ (by simp; omega) (by simp [maxLen])
    rw [World.size_alloc, World.size_alloc] at this
    exact this
theorem VtSt.go {w wr wz : World} {x y : Int} {A : Option Addr} {n c : Nat} {T : List Int} (h : VtSt w x y A n c T wr) (hb : Below wr.heap.size wr wz) : VtSt w x y A n c T wz :=
  ⟨h.1.go hb, h.2.1.below hb, h.2.2.1.below hb, h.2.2.2.trans (hb.mono h.2.2.2.size)⟩
theorem VtSt.put {w wr : World} {x y : Int} {A : Option Addr} {n c : Nat} {T : List Int} (h : VtSt w x y A n c T wr) (hT : T.length = 289) (k : Nat) (u : Int) : VtSt w x y A n c (T.set k u) (wr.setCell ⟨w.heap.size + 1 + 1, k, none⟩ (.int .i64 u)) := by
  obtain ⟨h1, h2, h3, h4⟩ := h
  obtain ⟨ho, hg⟩ := h3.store1 rfl k u (.int .i64 u) rfl hT.symm
  exact ⟨h1.setO (by simp; omega) _, h2.kept hg (.inr (by simp [Value.ownBlock])), ho, h4.setCell (by show w.heap.size ≤ w.heap.size + 1 + 1; omega) _⟩
theorem Own.rangeInt {w : World} {e : TypeId} {base g n cap : Nat} {L : List Int} (h : Own intE e base w (.slice (some ⟨g, 0, none⟩) n cap) L) (h0 : 0 < L.length) : w.rangeAt g 0 (intE.flat L) := by
  obtain ⟨A, c, e1, -, -, h3⟩ := h.rowB
  obtain ⟨b, off, e2, -, h4⟩ := h3 h0
  rw [e2] at e1
  injection e1 with e1
  injection e1 with e1
  injection e1 with e1 e3
  subst e1
  subst e3
  exact h4
theorem Own.thereInt {w : World} {e : TypeId} {base g n cap : Nat} {L : List Int} (h : Own intE e base w (.slice (some ⟨g, 0, none⟩) n cap) L) (hn : n = L.length) : w.there g 0 L.length := fun j hj => by
  rw [Nat.zero_add]
  exact ⟨by rw [h.own_int hn j hj]; rfl, h.frozen hn j⟩
theorem flat_int_len (L : List Int) : (intE.flat L).length = L.length := by rw [Enc.flat_len]; show L.length * 1 = _; omega
theorem results_cell1 {P : Program} {fn : Func} {p : Tmp} {ty : TypeId} {tmps : Array Value} {ad : Addr} {v : Value} {w : World} (h : fn.results = #[.cell p ty]) (ht : tmps.getD p undef = .pointer (some ad)) (hl : (loadVar ty ad).run P w = .ok v w) : (results fn tmps).run P w = .ok v w := by
  simp only [results, h]
  rw [Array.getD_eq_getD_getElem?] at ht
  simp [Sem.run_bind, Result.andThen, ht, asAddr, hl]
theorem tab_size : (Try.prog.info? 57).map (·.size) = some 289 := by kernel_rfl
def lfW (f : List Pn) (V : List Int) (i j : Nat) : Int := lfk f V (i : Nat) (j : Nat) V.length
def VtOut (L : List Int) (w : World) (e : Ending) (w' : World) : Prop := ∃ C : Array Value, e = .returned (.agg C) ∧ C.toList = intE.flat L ∧ Below w.heap.size w w'

theorem mxo_step (g : Nat → Int) (b : Int) {q : Nat} (h : 1 ≤ q) : mxo g b q = if mxo g b (q - 1) < g q then g q else mxo g b (q - 1) := by
  obtain ⟨k, rfl⟩ : ∃ k, q = k + 1 := ⟨q - 1, by omega⟩
  simp only [mxo, Nat.add_sub_cancel]
  split <;> omega
theorem VtSt.at_ {w wr : World} {x y : Int} {A : Option Addr} {n c : Nat} {lf : Nat → Nat → Int} {H a b i j : Nat} (h : VtSt w x y A n c (tabT lf H a b) wr) (hi : 1 ≤ i) (hj : 1 ≤ j) (hH : j ≤ H) (hi2 : i < 17) (hj2 : j < 17) (hd : i < a ∨ (i = a ∧ j < b)) : wr.cell? ⟨w.heap.size + 1 + 1, i * 17 + j, none⟩ = some (.int .i64 (bv lf i j)) := by
  have h1 := h.2.2.1.own_int (tabT_len _ _ _ _).symm (i * 17 + j) (by rw [tabT_len]; omega)
  rw [tabT_ij lf H a b hi2 hj2, cellT_done hi hj hH hd] at h1
  exact h1

set_option maxHeartbeats 12800000 in
set_option maxRecDepth 100000 in
theorem valuesOf_c (x y : Nat) (f : List Pn) (A : Option Addr) (c : Nat) (v : Value) (V : List Int) (w : World) (h : Row paneE w (.slice A f.length c) f) (h' : Row intE w v V) (hl : V.length = f.length) (hV : okV V) (hx : 1 ≤ x ∧ x ≤ 16) (hy : 1 ≤ y ∧ y ≤ 16) : Calls Try.prog 36 #[.agg #[.int .i64 (x : Nat), .int .i64 (y : Nat), .slice A f.length c], v] w (VtOut (tabT (lfW f V) y x (y + 1)) w) := by
  obtain ⟨-, hc1, hm1, -⟩ := h.at_
  obtain ⟨A2, c2, rfl, hc2, hm2⟩ := h'.form
  unfold maxLen at hm1 hm2
  obtain ⟨Z, hZL, hZ⟩ := tab_zero
  have HST0 := hid (VtSt.start w x y A f.length c Z hZL)
  have HF := hid h
  have HVR := hid h'
  have HV := hid hV
  have HL := hid hl
  have HLF : Hid (∀ i j, 0 ≤ lfW f V i j ∧ lfW f V i j ≤ 1000) := fun i j => lfk_bd _ _ hV _ (Nat.le_refl _)
  clear h h' hV hl hZL
  go_enter Try.func36, Try.ntmps36
  go_wp2
  go_loopw [6] (fun i wr => ∃ a : Nat, i = .int .i64 (a : Nat) ∧ 1 ≤ a ∧ a ≤ x + 1 ∧ VtSt w x y A f.length c (tabT (lfW f V) y a 1) wr) (fun i _ => x + 1 - (intOf i).toNat)
  case atStart => exact ⟨1, rfl, by omega, by omega, by rw [← tabT_start]; exact HST0.out⟩
  case round =>
    clear HST0
    obtain ⟨a, rfl, ha1, ha2, hst⟩ := hrel
    have HST := hid hst
    have c_K := fun (o : Nat) => hst.1.cell o
    have f_K := fun (o : Nat) => hst.1.frz o
    have l_K := hst.1.lt
    clear hst
    by_cases hax : a ≤ x
    · obtain ⟨wo, rfl⟩ : ∃ wo : World, wo = wr := ⟨_, rfl⟩
      go_wp2
      clear c_K f_K l_K
      go_loopw [7] (fun i wr => ∃ b : Nat, i = .int .i64 (b : Nat) ∧ 1 ≤ b ∧ b ≤ y + 1 ∧ VtSt w x y A f.length c (tabT (lfW f V) y a b) wr) (fun i _ => y + 1 - (intOf i).toNat)
      case atStart => exact ⟨1, rfl, by omega, by omega, HST.out⟩
      case round =>
        clear HST
        obtain ⟨b, rfl, hb1, hb2, hst⟩ := hrel
        have HST := hid hst
        have c_K := fun (o : Nat) => hst.1.cell o
        have f_K := fun (o : Nat) => hst.1.frz o
        have l_K := hst.1.lt
        have HFr := hid (HF.out.go hst.2.2.2)
        have HVRr := hid (HVR.out.go hst.2.2.2)
        clear hst
        by_cases hby : b ≤ y
        · go_wp2_with fail
          refine (show Calls Try.prog 48 #[.agg #[.int .i64 (x : Nat), .int .i64 (y : Nat), .slice A f.length c], _, .int .i64 (a : Nat), .int .i64 (b : Nat)] _ (BpOut (lfW f V a b) _) from bestPane_c x y (a : Nat) (b : Nat) f A c _ V _ HFr.out HVRr.out HL.out HV.out).mono ?_
          rintro e w5 ⟨o, p, t, rfl, hb⟩
          obtain ⟨W6, hW6⟩ : ∃ Z : World, Z = w5.alloc (.cells #[.int .i64 o, .int .i64 0, .int .i64 p, .bool t, .slice none 0 0] 69) := ⟨_, rfl⟩
          have HST6 := hid (show VtSt w x y A f.length c (tabT (lfW f V) y a b) W6 by rw [hW6]; exact HST.out.go (hb.alloc hb.size (.cells #[.int .i64 o, .int .i64 0, .int .i64 p, .bool t, .slice none 0 0] 69)))
          have hlt6 : w.heap.size + 1 + 1 < W6.heap.size := (HST6.out.2.2.1.lt (w.heap.size + 1 + 1) rfl).2
          clear hb c_K f_K l_K
          go_wp2
          rw [← hW6]
          clear hW6
          go_loopw [9, 10] (fun m i wr => ∃ q : Nat, i = .int .i64 (q : Nat) ∧ 1 ≤ q ∧ q ≤ a / 2 + 1 ∧ m = .int .i64 (mxo (fun z => bv (lfW f V) z b + bv (lfW f V) (a - z) b) (lfW f V a b) (q - 1)) ∧ Dr W6 wr) (fun _ i _ => a / 2 + 1 - (intOf i).toNat)
          case atStart => exact ⟨1, rfl, by omega, by omega, rfl, Dr.refl _⟩
          case round =>
            obtain ⟨q, rfl, hq1, hq2, rfl, hd⟩ := hrel
            have HD := hid hd
            have HSTr := hid (HST6.out.go (hd.below _))
            have hsz := hd.size
            clear hd
            by_cases hqa : q ≤ a / 2
            · have hqa2 : (q : Int) ≤ (a : Int) / 2 := by omega
              have x1 := HSTr.out.at_ (i := q) (j := b) (by omega) (by omega) (by omega) (by omega) (by omega) (by omega)
              have x2 := HSTr.out.at_ (i := a - q) (j := b) (by omega) (by omega) (by omega) (by omega) (by omega) (by omega)
              have hb1 := bv_bd HLF.out (w := q) (h := b) (by omega)
              have hb2 := bv_bd HLF.out (w := a - q) (h := b) (by omega)
              have HM := hid (mxo_step (fun z => bv (lfW f V) z b + bv (lfW f V) (a - z) b) (lfW f V a b) hq1)
              obtain ⟨m, hm⟩ : ∃ m, m = mxo (fun z => bv (lfW f V) z b + bv (lfW f V) (a - z) b) (lfW f V a b) (q - 1) := ⟨_, rfl⟩
              obtain ⟨u1, hu1⟩ : ∃ u, u = bv (lfW f V) q b := ⟨_, rfl⟩
              obtain ⟨u2, hu2⟩ : ∃ u, u = bv (lfW f V) (a - q) b := ⟨_, rfl⟩
              have HM2 : Hid (mxo (fun z => bv (lfW f V) z b + bv (lfW f V) (a - z) b) (lfW f V a b) q = if m < u1 + u2 then u1 + u2 else m) := by rw [Hid, HM.out, hm, hu1, hu2]
              rw [← hm]
              rw [← hu1] at x1 hb1
              rw [← hu2] at x2 hb2
              obtain ⟨d, hd⟩ : ∃ d, d = a - q := ⟨_, rfl⟩
              rw [← hd] at x2
              have hw0 : IntKind.i64.wrap ((a : Int) - (q : Int)) = (d : Int) := by rw [IntWalk.i64_in _ (by omega)]; omega
              have hd17 : d < 17 := by omega
              have hw1 : IntKind.i64.wrap (u1 + u2) = u1 + u2 := IntWalk.i64_in _ (by omega)
              clear hm hu1 hu2 hd HM
              go_wp2
              go_quiet (fail)
              go_wp2
              exact ⟨⟨q + 1, by go_num, by omega, by omega, by rw [Nat.add_sub_cancel, HM2.out], HD.out.step _⟩, by simp [intOf]; omega⟩
            · have hqe : q = a / 2 + 1 := by omega
              subst hqe
              have hqa2 : ¬ ((a / 2 + 1 : Nat) : Int) ≤ (a : Int) / 2 := by omega
              rw [Nat.add_sub_cancel]
              obtain ⟨m1, hm1⟩ : ∃ m, m = mxo (fun z => bv (lfW f V) z b + bv (lfW f V) (a - z) b) (lfW f V a b) (a / 2) := ⟨_, rfl⟩
              have HM1 := hid hm1
              rw [← hm1]
              obtain ⟨q0, hq0⟩ : ∃ q0, q0 = a / 2 + 1 := ⟨_, rfl⟩
              rw [← hq0] at hqa2 ⊢
              obtain ⟨W7, rfl⟩ : ∃ Z : World, Z = wr := ⟨_, rfl⟩
              clear hm1 hq0 hq2 hq1 hqa
              go_wp2
              go_loopw [9, 11] (fun m i wr => ∃ q : Nat, i = .int .i64 (q : Nat) ∧ 1 ≤ q ∧ q ≤ b / 2 + 1 ∧ m = .int .i64 (mxo (fun z => bv (lfW f V) a z + bv (lfW f V) a (b - z)) m1 (q - 1)) ∧ Dr W6 wr) (fun _ i _ => b / 2 + 1 - (intOf i).toNat)
              case atStart => exact ⟨1, rfl, by omega, by omega, rfl, HD.out⟩
              case round =>
                clear HD HSTr hsz
                obtain ⟨q, rfl, hq1, hq2, rfl, hd⟩ := hrel
                have HD := hid hd
                have HSTr := hid (HST6.out.go (hd.below _))
                have hsz := hd.size
                clear hd
                by_cases hqb : q ≤ b / 2
                · have hqb2 : (q : Int) ≤ (b : Int) / 2 := by omega
                  have x1 := HSTr.out.at_ (i := a) (j := q) (by omega) (by omega) (by omega) (by omega) (by omega) (by omega)
                  have x2 := HSTr.out.at_ (i := a) (j := b - q) (by omega) (by omega) (by omega) (by omega) (by omega) (by omega)
                  have hb1 := bv_bd HLF.out (w := a) (h := q) (by omega)
                  have hb2 := bv_bd HLF.out (w := a) (h := b - q) (by omega)
                  have HM := hid (mxo_step (fun z => bv (lfW f V) a z + bv (lfW f V) a (b - z)) m1 hq1)
                  obtain ⟨m, hm⟩ : ∃ m, m = mxo (fun z => bv (lfW f V) a z + bv (lfW f V) a (b - z)) m1 (q - 1) := ⟨_, rfl⟩
                  obtain ⟨u1, hu1⟩ : ∃ u, u = bv (lfW f V) a q := ⟨_, rfl⟩
                  obtain ⟨u2, hu2⟩ : ∃ u, u = bv (lfW f V) a (b - q) := ⟨_, rfl⟩
                  have HM2 : Hid (mxo (fun z => bv (lfW f V) a z + bv (lfW f V) a (b - z)) m1 q = if m < u1 + u2 then u1 + u2 else m) := by rw [Hid, HM.out, hm, hu1, hu2]
                  rw [← hm]
                  rw [← hu1] at x1 hb1
                  rw [← hu2] at x2 hb2
                  obtain ⟨d, hd⟩ : ∃ d, d = b - q := ⟨_, rfl⟩
                  rw [← hd] at x2
                  have hw0 : IntKind.i64.wrap ((b : Int) - (q : Int)) = (d : Int) := by rw [IntWalk.i64_in _ (by omega)]; omega
                  have hd17 : d < 17 := by omega
                  have hw1 : IntKind.i64.wrap (u1 + u2) = u1 + u2 := IntWalk.i64_in _ (by omega)
                  clear hm hu1 hu2 hd HM
                  go_wp2
                  go_quiet (fail)
                  go_wp2
                  exact ⟨⟨q + 1, by go_num, by omega, by omega, by rw [Nat.add_sub_cancel, HM2.out], HD.out.step _⟩, by simp [intOf]; omega⟩
                · have hqe : q = b / 2 + 1 := by omega
                  subst hqe
                  have hqb2 : ¬ ((b / 2 + 1 : Nat) : Int) ≤ (b : Int) / 2 := by omega
                  rw [Nat.add_sub_cancel]
                  have HBV : Hid (mxo (fun z => bv (lfW f V) a z + bv (lfW f V) a (b - z)) m1 (b / 2) = bv (lfW f V) a b) := by rw [Hid, bv_eq _ ha1 hb1, HM1.out]
                  obtain ⟨m2, hm2⟩ : ∃ m, m = mxo (fun z => bv (lfW f V) a z + bv (lfW f V) a (b - z)) m1 (b / 2) := ⟨_, rfl⟩
                  rw [← hm2] at HBV ⊢
                  obtain ⟨q1, hq1'⟩ : ∃ q0, q0 = b / 2 + 1 := ⟨_, rfl⟩
                  rw [← hq1'] at hqb2 ⊢
                  have hcl := HSTr.out.2.2.1.own_int (tabT_len _ _ _ _).symm (a * 17 + b) (by rw [tabT_len]; omega)
                  have hfr := HSTr.out.2.2.1.frozen (tabT_len _ _ _ _).symm (a * 17 + b)
                  have HPUT := hid (HSTr.out.put (tabT_len _ _ _ _) (a * 17 + b) m2)
                  have HSET := hid (tabT_set (lf := lfW f V) (H := y) (w := a) (h := b) (by omega) ha1 hb1 hby)
                  rw [← HBV.out] at HSET
                  rw [HSET.out] at HPUT
                  clear hm2 hq1' hq1 hq2 hqb HBV
                  go_wp2
                  exact ⟨⟨b + 1, by go_num, by omega, by omega, HPUT.out⟩, by simp [intOf]; omega⟩
        · have hbe : b = y + 1 := by omega
          subst hbe
          have HN := hid (show VtSt w x y A f.length c (tabT (lfW f V) y (a + 1) 1) wr by rw [← tabT_next]; exact HST.out)
          go_wp2
          exact ⟨⟨a + 1, by go_num, by omega, by omega, HN.out⟩, by simp [intOf]; omega⟩
    · have hae : a = x + 1 := by omega
      subst hae
      have HDONE := hid (show VtSt w x y A f.length c (tabT (lfW f V) y x (y + 1)) wr by rw [tabT_next]; exact HST.out)
      have HSZ := hid (tabT_len (lfW f V) y x (y + 1))
      obtain ⟨T, hT⟩ : ∃ T, T = tabT (lfW f V) y x (y + 1) := ⟨_, rfl⟩
      rw [← hT] at HDONE HSZ ⊢
      have HT := hid hT
      clear hT
      obtain ⟨-, hk2, hk3, hkb⟩ := HDONE.out
      have HRG := hid (hk3.rangeInt (by rw [HSZ.out]; omega))
      have HTH := hid (show wr.there (w.heap.size + 1) 0 (intE.flat T).toArray.size by
        have := hk2.thereInt List.length_replicate.symm
        rw [List.length_replicate] at this
        show wr.there (w.heap.size + 1) 0 (intE.flat T).length
        rw [flat_int_len, HSZ.out]
        exact this)
      have HONE := hid (all_oneCell_toArray (cs := intE.flat T) (fun v hv => intE.flat_one_cell T v hv))
      have HI1 := hid (show (Try.prog.info? 57).map (·.size) = some (intE.flat T).length by rw [flat_int_len, HSZ.out]; exact tab_size)
      have HI2 := hid (show (Try.prog.info? 57).map (·.size) = some (intE.flat T).toArray.size by show _ = some (intE.flat T).length; rw [flat_int_len, HSZ.out]; exact tab_size)
      have HBF := hid (hkb.grown (ownsRow_setCells (intE.flat T) _ 0 wr hk2).2 hkb.size (fun z hz => by injection hz with hz; omega))
      have HRF := hid (World.rangeAt_setCells_same wr (w.heap.size + 1) 0 (intE.flat T) HTH.out)
      clear hk2 hk3 hkb HDONE HST
      go_wp2_with (first | (refine wpList_load_mid rfl 57 (.tmp 5) rfl (w.heap.size + 1 + 1) 0 rfl (intE.flat T) _ HRG.out Try.underlying57 rfl HI1.out ?_) | (refine wpList_store_mid rfl 57 (.tmp 4) (.tmp 79) rfl (w.heap.size + 1) 0 (intE.flat T).toArray rfl rfl HTH.out HI2.out HONE.out ?_) | fail)
      obtain ⟨WF, hWF⟩ : ∃ Z : World, Z = wr.setCells (w.heap.size + 1) 0 (intE.flat T) := ⟨_, rfl⟩
      rw [← hWF] at HRF HBF ⊢
      have hld := run_loadVar_mid WF (w.heap.size + 1) 0 57 (intE.flat T) _ HRF.out Try.underlying57 rfl HI1.out
      clear hWF
      exact bodyPost_ret (v := .agg (intE.flat T).toArray) (results_cell1 (ad := ⟨w.heap.size + 1, 0, none⟩) (p := 4) (ty := 57) rfl rfl hld) rfl ⟨_, rfl, by rw [← HT.out], HBF.out⟩

end Go.Proofs.Ytkckaooimffdpaa
