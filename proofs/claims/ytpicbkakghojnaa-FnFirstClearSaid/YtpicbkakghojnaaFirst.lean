/-
  Contracts: the first clear box of a size, by the reference.
-/
import Derived.Test.YtpicbkakghojnaaPieceT
namespace Go.Proofs.Ytpicbkakghojnaa
set_option linter.unusedSimpArgs false
set_option linter.unusedVariables false
open Go.RowKit

/-- The first clear box of a row of places: n places from x on. -/
def fcX (f : List Bx) (a b y : Int) : Nat → Int → Option Bx
  | 0, _ => none
  | n + 1, x => if clB f ⟨x, y, a, b⟩ then some ⟨x, y, a, b⟩ else fcX f a b y n (x + 1)
/-- The first clear box: n rows of m places from y on. -/
def fcY (f : List Bx) (a b : Int) (m : Nat) : Nat → Int → Option Bx
  | 0, _ => none
  | n + 1, y => match fcX f a b y m 0 with
    | some c => some c
    | none => fcY f a b m n (y + 1)
theorem fcX_t {f : List Bx} {a b y x W : Int} (hx : x + a ≤ W) (h : clB f ⟨x, y, a, b⟩ = true) : fcX f a b y (W - a + 1 - x).toNat x = some ⟨x, y, a, b⟩ := by
  obtain ⟨k, hk⟩ : ∃ k : Nat, (W - a + 1 - x).toNat = k + 1 := ⟨(W - a - x).toNat, by omega⟩
  rw [hk, fcX, if_pos h]
theorem fcX_f {f : List Bx} {a b y x W : Int} (hx : x + a ≤ W) (h : clB f ⟨x, y, a, b⟩ = false) : fcX f a b y (W - a + 1 - x).toNat x = fcX f a b y (W - a + 1 - (x + 1)).toNat (x + 1) := by
  have hk : (W - a + 1 - x).toNat = (W - a + 1 - (x + 1)).toNat + 1 := by omega
  rw [hk, fcX, if_neg (by rw [h]; simp)]
theorem fcX_end {f : List Bx} {a b y x W : Int} (hx : ¬ x + a ≤ W) : fcX f a b y (W - a + 1 - x).toNat x = none := by
  have hk : (W - a + 1 - x).toNat = 0 := by omega
  rw [hk, fcX]
theorem fcY_t {f : List Bx} {a b y H : Int} {m : Nat} {c : Bx} (hy : y + b ≤ H) (h : fcX f a b y m 0 = some c) : fcY f a b m (H - b + 1 - y).toNat y = some c := by
  obtain ⟨k, hk⟩ : ∃ k : Nat, (H - b + 1 - y).toNat = k + 1 := ⟨(H - b - y).toNat, by omega⟩
  rw [hk, fcY, h]
theorem fcY_f {f : List Bx} {a b y H : Int} {m : Nat} (hy : y + b ≤ H) (h : fcX f a b y m 0 = none) : fcY f a b m (H - b + 1 - y).toNat y = fcY f a b m (H - b + 1 - (y + 1)).toNat (y + 1) := by
  have hk : (H - b + 1 - y).toNat = (H - b + 1 - (y + 1)).toNat + 1 := by omega
  rw [hk, fcY, h]
theorem fcY_end {f : List Bx} {a b y H : Int} {m : Nat} (hy : ¬ y + b ≤ H) : fcY f a b m (H - b + 1 - y).toNat y = none := by
  have hk : (H - b + 1 - y).toNat = 0 := by omega
  rw [hk, fcY]
def fcR (p : Pc) (a b : Int) : Option Bx := fcY p.f a b (p.w - a + 1 - 0).toNat (p.h - b + 1 - 0).toNat 0
def fcV (r : Option Bx) : Bx := r.getD zeroBx
def fcO (r : Option Bx) : Bool := r.isSome

set_option maxHeartbeats 3200000 in
set_option maxRecDepth 100000 in
theorem sfirstClear_c (p : Pc) (s : Ps) (ba bb : Int) (w : World) (h : PvR w.heap.size w p s) (hv : VP p) (ha1 : 1 ≤ ba) (ha2 : ba ≤ 200) (hb1 : 1 ≤ bb) (hb2 : bb ≤ 200) : Calls Try.prog 61 #[.agg #[.int .i64 s.l, .int .i64 s.w, .int .i64 s.h, .slice s.ka s.kn s.kc], .int .i64 ba, .int .i64 bb] w fun e w' => e = .returned (.tuple #[.agg #[.int .i64 (fcV (fcR p ba bb)).x, .int .i64 (fcV (fcR p ba bb)).y, .int .i64 (fcV (fcR p ba bb)).w, .int .i64 (fcV (fcR p ba bb)).h], .bool (fcO (fcR p ba bb))]) ∧ Below w.heap.size w w' := by
  have B2 := hid ((below_ps (l := s.l) (x := s.w) (y := s.h) (ka := s.ka) (kn := s.kn) (kc := s.kc) (ty := 31) w).alloc (by simp) (.cells #[.int .i64 0, .int .i64 0, .int .i64 0, .int .i64 0] 33))
  obtain ⟨g1, g2, g3⟩ := id h.1
  have HP := hid (fun w1 (hb : Below w.heap.size w w1) => h.go hb)
  obtain ⟨sl, sw, sh, ka, kn, kc⟩ := s
  obtain ⟨pl, pw, ph, f⟩ := p
  simp only at g1 g2 g3
  subst g1 g2 g3
  obtain ⟨v1, ⟨v2, v3⟩, ⟨v4, v5⟩, -, v6⟩ := hv
  simp only at v2 v3 v4 v5 v6
  have HVF : Hid (∀ g ∈ f, VB g) := fun g hg => (v6 g hg).1
  have HR : Hid (fcR ⟨sl, sw, sh, f⟩ ba bb = fcY f ba bb (sw - ba + 1 - 0).toNat (sh - bb + 1 - 0).toNat 0) := rfl
  revert HR
  generalize fcR ⟨sl, sw, sh, f⟩ ba bb = R
  intro HR
  clear h v1 v6
  go_enter Try.func61, Try.ntmps61
  go_wp2
  go_loopw [8] (fun i wr => ∃ y : Int, i = .int .i64 y ∧ 0 ≤ y ∧ y ≤ 200 ∧ R = fcY f ba bb (sw - ba + 1 - 0).toNat (sh - bb + 1 - y).toNat y ∧ Below (w.heap.size + 1 + 1) ((w.alloc (.cells #[.int .i64 sl, .int .i64 sw, .int .i64 sh, .slice ka kn kc] 31)).alloc (.cells #[.int .i64 0, .int .i64 0, .int .i64 0, .int .i64 0] 33)) wr) (fun i _ => 300 - (intOf i).toNat)
  case atStart => exact ⟨0, rfl, by omega, by omega, HR.out, Below.refl _ _⟩
  case round =>
    obtain ⟨y, rfl, hy0, hy1, hr, hb⟩ := hrel
    have hbz : w.heap.size + 1 + 1 ≤ wr.heap.size := by have := hb.size; simp at this; omega
    have hbx := fun (o : Nat) => hb.cell (p := ⟨w.heap.size, o, none⟩) (by simp; omega)
    have hby := fun (o : Nat) => hb.cell (p := ⟨w.heap.size + 1, o, none⟩) (by simp)
    have hfy := fun (o : Nat) => hb.frozen (p := ⟨w.heap.size + 1, o, none⟩) (by simp)
    have HRY := hid hr
    have HBW := hid hb
    have HBn := hid (B2.out.trans (hb.mono (by omega)))
    clear hr hb
    by_cases hlt : y + bb ≤ sh
    · go_wp2
      go_loopw [9] (fun i wi => ∃ x : Int, i = .int .i64 x ∧ 0 ≤ x ∧ x ≤ 200 ∧ fcX f ba bb y (sw - ba + 1 - 0).toNat 0 = fcX f ba bb y (sw - ba + 1 - x).toNat x ∧ Below (w.heap.size + 1 + 1) ((w.alloc (.cells #[.int .i64 sl, .int .i64 sw, .int .i64 sh, .slice ka kn kc] 31)).alloc (.cells #[.int .i64 0, .int .i64 0, .int .i64 0, .int .i64 0] 33)) wi) (fun i _ => 300 - (intOf i).toNat)
      case atStart => exact ⟨0, rfl, by omega, by omega, rfl, HBW.out⟩
      case round =>
        obtain ⟨x, rfl, hx0, hx1, hr, hb⟩ := hrel
        clear hbz hbx hby hfy
        have hbz : w.heap.size + 1 + 1 ≤ wr.heap.size := by have := hb.size; simp at this; omega
        have hbx := fun (o : Nat) => hb.cell (p := ⟨w.heap.size, o, none⟩) (by simp; omega)
        have hby := fun (o : Nat) => hb.cell (p := ⟨w.heap.size + 1, o, none⟩) (by simp)
        have hfy := fun (o : Nat) => hb.frozen (p := ⟨w.heap.size + 1, o, none⟩) (by simp)
        have HRX := hid hr
        have HBW2 := hid hb
        have HBn2 := hid (B2.out.trans (hb.mono (by omega)))
        have y1 : w.heap.size < wr.heap.size := by omega
        have y2 : w.heap.size + 1 < wr.heap.size := by omega
        have y3 : w.heap.size < wr.heap.size + 1 := by omega
        have y4 : w.heap.size + 1 < wr.heap.size + 1 := by omega
        clear hr hb
        by_cases hlx : x + ba ≤ sw
        · have HVB : Hid (VB ⟨x, y, ba, bb⟩) := by rw [Hid]; unfold VB; simp only; omega
          cases hc : clB f ⟨x, y, ba, bb⟩ with
          | true =>
            have HRR := hid (HRY.out.trans (fcY_t hlt (HRX.out.trans (fcX_t hlx hc))))
            have HC := hid hc
            clear hc
            go_wp2_with fail
            refine (sclearAt_c ⟨sl, sw, sh, f⟩ ⟨sl, sw, sh, ka, kn, kc⟩ ⟨x, y, ba, bb⟩ _ (HP.out _ (HBn2.out.alloc (by omega) _)) HVF.out HVB.out).mono ?_
            rintro e w1 ⟨rfl, hb⟩
            have HB3 := hid ((HBn2.out.alloc (by omega) (.cells #[.int .i64 x, .int .i64 y, .int .i64 ba, .int .i64 bb] 33)).trans (hb.mono (by simp; omega)))
            have hcy := fun (o : Nat) => ((HBW2.out.alloc (by omega) (.cells #[.int .i64 x, .int .i64 y, .int .i64 ba, .int .i64 bb] 33)).trans (hb.mono (by simp; omega))).cell (p := ⟨w.heap.size + 1, o, none⟩) (by simp)
            obtain ⟨c1, f1, z1⟩ := bcell hb
            have y5 : w.heap.size < w1.heap.size := by simp at z1; omega
            have y6 : w.heap.size + 1 < w1.heap.size := by simp at z1; omega
            have y7 : wr.heap.size < w1.heap.size := by simp at z1; omega
            simp only [HC.out]
            clear hb z1
            go_wp2
            refine bodyPost_ret (v := .tuple #[.agg #[.int .i64 x, .int .i64 y, .int .i64 ba, .int .i64 bb], .bool true]) (by simp [results, Try.results61, go_sem, hcy]) rfl ⟨by rw [HRR.out]; rfl, ?_⟩
            exact ((((HB3.out.setCell (by simp) _).setCell (by simp) _).setCell (by simp) _).setCell (by simp) _)
          | false =>
            have HRX2 := hid (HRX.out.trans (fcX_f hlx hc))
            have HC := hid hc
            clear hc
            go_wp2_with fail
            refine (sclearAt_c ⟨sl, sw, sh, f⟩ ⟨sl, sw, sh, ka, kn, kc⟩ ⟨x, y, ba, bb⟩ _ (HP.out _ (HBn2.out.alloc (by omega) _)) HVF.out HVB.out).mono ?_
            rintro e w1 ⟨rfl, hb⟩
            have HB3 := hid ((HBW2.out.alloc (by omega) (.cells #[.int .i64 x, .int .i64 y, .int .i64 ba, .int .i64 bb] 33)).trans (hb.mono (by simp; omega)))
            simp only [HC.out]
            clear hb
            go_wp2
            exact ⟨⟨x + 1, by go_num, by omega, by omega, HRX2.out, HB3.out⟩, by simp [intOf]; omega⟩
        · have HN := hid (HRY.out.trans (fcY_f hlt (HRX.out.trans (fcX_end hlx))))
          go_wp2
          exact ⟨⟨y + 1, by go_num, by omega, by omega, HN.out, HBW2.out⟩, by simp [intOf]; omega⟩
    · have HE := hid (HRY.out.trans (fcY_end hlt))
      go_wp2
      refine bodyPost_ret (v := .tuple #[.agg #[.int .i64 0, .int .i64 0, .int .i64 0, .int .i64 0], .bool false]) (by simp [results, Try.results61, go_sem, hby]) rfl ⟨by rw [HE.out]; rfl, ?_⟩
      exact ((((HBn.out.setCell (by simp) _).setCell (by simp) _).setCell (by simp) _).setCell (by simp) _)

end Go.Proofs.Ytpicbkakghojnaa
