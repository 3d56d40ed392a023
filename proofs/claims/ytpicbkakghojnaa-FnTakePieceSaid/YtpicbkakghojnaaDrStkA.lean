/-
  Contracts: stocks drawn by the generators of the reference, any.
-/
import Derived.Test.YtpicbkakghojnaaDrStk
namespace Go.Proofs.Ytpicbkakghojnaa
set_option linter.unusedSimpArgs false
set_option linter.unusedVariables false
open Go.RowKit

def AnySt (B a : Nat) (m : Int) (w : World) (e : Ending) (w' : World) : Prop := ∃ (v : Value) (L : List Pc), e = .returned v ∧ L.length ≤ 6 ∧ (∀ p ∈ L, tP 3 p) ∧ OSt w.heap.size w' v L ∧ Rd B w' a m ∧ w.grownBy w' (some a)
def labP (p : Pc) (y : Int) : Pc := ⟨y, p.w, p.h, p.f⟩
def labS (s : Ps) (y : Int) : Ps := ⟨y, s.w, s.h, s.ka, s.kn, s.kc⟩
theorem ost_lab {base k : Nat} {w w' : World} {v : Value} {L : List Pc} {S : List Ps} (y : Int) (hS : S.length = L.length) (hp : PsO base w L S) (hd : ∀ s ∈ S, Dj v s.kv) (hk : k < S.length) (hk2 : k < L.length)
    (ho : Own psE 31 base w' v (S.set k (labS S[k] y))) (hg : w.grownBy w' v.ownBlock) : OSt base w' v (L.set k (labP L[k] y)) := by
  have hp2 := hp.grownV hS hg (fun u hu => (hd u hu).symm.kept)
  refine ⟨_, by simp [hS], ho, fun i h1 h2 => ?_, fun u hu => ?_⟩
  · have i1 : i < S.length := by simpa using h1
    have i2 : i < L.length := by simpa using h2
    by_cases e : k = i
    · subst e
      rw [List.getElem_set_self, List.getElem_set_self]
      obtain ⟨⟨q1, q2, q3⟩, q4⟩ := hp2 k i1 i2
      exact ⟨⟨rfl, q2, q3⟩, q4⟩
    · rw [List.getElem_set_ne e, List.getElem_set_ne e]
      exact hp2 i i1 i2
  · obtain ⟨i, hi, rfl⟩ := List.getElem_of_mem hu
    have i1 : i < S.length := by simpa using hi
    by_cases e : k = i
    · subst e
      rw [List.getElem_set_self]
      exact hd S[k] (List.getElem_mem hk)
    · rw [List.getElem_set_ne e]
      exact hd S[i] (List.getElem_mem i1)

set_option maxHeartbeats 6400000 in
set_option maxRecDepth 100000 in
theorem anyStock_c (B a : Nat) (m : Int) (w : World) (h : Rd B w a m) (hm : m ≤ 400000) : Calls Try.prog 78 #[.pointer (some ⟨a, 0, none⟩)] w (AnySt B a (m + 210) w) := by
  have hla := h.lt
  have HR0 := hid h
  have HI := hid (show (Try.prog.info? 3).map (·.size) = some 1 by kernel_rfl)
  have hlo := h.lo
  clear h
  go_enter Try.func78, Try.ntmps78
  go_wp2_with fail
  refine (someStock_c B a _ _ HR0.out (by omega)).mono ?_
  rintro e w1 ⟨v, L, rfl, hl, hT, hst, hR, hg⟩
  obtain ⟨A, c, rfl, hc1, hm1⟩ := hst.form
  have HST := hid hst
  have HT := hid hT
  have HR1 := hid hR
  have HG1 := hid hg
  have hs1 := hg.size
  clear hT hst hR hg hm1 hc1
  by_cases h0 : 0 < L.length
  · have d0 : decide ((0 : Int) < (L.length : Int)) = true := by simp; omega
    go_wp2_with fail
    refine (pick_c B a 12 _ _ HR1.out (by omega) (by omega) (by omega)).mono ?_
    rintro e w2 ⟨x, rfl, hp, hR, hg⟩
    have HST2 := hid (HST.out.gr hg hla)
    have HR2 := hid hR
    have HG2 := hid (grown_trans HG1.out hg)
    have hs2 := hg.size
    clear hp hR hg
    by_cases hx : x = 0
    · have d1 : (x == 0) = true := by simpa using hx
      clear hx
      go_wp2_with fail
      refine (pick_c B a L.length _ _ HR2.out (by omega) (by omega) (by omega)).mono ?_
      rintro e w3 ⟨y, rfl, ⟨hy0, hy1⟩, hR, hg⟩
      obtain ⟨k, rfl⟩ := Int.eq_ofNat_of_zero_le hy0
      have hk : k < L.length := by omega
      have HST3 := hid (HST2.out.gr hg hla)
      have HR3 := hid hR
      have HG3 := hid (grown_trans HG2.out hg)
      have hs3 := hg.size
      have ZL := hid (lit_row w3 w3.heap.size rfl #[.int .i64 0, .int .i64 1, .int .i64 9999, .int .i64 10000] [0, 1, 9999, 10000] 4 rfl rfl (by simp [maxLen]))
      have HST3a := hid (HST3.out.below ((Below.refl _ _).alloc (Nat.le_refl _) (.cells #[.int .i64 0, .int .i64 1, .int .i64 9999, .int .i64 10000] 3)))
      clear hR hg hy1
      go_wp2_with fail
      refine (one_c B a _ [0, 1, 9999, 10000] _ _ (HR3.out.alloc _) ZL.out (by simp [Value.ownBlock]; omega) (by simp) (by simp) (by omega)).mono ?_
      rintro e w4 ⟨z, rfl, hp, hR, hg⟩
      have hz : 0 ≤ z ∧ z ≤ 10000 := by simp at hp; omega
      have hst4 := HST3a.out.gr hg hla
      have HR4 := hid hR
      have HG4 := hid (grown_trans (gr_alloc HG3.out _) hg)
      obtain ⟨S, hS, hown, hpo, hd⟩ := hst4
      have hkS : k < S.length := by omega
      obtain ⟨g, cap, e5, hg1, hg2, -, -⟩ := hown.form (by omega)
      simp only [Value.slice.injEq] at e5
      obtain ⟨rfl, hSl, rfl⟩ := e5
      have HOW := hid hown
      have HPO := hid hpo
      have HD := hid hd
      have HSL := hid hS
      have HSl := hid hSl
      clear hp hR hg hS hown hpo hd hSl
      go_wp2_with (refine wpList_put1 psE rfl 3 _ _ rfl 31 w.heap.size g L.length _ k 0 _ S (labS S[k] z) (.int .i64 z) HOW.out HSL.out.symm (by rw [HSL.out]; exact hk) (by decide) rfl rfl rfl rfl rfl HI.out rfl _ rfl ?_)
      intro w5 ho5 hg5
      have HN := hid (ost_lab z HSL.out HPO.out HD.out hkS hk ho5 hg5)
      have HR5 := hid (HR4.out.grown hg5 (fun j hj => by simp [Value.ownBlock] at hj; omega))
      have HG5 := hid (gr_step HG4.out hg5 (fun j hj => .inr (by simp [Value.ownBlock] at hj; omega)))
      have HT2 : Hid (∀ p ∈ L.set k (labP L[k] z), tP 3 p) := fun p hp => by
        rcases List.mem_or_eq_of_mem_set hp with hp | hp
        · exact HT.out p hp
        · subst hp
          have := HT.out _ (List.getElem_mem hk)
          unfold tP at *
          simp only [labP]
          omega
      clear ho5 hg5
      go_wp2
      go_ret
      exact ⟨_, L.set k (labP L[k] z), rfl, by simp; exact hl, HT2.out, HN.out, HR5.out.up (by omega), HG5.out⟩
    · have d1 : (x == 0) = false := by simpa using hx
      clear hx
      go_wp2
      go_ret
      exact ⟨_, L, rfl, hl, HT.out, HST2.out, HR2.out.up (by omega), HG2.out⟩
  · have d0 : decide ((0 : Int) < (L.length : Int)) = false := decide_eq_false (by omega)
    go_wp2
    go_ret
    exact ⟨_, L, rfl, hl, HT.out, HST.out, HR1.out.up (by omega), HG1.out⟩

def DrTake (w : World) (e : Ending) (w' : World) : Prop := ∃ (v : Value) (L : List Pc) (x : Int), e = .returned (.tuple #[v, .int .i64 x]) ∧ StR w'.heap.size w' v L ∧ S64 L ∧ Below w.heap.size w w'

set_option maxHeartbeats 6400000 in
set_option maxRecDepth 100000 in
theorem DrawTakePiece_c (v : Value) (L : List Int) (w : World) (h : Row byteE w v L) (hb : ∀ x ∈ L, 0 ≤ x ∧ x ≤ 255) : Calls Try.prog 46 #[v] w (DrTake w) := by
  have HR0 := hid h
  have HB := hid hb
  clear h hb
  go_enter Try.func46, Try.ntmps46
  go_wp2_with fail
  refine (newReader_c w.heap.size v L _ HR0.out (Nat.le_refl _) HB.out).mono ?_
  rintro e w1 ⟨rfl, hR, hb, hlt⟩
  have HB1 := hid hb
  have HRd := hid hR
  clear hR hb
  go_wp2_with fail
  refine (anyStock_c w.heap.size w.heap.size 0 _ HRd.out (by omega)).mono ?_
  rintro e w2 ⟨u, M, rfl, hl, hT, hst, hR, hg⟩
  obtain ⟨A, c, rfl, hc1, hm1⟩ := hst.form
  have HST := hid hst
  have HS64 : Hid (S64 M) := fun p hp => tP_I64 (hT p hp)
  have HR2 := hid hR
  have HB2 := hid (below_gr HB1.out hg HB1.out.size (Nat.le_refl _))
  have hs2 := hg.size
  have ZL := hid (lit_row w2 w2.heap.size rfl #[.int .i64 1, .int .i64 2, .int .i64 0, .int .i64 50] [1, 2, 0, 50] 4 rfl rfl (by simp [maxLen]))
  clear hT hst hR hg hm1 hc1
  have HSTa := hid (HST.out.below ((Below.refl _ _).alloc (Nat.le_refl _) (.cells #[.int .i64 1, .int .i64 2, .int .i64 0, .int .i64 50] 3)))
  go_wp2_with fail
  refine (one_c w.heap.size w.heap.size _ [1, 2, 0, 50] _ _ (HR2.out.alloc _) ZL.out (by simp [Value.ownBlock]; omega) (by simp) (by simp) (by omega)).mono ?_
  rintro e w3 ⟨z, rfl, hp, hR, hg⟩
  have HST3 := hid (HSTa.out.gr hg hlt)
  have HR3 := hid hR
  have HB3 := hid (below_gr (HB2.out.alloc HB2.out.size _) hg (by simp; omega) (Nat.le_refl _))
  have hs3 := hg.size
  clear hp hR hg
  by_cases h0 : 0 < M.length
  · have d0 : decide ((0 : Int) < (M.length : Int)) = true := by simp; omega
    go_wp2_with fail
    refine (pick_c w.heap.size w.heap.size 4 _ _ HR3.out (by omega) (by omega) (by omega)).mono ?_
    rintro e w4 ⟨x, rfl, ⟨hx0, -⟩, hR, hg⟩
    have HST4 := hid (HST3.out.gr hg hlt)
    have HR4 := hid hR
    have HB4 := hid (below_gr HB3.out hg HB3.out.size (Nat.le_refl _))
    clear hR hg
    by_cases hx : 0 < x
    · have d1 : decide ((0 : Int) < x) = true := by simpa using hx
      clear hx
      go_wp2_with fail
      refine (pick_c w.heap.size w.heap.size M.length _ _ HR4.out (by omega) (by omega) (by omega)).mono ?_
      rintro e w5 ⟨y, rfl, ⟨hy0, hy1⟩, hR, hg⟩
      obtain ⟨k, rfl⟩ := Int.eq_ofNat_of_zero_le hy0
      have hk : k < M.length := by omega
      have HST5 := hid (HST4.out.gr hg hlt)
      have HB5 := hid (below_gr HB4.out hg HB4.out.size (Nat.le_refl _))
      obtain ⟨b1, o1, s, rfl, hb1, hps, x0, x1, x2, x3⟩ := HST5.out.read.at_ k hk
      clear hR hg hps
      go_wp2
      go_ret2
      exact ⟨_, M, _, rfl, HST5.out.read, HS64.out, HB5.out⟩
    · have d1 : decide ((0 : Int) < x) = false := by simpa using hx
      clear hx
      go_wp2
      go_ret2
      exact ⟨_, M, _, rfl, HST4.out.read, HS64.out, HB4.out⟩
  · have d0 : decide ((0 : Int) < (M.length : Int)) = false := decide_eq_false (by omega)
    go_wp2
    go_ret2
    exact ⟨_, M, _, rfl, HST3.out.read, HS64.out, HB3.out⟩

end Go.Proofs.Ytpicbkakghojnaa
