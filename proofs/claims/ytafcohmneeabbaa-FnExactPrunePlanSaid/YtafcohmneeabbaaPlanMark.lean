/-
  Contracts of the small functions over plans: marks laid and read.
-/
import Derived.Test.YtafcohmneeabbaaPlanEq
namespace Go.Proofs.Ytafcohmneeabbaa
set_option linter.unusedSimpArgs false
set_option linter.unusedVariables false
open Go.RowKit

theorem below_plm {o a p : Int} {t : Bool} {ka : Option Addr} {kn kc : Nat} {ty : TypeId} (w : World) : Below w.heap.size w (w.alloc (.cells #[.int .i64 o, .int .i64 a, .int .i64 p, .bool t, .slice ka kn kc] ty)) := (Below.refl _ _).alloc (Nat.le_refl _) _

def MkS (n : Nat) : Prop := ∀ (v : Value) (L : List Pl) (lo hi : Nat) (k : Int) (w : World), OD 30 w n lo hi v L → hi ≤ w.heap.size → 0 ≤ k → k + 4 * tot L ≤ 1099511627776 →
  Calls Try.prog 55 #[v, .int .i64 k] w fun e w' => ∃ L', e = .returned (.int .i64 (k + 4 * tot L)) ∧ Mk k L' (k + 4 * tot L) ∧ tot L' = tot L ∧ OD 30 w' n lo hi v L' ∧ Rng lo hi w w'

theorem OL.split {D : Nat → Nat → Value → List Pl → Prop} {s : Sh} {S : List Sh} {lo hi : Nat} {L : List Pl} (h : OL D lo hi (s :: S) L) : ∃ p L' m, L = p :: L' ∧ lo ≤ m ∧ D lo m s.kv p.ks ∧ s.same p ∧ OL D m hi S L' := by
  cases L with
  | nil => exact h.elim
  | cons p L =>
    obtain ⟨m, h1, h2, h3, h4⟩ := h
    exact ⟨p, L, m, rfl, h1, h2, h3, h4⟩

theorem tot_mk1 (o a p : Int) (t : Bool) (ks : List Pl) : tot [Pl.mk o a p t ks] = 1 + tot ks := by simp [tot]
theorem mid_at {α : Type} (S1 : List α) (x : α) (S2 : List α) (h : S1.length < (S1 ++ x :: S2).length) : (S1 ++ x :: S2)[S1.length] = x := by
  rw [List.getElem_append_right (Nat.le_refl _)]; simp
theorem mid_set {α : Type} (S1 : List α) (x y : α) (S2 : List α) : (S1 ++ x :: S2).set S1.length y = S1 ++ y :: S2 := by
  rw [List.set_append_right _ _ (Nat.le_refl _), Nat.sub_self, List.set_cons_zero]

set_option maxHeartbeats 6400000 in
set_option maxRecDepth 100000 in
theorem markPlanS_any : ∀ n, MkS n
  | 0 => fun _ _ _ _ _ _ h => h.elim
  | n + 1 => by
    have HI := hid (markPlanS_any n)
    intro v L lo hi k w h hhi hk0 hk1
    obtain ⟨S, l, m, ho, h1, h2, h3, h4, h5⟩ := h
    obtain ⟨A, c, rfl, hc, hm, hA⟩ := ho.shape
    unfold maxLen at hm
    have hln := h5.len
    have htl := tot_len L
    have HIN := hid (show (Try.prog.info? 3).map (·.size) = some 1 by kernel_rfl)
    have HIB := hid (show (Try.prog.info? 4).map (·.size) = some 1 by kernel_rfl)
    have H4 := hid h4
    have HH := hid hhi
    have HOL0 := hid h5
    have HO0 := hid ho
    have hsl : S.length ≤ 1099511627776 := by omega
    clear h4 h5 ho hln
    go_enter Try.func55, Try.ntmps55
    go_wp2
    go_loopw [1, 5] (fun kk i wr => ∃ (j m1 : Nat) (S1 S2 : List Sh) (L1 L2 : List Pl), i = .int .i64 j ∧ kk = .int .i64 (k + 4 * tot L1) ∧ S1.length = j ∧ S1.length + S2.length = S.length ∧ tot L1 + tot L2 = tot L ∧ Mk k L1 (k + 4 * tot L1) ∧
      Own shE 30 lo wr (.slice A S.length c) (S1 ++ S2) ∧ OL (OD 30 wr n) l m1 S1 L1 ∧ OL (OD 30 wr n) m1 m S2 L2 ∧ Rng lo hi w wr) (fun _ i _ => S.length - (intOf i).toNat)
    case atStart => exact ⟨0, l, [], S, [], L, rfl, by simp [tot], rfl, by simp, by simp [tot], by simpa [tot] using Mk.nil k, HO0.out, Nat.le_refl _, HOL0.out, Rng.refl _ _ _⟩
    case round =>
      obtain ⟨j, m1, S1, S2, L1, L2, rfl, rfl, hj, hS12, hL12, hmk, ho, hol1, hol2, hr⟩ := hrel
      cases S2 with
      | nil =>
        cases L2 with
        | cons _ _ => exact hol2.elim
        | nil =>
        have e : j = S.length := by simp at hS12; omega
        have e2 : tot L1 = tot L := by simp [tot] at hL12; omega
        have hle : m1 ≤ m := hol2
        subst e
        have HR : Hid (OD 30 wr (n + 1) lo hi (.slice A S.length c) L1) := ⟨S1, l, m1, by simpa using ho, h1, hol1.le, by omega, fun q hq => by have := H4.out q hq; omega, hol1⟩
        have HM := hid hmk
        have HRG := hid hr
        rw [e2] at hmk ⊢
        clear ho hol1 hol2
        go_wp2
        go_ret
        exact ⟨L1, rfl, hmk, e2, HR.out, HRG.out⟩
      | cons s S2 =>
        obtain ⟨p, L3, m2, rfl, hm12, hod, hsm, hol3⟩ := hol2.split
        obtain ⟨g, rfl, hg1, hg2⟩ := hA (by simp at hS12; omega)
        subst hj
        have hl1 := hol1.le
        have hl3 := hol3.le
        have hg4 := H4.out g rfl
        rw [tot_cons] at hL12
        have hkt : tot (p :: L3) = 1 + tot p.ks + tot L3 := tot_cons p L3
        obtain ⟨K, hK⟩ : ∃ K, K = k + 4 * (tot L1 : Int) := ⟨_, rfl⟩
        have HK := hid hK
        have hK0 : 0 ≤ K := by omega
        have hK1 : K + 4 + 4 * (tot p.ks : Int) ≤ 1099511627776 := by omega
        rw [← hK] at hmk ⊢
        have hlt : S1.length < S.length := by simp at hS12; omega
        have HLN : Hid (∀ x : Sh, (S1 ++ x :: S2).length = S.length) := fun x => by simp at hS12 ⊢; omega
        have HO0' := hid ho
        have HOD := hid hod
        have HSM := hid hsm
        have HOL1 := hid hol1
        have HOL3 := hid hol3
        have HR0 := hid hr
        have HMK := hid hmk
        have HL12 := hid hL12
        have HG4 := hid hg4
        clear hK hmk ho hod hsm hol1 hol2 hol3 hr hL12 hS12 hkt hg4
        go_wp2_with (refine wpList_put1 shE rfl 3 _ _ rfl _ _ g _ _ S1.length 0 _ _ ⟨K, s.a, s.p, s.t, s.ka, s.kn, s.kc⟩ (.int .i64 K) HO0'.out (HLN.out _).symm (by rw [HLN.out]; exact hlt) (by decide) rfl rfl rfl rfl rfl HIN.out (by rw [mid_at]; rfl) _ (mid_set S1 _ _ S2).symm ?_)
        intro w1 ho1 hg1'
        have HO1 := hid ho1
        have HG1 := hid hg1'
        clear ho1 hg1'
        go_wp2_with (refine wpList_put1 shE rfl 3 _ _ rfl _ _ g _ _ S1.length 1 _ _ ⟨K, K + 1, s.p, s.t, s.ka, s.kn, s.kc⟩ (.int .i64 (K + 1)) HO1.out (HLN.out _).symm (by rw [HLN.out]; exact hlt) (by decide) rfl rfl rfl rfl rfl HIN.out (by rw [mid_at]; rfl) _ (mid_set S1 _ _ S2).symm ?_)
        intro w2 ho2 hg2'
        have HO2 := hid ho2
        have HG2 := hid (grown_trans HG1.out hg2')
        clear ho2 hg2'
        go_wp2_with (refine wpList_put1 shE rfl 3 _ _ rfl _ _ g _ _ S1.length 2 _ _ ⟨K, K + 1, K + 1 + 1, s.t, s.ka, s.kn, s.kc⟩ (.int .i64 (K + 1 + 1)) HO2.out (HLN.out _).symm (by rw [HLN.out]; exact hlt) (by decide) rfl rfl rfl rfl rfl HIN.out (by rw [mid_at]; rfl) _ (mid_set S1 _ _ S2).symm ?_)
        intro w3 ho3 hg3'
        have HO3 := hid ho3
        have HG3 := hid (grown_trans HG2.out hg3')
        clear ho3 hg3'
        go_wp2_with (refine wpList_put1 shE rfl 4 _ _ rfl _ _ g _ _ S1.length 3 _ _ ⟨K, K + 1, K + 1 + 1, (K + 1 + 1 + 1) % 3 == 0, s.ka, s.kn, s.kc⟩ (.bool ((K + 1 + 1 + 1) % 3 == 0)) HO3.out (HLN.out _).symm (by rw [HLN.out]; exact hlt) (by decide) rfl rfl rfl rfl rfl HIB.out (by rw [mid_at]; rfl) _ (mid_set S1 _ _ S2).symm ?_)
        intro w4 ho4 hg4'
        have HO4 := hid ho4
        have HG := hid (grown_trans HG3.out hg4')
        have hcell := ho4.cellAt (HLN.out _).symm S1.length 4 (by rw [HLN.out]; exact hlt) (by decide)
        rw [mid_at] at hcell
        have hcell' : w4.cell? ⟨g, S1.length * 5 + 4, none⟩ = some (.slice s.ka s.kn s.kc) := hcell
        have HOD4 : Hid (OD 30 w4 n m1 m2 (.slice s.ka s.kn s.kc) p.ks) := HOD.out.heap fun q q1 q2 => HG.out.block q (by have := HR0.out.size; have := HH.out; omega) (by have := HG4.out; simp; omega)
        have hs4 : m2 ≤ w4.heap.size := by have := HR0.out.size; have := HH.out; have := HG.out.size; omega
        clear ho4 hg4' hcell
        go_wp2_with fail
        refine (HI.out _ p.ks m1 m2 (K + 1 + 1 + 1 + 1) _ HOD4.out hs4 (by omega) (by omega)).mono ?_
        rintro e w5 ⟨L', rfl, hmk5, ht5, hod5, hr5⟩
        have HE : Hid (k + 4 * (tot (L1 ++ [Pl.mk K (K + 1) (K + 1 + 1) ((K + 1 + 1 + 1) % 3 == 0) L']) : Int) = K + 1 + 1 + 1 + 1 + 4 * (tot p.ks : Int)) := by
          rw [Hid, tot_append, tot_mk1, ht5]; have := HK.out; omega
        have HM5 : Hid (Mk k (L1 ++ [Pl.mk K (K + 1) (K + 1 + 1) ((K + 1 + 1 + 1) % 3 == 0) L']) (K + 1 + 1 + 1 + 1 + 4 * (tot p.ks : Int))) := by
          have e : K + 1 + 1 + 1 + 1 = K + 4 := by omega
          rw [e] at hmk5
          rw [Hid, e]
          exact HMK.out.snoc hmk5
        have HL5 : Hid (tot (L1 ++ [Pl.mk K (K + 1) (K + 1 + 1) ((K + 1 + 1 + 1) % 3 == 0) L']) + tot L3 = tot L) := by
          rw [Hid, tot_append, tot_mk1, ht5]; have := HL12.out; omega
        have HO5 := hid (HO4.out.rng hr5 (fun q hq => by simp [Value.ownBlock] at hq; have := HG4.out; omega))
        have hk45 : ∀ q, q < wr.heap.size → q ≠ g → (q < m1 ∨ m2 ≤ q) → w5.heap[q]? = wr.heap[q]? := fun q q1 q2 q3 => by
          rw [hr5.block q (by have := HG.out.size; omega) q3]
          exact HG.out.block q q1 (by simpa using q2)
        have hwr : hi ≤ wr.heap.size := by have := HR0.out.size; have := HH.out; omega
        have HOL15 : Hid (OL (OD 30 w5 n) l m2 (S1 ++ [⟨K, K + 1, K + 1 + 1, (K + 1 + 1 + 1) % 3 == 0, s.ka, s.kn, s.kc⟩]) (L1 ++ [Pl.mk K (K + 1) (K + 1 + 1) ((K + 1 + 1 + 1) % 3 == 0) L'])) :=
          (HOL1.out.imp fun a b _ _ qa qb hd => hd.heap fun q q1 q2 => hk45 q (by omega) (by have := HG4.out; omega) (by omega)).append ⟨m2, hm12, hod5, ⟨rfl, rfl, rfl, rfl⟩, Nat.le_refl _⟩ (fun _ _ _ _ _ h6 h7 => h7.base_le h6)
        have HOL35 : Hid (OL (OD 30 w5 n) m2 m S2 L3) := HOL3.out.imp fun a b _ _ qa qb hd => hd.heap fun q q1 q2 => hk45 q (by omega) (by have := HG4.out; omega) (by omega)
        have HR5 : Hid (Rng lo hi w w5) := HR0.out.trans ((Rng.of_grown HG.out (fun q hq => by simp at hq; have := HG4.out; omega)).trans (hr5.mono (by omega) (by omega)))
        have HS12 : Hid ((S1 ++ [(⟨K, K + 1, K + 1 + 1, (K + 1 + 1 + 1) % 3 == 0, s.ka, s.kn, s.kc⟩ : Sh)]).length + S2.length = S.length) := by have h := HLN.out s; rw [List.length_append, List.length_cons] at h; rw [Hid, List.length_append, List.length_singleton]; omega
        clear hmk5 ht5 hod5 hr5 hk45 hcell'
        go_wp2
        refine ⟨⟨S1.length + 1, m2, _, S2, _, L3, by go_num, ?_, by simp, HS12.out, HL5.out, ?_, by simpa using HO5.out, HOL15.out, HOL35.out, HR5.out⟩, ?_⟩
        rotate_left 2
        · simp [intOf]; omega
        · rw [HE.out]
        · rw [HE.out]; exact HM5.out

theorem markPlan_c {n : Nat} {p : Pl} {s : Sh} {lo hi : Nat} {k : Int} {w : World} (h : OD 30 w n lo hi s.kv p.ks) (hhi : hi ≤ w.heap.size) (hk0 : 0 ≤ k) (hk1 : k + 4 * tot p.ks ≤ 1099511627776) :
    Calls Try.prog 29 #[.agg #[.int .i64 s.o, .int .i64 s.a, .int .i64 s.p, .bool s.t, .slice s.ka s.kn s.kc], .int .i64 k] w fun e w' => ∃ L', e = .returned (.int .i64 (k + 4 * tot p.ks)) ∧ Mk k L' (k + 4 * tot p.ks) ∧ tot L' = tot p.ks ∧ OD 30 w' n lo hi s.kv L' ∧ Rng lo hi w w' := by
  have hb := below_plm (o := s.o) (a := s.a) (p := s.p) (t := s.t) (ka := s.ka) (kn := s.kn) (kc := s.kc) (ty := 30) w
  have HOD := hid (h.below hb hhi)
  have HH := hid (Nat.le_trans hhi hb.size)
  have HR : Hid (Rng lo hi w (w.alloc (.cells #[.int .i64 s.o, .int .i64 s.a, .int .i64 s.p, .bool s.t, .slice s.ka s.kn s.kc] 30))) := ⟨hb.os, hb.tape, hb.output, hb.size, fun q hq _ => hb.block q hq⟩
  clear h hb
  go_enter Try.func29, Try.ntmps29
  go_wp2_with fail
  refine (markPlanS_any n _ p.ks lo hi k _ HOD.out HH.out hk0 hk1).mono ?_
  rintro e w2 ⟨L', rfl, hmk, ht, hod, hr⟩
  have HM := hid hmk
  have HT := hid ht
  have HO := hid hod
  have HR2 := hid (HR.out.trans hr)
  clear hmk ht hod hr
  go_wp2
  go_ret
  exact ⟨L', rfl, HM.out, HT.out, HO.out, HR2.out⟩

end Go.Proofs.Ytafcohmneeabbaa
