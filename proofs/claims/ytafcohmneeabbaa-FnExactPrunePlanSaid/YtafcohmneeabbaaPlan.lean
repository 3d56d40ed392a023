/-
  Contracts of the small functions over plans: sizes, copies.
-/
import Derived.Test.YtafcohmneeabbaaPlanM
import Derived.Test.YtafcohmneeabbaaInts
import Derived.StillTailTactics
namespace Go.Proofs.Ytafcohmneeabbaa
set_option linter.unusedSimpArgs false
set_option linter.unusedVariables false
open Go.RowKit

theorem plan_info : (Try.prog.info? 30).map (fun i => (i.zero, i.size, i.bytes)) = some (some (.agg #[.int .i64 Sh.zero.o, .int .i64 Sh.zero.a, .int .i64 Sh.zero.p, .bool Sh.zero.t, .slice Sh.zero.ka Sh.zero.kn Sh.zero.kc]), 5, 56) := by kernel_rfl

theorem row_shs {B : Nat} {w : World} {A : Option Addr} {n c : Nat} {L : List Sh} (h : RowB shE B w (.slice A n c) L) (hn : 0 < n) : ∃ b off, A = some ⟨b, off, none⟩ ∧ b < B ∧
    ∀ k, (hk : k < L.length) → w.cell? ⟨b, off + k * 5, none⟩ = some (.int .i64 L[k].o) ∧ w.cell? ⟨b, off + k * 5 + 1, none⟩ = some (.int .i64 L[k].a) ∧ w.cell? ⟨b, off + k * 5 + 2, none⟩ = some (.int .i64 L[k].p) ∧ w.cell? ⟨b, off + k * 5 + 3, none⟩ = some (.bool L[k].t) ∧ w.cell? ⟨b, off + k * 5 + 4, none⟩ = some (.slice L[k].ka L[k].kn L[k].kc) := by
  obtain ⟨h1, h2, h3, h4⟩ := h.at_
  obtain ⟨b, off, rfl, hb, hc⟩ := h4 hn
  exact ⟨b, off, rfl, hb, fun k hk => ⟨hc k 0 _ hk (by decide) rfl, hc k 1 _ hk (by decide) rfl, hc k 2 _ hk (by decide) rfl, hc k 3 _ hk (by decide) rfl, hc k 4 _ hk (by decide) rfl⟩⟩

/-- The kids' parts, all counted. -/
def dsc : List Pl → Nat
  | [] => 0
  | p :: L => tot p.ks + dsc L
theorem tot_dsc (L : List Pl) : tot L = L.length + dsc L := by
  induction L with
  | nil => simp [tot, dsc]
  | cons p L ih => rw [tot_cons, ih, dsc, List.length_cons]; omega
theorem dsc_snoc (L : List Pl) (p : Pl) : dsc (L ++ [p]) = dsc L + tot p.ks := by
  induction L with
  | nil => simp [dsc]
  | cons q L ih => rw [List.cons_append, dsc, ih, dsc]; omega
theorem dsc_take (L : List Pl) (k : Nat) (hk : k < L.length) : dsc (L.take (k + 1)) = dsc (L.take k) + tot L[k].ks ∧ dsc (L.take (k + 1)) ≤ dsc L := by
  have h1 : dsc (L.take (k + 1)) = dsc (L.take k) + tot L[k].ks := by rw [List.take_succ_eq_append_getElem hk, dsc_snoc]
  refine ⟨h1, ?_⟩
  have : ∀ (M N : List Pl), dsc (M ++ N) = dsc M + dsc N := by
    intro M N
    induction M with
    | nil => simp [dsc]
    | cons q M ih => rw [List.cons_append, dsc, ih, dsc]; omega
  have h2 := this (L.take (k + 1)) (L.drop (k + 1))
  rw [List.take_append_drop] at h2
  omega

/-- What is left of a budget behind n parts. -/
def szR (left : Int) (n : Nat) : Int := if (n : Int) ≤ left then left - n else -1
theorem szR_t {left : Int} {n : Nat} (h : (n : Int) ≤ left) : szR left n = left - n := if_pos h
theorem szR_f {left : Int} {n : Nat} (h : ¬ (n : Int) ≤ left) : szR left n = -1 := if_neg h

def SzS (n : Nat) : Prop := ∀ (v : Value) (L : List Pl) (left : Int) (w : World), FR w.heap.size w n v L → 0 ≤ left → left ≤ 4194304 →
  Calls Try.prog 50 #[v, .int .i64 left] w fun e w' => e = .returned (.int .i64 (szR left (tot L))) ∧ Below w.heap.size w w'

set_option maxHeartbeats 800000 in
theorem szPlan_of (n : Nat) (ih : SzS n) (p : Pl) (s : Sh) (left : Int) (w : World) (h : PR w.heap.size w n p s) (h0 : 0 ≤ left) (h1 : left ≤ 4194304) :
    Calls Try.prog 24 #[.agg #[.int .i64 s.o, .int .i64 s.a, .int .i64 s.p, .bool s.t, .slice s.ka s.kn s.kc], .int .i64 left] w fun e w' => e = .returned (.int .i64 (szR left (tot p.ks))) ∧ Below w.heap.size w w' := by
  have hF := h.2.go ((Below.refl _ _).alloc (Nat.le_refl _) (.cells #[.int .i64 s.o, .int .i64 s.a, .int .i64 s.p, .bool s.t, .slice s.ka s.kn s.kc] 35))
  have HF := hid hF
  have HI := hid ih
  clear hF h ih
  by_cases hle : (tot p.ks : Int) ≤ left
  · have HE := hid (szR_t hle)
    go_enter Try.func24, Try.ntmps24
    go_wp2_with fail
    refine (HI.out _ _ _ _ HF.out h0 h1).mono ?_
    rintro e w2 ⟨rfl, hb⟩
    have HB := hid (((Below.refl _ _).alloc (Nat.le_refl _) _).trans (hb.mono (by simp)))
    clear hb
    rw [HE.out]
    go_wp2
    go_ret
    exact ⟨ret_int HE.out.symm, HB.out⟩
  · have HE := hid (szR_f hle)
    go_enter Try.func24, Try.ntmps24
    go_wp2_with fail
    refine (HI.out _ _ _ _ HF.out h0 h1).mono ?_
    rintro e w2 ⟨rfl, hb⟩
    have HB := hid (((Below.refl _ _).alloc (Nat.le_refl _) _).trans (hb.mono (by simp)))
    clear hb
    rw [HE.out]
    go_wp2
    go_ret
    exact ⟨ret_int HE.out.symm, HB.out⟩

set_option maxHeartbeats 1600000 in
theorem szPlanS_any : ∀ n, SzS n
  | 0 => fun _ _ _ _ h => h.elim
  | n + 1 => by
    have HI := hid (szPlan_of n (szPlanS_any n))
    intro v L left w h h0 h1
    obtain ⟨S, hr, hl, hS⟩ := h
    obtain ⟨A1, c1, rfl, hc1, hm1⟩ := hr.form
    unfold maxLen at hm1
    have hT := tot_dsc L
    have HS := hid hS
    have HL := hid hl
    have HT := hid hT
    clear hS
    by_cases hlen : (S.length : Int) ≤ left
    · clear hl hT
      go_enter Try.func50, Try.ntmps50
      go_wp2
      go_loopw [1, 5] (fun lf i wr => ∃ k : Nat, i = .int .i64 k ∧ k ≤ S.length ∧ (dsc (L.take k) : Int) ≤ left - S.length ∧ lf = .int .i64 (left - S.length - dsc (L.take k)) ∧ Below w.heap.size w wr) (fun _ i _ => S.length - (intOf i).toNat)
      case atStart => exact ⟨0, rfl, by omega, by simp [dsc]; omega, by simp [dsc], Below.refl _ _⟩
      case round =>
        obtain ⟨k, rfl, hk, hd, rfl, hb⟩ := hrel
        by_cases hlt : k < S.length
        · obtain ⟨b1, o1, rfl, hlt1, hx⟩ := row_shs (hr.below hb) (by omega)
          obtain ⟨hx0, hx1, hx2, hx3, hx4⟩ := hx k hlt
          have hkl : k < L.length := by have := HL.out; omega
          have HP : Hid (PR wr.heap.size wr n L[k] S[k]) := PR.go (HS.out k hlt hkl) hb
          have HB := hid hb
          have HD := hid (dsc_take L k hkl)
          clear hx hr hb
          by_cases hle : (tot L[k].ks : Int) ≤ left - S.length - dsc (L.take k)
          · have HE := hid (szR_t hle)
            go_wp2_with fail
            refine (HI.out L[k] S[k] _ _ HP.out (by omega) (by omega)).mono ?_
            rintro e w2 ⟨rfl, hb⟩
            have HB2 := hid (HB.out.trans (hb.mono HB.out.size))
            clear hb
            rw [HE.out]
            go_wp2
            refine ⟨⟨k + 1, by go_num, by omega, ?_, ?_, HB2.out⟩, by simp [intOf]; omega⟩
            · have := HD.out; omega
            · rw [HD.out.1]; go_num
          · have HE := hid (szR_f hle)
            have HN : Hid (szR left (tot L) = -1) := szR_f (by have := HD.out; have := HT.out; have := HL.out; omega)
            go_wp2_with fail
            refine (HI.out L[k] S[k] _ _ HP.out (by omega) (by omega)).mono ?_
            rintro e w2 ⟨rfl, hb⟩
            have HB2 := hid (HB.out.trans (hb.mono HB.out.size))
            clear hb
            rw [HE.out]
            go_wp2
            go_ret
            exact ⟨ret_int HN.out.symm, HB2.out⟩
        · have e : dsc (L.take k) = dsc L := by rw [List.take_of_length_le (by have := HL.out; omega)]
          have HN : Hid (szR left (tot L) = left - S.length - dsc (L.take k)) := by
            rw [Hid, szR_t (by have := HT.out; have := HL.out; omega)]; have := HT.out; have := HL.out; omega
          clear e
          go_wp2
          go_ret
          exact ⟨ret_int HN.out.symm, hb⟩
    · have HN : Hid (szR left (tot L) = -1) := szR_f (by omega)
      clear hl hT
      go_enter Try.func50, Try.ntmps50
      go_wp2
      go_ret
      exact ⟨ret_int HN.out.symm, Below.refl _ _⟩

theorem OD.setCell {e : TypeId} {w : World} {n lo hi : Nat} {v : Value} {L : List Pl} {p : Addr} (h : OD e w n lo hi v L) (hp : p.block < lo) (u : Value) : OD e (w.setCell p u) n lo hi v L :=
  h.heap fun k h1 _ => Below.heap_setCell _ _ _ _ (by omega)
theorem OD.form {e : TypeId} {w : World} {n lo hi : Nat} {v : Value} {L : List Pl} (h : OD e w n lo hi v L) : ∃ A c, v = .slice A L.length c ∧ c ≤ maxLen := by
  cases n with
  | zero => exact h.elim
  | succ n =>
    obtain ⟨S, l, m, ho, h1, h2, h3, h4, h5⟩ := h
    obtain ⟨A, c, h6, _, h7⟩ := ho.rowB.form
    exact ⟨A, c, by rw [h6, h5.len], h7⟩

def TpS (n : Nat) : Prop := ∀ (v : Value) (L : List Pl) (w : World), FR w.heap.size w n v L → tot L ≤ 4194304 →
  Calls Try.prog 52 #[v] w fun e w' => ∃ v', e = .returned v' ∧ OD 30 w' n w.heap.size w'.heap.size v' L ∧ Below w.heap.size w w'

set_option maxHeartbeats 800000 in
theorem toPlan_of (n : Nat) (ih : TpS n) (p : Pl) (s : Sh) (w : World) (h : PR w.heap.size w n p s) (h0 : tot p.ks ≤ 4194304) :
    Calls Try.prog 26 #[.agg #[.int .i64 s.o, .int .i64 s.a, .int .i64 s.p, .bool s.t, .slice s.ka s.kn s.kc]] w fun e w' => ∃ s' : Sh, e = .returned (.agg #[.int .i64 s'.o, .int .i64 s'.a, .int .i64 s'.p, .bool s'.t, .slice s'.ka s'.kn s'.kc]) ∧ s'.same p ∧ OD 30 w' n w.heap.size w'.heap.size s'.kv p.ks ∧ Below w.heap.size w w' := by
  have HF := hid (fun w1 (hb : Below w.heap.size w w1) => h.2.go hb)
  have HI := hid ih
  have HS := hid h.1
  clear h ih
  go_enter Try.func26, Try.ntmps26
  go_wp2_with fail
  refine (HI.out _ _ _ (HF.out _ ((((Below.refl _ _).alloc (Nat.le_refl _) _).alloc (by simp) _).alloc (by simp; omega) _)) h0).mono ?_
  rintro e w2 ⟨v', rfl, hod, hb⟩
  obtain ⟨A', c', rfl, hm⟩ := hod.form
  have HOD := hid hod
  have HB := hid (((((Below.refl _ _).alloc (Nat.le_refl _) _).alloc (by simp) _).alloc (by simp; omega) _).trans (hb.mono (by simp; omega)) : Below w.heap.size w w2)
  obtain ⟨hc, hf, hsz⟩ := bcell hb
  have hz : w.heap.size + 2 < w2.heap.size := by have := hsz; simp at this; omega
  clear hod hb hsz hm
  go_wp2
  refine bodyPost_ret (v := .agg #[.int .i64 s.o, .int .i64 s.a, .int .i64 s.p, .bool s.t, .slice A' p.ks.length c']) (by simp [results, Try.results26, go_sem, hc, hz]) rfl ⟨⟨s.o, s.a, s.p, s.t, A', p.ks.length, c'⟩, rfl, HS.out, ?_, ?_⟩
  · have H1 := (((((HOD.out.setCell (p := ⟨w.heap.size + 1 + 1, 4, none⟩) (by simp) (.slice A' p.ks.length c')).setCell (p := ⟨w.heap.size + 1, 0, none⟩) (by simp) (.int .i64 s.o)).setCell (p := ⟨w.heap.size + 1, 1, none⟩) (by simp) (.int .i64 s.a)).setCell (p := ⟨w.heap.size + 1, 2, none⟩) (by simp) (.int .i64 s.p)).setCell (p := ⟨w.heap.size + 1, 3, none⟩) (by simp) (.bool s.t)).setCell (p := ⟨w.heap.size + 1, 4, none⟩) (by simp) (.slice A' p.ks.length c')
    exact (H1.base_le (by simp; omega)).top_le (by simp [World.setCell])
  · exact (((((HB.out.setCell (by simp; omega) _).setCell (by simp) _).setCell (by simp) _).setCell (by simp) _).setCell (by simp) _).setCell (by simp) _

theorem push_set {α : Type} (D : List α) (z a : α) (n : Nat) (hn : D.length < n) : (D ++ List.replicate (n - D.length) z).set D.length a = (D ++ [a]) ++ List.replicate (n - (D.length + 1)) z := by
  have e : n - D.length = (n - (D.length + 1)) + 1 := by omega
  rw [List.set_append_right _ _ (Nat.le_refl _), Nat.sub_self, e, List.replicate_succ, List.set_cons_zero, List.append_assoc]
  rfl

set_option maxHeartbeats 1600000 in
theorem toPlanS_any : ∀ n, TpS n
  | 0 => fun _ _ _ h => h.elim
  | n + 1 => by
    have HI := hid (toPlan_of n (toPlanS_any n))
    intro v L w h h0
    obtain ⟨S, hr, hl, hS⟩ := h
    obtain ⟨A1, c1, rfl, hc1, hm1⟩ := hr.form
    unfold maxLen at hm1
    have HS := hid hS
    have HL := hid hl
    have h0' := tot_len L
    have hn : S.length ≤ 4194304 := by omega
    have HT := hid (tot_dsc L)
    clear hS hl h0'
    obtain ⟨i0, hi0, hz0, hz1, hz2⟩ := info_parts plan_info
    go_enter Try.func52, Try.ntmps52
    go_wp2_with (at_make; refine wpList_mk shE _ rfl _ _ 28 rfl w.heap.size 30 i0 _ Sh.zero 56 Try.underlying28 hi0 hz0 hz1 hz2 rfl _ _ _ _ S.length rfl rfl rfl rfl hn (by omega) (Nat.le_refl _) ?_)
    intro w1 hown hgr hlt1
    have HB1 := hid ((Below.refl _ _).grown hgr (Nat.le_refl _) (by simp) : Below w.heap.size w w1)
    have HO1 := hid hown
    clear hown hgr
    go_wp2
    go_loopw [4] (fun i wr => ∃ (k m : Nat) (D : List Sh), i = .int .i64 k ∧ k ≤ S.length ∧ D.length = k ∧ m ≤ wr.heap.size ∧ Below w.heap.size w wr ∧ Own shE 30 w.heap.size wr (.slice (some ⟨w.heap.size, 0, none⟩) S.length S.length) (D ++ List.replicate (S.length - k) Sh.zero) ∧ OL (OD 30 wr n) (w.heap.size + 1) m D (L.take k)) (fun i _ => S.length - (intOf i).toNat)
    case atStart => exact ⟨0, w.heap.size + 1, [], rfl, by omega, rfl, by omega, HB1.out, by simpa using HO1.out, by rw [List.take_zero]; exact Nat.le_refl _⟩
    case round =>
      obtain ⟨k, m, D, rfl, hk, hD, hmw, hb, ho, hol⟩ := hrel
      clear HO1 HB1
      by_cases hlt : k < S.length
      · obtain ⟨b1, o1, rfl, hlt1', hx⟩ := row_shs (hr.below hb) (by omega)
        obtain ⟨hx0, hx1, hx2, hx3, hx4⟩ := hx k hlt
        have hkl : k < L.length := by have := HL.out; omega
        have HP : Hid (PR wr.heap.size wr n L[k] S[k]) := PR.go (HS.out k hlt hkl) hb
        have hsz := hb.size
        have HB := hid hb
        have HO := hid ho
        have HOL := hid hol
        have HD := hid hD
        have HT2 : Hid (tot L[k].ks ≤ 4194304) := by have := dsc_take L k hkl; have := HT.out; rw [Hid]; omega
        have HTK := hid (List.take_succ_eq_append_getElem hkl)
        have hgw := (ho.lt w.heap.size rfl).2
        clear hx hr hb ho hol hD
        go_wp2_with fail
        refine (HI.out L[k] S[k] _ HP.out HT2.out).mono ?_
        rintro e w2 ⟨s', rfl, hsm, hod, hb⟩
        have HB2 := hid (HB.out.trans (hb.mono HB.out.size))
        have HO2 := hid (HO.out.below hb)
        have HSM := hid hsm
        have HOD := hid hod
        have HOL2 : Hid (OL (OD 30 w2 n) (w.heap.size + 1) m D (L.take k)) := HOL.out.imp fun _ _ _ _ _ h2 h3 => h3.below hb (by omega)
        have hsz2 := hb.size
        clear hb hsm hod HOL
        go_wp2_with (refine wpList_put shE rfl 30 _ _ rfl _ _ _ _ _ k _ s' HO2.out (by have := HD.out; simp; omega) (by have := HD.out; simp; omega) rfl rfl (by rw [hi0]; simp [hz1, shE]) ((D ++ [s']) ++ List.replicate (S.length - (k + 1)) Sh.zero) (by have := HD.out; subst this; exact (push_set D _ _ _ hlt).symm) ?_)
        intro w3 ho3 hg3
        have HO3 := hid ho3
        have hsz3 := hg3.size
        have HB3 := hid (HB2.out.grown hg3 HB2.out.size (fun q hq => by simp at hq; omega))
        have HOL3 : Hid (OL (OD 30 w3 n) (w.heap.size + 1) w2.heap.size (D ++ [s']) (L.take (k + 1))) := by
          rw [Hid, HTK.out]
          refine (HOL2.out.append (m := m) (S' := [s']) (L' := [L[k]]) (hi := w2.heap.size) ⟨w2.heap.size, by omega, HOD.out.base_le (by omega), HSM.out, Nat.le_refl _⟩ (fun _ _ _ _ _ h1 h2 => h2.base_le h1)).imp fun l _ _ _ h1 h2 h3 => h3.heap fun q h4 h5 => hg3.block q (by omega) (by simp; omega)
        clear ho3 hg3
        go_wp2
        exact ⟨⟨k + 1, _, _, by go_num, by omega, by have := HD.out; simp; omega, hsz3, HB3.out, by simpa using HO3.out, HOL3.out⟩, by simp [intOf]; omega⟩
      · have e : k = S.length := by omega
        subst e
        have HO := hid ho
        have hsz := (ho.lt w.heap.size rfl).2
        have HE := hid (show L.take S.length = L from List.take_of_length_le (by have := HL.out; omega))
        clear ho
        go_wp2
        go_ret
        refine ⟨_, rfl, ⟨D, w.heap.size + 1, m, ?_, by omega, hol.le, hmw, fun q hq => by simp [Value.ownBlock] at hq; omega, by rw [HE.out] at hol; exact hol⟩, hb⟩
        have := HO.out
        simpa using this

end Go.Proofs.Ytafcohmneeabbaa
