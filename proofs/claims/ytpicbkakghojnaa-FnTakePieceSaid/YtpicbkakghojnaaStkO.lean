/-
  Stocks of the call's own; copies of stocks (the program's), a stock without a piece (the reference's).
-/
import Derived.Test.YtpicbkakghojnaaStkF
import Derived.Test.YtpicbkakghojnaaEdges
namespace Go.Proofs.Ytpicbkakghojnaa
set_option linter.unusedSimpArgs false
set_option linter.unusedVariables false
open Go.RowKit

/-- A stock of the call's own, from block base on: the pieces and their flaws. -/
def OSt (base : Nat) (w : World) (v : Value) (L : List Pc) : Prop := ∃ S : List Ps, S.length = L.length ∧ Own psE 31 base w v S ∧ PsO base w L S ∧ ∀ s ∈ S, Dj v s.kv
section
variable {base a : Nat} {w w' : World} {v v' : Value} {L : List Pc}
theorem OSt.nil_ (base : Nat) (w : World) : OSt base w (.slice none 0 0) [] := ⟨[], rfl, Own.nil_ _ _ _, PsO.nil_ _ _ _, fun s h => by simp at h⟩
theorem OSt.lit0 (w : World) {base : Nat} (hb : base ≤ w.heap.size) : OSt base (w.alloc (.cells #[] 31)) (.slice (some ⟨w.heap.size, 0, none⟩) 0 0) [] := ⟨[], rfl, Own.lit0 psE w base 31 hb, PsO.nil_ _ _ _, fun s h => by simp at h⟩
theorem OSt.below (h : OSt base w v L) (hb : Below w.heap.size w w') : OSt base w' v L := by
  obtain ⟨S, h1, h2, h3, h4⟩ := h
  exact ⟨S, h1, h2.below hb, h3.below hb, h4⟩
theorem OSt.gr (h : OSt base w v L) (hg : w.grownBy w' (some a)) (ha : a < base) : OSt base w' v L := by
  obtain ⟨S, h1, h2, h3, h4⟩ := h
  exact ⟨S, h1, h2.kept hg (own_na h2 ha), fun k k1 k2 => ⟨(h3 k k1 k2).1, (h3 k k1 k2).2.kept hg (own_na (h3 k k1 k2).2 ha)⟩, h4⟩
theorem PsO.base_le {b : Nat} {S : List Ps} (h : PsO base w L S) (hb : b ≤ base) : PsO b w L S := fun k h1 h2 => ⟨(h k h1 h2).1, (h k h1 h2).2.base_le hb⟩
theorem OSt.base_le {b : Nat} (h : OSt base w v L) (hb : b ≤ base) : OSt b w v L := by
  obtain ⟨S, h1, h2, h3, h4⟩ := h
  exact ⟨S, h1, h2.base_le hb, h3.base_le hb, h4⟩
theorem OSt.read (h : OSt base w v L) : StR w.heap.size w v L := by
  obtain ⟨S, h1, h2, h3, h4⟩ := h
  exact ⟨S, h2.rowB, h3.read h1⟩
theorem OSt.form (h : OSt base w v L) : ∃ A c, v = .slice A L.length c ∧ L.length ≤ c ∧ c ≤ maxLen := h.read.form
theorem OSt.own_lt (h : OSt base w v L) : ∀ k, v.ownBlock = some k → base ≤ k ∧ k < w.heap.size := by
  obtain ⟨S, h1, h2, h3, h4⟩ := h
  exact h2.lt
theorem PsO.grownV {S : List Ps} {row : Option Nat} (h : PsO base w L S) (hl : S.length = L.length) (hg : w.grownBy w' row) (hd : ∀ s ∈ S, s.kv.ownBlock = none ∨ s.kv.ownBlock ≠ row) : PsO base w' L S := fun k h1 h2 =>
  ⟨(h k h1 h2).1, (h k h1 h2).2.kept hg (hd _ (List.getElem_mem h1))⟩
theorem ost_push {n : Nat} {S : List Ps} {s : Ps} {p : Pc} (hS : S.length = L.length) (hp : PsO base w L S) (hd : ∀ s ∈ S, Dj v s.kv) (ho : Own psE 31 base w' v' (S ++ [s])) (hg : w.grownBy w' v.ownBlock)
    (hat : v'.ownBlock = v.ownBlock ∨ v'.ownBlock = some n) (hn : w.heap.size ≤ n) (hs : s.same p) (hso : Own boxE 33 base w s.kv p.f) (hds : Dj v s.kv) : OSt base w' v' (L ++ [p]) := by
  have hnew : ∀ (u : Ps) (F : List Bx), Own boxE 33 base w u.kv F → Dj v u.kv → Dj v' u.kv := fun u F hu hdu k hk e => by
    rcases hat with h | h
    · rw [h] at hk; exact hdu k hk e
    · rw [h] at hk; injection hk with hk; have := (hu.lt k e).2; omega
  have hp2 := hp.grownV hS hg (fun u hu => (hd u hu).symm.kept)
  have hso2 := hso.kept hg hds.symm.kept
  refine ⟨S ++ [s], by simp [hS], ho, fun k h1 h2 => ?_, fun u hu => ?_⟩
  · by_cases hk : k < S.length
    · have hk2 : k < L.length := by omega
      rw [List.getElem_append_left hk, List.getElem_append_left hk2]
      exact hp2 k hk hk2
    · have e : k = S.length := by simp at h1; omega
      subst e
      rw [List.getElem_append_right (Nat.le_refl _), List.getElem_append_right (by omega)]
      simp only [Nat.sub_self, hS, List.getElem_cons_zero]
      exact ⟨hs, hso2⟩
  · rcases List.mem_append.1 hu with hu | hu
    · obtain ⟨k, hk, rfl⟩ := List.getElem_of_mem hu
      exact hnew _ _ (hp k hk (by omega)).2 (hd _ (List.getElem_mem hk))
    · simp at hu
      subst hu
      exact hnew _ _ hso hds
theorem dj_lt {E : Nat} {s : Ps} {F : List Bx} (hv : ∀ k, v.ownBlock = some k → k < E) (hs : Own boxE 33 E w s.kv F) : Dj v s.kv := fun k hk e => by
  have h1 := hv k hk
  have h2 := (hs.lt k e).1
  omega
end

set_option maxHeartbeats 3200000 in
set_option maxRecDepth 100000 in
theorem copyStock_c (v : Value) (L : List Pc) (w : World) (h : StR w.heap.size w v L) (hn : L.length ≤ 4194304) (hf : ∀ p ∈ L, p.f.length ≤ 4194304) : Calls Try.prog 80 #[v] w fun e w' => (∃ v', e = .returned v' ∧ OSt w.heap.size w' v' L) ∧ Below w.heap.size w w' := by
  obtain ⟨A1, c1, rfl, hc1, hm1⟩ := h.form
  unfold maxLen at hm1
  obtain ⟨i0, hi0, hz0, hz1, hz2⟩ := info_parts piece_info
  have HF := hid hf
  clear hf
  go_enter Try.func80, Try.ntmps80
  go_wp2
  go_loopw [3, 8] (fun o i wr => ∃ k : Nat, i = .int .i64 k ∧ k ≤ L.length ∧ (∃ u, o = u ∧ OSt w.heap.size wr u (L.take k)) ∧ Below w.heap.size w wr) (fun _ i _ => L.length - (intOf i).toNat)
  case atStart => exact ⟨0, rfl, by omega, ⟨_, rfl, by simpa using OSt.nil_ w.heap.size w⟩, Below.refl _ _⟩
  case round =>
    obtain ⟨k, rfl, hk, ⟨u, rfl, hst⟩, hb⟩ := hrel
    by_cases hlt : k < L.length
    · obtain ⟨b1, o1, s, rfl, hb1, hps, x0, x1, x2, x3⟩ := (h.go hb).at_ k hlt
      have HB := hid hb
      have HB0 := hid (HB.out.alloc HB.out.size (.cells #[.int .i64 s.l, .int .i64 s.w, .int .i64 s.h, .slice s.ka s.kn s.kc] 31))
      have HP := hid hps
      have HST := hid hst
      have HTK := hid (List.take_succ_eq_append_getElem hlt)
      clear h hb hps hst
      go_wp2_with fail
      refine (copyPiece_c L[k] s _ (HP.out.go (below_ps _)) (HF.out _ (List.getElem_mem hlt))).mono ?_
      rintro e w2 ⟨⟨s2, rfl, hs2, ho2⟩, hb⟩
      have hst2 := (HST.out.below (below_ps (l := s.l) (x := s.w) (y := s.h) (ka := s.ka) (kn := s.kn) (kc := s.kc) (ty := 31) wr)).below hb
      have HB2 := hid (HB0.out.trans (hb.mono HB0.out.size))
      rw [World.size_alloc] at ho2
      have HDJ := hid (dj_lt (fun j hj => Nat.lt_succ_of_lt (HST.out.own_lt j hj).2) ho2)
      have hz2b := hb.size
      have HO2 := hid (ho2.base_le (base' := w.heap.size) (by have := HB.out.size; omega))
      have HS2 := hid hs2
      obtain ⟨S, hS, hown, hpo, hd⟩ := hst2
      have HSL := hid hS
      have HOW := hid hown
      have HPO := hid hpo
      have HD := hid hd
      obtain ⟨S2, hS2⟩ : ∃ M : List Ps, M = S ++ [s2] := ⟨_, rfl⟩
      have HS2' := hid hS2
      have HSl : Hid (S.length ≤ 4194304) := by rw [Hid, HSL.out]; simp; omega
      clear hb ho2 hs2 hS hown hpo hd hS2 x0 x1 x2 x3
      go_wp2_with (at_builtin; refine wpList_pushN psE _ rfl (.tmp 12) (.tmp 15) _ rfl w.heap.size 31 i0 _ 48 Try.underlying44 hi0 hz0 hz1 hz2 rfl (by omega) _ _ rfl HOW.out _ s2 _ rfl rfl rfl HSl.out HB2.out.size S2 HS2'.out ?_)
      intro v' w' ho' hg' hat'
      rw [HS2'.out] at ho'
      have HN := hid (ost_push HSL.out HPO.out HD.out ho' hg' hat' (by omega) HS2.out HO2.out HDJ.out)
      have HB3 := hid (HB2.out.grown hg' HB2.out.size (fun q hq => (HOW.out.lt q hq).1))
      clear ho' hg' hat'
      go_wp2
      exact ⟨⟨k + 1, by go_num, by omega, ⟨_, rfl, by rw [HTK.out]; exact HN.out⟩, HB3.out⟩, by simp [intOf]; omega⟩
    · have e : L.take k = L := List.take_of_length_le (by omega)
      rw [e] at hst
      have HST := hid hst
      have HB := hid hb
      clear e hst hb
      go_wp2
      go_ret
      exact ⟨⟨_, rfl, HST.out⟩, HB.out⟩

theorem erase_take {α : Type} {L : List α} {k j : Nat} (hk : k < L.length) (hne : k ≠ j) : (L.take (k + 1)).eraseIdx j = (L.take k).eraseIdx j ++ [L[k]] := by
  rw [List.take_succ_eq_append_getElem hk]
  have hl : (L.take k).length = k := by simp; omega
  by_cases h : j < k
  · rw [List.eraseIdx_append_of_lt_length (by omega)]
  · rw [List.eraseIdx_append_of_length_le (by omega), List.eraseIdx_of_length_le (by simp; omega), List.eraseIdx_of_length_le (by omega)]
theorem erase_take_at {α : Type} {L : List α} {k : Nat} (hk : k < L.length) : (L.take (k + 1)).eraseIdx k = (L.take k).eraseIdx k := by
  rw [List.take_succ_eq_append_getElem hk]
  have hl : (L.take k).length = k := by simp; omega
  rw [List.eraseIdx_append_of_length_le (by omega), List.eraseIdx_of_length_le (l := L.take k) (by omega), hl, Nat.sub_self]
  simp

end Go.Proofs.Ytpicbkakghojnaa
