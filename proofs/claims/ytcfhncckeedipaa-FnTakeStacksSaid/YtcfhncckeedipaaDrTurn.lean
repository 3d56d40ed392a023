/-
  Contracts: orders drawn by the generators of the reference.
-/
import Derived.Test.YtcfhncckeedipaaRead
import Derived.Test.YtcfhncckeedipaaInts
import Derived.Test.YtcfhncckeedipaaCat
namespace Go.Proofs.Ytcfhncckeedipaa
set_option linter.unusedSimpArgs false
set_option linter.unusedVariables false
open Go.RowKit

theorem pk_be {n x : Int} (h : Pk n x) (b : Int) (hb : n ≤ b + 1) (h0 : 0 ≤ b) : 0 ≤ x ∧ x ≤ b := by
  obtain ⟨h1, h2⟩ := h; omega
theorem own_nb {α : Type} {E : Enc α} {e : TypeId} {base a : Nat} {w : World} {v : Value} {L : List α} (h : Own E e base w v L) (ha : a < base) : v.ownBlock = none ∨ v.ownBlock ≠ some a := by
  cases hv : v.ownBlock with
  | none => exact .inl rfl
  | some k => exact .inr (fun e => by injection e with e; have := (h.lt k hv).1; omega)
theorem RowB.void {α : Type} {E : Enc α} {B : Nat} {w : World} {L : List α} (A : Option Addr) (c : Nat) (n : Nat) (h0 : L.length = 0) (hn : n = 0) (hc : c ≤ maxLen) : RowB E B w (.slice A n c) L := by
  subst hn
  exact ⟨A, c, by rw [h0], by omega, hc, fun h => by omega⟩
theorem RowB.dropT {α : Type} {E : Enc α} {B : Nat} {w : World} {b off n c : Nat} {L : List α} (h : RowB E B w (.slice (some ⟨b, off, none⟩) n c) L) (k : Nat) (hk : k ≤ n) : RowB E B w (.slice (some ⟨b, off + k * E.sz, none⟩) (n - k) (c - k)) (L.drop k) := by
  obtain ⟨A', c', h0, h1, h2, h3⟩ := h
  injection h0 with hA hn hc
  subst hn; subst hc
  have hl : (L.drop k).length = L.length - k := by simp
  refine ⟨_, c - k, by rw [hl], by rw [hl]; omega, by omega, fun h0 => ?_⟩
  obtain ⟨b', off', e, hb, hc⟩ := h3 (by rw [hl] at h0; omega)
  rw [← hA] at e
  injection e with e
  injection e with e1 e2
  subst e1 e2
  refine ⟨b, _, rfl, hb, fun j u hu => ?_⟩
  rw [← E.flat_drop, List.getElem?_drop] at hu
  rw [Nat.add_assoc]
  exact hc _ u hu
/-- The first k of a row of the call's own. -/
theorem Own.take {α : Type} {E : Enc α} {e : TypeId} {base g n cap : Nat} {w : World} {L : List α} (h : Own E e base w (.slice (some ⟨g, 0, none⟩) n cap) L) (k : Nat) (hk : k ≤ L.length) : Own E e base w (.slice (some ⟨g, 0, none⟩) k cap) (L.take k) := by
  obtain ⟨h1, h2⟩ := h
  refine ⟨E.flat_len _, .inr ?_⟩
  rcases h2 with ⟨h2, -⟩ | ⟨g', cap', cur, h3, h4, h5, h6, h7, h8, h9⟩
  · cases h2
  · simp only [Value.slice.injEq, Option.some.injEq, Addr.mk.injEq, and_true] at h3
    obtain ⟨rfl, h3, rfl⟩ := h3
    have hl : (L.take k).length = k := by simp; omega
    refine ⟨g, cap, cur, by rw [hl], h4, h5, by rw [hl]; omega, h7, h8, ?_⟩
    rw [hl]
    have e1 : L = L.take k ++ L.drop k := (List.take_append_drop k L).symm
    have e2 : E.flat L = E.flat (L.take k) ++ E.flat (L.drop k) := by rw [← E.flat_append, ← e1]
    have e3 : (cur.toList.take (L.length * E.sz)).take (k * E.sz) = (E.flat L).take (k * E.sz) := by rw [h9]
    rw [List.take_take, Nat.min_eq_left (Nat.mul_le_mul_right _ hk)] at e3
    rw [e3, e2, List.take_left' (by rw [E.flat_len, hl])]
theorem Own.some_form {α : Type} {E : Enc α} {e : TypeId} {base : Nat} {w : World} {v : Value} {L : List α} (h : Own E e base w v L) (hn : v.ownBlock ≠ none) : ∃ g cap, v = .slice (some ⟨g, 0, none⟩) L.length cap ∧ base ≤ g ∧ g < w.heap.size ∧ L.length ≤ cap ∧ cap ≤ maxLen := by
  rcases h.2 with ⟨h2, -⟩ | ⟨g, cap, cur, h3, h4, h5, h6, h7, h8, h9⟩
  · subst h2; exact absurd rfl hn
  · exact ⟨g, cap, h3, h4, (Array.getElem?_eq_some_iff.1 h5).1, h6, h7⟩

set_option maxHeartbeats 3200000 in
set_option maxRecDepth 100000 in
theorem scopyInts_c (B : Nat) (v : Value) (L : List Int) (w : World) (h : RowB intE B w v L) (hB : B ≤ w.heap.size) (hl : L.length ≤ 4194304) : Calls Try.prog 85 #[v] w fun e w' => ∃ v', e = .returned v' ∧ Own intE 3 w.heap.size w' v' L ∧ v'.ownBlock ≠ none ∧ Below w.heap.size w w' := by
  obtain ⟨i0, hi0, hz0, hz1, hz2⟩ := info_parts int_info
  have HO := hid (Own.lit0 intE w w.heap.size 3 (Nat.le_refl _))
  have HR := hid (((h.more hB).below ((Below.refl w.heap.size w).alloc (Nat.le_refl _) (.cells #[] 3))))
  obtain ⟨L2, hL2⟩ : ∃ M : List Int, M = [] ++ L := ⟨_, rfl⟩
  have HL2 := hid hL2
  have HLn : Hid (([] : List Int).length + L.length ≤ 4194304) := by rw [Hid]; simp; omega
  clear h hL2
  go_enter Try.func85, Try.ntmps85
  go_wp2_with (at_builtin; refine wpList_cat intE _ rfl (.tmp 3) (.tmp 4) _ rfl w.heap.size 3 i0 _ 8 Try.underlying24 hi0 hz0 hz1 hz2 rfl (by omega) _ _ rfl HO.out _ _ _ rfl HR.out HLn.out (by simp) L2 HL2.out ?_)
  intro v' w' ho' hg' hat'
  have hL : L2 = L := by rw [HL2.out]; simp
  rw [hL] at ho'
  have hb := ((Below.refl w.heap.size w).alloc (Nat.le_refl _) (.cells #[] 3)).grown hg' (by simp) (fun q hq => by simp [Value.ownBlock] at hq; omega)
  have hne : v'.ownBlock ≠ none := by rcases hat' with e | e <;> rw [e] <;> simp [Value.ownBlock]
  go_wp2
  go_ret
  exact ⟨_, rfl, ho', hne, hb⟩

/-- What a call answers that draws an order: a list of the call's own, short. -/
def TnDraw (B a : Nat) (m : Int) (w : World) (e : Ending) (w' : World) : Prop := ∃ (v : Value) (L : List Int), e = .returned v ∧ L.length ≤ 14 ∧ (∀ x ∈ L, -1 ≤ x ∧ x ≤ 24) ∧ Own intE 3 w.heap.size w' v L ∧ v.ownBlock ≠ none ∧ Rd B w' a m ∧ w.grownBy w' (some a)

set_option maxHeartbeats 6400000 in
set_option maxRecDepth 100000 in
theorem someTurn_c (B a : Nat) (m : Int) (w : World) (h : Rd B w a m) (hm : m ≤ 500000) : Calls Try.prog 88 #[.pointer (some ⟨a, 0, none⟩)] w (TnDraw B a (m + 20) w) := by
  obtain ⟨i0, hi0, hz0, hz1, hz2⟩ := info_parts int_info
  have HR0 := hid h
  have HG0 := hid (World.grownBy.refl w (some a))
  have hla := h.lt
  have hlo := h.lo
  clear h
  go_enter Try.func88, Try.ntmps88
  have HS0 := hid (Own.lit0 intE w w.heap.size 3 (Nat.le_refl _))
  have HR1 := hid (HR0.out.alloc (.cells #[] 3))
  have HG1 := hid (gr_alloc HG0.out (.cells #[] 3))
  have ZL := hid (lit_row (w.alloc (.cells #[] 3)) (w.heap.size + 1) (by simp) #[.int .i64 6, .int .i64 8, .int .i64 4, .int .i64 10, .int .i64 2, .int .i64 0, .int .i64 14] [6, 8, 4, 10, 2, 0, 14] 7 rfl rfl (by simp [maxLen]))
  have HS0b := hid (HS0.out.alloc (.cells #[.int .i64 6, .int .i64 8, .int .i64 4, .int .i64 10, .int .i64 2, .int .i64 0, .int .i64 14] 3))
  have HR2 := hid (HR1.out.alloc (.cells #[.int .i64 6, .int .i64 8, .int .i64 4, .int .i64 10, .int .i64 2, .int .i64 0, .int .i64 14] 3))
  have HG2 := hid (gr_alloc HG1.out (.cells #[.int .i64 6, .int .i64 8, .int .i64 4, .int .i64 10, .int .i64 2, .int .i64 0, .int .i64 14] 3))
  go_wp2_with fail
  refine (one_c B a _ [6, 8, 4, 10, 2, 0, 14] _ _ HR2.out ZL.out (by simp [Value.ownBlock]; omega) (by simp) (by simp) (by omega)).mono ?_
  rintro e w1 ⟨x1, rfl, hp, hR, hg⟩
  have hx1 : 0 ≤ x1 ∧ x1 ≤ 14 := by simp at hp; omega
  have HR1 := hid hR
  have HG1 := hid (grown_trans HG2.out hg)
  have HS1 := hid (HS0b.out.kept hg (own_nb HS0b.out (by omega)))
  clear hp hR hg
  go_wp2
  go_loopw [3, 4] (fun o i wr => ∃ k : Int, ∃ L : List Int, i = .int .i64 k ∧ 0 ≤ k ∧ k ≤ 14 ∧ (L.length : Int) ≤ 14 - k ∧ (∀ x ∈ L, -1 ≤ x ∧ x ≤ 24) ∧ Own intE 3 w.heap.size wr o L ∧ o.ownBlock ≠ none ∧ Rd B wr a (m + 1 + (14 - k)) ∧ w.grownBy wr (some a)) (fun _ i _ => (intOf i).toNat)
  case atStart => exact ⟨x1, [], rfl, by omega, by omega, by simp; omega, by simp, HS1.out, by simp [Value.ownBlock], HR1.out.up (by omega), HG1.out⟩
  case round =>
    obtain ⟨k, L, rfl, hk0, hk1, hL, hT, hst, hn, hR, hG⟩ := hrel
    have HST := hid hst
    have HRr := hid hR
    have HGr := hid hG
    have HT := hid hT
    have HN := hid hn
    clear hst hR hG hT hn
    obtain ⟨g, c, rfl, hg1, hg2, hc1, hc2⟩ := HST.out.some_form HN.out
    unfold maxLen at hc2
    by_cases hk : 0 < k
    · go_wp2_with fail
      refine (pick_c B a (L.length + 1) _ _ HRr.out (by omega) (by omega) (by omega)).mono ?_
      rintro e w2 ⟨y, rfl, hp, hR, hg⟩
      have hy := pk_be hp L.length (by omega) (by omega)
      have hs2 := hg.size
      have HST2 := hid (HST.out.kept hg (own_nb HST.out hla))
      have HR2 := hid hR
      have HG2 := hid (grown_trans HGr.out hg)
      clear hp hR hg
      obtain ⟨j, rfl⟩ := Int.eq_ofNat_of_zero_le hy.1
      have hj : j ≤ L.length := by omega
      clear hy
      rcases Nat.lt_or_eq_of_le (Nat.le_trans hj hc1) with hjc | rfl
      all_goals
        go_wp2_with fail
        refine (scopyInts_c w2.heap.size _ (L.drop j) _ (by first | (have := HST2.out.rowB.dropT j hj; simpa [intE] using this) | exact RowB.void _ _ _ (by first | omega | (simp; omega)) (by first | omega | (simp; omega)) (by simp [maxLen])) (Nat.le_refl _) (by simp; omega)).mono ?_
        rintro e w3 ⟨vr, rfl, hor, hnr, hb⟩
        have HST3 := hid (HST2.out.below hb)
        have HR3 := hid (HR2.out.below (hb.mono (by omega)))
        have HG3 := hid (gr_below HG2.out hb)
        have HOR := hid hor
        clear hor hnr hb
        have HTK := hid (HST3.out.take j hj)
        obtain ⟨L2, hL2⟩ : ∃ M : List Int, M = L.take j ++ [(L.length : Int)] := ⟨_, rfl⟩
        have HL2 := hid hL2
        clear hL2
        have HLn : Hid ((L.take j).length ≤ 4194304) := by rw [Hid]; simp; omega
        go_wp2_with (at_builtin; refine wpList_pushN intE _ rfl (.tmp 26) (.tmp 29) _ rfl w.heap.size 3 i0 _ 8 Try.underlying24 hi0 hz0 hz1 hz2 rfl (by omega) _ _ rfl HTK.out _ (L.length : Int) _ rfl rfl rfl HLn.out HG3.out.size L2 HL2.out ?_)
        intro v4 w4 ho4 hg4 hat4
        have HR4 := hid (HR3.out.grown hg4 (fun q hq => by simp [Value.ownBlock] at hq; omega))
        have HG4 := hid (gr_step HG3.out hg4 (fun q hq => by simp [Value.ownBlock] at hq; omega))
        have HOR4 := hid ((HOR.out.kept hg4 (by
          refine .inr (fun e => ?_)
          cases hv : vr.ownBlock with
          | none => rw [hv] at e; simp [Value.ownBlock] at e
          | some q => rw [hv] at e; simp [Value.ownBlock] at e; have := (HOR.out.lt q hv).1; omega)).rowB)
        have HO4 := hid ho4
        have hs4 := hg4.size
        have hn4 : v4.ownBlock ≠ none := by rcases hat4 with e | e <;> rw [e] <;> simp [Value.ownBlock]
        have HN4 := hid hn4
        have hv4 : ∀ q, v4.ownBlock = some q → q ≠ a := fun q hq => by have := (ho4.lt q hq).1; omega
        have HV4 := hid hv4
        clear ho4 hg4 hat4 hn4 hv4
        obtain ⟨L3, hL3⟩ : ∃ M : List Int, M = L2 ++ L.drop j := ⟨_, rfl⟩
        have HL3 := hid hL3
        have hlen3 : L3.length = L.length + 1 := by rw [hL3, HL2.out]; simp; omega
        have HLEN3 := hid hlen3
        have HB3 : Hid (∀ x ∈ L3, -1 ≤ x ∧ x ≤ 24) := by
          intro x hx
          rw [hL3, HL2.out, List.append_assoc] at hx
          rcases List.mem_append.1 hx with hx | hx
          · exact HT.out x (List.mem_of_mem_take hx)
          · rcases List.mem_append.1 hx with hx | hx
            · simp at hx; omega
            · exact HT.out x (List.mem_of_mem_drop hx)
        clear hL3 hlen3
        have HLm : Hid (L2.length + (L.drop j).length ≤ 4194304) := by rw [Hid, HL2.out]; simp; omega
        go_wp2_with (at_builtin; go_loud (refine wpList_cat intE _ rfl (.tmp 30) (.tmp 31) _ rfl w.heap.size 3 i0 _ 8 Try.underlying24 hi0 hz0 hz1 hz2 rfl (by omega) _ _ rfl HO4.out _ _ _ rfl HOR4.out HLm.out HG4.out.size L3 HL3.out ?_))
        intro v5 w5 ho5 hg5 hat5
        have HR5 := hid (HR4.out.grown hg5 (fun q hq => by have h1 := HV4.out q hq; have h2 := (HO4.out.lt q hq).1; omega))
        have HG5 := hid (gr_step HG4.out hg5 (fun q hq => .inr (HO4.out.lt q hq).1))
        have hn5 : v5.ownBlock ≠ none := by
          rcases hat5 with e | e
          · rw [e]; exact HN4.out
          · rw [e]; simp
        have hl3 : (L3.length : Int) ≤ 14 - (k - 1) := by have := HLEN3.out; omega
        go_wp2
        exact ⟨⟨k - 1, L3, by go_num, by omega, by omega, hl3, HB3.out, ho5, hn5, HR5.out.up (by omega), HG5.out⟩, by simp [intOf]; omega⟩
    · go_wp2
      go_ret
      exact ⟨_, L, rfl, by omega, HT.out, HST.out, HN.out, HRr.out.up (by omega), HGr.out⟩

end Go.Proofs.Ytcfhncckeedipaa
