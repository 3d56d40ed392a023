/-
  A word for memory: a list appended to a row of the call's own. No program in sight.
-/
import Derived.Test.YtkckaooimffdpaaWords
namespace Go.Proofs.Ytkckaooimffdpaa
set_option linter.unusedSimpArgs false
set_option linter.unusedVariables false
open Go.RowKit

section
variable {α : Type} {P : Program}

theorem run_cat_none (w : World) (base : Nat) (t ty e : TypeId) (i : TypeInfo) (size : Nat) (ht : P.underlying t = some (.slice e)) (hi : P.info? e = some i)
    (v : Value) (n : Nat) (xs : List Value) (h : w.ownsRow base e size v n xs) (c : Nat) : (Builtin.append_ #[t, t] ty #[v, .slice none 0 c]).run P w = .ok v w := by
  rcases h.2 with ⟨rfl, rfl⟩ | ⟨g, cap, cur, rfl, h1, h2, h3, h4⟩
  · simp [Builtin.append_, run_underlying ht, sizeOf, typeInfo, hi, Builtin.lenOf, Builtin.firstCells]
  · simp [Builtin.append_, run_underlying ht, sizeOf, typeInfo, hi, Builtin.lenOf, Builtin.firstCells, h3, storeCells]

theorem wp_cat (E : Enc α) (w : World) {o : Oper} {a : Act} {K : Act → World → Prop} {Q : Exit → Act → World → Prop} (s x : Operand) (t : TypeId)
    (ho : o.op = .call { callee := .builtin .append, args := #[s, x], argTypes := #[t, t] })
    (base : Nat) (e : TypeId) (i : TypeInfo) (z : Value) (bytes : Nat) (ht : P.underlying t = some (.slice e)) (hi : P.info? e = some i) (hz : i.zero = some z)
    (hsize : i.size = E.sz) (hby : i.bytes = bytes) (hzs : z.cells.size = E.sz) (hbs : bytes ≤ 4096)
    (v : Value) (L : List α) (hs : a.eval s = v) (hown : Own E e base w v L)
    (u : Value) (M : List α) (B : Nat) (hx : a.eval x = u) (hu : RowB E B w u M)
    (hL : L.length + M.length ≤ 4194304) (hbase : base ≤ w.heap.size) (L' : List α) (hL' : L' = L ++ M)
    (h : ∀ v' w', Own E e base w' v' L' → w.grownBy w' v.ownBlock → (v'.ownBlock = v.ownBlock ∨ v'.ownBlock = some w.heap.size) → K (a.put o.dst v') w') :
    Oper.wp P o a w K Q := by
  subst hL'
  obtain ⟨A, c, rfl, h1, h2, h3⟩ := hu
  rcases A with _ | ad
  · have h0 : M.length = 0 := by
      rcases Nat.eq_zero_or_pos M.length with h | h
      · exact h
      · obtain ⟨b, off, hA, _⟩ := h3 h
        cases hA
    have hM : M = [] := List.eq_nil_of_length_eq_zero h0
    subst hM
    have hrun := run_cat_none (P := P) w base t o.type e i E.sz ht hi v L.length (E.flat L) hown c
    unfold Oper.wp execOp
    simp only [ho, resolve, invoke, builtin, Sem.run_bind, Sem.run_pure, Result.andThen_ok, List.map_toArray, List.map_cons, List.map_nil, hs, hx, List.length_nil, hrun]
    exact h v w (by simpa using hown) (World.grownBy.refl _ _) (.inl rfl)
  · have hcell : ∀ j u, (E.flat M)[j]? = some u → w.cell? (ad.add j) = some u := by
      intro j u hu
      have hl : 0 < M.length := by
        rcases Nat.eq_zero_or_pos M.length with h | h
        · rw [List.eq_nil_of_length_eq_zero h] at hu; simp [Enc.flat] at hu
        · exact h
      obtain ⟨b, off, hA, hb, hc⟩ := h3 hl
      injection hA with hA
      subst hA
      have : (⟨b, off, none⟩ : Addr).add j = ⟨b, off + j, none⟩ := by unfold Addr.add; split <;> simp_all
      rw [this]
      exact hc j u hu
    obtain ⟨v', w', hrun, h4, h5, _, h6⟩ := run_append_own_at (P := P) w base t o.type e i z E.sz bytes ht hi hz hsize hby hzs E.pos v L.length (E.flat L)
      hown ad M.length c (E.flat M) (E.flat_len M) hcell (E.flat_one_cell M) (by simp only [maxLen]; omega) (Nat.le_trans (Nat.mul_le_mul_left _ hbs) (by omega)) hbase
    unfold Oper.wp execOp
    simp only [ho, resolve, invoke, builtin, Sem.run_bind, Sem.run_pure, Result.andThen_ok, List.map_toArray, List.map_cons, List.map_nil, hs, hx, hrun]
    refine h v' w' ?_ h5 h6
    unfold Own
    rw [List.length_append, E.flat_append]
    exact h4

theorem wpList_cat (E : Enc α) (w : World) {ops : Array Oper} {rest : List Oper} {o : Oper} {a : Act} {Q : Exit → Act → World → Prop} (hgd : o.guard = none) (s x : Operand) (t : TypeId)
    (ho : o.op = .call { callee := .builtin .append, args := #[s, x], argTypes := #[t, t] })
    (base : Nat) (e : TypeId) (i : TypeInfo) (z : Value) (bytes : Nat) (ht : P.underlying t = some (.slice e)) (hi : P.info? e = some i) (hz : i.zero = some z)
    (hsize : i.size = E.sz) (hby : i.bytes = bytes) (hzs : z.cells.size = E.sz) (hbs : bytes ≤ 4096)
    (v : Value) (L : List α) (hs : a.eval s = v) (hown : Own E e base w v L)
    (u : Value) (M : List α) (B : Nat) (hx : a.eval x = u) (hu : RowB E B w u M)
    (hL : L.length + M.length ≤ 4194304) (hbase : base ≤ w.heap.size) (L' : List α) (hL' : L' = L ++ M)
    (h : ∀ v' w', Own E e base w' v' L' → w.grownBy w' v.ownBlock → (v'.ownBlock = v.ownBlock ∨ v'.ownBlock = some w.heap.size) → wpList P ops Q rest (a.put o.dst v') w') :
    wpList P ops Q (o :: rest) a w :=
  wpList_plain hgd fun _ hK => wp_cat E w s x t ho base e i z bytes ht hi hz hsize hby hzs hbs v L hs hown u M B hx hu hL hbase L' hL' fun v' w' h2 h3 h4 => hK _ _ (h v' w' h2 h3 h4)

/-- The same as one step of a region that draws its order. -/
theorem step_cat (E : Enc α) (w : World) {ops : Array Oper} {o : Oper} {a : Act} {K : Act → World → Prop} {Q : Exit → Act → World → Prop} {G : Prop} (hgd : o.guard = none) (s x : Operand) (t : TypeId)
    (ho : o.op = .call { callee := .builtin .append, args := #[s, x], argTypes := #[t, t] })
    (base : Nat) (e : TypeId) (i : TypeInfo) (z : Value) (bytes : Nat) (ht : P.underlying t = some (.slice e)) (hi : P.info? e = some i) (hz : i.zero = some z)
    (hsize : i.size = E.sz) (hby : i.bytes = bytes) (hzs : z.cells.size = E.sz) (hbs : bytes ≤ 4096)
    (v : Value) (L : List α) (hs : a.eval s = v) (hown : Own E e base w v L)
    (u : Value) (M : List α) (B : Nat) (hx : a.eval x = u) (hu : RowB E B w u M)
    (hL : L.length + M.length ≤ 4194304) (hbase : base ≤ w.heap.size) (L' : List α) (hL' : L' = L ++ M)
    (h : ∀ v' w', Own E e base w' v' L' → w.grownBy w' v.ownBlock → (v'.ownBlock = v.ownBlock ∨ v'.ownBlock = some w.heap.size) → K (a.put o.dst v') w') :
    if Region.wanted o (yielded ops a.tmps) = true then Oper.wp P o a w K Q else G := by
  have hw : Region.wanted o (yielded ops a.tmps) = true := by simp [Region.wanted, hgd]
  rw [if_pos hw]
  exact wp_cat E w s x t ho base e i z bytes ht hi hz hsize hby hzs hbs v L hs hown u M B hx hu hL hbase L' hL' h

/-- The same, the operation under a guard that is wanted. -/
theorem step_catG (E : Enc α) (w : World) {ops : Array Oper} {o : Oper} {a : Act} {K : Act → World → Prop} {Q : Exit → Act → World → Prop} {G : Prop} (hw : Region.wanted o (yielded ops a.tmps) = true) (s x : Operand) (t : TypeId)
    (ho : o.op = .call { callee := .builtin .append, args := #[s, x], argTypes := #[t, t] })
    (base : Nat) (e : TypeId) (i : TypeInfo) (z : Value) (bytes : Nat) (ht : P.underlying t = some (.slice e)) (hi : P.info? e = some i) (hz : i.zero = some z)
    (hsize : i.size = E.sz) (hby : i.bytes = bytes) (hzs : z.cells.size = E.sz) (hbs : bytes ≤ 4096)
    (v : Value) (L : List α) (hs : a.eval s = v) (hown : Own E e base w v L)
    (u : Value) (M : List α) (B : Nat) (hx : a.eval x = u) (hu : RowB E B w u M)
    (hL : L.length + M.length ≤ 4194304) (hbase : base ≤ w.heap.size) (L' : List α) (hL' : L' = L ++ M)
    (h : ∀ v' w', Own E e base w' v' L' → w.grownBy w' v.ownBlock → (v'.ownBlock = v.ownBlock ∨ v'.ownBlock = some w.heap.size) → K (a.put o.dst v') w') :
    if Region.wanted o (yielded ops a.tmps) = true then Oper.wp P o a w K Q else G := by
  rw [if_pos hw]
  exact wp_cat E w s x t ho base e i z bytes ht hi hz hsize hby hzs hbs v L hs hown u M B hx hu hL hbase L' hL' h

end
theorem bcellB {B : Nat} {W w1 : World} (hb : Below B W w1) : (∀ b o, b < B → w1.cell? ⟨b, o, none⟩ = W.cell? ⟨b, o, none⟩) ∧ (∀ b o, b < B → w1.frozen? ⟨b, o, none⟩ = W.frozen? ⟨b, o, none⟩) :=
  ⟨fun b o h => hb.cell (p := ⟨b, o, none⟩) h, fun b o h => hb.frozen (p := ⟨b, o, none⟩) h⟩
end Go.Proofs.Ytkckaooimffdpaa
