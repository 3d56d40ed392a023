/-
  A work that came in, by value.
-/
import Derived.Test.YtkddlfgfhjpcjaaOpen
import Derived.Test.YtkddlfgfhjpcjaaWork
namespace Go.Proofs.Ytkddlfgfhjpcjaa
set_option linter.unusedSimpArgs false
set_option linter.unusedVariables false
open Go.ChangeShapes Go.WideShapes Go.ChangeAt Go.RowKit

theorem cells_intL : Try.prog.cellsOf 3 = 1 := by kernel_rfl
theorem cells_boolL : Try.prog.cellsOf 4 = 1 := by kernel_rfl
theorem cells_lpane : Try.prog.cellsOf 84 = 4 := by kernel_rfl
theorem trod_lpane {H : Type} {enc : TypeId × Value → H} {w : World} (n : Nat) (cs : List Value) (y : DataW H × List MemPlace) (h : DataW.trod enc Try.prog w 0 (fun _ => true) true n 84 cs = some y) : ∃ a : Pn, cs = paneE.cells a := by
  obtain ⟨xs, k, _, _, hlen, hxl, hf⟩ := DataW.trod_struct Try.underlying84 h
  rw [cells_lpane] at hlen
  match cs, hlen with
  | [c0, c1, c2, c3], _ =>
    have h0 : DataW.trod enc Try.prog w 0 (fun _ => true) true k 3 (([c0, c1, c2, c3].drop 0).take (Try.prog.cellsOf 3)) = xs[0]? := hf 0 _ rfl
    have h1 : DataW.trod enc Try.prog w 0 (fun _ => true) true k 3 (([c0, c1, c2, c3].drop 1).take (Try.prog.cellsOf 3)) = xs[1]? := hf 1 _ rfl
    have h2 : DataW.trod enc Try.prog w 0 (fun _ => true) true k 4 (([c0, c1, c2, c3].drop 2).take (Try.prog.cellsOf 4)) = xs[2]? := hf 2 _ rfl
    have h3 : DataW.trod enc Try.prog w 0 (fun _ => true) true k 3 (([c0, c1, c2, c3].drop 3).take (Try.prog.cellsOf 3)) = xs[3]? := hf 3 _ rfl
    rw [cells_intL] at h0 h1 h3
    rw [cells_boolL] at h2
    rw [List.getElem?_eq_getElem (by rw [hxl]; decide)] at h0 h1 h2 h3
    obtain ⟨x0, e0, -, -⟩ := DataW.trod_int Try.underlying3 h0
    obtain ⟨x1, e1, -, -⟩ := DataW.trod_int Try.underlying3 h1
    obtain ⟨x2, e2, -⟩ := DataW.trod_bool Try.underlying4 h2
    obtain ⟨x3, e3, -, -⟩ := DataW.trod_int Try.underlying3 h3
    simp at e0 e1 e2 e3
    subst e0; subst e1; subst e2; subst e3
    exact ⟨⟨x0, x1, x2, x3⟩, rfl⟩
theorem rowB_mk {α : Type} (E : Enc α) {w : World} {a : Addr} {cap : Nat} (S : List α) (hl : S.length ≤ cap) (hm : cap ≤ maxLen) (hc : ∀ i (_ : i < S.length) j, j < E.sz → w.cell? (a.add (i * E.sz + j)) = (E.cells S[i])[j]?) : Row E w (.slice (some a) S.length cap) S := by
  refine ⟨some a, cap, rfl, hl, hm, fun h0 => ?_⟩
  obtain ⟨b, off, spot⟩ := a
  have hc0 := hc 0 h0 0 E.pos
  have hx : (E.cells S[0])[0]? = some ((E.cells S[0])[0]'(by rw [E.len]; exact E.pos)) := List.getElem?_eq_getElem _
  rw [hx] at hc0
  have hspot : spot = none := by simpa [Addr.add] using World.cell?_spot hc0
  subst hspot
  have hblk := block_lt_of_cell hc0
  refine ⟨b, off, rfl, by simpa [Addr.add] using hblk, fun j u hu => ?_⟩
  have hj : j < S.length * E.sz := by
    have := (List.getElem?_eq_some_iff.1 hu).1
    rwa [Enc.flat_len] at this
  have hk : j / E.sz < S.length := Nat.div_lt_of_lt_mul (by rw [Nat.mul_comm]; exact hj)
  have hr : j % E.sz < E.sz := Nat.mod_lt _ E.pos
  have ej : j / E.sz * E.sz + j % E.sz = j := by rw [Nat.mul_comm]; exact Nat.div_add_mod j E.sz
  have h1 := E.flat_at S (j / E.sz) (j % E.sz) hk hr
  have h2 := hc (j / E.sz) hk (j % E.sz) hr
  rw [ej] at h1 h2
  rw [Addr.add_lit] at h2
  rw [h2, ← h1, hu]

theorem cells_lpanes : Try.prog.cellsOf 33 = 1 := by kernel_rfl
theorem cells_lwork : Try.prog.cellsOf 35 = 3 := by kernel_rfl

theorem trod_panes {H : Type} {enc : TypeId × Value → H} {w : World} (n : Nat) (cs : List Value) (y : DataW H × List MemPlace) (h : DataW.trod enc Try.prog w 0 (fun _ => true) true n 33 cs = some y) : ∃ ka kn kc L, cs = [.slice ka kn kc] ∧ Row paneE w (.slice ka kn kc) L := by
  cases n with
  | zero => simp [DataW.trod] at h
  | succ n =>
  rcases DataW.trod_slice Try.underlying33 h with ⟨rfl, _⟩ | ⟨a, len, cap, elems, rest, m, hmn, rfl, rfl, hb, hl, hm, hlen, hel, -, -⟩
  · exact ⟨none, 0, 0, [], rfl, RowB.nil_ _ _⟩
  · obtain rfl : m = n := by omega
    rw [cells_lpane] at hel
    have hQ : ∀ i, i < len → ∃ x : Pn, ∀ j, j < 4 → w.cell? (a.add (i * 4 + j)) = (paneE.cells x)[j]? := by
      intro i hil
      have h1 := hel i hil
      rw [List.getElem?_eq_getElem (by omega)] at h1
      obtain ⟨cs', hc, htr⟩ := Option.bind_eq_some_iff.1 h1
      obtain ⟨x, rfl⟩ := trod_lpane m cs' _ htr
      obtain ⟨_, _, hat⟩ := World.cells?_some hc
      refine ⟨x, fun j hj => ?_⟩
      have := hat j hj
      rw [Deep.add_add] at this
      exact this
    obtain ⟨X, hX, hXc⟩ := exists_list _ len hQ
    refine ⟨some a, len, cap, X, rfl, ?_⟩
    have := rowB_mk paneE (w := w) (a := a) (cap := cap) X (by omega) hm (fun i hi j hj => hXc i hi j hj)
    rw [hX] at this
    exact this

theorem trod_work {H : Type} {enc : TypeId × Value → H} {w : World} (n : Nat) (cs : List Value) (y : DataW H × List MemPlace) (h : DataW.trod enc Try.prog w 0 (fun _ => true) true n 35 cs = some y) :
    ∃ (s : Ws) (p : Wk), cs = [.int .i64 s.w, .int .i64 s.h, .slice s.ka s.kn s.kc] ∧ WvR w.heap.size w p s := by
  obtain ⟨xs, k, rfl, _, hlen, hxl, hf⟩ := DataW.trod_struct Try.underlying35 h
  rw [cells_lwork] at hlen
  match cs, hlen with
  | [c0, c1, c2], _ =>
    have h0 : DataW.trod enc Try.prog w 0 (fun _ => true) true k 3 (([c0, c1, c2].drop 0).take (Try.prog.cellsOf 3)) = xs[0]? := hf 0 _ rfl
    have h1 : DataW.trod enc Try.prog w 0 (fun _ => true) true k 3 (([c0, c1, c2].drop 1).take (Try.prog.cellsOf 3)) = xs[1]? := hf 1 _ rfl
    have h2 : DataW.trod enc Try.prog w 0 (fun _ => true) true k 33 (([c0, c1, c2].drop 2).take (Try.prog.cellsOf 33)) = xs[2]? := hf 2 _ rfl
    rw [cells_intL] at h0 h1
    rw [cells_lpanes] at h2
    rw [List.getElem?_eq_getElem (by rw [hxl]; decide)] at h0 h1 h2
    obtain ⟨x0, e0, -, -⟩ := DataW.trod_int Try.underlying3 h0
    obtain ⟨x1, e1, -, -⟩ := DataW.trod_int Try.underlying3 h1
    obtain ⟨ka, kn, kc, L, e2, hL⟩ := trod_panes k _ _ h2
    simp at e0 e1 e2
    subst e0; subst e1; subst e2
    exact ⟨⟨x0, x1, ka, kn, kc⟩, ⟨x0, x1, L⟩, rfl, ⟨rfl, rfl⟩, hL⟩

theorem open_work {H : Type} {enc : TypeId × Value → H} {w : World} {r : Reach} {b0 : Nat} {v : Value} {d : DataW H} {p : List MemPlace} (hv : Value.okWide Try.prog w r b0 35 v)
    (h : DataW.Trod enc Try.prog w 0 (fun _ => true) true 35 v d p) : ∃ (q : Wk) (s : Ws), v = .agg #[.int .i64 s.w, .int .i64 s.h, .slice s.ka s.kn s.kc] ∧ WvR w.heap.size w q s := by
  obtain ⟨cs, rfl, hsz⟩ := okWide_struct Try.underlying35 hv
  obtain ⟨n, hn⟩ := h
  obtain ⟨s, q, e, hp⟩ := trod_work n _ _ hn
  refine ⟨q, s, ?_, hp⟩
  have e' : cs.toList = [.int .i64 s.w, .int .i64 s.h, .slice s.ka s.kn s.kc] := by simpa [Value.cells] using e
  have : cs = ([.int .i64 s.w, .int .i64 s.h, .slice s.ka s.kn s.kc] : List Value).toArray := by rw [← e', Array.toArray_toList]
  rw [this]

end Go.Proofs.Ytkddlfgfhjpcjaa
