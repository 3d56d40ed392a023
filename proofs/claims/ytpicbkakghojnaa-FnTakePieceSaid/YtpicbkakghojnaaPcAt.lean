/-
  A piece of the call's own in a block of its own. No program in sight but its types.
-/
import Derived.Test.YtpicbkakghojnaaCopy
namespace Go.Proofs.Ytpicbkakghojnaa
set_option linter.unusedSimpArgs false
set_option linter.unusedVariables false
open Go.RowKit

def PcAt (lo hi : Nat) (w : World) (q : Nat) (s : Ps) (F : List Bx) : Prop :=
  Blk w q #[.int .i64 s.l, .int .i64 s.w, .int .i64 s.h, .slice s.ka s.kn s.kc] 31 ∧ Own boxE 33 lo w s.kv F ∧ lo ≤ q ∧ q < hi ∧ (∀ k, s.kv.ownBlock = some k → k < hi) ∧ s.kv.ownBlock ≠ some q
section
variable {lo hi q : Nat} {w w' : World} {s : Ps} {F F' : List Bx} {row : Option Nat}
theorem PcAt.mk_ (h : Own boxE 33 lo w s.kv F) (hl : lo ≤ w.heap.size) : PcAt lo (w.heap.size + 1) (w.alloc (.cells #[.int .i64 s.l, .int .i64 s.w, .int .i64 s.h, .slice s.ka s.kn s.kc] 31)) w.heap.size s F :=
  ⟨Blk.new _ _ _, h.alloc _, hl, Nat.lt_succ_self _, fun k hk => Nat.lt_succ_of_lt (h.lt k hk).2, fun e => Nat.lt_irrefl _ (h.lt _ e).2⟩
theorem PcAt.mkA (h : Own boxE 33 lo w s.kv F) (hl : lo ≤ w.heap.size) : PcAt lo (w.alloc (.cells #[.int .i64 s.l, .int .i64 s.w, .int .i64 s.h, .slice s.ka s.kn s.kc] 31)).heap.size (w.alloc (.cells #[.int .i64 s.l, .int .i64 s.w, .int .i64 s.h, .slice s.ka s.kn s.kc] 31)) w.heap.size s F := by
  rw [World.size_alloc]
  exact PcAt.mk_ h hl
theorem PcAt.late {lo' : Nat} (hB : Blk w q #[.int .i64 0, .int .i64 0, .int .i64 0, .slice none 0 0] 31) (ho : Own boxE 33 lo' w s.kv F) (hq : q < lo') (hl : lo ≤ q) :
    PcAt lo ((((w.setCell ⟨q, 0, none⟩ (.int .i64 s.l)).setCell ⟨q, 1, none⟩ (.int .i64 s.w)).setCell ⟨q, 2, none⟩ (.int .i64 s.h)).setCell ⟨q, 3, none⟩ (.slice s.ka s.kn s.kc)).heap.size ((((w.setCell ⟨q, 0, none⟩ (.int .i64 s.l)).setCell ⟨q, 1, none⟩ (.int .i64 s.w)).setCell ⟨q, 2, none⟩ (.int .i64 s.h)).setCell ⟨q, 3, none⟩ (.slice s.ka s.kn s.kc)) q s F := by
  have hne : s.kv.ownBlock ≠ some q := fun e => by have := (ho.lt q e).1; omega
  have h1 := (((ho.setCell_ne (p := ⟨q, 0, none⟩) hne (.int .i64 s.l)).setCell_ne (p := ⟨q, 1, none⟩) hne (.int .i64 s.w)).setCell_ne (p := ⟨q, 2, none⟩) hne (.int .i64 s.h)).setCell_ne (p := ⟨q, 3, none⟩) hne (.slice s.ka s.kn s.kc)
  refine ⟨?_, h1.base_le (by omega), hl, by simpa using hB.lt, fun k hk => (h1.lt k hk).2, hne⟩
  have := (((hB.set 0 (.int .i64 s.l)).set 1 (.int .i64 s.w)).set 2 (.int .i64 s.h)).set 3 (.slice s.ka s.kn s.kc)
  simpa using this
theorem new_lt {w w' : World} {o : Obj} (_ : Below (w.alloc o).heap.size (w.alloc o) w') : w.heap.size < (w.alloc o).heap.size := by simp
theorem new_lt1 {w w' : World} {o : Obj} (_ : Below (w.alloc o).drew.heap.size (w.alloc o).drew w') : w.heap.size < (w.alloc o).drew.heap.size := by simp
theorem PcAt.go (h : PcAt lo hi w q s F) (hb : Below w.heap.size w w') : PcAt lo hi w' q s F := ⟨h.1.go hb, h.2.1.below hb, h.2.2⟩
theorem PcAt.kept_lo (h : PcAt lo hi w q s F) (hg : w.grownBy w' row) (hr : ∀ k, row = some k → k < lo) : PcAt lo hi w' q s F :=
  ⟨h.1.grown hg (fun e => by have := hr q e.symm; have := h.2.2.1; omega), h.2.1.kept hg (by
    cases e : s.kv.ownBlock with
    | none => exact .inl rfl
    | some k => exact .inr (fun e2 => by have h1 := hr k e2.symm; have h2 := (h.2.1.lt k e).1; omega)), h.2.2⟩
theorem PcAt.kept_hi (h : PcAt lo hi w q s F) (hg : w.grownBy w' row) (hr : ∀ k, row = some k → hi ≤ k) : PcAt lo hi w' q s F :=
  ⟨h.1.grown hg (fun e => by have := hr q e.symm; have := h.2.2.2.1; omega), h.2.1.kept hg (by
    cases e : s.kv.ownBlock with
    | none => exact .inl rfl
    | some k => exact .inr (fun e2 => by have h1 := hr k e2.symm; have h2 := h.2.2.2.2.1 k e; omega)), h.2.2⟩
theorem PcAt.mark (h : PcAt lo hi w q s F) (ho : Own boxE 33 lo w' s.kv F') (hg : w.grownBy w' s.kv.ownBlock) : PcAt lo hi w' q s F' :=
  ⟨h.1.grown hg (fun e => h.2.2.2.2.2 e.symm), ho, h.2.2⟩
theorem PcAt.rows (h : PcAt lo hi w q s F) : ∀ k, s.kv.ownBlock = some k → lo ≤ k ∧ k < hi := fun k hk => ⟨(h.2.1.lt k hk).1, h.2.2.2.2.1 k hk⟩
theorem PcAt.pvr {p : Pc} (h : PcAt lo hi w q s p.f) (hs : s.same p) : PvR w.heap.size w p s := ⟨hs, h.2.1.rowB⟩
theorem Blk.kept_lo {g : Nat} {cs : Array Value} {t : TypeId} (h : Blk w g cs t) (hg : w.grownBy w' row) (hr : ∀ k, row = some k → g < k) : Blk w' g cs t := h.grown hg (fun e => by have := hr g e.symm; omega)
end

end Go.Proofs.Ytpicbkakghojnaa
