/-
  THE SCRIPT in memory; small laws on the gate's place.
-/
import Derived.Test.Qxb6500360aKb
namespace Go.Proofs.Qxb6500360a
open Go.RowKit
set_option linter.unusedSimpArgs false
set_option linter.unusedVariables false

/-- The script's n steps lie in the block b from off on. -/
structure OpAt (w : World) (X off : Nat) (o : Op) : Prop where
  o0 : w.cell? ⟨X, off, none⟩ = some (.int .i64 o.k)
  o1 : w.cell? ⟨X, off + 1, none⟩ = some (.int .i64 o.a)
  o2 : w.cell? ⟨X, off + 2, none⟩ = some (.int .i64 o.b)
  o3 : w.cell? ⟨X, off + 3, none⟩ = some (.int .i64 o.c)
  o4 : w.cell? ⟨X, off + 4, none⟩ = some (.string o.s)
  o5 : w.cell? ⟨X, off + 5, none⟩ = some (.string o.t)
theorem OpAt.keep {w w' : World} {b off : Nat} {o : Op} (h : OpAt w b off o) (hf : Fr [] w w') : OpAt w' b off o :=
  ⟨hf.cellv h.o0 (by simp), hf.cellv h.o1 (by simp), hf.cellv h.o2 (by simp), hf.cellv h.o3 (by simp), hf.cellv h.o4 (by simp), hf.cellv h.o5 (by simp)⟩
def ScAt (w : World) (A : Option Addr) (n : Nat) (O : Nat → Op) : Prop := 0 < n → ∃ b off, A = some ⟨b, off, none⟩ ∧ ∀ i, i < n → OpAt w b (off + i * 6) (O i)

theorem GtAt.lt {w : World} {G D T C R B L : Nat} {g : V.Gt} (h : GtAt w G D T C R B L g) : ∀ x ∈ [G, D, T, C, R, B, L], x < w.heap.size := by
  intro x hx
  have a0 := h.ct.lG
  have a1 := h.ld.bk.lD
  have a2 := h.ld.bk.lB
  have a3 := h.ld.bk.lL
  have a4 := h.ld.tb.lT
  have a5 := h.ld.tb.lC
  have a6 := h.ld.tb.lR
  simp at hx
  rcases hx with rfl | rfl | rfl | rfl | rfl | rfl | rfl <;> assumption
theorem GtAt.keep {w w' : World} {G D T C R B L : Nat} {g : V.Gt} (h : GtAt w G D T C R B L g) {X : List Nat} (hf : Fr X w w') (hX : ∀ x ∈ [G, D, T, C, R, B, L], x ∉ X) : GtAt w' G D T C R B L g :=
  ⟨h.ct.keep hf (hX G (by simp)), h.ld.keep hf (fun x hx => hX x (by simp at hx ⊢; omega)), h.nG⟩
def freshG : V.Gt := ⟨⟨0, 0, 0, 0⟩, V.Ld.fresh⟩

end Go.Proofs.Qxb6500360a
