/-
  BASE: the frame relation, small laws on worlds.
-/
import Derived.Test.Qxb6500360aRows
import Derived.Test.Qxb6500360aPl
import Derived.WalkKit
import Derived.WalkSpells
import Derived.Deep.QuietTactic
import Derived.BigQuiet
namespace Go.Proofs.Qxb6500360a
open Go.RowKit

/-- Of what was there nothing has turned but the blocks of B. -/
structure Fr (B : List Nat) (w w' : World) : Prop where
  os : w'.os = w.os
  tape : w'.tape = w.tape
  output : w'.output = w.output
  size : w.heap.size ≤ w'.heap.size
  block : ∀ k, k < w.heap.size → k ∉ B → w'.heap[k]? = w.heap[k]?
  frz : ∀ b o, b < w.heap.size → w'.frozen? ⟨b, o, none⟩ = w.frozen? ⟨b, o, none⟩

theorem Fr.refl (B : List Nat) (w : World) : Fr B w w := ⟨rfl, rfl, rfl, Nat.le_refl _, fun _ _ _ => rfl, fun _ _ _ => rfl⟩

theorem Fr.trans {B B' : List Nat} {a b c : World} (h : Fr B a b) (k : Fr B' b c) (hb : ∀ x, x < a.heap.size → x ∈ B' → x ∈ B) : Fr B a c :=
  ⟨k.os.trans h.os, k.tape.trans h.tape, k.output.trans h.output, Nat.le_trans h.size k.size,
    fun i hi hn => (k.block i (Nat.lt_of_lt_of_le hi h.size) (fun hx => hn (hb i hi hx))).trans (h.block i hi hn),
    fun i o hi => (k.frz i o (Nat.lt_of_lt_of_le hi h.size)).trans (h.frz i o hi)⟩

theorem Fr.mono {B B' : List Nat} {a b : World} (h : Fr B a b) (hb : ∀ x, x < a.heap.size → x ∈ B → x ∈ B') : Fr B' a b :=
  ⟨h.os, h.tape, h.output, h.size, fun i hi hn => h.block i hi (fun hx => hn (hb i hi hx)), h.frz⟩

theorem Fr.drew {B : List Nat} {a w : World} (h : Fr B a w) : Fr B a w.drew := ⟨h.os, h.tape, h.output, h.size, h.block, h.frz⟩

theorem Fr.drewN {B : List Nat} {a w : World} (h : Fr B a w) (n : Nat) : Fr B a (w.drewN n) := ⟨h.os, h.tape, h.output, h.size, h.block, h.frz⟩

theorem Fr.alloc {B : List Nat} {a w : World} (h : Fr B a w) (o : Obj) : Fr B a (w.alloc o) :=
  ⟨h.os, h.tape, h.output, by have := h.size; simp; omega, fun k hk hn => (Below.heap_alloc _ _ _ (Nat.lt_of_lt_of_le hk h.size)).trans (h.block k hk hn),
    fun k p hk => (World.frozen?_alloc_old _ _ _ (Nat.ne_of_lt (Nat.lt_of_lt_of_le hk h.size))).trans (h.frz k p hk)⟩

theorem Fr.setCell {B : List Nat} {a w : World} (h : Fr B a w) {p : Addr} (hp : p.block < a.heap.size → p.block ∈ B) (u : Value) : Fr B a (w.setCell p u) :=
  ⟨h.os, h.tape, h.output, by have := h.size; simpa using this,
    fun k hk hn => (Below.heap_setCell _ _ _ _ (fun e => hn (by rw [e]; exact hp (by rw [← e]; exact hk)))).trans (h.block k hk hn),
    fun k o hk => (World.frozen?_setCell _ _ _ _).trans (h.frz k o hk)⟩

theorem Fr.cell {B : List Nat} {w w' : World} (h : Fr B w w') {b : Nat} (hb : b < w.heap.size) (hn : b ∉ B) (o : Nat) : w'.cell? ⟨b, o, none⟩ = w.cell? ⟨b, o, none⟩ :=
  World.cell?_of_block (w := w) (h.block b hb hn)

theorem Fr.frozen {B : List Nat} {w w' : World} (h : Fr B w w') {b : Nat} (hb : b < w.heap.size) (hn : b ∉ B) (o : Nat) : w'.frozen? ⟨b, o, none⟩ = w.frozen? ⟨b, o, none⟩ :=
  World.frozen?_of_block (w := w) (h.block b hb hn)

theorem Fr.below {B : List Nat} {w w' : World} (h : Fr B w w') {n : Nat} (hn : n ≤ w.heap.size) (hb : ∀ x ∈ B, n ≤ x) : Below n w w' :=
  ⟨h.os, h.tape, h.output, h.size, fun k hk => h.block k (by omega) (fun hx => by have := hb k hx; omega)⟩

theorem Fr.of_below {B : List Nat} {w w' : World} (h : Below w.heap.size w w') : Fr B w w' :=
  ⟨h.os, h.tape, h.output, h.size, fun k hk _ => h.block k hk, fun k _ hk => World.frozen?_of_block (w := w) (h.block k hk)⟩

/-- A cell behind a store. -/
theorem cell_set (w : World) (b o c p : Nat) (v : Value) :
    (w.setCell ⟨b, o, none⟩ v).cell? ⟨c, p, none⟩ = if b = c ∧ o = p then (w.cell? ⟨b, o, none⟩).map (fun _ => v) else w.cell? ⟨c, p, none⟩ := by
  by_cases h : b = c ∧ o = p
  · obtain ⟨rfl, rfl⟩ := h
    simp only [and_self, if_true]
    cases hc : w.cell? ⟨b, o, none⟩ with
    | some u => simp [World.cell?_setCell_same _ _ _ hc]
    | none =>
      simp only [World.cell?, World.setCell, Array.getElem?_modify, if_true] at hc ⊢
      revert hc
      cases w.heap[b]? with
      | none => simp
      | some x => cases x <;> simp
  · rw [if_neg h]
    exact World.cell?_setCell_other _ _ _ _ (fun e => h (by simpa using e))

theorem cell_alloc (w : World) (o : Obj) (c p : Nat) (h : c < w.heap.size) : (w.alloc o).cell? ⟨c, p, none⟩ = w.cell? ⟨c, p, none⟩ :=
  World.cell?_alloc_lt _ _ _ h
theorem cell_drewN (w : World) (n c p : Nat) : (w.drewN n).cell? ⟨c, p, none⟩ = w.cell? ⟨c, p, none⟩ := rfl
theorem frozen_drewN (w : World) (n c p : Nat) : (w.drewN n).frozen? ⟨c, p, none⟩ = w.frozen? ⟨c, p, none⟩ := rfl
theorem frozen_alloc (w : World) (o : Obj) (c p : Nat) (h : c < w.heap.size) : (w.alloc o).frozen? ⟨c, p, none⟩ = w.frozen? ⟨c, p, none⟩ :=
  World.frozen?_alloc_old _ _ _ (Nat.ne_of_lt h)
theorem size_drewN (w : World) (n : Nat) : (w.drewN n).heap.size = w.heap.size := rfl
theorem lt_of_cell {w : World} {b o : Nat} {v : Value} (h : w.cell? ⟨b, o, none⟩ = some v) : b < w.heap.size := World.block_lt_of_cell? _ _ h

/-- A callee that leaves the world as it was. -/
theorem calls_same {P : Program} {f : FuncId} {args : Array Value} {w : World} {E : Ending} {R : Ending → World → Prop}
    (h : Calls P f args w fun e w' => e = E ∧ w' = w) (hr : R E w) : Calls P f args w R :=
  h.mono (by rintro _ _ ⟨rfl, rfl⟩; exact hr)

/-- A function that is called, and deferred; it defers nothing itself and does not recover. -/
def Both (P : Program) (f : FuncId) (args : Array Value) (w : World) (R : Ending → World → Prop) : Prop :=
  Calls P f args w R ∧ ∀ u, CallsD P f args u w fun e u' w' => u' = u ∧ R e w'
theorem both_of_wp {P : Program} {f : FuncId} {fn : Func} {c : Code} {args : Array Value} {w : World} {R : Ending → World → Prop}
    (hf : P.funcs[f]? = some fn) (hb : fn.body = some c)
    (h : c.wp P (bodyPost P fn R) { tmps := args ++ Array.replicate (fn.ntmps - args.size) undef, defers := [] } w) : Both P f args w R :=
  ⟨calls_of_wp hf hb h, fun _ => callsD_of_wp hf hb h⟩

theorem i64w (n : Int) (h : -9223372036854775808 ≤ n ∧ n ≤ 9223372036854775807) : IntKind.i64.wrap n = n := by rw [IntKind.wrap_i64]; omega

end Go.Proofs.Qxb6500360a
