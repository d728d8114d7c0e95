/-
  THE SCRIPT, opened.
-/
import Derived.Test.Qxb6500360aKx
import Derived.ProofKit
import Derived.OpenShut
import Derived.ShutString
import Derived.Carry
import Derived.Deep.Fields
namespace Go.Proofs.Qxb6500360a
open Go.ChangeShapes Go.WideShapes Go.ChangeAt Go.RowKit
open Go.ChangeMaps (open_string shut_string)
set_option linter.unusedVariables false
set_option linter.unusedSimpArgs false

theorem scriptOwn : ownKnob Try.prog.godebug = none := by kernel_rfl
theorem scriptLaid : laidOutB Try.prog = true := by kernel_rfl
theorem cells65 : Try.prog.cellsOf 65 = 6 := by kernel_rfl
theorem cells3 : Try.prog.cellsOf 3 = 1 := by kernel_rfl
theorem cells9 : Try.prog.cellsOf 9 = 1 := by kernel_rfl

set_option maxHeartbeats 1000000 in
set_option maxRecDepth 100000 in
theorem script_open {H : Type} {enc : TypeId × Value → H} {W : World} {base : Nat} {v0 : Value} {d0 : DataW H} {p : List MemPlace} (hv : Value.okWide Try.prog W .any base 22 v0) (h : DataW.Trod enc Try.prog W 0 (fun _ => true) true 22 v0 d0 p) :
    ∃ (A : Option Addr) (n cap : Nat) (O : Nat → Op), v0 = .slice A n cap ∧ ScAt W A n O := by
  obtain ⟨a0, len, cap, rfl⟩ := okWide_slice Try.underlying22 hv
  obtain ⟨fuel, hf⟩ := h
  rcases Deep.open_slice Try.underlying22 hf with ⟨hcs, hx⟩ | ⟨a, len', cap', m, n, D, Pl, hcs, hb, hl, hm, hmm, hx, hcell⟩
  · simp [Value.cells] at hcs
    obtain ⟨rfl, rfl, rfl⟩ := hcs
    exact ⟨none, 0, 0, fun _ => ⟨0, 0, 0, 0, ⟨#[]⟩, ⟨#[]⟩⟩, rfl, fun h => absurd h (by omega)⟩
  · simp [Value.cells] at hcs
    obtain ⟨rfl, rfl, rfl⟩ := hcs
    simp only [if_true] at hmm
    subst hmm
    have each : ∀ i, i < len → ∃ o : Op, ∃ b off, a = ⟨b, off, none⟩ ∧ OpAt W b (off + i * 6) o := by
      intro i hi
      obtain ⟨cs', h1, h2⟩ := hcell i (by omega)
      rw [cells65] at h1
      obtain ⟨_, hlen, hc⟩ := World.cells?_some h1
      obtain ⟨xs, k, hk, hxy, _, hxl, hfs⟩ := DataW.trod_struct Try.underlying65 h2
      match cs', hlen with
      | [v0, v1, v2, v3, v4, v5], _ =>
        have g0 := hfs 0 _ rfl
        have g1 := hfs 1 _ rfl
        have g2 := hfs 2 _ rfl
        have g3 := hfs 3 _ rfl
        have g4 := hfs 4 _ rfl
        have g5 := hfs 5 _ rfl
        have hx : xs.length = 6 := hxl
        simp [cells3, cells9, List.getElem?_eq_getElem (show 0 < xs.length by omega), List.getElem?_eq_getElem (show 1 < xs.length by omega), List.getElem?_eq_getElem (show 2 < xs.length by omega), List.getElem?_eq_getElem (show 3 < xs.length by omega), List.getElem?_eq_getElem (show 4 < xs.length by omega), List.getElem?_eq_getElem (show 5 < xs.length by omega)] at g0 g1 g2 g3 g4 g5
        obtain ⟨z0, e0, -, -⟩ := DataW.trod_int Try.underlying3 g0
        obtain ⟨z1, e1, -, -⟩ := DataW.trod_int Try.underlying3 g1
        obtain ⟨z2, e2, -, -⟩ := DataW.trod_int Try.underlying3 g2
        obtain ⟨z3, e3, -, -⟩ := DataW.trod_int Try.underlying3 g3
        obtain ⟨z4, e4, -, -⟩ := DataW.trod_string Try.underlying9 g4
        obtain ⟨z5, e5, -, -⟩ := DataW.trod_string Try.underlying9 g5
        simp at e0 e1 e2 e3 e4 e5
        subst e0 e1 e2 e3 e4 e5
        have q0 := hc 0 (by omega)
        have q1 := hc 1 (by omega)
        have q2 := hc 2 (by omega)
        have q3 := hc 3 (by omega)
        have q4 := hc 4 (by omega)
        have q5 := hc 5 (by omega)
        rw [Deep.add_add] at q0 q1 q2 q3 q4 q5
        have hspot : a.spot = none := by
          obtain ⟨cs0, j1, j2⟩ := hcell 0 (by omega)
          rw [cells65] at j1
          obtain ⟨_, jl, jc⟩ := World.cells?_some j1
          have jq := jc 0 (by omega)
          rw [List.getElem?_eq_getElem (by omega)] at jq
          have := World.cell?_spot jq
          simpa [Addr.add] using this
        obtain ⟨b, off, spot⟩ := a
        dsimp only at hspot
        subst hspot
        simp only [add_plain] at q0 q1 q2 q3 q4 q5
        refine ⟨⟨z0, z1, z2, z3, z4, z5⟩, b, off, rfl, ?_⟩
        exact ⟨by simpa using q0, by simpa [Nat.add_assoc] using q1, by simpa [Nat.add_assoc] using q2, by simpa [Nat.add_assoc] using q3, by simpa [Nat.add_assoc] using q4, by simpa [Nat.add_assoc] using q5⟩
    have ch : ∃ O : Nat → Op, ∀ i, i < len → ∃ b off, a = ⟨b, off, none⟩ ∧ OpAt W b (off + i * 6) (O i) :=
      ⟨fun i => if h : i < len then Classical.choose (each i h) else ⟨0, 0, 0, 0, ⟨#[]⟩, ⟨#[]⟩⟩, fun i hi => by
        dsimp only
        rw [dif_pos hi]
        exact Classical.choose_spec (each i hi)⟩
    obtain ⟨O, hO⟩ := ch
    refine ⟨some a, len, _, O, rfl, fun hn => ?_⟩
    obtain ⟨b, off, rfl, _⟩ := hO 0 hn
    refine ⟨b, off, rfl, fun i hi => ?_⟩
    obtain ⟨b', off', e, h'⟩ := hO i hi
    cases e
    exact h'

end Go.Proofs.Qxb6500360a
