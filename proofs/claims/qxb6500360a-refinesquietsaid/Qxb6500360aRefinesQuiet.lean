/-
  RefinesQuiet returns true.
-/
import Derived.Test.Qxb6500360aKd
import Derived.Test.Qxb6500360aNb
namespace Go.Proofs.Qxb6500360a
open Go.ChangeShapes Go.WideShapes Go.ChangeAt Go.RowKit
open Go.ChangeMaps (open_string shut_string)
set_option linter.unusedVariables false
set_option linter.unusedSimpArgs false

namespace refinesQuiet
set_option maxHeartbeats 1000000 in
set_option maxRecDepth 100000 in
theorem up (A : Option Addr) (n cap : Nat) (O : Nat → Op) (w : World) (hA : ScAt w A n O) :
    Calls Try.prog 13 #[.slice A n cap] w fun e w' => e = .returned (.int .i64 (-1)) ∧ Fr [] w w' := by
  have HA : Hid (ScAt w A n O) := hA
  clear hA
  go_enter Try.func13, Try.ntmps13
  go_wp2_with fail
  refine (walk_q A n cap O w HA.out).mono ?_
  rintro e w1 ⟨⟨v, rfl⟩, f1⟩
  have F1 : Hid (Fr [] w w1) := f1
  clear f1
  go_wp2_with fail
  go_ret
  exact ⟨rfl, F1.out⟩
set_option maxHeartbeats 1000000 in
set_option maxRecDepth 100000 in
theorem walk (A : Option Addr) (n cap : Nat) (O : Nat → Op) (w : World) (hA : ScAt w A n O) :
    Calls Try.prog 6 #[.slice A n cap] w fun e w' => e = .returned (.bool true) ∧ Fr [] w w' := by
  have HA : Hid (ScAt w A n O) := hA
  clear hA
  go_enter Try.func6, Try.ntmps6
  go_wp2_with fail
  refine (up A n cap O w HA.out).mono ?_
  rintro e w1 ⟨rfl, f1⟩
  have F1 : Hid (Fr [] w w1) := f1
  clear f1
  go_wp2_with fail
  go_ret
  exact ⟨rfl, F1.out⟩

/-! ### THE ROW's STEP -/
set_option maxHeartbeats 1600000 in
set_option maxRecDepth 100000 in
theorem lifted (os : Os) (started : os.Started) (H : Type) (enc : TypeId × Value → H) :
    ReturnsInHanded {} Try.checked os 6 .any (Rows.refinesQuietSpec.pre6 enc Try.prog Try.f6 Rows.refinesQuietRow.domain false) (Rows.refinesQuietSpec.post enc Try.prog Try.f6 false true false false) := by
  refine returnsInHanded_of_change (C := Try.checked) scriptOwn started (by kernel_rfl) Try.func6
    (ChangeSpec.witness6 (enc := enc) (C := Try.checked) false ⟨#[], #[.slice none 0 0], []⟩ 8 (by kernel_rfl) (by kernel_rfl) (by kernel_rfl) (by kernel_rfl)) ?_
  intro W base args ds gs before hval0 hW hcnd _
  have hval : ∀ (j : Nat) t v, Try.f6.params[j]? = some t → args[j]? = some v → Value.okWide Try.prog W .any base t v := hval0
  have hW' := hW
  obtain ⟨p, q, hA0, hV, rfl, hfz, hnd⟩ := hW
  have hA : DataW.TrodAll enc Try.prog W 0 (fun _ => true) true Try.f6.params.toList args.toList ds p := hA0
  rw [Try.params6] at hA hval
  obtain ⟨v0, d0, rfl, rfl, h0⟩ := trodAll_one hA
  obtain ⟨rfl, rfl⟩ := trodVars_none hV
  clear hA0 hval0
  obtain ⟨A, n, cap, O, rfl, hS⟩ := script_open (hval 0 22 v0 rfl rfl) h0
  simp only [List.append_nil] at hW'
  have hlt : ∀ x ∈ p, x.block < W.heap.size := fun x hx => by simpa using hW'.lt x hx
  refine (walk A n cap O W hS).mono fun e W' ⟨he, hg⟩ => ?_
  subst he
  have bel : Below W.heap.size W W' := hg.below (Nat.le_refl _) (by simp)
  exact ⟨_, rfl, _, _, _, [], p, [], hW', trodAll_mk1 (shut_bool Try.underlying4 _), trodAll_mk1 (Below.trod scriptLaid (by kernel_rfl) (of_decide_eq_true (by kernel_rfl)) h0 bel hlt), rfl, bel.frame _, fun h => by cases h⟩

theorem over : Rows.refinesQuietRow.holds Try.pinned (OpenSpec.ofChange Rows.refinesQuietSpec) :=
  OpenClaim.holds_of_wide 6 Try.f6 rfl rfl rfl rfl rfl rfl rfl ⟨rfl, rfl, rfl, rfl, rfl⟩ rfl rfl rfl rfl rfl (by kernel_rfl) Try.func6 (by kernel_rfl)
    (of_decide_eq_true (by kernel_rfl)) (by unfold Func.isWrapper; first | (rw [if_pos (by decide +kernel)]; kernel_rfl) | (rw [if_neg (by decide +kernel)]; exact ⟨rfl, rfl⟩))
    (fun os started H enc _ => lifted os started H enc)

/-- THE STATEMENT. -/
theorem proved : Rows.RefinesQuietSaid :=
  over
end refinesQuiet

end Go.Proofs.Qxb6500360a
