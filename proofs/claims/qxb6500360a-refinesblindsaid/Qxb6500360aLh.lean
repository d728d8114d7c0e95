/-
  L2: the real ledger: check, Transfer.
-/
import Derived.Test.Qxb6500360aLf
namespace Go.Proofs.Qxb6500360a
open Go.RowKit
set_option linter.unusedSimpArgs false
set_option linter.unusedVariables false

theorem Fr.cellv {B : List Nat} {w w' : World} (hf : Fr B w w') {b o : Nat} {v : Value} (h : w.cell? ⟨b, o, none⟩ = some v) (hn : b ∉ B) : w'.cell? ⟨b, o, none⟩ = some v := by
  rw [hf.cell (lt_of_cell h) hn]; exact h
theorem Fr.frozenv {B : List Nat} {w w' : World} (hf : Fr B w w') {b o : Nat} (h : w.frozen? ⟨b, o, none⟩ = false) (hl : b < w.heap.size) (hn : b ∉ B) : w'.frozen? ⟨b, o, none⟩ = false := by
  rw [hf.frozen hl hn]; exact h

set_option maxHeartbeats 1000000 in
set_option maxRecDepth 100000 in
theorem check_calls (m : V.Mv) (w : World) :
    Calls Try.prog 81 #[.agg #[.int .i64 m.f, .int .i64 m.t, .int .i64 m.a]] w fun e w' => e = .returned (.int .i64 (V.check m)) ∧ Fr [] w w' := by
  obtain ⟨f, t, a⟩ := m
  cases hf : V.good f with
  | false =>
    have hc : V.check ⟨f, t, a⟩ = 2 := by simp [V.check, hf]
    rw [hc]
    clear hc
    cases ht : V.good t <;>
    · go_enter Try.func81, Try.ntmps81
      go_wp2_with (go_at_call 73; refine calls_same (good_calls _ _) ?_)
      go_ret
      exact ⟨rfl, (Fr.refl _ _).alloc _⟩
  | true =>
    cases ht : V.good t with
    | false =>
      have hc : V.check ⟨f, t, a⟩ = 2 := by simp [V.check, ht]
      rw [hc]
      clear hc
      go_enter Try.func81, Try.ntmps81
      go_wp2_with (go_at_call 73; refine calls_same (good_calls _ _) ?_)
      go_ret
      exact ⟨rfl, (Fr.refl _ _).alloc _⟩
    | true =>
      by_cases h1 : 1 ≤ a
      · by_cases h2 : a ≤ 999
        · by_cases h3 : f = t
          · have hc : V.check ⟨f, t, a⟩ = 3 := by simp [V.check, hf, ht, h1, h2, h3]
            rw [hc]
            clear hc
            subst h3
            have h2' : ¬ 999 < a := by omega
            have h1' : ¬ a < 1 := by omega
            go_enter Try.func81, Try.ntmps81
            go_wp2_with (go_at_call 73; refine calls_same (good_calls _ _) ?_)
            go_ret
            exact ⟨rfl, (Fr.refl _ _).alloc _⟩
          · have hc : V.check ⟨f, t, a⟩ = 0 := by simp [V.check, hf, ht, h1, h2, h3]
            rw [hc]
            clear hc
            have h2' : ¬ 999 < a := by omega
            have h1' : ¬ a < 1 := by omega
            have h3' : (f == t) = false := by simpa using h3
            go_enter Try.func81, Try.ntmps81
            go_wp2_with (go_at_call 73; refine calls_same (good_calls _ _) ?_)
            go_ret
            exact ⟨rfl, (Fr.refl _ _).alloc _⟩
        · have hc : V.check ⟨f, t, a⟩ = 2 := by simp [V.check, h2]
          rw [hc]
          clear hc
          have h2' : 999 < a := by omega
          have h1' : ¬ a < 1 := by omega
          go_enter Try.func81, Try.ntmps81
          go_wp2_with (go_at_call 73; refine calls_same (good_calls _ _) ?_)
          go_ret
          exact ⟨rfl, (Fr.refl _ _).alloc _⟩
      · have hc : V.check ⟨f, t, a⟩ = 2 := by simp [V.check, h1]
        rw [hc]
        clear hc
        have h1' : a < 1 := by omega
        go_enter Try.func81, Try.ntmps81
        go_wp2_with (go_at_call 73; refine calls_same (good_calls _ _) ?_)
        go_ret
        exact ⟨rfl, (Fr.refl _ _).alloc _⟩

end Go.Proofs.Qxb6500360a
