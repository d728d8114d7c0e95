/-
  L2: the real ledger: what is deferred: catch, the two literals; step.
-/
import Derived.Test.Qxb6500360aLg
import Derived.Test.Qxb6500360aRc
import Derived.WalkSmall
namespace Go.Proofs.Qxb6500360a
open Go.RowKit
set_option linter.unusedSimpArgs false
set_option linter.unusedVariables false

theorem ta131_yes (v : Value) (W : World) : (Instr.typeAssert (.iface 131 v) 20 131 true).run Try.prog W = .ok (.tuple #[v, .bool true]) W := by
  simp [Instr.typeAssert, run_underlying Try.underlying131]
theorem zero131 (W : World) : (zeroValue 131).run Try.prog W = .ok (.agg #[.int .i64 0, .int .i64 0]) W := by
  obtain ⟨i, hi, hz, _, _⟩ := info_of (t := 131) (z := .agg #[.int .i64 0, .int .i64 0]) (n := 2) (b := 16) (by kernel_rfl)
  simp [zeroValue, typeInfo, hi, hz]
theorem ta131_no (t : TypeId) (v : Value) (ht : ¬ t = 131) (W : World) : (Instr.typeAssert (.iface t v) 20 131 true).run Try.prog W = .ok (.tuple #[.agg #[.int .i64 0, .int .i64 0], .bool false]) W := by
  simp [Instr.typeAssert, run_underlying Try.underlying131, ht, zero131]

set_option maxHeartbeats 1000000 in
set_option maxRecDepth 100000 in
theorem catch_idle (D N E : Nat) (w : World) :
    CallsD Try.prog 80 #[.pointer (some ⟨D, 0, none⟩), .pointer (some ⟨N, 0, none⟩), .pointer (some ⟨E, 0, none⟩)] .returning w
      fun e u' w' => u' = .returning ∧ e = .returned (.tuple #[]) ∧ w' = w := by
  refine callsD_rec1 recAt_idle Try.func80 rfl ?_
  simp only [Try.ntmps80, List.size_toArray, List.length_cons, List.length_nil, Nat.reduceAdd, Nat.reduceSub, Array.replicate_succ, Array.replicate_zero, List.push_toArray, List.append_toArray, List.nil_append, List.cons_append, List.setIfInBounds_toArray, List.set_cons_succ, List.set_cons_zero]
  go_wp2
  go_end0
  exact ⟨rfl, rfl⟩

set_option maxHeartbeats 1000000 in
set_option maxRecDepth 100000 in
theorem catch_abort (D N E : Nat) (i e0 x y : Int) (older : List PanicEntry) (w : World) (cn : w.cell? ⟨N, 0, none⟩ = some (.int .i64 x)) (ce : w.cell? ⟨E, 0, none⟩ = some (.int .i64 y))
    (fn : w.frozen? ⟨N, 0, none⟩ = false) (fe : w.frozen? ⟨E, 0, none⟩ = false) (hne : ¬ N = E) :
    CallsD Try.prog 80 #[.pointer (some ⟨D, 0, none⟩), .pointer (some ⟨N, 0, none⟩), .pointer (some ⟨E, 0, none⟩)] (.panicking ({ v := .iface 131 (.agg #[.int .i64 i, .int .i64 e0]), recovered := false } :: older)) w
      fun e u' w' => u' = .panicking ({ v := .iface 131 (.agg #[.int .i64 i, .int .i64 e0]), recovered := true } :: older) ∧ e = .returned (.tuple #[]) ∧
        w'.cell? ⟨N, 0, none⟩ = some (.int .i64 i) ∧ w'.cell? ⟨E, 0, none⟩ = some (.int .i64 e0) ∧ Fr [N, E] w w' := by
  have lN := lt_of_cell cn
  have lE := lt_of_cell ce
  refine callsD_rec1 (recAt_panic _ _) Try.func80 rfl ?_
  simp only [Try.ntmps80, List.size_toArray, List.length_cons, List.length_nil, Nat.reduceAdd, Nat.reduceSub, Array.replicate_succ, Array.replicate_zero, List.push_toArray, List.append_toArray, List.nil_append, List.cons_append, List.setIfInBounds_toArray, List.set_cons_succ, List.set_cons_zero]
  have hta := ta131_yes
  go_wp2
  go_region
  go_wp2
  go_end0
  exact ⟨rfl, by simp [go_sem, cell_set, cn, ce, hne, lN, lE, Ne.symm hne], by simp [go_sem, cell_set, cn, ce, hne, lN, lE, Ne.symm hne], (((Fr.refl _ _).setCell (by simp) _).setCell (by simp) _).alloc _ |>.drew⟩

set_option maxHeartbeats 1000000 in
set_option maxRecDepth 100000 in
theorem catch_other (D N E : Nat) (t : TypeId) (v : Value) (ht : ¬ t = 131) (older : List PanicEntry) (w : World) :
    CallsD Try.prog 80 #[.pointer (some ⟨D, 0, none⟩), .pointer (some ⟨N, 0, none⟩), .pointer (some ⟨E, 0, none⟩)] (.panicking ({ v := .iface t v, recovered := false } :: older)) w
      fun e u' w' => u' = .panicking ({ v := .iface t v, recovered := true } :: older) ∧ e = .panicked [{ v := .iface t v, recovered := false }] ∧ w' = w := by
  refine callsD_rec1 (recAt_panic _ _) Try.func80 rfl ?_
  simp only [Try.ntmps80, List.size_toArray, List.length_cons, List.length_nil, Nat.reduceAdd, Nat.reduceSub, Array.replicate_succ, Array.replicate_zero, List.push_toArray, List.append_toArray, List.nil_append, List.cons_append, List.setIfInBounds_toArray, List.set_cons_succ, List.set_cons_zero]
  have hta := ta131_no t v ht
  go_wp2
  exact ⟨rfl, rfl, rfl⟩

/-! ### the literals that roll back or commit -/
def unOf (b : Bool) (lg : List (Nat × Int)) (und : Int) : Int := if b then und else if lg = [] then und else V.bump und
def balOf (b : Bool) (bal : List Int) (lg : List (Nat × Int)) : List Int := if b then bal else undo bal lg

set_option maxHeartbeats 1000000 in
set_option maxRecDepth 100000 in
theorem undo_deferred84 (DN TX X D T B L : Nat) (b : Bool) (bal : List Int) (lg : List (Nat × Int)) (und : Int) (w : World) (h : BkAt w D T B L bal lg und) (hl : lg.length ≤ 6)
    (hx : w.cell? ⟨X, 0, none⟩ = some (.pointer (some ⟨D, 0, none⟩))) (hd : w.cell? ⟨DN, 0, none⟩ = some (.bool b)) (ht : w.cell? ⟨TX, 0, none⟩ = some (.pointer (some ⟨X, 0, none⟩))) :
    ∀ u, CallsD Try.prog 84 #[.pointer (some ⟨DN, 0, none⟩), .pointer (some ⟨TX, 0, none⟩)] u w fun e u' w' => u' = u ∧ e = .returned (.tuple #[]) ∧ BkAt w' D T B L (balOf b bal lg) [] (unOf b lg und) ∧ Fr [D, B, L] w w' := by
  intro u
  cases b with
  | false =>
    go_enter_d Try.func84, Try.ntmps84
    go_wp2_with fail
    refine (rollback_calls X D T B L bal lg und w h hl hx).mono ?_
    rintro e w1 ⟨rfl, hb, hf⟩
    have HB : Hid (BkAt w1 D T B L (undo bal lg) [] (if lg = [] then und else V.bump und)) := hb
    have HF : Hid (Fr [D, B, L] w w1) := hf
    clear hb hf h hx hd ht
    go_wp2_with fail
    first | go_end0 | refine bodyPost_ret (results_none rfl _ _ _) rfl ?_
    exact ⟨rfl, by simpa [unOf, balOf] using HB.out, HF.out⟩
  | true =>
    go_enter_d Try.func84, Try.ntmps84
    go_wp2_with fail
    refine (commit_calls X D T B L bal lg und w h hl hx).mono ?_
    rintro e w1 ⟨rfl, hb, hf⟩
    have HB : Hid (BkAt w1 D T B L bal [] und) := hb
    have HF : Hid (Fr [D, B, L] w w1) := hf
    clear hb hf h hx hd ht
    go_wp2_with fail
    first | go_end0 | refine bodyPost_ret (results_none rfl _ _ _) rfl ?_
    exact ⟨rfl, by simpa [unOf, balOf] using HB.out, HF.out⟩

set_option maxHeartbeats 1000000 in
set_option maxRecDepth 100000 in
theorem undo_deferred89 (DN TX X D T B L : Nat) (b : Bool) (bal : List Int) (lg : List (Nat × Int)) (und : Int) (w : World) (h : BkAt w D T B L bal lg und) (hl : lg.length ≤ 6)
    (hx : w.cell? ⟨X, 0, none⟩ = some (.pointer (some ⟨D, 0, none⟩))) (hd : w.cell? ⟨DN, 0, none⟩ = some (.bool b)) (ht : w.cell? ⟨TX, 0, none⟩ = some (.pointer (some ⟨X, 0, none⟩))) :
    ∀ u, CallsD Try.prog 89 #[.pointer (some ⟨DN, 0, none⟩), .pointer (some ⟨TX, 0, none⟩)] u w fun e u' w' => u' = u ∧ e = .returned (.tuple #[]) ∧ BkAt w' D T B L (balOf b bal lg) [] (unOf b lg und) ∧ Fr [D, B, L] w w' := by
  intro u
  cases b with
  | false =>
    go_enter_d Try.func89, Try.ntmps89
    go_wp2_with fail
    refine (rollback_calls X D T B L bal lg und w h hl hx).mono ?_
    rintro e w1 ⟨rfl, hb, hf⟩
    have HB : Hid (BkAt w1 D T B L (undo bal lg) [] (if lg = [] then und else V.bump und)) := hb
    have HF : Hid (Fr [D, B, L] w w1) := hf
    clear hb hf h hx hd ht
    go_wp2_with fail
    first | go_end0 | refine bodyPost_ret (results_none rfl _ _ _) rfl ?_
    exact ⟨rfl, by simpa [unOf, balOf] using HB.out, HF.out⟩
  | true =>
    go_enter_d Try.func89, Try.ntmps89
    go_wp2_with fail
    refine (commit_calls X D T B L bal lg und w h hl hx).mono ?_
    rintro e w1 ⟨rfl, hb, hf⟩
    have HB : Hid (BkAt w1 D T B L bal [] und) := hb
    have HF : Hid (Fr [D, B, L] w w1) := hf
    clear hb hf h hx hd ht
    go_wp2_with fail
    first | go_end0 | refine bodyPost_ret (results_none rfl _ _ _) rfl ?_
    exact ⟨rfl, by simpa [unOf, balOf] using HB.out, HF.out⟩


set_option maxHeartbeats 1000000 in
set_option maxRecDepth 100000 in
theorem wipe_deferred (DN TX E N : Nat) (e0 n0 : Int) (w : World) (ce : w.cell? ⟨E, 0, none⟩ = some (.int .i64 e0)) (cn : w.cell? ⟨N, 0, none⟩ = some (.int .i64 n0)) (fn : w.frozen? ⟨N, 0, none⟩ = false) (hne : ¬ N = E) :
    ∀ u, CallsD Try.prog 87 #[.pointer (some ⟨E, 0, none⟩), .pointer (some ⟨N, 0, none⟩)] u w fun e u' w' => u' = u ∧ e = .returned (.tuple #[]) ∧ w'.cell? ⟨N, 0, none⟩ = some (.int .i64 (if e0 = 0 then n0 else 0)) ∧ Fr [N] w w' := by
  intro u
  by_cases he : e0 = 0
  · subst he
    simp only [if_true]
    go_enter_d Try.func87, Try.ntmps87
    go_wp2
    go_end0
    exact ⟨rfl, cn, Fr.refl _ _⟩
  · have he' : (e0 != 0) = true := by simpa using he
    simp only [if_neg he]
    go_enter_d Try.func87, Try.ntmps87
    go_wp2
    go_end0
    exact ⟨rfl, by simp [cell_set, cn], (Fr.refl _ _).setCell (by simp) _⟩

/-! ### step -/
set_option maxHeartbeats 1000000 in
set_option maxRecDepth 100000 in
theorem step_calls (X D T B L : Nat) (i : Int) (m : V.Mv) (bal : List Int) (lg : List (Nat × Int)) (und : Int) (w : World) (h : BkAt w D T B L bal lg und)
    (hx : w.cell? ⟨X, 0, none⟩ = some (.pointer (some ⟨D, 0, none⟩))) (nX : X ∉ [D, B, L]) (hc : V.check m = 0) (hl : lg.length + 2 ≤ 6) :
    Calls Try.prog 90 #[.pointer (some ⟨D, 0, none⟩), .pointer (some ⟨X, 0, none⟩), .int .i64 i, .agg #[.int .i64 m.f, .int .i64 m.t, .int .i64 m.a]] w fun e w' =>
      e = (if (payBal bal m).2.2 = 0 then .returned (.tuple #[]) else .panicked [{ v := .iface 131 (.agg #[.int .i64 i, .int .i64 (payBal bal m).2.2]), recovered := false }]) ∧
      BkAt w' D T B L (payBal bal m).1 (lg ++ (payBal bal m).2.1) und ∧ Fr [D, B, L] w w' := by
  have HH : Hid (BkAt w D T B L bal lg und) := h
  have lX := lt_of_cell hx
  clear h
  by_cases he : (payBal bal m).2.2 = 0
  · simp only [if_pos he]
    go_enter Try.func90, Try.ntmps90
    go_wp2_with fail
    refine (pay_calls X D T B L m bal lg und _ (HH.out.alloc _) (by rw [cell_alloc _ _ _ _ lX]; exact hx) nX hc hl).mono ?_
    rintro e w1 ⟨rfl, hb, hf⟩
    have HB : Hid (BkAt w1 D T B L (payBal bal m).1 (lg ++ (payBal bal m).2.1) und) := hb
    have HF : Hid (Fr [D, B, L] w w1) := ((Fr.refl _ _).alloc _).trans hf (fun _ _ h => h)
    clear hb hf hx
    go_wp2_with fail
    go_end0
    exact ⟨rfl, HB.out, HF.out⟩
  · simp only [if_neg he]
    have he' : ((payBal bal m).2.2 != 0) = true := by simpa using he
    go_enter Try.func90, Try.ntmps90
    go_wp2_with fail
    refine (pay_calls X D T B L m bal lg und _ (HH.out.alloc _) (by rw [cell_alloc _ _ _ _ lX]; exact hx) nX hc hl).mono ?_
    rintro e w1 ⟨rfl, hb, hf⟩
    have HB : Hid (BkAt w1 D T B L (payBal bal m).1 (lg ++ (payBal bal m).2.1) und) := hb
    have HF : Hid (Fr [D, B, L] w w1) := ((Fr.refl _ _).alloc _).trans hf (fun _ _ h => h)
    clear hb hf hx
    go_wp2_with fail
    exact ⟨rfl, rfl, HB.out, HF.out⟩

end Go.Proofs.Qxb6500360a
