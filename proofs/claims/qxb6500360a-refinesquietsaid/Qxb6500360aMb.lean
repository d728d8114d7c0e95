/-
  L2, abstract: the model's ledger: its small walks.
-/
import Derived.Test.Qxb6500360aMa
import Derived.Test.Qxb6500360aPy
namespace Go.Proofs.Qxb6500360a
open Go.RowKit
set_option linter.unusedSimpArgs false
set_option linter.unusedVariables false

/-- The balances lie in the block X from the place o on. -/
def BalAt (w : World) (X o : Nat) (bal : List Int) : Prop := ∀ k, k < 4 → w.cell? ⟨X, o + k, none⟩ = some (.int .i64 (V.bl bal k))
theorem BalAt.keep {w w' : World} {X o : Nat} {bal : List Int} (h : BalAt w X o bal) {B : List Nat} (hf : Fr B w w') (hX : X ∉ B) : BalAt w' X o bal :=
  fun k hk => (hf.cell (lt_of_cell (h k hk)) hX _).trans (h k hk)

/-- The ledger d lies at D, its table at M. -/
structure MLdAt (w : World) (D M : Nat) (d : V.Ld) : Prop where
  d0 : w.cell? ⟨D, 0, none⟩ = some (.pointer (some ⟨M, 0, none⟩))
  cb : BalAt w D 1 d.bal
  cu : w.cell? ⟨D, 5, none⟩ = some (.int .i64 d.und)
  fD : ∀ o, w.frozen? ⟨D, o, none⟩ = false
  tb : MTabAt w M d.t
  nDM : ¬ D = M
  lb : d.bal.length = 4
  bb : ∀ k, k < 4 → 0 ≤ V.bl d.bal k ∧ V.bl d.bal k ≤ 250
  ub : 0 ≤ d.und ∧ d.und ≤ 99
theorem MLdAt.lD {w : World} {D M : Nat} {d : V.Ld} (h : MLdAt w D M d) : D < w.heap.size := lt_of_cell h.d0
theorem MLdAt.keep {w w' : World} {D M : Nat} {d : V.Ld} (h : MLdAt w D M d) {B : List Nat} (hf : Fr B w w') (hD : D ∉ B) (hM : M ∉ B) : MLdAt w' D M d :=
  ⟨(hf.cell h.lD hD _).trans h.d0, h.cb.keep hf hD, (hf.cell h.lD hD _).trans h.cu, fun o => (hf.frozen h.lD hD o).trans (h.fD o), h.tb.keep hf hM, h.nDM, h.lb, h.bb, h.ub⟩
/-- Only the table has turned. -/
theorem MLdAt.tab {w w' : World} {D M : Nat} {d : V.Ld} {t : V.Tb} (h : MLdAt w D M d) (hf : Fr [M] w w') (ht : MTabAt w' M t) : MLdAt w' D M { d with t := t } :=
  have hD : D ∉ [M] := by simpa using h.nDM
  ⟨(hf.cell h.lD hD _).trans h.d0, h.cb.keep hf hD, (hf.cell h.lD hD _).trans h.cu, fun o => (hf.frozen h.lD hD o).trans (h.fD o), ht, h.nDM, h.lb, h.bb, h.ub⟩

set_option maxHeartbeats 1000000 in
set_option maxRecDepth 100000 in
theorem mcheck_calls (m : V.Mv) (w : World) :
    Calls Try.prog 110 #[.agg #[.int .i64 m.f, .int .i64 m.t, .int .i64 m.a]] w fun e w' => e = .returned (.int .i64 (V.check m)) ∧ Fr [] w w' := by
  obtain ⟨f, t, a⟩ := m
  cases hf : V.good f with
  | false =>
    have hq : V.check ⟨f, t, a⟩ = 2 := by simp [V.check, hf]
    rw [hq]
    clear hq
    go_enter Try.func110, Try.ntmps110
    go_wp2_with (go_at_call 73; refine calls_same (good_calls _ _) ?_)
    go_ret
    exact ⟨rfl, (Fr.refl _ _).alloc _⟩
  | true =>
    by_cases h1 : 1 ≤ a
    · have h1' : ¬ a < 1 := by omega
      by_cases h2 : a ≤ 999
      · have h2' : ¬ 999 < a := by omega
        cases ht : V.good t with
        | false =>
          have hq : V.check ⟨f, t, a⟩ = 2 := by simp [V.check, ht]
          rw [hq]
          clear hq
          go_enter Try.func110, Try.ntmps110
          go_wp2_with (go_at_call 73; refine calls_same (good_calls _ _) ?_)
          go_ret
          exact ⟨rfl, (Fr.refl _ _).alloc _⟩
        | true =>
          by_cases h3 : f = t
          · have hq : V.check ⟨f, t, a⟩ = 3 := by simp [V.check, ht, hf, h1, h2, h3]
            rw [hq]
            subst h3
            clear hq
            go_enter Try.func110, Try.ntmps110
            go_wp2_with (go_at_call 73; refine calls_same (good_calls _ _) ?_)
            go_ret
            exact ⟨rfl, (Fr.refl _ _).alloc _⟩
          · have hq : V.check ⟨f, t, a⟩ = 0 := by simp [V.check, ht, hf, h1, h2, h3]
            rw [hq]
            have h3' : (f == t) = false := by simpa using h3
            clear hq
            go_enter Try.func110, Try.ntmps110
            go_wp2_with (go_at_call 73; refine calls_same (good_calls _ _) ?_)
            go_ret
            exact ⟨rfl, (Fr.refl _ _).alloc _⟩
      · have h2' : 999 < a := by omega
        have hq : V.check ⟨f, t, a⟩ = 2 := by simp [V.check, h2]
        rw [hq]
        clear hq h2
        go_enter Try.func110, Try.ntmps110
        go_wp2_with (go_at_call 73; refine calls_same (good_calls _ _) ?_)
        go_ret
        exact ⟨rfl, (Fr.refl _ _).alloc _⟩
    · have h1' : a < 1 := by omega
      have hq : V.check ⟨f, t, a⟩ = 2 := by simp [V.check, h1]
      rw [hq]
      clear hq h1
      go_enter Try.func110, Try.ntmps110
      go_wp2_with (go_at_call 73; refine calls_same (good_calls _ _) ?_)
      go_ret
      exact ⟨rfl, (Fr.refl _ _).alloc _⟩

set_option maxHeartbeats 1000000 in
set_option maxRecDepth 100000 in
theorem mbalance_calls (D M : Nat) (k : Int) (d : V.Ld) (w : World) (h : MLdAt w D M d) :
    Calls Try.prog 101 #[.pointer (some ⟨D, 0, none⟩), .int .i64 k] w fun e w' => e = .returned (.tuple #[.int .i64 (d.balance k).2.1, .int .i64 (d.balance k).2.2]) ∧ MLdAt w' D M (d.balance k).1 ∧ Fr [D, M] w w' := by
  have HH : Hid (MLdAt w D M d) := h
  have d0 := h.d0
  have nD : D ∉ [M] := by simpa using h.nDM
  clear h
  have HQ : Hid (d.balance k = if (d.t.clear.acq k).2.2 = 0 then ({ d with t := ((d.t.clear.acq k).1.rel (d.t.clear.acq k).2.1).1 }, V.bl d.bal k.toNat, 0) else ({ d with t := (d.t.clear.acq k).1 }, 0, (d.t.clear.acq k).2.2)) := rfl
  go_enter Try.func101, Try.ntmps101
  go_wp2_with fail
  refine (mclear_calls M d.t w HH.out.tb).mono ?_
  rintro e w1 ⟨rfl, h1, f1⟩
  have H1 : Hid (MLdAt w1 D M { d with t := d.t.clear }) := HH.out.tab f1 h1
  have F1 : Hid (Fr [M] w w1) := f1
  replace d0 := H1.out.d0
  clear h1 f1
  go_wp2_with fail
  refine (macquire_calls M k d.t.clear w1 H1.out.tb).mono ?_
  rintro e w2 ⟨rfl, h2, f2⟩
  have H2 : Hid (MLdAt w2 D M { d with t := (d.t.clear.acq k).1 }) := H1.out.tab f2 h2
  have F2 : Hid (Fr [M] w w2) := F1.out.trans f2 (fun _ _ h => h)
  replace d0 := H2.out.d0
  have hg := fun h => acq_err (t := d.t.clear) (k := k) h
  clear h2 f2
  generalize hr : d.t.clear.acq k = r at *
  by_cases q : r.2.2 = 0
  · have q' : (r.2.2 != 0) = false := by simpa using q
    obtain ⟨g0, g1⟩ := V.good_lt (hg q)
    have HB : Hid (w2.cell? ⟨D, 1 + k.toNat, none⟩ = some (.int .i64 (V.bl d.bal k.toNat))) := H2.out.cb k.toNat (by omega)
    clear hg
    go_wp2_with fail
    refine (mrelease_calls M r.2.1 r.1 w2 H2.out.tb).mono ?_
    rintro e w3 ⟨rfl, h3, f3⟩
    have H3 : Hid (MLdAt w3 D M { d with t := (r.1.rel r.2.1).1 }) := H2.out.tab f3 h3
    have F3 : Hid (Fr [M] w w3) := F2.out.trans f3 (fun _ _ h => h)
    have cb := f3.cellv HB.out nD
    clear h3 f3 d0 nD
    go_wp2_with fail
    go_ret2
    have := HQ.out
    rw [if_pos q] at this
    rw [this]
    exact ⟨rfl, H3.out, F3.out.mono (fun x _ h => by simp at h ⊢; exact .inr h)⟩
  · have q' : (r.2.2 != 0) = true := by simpa using q
    clear hg
    go_wp2_with fail
    go_ret2
    have := HQ.out
    rw [if_neg q] at this
    rw [this]
    exact ⟨rfl, H2.out, F2.out.mono (fun x _ h => by simp at h ⊢; exact .inr h)⟩

set_option maxHeartbeats 1000000 in
set_option maxRecDepth 100000 in
theorem msplit_calls (D M : Nat) (k p : Int) (d : V.Ld) (w : World) (h : MLdAt w D M d) (hp : 0 < p) :
    Calls Try.prog 102 #[.pointer (some ⟨D, 0, none⟩), .int .i64 k, .int .i64 p] w fun e w' => ∃ n x, (d.split k p).2 = some (n, x) ∧ e = .returned (.tuple #[.int .i64 n, .int .i64 x]) ∧ MLdAt w' D M (d.split k p).1 ∧ Fr [D, M] w w' := by
  have HH : Hid (MLdAt w D M d) := h
  have d0 := h.d0
  have nD : D ∉ [M] := by simpa using h.nDM
  have hp0 : ¬ p = 0 := by omega
  have hp1 : ¬ p < 0 := by omega
  clear h
  have HQ : Hid (d.split k p = if (d.t.clear.acq k).2.2 = 0 then ({ d with t := ((d.t.clear.acq k).1.rel (d.t.clear.acq k).2.1).1 }, some (V.bl d.bal k.toNat / p, 0)) else ({ d with t := (d.t.clear.acq k).1 }, some (0, (d.t.clear.acq k).2.2))) := by show _ = _; simp only [V.Ld.split, if_neg hp0]
  go_enter Try.func102, Try.ntmps102
  go_wp2_with fail
  refine (mclear_calls M d.t w HH.out.tb).mono ?_
  rintro e w1 ⟨rfl, h1, f1⟩
  have H1 : Hid (MLdAt w1 D M { d with t := d.t.clear }) := HH.out.tab f1 h1
  have F1 : Hid (Fr [M] w w1) := f1
  replace d0 := H1.out.d0
  clear h1 f1
  go_wp2_with fail
  refine (macquire_calls M k d.t.clear w1 H1.out.tb).mono ?_
  rintro e w2 ⟨rfl, h2, f2⟩
  have H2 : Hid (MLdAt w2 D M { d with t := (d.t.clear.acq k).1 }) := H1.out.tab f2 h2
  have F2 : Hid (Fr [M] w w2) := F1.out.trans f2 (fun _ _ h => h)
  replace d0 := H2.out.d0
  have hg := fun h => acq_err (t := d.t.clear) (k := k) h
  clear h2 f2
  generalize hr : d.t.clear.acq k = r at *
  by_cases q : r.2.2 = 0
  · have q' : (r.2.2 != 0) = false := by simpa using q
    obtain ⟨g0, g1⟩ := V.good_lt (hg q)
    have HB : Hid (w2.cell? ⟨D, 1 + k.toNat, none⟩ = some (.int .i64 (V.bl d.bal k.toNat))) := H2.out.cb k.toNat (by omega)
    obtain ⟨bb0, bb1⟩ := HH.out.bb k.toNat (by omega)
    clear hg
    go_wp2_with fail
    refine (mrelease_calls M r.2.1 r.1 w2 H2.out.tb).mono ?_
    rintro e w3 ⟨rfl, h3, f3⟩
    have H3 : Hid (MLdAt w3 D M { d with t := (r.1.rel r.2.1).1 }) := H2.out.tab f3 h3
    have F3 : Hid (Fr [M] w w3) := F2.out.trans f3 (fun _ _ h => h)
    have cb := f3.cellv HB.out nD
    have dv : IntKind.i64.wrap ((V.bl d.bal k.toNat).tdiv p) = V.bl d.bal k.toNat / p := by
      rw [Int.tdiv_eq_ediv_of_nonneg bb0]
      have := Int.ediv_nonneg bb0 (by omega : 0 ≤ p)
      have := Int.ediv_le_self p bb0
      rw [i64w]; omega
    clear h3 f3 d0 nD
    go_wp2_with fail
    go_ret2
    have := HQ.out
    rw [if_pos q] at this
    rw [this]
    exact ⟨_, _, rfl, rfl, H3.out, F3.out.mono (fun x _ h => by simp at h ⊢; exact .inr h)⟩
  · have q' : (r.2.2 != 0) = true := by simpa using q
    clear hg
    go_wp2_with fail
    go_ret2
    have := HQ.out
    rw [if_neg q] at this
    rw [this]
    exact ⟨_, _, rfl, rfl, H2.out, F2.out.mono (fun x _ h => by simp at h ⊢; exact .inr h)⟩

end Go.Proofs.Qxb6500360a
