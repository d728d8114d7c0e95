/-
  KEEPS: the small functions of the law.
-/
import Derived.Test.Qxb6500360aFa
import Derived.Test.Qxb6500360aKp
namespace Go.Proofs.Qxb6500360a
open Go.RowKit
set_option linter.unusedSimpArgs false
set_option linter.unusedVariables false

set_option maxHeartbeats 1000000 in
set_option maxRecDepth 100000 in
theorem audit_calls (D T C R B L : Nat) (d : V.Ld) (w : World) (h : LdAt w D T C R B L d) :
    Calls Try.prog 91 #[.pointer (some ⟨D, 0, none⟩)] w fun e w' => e = .returned (.int .i64 400) ∧ w' = w := by
  have d1 := h.bk.d1
  have c0 := h.bk.cb 0 (by omega)
  have c1 := h.bk.cb 1 (by omega)
  have c2 := h.bk.cb 2 (by omega)
  have c3 := h.bk.cb 3 (by omega)
  obtain ⟨a0, b0⟩ := h.bk.bb 0 (by omega)
  obtain ⟨a1, b1⟩ := h.bk.bb 1 (by omega)
  obtain ⟨a2, b2⟩ := h.bk.bb 2 (by omega)
  obtain ⟨a3, b3⟩ := h.bk.bb 3 (by omega)
  have hs : V.bl d.bal 0 + V.bl d.bal 1 + V.bl d.bal 2 + V.bl d.bal 3 = 400 := h.sum
  clear h
  generalize V.bl d.bal 0 = x0 at *
  generalize V.bl d.bal 1 = x1 at *
  generalize V.bl d.bal 2 = x2 at *
  generalize V.bl d.bal 3 = x3 at *
  have HS : Hid (x0 + x1 + x2 + x3 = 400) := hs
  have e1 : IntKind.i64.wrap (0 + x0) = x0 := by rw [IntKind.wrap_i64] <;> omega
  have e2 : IntKind.i64.wrap (x0 + x1) = x0 + x1 := by rw [IntKind.wrap_i64] <;> omega
  have e3 : IntKind.i64.wrap (x0 + x1 + x2) = x0 + x1 + x2 := by rw [IntKind.wrap_i64] <;> omega
  have e4 : IntKind.i64.wrap (x0 + x1 + x2 + x3) = x0 + x1 + x2 + x3 := by rw [IntKind.wrap_i64] <;> omega
  clear hs
  go_enter Try.func91, Try.ntmps91
  go_wp2_with fail
  refine wp_loop_rounds 6 ?_
  repeat (rw [rounds_succ]; go_wp2_with fail)
  go_ret
  have := HS.out
  exact ⟨by simp; omega, rfl⟩

set_option maxHeartbeats 1000000 in
set_option maxRecDepth 100000 in
theorem gcheck_calls (G D T C R B L : Nat) (g : V.Gt) (w : World) (h : GtAt w G D T C R B L g) :
    Calls Try.prog 46 #[.pointer (some ⟨G, 0, none⟩)] w fun e w' => e = .returned (.bool true) ∧ Fr [] w w' := by
  obtain ⟨⟨c0, c1, c2, c3, c4, cf, ⟨⟨a1, b1⟩, ⟨a2, b2⟩, ⟨a3, b3⟩, ⟨a4, b4⟩⟩⟩, hl, hn⟩ := h
  clear hl hn cf
  generalize g.c.ok = x1 at *
  generalize g.c.bad = x2 at *
  generalize g.c.er = x3 at *
  generalize g.c.it = x4 at *
  have n1 : ¬ x1 < 0 := by omega
  have n2 : ¬ x2 < 0 := by omega
  have n3 : ¬ x3 < 0 := by omega
  have n4 : ¬ x4 < 0 := by omega
  have m1 : ¬ 99 < x1 := by omega
  have m2 : ¬ 99 < x2 := by omega
  have m3 : ¬ 99 < x3 := by omega
  have m4 : ¬ 99 < x4 := by omega
  clear a1 a2 a3 a4 b1 b2 b3 b4
  go_enter Try.func46, Try.ntmps46
  go_wp2_with fail
  refine region_tail 16 (by kernel_rfl) ?_
  simp only [List.take_succ_cons, List.take_zero, List.drop_succ_cons, List.drop_zero]
  repeat still_step
  refine wpStill_nil ?_
  go_wp2_with fail
  refine wp_loop_rounds 6 ?_
  repeat (rw [rounds_succ]; go_wp2_with fail)
  go_ret
  exact ⟨rfl, ((Fr.refl _ _).drewN _).alloc _⟩

set_option maxHeartbeats 1000000 in
set_option maxRecDepth 100000 in
theorem under_calls (D T C R B L : Nat) (d : V.Ld) (w : World) (h : LdAt w D T C R B L d) :
    Calls Try.prog 35 #[.agg #[.pointer (some ⟨D, 0, none⟩), .pointer (some ⟨T, 0, none⟩)]] w fun e w' => e = .returned (S d.show) ∧ Fr [] w w' := by
  have HH : Hid (LdAt w D T C R B L d) := h
  clear h
  go_enter Try.func35, Try.ntmps35
  go_wp2_with fail
  refine (dshow_calls D T C R B L d _ (HH.out.keep (X := []) ((Fr.refl _ _).alloc _) (by simp))).mono ?_
  rintro e w1 ⟨rfl, f1⟩
  have F1 : Hid (Fr [] w w1) := ((Fr.refl _ _).alloc _).trans f1 (by simp)
  clear f1
  go_wp2_with fail
  go_ret
  exact ⟨rfl, F1.out⟩

set_option maxHeartbeats 1000000 in
set_option maxRecDepth 100000 in
theorem sum_calls (D T C R B L : Nat) (d : V.Ld) (w : World) (h : LdAt w D T C R B L d) :
    Calls Try.prog 64 #[.agg #[.pointer (some ⟨D, 0, none⟩), .pointer (some ⟨T, 0, none⟩)]] w fun e w' => e = .returned (.int .i64 400) ∧ Fr [] w w' := by
  have HH : Hid (LdAt w D T C R B L d) := h
  clear h
  go_enter Try.func64, Try.ntmps64
  go_wp2_with fail
  refine (audit_calls D T C R B L d _ (HH.out.keep (X := []) ((Fr.refl _ _).alloc _) (by simp))).mono ?_
  rintro e w1 ⟨rfl, rfl⟩
  go_wp2_with fail
  go_ret
  exact ⟨rfl, (Fr.refl _ _).alloc _⟩

set_option maxHeartbeats 1000000 in
set_option maxRecDepth 100000 in
theorem locked_calls (D T C R B L : Nat) (d : V.Ld) (w : World) (h : LdAt w D T C R B L d) :
    Calls Try.prog 65 #[.agg #[.pointer (some ⟨D, 0, none⟩), .pointer (some ⟨T, 0, none⟩)]] w fun e w' => e = .returned (.int .i64 d.t.held) ∧ Fr [] w w' := by
  have HH : Hid (LdAt w D T C R B L d) := h
  clear h
  go_enter Try.func65, Try.ntmps65
  go_wp2_with fail
  refine (held_calls T C R d.t _ (HH.out.keep (X := []) ((Fr.refl _ _).alloc _) (by simp)).tb).mono ?_
  rintro e w1 ⟨rfl, rfl⟩
  go_wp2_with fail
  go_ret
  exact ⟨rfl, (Fr.refl _ _).alloc _⟩

def ctV (c : V.Ct) : Value := .agg #[.int .i64 c.ok, .int .i64 c.bad, .int .i64 c.er, .int .i64 c.it]

set_option maxHeartbeats 1000000 in
set_option maxRecDepth 100000 in
theorem tally_calls (c : V.Ct) (e : Int) (w : World) (h : c.Wf) :
    Calls Try.prog 37 #[ctV c, .int .i64 e] w fun x w' => x = .returned (ctV (c.count e)) ∧ Fr [] w w' := by
  obtain ⟨⟨a1, b1⟩, ⟨a2, b2⟩, ⟨a3, b3⟩, ⟨a4, b4⟩⟩ := h
  obtain ⟨x1, x2, x3, x4⟩ := c
  dsimp only at *
  have k1 : ∀ W, Calls Try.prog 51 #[.int .i64 x1] W fun e w' => e = .returned (.int .i64 (V.bump x1)) ∧ w' = W := fun W => bump_calls x1 W a1 b1
  have k2 : ∀ W, Calls Try.prog 51 #[.int .i64 x2] W fun e w' => e = .returned (.int .i64 (V.bump x2)) ∧ w' = W := fun W => bump_calls x2 W a2 b2
  have k3 : ∀ W, Calls Try.prog 51 #[.int .i64 x3] W fun e w' => e = .returned (.int .i64 (V.bump x3)) ∧ w' = W := fun W => bump_calls x3 W a3 b3
  have k4 : ∀ W, Calls Try.prog 51 #[.int .i64 x4] W fun e w' => e = .returned (.int .i64 (V.bump x4)) ∧ w' = W := fun W => bump_calls x4 W a4 b4
  clear a1 b1 a2 b2 a3 b3 a4 b4
  unfold ctV
  by_cases h0 : e = 0
  · subst h0
    have hq : V.Ct.count ⟨x1, x2, x3, x4⟩ 0 = ⟨V.bump x1, x2, x3, x4⟩ := rfl
    rw [hq]
    clear hq
    go_enter Try.func37, Try.ntmps37
    go_wp2_with (go_at_call 51; refine calls_same (k1 _) ?_)
    exact bodyPost_ret (v := .agg #[_, _, _, _]) (by simp [results, Try.results37, go_sem]) rfl ⟨rfl, ((Fr.refl _ _).alloc _).alloc _⟩
  · by_cases h1 : e = 1
    · subst h1
      have hq : V.Ct.count ⟨x1, x2, x3, x4⟩ 1 = ⟨x1, V.bump x2, x3, x4⟩ := rfl
      rw [hq]
      clear hq
      go_enter Try.func37, Try.ntmps37
      go_wp2_with (go_at_call 51; refine calls_same (k2 _) ?_)
      exact bodyPost_ret (v := .agg #[_, _, _, _]) (by simp [results, Try.results37, go_sem]) rfl ⟨rfl, ((Fr.refl _ _).alloc _).alloc _⟩
    · by_cases h8 : e = 8
      · subst h8
        have hq : V.Ct.count ⟨x1, x2, x3, x4⟩ 8 = ⟨x1, V.bump x2, x3, x4⟩ := rfl
        rw [hq]
        clear hq
        go_enter Try.func37, Try.ntmps37
        go_wp2_with (go_at_call 51; refine calls_same (k2 _) ?_)
        exact bodyPost_ret (v := .agg #[_, _, _, _]) (by simp [results, Try.results37, go_sem]) rfl ⟨rfl, ((Fr.refl _ _).alloc _).alloc _⟩
      · by_cases h9 : e = 9
        · subst h9
          have hq : V.Ct.count ⟨x1, x2, x3, x4⟩ 9 = ⟨x1, x2, x3, V.bump x4⟩ := rfl
          rw [hq]
          clear hq
          go_enter Try.func37, Try.ntmps37
          go_wp2_with (go_at_call 51; refine calls_same (k4 _) ?_)
          exact bodyPost_ret (v := .agg #[_, _, _, _]) (by simp [results, Try.results37, go_sem]) rfl ⟨rfl, ((Fr.refl _ _).alloc _).alloc _⟩
        · have hq : V.Ct.count ⟨x1, x2, x3, x4⟩ e = ⟨x1, x2, V.bump x3, x4⟩ := by simp [V.Ct.count, h0, h1, h8, h9]
          rw [hq]
          have j0 : (e == 0) = false := by simpa using h0
          have j1 : (e == 1) = false := by simpa using h1
          have j8 : (e == 8) = false := by simpa using h8
          have j9 : (e == 9) = false := by simpa using h9
          clear hq
          go_enter Try.func37, Try.ntmps37
          go_wp2_with (go_at_call 51; refine calls_same (k3 _) ?_)
          exact bodyPost_ret (v := .agg #[_, _, _, _]) (by simp [results, Try.results37, go_sem]) rfl ⟨rfl, ((Fr.refl _ _).alloc _).alloc _⟩

set_option maxHeartbeats 1000000 in
set_option maxRecDepth 100000 in
theorem head_calls (c : V.Ct) (w : World) (h : c.Wf) :
    Calls Try.prog 39 #[ctV c] w fun x w' => x = .returned (S c.head) ∧ Fr [] w w' := by
  obtain ⟨⟨a1, b1⟩, ⟨a2, b2⟩, ⟨a3, b3⟩, ⟨a4, b4⟩⟩ := h
  have i1 := itoa_len c.ok
  have i2 := itoa_len c.bad
  have i3 := itoa_len c.er
  have i4 := itoa_len c.it
  obtain ⟨x1, e1, h1⟩ := add_ex [111, 107, 61] (V.itoa c.ok) (by simp; omega)
  obtain ⟨x2, e2, h2⟩ := add_ex x1 [32, 98, 97, 100, 61] (by rw [e1]; simp; omega)
  obtain ⟨x3, e3, h3⟩ := add_ex x2 (V.itoa c.bad) (by rw [e2, e1]; simp; omega)
  obtain ⟨x4, e4, h4⟩ := add_ex x3 [32, 101, 114, 114, 61] (by rw [e3, e2, e1]; simp; omega)
  obtain ⟨x5, e5, h5⟩ := add_ex x4 (V.itoa c.er) (by rw [e4, e3, e2, e1]; simp; omega)
  obtain ⟨x6, e6, h6⟩ := add_ex x5 [32, 105, 110, 116, 61] (by rw [e5, e4, e3, e2, e1]; simp; omega)
  obtain ⟨x7, e7, h7⟩ := add_ex x6 (V.itoa c.it) (by rw [e6, e5, e4, e3, e2, e1]; simp; omega)
  obtain ⟨x8, e8, h8⟩ := add_ex x7 [32, 124, 32] (by rw [e7, e6, e5, e4, e3, e2, e1]; simp; omega)
  have HE : Hid (x8 = c.head) := by show _ = _; rw [e8, e7, e6, e5, e4, e3, e2, e1]; simp [V.Ct.head]
  clear e1 e2 e3 e4 e5 e6 e7 e8 i1 i2 i3 i4
  change ∀ W, (binOp .add 9 (.string ⟨#[111, 107, 61]⟩) (S (V.itoa c.ok))).run Try.prog W = .ok (S x1) W at h1
  change ∀ W, (binOp .add 9 (S x1) (.string ⟨#[32, 98, 97, 100, 61]⟩)).run Try.prog W = .ok (S x2) W at h2
  change ∀ W, (binOp .add 9 (S x3) (.string ⟨#[32, 101, 114, 114, 61]⟩)).run Try.prog W = .ok (S x4) W at h4
  change ∀ W, (binOp .add 9 (S x5) (.string ⟨#[32, 105, 110, 116, 61]⟩)).run Try.prog W = .ok (S x6) W at h6
  change ∀ W, (binOp .add 9 (S x7) (.string ⟨#[32, 124, 32]⟩)).run Try.prog W = .ok (S x8) W at h8
  unfold ctV
  go_enter Try.func39, Try.ntmps39
  go_wp2_with fail
  refine (itoa_calls c.ok _ a1 (by omega)).mono ?_
  rintro e w1 ⟨rfl, f1⟩
  have c1 := f1.cellv (b := w.heap.size) (o := 1) (v := .int .i64 c.bad) (by simp [go_sem]) (by simp)
  have c2 := f1.cellv (b := w.heap.size) (o := 2) (v := .int .i64 c.er) (by simp [go_sem]) (by simp)
  have c3 := f1.cellv (b := w.heap.size) (o := 3) (v := .int .i64 c.it) (by simp [go_sem]) (by simp)
  have F1 : Hid (Fr [] w w1) := ((Fr.refl _ _).alloc _).trans f1 (by simp)
  clear f1
  go_wp2_with fail
  refine (itoa_calls c.bad _ a2 (by omega)).mono ?_
  rintro e w2 ⟨rfl, f2⟩
  replace c2 := f2.cellv c2 (by simp)
  replace c3 := f2.cellv c3 (by simp)
  have F2 : Hid (Fr [] w w2) := F1.out.trans f2 (by simp)
  clear f2 c1
  go_wp2_with fail
  refine (itoa_calls c.er _ a3 (by omega)).mono ?_
  rintro e w3 ⟨rfl, f3⟩
  replace c3 := f3.cellv c3 (by simp)
  have F3 : Hid (Fr [] w w3) := F2.out.trans f3 (by simp)
  clear f3 c2
  go_wp2_with fail
  refine (itoa_calls c.it _ a4 (by omega)).mono ?_
  rintro e w4 ⟨rfl, f4⟩
  have F4 : Hid (Fr [] w w4) := F3.out.trans f4 (by simp)
  clear f4 c3
  go_wp2_with fail
  go_ret
  exact ⟨S_congr HE.out, F4.out⟩

theorem itoa_inj : ∀ k, k < 21 → ∀ q, q < 21 → k ≠ q → V.itoa ((k : Nat) : Int) ≠ V.itoa ((q : Nat) : Int) := by decide
theorem run_eqlD (a b : List UInt8) (W : World) (h : ¬ a = b) : (binOp .eql 9 (S a) (S b)).run Try.prog W = .ok (.bool false) W := by
  simpa [S, binOp, go_sem, Op.stringOp] using h

set_option maxHeartbeats 1000000 in
set_option maxRecDepth 100000 in
theorem placed_calls (q n : Nat) (s : List UInt8) (w : World) (h1 : q ≤ n) (h2 : q ≤ 20) (hs : s = [64] ++ V.itoa (q : Int)) :
    Calls Try.prog 66 #[S s, .int .i64 n] w fun x w' => x = .returned (.bool true) ∧ Fr [] w w' := by
  have hgd := run_guardE
  have HS : Hid (s = [64] ++ V.itoa (q : Int)) := hs
  clear hs
  go_enter Try.func66, Try.ntmps66
  go_wp2_with fail
  go_loopw [5] (fun i w' => ∃ k : Nat, k ≤ q ∧ i = .int .i64 k ∧ Fr [] w w') (fun i _ => 21 - (intOf i).toNat)
  case atStart => exact ⟨0, by omega, rfl, Fr.refl _ _⟩
  case round =>
    obtain ⟨k, hk, rfl, hf⟩ := hrel
    have HF : Hid (Fr [] w wr) := hf
    have hkn : (k : Int) ≤ (n : Int) := by omega
    have hk20 : (k : Int) ≤ 20 := by omega
    have hil := itoa_len (k : Int)
    obtain ⟨y, ey, ha⟩ := add_ex [64] (V.itoa (k : Int)) (by simp; omega)
    change ∀ W, (binOp .add 9 (.string ⟨#[64]⟩) (S (V.itoa (k : Int)))).run Try.prog W = .ok (S y) W at ha
    have HY : Hid (y = [64] ++ V.itoa (k : Int)) := ey
    clear hf ey
    go_wp2_with fail
    refine (itoa_calls (k : Int) _ (by omega) (by omega)).mono ?_
    rintro e w1 ⟨rfl, f1⟩
    have F1 : Hid (Fr [] w w1) := HF.out.trans f1 (by simp)
    clear f1
    by_cases hkq : k = q
    · have hy : s = y := by rw [HS.out, HY.out, hkq]
      have he : ∀ W, (binOp .eql 9 (S s) (S y)).run Try.prog W = .ok (.bool true) W := fun W => by rw [hy]; exact run_eqlS _ W
      clear hy hkq
      go_wp2_with fail
      go_ret
      exact ⟨rfl, F1.out⟩
    · have he : ∀ W, (binOp .eql 9 (S s) (S y)).run Try.prog W = .ok (.bool false) W := fun W => run_eqlD _ _ W (fun e => by
        have := itoa_inj q (by omega) k (by omega) (by omega)
        rw [HS.out, HY.out] at e
        simp at e
        exact this e)
      go_wp2_with fail
      exact ⟨⟨k + 1, by omega, by simp, F1.out⟩, by simp [intOf]; omega⟩

end Go.Proofs.Qxb6500360a
