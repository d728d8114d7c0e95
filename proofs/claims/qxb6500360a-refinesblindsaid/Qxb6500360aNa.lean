/-
  REFINES: max0; the lower layers' own invariants.
-/
import Derived.Test.Qxb6500360aKb
namespace Go.Proofs.Qxb6500360a
open Go.RowKit
set_option linter.unusedSimpArgs false
set_option linter.unusedVariables false

set_option maxHeartbeats 1000000 in
set_option maxRecDepth 100000 in
theorem max0_calls (i : Int) (w : World) : Calls Try.prog 41 #[.int .i64 i] w fun e w' => e = .returned (.int .i64 (if i < 0 then 0 else i)) ∧ w' = w := by
  by_cases h : i < 0
  · rw [if_pos h]
    go_enter Try.func41, Try.ntmps41
    go_wp2_with fail
    go_ret
    exact ⟨rfl, rfl⟩
  · rw [if_neg h]
    go_enter Try.func41, Try.ntmps41
    go_wp2_with fail
    go_ret
    exact ⟨rfl, rfl⟩

theorem max0_nat (k : Nat) (w : World) : Calls Try.prog 41 #[.int .i64 (k : Int)] w fun e w' => e = .returned (.int .i64 (k : Int)) ∧ w' = w := by
  have h := max0_calls (k : Int) w
  rw [if_neg (by omega)] at h
  exact h
theorem max0_neg (w : World) : Calls Try.prog 41 #[.int .i64 (-1)] w fun e w' => e = .returned (.int .i64 0) ∧ w' = w := max0_calls (-1) w

set_option maxHeartbeats 1000000 in
set_option maxRecDepth 100000 in
theorem dcheck_calls (D T C R B L : Nat) (d : V.Ld) (w : World) (h : LdAt w D T C R B L d) :
    Calls Try.prog 70 #[.pointer (some ⟨D, 0, none⟩)] w fun e w' => e = .returned (.bool true) ∧ w' = w := by
  have HH : Hid (LdAt w D T C R B L d) := h
  have d1 := h.bk.d1
  have d2 := h.bk.d2
  have d3 := h.bk.d3
  obtain ⟨u0, u1⟩ := h.bk.ub
  have c0 := h.bk.cb 0 (by omega)
  have c1 := h.bk.cb 1 (by omega)
  have c2 := h.bk.cb 2 (by omega)
  have c3 := h.bk.cb 3 (by omega)
  obtain ⟨a0, b0⟩ := h.bk.bb 0 (by omega)
  obtain ⟨a1, b1⟩ := h.bk.bb 1 (by omega)
  obtain ⟨a2, b2⟩ := h.bk.bb 2 (by omega)
  obtain ⟨a3, b3⟩ := h.bk.bb 3 (by omega)
  clear h
  generalize V.bl d.bal 0 = x0 at *
  generalize V.bl d.bal 1 = x1 at *
  generalize V.bl d.bal 2 = x2 at *
  generalize V.bl d.bal 3 = x3 at *
  have n0 : ¬ x0 < 0 := by omega
  have n1 : ¬ x1 < 0 := by omega
  have n2 : ¬ x2 < 0 := by omega
  have n3 : ¬ x3 < 0 := by omega
  have m0 : ¬ 250 < x0 := by omega
  have m1 : ¬ 250 < x1 := by omega
  have m2 : ¬ 250 < x2 := by omega
  have m3 : ¬ 250 < x3 := by omega
  have nu : ¬ d.und < 0 := by omega
  have mu : ¬ 99 < d.und := by omega
  clear a0 a1 a2 a3 b0 b1 b2 b3 u0 u1
  go_enter Try.func70, Try.ntmps70
  go_wp2_with fail
  refine wp_loop_rounds 6 ?_
  repeat (rw [rounds_succ]; go_wp2_with fail)
  refine calls_same (audit_calls D T C R B L d w HH.out) ?_
  go_wp2_with fail
  go_ret
  exact ⟨rfl, rfl⟩

theorem count_take (l : List Bool) (k : Nat) (h : k < l.length) : (l.take (k + 1)).count true = (l.take k).count true + (if l.getD k false then 1 else 0) := by
  rw [List.take_succ_eq_append_getElem h, List.count_append, List.getD_eq_getElem?_getD, List.getElem?_eq_getElem h]
  cases l[k] <;> simp

set_option maxHeartbeats 1000000 in
set_option maxRecDepth 100000 in
theorem lcheck_calls (T C R : Nat) (t : V.Tb) (w : World) (h : TabAt w T C R t) :
    Calls Try.prog 71 #[.pointer (some ⟨T, 0, none⟩)] w fun e w' => e = .returned (.bool true) ∧ Fr [] w w' := by
  have HH : Hid (TabAt w T C R t) := h
  have c0 := h.c0
  have c2 := h.c2
  have c3 := h.c3
  have tl := h.wf.tr
  have ev := h.wf.ev
  have q1 : ¬ ((t.tr.length : Nat) : Int) < 0 := by omega
  have q2 : ¬ (24 : Int) < ((t.tr.length : Nat) : Int) := by omega
  have q1d : decide (((t.tr.length : Nat) : Int) < 0) = false := by simp
  have q2d : decide ((24 : Int) < ((t.tr.length : Nat) : Int)) = false := by simp; omega
  have q3 : ((t.tr.length : Nat) : Int).tmod 2 = 0 := by rw [Int.tmod_eq_emod_of_nonneg (by omega)]; omega
  have q4 : ((t.tr.length : Nat) : Int) % 2 = 0 := by omega
  clear h tl ev
  go_enter Try.func71, Try.ntmps71
  go_wp2_with fail
  go_quiet (fail)
  go_wp2_with fail
  clear q1d q2d
  go_loopw [3, 4] (fun n i w' => ∃ k : Nat, k ≤ 4 ∧ i = .int .i64 k ∧ n = .int .i64 (((t.op.take k).count true : Nat) : Int) ∧ Fr [] w w') (fun _ i _ => 4 - (intOf i).toNat)
  case atStart => exact ⟨0, by omega, rfl, by simp, (Fr.refl _ _).drewN _⟩
  case round =>
    obtain ⟨k, hk, rfl, rfl, hf⟩ := hrel
    have hT := HH.out.keep hf (by simp) (by simp) (by simp)
    have HF : Hid (Fr [] w wr) := hf
    have HT : Hid (TabAt wr T C R t) := hT
    have d0 := hT.c0
    have d1 := hT.c1
    clear hf hT c0 c2 c3
    by_cases hlt : k < 4
    · have co := HT.out.co k hlt
      have cg := HT.out.cg k hlt
      obtain ⟨g0, g1⟩ := V.Tb.g_bd HT.out.wf k
      have hct := count_take t.op k (by have := HT.out.wf.lo; omega)
      have hcl : (t.op.take k).count true ≤ 4 := by
        have := List.count_le_length (a := true) (l := t.op.take k)
        simp at this
        omega
      have n1 : ¬ t.g k < 0 := by omega
      have n2 : ¬ 4 ≤ t.g k := by omega
      have lC := lt_of_cell co
      have e1 : t.op.getD k false = t.o k := rfl
      rw [e1] at hct
      cases ho : t.o k with
      | true =>
        have hov : t.ov k = (k : Int) + 4 * t.g k := by simp [V.Tb.ov, ho]
        rw [hov] at co
        rw [ho] at hct
        simp only [if_true] at hct
        have HCT : Hid ((t.op.take (k + 1)).count true = (t.op.take k).count true + 1) := hct
        have hne : (((k : Int) + 4 * t.g k) != -1) = true := by rw [bne_iff_ne]; omega
        have w1 : IntKind.i64.wrap (4 * t.g k) = 4 * t.g k := i64w _ (by omega)
        have w2 : IntKind.i64.wrap ((k : Int) + 4 * t.g k) = (k : Int) + 4 * t.g k := i64w _ (by omega)
        clear hct hov e1 g0 g1
        generalize (t.op.take k).count true = nn at *
        have w3 : IntKind.i64.wrap ((nn : Int) + 1) = (nn : Int) + 1 := i64w _ (by omega)
        go_wp2_with fail
        exact ⟨⟨k + 1, by omega, by simp, by rw [HCT.out]; simp, HF.out.alloc _⟩, by simp [intOf]; omega⟩
      | false =>
        have hov : t.ov k = -1 := by simp [V.Tb.ov, ho]
        rw [hov] at co
        rw [ho] at hct
        have HCT : Hid ((t.op.take (k + 1)).count true = (t.op.take k).count true) := by show _ = _; simpa using hct
        clear hct hov e1 g0 g1
        go_wp2_with fail
        exact ⟨⟨k + 1, by omega, by simp, by rw [HCT.out], HF.out.alloc _⟩, by simp [intOf]; omega⟩
    · have hk4 : k = 4 := by omega
      subst hk4
      have hh : (((t.op.take 4).count true : Nat) : Int) = t.held := by
        have := HT.out.wf.lo
        rw [List.take_of_length_le (by omega)]
        rfl
      rw [hh]
      clear hh
      go_wp2_with fail
      go_ret
      exact ⟨rfl, HF.out⟩

set_option maxHeartbeats 1000000 in
set_option maxRecDepth 100000 in
theorem sound_calls (D T C R B L : Nat) (d : V.Ld) (w : World) (h : LdAt w D T C R B L d) :
    Calls Try.prog 47 #[.agg #[.pointer (some ⟨D, 0, none⟩), .pointer (some ⟨T, 0, none⟩)]] w fun e w' => e = .returned (.bool true) ∧ Fr [] w w' := by
  have HH : Hid (LdAt w D T C R B L d) := h
  clear h
  go_enter Try.func47, Try.ntmps47
  go_wp2_with fail
  refine calls_same (dcheck_calls D T C R B L d _ (HH.out.keep (X := []) ((Fr.refl _ _).alloc _) (by simp))) ?_
  go_wp2_with fail
  refine (lcheck_calls T C R d.t _ (HH.out.keep (X := []) ((Fr.refl _ _).alloc _) (by simp)).tb).mono ?_
  rintro e w1 ⟨rfl, f1⟩
  have F1 : Hid (Fr [] w w1) := ((Fr.refl _ _).alloc _).trans f1 (by simp)
  clear f1
  go_wp2_with fail
  go_ret
  exact ⟨rfl, F1.out⟩

end Go.Proofs.Qxb6500360a
