/-
  L1: AcquirePair.
-/
import Derived.Test.Qxb6500360aLk
import Derived.Defers
import Derived.Recover
namespace Go.Proofs.Qxb6500360a
open Go.RowKit
set_option linter.unusedSimpArgs false
set_option linter.unusedVariables false

set_option maxHeartbeats 400000 in
theorem pair1_ok (E T' H A B : Nat) (w : World) (ce : w.cell? ⟨E, 0, none⟩ = some (.int .i64 0)) :
    ∀ u, CallsD Try.prog 95 #[.pointer (some ⟨E, 0, none⟩), .pointer (some ⟨T', 0, none⟩), .pointer (some ⟨H, 0, none⟩), .pointer (some ⟨A, 0, none⟩), .pointer (some ⟨B, 0, none⟩)] u w
      fun e u' w' => u' = u ∧ e = .returned (.tuple #[]) ∧ w' = w := by
  intro u
  go_enter_d Try.func95, Try.ntmps95
  go_wp2
  go_end0
  exact ⟨rfl, rfl⟩

set_option maxHeartbeats 400000 in
theorem pair1_no (E T' H A B T C R : Nat) (e0 h x y : Int) (t : V.Tb) (w : World) (ht : TabAt w T C R t) (ce : w.cell? ⟨E, 0, none⟩ = some (.int .i64 e0)) (he : (e0 != 0) = true)
   (c1 : w.cell? ⟨T', 0, none⟩ = some (.pointer (some ⟨T, 0, none⟩))) (c2 : w.cell? ⟨H, 0, none⟩ = some (.int .i64 h)) (c3 : w.cell? ⟨A, 0, none⟩ = some (.int .i64 x))
   (c4 : w.cell? ⟨B, 0, none⟩ = some (.int .i64 y)) (f3 : w.frozen? ⟨A, 0, none⟩ = false) (f4 : w.frozen? ⟨B, 0, none⟩ = false)
   (nA : A ∉ [T, C, R]) (nB : B ∉ [T, C, R]) (nAB : A ≠ B) :
    ∀ u, CallsD Try.prog 95 #[.pointer (some ⟨E, 0, none⟩), .pointer (some ⟨T', 0, none⟩), .pointer (some ⟨H, 0, none⟩), .pointer (some ⟨A, 0, none⟩), .pointer (some ⟨B, 0, none⟩)] u w
      fun e u' w' => u' = u ∧ e = .returned (.tuple #[]) ∧ TabAt w' T C R (t.rel h).1 ∧ Fr [T, C, R, A, B] w w' ∧ w'.cell? ⟨A, 0, none⟩ = some (.int .i64 0) ∧ w'.cell? ⟨B, 0, none⟩ = some (.int .i64 0) := by
  intro u
  have HH : Hid (TabAt w T C R t) := ht
  have lA := lt_of_cell c3
  have lB := lt_of_cell c4
  clear ht
  go_enter_d Try.func95, Try.ntmps95
  go_wp2_with fail
  refine ((release_both T C R h t w HH.out).1).mono ?_
  rintro e w1 ⟨rfl, ht, hf⟩
  have cA := (hf.cell lA nA 0).trans c3
  have cB := (hf.cell lB nB 0).trans c4
  have fA := (hf.frozen lA nA 0).trans f3
  have fB := (hf.frozen lB nB 0).trans f4
  have HT : Hid (TabAt w1 T C R (t.rel h).1) := ht
  have HF : Hid (Fr [T, C, R] w w1) := hf
  clear ht hf c1 c2 c3 c4 ce f3 f4
  go_wp2_with fail
  go_end0
  simp only [List.mem_cons, List.not_mem_nil, or_false, not_or] at nA nB
  obtain ⟨a1, a2, a3⟩ := nA
  obtain ⟨b1, b2, b3⟩ := nB
  refine ⟨rfl, (HT.out.setCell _ (by simpa using fun h => a1 h.symm) (by simpa using fun h => a2 h.symm) (by simpa using fun h => a3 h.symm)).setCell _ (by simpa using fun h => b1 h.symm) (by simpa using fun h => b2 h.symm) (by simpa using fun h => b3 h.symm), ((HF.out.mono (fun x _ hx => by simp at hx ⊢; omega)).setCell (by simp) _).setCell (by simp) _, by simp [cell_set, cA, nAB.symm], by simp [cell_set, cB, nAB]⟩

theorem gone {P : Program} {fn : Func} {R : Ending → World → Prop} {a : Act} {w : World} (v : Value) (h0 : a.defers = []) (hr : (results fn a.tmps).run P w = .ok v w) (h : R (.returned v) w) :
    bodyPostD P fn R .ret a w := by
  show Leaves P fn a.tmps R a.defers .returning w
  rw [h0]
  exact ⟨v, hr, h⟩

set_option maxHeartbeats 400000 in
theorem pair_a (T C R : Nat) (a b : Int) (t : V.Tb) (w : World) (h : TabAt w T C R t) (hg : V.good a = false) :
    Calls Try.prog 82 #[.pointer (some ⟨T, 0, none⟩), .int .i64 a, .int .i64 b] w fun e w' => e = .returned (.tuple #[.int .i64 0, .int .i64 0, .int .i64 2]) ∧ TabAt w' T C R t ∧ Fr [T, C, R] w w' := by
  have HH : Hid (TabAt w T C R t) := h
  clear h
  go_enter_defers Try.func82, Try.ntmps82
  go_wp2_with (go_at_call 73; refine calls_same (good_calls _ _) ?_)
  refine gone (.tuple #[.int .i64 0, .int .i64 0, .int .i64 2]) rfl (by simp [results, Try.results82, go_sem]) ⟨rfl, ?_, ?_⟩
  · exact (((HH.out.alloc _).alloc _).alloc _).alloc _
  · exact ((((Fr.refl _ _).alloc _).alloc _).alloc _).alloc _

set_option maxHeartbeats 400000 in
theorem pair_b (T C R : Nat) (a b : Int) (t : V.Tb) (w : World) (h : TabAt w T C R t) (ha : V.good a = true) (hg : V.good b = false) :
    Calls Try.prog 82 #[.pointer (some ⟨T, 0, none⟩), .int .i64 a, .int .i64 b] w fun e w' => e = .returned (.tuple #[.int .i64 0, .int .i64 0, .int .i64 2]) ∧ TabAt w' T C R t ∧ Fr [T, C, R] w w' := by
  have HH : Hid (TabAt w T C R t) := h
  clear h
  go_enter_defers Try.func82, Try.ntmps82
  go_wp2_with (go_at_call 73; refine calls_same (good_calls _ _) ?_)
  refine gone (.tuple #[.int .i64 0, .int .i64 0, .int .i64 2]) rfl (by simp [results, Try.results82, go_sem]) ⟨rfl, ?_, ?_⟩
  · exact (((HH.out.alloc _).alloc _).alloc _).alloc _
  · exact ((((Fr.refl _ _).alloc _).alloc _).alloc _).alloc _

set_option maxHeartbeats 400000 in
theorem pair_same (T C R : Nat) (a : Int) (t : V.Tb) (w : World) (h : TabAt w T C R t) (ha : V.good a = true) :
    Calls Try.prog 82 #[.pointer (some ⟨T, 0, none⟩), .int .i64 a, .int .i64 a] w fun e w' => e = .returned (.tuple #[.int .i64 0, .int .i64 0, .int .i64 3]) ∧ TabAt w' T C R t ∧ Fr [T, C, R] w w' := by
  have HH : Hid (TabAt w T C R t) := h
  clear h
  go_enter_defers Try.func82, Try.ntmps82
  go_wp2_with (go_at_call 73; refine calls_same (good_calls _ _) ?_)
  refine gone (.tuple #[.int .i64 0, .int .i64 0, .int .i64 3]) rfl (by simp [results, Try.results82, go_sem]) ⟨rfl, ?_, ?_⟩
  · exact (((HH.out.alloc _).alloc _).alloc _).alloc _
  · exact ((((Fr.refl _ _).alloc _).alloc _).alloc _).alloc _

set_option maxHeartbeats 1000000 in
theorem pair_lt (T C R : Nat) (a b : Int) (t : V.Tb) (w : World) (h : TabAt w T C R t) (ha : V.good a = true) (hb : V.good b = true) (hab : a < b) :
    Calls Try.prog 82 #[.pointer (some ⟨T, 0, none⟩), .int .i64 a, .int .i64 b] w fun e w' => e = .returned (.tuple #[.int .i64 (t.pair a b).2.1, .int .i64 (t.pair a b).2.2.1, .int .i64 (t.pair a b).2.2.2]) ∧ TabAt w' T C R (t.pair a b).1 ∧ Fr [T, C, R] w w' := by
  have HH : Hid (TabAt w T C R t) := h
  have lT := h.lT
  have lC := h.lC
  have lR := h.lR
  have hne : (a == b) = false := by simp; omega
  clear h
  go_enter_defers Try.func82, Try.ntmps82
  go_wp2_with (go_at_call 73; refine calls_same (good_calls _ _) ?_)
  refine (acquire_calls T C R a t _ ((((HH.out.alloc _).alloc _).alloc _).alloc _)).mono ?_
  rintro e w1 ⟨rfl, ht, hf⟩
  have k0 : w1.cell? ⟨w.heap.size, 0, none⟩ = some (.pointer (some ⟨T, 0, none⟩)) := by rw [hf.cell (by simp; omega) (by simp; omega)]; simp [go_sem]
  have k1 : w1.cell? ⟨w.heap.size + 1, 0, none⟩ = some (.int .i64 0) := by rw [hf.cell (by simp) (by simp; omega)]; simp [go_sem]
  have k2 : w1.cell? ⟨w.heap.size + 1 + 1, 0, none⟩ = some (.int .i64 0) := by rw [hf.cell (by simp) (by simp; omega)]; simp [go_sem]
  have k3 : w1.cell? ⟨w.heap.size + 1 + 1 + 1, 0, none⟩ = some (.int .i64 0) := by rw [hf.cell (by simp) (by simp; omega)]; simp [go_sem]
  have g1 : w1.frozen? ⟨w.heap.size + 1, 0, none⟩ = false := by rw [hf.frozen (by simp) (by simp; omega)]; simp [go_sem]
  have g2 : w1.frozen? ⟨w.heap.size + 1 + 1, 0, none⟩ = false := by rw [hf.frozen (by simp) (by simp; omega)]; simp [go_sem]
  have g3 : w1.frozen? ⟨w.heap.size + 1 + 1 + 1, 0, none⟩ = false := by rw [hf.frozen (by simp) (by simp; omega)]; simp [go_sem]
  have hF1 : Fr [T, C, R] w w1 := (((((Fr.refl _ _).alloc _).alloc _).alloc _).alloc _).trans hf (fun _ _ h => h)
  have HF : Hid (Fr [T, C, R] w w1) := hF1
  have HT : Hid (TabAt w1 T C R (t.acq a).1) := ht
  clear hf hF1 ht
  generalize hE : w.heap.size + 1 + 1 + 1 = E at k3 g3 ⊢
  generalize hB : w.heap.size + 1 + 1 = B at k2 g2 ⊢
  generalize hA : w.heap.size + 1 = A at k1 g1 ⊢
  generalize hD : w.heap.size = D at k0 ⊢
  have s0 : w.heap.size ≤ D := by omega
  have s1 : w.heap.size ≤ A := by omega
  have s2 : w.heap.size ≤ B := by omega
  have s3 : w.heap.size ≤ E := by omega
  have l0 := lt_of_cell k0
  have l1 := lt_of_cell k1
  have l2 := lt_of_cell k2
  have l3 := lt_of_cell k3
  have n_D_A : ¬ D = A := by omega
  have n_A_D : ¬ A = D := by omega
  have n_D_B : ¬ D = B := by omega
  have n_B_D : ¬ B = D := by omega
  have n_D_E : ¬ D = E := by omega
  have n_E_D : ¬ E = D := by omega
  have n_A_B : ¬ A = B := by omega
  have n_B_A : ¬ B = A := by omega
  have n_A_E : ¬ A = E := by omega
  have n_E_A : ¬ E = A := by omega
  have n_B_E : ¬ B = E := by omega
  have n_E_B : ¬ E = B := by omega
  have n_D_T : ¬ D = T := by omega
  have n_T_D : ¬ T = D := by omega
  have n_D_C : ¬ D = C := by omega
  have n_C_D : ¬ C = D := by omega
  have n_D_R : ¬ D = R := by omega
  have n_R_D : ¬ R = D := by omega
  have n_A_T : ¬ A = T := by omega
  have n_T_A : ¬ T = A := by omega
  have n_A_C : ¬ A = C := by omega
  have n_C_A : ¬ C = A := by omega
  have n_A_R : ¬ A = R := by omega
  have n_R_A : ¬ R = A := by omega
  have n_B_T : ¬ B = T := by omega
  have n_T_B : ¬ T = B := by omega
  have n_B_C : ¬ B = C := by omega
  have n_C_B : ¬ C = B := by omega
  have n_B_R : ¬ B = R := by omega
  have n_R_B : ¬ R = B := by omega
  have n_E_T : ¬ E = T := by omega
  have n_T_E : ¬ T = E := by omega
  have n_E_C : ¬ E = C := by omega
  have n_C_E : ¬ C = E := by omega
  have n_E_R : ¬ E = R := by omega
  have n_R_E : ¬ R = E := by omega
  clear hE hB hA hD
  generalize hh1 : (t.acq a).2.1 = h1 at *
  generalize he1 : (t.acq a).2.2 = e1 at *
  generalize ht1 : (t.acq a).1 = t1 at *
  have HP : Hid (t.acq a = (t1, h1, e1)) := by show _ = _; rw [← hh1, ← he1, ← ht1]
  clear hh1 he1 ht1
  by_cases hz : e1 = 0
  · subst hz
    go_wp2_with fail
    refine (acquire_calls T C R b t1 _ ((HT.out.setCell _ (by assumption) (by assumption) (by assumption)).alloc _)).mono ?_
    rintro e w2 ⟨rfl, ht, hf⟩
    have m0 : w2.cell? ⟨D, 0, none⟩ = some (.pointer (some ⟨T, 0, none⟩)) := by rw [hf.cell (by simp; omega) (by simp; omega)]; simp [go_sem, cell_set, *]
    have m1 : w2.cell? ⟨A, 0, none⟩ = some (.int .i64 0) := by rw [hf.cell (by simp; omega) (by simp; omega)]; simp [go_sem, cell_set, *]
    have m2 : w2.cell? ⟨B, 0, none⟩ = some (.int .i64 0) := by rw [hf.cell (by simp; omega) (by simp; omega)]; simp [go_sem, cell_set, *]
    have m3 : w2.cell? ⟨E, 0, none⟩ = some (.int .i64 0) := by rw [hf.cell (by simp; omega) (by simp; omega)]; simp [go_sem, cell_set, *]
    have m4 : w2.cell? ⟨w1.heap.size, 0, none⟩ = some (.int .i64 h1) := by rw [hf.cell (by simp) (by simp; omega)]; simp [go_sem]
    have q1 : w2.frozen? ⟨A, 0, none⟩ = false := by rw [hf.frozen (by simp; omega) (by simp; omega)]; simp [go_sem, *]
    have q2 : w2.frozen? ⟨B, 0, none⟩ = false := by rw [hf.frozen (by simp; omega) (by simp; omega)]; simp [go_sem, *]
    have q3 : w2.frozen? ⟨E, 0, none⟩ = false := by rw [hf.frozen (by simp; omega) (by simp; omega)]; simp [go_sem, *]
    have hF2 : Fr [T, C, R] w w2 := (((HF.out.setCell (by intro h; exact absurd h (by simpa using s3)) _).alloc _)).trans hf (fun _ _ h => h)
    have HF2 : Hid (Fr [T, C, R] w w2) := hF2
    have HT2 : Hid (TabAt w2 T C R (t1.acq b).1) := ht
    have s4 : w.heap.size ≤ w1.heap.size := by omega
    generalize hH : w1.heap.size = H at m4 s4 l0 l1 l2 l3 ⊢
    clear hf hF2 ht k0 k1 k2 k3 g1 g2 g3 HT HF
    have n_H_D : ¬ H = D := by omega
    have n_D_H : ¬ D = H := by omega
    have n_H_A : ¬ H = A := by omega
    have n_A_H : ¬ A = H := by omega
    have n_H_B : ¬ H = B := by omega
    have n_B_H : ¬ B = H := by omega
    have n_H_E : ¬ H = E := by omega
    have n_E_H : ¬ E = H := by omega
    have n_H_T : ¬ H = T := by omega
    have n_T_H : ¬ T = H := by omega
    have n_H_C : ¬ H = C := by omega
    have n_C_H : ¬ C = H := by omega
    have n_H_R : ¬ H = R := by omega
    have n_R_H : ¬ R = H := by omega
    clear hH l0 l1 l2 l3
    have l0 := lt_of_cell m0
    have l1 := lt_of_cell m1
    have l2 := lt_of_cell m2
    have l3 := lt_of_cell m3
    have l4 := lt_of_cell m4
    generalize hh1 : (t1.acq b).2.1 = h2 at *
    generalize he1 : (t1.acq b).2.2 = e2 at *
    generalize ht1 : (t1.acq b).1 = t2 at *
    have HP2 : Hid (t1.acq b = (t2, h2, e2)) := by show _ = _; rw [← hh1, ← he1, ← ht1]
    clear hh1 he1 ht1
    go_wp2_with fail
    go_region
    go_wp2_with fail
    have c0 : (((((w2.setCell ⟨E, 0, none⟩ (.int .i64 e2)).setCell ⟨A, 0, none⟩ (.int .i64 h1)).setCell ⟨B, 0, none⟩ (.int .i64 h2)).setCell ⟨E, 0, none⟩ (.int .i64 e2)).drew).cell? ⟨D, 0, none⟩ = some (.pointer (some ⟨T, 0, none⟩)) := by simp [cell_set, *]
    have c1 : (((((w2.setCell ⟨E, 0, none⟩ (.int .i64 e2)).setCell ⟨A, 0, none⟩ (.int .i64 h1)).setCell ⟨B, 0, none⟩ (.int .i64 h2)).setCell ⟨E, 0, none⟩ (.int .i64 e2)).drew).cell? ⟨A, 0, none⟩ = some (.int .i64 h1) := by simp [cell_set, *]
    have c2 : (((((w2.setCell ⟨E, 0, none⟩ (.int .i64 e2)).setCell ⟨A, 0, none⟩ (.int .i64 h1)).setCell ⟨B, 0, none⟩ (.int .i64 h2)).setCell ⟨E, 0, none⟩ (.int .i64 e2)).drew).cell? ⟨B, 0, none⟩ = some (.int .i64 h2) := by simp [cell_set, *]
    have c3 : (((((w2.setCell ⟨E, 0, none⟩ (.int .i64 e2)).setCell ⟨A, 0, none⟩ (.int .i64 h1)).setCell ⟨B, 0, none⟩ (.int .i64 h2)).setCell ⟨E, 0, none⟩ (.int .i64 e2)).drew).cell? ⟨E, 0, none⟩ = some (.int .i64 e2) := by simp [cell_set, *]
    have c4 : (((((w2.setCell ⟨E, 0, none⟩ (.int .i64 e2)).setCell ⟨A, 0, none⟩ (.int .i64 h1)).setCell ⟨B, 0, none⟩ (.int .i64 h2)).setCell ⟨E, 0, none⟩ (.int .i64 e2)).drew).cell? ⟨H, 0, none⟩ = some (.int .i64 h1) := by simp [cell_set, *]
    have f1 : (((((w2.setCell ⟨E, 0, none⟩ (.int .i64 e2)).setCell ⟨A, 0, none⟩ (.int .i64 h1)).setCell ⟨B, 0, none⟩ (.int .i64 h2)).setCell ⟨E, 0, none⟩ (.int .i64 e2)).drew).frozen? ⟨A, 0, none⟩ = false := by simp [*]
    have f2 : (((((w2.setCell ⟨E, 0, none⟩ (.int .i64 e2)).setCell ⟨A, 0, none⟩ (.int .i64 h1)).setCell ⟨B, 0, none⟩ (.int .i64 h2)).setCell ⟨E, 0, none⟩ (.int .i64 e2)).drew).frozen? ⟨B, 0, none⟩ = false := by simp [*]
    have tW : TabAt (((((w2.setCell ⟨E, 0, none⟩ (.int .i64 e2)).setCell ⟨A, 0, none⟩ (.int .i64 h1)).setCell ⟨B, 0, none⟩ (.int .i64 h2)).setCell ⟨E, 0, none⟩ (.int .i64 e2)).drew) T C R t2 := by
      exact ((((HT2.out.setCell _ (by assumption) (by assumption) (by assumption)).setCell _ (by assumption) (by assumption) (by assumption)).setCell _ (by assumption) (by assumption) (by assumption)).setCell _ (by assumption) (by assumption) (by assumption)).drew
    have fW : Fr [T, C, R] w (((((w2.setCell ⟨E, 0, none⟩ (.int .i64 e2)).setCell ⟨A, 0, none⟩ (.int .i64 h1)).setCell ⟨B, 0, none⟩ (.int .i64 h2)).setCell ⟨E, 0, none⟩ (.int .i64 e2)).drew) := by
      exact ((((HF2.out.setCell (fun h => absurd h (by simpa using s3)) _).setCell (fun h => absurd h (by simpa using s1)) _).setCell (fun h => absurd h (by simpa using s2)) _).setCell (fun h => absurd h (by simpa using s3)) _).drew
    generalize ((((w2.setCell ⟨E, 0, none⟩ (.int .i64 e2)).setCell ⟨A, 0, none⟩ (.int .i64 h1)).setCell ⟨B, 0, none⟩ (.int .i64 h2)).setCell ⟨E, 0, none⟩ (.int .i64 e2)).drew = W at *
    refine leaves_cons (f := 95) (args := #[.pointer (some ⟨E, 0, none⟩), .pointer (some ⟨D, 0, none⟩), .pointer (some ⟨H, 0, none⟩), .pointer (some ⟨A, 0, none⟩), .pointer (some ⟨B, 0, none⟩)]) (by simp) (by simp [go_sem]) ?_
    by_cases hz : e2 = 0
    · subst hz
      refine (pair1_ok E D H A B W c3 _).mono ?_
      rintro e u w3 ⟨rfl, rfl, rfl⟩
      have hp : t.pair a b = (t2, h1, h2, 0) := by
        have hn : ¬ a = b := by omega
        have hn2 : ¬ b < a := by omega
        have hn3 : a < b := by omega
        simp [V.Tb.pair, ha, hb, hn, hn2, hn3, HP.out, HP2.out]
      rw [hp]
      exact ⟨.tuple #[.int .i64 h1, .int .i64 h2, .int .i64 0], by simp [results, Try.results82, go_sem, c1, c2, c3], rfl, tW, fW⟩
    · have hz' : (e2 != 0) = true := by simpa using hz
      refine (pair1_no E D H A B T C R e2 h1 _ _ t2 W tW c3 hz' c0 c4 c1 c2 f1 f2 (by simp [*]) (by simp [*]) (by assumption) _).mono ?_
      rintro e u w3 ⟨rfl, rfl, t3, f3, d1, d2⟩
      have d3 : w3.cell? ⟨E, 0, none⟩ = some (.int .i64 e2) := by rw [f3.cell (lt_of_cell c3) (by simp [*])]; exact c3
      have hp : t.pair a b = ((t2.rel h1).1, 0, 0, e2) := by
        have hn : ¬ a = b := by omega
        have hn2 : ¬ b < a := by omega
        have hn3 : a < b := by omega
        simp [V.Tb.pair, ha, hb, hn, hn2, hn3, HP.out, HP2.out, hz]
      rw [hp]
      exact ⟨.tuple #[.int .i64 0, .int .i64 0, .int .i64 e2], by simp [results, Try.results82, go_sem, d1, d2, d3], rfl, t3, fW.trans f3 (fun x hx hm => by simp at hm ⊢; omega)⟩
  · have hz' : (e1 != 0) = true := by simpa using hz
    go_wp2_with fail
    go_region
    go_wp2_with fail
    have hp : t.pair a b = (t1, 0, 0, e1) := by
      have hn : ¬ a = b := by omega
      have hn2 : ¬ b < a := by omega
      have hn3 : a < b := by omega
      simp [V.Tb.pair, ha, hb, hn, hn2, HP.out, hz]
    rw [hp]
    refine gone (.tuple #[.int .i64 0, .int .i64 0, .int .i64 e1]) rfl (by simp [results, Try.results82, go_sem, cell_set, *]) ⟨rfl, ?_, ?_⟩
    · exact (((((HT.out.setCell _ (by assumption) (by assumption) (by assumption)).setCell _ (by assumption) (by assumption) (by assumption)).setCell _ (by assumption) (by assumption) (by assumption)).setCell _ (by assumption) (by assumption) (by assumption)).alloc _).drew
    · exact (((((HF.out.setCell (fun h => absurd h (by simpa using s3)) _).setCell (fun h => absurd h (by simpa using s1)) _).setCell (fun h => absurd h (by simpa using s2)) _).setCell (fun h => absurd h (by simpa using s3)) _).alloc _).drew

set_option maxHeartbeats 1000000 in
theorem pair_gt (T C R : Nat) (a b : Int) (t : V.Tb) (w : World) (h : TabAt w T C R t) (ha : V.good a = true) (hb : V.good b = true) (hab : b < a) :
    Calls Try.prog 82 #[.pointer (some ⟨T, 0, none⟩), .int .i64 a, .int .i64 b] w fun e w' => e = .returned (.tuple #[.int .i64 (t.pair a b).2.1, .int .i64 (t.pair a b).2.2.1, .int .i64 (t.pair a b).2.2.2]) ∧ TabAt w' T C R (t.pair a b).1 ∧ Fr [T, C, R] w w' := by
  have HH : Hid (TabAt w T C R t) := h
  have lT := h.lT
  have lC := h.lC
  have lR := h.lR
  have hne : (a == b) = false := by simp; omega
  clear h
  go_enter_defers Try.func82, Try.ntmps82
  go_wp2_with (go_at_call 73; refine calls_same (good_calls _ _) ?_)
  refine (acquire_calls T C R b t _ ((((HH.out.alloc _).alloc _).alloc _).alloc _)).mono ?_
  rintro e w1 ⟨rfl, ht, hf⟩
  have k0 : w1.cell? ⟨w.heap.size, 0, none⟩ = some (.pointer (some ⟨T, 0, none⟩)) := by rw [hf.cell (by simp; omega) (by simp; omega)]; simp [go_sem]
  have k1 : w1.cell? ⟨w.heap.size + 1, 0, none⟩ = some (.int .i64 0) := by rw [hf.cell (by simp) (by simp; omega)]; simp [go_sem]
  have k2 : w1.cell? ⟨w.heap.size + 1 + 1, 0, none⟩ = some (.int .i64 0) := by rw [hf.cell (by simp) (by simp; omega)]; simp [go_sem]
  have k3 : w1.cell? ⟨w.heap.size + 1 + 1 + 1, 0, none⟩ = some (.int .i64 0) := by rw [hf.cell (by simp) (by simp; omega)]; simp [go_sem]
  have g1 : w1.frozen? ⟨w.heap.size + 1, 0, none⟩ = false := by rw [hf.frozen (by simp) (by simp; omega)]; simp [go_sem]
  have g2 : w1.frozen? ⟨w.heap.size + 1 + 1, 0, none⟩ = false := by rw [hf.frozen (by simp) (by simp; omega)]; simp [go_sem]
  have g3 : w1.frozen? ⟨w.heap.size + 1 + 1 + 1, 0, none⟩ = false := by rw [hf.frozen (by simp) (by simp; omega)]; simp [go_sem]
  have hF1 : Fr [T, C, R] w w1 := (((((Fr.refl _ _).alloc _).alloc _).alloc _).alloc _).trans hf (fun _ _ h => h)
  have HF : Hid (Fr [T, C, R] w w1) := hF1
  have HT : Hid (TabAt w1 T C R (t.acq b).1) := ht
  clear hf hF1 ht
  generalize hE : w.heap.size + 1 + 1 + 1 = E at k3 g3 ⊢
  generalize hB : w.heap.size + 1 + 1 = B at k2 g2 ⊢
  generalize hA : w.heap.size + 1 = A at k1 g1 ⊢
  generalize hD : w.heap.size = D at k0 ⊢
  have s0 : w.heap.size ≤ D := by omega
  have s1 : w.heap.size ≤ A := by omega
  have s2 : w.heap.size ≤ B := by omega
  have s3 : w.heap.size ≤ E := by omega
  have l0 := lt_of_cell k0
  have l1 := lt_of_cell k1
  have l2 := lt_of_cell k2
  have l3 := lt_of_cell k3
  have n_D_A : ¬ D = A := by omega
  have n_A_D : ¬ A = D := by omega
  have n_D_B : ¬ D = B := by omega
  have n_B_D : ¬ B = D := by omega
  have n_D_E : ¬ D = E := by omega
  have n_E_D : ¬ E = D := by omega
  have n_A_B : ¬ A = B := by omega
  have n_B_A : ¬ B = A := by omega
  have n_A_E : ¬ A = E := by omega
  have n_E_A : ¬ E = A := by omega
  have n_B_E : ¬ B = E := by omega
  have n_E_B : ¬ E = B := by omega
  have n_D_T : ¬ D = T := by omega
  have n_T_D : ¬ T = D := by omega
  have n_D_C : ¬ D = C := by omega
  have n_C_D : ¬ C = D := by omega
  have n_D_R : ¬ D = R := by omega
  have n_R_D : ¬ R = D := by omega
  have n_A_T : ¬ A = T := by omega
  have n_T_A : ¬ T = A := by omega
  have n_A_C : ¬ A = C := by omega
  have n_C_A : ¬ C = A := by omega
  have n_A_R : ¬ A = R := by omega
  have n_R_A : ¬ R = A := by omega
  have n_B_T : ¬ B = T := by omega
  have n_T_B : ¬ T = B := by omega
  have n_B_C : ¬ B = C := by omega
  have n_C_B : ¬ C = B := by omega
  have n_B_R : ¬ B = R := by omega
  have n_R_B : ¬ R = B := by omega
  have n_E_T : ¬ E = T := by omega
  have n_T_E : ¬ T = E := by omega
  have n_E_C : ¬ E = C := by omega
  have n_C_E : ¬ C = E := by omega
  have n_E_R : ¬ E = R := by omega
  have n_R_E : ¬ R = E := by omega
  clear hE hB hA hD
  generalize hh1 : (t.acq b).2.1 = h1 at *
  generalize he1 : (t.acq b).2.2 = e1 at *
  generalize ht1 : (t.acq b).1 = t1 at *
  have HP : Hid (t.acq b = (t1, h1, e1)) := by show _ = _; rw [← hh1, ← he1, ← ht1]
  clear hh1 he1 ht1
  by_cases hz : e1 = 0
  · subst hz
    go_wp2_with fail
    refine (acquire_calls T C R a t1 _ ((HT.out.setCell _ (by assumption) (by assumption) (by assumption)).alloc _)).mono ?_
    rintro e w2 ⟨rfl, ht, hf⟩
    have m0 : w2.cell? ⟨D, 0, none⟩ = some (.pointer (some ⟨T, 0, none⟩)) := by rw [hf.cell (by simp; omega) (by simp; omega)]; simp [go_sem, cell_set, *]
    have m1 : w2.cell? ⟨A, 0, none⟩ = some (.int .i64 0) := by rw [hf.cell (by simp; omega) (by simp; omega)]; simp [go_sem, cell_set, *]
    have m2 : w2.cell? ⟨B, 0, none⟩ = some (.int .i64 0) := by rw [hf.cell (by simp; omega) (by simp; omega)]; simp [go_sem, cell_set, *]
    have m3 : w2.cell? ⟨E, 0, none⟩ = some (.int .i64 0) := by rw [hf.cell (by simp; omega) (by simp; omega)]; simp [go_sem, cell_set, *]
    have m4 : w2.cell? ⟨w1.heap.size, 0, none⟩ = some (.int .i64 h1) := by rw [hf.cell (by simp) (by simp; omega)]; simp [go_sem]
    have q1 : w2.frozen? ⟨A, 0, none⟩ = false := by rw [hf.frozen (by simp; omega) (by simp; omega)]; simp [go_sem, *]
    have q2 : w2.frozen? ⟨B, 0, none⟩ = false := by rw [hf.frozen (by simp; omega) (by simp; omega)]; simp [go_sem, *]
    have q3 : w2.frozen? ⟨E, 0, none⟩ = false := by rw [hf.frozen (by simp; omega) (by simp; omega)]; simp [go_sem, *]
    have hF2 : Fr [T, C, R] w w2 := (((HF.out.setCell (by intro h; exact absurd h (by simpa using s3)) _).alloc _)).trans hf (fun _ _ h => h)
    have HF2 : Hid (Fr [T, C, R] w w2) := hF2
    have HT2 : Hid (TabAt w2 T C R (t1.acq a).1) := ht
    have s4 : w.heap.size ≤ w1.heap.size := by omega
    generalize hH : w1.heap.size = H at m4 s4 l0 l1 l2 l3 ⊢
    clear hf hF2 ht k0 k1 k2 k3 g1 g2 g3 HT HF
    have n_H_D : ¬ H = D := by omega
    have n_D_H : ¬ D = H := by omega
    have n_H_A : ¬ H = A := by omega
    have n_A_H : ¬ A = H := by omega
    have n_H_B : ¬ H = B := by omega
    have n_B_H : ¬ B = H := by omega
    have n_H_E : ¬ H = E := by omega
    have n_E_H : ¬ E = H := by omega
    have n_H_T : ¬ H = T := by omega
    have n_T_H : ¬ T = H := by omega
    have n_H_C : ¬ H = C := by omega
    have n_C_H : ¬ C = H := by omega
    have n_H_R : ¬ H = R := by omega
    have n_R_H : ¬ R = H := by omega
    clear hH l0 l1 l2 l3
    have l0 := lt_of_cell m0
    have l1 := lt_of_cell m1
    have l2 := lt_of_cell m2
    have l3 := lt_of_cell m3
    have l4 := lt_of_cell m4
    generalize hh1 : (t1.acq a).2.1 = h2 at *
    generalize he1 : (t1.acq a).2.2 = e2 at *
    generalize ht1 : (t1.acq a).1 = t2 at *
    have HP2 : Hid (t1.acq a = (t2, h2, e2)) := by show _ = _; rw [← hh1, ← he1, ← ht1]
    clear hh1 he1 ht1
    go_wp2_with fail
    go_region
    go_wp2_with fail
    have c0 : (((((w2.setCell ⟨E, 0, none⟩ (.int .i64 e2)).setCell ⟨A, 0, none⟩ (.int .i64 h2)).setCell ⟨B, 0, none⟩ (.int .i64 h1)).setCell ⟨E, 0, none⟩ (.int .i64 e2)).drew).cell? ⟨D, 0, none⟩ = some (.pointer (some ⟨T, 0, none⟩)) := by simp [cell_set, *]
    have c1 : (((((w2.setCell ⟨E, 0, none⟩ (.int .i64 e2)).setCell ⟨A, 0, none⟩ (.int .i64 h2)).setCell ⟨B, 0, none⟩ (.int .i64 h1)).setCell ⟨E, 0, none⟩ (.int .i64 e2)).drew).cell? ⟨A, 0, none⟩ = some (.int .i64 h2) := by simp [cell_set, *]
    have c2 : (((((w2.setCell ⟨E, 0, none⟩ (.int .i64 e2)).setCell ⟨A, 0, none⟩ (.int .i64 h2)).setCell ⟨B, 0, none⟩ (.int .i64 h1)).setCell ⟨E, 0, none⟩ (.int .i64 e2)).drew).cell? ⟨B, 0, none⟩ = some (.int .i64 h1) := by simp [cell_set, *]
    have c3 : (((((w2.setCell ⟨E, 0, none⟩ (.int .i64 e2)).setCell ⟨A, 0, none⟩ (.int .i64 h2)).setCell ⟨B, 0, none⟩ (.int .i64 h1)).setCell ⟨E, 0, none⟩ (.int .i64 e2)).drew).cell? ⟨E, 0, none⟩ = some (.int .i64 e2) := by simp [cell_set, *]
    have c4 : (((((w2.setCell ⟨E, 0, none⟩ (.int .i64 e2)).setCell ⟨A, 0, none⟩ (.int .i64 h2)).setCell ⟨B, 0, none⟩ (.int .i64 h1)).setCell ⟨E, 0, none⟩ (.int .i64 e2)).drew).cell? ⟨H, 0, none⟩ = some (.int .i64 h1) := by simp [cell_set, *]
    have f1 : (((((w2.setCell ⟨E, 0, none⟩ (.int .i64 e2)).setCell ⟨A, 0, none⟩ (.int .i64 h2)).setCell ⟨B, 0, none⟩ (.int .i64 h1)).setCell ⟨E, 0, none⟩ (.int .i64 e2)).drew).frozen? ⟨A, 0, none⟩ = false := by simp [*]
    have f2 : (((((w2.setCell ⟨E, 0, none⟩ (.int .i64 e2)).setCell ⟨A, 0, none⟩ (.int .i64 h2)).setCell ⟨B, 0, none⟩ (.int .i64 h1)).setCell ⟨E, 0, none⟩ (.int .i64 e2)).drew).frozen? ⟨B, 0, none⟩ = false := by simp [*]
    have tW : TabAt (((((w2.setCell ⟨E, 0, none⟩ (.int .i64 e2)).setCell ⟨A, 0, none⟩ (.int .i64 h2)).setCell ⟨B, 0, none⟩ (.int .i64 h1)).setCell ⟨E, 0, none⟩ (.int .i64 e2)).drew) T C R t2 := by
      exact ((((HT2.out.setCell _ (by assumption) (by assumption) (by assumption)).setCell _ (by assumption) (by assumption) (by assumption)).setCell _ (by assumption) (by assumption) (by assumption)).setCell _ (by assumption) (by assumption) (by assumption)).drew
    have fW : Fr [T, C, R] w (((((w2.setCell ⟨E, 0, none⟩ (.int .i64 e2)).setCell ⟨A, 0, none⟩ (.int .i64 h2)).setCell ⟨B, 0, none⟩ (.int .i64 h1)).setCell ⟨E, 0, none⟩ (.int .i64 e2)).drew) := by
      exact ((((HF2.out.setCell (fun h => absurd h (by simpa using s3)) _).setCell (fun h => absurd h (by simpa using s1)) _).setCell (fun h => absurd h (by simpa using s2)) _).setCell (fun h => absurd h (by simpa using s3)) _).drew
    generalize ((((w2.setCell ⟨E, 0, none⟩ (.int .i64 e2)).setCell ⟨A, 0, none⟩ (.int .i64 h2)).setCell ⟨B, 0, none⟩ (.int .i64 h1)).setCell ⟨E, 0, none⟩ (.int .i64 e2)).drew = W at *
    refine leaves_cons (f := 95) (args := #[.pointer (some ⟨E, 0, none⟩), .pointer (some ⟨D, 0, none⟩), .pointer (some ⟨H, 0, none⟩), .pointer (some ⟨A, 0, none⟩), .pointer (some ⟨B, 0, none⟩)]) (by simp) (by simp [go_sem]) ?_
    by_cases hz : e2 = 0
    · subst hz
      refine (pair1_ok E D H A B W c3 _).mono ?_
      rintro e u w3 ⟨rfl, rfl, rfl⟩
      have hp : t.pair a b = (t2, h2, h1, 0) := by
        have hn : ¬ a = b := by omega
        have hn2 : b < a := by omega
        have hn3 : ¬ a < b := by omega
        simp [V.Tb.pair, ha, hb, hn, hn2, hn3, HP.out, HP2.out]
      rw [hp]
      exact ⟨.tuple #[.int .i64 h2, .int .i64 h1, .int .i64 0], by simp [results, Try.results82, go_sem, c1, c2, c3], rfl, tW, fW⟩
    · have hz' : (e2 != 0) = true := by simpa using hz
      refine (pair1_no E D H A B T C R e2 h1 _ _ t2 W tW c3 hz' c0 c4 c1 c2 f1 f2 (by simp [*]) (by simp [*]) (by assumption) _).mono ?_
      rintro e u w3 ⟨rfl, rfl, t3, f3, d1, d2⟩
      have d3 : w3.cell? ⟨E, 0, none⟩ = some (.int .i64 e2) := by rw [f3.cell (lt_of_cell c3) (by simp [*])]; exact c3
      have hp : t.pair a b = ((t2.rel h1).1, 0, 0, e2) := by
        have hn : ¬ a = b := by omega
        have hn2 : b < a := by omega
        have hn3 : ¬ a < b := by omega
        simp [V.Tb.pair, ha, hb, hn, hn2, hn3, HP.out, HP2.out, hz]
      rw [hp]
      exact ⟨.tuple #[.int .i64 0, .int .i64 0, .int .i64 e2], by simp [results, Try.results82, go_sem, d1, d2, d3], rfl, t3, fW.trans f3 (fun x hx hm => by simp at hm ⊢; omega)⟩
  · have hz' : (e1 != 0) = true := by simpa using hz
    go_wp2_with fail
    go_region
    go_wp2_with fail
    have hp : t.pair a b = (t1, 0, 0, e1) := by
      have hn : ¬ a = b := by omega
      have hn2 : b < a := by omega
      have hn3 : ¬ a < b := by omega
      simp [V.Tb.pair, ha, hb, hn, hn2, HP.out, hz]
    rw [hp]
    refine gone (.tuple #[.int .i64 0, .int .i64 0, .int .i64 e1]) rfl (by simp [results, Try.results82, go_sem, cell_set, *]) ⟨rfl, ?_, ?_⟩
    · exact (((((HT.out.setCell _ (by assumption) (by assumption) (by assumption)).setCell _ (by assumption) (by assumption) (by assumption)).setCell _ (by assumption) (by assumption) (by assumption)).setCell _ (by assumption) (by assumption) (by assumption)).alloc _).drew
    · exact (((((HF.out.setCell (fun h => absurd h (by simpa using s3)) _).setCell (fun h => absurd h (by simpa using s1)) _).setCell (fun h => absurd h (by simpa using s2)) _).setCell (fun h => absurd h (by simpa using s3)) _).alloc _).drew

theorem pair_calls (T C R : Nat) (a b : Int) (t : V.Tb) (w : World) (h : TabAt w T C R t) :
    Calls Try.prog 82 #[.pointer (some ⟨T, 0, none⟩), .int .i64 a, .int .i64 b] w fun e w' => e = .returned (.tuple #[.int .i64 (t.pair a b).2.1, .int .i64 (t.pair a b).2.2.1, .int .i64 (t.pair a b).2.2.2]) ∧ TabAt w' T C R (t.pair a b).1 ∧ Fr [T, C, R] w w' := by
  cases ha : V.good a with
  | false =>
    have hp : t.pair a b = (t, 0, 0, 2) := by simp [V.Tb.pair, ha]
    rw [hp]; exact pair_a T C R a b t w h ha
  | true =>
    cases hb : V.good b with
    | false =>
      have hp : t.pair a b = (t, 0, 0, 2) := by simp [V.Tb.pair, hb]
      rw [hp]; exact pair_b T C R a b t w h ha hb
    | true =>
      by_cases hab : a = b
      · subst hab
        have hp : t.pair a a = (t, 0, 0, 3) := by simp [V.Tb.pair, ha]
        rw [hp]; exact pair_same T C R a t w h ha
      · by_cases hlt : a < b
        · exact pair_lt T C R a b t w h ha hb hlt
        · exact pair_gt T C R a b t w h ha hb (by omega)

end Go.Proofs.Qxb6500360a
