/-
  L2: the real ledger: Split.
-/
import Derived.Test.Qxb6500360aLe
namespace Go.Proofs.Qxb6500360a
open Go.RowKit
set_option linter.unusedSimpArgs false
set_option linter.unusedVariables false

set_option maxHeartbeats 1000000 in
set_option maxRecDepth 100000 in
theorem split_err (D T C R B L : Nat) (k parts : Int) (d : V.Ld) (w : World) (h : LdAt w D T C R B L d) (hp : 0 ≤ parts) (he : ¬ (d.t.clear.acq k).2.2 = 0) :
    Calls Try.prog 60 #[.pointer (some ⟨D, 0, none⟩), .int .i64 k, .int .i64 parts] w fun e w' => e = .returned (.tuple #[.int .i64 0, .int .i64 (d.t.clear.acq k).2.2]) ∧ LdAt w' D T C R B L { d with t := (d.t.clear.acq k).1 } ∧ Fr [D, T, C, R, B, L] w w' := by
  have d0 := h.bk.d0
  have HH : Hid (LdAt w D T C R B L d) := h
  have lD := h.bk.lD
  have lB := h.bk.lB
  have lL := h.bk.lL
  have lT := h.tb.lT
  have lC := h.tb.lC
  have lR := h.tb.lR
  clear h
  go_enter_defers Try.func60, Try.ntmps60
  go_wp2_with fail
  refine (clear_calls T C R d.t _ ((HH.out.tb.alloc _).alloc _)).mono ?_
  rintro e w1 ⟨rfl, ht1, hf1⟩
  have k0 : w1.cell? ⟨w.heap.size, 0, none⟩ = some (.int .i64 0) := by rw [hf1.cell (by simp; omega) (by simp; omega)]; simp [go_sem]
  have k1 : w1.cell? ⟨w.heap.size + 1, 0, none⟩ = some (.int .i64 0) := by rw [hf1.cell (by simp) (by simp; omega)]; simp [go_sem]
  have g0 : w1.frozen? ⟨w.heap.size, 0, none⟩ = false := by rw [hf1.frozen (by simp; omega) (by simp; omega)]; simp [go_sem]
  have g1 : w1.frozen? ⟨w.heap.size + 1, 0, none⟩ = false := by rw [hf1.frozen (by simp) (by simp; omega)]; simp [go_sem]
  have hb1 := (((HH.out.bk.alloc _).alloc _)).keepT HH.out.sp hf1
  have a0 := hb1.d0
  have HB1 : Hid (BkAt w1 D T B L d.bal [] d.und) := hb1
  have HT1 : Hid (TabAt w1 T C R d.t.clear) := ht1
  have HF1 : Hid (Fr [T, C, R] w w1) := (((Fr.refl _ _).alloc _).alloc _).trans hf1 (fun _ _ h => h)
  clear ht1 hf1 hb1 d0
  generalize hE : w.heap.size + 1 = E at k1 g1 ⊢
  generalize hN : w.heap.size = N at k0 g0 ⊢
  have s0 : w.heap.size ≤ N := by omega
  have s1 : w.heap.size ≤ E := by omega
  have n_N_E : ¬ N = E := by omega
  have n_E_N : ¬ E = N := by omega
  have n_N_D : ¬ N = D := by omega
  have n_D_N : ¬ D = N := by omega
  have n_N_B : ¬ N = B := by omega
  have n_B_N : ¬ B = N := by omega
  have n_N_L : ¬ N = L := by omega
  have n_L_N : ¬ L = N := by omega
  have n_N_T : ¬ N = T := by omega
  have n_T_N : ¬ T = N := by omega
  have n_N_C : ¬ N = C := by omega
  have n_C_N : ¬ C = N := by omega
  have n_N_R : ¬ N = R := by omega
  have n_R_N : ¬ R = N := by omega
  have n_E_D : ¬ E = D := by omega
  have n_D_E : ¬ D = E := by omega
  have n_E_B : ¬ E = B := by omega
  have n_B_E : ¬ B = E := by omega
  have n_E_L : ¬ E = L := by omega
  have n_L_E : ¬ L = E := by omega
  have n_E_T : ¬ E = T := by omega
  have n_T_E : ¬ T = E := by omega
  have n_E_C : ¬ E = C := by omega
  have n_C_E : ¬ C = E := by omega
  have n_E_R : ¬ E = R := by omega
  have n_R_E : ¬ R = E := by omega
  clear hE hN
  go_wp2_with fail
  refine (acquire_calls T C R k d.t.clear w1 HT1.out).mono ?_
  rintro e w2 ⟨rfl, ht2, hf2⟩
  have hb2 := HB1.out.keepT HH.out.sp hf2
  have m0 : w2.cell? ⟨N, 0, none⟩ = some (.int .i64 0) := by rw [hf2.cell (lt_of_cell k0) (by simp [*])]; exact k0
  have m1 : w2.cell? ⟨E, 0, none⟩ = some (.int .i64 0) := by rw [hf2.cell (lt_of_cell k1) (by simp [*])]; exact k1
  have q0 : w2.frozen? ⟨N, 0, none⟩ = false := by rw [hf2.frozen (lt_of_cell k0) (by simp [*])]; exact g0
  have q1 : w2.frozen? ⟨E, 0, none⟩ = false := by rw [hf2.frozen (lt_of_cell k1) (by simp [*])]; exact g1
  have b0 := hb2.d0
  have b1 := hb2.d1
  have HB2 : Hid (BkAt w2 D T B L d.bal [] d.und) := hb2
  have HT2 : Hid (TabAt w2 T C R (d.t.clear.acq k).1) := ht2
  have HF2 : Hid (Fr [T, C, R] w w2) := HF1.out.trans hf2 (fun _ _ h => h)
  have l0 := lt_of_cell m0
  have l1 := lt_of_cell m1
  clear ht2 hf2 a0 k0 k1 g0 g1
  generalize hh1 : (d.t.clear.acq k).2.1 = h1 at *
  generalize ht1 : (d.t.clear.acq k).1 = t1 at *
  generalize hee : (d.t.clear.acq k).2.2 = e1 at *
  have HP : Hid (d.t.clear.acq k = (t1, h1, e1)) := by show _ = _; rw [← hh1, ← hee, ← ht1]
  clear hh1 ht1 hee
  have he' : (e1 != 0) = true := by simpa using he
  clear hb2
  go_wp2_with fail
  refine leaves_cons (f := 80) (args := #[.pointer (some ⟨D, 0, none⟩), .pointer (some ⟨N, 0, none⟩), .pointer (some ⟨E, 0, none⟩)]) (by simp) (by simp [go_sem]) ?_
  refine (catch_idle D N E _).mono ?_
  rintro e u w3 ⟨rfl, rfl, rfl⟩
  rw [HP.out]
  refine ⟨.tuple #[.int .i64 0, .int .i64 e1], by simp [results, Try.results60, go_sem, cell_set, *], rfl, ⟨?_, ?_, HH.out.sp, HH.out.sum⟩, ?_⟩
  · exact ((HB2.out.setCell _ (by assumption) (by assumption) (by assumption)).setCell _ (by assumption) (by assumption) (by assumption)).setCell _ (by assumption) (by assumption) (by assumption)
  · exact ((HT2.out.setCell _ (by assumption) (by assumption) (by assumption)).setCell _ (by assumption) (by assumption) (by assumption)).setCell _ (by assumption) (by assumption) (by assumption)
  · exact (((HF2.out.setCell (fun h => absurd h (by simpa using s1)) _).setCell (fun h => absurd h (by simpa using s0)) _).setCell (fun h => absurd h (by simpa using s1)) _).wide

set_option maxHeartbeats 1000000 in
set_option maxRecDepth 100000 in
theorem split_ok (D T C R B L : Nat) (k parts : Int) (d : V.Ld) (w : World) (h : LdAt w D T C R B L d) (hp : 0 ≤ parts) (hpos : 0 < parts) (he : (d.t.clear.acq k).2.2 = 0) :
    Calls Try.prog 60 #[.pointer (some ⟨D, 0, none⟩), .int .i64 k, .int .i64 parts] w fun e w' => e = .returned (.tuple #[.int .i64 (V.bl d.bal k.toNat / parts), .int .i64 0]) ∧ LdAt w' D T C R B L { d with t := ((d.t.clear.acq k).1.rel (d.t.clear.acq k).2.1).1 } ∧ Fr [D, T, C, R, B, L] w w' := by
  obtain ⟨gk0, gk1⟩ := V.good_lt (acq_err he)
  obtain ⟨k, rfl⟩ := Int.eq_ofNat_of_zero_le gk0
  have d0 := h.bk.d0
  have HH : Hid (LdAt w D T C R B L d) := h
  have lD := h.bk.lD
  have lB := h.bk.lB
  have lL := h.bk.lL
  have lT := h.tb.lT
  have lC := h.tb.lC
  have lR := h.tb.lR
  clear h
  go_enter_defers Try.func60, Try.ntmps60
  go_wp2_with fail
  refine (clear_calls T C R d.t _ ((HH.out.tb.alloc _).alloc _)).mono ?_
  rintro e w1 ⟨rfl, ht1, hf1⟩
  have k0 : w1.cell? ⟨w.heap.size, 0, none⟩ = some (.int .i64 0) := by rw [hf1.cell (by simp; omega) (by simp; omega)]; simp [go_sem]
  have k1 : w1.cell? ⟨w.heap.size + 1, 0, none⟩ = some (.int .i64 0) := by rw [hf1.cell (by simp) (by simp; omega)]; simp [go_sem]
  have g0 : w1.frozen? ⟨w.heap.size, 0, none⟩ = false := by rw [hf1.frozen (by simp; omega) (by simp; omega)]; simp [go_sem]
  have g1 : w1.frozen? ⟨w.heap.size + 1, 0, none⟩ = false := by rw [hf1.frozen (by simp) (by simp; omega)]; simp [go_sem]
  have hb1 := (((HH.out.bk.alloc _).alloc _)).keepT HH.out.sp hf1
  have a0 := hb1.d0
  have HB1 : Hid (BkAt w1 D T B L d.bal [] d.und) := hb1
  have HT1 : Hid (TabAt w1 T C R d.t.clear) := ht1
  have HF1 : Hid (Fr [T, C, R] w w1) := (((Fr.refl _ _).alloc _).alloc _).trans hf1 (fun _ _ h => h)
  clear ht1 hf1 hb1 d0
  generalize hE : w.heap.size + 1 = E at k1 g1 ⊢
  generalize hN : w.heap.size = N at k0 g0 ⊢
  have s0 : w.heap.size ≤ N := by omega
  have s1 : w.heap.size ≤ E := by omega
  have n_N_E : ¬ N = E := by omega
  have n_E_N : ¬ E = N := by omega
  have n_N_D : ¬ N = D := by omega
  have n_D_N : ¬ D = N := by omega
  have n_N_B : ¬ N = B := by omega
  have n_B_N : ¬ B = N := by omega
  have n_N_L : ¬ N = L := by omega
  have n_L_N : ¬ L = N := by omega
  have n_N_T : ¬ N = T := by omega
  have n_T_N : ¬ T = N := by omega
  have n_N_C : ¬ N = C := by omega
  have n_C_N : ¬ C = N := by omega
  have n_N_R : ¬ N = R := by omega
  have n_R_N : ¬ R = N := by omega
  have n_E_D : ¬ E = D := by omega
  have n_D_E : ¬ D = E := by omega
  have n_E_B : ¬ E = B := by omega
  have n_B_E : ¬ B = E := by omega
  have n_E_L : ¬ E = L := by omega
  have n_L_E : ¬ L = E := by omega
  have n_E_T : ¬ E = T := by omega
  have n_T_E : ¬ T = E := by omega
  have n_E_C : ¬ E = C := by omega
  have n_C_E : ¬ C = E := by omega
  have n_E_R : ¬ E = R := by omega
  have n_R_E : ¬ R = E := by omega
  clear hE hN
  go_wp2_with fail
  refine (acquire_calls T C R k d.t.clear w1 HT1.out).mono ?_
  rintro e w2 ⟨rfl, ht2, hf2⟩
  have hb2 := HB1.out.keepT HH.out.sp hf2
  have m0 : w2.cell? ⟨N, 0, none⟩ = some (.int .i64 0) := by rw [hf2.cell (lt_of_cell k0) (by simp [*])]; exact k0
  have m1 : w2.cell? ⟨E, 0, none⟩ = some (.int .i64 0) := by rw [hf2.cell (lt_of_cell k1) (by simp [*])]; exact k1
  have q0 : w2.frozen? ⟨N, 0, none⟩ = false := by rw [hf2.frozen (lt_of_cell k0) (by simp [*])]; exact g0
  have q1 : w2.frozen? ⟨E, 0, none⟩ = false := by rw [hf2.frozen (lt_of_cell k1) (by simp [*])]; exact g1
  have b0 := hb2.d0
  have b1 := hb2.d1
  have HB2 : Hid (BkAt w2 D T B L d.bal [] d.und) := hb2
  have HT2 : Hid (TabAt w2 T C R (d.t.clear.acq k).1) := ht2
  have HF2 : Hid (Fr [T, C, R] w w2) := HF1.out.trans hf2 (fun _ _ h => h)
  have l0 := lt_of_cell m0
  have l1 := lt_of_cell m1
  clear ht2 hf2 a0 k0 k1 g0 g1
  generalize hh1 : (d.t.clear.acq k).2.1 = h1 at *
  generalize ht1 : (d.t.clear.acq k).1 = t1 at *
  generalize hee : (d.t.clear.acq k).2.2 = e1 at *
  have HP : Hid (d.t.clear.acq k = (t1, h1, e1)) := by show _ = _; rw [← hh1, ← hee, ← ht1]
  clear hh1 ht1 hee
  have cb := hb2.cb k (by omega)
  obtain ⟨bb0, bb1⟩ := hb2.bb k (by omega)
  have hnz : ¬ parts = 0 := by omega
  subst he
  clear hb2
  go_wp2_with fail
  refine leaves_cons (f := 50) (args := #[.pointer (some ⟨T, 0, none⟩), .int .i64 h1]) (by simp) (by simp [go_sem]) ?_
  have tW := ((HT2.out.setCell (a := ⟨E, 0, none⟩) (.int .i64 0) (by assumption) (by assumption) (by assumption)).setCell (a := ⟨N, 0, none⟩) (.int .i64 (V.bl d.bal k / parts)) (by assumption) (by assumption) (by assumption)).setCell (a := ⟨E, 0, none⟩) (.int .i64 0) (by assumption) (by assumption) (by assumption)
  have bW := ((HB2.out.setCell (a := ⟨E, 0, none⟩) (.int .i64 0) (by assumption) (by assumption) (by assumption)).setCell (a := ⟨N, 0, none⟩) (.int .i64 (V.bl d.bal k / parts)) (by assumption) (by assumption) (by assumption)).setCell (a := ⟨E, 0, none⟩) (.int .i64 0) (by assumption) (by assumption) (by assumption)
  have fW := ((HF2.out.setCell (p := ⟨E, 0, none⟩) (fun h => absurd h (by simpa using s1)) (.int .i64 0)).setCell (p := ⟨N, 0, none⟩) (fun h => absurd h (by simpa using s0)) (.int .i64 (V.bl d.bal k / parts))).setCell (p := ⟨E, 0, none⟩) (fun h => absurd h (by simpa using s1)) (.int .i64 0)
  have c0 : (((w2.setCell ⟨E, 0, none⟩ (.int .i64 0)).setCell ⟨N, 0, none⟩ (.int .i64 (V.bl d.bal k / parts))).setCell ⟨E, 0, none⟩ (.int .i64 0)).cell? ⟨N, 0, none⟩ = some (.int .i64 (V.bl d.bal k / parts)) := by simp [cell_set, *]
  have c1 : (((w2.setCell ⟨E, 0, none⟩ (.int .i64 0)).setCell ⟨N, 0, none⟩ (.int .i64 (V.bl d.bal k / parts))).setCell ⟨E, 0, none⟩ (.int .i64 0)).cell? ⟨E, 0, none⟩ = some (.int .i64 0) := by simp [cell_set, *]
  generalize (((w2.setCell ⟨E, 0, none⟩ (.int .i64 0)).setCell ⟨N, 0, none⟩ (.int .i64 (V.bl d.bal k / parts))).setCell ⟨E, 0, none⟩ (.int .i64 0)) = W at *
  refine ((release_both T C R h1 t1 W tW).2 _).mono ?_
  rintro e u w3 ⟨rfl, rfl, ht3, hf3⟩
  refine leaves_cons (f := 80) (args := #[.pointer (some ⟨D, 0, none⟩), .pointer (some ⟨N, 0, none⟩), .pointer (some ⟨E, 0, none⟩)]) (by simp [settle]) (by simp [go_sem]) ?_
  refine (catch_idle D N E _).mono ?_
  rintro e u w4 ⟨rfl, rfl, rfl⟩
  rw [HP.out]
  have e0 : w4.cell? ⟨N, 0, none⟩ = some (.int .i64 (V.bl d.bal k / parts)) := by rw [hf3.cell (lt_of_cell c0) (by simp [*])]; exact c0
  have e1 : w4.cell? ⟨E, 0, none⟩ = some (.int .i64 0) := by rw [hf3.cell (lt_of_cell c1) (by simp [*])]; exact c1
  exact ⟨.tuple #[.int .i64 (V.bl d.bal k / parts), .int .i64 0], by simp [results, Try.results60, go_sem, e0, e1], rfl, ⟨bW.keepT HH.out.sp hf3, ht3, HH.out.sp, HH.out.sum⟩, (fW.trans hf3 (fun _ _ h => h)).wide⟩

set_option maxHeartbeats 1000000 in
set_option maxRecDepth 100000 in
theorem split_zero (D T C R B L : Nat) (k : Int) (d : V.Ld) (w : World) (h : LdAt w D T C R B L d) (he : (d.t.clear.acq k).2.2 = 0) :
    Calls Try.prog 60 #[.pointer (some ⟨D, 0, none⟩), .int .i64 k, .int .i64 0] w fun e w' => (∃ t x older, e = .panicked ({ v := .iface t x, recovered := false } :: older) ∧ ¬ t = 53 ∧ ∀ p ∈ older, p.goexit = false) ∧ LdAt w' D T C R B L { d with t := ((d.t.clear.acq k).1.rel (d.t.clear.acq k).2.1).1 } ∧ Fr [D, T, C, R, B, L] w w' := by
  obtain ⟨gk0, gk1⟩ := V.good_lt (acq_err he)
  obtain ⟨k, rfl⟩ := Int.eq_ofNat_of_zero_le gk0
  have d0 := h.bk.d0
  have HH : Hid (LdAt w D T C R B L d) := h
  have lD := h.bk.lD
  have lB := h.bk.lB
  have lL := h.bk.lL
  have lT := h.tb.lT
  have lC := h.tb.lC
  have lR := h.tb.lR
  clear h
  go_enter_defers Try.func60, Try.ntmps60
  go_wp2_with fail
  refine (clear_calls T C R d.t _ ((HH.out.tb.alloc _).alloc _)).mono ?_
  rintro e w1 ⟨rfl, ht1, hf1⟩
  have k0 : w1.cell? ⟨w.heap.size, 0, none⟩ = some (.int .i64 0) := by rw [hf1.cell (by simp; omega) (by simp; omega)]; simp [go_sem]
  have k1 : w1.cell? ⟨w.heap.size + 1, 0, none⟩ = some (.int .i64 0) := by rw [hf1.cell (by simp) (by simp; omega)]; simp [go_sem]
  have g0 : w1.frozen? ⟨w.heap.size, 0, none⟩ = false := by rw [hf1.frozen (by simp; omega) (by simp; omega)]; simp [go_sem]
  have g1 : w1.frozen? ⟨w.heap.size + 1, 0, none⟩ = false := by rw [hf1.frozen (by simp) (by simp; omega)]; simp [go_sem]
  have hb1 := (((HH.out.bk.alloc _).alloc _)).keepT HH.out.sp hf1
  have a0 := hb1.d0
  have HB1 : Hid (BkAt w1 D T B L d.bal [] d.und) := hb1
  have HT1 : Hid (TabAt w1 T C R d.t.clear) := ht1
  have HF1 : Hid (Fr [T, C, R] w w1) := (((Fr.refl _ _).alloc _).alloc _).trans hf1 (fun _ _ h => h)
  clear ht1 hf1 hb1 d0
  generalize hE : w.heap.size + 1 = E at k1 g1 ⊢
  generalize hN : w.heap.size = N at k0 g0 ⊢
  have s0 : w.heap.size ≤ N := by omega
  have s1 : w.heap.size ≤ E := by omega
  have n_N_E : ¬ N = E := by omega
  have n_E_N : ¬ E = N := by omega
  have n_N_D : ¬ N = D := by omega
  have n_D_N : ¬ D = N := by omega
  have n_N_B : ¬ N = B := by omega
  have n_B_N : ¬ B = N := by omega
  have n_N_L : ¬ N = L := by omega
  have n_L_N : ¬ L = N := by omega
  have n_N_T : ¬ N = T := by omega
  have n_T_N : ¬ T = N := by omega
  have n_N_C : ¬ N = C := by omega
  have n_C_N : ¬ C = N := by omega
  have n_N_R : ¬ N = R := by omega
  have n_R_N : ¬ R = N := by omega
  have n_E_D : ¬ E = D := by omega
  have n_D_E : ¬ D = E := by omega
  have n_E_B : ¬ E = B := by omega
  have n_B_E : ¬ B = E := by omega
  have n_E_L : ¬ E = L := by omega
  have n_L_E : ¬ L = E := by omega
  have n_E_T : ¬ E = T := by omega
  have n_T_E : ¬ T = E := by omega
  have n_E_C : ¬ E = C := by omega
  have n_C_E : ¬ C = E := by omega
  have n_E_R : ¬ E = R := by omega
  have n_R_E : ¬ R = E := by omega
  clear hE hN
  go_wp2_with fail
  refine (acquire_calls T C R k d.t.clear w1 HT1.out).mono ?_
  rintro e w2 ⟨rfl, ht2, hf2⟩
  have hb2 := HB1.out.keepT HH.out.sp hf2
  have m0 : w2.cell? ⟨N, 0, none⟩ = some (.int .i64 0) := by rw [hf2.cell (lt_of_cell k0) (by simp [*])]; exact k0
  have m1 : w2.cell? ⟨E, 0, none⟩ = some (.int .i64 0) := by rw [hf2.cell (lt_of_cell k1) (by simp [*])]; exact k1
  have q0 : w2.frozen? ⟨N, 0, none⟩ = false := by rw [hf2.frozen (lt_of_cell k0) (by simp [*])]; exact g0
  have q1 : w2.frozen? ⟨E, 0, none⟩ = false := by rw [hf2.frozen (lt_of_cell k1) (by simp [*])]; exact g1
  have b0 := hb2.d0
  have b1 := hb2.d1
  have HB2 : Hid (BkAt w2 D T B L d.bal [] d.und) := hb2
  have HT2 : Hid (TabAt w2 T C R (d.t.clear.acq k).1) := ht2
  have HF2 : Hid (Fr [T, C, R] w w2) := HF1.out.trans hf2 (fun _ _ h => h)
  have l0 := lt_of_cell m0
  have l1 := lt_of_cell m1
  clear ht2 hf2 a0 k0 k1 g0 g1
  generalize hh1 : (d.t.clear.acq k).2.1 = h1 at *
  generalize ht1 : (d.t.clear.acq k).1 = t1 at *
  generalize hee : (d.t.clear.acq k).2.2 = e1 at *
  have HP : Hid (d.t.clear.acq k = (t1, h1, e1)) := by show _ = _; rw [← hh1, ← hee, ← ht1]
  clear hh1 ht1 hee
  have cb := hb2.cb k (by omega)
  obtain ⟨bb0, bb1⟩ := hb2.bb k (by omega)
  subst he
  clear hb2
  go_wp2_with fail
  refine leaves_cons (f := 50) (args := #[.pointer (some ⟨T, 0, none⟩), .int .i64 h1]) (by simp) (by simp [go_sem]) ?_
  have tW := HT2.out.setCell (a := ⟨E, 0, none⟩) (.int .i64 0) (by assumption) (by assumption) (by assumption)
  have bW := HB2.out.setCell (a := ⟨E, 0, none⟩) (.int .i64 0) (by assumption) (by assumption) (by assumption)
  have fW := HF2.out.setCell (p := ⟨E, 0, none⟩) (fun h => absurd h (by simpa using s1)) (.int .i64 0)
  generalize (w2.setCell ⟨E, 0, none⟩ (.int .i64 0)) = W at *
  refine ((release_both T C R h1 t1 W tW).2 _).mono ?_
  rintro e u w3 ⟨rfl, rfl, ht3, hf3⟩
  refine leaves_cons (f := 80) (args := #[.pointer (some ⟨D, 0, none⟩), .pointer (some ⟨N, 0, none⟩), .pointer (some ⟨E, 0, none⟩)]) (by simp [settle]) (by simp [go_sem]) ?_
  refine (catch_other D N E 10 _ (by decide) [] _).mono ?_
  rintro e u w4 ⟨rfl, rfl, rfl⟩
  rw [HP.out]
  exact ⟨⟨10, _, _, rfl, by decide, by simp⟩, ⟨bW.keepT HH.out.sp hf3, ht3, HH.out.sp, HH.out.sum⟩, (fW.trans hf3 (fun _ _ h => h)).wide⟩

end Go.Proofs.Qxb6500360a
