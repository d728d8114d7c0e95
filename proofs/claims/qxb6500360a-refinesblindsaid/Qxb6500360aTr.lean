/-
  L2: the real ledger: Transfer.
-/
import Derived.Test.Qxb6500360aLh
namespace Go.Proofs.Qxb6500360a
open Go.RowKit
set_option linter.unusedSimpArgs false
set_option linter.unusedVariables false

set_option maxHeartbeats 2000000 in
set_option maxRecDepth 100000 in
theorem transfer_bad (D T C R B L : Nat) (m : V.Mv) (d : V.Ld) (w : World) (h : LdAt w D T C R B L d) (hc : ¬ V.check m = 0) :
    Calls Try.prog 61 #[.pointer (some ⟨D, 0, none⟩), .int .i64 m.f, .int .i64 m.t, .int .i64 m.a] w fun e w' => e = .returned (.tuple #[.int .i64 (d.transfer m).2.1, .int .i64 (d.transfer m).2.2]) ∧ LdAt w' D T C R B L (d.transfer m).1 ∧ Fr [D, T, C, R, B, L] w w' := by
  have d0 := h.bk.d0
  have HH : Hid (LdAt w D T C R B L d) := h
  have lD := h.bk.lD
  have lB := h.bk.lB
  have lL := h.bk.lL
  have lT := h.tb.lT
  have lC := h.tb.lC
  have lR := h.tb.lR
  have n_D_B := h.bk.nDB
  have n_D_L := h.bk.nDL
  have n_B_L := h.bk.nBL
  have sp := h.sp
  clear h
  go_enter_defers Try.func61, Try.ntmps61
  go_wp2_with fail
  refine (clear_calls T C R d.t _ ((HH.out.tb.alloc _).alloc _)).mono ?_
  rintro e w1 ⟨rfl, ht1, hf1⟩
  have k0 : w1.cell? ⟨w.heap.size, 0, none⟩ = some (.int .i64 0) := by rw [hf1.cell (by simp; omega) (by simp; omega)]; simp [go_sem]
  have k1 : w1.cell? ⟨w.heap.size + 1, 0, none⟩ = some (.int .i64 0) := by rw [hf1.cell (by simp) (by simp; omega)]; simp [go_sem]
  have g0 : w1.frozen? ⟨w.heap.size, 0, none⟩ = false := by rw [hf1.frozen (by simp; omega) (by simp; omega)]; simp [go_sem]
  have g1 : w1.frozen? ⟨w.heap.size + 1, 0, none⟩ = false := by rw [hf1.frozen (by simp) (by simp; omega)]; simp [go_sem]
  have hb1 := (((HH.out.bk.alloc _).alloc _)).keepT HH.out.sp hf1
  have HB1 : Hid (BkAt w1 D T B L d.bal [] d.und) := hb1
  have HT1 : Hid (TabAt w1 T C R d.t.clear) := ht1
  have HF1 : Hid (Fr [T, C, R] w w1) := (((Fr.refl _ _).alloc _).alloc _).trans hf1 (fun _ _ h => h)
  have lT1 := ht1.lT
  have lC1 := ht1.lC
  have lR1 := ht1.lR
  have lD1 := hb1.lD
  have lB1 := hb1.lB
  have lL1 := hb1.lL
  clear ht1 hf1 hb1 d0
  generalize hE : w.heap.size + 1 = E at k1 g1 ⊢
  generalize hN : w.heap.size = N at k0 g0 ⊢
  have s0 : w.heap.size ≤ N := by omega
  have s1 : w.heap.size ≤ E := by omega
  have n_N_E : ¬ N = E := by omega
  have n_E_N : ¬ E = N := by omega
  have n_N_D : ¬ N = D := by omega
  have n_D_N : ¬ D = N := by omega
  have n_N_B : ¬ N = B := by omega
  have n_B_N : ¬ B = N := by omega
  have n_N_L : ¬ N = L := by omega
  have n_L_N : ¬ L = N := by omega
  have n_N_T : ¬ N = T := by omega
  have n_T_N : ¬ T = N := by omega
  have n_N_C : ¬ N = C := by omega
  have n_C_N : ¬ C = N := by omega
  have n_N_R : ¬ N = R := by omega
  have n_R_N : ¬ R = N := by omega
  have n_E_D : ¬ E = D := by omega
  have n_D_E : ¬ D = E := by omega
  have n_E_B : ¬ E = B := by omega
  have n_B_E : ¬ B = E := by omega
  have n_E_L : ¬ E = L := by omega
  have n_L_E : ¬ L = E := by omega
  have n_E_T : ¬ E = T := by omega
  have n_T_E : ¬ T = E := by omega
  have n_E_C : ¬ E = C := by omega
  have n_C_E : ¬ C = E := by omega
  have n_E_R : ¬ E = R := by omega
  have n_R_E : ¬ R = E := by omega
  clear hE hN
  have l0 := lt_of_cell k0
  have l1 := lt_of_cell k1
  go_wp2_with fail
  refine (check_calls m _).mono ?_
  rintro e w2 ⟨rfl, hf2⟩
  have m0 : w2.cell? ⟨N, 0, none⟩ = some (.int .i64 0) := by rw [hf2.cell (by simp; omega) (by simp), cell_alloc _ _ _ _ l0]; exact k0
  have m1 : w2.cell? ⟨E, 0, none⟩ = some (.int .i64 0) := by rw [hf2.cell (by simp; omega) (by simp), cell_alloc _ _ _ _ l1]; exact k1
  have q0 : w2.frozen? ⟨N, 0, none⟩ = false := by rw [hf2.frozen (by simp; omega) (by simp), frozen_alloc _ _ _ _ l0]; exact g0
  have q1 : w2.frozen? ⟨E, 0, none⟩ = false := by rw [hf2.frozen (by simp; omega) (by simp), frozen_alloc _ _ _ _ l1]; exact g1
  have m2 : w2.cell? ⟨w1.heap.size, 0, none⟩ = some (.int .i64 m.f) := by rw [hf2.cell (by simp) (by simp)]; simp [go_sem]
  have m3 : w2.cell? ⟨w1.heap.size, 1, none⟩ = some (.int .i64 m.t) := by rw [hf2.cell (by simp) (by simp)]; simp [go_sem]
  have m4 : w2.cell? ⟨w1.heap.size, 2, none⟩ = some (.int .i64 m.a) := by rw [hf2.cell (by simp) (by simp)]; simp [go_sem]
  have hb2 := (HB1.out.alloc _).keep hf2 (by simp) (by simp) (by simp)
  have ht2 := (HT1.out.alloc _).keep hf2 (by simp) (by simp) (by simp)
  have HB2 : Hid (BkAt w2 D T B L d.bal [] d.und) := hb2
  have HT2 : Hid (TabAt w2 T C R d.t.clear) := ht2
  have HF2 : Hid (Fr [T, C, R] w w2) := (HF1.out.alloc _).trans hf2 (by simp)
  have b0 := hb2.d0
  have s2 : w.heap.size ≤ w1.heap.size := by omega
  generalize hM : w1.heap.size = M at m2 m3 m4 s2 l0 l1 lT1 lC1 lR1 lD1 lB1 lL1 ⊢
  have n_M_N : ¬ M = N := by omega
  have n_N_M : ¬ N = M := by omega
  have n_M_E : ¬ M = E := by omega
  have n_E_M : ¬ E = M := by omega
  have n_M_D : ¬ M = D := by omega
  have n_D_M : ¬ D = M := by omega
  have n_M_B : ¬ M = B := by omega
  have n_B_M : ¬ B = M := by omega
  have n_M_L : ¬ M = L := by omega
  have n_L_M : ¬ L = M := by omega
  have n_M_T : ¬ M = T := by omega
  have n_T_M : ¬ T = M := by omega
  have n_M_C : ¬ M = C := by omega
  have n_C_M : ¬ C = M := by omega
  have n_M_R : ¬ M = R := by omega
  have n_R_M : ¬ R = M := by omega
  clear hf2 hb2 ht2 k0 k1 g0 g1 hM l0 l1 lT1 lC1 lR1 lD1 lB1 lL1
  have l0 := lt_of_cell m0
  have l1 := lt_of_cell m1
  have l2 := lt_of_cell m2
  have hc' : (V.check m != 0) = true := by simpa using hc
  have HZ : Hid (d.transfer m = ({ d with t := d.t.clear }, 0, V.check m)) := by show _ = _; simp [V.Ld.transfer, hc]
  go_wp2_with fail
  refine leaves_cons (f := 80) (args := #[.pointer (some ⟨D, 0, none⟩), .pointer (some ⟨N, 0, none⟩), .pointer (some ⟨E, 0, none⟩)]) (by simp [settle]) (by simp [go_sem]) ?_
  refine (catch_idle D N E _).mono ?_
  rintro e u w3 ⟨rfl, rfl, rfl⟩
  rw [HZ.out]
  refine ⟨.tuple #[.int .i64 0, .int .i64 (V.check m)], by simp [results, Try.results61, go_sem, cell_set, *], rfl, ⟨?_, ?_, HH.out.sp, HH.out.sum⟩, ?_⟩
  · exact ((HB2.out.setCell _ (by assumption) (by assumption) (by assumption)).setCell _ (by assumption) (by assumption) (by assumption)).setCell _ (by assumption) (by assumption) (by assumption)
  · exact ((HT2.out.setCell _ (by assumption) (by assumption) (by assumption)).setCell _ (by assumption) (by assumption) (by assumption)).setCell _ (by assumption) (by assumption) (by assumption)
  · exact (((HF2.out.setCell (fun h => absurd h (by simpa using s1)) _).setCell (fun h => absurd h (by simpa using s0)) _).setCell (fun h => absurd h (by simpa using s1)) _).wide

set_option maxHeartbeats 2000000 in
set_option maxRecDepth 100000 in
theorem transfer_held (D T C R B L : Nat) (m : V.Mv) (d : V.Ld) (w : World) (h : LdAt w D T C R B L d) (hc : V.check m = 0) (he : ¬ (d.t.clear.pair m.f m.t).2.2.2 = 0) :
    Calls Try.prog 61 #[.pointer (some ⟨D, 0, none⟩), .int .i64 m.f, .int .i64 m.t, .int .i64 m.a] w fun e w' => e = .returned (.tuple #[.int .i64 (d.transfer m).2.1, .int .i64 (d.transfer m).2.2]) ∧ LdAt w' D T C R B L (d.transfer m).1 ∧ Fr [D, T, C, R, B, L] w w' := by
  have d0 := h.bk.d0
  have HH : Hid (LdAt w D T C R B L d) := h
  have lD := h.bk.lD
  have lB := h.bk.lB
  have lL := h.bk.lL
  have lT := h.tb.lT
  have lC := h.tb.lC
  have lR := h.tb.lR
  have n_D_B := h.bk.nDB
  have n_D_L := h.bk.nDL
  have n_B_L := h.bk.nBL
  have sp := h.sp
  clear h
  go_enter_defers Try.func61, Try.ntmps61
  go_wp2_with fail
  refine (clear_calls T C R d.t _ ((HH.out.tb.alloc _).alloc _)).mono ?_
  rintro e w1 ⟨rfl, ht1, hf1⟩
  have k0 : w1.cell? ⟨w.heap.size, 0, none⟩ = some (.int .i64 0) := by rw [hf1.cell (by simp; omega) (by simp; omega)]; simp [go_sem]
  have k1 : w1.cell? ⟨w.heap.size + 1, 0, none⟩ = some (.int .i64 0) := by rw [hf1.cell (by simp) (by simp; omega)]; simp [go_sem]
  have g0 : w1.frozen? ⟨w.heap.size, 0, none⟩ = false := by rw [hf1.frozen (by simp; omega) (by simp; omega)]; simp [go_sem]
  have g1 : w1.frozen? ⟨w.heap.size + 1, 0, none⟩ = false := by rw [hf1.frozen (by simp) (by simp; omega)]; simp [go_sem]
  have hb1 := (((HH.out.bk.alloc _).alloc _)).keepT HH.out.sp hf1
  have HB1 : Hid (BkAt w1 D T B L d.bal [] d.und) := hb1
  have HT1 : Hid (TabAt w1 T C R d.t.clear) := ht1
  have HF1 : Hid (Fr [T, C, R] w w1) := (((Fr.refl _ _).alloc _).alloc _).trans hf1 (fun _ _ h => h)
  have lT1 := ht1.lT
  have lC1 := ht1.lC
  have lR1 := ht1.lR
  have lD1 := hb1.lD
  have lB1 := hb1.lB
  have lL1 := hb1.lL
  clear ht1 hf1 hb1 d0
  generalize hE : w.heap.size + 1 = E at k1 g1 ⊢
  generalize hN : w.heap.size = N at k0 g0 ⊢
  have s0 : w.heap.size ≤ N := by omega
  have s1 : w.heap.size ≤ E := by omega
  have n_N_E : ¬ N = E := by omega
  have n_E_N : ¬ E = N := by omega
  have n_N_D : ¬ N = D := by omega
  have n_D_N : ¬ D = N := by omega
  have n_N_B : ¬ N = B := by omega
  have n_B_N : ¬ B = N := by omega
  have n_N_L : ¬ N = L := by omega
  have n_L_N : ¬ L = N := by omega
  have n_N_T : ¬ N = T := by omega
  have n_T_N : ¬ T = N := by omega
  have n_N_C : ¬ N = C := by omega
  have n_C_N : ¬ C = N := by omega
  have n_N_R : ¬ N = R := by omega
  have n_R_N : ¬ R = N := by omega
  have n_E_D : ¬ E = D := by omega
  have n_D_E : ¬ D = E := by omega
  have n_E_B : ¬ E = B := by omega
  have n_B_E : ¬ B = E := by omega
  have n_E_L : ¬ E = L := by omega
  have n_L_E : ¬ L = E := by omega
  have n_E_T : ¬ E = T := by omega
  have n_T_E : ¬ T = E := by omega
  have n_E_C : ¬ E = C := by omega
  have n_C_E : ¬ C = E := by omega
  have n_E_R : ¬ E = R := by omega
  have n_R_E : ¬ R = E := by omega
  clear hE hN
  have l0 := lt_of_cell k0
  have l1 := lt_of_cell k1
  go_wp2_with fail
  refine (check_calls m _).mono ?_
  rintro e w2 ⟨rfl, hf2⟩
  have m0 : w2.cell? ⟨N, 0, none⟩ = some (.int .i64 0) := by rw [hf2.cell (by simp; omega) (by simp), cell_alloc _ _ _ _ l0]; exact k0
  have m1 : w2.cell? ⟨E, 0, none⟩ = some (.int .i64 0) := by rw [hf2.cell (by simp; omega) (by simp), cell_alloc _ _ _ _ l1]; exact k1
  have q0 : w2.frozen? ⟨N, 0, none⟩ = false := by rw [hf2.frozen (by simp; omega) (by simp), frozen_alloc _ _ _ _ l0]; exact g0
  have q1 : w2.frozen? ⟨E, 0, none⟩ = false := by rw [hf2.frozen (by simp; omega) (by simp), frozen_alloc _ _ _ _ l1]; exact g1
  have m2 : w2.cell? ⟨w1.heap.size, 0, none⟩ = some (.int .i64 m.f) := by rw [hf2.cell (by simp) (by simp)]; simp [go_sem]
  have m3 : w2.cell? ⟨w1.heap.size, 1, none⟩ = some (.int .i64 m.t) := by rw [hf2.cell (by simp) (by simp)]; simp [go_sem]
  have m4 : w2.cell? ⟨w1.heap.size, 2, none⟩ = some (.int .i64 m.a) := by rw [hf2.cell (by simp) (by simp)]; simp [go_sem]
  have hb2 := (HB1.out.alloc _).keep hf2 (by simp) (by simp) (by simp)
  have ht2 := (HT1.out.alloc _).keep hf2 (by simp) (by simp) (by simp)
  have HB2 : Hid (BkAt w2 D T B L d.bal [] d.und) := hb2
  have HT2 : Hid (TabAt w2 T C R d.t.clear) := ht2
  have HF2 : Hid (Fr [T, C, R] w w2) := (HF1.out.alloc _).trans hf2 (by simp)
  have b0 := hb2.d0
  have s2 : w.heap.size ≤ w1.heap.size := by omega
  generalize hM : w1.heap.size = M at m2 m3 m4 s2 l0 l1 lT1 lC1 lR1 lD1 lB1 lL1 ⊢
  have n_M_N : ¬ M = N := by omega
  have n_N_M : ¬ N = M := by omega
  have n_M_E : ¬ M = E := by omega
  have n_E_M : ¬ E = M := by omega
  have n_M_D : ¬ M = D := by omega
  have n_D_M : ¬ D = M := by omega
  have n_M_B : ¬ M = B := by omega
  have n_B_M : ¬ B = M := by omega
  have n_M_L : ¬ M = L := by omega
  have n_L_M : ¬ L = M := by omega
  have n_M_T : ¬ M = T := by omega
  have n_T_M : ¬ T = M := by omega
  have n_M_C : ¬ M = C := by omega
  have n_C_M : ¬ C = M := by omega
  have n_M_R : ¬ M = R := by omega
  have n_R_M : ¬ R = M := by omega
  clear hf2 hb2 ht2 k0 k1 g0 g1 hM l0 l1 lT1 lC1 lR1 lD1 lB1 lL1
  have l0 := lt_of_cell m0
  have l1 := lt_of_cell m1
  have l2 := lt_of_cell m2
  go_wp2_with fail
  refine (pair_calls T C R m.f m.t d.t.clear _ (HT2.out.setCell _ (by assumption) (by assumption) (by assumption))).mono ?_
  rintro e w3 ⟨rfl, ht3, hf3⟩
  have o0 : w3.cell? ⟨N, 0, none⟩ = some (.int .i64 0) := hf3.cellv (by simp [cell_set, *]) (by simp [*])
  have o1 : w3.cell? ⟨E, 0, none⟩ = some (.int .i64 0) := hf3.cellv (by simp [cell_set, *]) (by simp [*])
  have o2 : w3.cell? ⟨M, 0, none⟩ = some (.int .i64 m.f) := hf3.cellv (by simp [cell_set, *]) (by simp [*])
  have o3 : w3.cell? ⟨M, 1, none⟩ = some (.int .i64 m.t) := hf3.cellv (by simp [cell_set, *]) (by simp [*])
  have o4 : w3.cell? ⟨M, 2, none⟩ = some (.int .i64 m.a) := hf3.cellv (by simp [cell_set, *]) (by simp [*])
  have p0 : w3.frozen? ⟨N, 0, none⟩ = false := hf3.frozenv (by simp [*]) (by simpa using l0) (by simp [*])
  have p1 : w3.frozen? ⟨E, 0, none⟩ = false := hf3.frozenv (by simp [*]) (by simpa using l1) (by simp [*])
  have hb3 := (HB2.out.setCell (a := ⟨E, 0, none⟩) (.int .i64 0) (by assumption) (by assumption) (by assumption)).keepT sp hf3
  have HB3 : Hid (BkAt w3 D T B L d.bal [] d.und) := hb3
  have HT3 : Hid (TabAt w3 T C R (d.t.clear.pair m.f m.t).1) := ht3
  have HF3 : Hid (Fr [T, C, R] w w3) := (HF2.out.setCell (fun h => absurd h (by simpa using s1)) _).trans hf3 (fun _ _ h => h)
  have c0 := hb3.d0
  have lT3 := ht3.lT
  have lC3 := ht3.lC
  have lR3 := ht3.lR
  have lD3 := hb3.lD
  have lB3 := hb3.lB
  have lL3 := hb3.lL
  clear hb3 ht3 hf3 m0 m1 m2 m3 m4 q0 q1 b0 l0 l1 l2
  generalize ht1 : (d.t.clear.pair m.f m.t).1 = t3 at *
  generalize hh1 : (d.t.clear.pair m.f m.t).2.1 = hf at *
  generalize hh2 : (d.t.clear.pair m.f m.t).2.2.1 = ht at *
  generalize hh3 : (d.t.clear.pair m.f m.t).2.2.2 = e3 at *
  have HP : Hid (d.t.clear.pair m.f m.t = (t3, hf, ht, e3)) := by show _ = _; rw [← ht1, ← hh1, ← hh2, ← hh3]
  clear ht1 hh1 hh2 hh3
  have l0 := lt_of_cell o0
  have l1 := lt_of_cell o1
  have l2 := lt_of_cell o2
  have he' : (e3 != 0) = true := by simpa using he
  have HZ : Hid (d.transfer m = ({ d with t := t3 }, 0, e3)) := by show _ = _; simp [V.Ld.transfer, hc, HP.out, he]
  clear lT3 lC3 lR3 lD3 lB3 lL3
  go_wp2_with fail
  refine leaves_cons (f := 80) (args := #[.pointer (some ⟨D, 0, none⟩), .pointer (some ⟨N, 0, none⟩), .pointer (some ⟨E, 0, none⟩)]) (by simp [settle]) (by simp [go_sem]) ?_
  refine (catch_idle D N E _).mono ?_
  rintro e u w4 ⟨rfl, rfl, rfl⟩
  rw [HZ.out]
  refine ⟨.tuple #[.int .i64 0, .int .i64 e3], by simp [results, Try.results61, go_sem, cell_set, *], rfl, ⟨?_, ?_, HH.out.sp, HH.out.sum⟩, ?_⟩
  · exact ((HB3.out.setCell _ (by assumption) (by assumption) (by assumption)).setCell _ (by assumption) (by assumption) (by assumption)).setCell _ (by assumption) (by assumption) (by assumption)
  · exact ((HT3.out.setCell _ (by assumption) (by assumption) (by assumption)).setCell _ (by assumption) (by assumption) (by assumption)).setCell _ (by assumption) (by assumption) (by assumption)
  · exact (((HF3.out.setCell (fun h => absurd h (by simpa using s1)) _).setCell (fun h => absurd h (by simpa using s0)) _).setCell (fun h => absurd h (by simpa using s1)) _).wide

end Go.Proofs.Qxb6500360a
