/-
  L2: the real ledger: Transfer, the move itself.
-/
import Derived.Test.Qxb6500360aTr
import Derived.Test.Qxb6500360aPy
namespace Go.Proofs.Qxb6500360a
open Go.RowKit
set_option linter.unusedSimpArgs false
set_option linter.unusedVariables false

set_option maxHeartbeats 2000000 in
set_option maxRecDepth 100000 in
theorem transfer_pay (D T C R B L : Nat) (m : V.Mv) (d : V.Ld) (w : World) (h : LdAt w D T C R B L d) (hc : V.check m = 0) (he : (d.t.clear.pair m.f m.t).2.2.2 = 0) :
    Calls Try.prog 61 #[.pointer (some ⟨D, 0, none⟩), .int .i64 m.f, .int .i64 m.t, .int .i64 m.a] w fun e w' => e = .returned (.tuple #[.int .i64 (d.transfer m).2.1, .int .i64 (d.transfer m).2.2]) ∧ LdAt w' D T C R B L (d.transfer m).1 ∧ Fr [D, T, C, R, B, L] w w' := by
  have d0 := h.bk.d0
  have HH : Hid (LdAt w D T C R B L d) := h
  have lD := h.bk.lD
  have lB := h.bk.lB
  have lL := h.bk.lL
  have lT := h.tb.lT
  have lC := h.tb.lC
  have lR := h.tb.lR
  have n_D_B := h.bk.nDB
  have n_D_L := h.bk.nDL
  have n_B_L := h.bk.nBL
  have sp := h.sp
  clear h
  go_enter_defers Try.func61, Try.ntmps61
  go_wp2_with fail
  refine (clear_calls T C R d.t _ ((HH.out.tb.alloc _).alloc _)).mono ?_
  rintro e w1 ⟨rfl, ht1, hf1⟩
  have k0 : w1.cell? ⟨w.heap.size, 0, none⟩ = some (.int .i64 0) := by rw [hf1.cell (by simp; omega) (by simp; omega)]; simp [go_sem]
  have k1 : w1.cell? ⟨w.heap.size + 1, 0, none⟩ = some (.int .i64 0) := by rw [hf1.cell (by simp) (by simp; omega)]; simp [go_sem]
  have g0 : w1.frozen? ⟨w.heap.size, 0, none⟩ = false := by rw [hf1.frozen (by simp; omega) (by simp; omega)]; simp [go_sem]
  have g1 : w1.frozen? ⟨w.heap.size + 1, 0, none⟩ = false := by rw [hf1.frozen (by simp) (by simp; omega)]; simp [go_sem]
  have hb1 := (((HH.out.bk.alloc _).alloc _)).keepT HH.out.sp hf1
  have HB1 : Hid (BkAt w1 D T B L d.bal [] d.und) := hb1
  have HT1 : Hid (TabAt w1 T C R d.t.clear) := ht1
  have HF1 : Hid (Fr [T, C, R] w w1) := (((Fr.refl _ _).alloc _).alloc _).trans hf1 (fun _ _ h => h)
  have lT1 := ht1.lT
  have lC1 := ht1.lC
  have lR1 := ht1.lR
  have lD1 := hb1.lD
  have lB1 := hb1.lB
  have lL1 := hb1.lL
  clear ht1 hf1 hb1 d0
  generalize hE : w.heap.size + 1 = E at k1 g1 ⊢
  generalize hN : w.heap.size = N at k0 g0 ⊢
  have s0 : w.heap.size ≤ N := by omega
  have s1 : w.heap.size ≤ E := by omega
  have n_N_E : ¬ N = E := by omega
  have n_E_N : ¬ E = N := by omega
  have n_N_D : ¬ N = D := by omega
  have n_D_N : ¬ D = N := by omega
  have n_N_B : ¬ N = B := by omega
  have n_B_N : ¬ B = N := by omega
  have n_N_L : ¬ N = L := by omega
  have n_L_N : ¬ L = N := by omega
  have n_N_T : ¬ N = T := by omega
  have n_T_N : ¬ T = N := by omega
  have n_N_C : ¬ N = C := by omega
  have n_C_N : ¬ C = N := by omega
  have n_N_R : ¬ N = R := by omega
  have n_R_N : ¬ R = N := by omega
  have n_E_D : ¬ E = D := by omega
  have n_D_E : ¬ D = E := by omega
  have n_E_B : ¬ E = B := by omega
  have n_B_E : ¬ B = E := by omega
  have n_E_L : ¬ E = L := by omega
  have n_L_E : ¬ L = E := by omega
  have n_E_T : ¬ E = T := by omega
  have n_T_E : ¬ T = E := by omega
  have n_E_C : ¬ E = C := by omega
  have n_C_E : ¬ C = E := by omega
  have n_E_R : ¬ E = R := by omega
  have n_R_E : ¬ R = E := by omega
  clear hE hN
  have l0 := lt_of_cell k0
  have l1 := lt_of_cell k1
  go_wp2_with fail
  refine (check_calls m _).mono ?_
  rintro e w2 ⟨rfl, hf2⟩
  have m0 : w2.cell? ⟨N, 0, none⟩ = some (.int .i64 0) := by rw [hf2.cell (by simp; omega) (by simp), cell_alloc _ _ _ _ l0]; exact k0
  have m1 : w2.cell? ⟨E, 0, none⟩ = some (.int .i64 0) := by rw [hf2.cell (by simp; omega) (by simp), cell_alloc _ _ _ _ l1]; exact k1
  have q0 : w2.frozen? ⟨N, 0, none⟩ = false := by rw [hf2.frozen (by simp; omega) (by simp), frozen_alloc _ _ _ _ l0]; exact g0
  have q1 : w2.frozen? ⟨E, 0, none⟩ = false := by rw [hf2.frozen (by simp; omega) (by simp), frozen_alloc _ _ _ _ l1]; exact g1
  have m2 : w2.cell? ⟨w1.heap.size, 0, none⟩ = some (.int .i64 m.f) := by rw [hf2.cell (by simp) (by simp)]; simp [go_sem]
  have m3 : w2.cell? ⟨w1.heap.size, 1, none⟩ = some (.int .i64 m.t) := by rw [hf2.cell (by simp) (by simp)]; simp [go_sem]
  have m4 : w2.cell? ⟨w1.heap.size, 2, none⟩ = some (.int .i64 m.a) := by rw [hf2.cell (by simp) (by simp)]; simp [go_sem]
  have hb2 := (HB1.out.alloc _).keep hf2 (by simp) (by simp) (by simp)
  have ht2 := (HT1.out.alloc _).keep hf2 (by simp) (by simp) (by simp)
  have HB2 : Hid (BkAt w2 D T B L d.bal [] d.und) := hb2
  have HT2 : Hid (TabAt w2 T C R d.t.clear) := ht2
  have HF2 : Hid (Fr [T, C, R] w w2) := (HF1.out.alloc _).trans hf2 (by simp)
  have b0 := hb2.d0
  have s2 : w.heap.size ≤ w1.heap.size := by omega
  generalize hM : w1.heap.size = M at m2 m3 m4 s2 l0 l1 lT1 lC1 lR1 lD1 lB1 lL1 ⊢
  have n_M_N : ¬ M = N := by omega
  have n_N_M : ¬ N = M := by omega
  have n_M_E : ¬ M = E := by omega
  have n_E_M : ¬ E = M := by omega
  have n_M_D : ¬ M = D := by omega
  have n_D_M : ¬ D = M := by omega
  have n_M_B : ¬ M = B := by omega
  have n_B_M : ¬ B = M := by omega
  have n_M_L : ¬ M = L := by omega
  have n_L_M : ¬ L = M := by omega
  have n_M_T : ¬ M = T := by omega
  have n_T_M : ¬ T = M := by omega
  have n_M_C : ¬ M = C := by omega
  have n_C_M : ¬ C = M := by omega
  have n_M_R : ¬ M = R := by omega
  have n_R_M : ¬ R = M := by omega
  clear hf2 hb2 ht2 k0 k1 g0 g1 hM l0 l1 lT1 lC1 lR1 lD1 lB1 lL1
  have l0 := lt_of_cell m0
  have l1 := lt_of_cell m1
  have l2 := lt_of_cell m2
  go_wp2_with fail
  refine (pair_calls T C R m.f m.t d.t.clear _ (HT2.out.setCell _ (by assumption) (by assumption) (by assumption))).mono ?_
  rintro e w3 ⟨rfl, ht3, hf3⟩
  have o0 : w3.cell? ⟨N, 0, none⟩ = some (.int .i64 0) := hf3.cellv (by simp [cell_set, *]) (by simp [*])
  have o1 : w3.cell? ⟨E, 0, none⟩ = some (.int .i64 0) := hf3.cellv (by simp [cell_set, *]) (by simp [*])
  have o2 : w3.cell? ⟨M, 0, none⟩ = some (.int .i64 m.f) := hf3.cellv (by simp [cell_set, *]) (by simp [*])
  have o3 : w3.cell? ⟨M, 1, none⟩ = some (.int .i64 m.t) := hf3.cellv (by simp [cell_set, *]) (by simp [*])
  have o4 : w3.cell? ⟨M, 2, none⟩ = some (.int .i64 m.a) := hf3.cellv (by simp [cell_set, *]) (by simp [*])
  have p0 : w3.frozen? ⟨N, 0, none⟩ = false := hf3.frozenv (by simp [*]) (by simpa using l0) (by simp [*])
  have p1 : w3.frozen? ⟨E, 0, none⟩ = false := hf3.frozenv (by simp [*]) (by simpa using l1) (by simp [*])
  have hb3 := (HB2.out.setCell (a := ⟨E, 0, none⟩) (.int .i64 0) (by assumption) (by assumption) (by assumption)).keepT sp hf3
  have HB3 : Hid (BkAt w3 D T B L d.bal [] d.und) := hb3
  have HT3 : Hid (TabAt w3 T C R (d.t.clear.pair m.f m.t).1) := ht3
  have HF3 : Hid (Fr [T, C, R] w w3) := (HF2.out.setCell (fun h => absurd h (by simpa using s1)) _).trans hf3 (fun _ _ h => h)
  have c0 := hb3.d0
  have lT3 := ht3.lT
  have lC3 := ht3.lC
  have lR3 := ht3.lR
  have lD3 := hb3.lD
  have lB3 := hb3.lB
  have lL3 := hb3.lL
  clear hb3 ht3 hf3 m0 m1 m2 m3 m4 q0 q1 b0 l0 l1 l2
  generalize ht1 : (d.t.clear.pair m.f m.t).1 = t3 at *
  generalize hh1 : (d.t.clear.pair m.f m.t).2.1 = hf at *
  generalize hh2 : (d.t.clear.pair m.f m.t).2.2.1 = ht at *
  generalize hh3 : (d.t.clear.pair m.f m.t).2.2.2 = e3 at *
  have HP : Hid (d.t.clear.pair m.f m.t = (t3, hf, ht, e3)) := by show _ = _; rw [← ht1, ← hh1, ← hh2, ← hh3]
  clear ht1 hh1 hh2 hh3
  have l0 := lt_of_cell o0
  have l1 := lt_of_cell o1
  have l2 := lt_of_cell o2
  subst he
  go_wp2_with fail
  refine (begin_calls D _).mono ?_
  rintro e w4 ⟨rfl, rfl⟩
  have l2a : M < w3.heap.size + 1 := by omega
  have l2b : M < w3.heap.size + 1 + 1 := by omega
  have l2c : M < w3.heap.size + 2 := by omega
  go_wp2_with fail
  have lD3' := HB3.out.lD
  have lX : w3.heap.size < w3.heap.size + 3 := by omega
  refine (pay_calls w3.heap.size D T B L m d.bal [] d.und _ ((((HB3.out.setCell _ (by assumption) (by assumption) (by assumption)).alloc _).alloc _).alloc _) (by simp [go_sem]) (by simp; omega) hc (by simp)).mono ?_
  rintro e w4 ⟨rfl, hb4, hf4⟩
  have y0 : w4.cell? ⟨N, 0, none⟩ = some (.int .i64 0) := by rw [hf4.cell (by simp; omega) (by simp [*])]; rw [cell_alloc _ _ _ _ (by simp; omega), cell_alloc _ _ _ _ (by simp; omega), cell_alloc _ _ _ _ (by simp; omega)]; simp [cell_set, *]
  have y1 : w4.cell? ⟨E, 0, none⟩ = some (.int .i64 0) := by rw [hf4.cell (by simp; omega) (by simp [*])]; rw [cell_alloc _ _ _ _ (by simp; omega), cell_alloc _ _ _ _ (by simp; omega), cell_alloc _ _ _ _ (by simp; omega)]; simp [cell_set, *]
  have y2 : w4.cell? ⟨w3.heap.size, 0, none⟩ = some (.pointer (some ⟨D, 0, none⟩)) := by rw [hf4.cell (by simp; omega) (by simp; omega)]; simp [go_sem]
  have y3 : w4.cell? ⟨w3.heap.size + 1, 0, none⟩ = some (.pointer (some ⟨w3.heap.size, 0, none⟩)) := by rw [hf4.cell (by simp) (by simp; omega)]; simp [go_sem]
  have y4 : w4.cell? ⟨w3.heap.size + 1 + 1, 0, none⟩ = some (.bool false) := by rw [hf4.cell (by simp) (by simp; omega)]; simp [go_sem]
  have z0 : w4.frozen? ⟨N, 0, none⟩ = false := by rw [hf4.frozen (by simp; omega) (by simp [*]), frozen_alloc _ _ _ _ (by simp; omega), frozen_alloc _ _ _ _ (by simp; omega), frozen_alloc _ _ _ _ (by simp; omega)]; simp [*]
  have z1 : w4.frozen? ⟨E, 0, none⟩ = false := by rw [hf4.frozen (by simp; omega) (by simp [*]), frozen_alloc _ _ _ _ (by simp; omega), frozen_alloc _ _ _ _ (by simp; omega), frozen_alloc _ _ _ _ (by simp; omega)]; simp [*]
  have z4 : w4.frozen? ⟨w3.heap.size + 1 + 1, 0, none⟩ = false := by rw [hf4.frozen (by simp) (by simp; omega)]; simp [go_sem]
  have tb4 := ((((HT3.out.setCell (a := ⟨E, 0, none⟩) (.int .i64 0) (by assumption) (by assumption) (by assumption)).alloc (.cells #[.pointer (some ⟨D, 0, none⟩)] 133)).alloc (.cells #[.pointer (some ⟨w3.heap.size, 0, none⟩)] 122)).alloc (.cells #[.bool false] 4)).keepB sp hf4
  have HT4 : Hid (TabAt w4 T C R t3) := tb4
  have HF4 : Hid (Fr [D, T, C, R, B, L] w w4) := (((((HF3.out.setCell (p := ⟨E, 0, none⟩) (fun h => absurd h (by simpa using s1)) _).alloc _).alloc _).alloc _).wide).trans hf4 (fun x _ hx => by simp at hx ⊢; omega)
  obtain ⟨⟨f0, f1⟩, -, -, -, -⟩ := check_ok hc
  have hb4' : BkAt w4 D T B L (payBal d.bal m).1 (payBal d.bal m).2.1 d.und := by simpa using hb4
  have HB4 : Hid (BkAt w4 D T B L (payBal d.bal m).1 (payBal d.bal m).2.1 d.und) := hb4'
  have cb := hb4'.cb m.f.toNat (by omega)
  have e1 := hb4'.d1
  have s3 : w.heap.size ≤ w3.heap.size + 1 + 1 := by omega
  have hlen := payBal_len d.bal m
  have hundo := payBal_undo (bal := d.bal) [] HH.out.bk.lb hc
  have he4 := payBal_e d.bal m
  have HU : Hid (undo (payBal d.bal m).1 (payBal d.bal m).2.1 = d.bal) := by simpa [undo, Hid] using hundo
  have HE : Hid ((payBal d.bal m).2.2 = (V.pay d.bal m).2) := he4
  clear hb4 hb4' tb4 hf4 hundo he4 o0 o1 o2 o3 o4 p0 p1 c0 l2a l2b l2c lX lD3'
  generalize hX : w3.heap.size + 1 + 1 = DN at y4 z4 s3 ⊢
  generalize hY : w3.heap.size + 1 = TX at y3 ⊢
  generalize hV : w3.heap.size = X at y2 y3 lT3 lC3 lR3 lD3 lB3 lL3 l0 l1 l2 ⊢
  have HO : Hid (D < w.heap.size ∧ B < w.heap.size ∧ L < w.heap.size ∧ T < w.heap.size ∧ C < w.heap.size ∧ R < w.heap.size ∧ w.heap.size ≤ N ∧ w.heap.size ≤ E ∧ N < X ∧ E < X ∧ X < TX ∧ TX < DN) := by refine ⟨?_, ?_, ?_, ?_, ?_, ?_, ?_, ?_, ?_, ?_, ?_, ?_⟩ <;> omega
  clear hX hY hV l0 l1 l2 lT3 lC3 lR3 lD3 lB3 lL3 n_N_L n_L_N n_N_T n_T_N n_N_C n_C_N n_N_R n_R_N n_E_L n_L_E n_E_T n_T_E n_E_C n_C_E n_E_R n_R_E n_M_N n_N_M n_M_E n_E_M n_M_D n_D_M n_M_B n_B_M n_M_L n_L_M n_M_T n_T_M n_M_C n_C_M n_M_R n_R_M lD lB lL lT lC lR HB1 HT1 HF1 HB2 HT2 HF2 HB3 HF3 HT3 s0 s1 s2 s3
  have n_DN_N : ¬ DN = N := by have := HO.out; omega
  have n_N_DN : ¬ N = DN := by have := HO.out; omega
  have n_DN_E : ¬ DN = E := by have := HO.out; omega
  have n_E_DN : ¬ E = DN := by have := HO.out; omega
  have l0 := lt_of_cell y0
  have l1 := lt_of_cell y1
  have l4 := lt_of_cell y4
  generalize hb5 : (payBal d.bal m).1 = b4 at *
  generalize hg5 : (payBal d.bal m).2.1 = g4 at *
  generalize he5 : (payBal d.bal m).2.2 = e4 at *
  have HQ : Hid (payBal d.bal m = (b4, g4, e4)) := by show _ = _; rw [← hb5, ← hg5, ← he5]
  clear hb5 hg5 he5
  by_cases hz : e4 = 0
  · subst hz
    go_wp2_with fail
    have c0 : (((((w4.setCell ⟨E, 0, none⟩ (.int .i64 0)).setCell ⟨N, 0, none⟩ (.int .i64 (V.bl b4 m.f.toNat))).setCell ⟨DN, 0, none⟩ (.bool true)).setCell ⟨N, 0, none⟩ (.int .i64 (V.bl b4 m.f.toNat))).setCell ⟨E, 0, none⟩ (.int .i64 0)).cell? ⟨N, 0, none⟩ = some (.int .i64 (V.bl b4 m.f.toNat)) := by simp [cell_set, *]
    have c1 : (((((w4.setCell ⟨E, 0, none⟩ (.int .i64 0)).setCell ⟨N, 0, none⟩ (.int .i64 (V.bl b4 m.f.toNat))).setCell ⟨DN, 0, none⟩ (.bool true)).setCell ⟨N, 0, none⟩ (.int .i64 (V.bl b4 m.f.toNat))).setCell ⟨E, 0, none⟩ (.int .i64 0)).cell? ⟨E, 0, none⟩ = some (.int .i64 0) := by simp [cell_set, *]
    have c2 : (((((w4.setCell ⟨E, 0, none⟩ (.int .i64 0)).setCell ⟨N, 0, none⟩ (.int .i64 (V.bl b4 m.f.toNat))).setCell ⟨DN, 0, none⟩ (.bool true)).setCell ⟨N, 0, none⟩ (.int .i64 (V.bl b4 m.f.toNat))).setCell ⟨E, 0, none⟩ (.int .i64 0)).cell? ⟨DN, 0, none⟩ = some (.bool true) := by simp [cell_set, *]
    have hfr : Fr [N, E, DN] w4 (((((w4.setCell ⟨E, 0, none⟩ (.int .i64 0)).setCell ⟨N, 0, none⟩ (.int .i64 (V.bl b4 m.f.toNat))).setCell ⟨DN, 0, none⟩ (.bool true)).setCell ⟨N, 0, none⟩ (.int .i64 (V.bl b4 m.f.toNat))).setCell ⟨E, 0, none⟩ (.int .i64 0)) := (((((Fr.refl _ _).setCell (by simp) _).setCell (by simp) _).setCell (by simp) _).setCell (by simp) _).setCell (by simp) _
    have f0' : (((((w4.setCell ⟨E, 0, none⟩ (.int .i64 0)).setCell ⟨N, 0, none⟩ (.int .i64 (V.bl b4 m.f.toNat))).setCell ⟨DN, 0, none⟩ (.bool true)).setCell ⟨N, 0, none⟩ (.int .i64 (V.bl b4 m.f.toNat))).setCell ⟨E, 0, none⟩ (.int .i64 0)).frozen? ⟨N, 0, none⟩ = false := by simp [*]
    generalize ((((w4.setCell ⟨E, 0, none⟩ (.int .i64 0)).setCell ⟨N, 0, none⟩ (.int .i64 (V.bl b4 m.f.toNat))).setCell ⟨DN, 0, none⟩ (.bool true)).setCell ⟨N, 0, none⟩ (.int .i64 (V.bl b4 m.f.toNat))).setCell ⟨E, 0, none⟩ (.int .i64 0) = W at *
    have tW := HT4.out.keep hfr (by have := HO.out; simp; omega) (by have := HO.out; simp; omega) (by have := HO.out; simp; omega)
    have bW := HB4.out.keep hfr (by have := HO.out; simp; omega) (by have := HO.out; simp; omega) (by have := HO.out; simp; omega)
    have c3 : W.cell? ⟨X, 0, none⟩ = some (.pointer (some ⟨D, 0, none⟩)) := hfr.cellv y2 (by have := HO.out; simp; omega)
    have c4 : W.cell? ⟨TX, 0, none⟩ = some (.pointer (some ⟨X, 0, none⟩)) := hfr.cellv y3 (by have := HO.out; simp; omega)
    have gW : Fr [D, T, C, R, B, L] w W := HF4.out.trans hfr (fun x hx hm => by have := HO.out; simp at hm; omega)
    clear y0 y1 y2 y3 y4 z0 z1 z4 hfr HT4 HB4 HF4 cb l0 l1 l4
    refine leaves_cons (f := 87) (args := #[.pointer (some ⟨E, 0, none⟩), .pointer (some ⟨N, 0, none⟩)]) (by simp) (by simp [go_sem]) ?_
    refine (wipe_deferred DN TX E N 0 (V.bl b4 m.f.toNat) W c1 c0 f0' (by assumption) _).mono ?_
    rintro e u w5 ⟨rfl, rfl, i0, hf5⟩
    have i1 : w5.cell? ⟨E, 0, none⟩ = some (.int .i64 0) := hf5.cellv c1 (by simp [*])
    have i2 : w5.cell? ⟨DN, 0, none⟩ = some (.bool true) := hf5.cellv c2 (by simp [*])
    have i3 : w5.cell? ⟨X, 0, none⟩ = some (.pointer (some ⟨D, 0, none⟩)) := hf5.cellv c3 (by have := HO.out; simp; omega)
    have i4 : w5.cell? ⟨TX, 0, none⟩ = some (.pointer (some ⟨X, 0, none⟩)) := hf5.cellv c4 (by have := HO.out; simp; omega)
    have t5 := tW.keep hf5 (by have := HO.out; simp; omega) (by have := HO.out; simp; omega) (by have := HO.out; simp; omega)
    have b5 := bW.keep hf5 (by have := HO.out; simp; omega) (by have := HO.out; simp; omega) (by have := HO.out; simp; omega)
    have g5 : Fr [D, T, C, R, B, L] w w5 := gW.trans hf5 (fun x hx hm => by have := HO.out; simp at hm; omega)
    refine leaves_cons (f := 84) (args := #[.pointer (some ⟨DN, 0, none⟩), .pointer (some ⟨TX, 0, none⟩)]) (by simp [settle]) (by simp [go_sem]) ?_
    refine (undo_deferred84 DN TX X D T B L true b4 g4 d.und w5 b5 (by omega) i3 i2 i4 _).mono ?_
    rintro e u w6 ⟨rfl, rfl, b6, hf6⟩
    have t6 := t5.keepB sp hf6
    have j0 : w6.cell? ⟨N, 0, none⟩ = some (.int .i64 (if 0 = 0 then V.bl b4 m.f.toNat else 0)) := hf6.cellv i0 (by have := HO.out; simp; omega)
    have j1 : w6.cell? ⟨E, 0, none⟩ = some (.int .i64 0) := hf6.cellv i1 (by have := HO.out; simp; omega)
    have g6 : Fr [D, T, C, R, B, L] w w6 := g5.trans hf6 (fun x hx hm => by simp at hm ⊢; omega)
    refine leaves_cons (f := 50) (args := #[.pointer (some ⟨T, 0, none⟩), .int .i64 ht]) (by simp [settle]) (by simp [go_sem]) ?_
    refine ((release_both T C R ht t3 w6 t6).2 _).mono ?_
    rintro e u w7 ⟨rfl, rfl, t7, hf7⟩
    have b7 := b6.keepT sp hf7
    have j0' := hf7.cellv j0 (by have := HO.out; simp; omega)
    have j1' := hf7.cellv j1 (by have := HO.out; simp; omega)
    have g7 : Fr [D, T, C, R, B, L] w w7 := g6.trans hf7 (fun x hx hm => by simp at hm ⊢; omega)
    refine leaves_cons (f := 50) (args := #[.pointer (some ⟨T, 0, none⟩), .int .i64 hf]) (by simp [settle]) (by simp [go_sem]) ?_
    refine ((release_both T C R hf _ w7 t7).2 _).mono ?_
    rintro e u w8 ⟨rfl, rfl, t8, hf8⟩
    have b8 := b7.keepT sp hf8
    have k0 := hf8.cellv j0' (by have := HO.out; simp; omega)
    have k1 := hf8.cellv j1' (by have := HO.out; simp; omega)
    have g8 : Fr [D, T, C, R, B, L] w w8 := g7.trans hf8 (fun x hx hm => by simp at hm ⊢; omega)
    refine leaves_cons (f := 80) (args := #[.pointer (some ⟨D, 0, none⟩), .pointer (some ⟨N, 0, none⟩), .pointer (some ⟨E, 0, none⟩)]) (by simp [settle]) (by simp [go_sem]) ?_
    refine (catch_idle D N E _).mono ?_
    rintro e u w9 ⟨rfl, rfl, rfl⟩
    have hpay : (V.pay d.bal m).2 = 0 := HE.out.symm
    have hb : b4 = (V.pay d.bal m).1 := by rw [← payBal_ok hpay, HQ.out]
    have hz : d.transfer m = ({ bal := (V.pay d.bal m).1, und := d.und, t := ((t3.rel ht).1.rel hf).1 }, V.bl (V.pay d.bal m).1 m.f.toNat, 0) := by simp [V.Ld.transfer, hc, HP.out, hpay]
    rw [hz, ← hb]
    rw [if_pos rfl] at k0
    refine ⟨.tuple #[.int .i64 (V.bl b4 m.f.toNat), .int .i64 0], by simp [results, Try.results61, go_sem, k0, k1], rfl, ⟨by simpa [balOf, unOf] using b8, t8, sp, ?_⟩, g8⟩
    rw [hb, pay_sum HH.out.bk.lb hc _ d.und _ d.t]
    exact HH.out.sum
  · have hz' : (e4 != 0) = true := by simpa using hz
    go_wp2_with fail
    have c0 : ((((w4.setCell ⟨E, 0, none⟩ (.int .i64 e4)).setCell ⟨N, 0, none⟩ (.int .i64 (V.bl b4 m.f.toNat))).setCell ⟨N, 0, none⟩ (.int .i64 (V.bl b4 m.f.toNat))).setCell ⟨E, 0, none⟩ (.int .i64 e4)).cell? ⟨N, 0, none⟩ = some (.int .i64 (V.bl b4 m.f.toNat)) := by simp [cell_set, *]
    have c1 : ((((w4.setCell ⟨E, 0, none⟩ (.int .i64 e4)).setCell ⟨N, 0, none⟩ (.int .i64 (V.bl b4 m.f.toNat))).setCell ⟨N, 0, none⟩ (.int .i64 (V.bl b4 m.f.toNat))).setCell ⟨E, 0, none⟩ (.int .i64 e4)).cell? ⟨E, 0, none⟩ = some (.int .i64 e4) := by simp [cell_set, *]
    have c2 : ((((w4.setCell ⟨E, 0, none⟩ (.int .i64 e4)).setCell ⟨N, 0, none⟩ (.int .i64 (V.bl b4 m.f.toNat))).setCell ⟨N, 0, none⟩ (.int .i64 (V.bl b4 m.f.toNat))).setCell ⟨E, 0, none⟩ (.int .i64 e4)).cell? ⟨DN, 0, none⟩ = some (.bool false) := by simp [cell_set, *]
    have hfr : Fr [N, E, DN] w4 ((((w4.setCell ⟨E, 0, none⟩ (.int .i64 e4)).setCell ⟨N, 0, none⟩ (.int .i64 (V.bl b4 m.f.toNat))).setCell ⟨N, 0, none⟩ (.int .i64 (V.bl b4 m.f.toNat))).setCell ⟨E, 0, none⟩ (.int .i64 e4)) := ((((Fr.refl _ _).setCell (by simp) _).setCell (by simp) _).setCell (by simp) _).setCell (by simp) _
    have f0' : ((((w4.setCell ⟨E, 0, none⟩ (.int .i64 e4)).setCell ⟨N, 0, none⟩ (.int .i64 (V.bl b4 m.f.toNat))).setCell ⟨N, 0, none⟩ (.int .i64 (V.bl b4 m.f.toNat))).setCell ⟨E, 0, none⟩ (.int .i64 e4)).frozen? ⟨N, 0, none⟩ = false := by simp [*]
    generalize (((w4.setCell ⟨E, 0, none⟩ (.int .i64 e4)).setCell ⟨N, 0, none⟩ (.int .i64 (V.bl b4 m.f.toNat))).setCell ⟨N, 0, none⟩ (.int .i64 (V.bl b4 m.f.toNat))).setCell ⟨E, 0, none⟩ (.int .i64 e4) = W at *
    have tW := HT4.out.keep hfr (by have := HO.out; simp; omega) (by have := HO.out; simp; omega) (by have := HO.out; simp; omega)
    have bW := HB4.out.keep hfr (by have := HO.out; simp; omega) (by have := HO.out; simp; omega) (by have := HO.out; simp; omega)
    have c3 : W.cell? ⟨X, 0, none⟩ = some (.pointer (some ⟨D, 0, none⟩)) := hfr.cellv y2 (by have := HO.out; simp; omega)
    have c4 : W.cell? ⟨TX, 0, none⟩ = some (.pointer (some ⟨X, 0, none⟩)) := hfr.cellv y3 (by have := HO.out; simp; omega)
    have gW : Fr [D, T, C, R, B, L] w W := HF4.out.trans hfr (fun x hx hm => by have := HO.out; simp at hm; omega)
    clear y0 y1 y2 y3 y4 z0 z1 z4 hfr HT4 HB4 HF4 cb l0 l1 l4
    refine leaves_cons (f := 87) (args := #[.pointer (some ⟨E, 0, none⟩), .pointer (some ⟨N, 0, none⟩)]) (by simp) (by simp [go_sem]) ?_
    refine (wipe_deferred DN TX E N e4 (V.bl b4 m.f.toNat) W c1 c0 f0' (by assumption) _).mono ?_
    rintro e u w5 ⟨rfl, rfl, i0, hf5⟩
    have i1 : w5.cell? ⟨E, 0, none⟩ = some (.int .i64 e4) := hf5.cellv c1 (by simp [*])
    have i2 : w5.cell? ⟨DN, 0, none⟩ = some (.bool false) := hf5.cellv c2 (by simp [*])
    have i3 : w5.cell? ⟨X, 0, none⟩ = some (.pointer (some ⟨D, 0, none⟩)) := hf5.cellv c3 (by have := HO.out; simp; omega)
    have i4 : w5.cell? ⟨TX, 0, none⟩ = some (.pointer (some ⟨X, 0, none⟩)) := hf5.cellv c4 (by have := HO.out; simp; omega)
    have t5 := tW.keep hf5 (by have := HO.out; simp; omega) (by have := HO.out; simp; omega) (by have := HO.out; simp; omega)
    have b5 := bW.keep hf5 (by have := HO.out; simp; omega) (by have := HO.out; simp; omega) (by have := HO.out; simp; omega)
    have g5 : Fr [D, T, C, R, B, L] w w5 := gW.trans hf5 (fun x hx hm => by have := HO.out; simp at hm; omega)
    refine leaves_cons (f := 84) (args := #[.pointer (some ⟨DN, 0, none⟩), .pointer (some ⟨TX, 0, none⟩)]) (by simp [settle]) (by simp [go_sem]) ?_
    refine (undo_deferred84 DN TX X D T B L false b4 g4 d.und w5 b5 (by omega) i3 i2 i4 _).mono ?_
    rintro e u w6 ⟨rfl, rfl, b6, hf6⟩
    have t6 := t5.keepB sp hf6
    have j0 : w6.cell? ⟨N, 0, none⟩ = some (.int .i64 (if e4 = 0 then V.bl b4 m.f.toNat else 0)) := hf6.cellv i0 (by have := HO.out; simp; omega)
    have j1 : w6.cell? ⟨E, 0, none⟩ = some (.int .i64 e4) := hf6.cellv i1 (by have := HO.out; simp; omega)
    have g6 : Fr [D, T, C, R, B, L] w w6 := g5.trans hf6 (fun x hx hm => by simp at hm ⊢; omega)
    refine leaves_cons (f := 50) (args := #[.pointer (some ⟨T, 0, none⟩), .int .i64 ht]) (by simp [settle]) (by simp [go_sem]) ?_
    refine ((release_both T C R ht t3 w6 t6).2 _).mono ?_
    rintro e u w7 ⟨rfl, rfl, t7, hf7⟩
    have b7 := b6.keepT sp hf7
    have j0' := hf7.cellv j0 (by have := HO.out; simp; omega)
    have j1' := hf7.cellv j1 (by have := HO.out; simp; omega)
    have g7 : Fr [D, T, C, R, B, L] w w7 := g6.trans hf7 (fun x hx hm => by simp at hm ⊢; omega)
    refine leaves_cons (f := 50) (args := #[.pointer (some ⟨T, 0, none⟩), .int .i64 hf]) (by simp [settle]) (by simp [go_sem]) ?_
    refine ((release_both T C R hf _ w7 t7).2 _).mono ?_
    rintro e u w8 ⟨rfl, rfl, t8, hf8⟩
    have b8 := b7.keepT sp hf8
    have k0 := hf8.cellv j0' (by have := HO.out; simp; omega)
    have k1 := hf8.cellv j1' (by have := HO.out; simp; omega)
    have g8 : Fr [D, T, C, R, B, L] w w8 := g7.trans hf8 (fun x hx hm => by simp at hm ⊢; omega)
    refine leaves_cons (f := 80) (args := #[.pointer (some ⟨D, 0, none⟩), .pointer (some ⟨N, 0, none⟩), .pointer (some ⟨E, 0, none⟩)]) (by simp [settle]) (by simp [go_sem]) ?_
    refine (catch_idle D N E _).mono ?_
    rintro e u w9 ⟨rfl, rfl, rfl⟩
    have hpay : ¬ (V.pay d.bal m).2 = 0 := by rw [← HE.out]; exact hz
    have hlog := payBal_log hpay
    rw [HQ.out] at hlog
    have hzz : d.transfer m = ({ bal := d.bal, und := if (V.pay d.bal m).2 = 7 then V.bump d.und else d.und, t := ((t3.rel ht).1.rel hf).1 }, 0, e4) := by simp [V.Ld.transfer, hc, HP.out, hpay, HE.out]
    rw [hzz]
    have hund : unOf false g4 d.und = if (V.pay d.bal m).2 = 7 then V.bump d.und else d.und := by
      unfold unOf
      by_cases h7 : (V.pay d.bal m).2 = 7
      · have : ¬ g4 = [] := fun h => hlog.1 h h7
        simp [h7, this]
      · have : g4 = [] := hlog.2 h7
        simp [h7, this]
    have hbal : balOf false b4 g4 = d.bal := by simpa [balOf] using HU.out
    rw [hund, hbal] at b8
    rw [if_neg hz] at k0
    exact ⟨.tuple #[.int .i64 0, .int .i64 e4], by simp [results, Try.results61, go_sem, k0, k1], rfl, ⟨b8, t8, sp, HH.out.sum⟩, g8⟩

theorem transfer_calls (D T C R B L : Nat) (m : V.Mv) (d : V.Ld) (w : World) (h : LdAt w D T C R B L d) :
    Calls Try.prog 61 #[.pointer (some ⟨D, 0, none⟩), .int .i64 m.f, .int .i64 m.t, .int .i64 m.a] w fun e w' => e = .returned (.tuple #[.int .i64 (d.transfer m).2.1, .int .i64 (d.transfer m).2.2]) ∧ LdAt w' D T C R B L (d.transfer m).1 ∧ Fr [D, T, C, R, B, L] w w' := by
  by_cases hc : V.check m = 0
  · by_cases he : (d.t.clear.pair m.f m.t).2.2.2 = 0
    · exact transfer_pay D T C R B L m d w h hc he
    · exact transfer_held D T C R B L m d w h hc he
  · exact transfer_bad D T C R B L m d w h hc

end Go.Proofs.Qxb6500360a
