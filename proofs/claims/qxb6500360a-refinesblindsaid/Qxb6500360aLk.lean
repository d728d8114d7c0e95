/-
  L1: the real table of locks: its walks.
-/
import Derived.Test.Qxb6500360aBa
namespace Go.Proofs.Qxb6500360a
open Go.RowKit
set_option linter.unusedSimpArgs false
set_option linter.unusedVariables false

/-- The table t lies at the blocks T (the struct), C (its cells), R (the trace). -/
structure TabAt (w : World) (T C R : Nat) (t : V.Tb) : Prop where
  c0 : w.cell? ⟨T, 0, none⟩ = some (.slice (some ⟨C, 0, none⟩) 4 4)
  c1 : w.cell? ⟨T, 1, none⟩ = some (.int .i64 t.held)
  c2 : w.cell? ⟨T, 2, none⟩ = some (.slice (some ⟨R, 0, none⟩) 24 24)
  c3 : w.cell? ⟨T, 3, none⟩ = some (.int .i64 (t.tr.length : Nat))
  co : ∀ k, k < 4 → w.cell? ⟨C, k * 2, none⟩ = some (.int .i64 (t.ov k))
  cg : ∀ k, k < 4 → w.cell? ⟨C, k * 2 + 1, none⟩ = some (.int .i64 (t.g k))
  ct : ∀ i, i < 24 → ∃ v : UInt8, w.cell? ⟨R, i, none⟩ = some (.int .u8 v.toNat) ∧ (i < t.tr.length → v = t.tr.getD i 0)
  fT : ∀ o, w.frozen? ⟨T, o, none⟩ = false
  fC : ∀ o, w.frozen? ⟨C, o, none⟩ = false
  fR : ∀ o, w.frozen? ⟨R, o, none⟩ = false
  nTC : T ≠ C
  nTR : T ≠ R
  nCR : C ≠ R
  wf : t.Wf

theorem TabAt.lT {w : World} {T C R : Nat} {t : V.Tb} (h : TabAt w T C R t) : T < w.heap.size := lt_of_cell h.c0
theorem TabAt.lC {w : World} {T C R : Nat} {t : V.Tb} (h : TabAt w T C R t) : C < w.heap.size := lt_of_cell (h.co 0 (by omega))
theorem TabAt.lR {w : World} {T C R : Nat} {t : V.Tb} (h : TabAt w T C R t) : R < w.heap.size := by obtain ⟨v, hv, _⟩ := h.ct 0 (by omega); exact lt_of_cell hv

theorem TabAt.keep {w w' : World} {T C R : Nat} {t : V.Tb} (h : TabAt w T C R t) {B : List Nat} (hf : Fr B w w') (hT : T ∉ B) (hC : C ∉ B) (hR : R ∉ B) : TabAt w' T C R t :=
  ⟨(hf.cell h.lT hT 0).trans h.c0, (hf.cell h.lT hT 1).trans h.c1, (hf.cell h.lT hT 2).trans h.c2, (hf.cell h.lT hT 3).trans h.c3,
    fun k hk => (hf.cell h.lC hC _).trans (h.co k hk), fun k hk => (hf.cell h.lC hC _).trans (h.cg k hk),
    fun i hi => by rw [hf.cell h.lR hR]; exact h.ct i hi,
    fun o => (hf.frozen h.lT hT o).trans (h.fT o), fun o => (hf.frozen h.lC hC o).trans (h.fC o), fun o => (hf.frozen h.lR hR o).trans (h.fR o),
    h.nTC, h.nTR, h.nCR, h.wf⟩

theorem TabAt.alloc {w : World} {T C R : Nat} {t : V.Tb} (h : TabAt w T C R t) (o : Obj) : TabAt (w.alloc o) T C R t :=
  h.keep (B := []) ((Fr.refl _ _).alloc o) (by simp) (by simp) (by simp)
theorem TabAt.drew {w : World} {T C R : Nat} {t : V.Tb} (h : TabAt w T C R t) : TabAt w.drew T C R t :=
  h.keep (B := []) ((Fr.refl _ _).drew) (by simp) (by simp) (by simp)
theorem TabAt.drewN {w : World} {T C R : Nat} {t : V.Tb} (h : TabAt w T C R t) (n : Nat) : TabAt (w.drewN n) T C R t :=
  h.keep (B := []) ((Fr.refl _ _).drewN n) (by simp) (by simp) (by simp)
theorem TabAt.setCell {w : World} {T C R : Nat} {t : V.Tb} (h : TabAt w T C R t) {a : Addr} (v : Value) (hT : T ≠ a.block) (hC : C ≠ a.block) (hR : R ≠ a.block) : TabAt (w.setCell a v) T C R t :=
  h.keep (B := [a.block]) ((Fr.refl _ _).setCell (by simp) v) (by simpa using hT) (by simpa using hC) (by simpa using hR)

/-! ### small plain facts -/
theorem V.Tb.g_bd {t : V.Tb} (h : t.Wf) (k : Nat) : 0 ≤ t.g k ∧ t.g k < 4 := by
  by_cases hk : k < 4
  · exact h.g k hk
  · have : t.g k = 0 := by unfold V.Tb.g; simp [List.getD_eq_getElem?_getD, List.getElem?_eq_none (show t.gn.length ≤ k by have := h.lg; omega)]
    omega
theorem V.Tb.held_bd {t : V.Tb} (h : t.Wf) : 0 ≤ t.held ∧ t.held ≤ 4 := by
  unfold V.Tb.held
  have := List.count_le_length (a := true) (l := t.op)
  have := h.lo
  omega
theorem V.Tb.note_wf {t : V.Tb} (h : t.Wf) (c : UInt8) (k : Nat) : (t.note c k).Wf := by
  unfold V.Tb.note
  have he := h.ev
  split
  · exact ⟨h.lo, h.lg, h.g, by simp; omega, by simp; omega⟩
  · exact h

theorem dg_toNat (k : Nat) (h : k < 10) : ((V.dg k).toNat : Int) = 48 + (k : Int) := by
  unfold V.dg
  rw [UInt8.toNat_ofNat']
  omega

theorem note_eff {w : World} {T C R k : Nat} {c : UInt8} {t : V.Tb} (hk : k < 4) (h : TabAt w T C R t) (hn : t.tr.length < 24) (nq : Nat) :
    TabAt ((((w.drewN nq).setCell ⟨R, t.tr.length, none⟩ (.int .u8 c.toNat)).setCell ⟨R, t.tr.length + 1, none⟩ (.int .u8 (48 + k))).setCell ⟨T, 3, none⟩ (.int .i64 ((t.tr.length : Nat) + 2))).drew T C R (t.note c k) := by
  have h' := h
  obtain ⟨c0, c1, c2, c3, co, cg, ct, fT, fC, fR, nTC, nTR, nCR, wf⟩ := h'
  have ev := wf.ev
  have wf' := V.Tb.note_wf wf c k
  have hd := dg_toNat k (by omega)
  have hnote : t.note c k = { t with tr := t.tr ++ [c, V.dg k] } := by simp [V.Tb.note, hn]
  rw [hnote] at wf' ⊢
  obtain ⟨x, hx, -⟩ := ct t.tr.length hn
  obtain ⟨y, hy, -⟩ := ct (t.tr.length + 1) (by omega)
  refine ⟨?_, ?_, ?_, ?_, fun j hj => ?_, fun j hj => ?_, fun i hi => ?_, fun o => ?_, fun o => ?_, fun o => ?_, nTC, nTR, nCR, wf'⟩
  · simp [cell_set, cell_drewN, c0, nTR.symm]
  · simp [cell_set, cell_drewN, c1, nTR.symm, V.Tb.held]
  · simp [cell_set, cell_drewN, c2, nTR.symm]
  · simp [cell_set, cell_drewN, c3, nTR.symm]
  · simp [cell_set, cell_drewN, co j hj, nCR.symm, nTC]; rfl
  · simp [cell_set, cell_drewN, cg j hj, nCR.symm, nTC]; rfl
  · by_cases h1 : t.tr.length = i
    · subst h1
      exact ⟨c, by simp [cell_set, cell_drewN, hx, nTR], fun _ => by simp⟩
    · by_cases h2 : t.tr.length + 1 = i
      · subst h2
        exact ⟨V.dg k, by simp [cell_set, cell_drewN, hy, nTR, hd], fun _ => by simp⟩
      · obtain ⟨v, hv, hvt⟩ := ct i hi
        refine ⟨v, by simp [cell_set, cell_drewN, hv, nTR, h1, h2], fun hl => ?_⟩
        simp only [List.length_append, List.length_cons, List.length_nil] at hl
        rw [hvt (by omega)]
        simp [List.getElem?_append_left (show i < t.tr.length by omega)]
  · simp [frozen_drewN, fT]
  · simp [frozen_drewN, fC]
  · simp [frozen_drewN, fR]

set_option maxHeartbeats 400000 in
theorem note_calls (T C R k : Nat) (x q : Int) (c : UInt8) (t : V.Tb) (w : World) (hc : x = c.toNat) (hq : q = k) (hk : k < 4) (h : TabAt w T C R t) :
    Calls Try.prog 74 #[.pointer (some ⟨T, 0, none⟩), .int .u8 x, .int .i64 q] w fun e w' => e = .returned (.tuple #[]) ∧ TabAt w' T C R (t.note c k) ∧ Fr [T, C, R] w w' := by
  have c2 := h.c2
  have c3 := h.c3
  have fT := h.fT
  have fR := h.fR
  have nTR := h.nTR
  have ev := h.wf.ev
  have tl := h.wf.tr
  subst hc hq
  by_cases hn : t.tr.length < 24
  · obtain ⟨x, hx, -⟩ := h.ct t.tr.length hn
    obtain ⟨y, hy, -⟩ := h.ct (t.tr.length + 1) (by omega)
    have HH : Hid (TabAt w T C R t) := h
    clear h
    have hn2 : t.tr.length + 1 < 24 := by omega
    go_enter Try.func74, Try.ntmps74
    go_wp2
    go_quiet (fail)
    go_wp2
    go_region
    go_wp2
    go_region
    go_wp2
    go_end0
    exact ⟨rfl, note_eff hk HH.out hn _, ((((Fr.refl _ _).drewN _).setCell (by simp) _).setCell (by simp) _).setCell (by simp) _ |>.drew⟩
  · have hn2 : t.tr.length = 24 := by omega
    have hnote : t.note c k = t := by simp [V.Tb.note, hn]
    rw [hnote]
    have HH : Hid (TabAt w T C R t) := h
    clear h hnote
    rw [hn2] at c3
    go_enter Try.func74, Try.ntmps74
    go_wp2
    go_quiet (fail)
    go_wp2
    go_end0
    exact ⟨rfl, HH.out.drewN _, (Fr.refl _ _).drewN _⟩

theorem V.Tb.clear_wf {t : V.Tb} (h : t.Wf) : t.clear.Wf := ⟨h.lo, h.lg, h.g, by simp [V.Tb.clear], by simp [V.Tb.clear]⟩

theorem clear_eff {w : World} {T C R : Nat} {t : V.Tb} (h : TabAt w T C R t) : TabAt (w.setCell ⟨T, 3, none⟩ (.int .i64 0)) T C R t.clear := by
  have h' := h
  obtain ⟨c0, c1, c2, c3, co, cg, ct, fT, fC, fR, nTC, nTR, nCR, wf⟩ := h'
  refine ⟨?_, ?_, ?_, ?_, fun j hj => ?_, fun j hj => ?_, fun i hi => ?_, fun o => ?_, fun o => ?_, fun o => ?_, nTC, nTR, nCR, V.Tb.clear_wf wf⟩
  · simp [cell_set, c0]
  · simp [cell_set, c1, V.Tb.held, V.Tb.clear]
  · simp [cell_set, c2]
  · simp [cell_set, c3, V.Tb.clear]
  · simp [cell_set, co j hj, nTC]; rfl
  · simp [cell_set, cg j hj, nTC]; rfl
  · obtain ⟨v, hv, hvt⟩ := ct i hi
    exact ⟨v, by simp [cell_set, hv, nTR], fun hl => by simp [V.Tb.clear] at hl⟩
  · simp [fT]
  · simp [fC]
  · simp [fR]

set_option maxHeartbeats 400000 in
theorem clear_calls (T C R : Nat) (t : V.Tb) (w : World) (h : TabAt w T C R t) :
    Calls Try.prog 78 #[.pointer (some ⟨T, 0, none⟩)] w fun e w' => e = .returned (.tuple #[]) ∧ TabAt w' T C R t.clear ∧ Fr [T, C, R] w w' := by
  have c3 := h.c3
  have fT := h.fT
  have HH : Hid (TabAt w T C R t) := h
  clear h
  go_enter Try.func78, Try.ntmps78
  go_wp2
  go_end0
  exact ⟨rfl, clear_eff HH.out, (Fr.refl _ _).setCell (by simp) _⟩

set_option maxHeartbeats 400000 in
theorem held_calls (T C R : Nat) (t : V.Tb) (w : World) (h : TabAt w T C R t) :
    Calls Try.prog 92 #[.pointer (some ⟨T, 0, none⟩)] w fun e w' => e = .returned (.int .i64 t.held) ∧ w' = w := by
  have c1 := h.c1
  clear h
  go_enter Try.func92, Try.ntmps92
  go_wp2
  go_ret
  exact ⟨rfl, rfl⟩

set_option maxHeartbeats 400000 in
theorem good_calls (k : Int) (w : World) :
    Calls Try.prog 73 #[.int .i64 k] w fun e w' => e = .returned (.bool (V.good k)) ∧ w' = w := by
  by_cases h : 0 ≤ k
  · go_enter Try.func73, Try.ntmps73
    go_wp2
    go_ret
    exact ⟨by simp [V.good, h], rfl⟩
  · have hg : V.good k = false := by simp [V.good, h]
    rw [hg]
    clear hg
    go_enter Try.func73, Try.ntmps73
    go_wp2
    go_ret
    exact ⟨rfl, rfl⟩

theorem V.good_lt {k : Int} (h : V.good k = true) : 0 ≤ k ∧ k < 4 := by simpa [V.good] using h

theorem getD_set {α : Type} (l : List α) (k j : Nat) (v d : α) : (l.set k v).getD j d = if k = j ∧ k < l.length then v else l.getD j d := by
  simp only [List.getD_eq_getElem?_getD, List.getElem?_set]
  by_cases h : k = j
  · subst h
    by_cases hk : k < l.length
    · simp [hk]
    · simp [hk, List.getElem?_eq_none (show l.length ≤ k by omega)]
  · simp [h]

theorem count_set_true (l : List Bool) (k : Nat) (hk : k < l.length) (h : l.getD k false = false) : (l.set k true).count true = l.count true + 1 := by
  rw [List.count_set hk]
  simp [List.getD_eq_getElem?_getD, List.getElem?_eq_getElem hk] at h
  simp [h]
theorem count_set_false (l : List Bool) (k : Nat) (hk : k < l.length) (h : l.getD k false = true) : (l.set k false).count true + 1 = l.count true := by
  rw [List.count_set hk]
  simp [List.getD_eq_getElem?_getD, List.getElem?_eq_getElem hk] at h
  have : 0 < l.count true := List.count_pos_iff.2 (by rw [← h]; exact List.getElem_mem hk)
  simp [h]
  omega

theorem take_eff {w : World} {T C R k : Nat} {t : V.Tb} (hk : k < 4) (h : TabAt w T C R t) (ho : t.o k = false) :
    TabAt ((w.setCell ⟨C, k * 2, none⟩ (.int .i64 (k + 4 * t.g k))).setCell ⟨T, 1, none⟩ (.int .i64 (t.held + 1))) T C R { t with op := t.op.set k true } := by
  have h' := h
  obtain ⟨c0, c1, c2, c3, co, cg, ct, fT, fC, fR, nTC, nTR, nCR, wf⟩ := h'
  have hl := wf.lo
  refine ⟨?_, ?_, ?_, ?_, fun j hj => ?_, fun j hj => ?_, fun i hi => ?_, fun o => ?_, fun o => ?_, fun o => ?_, nTC, nTR, nCR, ⟨by simpa using wf.lo, wf.lg, wf.g, wf.tr, wf.ev⟩⟩
  · simp [cell_set, c0, nTC.symm]
  · have := count_set_true t.op k (by omega) ho
    simp [cell_set, c1, nTC.symm, V.Tb.held, this]
  · simp [cell_set, c2, nTC.symm]
  · simp [cell_set, c3, nTC.symm]
  · by_cases e : k = j
    · subst e
      simp [cell_set, co k hk, nTC, V.Tb.ov, V.Tb.o, getD_set, hl, hk, V.Tb.g]
    · have e2 : ¬ k * 2 = j * 2 := by omega
      simp [cell_set, co j hj, nTC, e, e2, V.Tb.ov, V.Tb.o, getD_set, V.Tb.g]
  · have e2 : ¬ k * 2 = j * 2 + 1 := by omega
    simp [cell_set, cg j hj, nTC, e2]; rfl
  · obtain ⟨v, hv, hvt⟩ := ct i hi
    exact ⟨v, by simp [cell_set, hv, nTR, nCR], hvt⟩
  · simp [fT]
  · simp [fC]
  · simp [fR]

set_option maxHeartbeats 400000 in
theorem acquire_calls (T C R : Nat) (k : Int) (t : V.Tb) (w : World) (h : TabAt w T C R t) :
    Calls Try.prog 49 #[.pointer (some ⟨T, 0, none⟩), .int .i64 k] w fun e w' => e = .returned (.tuple #[.int .i64 (t.acq k).2.1, .int .i64 (t.acq k).2.2]) ∧ TabAt w' T C R (t.acq k).1 ∧ Fr [T, C, R] w w' := by
  cases hg : V.good k with
  | false =>
    have hq : t.acq k = (t, 0, 2) := by simp [V.Tb.acq, hg]
    rw [hq]
    have HH : Hid (TabAt w T C R t) := h
    clear h hq
    go_enter Try.func49, Try.ntmps49
    go_wp2_with (go_at_call 73; refine calls_same (good_calls _ _) ?_)
    go_ret2
    exact ⟨rfl, HH.out, Fr.refl _ _⟩
  | true =>
    obtain ⟨g0, g1⟩ := V.good_lt hg
    obtain ⟨k, rfl⟩ := Int.eq_ofNat_of_zero_le g0
    have hk : k < 4 := by omega
    have c0 := h.c0
    have co := h.co k hk
    cases ho : t.o k with
    | true =>
      have hq : t.acq k = (t, 0, 4) := by simp [V.Tb.acq, hg, ho]
      rw [hq]
      have hov : 0 ≤ t.ov k := by have := V.Tb.g_bd h.wf k; simp [V.Tb.ov, ho]; omega
      have HH : Hid (TabAt w T C R t) := h
      clear h hq
      go_enter Try.func49, Try.ntmps49
      go_wp2_with (go_at_call 73; refine calls_same (good_calls _ _) ?_)
      go_ret2
      exact ⟨rfl, HH.out, Fr.refl _ _⟩
    | false =>
      have hov : t.ov k = -1 := by simp [V.Tb.ov, ho]
      rw [hov] at co
      have cg := h.cg k hk
      have c1 := h.c1
      have fC := h.fC
      have fT := h.fT
      have nTC := h.nTC
      obtain ⟨b0, b1⟩ := V.Tb.g_bd h.wf k
      obtain ⟨d0, d1⟩ := V.Tb.held_bd h.wf
      have HH : Hid (TabAt w T C R t) := h
      clear h
      go_enter Try.func49, Try.ntmps49
      go_wp2_with (go_at_call 73; refine calls_same (good_calls _ _) ?_)
      refine (note_calls T C R k _ _ 65 { t with op := t.op.set k true } _ rfl rfl hk (take_eff hk HH.out ho)).mono ?_
      rintro e w1 ⟨rfl, ht, hf⟩
      have HT : Hid (TabAt w1 T C R (t.take k)) := ht
      have HF : Hid (Fr [T, C, R] w w1) := ((((Fr.refl _ _).setCell (by simp) _).setCell (by simp) _).trans hf (fun _ _ h => h))
      clear ht hf
      go_wp2_with fail
      go_ret2
      have hq : t.acq k = (t.take k, k + 4 * t.g k, 0) := by simp [V.Tb.acq, hg, ho]
      rw [hq]
      exact ⟨rfl, HT.out, HF.out⟩

theorem V.Tb.give_wf' {t : V.Tb} (h : t.Wf) (k : Nat) : ({ t with op := t.op.set k false, gn := t.gn.set k ((t.g k + 1) % 4) } : V.Tb).Wf := by
  refine ⟨by simpa using h.lo, by simpa using h.lg, fun j hj => ?_, h.tr, h.ev⟩
  have := h.g j hj
  simp only [V.Tb.g, getD_set] at this ⊢
  split <;> omega

theorem give_eff {w : World} {T C R k : Nat} {t : V.Tb} (hk : k < 4) (h : TabAt w T C R t) (ho : t.o k = true) (nq : Nat) :
    TabAt ((((w.drewN nq).setCell ⟨C, k * 2, none⟩ (.int .i64 (-1))).setCell ⟨C, k * 2 + 1, none⟩ (.int .i64 ((t.g k + 1) % 4))).setCell ⟨T, 1, none⟩ (.int .i64 (t.held - 1))) T C R { t with op := t.op.set k false, gn := t.gn.set k ((t.g k + 1) % 4) } := by
  have h' := h
  obtain ⟨c0, c1, c2, c3, co, cg, ct, fT, fC, fR, nTC, nTR, nCR, wf⟩ := h'
  have hl := wf.lo
  have hl2 := wf.lg
  refine ⟨?_, ?_, ?_, ?_, fun j hj => ?_, fun j hj => ?_, fun i hi => ?_, fun o => ?_, fun o => ?_, fun o => ?_, nTC, nTR, nCR, V.Tb.give_wf' wf k⟩
  · simp [cell_set, c0, nTC.symm]
  · have := count_set_false t.op k (by omega) ho
    have e : ((t.op.count true : Nat) : Int) - 1 = ((t.op.set k false).count true : Nat) := by omega
    simp [cell_set, c1, nTC.symm, V.Tb.held, e]
  · simp [cell_set, c2, nTC.symm]
  · simp [cell_set, c3, nTC.symm]
  · by_cases e : k = j
    · subst e
      simp [cell_set, co k hk, nTC, V.Tb.ov, V.Tb.o, getD_set, hl, hk, V.Tb.g]
    · have e2 : ¬ k * 2 = j * 2 := by omega
      have e3 : ¬ k * 2 + 1 = j * 2 := by omega
      simp [cell_set, co j hj, nTC, e, e2, e3, V.Tb.ov, V.Tb.o, getD_set, V.Tb.g]
  · by_cases e : k = j
    · subst e
      simp [cell_set, cg k hk, nTC, getD_set, hl2, hk, V.Tb.g]
    · have e2 : ¬ k * 2 = j * 2 + 1 := by omega
      have e3 : ¬ k * 2 = j * 2 := by omega
      have e4 : ¬ k * 2 = j * 2 + 1 := by omega
      simp [cell_set, cg j hj, nTC, e, e3, e4, V.Tb.g, getD_set]
  · obtain ⟨v, hv, hvt⟩ := ct i hi
    exact ⟨v, by simp [cell_set, hv, nTR, nCR], hvt⟩
  · simp [fT]
  · simp [fC]
  · simp [fR]

theorem V.Tb.ov_eq {t : V.Tb} (wf : t.Wf) {h : Int} (h0 : 0 ≤ h) (he : t.ov (h % 4).toNat = h) : t.o (h % 4).toNat = true := by
  unfold V.Tb.ov at he
  split at he
  · assumption
  · omega

set_option maxHeartbeats 400000 in
theorem release_both (T C R : Nat) (h : Int) (t : V.Tb) (w : World) (ht : TabAt w T C R t) :
    Both Try.prog 50 #[.pointer (some ⟨T, 0, none⟩), .int .i64 h] w fun e w' => e = .returned (.int .i64 (t.rel h).2) ∧ TabAt w' T C R (t.rel h).1 ∧ Fr [T, C, R] w w' := by
  by_cases hr : 0 ≤ h ∧ h < 16
  · obtain ⟨h0, h1⟩ := hr
    have c0 := ht.c0
    have hk : (h % 4).toNat < 4 := by omega
    have co := ht.co _ hk
    by_cases ho : t.ov (h % 4).toNat = h
    · have hq : t.rel h = (t.give (h % 4).toNat, 0) := by simp [V.Tb.rel, h0, h1, ho]
      have hop := V.Tb.ov_eq ht.wf h0 ho
      rw [hq]
      rw [ho] at co
      have cg := ht.cg _ hk
      have c1 := ht.c1
      have fC := ht.fC
      have fT := ht.fT
      have nTC := ht.nTC
      obtain ⟨b0, b1⟩ := V.Tb.g_bd ht.wf (h % 4).toNat
      obtain ⟨d0, d1⟩ := V.Tb.held_bd ht.wf
      have HH : Hid (TabAt w T C R t) := ht
      have HO : Hid (t.ov (h % 4).toNat = h) := ho
      have hk2 : h % 4 = ((h % 4).toNat : Int) := by omega
      have HK : Hid (h % 4 = ((h % 4).toNat : Int)) := hk2
      have e1 : (decide (h < 0) || decide (16 ≤ h)) = false := by simp; omega
      clear ht hq ho hk2
      refine both_of_wp Try.func50 rfl ?_
      simp only [Try.ntmps50, List.size_toArray, List.length_cons, List.length_nil, Nat.reduceAdd, Nat.reduceSub, Array.replicate_succ, Array.replicate_zero, List.push_toArray, List.append_toArray, List.nil_append, List.cons_append]
      go_wp2_with fail
      go_region
      go_wp2_with fail
      refine (note_calls T C R (h % 4).toNat _ _ 82 { t with op := t.op.set (h % 4).toNat false, gn := t.gn.set (h % 4).toNat ((t.g (h % 4).toNat + 1) % 4) } _ rfl HK.out hk ((give_eff hk HH.out hop 0).drew)).mono ?_
      rintro e w1 ⟨rfl, ht, hf⟩
      have HT : Hid (TabAt w1 T C R (t.give (h % 4).toNat)) := ht
      have HF : Hid (Fr [T, C, R] w w1) := ((((Fr.refl _ _).setCell (by simp) _).setCell (by simp) _).setCell (by simp) _).drew.trans hf (fun _ _ h => h)
      clear ht hf
      go_wp2_with fail
      go_ret
      exact ⟨rfl, HT.out, HF.out⟩
    · have hq : t.rel h = (t, 5) := by simp [V.Tb.rel, h0, h1, ho]
      rw [hq]
      have HH : Hid (TabAt w T C R t) := ht
      have e1 : (decide (h < 0) || decide (16 ≤ h)) = false := by simp; omega
      have e2 : (t.ov (h % 4).toNat != h) = true := by simpa using ho
      clear ht hq ho
      refine both_of_wp Try.func50 rfl ?_
      simp only [Try.ntmps50, List.size_toArray, List.length_cons, List.length_nil, Nat.reduceAdd, Nat.reduceSub, Array.replicate_succ, Array.replicate_zero, List.push_toArray, List.append_toArray, List.nil_append, List.cons_append]
      go_wp2_with fail
      go_ret
      exact ⟨rfl, HH.out, Fr.refl _ _⟩
  · have hq : t.rel h = (t, 2) := by simp only [V.Tb.rel, if_neg hr]
    rw [hq]
    have HH : Hid (TabAt w T C R t) := ht
    have e1 : (decide (h < 0) || decide (16 ≤ h)) = true := by simp; omega
    clear ht hq
    refine both_of_wp Try.func50 rfl ?_
    simp only [Try.ntmps50, List.size_toArray, List.length_cons, List.length_nil, Nat.reduceAdd, Nat.reduceSub, Array.replicate_succ, Array.replicate_zero, List.push_toArray, List.append_toArray, List.nil_append, List.cons_append]
    go_wp2_with fail
    all_goals
      go_ret
      exact ⟨rfl, HH.out, Fr.refl _ _⟩

end Go.Proofs.Qxb6500360a
