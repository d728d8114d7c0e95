/-
  L2: the real ledger: its books; set, pay, commit, rollback.
-/
import Derived.Test.Qxb6500360aLs
import Derived.Deep.RegionLaw
import Derived.StillTailTactics
namespace Go.Proofs.Qxb6500360a
open Go.RowKit
set_option linter.unusedSimpArgs false
set_option linter.unusedVariables false

/-- The books of the ledger at D (its balances at B, its journal at L; T: the table that it points to). -/
structure BkAt (w : World) (D T B L : Nat) (bal : List Int) (lg : List (Nat × Int)) (und : Int) : Prop where
  d0 : w.cell? ⟨D, 0, none⟩ = some (.pointer (some ⟨T, 0, none⟩))
  d1 : w.cell? ⟨D, 1, none⟩ = some (.slice (some ⟨B, 0, none⟩) 4 4)
  d2 : w.cell? ⟨D, 2, none⟩ = some (.slice (some ⟨L, 0, none⟩) lg.length 6)
  d3 : w.cell? ⟨D, 3, none⟩ = some (.int .i64 und)
  cb : ∀ k, k < 4 → w.cell? ⟨B, k, none⟩ = some (.int .i64 (V.bl bal k))
  cl : ∀ i, i < 6 → ∃ x y, w.cell? ⟨L, i * 2, none⟩ = some (.int .i64 x) ∧ w.cell? ⟨L, i * 2 + 1, none⟩ = some (.int .i64 y) ∧ ∀ p, lg[i]? = some p → x = p.1 ∧ y = p.2
  fD : ∀ o, w.frozen? ⟨D, o, none⟩ = false
  fB : ∀ o, w.frozen? ⟨B, o, none⟩ = false
  fL : ∀ o, w.frozen? ⟨L, o, none⟩ = false
  nDB : D ≠ B
  nDL : D ≠ L
  nBL : B ≠ L
  lb : bal.length = 4
  bb : ∀ k, k < 4 → 0 ≤ V.bl bal k ∧ V.bl bal k ≤ 250
  ub : 0 ≤ und ∧ und ≤ 99
  lo : ∀ p ∈ lg, p.1 < 4 ∧ 0 ≤ p.2 ∧ p.2 ≤ 250

theorem BkAt.lD {w : World} {D T B L : Nat} {bal lg und} (h : BkAt w D T B L bal lg und) : D < w.heap.size := lt_of_cell h.d0
theorem BkAt.lB {w : World} {D T B L : Nat} {bal lg und} (h : BkAt w D T B L bal lg und) : B < w.heap.size := lt_of_cell (h.cb 0 (by omega))
theorem BkAt.lL {w : World} {D T B L : Nat} {bal lg und} (h : BkAt w D T B L bal lg und) : L < w.heap.size := by obtain ⟨x, y, hx, _⟩ := h.cl 0 (by omega); exact lt_of_cell hx

theorem BkAt.keep {w w' : World} {D T B L : Nat} {bal lg und} (h : BkAt w D T B L bal lg und) {X : List Nat} (hf : Fr X w w') (hD : D ∉ X) (hB : B ∉ X) (hL : L ∉ X) : BkAt w' D T B L bal lg und :=
  ⟨(hf.cell h.lD hD 0).trans h.d0, (hf.cell h.lD hD 1).trans h.d1, (hf.cell h.lD hD 2).trans h.d2, (hf.cell h.lD hD 3).trans h.d3,
    fun k hk => (hf.cell h.lB hB _).trans (h.cb k hk),
    fun i hi => by rw [hf.cell h.lL hL, hf.cell h.lL hL]; exact h.cl i hi,
    fun o => (hf.frozen h.lD hD o).trans (h.fD o), fun o => (hf.frozen h.lB hB o).trans (h.fB o), fun o => (hf.frozen h.lL hL o).trans (h.fL o),
    h.nDB, h.nDL, h.nBL, h.lb, h.bb, h.ub, h.lo⟩
theorem BkAt.alloc {w : World} {D T B L : Nat} {bal lg und} (h : BkAt w D T B L bal lg und) (o : Obj) : BkAt (w.alloc o) D T B L bal lg und :=
  h.keep (X := []) ((Fr.refl _ _).alloc o) (by simp) (by simp) (by simp)
theorem BkAt.drew {w : World} {D T B L : Nat} {bal lg und} (h : BkAt w D T B L bal lg und) : BkAt w.drew D T B L bal lg und :=
  h.keep (X := []) ((Fr.refl _ _).drew) (by simp) (by simp) (by simp)
theorem BkAt.drewN {w : World} {D T B L : Nat} {bal lg und} (h : BkAt w D T B L bal lg und) (n : Nat) : BkAt (w.drewN n) D T B L bal lg und :=
  h.keep (X := []) ((Fr.refl _ _).drewN n) (by simp) (by simp) (by simp)
theorem BkAt.setCell {w : World} {D T B L : Nat} {bal lg und} (h : BkAt w D T B L bal lg und) {a : Addr} (v : Value) (hD : D ≠ a.block) (hB : B ≠ a.block) (hL : L ≠ a.block) : BkAt (w.setCell a v) D T B L bal lg und :=
  h.keep (X := [a.block]) ((Fr.refl _ _).setCell (by simp) v) (by simpa using hD) (by simpa using hB) (by simpa using hL)

theorem V.bl_set (bal : List Int) (k j : Nat) (v : Int) (hl : bal.length = 4) (hk : k < 4) : V.bl (bal.set k v) j = if k = j then v else V.bl bal j := by
  unfold V.bl
  rw [getD_set, hl]
  simp [hk]

theorem set_eff {w : World} {D T B L k : Nat} {v : Int} {bal : List Int} {lg : List (Nat × Int)} {und : Int} (h : BkAt w D T B L bal lg und) (hk : k < 4) (hl : lg.length < 6) (hv : 0 ≤ v ∧ v ≤ 250) (cs : Array Value) (ty : TypeId) :
    BkAt ((((((w.setCell ⟨L, lg.length * 2, none⟩ (.int .i64 k)).setCell ⟨L, lg.length * 2 + 1, none⟩ (.int .i64 (V.bl bal k))).setCell ⟨D, 2, none⟩ (.slice (some ⟨L, 0, none⟩) (lg.length + 1) 6)).setCell ⟨B, k, none⟩ (.int .i64 v)).alloc (.cells cs ty)).drew)
      D T B L (bal.set k v) (lg ++ [(k, V.bl bal k)]) und := by
  refine BkAt.drew (BkAt.alloc ?_ _)
  have h' := h
  obtain ⟨d0, d1, d2, d3, cb, cl, fD, fB, fL, nDB, nDL, nBL, lb, bb, ub, lo⟩ := h'
  obtain ⟨x, y, hx, hy, -⟩ := cl lg.length hl
  refine ⟨?_, ?_, ?_, ?_, fun j hj => ?_, fun i hi => ?_, fun o => ?_, fun o => ?_, fun o => ?_, nDB, nDL, nBL, by simpa using lb, fun j hj => ?_, ub, fun p hp => ?_⟩
  · simp [cell_set, d0, nDB.symm, nDL.symm]
  · simp [cell_set, d1, nDB.symm, nDL.symm]
  · simp [cell_set, d2, nDB.symm, nDL.symm]
  · simp [cell_set, d3, nDB.symm, nDL.symm]
  · rw [V.bl_set _ _ _ _ lb hk]
    by_cases e : k = j
    · subst e; simp [cell_set, cb k hk, nDB, nBL.symm]
    · simp [cell_set, cb j hj, nDB, nBL.symm, e]
  · by_cases e : lg.length = i
    · subst e
      refine ⟨k, V.bl bal k, by simp [cell_set, hx, nDL, nBL], by simp [cell_set, hy, nDL, nBL], ?_⟩
      intro p hp
      simp at hp
      subst hp
      exact ⟨rfl, rfl⟩
    · obtain ⟨x', y', hx', hy', hp'⟩ := cl i hi
      have e1 : ¬ lg.length * 2 = i * 2 := by omega
      have e2 : ¬ lg.length * 2 + 1 = i * 2 := by omega
      have e3 : ¬ lg.length * 2 = i * 2 + 1 := by omega
      have e4 : ¬ lg.length * 2 + 1 = i * 2 + 1 := by omega
      refine ⟨x', y', by simp [cell_set, hx', nDL, nBL, e1, e2], by simp [cell_set, hy', nDL, nBL, e1, e3, e4], fun p hp => ?_⟩
      refine hp' p ?_
      rw [List.getElem?_append] at hp
      split at hp
      · exact hp
      · rw [List.getElem?_singleton, if_neg (by omega)] at hp
        cases hp
  · simp [fD]
  · simp [fB]
  · simp [fL]
  · rw [V.bl_set _ _ _ _ lb hk]
    split
    · exact hv
    · exact bb j hj
  · rw [List.mem_append] at hp
    rcases hp with hp | hp
    · exact lo p hp
    · simp at hp
      subst hp
      exact ⟨hk, bb k hk⟩

set_option maxHeartbeats 1000000 in
set_option maxRecDepth 100000 in
theorem set_calls (X D T B L k : Nat) (v : Int) (bal : List Int) (lg : List (Nat × Int)) (und : Int) (w : World) (h : BkAt w D T B L bal lg und)
    (hx : w.cell? ⟨X, 0, none⟩ = some (.pointer (some ⟨D, 0, none⟩))) (hk : k < 4) (hl : lg.length < 6) (hv : 0 ≤ v ∧ v ≤ 250) :
    Calls Try.prog 96 #[.pointer (some ⟨X, 0, none⟩), .int .i64 k, .int .i64 v] w fun e w' => e = .returned (.tuple #[]) ∧ BkAt w' D T B L (bal.set k v) (lg ++ [(k, V.bl bal k)]) und ∧ Fr [D, B, L] w w' := by
  have d1 := h.d1
  have d2 := h.d2
  have cb := h.cb k hk
  obtain ⟨x, y, hx1, hx2, -⟩ := h.cl lg.length hl
  have fD := h.fD
  have fB := h.fB
  have fL := h.fL
  have nDB := h.nDB
  have nDL := h.nDL
  have nBL := h.nBL
  have lD := h.lD
  have lB := h.lB
  have lL := h.lL
  have HH : Hid (BkAt w D T B L bal lg und) := h
  clear h
  go_enter Try.func96, Try.ntmps96
  go_wp2
  go_region
  go_wp2
  go_end0
  exact ⟨rfl, set_eff HH.out hk hl hv _ _, ((((((Fr.refl _ _).setCell (by simp) _).setCell (by simp) _).setCell (by simp) _).setCell (by simp) _).alloc _).drew⟩

theorem mixed : Try.prog.follows .mixedOrders = true := by kernel_rfl

/-- A region that draws: n reads in whatever order, and behind them a tail whose order is forced. -/
theorem region_tail {id : Nat} {Q : Exit → Act → World → Prop} {a : Act} {w : World} {l : List Oper} (n : Nat) (hB : Region.lexTailB .any l.toArray n = true)
    (h : wpStill Try.prog l.toArray w.drew (fun a' => wpList Try.prog l.toArray Q (l.drop n) a' w.drew) (l.take n) a) : (Code.region id l.toArray true).wp Try.prog Q a w :=
  wp_region_still_tail n mixed hB h

/-! ### pay -/
def payBal (bal : List Int) (m : V.Mv) : List Int × List (Nat × Int) × Int :=
  if V.bl bal m.f.toNat < m.a then (bal, [], 6)
  else if 250 < V.bl bal m.t.toNat + m.a then (bal.set m.f.toNat (V.bl bal m.f.toNat - m.a), [(m.f.toNat, V.bl bal m.f.toNat)], 7)
  else ((bal.set m.f.toNat (V.bl bal m.f.toNat - m.a)).set m.t.toNat (V.bl bal m.t.toNat + m.a), [(m.f.toNat, V.bl bal m.f.toNat), (m.t.toNat, V.bl bal m.t.toNat)], 0)

set_option maxHeartbeats 1000000 in
set_option maxRecDepth 100000 in
theorem pay_calls (X D T B L : Nat) (m : V.Mv) (bal : List Int) (lg : List (Nat × Int)) (und : Int) (w : World) (h : BkAt w D T B L bal lg und)
    (hx : w.cell? ⟨X, 0, none⟩ = some (.pointer (some ⟨D, 0, none⟩))) (nX : X ∉ [D, B, L]) (hc : V.check m = 0) (hl : lg.length + 2 ≤ 6) :
    Calls Try.prog 88 #[.pointer (some ⟨X, 0, none⟩), .agg #[.int .i64 m.f, .int .i64 m.t, .int .i64 m.a]] w fun e w' => e = .returned (.int .i64 (payBal bal m).2.2) ∧ BkAt w' D T B L (payBal bal m).1 (lg ++ (payBal bal m).2.1) und ∧ Fr [D, B, L] w w' := by
  obtain ⟨mf, mt, ma⟩ := m
  have hc' : (0 ≤ mf ∧ mf < 4) ∧ (0 ≤ mt ∧ mt < 4) ∧ 1 ≤ ma ∧ ma ≤ 999 ∧ mf ≠ mt := by
    by_cases hg : (V.good mf && V.good mt && decide (1 ≤ ma) && decide (ma ≤ 999)) = true
    · by_cases he : mf = mt
      · simp only [V.check, hg, he, if_true] at hc
        rw [he] at hg
        rw [if_pos hg] at hc
        cases hc
      · simp [V.good] at hg
        exact ⟨hg.1.1.1, hg.1.1.2, hg.1.2, hg.2, he⟩
    · simp only [V.check, if_neg hg] at hc
      cases hc
  obtain ⟨⟨f0, f1⟩, ⟨t0, t1⟩, a0, a1, hne⟩ := hc'
  obtain ⟨f, rfl⟩ := Int.eq_ofNat_of_zero_le f0
  obtain ⟨q, rfl⟩ := Int.eq_ofNat_of_zero_le t0
  have hf : f < 4 := by omega
  have hq : q < 4 := by omega
  have hfq : ¬ f = q := by omega
  have d1 := h.d1
  have cf := h.cb f hf
  have cq := h.cb q hq
  have bf := h.bb f hf
  have bq := h.bb q hq
  have lD := h.lD
  have lB := h.lB
  have lX := lt_of_cell hx
  have HH : Hid (BkAt w D T B L bal lg und) := h
  clear h hc
  simp only [payBal, Int.toNat_natCast]
  by_cases g1 : V.bl bal f < ma
  · simp only [if_pos g1]
    go_enter Try.func88, Try.ntmps88
    go_wp2
    go_quiet (fail)
    go_wp2
    go_ret
    exact ⟨rfl, by simpa using (HH.out.alloc _).drewN _, ((Fr.refl _ _).alloc _).drewN _⟩
  · have w1 : IntKind.i64.wrap (V.bl bal f - ma) = V.bl bal f - ma := i64w _ (by omega)
    simp only [if_neg g1]
    go_enter Try.func88, Try.ntmps88
    go_wp2
    go_quiet (fail)
    go_wp2
    have hnX : ¬ X = D ∧ ¬ X = B ∧ ¬ X = L := by simpa using nX
    obtain ⟨x1, x2, x3⟩ := hnX
    have lL := HH.out.lL
    refine region_tail 14 (by kernel_rfl) ?_
    simp only [List.take_succ_cons, List.take_zero, List.drop_succ_cons, List.drop_zero]
    repeat still_step
    refine wpStill_nil ?_
    go_wp2_with fail
    refine (set_calls X D T B L f _ bal lg und _ (by exact (HH.out.alloc _).drewN _) (by simp [go_sem, hx, lX]) hf (by omega) (by omega)).mono ?_
    rintro e w2 ⟨rfl, hb2, hf2⟩
    have e2 : Hid (BkAt w2 D T B L (bal.set f (V.bl bal f - ma)) (lg ++ [(f, V.bl bal f)]) und) := hb2
    have m1 : w2.cell? ⟨w.heap.size, 1, none⟩ = some (.int .i64 q) := by rw [hf2.cell (by simp) (by simp; omega)]; simp [go_sem]
    have m2 : w2.cell? ⟨w.heap.size, 2, none⟩ = some (.int .i64 ma) := by rw [hf2.cell (by simp) (by simp; omega)]; simp [go_sem]
    have mx : w2.cell? ⟨X, 0, none⟩ = some (.pointer (some ⟨D, 0, none⟩)) := by rw [hf2.cell (by simp; omega) nX]; simp [go_sem, hx, lX]
    have HF : Hid (Fr [D, B, L] w w2) := (((Fr.refl _ _).alloc _).drewN _).trans hf2 (fun _ _ h => h)
    have lM : w.heap.size < w2.heap.size := lt_of_cell m1
    have lX2 := lt_of_cell mx
    have lD2 := hb2.lD
    have lB2 := hb2.lB
    have d1' := hb2.d1
    have cq' := hb2.cb q hq
    rw [V.bl_set _ _ _ _ HH.out.lb hf, if_neg hfq] at cq'
    have l2 : (lg ++ [(f, V.bl bal f)]).length < 6 := by simp; omega
    clear hb2 hf2 d1 cf cq hx
    have w2' : IntKind.i64.wrap (V.bl bal q + ma) = V.bl bal q + ma := i64w _ (by omega)
    by_cases g2 : 250 < V.bl bal q + ma
    · simp only [if_pos g2]
      go_wp2
      go_quiet (fail)
      go_wp2
      go_ret
      exact ⟨rfl, e2.out.drewN _, HF.out.drewN _⟩
    · simp only [if_neg g2]
      go_wp2
      go_quiet (fail)
      go_wp2
      refine region_tail 14 (by kernel_rfl) ?_
      simp only [List.take_succ_cons, List.take_zero, List.drop_succ_cons, List.drop_zero]
      repeat still_step
      refine wpStill_nil ?_
      go_wp2_with fail
      refine (set_calls X D T B L q _ _ _ und _ (by exact e2.out.drewN _) (by simp [go_sem, mx]) hq l2 (by omega)).mono ?_
      rintro e w3 ⟨rfl, hb3, hf3⟩
      have e3 : Hid (BkAt w3 D T B L ((bal.set f (V.bl bal f - ma)).set q (V.bl bal q + ma)) (lg ++ [(f, V.bl bal f)] ++ [(q, V.bl (bal.set f (V.bl bal f - ma)) q)]) und) := hb3
      have HF3 : Hid (Fr [D, B, L] w w3) := (HF.out.drewN _).trans hf3 (fun _ _ h => h)
      clear hb3 hf3
      go_wp2
      go_ret
      have e4 := e3.out
      rw [V.bl_set _ _ _ _ HH.out.lb hf, if_neg hfq] at e4
      exact ⟨rfl, by simpa using e4, HF3.out⟩

/-! ### begin, commit, rollback -/
set_option maxHeartbeats 1000000 in
theorem begin_calls (D : Nat) (w : World) :
    Calls Try.prog 83 #[.pointer (some ⟨D, 0, none⟩)] w fun e w' => e = .returned (.pointer (some ⟨w.heap.size, 0, none⟩)) ∧ w' = w.alloc (.cells #[.pointer (some ⟨D, 0, none⟩)] 133) := by
  go_enter Try.func83, Try.ntmps83
  go_wp2
  go_ret
  exact ⟨rfl, rfl⟩

theorem wipe_eff {w : World} {D T B L : Nat} {bal : List Int} {lg : List (Nat × Int)} {und : Int} (h : BkAt w D T B L bal lg und) :
    BkAt (w.setCell ⟨D, 2, none⟩ (.slice (some ⟨L, 0, none⟩) 0 6)) D T B L bal [] und := by
  have h' := h
  obtain ⟨d0, d1, d2, d3, cb, cl, fD, fB, fL, nDB, nDL, nBL, lb, bb, ub, lo⟩ := h'
  refine ⟨?_, ?_, ?_, ?_, fun j hj => ?_, fun i hi => ?_, fun o => ?_, fun o => ?_, fun o => ?_, nDB, nDL, nBL, lb, bb, ub, by simp⟩
  · simp [cell_set, d0]
  · simp [cell_set, d1]
  · simp [cell_set, d2]
  · simp [cell_set, d3]
  · simp [cell_set, cb j hj, nDB]
  · obtain ⟨x, y, hx, hy, -⟩ := cl i hi
    exact ⟨x, y, by simp [cell_set, hx, nDL], by simp [cell_set, hy, nDL], by simp⟩
  · simp [fD]
  · simp [fB]
  · simp [fL]

set_option maxHeartbeats 1000000 in
theorem commit_calls (X D T B L : Nat) (bal : List Int) (lg : List (Nat × Int)) (und : Int) (w : World) (h : BkAt w D T B L bal lg und) (hl : lg.length ≤ 6)
    (hx : w.cell? ⟨X, 0, none⟩ = some (.pointer (some ⟨D, 0, none⟩))) :
    Calls Try.prog 86 #[.pointer (some ⟨X, 0, none⟩)] w fun e w' => e = .returned (.tuple #[]) ∧ BkAt w' D T B L bal [] und ∧ Fr [D, B, L] w w' := by
  have d2 := h.d2
  have fD := h.fD
  have HH : Hid (BkAt w D T B L bal lg und) := h
  clear h
  go_enter Try.func86, Try.ntmps86
  go_region
  go_wp2
  go_end0
  exact ⟨rfl, (wipe_eff HH.out).drew, ((Fr.refl _ _).setCell (by simp) _).drew⟩

def undo (bal : List Int) (lg : List (Nat × Int)) : List Int := lg.foldr (fun p b => b.set p.1 p.2) bal
theorem undo_snoc (bal : List Int) (lg : List (Nat × Int)) (p : Nat × Int) : undo bal (lg ++ [p]) = undo (bal.set p.1 p.2) lg := by simp [undo]
theorem undo_drop (bal : List Int) (lg : List (Nat × Int)) (j : Nat) (h : j < lg.length) : undo bal (lg.drop j) = (undo bal (lg.drop (j + 1))).set lg[j].1 lg[j].2 := by
  rw [List.drop_eq_getElem_cons h]
  rfl
theorem undo_len (bal : List Int) (lg : List (Nat × Int)) : (undo bal lg).length = bal.length := by
  induction lg with
  | nil => rfl
  | cons p l ih => simpa [undo] using ih

theorem put_eff {w : World} {D T B L k : Nat} {v : Int} {bal : List Int} {lg : List (Nat × Int)} {und : Int} (h : BkAt w D T B L bal lg und) (hk : k < 4) (hv : 0 ≤ v ∧ v ≤ 250) :
    BkAt (w.setCell ⟨B, k, none⟩ (.int .i64 v)) D T B L (bal.set k v) lg und := by
  have h' := h
  obtain ⟨d0, d1, d2, d3, cb, cl, fD, fB, fL, nDB, nDL, nBL, lb, bb, ub, lo⟩ := h'
  refine ⟨?_, ?_, ?_, ?_, fun j hj => ?_, fun i hi => ?_, fun o => ?_, fun o => ?_, fun o => ?_, nDB, nDL, nBL, by simpa using lb, fun j hj => ?_, ub, lo⟩
  · simp [cell_set, d0, nDB.symm]
  · simp [cell_set, d1, nDB.symm]
  · simp [cell_set, d2, nDB.symm]
  · simp [cell_set, d3, nDB.symm]
  · rw [V.bl_set _ _ _ _ lb hk]
    by_cases e : k = j
    · subst e; simp [cell_set, cb k hk]
    · simp [cell_set, cb j hj, e]
  · obtain ⟨x, y, hx, hy, hp⟩ := cl i hi
    exact ⟨x, y, by simp [cell_set, hx, nBL], by simp [cell_set, hy, nBL], hp⟩
  · simp [fD]
  · simp [fB]
  · simp [fL]
  · rw [V.bl_set _ _ _ _ lb hk]
    split
    · exact hv
    · exact bb j hj

theorem und_eff {w : World} {D T B L : Nat} {u : Int} {bal : List Int} {lg : List (Nat × Int)} {und : Int} (h : BkAt w D T B L bal lg und) (hu : 0 ≤ u ∧ u ≤ 99) :
    BkAt (w.setCell ⟨D, 3, none⟩ (.int .i64 u)) D T B L bal lg u := by
  have h' := h
  obtain ⟨d0, d1, d2, d3, cb, cl, fD, fB, fL, nDB, nDL, nBL, lb, bb, ub, lo⟩ := h'
  refine ⟨?_, ?_, ?_, ?_, fun j hj => ?_, fun i hi => ?_, fun o => ?_, fun o => ?_, fun o => ?_, nDB, nDL, nBL, lb, bb, hu, lo⟩
  · simp [cell_set, d0]
  · simp [cell_set, d1]
  · simp [cell_set, d2]
  · simp [cell_set, d3]
  · simp [cell_set, cb j hj, nDB]
  · obtain ⟨x, y, hx, hy, hp⟩ := cl i hi
    exact ⟨x, y, by simp [cell_set, hx, nDL], by simp [cell_set, hy, nDL], hp⟩
  · simp [fD]
  · simp [fB]
  · simp [fL]

theorem bump_bd {n : Int} (h : 0 ≤ n ∧ n ≤ 99) : 0 ≤ V.bump n ∧ V.bump n ≤ 99 := by unfold V.bump; split <;> omega

set_option maxHeartbeats 1000000 in
set_option maxRecDepth 100000 in
theorem rollback_calls (X D T B L : Nat) (bal : List Int) (lg : List (Nat × Int)) (und : Int) (w : World) (h : BkAt w D T B L bal lg und) (hl : lg.length ≤ 6)
    (hx : w.cell? ⟨X, 0, none⟩ = some (.pointer (some ⟨D, 0, none⟩))) :
    Calls Try.prog 85 #[.pointer (some ⟨X, 0, none⟩)] w fun e w' => e = .returned (.tuple #[]) ∧ BkAt w' D T B L (undo bal lg) [] (if lg = [] then und else V.bump und) ∧ Fr [D, B, L] w w' := by
  by_cases he : lg = []
  · subst he
    have d2 := h.d2
    have HH : Hid (BkAt w D T B L bal [] und) := h
    clear h
    go_enter Try.func85, Try.ntmps85
    go_wp2
    refine bodyPost_ret (results_none rfl _ _ _) rfl ?_
    exact ⟨rfl, by simpa [undo] using HH.out, Fr.refl _ _⟩
  · simp only [if_neg he]
    have hpos : 0 < lg.length := List.length_pos_iff.2 he
    have hne : ((lg.length : Int) == 0) = false := by simp; omega
    have d2 := h.d2
    have HH : Hid (BkAt w D T B L bal lg und) := h
    clear h
    go_enter Try.func85, Try.ntmps85
    go_wp2
    go_loopw [3] (fun i w' => ∃ j : Nat, j ≤ lg.length ∧ i = .int .i64 ((j : Int) - 1) ∧ BkAt w' D T B L (undo bal (lg.drop j)) lg und ∧ Fr [D, B, L] w w') (fun i _ => (intOf i + 1).toNat)
    case atStart => exact ⟨lg.length, by omega, rfl, by simpa [undo] using HH.out, Fr.refl _ _⟩
    case round =>
      obtain ⟨j, hj, rfl, hb, hf⟩ := hrel
      have fD := hb.fD
      have fB := hb.fB
      have nDB := hb.nDB
      have e1 := hb.d1
      have e2 := hb.d2
      have e3 := hb.d3
      have HB : Hid (BkAt wr D T B L (undo bal (lg.drop j)) lg und) := hb
      have HF : Hid (Fr [D, B, L] w wr) := hf
      cases j with
      | zero =>
        obtain ⟨u0, u1⟩ := hb.ub
        clear hb hf d2 hx hne
        go_wp2_with (go_at_call 51; refine calls_same (bump_calls _ _ u0 u1) ?_)
        go_end0
        exact ⟨rfl, und_eff (wipe_eff HB.out) (bump_bd ⟨u0, u1⟩), (HF.out.setCell (by simp) _).setCell (by simp) _⟩
      | succ n =>
        have hn : n < lg.length := by omega
        have hn6 : n < 6 := by omega
        obtain ⟨x, y, hx1, hy1, hp⟩ := hb.cl n hn6
        obtain ⟨rfl, rfl⟩ := hp lg[n] (List.getElem?_eq_getElem hn)
        obtain ⟨o1, o2, o3⟩ := hb.lo lg[n] (List.getElem_mem hn)
        have cb := hb.cb lg[n].1 o1
        have HU : Hid (undo bal (lg.drop n) = (undo bal (lg.drop (n + 1))).set lg[n].1 lg[n].2) := undo_drop bal lg n hn
        clear hb hf d2 hx hne hp
        generalize lg[n].1 = p1 at *
        generalize lg[n].2 = p2 at *
        go_wp2
        go_region
        go_wp2
        go_roundw
        case rel =>
          refine ⟨n, by omega, by go_num, ?_, (HF.out.setCell (by simp) _).drew⟩
          rw [HU.out]
          exact (put_eff HB.out o1 ⟨o2, o3⟩).drew
        case measure => simp [intOf]

end Go.Proofs.Qxb6500360a
