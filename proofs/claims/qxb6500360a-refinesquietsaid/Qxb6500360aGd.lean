/-
  New ledgers, new gates, the ground.
-/
import Derived.Test.Qxb6500360aGc
import Derived.Test.Qxb6500360aLs
namespace Go.Proofs.Qxb6500360a
open Go.RowKit
set_option linter.unusedSimpArgs false
set_option linter.unusedVariables false

theorem mk89 (w : World) : (Instr.makeSlice 89 (.int .i64 4) (.int .i64 4)).run Try.prog w = .ok (.slice (some ⟨w.heap.size, 0, none⟩) 4 4)
    (w.alloc (.cells #[.int .i64 0, .int .i64 0, .int .i64 0, .int .i64 0] 3)) := by
  have h := make_of (z := .int .i64 0) (n := 1) (b := 8) Try.underlying89 (by kernel_rfl) 4 4 (by omega) (by omega) (by omega) w
  have e : madeCells (Value.int .i64 0).cells (4 * 1) = #[.int .i64 0, .int .i64 0, .int .i64 0, .int .i64 0] := by kernel_rfl
  rw [e] at h
  exact h
theorem mk90 (w : World) : (Instr.makeSlice 90 (.int .i64 0) (.int .i64 6)).run Try.prog w = .ok (.slice (some ⟨w.heap.size, 0, none⟩) 0 6)
    (w.alloc (.cells #[.int .i64 0, .int .i64 0, .int .i64 0, .int .i64 0, .int .i64 0, .int .i64 0, .int .i64 0, .int .i64 0, .int .i64 0, .int .i64 0, .int .i64 0, .int .i64 0] 135)) := by
  have h := make_of (z := .agg #[.int .i64 0, .int .i64 0]) (n := 2) (b := 16) Try.underlying90 (by kernel_rfl) 0 6 (by omega) (by omega) (by omega) w
  have e : madeCells (Value.agg #[.int .i64 0, .int .i64 0]).cells (6 * 2) = #[.int .i64 0, .int .i64 0, .int .i64 0, .int .i64 0, .int .i64 0, .int .i64 0, .int .i64 0, .int .i64 0, .int .i64 0, .int .i64 0, .int .i64 0, .int .i64 0] := by kernel_rfl
  rw [e] at h
  exact h

set_option maxHeartbeats 1000000 in
set_option maxRecDepth 100000 in
theorem dnew_calls (T C R : Nat) (w : World) (h : TabAt w T C R V.Tb.fresh) :
    Calls Try.prog 28 #[.pointer (some ⟨T, 0, none⟩)] w fun e w' => ∃ D B L, e = .returned (.pointer (some ⟨D, 0, none⟩)) ∧ LdAt w' D T C R B L V.Ld.fresh ∧ Fr [] w w' ∧ w.heap.size ≤ D ∧ w.heap.size ≤ B ∧ w.heap.size ≤ L := by
  have m1 := mk89
  have m2 := mk90
  have HH : Hid (TabAt w T C R V.Tb.fresh) := h
  have lT := h.lT
  have lC := h.lC
  have lR := h.lR
  clear h
  go_enter Try.func28, Try.ntmps28
  go_wp2_with fail
  go_region
  all_goals go_wp2_with fail
  all_goals refine wp_loop_rounds 6 ?_
  all_goals (repeat (rw [rounds_succ]; go_wp2_with fail))
  all_goals go_ret
  · refine ⟨w.heap.size + 1 + 1, w.heap.size, w.heap.size + 1, rfl, ⟨?_, ?_, ?_, rfl⟩, ((((Fr.refl _ _).alloc _).alloc _).alloc _).drew, by omega, by omega, by omega⟩
    · refine ⟨by simp [go_sem], by simp [go_sem], by simp [go_sem], by simp [go_sem, V.Ld.fresh], fun k hk => ?_, fun i hi => ⟨0, 0, ?_, ?_, fun p hp => by simp at hp⟩, fun o => by simp [go_sem], fun o => by simp [go_sem], fun o => by simp [go_sem], by omega, by omega, by omega, rfl, fun k hk => ?_, by simp [V.Ld.fresh], by simp⟩
      · rcases (show k = 0 ∨ k = 1 ∨ k = 2 ∨ k = 3 by omega) with rfl | rfl | rfl | rfl <;> simp [go_sem, V.Ld.fresh, V.bl]
      · rcases (show i = 0 ∨ i = 1 ∨ i = 2 ∨ i = 3 ∨ i = 4 ∨ i = 5 by omega) with rfl | rfl | rfl | rfl | rfl | rfl <;> simp [go_sem]
      · rcases (show i = 0 ∨ i = 1 ∨ i = 2 ∨ i = 3 ∨ i = 4 ∨ i = 5 by omega) with rfl | rfl | rfl | rfl | rfl | rfl <;> simp [go_sem]
      · rcases (show k = 0 ∨ k = 1 ∨ k = 2 ∨ k = 3 by omega) with rfl | rfl | rfl | rfl <;> simp [V.Ld.fresh, V.bl]
    · exact HH.out.keep (B := []) ((((Fr.refl _ _).alloc _).alloc _).alloc _).drew (by simp) (by simp) (by simp)
    · exact ⟨by omega, by omega, by omega, by omega, by omega, by omega, by omega, by omega, by omega⟩
  · refine ⟨w.heap.size + 1 + 1, w.heap.size + 1, w.heap.size, rfl, ⟨?_, ?_, ?_, rfl⟩, ((((Fr.refl _ _).alloc _).alloc _).alloc _).drew, by omega, by omega, by omega⟩
    · refine ⟨by simp [go_sem], by simp [go_sem], by simp [go_sem], by simp [go_sem, V.Ld.fresh], fun k hk => ?_, fun i hi => ⟨0, 0, ?_, ?_, fun p hp => by simp at hp⟩, fun o => by simp [go_sem], fun o => by simp [go_sem], fun o => by simp [go_sem], by omega, by omega, by omega, rfl, fun k hk => ?_, by simp [V.Ld.fresh], by simp⟩
      · rcases (show k = 0 ∨ k = 1 ∨ k = 2 ∨ k = 3 by omega) with rfl | rfl | rfl | rfl <;> simp [go_sem, V.Ld.fresh, V.bl]
      · rcases (show i = 0 ∨ i = 1 ∨ i = 2 ∨ i = 3 ∨ i = 4 ∨ i = 5 by omega) with rfl | rfl | rfl | rfl | rfl | rfl <;> simp [go_sem]
      · rcases (show i = 0 ∨ i = 1 ∨ i = 2 ∨ i = 3 ∨ i = 4 ∨ i = 5 by omega) with rfl | rfl | rfl | rfl | rfl | rfl <;> simp [go_sem]
      · rcases (show k = 0 ∨ k = 1 ∨ k = 2 ∨ k = 3 by omega) with rfl | rfl | rfl | rfl <;> simp [V.Ld.fresh, V.bl]
    · exact HH.out.keep (B := []) ((((Fr.refl _ _).alloc _).alloc _).alloc _).drew (by simp) (by simp) (by simp)
    · exact ⟨by omega, by omega, by omega, by omega, by omega, by omega, by omega, by omega, by omega⟩

set_option maxHeartbeats 1000000 in
set_option maxRecDepth 100000 in
theorem gnew_calls (D T C R B L : Nat) (d : V.Ld) (w : World) (h : LdAt w D T C R B L d) :
    Calls Try.prog 17 #[.pointer (some ⟨D, 0, none⟩)] w fun e w' => ∃ G, e = .returned (.pointer (some ⟨G, 0, none⟩)) ∧ GtAt w' G D T C R B L ⟨⟨0, 0, 0, 0⟩, d⟩ ∧ Fr [] w w' ∧ w.heap.size ≤ G := by
  have HH : Hid (LdAt w D T C R B L d) := h
  have lD := h.bk.lD
  have lB := h.bk.lB
  have lL := h.bk.lL
  have lT := h.tb.lT
  have lC := h.tb.lC
  have lR := h.tb.lR
  clear h
  go_enter Try.func17, Try.ntmps17
  go_wp2_with fail
  go_ret
  refine ⟨w.heap.size, rfl, ⟨⟨by simp [go_sem], by simp [go_sem], by simp [go_sem], by simp [go_sem], by simp [go_sem], fun o => by simp [go_sem], ⟨by simp, by simp, by simp, by simp⟩⟩, HH.out.keep (X := []) ((Fr.refl _ _).alloc _) (by simp), by simp; omega⟩, (Fr.refl _ _).alloc _, by omega⟩

set_option maxHeartbeats 1000000 in
set_option maxRecDepth 100000 in
theorem ground_calls (w : World) :
    Calls Try.prog 16 #[] w fun e w' => ∃ D T C R B L, e = .returned (.agg #[.pointer (some ⟨D, 0, none⟩), .pointer (some ⟨T, 0, none⟩)]) ∧ LdAt w' D T C R B L V.Ld.fresh ∧ Fr [] w w' ∧ (∀ x ∈ [D, T, C, R, B, L], w.heap.size ≤ x) := by
  go_enter Try.func16, Try.ntmps16
  go_wp2_with fail
  refine (lnew_calls _).mono ?_
  rintro e w1 ⟨T, C, R, rfl, h1, f1, s1, s2, s3⟩
  have k0 := f1.cellv (b := w.heap.size) (o := 0) (v := .pointer none) (by simp [go_sem]) (by simp)
  have k1 := f1.cellv (b := w.heap.size) (o := 1) (v := .pointer none) (by simp [go_sem]) (by simp)
  have z0 := f1.frozenv (b := w.heap.size) (o := 0) (by simp [go_sem]) (by simp) (by simp)
  have z1 := f1.frozenv (b := w.heap.size) (o := 1) (by simp [go_sem]) (by simp) (by simp)
  have H1 : Hid (TabAt w1 T C R V.Tb.fresh) := h1
  have F1 : Hid (Fr [] w w1) := ((Fr.refl _ _).alloc _).trans f1 (by simp)
  clear h1 f1
  go_wp2_with (go_at_call 28; refine (dnew_calls T C R _ H1.out).mono ?_)
  rintro e w2 ⟨D, B, L, rfl, h2, f2, s4, s5, s6⟩
  have k0' := k0
  replace k0 := f2.cellv k0 (by simp)
  replace k1 := f2.cellv k1 (by simp)
  replace z0 := f2.frozenv z0 (lt_of_cell k0') (by simp)
  replace z1 := f2.frozenv z1 (lt_of_cell k0') (by simp)
  have l0 := lt_of_cell k0'
  have H2 : Hid (LdAt w2 D T C R B L V.Ld.fresh) := h2
  have F2 : Hid (Fr [] w w2) := F1.out.trans f2 (by simp)
  clear h2 f2 k0'
  simp at s1 s2 s3
  go_wp2_with fail
  refine bodyPost_ret (v := .agg #[.pointer (some ⟨D, 0, none⟩), .pointer (some ⟨T, 0, none⟩)]) (by simp [results, Try.results16, go_sem, cell_set, *]) rfl ?_
  refine ⟨D, T, C, R, B, L, rfl, H2.out.keep (X := [w.heap.size]) (((Fr.refl _ _).setCell (by simp) _).setCell (by simp) _) (by simp; omega), ?_, by simp; omega⟩
  exact (F2.out.setCell (fun h => absurd h (by simp)) _).setCell (fun h => absurd h (by simp)) _

theorem serve_S (G D T C R B L : Nat) (g : V.Gt) (s : List UInt8) (w : World) (h : GtAt w G D T C R B L g) (hm : s.length < 1000000) :
    Calls Try.prog 19 #[.pointer (some ⟨G, 0, none⟩), S s] w (ServeOut w G D T C R B L (g.serve s)) := by
  have := serve_calls G D T C R B L g ⟨s.toArray⟩ w h (by simpa [ByteArray.size] using hm)
  have e : LL ⟨s.toArray⟩ = s := by show s.toArray.toList = s; simp
  rw [e] at this
  exact this

/-! ### the samples -/
def smp (i : Nat) : List UInt8 × List UInt8 × Int :=
  match i with
  | 0 => ([], [64, 48], 8)
  | 1 => ([90], [64, 48], 8)
  | 2 => ([65], [52, 48, 48], 0)
  | 3 => ([66, 50], [49, 48, 48], 0)
  | 4 => ([66, 50, 50], [64, 50], 8)
  | 5 => ([78, 51], [100, 101, 101], 0)
  | 6 => ([78, 52], [], 9)
  | 7 => ([83, 48, 51], [51, 51], 0)
  | 8 => ([83, 48, 48], [], 9)
  | 9 => ([84, 48, 49, 49, 48, 48], [48], 0)
  | 10 => ([84, 48, 49, 49, 48, 48, 48], [64, 54], 8)
  | 11 => ([84, 48], [64, 50], 8)
  | 12 => ([84, 50, 49, 54, 48], [], 7)
  | 13 => ([88], [64, 49], 8)
  | 14 => ([88, 50, 49, 53, 48, 59], [49], 0)
  | 15 => ([88, 51, 48, 53, 59, 50, 49, 49, 59], [35, 49], 7)
  | 16 => ([66, 51], [49, 48, 48], 0)
  | _ => ([65, 65, 65, 65, 65, 65, 65, 65, 65, 65, 65, 65, 65, 65, 65, 65, 65, 65, 65, 65, 65], [], 1)
set_option maxHeartbeats 1000000 in
set_option maxRecDepth 100000 in
theorem sample_calls (i : Nat) (hi : i < 18) (w : World) :
    Calls Try.prog 18 #[.int .i64 i] w fun e w' => e = .returned (.tuple #[S (smp i).1, S (smp i).2.1, .int .i64 (smp i).2.2]) ∧ w' = w := by
  rcases (show i = 0 ∨ i = 1 ∨ i = 2 ∨ i = 3 ∨ i = 4 ∨ i = 5 ∨ i = 6 ∨ i = 7 ∨ i = 8 ∨ i = 9 ∨ i = 10 ∨ i = 11 ∨ i = 12 ∨ i = 13 ∨ i = 14 ∨ i = 15 ∨ i = 16 ∨ i = 17 by omega) with rfl | rfl | rfl | rfl | rfl | rfl | rfl | rfl | rfl | rfl | rfl | rfl | rfl | rfl | rfl | rfl | rfl | rfl
  all_goals
    go_enter Try.func18, Try.ntmps18
    go_wp2_with fail
    exact bodyPost_ret (v := .tuple #[_, _, _]) (by simp [results, Try.results18, go_sem]; exact ⟨rfl, rfl, rfl⟩) rfl ⟨rfl, rfl⟩

/-- The gate behind the first i samples. -/
def gsN : Nat → V.Gt
  | 0 => V.Gt.fresh
  | i + 1 => ((gsN i).serve (smp i).1).1
theorem samples_plain : (List.range 18).all (fun i => decide (((gsN i).serve (smp i).1).2 = (smp i).2)) = true := by kernel_rfl
theorem sample_eq (i : Nat) (hi : i < 18) : ((gsN i).serve (smp i).1).2 = (smp i).2 := by
  have := List.all_eq_true.mp samples_plain i (List.mem_range.mpr hi)
  simpa using this

end Go.Proofs.Qxb6500360a
