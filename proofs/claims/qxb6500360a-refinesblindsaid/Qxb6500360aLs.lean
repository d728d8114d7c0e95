/-
  L1: New, Show, Check of the real table.
-/
import Derived.Test.Qxb6500360aLp
import Derived.Test.Qxb6500360aIt
import Derived.LoopN
import Derived.Laws.MakeOwn
namespace Go.Proofs.Qxb6500360a
open Go.RowKit
set_option linter.unusedSimpArgs false
set_option linter.unusedVariables false

theorem info_of {t : TypeId} {z : Value} {n b : Nat} (h : (Try.prog.info? t).map (fun i => (i.zero, i.size, i.bytes)) = some (some z, n, b)) :
    ∃ i, Try.prog.info? t = some i ∧ i.zero = some z ∧ i.size = n ∧ i.bytes = b := by
  obtain ⟨i, hi, hb⟩ := Option.map_eq_some_iff.1 h
  simp at hb
  exact ⟨i, hi, hb.1, hb.2.1, hb.2.2⟩

/-- 'make' at known numbers. -/
theorem make_of {t e : TypeId} {z : Value} {n b : Nat} (hu : Try.prog.underlying t = some (.slice e)) (h : (Try.prog.info? e).map (fun i => (i.zero, i.size, i.bytes)) = some (some z, n, b))
    (l c : Nat) (hlc : l ≤ c) (hb : b * c ≤ 281474976710656) (hc : c ≤ 1000000) (w : World) :
    (Instr.makeSlice t (.int .i64 l) (.int .i64 c)).run Try.prog w = .ok (.slice (some ⟨w.heap.size, 0, none⟩) l c) (w.alloc (.cells (madeCells z.cells (c * n)) e)) := by
  obtain ⟨i, hi, hz, hn, hbb⟩ := info_of h
  have := run_make (P := Try.prog) w t e i z hu hi hz .i64 .i64 l c (by omega) (by omega) (by rw [hbb]; exact Int.ofNat_le.2 hb) (by omega)
  rw [this, hn]
  simp

theorem mk83 (w : World) : (Instr.makeSlice 83 (.int .i64 4) (.int .i64 4)).run Try.prog w = .ok (.slice (some ⟨w.heap.size, 0, none⟩) 4 4)
    (w.alloc (.cells #[.int .i64 0, .int .i64 0, .int .i64 0, .int .i64 0, .int .i64 0, .int .i64 0, .int .i64 0, .int .i64 0] 88)) := by
  have h := make_of (z := .agg #[.int .i64 0, .int .i64 0]) (n := 2) (b := 16) Try.underlying83 (by kernel_rfl) 4 4 (by omega) (by omega) (by omega) w
  have e : madeCells (Value.agg #[.int .i64 0, .int .i64 0]).cells (4 * 2) = #[.int .i64 0, .int .i64 0, .int .i64 0, .int .i64 0, .int .i64 0, .int .i64 0, .int .i64 0, .int .i64 0] := by kernel_rfl
  rw [e] at h
  exact h

/-- A new trace: 24 bytes. -/
def noTrace : Array Value := madeCells #[.int .u8 0] 24
theorem noTrace_at (i : Nat) (h : i < 24) : noTrace[i]? = some (.int .u8 0) := by
  simp [noTrace, madeCells, h, Nat.mod_one]
theorem mk84 (w : World) : (Instr.makeSlice 84 (.int .i64 24) (.int .i64 24)).run Try.prog w = .ok (.slice (some ⟨w.heap.size, 0, none⟩) 24 24) (w.alloc (.cells noTrace 5)) :=
  make_of (z := .int .u8 0) (n := 1) (b := 1) Try.underlying84 (by kernel_rfl) 24 24 (by omega) (by omega) (by omega) w

set_option maxHeartbeats 1000000 in
set_option maxRecDepth 100000 in
theorem lnew_calls (w : World) :
    Calls Try.prog 27 #[] w fun e w' => ∃ T C R, e = .returned (.pointer (some ⟨T, 0, none⟩)) ∧ TabAt w' T C R V.Tb.fresh ∧ Fr [] w w' ∧ w.heap.size ≤ T ∧ w.heap.size ≤ C ∧ w.heap.size ≤ R := by
  have m1 := mk83
  have m2 := mk84
  go_enter Try.func27, Try.ntmps27
  go_wp2
  refine wp_loop_rounds 6 ?_
  repeat any_goals (rw [rounds_succ]; go_wp2)
  go_ret
  refine ⟨w.heap.size, w.heap.size + 1, w.heap.size + 1 + 1, rfl, ?_, (((Fr.refl _ _).alloc _).alloc _).alloc _, by omega, by omega, by omega⟩
  refine ⟨?_, ?_, ?_, ?_, fun k hk => ?_, fun k hk => ?_, fun i hi => ⟨0, ?_, fun h => by simp [V.Tb.fresh] at h⟩, fun o => ?_, fun o => ?_, fun o => ?_, by omega, by omega, by omega, ⟨rfl, rfl, fun k hk => ?_, by simp [V.Tb.fresh], rfl⟩⟩
  · simp [go_sem]
  · simp [go_sem, V.Tb.held, V.Tb.fresh]
  · simp [go_sem]
  · simp [go_sem, V.Tb.fresh]
  · rcases (show k = 0 ∨ k = 1 ∨ k = 2 ∨ k = 3 by omega) with rfl | rfl | rfl | rfl <;> simp [go_sem, V.Tb.fresh, V.Tb.ov, V.Tb.o]
  · rcases (show k = 0 ∨ k = 1 ∨ k = 2 ∨ k = 3 by omega) with rfl | rfl | rfl | rfl <;> simp [go_sem, V.Tb.fresh, V.Tb.g]
  · simp [go_sem, noTrace_at i hi]
  · simp [go_sem]
  · simp [go_sem]
  · simp [go_sem]
  · rcases (show k = 0 ∨ k = 1 ∨ k = 2 ∨ k = 3 by omega) with rfl | rfl | rfl | rfl <;> simp [V.Tb.fresh, V.Tb.g]

def shO (t : V.Tb) (k : Nat) : List UInt8 := [111, 112, 101, 110, 61] ++ (List.range k).flatMap (fun k => if t.o k then [49] else [48])
def shG (t : V.Tb) (k : Nat) : List UInt8 := shO t 4 ++ [32, 103, 101, 110, 61] ++ (List.range k).flatMap (fun k => V.itoa (t.g k))
theorem shO_len (t : V.Tb) (k : Nat) : (shO t k).length ≤ 5 + k := by
  unfold shO
  induction k with
  | zero => simp
  | succ k ih =>
    simp only [List.range_succ, List.flatMap_append, List.length_append, List.flatMap_cons, List.flatMap_nil, List.append_nil] at ih ⊢
    split <;> (simp at ih ⊢; omega)
theorem shO_succ (t : V.Tb) (k : Nat) : shO t (k + 1) = shO t k ++ (if t.o k then [49] else [48]) := by
  simp [shO, List.range_succ, List.flatMap_append]
theorem shG_len (t : V.Tb) (k : Nat) : (shG t k).length ≤ 14 + 4 * k := by
  unfold shG
  induction k with
  | zero => have := shO_len t 4; simp; omega
  | succ k ih =>
    have := itoa_len (t.g k)
    simp only [List.range_succ, List.flatMap_append, List.length_append, List.flatMap_cons, List.flatMap_nil, List.append_nil] at ih ⊢
    omega
theorem shG_succ (t : V.Tb) (k : Nat) : shG t (k + 1) = shG t k ++ V.itoa (t.g k) := by
  simp [shG, List.range_succ, List.flatMap_append]

/-- 'string(t.trace[:t.n])'. -/
theorem conv_trace {w : World} {T C R : Nat} {t : V.Tb} (h : TabAt w T C R t) : (convert 84 9 (.slice (some ⟨R, 0, none⟩) t.tr.length 24)).run Try.prog w = .ok (S t.tr) w := by
  refine run_convert_bytes_back _ 84 9 5 ⟨R, 0, none⟩ 24 t.tr Try.underlying84 Try.underlying5 Try.underlying9 ?_
  intro j hj
  obtain ⟨v, hv, he⟩ := h.ct j (by have := h.wf.tr; omega)
  rw [he hj] at hv
  have e : (⟨R, 0, none⟩ : Addr).add j = ⟨R, j, none⟩ := by simp [Addr.add]; omega
  rw [e]
  simpa [List.getElem?_eq_getElem hj] using hv

set_option maxHeartbeats 1000000 in
set_option maxRecDepth 100000 in
theorem lshow_calls (T C R : Nat) (t : V.Tb) (w : World) (h : TabAt w T C R t) :
    Calls Try.prog 72 #[.pointer (some ⟨T, 0, none⟩)] w fun e w' => e = .returned (S t.show) ∧ Fr [] w w' := by
  have HH : Hid (TabAt w T C R t) := h
  have c0 := h.c0
  have tl := h.wf.tr
  clear h
  go_enter Try.func72, Try.ntmps72
  go_wp2
  go_loop [3, 4] (fun s i => ∃ k : Nat, k ≤ 4 ∧ i = .int .i64 k ∧ s = S (shO t k)) (fun _ i => 4 - (intOf i).toNat)
  case atStart => exact ⟨0, by omega, rfl, rfl⟩
  case round =>
    obtain ⟨k, hk, rfl, rfl⟩ := hrel
    by_cases hlt : k < 4
    · have co := HH.out.co k hlt
      have hl := shO_len t k
      have hsu := shO_succ t k
      have gb := V.Tb.g_bd HH.out.wf k
      cases ho : t.o k with
      | true =>
        have hov : 0 ≤ t.ov k := by simp [V.Tb.ov, ho]; omega
        have ha : ∀ W, (binOp .add 9 (S (shO t k)) (.string ⟨#[49]⟩)).run Try.prog W = .ok (S (shO t k ++ [49])) W := fun W => run_addS _ [49] W (by simp; omega)
        have HS : Hid (shO t (k + 1) = shO t k ++ [49]) := by show _ = _; simpa [ho] using hsu
        clear hsu gb
        go_wp2
        go_round
        case rel => exact ⟨k + 1, by omega, by go_num, by rw [HS.out]⟩
        case measure => simp [intOf]; omega
      | false =>
        have hov : t.ov k < 0 := by simp [V.Tb.ov, ho]
        have ha : ∀ W, (binOp .add 9 (S (shO t k)) (.string ⟨#[48]⟩)).run Try.prog W = .ok (S (shO t k ++ [48])) W := fun W => run_addS _ [48] W (by simp; omega)
        have HS : Hid (shO t (k + 1) = shO t k ++ [48]) := by show _ = _; simpa [ho] using hsu
        clear hsu gb
        go_wp2
        go_round
        case rel => exact ⟨k + 1, by omega, by go_num, by rw [HS.out]⟩
        case measure => simp [intOf]; omega
    · have hk4 : k = 4 := by omega
      subst hk4
      have hl := shO_len t 4
      have ha : ∀ W, (binOp .add 9 (S (shO t 4)) (.string ⟨#[32, 103, 101, 110, 61]⟩)).run Try.prog W = .ok (S (shO t 4 ++ [32, 103, 101, 110, 61])) W := fun W => run_addS _ _ W (by simp; omega)
      go_wp2
      go_loopw [3, 5] (fun s i w' => ∃ k : Nat, k ≤ 4 ∧ i = .int .i64 k ∧ s = S (shG t k) ∧ Fr [] w w') (fun _ i _ => 4 - (intOf i).toNat)
      case atStart => exact ⟨0, by omega, rfl, by simp [shG], Fr.refl _ _⟩
      case round =>
        obtain ⟨k, hk, rfl, rfl, hf⟩ := hrel
        have hT := HH.out.keep hf (by simp) (by simp) (by simp)
        have d0 := hT.c0
        have HF : Hid (Fr [] w wr) := hf
        have HT : Hid (TabAt wr T C R t) := hT
        have hlg := shG_len t k
        clear hf hT c0 ha
        by_cases hlt : k < 4
        · have cg := HT.out.cg k hlt
          obtain ⟨gb0, gb1⟩ := V.Tb.g_bd HT.out.wf k
          have hil := itoa_len (t.g k)
          have ha : ∀ W, (binOp .add 9 (S (shG t k)) (S (V.itoa (t.g k)))).run Try.prog W = .ok (S (shG t k ++ V.itoa (t.g k))) W := fun W => run_addS _ _ W (by omega)
          have HS : Hid (shG t (k + 1) = shG t k ++ V.itoa (t.g k)) := shG_succ t k
          go_wp2_with fail
          refine (itoa_calls (t.g k) wr gb0 (by omega)).mono ?_
          rintro e w2 ⟨rfl, hf2⟩
          have HF2 : Hid (Fr [] w w2) := HF.out.trans hf2 (fun _ _ h => h)
          clear hf2
          go_wp2_with fail
          go_roundw
          case rel => exact ⟨k + 1, by omega, by go_num, by rw [HS.out], HF2.out⟩
          case measure => simp [intOf]; omega
        · have hk4 : k = 4 := by omega
          subst hk4
          have c2 := HT.out.c2
          have c3 := HT.out.c3
          have cv : ∀ n, (convert 84 9 (.slice (some ⟨R, 0, none⟩) t.tr.length 24)).run Try.prog (wr.drewN n) = .ok (S t.tr) (wr.drewN n) := fun n => conv_trace (HT.out.drewN n)
          have cv1 : (convert 84 9 (.slice (some ⟨R, 0, none⟩) t.tr.length 24)).run Try.prog wr.drew = .ok (S t.tr) wr.drew := conv_trace HT.out.drew
          have ha1 : ∀ W, (binOp .add 9 (S (shG t 4)) (.string ⟨#[32, 116, 114, 97, 99, 101, 61]⟩)).run Try.prog W = .ok (S (shG t 4 ++ [32, 116, 114, 97, 99, 101, 61])) W := fun W => run_addS _ _ W (by simp; omega)
          have ha2 : ∀ W, (binOp .add 9 (S (shG t 4 ++ [32, 116, 114, 97, 99, 101, 61])) (S t.tr)).run Try.prog W = .ok (S (shG t 4 ++ [32, 116, 114, 97, 99, 101, 61] ++ t.tr)) W := fun W => run_addS _ _ W (by simp; omega)
          go_wp2
          go_region
          go_wp2
          go_ret
          exact ⟨S_congr (by simp [V.Tb.show, shG, shO]), HF.out.drew⟩

end Go.Proofs.Qxb6500360a
