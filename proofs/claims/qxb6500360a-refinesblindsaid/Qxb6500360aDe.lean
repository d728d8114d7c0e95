/-
  L3: the decoder of the real gate: decode.
-/
import Derived.Test.Qxb6500360aMo
namespace Go.Proofs.Qxb6500360a
open Go.RowKit
set_option linter.unusedSimpArgs false
set_option linter.unusedVariables false

/-- A command as a value. -/
abbrev cmdV (c : V.Cmd) (sv : Value) : Value := .agg #[.int .u8 c.verb.toNat, .int .i64 c.m.f, .int .i64 c.m.t, .int .i64 c.m.a, sv]
/-- What decode comes to. -/
def DecOut (w : World) (r : Except Nat V.Cmd) (e : Ending) (w' : World) : Prop :=
  match r with
  | .ok c => ∃ sv, e = .returned (cmdV c sv) ∧ (∃ o l k, sv = .slice o l k) ∧ (c.verb = 88 → ∃ g cap, sv = .slice (some ⟨g, 0, none⟩) c.ms.length cap ∧ w.heap.size ≤ g ∧ MsAt w' g c.ms ∧ 0 < c.ms.length ∧ c.ms.length ≤ 20) ∧ Fr [] w w'
  | .error q => e = synE q ∧ Fr [] w w'

/-- A box of five cells. -/
structure Box5 (w : World) (b : Nat) (a0 a1 a2 a3 a4 : Value) : Prop where
  c0 : w.cell? ⟨b, 0, none⟩ = some a0
  c1 : w.cell? ⟨b, 1, none⟩ = some a1
  c2 : w.cell? ⟨b, 2, none⟩ = some a2
  c3 : w.cell? ⟨b, 3, none⟩ = some a3
  c4 : w.cell? ⟨b, 4, none⟩ = some a4
  f : ∀ o, w.frozen? ⟨b, o, none⟩ = false
theorem Box5.keep {w w' : World} {b : Nat} {a0 a1 a2 a3 a4 : Value} (h : Box5 w b a0 a1 a2 a3 a4) {X : List Nat} (hf : Fr X w w') (hn : b ∉ X) : Box5 w' b a0 a1 a2 a3 a4 :=
  ⟨hf.cellv h.c0 hn, hf.cellv h.c1 hn, hf.cellv h.c2 hn, hf.cellv h.c3 hn, hf.cellv h.c4 hn, fun o => (hf.frozen (lt_of_cell h.c0) hn o).trans (h.f o)⟩
theorem Box5.lt {w : World} {b : Nat} {a0 a1 a2 a3 a4 : Value} (h : Box5 w b a0 a1 a2 a3 a4) : b < w.heap.size := lt_of_cell h.c0
theorem Fr.nil {A : Nat} {w w1 w2 : World} (h : Fr [] w w1) (k : Fr [A] w1 w2) (hA : w.heap.size ≤ A) : Fr [] w w2 := h.trans k (fun x hx hm => by simp at hm; omega)

theorem decode_eq (s : ByteArray) (hs : 0 < s.size) : V.decode (L s) =
    (if (L s).getD 0 0 = 65 then V.pEnd (L s) 1 ⟨(L s).getD 0 0, ⟨0, 0, 0⟩, []⟩
    else if (L s).getD 0 0 = 66 ∨ (L s).getD 0 0 = 78 then
      if V.isDig (L s) 1 then V.pEnd (L s) 2 ⟨(L s).getD 0 0, ⟨V.digV (L s) 1, 0, 0⟩, []⟩ else .error 1
    else if (L s).getD 0 0 = 83 then
      if V.isDig (L s) 1 then
        if V.isDig (L s) 2 then V.pEnd (L s) 3 ⟨(L s).getD 0 0, ⟨V.digV (L s) 1, V.digV (L s) 2, 0⟩, []⟩ else .error 2
      else .error 1
    else if (L s).getD 0 0 = 84 then
      match V.pMove (L s) 1 with
      | .ok r => V.pEnd (L s) r.2 ⟨(L s).getD 0 0, r.1, []⟩
      | .error e => .error e
    else if (L s).getD 0 0 = 88 then
      match V.pMoves (L s) (L s).length 1 [] with
      | .ok ms => .ok ⟨(L s).getD 0 0, ⟨0, 0, 0⟩, ms⟩
      | .error e => .error e
    else .error 0) := by
  have hl : 0 < (L s).length := by rw [L_len]; exact hs
  cases hL : L s with
  | nil => rw [hL] at hl; simp at hl
  | cons v l => rfl

set_option maxHeartbeats 1000000 in
set_option maxRecDepth 100000 in
theorem decode_empty (s : ByteArray) (w : World) (hs : s.size = 0) :
    Calls Try.prog 33 #[.string s] w fun e w' => e = synE 0 ∧ Fr [] w w' := by
  go_enter Try.func33, Try.ntmps33
  go_wp2_with fail
  refine (verb_no (w.heap.size + 1) 0 s _ ⟨by simp [go_sem], by simp [go_sem], fun o => by simp [go_sem], by omega, by omega⟩ (by omega)).mono ?_
  rintro e w1 ⟨rfl, f1⟩
  have F1 : Hid (Fr [] w w1) := (((Fr.refl _ _).alloc _).alloc _).trans f1 (fun x hx hm => by simp at hm; omega)
  clear f1
  go_wp2_with fail
  exact ⟨rfl, by simp, F1.out⟩

set_option maxHeartbeats 2000000 in
set_option maxRecDepth 100000 in
theorem decode_A (s : ByteArray) (w : World) (hs : 0 < s.size) (sz : s.size ≤ 20) (hb : ((L s).getD 0 0).toNat = 65) :
    Calls Try.prog 33 #[.string s] w (DecOut w (V.decode (L s))) := by
  have hv : (L s).getD 0 0 = 65 := UInt8.toNat_inj.1 hb
  go_enter Try.func33, Try.ntmps33
  go_wp2_with fail
  refine (verb_yes (w.heap.size + 1) 0 s _ ⟨by simp [go_sem], by simp [go_sem], fun o => by simp [go_sem], by omega, by omega⟩ hs).mono ?_
  rw [hb]
  rintro e w1 ⟨rfl, d1, f1⟩
  have D1 : Hid (DecAt w1 (w.heap.size + 1) s 1) := d1
  have R1 : Hid (Box5 w1 w.heap.size (.int .u8 0) (.int .i64 0) (.int .i64 0) (.int .i64 0) (.slice none 0 0)) := by
    refine Box5.keep (w := (w.alloc (.cells #[.int .u8 0, .int .i64 0, .int .i64 0, .int .i64 0, .slice none 0 0] 59)).alloc (.cells #[.string s, .int .i64 0] 95)) ?_ f1 (by simp)
    exact ⟨by simp [go_sem], by simp [go_sem], by simp [go_sem], by simp [go_sem], by simp [go_sem], fun o => by simp [go_sem]⟩
  have F1 : Hid (Fr [] w w1) := (((Fr.refl _ _).alloc _).alloc _).nil f1 (by simp)
  have l1 : w.heap.size + 1 < w1.heap.size := D1.out.lA
  clear d1 f1
  generalize hA : w.heap.size + 1 = A at *
  have hA' : w.heap.size < A := by omega
  clear hA
  go_wp2_with fail
  have KB : Hid (Box5 (w1.alloc (.cells #[.int .u8 65, .int .i64 0, .int .i64 0, .int .i64 0, .slice none 0 0] 59)) w1.heap.size (.int .u8 65) (.int .i64 0) (.int .i64 0) (.int .i64 0) (.slice none 0 0)) :=
    ⟨by simp [go_sem], by simp [go_sem], by simp [go_sem], by simp [go_sem], by simp [go_sem], fun o => by simp [go_sem]⟩
  have RB : Hid (Box5 (w1.alloc (.cells #[.int .u8 65, .int .i64 0, .int .i64 0, .int .i64 0, .slice none 0 0] 59)) w.heap.size (.int .u8 0) (.int .i64 0) (.int .i64 0) (.int .i64 0) (.slice none 0 0)) := R1.out.keep (X := []) ((Fr.refl _ _).alloc _) (by simp)
  have HD : Hid (DecAt (w1.alloc (.cells #[.int .u8 65, .int .i64 0, .int .i64 0, .int .i64 0, .slice none 0 0] 59)) A s 1) := D1.out.alloc _
  have HF : Hid (Fr [] w (w1.alloc (.cells #[.int .u8 65, .int .i64 0, .int .i64 0, .int .i64 0, .slice none 0 0] 59))) := F1.out.alloc _
  have HO : Hid (w.heap.size < A ∧ A < w1.heap.size) := ⟨hA', l1⟩
  clear hA' l1 R1 D1 F1
  generalize w1.heap.size = K at *
  generalize w1.alloc (.cells #[.int .u8 65, .int .i64 0, .int .i64 0, .int .i64 0, .slice none 0 0] 59) = W at *
  by_cases hp : 1 < s.size
  · have hdec : V.decode (L s) = .error (1) := by rw [decode_eq s hs, hv]; simp [V.pEnd, L_len, hp]
    refine (end_no A (1) s W HD.out hp).mono ?_
    rintro e w2 ⟨rfl, f2⟩
    have F2 : Hid (Fr [] w w2) := HF.out.nil f2 (by have := HO.out; omega)
    clear f2
    go_wp2_with fail
    refine ⟨rfl, ?_⟩
    try rw [hdec]
    exact ⟨rfl, F2.out⟩
  · have hdec : V.decode (L s) = .ok ⟨65, ⟨0, 0, 0⟩, []⟩ := by rw [decode_eq s hs, hv]; simp [V.pEnd, L_len, hp]
    refine (end_yes A (1) s W HD.out hp).mono ?_
    rintro e w2 ⟨rfl, f2⟩
    have KB : Hid (Box5 w2 K (.int .u8 65) (.int .i64 0) (.int .i64 0) (.int .i64 0) (.slice none 0 0)) := KB.out.keep f2 (by have := HO.out; simp; omega)
    have RB : Hid (Box5 w2 w.heap.size (.int .u8 0) (.int .i64 0) (.int .i64 0) (.int .i64 0) (.slice none 0 0)) := RB.out.keep f2 (by have := HO.out; simp; omega)
    have HF2 : Hid (Fr [] w w2) := HF.out.nil f2 (by have := HO.out; omega)
    skip
    clear f2
    obtain ⟨k0, k1, k2, k3, k4, k5⟩ := KB.out
    obtain ⟨r0, r1, r2, r3, r4, r5⟩ := RB.out
    have n1 : ¬ w.heap.size = K := by have := HO.out; omega
    have n2 : ¬ K = w.heap.size := by have := HO.out; omega
    clear KB RB
    go_wp2_with fail
    refine bodyPost_ret (v := .agg #[.int .u8 65, .int .i64 0, .int .i64 0, .int .i64 0, .slice none 0 0]) (by simp [results, Try.results33, go_sem, cell_set, *]) rfl ?_
    try rw [hdec]
    refine ⟨.slice none 0 0, by simp, ⟨_, _, _, rfl⟩, by simp, ?_⟩
    exact ((((HF2.out.setCell (fun h => absurd h (by simp)) _).setCell (fun h => absurd h (by simp)) _).setCell (fun h => absurd h (by simp)) _).setCell (fun h => absurd h (by simp)) _).setCell (fun h => absurd h (by simp)) _

set_option maxHeartbeats 2000000 in
set_option maxRecDepth 100000 in
theorem decode_B (s : ByteArray) (w : World) (hs : 0 < s.size) (sz : s.size ≤ 20) (hb : ((L s).getD 0 0).toNat = 66) :
    Calls Try.prog 33 #[.string s] w (DecOut w (V.decode (L s))) := by
  have hv : (L s).getD 0 0 = 66 := UInt8.toNat_inj.1 hb
  go_enter Try.func33, Try.ntmps33
  go_wp2_with fail
  refine (verb_yes (w.heap.size + 1) 0 s _ ⟨by simp [go_sem], by simp [go_sem], fun o => by simp [go_sem], by omega, by omega⟩ hs).mono ?_
  rw [hb]
  rintro e w1 ⟨rfl, d1, f1⟩
  have D1 : Hid (DecAt w1 (w.heap.size + 1) s 1) := d1
  have R1 : Hid (Box5 w1 w.heap.size (.int .u8 0) (.int .i64 0) (.int .i64 0) (.int .i64 0) (.slice none 0 0)) := by
    refine Box5.keep (w := (w.alloc (.cells #[.int .u8 0, .int .i64 0, .int .i64 0, .int .i64 0, .slice none 0 0] 59)).alloc (.cells #[.string s, .int .i64 0] 95)) ?_ f1 (by simp)
    exact ⟨by simp [go_sem], by simp [go_sem], by simp [go_sem], by simp [go_sem], by simp [go_sem], fun o => by simp [go_sem]⟩
  have F1 : Hid (Fr [] w w1) := (((Fr.refl _ _).alloc _).alloc _).nil f1 (by simp)
  have l1 : w.heap.size + 1 < w1.heap.size := D1.out.lA
  clear d1 f1
  generalize hA : w.heap.size + 1 = A at *
  have hA' : w.heap.size < A := by omega
  clear hA
  go_wp2_with fail
  have KB : Hid (Box5 (w1.alloc (.cells #[.int .u8 66, .int .i64 0, .int .i64 0, .int .i64 0, .slice none 0 0] 59)) w1.heap.size (.int .u8 66) (.int .i64 0) (.int .i64 0) (.int .i64 0) (.slice none 0 0)) :=
    ⟨by simp [go_sem], by simp [go_sem], by simp [go_sem], by simp [go_sem], by simp [go_sem], fun o => by simp [go_sem]⟩
  have RB : Hid (Box5 (w1.alloc (.cells #[.int .u8 66, .int .i64 0, .int .i64 0, .int .i64 0, .slice none 0 0] 59)) w.heap.size (.int .u8 0) (.int .i64 0) (.int .i64 0) (.int .i64 0) (.slice none 0 0)) := R1.out.keep (X := []) ((Fr.refl _ _).alloc _) (by simp)
  have HD : Hid (DecAt (w1.alloc (.cells #[.int .u8 66, .int .i64 0, .int .i64 0, .int .i64 0, .slice none 0 0] 59)) A s 1) := D1.out.alloc _
  have HF : Hid (Fr [] w (w1.alloc (.cells #[.int .u8 66, .int .i64 0, .int .i64 0, .int .i64 0, .slice none 0 0] 59))) := F1.out.alloc _
  have HO : Hid (w.heap.size < A ∧ A < w1.heap.size) := ⟨hA', l1⟩
  clear hA' l1 R1 D1 F1
  generalize w1.heap.size = K at *
  generalize w1.alloc (.cells #[.int .u8 66, .int .i64 0, .int .i64 0, .int .i64 0, .slice none 0 0] 59) = W at *
  cases hd1 : V.isDig (L s) (1) with
  | false =>
    have hdec : V.decode (L s) = .error (1) := by rw [decode_eq s hs, hv]; simp [hd1]
    refine (digit_no A (1) s W HD.out hd1).mono ?_
    rintro e w2 ⟨rfl, f2⟩
    have F2 : Hid (Fr [] w w2) := HF.out.nil f2 (by have := HO.out; omega)
    clear f2
    go_wp2_with fail
    refine ⟨rfl, ?_⟩
    try rw [hdec]
    exact ⟨rfl, F2.out⟩
  | true =>
    refine (digit_yes A (1) s W HD.out hd1).mono ?_
    rintro e w2 ⟨rfl, d2, f2⟩
    have HD : Hid (DecAt w2 A s (1 + 1)) := d2
    have KB : Hid (Box5 w2 K (.int .u8 66) (.int .i64 0) (.int .i64 0) (.int .i64 0) (.slice none 0 0)) := KB.out.keep f2 (by have := HO.out; simp; omega)
    have RB : Hid (Box5 w2 w.heap.size (.int .u8 0) (.int .i64 0) (.int .i64 0) (.int .i64 0) (.slice none 0 0)) := RB.out.keep f2 (by have := HO.out; simp; omega)
    have HF : Hid (Fr [] w w2) := HF.out.nil f2 (by have := HO.out; omega)
    clear d2 f2
    have k0 := KB.out.c0
    have k1' := KB.out.c1
    have k5 := KB.out.f
    go_wp2_with fail
    have KB : Hid (Box5 (w2.setCell ⟨K, 1, none⟩ (.int .i64 (V.digV (L s) (1)))) K (.int .u8 66) (.int .i64 (V.digV (L s) (1))) (.int .i64 0) (.int .i64 0) (.slice none 0 0)) := by
      obtain ⟨k0, k1, k2, k3, k4, k5⟩ := KB.out
      exact ⟨by simp [cell_set, k0, k1, k2, k3, k4], by simp [cell_set, k0, k1, k2, k3, k4], by simp [cell_set, k0, k1, k2, k3, k4], by simp [cell_set, k0, k1, k2, k3, k4], by simp [cell_set, k0, k1, k2, k3, k4], fun o => by simp [k5]⟩
    have RB : Hid (Box5 (w2.setCell ⟨K, 1, none⟩ (.int .i64 (V.digV (L s) (1)))) w.heap.size (.int .u8 0) (.int .i64 0) (.int .i64 0) (.int .i64 0) (.slice none 0 0)) := RB.out.keep (X := [K]) ((Fr.refl _ _).setCell (by simp) _) (by have := HO.out; simp; omega)
    have HD : Hid (DecAt (w2.setCell ⟨K, 1, none⟩ (.int .i64 (V.digV (L s) (1)))) A s (1 + 1)) := HD.out.keep (X := [K]) ((Fr.refl _ _).setCell (by simp) _) (by have := HO.out; simp; omega)
    have HF : Hid (Fr [] w (w2.setCell ⟨K, 1, none⟩ (.int .i64 (V.digV (L s) (1))))) := HF.out.setCell (fun h => by have := HO.out; simp at h; omega) _
    clear k0 k1' k5
    generalize w2.setCell ⟨K, 1, none⟩ (.int .i64 (V.digV (L s) (1))) = W at *
    by_cases hp : 2 < s.size
    · have hdec : V.decode (L s) = .error (2) := by rw [decode_eq s hs, hv]; simp [V.pEnd, L_len, hp, hd1]
      refine (end_no A (2) s W HD.out hp).mono ?_
      rintro e w2 ⟨rfl, f2⟩
      have F2 : Hid (Fr [] w w2) := HF.out.nil f2 (by have := HO.out; omega)
      clear f2
      go_wp2_with fail
      refine ⟨rfl, ?_⟩
      try rw [hdec]
      exact ⟨rfl, F2.out⟩
    · have hdec : V.decode (L s) = .ok ⟨66, ⟨V.digV (L s) 1, 0, 0⟩, []⟩ := by rw [decode_eq s hs, hv]; simp [V.pEnd, L_len, hp, hd1]
      refine (end_yes A (2) s W HD.out hp).mono ?_
      rintro e w2 ⟨rfl, f2⟩
      have KB : Hid (Box5 w2 K (.int .u8 66) (.int .i64 (V.digV (L s) (1))) (.int .i64 0) (.int .i64 0) (.slice none 0 0)) := KB.out.keep f2 (by have := HO.out; simp; omega)
      have RB : Hid (Box5 w2 w.heap.size (.int .u8 0) (.int .i64 0) (.int .i64 0) (.int .i64 0) (.slice none 0 0)) := RB.out.keep f2 (by have := HO.out; simp; omega)
      have HF2 : Hid (Fr [] w w2) := HF.out.nil f2 (by have := HO.out; omega)
      skip
      clear f2
      obtain ⟨k0, k1, k2, k3, k4, k5⟩ := KB.out
      obtain ⟨r0, r1, r2, r3, r4, r5⟩ := RB.out
      have n1 : ¬ w.heap.size = K := by have := HO.out; omega
      have n2 : ¬ K = w.heap.size := by have := HO.out; omega
      clear KB RB
      go_wp2_with fail
      refine bodyPost_ret (v := .agg #[.int .u8 66, .int .i64 (V.digV (L s) (1)), .int .i64 0, .int .i64 0, .slice none 0 0]) (by simp [results, Try.results33, go_sem, cell_set, *]) rfl ?_
      try rw [hdec]
      refine ⟨.slice none 0 0, by simp, ⟨_, _, _, rfl⟩, by simp, ?_⟩
      exact ((((HF2.out.setCell (fun h => absurd h (by simp)) _).setCell (fun h => absurd h (by simp)) _).setCell (fun h => absurd h (by simp)) _).setCell (fun h => absurd h (by simp)) _).setCell (fun h => absurd h (by simp)) _

set_option maxHeartbeats 2000000 in
set_option maxRecDepth 100000 in
theorem decode_N (s : ByteArray) (w : World) (hs : 0 < s.size) (sz : s.size ≤ 20) (hb : ((L s).getD 0 0).toNat = 78) :
    Calls Try.prog 33 #[.string s] w (DecOut w (V.decode (L s))) := by
  have hv : (L s).getD 0 0 = 78 := UInt8.toNat_inj.1 hb
  go_enter Try.func33, Try.ntmps33
  go_wp2_with fail
  refine (verb_yes (w.heap.size + 1) 0 s _ ⟨by simp [go_sem], by simp [go_sem], fun o => by simp [go_sem], by omega, by omega⟩ hs).mono ?_
  rw [hb]
  rintro e w1 ⟨rfl, d1, f1⟩
  have D1 : Hid (DecAt w1 (w.heap.size + 1) s 1) := d1
  have R1 : Hid (Box5 w1 w.heap.size (.int .u8 0) (.int .i64 0) (.int .i64 0) (.int .i64 0) (.slice none 0 0)) := by
    refine Box5.keep (w := (w.alloc (.cells #[.int .u8 0, .int .i64 0, .int .i64 0, .int .i64 0, .slice none 0 0] 59)).alloc (.cells #[.string s, .int .i64 0] 95)) ?_ f1 (by simp)
    exact ⟨by simp [go_sem], by simp [go_sem], by simp [go_sem], by simp [go_sem], by simp [go_sem], fun o => by simp [go_sem]⟩
  have F1 : Hid (Fr [] w w1) := (((Fr.refl _ _).alloc _).alloc _).nil f1 (by simp)
  have l1 : w.heap.size + 1 < w1.heap.size := D1.out.lA
  clear d1 f1
  generalize hA : w.heap.size + 1 = A at *
  have hA' : w.heap.size < A := by omega
  clear hA
  go_wp2_with fail
  have KB : Hid (Box5 (w1.alloc (.cells #[.int .u8 78, .int .i64 0, .int .i64 0, .int .i64 0, .slice none 0 0] 59)) w1.heap.size (.int .u8 78) (.int .i64 0) (.int .i64 0) (.int .i64 0) (.slice none 0 0)) :=
    ⟨by simp [go_sem], by simp [go_sem], by simp [go_sem], by simp [go_sem], by simp [go_sem], fun o => by simp [go_sem]⟩
  have RB : Hid (Box5 (w1.alloc (.cells #[.int .u8 78, .int .i64 0, .int .i64 0, .int .i64 0, .slice none 0 0] 59)) w.heap.size (.int .u8 0) (.int .i64 0) (.int .i64 0) (.int .i64 0) (.slice none 0 0)) := R1.out.keep (X := []) ((Fr.refl _ _).alloc _) (by simp)
  have HD : Hid (DecAt (w1.alloc (.cells #[.int .u8 78, .int .i64 0, .int .i64 0, .int .i64 0, .slice none 0 0] 59)) A s 1) := D1.out.alloc _
  have HF : Hid (Fr [] w (w1.alloc (.cells #[.int .u8 78, .int .i64 0, .int .i64 0, .int .i64 0, .slice none 0 0] 59))) := F1.out.alloc _
  have HO : Hid (w.heap.size < A ∧ A < w1.heap.size) := ⟨hA', l1⟩
  clear hA' l1 R1 D1 F1
  generalize w1.heap.size = K at *
  generalize w1.alloc (.cells #[.int .u8 78, .int .i64 0, .int .i64 0, .int .i64 0, .slice none 0 0] 59) = W at *
  cases hd1 : V.isDig (L s) (1) with
  | false =>
    have hdec : V.decode (L s) = .error (1) := by rw [decode_eq s hs, hv]; simp [hd1]
    refine (digit_no A (1) s W HD.out hd1).mono ?_
    rintro e w2 ⟨rfl, f2⟩
    have F2 : Hid (Fr [] w w2) := HF.out.nil f2 (by have := HO.out; omega)
    clear f2
    go_wp2_with fail
    refine ⟨rfl, ?_⟩
    try rw [hdec]
    exact ⟨rfl, F2.out⟩
  | true =>
    refine (digit_yes A (1) s W HD.out hd1).mono ?_
    rintro e w2 ⟨rfl, d2, f2⟩
    have HD : Hid (DecAt w2 A s (1 + 1)) := d2
    have KB : Hid (Box5 w2 K (.int .u8 78) (.int .i64 0) (.int .i64 0) (.int .i64 0) (.slice none 0 0)) := KB.out.keep f2 (by have := HO.out; simp; omega)
    have RB : Hid (Box5 w2 w.heap.size (.int .u8 0) (.int .i64 0) (.int .i64 0) (.int .i64 0) (.slice none 0 0)) := RB.out.keep f2 (by have := HO.out; simp; omega)
    have HF : Hid (Fr [] w w2) := HF.out.nil f2 (by have := HO.out; omega)
    clear d2 f2
    have k0 := KB.out.c0
    have k1' := KB.out.c1
    have k5 := KB.out.f
    go_wp2_with fail
    have KB : Hid (Box5 (w2.setCell ⟨K, 1, none⟩ (.int .i64 (V.digV (L s) (1)))) K (.int .u8 78) (.int .i64 (V.digV (L s) (1))) (.int .i64 0) (.int .i64 0) (.slice none 0 0)) := by
      obtain ⟨k0, k1, k2, k3, k4, k5⟩ := KB.out
      exact ⟨by simp [cell_set, k0, k1, k2, k3, k4], by simp [cell_set, k0, k1, k2, k3, k4], by simp [cell_set, k0, k1, k2, k3, k4], by simp [cell_set, k0, k1, k2, k3, k4], by simp [cell_set, k0, k1, k2, k3, k4], fun o => by simp [k5]⟩
    have RB : Hid (Box5 (w2.setCell ⟨K, 1, none⟩ (.int .i64 (V.digV (L s) (1)))) w.heap.size (.int .u8 0) (.int .i64 0) (.int .i64 0) (.int .i64 0) (.slice none 0 0)) := RB.out.keep (X := [K]) ((Fr.refl _ _).setCell (by simp) _) (by have := HO.out; simp; omega)
    have HD : Hid (DecAt (w2.setCell ⟨K, 1, none⟩ (.int .i64 (V.digV (L s) (1)))) A s (1 + 1)) := HD.out.keep (X := [K]) ((Fr.refl _ _).setCell (by simp) _) (by have := HO.out; simp; omega)
    have HF : Hid (Fr [] w (w2.setCell ⟨K, 1, none⟩ (.int .i64 (V.digV (L s) (1))))) := HF.out.setCell (fun h => by have := HO.out; simp at h; omega) _
    clear k0 k1' k5
    generalize w2.setCell ⟨K, 1, none⟩ (.int .i64 (V.digV (L s) (1))) = W at *
    by_cases hp : 2 < s.size
    · have hdec : V.decode (L s) = .error (2) := by rw [decode_eq s hs, hv]; simp [V.pEnd, L_len, hp, hd1]
      refine (end_no A (2) s W HD.out hp).mono ?_
      rintro e w2 ⟨rfl, f2⟩
      have F2 : Hid (Fr [] w w2) := HF.out.nil f2 (by have := HO.out; omega)
      clear f2
      go_wp2_with fail
      refine ⟨rfl, ?_⟩
      try rw [hdec]
      exact ⟨rfl, F2.out⟩
    · have hdec : V.decode (L s) = .ok ⟨78, ⟨V.digV (L s) 1, 0, 0⟩, []⟩ := by rw [decode_eq s hs, hv]; simp [V.pEnd, L_len, hp, hd1]
      refine (end_yes A (2) s W HD.out hp).mono ?_
      rintro e w2 ⟨rfl, f2⟩
      have KB : Hid (Box5 w2 K (.int .u8 78) (.int .i64 (V.digV (L s) (1))) (.int .i64 0) (.int .i64 0) (.slice none 0 0)) := KB.out.keep f2 (by have := HO.out; simp; omega)
      have RB : Hid (Box5 w2 w.heap.size (.int .u8 0) (.int .i64 0) (.int .i64 0) (.int .i64 0) (.slice none 0 0)) := RB.out.keep f2 (by have := HO.out; simp; omega)
      have HF2 : Hid (Fr [] w w2) := HF.out.nil f2 (by have := HO.out; omega)
      skip
      clear f2
      obtain ⟨k0, k1, k2, k3, k4, k5⟩ := KB.out
      obtain ⟨r0, r1, r2, r3, r4, r5⟩ := RB.out
      have n1 : ¬ w.heap.size = K := by have := HO.out; omega
      have n2 : ¬ K = w.heap.size := by have := HO.out; omega
      clear KB RB
      go_wp2_with fail
      refine bodyPost_ret (v := .agg #[.int .u8 78, .int .i64 (V.digV (L s) (1)), .int .i64 0, .int .i64 0, .slice none 0 0]) (by simp [results, Try.results33, go_sem, cell_set, *]) rfl ?_
      try rw [hdec]
      refine ⟨.slice none 0 0, by simp, ⟨_, _, _, rfl⟩, by simp, ?_⟩
      exact ((((HF2.out.setCell (fun h => absurd h (by simp)) _).setCell (fun h => absurd h (by simp)) _).setCell (fun h => absurd h (by simp)) _).setCell (fun h => absurd h (by simp)) _).setCell (fun h => absurd h (by simp)) _

set_option maxHeartbeats 2000000 in
set_option maxRecDepth 100000 in
theorem decode_S (s : ByteArray) (w : World) (hs : 0 < s.size) (sz : s.size ≤ 20) (hb : ((L s).getD 0 0).toNat = 83) :
    Calls Try.prog 33 #[.string s] w (DecOut w (V.decode (L s))) := by
  have hv : (L s).getD 0 0 = 83 := UInt8.toNat_inj.1 hb
  go_enter Try.func33, Try.ntmps33
  go_wp2_with fail
  refine (verb_yes (w.heap.size + 1) 0 s _ ⟨by simp [go_sem], by simp [go_sem], fun o => by simp [go_sem], by omega, by omega⟩ hs).mono ?_
  rw [hb]
  rintro e w1 ⟨rfl, d1, f1⟩
  have D1 : Hid (DecAt w1 (w.heap.size + 1) s 1) := d1
  have R1 : Hid (Box5 w1 w.heap.size (.int .u8 0) (.int .i64 0) (.int .i64 0) (.int .i64 0) (.slice none 0 0)) := by
    refine Box5.keep (w := (w.alloc (.cells #[.int .u8 0, .int .i64 0, .int .i64 0, .int .i64 0, .slice none 0 0] 59)).alloc (.cells #[.string s, .int .i64 0] 95)) ?_ f1 (by simp)
    exact ⟨by simp [go_sem], by simp [go_sem], by simp [go_sem], by simp [go_sem], by simp [go_sem], fun o => by simp [go_sem]⟩
  have F1 : Hid (Fr [] w w1) := (((Fr.refl _ _).alloc _).alloc _).nil f1 (by simp)
  have l1 : w.heap.size + 1 < w1.heap.size := D1.out.lA
  clear d1 f1
  generalize hA : w.heap.size + 1 = A at *
  have hA' : w.heap.size < A := by omega
  clear hA
  go_wp2_with fail
  have KB : Hid (Box5 (w1.alloc (.cells #[.int .u8 83, .int .i64 0, .int .i64 0, .int .i64 0, .slice none 0 0] 59)) w1.heap.size (.int .u8 83) (.int .i64 0) (.int .i64 0) (.int .i64 0) (.slice none 0 0)) :=
    ⟨by simp [go_sem], by simp [go_sem], by simp [go_sem], by simp [go_sem], by simp [go_sem], fun o => by simp [go_sem]⟩
  have RB : Hid (Box5 (w1.alloc (.cells #[.int .u8 83, .int .i64 0, .int .i64 0, .int .i64 0, .slice none 0 0] 59)) w.heap.size (.int .u8 0) (.int .i64 0) (.int .i64 0) (.int .i64 0) (.slice none 0 0)) := R1.out.keep (X := []) ((Fr.refl _ _).alloc _) (by simp)
  have HD : Hid (DecAt (w1.alloc (.cells #[.int .u8 83, .int .i64 0, .int .i64 0, .int .i64 0, .slice none 0 0] 59)) A s 1) := D1.out.alloc _
  have HF : Hid (Fr [] w (w1.alloc (.cells #[.int .u8 83, .int .i64 0, .int .i64 0, .int .i64 0, .slice none 0 0] 59))) := F1.out.alloc _
  have HO : Hid (w.heap.size < A ∧ A < w1.heap.size) := ⟨hA', l1⟩
  clear hA' l1 R1 D1 F1
  generalize w1.heap.size = K at *
  generalize w1.alloc (.cells #[.int .u8 83, .int .i64 0, .int .i64 0, .int .i64 0, .slice none 0 0] 59) = W at *
  cases hd1 : V.isDig (L s) (1) with
  | false =>
    have hdec : V.decode (L s) = .error (1) := by rw [decode_eq s hs, hv]; simp [hd1]
    refine (digit_no A (1) s W HD.out hd1).mono ?_
    rintro e w2 ⟨rfl, f2⟩
    have F2 : Hid (Fr [] w w2) := HF.out.nil f2 (by have := HO.out; omega)
    clear f2
    go_wp2_with fail
    refine ⟨rfl, ?_⟩
    try rw [hdec]
    exact ⟨rfl, F2.out⟩
  | true =>
    refine (digit_yes A (1) s W HD.out hd1).mono ?_
    rintro e w2 ⟨rfl, d2, f2⟩
    have HD : Hid (DecAt w2 A s (1 + 1)) := d2
    have KB : Hid (Box5 w2 K (.int .u8 83) (.int .i64 0) (.int .i64 0) (.int .i64 0) (.slice none 0 0)) := KB.out.keep f2 (by have := HO.out; simp; omega)
    have RB : Hid (Box5 w2 w.heap.size (.int .u8 0) (.int .i64 0) (.int .i64 0) (.int .i64 0) (.slice none 0 0)) := RB.out.keep f2 (by have := HO.out; simp; omega)
    have HF : Hid (Fr [] w w2) := HF.out.nil f2 (by have := HO.out; omega)
    clear d2 f2
    have k0 := KB.out.c0
    have k1' := KB.out.c1
    have k5 := KB.out.f
    go_wp2_with fail
    have KB : Hid (Box5 (w2.setCell ⟨K, 1, none⟩ (.int .i64 (V.digV (L s) (1)))) K (.int .u8 83) (.int .i64 (V.digV (L s) (1))) (.int .i64 0) (.int .i64 0) (.slice none 0 0)) := by
      obtain ⟨k0, k1, k2, k3, k4, k5⟩ := KB.out
      exact ⟨by simp [cell_set, k0, k1, k2, k3, k4], by simp [cell_set, k0, k1, k2, k3, k4], by simp [cell_set, k0, k1, k2, k3, k4], by simp [cell_set, k0, k1, k2, k3, k4], by simp [cell_set, k0, k1, k2, k3, k4], fun o => by simp [k5]⟩
    have RB : Hid (Box5 (w2.setCell ⟨K, 1, none⟩ (.int .i64 (V.digV (L s) (1)))) w.heap.size (.int .u8 0) (.int .i64 0) (.int .i64 0) (.int .i64 0) (.slice none 0 0)) := RB.out.keep (X := [K]) ((Fr.refl _ _).setCell (by simp) _) (by have := HO.out; simp; omega)
    have HD : Hid (DecAt (w2.setCell ⟨K, 1, none⟩ (.int .i64 (V.digV (L s) (1)))) A s (1 + 1)) := HD.out.keep (X := [K]) ((Fr.refl _ _).setCell (by simp) _) (by have := HO.out; simp; omega)
    have HF : Hid (Fr [] w (w2.setCell ⟨K, 1, none⟩ (.int .i64 (V.digV (L s) (1))))) := HF.out.setCell (fun h => by have := HO.out; simp at h; omega) _
    clear k0 k1' k5
    generalize w2.setCell ⟨K, 1, none⟩ (.int .i64 (V.digV (L s) (1))) = W at *
    cases hd2 : V.isDig (L s) (2) with
    | false =>
      have hdec : V.decode (L s) = .error (2) := by rw [decode_eq s hs, hv]; simp [hd2, hd1]
      refine (digit_no A (2) s W HD.out hd2).mono ?_
      rintro e w2 ⟨rfl, f2⟩
      have F2 : Hid (Fr [] w w2) := HF.out.nil f2 (by have := HO.out; omega)
      clear f2
      go_wp2_with fail
      refine ⟨rfl, ?_⟩
      try rw [hdec]
      exact ⟨rfl, F2.out⟩
    | true =>
      refine (digit_yes A (2) s W HD.out hd2).mono ?_
      rintro e w2 ⟨rfl, d2, f2⟩
      have HD : Hid (DecAt w2 A s (2 + 1)) := d2
      have KB : Hid (Box5 w2 K (.int .u8 83) (.int .i64 (V.digV (L s) (1))) (.int .i64 0) (.int .i64 0) (.slice none 0 0)) := KB.out.keep f2 (by have := HO.out; simp; omega)
      have RB : Hid (Box5 w2 w.heap.size (.int .u8 0) (.int .i64 0) (.int .i64 0) (.int .i64 0) (.slice none 0 0)) := RB.out.keep f2 (by have := HO.out; simp; omega)
      have HF : Hid (Fr [] w w2) := HF.out.nil f2 (by have := HO.out; omega)
      clear d2 f2
      have k0 := KB.out.c0
      have k2' := KB.out.c2
      have k5 := KB.out.f
      go_wp2_with fail
      have KB : Hid (Box5 (w2.setCell ⟨K, 2, none⟩ (.int .i64 (V.digV (L s) (2)))) K (.int .u8 83) (.int .i64 (V.digV (L s) (1))) (.int .i64 (V.digV (L s) (2))) (.int .i64 0) (.slice none 0 0)) := by
        obtain ⟨k0, k1, k2, k3, k4, k5⟩ := KB.out
        exact ⟨by simp [cell_set, k0, k1, k2, k3, k4], by simp [cell_set, k0, k1, k2, k3, k4], by simp [cell_set, k0, k1, k2, k3, k4], by simp [cell_set, k0, k1, k2, k3, k4], by simp [cell_set, k0, k1, k2, k3, k4], fun o => by simp [k5]⟩
      have RB : Hid (Box5 (w2.setCell ⟨K, 2, none⟩ (.int .i64 (V.digV (L s) (2)))) w.heap.size (.int .u8 0) (.int .i64 0) (.int .i64 0) (.int .i64 0) (.slice none 0 0)) := RB.out.keep (X := [K]) ((Fr.refl _ _).setCell (by simp) _) (by have := HO.out; simp; omega)
      have HD : Hid (DecAt (w2.setCell ⟨K, 2, none⟩ (.int .i64 (V.digV (L s) (2)))) A s (2 + 1)) := HD.out.keep (X := [K]) ((Fr.refl _ _).setCell (by simp) _) (by have := HO.out; simp; omega)
      have HF : Hid (Fr [] w (w2.setCell ⟨K, 2, none⟩ (.int .i64 (V.digV (L s) (2))))) := HF.out.setCell (fun h => by have := HO.out; simp at h; omega) _
      clear k0 k2' k5
      generalize w2.setCell ⟨K, 2, none⟩ (.int .i64 (V.digV (L s) (2))) = W at *
      by_cases hp : 3 < s.size
      · have hdec : V.decode (L s) = .error (3) := by rw [decode_eq s hs, hv]; simp [V.pEnd, L_len, hp, hd1, hd2]
        refine (end_no A (3) s W HD.out hp).mono ?_
        rintro e w2 ⟨rfl, f2⟩
        have F2 : Hid (Fr [] w w2) := HF.out.nil f2 (by have := HO.out; omega)
        clear f2
        go_wp2_with fail
        refine ⟨rfl, ?_⟩
        try rw [hdec]
        exact ⟨rfl, F2.out⟩
      · have hdec : V.decode (L s) = .ok ⟨83, ⟨V.digV (L s) 1, V.digV (L s) 2, 0⟩, []⟩ := by rw [decode_eq s hs, hv]; simp [V.pEnd, L_len, hp, hd1, hd2]
        refine (end_yes A (3) s W HD.out hp).mono ?_
        rintro e w2 ⟨rfl, f2⟩
        have KB : Hid (Box5 w2 K (.int .u8 83) (.int .i64 (V.digV (L s) (1))) (.int .i64 (V.digV (L s) (2))) (.int .i64 0) (.slice none 0 0)) := KB.out.keep f2 (by have := HO.out; simp; omega)
        have RB : Hid (Box5 w2 w.heap.size (.int .u8 0) (.int .i64 0) (.int .i64 0) (.int .i64 0) (.slice none 0 0)) := RB.out.keep f2 (by have := HO.out; simp; omega)
        have HF2 : Hid (Fr [] w w2) := HF.out.nil f2 (by have := HO.out; omega)
        skip
        clear f2
        obtain ⟨k0, k1, k2, k3, k4, k5⟩ := KB.out
        obtain ⟨r0, r1, r2, r3, r4, r5⟩ := RB.out
        have n1 : ¬ w.heap.size = K := by have := HO.out; omega
        have n2 : ¬ K = w.heap.size := by have := HO.out; omega
        clear KB RB
        go_wp2_with fail
        refine bodyPost_ret (v := .agg #[.int .u8 83, .int .i64 (V.digV (L s) (1)), .int .i64 (V.digV (L s) (2)), .int .i64 0, .slice none 0 0]) (by simp [results, Try.results33, go_sem, cell_set, *]) rfl ?_
        try rw [hdec]
        refine ⟨.slice none 0 0, by simp, ⟨_, _, _, rfl⟩, by simp, ?_⟩
        exact ((((HF2.out.setCell (fun h => absurd h (by simp)) _).setCell (fun h => absurd h (by simp)) _).setCell (fun h => absurd h (by simp)) _).setCell (fun h => absurd h (by simp)) _).setCell (fun h => absurd h (by simp)) _

set_option maxHeartbeats 2000000 in
set_option maxRecDepth 100000 in
theorem decode_T (s : ByteArray) (w : World) (hs : 0 < s.size) (sz : s.size ≤ 20) (hb : ((L s).getD 0 0).toNat = 84) :
    Calls Try.prog 33 #[.string s] w (DecOut w (V.decode (L s))) := by
  have hv : (L s).getD 0 0 = 84 := UInt8.toNat_inj.1 hb
  go_enter Try.func33, Try.ntmps33
  go_wp2_with fail
  refine (verb_yes (w.heap.size + 1) 0 s _ ⟨by simp [go_sem], by simp [go_sem], fun o => by simp [go_sem], by omega, by omega⟩ hs).mono ?_
  rw [hb]
  rintro e w1 ⟨rfl, d1, f1⟩
  have D1 : Hid (DecAt w1 (w.heap.size + 1) s 1) := d1
  have R1 : Hid (Box5 w1 w.heap.size (.int .u8 0) (.int .i64 0) (.int .i64 0) (.int .i64 0) (.slice none 0 0)) := by
    refine Box5.keep (w := (w.alloc (.cells #[.int .u8 0, .int .i64 0, .int .i64 0, .int .i64 0, .slice none 0 0] 59)).alloc (.cells #[.string s, .int .i64 0] 95)) ?_ f1 (by simp)
    exact ⟨by simp [go_sem], by simp [go_sem], by simp [go_sem], by simp [go_sem], by simp [go_sem], fun o => by simp [go_sem]⟩
  have F1 : Hid (Fr [] w w1) := (((Fr.refl _ _).alloc _).alloc _).nil f1 (by simp)
  have l1 : w.heap.size + 1 < w1.heap.size := D1.out.lA
  clear d1 f1
  generalize hA : w.heap.size + 1 = A at *
  have hA' : w.heap.size < A := by omega
  clear hA
  go_wp2_with fail
  have KB : Hid (Box5 (w1.alloc (.cells #[.int .u8 84, .int .i64 0, .int .i64 0, .int .i64 0, .slice none 0 0] 59)) w1.heap.size (.int .u8 84) (.int .i64 0) (.int .i64 0) (.int .i64 0) (.slice none 0 0)) :=
    ⟨by simp [go_sem], by simp [go_sem], by simp [go_sem], by simp [go_sem], by simp [go_sem], fun o => by simp [go_sem]⟩
  have RB : Hid (Box5 (w1.alloc (.cells #[.int .u8 84, .int .i64 0, .int .i64 0, .int .i64 0, .slice none 0 0] 59)) w.heap.size (.int .u8 0) (.int .i64 0) (.int .i64 0) (.int .i64 0) (.slice none 0 0)) := R1.out.keep (X := []) ((Fr.refl _ _).alloc _) (by simp)
  have HD : Hid (DecAt (w1.alloc (.cells #[.int .u8 84, .int .i64 0, .int .i64 0, .int .i64 0, .slice none 0 0] 59)) A s 1) := D1.out.alloc _
  have HF : Hid (Fr [] w (w1.alloc (.cells #[.int .u8 84, .int .i64 0, .int .i64 0, .int .i64 0, .slice none 0 0] 59))) := F1.out.alloc _
  have HO : Hid (w.heap.size < A ∧ A < w1.heap.size) := ⟨hA', l1⟩
  clear hA' l1 R1 D1 F1
  generalize w1.heap.size = K at *
  generalize w1.alloc (.cells #[.int .u8 84, .int .i64 0, .int .i64 0, .int .i64 0, .slice none 0 0] 59) = W at *
  cases hm : V.pMove (L s) 1 with
  | error q =>
    have hdec : V.decode (L s) = .error q := by rw [decode_eq s hs, hv]; simp [hm]
    refine (move_err A 1 q s W HD.out hm).mono ?_
    rintro e w2 ⟨rfl, f2⟩
    have F2 : Hid (Fr [] w w2) := HF.out.nil f2 (by have := HO.out; omega)
    clear f2
    go_wp2_with fail
    refine ⟨rfl, ?_⟩
    try rw [hdec]
    exact ⟨rfl, F2.out⟩
  | ok r =>
    obtain ⟨m, q⟩ := r
    refine (move_ok A 1 q m s W HD.out hm).mono ?_
    rintro e w2 ⟨rfl, d2, f2⟩
    have HD : Hid (DecAt w2 A s q) := d2
    have KB : Hid (Box5 w2 K (.int .u8 84) (.int .i64 0) (.int .i64 0) (.int .i64 0) (.slice none 0 0)) := KB.out.keep f2 (by have := HO.out; simp; omega)
    have RB : Hid (Box5 w2 w.heap.size (.int .u8 0) (.int .i64 0) (.int .i64 0) (.int .i64 0) (.slice none 0 0)) := RB.out.keep f2 (by have := HO.out; simp; omega)
    have HF : Hid (Fr [] w w2) := HF.out.nil f2 (by have := HO.out; omega)
    clear d2 f2
    obtain ⟨k0, k1, k2, k3, k4, k5⟩ := KB.out
    go_wp2_with fail
    have KB : Hid (Box5 (((w2.setCell ⟨K, 1, none⟩ (.int .i64 m.f)).setCell ⟨K, 2, none⟩ (.int .i64 m.t)).setCell ⟨K, 3, none⟩ (.int .i64 m.a)) K (.int .u8 84) (.int .i64 m.f) (.int .i64 m.t) (.int .i64 m.a) (.slice none 0 0)) := ⟨by simp [cell_set, k0, k1, k2, k3, k4], by simp [cell_set, k0, k1, k2, k3, k4], by simp [cell_set, k0, k1, k2, k3, k4], by simp [cell_set, k0, k1, k2, k3, k4], by simp [cell_set, k0, k1, k2, k3, k4], fun o => by simp [k5]⟩
    have hst : Fr [K] w2 (((w2.setCell ⟨K, 1, none⟩ (.int .i64 m.f)).setCell ⟨K, 2, none⟩ (.int .i64 m.t)).setCell ⟨K, 3, none⟩ (.int .i64 m.a)) := (((Fr.refl _ _).setCell (by simp) _).setCell (by simp) _).setCell (by simp) _
    have RB : Hid (Box5 (((w2.setCell ⟨K, 1, none⟩ (.int .i64 m.f)).setCell ⟨K, 2, none⟩ (.int .i64 m.t)).setCell ⟨K, 3, none⟩ (.int .i64 m.a)) w.heap.size (.int .u8 0) (.int .i64 0) (.int .i64 0) (.int .i64 0) (.slice none 0 0)) := RB.out.keep hst (by have := HO.out; simp; omega)
    have HD : Hid (DecAt (((w2.setCell ⟨K, 1, none⟩ (.int .i64 m.f)).setCell ⟨K, 2, none⟩ (.int .i64 m.t)).setCell ⟨K, 3, none⟩ (.int .i64 m.a)) A s (q)) := HD.out.keep hst (by have := HO.out; simp; omega)
    have HF : Hid (Fr [] w (((w2.setCell ⟨K, 1, none⟩ (.int .i64 m.f)).setCell ⟨K, 2, none⟩ (.int .i64 m.t)).setCell ⟨K, 3, none⟩ (.int .i64 m.a))) := HF.out.trans hst (fun x hx hm => by have := HO.out; simp at hm; omega)
    clear k0 k1 k2 k3 k4 k5 hst
    generalize (((w2.setCell ⟨K, 1, none⟩ (.int .i64 m.f)).setCell ⟨K, 2, none⟩ (.int .i64 m.t)).setCell ⟨K, 3, none⟩ (.int .i64 m.a)) = W at *
    by_cases hp : q < s.size
    · have hdec : V.decode (L s) = .error (q) := by rw [decode_eq s hs, hv]; simp [V.pEnd, L_len, hp, hm]
      refine (end_no A (q) s W HD.out hp).mono ?_
      rintro e w2 ⟨rfl, f2⟩
      have F2 : Hid (Fr [] w w2) := HF.out.nil f2 (by have := HO.out; omega)
      clear f2
      go_wp2_with fail
      refine ⟨rfl, ?_⟩
      try rw [hdec]
      exact ⟨rfl, F2.out⟩
    · have hdec : V.decode (L s) = .ok ⟨84, m, []⟩ := by rw [decode_eq s hs, hv]; simp [V.pEnd, L_len, hp, hm]
      refine (end_yes A (q) s W HD.out hp).mono ?_
      rintro e w2 ⟨rfl, f2⟩
      have KB : Hid (Box5 w2 K (.int .u8 84) (.int .i64 m.f) (.int .i64 m.t) (.int .i64 m.a) (.slice none 0 0)) := KB.out.keep f2 (by have := HO.out; simp; omega)
      have RB : Hid (Box5 w2 w.heap.size (.int .u8 0) (.int .i64 0) (.int .i64 0) (.int .i64 0) (.slice none 0 0)) := RB.out.keep f2 (by have := HO.out; simp; omega)
      have HF2 : Hid (Fr [] w w2) := HF.out.nil f2 (by have := HO.out; omega)
      skip
      clear f2
      obtain ⟨k0, k1, k2, k3, k4, k5⟩ := KB.out
      obtain ⟨r0, r1, r2, r3, r4, r5⟩ := RB.out
      have n1 : ¬ w.heap.size = K := by have := HO.out; omega
      have n2 : ¬ K = w.heap.size := by have := HO.out; omega
      clear KB RB
      go_wp2_with fail
      refine bodyPost_ret (v := .agg #[.int .u8 84, .int .i64 m.f, .int .i64 m.t, .int .i64 m.a, .slice none 0 0]) (by simp [results, Try.results33, go_sem, cell_set, *]) rfl ?_
      try rw [hdec]
      refine ⟨.slice none 0 0, by simp, ⟨_, _, _, rfl⟩, by simp, ?_⟩
      exact ((((HF2.out.setCell (fun h => absurd h (by simp)) _).setCell (fun h => absurd h (by simp)) _).setCell (fun h => absurd h (by simp)) _).setCell (fun h => absurd h (by simp)) _).setCell (fun h => absurd h (by simp)) _

set_option maxHeartbeats 2000000 in
set_option maxRecDepth 100000 in
theorem decode_X (s : ByteArray) (w : World) (hs : 0 < s.size) (sz : s.size ≤ 20) (hb : ((L s).getD 0 0).toNat = 88) :
    Calls Try.prog 33 #[.string s] w (DecOut w (V.decode (L s))) := by
  have hv : (L s).getD 0 0 = 88 := UInt8.toNat_inj.1 hb
  go_enter Try.func33, Try.ntmps33
  go_wp2_with fail
  refine (verb_yes (w.heap.size + 1) 0 s _ ⟨by simp [go_sem], by simp [go_sem], fun o => by simp [go_sem], by omega, by omega⟩ hs).mono ?_
  rw [hb]
  rintro e w1 ⟨rfl, d1, f1⟩
  have D1 : Hid (DecAt w1 (w.heap.size + 1) s 1) := d1
  have R1 : Hid (Box5 w1 w.heap.size (.int .u8 0) (.int .i64 0) (.int .i64 0) (.int .i64 0) (.slice none 0 0)) := by
    refine Box5.keep (w := (w.alloc (.cells #[.int .u8 0, .int .i64 0, .int .i64 0, .int .i64 0, .slice none 0 0] 59)).alloc (.cells #[.string s, .int .i64 0] 95)) ?_ f1 (by simp)
    exact ⟨by simp [go_sem], by simp [go_sem], by simp [go_sem], by simp [go_sem], by simp [go_sem], fun o => by simp [go_sem]⟩
  have F1 : Hid (Fr [] w w1) := (((Fr.refl _ _).alloc _).alloc _).nil f1 (by simp)
  have l1 : w.heap.size + 1 < w1.heap.size := D1.out.lA
  clear d1 f1
  generalize hA : w.heap.size + 1 = A at *
  have hA' : w.heap.size < A := by omega
  clear hA
  go_wp2_with fail
  have KB : Hid (Box5 (w1.alloc (.cells #[.int .u8 88, .int .i64 0, .int .i64 0, .int .i64 0, .slice none 0 0] 59)) w1.heap.size (.int .u8 88) (.int .i64 0) (.int .i64 0) (.int .i64 0) (.slice none 0 0)) :=
    ⟨by simp [go_sem], by simp [go_sem], by simp [go_sem], by simp [go_sem], by simp [go_sem], fun o => by simp [go_sem]⟩
  have RB : Hid (Box5 (w1.alloc (.cells #[.int .u8 88, .int .i64 0, .int .i64 0, .int .i64 0, .slice none 0 0] 59)) w.heap.size (.int .u8 0) (.int .i64 0) (.int .i64 0) (.int .i64 0) (.slice none 0 0)) := R1.out.keep (X := []) ((Fr.refl _ _).alloc _) (by simp)
  have HD : Hid (DecAt (w1.alloc (.cells #[.int .u8 88, .int .i64 0, .int .i64 0, .int .i64 0, .slice none 0 0] 59)) A s 1) := D1.out.alloc _
  have HF : Hid (Fr [] w (w1.alloc (.cells #[.int .u8 88, .int .i64 0, .int .i64 0, .int .i64 0, .slice none 0 0] 59))) := F1.out.alloc _
  have HO : Hid (w.heap.size < A ∧ A < w1.heap.size) := ⟨hA', l1⟩
  clear hA' l1 R1 D1 F1
  generalize w1.heap.size = K at *
  generalize w1.alloc (.cells #[.int .u8 88, .int .i64 0, .int .i64 0, .int .i64 0, .slice none 0 0] 59) = W at *
  have hl1 : 1 ≤ (L s).length := by rw [L_len]; omega
  have hmv := moves_calls A 1 s W HD.out (by omega) hl1
  cases hm : V.pMoves (L s) (L s).length 1 [] with
  | error q =>
    rw [hm] at hmv
    have hdec : V.decode (L s) = .error q := by rw [decode_eq s hs, hv]; simp [hm]
    refine hmv.mono ?_
    rintro e w2 ⟨rfl, f2⟩
    clear hmv
    have F2 : Hid (Fr [] w w2) := HF.out.nil f2 (by have := HO.out; omega)
    clear f2
    go_wp2_with fail
    refine ⟨rfl, ?_⟩
    try rw [hdec]
    exact ⟨rfl, F2.out⟩
  | ok ms =>
    rw [hm] at hmv
    refine hmv.mono ?_
    rintro e w2 ⟨⟨g, cap, rfl, hg, hms⟩, hl0, hl2, d2, f2⟩
    have HG : Hid (w.heap.size ≤ g ∧ ¬ g = A ∧ ¬ g = K ∧ w.heap.size < g) := by
      have h1 := HD.out.lA
      have h2 := KB.out.lt
      have h3 := RB.out.lt
      refine ⟨by omega, by omega, by omega, by omega⟩
    have HM : Hid (MsAt w2 g ms) := hms
    have HL : Hid (0 < ms.length ∧ ms.length ≤ 20) := ⟨hl0, hl2⟩
    clear hmv hg hms hl0 hl2
    have HD : Hid (DecAt w2 A s s.size) := d2
    have KB : Hid (Box5 w2 K (.int .u8 88) (.int .i64 0) (.int .i64 0) (.int .i64 0) (.slice none 0 0)) := KB.out.keep f2 (by have := HO.out; simp; omega)
    have RB : Hid (Box5 w2 w.heap.size (.int .u8 0) (.int .i64 0) (.int .i64 0) (.int .i64 0) (.slice none 0 0)) := RB.out.keep f2 (by have := HO.out; simp; omega)
    have HF : Hid (Fr [] w w2) := HF.out.nil f2 (by have := HO.out; omega)
    clear d2 f2
    obtain ⟨k0, k1, k2, k3, k4, k5⟩ := KB.out
    go_wp2_with fail
    have KB : Hid (Box5 (w2.setCell ⟨K, 4, none⟩ (.slice (some ⟨g, 0, none⟩) ms.length cap)) K (.int .u8 88) (.int .i64 0) (.int .i64 0) (.int .i64 0) (.slice (some ⟨g, 0, none⟩) ms.length cap)) := ⟨by simp [cell_set, k0, k1, k2, k3, k4], by simp [cell_set, k0, k1, k2, k3, k4], by simp [cell_set, k0, k1, k2, k3, k4], by simp [cell_set, k0, k1, k2, k3, k4], by simp [cell_set, k0, k1, k2, k3, k4], fun o => by simp [k5]⟩
    have hst : Fr [K] w2 (w2.setCell ⟨K, 4, none⟩ (.slice (some ⟨g, 0, none⟩) ms.length cap)) := (Fr.refl _ _).setCell (by simp) _
    have RB : Hid (Box5 (w2.setCell ⟨K, 4, none⟩ (.slice (some ⟨g, 0, none⟩) ms.length cap)) w.heap.size (.int .u8 0) (.int .i64 0) (.int .i64 0) (.int .i64 0) (.slice none 0 0)) := RB.out.keep hst (by have := HO.out; simp; omega)
    have HD : Hid (DecAt (w2.setCell ⟨K, 4, none⟩ (.slice (some ⟨g, 0, none⟩) ms.length cap)) A s (s.size)) := HD.out.keep hst (by have := HO.out; simp; omega)
    have HF : Hid (Fr [] w (w2.setCell ⟨K, 4, none⟩ (.slice (some ⟨g, 0, none⟩) ms.length cap))) := HF.out.trans hst (fun x hx hm => by have := HO.out; simp at hm; omega)
    have HM : Hid (MsAt (w2.setCell ⟨K, 4, none⟩ (.slice (some ⟨g, 0, none⟩) ms.length cap)) g ms) := HM.out.keep hst (by have := HG.out; simp; omega)
    clear k0 k1 k2 k3 k4 k5 hst
    generalize (w2.setCell ⟨K, 4, none⟩ (.slice (some ⟨g, 0, none⟩) ms.length cap)) = W at *
    by_cases hp : s.size < s.size
    · have hdec : V.decode (L s) = .error (s.size) := by first | (exfalso; omega) | (rw [decode_eq s hs, hv]; simp [hm])
      refine (end_no A (s.size) s W HD.out hp).mono ?_
      rintro e w2 ⟨rfl, f2⟩
      have F2 : Hid (Fr [] w w2) := HF.out.nil f2 (by have := HO.out; omega)
      clear f2
      go_wp2_with fail
      refine ⟨rfl, ?_⟩
      try rw [hdec]
      exact ⟨rfl, F2.out⟩
    · have hdec : V.decode (L s) = .ok ⟨88, ⟨0, 0, 0⟩, ms⟩ := by first | (exfalso; omega) | (rw [decode_eq s hs, hv]; simp [hm])
      refine (end_yes A (s.size) s W HD.out hp).mono ?_
      rintro e w2 ⟨rfl, f2⟩
      have KB : Hid (Box5 w2 K (.int .u8 88) (.int .i64 0) (.int .i64 0) (.int .i64 0) (.slice (some ⟨g, 0, none⟩) ms.length cap)) := KB.out.keep f2 (by have := HO.out; simp; omega)
      have RB : Hid (Box5 w2 w.heap.size (.int .u8 0) (.int .i64 0) (.int .i64 0) (.int .i64 0) (.slice none 0 0)) := RB.out.keep f2 (by have := HO.out; simp; omega)
      have HF2 : Hid (Fr [] w w2) := HF.out.nil f2 (by have := HO.out; omega)
      have HM : Hid (MsAt w2 g ms) := HM.out.keep f2 (by have := HG.out; have := HO.out; simp; omega)
      clear f2
      obtain ⟨k0, k1, k2, k3, k4, k5⟩ := KB.out
      obtain ⟨r0, r1, r2, r3, r4, r5⟩ := RB.out
      have n1 : ¬ w.heap.size = K := by have := HO.out; omega
      have n2 : ¬ K = w.heap.size := by have := HO.out; omega
      clear KB RB
      go_wp2_with fail
      refine bodyPost_ret (v := .agg #[.int .u8 88, .int .i64 0, .int .i64 0, .int .i64 0, .slice (some ⟨g, 0, none⟩) ms.length cap]) (by simp [results, Try.results33, go_sem, cell_set, *]) rfl ?_
      try rw [hdec]
      refine ⟨.slice (some ⟨g, 0, none⟩) ms.length cap, by simp, ⟨_, _, _, rfl⟩, fun _ => ⟨g, cap, by simp, by have := HG.out; omega, HM.out.keep (X := [w.heap.size]) ((((((Fr.refl _ _).setCell (by simp) _).setCell (by simp) _).setCell (by simp) _).setCell (by simp) _).setCell (by simp) _) (by have := HG.out; simp; omega), HL.out.1, HL.out.2⟩, ?_⟩
      exact ((((HF2.out.setCell (fun h => absurd h (by simp)) _).setCell (fun h => absurd h (by simp)) _).setCell (fun h => absurd h (by simp)) _).setCell (fun h => absurd h (by simp)) _).setCell (fun h => absurd h (by simp)) _

set_option maxHeartbeats 2000000 in
set_option maxRecDepth 100000 in
theorem decode_other (s : ByteArray) (w : World) (hs : 0 < s.size) (sz : s.size ≤ 20) (h65 : ¬ (L s).getD 0 0 = 65) (h66 : ¬ (L s).getD 0 0 = 66) (h78 : ¬ (L s).getD 0 0 = 78) (h83 : ¬ (L s).getD 0 0 = 83) (h84 : ¬ (L s).getD 0 0 = 84) (h88 : ¬ (L s).getD 0 0 = 88) :
    Calls Try.prog 33 #[.string s] w (DecOut w (V.decode (L s))) := by
  have hdec : V.decode (L s) = .error 0 := by rw [decode_eq s hs]; simp only [if_neg h65, if_neg h83, if_neg h84, if_neg h88, if_neg (not_or.2 ⟨h66, h78⟩)]
  have ne : ∀ (x : UInt8), ¬ (L s).getD 0 0 = x → ((((L s).getD 0 0).toNat : Int) == (x.toNat : Int)) = false := by
    intro x hx
    rw [beq_eq_false_iff_ne]
    intro h
    exact hx (UInt8.toNat_inj.1 (by omega))
  have e1 := ne 65 h65
  have e2 := ne 66 h66
  have e3 := ne 78 h78
  have e4 := ne 83 h83
  have e5 := ne 84 h84
  have e6 := ne 88 h88
  rw [hdec]
  clear ne h65 h66 h78 h83 h84 h88 hdec
  go_enter Try.func33, Try.ntmps33
  go_wp2_with fail
  refine (verb_yes (w.heap.size + 1) 0 s _ ⟨by simp [go_sem], by simp [go_sem], fun o => by simp [go_sem], by omega, by omega⟩ hs).mono ?_
  generalize (((L s).getD 0 0).toNat : Int) = x at *
  rintro e w1 ⟨rfl, d1, f1⟩
  have F1 : Hid (Fr [] w w1) := (((Fr.refl _ _).alloc _).alloc _).nil f1 (by simp)
  clear d1 f1
  replace e1 : (x == 65) = false := e1
  replace e2 : (x == 66) = false := e2
  replace e3 : (x == 78) = false := e3
  replace e4 : (x == 83) = false := e4
  replace e5 : (x == 84) = false := e5
  replace e6 : (x == 88) = false := e6
  go_wp2_with fail
  exact ⟨rfl, rfl, F1.out.alloc _⟩

/-- decode, in whatever case (the request's length is tested ahead of it). -/
theorem decode_calls (s : ByteArray) (w : World) (sz : s.size ≤ 20) : Calls Try.prog 33 #[.string s] w (DecOut w (V.decode (L s))) := by
  by_cases hs : 0 < s.size
  · by_cases h65 : (L s).getD 0 0 = 65
    · exact decode_A s w hs sz (by rw [h65]; rfl)
    · by_cases h66 : (L s).getD 0 0 = 66
      · exact decode_B s w hs sz (by rw [h66]; rfl)
      · by_cases h78 : (L s).getD 0 0 = 78
        · exact decode_N s w hs sz (by rw [h78]; rfl)
        · by_cases h83 : (L s).getD 0 0 = 83
          · exact decode_S s w hs sz (by rw [h83]; rfl)
          · by_cases h84 : (L s).getD 0 0 = 84
            · exact decode_T s w hs sz (by rw [h84]; rfl)
            · by_cases h88 : (L s).getD 0 0 = 88
              · exact decode_X s w hs sz (by rw [h88]; rfl)
              · exact decode_other s w hs sz h65 h66 h78 h83 h84 h88
  · have hz : s.size = 0 := by omega
    have hL : L s = [] := List.length_eq_zero_iff.1 (by rw [L_len]; exact hz)
    rw [hL]
    exact decode_empty s w hz

end Go.Proofs.Qxb6500360a
