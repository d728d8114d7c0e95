/-
  L3: the decoder of the real gate.
-/
import Derived.Test.Qxb6500360aIt
import Derived.LoopN
namespace Go.Proofs.Qxb6500360a
open Go.RowKit
set_option linter.unusedSimpArgs false
set_option linter.unusedVariables false

/-- The decoder at A: the request s, the place p. -/
structure DecAt (w : World) (A : Nat) (s : ByteArray) (p : Nat) : Prop where
  cs : w.cell? ⟨A, 0, none⟩ = some (.string s)
  cp : w.cell? ⟨A, 1, none⟩ = some (.int .i64 p)
  fA : ∀ o, w.frozen? ⟨A, o, none⟩ = false
  sz : s.size ≤ 20
  pz : p ≤ s.size
def L (s : ByteArray) : List UInt8 := s.data.toList
theorem L_len (s : ByteArray) : (L s).length = s.size := by unfold L; rw [Array.length_toList]; rfl
theorem L_at (s : ByteArray) (p : Nat) (h : p < s.size) : (L s).getD p 0 = s[p] := by
  have : p < (L s).length := by rw [L_len]; exact h
  rw [List.getD_eq_getElem?_getD, List.getElem?_eq_getElem this]
  rfl
theorem DecAt.lA {w : World} {A p : Nat} {s : ByteArray} (h : DecAt w A s p) : A < w.heap.size := lt_of_cell h.cs
theorem DecAt.keep {w w' : World} {A p : Nat} {s : ByteArray} (h : DecAt w A s p) {X : List Nat} (hf : Fr X w w') (hn : A ∉ X) : DecAt w' A s p :=
  ⟨(hf.cell h.lA hn 0).trans h.cs, (hf.cell h.lA hn 1).trans h.cp, fun o => (hf.frozen h.lA hn o).trans (h.fA o), h.sz, h.pz⟩
theorem DecAt.drewN {w : World} {A p : Nat} {s : ByteArray} (h : DecAt w A s p) (n : Nat) : DecAt (w.drewN n) A s p := h.keep (X := []) ((Fr.refl _ _).drewN n) (by simp)
theorem DecAt.alloc {w : World} {A p : Nat} {s : ByteArray} (h : DecAt w A s p) (o : Obj) : DecAt (w.alloc o) A s p := h.keep (X := []) ((Fr.refl _ _).alloc o) (by simp)
theorem DecAt.next {w : World} {A p : Nat} {s : ByteArray} (h : DecAt w A s p) (hp : p < s.size) : DecAt (w.setCell ⟨A, 1, none⟩ (.int .i64 (p + 1))) A s (p + 1) :=
  ⟨by simp [cell_set, h.cs], by simp [cell_set, h.cp], fun o => by simp [h.fA], h.sz, by omega⟩

set_option maxHeartbeats 1000000 in
set_option maxRecDepth 100000 in
theorem more_calls (A p : Nat) (s : ByteArray) (w : World) (h : DecAt w A s p) :
    Calls Try.prog 75 #[.pointer (some ⟨A, 0, none⟩)] w fun e w' => e = .returned (.bool (V.isDig (L s) p)) ∧ ∃ n, w' = w.drewN n := by
  obtain ⟨cs, cp, fA, sz, pz⟩ := h
  by_cases h1 : p < s.size
  · have h1i : (p : Int) < (s.size : Int) := by omega
    obtain ⟨b, hsp⟩ : ∃ b, s[p] = b := ⟨_, rfl⟩
    have hb : (L s).getD p 0 = b := (L_at s p h1).trans hsp
    have hlt : p < (L s).length := by rw [L_len]; exact h1
    by_cases h2 : (48 : Int) ≤ b.toNat
    · have hd2 : decide ((48 : Int) ≤ b.toNat) = true := by simpa using h2
      by_cases h3 : (b.toNat : Int) ≤ 57
      · have hv : V.isDig (L s) p = true := by simp only [V.isDig, hb, hlt, decide_true, Bool.true_and, Bool.and_eq_true, decide_eq_true_eq]; omega
        rw [hv]
        clear hv hb
        go_enter Try.func75, Try.ntmps75
        go_wp2
        go_quiet (fail)
        go_wp2
        go_ret
        exact ⟨rfl, _, rfl⟩
      · have hv : V.isDig (L s) p = false := by simp only [V.isDig, hb, hlt, decide_true, Bool.true_and, Bool.and_eq_false_iff, decide_eq_false_iff_not]; omega
        rw [hv]
        clear hv hb
        go_enter Try.func75, Try.ntmps75
        go_wp2
        go_quiet (fail)
        go_wp2
        go_ret
        exact ⟨by simp; omega, _, rfl⟩
    · have hv : V.isDig (L s) p = false := by simp only [V.isDig, hb, hlt, decide_true, Bool.true_and, Bool.and_eq_false_iff, decide_eq_false_iff_not]; omega
      have hd : decide ((48 : Int) ≤ b.toNat) = false := by simpa using h2
      rw [hv]
      clear hv hb
      go_enter Try.func75, Try.ntmps75
      go_wp2
      go_quiet (fail)
      go_wp2
      go_ret
      exact ⟨rfl, _, rfl⟩
  · have hv : V.isDig (L s) p = false := by simp [V.isDig, L_len, h1]
    have hd : decide ((p : Int) < (s.size : Int)) = false := by simp; omega
    rw [hv]
    clear hv
    go_enter Try.func75, Try.ntmps75
    go_wp2
    go_quiet (fail)
    go_wp2
    go_ret
    exact ⟨rfl, _, rfl⟩

/-- The decoder's panic: syntax{at}. -/
abbrev synE (q : Int) : Ending := .panicked [{ v := .iface 53 (.agg #[.int .i64 q]), recovered := false }]

theorem digV_bd {s : List UInt8} {p : Nat} (h : V.isDig s p = true) : 0 ≤ V.digV s p ∧ V.digV s p ≤ 9 := by
  simp only [V.isDig, Bool.and_eq_true, decide_eq_true_eq] at h
  unfold V.digV
  omega
theorem isDig_lt {s : ByteArray} {p : Nat} (h : V.isDig (L s) p = true) : p < s.size := by
  simp only [V.isDig, Bool.and_eq_true, decide_eq_true_eq, L_len] at h
  exact h.1

set_option maxHeartbeats 1000000 in
set_option maxRecDepth 100000 in
theorem digit_no (A p : Nat) (s : ByteArray) (w : World) (h : DecAt w A s p) (hd : V.isDig (L s) p = false) :
    Calls Try.prog 53 #[.pointer (some ⟨A, 0, none⟩)] w fun e w' => e = synE p ∧ Fr [A] w w' := by
  have HH : Hid (DecAt w A s p) := h
  have cp := h.cp
  clear h
  go_enter Try.func53, Try.ntmps53
  go_wp2_with fail
  refine (more_calls A p s w HH.out).mono ?_
  rw [hd]
  rintro e w1 ⟨rfl, n, rfl⟩
  go_wp2_with fail
  exact ⟨rfl, rfl, (Fr.refl _ _).drewN _⟩

set_option maxHeartbeats 1000000 in
set_option maxRecDepth 100000 in
theorem digit_yes (A p : Nat) (s : ByteArray) (w : World) (h : DecAt w A s p) (hd : V.isDig (L s) p = true) :
    Calls Try.prog 53 #[.pointer (some ⟨A, 0, none⟩)] w fun e w' => e = .returned (.int .i64 (V.digV (L s) p)) ∧ DecAt w' A s (p + 1) ∧ Fr [A] w w' := by
  have HH : Hid (DecAt w A s p) := h
  have cp := h.cp
  have cs := h.cs
  have fA := h.fA
  have sz := h.sz
  have hp := isDig_lt hd
  have hpi : (p : Int) < (s.size : Int) := by omega
  obtain ⟨b, hsp⟩ : ∃ b, s[p] = b := ⟨_, rfl⟩
  have hb : (L s).getD p 0 = b := (L_at s p hp).trans hsp
  have hbd : 48 ≤ b.toNat ∧ b.toNat ≤ 57 := by
    simp only [V.isDig, hb, Bool.and_eq_true, decide_eq_true_eq] at hd
    exact hd.2
  have HV : Hid (V.digV (L s) p = (b.toNat : Int) - 48) := by show _ = _; simp only [V.digV, hb]
  have w1 : IntKind.u8.wrap ((b.toNat : Int) - 48) = (b.toNat : Int) - 48 := by rw [IntKind.wrap_u8]; omega
  have w2 : IntKind.i64.wrap ((b.toNat : Int) - 48) = (b.toNat : Int) - 48 := i64w _ (by omega)
  clear h hb
  go_enter Try.func53, Try.ntmps53
  go_wp2_with fail
  refine (more_calls A p s w HH.out).mono ?_
  rw [hd]
  rintro e w4 ⟨rfl, n, rfl⟩
  clear hd
  go_wp2_with fail
  go_quiet (fail)
  go_wp2
  go_ret
  rw [HV.out]
  exact ⟨rfl, ((HH.out.drewN _).next hp).drewN _, (((Fr.refl _ _).drewN _).setCell (by simp) _).drewN _⟩

set_option maxHeartbeats 1000000 in
set_option maxRecDepth 100000 in
theorem verb_no (A p : Nat) (s : ByteArray) (w : World) (h : DecAt w A s p) (hp : ¬ p < s.size) :
    Calls Try.prog 52 #[.pointer (some ⟨A, 0, none⟩)] w fun e w' => e = synE p ∧ Fr [A] w w' := by
  obtain ⟨cs, cp, fA, sz, pz⟩ := h
  have hpi : (s.size : Int) ≤ (p : Int) := by omega
  go_enter Try.func52, Try.ntmps52
  go_wp2
  go_quiet (fail)
  go_wp2
  exact ⟨rfl, rfl, (Fr.refl _ _).drewN _⟩

set_option maxHeartbeats 1000000 in
set_option maxRecDepth 100000 in
theorem verb_yes (A p : Nat) (s : ByteArray) (w : World) (h : DecAt w A s p) (hp : p < s.size) :
    Calls Try.prog 52 #[.pointer (some ⟨A, 0, none⟩)] w fun e w' => e = .returned (.int .u8 ((L s).getD p 0).toNat) ∧ DecAt w' A s (p + 1) ∧ Fr [A] w w' := by
  have HH : Hid (DecAt w A s p) := h
  obtain ⟨cs, cp, fA, sz, pz⟩ := h
  have hpi : (p : Int) < (s.size : Int) := by omega
  have hpn : ¬ (s.size : Int) ≤ (p : Int) := by omega
  obtain ⟨b, hsp⟩ : ∃ b, s[p] = b := ⟨_, rfl⟩
  have hb : (L s).getD p 0 = b := (L_at s p hp).trans hsp
  rw [hb]
  clear hb
  go_enter Try.func52, Try.ntmps52
  go_wp2
  go_quiet (fail)
  go_wp2
  go_quiet (fail)
  go_wp2
  go_ret
  exact ⟨rfl, ((HH.out.drewN _).next hp).drewN _, (((Fr.refl _ _).drewN _).setCell (by simp) _).drewN _⟩

set_option maxHeartbeats 1000000 in
set_option maxRecDepth 100000 in
theorem end_no (A p : Nat) (s : ByteArray) (w : World) (h : DecAt w A s p) (hp : p < s.size) :
    Calls Try.prog 56 #[.pointer (some ⟨A, 0, none⟩)] w fun e w' => e = synE p ∧ Fr [A] w w' := by
  obtain ⟨cs, cp, fA, sz, pz⟩ := h
  have hpi : (p : Int) < (s.size : Int) := by omega
  go_enter Try.func56, Try.ntmps56
  go_wp2
  go_quiet (fail)
  go_wp2
  exact ⟨rfl, rfl, (Fr.refl _ _).drewN _⟩

set_option maxHeartbeats 1000000 in
set_option maxRecDepth 100000 in
theorem end_yes (A p : Nat) (s : ByteArray) (w : World) (h : DecAt w A s p) (hp : ¬ p < s.size) :
    Calls Try.prog 56 #[.pointer (some ⟨A, 0, none⟩)] w fun e w' => e = .returned (.tuple #[]) ∧ Fr [A] w w' := by
  obtain ⟨cs, cp, fA, sz, pz⟩ := h
  have hpi : ¬ (p : Int) < (s.size : Int) := by omega
  go_enter Try.func56, Try.ntmps56
  go_wp2
  go_quiet (fail)
  go_wp2
  go_end0
  exact ⟨rfl, (Fr.refl _ _).drewN _⟩

set_option maxHeartbeats 1000000 in
set_option maxRecDepth 100000 in
theorem must_end (A p : Nat) (s : ByteArray) (w : World) (h : DecAt w A s p) (hp : ¬ p < s.size) :
    Calls Try.prog 77 #[.pointer (some ⟨A, 0, none⟩), .int .u8 59] w fun e w' => e = synE p ∧ Fr [A] w w' := by
  obtain ⟨cs, cp, fA, sz, pz⟩ := h
  have hpi : (s.size : Int) ≤ (p : Int) := by omega
  go_enter Try.func77, Try.ntmps77
  go_wp2
  go_quiet (fail)
  go_wp2
  exact ⟨rfl, rfl, (Fr.refl _ _).drewN _⟩

set_option maxHeartbeats 1000000 in
set_option maxRecDepth 100000 in
theorem must_no (A p : Nat) (s : ByteArray) (w : World) (h : DecAt w A s p) (hp : p < s.size) (hx : ¬ (L s).getD p 0 = 59) :
    Calls Try.prog 77 #[.pointer (some ⟨A, 0, none⟩), .int .u8 59] w fun e w' => e = synE p ∧ Fr [A] w w' := by
  obtain ⟨cs, cp, fA, sz, pz⟩ := h
  have hpi : (p : Int) < (s.size : Int) := by omega
  have hpd : decide ((s.size : Int) ≤ (p : Int)) = false := by simp; omega
  obtain ⟨b, hsp⟩ : ∃ b, s[p] = b := ⟨_, rfl⟩
  rw [(L_at s p hp).trans hsp] at hx
  have hb1 : ((b.toNat : Int) != 59) = true := by
    simp only [bne_iff_ne, ne_eq]
    intro h9
    exact hx (UInt8.toNat_inj.1 (by have : (59 : UInt8).toNat = 59 := rfl; omega))
  clear hx
  go_enter Try.func77, Try.ntmps77
  go_wp2
  go_quiet (fail)
  go_wp2
  exact ⟨rfl, rfl, (Fr.refl _ _).drewN _⟩

set_option maxHeartbeats 1000000 in
set_option maxRecDepth 100000 in
theorem must_yes (A p : Nat) (s : ByteArray) (w : World) (h : DecAt w A s p) (hp : p < s.size) (hx : (L s).getD p 0 = 59) :
    Calls Try.prog 77 #[.pointer (some ⟨A, 0, none⟩), .int .u8 59] w fun e w' => e = .returned (.tuple #[]) ∧ DecAt w' A s (p + 1) ∧ Fr [A] w w' := by
  have HH : Hid (DecAt w A s p) := h
  obtain ⟨cs, cp, fA, sz, pz⟩ := h
  have hpi : (p : Int) < (s.size : Int) := by omega
  have hpd : decide ((s.size : Int) ≤ (p : Int)) = false := by simp; omega
  have hsp : s[p] = 59 := (L_at s p hp).symm.trans hx
  clear hx
  go_enter Try.func77, Try.ntmps77
  go_wp2
  go_quiet (fail)
  go_wp2
  go_end0
  exact ⟨rfl, (HH.out.drewN _).next hp, ((Fr.refl _ _).drewN _).setCell (by simp) _⟩

set_option maxHeartbeats 1000000 in
set_option maxRecDepth 100000 in
theorem num_no (A p : Nat) (s : ByteArray) (w : World) (h : DecAt w A s p) (hd : V.isDig (L s) p = false) :
    Calls Try.prog 76 #[.pointer (some ⟨A, 0, none⟩)] w fun e w' => e = synE p ∧ Fr [A] w w' := by
  have HH : Hid (DecAt w A s p) := h
  clear h
  go_enter Try.func76, Try.ntmps76
  go_wp2_with fail
  refine (digit_no A p s w HH.out hd).mono ?_
  rintro e w1 ⟨rfl, hf⟩
  have HF : Hid (Fr [A] w w1) := hf
  clear hf
  go_wp2_with fail
  exact ⟨rfl, rfl, HF.out⟩

set_option maxHeartbeats 1000000 in
set_option maxRecDepth 100000 in
theorem num_1 (A p : Nat) (s : ByteArray) (w : World) (h : DecAt w A s p) (hd : V.isDig (L s) p = true) (hd1 : V.isDig (L s) (p + 1) = false) :
    Calls Try.prog 76 #[.pointer (some ⟨A, 0, none⟩)] w fun e w' => e = .returned (.int .i64 (V.digV (L s) p)) ∧ DecAt w' A s (p + 1) ∧ Fr [A] w w' := by
  have HH : Hid (DecAt w A s p) := h
  clear h
  obtain ⟨lo0, hi0⟩ := digV_bd hd
  go_enter Try.func76, Try.ntmps76
  go_wp2_with fail
  refine (digit_yes A p s w HH.out hd).mono ?_
  rintro e w1 ⟨rfl, h1, hf⟩
  have H1 : Hid (DecAt w1 A s (p + 1)) := h1
  have F1 : Hid (Fr [A] w w1) := hf
  clear hf h1
  go_wp2_with fail
  refine wp_loop_rounds 4 ?_
  rw [rounds_succ]
  go_wp2_with fail
  refine (more_calls A (p + 1) s w1 H1.out).mono ?_
  rw [hd1]
  rintro e x1 ⟨rfl, n1, rfl⟩
  go_wp2_with fail
  go_ret
  exact ⟨rfl, H1.out.drewN _, F1.out.drewN _⟩

set_option maxHeartbeats 1000000 in
set_option maxRecDepth 100000 in
theorem num_2 (A p : Nat) (s : ByteArray) (w : World) (h : DecAt w A s p) (hd : V.isDig (L s) p = true) (hd1 : V.isDig (L s) (p + 1) = true) (hd2 : V.isDig (L s) (p + 2) = false) :
    Calls Try.prog 76 #[.pointer (some ⟨A, 0, none⟩)] w fun e w' => e = .returned (.int .i64 (V.digV (L s) p * 10 + V.digV (L s) (p + 1))) ∧ DecAt w' A s (p + 2) ∧ Fr [A] w w' := by
  have HH : Hid (DecAt w A s p) := h
  clear h
  obtain ⟨lo0, hi0⟩ := digV_bd hd
  obtain ⟨lo1, hi1⟩ := digV_bd hd1
  go_enter Try.func76, Try.ntmps76
  go_wp2_with fail
  refine (digit_yes A p s w HH.out hd).mono ?_
  rintro e w1 ⟨rfl, h1, hf⟩
  have H1 : Hid (DecAt w1 A s (p + 1)) := h1
  have F1 : Hid (Fr [A] w w1) := hf
  clear hf h1
  go_wp2_with fail
  refine wp_loop_rounds 4 ?_
  rw [rounds_succ]
  go_wp2_with fail
  refine (more_calls A (p + 1) s w1 H1.out).mono ?_
  rw [hd1]
  rintro e x1 ⟨rfl, n1, rfl⟩
  go_wp2_with fail
  refine (digit_yes A (p + 1) s _ (H1.out.drewN _) hd1).mono ?_
  rintro e w2 ⟨rfl, h1, hf⟩
  have H2 : Hid (DecAt w2 A s (p + 2)) := h1
  have F2 : Hid (Fr [A] w w2) := (F1.out.drewN _).trans hf (fun _ _ h => h)
  clear hf h1
  go_wp2_with fail
  rw [rounds_succ]
  go_wp2_with fail
  refine (more_calls A (p + 2) s w2 H2.out).mono ?_
  rw [hd2]
  rintro e x2 ⟨rfl, n2, rfl⟩
  go_wp2_with fail
  go_ret
  exact ⟨rfl, H2.out.drewN _, F2.out.drewN _⟩

set_option maxHeartbeats 1000000 in
set_option maxRecDepth 100000 in
theorem num_3 (A p : Nat) (s : ByteArray) (w : World) (h : DecAt w A s p) (hd : V.isDig (L s) p = true) (hd1 : V.isDig (L s) (p + 1) = true) (hd2 : V.isDig (L s) (p + 2) = true) :
    Calls Try.prog 76 #[.pointer (some ⟨A, 0, none⟩)] w fun e w' => e = .returned (.int .i64 ((V.digV (L s) p * 10 + V.digV (L s) (p + 1)) * 10 + V.digV (L s) (p + 2))) ∧ DecAt w' A s (p + 3) ∧ Fr [A] w w' := by
  have HH : Hid (DecAt w A s p) := h
  clear h
  obtain ⟨lo0, hi0⟩ := digV_bd hd
  obtain ⟨lo1, hi1⟩ := digV_bd hd1
  obtain ⟨lo2, hi2⟩ := digV_bd hd2
  go_enter Try.func76, Try.ntmps76
  go_wp2_with fail
  refine (digit_yes A p s w HH.out hd).mono ?_
  rintro e w1 ⟨rfl, h1, hf⟩
  have H1 : Hid (DecAt w1 A s (p + 1)) := h1
  have F1 : Hid (Fr [A] w w1) := hf
  clear hf h1
  go_wp2_with fail
  refine wp_loop_rounds 4 ?_
  rw [rounds_succ]
  go_wp2_with fail
  refine (more_calls A (p + 1) s w1 H1.out).mono ?_
  rw [hd1]
  rintro e x1 ⟨rfl, n1, rfl⟩
  go_wp2_with fail
  refine (digit_yes A (p + 1) s _ (H1.out.drewN _) hd1).mono ?_
  rintro e w2 ⟨rfl, h1, hf⟩
  have H2 : Hid (DecAt w2 A s (p + 2)) := h1
  have F2 : Hid (Fr [A] w w2) := (F1.out.drewN _).trans hf (fun _ _ h => h)
  clear hf h1
  go_wp2_with fail
  rw [rounds_succ]
  go_wp2_with fail
  refine (more_calls A (p + 2) s w2 H2.out).mono ?_
  rw [hd2]
  rintro e x2 ⟨rfl, n2, rfl⟩
  go_wp2_with fail
  refine (digit_yes A (p + 2) s _ (H2.out.drewN _) hd2).mono ?_
  rintro e w3 ⟨rfl, h1, hf⟩
  have H3 : Hid (DecAt w3 A s (p + 3)) := h1
  have F3 : Hid (Fr [A] w w3) := (F2.out.drewN _).trans hf (fun _ _ h => h)
  clear hf h1
  go_wp2_with fail
  rw [rounds_succ]
  go_wp2_with fail
  go_ret
  exact ⟨rfl, H3.out, F3.out⟩

theorem pNum_bd {s : List UInt8} {p q : Nat} {v : Int} (h : V.pNum s p = .ok (v, q)) : 0 ≤ v ∧ v ≤ 999 := by
  unfold V.pNum at h
  split at h
  · rename_i h0
    have := digV_bd h0
    split at h
    · rename_i h1
      have := digV_bd h1
      split at h
      · rename_i h2
        have := digV_bd h2
        simp at h; omega
      · simp at h; omega
    · simp at h; omega
  · cases h

/-- num, in whatever case. -/
theorem num_ok (A p q : Nat) (v : Int) (s : ByteArray) (w : World) (h : DecAt w A s p) (hr : V.pNum (L s) p = .ok (v, q)) :
    Calls Try.prog 76 #[.pointer (some ⟨A, 0, none⟩)] w fun e w' => e = .returned (.int .i64 v) ∧ DecAt w' A s q ∧ Fr [A] w w' := by
  unfold V.pNum at hr
  cases h0 : V.isDig (L s) p with
  | false => simp [h0] at hr
  | true =>
    cases h1 : V.isDig (L s) (p + 1) with
    | false =>
      simp [h0, h1] at hr
      obtain ⟨rfl, rfl⟩ := hr
      exact num_1 A p s w h h0 h1
    | true =>
      cases h2 : V.isDig (L s) (p + 2) with
      | false =>
        simp [h0, h1, h2] at hr
        obtain ⟨rfl, rfl⟩ := hr
        exact num_2 A p s w h h0 h1 h2
      | true =>
        simp [h0, h1, h2] at hr
        obtain ⟨rfl, rfl⟩ := hr
        exact num_3 A p s w h h0 h1 h2
theorem num_err (A p q : Nat) (s : ByteArray) (w : World) (h : DecAt w A s p) (hr : V.pNum (L s) p = .error q) :
    Calls Try.prog 76 #[.pointer (some ⟨A, 0, none⟩)] w fun e w' => e = synE q ∧ Fr [A] w w' := by
  unfold V.pNum at hr
  cases h0 : V.isDig (L s) p with
  | false =>
    simp [h0] at hr
    subst hr
    exact num_no A p s w h h0
  | true =>
    exfalso
    simp only [h0, if_true] at hr
    split at hr
    · split at hr <;> cases hr
    · cases hr

/-! ### move -/
set_option maxHeartbeats 1000000 in
set_option maxRecDepth 100000 in
theorem move_ok (A p q : Nat) (m : V.Mv) (s : ByteArray) (w : World) (h : DecAt w A s p) (hr : V.pMove (L s) p = .ok (m, q)) :
    Calls Try.prog 54 #[.pointer (some ⟨A, 0, none⟩)] w fun e w' => e = .returned (.agg #[.int .i64 m.f, .int .i64 m.t, .int .i64 m.a]) ∧ DecAt w' A s q ∧ Fr [A] w w' := by
  unfold V.pMove at hr
  cases h0 : V.isDig (L s) p with
  | false => simp [h0] at hr
  | true =>
    cases h1 : V.isDig (L s) (p + 1) with
    | false => simp [h0, h1] at hr
    | true =>
      cases h2 : V.pNum (L s) (p + 2) with
      | error x => simp [h0, h1, h2] at hr
      | ok r =>
        obtain ⟨v, q'⟩ := r
        simp only [h0, h1, h2, if_true] at hr
        cases hr
        have HH : Hid (DecAt w A s p) := h
        have lA := h.lA
        clear h
        go_enter Try.func54, Try.ntmps54
        go_wp2_with fail
        refine (digit_yes A p s _ (HH.out.alloc _) h0).mono ?_
        rintro e w1 ⟨rfl, d1, f1⟩
        have H1 : Hid (DecAt w1 A s (p + 1)) := d1
        have F1 : Hid (Fr [A] w w1) := ((Fr.refl _ _).alloc _).trans f1 (fun _ _ h => h)
        have M1 : Hid (w1.cell? ⟨w.heap.size, 0, none⟩ = some (.int .i64 0) ∧ w1.cell? ⟨w.heap.size, 1, none⟩ = some (.int .i64 0) ∧ w1.cell? ⟨w.heap.size, 2, none⟩ = some (.int .i64 0) ∧ ∀ o, w1.frozen? ⟨w.heap.size, o, none⟩ = false) :=
          ⟨by rw [f1.cell (by simp) (by simp; omega)]; simp [go_sem], by rw [f1.cell (by simp) (by simp; omega)]; simp [go_sem], by rw [f1.cell (by simp) (by simp; omega)]; simp [go_sem], fun o => by rw [f1.frozen (by simp) (by simp; omega)]; simp [go_sem]⟩
        clear d1 f1
        go_wp2_with fail
        refine (digit_yes A (p + 1) s w1 H1.out h1).mono ?_
        rintro e w2 ⟨rfl, d2, f2⟩
        have H2 : Hid (DecAt w2 A s (p + 2)) := d2
        have F2 : Hid (Fr [A] w w2) := F1.out.trans f2 (fun _ _ h => h)
        have M2 : Hid (w2.cell? ⟨w.heap.size, 0, none⟩ = some (.int .i64 0) ∧ w2.cell? ⟨w.heap.size, 1, none⟩ = some (.int .i64 0) ∧ w2.cell? ⟨w.heap.size, 2, none⟩ = some (.int .i64 0) ∧ ∀ o, w2.frozen? ⟨w.heap.size, o, none⟩ = false) := by
          obtain ⟨a, b, c, d⟩ := M1.out
          have nA : w.heap.size ∉ [A] := by simp; omega
          have hs := lt_of_cell a
          exact ⟨by rw [f2.cell hs nA]; exact a, by rw [f2.cell hs nA]; exact b, by rw [f2.cell hs nA]; exact c, fun o => by rw [f2.frozen hs nA]; exact d o⟩
        clear d2 f2
        go_wp2_with fail
        refine (num_ok A (p + 2) q v s w2 H2.out h2).mono ?_
        rintro e w3 ⟨rfl, d3, f3⟩
        have H3 : Hid (DecAt w3 A s q) := d3
        have F3 : Hid (Fr [A] w w3) := F2.out.trans f3 (fun _ _ h => h)
        have M3 : w3.cell? ⟨w.heap.size, 0, none⟩ = some (.int .i64 0) ∧ w3.cell? ⟨w.heap.size, 1, none⟩ = some (.int .i64 0) ∧ w3.cell? ⟨w.heap.size, 2, none⟩ = some (.int .i64 0) ∧ ∀ o, w3.frozen? ⟨w.heap.size, o, none⟩ = false := by
          obtain ⟨a, b, c, d⟩ := M2.out
          have nA : w.heap.size ∉ [A] := by simp; omega
          have hs := lt_of_cell a
          exact ⟨by rw [f3.cell hs nA]; exact a, by rw [f3.cell hs nA]; exact b, by rw [f3.cell hs nA]; exact c, fun o => by rw [f3.frozen hs nA]; exact d o⟩
        obtain ⟨a0, a1, a2, a3⟩ := M3
        clear d3 f3
        go_wp2_with fail
        refine bodyPost_ret (v := .agg #[.int .i64 (V.digV (L s) p), .int .i64 (V.digV (L s) (p + 1)), .int .i64 v]) (by simp [results, Try.results54, go_sem, cell_set, a0, a1, a2]) rfl ⟨rfl, ?_, ?_⟩
        · exact H3.out.keep (X := [w.heap.size]) ((((Fr.refl _ _).setCell (by simp) _).setCell (by simp) _).setCell (by simp) _) (by simp; omega)
        · exact ((F3.out.setCell (fun h => absurd h (by simp)) _).setCell (fun h => absurd h (by simp)) _).setCell (fun h => absurd h (by simp)) _

set_option maxHeartbeats 1000000 in
set_option maxRecDepth 100000 in
theorem move_err (A p q : Nat) (s : ByteArray) (w : World) (h : DecAt w A s p) (hr : V.pMove (L s) p = .error q) :
    Calls Try.prog 54 #[.pointer (some ⟨A, 0, none⟩)] w fun e w' => e = synE q ∧ Fr [A] w w' := by
  unfold V.pMove at hr
  have HH : Hid (DecAt w A s p) := h
  clear h
  cases h0 : V.isDig (L s) p with
  | false =>
    simp [h0] at hr
    subst hr
    go_enter Try.func54, Try.ntmps54
    go_wp2_with fail
    refine (digit_no A p s _ (HH.out.alloc _) h0).mono ?_
    rintro e w1 ⟨rfl, f1⟩
    have F1 : Hid (Fr [A] w w1) := ((Fr.refl _ _).alloc _).trans f1 (fun _ _ h => h)
    clear f1
    go_wp2_with fail
    exact ⟨rfl, rfl, F1.out⟩
  | true =>
    cases h1 : V.isDig (L s) (p + 1) with
    | false =>
      simp [h0, h1] at hr
      subst hr
      go_enter Try.func54, Try.ntmps54
      go_wp2_with fail
      refine (digit_yes A p s _ (HH.out.alloc _) h0).mono ?_
      rintro e w1 ⟨rfl, d1, f1⟩
      have H1 : Hid (DecAt w1 A s (p + 1)) := d1
      have F1 : Hid (Fr [A] w w1) := ((Fr.refl _ _).alloc _).trans f1 (fun _ _ h => h)
      clear f1 d1
      go_wp2_with fail
      refine (digit_no A (p + 1) s w1 H1.out h1).mono ?_
      rintro e w2 ⟨rfl, f2⟩
      have F2 : Hid (Fr [A] w w2) := F1.out.trans f2 (fun _ _ h => h)
      clear f2
      go_wp2_with fail
      exact ⟨rfl, by simp, F2.out⟩
    | true =>
      cases h2 : V.pNum (L s) (p + 2) with
      | ok r => simp [h0, h1, h2] at hr
      | error x =>
        simp only [h0, h1, h2, if_true] at hr
        cases hr
        go_enter Try.func54, Try.ntmps54
        go_wp2_with fail
        refine (digit_yes A p s _ (HH.out.alloc _) h0).mono ?_
        rintro e w1 ⟨rfl, d1, f1⟩
        have H1 : Hid (DecAt w1 A s (p + 1)) := d1
        have F1 : Hid (Fr [A] w w1) := ((Fr.refl _ _).alloc _).trans f1 (fun _ _ h => h)
        clear f1 d1
        go_wp2_with fail
        refine (digit_yes A (p + 1) s w1 H1.out h1).mono ?_
        rintro e w2 ⟨rfl, d2, f2⟩
        have H2 : Hid (DecAt w2 A s (p + 2)) := d2
        have F2 : Hid (Fr [A] w w2) := F1.out.trans f2 (fun _ _ h => h)
        clear f2 d2
        go_wp2_with fail
        refine (num_err A (p + 2) q s w2 H2.out h2).mono ?_
        rintro e w3 ⟨rfl, f3⟩
        have F3 : Hid (Fr [A] w w3) := F2.out.trans f3 (fun _ _ h => h)
        clear f3
        go_wp2_with fail
        exact ⟨rfl, rfl, F3.out⟩

end Go.Proofs.Qxb6500360a
