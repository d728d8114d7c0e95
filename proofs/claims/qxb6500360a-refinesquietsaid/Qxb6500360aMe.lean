/-
  L3, abstract: the scanner of the model's gate.
-/
import Derived.Test.Qxb6500360aDc
import Derived.Test.Qxb6500360aMb
namespace Go.Proofs.Qxb6500360a
open Go.RowKit
set_option linter.unusedSimpArgs false
set_option linter.unusedVariables false

/-- The scanner at A: the request s, the place p, the first fault a (or -1). -/
structure ScanAt (w : World) (A : Nat) (s : ByteArray) (p : Nat) (a : Int) : Prop where
  cs : w.cell? ⟨A, 0, none⟩ = some (.string s)
  cp : w.cell? ⟨A, 1, none⟩ = some (.int .i64 p)
  ca : w.cell? ⟨A, 2, none⟩ = some (.int .i64 a)
  fA : ∀ o, w.frozen? ⟨A, o, none⟩ = false
  sz : s.size ≤ 20
  pz : p ≤ s.size
theorem ScanAt.lA {w : World} {A p : Nat} {s : ByteArray} {a : Int} (h : ScanAt w A s p a) : A < w.heap.size := lt_of_cell h.cs
theorem ScanAt.keep {w w' : World} {A p : Nat} {s : ByteArray} {a : Int} (h : ScanAt w A s p a) {X : List Nat} (hf : Fr X w w') (hn : A ∉ X) : ScanAt w' A s p a :=
  ⟨(hf.cell h.lA hn 0).trans h.cs, (hf.cell h.lA hn 1).trans h.cp, (hf.cell h.lA hn 2).trans h.ca, fun o => (hf.frozen h.lA hn o).trans (h.fA o), h.sz, h.pz⟩
theorem ScanAt.next {w : World} {A p : Nat} {s : ByteArray} {a : Int} (h : ScanAt w A s p a) (hp : p < s.size) : ScanAt (w.setCell ⟨A, 1, none⟩ (.int .i64 (p + 1))) A s (p + 1) a :=
  ⟨by simp [cell_set, h.cs], by simp [cell_set, h.cp], by simp [cell_set, h.ca], fun o => by simp [h.fA], h.sz, by omega⟩
theorem ScanAt.fault {w : World} {A p : Nat} {s : ByteArray} {a : Int} (h : ScanAt w A s p a) (q : Int) : ScanAt (w.setCell ⟨A, 2, none⟩ (.int .i64 q)) A s p q :=
  ⟨by simp [cell_set, h.cs], by simp [cell_set, h.cp], by simp [cell_set, h.ca], fun o => by simp [h.fA], h.sz, h.pz⟩

/-- The scanner's state: the place, or the first fault. -/
def ScSt (w : World) (A : Nat) (s : ByteArray) : Except Nat Nat → Prop
  | .ok p => ScanAt w A s p (-1)
  | .error q => q ≤ 20 ∧ ∃ p, ScanAt w A s p (q : Int)
theorem ScSt.keep {w w' : World} {A : Nat} {s : ByteArray} {x : Except Nat Nat} (h : ScSt w A s x) {X : List Nat} (hf : Fr X w w') (hn : A ∉ X) : ScSt w' A s x := by
  cases x with
  | ok p => exact ScanAt.keep (h : ScanAt w A s p (-1)) hf hn
  | error q => obtain ⟨h1, p, h2⟩ := h; exact ⟨h1, p, h2.keep hf hn⟩
theorem ScSt.lA {w : World} {A : Nat} {s : ByteArray} {x : Except Nat Nat} (h : ScSt w A s x) : A < w.heap.size := by
  cases x with
  | ok p => exact ScanAt.lA (h : ScanAt w A s p (-1))
  | error q => obtain ⟨h1, p, h2⟩ := h; exact h2.lA

def xDig (s : List UInt8) : Except Nat Nat → Int × Except Nat Nat
  | .error q => (0, .error q)
  | .ok p => if V.isDig s p then (V.digV s p, .ok (p + 1)) else (0, .error p)
def xNum (s : List UInt8) : Except Nat Nat → Int × Except Nat Nat
  | .error q => (0, .error q)
  | .ok p => match V.pNum s p with
    | .ok r => (r.1, .ok r.2)
    | .error q => (0, .error q)
def xMove (s : List UInt8) (x : Except Nat Nat) : V.Mv × Except Nat Nat :=
  (⟨(xDig s x).1, (xDig s (xDig s x).2).1, (xNum s (xDig s (xDig s x).2).2).1⟩, (xNum s (xDig s (xDig s x).2).2).2)
def xMust (s : List UInt8) : Except Nat Nat → Except Nat Nat
  | .error q => .error q
  | .ok p => V.pMust s 59 p
theorem xMove_ok {s : List UInt8} {p q : Nat} {m : V.Mv} (h : V.pMove s p = .ok (m, q)) : xMove s (.ok p) = (m, .ok q) := by
  unfold V.pMove at h
  cases h0 : V.isDig s p with
  | false => simp [h0] at h
  | true =>
    cases h1 : V.isDig s (p + 1) with
    | false => simp [h0, h1] at h
    | true =>
      cases h2 : V.pNum s (p + 2) with
      | error x => simp [h0, h1, h2] at h
      | ok r =>
        simp only [h0, h1, h2, if_true] at h
        cases h
        simp [xMove, xDig, xNum, h0, h1, h2]
theorem xMove_err {s : List UInt8} {p q : Nat} (h : V.pMove s p = .error q) : (xMove s (.ok p)).2 = .error q := by
  unfold V.pMove at h
  cases h0 : V.isDig s p with
  | false => simp [h0] at h; subst h; simp [xMove, xDig, xNum, h0]
  | true =>
    cases h1 : V.isDig s (p + 1) with
    | false => simp [h0, h1] at h; subst h; simp [xMove, xDig, xNum, h0, h1]
    | true =>
      cases h2 : V.pNum s (p + 2) with
      | error x => simp [h0, h1, h2] at h; simp [xMove, xDig, xNum, h0, h1, h2, h]
      | ok r => simp [h0, h1, h2] at h

set_option maxHeartbeats 1000000 in
set_option maxRecDepth 100000 in
theorem sdig_calls (A p : Nat) (s : ByteArray) (a : Int) (w : World) (h : ScanAt w A s p a) :
    Calls Try.prog 105 #[.pointer (some ⟨A, 0, none⟩)] w fun e w' => e = .returned (.bool (V.isDig (L s) p)) ∧ ∃ n, w' = w.drewN n := by
  obtain ⟨cs, cp, ca, fA, sz, pz⟩ := h
  clear ca
  by_cases h1 : p < s.size
  · have h1i : (p : Int) < (s.size : Int) := by omega
    obtain ⟨b, hsp⟩ : ∃ b, s[p] = b := ⟨_, rfl⟩
    have hb : (L s).getD p 0 = b := (L_at s p h1).trans hsp
    have hlt : p < (L s).length := by rw [L_len]; exact h1
    by_cases h2 : (48 : Int) ≤ b.toNat
    · have hd2 : decide ((48 : Int) ≤ b.toNat) = true := by simpa using h2
      by_cases h3 : (b.toNat : Int) ≤ 57
      · have hv : V.isDig (L s) p = true := by simp only [V.isDig, hb, hlt, decide_true, Bool.true_and, Bool.and_eq_true, decide_eq_true_eq]; omega
        rw [hv]
        clear hv hb
        go_enter Try.func105, Try.ntmps105
        go_wp2
        go_quiet (fail)
        go_wp2
        go_ret
        exact ⟨rfl, _, rfl⟩
      · have hv : V.isDig (L s) p = false := by simp only [V.isDig, hb, hlt, decide_true, Bool.true_and, Bool.and_eq_false_iff, decide_eq_false_iff_not]; omega
        rw [hv]
        clear hv hb
        go_enter Try.func105, Try.ntmps105
        go_wp2
        go_quiet (fail)
        go_wp2
        go_ret
        exact ⟨by simp; omega, _, rfl⟩
    · have hv : V.isDig (L s) p = false := by simp only [V.isDig, hb, hlt, decide_true, Bool.true_and, Bool.and_eq_false_iff, decide_eq_false_iff_not]; omega
      have hd : decide ((48 : Int) ≤ b.toNat) = false := by simpa using h2
      rw [hv]
      clear hv hb
      go_enter Try.func105, Try.ntmps105
      go_wp2
      go_quiet (fail)
      go_wp2
      go_ret
      exact ⟨rfl, _, rfl⟩
  · have hv : V.isDig (L s) p = false := by simp [V.isDig, L_len, h1]
    have hd : decide ((p : Int) < (s.size : Int)) = false := by simp; omega
    rw [hv]
    clear hv
    go_enter Try.func105, Try.ntmps105
    go_wp2
    go_quiet (fail)
    go_wp2
    go_ret
    exact ⟨rfl, _, rfl⟩

set_option maxHeartbeats 1000000 in
set_option maxRecDepth 100000 in
theorem sdigit_calls (A : Nat) (s : ByteArray) (x : Except Nat Nat) (w : World) (h : ScSt w A s x) :
    Calls Try.prog 97 #[.pointer (some ⟨A, 0, none⟩)] w fun e w' => e = .returned (.int .i64 (xDig (L s) x).1) ∧ ScSt w' A s (xDig (L s) x).2 ∧ Fr [A] w w' := by
  cases x with
  | error q =>
    have HH : Hid (ScSt w A s (.error q)) := h
    obtain ⟨h1, p, h2⟩ := h
    have ca := h2.ca
    clear h2
    go_enter Try.func97, Try.ntmps97
    go_wp2_with fail
    go_ret
    exact ⟨rfl, HH.out, Fr.refl _ _⟩
  | ok p =>
    have hS : ScanAt w A s p (-1) := h
    have HH : Hid (ScanAt w A s p (-1)) := hS
    have ca := hS.ca
    have cp := hS.cp
    have cs := hS.cs
    have fA := hS.fA
    have sz := hS.sz
    have pz := hS.pz
    clear h hS
    cases hd : V.isDig (L s) p with
    | false =>
      have hx : xDig (L s) (.ok p) = (0, .error p) := by simp [xDig, hd]
      rw [hx]
      go_enter Try.func97, Try.ntmps97
      go_wp2_with fail
      refine (sdig_calls A p s (-1) w HH.out).mono ?_
      rw [hd]
      rintro e w4 ⟨rfl, n, rfl⟩
      clear hd hx
      go_wp2_with fail
      go_ret
      exact ⟨rfl, ⟨by omega, p, (HH.out.keep (X := []) ((Fr.refl _ _).drewN n) (by simp)).fault _⟩, ((Fr.refl _ _).drewN _).setCell (by simp) _⟩
    | true =>
      have hx : xDig (L s) (.ok p) = (V.digV (L s) p, .ok (p + 1)) := by simp [xDig, hd]
      rw [hx]
      have hp := isDig_lt hd
      have hpi : (p : Int) < (s.size : Int) := by omega
      obtain ⟨b, hsp⟩ : ∃ b, s[p] = b := ⟨_, rfl⟩
      have hb : (L s).getD p 0 = b := (L_at s p hp).trans hsp
      have hbd : 48 ≤ b.toNat ∧ b.toNat ≤ 57 := by
        simp only [V.isDig, hb, Bool.and_eq_true, decide_eq_true_eq] at hd
        exact hd.2
      have HV : Hid (V.digV (L s) p = (b.toNat : Int) - 48) := by show _ = _; simp only [V.digV, hb]
      have w1 : IntKind.u8.wrap ((b.toNat : Int) - 48) = (b.toNat : Int) - 48 := by rw [IntKind.wrap_u8]; omega
      have w2 : IntKind.i64.wrap ((b.toNat : Int) - 48) = (b.toNat : Int) - 48 := i64w _ (by omega)
      clear hb hx
      go_enter Try.func97, Try.ntmps97
      go_wp2_with fail
      refine (sdig_calls A p s (-1) w HH.out).mono ?_
      rw [hd]
      rintro e w4 ⟨rfl, n, rfl⟩
      clear hd
      go_wp2_with fail
      go_quiet (fail)
      go_wp2
      go_ret
      rw [HV.out]
      refine ⟨rfl, ?_, (((Fr.refl _ _).drewN _).setCell (by simp) _).drewN _⟩
      exact (((HH.out.keep (X := []) ((Fr.refl _ _).drewN n) (by simp)).next hp).keep (X := []) ((Fr.refl _ _).drewN _) (by simp) : ScanAt _ A s (p + 1) (-1))

set_option maxHeartbeats 1000000 in
set_option maxRecDepth 100000 in
theorem snum_calls (A : Nat) (s : ByteArray) (x : Except Nat Nat) (w : World) (h : ScSt w A s x) :
    Calls Try.prog 106 #[.pointer (some ⟨A, 0, none⟩)] w fun e w' => e = .returned (.int .i64 (xNum (L s) x).1) ∧ ScSt w' A s (xNum (L s) x).2 ∧ Fr [A] w w' := by
  have HH : Hid (ScSt w A s x) := h
  clear h
  cases x with
  | error q =>
    have hx : xNum (L s) (.error q) = (0, .error q) := rfl
    rw [hx]
    clear hx
    go_enter Try.func106, Try.ntmps106
    go_wp2_with fail
    refine (sdigit_calls A s (.error q) w HH.out).mono ?_
    rintro e w1 ⟨rfl, h1, f1⟩
    have hx : xDig (L s) (.error q) = (0, .error q) := rfl
    rw [hx] at h1 ⊢
    have H1 : Hid (ScSt w1 A s (.error q)) := h1
    obtain ⟨hq, p, h2⟩ := h1
    have ca := h2.ca
    have F1 : Hid (Fr [A] w w1) := f1
    clear f1 h2 hx
    go_wp2_with fail
    refine wp_loop_rounds 4 ?_
    rw [rounds_succ]
    go_wp2_with fail
    go_ret
    exact ⟨rfl, H1.out, F1.out⟩
  | ok p =>
    cases hd : V.isDig (L s) p with
    | false =>
      have hx : xNum (L s) (.ok p) = (0, .error p) := by simp [xNum, V.pNum, hd]
      have hx1 : xDig (L s) (.ok p) = (0, .error p) := by simp [xDig, hd]
      rw [hx]
      clear hx
      go_enter Try.func106, Try.ntmps106
      go_wp2_with fail
      refine (sdigit_calls A s (.ok p) w HH.out).mono ?_
      rintro e w1 ⟨rfl, h1, f1⟩
      rw [hx1] at h1 ⊢
      have H1 : Hid (ScSt w1 A s (.error p)) := h1
      obtain ⟨hq, p', h2⟩ := h1
      have ca := h2.ca
      have F1 : Hid (Fr [A] w w1) := f1
      clear f1 h2 hx1
      go_wp2_with fail
      refine wp_loop_rounds 4 ?_
      rw [rounds_succ]
      go_wp2_with fail
      go_ret
      exact ⟨rfl, H1.out, F1.out⟩
    | true =>
      obtain ⟨lo0, hi0⟩ := digV_bd hd
      have hx1 : xDig (L s) (.ok p) = (V.digV (L s) p, .ok (p + 1)) := by simp [xDig, hd]
      cases hd1 : V.isDig (L s) (p + 1) with
      | false =>
        have hx : xNum (L s) (.ok p) = (V.digV (L s) p, .ok (p + 1)) := by simp [xNum, V.pNum, hd, hd1]
        rw [hx]
        clear hx
        go_enter Try.func106, Try.ntmps106
        go_wp2_with fail
        refine (sdigit_calls A s (.ok p) w HH.out).mono ?_
        rintro e w1 ⟨rfl, h1, f1⟩
        rw [hx1] at h1 ⊢
        have H1 : Hid (ScanAt w1 A s (p + 1) (-1)) := h1
        have ca := H1.out.ca
        have F1 : Hid (Fr [A] w w1) := f1
        clear f1 h1 hx1
        go_wp2_with fail
        refine wp_loop_rounds 4 ?_
        rw [rounds_succ]
        go_wp2_with fail
        refine (sdig_calls A (p + 1) s (-1) w1 H1.out).mono ?_
        rw [hd1]
        rintro e x1 ⟨rfl, n1, rfl⟩
        go_wp2_with fail
        go_ret
        exact ⟨rfl, (H1.out.keep (X := []) ((Fr.refl _ _).drewN n1) (by simp) : ScanAt _ A s (p + 1) (-1)), F1.out.drewN _⟩
      | true =>
        obtain ⟨lo1, hi1⟩ := digV_bd hd1
        have hx2 : xDig (L s) (.ok (p + 1)) = (V.digV (L s) (p + 1), .ok (p + 1 + 1)) := by simp [xDig, hd1]
        cases hd2 : V.isDig (L s) (p + 2) with
        | false =>
          have hx : xNum (L s) (.ok p) = (V.digV (L s) p * 10 + V.digV (L s) (p + 1), .ok (p + 2)) := by simp [xNum, V.pNum, hd, hd1, hd2]
          rw [hx]
          clear hx
          go_enter Try.func106, Try.ntmps106
          go_wp2_with fail
          refine (sdigit_calls A s (.ok p) w HH.out).mono ?_
          rintro e w1 ⟨rfl, h1, f1⟩
          rw [hx1] at h1 ⊢
          have H1 : Hid (ScanAt w1 A s (p + 1) (-1)) := h1
          have ca := H1.out.ca
          have F1 : Hid (Fr [A] w w1) := f1
          clear f1 h1 hx1
          go_wp2_with fail
          refine wp_loop_rounds 4 ?_
          rw [rounds_succ]
          go_wp2_with fail
          refine (sdig_calls A (p + 1) s (-1) w1 H1.out).mono ?_
          rw [hd1]
          rintro e x1 ⟨rfl, n1, rfl⟩
          go_wp2_with fail
          refine (sdigit_calls A s (.ok (p + 1)) (w1.drewN n1) (H1.out.keep (X := []) ((Fr.refl _ _).drewN n1) (by simp) : ScanAt _ A s (p + 1) (-1))).mono ?_
          rintro e w2 ⟨rfl, h2, f2⟩
          rw [hx2] at h2 ⊢
          have H2 : Hid (ScanAt w2 A s (p + 2) (-1)) := h2
          replace ca := H2.out.ca
          have F2 : Hid (Fr [A] w w2) := (F1.out.drewN _).trans f2 (fun _ _ h => h)
          clear f2 h2 hx2
          have wz : IntKind.i64.wrap (V.digV (L s) p * 10) = V.digV (L s) p * 10 := i64w _ (by omega)
          have wz2 : IntKind.i64.wrap (V.digV (L s) p * 10 + V.digV (L s) (p + 1)) = V.digV (L s) p * 10 + V.digV (L s) (p + 1) := i64w _ (by omega)
          go_wp2_with fail
          rw [rounds_succ]
          go_wp2_with fail
          refine (sdig_calls A (p + 2) s (-1) w2 H2.out).mono ?_
          rw [hd2]
          rintro e x2 ⟨rfl, n2, rfl⟩
          go_wp2_with fail
          go_ret
          exact ⟨rfl, (H2.out.keep (X := []) ((Fr.refl _ _).drewN n2) (by simp) : ScanAt _ A s (p + 2) (-1)), F2.out.drewN _⟩
        | true =>
          obtain ⟨lo2, hi2⟩ := digV_bd hd2
          have hx3 : xDig (L s) (.ok (p + 2)) = (V.digV (L s) (p + 2), .ok (p + 2 + 1)) := by simp [xDig, hd2]
          have hx : xNum (L s) (.ok p) = ((V.digV (L s) p * 10 + V.digV (L s) (p + 1)) * 10 + V.digV (L s) (p + 2), .ok (p + 3)) := by simp [xNum, V.pNum, hd, hd1, hd2]
          rw [hx]
          clear hx
          go_enter Try.func106, Try.ntmps106
          go_wp2_with fail
          refine (sdigit_calls A s (.ok p) w HH.out).mono ?_
          rintro e w1 ⟨rfl, h1, f1⟩
          rw [hx1] at h1 ⊢
          have H1 : Hid (ScanAt w1 A s (p + 1) (-1)) := h1
          have ca := H1.out.ca
          have F1 : Hid (Fr [A] w w1) := f1
          clear f1 h1 hx1
          go_wp2_with fail
          refine wp_loop_rounds 4 ?_
          rw [rounds_succ]
          go_wp2_with fail
          refine (sdig_calls A (p + 1) s (-1) w1 H1.out).mono ?_
          rw [hd1]
          rintro e x1 ⟨rfl, n1, rfl⟩
          go_wp2_with fail
          refine (sdigit_calls A s (.ok (p + 1)) (w1.drewN n1) (H1.out.keep (X := []) ((Fr.refl _ _).drewN n1) (by simp) : ScanAt _ A s (p + 1) (-1))).mono ?_
          rintro e w2 ⟨rfl, h2, f2⟩
          rw [hx2] at h2 ⊢
          have H2 : Hid (ScanAt w2 A s (p + 2) (-1)) := h2
          replace ca := H2.out.ca
          have F2 : Hid (Fr [A] w w2) := (F1.out.drewN _).trans f2 (fun _ _ h => h)
          clear f2 h2 hx2
          have wz : IntKind.i64.wrap (V.digV (L s) p * 10) = V.digV (L s) p * 10 := i64w _ (by omega)
          have wz2 : IntKind.i64.wrap (V.digV (L s) p * 10 + V.digV (L s) (p + 1)) = V.digV (L s) p * 10 + V.digV (L s) (p + 1) := i64w _ (by omega)
          have wz3 : IntKind.i64.wrap ((V.digV (L s) p * 10 + V.digV (L s) (p + 1)) * 10) = (V.digV (L s) p * 10 + V.digV (L s) (p + 1)) * 10 := i64w _ (by omega)
          have wz4 : IntKind.i64.wrap ((V.digV (L s) p * 10 + V.digV (L s) (p + 1)) * 10 + V.digV (L s) (p + 2)) = (V.digV (L s) p * 10 + V.digV (L s) (p + 1)) * 10 + V.digV (L s) (p + 2) := i64w _ (by omega)
          go_wp2_with fail
          rw [rounds_succ]
          go_wp2_with fail
          refine (sdig_calls A (p + 2) s (-1) w2 H2.out).mono ?_
          rw [hd2]
          rintro e x2 ⟨rfl, n2, rfl⟩
          go_wp2_with fail
          refine (sdigit_calls A s (.ok (p + 2)) (w2.drewN n2) (H2.out.keep (X := []) ((Fr.refl _ _).drewN n2) (by simp) : ScanAt _ A s (p + 2) (-1))).mono ?_
          rintro e w3 ⟨rfl, h3, f3⟩
          rw [hx3] at h3 ⊢
          have H3 : Hid (ScanAt w3 A s (p + 3) (-1)) := h3
          have F3 : Hid (Fr [A] w w3) := (F2.out.drewN _).trans f3 (fun _ _ h => h)
          clear f3 h3 hx3 ca
          go_wp2_with fail
          rw [rounds_succ]
          go_wp2_with fail
          go_ret
          exact ⟨rfl, (H3.out : ScanAt _ A s (p + 3) (-1)), F3.out⟩

set_option maxHeartbeats 1000000 in
set_option maxRecDepth 100000 in
theorem smust_calls (A : Nat) (s : ByteArray) (x : Except Nat Nat) (w : World) (h : ScSt w A s x) :
    Calls Try.prog 99 #[.pointer (some ⟨A, 0, none⟩), .int .u8 59] w fun e w' => e = .returned (.tuple #[]) ∧ ScSt w' A s (xMust (L s) x) ∧ Fr [A] w w' := by
  cases x with
  | error q =>
    have HH : Hid (ScSt w A s (.error q)) := h
    obtain ⟨h1, p, h2⟩ := h
    have ca := h2.ca
    clear h2
    go_enter Try.func99, Try.ntmps99
    go_wp2_with fail
    exact bodyPost_ret (v := .tuple #[]) (by simp [results, Try.results99, go_sem]) rfl ⟨rfl, HH.out, Fr.refl _ _⟩
  | ok p =>
    have hS : ScanAt w A s p (-1) := h
    have HH : Hid (ScanAt w A s p (-1)) := hS
    obtain ⟨cs, cp, ca, fA, sz, pz⟩ := hS
    clear h
    by_cases hp : p < s.size
    · have hpi : (p : Int) < (s.size : Int) := by omega
      have hpd : decide ((s.size : Int) ≤ (p : Int)) = false := by simp; omega
      by_cases h59 : (L s).getD p 0 = 59
      · have hx : xMust (L s) (.ok p) = .ok (p + 1) := by simp only [xMust, V.pMust, L_len, hp, h59, decide_true, Bool.true_and, beq_self_eq_true, if_true]
        rw [hx]
        have hsp : s[p] = 59 := (L_at s p hp).symm.trans h59
        clear hx h59
        go_enter Try.func99, Try.ntmps99
        go_wp2
        go_quiet (fail)
        go_wp2
        go_end0
        exact ⟨rfl, ((HH.out.keep (X := []) ((Fr.refl _ _).drewN _) (by simp)).next hp : ScanAt _ A s (p + 1) (-1)), ((Fr.refl _ _).drewN _).setCell (by simp) _⟩
      · have hx : xMust (L s) (.ok p) = .error p := by simp only [xMust, V.pMust, L_len, hp, h59, decide_true, Bool.true_and, beq_iff_eq, if_false]
        rw [hx]
        obtain ⟨b, hsp⟩ : ∃ b, s[p] = b := ⟨_, rfl⟩
        rw [(L_at s p hp).trans hsp] at h59
        have hb1 : ((b.toNat : Int) != 59) = true := by
          simp only [bne_iff_ne, ne_eq]
          intro h9
          exact h59 (UInt8.toNat_inj.1 (by have : (59 : UInt8).toNat = 59 := rfl; omega))
        clear hx h59
        go_enter Try.func99, Try.ntmps99
        go_wp2
        go_quiet (fail)
        go_wp2
        exact bodyPost_ret (v := .tuple #[]) (by simp [results, Try.results99, go_sem]) rfl ⟨rfl, ⟨by omega, p, (HH.out.keep (X := []) ((Fr.refl _ _).drewN _) (by simp)).fault _⟩, ((Fr.refl _ _).drewN _).setCell (by simp) _⟩
    · have hx : xMust (L s) (.ok p) = .error p := by simp only [xMust, V.pMust, L_len, hp, decide_false, Bool.false_and, if_false]; rfl
      rw [hx]
      have hpi : (s.size : Int) ≤ (p : Int) := by omega
      clear hx
      go_enter Try.func99, Try.ntmps99
      go_wp2
      go_quiet (fail)
      go_wp2
      exact bodyPost_ret (v := .tuple #[]) (by simp [results, Try.results99, go_sem]) rfl ⟨rfl, ⟨by omega, p, (HH.out.keep (X := []) ((Fr.refl _ _).drewN _) (by simp)).fault _⟩, ((Fr.refl _ _).drewN _).setCell (by simp) _⟩

set_option maxHeartbeats 1000000 in
set_option maxRecDepth 100000 in
theorem smove_calls (A : Nat) (s : ByteArray) (x : Except Nat Nat) (w : World) (h : ScSt w A s x) :
    Calls Try.prog 98 #[.pointer (some ⟨A, 0, none⟩)] w fun e w' => e = .returned (.agg #[.int .i64 (xMove (L s) x).1.f, .int .i64 (xMove (L s) x).1.t, .int .i64 (xMove (L s) x).1.a]) ∧ ScSt w' A s (xMove (L s) x).2 ∧ Fr [A] w w' := by
  have HH : Hid (ScSt w A s x) := h
  have lA := h.lA
  clear h
  unfold xMove
  dsimp only
  go_enter Try.func98, Try.ntmps98
  go_wp2_with fail
  refine (sdigit_calls A s x _ (HH.out.keep (X := []) ((Fr.refl _ _).alloc _) (by simp))).mono ?_
  rintro e w1 ⟨rfl, h1, f1⟩
  have nP : w.heap.size ∉ [A] := by simp; omega
  have k0 := f1.cellv (b := w.heap.size) (o := 0) (v := .int .i64 0) (by simp [go_sem]) nP
  have k1 := f1.cellv (b := w.heap.size) (o := 1) (v := .int .i64 0) (by simp [go_sem]) nP
  have k2 := f1.cellv (b := w.heap.size) (o := 2) (v := .int .i64 0) (by simp [go_sem]) nP
  have z0 : ∀ o, w1.frozen? ⟨w.heap.size, o, none⟩ = false := fun o => f1.frozenv (b := w.heap.size) (o := o) (by simp [go_sem]) (by simp) nP
  have H1 : Hid (ScSt w1 A s (xDig (L s) x).2) := h1
  have F1 : Hid (Fr [A] w w1) := ((Fr.refl _ _).alloc _).trans f1 (fun _ _ h => h)
  clear h1 f1
  generalize hr1 : xDig (L s) x = r1 at *
  have E1 : Hid (xDig (L s) x = r1) := hr1
  clear hr1
  go_wp2_with fail
  refine (sdigit_calls A s r1.2 w1 H1.out).mono ?_
  rintro e w2 ⟨rfl, h2, f2⟩
  have l0 := lt_of_cell k0
  replace z0 := fun o => f2.frozenv (z0 o) l0 nP
  replace k0 := f2.cellv k0 nP
  replace k1 := f2.cellv k1 nP
  replace k2 := f2.cellv k2 nP
  have H2 : Hid (ScSt w2 A s (xDig (L s) r1.2).2) := h2
  have F2 : Hid (Fr [A] w w2) := F1.out.trans f2 (fun _ _ h => h)
  clear h2 f2 l0
  generalize hr2 : xDig (L s) r1.2 = r2 at *
  have E2 : Hid (xDig (L s) r1.2 = r2) := hr2
  clear hr2
  go_wp2_with fail
  refine (snum_calls A s r2.2 w2 H2.out).mono ?_
  rintro e w3 ⟨rfl, h3, f3⟩
  have l0 := lt_of_cell k0
  replace z0 := fun o => f3.frozenv (z0 o) l0 nP
  replace k0 := f3.cellv k0 nP
  replace k1 := f3.cellv k1 nP
  replace k2 := f3.cellv k2 nP
  have H3 : Hid (ScSt w3 A s (xNum (L s) r2.2).2) := h3
  have F3 : Hid (Fr [A] w w3) := F2.out.trans f3 (fun _ _ h => h)
  clear h3 f3 l0
  generalize hr3 : xNum (L s) r2.2 = r3 at *
  have E3 : Hid (xNum (L s) r2.2 = r3) := hr3
  clear hr3
  go_wp2_with fail
  refine bodyPost_ret (v := .agg #[.int .i64 r1.1, .int .i64 r2.1, .int .i64 r3.1]) (by simp [results, Try.results98, go_sem, cell_set, k0, k1, k2]) rfl ⟨by rw [E1.out, E2.out, E3.out], ?_, ?_⟩
  · rw [E1.out, E2.out, E3.out]
    exact H3.out.keep (X := [w.heap.size]) ((((Fr.refl _ _).setCell (by simp) _).setCell (by simp) _).setCell (by simp) _) (by simp; omega)
  · exact ((F3.out.setCell (fun h => absurd h (by simp)) _).setCell (fun h => absurd h (by simp)) _).setCell (fun h => absurd h (by simp)) _

end Go.Proofs.Qxb6500360a
