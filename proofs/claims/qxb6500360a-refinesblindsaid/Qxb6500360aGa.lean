/-
  L3: the real gate: its parts.
-/
import Derived.Test.Qxb6500360aDe
import Derived.Test.Qxb6500360aB2
import Derived.Test.Qxb6500360aCf
import Derived.Test.Qxb6500360aRc
import Derived.Laws.Panics
namespace Go.Proofs.Qxb6500360a
open Go.RowKit
set_option linter.unusedSimpArgs false
set_option linter.unusedVariables false

/-- The gate's own block G: the ledger's address, four counters. -/
structure CtAt (w : World) (G D : Nat) (c : V.Ct) : Prop where
  c0 : w.cell? ⟨G, 0, none⟩ = some (.pointer (some ⟨D, 0, none⟩))
  c1 : w.cell? ⟨G, 1, none⟩ = some (.int .i64 c.ok)
  c2 : w.cell? ⟨G, 2, none⟩ = some (.int .i64 c.bad)
  c3 : w.cell? ⟨G, 3, none⟩ = some (.int .i64 c.er)
  c4 : w.cell? ⟨G, 4, none⟩ = some (.int .i64 c.it)
  f : ∀ o, w.frozen? ⟨G, o, none⟩ = false
  wf : c.Wf
theorem CtAt.lG {w : World} {G D : Nat} {c : V.Ct} (h : CtAt w G D c) : G < w.heap.size := lt_of_cell h.c0
theorem CtAt.keep {w w' : World} {G D : Nat} {c : V.Ct} (h : CtAt w G D c) {X : List Nat} (hf : Fr X w w') (hn : G ∉ X) : CtAt w' G D c :=
  ⟨hf.cellv h.c0 hn, hf.cellv h.c1 hn, hf.cellv h.c2 hn, hf.cellv h.c3 hn, hf.cellv h.c4 hn, fun o => (hf.frozen h.lG hn o).trans (h.f o), h.wf⟩

set_option maxHeartbeats 1000000 in
set_option maxRecDepth 100000 in
theorem count_calls (G D : Nat) (e : Int) (c : V.Ct) (w : World) (h : CtAt w G D c) :
    Calls Try.prog 30 #[.pointer (some ⟨G, 0, none⟩), .int .i64 e] w fun x w' => x = .returned (.tuple #[]) ∧ CtAt w' G D (c.count e) ∧ Fr [G] w w' := by
  have HH : Hid (CtAt w G D c) := h
  obtain ⟨c0, c1, c2, c3, c4, f, ⟨wa, wb, wc, wd⟩⟩ := h
  obtain ⟨a1, a2⟩ := wa
  obtain ⟨b1, b2⟩ := wb
  obtain ⟨d1, d2⟩ := wc
  obtain ⟨e1, e2⟩ := wd
  by_cases h0 : e = 0
  · subst h0
    go_enter Try.func30, Try.ntmps30
    go_wp2_with (go_at_call 51; refine calls_same (bump_calls _ _ a1 a2) ?_)
    go_end0
    have hc : c.count 0 = { c with ok := V.bump c.ok } := by simp [V.Ct.count]
    rw [hc]
    exact ⟨rfl, ⟨by simp [cell_set, c0], by simp [cell_set, c1], by simp [cell_set, c2], by simp [cell_set, c3], by simp [cell_set, c4], fun o => by simp [f], ⟨bump_bd ⟨a1, a2⟩, ⟨b1, b2⟩, ⟨d1, d2⟩, ⟨e1, e2⟩⟩⟩, (Fr.refl _ _).setCell (by simp) _⟩
  · by_cases h1 : e = 1 ∨ e = 8
    · have hc : c.count e = { c with bad := V.bump c.bad } := by simp only [V.Ct.count, if_neg h0, if_pos h1]
      rw [hc]
      have n0 : (e == 0) = false := by simpa using h0
      rcases h1 with rfl | rfl
      all_goals
        clear hc
        go_enter Try.func30, Try.ntmps30
        go_wp2_with (go_at_call 51; refine calls_same (bump_calls _ _ b1 b2) ?_)
        go_end0
        exact ⟨rfl, ⟨by simp [cell_set, c0], by simp [cell_set, c1], by simp [cell_set, c2], by simp [cell_set, c3], by simp [cell_set, c4], fun o => by simp [f], ⟨⟨a1, a2⟩, bump_bd ⟨b1, b2⟩, ⟨d1, d2⟩, ⟨e1, e2⟩⟩⟩, (Fr.refl _ _).setCell (by simp) _⟩
    · by_cases h9 : e = 9
      · subst h9
        have hc : c.count 9 = { c with it := V.bump c.it } := by simp [V.Ct.count]
        rw [hc]
        clear hc
        go_enter Try.func30, Try.ntmps30
        go_wp2_with (go_at_call 51; refine calls_same (bump_calls _ _ e1 e2) ?_)
        go_end0
        exact ⟨rfl, ⟨by simp [cell_set, c0], by simp [cell_set, c1], by simp [cell_set, c2], by simp [cell_set, c3], by simp [cell_set, c4], fun o => by simp [f], ⟨⟨a1, a2⟩, ⟨b1, b2⟩, ⟨d1, d2⟩, bump_bd ⟨e1, e2⟩⟩⟩, (Fr.refl _ _).setCell (by simp) _⟩
      · have hc : c.count e = { c with er := V.bump c.er } := by simp only [V.Ct.count, if_neg h0, if_neg h1, if_neg h9]
        rw [hc]
        have n0 : (e == 0) = false := by simpa using h0
        have n1 : (e == 1) = false := by simp; intro h; exact h1 (.inl h)
        have n8 : (e == 8) = false := by simp; intro h; exact h1 (.inr h)
        have n9 : (e == 9) = false := by simpa using h9
        clear hc h0 h1 h9
        go_enter Try.func30, Try.ntmps30
        go_wp2_with (go_at_call 51; refine calls_same (bump_calls _ _ d1 d2) ?_)
        go_end0
        exact ⟨rfl, ⟨by simp [cell_set, c0], by simp [cell_set, c1], by simp [cell_set, c2], by simp [cell_set, c3], by simp [cell_set, c4], fun o => by simp [f], ⟨⟨a1, a2⟩, ⟨b1, b2⟩, bump_bd ⟨d1, d2⟩, ⟨e1, e2⟩⟩⟩, (Fr.refl _ _).setCell (by simp) _⟩

set_option maxHeartbeats 1000000 in
set_option maxRecDepth 100000 in
theorem count_deferred (P E G D : Nat) (e : Int) (c : V.Ct) (w : World) (h : CtAt w G D c) (cp : w.cell? ⟨P, 0, none⟩ = some (.pointer (some ⟨G, 0, none⟩))) (ce : w.cell? ⟨E, 0, none⟩ = some (.int .i64 e)) :
    ∀ u, CallsD Try.prog 29 #[.pointer (some ⟨P, 0, none⟩), .pointer (some ⟨E, 0, none⟩)] u w fun x u' w' => u' = u ∧ x = .returned (.tuple #[]) ∧ CtAt w' G D (c.count e) ∧ Fr [G] w w' := by
  intro u
  go_enter_d Try.func29, Try.ntmps29
  go_wp2_with fail
  refine (count_calls G D e c w h).mono ?_
  rintro x w1 ⟨rfl, h1, f1⟩
  have H1 : Hid (CtAt w1 G D (c.count e)) := h1
  have F1 : Hid (Fr [G] w w1) := f1
  clear h h1 f1 cp ce
  go_wp2_with fail
  go_end0
  exact ⟨rfl, H1.out, F1.out⟩

/-! ### the rescue -/
theorem ta53_yes (v : Value) (W : World) : (Instr.typeAssert (.iface 53 v) 20 53 true).run Try.prog W = .ok (.tuple #[v, .bool true]) W := by
  simp [Instr.typeAssert, run_underlying Try.underlying53]
theorem zero53 (W : World) : (zeroValue 53).run Try.prog W = .ok (.agg #[.int .i64 0]) W := by
  obtain ⟨i, hi, hz, _, _⟩ := info_of (t := 53) (z := .agg #[.int .i64 0]) (n := 1) (b := 8) (by kernel_rfl)
  simp [zeroValue, typeInfo, hi, hz]
theorem ta53_no (t : TypeId) (v : Value) (ht : ¬ t = 53) (W : World) : (Instr.typeAssert (.iface t v) 20 53 true).run Try.prog W = .ok (.tuple #[.agg #[.int .i64 0], .bool false]) W := by
  simp [Instr.typeAssert, run_underlying Try.underlying53, ht, zero53]

set_option maxHeartbeats 1000000 in
set_option maxRecDepth 100000 in
theorem rescue_idle (A E : Nat) (w : World) :
    CallsD Try.prog 31 #[.pointer (some ⟨A, 0, none⟩), .pointer (some ⟨E, 0, none⟩)] .returning w fun e u' w' => u' = .returning ∧ e = .returned (.tuple #[]) ∧ w' = w := by
  refine callsD_rec2 recAt_idle Try.func31 (by simp [Try.ntmps31]) rfl ?_
  simp only [Try.ntmps31, List.size_toArray, List.length_cons, List.length_nil, Nat.reduceAdd, Nat.reduceSub, Array.replicate_succ, Array.replicate_zero, List.push_toArray, List.append_toArray, List.nil_append, List.cons_append, List.setIfInBounds_toArray, List.set_cons_succ, List.set_cons_zero]
  go_wp2
  go_end0
  exact ⟨rfl, rfl⟩

set_option maxHeartbeats 1000000 in
set_option maxRecDepth 100000 in
theorem rescue_syntax (A E q : Nat) (a0 : ByteArray) (y : Int) (older : List PanicEntry) (w : World) (ca : w.cell? ⟨A, 0, none⟩ = some (.string a0)) (ce : w.cell? ⟨E, 0, none⟩ = some (.int .i64 y))
    (fa : w.frozen? ⟨A, 0, none⟩ = false) (fe : w.frozen? ⟨E, 0, none⟩ = false) (hne : ¬ A = E) (hq : q ≤ 20) :
    CallsD Try.prog 31 #[.pointer (some ⟨A, 0, none⟩), .pointer (some ⟨E, 0, none⟩)] (.panicking ({ v := .iface 53 (.agg #[.int .i64 q]), recovered := false } :: older)) w
      fun e u' w' => u' = .panicking ({ v := .iface 53 (.agg #[.int .i64 q]), recovered := true } :: older) ∧ e = .returned (.tuple #[]) ∧
        w'.cell? ⟨A, 0, none⟩ = some (S ([64] ++ V.itoa q)) ∧ w'.cell? ⟨E, 0, none⟩ = some (.int .i64 8) ∧ Fr [A, E] w w' := by
  have lA := lt_of_cell ca
  have lE := lt_of_cell ce
  have hne2 : ¬ E = A := fun h => hne h.symm
  refine callsD_rec2 (recAt_panic _ _) Try.func31 (by simp [Try.ntmps31]) rfl ?_
  simp only [Try.ntmps31, List.size_toArray, List.length_cons, List.length_nil, Nat.reduceAdd, Nat.reduceSub, Array.replicate_succ, Array.replicate_zero, List.push_toArray, List.append_toArray, List.nil_append, List.cons_append, List.setIfInBounds_toArray, List.set_cons_succ, List.set_cons_zero]
  have hta := ta53_yes
  go_wp2_with fail
  refine (itoa_calls q _ (by omega) (by omega)).mono ?_
  rintro x w1 ⟨rfl, h1⟩
  have hf : Fr [] w w1 := ((Fr.refl _ _).alloc _).trans h1 (by simp)
  have ca1 := hf.cellv ca (by simp)
  have ce1 := hf.cellv ce (by simp)
  have fa1 : w1.frozen? ⟨A, 0, none⟩ = false := (hf.frozen lA (by simp) 0).trans fa
  have fe1 : w1.frozen? ⟨E, 0, none⟩ = false := (hf.frozen lE (by simp) 0).trans fe
  have hadd : ∀ W, (binOp .add 9 (.string ⟨#[64]⟩) (S (V.itoa q))).run Try.prog W = .ok (.string ⟨([64] ++ V.itoa q).toArray⟩) W := fun W => run_addS [64] _ W (by have := itoa_len q; simp; omega)
  have HF : Hid (Fr [] w w1) := hf
  clear hf h1 ca ce fa fe lA lE
  go_wp2_with fail
  go_end0
  exact ⟨rfl, by simp [cell_set, ca1, ce1, hne, hne2]; rfl, by simp [cell_set, ca1, ce1, hne, hne2], ((HF.out.mono (by simp)).setCell (by simp) _).setCell (by simp) _⟩

set_option maxHeartbeats 1000000 in
set_option maxRecDepth 100000 in
theorem rescue_other (A E : Nat) (t : TypeId) (x : Value) (ht : ¬ t = 53) (a0 : ByteArray) (y : Int) (older : List PanicEntry) (w : World) (ca : w.cell? ⟨A, 0, none⟩ = some (.string a0)) (ce : w.cell? ⟨E, 0, none⟩ = some (.int .i64 y))
    (fa : w.frozen? ⟨A, 0, none⟩ = false) (fe : w.frozen? ⟨E, 0, none⟩ = false) (hne : ¬ A = E) :
    CallsD Try.prog 31 #[.pointer (some ⟨A, 0, none⟩), .pointer (some ⟨E, 0, none⟩)] (.panicking ({ v := .iface t x, recovered := false } :: older)) w
      fun e u' w' => u' = .panicking ({ v := .iface t x, recovered := true } :: older) ∧ e = .returned (.tuple #[]) ∧
        w'.cell? ⟨A, 0, none⟩ = some (S []) ∧ w'.cell? ⟨E, 0, none⟩ = some (.int .i64 9) ∧ Fr [A, E] w w' := by
  have hne2 : ¬ E = A := fun h => hne h.symm
  refine callsD_rec2 (recAt_panic _ _) Try.func31 (by simp [Try.ntmps31]) rfl ?_
  simp only [Try.ntmps31, List.size_toArray, List.length_cons, List.length_nil, Nat.reduceAdd, Nat.reduceSub, Array.replicate_succ, Array.replicate_zero, List.push_toArray, List.append_toArray, List.nil_append, List.cons_append, List.setIfInBounds_toArray, List.set_cons_succ, List.set_cons_zero]
  have hta := ta53_no t x ht
  go_wp2_with fail
  go_end0
  exact ⟨rfl, by simp [cell_set, ca, ce, hne, hne2]; rfl, by simp [cell_set, ca, ce, hne, hne2], ((Fr.refl _ _).setCell (by simp) _).setCell (by simp) _⟩

/-! ### name and shape -/
set_option maxHeartbeats 1000000 in
set_option maxRecDepth 100000 in
theorem name_calls (k : Int) (w : World) (h0 : 0 ≤ k) (h1 : k < 4) :
    Calls Try.prog 59 #[.int .i64 k] w fun e w' => e = .returned (S (V.name k)) ∧ Fr [] w w' := by
  obtain rfl | rfl | rfl | rfl : k = 0 ∨ k = 1 ∨ k = 2 ∨ k = 3 := by omega
  all_goals
    go_enter Try.func59, Try.ntmps59
    go_wp2_with fail
    go_ret
    exact ⟨rfl, (Fr.refl _ _).alloc _⟩
theorem bounds_run {α : Type} (k : IntKind) (x y : Int) (code : BoundsCode) (w : World) :
    ∃ s w', (boundsPanic k x y code : Sem α).run Try.prog w = .halt (.panic (boundsValue Try.prog (IntKind.i64.wrap x) y s code.toNat)) w' ∧ Fr [] w w' := by
  unfold boundsPanic boundsValue
  split
  · exact ⟨_, _, by simp [runtimePanic, goPanic, go_sem]; rfl, (Fr.refl _ _).drew⟩
  · exact ⟨_, _, by simp [runtimePanic, goPanic, go_sem]; rfl, Fr.refl _ _⟩
set_option maxHeartbeats 1000000 in
set_option maxRecDepth 100000 in
theorem name_panics (k : Int) (w : World) (h0 : 4 ≤ k) (h1 : k < 10) :
    Calls Try.prog 59 #[.int .i64 k] w fun e w' => (∃ t x older, e = .panicked ({ v := .iface t x, recovered := false } :: older) ∧ ¬ t = 53 ∧ ∀ p ∈ older, p.goexit = false) ∧ Fr [] w w' := by
  go_enter Try.func59, Try.ntmps59
  go_wp2_with fail
  obtain ⟨s, w1, hr, hf⟩ := bounds_run (α := Value) .i64 k 4 .index (w.alloc (Obj.cells #[.string ⟨#[97, 110, 110]⟩, .string ⟨#[98, 111, 98]⟩, .string ⟨#[99, 121, 100]⟩, .string ⟨#[100, 101, 101]⟩] 115))
  rw [hr]
  clear hr
  unfold boundsValue
  generalize hrt : Try.prog.rt.boundsError = tb
  have h53 : ¬ tb = 53 := by rw [← hrt]; decide
  clear hrt
  simp only [Result.andThen, Oper.upon]
  have HF : Hid (Fr [] w w1) := ((Fr.refl _ _).alloc _).trans hf (by simp)
  clear hf
  go_wp2_with fail
  exact ⟨rfl, ⟨tb, _, [], rfl, h53, by simp⟩, HF.out⟩

set_option maxHeartbeats 1000000 in
set_option maxRecDepth 100000 in
theorem shape_calls (v : UInt8) (n e : Int) (w : World) (h0 : 0 ≤ n) (h1 : n < 10000) :
    Calls Try.prog 63 #[.int .u8 v.toNat, .int .i64 n, .int .i64 e] w fun x w' => x = .returned (.tuple #[S (V.shape v n e).1, .int .i64 (V.shape v n e).2]) ∧ Fr [] w w' := by
  have hadd : ∀ W, (binOp .add 9 (.string ⟨#[35]⟩) (S (V.itoa n))).run Try.prog W = .ok (S ([35] ++ V.itoa n)) W := fun W => run_addS [35] _ W (by have := itoa_len n; simp; omega)
  have hlt := v.toNat_lt
  by_cases he : e = 0
  · subst he
    have hs : V.shape v n 0 = (V.itoa n, 0) := by simp [V.shape]
    rw [hs]
    by_cases hv : v = 88
    · subst hv
      go_enter Try.func63, Try.ntmps63
      go_wp2_with (go_at_call 32; refine (itoa_calls n _ (by omega) (by omega)).mono ?_)
      rintro x w1 ⟨rfl, h1⟩
      go_wp2_with fail
      go_ret2
      exact ⟨rfl, h1⟩
    · have hv' : ¬ (v.toNat : Int) = 88 := fun h => hv (UInt8.toNat_inj.mp (by simpa using Int.ofNat.inj h))
      go_enter Try.func63, Try.ntmps63
      go_wp2_with (go_at_call 32; refine (itoa_calls n _ (by omega) (by omega)).mono ?_)
      rintro x w1 ⟨rfl, h1⟩
      go_wp2_with fail
      go_ret2
      exact ⟨rfl, h1⟩
  · by_cases hv : v = 88
    · subst hv
      have hs : V.shape 88 n e = ([35] ++ V.itoa n, e) := by simp [V.shape, he]
      rw [hs]
      go_enter Try.func63, Try.ntmps63
      go_wp2_with (go_at_call 32; refine (itoa_calls n _ (by omega) (by omega)).mono ?_)
      rintro x w1 ⟨rfl, h1⟩
      go_wp2_with fail
      go_ret2
      exact ⟨rfl, h1⟩
    · have hv' : ¬ (v.toNat : Int) = 88 := fun h => hv (UInt8.toNat_inj.mp (by simpa using Int.ofNat.inj h))
      have hs : V.shape v n e = ([], e) := by simp [V.shape, he, hv]
      rw [hs]
      go_enter Try.func63, Try.ntmps63
      go_wp2_with fail
      go_ret2
      exact ⟨rfl, Fr.refl _ _⟩

end Go.Proofs.Qxb6500360a
