/-
  Show, and the law Facts' own small helpers.
-/
import Derived.Test.Qxb6500360aGd
namespace Go.Proofs.Qxb6500360a
open Go.RowKit
set_option linter.unusedSimpArgs false
set_option linter.unusedVariables false

def shB (d : V.Ld) (k : Nat) : List UInt8 := [98, 97, 108, 61] ++ (List.range k).flatMap (fun k => V.itoa (V.bl d.bal k) ++ [44])
theorem shB_len (d : V.Ld) (k : Nat) : (shB d k).length ≤ 4 + 5 * k := by
  unfold shB
  induction k with
  | zero => simp
  | succ k ih =>
    have := itoa_len (V.bl d.bal k)
    simp only [List.range_succ, List.flatMap_append, List.length_append, List.flatMap_cons, List.flatMap_nil, List.append_nil, List.length_cons, List.length_nil] at ih ⊢
    omega
theorem shB_succ (d : V.Ld) (k : Nat) : shB d (k + 1) = shB d k ++ V.itoa (V.bl d.bal k) ++ [44] := by
  simp [shB, List.range_succ, List.flatMap_append]
theorem shG_show (t : V.Tb) : (t.show).length ≤ 100 + t.tr.length := by
  have := shG_len t 4
  have e : t.show = shG t 4 ++ [32, 116, 114, 97, 99, 101, 61] ++ t.tr := by simp [V.Tb.show, shG, shO]
  rw [e]
  simp
  omega

theorem add_ex (a b : List UInt8) (h : a.length + b.length < 1000000) : ∃ x, x = a ++ b ∧ ∀ W, (binOp .add 9 (S a) (S b)).run Try.prog W = .ok (S x) W :=
  ⟨_, rfl, fun W => run_addS a b W h⟩

set_option maxHeartbeats 1000000 in
set_option maxRecDepth 100000 in
theorem dshow_calls (D T C R B L : Nat) (d : V.Ld) (w : World) (h : LdAt w D T C R B L d) :
    Calls Try.prog 48 #[.pointer (some ⟨D, 0, none⟩)] w fun e w' => e = .returned (S d.show) ∧ Fr [] w w' := by
  have HH : Hid (LdAt w D T C R B L d) := h
  have d1 := h.bk.d1
  clear h
  go_enter Try.func48, Try.ntmps48
  go_wp2_with fail
  go_loopw [3, 11] (fun s i w' => ∃ k : Nat, k ≤ 4 ∧ i = .int .i64 k ∧ s = S (shB d k) ∧ Fr [] w w') (fun _ i _ => 4 - (intOf i).toNat)
  case atStart => exact ⟨0, by omega, rfl, by simp [shB]; rfl, Fr.refl _ _⟩
  case round =>
    obtain ⟨k, hk, rfl, rfl, hf⟩ := hrel
    have hD := HH.out.keep hf (by simp)
    have HF : Hid (Fr [] w wr) := hf
    have HD : Hid (LdAt wr D T C R B L d) := hD
    have hlg := shB_len d k
    by_cases hlt : k < 4
    · have cb := hD.bk.cb k hlt
      obtain ⟨bb0, bb1⟩ := hD.bk.bb k hlt
      have hil := itoa_len (V.bl d.bal k)
      have ha : ∀ W, (binOp .add 9 (S (shB d k)) (S (V.itoa (V.bl d.bal k)))).run Try.prog W = .ok (S (shB d k ++ V.itoa (V.bl d.bal k))) W := fun W => run_addS _ _ W (by omega)
      have ha2 : ∀ W, (binOp .add 9 (S (shB d k ++ V.itoa (V.bl d.bal k))) (.string ⟨#[44]⟩)).run Try.prog W = .ok (S (shB d k ++ V.itoa (V.bl d.bal k) ++ [44])) W := fun W => run_addS _ [44] W (by simp; omega)
      have HS : Hid (shB d (k + 1) = shB d k ++ V.itoa (V.bl d.bal k) ++ [44]) := shB_succ d k
      clear hf hD d1
      go_wp2_with fail
      refine (itoa_calls (V.bl d.bal k) wr bb0 (by omega)).mono ?_
      rintro e w2 ⟨rfl, hf2⟩
      have HF2 : Hid (Fr [] w w2) := HF.out.trans hf2 (fun _ _ h => h)
      clear hf2
      go_wp2_with fail
      exact ⟨⟨k + 1, by omega, by simp, by rw [HS.out]; simp, HF2.out⟩, by simp [intOf]; omega⟩
    · have hk4 : k = 4 := by omega
      subst hk4
      have c3 := hD.bk.d3
      have c0 := hD.bk.d0
      obtain ⟨u0, u1⟩ := hD.bk.ub
      have hil := itoa_len d.und
      have hts := shG_show d.t
      have htr := hD.tb.wf.tr
      obtain ⟨x1, e1, ha1⟩ := add_ex (shB d 4) [32, 117, 110, 100, 111, 110, 101, 61] (by simp; omega)
      obtain ⟨x2, e2, ha2⟩ := add_ex x1 (V.itoa d.und) (by rw [e1]; simp; omega)
      obtain ⟨x3, e3, ha3⟩ := add_ex x2 [32, 124, 32] (by rw [e2, e1]; simp; omega)
      obtain ⟨x4, e4, ha4⟩ := add_ex x3 d.t.show (by rw [e3, e2, e1]; simp; omega)
      have HE : Hid (x4 = shB d 4 ++ [32, 117, 110, 100, 111, 110, 101, 61] ++ V.itoa d.und ++ [32, 124, 32] ++ d.t.show) := by show _ = _; rw [e4, e3, e2, e1]
      clear e1 e2 e3 e4
      change ∀ W, (binOp .add 9 (S (shB d 4)) (.string ⟨#[32, 117, 110, 100, 111, 110, 101, 61]⟩)).run Try.prog W = .ok (S x1) W at ha1
      change ∀ W, (binOp .add 9 (S x2) (.string ⟨#[32, 124, 32]⟩)).run Try.prog W = .ok (S x3) W at ha3
      clear hf hD d1
      go_wp2_with fail
      refine (itoa_calls d.und wr u0 (by omega)).mono ?_
      rintro e w2 ⟨rfl, hf2⟩
      have c0' := hf2.cellv c0 (by simp)
      have HF2 : Hid (Fr [] wr w2) := hf2
      clear hf2 c0
      go_wp2_with fail
      refine (lshow_calls T C R d.t w2 (HD.out.keep HF2.out (by simp)).tb).mono ?_
      rintro e w3 ⟨rfl, hf3⟩
      have HF3 : Hid (Fr [] w w3) := (HF.out.trans HF2.out (by simp)).trans hf3 (by simp)
      clear hf3
      go_wp2_with fail
      go_ret
      exact ⟨S_congr (by rw [HE.out]; simp [V.Ld.show, shB]), HF3.out⟩

theorem shB_show (d : V.Ld) (h : d.t.tr.length ≤ 24) : (d.show).length ≤ 200 := by
  have h1 := shB_len d 4
  have h2 := itoa_len d.und
  have h3 := shG_show d.t
  have e : d.show = shB d 4 ++ [32, 117, 110, 100, 111, 110, 101, 61] ++ V.itoa d.und ++ [32, 124, 32] ++ d.t.show := by simp [V.Ld.show, shB]
  rw [e]
  simp
  omega

set_option maxHeartbeats 1000000 in
set_option maxRecDepth 100000 in
theorem gshow_calls (G D T C R B L : Nat) (g : V.Gt) (w : World) (h : GtAt w G D T C R B L g) :
    Calls Try.prog 23 #[.pointer (some ⟨G, 0, none⟩)] w fun e w' => e = .returned (S g.show) ∧ Fr [] w w' := by
  have HH : Hid (GtAt w G D T C R B L g) := h
  obtain ⟨⟨c0, c1, c2, c3, c4, cf, ⟨wa, wb, wc, wd⟩⟩, hl, hn⟩ := h
  have hlen : (g.d.show).length ≤ 200 := shB_show g.d (by have := hl.tb.wf.tr; omega)
  have i1 := itoa_len g.c.ok
  have i2 := itoa_len g.c.bad
  have i3 := itoa_len g.c.er
  have i4 := itoa_len g.c.it
  obtain ⟨x1, e1, h1⟩ := add_ex [111, 107, 61] (V.itoa g.c.ok) (by simp; omega)
  obtain ⟨x2, e2, h2⟩ := add_ex x1 [32, 98, 97, 100, 61] (by rw [e1]; simp; omega)
  obtain ⟨x3, e3, h3⟩ := add_ex x2 (V.itoa g.c.bad) (by rw [e2, e1]; simp; omega)
  obtain ⟨x4, e4, h4⟩ := add_ex x3 [32, 101, 114, 114, 61] (by rw [e3, e2, e1]; simp; omega)
  obtain ⟨x5, e5, h5⟩ := add_ex x4 (V.itoa g.c.er) (by rw [e4, e3, e2, e1]; simp; omega)
  obtain ⟨x6, e6, h6⟩ := add_ex x5 [32, 105, 110, 116, 61] (by rw [e5, e4, e3, e2, e1]; simp; omega)
  obtain ⟨x7, e7, h7⟩ := add_ex x6 (V.itoa g.c.it) (by rw [e6, e5, e4, e3, e2, e1]; simp; omega)
  obtain ⟨x8, e8, h8⟩ := add_ex x7 [32, 124, 32] (by rw [e7, e6, e5, e4, e3, e2, e1]; simp; omega)
  obtain ⟨x9, e9, h9⟩ := add_ex x8 g.d.show (by rw [e8, e7, e6, e5, e4, e3, e2, e1]; simp; omega)
  have HE : Hid (x9 = g.show) := by show _ = _; rw [e9, e8, e7, e6, e5, e4, e3, e2, e1]; simp [V.Gt.show, V.Ct.head]
  clear e1 e2 e3 e4 e5 e6 e7 e8 e9 i1 i2 i3 i4 hlen hl hn cf
  change ∀ W, (binOp .add 9 (.string ⟨#[111, 107, 61]⟩) (S (V.itoa g.c.ok))).run Try.prog W = .ok (S x1) W at h1
  change ∀ W, (binOp .add 9 (S x1) (.string ⟨#[32, 98, 97, 100, 61]⟩)).run Try.prog W = .ok (S x2) W at h2
  change ∀ W, (binOp .add 9 (S x3) (.string ⟨#[32, 101, 114, 114, 61]⟩)).run Try.prog W = .ok (S x4) W at h4
  change ∀ W, (binOp .add 9 (S x5) (.string ⟨#[32, 105, 110, 116, 61]⟩)).run Try.prog W = .ok (S x6) W at h6
  change ∀ W, (binOp .add 9 (S x7) (.string ⟨#[32, 124, 32]⟩)).run Try.prog W = .ok (S x8) W at h8
  go_enter Try.func23, Try.ntmps23
  go_wp2_with fail
  refine (itoa_calls g.c.ok _ wa.1 (by omega)).mono ?_
  rintro e w1 ⟨rfl, f1⟩
  replace c0 := f1.cellv c0 (by simp)
  replace c2 := f1.cellv c2 (by simp)
  replace c3 := f1.cellv c3 (by simp)
  replace c4 := f1.cellv c4 (by simp)
  have F1 : Hid (Fr [] w w1) := f1
  clear f1 c1
  go_wp2_with fail
  refine (itoa_calls g.c.bad _ wb.1 (by omega)).mono ?_
  rintro e w2 ⟨rfl, f2⟩
  replace c0 := f2.cellv c0 (by simp)
  replace c3 := f2.cellv c3 (by simp)
  replace c4 := f2.cellv c4 (by simp)
  have F2 : Hid (Fr [] w w2) := F1.out.trans f2 (by simp)
  clear f2 c2
  go_wp2_with fail
  refine (itoa_calls g.c.er _ wc.1 (by omega)).mono ?_
  rintro e w3 ⟨rfl, f3⟩
  replace c0 := f3.cellv c0 (by simp)
  replace c4 := f3.cellv c4 (by simp)
  have F3 : Hid (Fr [] w w3) := F2.out.trans f3 (by simp)
  clear f3 c3
  go_wp2_with fail
  refine (itoa_calls g.c.it _ wd.1 (by omega)).mono ?_
  rintro e w4 ⟨rfl, f4⟩
  replace c0 := f4.cellv c0 (by simp)
  have F4 : Hid (Fr [] w w4) := F3.out.trans f4 (by simp)
  clear f4 c4
  go_wp2_with fail
  refine (dshow_calls D T C R B L g.d _ (HH.out.ld.keep F4.out (by simp))).mono ?_
  rintro e w5 ⟨rfl, f5⟩
  have F5 : Hid (Fr [] w w5) := F4.out.trans f5 (by simp)
  clear f5
  go_wp2_with fail
  go_ret
  exact ⟨S_congr HE.out, F5.out⟩

theorem run_eqlS (a : List UInt8) (W : World) : (binOp .eql 9 (S a) (S a)).run Try.prog W = .ok (.bool true) W := by
  simp [S, binOp, go_sem, Op.stringOp]
theorem run_guardE (o1 o2 : Operand) (a b : List UInt8) (W : World) : (eqGuard .eql 9 o1 o2 (S a) (S b)).run Try.prog W = .ok () W := by
  simp [S, eqGuard, go_sem]

set_option maxHeartbeats 1000000 in
set_option maxRecDepth 100000 in
theorem fact_calls (G D T C R B L : Nat) (g : V.Gt) (q a : List UInt8) (e : Int) (w : World) (h : GtAt w G D T C R B L g) (hq : q.length < 1000000) (he : (g.serve q).2 = (a, e)) :
    Calls Try.prog 22 #[.pointer (some ⟨G, 0, none⟩), S q, S a, .int .i64 e] w fun x w' => x = .returned (.bool true) ∧ GtAt w' G D T C R B L (g.serve q).1 ∧ Fr [G, D, T, C, R, B, L] w w' := by
  have hne := run_eqlS
  have hgd := run_guardE
  have HH : Hid (GtAt w G D T C R B L g) := h
  have HE : Hid ((g.serve q).2 = (a, e)) := he
  clear h he
  go_enter Try.func22, Try.ntmps22
  go_wp2_with fail
  refine (serve_S G D T C R B L g q _ HH.out hq).mono ?_
  rintro x w3 ⟨rfl, h3, f3⟩
  rw [HE.out]
  have H3 : Hid (GtAt w3 G D T C R B L (g.serve q).1) := h3
  have F3 : Hid (Fr [G, D, T, C, R, B, L] w w3) := f3
  clear h3 f3
  go_wp2_with fail
  go_ret
  exact ⟨rfl, H3.out, F3.out⟩

set_option maxHeartbeats 1000000 in
set_option maxRecDepth 100000 in
theorem look_calls (G D T C R B L : Nat) (g : V.Gt) (w : World) (h : GtAt w G D T C R B L g) (a : List UInt8) (he : g.show = a) :
    Calls Try.prog 24 #[.pointer (some ⟨G, 0, none⟩), S a] w fun x w' => x = .returned (.bool true) ∧ Fr [] w w' := by
  have hne := run_eqlS
  have hgd := run_guardE
  have HH : Hid (GtAt w G D T C R B L g) := h
  clear h
  go_enter Try.func24, Try.ntmps24
  go_wp2_with fail
  refine (gshow_calls G D T C R B L g _ HH.out).mono ?_
  rintro x w3 ⟨rfl, f3⟩
  rw [he]
  have F3 : Hid (Fr [] w w3) := f3
  clear f3 he
  go_wp2_with fail
  go_ret
  exact ⟨rfl, F3.out⟩

set_option maxHeartbeats 1000000 in
set_option maxRecDepth 100000 in
theorem grab_calls (D T C R : Nat) (t : V.Tb) (k : Int) (w : World) (h : TabAt w T C R t) :
    Calls Try.prog 25 #[.agg #[.pointer (some ⟨D, 0, none⟩), .pointer (some ⟨T, 0, none⟩)], .int .i64 k] w fun x w' => x = .returned (.int .i64 (t.acq k).2.1) ∧ TabAt w' T C R (t.acq k).1 ∧ Fr [T, C, R] w w' := by
  have HH : Hid (TabAt w T C R t) := h
  clear h
  go_enter Try.func25, Try.ntmps25
  go_wp2_with fail
  refine (acquire_calls T C R k t _ (HH.out.alloc _)).mono ?_
  rintro x w3 ⟨rfl, h3, f3⟩
  have H3 : Hid (TabAt w3 T C R (t.acq k).1) := h3
  have F3 : Hid (Fr [T, C, R] w w3) := ((Fr.refl _ _).alloc _).trans f3 (fun _ _ h => h)
  clear h3 f3
  go_wp2_with fail
  go_ret
  exact ⟨rfl, H3.out, F3.out⟩

set_option maxHeartbeats 1000000 in
set_option maxRecDepth 100000 in
theorem drop_calls (D T C R : Nat) (t : V.Tb) (k : Int) (w : World) (h : TabAt w T C R t) :
    Calls Try.prog 26 #[.agg #[.pointer (some ⟨D, 0, none⟩), .pointer (some ⟨T, 0, none⟩)], .int .i64 k] w fun x w' => x = .returned (.tuple #[]) ∧ TabAt w' T C R (t.rel k).1 ∧ Fr [T, C, R] w w' := by
  have HH : Hid (TabAt w T C R t) := h
  clear h
  go_enter Try.func26, Try.ntmps26
  go_wp2_with fail
  refine (release_both T C R k t _ (HH.out.alloc _)).1.mono ?_
  rintro x w3 ⟨rfl, h3, f3⟩
  have H3 : Hid (TabAt w3 T C R (t.rel k).1) := h3
  have F3 : Hid (Fr [T, C, R] w w3) := ((Fr.refl _ _).alloc _).trans f3 (fun _ _ h => h)
  clear h3 f3
  go_wp2_with fail
  go_end0
  exact ⟨rfl, H3.out, F3.out⟩

end Go.Proofs.Qxb6500360a
