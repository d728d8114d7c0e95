/-
  L2, abstract: pay, Census, Transfer, Show, New.
-/
import Derived.Test.Qxb6500360aMb
import Derived.Test.Qxb6500360aFa
namespace Go.Proofs.Qxb6500360a
open Go.RowKit
set_option linter.unusedSimpArgs false
set_option linter.unusedVariables false

theorem pay_len (bal : List Int) (m : V.Mv) (lb : bal.length = 4) : (V.pay bal m).1.length = 4 := by
  unfold V.pay
  split
  · exact lb
  · split
    · exact lb
    · simp [lb]
theorem pay_bb {bal : List Int} {m : V.Mv} (lb : bal.length = 4) (hc : V.check m = 0) (bb : ∀ k, k < 4 → 0 ≤ V.bl bal k ∧ V.bl bal k ≤ 250) : ∀ k, k < 4 → 0 ≤ V.bl (V.pay bal m).1 k ∧ V.bl (V.pay bal m).1 k ≤ 250 := by
  obtain ⟨⟨f0, f1⟩, ⟨t0, t1⟩, a0, a1, hne⟩ := check_ok hc
  intro k hk
  unfold V.pay
  split
  · exact bb k hk
  · split
    · exact bb k hk
    · have b1 := bb m.f.toNat (by omega)
      have b2 := bb m.t.toNat (by omega)
      have b3 := bb k hk
      dsimp only
      rw [V.bl_set _ _ _ _ (by simp [lb]) (by omega), V.bl_set _ _ _ _ lb (by omega)]
      split
      · omega
      · split <;> omega

/-- What pay leaves: the four cells; the block's other cells as they were. -/
structure PayOut (w w' : World) (X o : Nat) (bal : List Int) : Prop where
  cb : BalAt w' X o bal
  oth : ∀ j, (j < o ∨ o + 4 ≤ j) → w'.cell? ⟨X, j, none⟩ = w.cell? ⟨X, j, none⟩
  fr : Fr [X] w w'

theorem bal_set {w : World} {X o k : Nat} {v : Int} {bal : List Int} (h : BalAt w X o bal) (lb : bal.length = 4) (hk : k < 4) : PayOut w (w.setCell ⟨X, o + k, none⟩ (.int .i64 v)) X o (bal.set k v) := by
  refine ⟨fun j hj => ?_, fun j hj => ?_, (Fr.refl _ _).setCell (by simp) _⟩
  · rw [V.bl_set _ _ _ _ lb hk]
    have := h j hj
    by_cases e : k = j
    · subst e; simp [cell_set, this]
    · have e2 : ¬ o + k = o + j := by omega
      simp [cell_set, e, this]
  · have e2 : ¬ o + k = j := by omega
    simp [cell_set, e2]
theorem PayOut.trans {a b c : World} {X o : Nat} {l l' : List Int} (h : PayOut a b X o l) (k : PayOut b c X o l') : PayOut a c X o l' :=
  ⟨k.cb, fun j hj => (k.oth j hj).trans (h.oth j hj), h.fr.trans k.fr (fun _ _ h => h)⟩
theorem PayOut.post {a b c : World} {X o : Nat} {l : List Int} (h : PayOut a b X o l) (k : Fr [] b c) (hX : X < b.heap.size) : PayOut a c X o l :=
  ⟨h.cb.keep k (by simp), fun j hj => (k.cell hX (by simp) _).trans (h.oth j hj), h.fr.trans k (by simp)⟩
theorem PayOut.pre {a b c : World} {X o : Nat} {l : List Int} (k : Fr [] a b) (h : PayOut b c X o l) (hX : X < a.heap.size) : PayOut a c X o l :=
  ⟨h.cb, fun j hj => (h.oth j hj).trans (k.cell hX (by simp) _), (k.mono (by simp)).trans h.fr (fun _ _ h => h)⟩

set_option maxHeartbeats 1000000 in
set_option maxRecDepth 100000 in
theorem mpay_calls (X o : Nat) (m : V.Mv) (bal : List Int) (w : World) (hb : BalAt w X o bal) (fX : ∀ j, w.frozen? ⟨X, j, none⟩ = false) (lb : bal.length = 4) (bb : ∀ k, k < 4 → 0 ≤ V.bl bal k ∧ V.bl bal k ≤ 250) (hc : V.check m = 0) :
    Calls Try.prog 112 #[.pointer (some ⟨X, o, none⟩), .agg #[.int .i64 m.f, .int .i64 m.t, .int .i64 m.a]] w fun e w' => e = .returned (.int .i64 (V.pay bal m).2) ∧ PayOut w w' X o (V.pay bal m).1 := by
  obtain ⟨⟨f0, f1⟩, ⟨t0, t1⟩, a0, a1, hne⟩ := check_ok hc
  obtain ⟨f, t, a⟩ := m
  dsimp only at f0 f1 t0 t1 a0 a1 hne
  obtain ⟨f, rfl⟩ := Int.eq_ofNat_of_zero_le f0
  obtain ⟨t, rfl⟩ := Int.eq_ofNat_of_zero_le t0
  have hf : f < 4 := by omega
  have ht : t < 4 := by omega
  have hft : ¬ f = t := by omega
  have cf := hb f hf
  have ct := hb t ht
  obtain ⟨bf0, bf1⟩ := bb f hf
  obtain ⟨bt0, bt1⟩ := bb t ht
  have HB : Hid (BalAt w X o bal) := hb
  have lX := lt_of_cell cf
  have HLB : Hid (bal.length = 4) := lb
  have HBB : Hid (∀ k, k < 4 → 0 ≤ V.bl bal k ∧ V.bl bal k ≤ 250) := bb
  clear hb lb bb hc
  have w1 : IntKind.i64.wrap (V.bl bal t + a) = V.bl bal t + a := by rw [i64w]; omega
  have w2 : IntKind.i64.wrap (V.bl bal f - a) = V.bl bal f - a := by rw [i64w]; omega
  clear a0 a1 f0 t0 f1 t1 hne
  by_cases h6 : V.bl bal f < a
  · have hq : V.pay bal ⟨f, t, a⟩ = (bal, 6) := by simp [V.pay, h6]
    rw [hq]
    clear hq bf0 bf1 bt0 bt1
    go_enter Try.func112, Try.ntmps112
    go_wp2_with fail
    go_quiet (fail)
    go_wp2_with fail
    go_ret
    exact ⟨rfl, HB.out.keep (B := []) (((Fr.refl _ _).alloc _).drewN _) (by simp), fun j hj => by simp [cell_alloc, lX], (((Fr.refl _ _).alloc _).drewN _)⟩
  · by_cases h7 : 250 < V.bl bal t + a
    · have hq : V.pay bal ⟨f, t, a⟩ = (bal, 7) := by simp [V.pay, h6, h7]
      rw [hq]
      clear hq bf0 bf1 bt0 bt1
      go_enter Try.func112, Try.ntmps112
      go_wp2_with fail
      go_quiet (fail)
      go_wp2_with fail
      go_quiet (fail)
      go_wp2_with fail
      go_ret
      exact ⟨rfl, HB.out.keep (B := []) ((((Fr.refl _ _).alloc _).drewN _).drewN _) (by simp), fun j hj => by simp [cell_alloc, lX], (((Fr.refl _ _).alloc _).drewN _).drewN _⟩
    · have HQ : Hid (V.pay bal ⟨f, t, a⟩ = ((bal.set f (V.bl bal f - a)).set t (V.bl bal t + a), 0)) := by show _ = _; simp [V.pay, h6, h7]
      rw [HQ.out]
      clear bf0 bf1 bt0 bt1
      go_enter Try.func112, Try.ntmps112
      go_wp2_with fail
      go_quiet (fail)
      go_wp2_with fail
      go_quiet (fail)
      go_wp2_with fail
      go_region
      go_wp2_with fail
      go_region
      go_wp2_with fail
      go_ret
      have pz : ∀ n, PayOut w (((((w.alloc (Obj.cells #[.int .i64 ↑f, .int .i64 ↑t, .int .i64 a] 56)).drewN n).setCell ⟨X, o + f, none⟩ (.int .i64 (V.bl bal f - a))).setCell ⟨X, o + t, none⟩ (.int .i64 (V.bl bal t + a))).drew) X o ((bal.set f (V.bl bal f - a)).set t (V.bl bal t + a)) := by
        intro n
        have e0 : Fr [] w ((w.alloc (Obj.cells #[.int .i64 ↑f, .int .i64 ↑t, .int .i64 a] 56)).drewN n) := ((Fr.refl _ _).alloc _).drewN _
        have p1 := bal_set (v := V.bl bal f - a) (HB.out.keep e0 (by simp)) HLB.out hf
        have p2 := bal_set (v := V.bl bal t + a) p1.cb (by simp [HLB.out]) ht
        exact PayOut.pre e0 ((p1.trans p2).post ((Fr.refl _ _).drew) (by simpa using Nat.lt_succ_of_lt lX)) lX
      exact ⟨rfl, pz _⟩

set_option maxHeartbeats 1000000 in
set_option maxRecDepth 100000 in
theorem mcensus_calls (D M : Nat) (d : V.Ld) (w : World) (h : MLdAt w D M d) :
    Calls Try.prog 100 #[.pointer (some ⟨D, 0, none⟩)] w fun e w' => e = .returned (.tuple #[.int .i64 d.census.2.1, .int .i64 d.census.2.2]) ∧ MLdAt w' D M d.census.1 ∧ Fr [D, M] w w' := by
  have HH : Hid (MLdAt w D M d) := h
  have d0 := h.d0
  have nD : D ∉ [M] := by simpa using h.nDM
  clear h
  have HC : Hid (d.census = ({ d with t := (V.cenGo d.bal 4 d.t.clear 0 0).1 }, (V.cenGo d.bal 4 d.t.clear 0 0).2.1, (V.cenGo d.bal 4 d.t.clear 0 0).2.2)) := rfl
  rw [HC.out]
  have HX : Hid (∃ Y, Y = V.cenGo d.bal 4 d.t.clear 0 0) := ⟨_, rfl⟩
  obtain ⟨Y, hY⟩ := HX.out
  rw [← hY]
  have HY : Hid (Y = V.cenGo d.bal 4 d.t.clear 0 0) := hY
  clear hY HX HC
  go_enter Try.func100, Try.ntmps100
  go_wp2_with fail
  refine (mclear_calls M d.t w HH.out.tb).mono ?_
  rintro e w1 ⟨rfl, h1, f1⟩
  have H1 : Hid (MLdAt w1 D M { d with t := d.t.clear }) := HH.out.tab f1 h1
  have F1 : Hid (Fr [M] w w1) := f1
  clear h1 f1 d0
  go_wp2_with fail
  go_loopw [4, 5] (fun s i w' => ∃ (k : Nat) (n : Int) (t : V.Tb), k ≤ 4 ∧ i = .int .i64 k ∧ s = .int .i64 n ∧ 0 ≤ n ∧ n ≤ 250 * k ∧ Y = V.cenGo d.bal (4 - k) t k n ∧ MLdAt w' D M { d with t := t } ∧ Fr [M] w w') (fun _ i _ => 4 - (intOf i).toNat)
  case atStart => exact ⟨0, 0, d.t.clear, by omega, rfl, rfl, by omega, by omega, HY.out, H1.out, F1.out⟩
  case round =>
    obtain ⟨k, n, t, hk, rfl, rfl, n0, n1, hy, hm, hf⟩ := hrel
    have HM : Hid (MLdAt wr D M { d with t := t }) := hm
    have HF : Hid (Fr [M] w wr) := hf
    have HV : Hid (Y = V.cenGo d.bal (4 - k) t k n) := hy
    have d0 := hm.d0
    clear hm hf hy H1 F1
    by_cases hlt : k < 4
    · have hlt' : (k : Int) < 4 := by omega
      have hu : V.cenGo d.bal (4 - k) t k n = if (t.acq k).2.2 = 0 then V.cenGo d.bal (4 - (k + 1)) ((t.acq k).1.rel (t.acq k).2.1).1 (k + 1) (n + V.bl d.bal k) else ((t.acq k).1, 0, (t.acq k).2.2) := by
        rw [show 4 - k = (4 - (k + 1)) + 1 by omega]; rfl
      have HU : Hid (Y = if (t.acq k).2.2 = 0 then V.cenGo d.bal (4 - (k + 1)) ((t.acq k).1.rel (t.acq k).2.1).1 (k + 1) (n + V.bl d.bal k) else ((t.acq k).1, 0, (t.acq k).2.2)) := by show _ = _; rw [← hu]; exact HV.out
      obtain ⟨b0, b1⟩ := HM.out.bb k hlt
      dsimp only at b0 b1
      clear hu HV
      go_wp2_with fail
      refine (macquire_calls M k t wr HM.out.tb).mono ?_
      rintro e w2 ⟨rfl, h2, f2⟩
      have H2 : Hid (MLdAt w2 D M { d with t := (t.acq k).1 }) := HM.out.tab f2 h2
      have F2 : Hid (Fr [M] w w2) := HF.out.trans f2 (fun _ _ h => h)
      replace d0 := H2.out.d0
      have cb := H2.out.cb k hlt
      dsimp only at cb
      clear h2 f2 HM HF
      generalize t.acq k = r at *
      by_cases q : r.2.2 = 0
      · have q' : (r.2.2 != 0) = false := by simpa using q
        have wn : IntKind.i64.wrap (n + V.bl d.bal k) = n + V.bl d.bal k := by rw [i64w]; omega
        go_wp2_with fail
        refine (mrelease_calls M r.2.1 r.1 w2 H2.out.tb).mono ?_
        rintro e w3 ⟨rfl, h3, f3⟩
        have H3 : Hid (MLdAt w3 D M { d with t := (r.1.rel r.2.1).1 }) := H2.out.tab f3 h3
        have F3 : Hid (Fr [M] w w3) := F2.out.trans f3 (fun _ _ h => h)
        clear h3 f3 d0 cb
        go_wp2_with fail
        have HU' := HU.out
        rw [if_pos q] at HU'
        exact ⟨⟨k + 1, n + V.bl d.bal k, _, by omega, by simp, rfl, by omega, by omega, HU', H3.out, F3.out⟩, by simp [intOf]; omega⟩
      · have q' : (r.2.2 != 0) = true := by simpa using q
        clear cb d0
        go_wp2_with fail
        go_ret2
        have HU' := HU.out
        rw [if_neg q] at HU'
        rw [HU']
        exact ⟨rfl, H2.out, F2.out.mono (fun x _ h => by simp at h ⊢; exact .inr h)⟩
    · have hk4 : k = 4 := by omega
      subst hk4
      clear d0
      go_wp2_with fail
      go_ret2
      have hv := HV.out
      have e4 : V.cenGo d.bal (4 - 4) t 4 n = (t, n, 0) := rfl
      rw [e4] at hv
      rw [hv]
      exact ⟨rfl, HM.out, HF.out.mono (fun x _ h => by simp at h ⊢; exact .inr h)⟩

set_option maxHeartbeats 1000000 in
set_option maxRecDepth 100000 in
theorem mdshow_calls (D M : Nat) (d : V.Ld) (w : World) (h : MLdAt w D M d) :
    Calls Try.prog 44 #[.pointer (some ⟨D, 0, none⟩)] w fun e w' => e = .returned (S d.show) ∧ Fr [] w w' := by
  have HH : Hid (MLdAt w D M d) := h
  clear h
  go_enter Try.func44, Try.ntmps44
  go_wp2_with fail
  go_loopw [3, 4] (fun s i w' => ∃ k : Nat, k ≤ 4 ∧ i = .int .i64 k ∧ s = S (shB d k) ∧ Fr [] w w') (fun _ i _ => 4 - (intOf i).toNat)
  case atStart => exact ⟨0, by omega, rfl, by simp [shB]; rfl, Fr.refl _ _⟩
  case round =>
    obtain ⟨k, hk, rfl, rfl, hf⟩ := hrel
    have hD := HH.out.keep hf (by simp) (by simp)
    have HF : Hid (Fr [] w wr) := hf
    have HD : Hid (MLdAt wr D M d) := hD
    have hlg := shB_len d k
    by_cases hlt : k < 4
    · have cb := hD.cb k hlt
      obtain ⟨bb0, bb1⟩ := hD.bb k hlt
      have hil := itoa_len (V.bl d.bal k)
      have ha : ∀ W, (binOp .add 9 (S (shB d k)) (S (V.itoa (V.bl d.bal k)))).run Try.prog W = .ok (S (shB d k ++ V.itoa (V.bl d.bal k))) W := fun W => run_addS _ _ W (by omega)
      have ha2 : ∀ W, (binOp .add 9 (S (shB d k ++ V.itoa (V.bl d.bal k))) (.string ⟨#[44]⟩)).run Try.prog W = .ok (S (shB d k ++ V.itoa (V.bl d.bal k) ++ [44])) W := fun W => run_addS _ [44] W (by simp; omega)
      have HS : Hid (shB d (k + 1) = shB d k ++ V.itoa (V.bl d.bal k) ++ [44]) := shB_succ d k
      clear hf hD
      go_wp2_with fail
      refine (itoa_calls (V.bl d.bal k) wr bb0 (by omega)).mono ?_
      rintro e w2 ⟨rfl, hf2⟩
      have HF2 : Hid (Fr [] w w2) := HF.out.trans hf2 (fun _ _ h => h)
      clear hf2
      go_wp2_with fail
      exact ⟨⟨k + 1, by omega, by simp, by rw [HS.out]; simp, HF2.out⟩, by simp [intOf]; omega⟩
    · have hk4 : k = 4 := by omega
      subst hk4
      have c3 := hD.cu
      have c0 := hD.d0
      obtain ⟨u0, u1⟩ := hD.ub
      have hil := itoa_len d.und
      have hts := shG_show d.t
      have htr := hD.tb.wf.tr
      obtain ⟨x1, e1, ha1⟩ := add_ex (shB d 4) [32, 117, 110, 100, 111, 110, 101, 61] (by simp; omega)
      obtain ⟨x2, e2, ha2⟩ := add_ex x1 (V.itoa d.und) (by rw [e1]; simp; omega)
      obtain ⟨x3, e3, ha3⟩ := add_ex x2 [32, 124, 32] (by rw [e2, e1]; simp; omega)
      obtain ⟨x4, e4, ha4⟩ := add_ex x3 d.t.show (by rw [e3, e2, e1]; simp; omega)
      have HE : Hid (x4 = shB d 4 ++ [32, 117, 110, 100, 111, 110, 101, 61] ++ V.itoa d.und ++ [32, 124, 32] ++ d.t.show) := by show _ = _; rw [e4, e3, e2, e1]
      clear e1 e2 e3 e4
      change ∀ W, (binOp .add 9 (S (shB d 4)) (.string ⟨#[32, 117, 110, 100, 111, 110, 101, 61]⟩)).run Try.prog W = .ok (S x1) W at ha1
      change ∀ W, (binOp .add 9 (S x2) (.string ⟨#[32, 124, 32]⟩)).run Try.prog W = .ok (S x3) W at ha3
      clear hf hD
      go_wp2_with fail
      refine (itoa_calls d.und wr u0 (by omega)).mono ?_
      rintro e w2 ⟨rfl, hf2⟩
      have c0' := hf2.cellv c0 (by simp)
      have HF2 : Hid (Fr [] wr w2) := hf2
      clear hf2 c0
      go_wp2_with fail
      refine (mlshow_calls M d.t w2 (HD.out.keep HF2.out (by simp) (by simp)).tb).mono ?_
      rintro e w3 ⟨rfl, hf3⟩
      have HF3 : Hid (Fr [] w w3) := (HF.out.trans HF2.out (by simp)).trans hf3 (by simp)
      clear hf3
      go_wp2_with fail
      go_ret
      exact ⟨S_congr (by rw [HE.out]; simp [V.Ld.show, shB]), HF3.out⟩

set_option maxHeartbeats 1000000 in
set_option maxRecDepth 100000 in
theorem mdnew_calls (w : World) :
    Calls Try.prog 67 #[] w fun e w' => ∃ D M, e = .returned (.pointer (some ⟨D, 0, none⟩)) ∧ MLdAt w' D M V.Ld.fresh ∧ Fr [] w w' ∧ w.heap.size ≤ D ∧ w.heap.size ≤ M := by
  go_enter Try.func67, Try.ntmps67
  go_wp2_with fail
  refine (mlnew_calls w).mono ?_
  rintro e w1 ⟨M, rfl, h1, f1, s1⟩
  have H1 : Hid (MTabAt w1 M V.Tb.fresh) := h1
  have F1 : Hid (Fr [] w w1) := f1
  have lM := h1.lM
  clear h1 f1
  go_wp2_with fail
  refine wp_loop_rounds 6 ?_
  repeat (rw [rounds_succ]; go_wp2_with fail)
  go_ret
  refine ⟨w1.heap.size, M, rfl, ⟨by simp [go_sem], fun k hk => ?_, by simp [go_sem, V.Ld.fresh], fun o => by simp [go_sem], H1.out.keep (B := []) ((Fr.refl _ _).alloc _) (by simp), by omega, rfl, fun k hk => ?_, by simp [V.Ld.fresh]⟩, F1.out.alloc _, F1.out.size, s1⟩
  · rcases (show k = 0 ∨ k = 1 ∨ k = 2 ∨ k = 3 by omega) with rfl | rfl | rfl | rfl <;> simp [go_sem, V.Ld.fresh, V.bl]
  · rcases (show k = 0 ∨ k = 1 ∨ k = 2 ∨ k = 3 by omega) with rfl | rfl | rfl | rfl <;> simp [V.Ld.fresh, V.bl]

theorem MLdAt.pay {w w' : World} {D M : Nat} {d : V.Ld} {bal : List Int} (h : MLdAt w D M d) (hp : PayOut w w' D 1 bal) (lb : bal.length = 4) (bb : ∀ k, k < 4 → 0 ≤ V.bl bal k ∧ V.bl bal k ≤ 250) : MLdAt w' D M { d with bal := bal } :=
  ⟨(hp.oth 0 (by omega)).trans h.d0, hp.cb, (hp.oth 5 (by omega)).trans h.cu, fun o => (hp.fr.frz D o h.lD).trans (h.fD o), h.tb.keep hp.fr (by have := h.nDM; simp; omega), h.nDM, lb, bb, h.ub⟩
theorem MLdAt.und {w : World} {D M : Nat} {d : V.Ld} {u : Int} (h : MLdAt w D M d) (hu : 0 ≤ u ∧ u ≤ 99) : MLdAt (w.setCell ⟨D, 5, none⟩ (.int .i64 u)) D M { d with und := u } :=
  ⟨by simp [cell_set, h.d0], fun k hk => by
      have e : ¬ 5 = 1 + k := by omega
      have := h.cb k hk
      simp [cell_set, e, this], by simp [cell_set, h.cu], fun o => by simp [h.fD], h.tb.keep (B := [D]) ((Fr.refl _ _).setCell (by simp) _) (by have := h.nDM; simp; omega), h.nDM, h.lb, h.bb, hu⟩

set_option maxHeartbeats 2000000 in
set_option maxRecDepth 100000 in
theorem mtransfer_calls (D M : Nat) (m : V.Mv) (d : V.Ld) (w : World) (h : MLdAt w D M d) :
    Calls Try.prog 103 #[.pointer (some ⟨D, 0, none⟩), .int .i64 m.f, .int .i64 m.t, .int .i64 m.a] w fun e w' => e = .returned (.tuple #[.int .i64 (d.transfer m).2.1, .int .i64 (d.transfer m).2.2]) ∧ MLdAt w' D M (d.transfer m).1 ∧ Fr [D, M] w w' := by
  have HH : Hid (MLdAt w D M d) := h
  have d0 := h.d0
  have nD : D ∉ [M] := by simpa using h.nDM
  have nM : M ∉ [D] := by have := h.nDM; simp; omega
  clear h
  have HQ : Hid (d.transfer m = if V.check m = 0 then
      if (d.t.clear.pair m.f m.t).2.2.2 = 0 then
        if (V.pay d.bal m).2 = 0 then ({ bal := (V.pay d.bal m).1, und := d.und, t := (((d.t.clear.pair m.f m.t).1.rel (d.t.clear.pair m.f m.t).2.2.1).1.rel (d.t.clear.pair m.f m.t).2.1).1 }, V.bl (V.pay d.bal m).1 m.f.toNat, 0)
        else ({ bal := d.bal, und := if (V.pay d.bal m).2 = 7 then V.bump d.und else d.und, t := (((d.t.clear.pair m.f m.t).1.rel (d.t.clear.pair m.f m.t).2.2.1).1.rel (d.t.clear.pair m.f m.t).2.1).1 }, 0, (V.pay d.bal m).2)
      else ({ d with t := (d.t.clear.pair m.f m.t).1 }, 0, (d.t.clear.pair m.f m.t).2.2.2)
    else ({ d with t := d.t.clear }, 0, V.check m)) := rfl
  go_enter Try.func103, Try.ntmps103
  go_wp2_with fail
  refine (mclear_calls M d.t w HH.out.tb).mono ?_
  rintro e w1 ⟨rfl, h1, f1⟩
  have H1 : Hid (MLdAt w1 D M { d with t := d.t.clear }) := HH.out.tab f1 h1
  have F1 : Hid (Fr [M] w w1) := f1
  replace d0 := H1.out.d0
  have lD := H1.out.lD
  clear h1 f1
  go_wp2_with fail
  refine (mcheck_calls m _).mono ?_
  rintro e w2 ⟨rfl, f2⟩
  have k0 := f2.cellv (b := w1.heap.size) (o := 0) (v := .int .i64 m.f) (by simp [go_sem]) (by simp)
  have k1 := f2.cellv (b := w1.heap.size) (o := 1) (v := .int .i64 m.t) (by simp [go_sem]) (by simp)
  have k2 := f2.cellv (b := w1.heap.size) (o := 2) (v := .int .i64 m.a) (by simp [go_sem]) (by simp)
  have fw : Fr [] w1 w2 := ((Fr.refl _ _).alloc _).trans f2 (by simp)
  have H2 : Hid (MLdAt w2 D M { d with t := d.t.clear }) := H1.out.keep fw (by simp) (by simp)
  have F2 : Hid (Fr [M] w w2) := F1.out.trans fw (by simp)
  have HO : Hid (w.heap.size ≤ w1.heap.size) := F1.out.size
  have nKM : w1.heap.size ∉ [M] := by have := H1.out.tb.lM; simp; omega
  have nKD : w1.heap.size ∉ [D] := by simp; omega
  replace d0 := H2.out.d0
  clear f2 fw H1 F1 lD
  generalize w1.heap.size = K at *
  by_cases hc : V.check m = 0
  · rw [hc]
    go_wp2_with fail
    refine (mpair_calls M m.f m.t d.t.clear w2 H2.out.tb).mono ?_
    rintro e w3 ⟨rfl, h3, f3⟩
    have H3 : Hid (MLdAt w3 D M { d with t := (d.t.clear.pair m.f m.t).1 }) := H2.out.tab f3 h3
    have F3 : Hid (Fr [M] w w3) := F2.out.trans f3 (fun _ _ h => h)
    replace k0 := f3.cellv k0 nKM
    replace k1 := f3.cellv k1 nKM
    replace k2 := f3.cellv k2 nKM
    replace d0 := H3.out.d0
    clear h3 f3 H2 F2
    generalize d.t.clear.pair m.f m.t = r at *
    by_cases q : r.2.2.2 = 0
    · have q' : (r.2.2.2 != 0) = false := by simpa using q
      go_wp2_with fail
      go_region_held3 (fun w' => w'.cell? ⟨K, 0, none⟩ = some (.int .i64 m.f) ∧ w'.cell? ⟨K, 1, none⟩ = some (.int .i64 m.t) ∧ w'.cell? ⟨K, 2, none⟩ = some (.int .i64 m.a)) (go_keep)
        (first | (go_at_call 112; refine (mpay_calls D 1 m d.bal w3.drew (H3.out.keep (B := []) (Fr.refl _ _).drew (by simp) (by simp)).cb (fun j => H3.out.fD j) H3.out.lb H3.out.bb hc).mono ?_; rintro e w4 ⟨rfl, p4⟩; have HP4 : Hid (PayOut w3.drew w4 D 1 (V.pay d.bal m).1) := p4; have u0 := p4.fr.cellv (b := K) (o := 0) k0 nKD; have u1 := p4.fr.cellv (b := K) (o := 1) k1 nKD; have u2 := p4.fr.cellv (b := K) (o := 2) k2 nKD; clear p4))
      rename_i hHeld
      clear hHeld u0 u1 u2 k0 k1 k2
      have H4 : Hid (MLdAt w4 D M { d with bal := (V.pay d.bal m).1, t := r.1 }) := (H3.out.keep (B := []) (Fr.refl _ _).drew (by simp) (by simp)).pay HP4.out (pay_len _ _ HH.out.lb) (pay_bb HH.out.lb hc HH.out.bb)
      have F4 : Hid (Fr [D, M] w w4) := (F3.out.drew.mono (fun x _ h => by simp at h ⊢; exact .inr h)).trans HP4.out.fr (fun x _ h => by simp at h ⊢; exact .inl h)
      replace d0 := H4.out.d0
      have cu := H4.out.cu
      have fD := H4.out.fD
      obtain ⟨ub0, ub1⟩ := HH.out.ub
      dsimp only at cu
      have hpe : ¬ (V.pay d.bal m).2 = 0 → (V.pay d.bal m).1 = d.bal := by
        unfold V.pay
        split
        · exact fun _ => rfl
        · split
          · exact fun _ => rfl
          · exact fun h => absurd rfl h
      have HPE : Hid (¬ (V.pay d.bal m).2 = 0 → (V.pay d.bal m).1 = d.bal) := hpe
      obtain ⟨⟨ff0, ff1⟩, -⟩ := check_ok hc
      clear H3 F3 HP4 hpe
      have HQ' := HQ.out
      rw [if_pos hc, if_pos q] at HQ'
      have HQ2 : Hid _ := HQ'
      clear HQ' HQ
      generalize V.pay d.bal m = p at *
      by_cases h7 : p.2 = 7
      · rw [h7]
        have H5 : Hid (MLdAt (w4.setCell ⟨D, 5, none⟩ (.int .i64 (V.bump d.und))) D M { bal := p.1, und := V.bump d.und, t := r.1 }) := H4.out.und (bump_bd ⟨ub0, ub1⟩)
        have F5 : Hid (Fr [D, M] w (w4.setCell ⟨D, 5, none⟩ (.int .i64 (V.bump d.und)))) := F4.out.setCell (by simp) _
        go_wp2_with (go_at_call 51; refine calls_same (bump_calls d.und _ ub0 ub1) ?_)
        refine (mrelease_calls M r.2.2.1 r.1 _ H5.out.tb).mono ?_
        rintro e w6 ⟨rfl, h6, f6⟩
        have H6 : Hid (MLdAt w6 D M { bal := p.1, und := V.bump d.und, t := (r.1.rel r.2.2.1).1 }) := H5.out.tab f6 h6
        have F6 : Hid (Fr [D, M] w w6) := F5.out.trans f6 (fun x _ h => by simp at h ⊢; exact .inr h)
        have d6 := H6.out.d0
        clear h6 f6
        go_wp2_with fail
        refine (mrelease_calls M r.2.1 (r.1.rel r.2.2.1).1 w6 H6.out.tb).mono ?_
        rintro e w7 ⟨rfl, h7', f7⟩
        have H7 : Hid (MLdAt w7 D M { bal := p.1, und := V.bump d.und, t := ((r.1.rel r.2.2.1).1.rel r.2.1).1 }) := H6.out.tab f7 h7'
        have F7 : Hid (Fr [D, M] w w7) := F6.out.trans f7 (fun x _ h => by simp at h ⊢; exact .inr h)
        clear h7' f7 d6
        go_wp2_with fail
        go_ret2
        have e0 : ¬ p.2 = 0 := by omega
        have HQ' := HQ2.out
        rw [if_neg e0, if_pos h7, h7] at HQ'
        rw [HQ', ← HPE.out e0]
        exact ⟨rfl, H7.out, F7.out⟩
      · have h7b : (p.2 == 7) = false := by simpa using h7
        clear cu fD
        go_wp2_with fail
        refine (mrelease_calls M r.2.2.1 r.1 w4 H4.out.tb).mono ?_
        rintro e w6 ⟨rfl, h6, f6⟩
        have H6 : Hid (MLdAt w6 D M { bal := p.1, und := d.und, t := (r.1.rel r.2.2.1).1 }) := H4.out.tab f6 h6
        have F6 : Hid (Fr [D, M] w w6) := F4.out.trans f6 (fun x _ h => by simp at h ⊢; exact .inr h)
        have d6 := H6.out.d0
        clear h6 f6
        go_wp2_with fail
        refine (mrelease_calls M r.2.1 (r.1.rel r.2.2.1).1 w6 H6.out.tb).mono ?_
        rintro e w7 ⟨rfl, h7', f7⟩
        have H7 : Hid (MLdAt w7 D M { bal := p.1, und := d.und, t := ((r.1.rel r.2.2.1).1.rel r.2.1).1 }) := H6.out.tab f7 h7'
        have F7 : Hid (Fr [D, M] w w7) := F6.out.trans f7 (fun x _ h => by simp at h ⊢; exact .inr h)
        clear h7' f7 d6
        by_cases h0 : p.2 = 0
        · have h0b : (p.2 != 0) = false := by simpa using h0
          have cb := H7.out.cb m.f.toNat (by omega)
          dsimp only at cb
          go_wp2_with fail
          go_ret2
          have HQ' := HQ2.out
          rw [if_pos h0] at HQ'
          rw [HQ']
          exact ⟨rfl, H7.out, F7.out⟩
        · have h0b : (p.2 != 0) = true := by simpa using h0
          go_wp2_with fail
          go_ret2
          have HQ' := HQ2.out
          rw [if_neg h0, if_neg h7] at HQ'
          rw [HQ', ← HPE.out h0]
          exact ⟨rfl, H7.out, F7.out⟩
    · have q' : (r.2.2.2 != 0) = true := by simpa using q
      go_wp2_with fail
      go_ret2
      have HQ' := HQ.out
      rw [if_pos hc, if_neg q] at HQ'
      rw [HQ']
      exact ⟨rfl, H3.out, F3.out.mono (fun x _ h => by simp at h ⊢; exact .inr h)⟩
  · have hc' : (V.check m != 0) = true := by simpa using hc
    go_wp2_with fail
    go_ret2
    have HQ' := HQ.out
    rw [if_neg hc] at HQ'
    rw [HQ']
    exact ⟨rfl, H2.out, F2.out.mono (fun x _ h => by simp at h ⊢; exact .inr h)⟩

end Go.Proofs.Qxb6500360a
