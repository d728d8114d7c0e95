/-
  L2, abstract: Batch.
-/
import Derived.Test.Qxb6500360aMc
import Derived.Test.Qxb6500360aMo
import Derived.Maps.AppendAt
import Derived.Deep.RegionHeld3
namespace Go.Proofs.Qxb6500360a
open Go.RowKit
set_option linter.unusedSimpArgs false
set_option linter.unusedVariables false

set_option maxHeartbeats 1000000 in
set_option maxRecDepth 100000 in
theorem mbatch_long (D n cap : Nat) (A : Option Addr) (w : World) (hn : 3 < n) :
    Calls Try.prog 104 #[.pointer (some ⟨D, 0, none⟩), .slice A n cap] w fun e w' => e = .returned (.tuple #[.int .i64 0, .int .i64 1]) ∧ w' = w := by
  have hn' : (3 : Int) < (n : Int) := by omega
  go_enter Try.func104, Try.ntmps104
  go_wp2_with fail
  go_ret2
  exact ⟨rfl, rfl⟩

/-! ### plain -/
def cont (m : V.Mv) : Nat → V.Bst × Int → V.Bst × Int
  | 0, x => if x.2 = 0 then x.1.locks m else x
  | 1, x => if x.2 = 0 then x.1.lock m.t else x
  | _, x => x
def two (m : V.Mv) (j : Nat) : Int := if j = 0 then m.f else m.t
theorem cont_step (m : V.Mv) (j : Nat) (s : V.Bst) (h : j < 2) : cont m j (s, 0) = cont m (j + 1) (s.lock (two m j)) := by
  rcases (show j = 0 ∨ j = 1 by omega) with rfl | rfl
  · rfl
  · rfl
theorem cont_err (m : V.Mv) (j : Nat) (x : V.Bst × Int) (h : ¬ x.2 = 0) : cont m j x = x := by
  match j with
  | 0 => simp [cont, h]
  | 1 => simp [cont, h]
  | _ + 2 => rfl
theorem move_cont (s : V.Bst) (m : V.Mv) : s.move m = if (cont m 0 (s, V.check m)).2 = 0 then ({ (cont m 0 (s, V.check m)).1 with bal := (V.pay (cont m 0 (s, V.check m)).1.bal m).1 }, (V.pay (cont m 0 (s, V.check m)).1.bal m).2) else cont m 0 (s, V.check m) := by
  unfold V.Bst.move
  by_cases hc : V.check m = 0
  · have e : cont m 0 (s, V.check m) = s.locks m := by simp [cont, hc]
    rw [e, if_pos hc]
  · have e : cont m 0 (s, V.check m) = (s, V.check m) := by simp [cont, hc]
    rw [e, if_neg hc, if_neg hc]
theorem two_nat {m : V.Mv} {q : Nat} (hc : V.check m = 0) (hq : q < 2) : ∃ kk : Nat, kk < 4 ∧ two m q = (kk : Int) ∧ ((q = 0 ∧ m.f = (kk : Int)) ∨ (q = 1 ∧ m.t = (kk : Int))) := by
  obtain ⟨⟨f0, f1⟩, ⟨t0, t1⟩, -⟩ := check_ok hc
  rcases (show q = 0 ∨ q = 1 by omega) with rfl | rfl
  · exact ⟨m.f.toNat, by omega, by simp [two]; omega, .inl ⟨rfl, by omega⟩⟩
  · exact ⟨m.t.toNat, by omega, by simp [two]; omega, .inr ⟨rfl, by omega⟩⟩
theorem lock_mine {s : V.Bst} {k : Nat} (h : s.mine.getD k false = true) : s.lock (k : Int) = (s, 0) := by unfold V.Bst.lock; rw [Int.toNat_natCast, if_pos h]
theorem lock_ok {s : V.Bst} {k : Nat} (h : s.mine.getD k false = false) (he : (s.t.acq (k : Int)).2.2 = 0) : s.lock (k : Int) = ({ s with t := (s.t.acq (k : Int)).1, mine := s.mine.set k true, hs := (s.t.acq (k : Int)).2.1 :: s.hs }, 0) := by unfold V.Bst.lock; rw [Int.toNat_natCast, if_neg (by rw [h]; decide)]; dsimp only; rw [if_pos he]
theorem lock_no {s : V.Bst} {k : Nat} (h : s.mine.getD k false = false) (he : ¬ (s.t.acq (k : Int)).2.2 = 0) : s.lock (k : Int) = ({ s with t := (s.t.acq (k : Int)).1 }, (s.t.acq (k : Int)).2.2) := by unfold V.Bst.lock; rw [Int.toNat_natCast, if_neg (by rw [h]; decide)]; dsimp only; rw [if_neg he]

/-- Batch's own memory. -/
structure MBat (w : World) (K1 K2 base : Nat) (hv : Value) (s : V.Bst) : Prop where
  cb : BalAt w K1 0 s.bal
  cm : ∀ k, k < 4 → w.cell? ⟨K2, k, none⟩ = some (.bool (s.mine.getD k false))
  f1 : ∀ o, w.frozen? ⟨K1, o, none⟩ = false
  f2 : ∀ o, w.frozen? ⟨K2, o, none⟩ = false
  own : w.ownsRow base 3 1 hv s.hs.length (s.hs.reverse.map (.int .i64 ·))
  lb : s.bal.length = 4
  bb : ∀ k, k < 4 → 0 ≤ V.bl s.bal k ∧ V.bl s.bal k ≤ 250
  lm : s.mine.length = 4
  hl : s.hs.length = s.mine.count true
theorem owns_keepX {w1 w2 : World} {X : List Nat} {base : Nat} {e : TypeId} {size : Nat} {v : Value} {n : Nat} {xs : List Value} (h : w1.ownsRow base e size v n xs) (hf : Fr X w1 w2) (hX : ∀ x ∈ X, x < base) : w2.ownsRow base e size v n xs := by
  obtain ⟨h1, h2⟩ := h
  refine ⟨h1, ?_⟩
  rcases h2 with h2 | ⟨g, cap, cur, hv, hg, hh, r⟩
  · exact Or.inl h2
  · have hlt : g < w1.heap.size := by
      rcases Nat.lt_or_ge g w1.heap.size with h | h
      · exact h
      · rw [Array.getElem?_eq_none h] at hh; cases hh
    exact Or.inr ⟨g, cap, cur, hv, hg, by rw [hf.block g hlt (fun hm => by have := hX g hm; omega)]; exact hh, r⟩
theorem owns_lt {w : World} {base : Nat} {e : TypeId} {size : Nat} {v : Value} {n : Nat} {xs : List Value} (h : w.ownsRow base e size v n xs) : ¬ v.ownBlock = some w.heap.size := by
  rcases h.2 with ⟨h2, _⟩ | ⟨g, cap, cur, hv, hg, hh, r⟩
  · rw [h2]; simp [Value.ownBlock]
  · have hlt : g < w.heap.size := by
      rcases Nat.lt_or_ge g w.heap.size with h | h
      · exact h
      · rw [Array.getElem?_eq_none h] at hh; cases hh
    rw [hv]
    simp [Value.ownBlock]
    omega
theorem MBat.keep {w w' : World} {K1 K2 base : Nat} {hv : Value} {s : V.Bst} (h : MBat w K1 K2 base hv s) {X : List Nat} (hf : Fr X w w') (h1 : K1 ∉ X) (h2 : K2 ∉ X) (hX : ∀ x ∈ X, x < base) : MBat w' K1 K2 base hv s :=
  ⟨h.cb.keep hf h1, fun k hk => hf.cellv (h.cm k hk) h2, fun o => hf.frozenv (h.f1 o) (lt_of_cell (h.cb 0 (by omega))) h1, fun o => hf.frozenv (h.f2 o) (lt_of_cell (h.cm 0 (by omega))) h2, owns_keepX h.own hf hX, h.lb, h.bb, h.lm, h.hl⟩
theorem MBat.tab {w : World} {K1 K2 base : Nat} {hv : Value} {s : V.Bst} (h : MBat w K1 K2 base hv s) (t : V.Tb) : MBat w K1 K2 base hv { s with t := t } := ⟨h.cb, h.cm, h.f1, h.f2, h.own, h.lb, h.bb, h.lm, h.hl⟩
theorem MBat.cnt {w : World} {K1 K2 base : Nat} {hv : Value} {s : V.Bst} (h : MBat w K1 K2 base hv s) : s.hs.length ≤ 4 := by
  have := List.count_le_length (a := true) (l := s.mine)
  have := h.lm
  have := h.hl
  omega

/-- The lock k is noted as held; its handle is appended. -/
theorem MBat.push {w w5 : World} {K1 K2 base k : Nat} {hv v' : Value} {s : V.Bst} {h : Int} {t : V.Tb} {o : Obj} (hb : MBat w K1 K2 base hv s) (hk : k < 4) (hm : s.mine.getD k false = false) (l1 : K1 < base) (l2 : K2 < base) (n12 : ¬ K1 = K2)
    (hown : w5.ownsRow base 3 1 v' (s.hs.length + 1) (s.hs.reverse.map (.int .i64 ·) ++ [.int .i64 h])) (hg : ((w.setCell ⟨K2, k, none⟩ (.bool true)).alloc o).grownBy w5 hv.ownBlock) :
    MBat w5 K1 K2 base v' { s with t := t, mine := s.mine.set k true, hs := h :: s.hs } := by
  have hr : ∀ g, hv.ownBlock = some g → base ≤ g := by
    intro g hg
    rcases hb.own.2 with ⟨h1, _⟩ | ⟨g', cap, cur, hv', hg', _⟩
    · rw [h1] at hg; simp [Value.ownBlock] at hg
    · rw [hv'] at hg; simp [Value.ownBlock] at hg; omega
  have lK1 := lt_of_cell (hb.cb 0 (by omega))
  have lK2 := lt_of_cell (hb.cm 0 (by omega))
  have b1 := hg.block K1 (by simp; omega) (fun e => by have := hr K1 e.symm; omega)
  have b2 := hg.block K2 (by simp; omega) (fun e => by have := hr K2 e.symm; omega)
  have hc := hb.lm
  refine ⟨fun j hj => ?_, fun j hj => ?_, fun o' => ?_, fun o' => ?_, ?_, hb.lb, hb.bb, by simp [hb.lm], ?_⟩
  · rw [World.cell?_of_block (w := (w.setCell ⟨K2, k, none⟩ (.bool true)).alloc o) b1, cell_alloc _ _ _ _ (by simpa using lK1)]
    have := hb.cb j hj
    rw [Nat.zero_add] at this ⊢
    simp [cell_set, this, show ¬ K2 = K1 from fun e => n12 e.symm]
  · rw [World.cell?_of_block (w := (w.setCell ⟨K2, k, none⟩ (.bool true)).alloc o) b2, cell_alloc _ _ _ _ (by simpa using lK2)]
    have := hb.cm j hj
    rw [getD_set]
    by_cases e : k = j
    · subst e; simp [cell_set, this, hc, hk]
    · simp [cell_set, this, e]
  · rw [World.frozen?_of_block (w := (w.setCell ⟨K2, k, none⟩ (.bool true)).alloc o) b1, frozen_alloc _ _ _ _ (by simpa using lK1)]
    simp [hb.f1]
  · rw [World.frozen?_of_block (w := (w.setCell ⟨K2, k, none⟩ (.bool true)).alloc o) b2, frozen_alloc _ _ _ _ (by simpa using lK2)]
    simp [hb.f2]
  · simpa using hown
  · have := count_set_true s.mine k (by omega) hm
    simp [this, hb.hl]

theorem MLdAt.setbal {w : World} {D M : Nat} {d : V.Ld} {l : List Int} (h : MLdAt w D M d) (lb : l.length = 4) (bb : ∀ k, k < 4 → 0 ≤ V.bl l k ∧ V.bl l k ≤ 250) :
    MLdAt ((((w.setCell ⟨D, 1, none⟩ (.int .i64 (V.bl l 0))).setCell ⟨D, 2, none⟩ (.int .i64 (V.bl l 1))).setCell ⟨D, 3, none⟩ (.int .i64 (V.bl l 2))).setCell ⟨D, 4, none⟩ (.int .i64 (V.bl l 3))) D M { d with bal := l } := by
  have c0 := h.cb 0 (by omega)
  have c1 := h.cb 1 (by omega)
  have c2 := h.cb 2 (by omega)
  have c3 := h.cb 3 (by omega)
  simp only [Nat.reduceAdd] at c0 c1 c2 c3
  refine ⟨by simp [cell_set, h.d0], fun k hk => ?_, by simp [cell_set, h.cu], fun o => by simp [h.fD], h.tb.keep (B := [D]) (((((Fr.refl _ _).setCell (by simp) _).setCell (by simp) _).setCell (by simp) _).setCell (by simp) _) (by have := h.nDM; simp; omega), h.nDM, lb, bb, h.ub⟩
  rcases (show k = 0 ∨ k = 1 ∨ k = 2 ∨ k = 3 by omega) with rfl | rfl | rfl | rfl <;> simp [cell_set, c0, c1, c2, c3]
theorem relAll_step (t : V.Tb) (l : List Int) (i : Nat) (hi : i < l.length) : V.relAll t (l.drop i) = V.relAll (t.rel (l.getD i 0)).1 (l.drop (i + 1)) := by
  rw [List.drop_eq_getElem_cons hi]
  simp [V.relAll, List.getD_eq_getElem?_getD, List.getElem?_eq_getElem hi]

set_option maxHeartbeats 2000000 in
set_option maxRecDepth 100000 in
theorem mbatch_calls (D M MS cap : Nat) (ms : List V.Mv) (d : V.Ld) (w : World) (h : MLdAt w D M d) (hl : ms.length ≤ 3) (hms : MsAt w MS ms) (lMS : MS < w.heap.size) (nMS : MS ∉ [D, M]) :
    Calls Try.prog 104 #[.pointer (some ⟨D, 0, none⟩), .slice (some ⟨MS, 0, none⟩) ms.length cap] w fun e w' => e = .returned (.tuple #[.int .i64 (d.batch ms).2.1, .int .i64 (d.batch ms).2.2]) ∧ MLdAt w' D M (d.batch ms).1 ∧ Fr [D, M] w w' := by
  have HH : Hid (MLdAt w D M d) := h
  have HMS : Hid (MsAt w MS ms) := hms
  have HNM : Hid (MS ∉ [D, M]) := nMS
  have d0 := h.d0
  have hl' : ¬ (3 : Int) < (ms.length : Int) := by omega
  have nD : D ∉ [M] := by simpa using h.nDM
  clear h hms nMS
  have HQ : Hid (d.batch ms = if (V.Bst.run ⟨d.t.clear, [false, false, false, false], [], d.bal⟩ 0 ms).2.2 = 0 then ({ bal := (V.Bst.run ⟨d.t.clear, [false, false, false, false], [], d.bal⟩ 0 ms).1.bal, und := d.und, t := V.relAll (V.Bst.run ⟨d.t.clear, [false, false, false, false], [], d.bal⟩ 0 ms).1.t (V.Bst.run ⟨d.t.clear, [false, false, false, false], [], d.bal⟩ 0 ms).1.hs }, (ms.length : Int), 0)
    else ({ bal := d.bal, und := if 0 < (V.Bst.run ⟨d.t.clear, [false, false, false, false], [], d.bal⟩ 0 ms).2.1 ∨ (V.Bst.run ⟨d.t.clear, [false, false, false, false], [], d.bal⟩ 0 ms).2.2 = 7 then V.bump d.und else d.und, t := V.relAll (V.Bst.run ⟨d.t.clear, [false, false, false, false], [], d.bal⟩ 0 ms).1.t (V.Bst.run ⟨d.t.clear, [false, false, false, false], [], d.bal⟩ 0 ms).1.hs }, (V.Bst.run ⟨d.t.clear, [false, false, false, false], [], d.bal⟩ 0 ms).2.1, (V.Bst.run ⟨d.t.clear, [false, false, false, false], [], d.bal⟩ 0 ms).2.2)) := by
    show _ = _
    simp only [V.Ld.batch, if_pos hl]
  have HX : ∃ Y, Y = V.Bst.run ⟨d.t.clear, [false, false, false, false], [], d.bal⟩ 0 ms := ⟨_, rfl⟩
  obtain ⟨Y, hY⟩ := HX
  have HY : Hid (Y = V.Bst.run ⟨d.t.clear, [false, false, false, false], [], d.bal⟩ 0 ms) := hY
  rw [← hY] at HQ
  clear hY
  go_enter Try.func104, Try.ntmps104
  go_wp2_with fail
  refine (mclear_calls M d.t w HH.out.tb).mono ?_
  rintro e w1 ⟨rfl, h1, f1⟩
  have H1 : Hid (MLdAt w1 D M { d with t := d.t.clear }) := HH.out.tab f1 h1
  have F1 : Hid (Fr [M] w w1) := f1
  have HM1 : Hid (MsAt w1 MS ms) := HMS.out.keep f1 (by have := HNM.out; simp at this ⊢; omega)
  replace d0 := H1.out.d0
  have b0 := H1.out.cb 0 (by omega)
  have b1 := H1.out.cb 1 (by omega)
  have b2 := H1.out.cb 2 (by omega)
  have b3 := H1.out.cb 3 (by omega)
  have lD := H1.out.lD
  have lM := H1.out.tb.lM
  have lW := F1.out.size
  dsimp only at b0 b1 b2 b3
  simp only [Nat.reduceAdd] at b0 b1 b2 b3
  clear h1 f1
  go_wp2_with fail
  have HI : Hid (MBat ((w1.alloc (Obj.cells #[.int .i64 (V.bl d.bal 0), .int .i64 (V.bl d.bal 1), .int .i64 (V.bl d.bal 2), .int .i64 (V.bl d.bal 3)] 109)).alloc (Obj.cells #[.bool false, .bool false, .bool false, .bool false] 124)) w1.heap.size (w1.heap.size + 1) (w1.heap.size + 1 + 1) (.slice none 0 0) ⟨d.t.clear, [false, false, false, false], [], d.bal⟩) := by
    refine ⟨fun k hk => ?_, fun k hk => ?_, fun o => by simp [go_sem], fun o => by simp [go_sem], ⟨rfl, Or.inl ⟨rfl, rfl⟩⟩, HH.out.lb, HH.out.bb, rfl, rfl⟩
    · rcases (show k = 0 ∨ k = 1 ∨ k = 2 ∨ k = 3 by omega) with rfl | rfl | rfl | rfl <;> simp [go_sem]
    · rcases (show k = 0 ∨ k = 1 ∨ k = 2 ∨ k = 3 by omega) with rfl | rfl | rfl | rfl <;> simp [go_sem]
  have HW0 : Hid (Fr [] w1 ((w1.alloc (Obj.cells #[.int .i64 (V.bl d.bal 0), .int .i64 (V.bl d.bal 1), .int .i64 (V.bl d.bal 2), .int .i64 (V.bl d.bal 3)] 109)).alloc (Obj.cells #[.bool false, .bool false, .bool false, .bool false] 124))) := ((Fr.refl _ _).alloc _).alloc _
  have HLT : Hid (D < w1.heap.size ∧ M < w1.heap.size ∧ MS < w1.heap.size ∧ w.heap.size ≤ w1.heap.size ∧ MS ∉ [D, M]) := ⟨lD, lM, by omega, lW, HNM.out⟩
  generalize ((w1.alloc (Obj.cells #[.int .i64 (V.bl d.bal 0), .int .i64 (V.bl d.bal 1), .int .i64 (V.bl d.bal 2), .int .i64 (V.bl d.bal 3)] 109)).alloc (Obj.cells #[.bool false, .bool false, .bool false, .bool false] 124)) = W0 at *
  clear b0 b1 b2 b3 d0 lD lM lW lMS
  have HLS : Hid (ms.length ≤ 3) := hl
  clear hl
  generalize w1.heap.size = K at *
  go_loopw [7, 9, 10] (fun hv e i w' => ∃ (k : Nat) (x : Int) (s : V.Bst), k ≤ ms.length ∧ i = .int .i64 k ∧ e = .int .i64 x ∧ ((x = 0 ∧ Y = s.run k (ms.drop k)) ∨ (¬ x = 0 ∧ Y = (s, (k : Int), x))) ∧ MBat w' K (K + 1) (K + 1 + 1) hv s ∧ MLdAt w' D M { d with t := s.t } ∧ K + 1 + 1 ≤ w'.heap.size ∧ Fr [M] w w') (fun _ e i _ => 2 * (ms.length - (intOf i).toNat) + (if intOf e = 0 then 1 else 0))
  case atStart =>
    have fz := F1.out.trans HW0.out (by simp)
    exact ⟨0, 0, ⟨d.t.clear, [false, false, false, false], [], d.bal⟩, by omega, rfl, rfl, .inl ⟨rfl, by simpa using HY.out⟩, HI.out, H1.out.keep HW0.out (by simp) (by simp), by have := lt_of_cell (HI.out.cm 0 (by omega)); omega, fz⟩
  case round =>
    obtain ⟨k, x, s, hk, rfl, rfl, hy, hb, hm, hsz, hf⟩ := hrel
    have HB : Hid (MBat wr K (K + 1) (K + 1 + 1) u7 s) := hb
    have HM : Hid (MLdAt wr D M { d with t := s.t }) := hm
    have HF : Hid (Fr [M] w wr) := hf
    have HSZ : Hid (K + 1 + 1 ≤ wr.heap.size) := hsz
    have HV : Hid ((x = 0 ∧ Y = s.run k (ms.drop k)) ∨ (¬ x = 0 ∧ Y = (s, (k : Int), x))) := hy
    clear hb hm hsz hf hy H1 F1 HI HW0 HM1
    have nMSM : MS ∉ [M] := by have := HLT.out.2.2.2.2; simp at this ⊢; omega
    by_cases hgo : k < ms.length ∧ x = 0
    · obtain ⟨hkn, rfl⟩ := hgo
      have hkn' : (k : Int) < (ms.length : Int) := by omega
      obtain ⟨m, hmk⟩ : ∃ m, ms[k]? = some m := ⟨ms[k], List.getElem?_eq_getElem hkn⟩
      have hdr : ms.drop k = m :: ms.drop (k + 1) := by
        rw [List.drop_eq_getElem_cons hkn]
        rw [List.getElem?_eq_getElem hkn] at hmk
        cases hmk
        rfl
      have HR : Hid (Y = if (s.move m).2 = 0 then (s.move m).1.run (k + 1) (ms.drop (k + 1)) else ((s.move m).1, (k : Int), (s.move m).2)) := by
        rcases HV.out with ⟨_, h⟩ | ⟨h, _⟩
        · show _ = _
          rw [h, hdr]
          rfl
        · exact absurd rfl h
      obtain ⟨mf, mt, ma⟩ := (HMS.out.keep HF.out nMSM) k m hmk
      clear HV hdr
      go_wp2_with fail
      refine (mcheck_calls m wr).mono ?_
      rintro e w2 ⟨rfl, f2⟩
      replace mf := f2.cellv mf (by simp)
      replace mt := f2.cellv mt (by simp)
      replace ma := f2.cellv ma (by simp)
      have lMS2 := lt_of_cell mf
      have HB2 : Hid (MBat w2 K (K + 1) (K + 1 + 1) u7 s) := HB.out.keep f2 (by simp) (by simp) (by simp)
      have HM2 : Hid (MLdAt w2 D M { d with t := s.t }) := HM.out.keep f2 (by simp) (by simp)
      have HF2 : Hid (Fr [M] w w2) := HF.out.trans f2 (by simp)
      have HSZ2 : Hid (K + 1 + 1 ≤ w2.heap.size) := by have := HSZ.out; have := f2.size; show _ ≤ _; omega
      clear f2 HB HM HF HSZ
      go_wp2_with fail
      go_region
      go_wp2_with fail
      have HW3 : Hid (Fr [] w2 (w2.alloc (Obj.cells #[.int .i64 m.f, .int .i64 m.t] 125)).drew) := ((Fr.refl _ _).alloc _).drew
      have t0 : (w2.alloc (Obj.cells #[.int .i64 m.f, .int .i64 m.t] 125)).drew.cell? ⟨w2.heap.size, 0, none⟩ = some (.int .i64 m.f) := by simp [go_sem]
      have t1 : (w2.alloc (Obj.cells #[.int .i64 m.f, .int .i64 m.t] 125)).drew.cell? ⟨w2.heap.size, 1, none⟩ = some (.int .i64 m.t) := by simp [go_sem]
      have HNO : Hid (¬ u7.ownBlock = some w2.heap.size) := owns_lt HB2.out.own
      generalize (w2.alloc (Obj.cells #[.int .i64 m.f, .int .i64 m.t] 125)).drew = w3 at *
      have HT : Hid (w3.cell? ⟨w2.heap.size, 0, none⟩ = some (.int .i64 m.f) ∧ w3.cell? ⟨w2.heap.size, 1, none⟩ = some (.int .i64 m.t)) := ⟨t0, t1⟩
      have HK3 : Hid (K + 1 < w2.heap.size) := by have := HSZ2.out; show _ < _; omega
      clear t0 t1 mf mt ma lMS2
      generalize w2.heap.size = K3 at *
      go_loopw [7, 9, 12] (fun hv e j w' => ∃ (q : Nat) (x : Int) (s' : V.Bst), q ≤ 2 ∧ j = .int .i64 q ∧ e = .int .i64 x ∧ cont m 0 (s, V.check m) = cont m q (s', x) ∧ (x = 0 → V.check m = 0) ∧ (w'.cell? ⟨K3, 0, none⟩ = some (.int .i64 m.f) ∧ w'.cell? ⟨K3, 1, none⟩ = some (.int .i64 m.t)) ∧ ¬ hv.ownBlock = some K3 ∧ MBat w' K (K + 1) (K + 1 + 1) hv s' ∧ MLdAt w' D M { d with t := s'.t } ∧ Fr [M] w w') (fun _ _ j _ => 2 - (intOf j).toNat)
      case atStart => exact ⟨0, V.check m, s, by omega, rfl, rfl, rfl, fun h => h, HT.out, HNO.out, HB2.out.keep HW3.out (by simp) (by simp) (by simp), HM2.out.keep HW3.out (by simp) (by simp), HF2.out.trans HW3.out (by simp)⟩
      case round =>
        obtain ⟨q, x, s', hq, rfl, rfl, hc, hx, ht, hno, hb, hm, hf⟩ := hrel
        have HC : Hid (cont m 0 (s, V.check m) = cont m q (s', x)) := hc
        have HX : Hid (x = 0 → V.check m = 0) := hx
        have HT' : Hid (wr.cell? ⟨K3, 0, none⟩ = some (.int .i64 m.f) ∧ wr.cell? ⟨K3, 1, none⟩ = some (.int .i64 m.t)) := ht
        have HB' : Hid (MBat wr K (K + 1) (K + 1 + 1) u7 s') := hb
        have HM' : Hid (MLdAt wr D M { d with t := s'.t }) := hm
        have HF' : Hid (Fr [M] w wr) := hf
        have HNO' : Hid (¬ u7.ownBlock = some K3) := hno
        have nKM : K3 ∉ [M] := by have := HLT.out; have := HK3.out; simp; omega
        clear hc hx ht hno hb hm hf HB2 HM2 HF2 HSZ2 HW3 HNO HT
        by_cases hin : q < 2 ∧ x = 0
        · obtain ⟨hq2, rfl⟩ := hin
          have hq2' : (q : Int) < 2 := by omega
          have HCK : Hid (V.check m = 0) := HX.out rfl
          obtain ⟨kk, hk4, htw, hcs⟩ := two_nat (HX.out rfl) hq2
          have HC' : Hid (cont m 0 (s, V.check m) = cont m (q + 1) (s'.lock (kk : Int))) := by
            show _ = _
            rw [HC.out, cont_step m q s' hq2, htw]
          have tq : wr.cell? ⟨K3, q, none⟩ = some (.int .i64 (kk : Int)) := by
            rcases hcs with ⟨rfl, e⟩ | ⟨rfl, e⟩
            · rw [← e]; exact HT'.out.1
            · rw [← e]; exact HT'.out.2
          have cm := HB'.out.cm kk hk4
          have d0 := HM'.out.d0
          clear hcs htw HC
          cases hmine : s'.mine.getD kk false with
          | true =>
            rw [hmine] at cm
            have HL : Hid (s'.lock (kk : Int) = (s', 0)) := lock_mine hmine
            go_wp2_with fail
            have hc2 := HC'.out
            rw [HL.out] at hc2
            exact ⟨⟨q + 1, 0, s', by omega, by simp, rfl, hc2, fun _ => HCK.out, HT'.out, HNO'.out, HB'.out, HM'.out, HF'.out⟩, by simp [intOf]; omega⟩
          | false =>
            rw [hmine] at cm
            go_wp2_with fail
            go_region_held3 (fun w' => w'.cell? ⟨D, 0, none⟩ = some (.pointer (some ⟨M, 0, none⟩)) ∧ w'.cell? ⟨K3, q, none⟩ = some (.int .i64 (kk : Int))) (go_keep)
              (first | (go_at_call 108; refine (macquire_calls M (kk : Int) s'.t wr.drew (HM'.out.tb.keep (B := []) (Fr.refl _ _).drew (by simp))).mono ?_; rintro e w4 ⟨rfl, h4, f4⟩; have H4 : Hid (MTabAt w4 M (s'.t.acq (kk : Int)).1) := h4; have F4 : Hid (Fr [M] wr.drew w4) := f4; have v0 := f4.cellv (b := D) (o := 0) d0 nD; have v1 := f4.cellv (b := K3) (o := q) tq nKM; clear h4 f4))
            rename_i hHeld
            clear hHeld v0 v1
            have FW : Fr [M] wr w4 := ((Fr.refl [M] wr).drew).trans F4.out (fun _ _ h => h)
            have HF4 : Hid (Fr [M] w w4) := HF'.out.trans FW (fun _ _ h => h)
            have HM4 : Hid (MLdAt w4 D M { d with t := (s'.t.acq (kk : Int)).1 }) := HM'.out.tab FW H4.out
            have HB4 : Hid (MBat w4 K (K + 1) (K + 1 + 1) u7 s') := HB'.out.keep FW (by have := HLT.out; simp; omega) (by have := HLT.out; simp; omega) (by have := HLT.out; simp; omega)
            have HT4 : Hid (w4.cell? ⟨K3, 0, none⟩ = some (.int .i64 m.f) ∧ w4.cell? ⟨K3, 1, none⟩ = some (.int .i64 m.t)) := ⟨FW.cellv HT'.out.1 nKM, FW.cellv HT'.out.2 nKM⟩
            have tq4 := FW.cellv tq nKM
            have cm4 := FW.cellv cm (by have := HLT.out; simp; omega)
            have f24 := HB4.out.f2
            have lK3 := lt_of_cell tq4
            have hh4 := HB4.out.cnt
            clear cm tq d0 H4 F4 FW HB' HM' HF' HT'
            by_cases q0 : (s'.t.acq (kk : Int)).2.2 = 0
            · have HL : Hid (s'.lock (kk : Int) = ({ s' with t := (s'.t.acq (kk : Int)).1, mine := s'.mine.set kk true, hs := (s'.t.acq (kk : Int)).2.1 :: s'.hs }, 0)) := lock_ok hmine q0
              generalize s'.t.acq (kk : Int) = r at *
              have q0' : (r.2.2 == 0) = true := by simpa using q0
              obtain ⟨i0, hi, hz0, hz1, hz2⟩ := info_of (t := 3) (z := .int .i64 0) (n := 1) (b := 8) (by kernel_rfl)
              go_wp2_with (first
                | (at_builtin; refine wpList_append_own_at _ rfl _ _ 89 rfl (K + 1 + 1) 3 i0 (.int .i64 0) 1 8 Try.underlying89 hi hz0 hz1 hz2 rfl (by decide) u7 s'.hs.length (s'.hs.reverse.map (.int .i64 ·)) rfl (owns_keepX HB4.out.own (((Fr.refl [K + 1] w4).setCell (by simp) _).alloc _) (by simp)) ⟨w4.heap.size, 0, none⟩ 1 1 [.int .i64 r.2.1] rfl rfl (by intro j u hu; rcases j with _ | j <;> simp at hu; subst hu; simp [Addr.add, go_sem]) (fun x hx => by simp at hx; rw [hx]; rfl) (by unfold maxLen; omega) (by omega) (by have := HK3.out; simp; omega) ?_; intro v' w5 hown' hgrow hnil hblk))
              have hrow : ∀ g, u7.ownBlock = some g → K + 1 + 1 ≤ g := by
                intro g hg
                rcases HB4.out.own.2 with ⟨h1, _⟩ | ⟨g', cap, cur, hv', hg', _⟩
                · rw [h1] at hg; simp [Value.ownBlock] at hg
                · rw [hv'] at hg; simp [Value.ownBlock] at hg; omega
              have bD := hgrow.block D (by have := HM4.out.lD; simp; omega) (fun e => by have := hrow D e.symm; have := HLT.out; omega)
              have bM := hgrow.block M (by have := HM4.out.tb.lM; simp; omega) (fun e => by have := hrow M e.symm; have := HLT.out; omega)
              have bK3 := hgrow.block K3 (by simp; omega) (fun e => HNO'.out e.symm)
              have G5 : Fr [K + 1] w4 ((w4.setCell ⟨K + 1, kk, none⟩ (.bool true)).alloc (Obj.cells #[.int .i64 r.2.1] 3)) := ((Fr.refl _ _).setCell (by simp) _).alloc _
              have HM5 : MLdAt w5 D M { d with t := r.1 } := by
                have hm := HM4.out.keep G5 (by have := HLT.out; simp; omega) (by have := HLT.out; simp; omega)
                exact ⟨(World.cell?_of_block bD).trans hm.d0, fun k hk => (World.cell?_of_block bD).trans (hm.cb k hk), (World.cell?_of_block bD).trans hm.cu, fun o => (World.frozen?_of_block bD).trans (hm.fD o),
                  ⟨fun k hk => (World.cell?_of_block bM).trans (hm.tb.co k hk), fun k hk => (World.cell?_of_block bM).trans (hm.tb.cg k hk), (World.cell?_of_block bM).trans hm.tb.ct, fun o => (World.frozen?_of_block bM).trans (hm.tb.fM o), hm.tb.wf⟩, hm.nDM, hm.lb, hm.bb, hm.ub⟩
              have HT5 : w5.cell? ⟨K3, 0, none⟩ = some (.int .i64 m.f) ∧ w5.cell? ⟨K3, 1, none⟩ = some (.int .i64 m.t) := by
                have nn : K3 ∉ [K + 1] := by have := HK3.out; simp; omega
                exact ⟨(World.cell?_of_block bK3).trans (G5.cellv HT4.out.1 nn), (World.cell?_of_block bK3).trans (G5.cellv HT4.out.2 nn)⟩
              have HF5 : Fr [M] w w5 := ((HF4.out.setCell (fun h => by have := HLT.out; dsimp only at h; omega) _).alloc _).grown hgrow (fun g hg => by have := hrow g hg; have := HLT.out; omega)
              have HB5 := MBat.push (t := r.1) HB4.out hk4 hmine (by omega) (by omega) (by omega) hown' hgrow
              have HNO5 : ¬ v'.ownBlock = some K3 := by
                rcases hblk with e | e
                · rw [e]; exact HNO'.out
                · rw [e]; simp; omega
              have hc2 := HC'.out
              rw [HL.out] at hc2
              exact ⟨⟨q + 1, 0, _, by omega, by simp, rfl, hc2, fun _ => HCK.out, HT5, HNO5, HB5, HM5, HF5⟩, by simp [intOf]; omega⟩
            · have HL : Hid (s'.lock (kk : Int) = ({ s' with t := (s'.t.acq (kk : Int)).1 }, (s'.t.acq (kk : Int)).2.2)) := lock_no hmine q0
              generalize s'.t.acq (kk : Int) = r at *
              have q0' : (r.2.2 == 0) = false := by simpa using q0
              clear cm4 tq4
              go_wp2_with fail
              have hc2 := HC'.out
              rw [HL.out] at hc2
              exact ⟨⟨q + 1, r.2.2, { s' with t := r.1 }, by omega, by simp, rfl, hc2, fun h => absurd h q0, HT4.out, HNO'.out, HB4.out.tab r.1, HM4.out, HF4.out⟩, by simp [intOf]; omega⟩
        · have hz : cont m 0 (s, V.check m) = (s', x) := by
            rw [HC.out]
            by_cases hx0 : x = 0
            · have : q = 2 := by omega
              subst this
              rfl
            · exact cont_err m q (s', x) hx0
          have hmv : s.move m = if x = 0 then ({ s' with bal := (V.pay s'.bal m).1 }, (V.pay s'.bal m).2) else (s', x) := by
            rw [move_cont, hz]
          have HMV : Hid (s.move m = if x = 0 then ({ s' with bal := (V.pay s'.bal m).1 }, (V.pay s'.bal m).2) else (s', x)) := hmv
          have hsz : K + 1 + 1 ≤ wr.heap.size := by have := lt_of_cell HT'.out.1; have := HK3.out; omega
          have HSZ' : Hid (K + 1 + 1 ≤ wr.heap.size) := hsz
          clear hz hmv hsz HC HT' HNO'
          by_cases hx0 : x = 0
          · subst hx0
            have hq2 : q = 2 := by omega
            subst hq2
            have hck := HX.out rfl
            have hR := HR.out
            rw [HMV.out, if_pos rfl] at hR
            have HR' : Hid _ := hR
            clear hR HR HMV
            dsimp only at HR'
            obtain ⟨mf, mt, ma⟩ := (HMS.out.keep HF'.out nMSM) k m hmk
            clear hin
            go_wp2_with fail
            refine (mpay_calls K 0 m s'.bal wr HB'.out.cb HB'.out.f1 HB'.out.lb HB'.out.bb hck).mono ?_
            rintro e w5 ⟨rfl, p5⟩
            have HB5 : Hid (MBat w5 K (K + 1) (K + 1 + 1) u7 { s' with bal := (V.pay s'.bal m).1 }) := ⟨p5.cb, fun k hk => p5.fr.cellv (HB'.out.cm k hk) (by simp), fun o => (p5.fr.frz K o (lt_of_cell (HB'.out.cb 0 (by omega)))).trans (HB'.out.f1 o), fun o => p5.fr.frozenv (HB'.out.f2 o) (lt_of_cell (HB'.out.cm 0 (by omega))) (by simp), owns_keepX HB'.out.own p5.fr (by simp; omega), pay_len _ _ HB'.out.lb, pay_bb HB'.out.lb hck HB'.out.bb, HB'.out.lm, HB'.out.hl⟩
            have HM5 : Hid (MLdAt w5 D M { d with t := s'.t }) := HM'.out.keep p5.fr (by have := HLT.out; simp; omega) (by have := HLT.out; simp; omega)
            have HF5 : Hid (Fr [M] w w5) := HF'.out.trans p5.fr (fun x hx hm => by have := HLT.out; simp at hm; omega)
            have HS5 : Hid (K + 1 + 1 ≤ w5.heap.size) := by have := HSZ'.out; have := p5.fr.size; show _ ≤ _; omega
            clear p5 HB' HM' HF' HSZ' mf mt ma
            generalize V.pay s'.bal m = pp at *
            by_cases hp0 : pp.2 = 0
            · rw [hp0]
              have hR := HR'.out
              rw [if_pos hp0] at hR
              have HR2 : Hid _ := hR
              clear hR HR'
              go_wp2_with fail
              exact ⟨⟨k + 1, 0, { s' with bal := pp.1 }, by omega, by simp, rfl, .inl ⟨rfl, by simpa using HR2.out⟩, HB5.out, HM5.out, HS5.out, HF5.out⟩, by simp [intOf]; omega⟩
            · have hp0' : (pp.2 == 0) = false := by simpa using hp0
              have hR := HR'.out
              rw [if_neg hp0] at hR
              have HR2 : Hid _ := hR
              clear hR HR'
              go_wp2_with fail
              exact ⟨⟨k, pp.2, { s' with bal := pp.1 }, by omega, rfl, rfl, .inr ⟨hp0, HR2.out⟩, HB5.out, HM5.out, HS5.out, HF5.out⟩, by simp [intOf, hp0]⟩
          · have hx0' : (x == 0) = false := by simpa using hx0
            have hR := HR.out
            rw [HMV.out, if_neg hx0, if_neg hx0] at hR
            have HR2 : Hid _ := hR
            clear hR HR HMV hin
            by_cases hq2 : (q : Int) < 2
            · go_wp2_with fail
              exact ⟨⟨k, x, s', by omega, rfl, rfl, .inr ⟨hx0, HR2.out⟩, HB'.out, HM'.out, HSZ'.out, HF'.out⟩, by simp [intOf, hx0]⟩
            · go_wp2_with fail
              exact ⟨⟨k, x, s', by omega, rfl, rfl, .inr ⟨hx0, HR2.out⟩, HB'.out, HM'.out, HSZ'.out, HF'.out⟩, by simp [intOf, hx0]⟩
    · have HYs : Hid (Y = (s, (k : Int), x)) := by
        rcases HV.out with ⟨h, e⟩ | ⟨h, e⟩
        · have : k = ms.length := by omega
          subst this
          show _ = _
          rw [e, List.drop_length, h]
          rfl
        · exact e
      have HKX : Hid (x = 0 → k = ms.length) := fun h => by omega
      obtain ⟨A, cp, hu7, hA⟩ : ∃ A cp, u7 = .slice A s.hs.length cp ∧ (0 < s.hs.length → ∃ g, A = some ⟨g, 0, none⟩ ∧ K + 1 + 1 ≤ g ∧ ∀ i, i < s.hs.length → wr.cell? ⟨g, s.hs.length - 1 - i, none⟩ = some (.int .i64 (s.hs.getD i 0))) := by
        rcases HB.out.own.2 with ⟨h1, h2⟩ | ⟨g, cap', cur, hv, hg, hh, h3, h4, h5, h6⟩
        · exact ⟨none, 0, by rw [h1, h2], fun h => by omega⟩
        · refine ⟨_, _, hv, fun hp => ⟨g, rfl, hg, fun i hi => ?_⟩⟩
          have hc : wr.cell? ⟨g, s.hs.length - 1 - i, none⟩ = (s.hs.reverse.map (Value.int .i64 ·))[s.hs.length - 1 - i]? := by
            rw [← h6, List.getElem?_take, if_pos (by omega)]
            simp [World.cell?, hh]
          rw [hc, List.getElem?_map, List.getElem?_reverse (by omega)]
          rw [show s.hs.length - 1 - (s.hs.length - 1 - i) = i by omega, List.getElem?_eq_getElem hi]
          simp [List.getD_eq_getElem?_getD, List.getElem?_eq_getElem hi]
      subst hu7
      have HA : Hid (0 < s.hs.length → ∃ g, A = some ⟨g, 0, none⟩ ∧ K + 1 + 1 ≤ g ∧ ∀ i, i < s.hs.length → wr.cell? ⟨g, s.hs.length - 1 - i, none⟩ = some (.int .i64 (s.hs.getD i 0))) := hA
      have hcn := HB.out.cnt
      have wl : IntKind.i64.wrap ((s.hs.length : Int) - 1) = (s.hs.length : Int) - 1 := by rw [i64w]; omega
      clear hA HV
      clear hgo
      have HW9 : ∃ W9, W9 = wr := ⟨_, rfl⟩
      obtain ⟨W9, hW9⟩ := HW9
      rw [← hW9] at HA HB
      have HE9 : Hid (W9 = wr) := hW9
      clear hW9 nMSM
      have hxk := HKX.out
      clear HKX
      by_cases hkn : (k : Int) < (ms.length : Int)
      · have hx1 : (x == 0) = false := by
          rw [beq_eq_false_iff_ne]
          intro h
          have := hxk h
          omega
        clear hxk
        go_wp2_with fail
        go_loopw [14] (fun j w' => ∃ (p : Nat) (z : Int) (t' : V.Tb), p ≤ s.hs.length ∧ j = .int .i64 z ∧ z = (p : Int) - 1 ∧ V.relAll s.t s.hs = V.relAll t' (s.hs.drop (s.hs.length - p)) ∧ MLdAt w' D M { d with t := t' } ∧ (∀ g o v, g ∉ [M] → W9.cell? ⟨g, o, none⟩ = some v → w'.cell? ⟨g, o, none⟩ = some v) ∧ Fr [M] w w') (fun j _ => (intOf j + 1).toNat)
        case atStart => exact ⟨s.hs.length, _, s.t, Nat.le_refl _, rfl, rfl, by simp, HM.out, fun _ _ _ _ h => by rw [← HE9.out]; exact h, HF.out⟩
        case round =>
          obtain ⟨p, z, t', hp, rfl, hz, hr, hm, hc, hf⟩ := hrel
          have HM' : Hid (MLdAt wr D M { d with t := t' }) := hm
          have HF' : Hid (Fr [M] w wr) := hf
          have HC' : Hid (∀ g o v, g ∉ [M] → W9.cell? ⟨g, o, none⟩ = some v → wr.cell? ⟨g, o, none⟩ = some v) := hc
          have HRA : Hid (V.relAll s.t s.hs = V.relAll t' (s.hs.drop (s.hs.length - p))) := hr
          have d0 := hm.d0
          clear hm hf hr hc
          rcases p with _ | p
          · obtain rfl : z = -1 := by omega
            clear hz
            have hra := HRA.out
            rw [Nat.sub_zero, List.drop_length] at hra
            have HRB : Hid (V.relAll s.t s.hs = t') := hra
            clear hra HRA HA
            have fD := HM'.out.fD
            by_cases hx0 : x = 0
            · subst hx0
              have nKM : K ∉ [M] := by have := HLT.out; simp; omega
              have k0 := HC'.out K 0 _ nKM (HB.out.cb 0 (by omega))
              have k1 := HC'.out K 1 _ nKM (HB.out.cb 1 (by omega))
              have k2 := HC'.out K 2 _ nKM (HB.out.cb 2 (by omega))
              have k3 := HC'.out K 3 _ nKM (HB.out.cb 3 (by omega))
              have e1 := HM'.out.cb 0 (by omega)
              have e2 := HM'.out.cb 1 (by omega)
              have e3 := HM'.out.cb 2 (by omega)
              have e4 := HM'.out.cb 3 (by omega)
              simp only [Nat.reduceAdd] at e1 e2 e3 e4
              clear d0 HC'
              go_wp2_with fail
              go_ret2
              have hq := HQ.out
              rw [HYs.out, if_pos rfl] at hq
              rw [hq, HRB.out]
              exact ⟨rfl, HM'.out.setbal HB.out.lb HB.out.bb, ((((HF'.out.mono (fun x _ h => by simp at h ⊢; exact .inr h)).setCell (by simp) _).setCell (by simp) _).setCell (by simp) _).setCell (by simp) _⟩
            · have hx0' : (x != 0) = true := by simpa using hx0
              have cu := HM'.out.cu
              obtain ⟨ub0, ub1⟩ := HH.out.ub
              dsimp only at cu
              have hq := HQ.out
              rw [HYs.out, if_neg hx0] at hq
              have HQ' : Hid _ := hq
              clear hq d0 HC'
              dsimp only at HQ'
              by_cases hb1 : (0 : Int) < (k : Int)
              · have hq := HQ'.out
                rw [if_pos (Or.inl hb1)] at hq
                have HQ2 : Hid _ := hq
                clear hq HQ'
                go_wp2_with (go_at_call 51; refine calls_same (bump_calls d.und _ ub0 ub1) ?_)
                go_ret2
                rw [HQ2.out, HRB.out]
                exact ⟨rfl, HM'.out.und (bump_bd ⟨ub0, ub1⟩), (HF'.out.mono (fun x _ h => by simp at h ⊢; exact .inr h)).setCell (by simp) _⟩
              · have hk0 : k = 0 := by omega
                subst hk0
                by_cases h7 : x = 7
                · subst h7
                  have hq := HQ'.out
                  rw [if_pos (Or.inr rfl)] at hq
                  have HQ2 : Hid _ := hq
                  clear hq HQ'
                  go_wp2_with (go_at_call 51; refine calls_same (bump_calls d.und _ ub0 ub1) ?_)
                  go_ret2
                  rw [HQ2.out, HRB.out]
                  exact ⟨rfl, HM'.out.und (bump_bd ⟨ub0, ub1⟩), (HF'.out.mono (fun x _ h => by simp at h ⊢; exact .inr h)).setCell (by simp) _⟩
                · have h7' : (x == 7) = false := by simpa using h7
                  have hq := HQ'.out
                  rw [if_neg (by omega)] at hq
                  have HQ2 : Hid _ := hq
                  clear hq HQ'
                  go_wp2_with fail
                  go_ret2
                  rw [HQ2.out, HRB.out]
                  exact ⟨rfl, HM'.out, HF'.out.mono (fun x _ h => by simp at h ⊢; exact .inr h)⟩
          · obtain rfl : z = (p : Int) := by omega
            clear hz
            obtain ⟨g, rfl, hgb, hgc⟩ := HA.out (by omega)
            have hcell := hgc (s.hs.length - 1 - p) (by omega)
            rw [show s.hs.length - 1 - (s.hs.length - 1 - p) = p by omega] at hcell
            have ngM : g ∉ [M] := by have := HLT.out; simp; omega
            have cg := HC'.out g p _ ngM hcell
            have hst := relAll_step t' s.hs (s.hs.length - (p + 1)) (by omega)
            have HST : Hid (V.relAll s.t s.hs = V.relAll (t'.rel (s.hs.getD (s.hs.length - 1 - p) 0)).1 (s.hs.drop (s.hs.length - p))) := by
              show _ = _
              rw [HRA.out, hst, show s.hs.length - (p + 1) + 1 = s.hs.length - p by omega, show s.hs.length - (p + 1) = s.hs.length - 1 - p by omega]
            have hp' : (p : Int) < (s.hs.length : Int) := by omega
            clear hcell hgc hst HRA
            generalize s.hs.getD (s.hs.length - 1 - p) 0 = hh at *
            go_wp2_with fail
            go_region_held3 (fun w' => w'.cell? ⟨D, 0, none⟩ = some (.pointer (some ⟨M, 0, none⟩)) ∧ w'.cell? ⟨g, p, none⟩ = some (.int .i64 hh)) (go_keep)
              (first | (go_at_call 109; refine (mrelease_calls M hh t' wr.drew (HM'.out.tb.keep (B := []) (Fr.refl _ _).drew (by simp))).mono ?_; rintro e w4 ⟨rfl, h4, f4⟩; have H4 : Hid (MTabAt w4 M (t'.rel hh).1) := h4; have F4 : Hid (Fr [M] wr.drew w4) := f4; have v0 := f4.cellv (b := D) (o := 0) d0 nD; have v1 := f4.cellv (b := g) (o := p) cg ngM; clear h4 f4))
            rename_i hHeld
            clear hHeld v0 v1 d0 cg
            have FW : Fr [M] wr w4 := ((Fr.refl [M] wr).drew).trans F4.out (fun _ _ h => h)
            have HFN : Hid (Fr [M] wr w4) := FW
            clear FW F4
            go_wp2_with fail
            exact ⟨⟨p, _, _, by omega, rfl, by simp, HST.out, HM'.out.tab HFN.out H4.out, fun g o v hg h => HFN.out.cellv (HC'.out g o v hg h) hg, HF'.out.trans HFN.out (fun _ _ h => h)⟩, by simp [intOf] <;> omega⟩
      · have HKN : Hid (k = ms.length) := by show _ = _; omega
        clear hxk
        go_wp2_with fail
        go_loopw [14] (fun j w' => ∃ (p : Nat) (z : Int) (t' : V.Tb), p ≤ s.hs.length ∧ j = .int .i64 z ∧ z = (p : Int) - 1 ∧ V.relAll s.t s.hs = V.relAll t' (s.hs.drop (s.hs.length - p)) ∧ MLdAt w' D M { d with t := t' } ∧ (∀ g o v, g ∉ [M] → W9.cell? ⟨g, o, none⟩ = some v → w'.cell? ⟨g, o, none⟩ = some v) ∧ Fr [M] w w') (fun j _ => (intOf j + 1).toNat)
        case atStart => exact ⟨s.hs.length, _, s.t, Nat.le_refl _, rfl, rfl, by simp, HM.out, fun _ _ _ _ h => by rw [← HE9.out]; exact h, HF.out⟩
        case round =>
          obtain ⟨p, z, t', hp, rfl, hz, hr, hm, hc, hf⟩ := hrel
          have HM' : Hid (MLdAt wr D M { d with t := t' }) := hm
          have HF' : Hid (Fr [M] w wr) := hf
          have HC' : Hid (∀ g o v, g ∉ [M] → W9.cell? ⟨g, o, none⟩ = some v → wr.cell? ⟨g, o, none⟩ = some v) := hc
          have HRA : Hid (V.relAll s.t s.hs = V.relAll t' (s.hs.drop (s.hs.length - p))) := hr
          have d0 := hm.d0
          clear hm hf hr hc
          rcases p with _ | p
          · obtain rfl : z = -1 := by omega
            clear hz
            have hra := HRA.out
            rw [Nat.sub_zero, List.drop_length] at hra
            have HRB : Hid (V.relAll s.t s.hs = t') := hra
            clear hra HRA HA
            have fD := HM'.out.fD
            by_cases hx0 : x = 0
            · subst hx0
              have nKM : K ∉ [M] := by have := HLT.out; simp; omega
              have k0 := HC'.out K 0 _ nKM (HB.out.cb 0 (by omega))
              have k1 := HC'.out K 1 _ nKM (HB.out.cb 1 (by omega))
              have k2 := HC'.out K 2 _ nKM (HB.out.cb 2 (by omega))
              have k3 := HC'.out K 3 _ nKM (HB.out.cb 3 (by omega))
              have e1 := HM'.out.cb 0 (by omega)
              have e2 := HM'.out.cb 1 (by omega)
              have e3 := HM'.out.cb 2 (by omega)
              have e4 := HM'.out.cb 3 (by omega)
              simp only [Nat.reduceAdd] at e1 e2 e3 e4
              clear d0 HC'
              go_wp2_with fail
              go_ret2
              have hq := HQ.out
              rw [HYs.out, if_pos rfl] at hq
              rw [hq, HRB.out]
              exact ⟨rfl, HM'.out.setbal HB.out.lb HB.out.bb, ((((HF'.out.mono (fun x _ h => by simp at h ⊢; exact .inr h)).setCell (by simp) _).setCell (by simp) _).setCell (by simp) _).setCell (by simp) _⟩
            · have hx0' : (x != 0) = true := by simpa using hx0
              have cu := HM'.out.cu
              obtain ⟨ub0, ub1⟩ := HH.out.ub
              dsimp only at cu
              have hq := HQ.out
              rw [HYs.out, if_neg hx0] at hq
              have HQ' : Hid _ := hq
              clear hq d0 HC'
              dsimp only at HQ'
              by_cases hb1 : (0 : Int) < (k : Int)
              · have hq := HQ'.out
                rw [if_pos (Or.inl hb1)] at hq
                have HQ2 : Hid _ := hq
                clear hq HQ'
                go_wp2_with (go_at_call 51; refine calls_same (bump_calls d.und _ ub0 ub1) ?_)
                go_ret2
                rw [HQ2.out, HRB.out]
                exact ⟨rfl, HM'.out.und (bump_bd ⟨ub0, ub1⟩), (HF'.out.mono (fun x _ h => by simp at h ⊢; exact .inr h)).setCell (by simp) _⟩
              · have hk0 : k = 0 := by omega
                subst hk0
                by_cases h7 : x = 7
                · subst h7
                  have hq := HQ'.out
                  rw [if_pos (Or.inr rfl)] at hq
                  have HQ2 : Hid _ := hq
                  clear hq HQ'
                  go_wp2_with (go_at_call 51; refine calls_same (bump_calls d.und _ ub0 ub1) ?_)
                  go_ret2
                  rw [HQ2.out, HRB.out]
                  exact ⟨rfl, HM'.out.und (bump_bd ⟨ub0, ub1⟩), (HF'.out.mono (fun x _ h => by simp at h ⊢; exact .inr h)).setCell (by simp) _⟩
                · have h7' : (x == 7) = false := by simpa using h7
                  have hq := HQ'.out
                  rw [if_neg (by omega)] at hq
                  have HQ2 : Hid _ := hq
                  clear hq HQ'
                  go_wp2_with fail
                  go_ret2
                  rw [HQ2.out, HRB.out]
                  exact ⟨rfl, HM'.out, HF'.out.mono (fun x _ h => by simp at h ⊢; exact .inr h)⟩
          · obtain rfl : z = (p : Int) := by omega
            clear hz
            obtain ⟨g, rfl, hgb, hgc⟩ := HA.out (by omega)
            have hcell := hgc (s.hs.length - 1 - p) (by omega)
            rw [show s.hs.length - 1 - (s.hs.length - 1 - p) = p by omega] at hcell
            have ngM : g ∉ [M] := by have := HLT.out; simp; omega
            have cg := HC'.out g p _ ngM hcell
            have hst := relAll_step t' s.hs (s.hs.length - (p + 1)) (by omega)
            have HST : Hid (V.relAll s.t s.hs = V.relAll (t'.rel (s.hs.getD (s.hs.length - 1 - p) 0)).1 (s.hs.drop (s.hs.length - p))) := by
              show _ = _
              rw [HRA.out, hst, show s.hs.length - (p + 1) + 1 = s.hs.length - p by omega, show s.hs.length - (p + 1) = s.hs.length - 1 - p by omega]
            have hp' : (p : Int) < (s.hs.length : Int) := by omega
            clear hcell hgc hst HRA
            generalize s.hs.getD (s.hs.length - 1 - p) 0 = hh at *
            go_wp2_with fail
            go_region_held3 (fun w' => w'.cell? ⟨D, 0, none⟩ = some (.pointer (some ⟨M, 0, none⟩)) ∧ w'.cell? ⟨g, p, none⟩ = some (.int .i64 hh)) (go_keep)
              (first | (go_at_call 109; refine (mrelease_calls M hh t' wr.drew (HM'.out.tb.keep (B := []) (Fr.refl _ _).drew (by simp))).mono ?_; rintro e w4 ⟨rfl, h4, f4⟩; have H4 : Hid (MTabAt w4 M (t'.rel hh).1) := h4; have F4 : Hid (Fr [M] wr.drew w4) := f4; have v0 := f4.cellv (b := D) (o := 0) d0 nD; have v1 := f4.cellv (b := g) (o := p) cg ngM; clear h4 f4))
            rename_i hHeld
            clear hHeld v0 v1 d0 cg
            have FW : Fr [M] wr w4 := ((Fr.refl [M] wr).drew).trans F4.out (fun _ _ h => h)
            have HFN : Hid (Fr [M] wr w4) := FW
            clear FW F4
            go_wp2_with fail
            exact ⟨⟨p, _, _, by omega, rfl, by simp, HST.out, HM'.out.tab HFN.out H4.out, fun g o v hg h => HFN.out.cellv (HC'.out g o v hg h) hg, HF'.out.trans HFN.out (fun _ _ h => h)⟩, by simp [intOf] <;> omega⟩

end Go.Proofs.Qxb6500360a
