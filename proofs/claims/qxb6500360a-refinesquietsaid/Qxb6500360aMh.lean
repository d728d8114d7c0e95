/-
  L3, abstract: Serve, Show, New, Ledger of the model's gate; the model's player.
-/
import Derived.Test.Qxb6500360aMg
import Derived.Test.Qxb6500360aKb
namespace Go.Proofs.Qxb6500360a
open Go.RowKit
set_option linter.unusedSimpArgs false
set_option linter.unusedVariables false

/-- The model's gate g lies at G. -/
structure MGtAt (w : World) (G D M : Nat) (g : V.Gt) : Prop where
  ct : CtAt w G D g.c
  ld : MLdAt w D M g.d
  nG : G ∉ [D, M]
theorem MGtAt.keep {w w' : World} {G D M : Nat} {g : V.Gt} (h : MGtAt w G D M g) {X : List Nat} (hf : Fr X w w') (hX : ∀ x ∈ [G, D, M], x ∉ X) : MGtAt w' G D M g :=
  ⟨h.ct.keep hf (hX G (by simp)), h.ld.keep hf (hX D (by simp)) (hX M (by simp)), h.nG⟩
theorem MGtAt.lt {w : World} {G D M : Nat} {g : V.Gt} (h : MGtAt w G D M g) : ∀ x ∈ [G, D, M], x < w.heap.size := by
  intro x hx
  have a0 := h.ct.lG
  have a1 := h.ld.lD
  have a2 := h.ld.tb.lM
  simp at hx
  rcases hx with rfl | rfl | rfl <;> assumption

set_option maxHeartbeats 1000000 in
set_option maxRecDepth 100000 in
theorem mserve_long (G D M : Nat) (d : V.Ld) (s : ByteArray) (w : World) (h : MLdAt w D M d) (hl : 20 < s.size) :
    Calls Try.prog 94 #[.pointer (some ⟨G, 0, none⟩), .string s] w fun e w' => e = .returned (.tuple #[S (V.answer d (L s)).2.1, .int .i64 (V.answer d (L s)).2.2]) ∧ MLdAt w' D M (V.answer d (L s)).1 ∧ Fr [D, M] w w' := by
  have hli : (20 : Int) < (s.size : Int) := by omega
  have ha : V.answer d (L s) = (d, [], 1) := by simp only [V.answer, L_len]; rw [if_neg (by omega)]
  rw [ha]
  have HH : Hid (MLdAt w D M d) := h
  clear ha h hl
  go_enter Try.func94, Try.ntmps94
  go_wp2_with fail
  go_ret2
  exact ⟨rfl, HH.out, Fr.refl _ _⟩
set_option maxHeartbeats 1000000 in
set_option maxRecDepth 100000 in
theorem mserve_empty (G D M : Nat) (d : V.Ld) (s : ByteArray) (w : World) (h : MLdAt w D M d) (hl : s.size = 0) :
    Calls Try.prog 94 #[.pointer (some ⟨G, 0, none⟩), .string s] w fun e w' => e = .returned (.tuple #[S (V.answer d (L s)).2.1, .int .i64 (V.answer d (L s)).2.2]) ∧ MLdAt w' D M (V.answer d (L s)).1 ∧ Fr [D, M] w w' := by
  have hli : ((s.size : Nat) : Int) = 0 := by omega
  have hL : L s = [] := by have := L_len s; rw [hl] at this; exact List.length_eq_zero_iff.mp this
  have ha : V.answer d (L s) = (d, [64, 48], 8) := by rw [hL]; rfl
  rw [ha]
  have HH : Hid (MLdAt w D M d) := h
  clear ha h hl hL
  go_enter Try.func94, Try.ntmps94
  go_wp2_with fail
  go_ret2
  exact ⟨rfl, HH.out, Fr.refl _ _⟩
set_option maxHeartbeats 1000000 in
set_option maxRecDepth 100000 in
theorem mserve_other (G D M : Nat) (d : V.Ld) (s : ByteArray) (w : World) (h : MLdAt w D M d) (hl : s.size ≤ 20) (h0 : 0 < s.size) (v1 : ¬ s[0] = 65) (v2 : ¬ s[0] = 66) (v3 : ¬ s[0] = 78) (v4 : ¬ s[0] = 83) (v5 : ¬ s[0] = 84) (v6 : ¬ s[0] = 88) :
    Calls Try.prog 94 #[.pointer (some ⟨G, 0, none⟩), .string s] w fun e w' => e = .returned (.tuple #[S (V.answer d (L s)).2.1, .int .i64 (V.answer d (L s)).2.2]) ∧ MLdAt w' D M (V.answer d (L s)).1 ∧ Fr [D, M] w w' := by
  have hli : ¬ (20 : Int) < (s.size : Int) := by omega
  have hz : (((s.size : Nat) : Int) == 0) = false := by rw [beq_eq_false_iff_ne]; omega
  have h0i : (0 : Int) < (s.size : Int) := by omega
  have ha : V.answer d (L s) = (d, [64, 48], 8) := by
    have hd : V.decode (L s) = .error 0 := by rw [decode_eq s h0, L_at s 0 h0, if_neg v1, if_neg (by simp [v2, v3]), if_neg v4, if_neg v5, if_neg v6]
    rw [answer_err hl hd]; rfl
  have hne : ∀ (k : UInt8), ¬ s[0] = k → (((s[0].toNat : Nat) : Int) == ((k.toNat : Nat) : Int)) = false := by
    intro k hk
    rw [beq_eq_false_iff_ne]
    intro e
    exact hk (UInt8.toNat_inj.mp (by omega))
  have b1 : (((s[0].toNat : Nat) : Int) == 65) = false := hne 65 v1
  have b2 : (((s[0].toNat : Nat) : Int) == 66) = false := hne 66 v2
  have b3 : (((s[0].toNat : Nat) : Int) == 78) = false := hne 78 v3
  have b4 : (((s[0].toNat : Nat) : Int) == 83) = false := hne 83 v4
  have b5 : (((s[0].toNat : Nat) : Int) == 84) = false := hne 84 v5
  have b6 : (((s[0].toNat : Nat) : Int) == 88) = false := hne 88 v6
  rw [ha]
  have HH : Hid (MLdAt w D M d) := h
  clear ha h hl hne v1 v2 v3 v4 v5 v6
  go_enter Try.func94, Try.ntmps94
  go_wp2_with fail
  go_ret2
  exact ⟨rfl, HH.out.keep (B := []) (((Fr.refl _ _).alloc _).alloc _) (by simp) (by simp), ((Fr.refl _ _).alloc _).alloc _⟩
theorem mserve_calls (G D M : Nat) (d : V.Ld) (s : ByteArray) (w : World) (h : MLdAt w D M d) (cG : w.cell? ⟨G, 0, none⟩ = some (.pointer (some ⟨D, 0, none⟩))) (hG : G ∉ [D, M]) :
    Calls Try.prog 94 #[.pointer (some ⟨G, 0, none⟩), .string s] w fun e w' => e = .returned (.tuple #[S (V.answer d (L s)).2.1, .int .i64 (V.answer d (L s)).2.2]) ∧ MLdAt w' D M (V.answer d (L s)).1 ∧ Fr [D, M] w w' := by
  by_cases hl : s.size ≤ 20
  · by_cases h0 : 0 < s.size
    · by_cases v1 : s[0] = 65
      · exact mserve_A G D M d s w h cG hG hl h0 v1
      · by_cases v2 : s[0] = 66
        · exact mserve_B G D M d s w h cG hG hl h0 v2
        · by_cases v3 : s[0] = 78
          · exact mserve_N G D M d s w h cG hG hl h0 v3
          · by_cases v4 : s[0] = 83
            · exact mserve_S G D M d s w h cG hG hl h0 v4
            · by_cases v5 : s[0] = 84
              · exact mserve_T G D M d s w h cG hG hl h0 v5
              · by_cases v6 : s[0] = 88
                · exact mserve_X G D M d s w h cG hG hl h0 v6
                · exact mserve_other G D M d s w h hl h0 v1 v2 v3 v4 v5 v6
    · exact mserve_empty G D M d s w h (by omega)
  · exact mserve_long G D M d s w h (by omega)

/-- What the model's Serve leaves. -/
def MServeOut (w : World) (G D M : Nat) (r : V.Gt × List UInt8 × Int) (e : Ending) (w' : World) : Prop :=
  e = .returned (.tuple #[S r.2.1, .int .i64 r.2.2]) ∧ MGtAt w' G D M r.1 ∧ Fr [G, D, M] w w'
set_option maxHeartbeats 1000000 in
set_option maxRecDepth 100000 in
theorem mserve_any (G D M : Nat) (g : V.Gt) (s : ByteArray) (w : World) (h : MGtAt w G D M g) :
    Calls Try.prog 68 #[.pointer (some ⟨G, 0, none⟩), .string s] w (MServeOut w G D M (g.serve (L s))) := by
  have hr : g.serve (L s) = (⟨g.c.count (V.answer g.d (L s)).2.2, (V.answer g.d (L s)).1⟩, (V.answer g.d (L s)).2.1, (V.answer g.d (L s)).2.2) := rfl
  rw [hr]
  have HH : Hid (MGtAt w G D M g) := h
  have HR : Hid (Calls Try.prog 94 #[.pointer (some ⟨G, 0, none⟩), .string s] w fun e w' => e = .returned (.tuple #[S (V.answer g.d (L s)).2.1, .int .i64 (V.answer g.d (L s)).2.2]) ∧ MLdAt w' D M (V.answer g.d (L s)).1 ∧ Fr [D, M] w w') := mserve_calls G D M g.d s w h.ld h.ct.c0 h.nG
  clear hr h
  generalize V.answer g.d (L s) = r at *
  obtain ⟨d1, an, e⟩ := r
  dsimp only at *
  go_enter Try.func68, Try.ntmps68
  go_wp2_with fail
  refine HR.out.mono ?_
  rintro x w1 ⟨rfl, h1, f1⟩
  have hc1 := HH.out.ct.keep f1 HH.out.nG
  obtain ⟨c0, c1, c2, c3, c4, f, ⟨wa, wb, wc, wd⟩⟩ := hc1
  obtain ⟨a1, a2⟩ := wa
  obtain ⟨b1, b2⟩ := wb
  obtain ⟨d1', d2⟩ := wc
  obtain ⟨e1, e2⟩ := wd
  have L1 : Hid (MLdAt w1 D M d1) := h1
  have F1 : Hid (Fr [D, M] w w1) := f1
  have KD : Hid (∀ v, (∀ o, MGtAt (w1.setCell ⟨G, o, none⟩ v) G D M ⟨g.c, d1⟩ → True) ∧ ∀ o, MLdAt (w1.setCell ⟨G, o, none⟩ v) D M d1 ∧ Fr [G, D, M] w (w1.setCell ⟨G, o, none⟩ v)) := by
    intro v
    refine ⟨fun _ _ => trivial, fun o => ⟨h1.keep (B := [G]) ((Fr.refl _ _).setCell (by simp) _) (by have := HH.out.nG; simp at this ⊢; omega) (by have := HH.out.nG; simp at this ⊢; omega), (f1.mono (fun x _ h => by simp at h ⊢; exact .inr h)).setCell (by simp) _⟩⟩
  clear h1 f1 HR
  generalize hgc : g.c = c at *
  by_cases h0 : e = 0
  · subst h0
    go_wp2_with (go_at_call 51; refine calls_same (bump_calls _ _ a1 a2) ?_)
    go_ret2
    have hc : c.count 0 = { c with ok := V.bump c.ok } := by simp [V.Ct.count]
    rw [hc]
    exact ⟨rfl, ⟨⟨by simp [cell_set, c0], by simp [cell_set, c1], by simp [cell_set, c2], by simp [cell_set, c3], by simp [cell_set, c4], fun o => by simp [f], ⟨bump_bd ⟨a1, a2⟩, ⟨b1, b2⟩, ⟨d1', d2⟩, ⟨e1, e2⟩⟩⟩, ((KD.out _).2 _).1, HH.out.nG⟩, ((KD.out _).2 _).2⟩
  · by_cases h1 : e = 1 ∨ e = 8
    · have hc : c.count e = { c with bad := V.bump c.bad } := by simp only [V.Ct.count, if_neg h0, if_pos h1]
      have HC : Hid (c.count e = { c with bad := V.bump c.bad }) := hc
      have n0 : (e == 0) = false := by simpa using h0
      clear hc
      rcases h1 with rfl | rfl
      all_goals
        clear h0
        go_wp2_with (go_at_call 51; refine calls_same (bump_calls _ _ b1 b2) ?_)
        go_ret2
        rw [HC.out]
        exact ⟨rfl, ⟨⟨by simp [cell_set, c0], by simp [cell_set, c1], by simp [cell_set, c2], by simp [cell_set, c3], by simp [cell_set, c4], fun o => by simp [f], ⟨⟨a1, a2⟩, bump_bd ⟨b1, b2⟩, ⟨d1', d2⟩, ⟨e1, e2⟩⟩⟩, ((KD.out _).2 _).1, HH.out.nG⟩, ((KD.out _).2 _).2⟩
    · by_cases h9 : e = 9
      · subst h9
        have HC : Hid (c.count 9 = { c with it := V.bump c.it }) := by show _ = _; simp [V.Ct.count]
        clear h0 h1
        go_wp2_with (go_at_call 51; refine calls_same (bump_calls _ _ e1 e2) ?_)
        go_ret2
        rw [HC.out]
        exact ⟨rfl, ⟨⟨by simp [cell_set, c0], by simp [cell_set, c1], by simp [cell_set, c2], by simp [cell_set, c3], by simp [cell_set, c4], fun o => by simp [f], ⟨⟨a1, a2⟩, ⟨b1, b2⟩, ⟨d1', d2⟩, bump_bd ⟨e1, e2⟩⟩⟩, ((KD.out _).2 _).1, HH.out.nG⟩, ((KD.out _).2 _).2⟩
      · have HC : Hid (c.count e = { c with er := V.bump c.er }) := by show _ = _; simp only [V.Ct.count, if_neg h0, if_neg h1, if_neg h9]
        have n0 : (e == 0) = false := by simpa using h0
        have n1 : (e == 1) = false := by simp; intro h; exact h1 (.inl h)
        have n8 : (e == 8) = false := by simp; intro h; exact h1 (.inr h)
        have n9 : (e == 9) = false := by simpa using h9
        clear h0 h1 h9
        go_wp2_with (go_at_call 51; refine calls_same (bump_calls _ _ d1' d2) ?_)
        go_ret2
        rw [HC.out]
        exact ⟨rfl, ⟨⟨by simp [cell_set, c0], by simp [cell_set, c1], by simp [cell_set, c2], by simp [cell_set, c3], by simp [cell_set, c4], fun o => by simp [f], ⟨⟨a1, a2⟩, ⟨b1, b2⟩, bump_bd ⟨d1', d2⟩, ⟨e1, e2⟩⟩⟩, ((KD.out _).2 _).1, HH.out.nG⟩, ((KD.out _).2 _).2⟩

set_option maxHeartbeats 1000000 in
set_option maxRecDepth 100000 in
theorem mgshow_calls (G D M : Nat) (g : V.Gt) (w : World) (h : MGtAt w G D M g) :
    Calls Try.prog 45 #[.pointer (some ⟨G, 0, none⟩)] w fun e w' => e = .returned (S g.show) ∧ Fr [] w w' := by
  have HH : Hid (MGtAt w G D M g) := h
  obtain ⟨⟨c0, c1, c2, c3, c4, cf, ⟨wa, wb, wc, wd⟩⟩, hl, hn⟩ := h
  have hlen : (g.d.show).length ≤ 200 := shB_show g.d (by have := hl.tb.wf.tr; omega)
  have i1 := itoa_len g.c.ok
  have i2 := itoa_len g.c.bad
  have i3 := itoa_len g.c.er
  have i4 := itoa_len g.c.it
  obtain ⟨x1, e1, h1⟩ := add_ex [111, 107, 61] (V.itoa g.c.ok) (by simp; omega)
  obtain ⟨x2, e2, h2⟩ := add_ex x1 [32, 98, 97, 100, 61] (by rw [e1]; simp; omega)
  obtain ⟨x3, e3, h3⟩ := add_ex x2 (V.itoa g.c.bad) (by rw [e2, e1]; simp; omega)
  obtain ⟨x4, e4, h4⟩ := add_ex x3 [32, 101, 114, 114, 61] (by rw [e3, e2, e1]; simp; omega)
  obtain ⟨x5, e5, h5⟩ := add_ex x4 (V.itoa g.c.er) (by rw [e4, e3, e2, e1]; simp; omega)
  obtain ⟨x6, e6, h6⟩ := add_ex x5 [32, 105, 110, 116, 61] (by rw [e5, e4, e3, e2, e1]; simp; omega)
  obtain ⟨x7, e7, h7⟩ := add_ex x6 (V.itoa g.c.it) (by rw [e6, e5, e4, e3, e2, e1]; simp; omega)
  obtain ⟨x8, e8, h8⟩ := add_ex x7 [32, 124, 32] (by rw [e7, e6, e5, e4, e3, e2, e1]; simp; omega)
  obtain ⟨x9, e9, h9⟩ := add_ex x8 g.d.show (by rw [e8, e7, e6, e5, e4, e3, e2, e1]; simp; omega)
  have HE : Hid (x9 = g.show) := by show _ = _; rw [e9, e8, e7, e6, e5, e4, e3, e2, e1]; simp [V.Gt.show, V.Ct.head]
  clear e1 e2 e3 e4 e5 e6 e7 e8 e9 i1 i2 i3 i4 hlen hl hn cf
  change ∀ W, (binOp .add 9 (.string ⟨#[111, 107, 61]⟩) (S (V.itoa g.c.ok))).run Try.prog W = .ok (S x1) W at h1
  change ∀ W, (binOp .add 9 (S x1) (.string ⟨#[32, 98, 97, 100, 61]⟩)).run Try.prog W = .ok (S x2) W at h2
  change ∀ W, (binOp .add 9 (S x3) (.string ⟨#[32, 101, 114, 114, 61]⟩)).run Try.prog W = .ok (S x4) W at h4
  change ∀ W, (binOp .add 9 (S x5) (.string ⟨#[32, 105, 110, 116, 61]⟩)).run Try.prog W = .ok (S x6) W at h6
  change ∀ W, (binOp .add 9 (S x7) (.string ⟨#[32, 124, 32]⟩)).run Try.prog W = .ok (S x8) W at h8
  go_enter Try.func45, Try.ntmps45
  go_wp2_with fail
  refine (itoa_calls g.c.ok _ wa.1 (by omega)).mono ?_
  rintro e w1 ⟨rfl, f1⟩
  replace c0 := f1.cellv c0 (by simp)
  replace c2 := f1.cellv c2 (by simp)
  replace c3 := f1.cellv c3 (by simp)
  replace c4 := f1.cellv c4 (by simp)
  have F1 : Hid (Fr [] w w1) := f1
  clear f1 c1
  go_wp2_with fail
  refine (itoa_calls g.c.bad _ wb.1 (by omega)).mono ?_
  rintro e w2 ⟨rfl, f2⟩
  replace c0 := f2.cellv c0 (by simp)
  replace c3 := f2.cellv c3 (by simp)
  replace c4 := f2.cellv c4 (by simp)
  have F2 : Hid (Fr [] w w2) := F1.out.trans f2 (by simp)
  clear f2 c2
  go_wp2_with fail
  refine (itoa_calls g.c.er _ wc.1 (by omega)).mono ?_
  rintro e w3 ⟨rfl, f3⟩
  replace c0 := f3.cellv c0 (by simp)
  replace c4 := f3.cellv c4 (by simp)
  have F3 : Hid (Fr [] w w3) := F2.out.trans f3 (by simp)
  clear f3 c3
  go_wp2_with fail
  refine (itoa_calls g.c.it _ wd.1 (by omega)).mono ?_
  rintro e w4 ⟨rfl, f4⟩
  replace c0 := f4.cellv c0 (by simp)
  have F4 : Hid (Fr [] w w4) := F3.out.trans f4 (by simp)
  clear f4 c4
  go_wp2_with fail
  refine (mdshow_calls D M g.d _ (HH.out.ld.keep F4.out (by simp) (by simp))).mono ?_
  rintro e w5 ⟨rfl, f5⟩
  have F5 : Hid (Fr [] w w5) := F4.out.trans f5 (by simp)
  clear f5
  go_wp2_with fail
  go_ret
  exact ⟨S_congr HE.out, F5.out⟩

set_option maxHeartbeats 1000000 in
set_option maxRecDepth 100000 in
theorem mgnew_calls (w : World) :
    Calls Try.prog 40 #[] w fun e w' => ∃ G D M, e = .returned (.pointer (some ⟨G, 0, none⟩)) ∧ MGtAt w' G D M ⟨⟨0, 0, 0, 0⟩, V.Ld.fresh⟩ ∧ Fr [] w w' ∧ (∀ x ∈ [G, D, M], w.heap.size ≤ x) := by
  go_enter Try.func40, Try.ntmps40
  go_wp2_with fail
  refine (mdnew_calls w).mono ?_
  rintro e w1 ⟨D, M, rfl, h1, f1, s1, s2⟩
  have H1 : Hid (MLdAt w1 D M V.Ld.fresh) := h1
  have F1 : Hid (Fr [] w w1) := f1
  have lD := h1.lD
  have lM := h1.tb.lM
  clear h1 f1
  go_wp2_with fail
  go_ret
  refine ⟨w1.heap.size, D, M, rfl, ⟨⟨by simp [go_sem], by simp [go_sem], by simp [go_sem], by simp [go_sem], by simp [go_sem], fun o => by simp [go_sem], ⟨by simp, by simp, by simp, by simp⟩⟩, H1.out.keep (B := []) ((Fr.refl _ _).alloc _) (by simp) (by simp), by simp; omega⟩, F1.out.alloc _, ?_⟩
  have := F1.out.size
  simp
  omega

set_option maxHeartbeats 1000000 in
set_option maxRecDepth 100000 in
theorem mled_calls (G D M : Nat) (g : V.Gt) (w : World) (h : MGtAt w G D M g) :
    Calls Try.prog 43 #[.pointer (some ⟨G, 0, none⟩)] w fun e w' => e = .returned (.pointer (some ⟨D, 0, none⟩)) ∧ w' = w := by
  have c0 := h.ct.c0
  clear h
  go_enter Try.func43, Try.ntmps43
  go_wp2_with fail
  go_ret
  exact ⟨rfl, rfl⟩

set_option maxHeartbeats 1000000 in
set_option maxRecDepth 100000 in
theorem dom_calls (G D M : Nat) (g : V.Gt) (o : Op) (w : World) (h : MGtAt w G D M g) :
    Calls Try.prog 42 #[.pointer (some ⟨G, 0, none⟩), opV o] w fun x w' => x = .returned (ansV (doG g o).2.1 (doG g o).2.2) ∧ MGtAt w' G D M (doG g o).1 ∧ Fr [G, D, M] w w' := by
  obtain ⟨k, a, b, c, s, t⟩ := o
  have HH : Hid (MGtAt w G D M g) := h
  have HL : Hid (G < w.heap.size ∧ D < w.heap.size ∧ M < w.heap.size) := ⟨h.ct.lG, h.ld.lD, h.ld.tb.lM⟩
  clear h
  unfold opV
  dsimp only
  by_cases h2 : k = 2
  · subst h2
    have hq : doG g ⟨2, a, b, c, s, t⟩ = ((g.serve (LL s)).1, (g.serve (LL s)).2.2, (g.serve (LL s)).2.1) := rfl
    rw [hq]
    clear hq
    have hsv := fun W (hW : MGtAt W G D M g) => mserve_any G D M g s W hW
    have HR : Hid (∀ W, MGtAt W G D M g → Calls Try.prog 68 #[.pointer (some ⟨G, 0, none⟩), .string s] W (MServeOut W G D M (g.serve (LL s)))) := hsv
    clear hsv
    generalize g.serve (LL s) = r at *
    obtain ⟨g1, an, er⟩ := r
    dsimp only
    go_enter Try.func42, Try.ntmps42
    go_wp2_with fail
    refine (HR.out _ (HH.out.keep (X := []) (((Fr.refl _ _).alloc _).alloc _) (by simp))).mono ?_
    rintro e w1 ⟨rfl, h1, f1⟩
    have nP : w.heap.size + 1 ∉ [G, D, M] := by have := HL.out; simp; omega
    have k0 := f1.cellv (b := w.heap.size + 1) (o := 0) (v := .int .i64 0) (by simp [go_sem]) nP
    have k1 := f1.cellv (b := w.heap.size + 1) (o := 1) (v := .int .i64 0) (by simp [go_sem]) nP
    have k2 := f1.cellv (b := w.heap.size + 1) (o := 2) (v := .int .i64 0) (by simp [go_sem]) nP
    have k3 := f1.cellv (b := w.heap.size + 1) (o := 3) (v := .string ⟨#[]⟩) (by simp [go_sem]) nP
    have z0 := f1.frozenv (b := w.heap.size + 1) (o := 0) (by simp [go_sem]) (by simp) nP
    have z1 := f1.frozenv (b := w.heap.size + 1) (o := 1) (by simp [go_sem]) (by simp) nP
    have z2 := f1.frozenv (b := w.heap.size + 1) (o := 2) (by simp [go_sem]) (by simp) nP
    have z3 := f1.frozenv (b := w.heap.size + 1) (o := 3) (by simp [go_sem]) (by simp) nP
    have H1 : Hid (MGtAt w1 G D M g1) := h1
    have F1 : Hid (Fr [G, D, M] w w1) := (((Fr.refl _ _).alloc _).alloc _).trans f1 (fun _ _ h => h)
    clear h1 f1 nP HR
    unfold S
    go_wp2_with fail
    have FX : Hid (Fr [w.heap.size + 1] w1 ((((w1.setCell ⟨w.heap.size + 1, 0, none⟩ (.int .i64 er)).setCell ⟨w.heap.size + 1, 1, none⟩ (.int .i64 0)).setCell ⟨w.heap.size + 1, 2, none⟩ (.int .i64 0)).setCell ⟨w.heap.size + 1, 3, none⟩ (.string ⟨an.toArray⟩))) := ((((Fr.refl _ _).setCell (by simp) _).setCell (by simp) _).setCell (by simp) _).setCell (by simp) _
    have nX : ∀ x ∈ [G, D, M], x ∉ [w.heap.size + 1] := by have := HL.out; simp; omega
    refine bodyPost_ret (v := ansV er an) (by simp [results, Try.results42, go_sem, cell_set, k0, k1, k2, k3]; rfl) rfl ⟨rfl, H1.out.keep FX.out nX, F1.out.trans FX.out (fun x hx hm => by simp at hm; omega)⟩
  · by_cases h3 : k = 3
    · subst h3
      have hq : doG g ⟨3, a, b, c, s, t⟩ = (g, 0, g.show) := rfl
      rw [hq]
      clear hq h2
      have HR : Hid (∀ W, MGtAt W G D M g → Calls Try.prog 45 #[.pointer (some ⟨G, 0, none⟩)] W fun e w' => e = .returned (S g.show) ∧ Fr [] W w') := fun W hW => mgshow_calls G D M g W hW
      dsimp only
      generalize g.show = an at *
      go_enter Try.func42, Try.ntmps42
      go_wp2_with fail
      refine (HR.out _ (HH.out.keep (X := []) (((Fr.refl _ _).alloc _).alloc _) (by simp))).mono ?_
      rintro e w1 ⟨rfl, f1⟩
      have k0 := f1.cellv (b := w.heap.size + 1) (o := 0) (v := .int .i64 0) (by simp [go_sem]) (by simp)
      have k1 := f1.cellv (b := w.heap.size + 1) (o := 1) (v := .int .i64 0) (by simp [go_sem]) (by simp)
      have k2 := f1.cellv (b := w.heap.size + 1) (o := 2) (v := .int .i64 0) (by simp [go_sem]) (by simp)
      have k3 := f1.cellv (b := w.heap.size + 1) (o := 3) (v := .string ⟨#[]⟩) (by simp [go_sem]) (by simp)
      have z0 := f1.frozenv (b := w.heap.size + 1) (o := 0) (by simp [go_sem]) (by simp) (by simp)
      have z1 := f1.frozenv (b := w.heap.size + 1) (o := 1) (by simp [go_sem]) (by simp) (by simp)
      have z2 := f1.frozenv (b := w.heap.size + 1) (o := 2) (by simp [go_sem]) (by simp) (by simp)
      have z3 := f1.frozenv (b := w.heap.size + 1) (o := 3) (by simp [go_sem]) (by simp) (by simp)
      have F1 : Hid (Fr [] w w1) := (((Fr.refl _ _).alloc _).alloc _).trans f1 (by simp)
      clear f1 HR
      unfold S
      go_wp2_with fail
      have FX : Hid (Fr [] w ((((w1.setCell ⟨w.heap.size + 1, 0, none⟩ (.int .i64 0)).setCell ⟨w.heap.size + 1, 1, none⟩ (.int .i64 0)).setCell ⟨w.heap.size + 1, 2, none⟩ (.int .i64 0)).setCell ⟨w.heap.size + 1, 3, none⟩ (.string ⟨an.toArray⟩))) := (((F1.out.setCell (fun h => absurd h (by simp)) _).setCell (fun h => absurd h (by simp)) _).setCell (fun h => absurd h (by simp)) _).setCell (fun h => absurd h (by simp)) _
      refine bodyPost_ret (v := ansV 0 an) (by simp [results, Try.results42, go_sem, cell_set, k0, k1, k2, k3]; rfl) rfl ⟨rfl, HH.out.keep FX.out (by simp), FX.out.mono (by simp)⟩
    · have hq : doG g ⟨k, a, b, c, s, t⟩ = (g, 0, []) := by unfold doG; dsimp only; rw [if_neg h2, if_neg h3]
      rw [hq]
      have j2 : (k == 2) = false := by simpa using h2
      have j3 : (k == 3) = false := by simpa using h3
      clear hq h2 h3
      go_enter Try.func42, Try.ntmps42
      go_wp2_with fail
      have FX : Hid (Fr [] w ((w.alloc (Obj.cells #[.int .i64 k, .int .i64 a, .int .i64 b, .int .i64 c, .string s, .string t] 65)).alloc (Obj.cells #[.int .i64 0, .int .i64 0, .int .i64 0, .string ⟨#[]⟩] 68))) := ((Fr.refl _ _).alloc _).alloc _
      refine bodyPost_ret (v := ansV 0 []) (by simp [results, Try.results42, go_sem]; rfl) rfl ⟨rfl, HH.out.keep FX.out (by simp), FX.out.mono (by simp)⟩


end Go.Proofs.Qxb6500360a
