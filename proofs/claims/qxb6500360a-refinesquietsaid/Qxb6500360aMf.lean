/-
  L3, abstract: serve of the model's gate.
-/
import Derived.Test.Qxb6500360aMd
import Derived.Test.Qxb6500360aMe
import Derived.Test.Qxb6500360aGc
import Derived.Test.Qxb6500360aMo
namespace Go.Proofs.Qxb6500360a
open Go.RowKit
set_option linter.unusedSimpArgs false
set_option linter.unusedVariables false

theorem answer_err {d : V.Ld} {s : ByteArray} {q : Nat} (hl : s.size ≤ 20) (h : V.decode (L s) = .error q) : V.answer d (L s) = (d, [64] ++ V.itoa (q : Int), 8) := by
  simp only [V.answer, L_len, if_pos hl, h]
theorem answer_some {d : V.Ld} {s : ByteArray} {c : V.Cmd} {r : List UInt8 × Int} (hl : s.size ≤ 20) (h : V.decode (L s) = .ok c) (hr : (V.run d c).2 = some r) : V.answer d (L s) = ((V.run d c).1, r.1, r.2) := by
  simp only [V.answer, L_len, if_pos hl, h, hr]
theorem answer_none {d : V.Ld} {s : ByteArray} {c : V.Cmd} (hl : s.size ≤ 20) (h : V.decode (L s) = .ok c) (hr : (V.run d c).2 = none) : V.answer d (L s) = ((V.run d c).1, [], 9) := by
  simp only [V.answer, L_len, if_pos hl, h, hr]
theorem MLdAt.bd {w : World} {D M : Nat} {d : V.Ld} (h : MLdAt w D M d) : ∀ k, 0 ≤ V.bl d.bal k ∧ V.bl d.bal k ≤ 250 := bl_bd h.lb h.bb
/-- Where the scanning of a batch stands: n moves have been tried. -/
def XSt (s : ByteArray) (n : Nat) (x : Except Nat Nat) (ms : List V.Mv) : Prop :=
  (∃ p f, x = .ok p ∧ s.size < f + 1 + p ∧ ms.length ≤ p ∧ n ≤ p ∧ p ≤ s.size ∧ (n = 0 ∨ p < s.size) ∧ V.pMoves (L s) (L s).length 1 [] = V.pMoves (L s) (f + 1) p ms) ∨
  (∃ q, x = .error q ∧ 0 < n ∧ V.pMoves (L s) (L s).length 1 [] = .error q) ∨
  (∃ p, x = .ok p ∧ 0 < n ∧ ¬ p < s.size ∧ 0 < ms.length ∧ ms.length ≤ 20 ∧ V.pMoves (L s) (L s).length 1 [] = .ok ms)
theorem pMust_ok {s : List UInt8} {q r : Nat} (h : V.pMust s 59 q = .ok r) : r = q + 1 ∧ q < s.length := by
  unfold V.pMust at h
  split at h
  · rename_i hc
    simp at hc
    cases h
    exact ⟨rfl, hc.1⟩
  · cases h
theorem xst_next {s : ByteArray} {n p f : Nat} {ms : List V.Mv} (hl : s.size ≤ 20) (hf : s.size < f + 1 + p) (hm : ms.length ≤ p) (hn : n ≤ p) (hp : p ≤ s.size) (ht : V.pMoves (L s) (L s).length 1 [] = V.pMoves (L s) (f + 1) p ms) :
    XSt s (n + 1) (xMust (L s) (xMove (L s) (.ok p)).2) (ms ++ [(xMove (L s) (.ok p)).1]) := by
  cases hv : V.pMove (L s) p with
  | error q =>
    rw [xMove_err hv]
    refine .inr (.inl ⟨q, rfl, by omega, ?_⟩)
    rw [ht, V.pMoves, hv]
  | ok r =>
    obtain ⟨m, q⟩ := r
    have h3 := pMove_pos hv
    rw [xMove_ok hv]
    dsimp only [xMust]
    cases hu : V.pMust (L s) 59 q with
    | error e =>
      refine .inr (.inl ⟨e, rfl, by omega, ?_⟩)
      rw [ht, V.pMoves, hv]
      simp only [hu]
    | ok q' =>
      obtain ⟨rfl, hq⟩ := pMust_ok hu
      rw [L_len] at hq
      by_cases hlast : q + 1 < s.size
      · obtain ⟨f', rfl⟩ : ∃ f', f = f' + 1 := ⟨f - 1, by omega⟩
        refine .inl ⟨q + 1, f', rfl, by omega, by simp; omega, by omega, by omega, .inr hlast, ?_⟩
        rw [ht, V.pMoves, hv]
        simp only [hu, L_len, if_pos hlast]
      · refine .inr (.inr ⟨q + 1, rfl, by omega, hlast, by simp, by simp; omega, ?_⟩)
        rw [ht, V.pMoves, hv]
        simp only [hu, L_len, if_neg hlast]
theorem shape_ok (v : UInt8) (n : Int) : V.shape v n 0 = (V.itoa n, 0) := rfl
theorem shape_no {v : UInt8} {n e : Int} (he : ¬ e = 0) (hv : ¬ v = 88) : V.shape v n e = ([], e) := by simp [V.shape, he, hv]
theorem shape_x {n e : Int} (he : ¬ e = 0) : V.shape 88 n e = ([35] ++ V.itoa n, e) := by simp [V.shape, he]

set_option maxHeartbeats 2000000 in
set_option maxRecDepth 100000 in
theorem mserve_A (G D M : Nat) (d : V.Ld) (s : ByteArray) (w : World) (h : MLdAt w D M d) (cG : w.cell? ⟨G, 0, none⟩ = some (.pointer (some ⟨D, 0, none⟩))) (hG : G ∉ [D, M]) (hl : s.size ≤ 20) (h0 : 0 < s.size) (hv : s[0] = 65) :
    Calls Try.prog 94 #[.pointer (some ⟨G, 0, none⟩), .string s] w fun e w' => e = .returned (.tuple #[S (V.answer d (L s)).2.1, .int .i64 (V.answer d (L s)).2.2]) ∧ MLdAt w' D M (V.answer d (L s)).1 ∧ Fr [D, M] w w' := by
  have HH : Hid (MLdAt w D M d) := h
  have lG := lt_of_cell cG
  have lD := h.lD
  have lM := h.tb.lM
  have hli : ¬ (20 : Int) < (s.size : Int) := by omega
  have hz : (((s.size : Nat) : Int) == 0) = false := by rw [beq_eq_false_iff_ne]; omega
  have h0i : (0 : Int) < (s.size : Int) := by omega
  have hvv : ((s[0].toNat : Nat) : Int) = 65 := by rw [hv]; rfl
  have HDE : Hid (V.decode (L s) = _) := decode_eq s h0
  rw [L_at s 0 h0, hv] at HDE
  have HHL : Hid (s.size ≤ 20) := hl
  have HG : Hid (G ∉ [D, M]) := hG
  have hd0 : w.heap.size ∉ [D, M] := by simp; omega
  have hd1 : w.heap.size + 1 ∉ [D, M] := by simp; omega
  clear h hv hG
  by_cases hp : 1 < s.size
  · have hpi : (1 : Int) < (s.size : Int) := by omega
    have HDQ : Hid (V.decode (L s) = .error 1) := by show _ = _; rw [HDE.out, if_pos rfl, V.pEnd, if_pos (by rw [L_len]; exact hp)]
    have hil := itoa_len (1 : Int)
    obtain ⟨xx, ex, ha⟩ := add_ex [64] (V.itoa (1 : Int)) (by simp; omega)
    change ∀ W, (binOp .add 9 (.string ⟨#[64]⟩) (S (V.itoa (1 : Int)))).run Try.prog W = .ok (S xx) W at ha
    have HX : Hid (xx = [64] ++ V.itoa (1 : Int)) := ex
    clear ex hil
    go_enter Try.func94, Try.ntmps94
    go_wp2_with fail
    refine (itoa_calls (1 : Int) _ (by omega) (by omega)).mono ?_
    rintro e wz ⟨rfl, fz⟩
    have FZ : Hid (Fr [D, M] w wz) := ((((Fr.refl [] w).alloc _).alloc _).trans fz (by simp)).mono (by simp)
    have LZ : Hid (MLdAt wz D M d) := HH.out.keep (B := []) ((((Fr.refl [] w).alloc _).alloc _).trans fz (by simp)) (by simp) (by simp)
    clear fz
    go_wp2_with fail
    go_ret2
    have hans : V.answer d (L s) = (d, xx, 8) := by rw [answer_err HHL.out HDQ.out]; rw [HX.out]; try rfl
    rw [hans]
    exact ⟨rfl, LZ.out, FZ.out⟩
  · have hpi : ¬ (1 : Int) < (s.size : Int) := by omega
    have HDQ : Hid (V.decode (L s) = .ok ⟨65, ⟨0, 0, 0⟩, []⟩) := by show _ = _; rw [HDE.out, if_pos rfl, V.pEnd, if_neg (by rw [L_len]; exact hp)]
    go_enter Try.func94, Try.ntmps94
    go_wp2_with fail
    refine (mcensus_calls D M d _ (HH.out.keep (B := []) (((Fr.refl _ _).alloc _).alloc _) (by simp) (by simp))).mono ?_
    rintro e w1 ⟨rfl, h1, f1⟩
    have LD : Hid (MLdAt w1 D M d.census.1) := h1
    have FR : Hid (Fr [D, M] w w1) := (((Fr.refl _ _).alloc _).alloc _).trans f1 (fun _ _ h => h)
    have BD : Hid (0 ≤ d.census.2.1 ∧ d.census.2.1 < 10000) := census_bd HH.out.bd
    have HRUN : Hid ((V.run d ⟨65, ⟨0, 0, 0⟩, []⟩).1 = d.census.1 ∧ (V.run d ⟨65, ⟨0, 0, 0⟩, []⟩).2 = some (V.shape 65 d.census.2.1 d.census.2.2)) := ⟨rfl, rfl⟩
    clear h1 f1
    generalize d.census = rr at *
    by_cases he : rr.2.2 = 0
    · have he' : (rr.2.2 != 0) = false := by simpa using he
      go_wp2_with fail
      refine (itoa_calls rr.2.1 _ BD.out.1 BD.out.2).mono ?_
      rintro e wz ⟨rfl, fz⟩
      have FZ : Hid (Fr [D, M] w wz) := FR.out.trans fz (by simp)
      have LZ : Hid (MLdAt wz D M rr.1) := LD.out.keep fz (by simp) (by simp)
      clear fz
      go_wp2_with fail
      go_ret2
      have hr := HRUN.out
      rw [he, shape_ok] at hr
      rw [answer_some HHL.out HDQ.out hr.2, hr.1]
      exact ⟨rfl, LZ.out, FZ.out⟩
    · have he' : (rr.2.2 != 0) = true := by simpa using he
      go_wp2_with fail
      go_ret2
      have hr := HRUN.out
      rw [shape_no he (by decide)] at hr
      rw [answer_some HHL.out HDQ.out hr.2, hr.1]
      exact ⟨rfl, LD.out, FR.out⟩

set_option maxHeartbeats 2000000 in
set_option maxRecDepth 100000 in
theorem mserve_B (G D M : Nat) (d : V.Ld) (s : ByteArray) (w : World) (h : MLdAt w D M d) (cG : w.cell? ⟨G, 0, none⟩ = some (.pointer (some ⟨D, 0, none⟩))) (hG : G ∉ [D, M]) (hl : s.size ≤ 20) (h0 : 0 < s.size) (hv : s[0] = 66) :
    Calls Try.prog 94 #[.pointer (some ⟨G, 0, none⟩), .string s] w fun e w' => e = .returned (.tuple #[S (V.answer d (L s)).2.1, .int .i64 (V.answer d (L s)).2.2]) ∧ MLdAt w' D M (V.answer d (L s)).1 ∧ Fr [D, M] w w' := by
  have HH : Hid (MLdAt w D M d) := h
  have lG := lt_of_cell cG
  have lD := h.lD
  have lM := h.tb.lM
  have hli : ¬ (20 : Int) < (s.size : Int) := by omega
  have hz : (((s.size : Nat) : Int) == 0) = false := by rw [beq_eq_false_iff_ne]; omega
  have h0i : (0 : Int) < (s.size : Int) := by omega
  have hvv : ((s[0].toNat : Nat) : Int) = 66 := by rw [hv]; rfl
  have HDE : Hid (V.decode (L s) = _) := decode_eq s h0
  rw [L_at s 0 h0, hv] at HDE
  have HHL : Hid (s.size ≤ 20) := hl
  have HG : Hid (G ∉ [D, M]) := hG
  have hd0 : w.heap.size ∉ [D, M] := by simp; omega
  have hd1 : w.heap.size + 1 ∉ [D, M] := by simp; omega
  clear h hv hG
  cases hd : V.isDig (L s) 1 with
  | false =>
    have HDQ : Hid (V.decode (L s) = .error 1) := by show _ = _; rw [HDE.out, if_neg (by decide), if_pos (by decide), hd]; rfl
    have hx : xDig (L s) (.ok 1) = (0, .error 1) := by simp [xDig, hd]
    clear HDE hd
    go_enter Try.func94, Try.ntmps94
    go_wp2_with fail
    have HW : Hid (Fr [] w ((w.alloc (Obj.cells #[.string s, .int .i64 1, .int .i64 (-1)] 139)).alloc (Obj.cells #[.int .i64 0, .int .i64 0, .int .i64 0] 56))) := ((Fr.refl _ _).alloc _).alloc _
    have HS : Hid (ScanAt ((w.alloc (Obj.cells #[.string s, .int .i64 1, .int .i64 (-1)] 139)).alloc (Obj.cells #[.int .i64 0, .int .i64 0, .int .i64 0] 56)) w.heap.size s 1 (-1)) := ⟨by simp [go_sem], by simp [go_sem], by simp [go_sem], fun o => by simp [go_sem], HHL.out, by omega⟩
    have m0 : ((w.alloc (Obj.cells #[.string s, .int .i64 1, .int .i64 (-1)] 139)).alloc (Obj.cells #[.int .i64 0, .int .i64 0, .int .i64 0] 56)).cell? ⟨w.heap.size + 1, 0, none⟩ = some (.int .i64 0) := by simp [go_sem]
    have m1 : ((w.alloc (Obj.cells #[.string s, .int .i64 1, .int .i64 (-1)] 139)).alloc (Obj.cells #[.int .i64 0, .int .i64 0, .int .i64 0] 56)).cell? ⟨w.heap.size + 1, 1, none⟩ = some (.int .i64 0) := by simp [go_sem]
    have m2 : ((w.alloc (Obj.cells #[.string s, .int .i64 1, .int .i64 (-1)] 139)).alloc (Obj.cells #[.int .i64 0, .int .i64 0, .int .i64 0] 56)).cell? ⟨w.heap.size + 1, 2, none⟩ = some (.int .i64 0) := by simp [go_sem]
    have zm : ∀ o, ((w.alloc (Obj.cells #[.string s, .int .i64 1, .int .i64 (-1)] 139)).alloc (Obj.cells #[.int .i64 0, .int .i64 0, .int .i64 0] 56)).frozen? ⟨w.heap.size + 1, o, none⟩ = false := fun o => by simp [go_sem]
    replace cG := HW.out.cellv cG (by simp)
    generalize ((w.alloc (Obj.cells #[.string s, .int .i64 1, .int .i64 (-1)] 139)).alloc (Obj.cells #[.int .i64 0, .int .i64 0, .int .i64 0] 56)) = W at *
    have nBA : w.heap.size + 1 ∉ [w.heap.size] := by simp
    have nGA : G ∉ [w.heap.size] := by simp; omega
    refine (sdigit_calls w.heap.size s (.ok 1) W HS.out).mono ?_
    rintro e w1 ⟨rfl, h1, f1⟩
    rw [hx] at h1 ⊢
    have lm := lt_of_cell m0
    replace zm := fun o => f1.frozenv (zm o) lm nBA
    replace m0 := f1.cellv m0 nBA
    replace m1 := f1.cellv m1 nBA
    replace m2 := f1.cellv m2 nBA
    replace cG := f1.cellv cG nGA
    have F_w1 : Hid (Fr [] w w1) := HW.out.trans f1 (fun x hx hm => by simp at hm; omega)
    have S_w1 : Hid (ScSt w1 w.heap.size s (.error 1)) := h1
    clear f1 lm h1
    obtain ⟨hq20, pp, hsc⟩ := S_w1.out
    have ca := hsc.ca
    clear hsc

    have hil := itoa_len (1 : Int)
    obtain ⟨xx, ex, ha⟩ := add_ex [64] (V.itoa (1 : Int)) (by simp; omega)
    change ∀ W, (binOp .add 9 (.string ⟨#[64]⟩) (S (V.itoa (1 : Int)))).run Try.prog W = .ok (S xx) W at ha
    have HX : Hid (xx = [64] ++ V.itoa (1 : Int)) := ex
    clear ex hil
    go_wp2_with fail
    refine (itoa_calls (1 : Int) _ (by omega) (by omega)).mono ?_
    rintro e wz ⟨rfl, fz⟩
    have FZ : Hid (Fr [D, M] w wz) := ((F_w1.out.setCell (fun h => absurd h (by simp)) _).trans fz (by simp)).mono (by simp)
    have LZ : Hid (MLdAt wz D M d) := HH.out.keep (B := []) ((F_w1.out.setCell (fun h => absurd h (by simp)) _).trans fz (by simp)) (by simp) (by simp)
    clear fz
    go_wp2_with fail
    go_ret2
    have hans : V.answer d (L s) = (d, xx, 8) := by rw [answer_err HHL.out HDQ.out]; rw [HX.out]; try rfl
    rw [hans]
    exact ⟨rfl, LZ.out, FZ.out⟩
  | true =>
    have hdb := digV_bd hd
    have hx : xDig (L s) (.ok 1) = (V.digV (L s) 1, .ok 2) := by simp [xDig, hd]
    by_cases hp : 2 < s.size
    · have hpi : (2 : Int) < (s.size : Int) := by omega
      have HDQ : Hid (V.decode (L s) = .error 2) := by show _ = _; rw [HDE.out, if_neg (by decide), if_pos (by decide), if_pos hd, V.pEnd, if_pos (by rw [L_len]; exact hp)]
      clear HDE hd
      go_enter Try.func94, Try.ntmps94
      go_wp2_with fail
      have HW : Hid (Fr [] w ((w.alloc (Obj.cells #[.string s, .int .i64 1, .int .i64 (-1)] 139)).alloc (Obj.cells #[.int .i64 0, .int .i64 0, .int .i64 0] 56))) := ((Fr.refl _ _).alloc _).alloc _
      have HS : Hid (ScanAt ((w.alloc (Obj.cells #[.string s, .int .i64 1, .int .i64 (-1)] 139)).alloc (Obj.cells #[.int .i64 0, .int .i64 0, .int .i64 0] 56)) w.heap.size s 1 (-1)) := ⟨by simp [go_sem], by simp [go_sem], by simp [go_sem], fun o => by simp [go_sem], HHL.out, by omega⟩
      have m0 : ((w.alloc (Obj.cells #[.string s, .int .i64 1, .int .i64 (-1)] 139)).alloc (Obj.cells #[.int .i64 0, .int .i64 0, .int .i64 0] 56)).cell? ⟨w.heap.size + 1, 0, none⟩ = some (.int .i64 0) := by simp [go_sem]
      have m1 : ((w.alloc (Obj.cells #[.string s, .int .i64 1, .int .i64 (-1)] 139)).alloc (Obj.cells #[.int .i64 0, .int .i64 0, .int .i64 0] 56)).cell? ⟨w.heap.size + 1, 1, none⟩ = some (.int .i64 0) := by simp [go_sem]
      have m2 : ((w.alloc (Obj.cells #[.string s, .int .i64 1, .int .i64 (-1)] 139)).alloc (Obj.cells #[.int .i64 0, .int .i64 0, .int .i64 0] 56)).cell? ⟨w.heap.size + 1, 2, none⟩ = some (.int .i64 0) := by simp [go_sem]
      have zm : ∀ o, ((w.alloc (Obj.cells #[.string s, .int .i64 1, .int .i64 (-1)] 139)).alloc (Obj.cells #[.int .i64 0, .int .i64 0, .int .i64 0] 56)).frozen? ⟨w.heap.size + 1, o, none⟩ = false := fun o => by simp [go_sem]
      replace cG := HW.out.cellv cG (by simp)
      generalize ((w.alloc (Obj.cells #[.string s, .int .i64 1, .int .i64 (-1)] 139)).alloc (Obj.cells #[.int .i64 0, .int .i64 0, .int .i64 0] 56)) = W at *
      have nBA : w.heap.size + 1 ∉ [w.heap.size] := by simp
      have nGA : G ∉ [w.heap.size] := by simp; omega
      refine (sdigit_calls w.heap.size s (.ok 1) W HS.out).mono ?_
      rintro e w1 ⟨rfl, h1, f1⟩
      rw [hx] at h1 ⊢
      have lm := lt_of_cell m0
      replace zm := fun o => f1.frozenv (zm o) lm nBA
      replace m0 := f1.cellv m0 nBA
      replace m1 := f1.cellv m1 nBA
      replace m2 := f1.cellv m2 nBA
      replace cG := f1.cellv cG nGA
      have F_w1 : Hid (Fr [] w w1) := HW.out.trans f1 (fun x hx hm => by simp at hm; omega)
      have S_w1 : Hid (ScSt w1 w.heap.size s (.ok 2)) := h1
      clear f1 lm h1
      have hsc : ScanAt w1 w.heap.size s (2) (-1) := S_w1.out
      have ca := hsc.ca
      have cp := hsc.cp
      have fA := hsc.fA
      clear hsc

      have hil := itoa_len (2 : Int)
      obtain ⟨xx, ex, ha⟩ := add_ex [64] (V.itoa (2 : Int)) (by simp; omega)
      change ∀ W, (binOp .add 9 (.string ⟨#[64]⟩) (S (V.itoa (2 : Int)))).run Try.prog W = .ok (S xx) W at ha
      have HX : Hid (xx = [64] ++ V.itoa (2 : Int)) := ex
      clear ex hil
      go_wp2_with fail
      refine (itoa_calls (2 : Int) _ (by omega) (by omega)).mono ?_
      rintro e wz ⟨rfl, fz⟩
      have FZ : Hid (Fr [D, M] w wz) := (((F_w1.out.setCell (fun h => absurd h (by simp)) _).setCell (fun h => absurd h (by simp)) _).trans fz (by simp)).mono (by simp)
      have LZ : Hid (MLdAt wz D M d) := HH.out.keep (B := []) (((F_w1.out.setCell (fun h => absurd h (by simp)) _).setCell (fun h => absurd h (by simp)) _).trans fz (by simp)) (by simp) (by simp)
      clear fz
      go_wp2_with fail
      go_ret2
      have hans : V.answer d (L s) = (d, xx, 8) := by rw [answer_err HHL.out HDQ.out]; rw [HX.out]; try rfl
      rw [hans]
      exact ⟨rfl, LZ.out, FZ.out⟩
    · have hpi : ¬ (2 : Int) < (s.size : Int) := by omega
      have HDQ : Hid (V.decode (L s) = .ok ⟨66, ⟨V.digV (L s) 1, 0, 0⟩, []⟩) := by show _ = _; rw [HDE.out, if_neg (by decide), if_pos (by decide), if_pos hd, V.pEnd, if_neg (by rw [L_len]; exact hp)]
      clear HDE hd
      go_enter Try.func94, Try.ntmps94
      go_wp2_with fail
      have HW : Hid (Fr [] w ((w.alloc (Obj.cells #[.string s, .int .i64 1, .int .i64 (-1)] 139)).alloc (Obj.cells #[.int .i64 0, .int .i64 0, .int .i64 0] 56))) := ((Fr.refl _ _).alloc _).alloc _
      have HS : Hid (ScanAt ((w.alloc (Obj.cells #[.string s, .int .i64 1, .int .i64 (-1)] 139)).alloc (Obj.cells #[.int .i64 0, .int .i64 0, .int .i64 0] 56)) w.heap.size s 1 (-1)) := ⟨by simp [go_sem], by simp [go_sem], by simp [go_sem], fun o => by simp [go_sem], HHL.out, by omega⟩
      have m0 : ((w.alloc (Obj.cells #[.string s, .int .i64 1, .int .i64 (-1)] 139)).alloc (Obj.cells #[.int .i64 0, .int .i64 0, .int .i64 0] 56)).cell? ⟨w.heap.size + 1, 0, none⟩ = some (.int .i64 0) := by simp [go_sem]
      have m1 : ((w.alloc (Obj.cells #[.string s, .int .i64 1, .int .i64 (-1)] 139)).alloc (Obj.cells #[.int .i64 0, .int .i64 0, .int .i64 0] 56)).cell? ⟨w.heap.size + 1, 1, none⟩ = some (.int .i64 0) := by simp [go_sem]
      have m2 : ((w.alloc (Obj.cells #[.string s, .int .i64 1, .int .i64 (-1)] 139)).alloc (Obj.cells #[.int .i64 0, .int .i64 0, .int .i64 0] 56)).cell? ⟨w.heap.size + 1, 2, none⟩ = some (.int .i64 0) := by simp [go_sem]
      have zm : ∀ o, ((w.alloc (Obj.cells #[.string s, .int .i64 1, .int .i64 (-1)] 139)).alloc (Obj.cells #[.int .i64 0, .int .i64 0, .int .i64 0] 56)).frozen? ⟨w.heap.size + 1, o, none⟩ = false := fun o => by simp [go_sem]
      replace cG := HW.out.cellv cG (by simp)
      generalize ((w.alloc (Obj.cells #[.string s, .int .i64 1, .int .i64 (-1)] 139)).alloc (Obj.cells #[.int .i64 0, .int .i64 0, .int .i64 0] 56)) = W at *
      have nBA : w.heap.size + 1 ∉ [w.heap.size] := by simp
      have nGA : G ∉ [w.heap.size] := by simp; omega
      refine (sdigit_calls w.heap.size s (.ok 1) W HS.out).mono ?_
      rintro e w1 ⟨rfl, h1, f1⟩
      rw [hx] at h1 ⊢
      have lm := lt_of_cell m0
      replace zm := fun o => f1.frozenv (zm o) lm nBA
      replace m0 := f1.cellv m0 nBA
      replace m1 := f1.cellv m1 nBA
      replace m2 := f1.cellv m2 nBA
      replace cG := f1.cellv cG nGA
      have F_w1 : Hid (Fr [] w w1) := HW.out.trans f1 (fun x hx hm => by simp at hm; omega)
      have S_w1 : Hid (ScSt w1 w.heap.size s (.ok 2)) := h1
      clear f1 lm h1
      have hsc : ScanAt w1 w.heap.size s (2) (-1) := S_w1.out
      have ca := hsc.ca
      have cp := hsc.cp
      have fA := hsc.fA
      clear hsc
      generalize V.digV (L s) 1 = f at *
      go_wp2_with fail
      have F2 : Hid (Fr [] w (w1.setCell ⟨w.heap.size + 1, 0, none⟩ (.int .i64 f))) := F_w1.out.setCell (fun h => absurd h (by simp)) _
      have mm : (w1.setCell ⟨w.heap.size + 1, 0, none⟩ (.int .i64 f)).cell? ⟨w.heap.size + 1, 0, none⟩ = some (.int .i64 f) := by simp [cell_set, m0]
      replace cG := ((Fr.refl [w.heap.size + 1] w1).setCell (p := ⟨w.heap.size + 1, 0, none⟩) (by simp) (.int .i64 f)).cellv cG (by simp; omega)
      generalize (w1.setCell ⟨w.heap.size + 1, 0, none⟩ (.int .i64 f)) = w2 at *
      clear m0 m1 m2 zm ca cp fA
      go_region_held3 (fun w' => w'.cell? ⟨G, 0, none⟩ = some (.pointer (some ⟨D, 0, none⟩)) ∧ w'.cell? ⟨w.heap.size + 1, 0, none⟩ = some (.int .i64 f)) (go_keep)
        (first | (go_at_call 101; refine (mbalance_calls D M f d w2.drew (HH.out.keep F2.out.drew (by simp) (by simp))).mono ?_; rintro e w3 ⟨rfl, h3, f3⟩; have LD : Hid (MLdAt w3 D M (d.balance f).1) := h3; have FR0 : Hid (Fr [D, M] w2.drew w3) := f3; have u0 := f3.cellv (b := G) (o := 0) cG HG.out; have u1 := f3.cellv (b := w.heap.size + 1) (o := 0) mm hd1; clear h3 f3))
      rename_i hHeld
      clear hHeld u0 u1 mm cG
      have FR : Hid (Fr [D, M] w w3) := (F2.out.drew.mono (by simp)).trans FR0.out (fun _ _ h => h)
      have BD : Hid (0 ≤ (d.balance f).2.1 ∧ (d.balance f).2.1 < 10000) := balance_bd HH.out.bd f
      have HRUN : Hid ((V.run d ⟨66, ⟨f, 0, 0⟩, []⟩).1 = (d.balance f).1 ∧ (V.run d ⟨66, ⟨f, 0, 0⟩, []⟩).2 = some (V.shape 66 (d.balance f).2.1 (d.balance f).2.2)) := ⟨rfl, rfl⟩
      clear FR0
      generalize d.balance f = rr at *
      by_cases he : rr.2.2 = 0
      · have he' : (rr.2.2 != 0) = false := by simpa using he
        go_wp2_with fail
        refine (itoa_calls rr.2.1 _ BD.out.1 BD.out.2).mono ?_
        rintro e wz ⟨rfl, fz⟩
        have FZ : Hid (Fr [D, M] w wz) := FR.out.trans fz (by simp)
        have LZ : Hid (MLdAt wz D M rr.1) := LD.out.keep fz (by simp) (by simp)
        clear fz
        go_wp2_with fail
        go_ret2
        have hr := HRUN.out
        rw [he, shape_ok] at hr
        rw [answer_some HHL.out HDQ.out hr.2, hr.1]
        exact ⟨rfl, LZ.out, FZ.out⟩
      · have he' : (rr.2.2 != 0) = true := by simpa using he
        go_wp2_with fail
        go_ret2
        have hr := HRUN.out
        rw [shape_no he (by decide)] at hr
        rw [answer_some HHL.out HDQ.out hr.2, hr.1]
        exact ⟨rfl, LD.out, FR.out⟩

set_option maxHeartbeats 2000000 in
set_option maxRecDepth 100000 in
theorem mserve_N (G D M : Nat) (d : V.Ld) (s : ByteArray) (w : World) (h : MLdAt w D M d) (cG : w.cell? ⟨G, 0, none⟩ = some (.pointer (some ⟨D, 0, none⟩))) (hG : G ∉ [D, M]) (hl : s.size ≤ 20) (h0 : 0 < s.size) (hv : s[0] = 78) :
    Calls Try.prog 94 #[.pointer (some ⟨G, 0, none⟩), .string s] w fun e w' => e = .returned (.tuple #[S (V.answer d (L s)).2.1, .int .i64 (V.answer d (L s)).2.2]) ∧ MLdAt w' D M (V.answer d (L s)).1 ∧ Fr [D, M] w w' := by
  have HH : Hid (MLdAt w D M d) := h
  have lG := lt_of_cell cG
  have lD := h.lD
  have lM := h.tb.lM
  have hli : ¬ (20 : Int) < (s.size : Int) := by omega
  have hz : (((s.size : Nat) : Int) == 0) = false := by rw [beq_eq_false_iff_ne]; omega
  have h0i : (0 : Int) < (s.size : Int) := by omega
  have hvv : ((s[0].toNat : Nat) : Int) = 78 := by rw [hv]; rfl
  have HDE : Hid (V.decode (L s) = _) := decode_eq s h0
  rw [L_at s 0 h0, hv] at HDE
  have HHL : Hid (s.size ≤ 20) := hl
  have HG : Hid (G ∉ [D, M]) := hG
  have hd0 : w.heap.size ∉ [D, M] := by simp; omega
  have hd1 : w.heap.size + 1 ∉ [D, M] := by simp; omega
  clear h hv hG
  cases hd : V.isDig (L s) 1 with
  | false =>
    have HDQ : Hid (V.decode (L s) = .error 1) := by show _ = _; rw [HDE.out, if_neg (by decide), if_pos (by decide), hd]; rfl
    have hx : xDig (L s) (.ok 1) = (0, .error 1) := by simp [xDig, hd]
    clear HDE hd
    go_enter Try.func94, Try.ntmps94
    go_wp2_with fail
    have HW : Hid (Fr [] w ((w.alloc (Obj.cells #[.string s, .int .i64 1, .int .i64 (-1)] 139)).alloc (Obj.cells #[.int .i64 0, .int .i64 0, .int .i64 0] 56))) := ((Fr.refl _ _).alloc _).alloc _
    have HS : Hid (ScanAt ((w.alloc (Obj.cells #[.string s, .int .i64 1, .int .i64 (-1)] 139)).alloc (Obj.cells #[.int .i64 0, .int .i64 0, .int .i64 0] 56)) w.heap.size s 1 (-1)) := ⟨by simp [go_sem], by simp [go_sem], by simp [go_sem], fun o => by simp [go_sem], HHL.out, by omega⟩
    have m0 : ((w.alloc (Obj.cells #[.string s, .int .i64 1, .int .i64 (-1)] 139)).alloc (Obj.cells #[.int .i64 0, .int .i64 0, .int .i64 0] 56)).cell? ⟨w.heap.size + 1, 0, none⟩ = some (.int .i64 0) := by simp [go_sem]
    have m1 : ((w.alloc (Obj.cells #[.string s, .int .i64 1, .int .i64 (-1)] 139)).alloc (Obj.cells #[.int .i64 0, .int .i64 0, .int .i64 0] 56)).cell? ⟨w.heap.size + 1, 1, none⟩ = some (.int .i64 0) := by simp [go_sem]
    have m2 : ((w.alloc (Obj.cells #[.string s, .int .i64 1, .int .i64 (-1)] 139)).alloc (Obj.cells #[.int .i64 0, .int .i64 0, .int .i64 0] 56)).cell? ⟨w.heap.size + 1, 2, none⟩ = some (.int .i64 0) := by simp [go_sem]
    have zm : ∀ o, ((w.alloc (Obj.cells #[.string s, .int .i64 1, .int .i64 (-1)] 139)).alloc (Obj.cells #[.int .i64 0, .int .i64 0, .int .i64 0] 56)).frozen? ⟨w.heap.size + 1, o, none⟩ = false := fun o => by simp [go_sem]
    replace cG := HW.out.cellv cG (by simp)
    generalize ((w.alloc (Obj.cells #[.string s, .int .i64 1, .int .i64 (-1)] 139)).alloc (Obj.cells #[.int .i64 0, .int .i64 0, .int .i64 0] 56)) = W at *
    have nBA : w.heap.size + 1 ∉ [w.heap.size] := by simp
    have nGA : G ∉ [w.heap.size] := by simp; omega
    refine (sdigit_calls w.heap.size s (.ok 1) W HS.out).mono ?_
    rintro e w1 ⟨rfl, h1, f1⟩
    rw [hx] at h1 ⊢
    have lm := lt_of_cell m0
    replace zm := fun o => f1.frozenv (zm o) lm nBA
    replace m0 := f1.cellv m0 nBA
    replace m1 := f1.cellv m1 nBA
    replace m2 := f1.cellv m2 nBA
    replace cG := f1.cellv cG nGA
    have F_w1 : Hid (Fr [] w w1) := HW.out.trans f1 (fun x hx hm => by simp at hm; omega)
    have S_w1 : Hid (ScSt w1 w.heap.size s (.error 1)) := h1
    clear f1 lm h1
    obtain ⟨hq20, pp, hsc⟩ := S_w1.out
    have ca := hsc.ca
    clear hsc

    have hil := itoa_len (1 : Int)
    obtain ⟨xx, ex, ha⟩ := add_ex [64] (V.itoa (1 : Int)) (by simp; omega)
    change ∀ W, (binOp .add 9 (.string ⟨#[64]⟩) (S (V.itoa (1 : Int)))).run Try.prog W = .ok (S xx) W at ha
    have HX : Hid (xx = [64] ++ V.itoa (1 : Int)) := ex
    clear ex hil
    go_wp2_with fail
    refine (itoa_calls (1 : Int) _ (by omega) (by omega)).mono ?_
    rintro e wz ⟨rfl, fz⟩
    have FZ : Hid (Fr [D, M] w wz) := ((F_w1.out.setCell (fun h => absurd h (by simp)) _).trans fz (by simp)).mono (by simp)
    have LZ : Hid (MLdAt wz D M d) := HH.out.keep (B := []) ((F_w1.out.setCell (fun h => absurd h (by simp)) _).trans fz (by simp)) (by simp) (by simp)
    clear fz
    go_wp2_with fail
    go_ret2
    have hans : V.answer d (L s) = (d, xx, 8) := by rw [answer_err HHL.out HDQ.out]; rw [HX.out]; try rfl
    rw [hans]
    exact ⟨rfl, LZ.out, FZ.out⟩
  | true =>
    have hdb := digV_bd hd
    have hx : xDig (L s) (.ok 1) = (V.digV (L s) 1, .ok 2) := by simp [xDig, hd]
    by_cases hp : 2 < s.size
    · have hpi : (2 : Int) < (s.size : Int) := by omega
      have HDQ : Hid (V.decode (L s) = .error 2) := by show _ = _; rw [HDE.out, if_neg (by decide), if_pos (by decide), if_pos hd, V.pEnd, if_pos (by rw [L_len]; exact hp)]
      clear HDE hd
      go_enter Try.func94, Try.ntmps94
      go_wp2_with fail
      have HW : Hid (Fr [] w ((w.alloc (Obj.cells #[.string s, .int .i64 1, .int .i64 (-1)] 139)).alloc (Obj.cells #[.int .i64 0, .int .i64 0, .int .i64 0] 56))) := ((Fr.refl _ _).alloc _).alloc _
      have HS : Hid (ScanAt ((w.alloc (Obj.cells #[.string s, .int .i64 1, .int .i64 (-1)] 139)).alloc (Obj.cells #[.int .i64 0, .int .i64 0, .int .i64 0] 56)) w.heap.size s 1 (-1)) := ⟨by simp [go_sem], by simp [go_sem], by simp [go_sem], fun o => by simp [go_sem], HHL.out, by omega⟩
      have m0 : ((w.alloc (Obj.cells #[.string s, .int .i64 1, .int .i64 (-1)] 139)).alloc (Obj.cells #[.int .i64 0, .int .i64 0, .int .i64 0] 56)).cell? ⟨w.heap.size + 1, 0, none⟩ = some (.int .i64 0) := by simp [go_sem]
      have m1 : ((w.alloc (Obj.cells #[.string s, .int .i64 1, .int .i64 (-1)] 139)).alloc (Obj.cells #[.int .i64 0, .int .i64 0, .int .i64 0] 56)).cell? ⟨w.heap.size + 1, 1, none⟩ = some (.int .i64 0) := by simp [go_sem]
      have m2 : ((w.alloc (Obj.cells #[.string s, .int .i64 1, .int .i64 (-1)] 139)).alloc (Obj.cells #[.int .i64 0, .int .i64 0, .int .i64 0] 56)).cell? ⟨w.heap.size + 1, 2, none⟩ = some (.int .i64 0) := by simp [go_sem]
      have zm : ∀ o, ((w.alloc (Obj.cells #[.string s, .int .i64 1, .int .i64 (-1)] 139)).alloc (Obj.cells #[.int .i64 0, .int .i64 0, .int .i64 0] 56)).frozen? ⟨w.heap.size + 1, o, none⟩ = false := fun o => by simp [go_sem]
      replace cG := HW.out.cellv cG (by simp)
      generalize ((w.alloc (Obj.cells #[.string s, .int .i64 1, .int .i64 (-1)] 139)).alloc (Obj.cells #[.int .i64 0, .int .i64 0, .int .i64 0] 56)) = W at *
      have nBA : w.heap.size + 1 ∉ [w.heap.size] := by simp
      have nGA : G ∉ [w.heap.size] := by simp; omega
      refine (sdigit_calls w.heap.size s (.ok 1) W HS.out).mono ?_
      rintro e w1 ⟨rfl, h1, f1⟩
      rw [hx] at h1 ⊢
      have lm := lt_of_cell m0
      replace zm := fun o => f1.frozenv (zm o) lm nBA
      replace m0 := f1.cellv m0 nBA
      replace m1 := f1.cellv m1 nBA
      replace m2 := f1.cellv m2 nBA
      replace cG := f1.cellv cG nGA
      have F_w1 : Hid (Fr [] w w1) := HW.out.trans f1 (fun x hx hm => by simp at hm; omega)
      have S_w1 : Hid (ScSt w1 w.heap.size s (.ok 2)) := h1
      clear f1 lm h1
      have hsc : ScanAt w1 w.heap.size s (2) (-1) := S_w1.out
      have ca := hsc.ca
      have cp := hsc.cp
      have fA := hsc.fA
      clear hsc

      have hil := itoa_len (2 : Int)
      obtain ⟨xx, ex, ha⟩ := add_ex [64] (V.itoa (2 : Int)) (by simp; omega)
      change ∀ W, (binOp .add 9 (.string ⟨#[64]⟩) (S (V.itoa (2 : Int)))).run Try.prog W = .ok (S xx) W at ha
      have HX : Hid (xx = [64] ++ V.itoa (2 : Int)) := ex
      clear ex hil
      go_wp2_with fail
      refine (itoa_calls (2 : Int) _ (by omega) (by omega)).mono ?_
      rintro e wz ⟨rfl, fz⟩
      have FZ : Hid (Fr [D, M] w wz) := (((F_w1.out.setCell (fun h => absurd h (by simp)) _).setCell (fun h => absurd h (by simp)) _).trans fz (by simp)).mono (by simp)
      have LZ : Hid (MLdAt wz D M d) := HH.out.keep (B := []) (((F_w1.out.setCell (fun h => absurd h (by simp)) _).setCell (fun h => absurd h (by simp)) _).trans fz (by simp)) (by simp) (by simp)
      clear fz
      go_wp2_with fail
      go_ret2
      have hans : V.answer d (L s) = (d, xx, 8) := by rw [answer_err HHL.out HDQ.out]; rw [HX.out]; try rfl
      rw [hans]
      exact ⟨rfl, LZ.out, FZ.out⟩
    · have hpi : ¬ (2 : Int) < (s.size : Int) := by omega
      have HDQ : Hid (V.decode (L s) = .ok ⟨78, ⟨V.digV (L s) 1, 0, 0⟩, []⟩) := by show _ = _; rw [HDE.out, if_neg (by decide), if_pos (by decide), if_pos hd, V.pEnd, if_neg (by rw [L_len]; exact hp)]
      clear HDE hd
      go_enter Try.func94, Try.ntmps94
      go_wp2_with fail
      have HW : Hid (Fr [] w ((w.alloc (Obj.cells #[.string s, .int .i64 1, .int .i64 (-1)] 139)).alloc (Obj.cells #[.int .i64 0, .int .i64 0, .int .i64 0] 56))) := ((Fr.refl _ _).alloc _).alloc _
      have HS : Hid (ScanAt ((w.alloc (Obj.cells #[.string s, .int .i64 1, .int .i64 (-1)] 139)).alloc (Obj.cells #[.int .i64 0, .int .i64 0, .int .i64 0] 56)) w.heap.size s 1 (-1)) := ⟨by simp [go_sem], by simp [go_sem], by simp [go_sem], fun o => by simp [go_sem], HHL.out, by omega⟩
      have m0 : ((w.alloc (Obj.cells #[.string s, .int .i64 1, .int .i64 (-1)] 139)).alloc (Obj.cells #[.int .i64 0, .int .i64 0, .int .i64 0] 56)).cell? ⟨w.heap.size + 1, 0, none⟩ = some (.int .i64 0) := by simp [go_sem]
      have m1 : ((w.alloc (Obj.cells #[.string s, .int .i64 1, .int .i64 (-1)] 139)).alloc (Obj.cells #[.int .i64 0, .int .i64 0, .int .i64 0] 56)).cell? ⟨w.heap.size + 1, 1, none⟩ = some (.int .i64 0) := by simp [go_sem]
      have m2 : ((w.alloc (Obj.cells #[.string s, .int .i64 1, .int .i64 (-1)] 139)).alloc (Obj.cells #[.int .i64 0, .int .i64 0, .int .i64 0] 56)).cell? ⟨w.heap.size + 1, 2, none⟩ = some (.int .i64 0) := by simp [go_sem]
      have zm : ∀ o, ((w.alloc (Obj.cells #[.string s, .int .i64 1, .int .i64 (-1)] 139)).alloc (Obj.cells #[.int .i64 0, .int .i64 0, .int .i64 0] 56)).frozen? ⟨w.heap.size + 1, o, none⟩ = false := fun o => by simp [go_sem]
      replace cG := HW.out.cellv cG (by simp)
      generalize ((w.alloc (Obj.cells #[.string s, .int .i64 1, .int .i64 (-1)] 139)).alloc (Obj.cells #[.int .i64 0, .int .i64 0, .int .i64 0] 56)) = W at *
      have nBA : w.heap.size + 1 ∉ [w.heap.size] := by simp
      have nGA : G ∉ [w.heap.size] := by simp; omega
      refine (sdigit_calls w.heap.size s (.ok 1) W HS.out).mono ?_
      rintro e w1 ⟨rfl, h1, f1⟩
      rw [hx] at h1 ⊢
      have lm := lt_of_cell m0
      replace zm := fun o => f1.frozenv (zm o) lm nBA
      replace m0 := f1.cellv m0 nBA
      replace m1 := f1.cellv m1 nBA
      replace m2 := f1.cellv m2 nBA
      replace cG := f1.cellv cG nGA
      have F_w1 : Hid (Fr [] w w1) := HW.out.trans f1 (fun x hx hm => by simp at hm; omega)
      have S_w1 : Hid (ScSt w1 w.heap.size s (.ok 2)) := h1
      clear f1 lm h1
      have hsc : ScanAt w1 w.heap.size s (2) (-1) := S_w1.out
      have ca := hsc.ca
      have cp := hsc.cp
      have fA := hsc.fA
      clear hsc
      generalize V.digV (L s) 1 = f at *
      have HF3 : Hid (0 ≤ f ∧ f ≤ 9) := hdb
      clear hdb
      by_cases h4 : 4 ≤ f
      · have HRUN : Hid ((V.run d ⟨78, ⟨f, 0, 0⟩, []⟩).1 = d ∧ (V.run d ⟨78, ⟨f, 0, 0⟩, []⟩).2 = none) := ⟨rfl, by show (if f < 4 then _ else _) = _; rw [if_neg (by omega)]⟩
        go_wp2_with fail
        go_ret2
        rw [answer_none HHL.out HDQ.out HRUN.out.2, HRUN.out.1]
        exact ⟨rfl, HH.out.keep (F_w1.out.setCell (fun h => absurd h (by simp)) _) (by simp) (by simp), (F_w1.out.setCell (fun h => absurd h (by simp)) _).mono (by simp)⟩
      · have HRUN : Hid ((V.run d ⟨78, ⟨f, 0, 0⟩, []⟩).1 = d ∧ (V.run d ⟨78, ⟨f, 0, 0⟩, []⟩).2 = some (V.name f, 0)) := ⟨rfl, by show (if f < 4 then _ else _) = _; rw [if_pos (by omega)]⟩
        rcases (show f = 0 ∨ f = 1 ∨ f = 2 ∨ f = 3 by have := HF3.out; omega) with rfl | rfl | rfl | rfl
        all_goals
          clear h4
          have lB := lt_of_cell m0
          go_wp2_with fail
          go_ret2
          rw [answer_some HHL.out HDQ.out HRUN.out.2, HRUN.out.1]
          exact ⟨rfl, HH.out.keep ((F_w1.out.setCell (fun h => absurd h (by simp)) _).alloc _) (by simp) (by simp), ((F_w1.out.setCell (fun h => absurd h (by simp)) _).alloc _).mono (by simp)⟩

end Go.Proofs.Qxb6500360a
