/-
  L3, abstract: serve of the model's gate: S, T, X.
-/
import Derived.Test.Qxb6500360aMf
import Derived.Test.Qxb6500360aMe
import Derived.Test.Qxb6500360aGc
import Derived.Test.Qxb6500360aMo
namespace Go.Proofs.Qxb6500360a
open Go.RowKit
set_option linter.unusedSimpArgs false
set_option linter.unusedVariables false

set_option maxHeartbeats 2000000 in
set_option maxRecDepth 100000 in
theorem mserve_S (G D M : Nat) (d : V.Ld) (s : ByteArray) (w : World) (h : MLdAt w D M d) (cG : w.cell? ⟨G, 0, none⟩ = some (.pointer (some ⟨D, 0, none⟩))) (hG : G ∉ [D, M]) (hl : s.size ≤ 20) (h0 : 0 < s.size) (hv : s[0] = 83) :
    Calls Try.prog 94 #[.pointer (some ⟨G, 0, none⟩), .string s] w fun e w' => e = .returned (.tuple #[S (V.answer d (L s)).2.1, .int .i64 (V.answer d (L s)).2.2]) ∧ MLdAt w' D M (V.answer d (L s)).1 ∧ Fr [D, M] w w' := by
  have HH : Hid (MLdAt w D M d) := h
  have lG := lt_of_cell cG
  have lD := h.lD
  have lM := h.tb.lM
  have hli : ¬ (20 : Int) < (s.size : Int) := by omega
  have hz : (((s.size : Nat) : Int) == 0) = false := by rw [beq_eq_false_iff_ne]; omega
  have h0i : (0 : Int) < (s.size : Int) := by omega
  have hvv : ((s[0].toNat : Nat) : Int) = 83 := by rw [hv]; rfl
  have HDE : Hid (V.decode (L s) = _) := decode_eq s h0
  rw [L_at s 0 h0, hv] at HDE
  have HHL : Hid (s.size ≤ 20) := hl
  have HG : Hid (G ∉ [D, M]) := hG
  have hd0 : w.heap.size ∉ [D, M] := by simp; omega
  have hd1 : w.heap.size + 1 ∉ [D, M] := by simp; omega
  clear h hv hG
  cases hd : V.isDig (L s) 1 with
  | false =>
    have HDQ : Hid (V.decode (L s) = .error 1) := by show _ = _; rw [HDE.out, if_neg (by decide), if_neg (by decide), if_pos rfl, hd]; rfl
    have hx : xDig (L s) (.ok 1) = (0, .error 1) := by simp [xDig, hd]
    have hx2 : xDig (L s) (.error 1) = (0, .error 1) := rfl
    clear HDE hd
    go_enter Try.func94, Try.ntmps94
    go_wp2_with fail
    have HW : Hid (Fr [] w ((w.alloc (Obj.cells #[.string s, .int .i64 1, .int .i64 (-1)] 139)).alloc (Obj.cells #[.int .i64 0, .int .i64 0, .int .i64 0] 56))) := ((Fr.refl _ _).alloc _).alloc _
    have HS : Hid (ScanAt ((w.alloc (Obj.cells #[.string s, .int .i64 1, .int .i64 (-1)] 139)).alloc (Obj.cells #[.int .i64 0, .int .i64 0, .int .i64 0] 56)) w.heap.size s 1 (-1)) := ⟨by simp [go_sem], by simp [go_sem], by simp [go_sem], fun o => by simp [go_sem], HHL.out, by omega⟩
    have m0 : ((w.alloc (Obj.cells #[.string s, .int .i64 1, .int .i64 (-1)] 139)).alloc (Obj.cells #[.int .i64 0, .int .i64 0, .int .i64 0] 56)).cell? ⟨w.heap.size + 1, 0, none⟩ = some (.int .i64 0) := by simp [go_sem]
    have m1 : ((w.alloc (Obj.cells #[.string s, .int .i64 1, .int .i64 (-1)] 139)).alloc (Obj.cells #[.int .i64 0, .int .i64 0, .int .i64 0] 56)).cell? ⟨w.heap.size + 1, 1, none⟩ = some (.int .i64 0) := by simp [go_sem]
    have m2 : ((w.alloc (Obj.cells #[.string s, .int .i64 1, .int .i64 (-1)] 139)).alloc (Obj.cells #[.int .i64 0, .int .i64 0, .int .i64 0] 56)).cell? ⟨w.heap.size + 1, 2, none⟩ = some (.int .i64 0) := by simp [go_sem]
    have zm : ∀ o, ((w.alloc (Obj.cells #[.string s, .int .i64 1, .int .i64 (-1)] 139)).alloc (Obj.cells #[.int .i64 0, .int .i64 0, .int .i64 0] 56)).frozen? ⟨w.heap.size + 1, o, none⟩ = false := fun o => by simp [go_sem]
    replace cG := HW.out.cellv cG (by simp)
    generalize ((w.alloc (Obj.cells #[.string s, .int .i64 1, .int .i64 (-1)] 139)).alloc (Obj.cells #[.int .i64 0, .int .i64 0, .int .i64 0] 56)) = W at *
    have nBA : w.heap.size + 1 ∉ [w.heap.size] := by simp
    have nGA : G ∉ [w.heap.size] := by simp; omega
    refine (sdigit_calls w.heap.size s (.ok 1) W HS.out).mono ?_
    rintro e w1 ⟨rfl, h1, f1⟩
    rw [hx] at h1 ⊢
    have lm := lt_of_cell m0
    replace zm := fun o => f1.frozenv (zm o) lm nBA
    replace m0 := f1.cellv m0 nBA
    replace m1 := f1.cellv m1 nBA
    replace m2 := f1.cellv m2 nBA
    replace cG := f1.cellv cG nGA
    have F_w1 : Hid (Fr [] w w1) := HW.out.trans f1 (fun x hx hm => by simp at hm; omega)
    have S_w1 : Hid (ScSt w1 w.heap.size s (.error 1)) := h1
    clear f1 lm h1
    go_wp2_with fail
    have fs : Fr [w.heap.size + 1] w1 (w1.setCell ⟨w.heap.size + 1, 0, none⟩ (.int .i64 0)) := (Fr.refl _ _).setCell (by simp) _
    have r0 : (w1.setCell ⟨w.heap.size + 1, 0, none⟩ (.int .i64 0)).cell? ⟨w.heap.size + 1, 0, none⟩ = some (.int .i64 0) := by simp [cell_set, m0]
    have r1 := (show (w1.setCell ⟨w.heap.size + 1, 0, none⟩ (.int .i64 0)).cell? ⟨w.heap.size + 1, 1, none⟩ = w1.cell? ⟨w.heap.size + 1, 1, none⟩ by simp [cell_set]).trans m1
    have r2 := (show (w1.setCell ⟨w.heap.size + 1, 0, none⟩ (.int .i64 0)).cell? ⟨w.heap.size + 1, 2, none⟩ = w1.cell? ⟨w.heap.size + 1, 2, none⟩ by simp [cell_set]).trans m2
    have rz : ∀ o, (w1.setCell ⟨w.heap.size + 1, 0, none⟩ (.int .i64 0)).frozen? ⟨w.heap.size + 1, o, none⟩ = false := fun o => by simp [zm o]
    replace cG := fs.cellv cG (by simp; omega)
    have F_w2 : Hid (Fr [] w (w1.setCell ⟨w.heap.size + 1, 0, none⟩ (.int .i64 0))) := F_w1.out.setCell (fun h => absurd h (by simp)) _
    have S_w2 : Hid (ScSt (w1.setCell ⟨w.heap.size + 1, 0, none⟩ (.int .i64 0)) w.heap.size s (.error 1)) := S_w1.out.keep fs (by simp)
    clear m0 m1 m2 zm fs
    have m0 := r0
    have m1 := r1
    have m2 := r2
    have zm := rz
    clear r0 r1 r2 rz
    generalize (w1.setCell ⟨w.heap.size + 1, 0, none⟩ (.int .i64 0)) = w2 at *
    refine (sdigit_calls w.heap.size s (.error 1) w2 S_w2.out).mono ?_
    rintro e w3 ⟨rfl, h1, f1⟩
    rw [hx2] at h1 ⊢
    have lm := lt_of_cell m0
    replace zm := fun o => f1.frozenv (zm o) lm nBA
    replace m0 := f1.cellv m0 nBA
    replace m1 := f1.cellv m1 nBA
    replace m2 := f1.cellv m2 nBA
    replace cG := f1.cellv cG nGA
    have F_w3 : Hid (Fr [] w w3) := F_w2.out.trans f1 (fun x hx hm => by simp at hm; omega)
    have S_w3 : Hid (ScSt w3 w.heap.size s (.error 1)) := h1
    clear f1 lm h1
    obtain ⟨hq20, pp, hsc⟩ := S_w3.out
    have ca := hsc.ca
    clear hsc

    have hil := itoa_len (1 : Int)
    obtain ⟨xx, ex, ha⟩ := add_ex [64] (V.itoa (1 : Int)) (by simp; omega)
    change ∀ W, (binOp .add 9 (.string ⟨#[64]⟩) (S (V.itoa (1 : Int)))).run Try.prog W = .ok (S xx) W at ha
    have HX : Hid (xx = [64] ++ V.itoa (1 : Int)) := ex
    clear ex hil
    go_wp2_with fail
    refine (itoa_calls (1 : Int) _ (by omega) (by omega)).mono ?_
    rintro e wz ⟨rfl, fz⟩
    have FZ : Hid (Fr [D, M] w wz) := ((F_w3.out.setCell (fun h => absurd h (by simp)) _).trans fz (by simp)).mono (by simp)
    have LZ : Hid (MLdAt wz D M d) := HH.out.keep (B := []) ((F_w3.out.setCell (fun h => absurd h (by simp)) _).trans fz (by simp)) (by simp) (by simp)
    clear fz
    go_wp2_with fail
    go_ret2
    have hans : V.answer d (L s) = (d, xx, 8) := by rw [answer_err HHL.out HDQ.out]; rw [HX.out]; try rfl
    rw [hans]
    exact ⟨rfl, LZ.out, FZ.out⟩
  | true =>
    have hdb := digV_bd hd
    have hx : xDig (L s) (.ok 1) = (V.digV (L s) 1, .ok 2) := by simp [xDig, hd]
    cases hd2 : V.isDig (L s) 2 with
    | false =>
      have HDQ : Hid (V.decode (L s) = .error 2) := by show _ = _; rw [HDE.out, if_neg (by decide), if_neg (by decide), if_pos rfl, if_pos hd, hd2]; rfl
      have hx2 : xDig (L s) (.ok 2) = (0, .error 2) := by simp [xDig, hd2]
      clear HDE hd hd2
      go_enter Try.func94, Try.ntmps94
      go_wp2_with fail
      have HW : Hid (Fr [] w ((w.alloc (Obj.cells #[.string s, .int .i64 1, .int .i64 (-1)] 139)).alloc (Obj.cells #[.int .i64 0, .int .i64 0, .int .i64 0] 56))) := ((Fr.refl _ _).alloc _).alloc _
      have HS : Hid (ScanAt ((w.alloc (Obj.cells #[.string s, .int .i64 1, .int .i64 (-1)] 139)).alloc (Obj.cells #[.int .i64 0, .int .i64 0, .int .i64 0] 56)) w.heap.size s 1 (-1)) := ⟨by simp [go_sem], by simp [go_sem], by simp [go_sem], fun o => by simp [go_sem], HHL.out, by omega⟩
      have m0 : ((w.alloc (Obj.cells #[.string s, .int .i64 1, .int .i64 (-1)] 139)).alloc (Obj.cells #[.int .i64 0, .int .i64 0, .int .i64 0] 56)).cell? ⟨w.heap.size + 1, 0, none⟩ = some (.int .i64 0) := by simp [go_sem]
      have m1 : ((w.alloc (Obj.cells #[.string s, .int .i64 1, .int .i64 (-1)] 139)).alloc (Obj.cells #[.int .i64 0, .int .i64 0, .int .i64 0] 56)).cell? ⟨w.heap.size + 1, 1, none⟩ = some (.int .i64 0) := by simp [go_sem]
      have m2 : ((w.alloc (Obj.cells #[.string s, .int .i64 1, .int .i64 (-1)] 139)).alloc (Obj.cells #[.int .i64 0, .int .i64 0, .int .i64 0] 56)).cell? ⟨w.heap.size + 1, 2, none⟩ = some (.int .i64 0) := by simp [go_sem]
      have zm : ∀ o, ((w.alloc (Obj.cells #[.string s, .int .i64 1, .int .i64 (-1)] 139)).alloc (Obj.cells #[.int .i64 0, .int .i64 0, .int .i64 0] 56)).frozen? ⟨w.heap.size + 1, o, none⟩ = false := fun o => by simp [go_sem]
      replace cG := HW.out.cellv cG (by simp)
      generalize ((w.alloc (Obj.cells #[.string s, .int .i64 1, .int .i64 (-1)] 139)).alloc (Obj.cells #[.int .i64 0, .int .i64 0, .int .i64 0] 56)) = W at *
      have nBA : w.heap.size + 1 ∉ [w.heap.size] := by simp
      have nGA : G ∉ [w.heap.size] := by simp; omega
      refine (sdigit_calls w.heap.size s (.ok 1) W HS.out).mono ?_
      rintro e w1 ⟨rfl, h1, f1⟩
      rw [hx] at h1 ⊢
      have lm := lt_of_cell m0
      replace zm := fun o => f1.frozenv (zm o) lm nBA
      replace m0 := f1.cellv m0 nBA
      replace m1 := f1.cellv m1 nBA
      replace m2 := f1.cellv m2 nBA
      replace cG := f1.cellv cG nGA
      have F_w1 : Hid (Fr [] w w1) := HW.out.trans f1 (fun x hx hm => by simp at hm; omega)
      have S_w1 : Hid (ScSt w1 w.heap.size s (.ok 2)) := h1
      clear f1 lm h1
      generalize V.digV (L s) 1 = f at *
      go_wp2_with fail
      have fs : Fr [w.heap.size + 1] w1 (w1.setCell ⟨w.heap.size + 1, 0, none⟩ (.int .i64 f)) := (Fr.refl _ _).setCell (by simp) _
      have r0 : (w1.setCell ⟨w.heap.size + 1, 0, none⟩ (.int .i64 f)).cell? ⟨w.heap.size + 1, 0, none⟩ = some (.int .i64 f) := by simp [cell_set, m0]
      have r1 := (show (w1.setCell ⟨w.heap.size + 1, 0, none⟩ (.int .i64 f)).cell? ⟨w.heap.size + 1, 1, none⟩ = w1.cell? ⟨w.heap.size + 1, 1, none⟩ by simp [cell_set]).trans m1
      have r2 := (show (w1.setCell ⟨w.heap.size + 1, 0, none⟩ (.int .i64 f)).cell? ⟨w.heap.size + 1, 2, none⟩ = w1.cell? ⟨w.heap.size + 1, 2, none⟩ by simp [cell_set]).trans m2
      have rz : ∀ o, (w1.setCell ⟨w.heap.size + 1, 0, none⟩ (.int .i64 f)).frozen? ⟨w.heap.size + 1, o, none⟩ = false := fun o => by simp [zm o]
      replace cG := fs.cellv cG (by simp; omega)
      have F_w2 : Hid (Fr [] w (w1.setCell ⟨w.heap.size + 1, 0, none⟩ (.int .i64 f))) := F_w1.out.setCell (fun h => absurd h (by simp)) _
      have S_w2 : Hid (ScSt (w1.setCell ⟨w.heap.size + 1, 0, none⟩ (.int .i64 f)) w.heap.size s (.ok 2)) := S_w1.out.keep fs (by simp)
      clear m0 m1 m2 zm fs
      have m0 := r0
      have m1 := r1
      have m2 := r2
      have zm := rz
      clear r0 r1 r2 rz
      generalize (w1.setCell ⟨w.heap.size + 1, 0, none⟩ (.int .i64 f)) = w2 at *
      refine (sdigit_calls w.heap.size s (.ok 2) w2 S_w2.out).mono ?_
      rintro e w3 ⟨rfl, h1, f1⟩
      rw [hx2] at h1 ⊢
      have lm := lt_of_cell m0
      replace zm := fun o => f1.frozenv (zm o) lm nBA
      replace m0 := f1.cellv m0 nBA
      replace m1 := f1.cellv m1 nBA
      replace m2 := f1.cellv m2 nBA
      replace cG := f1.cellv cG nGA
      have F_w3 : Hid (Fr [] w w3) := F_w2.out.trans f1 (fun x hx hm => by simp at hm; omega)
      have S_w3 : Hid (ScSt w3 w.heap.size s (.error 2)) := h1
      clear f1 lm h1
      obtain ⟨hq20, pp, hsc⟩ := S_w3.out
      have ca := hsc.ca
      clear hsc

      have hil := itoa_len (2 : Int)
      obtain ⟨xx, ex, ha⟩ := add_ex [64] (V.itoa (2 : Int)) (by simp; omega)
      change ∀ W, (binOp .add 9 (.string ⟨#[64]⟩) (S (V.itoa (2 : Int)))).run Try.prog W = .ok (S xx) W at ha
      have HX : Hid (xx = [64] ++ V.itoa (2 : Int)) := ex
      clear ex hil
      go_wp2_with fail
      refine (itoa_calls (2 : Int) _ (by omega) (by omega)).mono ?_
      rintro e wz ⟨rfl, fz⟩
      have FZ : Hid (Fr [D, M] w wz) := ((F_w3.out.setCell (fun h => absurd h (by simp)) _).trans fz (by simp)).mono (by simp)
      have LZ : Hid (MLdAt wz D M d) := HH.out.keep (B := []) ((F_w3.out.setCell (fun h => absurd h (by simp)) _).trans fz (by simp)) (by simp) (by simp)
      clear fz
      go_wp2_with fail
      go_ret2
      have hans : V.answer d (L s) = (d, xx, 8) := by rw [answer_err HHL.out HDQ.out]; rw [HX.out]; try rfl
      rw [hans]
      exact ⟨rfl, LZ.out, FZ.out⟩
    | true =>
      have hdb2 := digV_bd hd2
      have hx2 : xDig (L s) (.ok 2) = (V.digV (L s) 2, .ok 3) := by simp [xDig, hd2]
      by_cases hp : 3 < s.size
      · have hpi : (3 : Int) < (s.size : Int) := by omega
        have HDQ : Hid (V.decode (L s) = .error 3) := by show _ = _; rw [HDE.out, if_neg (by decide), if_neg (by decide), if_pos rfl, if_pos hd, if_pos hd2, V.pEnd, if_pos (by rw [L_len]; exact hp)]
        clear HDE hd hd2
        go_enter Try.func94, Try.ntmps94
        go_wp2_with fail
        have HW : Hid (Fr [] w ((w.alloc (Obj.cells #[.string s, .int .i64 1, .int .i64 (-1)] 139)).alloc (Obj.cells #[.int .i64 0, .int .i64 0, .int .i64 0] 56))) := ((Fr.refl _ _).alloc _).alloc _
        have HS : Hid (ScanAt ((w.alloc (Obj.cells #[.string s, .int .i64 1, .int .i64 (-1)] 139)).alloc (Obj.cells #[.int .i64 0, .int .i64 0, .int .i64 0] 56)) w.heap.size s 1 (-1)) := ⟨by simp [go_sem], by simp [go_sem], by simp [go_sem], fun o => by simp [go_sem], HHL.out, by omega⟩
        have m0 : ((w.alloc (Obj.cells #[.string s, .int .i64 1, .int .i64 (-1)] 139)).alloc (Obj.cells #[.int .i64 0, .int .i64 0, .int .i64 0] 56)).cell? ⟨w.heap.size + 1, 0, none⟩ = some (.int .i64 0) := by simp [go_sem]
        have m1 : ((w.alloc (Obj.cells #[.string s, .int .i64 1, .int .i64 (-1)] 139)).alloc (Obj.cells #[.int .i64 0, .int .i64 0, .int .i64 0] 56)).cell? ⟨w.heap.size + 1, 1, none⟩ = some (.int .i64 0) := by simp [go_sem]
        have m2 : ((w.alloc (Obj.cells #[.string s, .int .i64 1, .int .i64 (-1)] 139)).alloc (Obj.cells #[.int .i64 0, .int .i64 0, .int .i64 0] 56)).cell? ⟨w.heap.size + 1, 2, none⟩ = some (.int .i64 0) := by simp [go_sem]
        have zm : ∀ o, ((w.alloc (Obj.cells #[.string s, .int .i64 1, .int .i64 (-1)] 139)).alloc (Obj.cells #[.int .i64 0, .int .i64 0, .int .i64 0] 56)).frozen? ⟨w.heap.size + 1, o, none⟩ = false := fun o => by simp [go_sem]
        replace cG := HW.out.cellv cG (by simp)
        generalize ((w.alloc (Obj.cells #[.string s, .int .i64 1, .int .i64 (-1)] 139)).alloc (Obj.cells #[.int .i64 0, .int .i64 0, .int .i64 0] 56)) = W at *
        have nBA : w.heap.size + 1 ∉ [w.heap.size] := by simp
        have nGA : G ∉ [w.heap.size] := by simp; omega
        refine (sdigit_calls w.heap.size s (.ok 1) W HS.out).mono ?_
        rintro e w1 ⟨rfl, h1, f1⟩
        rw [hx] at h1 ⊢
        have lm := lt_of_cell m0
        replace zm := fun o => f1.frozenv (zm o) lm nBA
        replace m0 := f1.cellv m0 nBA
        replace m1 := f1.cellv m1 nBA
        replace m2 := f1.cellv m2 nBA
        replace cG := f1.cellv cG nGA
        have F_w1 : Hid (Fr [] w w1) := HW.out.trans f1 (fun x hx hm => by simp at hm; omega)
        have S_w1 : Hid (ScSt w1 w.heap.size s (.ok 2)) := h1
        clear f1 lm h1
        generalize V.digV (L s) 1 = f at *
        go_wp2_with fail
        have fs : Fr [w.heap.size + 1] w1 (w1.setCell ⟨w.heap.size + 1, 0, none⟩ (.int .i64 f)) := (Fr.refl _ _).setCell (by simp) _
        have r0 : (w1.setCell ⟨w.heap.size + 1, 0, none⟩ (.int .i64 f)).cell? ⟨w.heap.size + 1, 0, none⟩ = some (.int .i64 f) := by simp [cell_set, m0]
        have r1 := (show (w1.setCell ⟨w.heap.size + 1, 0, none⟩ (.int .i64 f)).cell? ⟨w.heap.size + 1, 1, none⟩ = w1.cell? ⟨w.heap.size + 1, 1, none⟩ by simp [cell_set]).trans m1
        have r2 := (show (w1.setCell ⟨w.heap.size + 1, 0, none⟩ (.int .i64 f)).cell? ⟨w.heap.size + 1, 2, none⟩ = w1.cell? ⟨w.heap.size + 1, 2, none⟩ by simp [cell_set]).trans m2
        have rz : ∀ o, (w1.setCell ⟨w.heap.size + 1, 0, none⟩ (.int .i64 f)).frozen? ⟨w.heap.size + 1, o, none⟩ = false := fun o => by simp [zm o]
        replace cG := fs.cellv cG (by simp; omega)
        have F_w2 : Hid (Fr [] w (w1.setCell ⟨w.heap.size + 1, 0, none⟩ (.int .i64 f))) := F_w1.out.setCell (fun h => absurd h (by simp)) _
        have S_w2 : Hid (ScSt (w1.setCell ⟨w.heap.size + 1, 0, none⟩ (.int .i64 f)) w.heap.size s (.ok 2)) := S_w1.out.keep fs (by simp)
        clear m0 m1 m2 zm fs
        have m0 := r0
        have m1 := r1
        have m2 := r2
        have zm := rz
        clear r0 r1 r2 rz
        generalize (w1.setCell ⟨w.heap.size + 1, 0, none⟩ (.int .i64 f)) = w2 at *
        refine (sdigit_calls w.heap.size s (.ok 2) w2 S_w2.out).mono ?_
        rintro e w3 ⟨rfl, h1, f1⟩
        rw [hx2] at h1 ⊢
        have lm := lt_of_cell m0
        replace zm := fun o => f1.frozenv (zm o) lm nBA
        replace m0 := f1.cellv m0 nBA
        replace m1 := f1.cellv m1 nBA
        replace m2 := f1.cellv m2 nBA
        replace cG := f1.cellv cG nGA
        have F_w3 : Hid (Fr [] w w3) := F_w2.out.trans f1 (fun x hx hm => by simp at hm; omega)
        have S_w3 : Hid (ScSt w3 w.heap.size s (.ok 3)) := h1
        clear f1 lm h1
        have hsc : ScanAt w3 w.heap.size s (3) (-1) := S_w3.out
        have ca := hsc.ca
        have cp := hsc.cp
        have fA := hsc.fA
        clear hsc
        generalize V.digV (L s) 2 = tt at *

        have hil := itoa_len (3 : Int)
        obtain ⟨xx, ex, ha⟩ := add_ex [64] (V.itoa (3 : Int)) (by simp; omega)
        change ∀ W, (binOp .add 9 (.string ⟨#[64]⟩) (S (V.itoa (3 : Int)))).run Try.prog W = .ok (S xx) W at ha
        have HX : Hid (xx = [64] ++ V.itoa (3 : Int)) := ex
        clear ex hil
        go_wp2_with fail
        refine (itoa_calls (3 : Int) _ (by omega) (by omega)).mono ?_
        rintro e wz ⟨rfl, fz⟩
        have FZ : Hid (Fr [D, M] w wz) := (((F_w3.out.setCell (fun h => absurd h (by simp)) _).setCell (fun h => absurd h (by simp)) _).trans fz (by simp)).mono (by simp)
        have LZ : Hid (MLdAt wz D M d) := HH.out.keep (B := []) (((F_w3.out.setCell (fun h => absurd h (by simp)) _).setCell (fun h => absurd h (by simp)) _).trans fz (by simp)) (by simp) (by simp)
        clear fz
        go_wp2_with fail
        go_ret2
        have hans : V.answer d (L s) = (d, xx, 8) := by rw [answer_err HHL.out HDQ.out]; rw [HX.out]; try rfl
        rw [hans]
        exact ⟨rfl, LZ.out, FZ.out⟩
      · have hpi : ¬ (3 : Int) < (s.size : Int) := by omega
        have HDQ : Hid (V.decode (L s) = .ok ⟨83, ⟨V.digV (L s) 1, V.digV (L s) 2, 0⟩, []⟩) := by show _ = _; rw [HDE.out, if_neg (by decide), if_neg (by decide), if_pos rfl, if_pos hd, if_pos hd2, V.pEnd, if_neg (by rw [L_len]; exact hp)]
        clear HDE hd hd2
        go_enter Try.func94, Try.ntmps94
        go_wp2_with fail
        have HW : Hid (Fr [] w ((w.alloc (Obj.cells #[.string s, .int .i64 1, .int .i64 (-1)] 139)).alloc (Obj.cells #[.int .i64 0, .int .i64 0, .int .i64 0] 56))) := ((Fr.refl _ _).alloc _).alloc _
        have HS : Hid (ScanAt ((w.alloc (Obj.cells #[.string s, .int .i64 1, .int .i64 (-1)] 139)).alloc (Obj.cells #[.int .i64 0, .int .i64 0, .int .i64 0] 56)) w.heap.size s 1 (-1)) := ⟨by simp [go_sem], by simp [go_sem], by simp [go_sem], fun o => by simp [go_sem], HHL.out, by omega⟩
        have m0 : ((w.alloc (Obj.cells #[.string s, .int .i64 1, .int .i64 (-1)] 139)).alloc (Obj.cells #[.int .i64 0, .int .i64 0, .int .i64 0] 56)).cell? ⟨w.heap.size + 1, 0, none⟩ = some (.int .i64 0) := by simp [go_sem]
        have m1 : ((w.alloc (Obj.cells #[.string s, .int .i64 1, .int .i64 (-1)] 139)).alloc (Obj.cells #[.int .i64 0, .int .i64 0, .int .i64 0] 56)).cell? ⟨w.heap.size + 1, 1, none⟩ = some (.int .i64 0) := by simp [go_sem]
        have m2 : ((w.alloc (Obj.cells #[.string s, .int .i64 1, .int .i64 (-1)] 139)).alloc (Obj.cells #[.int .i64 0, .int .i64 0, .int .i64 0] 56)).cell? ⟨w.heap.size + 1, 2, none⟩ = some (.int .i64 0) := by simp [go_sem]
        have zm : ∀ o, ((w.alloc (Obj.cells #[.string s, .int .i64 1, .int .i64 (-1)] 139)).alloc (Obj.cells #[.int .i64 0, .int .i64 0, .int .i64 0] 56)).frozen? ⟨w.heap.size + 1, o, none⟩ = false := fun o => by simp [go_sem]
        replace cG := HW.out.cellv cG (by simp)
        generalize ((w.alloc (Obj.cells #[.string s, .int .i64 1, .int .i64 (-1)] 139)).alloc (Obj.cells #[.int .i64 0, .int .i64 0, .int .i64 0] 56)) = W at *
        have nBA : w.heap.size + 1 ∉ [w.heap.size] := by simp
        have nGA : G ∉ [w.heap.size] := by simp; omega
        refine (sdigit_calls w.heap.size s (.ok 1) W HS.out).mono ?_
        rintro e w1 ⟨rfl, h1, f1⟩
        rw [hx] at h1 ⊢
        have lm := lt_of_cell m0
        replace zm := fun o => f1.frozenv (zm o) lm nBA
        replace m0 := f1.cellv m0 nBA
        replace m1 := f1.cellv m1 nBA
        replace m2 := f1.cellv m2 nBA
        replace cG := f1.cellv cG nGA
        have F_w1 : Hid (Fr [] w w1) := HW.out.trans f1 (fun x hx hm => by simp at hm; omega)
        have S_w1 : Hid (ScSt w1 w.heap.size s (.ok 2)) := h1
        clear f1 lm h1
        generalize V.digV (L s) 1 = f at *
        go_wp2_with fail
        have fs : Fr [w.heap.size + 1] w1 (w1.setCell ⟨w.heap.size + 1, 0, none⟩ (.int .i64 f)) := (Fr.refl _ _).setCell (by simp) _
        have r0 : (w1.setCell ⟨w.heap.size + 1, 0, none⟩ (.int .i64 f)).cell? ⟨w.heap.size + 1, 0, none⟩ = some (.int .i64 f) := by simp [cell_set, m0]
        have r1 := (show (w1.setCell ⟨w.heap.size + 1, 0, none⟩ (.int .i64 f)).cell? ⟨w.heap.size + 1, 1, none⟩ = w1.cell? ⟨w.heap.size + 1, 1, none⟩ by simp [cell_set]).trans m1
        have r2 := (show (w1.setCell ⟨w.heap.size + 1, 0, none⟩ (.int .i64 f)).cell? ⟨w.heap.size + 1, 2, none⟩ = w1.cell? ⟨w.heap.size + 1, 2, none⟩ by simp [cell_set]).trans m2
        have rz : ∀ o, (w1.setCell ⟨w.heap.size + 1, 0, none⟩ (.int .i64 f)).frozen? ⟨w.heap.size + 1, o, none⟩ = false := fun o => by simp [zm o]
        replace cG := fs.cellv cG (by simp; omega)
        have F_w2 : Hid (Fr [] w (w1.setCell ⟨w.heap.size + 1, 0, none⟩ (.int .i64 f))) := F_w1.out.setCell (fun h => absurd h (by simp)) _
        have S_w2 : Hid (ScSt (w1.setCell ⟨w.heap.size + 1, 0, none⟩ (.int .i64 f)) w.heap.size s (.ok 2)) := S_w1.out.keep fs (by simp)
        clear m0 m1 m2 zm fs
        have m0 := r0
        have m1 := r1
        have m2 := r2
        have zm := rz
        clear r0 r1 r2 rz
        generalize (w1.setCell ⟨w.heap.size + 1, 0, none⟩ (.int .i64 f)) = w2 at *
        refine (sdigit_calls w.heap.size s (.ok 2) w2 S_w2.out).mono ?_
        rintro e w3 ⟨rfl, h1, f1⟩
        rw [hx2] at h1 ⊢
        have lm := lt_of_cell m0
        replace zm := fun o => f1.frozenv (zm o) lm nBA
        replace m0 := f1.cellv m0 nBA
        replace m1 := f1.cellv m1 nBA
        replace m2 := f1.cellv m2 nBA
        replace cG := f1.cellv cG nGA
        have F_w3 : Hid (Fr [] w w3) := F_w2.out.trans f1 (fun x hx hm => by simp at hm; omega)
        have S_w3 : Hid (ScSt w3 w.heap.size s (.ok 3)) := h1
        clear f1 lm h1
        have hsc : ScanAt w3 w.heap.size s (3) (-1) := S_w3.out
        have ca := hsc.ca
        have cp := hsc.cp
        have fA := hsc.fA
        clear hsc
        generalize V.digV (L s) 2 = tt at *
        have F4 : Hid (Fr [] w (w3.setCell ⟨w.heap.size + 1, 1, none⟩ (.int .i64 tt))) := F_w3.out.setCell (fun h => absurd h (by simp)) _
        have mm : (w3.setCell ⟨w.heap.size + 1, 1, none⟩ (.int .i64 tt)).cell? ⟨w.heap.size + 1, 0, none⟩ = some (.int .i64 f) := by simp [cell_set, m0]
        have mt : (w3.setCell ⟨w.heap.size + 1, 1, none⟩ (.int .i64 tt)).cell? ⟨w.heap.size + 1, 1, none⟩ = some (.int .i64 tt) := by simp [cell_set, m1]
        have cG4 := ((Fr.refl [w.heap.size + 1] w3).setCell (p := ⟨w.heap.size + 1, 1, none⟩) (by simp) (.int .i64 tt)).cellv cG (by simp; omega)
        by_cases ht : tt = 0
        · subst ht
          go_wp2_with fail
          generalize (w3.setCell ⟨w.heap.size + 1, 1, none⟩ (.int .i64 0)) = w4 at *
          clear m0 m1 m2 zm ca cp fA cG
          go_region_held3 (fun w' => w'.cell? ⟨G, 0, none⟩ = some (.pointer (some ⟨D, 0, none⟩)) ∧ w'.cell? ⟨w.heap.size + 1, 0, none⟩ = some (.int .i64 f)) (go_keep)
            (first | (go_at_call 101; refine (mbalance_calls D M f d w4.drew (HH.out.keep F4.out.drew (by simp) (by simp))).mono ?_; rintro e w5 ⟨rfl, h3, f3⟩; have LD : Hid (MLdAt w5 D M (d.balance f).1) := h3; have FR0 : Hid (Fr [D, M] w4.drew w5) := f3; have u0 := f3.cellv (b := G) (o := 0) cG4 HG.out; have u1 := f3.cellv (b := w.heap.size + 1) (o := 0) mm hd1; clear h3 f3))
          rename_i hHeld
          clear hHeld u0 u1 mm cG4 mt
          have FR : Hid (Fr [D, M] w w5) := (F4.out.drew.mono (by simp)).trans FR0.out (fun _ _ h => h)
          clear FR0
          by_cases he : (d.t.clear.acq f).2.2 = 0
          · have hb : (d.balance f) = (({ d with t := ((d.t.clear.acq f).1.rel (d.t.clear.acq f).2.1).1 } : V.Ld), V.bl d.bal f.toNat, 0) := by unfold V.Ld.balance; dsimp only; rw [if_pos he]
            have HRUN : Hid ((V.run d ⟨83, ⟨f, 0, 0⟩, []⟩).1 = (d.balance f).1 ∧ (V.run d ⟨83, ⟨f, 0, 0⟩, []⟩).2 = none) := by
              have hsp : d.split f 0 = ((d.balance f).1, none) := by rw [hb]; unfold V.Ld.split; dsimp only; rw [if_pos he]; rfl
              show (d.split f 0).1 = _ ∧ (match (d.split f 0).2 with | some r => some (V.shape 83 r.1 r.2) | none => none) = none
              rw [hsp]
              exact ⟨rfl, rfl⟩
            have hb2 : (d.balance f).2.2 = 0 := by rw [hb]
            clear hb he
            generalize d.balance f = rr at *
            rw [hb2]
            go_wp2_with fail
            go_ret2
            rw [answer_none HHL.out HDQ.out HRUN.out.2, HRUN.out.1]
            exact ⟨rfl, LD.out, FR.out⟩
          · have hb : (d.balance f) = (({ d with t := (d.t.clear.acq f).1 } : V.Ld), 0, (d.t.clear.acq f).2.2) := by unfold V.Ld.balance; dsimp only; rw [if_neg he]
            have HRUN : Hid ((V.run d ⟨83, ⟨f, 0, 0⟩, []⟩).1 = (d.balance f).1 ∧ (V.run d ⟨83, ⟨f, 0, 0⟩, []⟩).2 = some ([], (d.balance f).2.2)) := by
              have hsp : d.split f 0 = ((d.balance f).1, some (0, (d.balance f).2.2)) := by rw [hb]; unfold V.Ld.split; dsimp only; rw [if_neg he]
              show (d.split f 0).1 = _ ∧ (match (d.split f 0).2 with | some r => some (V.shape 83 r.1 r.2) | none => none) = _
              rw [hsp]
              exact ⟨rfl, by dsimp only; rw [shape_no (by rw [hb]; exact he) (by decide)]⟩
            have hb2 : ¬ (d.balance f).2.2 = 0 := by rw [hb]; exact he
            clear hb he
            generalize d.balance f = rr at *
            have hb3 : (rr.2.2 == 0) = false := by simpa using hb2
            have hb4 : (rr.2.2 != 0) = true := by simpa using hb2
            go_wp2_with fail
            go_ret2
            rw [answer_some HHL.out HDQ.out HRUN.out.2, HRUN.out.1]
            exact ⟨rfl, LD.out, FR.out⟩
        · have ht' : (tt == 0) = false := by simpa using ht
          have htp : 0 < tt := by omega
          go_wp2_with fail
          generalize (w3.setCell ⟨w.heap.size + 1, 1, none⟩ (.int .i64 tt)) = w4 at *
          clear m0 m1 m2 zm ca cp fA cG
          go_region_held3 (fun w' => w'.cell? ⟨G, 0, none⟩ = some (.pointer (some ⟨D, 0, none⟩)) ∧ w'.cell? ⟨w.heap.size + 1, 0, none⟩ = some (.int .i64 f) ∧ w'.cell? ⟨w.heap.size + 1, 1, none⟩ = some (.int .i64 tt)) (go_keep)
            (first | (go_at_call 102; refine (msplit_calls D M f tt d w4.drew (HH.out.keep F4.out.drew (by simp) (by simp)) htp).mono ?_; rintro e w5 ⟨nn, xx, hsp, rfl, h3, f3⟩; have HSP : Hid ((d.split f tt).2 = some (nn, xx)) := hsp; have LD : Hid (MLdAt w5 D M (d.split f tt).1) := h3; have FR0 : Hid (Fr [D, M] w4.drew w5) := f3; have u0 := f3.cellv (b := G) (o := 0) cG4 HG.out; have u1 := f3.cellv (b := w.heap.size + 1) (o := 0) mm hd1; have u2 := f3.cellv (b := w.heap.size + 1) (o := 1) mt hd1; clear h3 f3 hsp))
          rename_i hHeld
          clear hHeld u0 u1 u2 mm cG4 mt
          have FR : Hid (Fr [D, M] w w5) := (F4.out.drew.mono (by simp)).trans FR0.out (fun _ _ h => h)
          have BD : Hid (0 ≤ ((d.split f tt).1, nn, xx).2.1 ∧ ((d.split f tt).1, nn, xx).2.1 < 10000) := by
            have h1 := HSP.out
            unfold V.Ld.split at h1
            dsimp only at h1
            split at h1
            · try rw [if_neg ht] at h1
              cases h1
              exact div_bd (HH.out.bd _) htp
            · cases h1
              show (0 : Int) ≤ 0 ∧ (0 : Int) < 10000
              omega
          have HRUN : Hid ((V.run d ⟨83, ⟨f, tt, 0⟩, []⟩).1 = ((d.split f tt).1, nn, xx).1 ∧ (V.run d ⟨83, ⟨f, tt, 0⟩, []⟩).2 = some (V.shape 83 ((d.split f tt).1, nn, xx).2.1 ((d.split f tt).1, nn, xx).2.2)) := by
            show (d.split f tt).1 = _ ∧ (match (d.split f tt).2 with | some r => some (V.shape 83 r.1 r.2) | none => none) = _
            rw [HSP.out]
            exact ⟨rfl, rfl⟩
          clear FR0 HSP
          change Hid (MLdAt w5 D M ((d.split f tt).1, nn, xx).1) at LD
          obtain ⟨rr0, hrr0⟩ : ∃ rr, rr = ((d.split f tt).1, nn, xx) := ⟨_, rfl⟩
          obtain rfl : nn = rr0.2.1 := by rw [hrr0]
          obtain rfl : xx = rr0.2.2 := by rw [hrr0]
          rw [← hrr0] at LD BD HRUN
          clear hrr0
          generalize rr0 = rr at *
          by_cases he : rr.2.2 = 0
          · have he' : (rr.2.2 != 0) = false := by simpa using he
            go_wp2_with fail
            refine (itoa_calls rr.2.1 _ BD.out.1 BD.out.2).mono ?_
            rintro e wz ⟨rfl, fz⟩
            have FZ : Hid (Fr [D, M] w wz) := FR.out.trans fz (by simp)
            have LZ : Hid (MLdAt wz D M rr.1) := LD.out.keep fz (by simp) (by simp)
            clear fz
            go_wp2_with fail
            go_ret2
            have hr := HRUN.out
            rw [he, shape_ok] at hr
            rw [answer_some HHL.out HDQ.out hr.2, hr.1]
            exact ⟨rfl, LZ.out, FZ.out⟩
          · have he' : (rr.2.2 != 0) = true := by simpa using he
            go_wp2_with fail
            go_ret2
            have hr := HRUN.out
            rw [shape_no he (by decide)] at hr
            rw [answer_some HHL.out HDQ.out hr.2, hr.1]
            exact ⟨rfl, LD.out, FR.out⟩

set_option maxHeartbeats 2000000 in
set_option maxRecDepth 100000 in
theorem mserve_T (G D M : Nat) (d : V.Ld) (s : ByteArray) (w : World) (h : MLdAt w D M d) (cG : w.cell? ⟨G, 0, none⟩ = some (.pointer (some ⟨D, 0, none⟩))) (hG : G ∉ [D, M]) (hl : s.size ≤ 20) (h0 : 0 < s.size) (hv : s[0] = 84) :
    Calls Try.prog 94 #[.pointer (some ⟨G, 0, none⟩), .string s] w fun e w' => e = .returned (.tuple #[S (V.answer d (L s)).2.1, .int .i64 (V.answer d (L s)).2.2]) ∧ MLdAt w' D M (V.answer d (L s)).1 ∧ Fr [D, M] w w' := by
  have HH : Hid (MLdAt w D M d) := h
  have lG := lt_of_cell cG
  have lD := h.lD
  have lM := h.tb.lM
  have hli : ¬ (20 : Int) < (s.size : Int) := by omega
  have hz : (((s.size : Nat) : Int) == 0) = false := by rw [beq_eq_false_iff_ne]; omega
  have h0i : (0 : Int) < (s.size : Int) := by omega
  have hvv : ((s[0].toNat : Nat) : Int) = 84 := by rw [hv]; rfl
  have HDE : Hid (V.decode (L s) = _) := decode_eq s h0
  rw [L_at s 0 h0, hv] at HDE
  have HHL : Hid (s.size ≤ 20) := hl
  have HG : Hid (G ∉ [D, M]) := hG
  have hd0 : w.heap.size ∉ [D, M] := by simp; omega
  have hd1 : w.heap.size + 1 ∉ [D, M] := by simp; omega
  clear h hv hG
  cases hm : V.pMove (L s) 1 with
  | error q =>
    have HDQ : Hid (V.decode (L s) = .error q) := by show _ = _; rw [HDE.out, if_neg (by decide), if_neg (by decide), if_neg (by decide), if_pos rfl, hm]
    have hx := xMove_err hm
    clear HDE hm
    go_enter Try.func94, Try.ntmps94
    go_wp2_with fail
    have HW : Hid (Fr [] w ((w.alloc (Obj.cells #[.string s, .int .i64 1, .int .i64 (-1)] 139)).alloc (Obj.cells #[.int .i64 0, .int .i64 0, .int .i64 0] 56))) := ((Fr.refl _ _).alloc _).alloc _
    have HS : Hid (ScanAt ((w.alloc (Obj.cells #[.string s, .int .i64 1, .int .i64 (-1)] 139)).alloc (Obj.cells #[.int .i64 0, .int .i64 0, .int .i64 0] 56)) w.heap.size s 1 (-1)) := ⟨by simp [go_sem], by simp [go_sem], by simp [go_sem], fun o => by simp [go_sem], HHL.out, by omega⟩
    have m0 : ((w.alloc (Obj.cells #[.string s, .int .i64 1, .int .i64 (-1)] 139)).alloc (Obj.cells #[.int .i64 0, .int .i64 0, .int .i64 0] 56)).cell? ⟨w.heap.size + 1, 0, none⟩ = some (.int .i64 0) := by simp [go_sem]
    have m1 : ((w.alloc (Obj.cells #[.string s, .int .i64 1, .int .i64 (-1)] 139)).alloc (Obj.cells #[.int .i64 0, .int .i64 0, .int .i64 0] 56)).cell? ⟨w.heap.size + 1, 1, none⟩ = some (.int .i64 0) := by simp [go_sem]
    have m2 : ((w.alloc (Obj.cells #[.string s, .int .i64 1, .int .i64 (-1)] 139)).alloc (Obj.cells #[.int .i64 0, .int .i64 0, .int .i64 0] 56)).cell? ⟨w.heap.size + 1, 2, none⟩ = some (.int .i64 0) := by simp [go_sem]
    have zm : ∀ o, ((w.alloc (Obj.cells #[.string s, .int .i64 1, .int .i64 (-1)] 139)).alloc (Obj.cells #[.int .i64 0, .int .i64 0, .int .i64 0] 56)).frozen? ⟨w.heap.size + 1, o, none⟩ = false := fun o => by simp [go_sem]
    replace cG := HW.out.cellv cG (by simp)
    generalize ((w.alloc (Obj.cells #[.string s, .int .i64 1, .int .i64 (-1)] 139)).alloc (Obj.cells #[.int .i64 0, .int .i64 0, .int .i64 0] 56)) = W at *
    have nBA : w.heap.size + 1 ∉ [w.heap.size] := by simp
    have nGA : G ∉ [w.heap.size] := by simp; omega
    refine (smove_calls w.heap.size s (.ok 1) W HS.out).mono ?_
    rintro e w1 ⟨rfl, h1, f1⟩
    have lm := lt_of_cell m0
    replace zm := fun o => f1.frozenv (zm o) lm nBA
    replace m0 := f1.cellv m0 nBA
    replace m1 := f1.cellv m1 nBA
    replace m2 := f1.cellv m2 nBA
    replace cG := f1.cellv cG nGA
    have F_w1 : Hid (Fr [] w w1) := HW.out.trans f1 (fun x hx hm => by simp at hm; omega)
    rw [hx] at h1
    have S_w1 : Hid (ScSt w1 w.heap.size s (.error q)) := h1
    clear f1 lm h1 hx
    generalize (xMove (L s) (.ok 1)).1 = m at *
    obtain ⟨hq20, pp, hsc⟩ := S_w1.out
    have ca := hsc.ca
    clear hsc

    have hil := itoa_len ((q : Nat) : Int)
    obtain ⟨xx, ex, ha⟩ := add_ex [64] (V.itoa ((q : Nat) : Int)) (by simp; omega)
    change ∀ W, (binOp .add 9 (.string ⟨#[64]⟩) (S (V.itoa ((q : Nat) : Int)))).run Try.prog W = .ok (S xx) W at ha
    have HX : Hid (xx = [64] ++ V.itoa ((q : Nat) : Int)) := ex
    clear ex hil
    go_wp2_with fail
    refine (itoa_calls ((q : Nat) : Int) _ (by omega) (by omega)).mono ?_
    rintro e wz ⟨rfl, fz⟩
    have FZ : Hid (Fr [D, M] w wz) := ((((F_w1.out.setCell (fun h => absurd h (by simp)) _).setCell (fun h => absurd h (by simp)) _).setCell (fun h => absurd h (by simp)) _).trans fz (by simp)).mono (by simp)
    have LZ : Hid (MLdAt wz D M d) := HH.out.keep (B := []) ((((F_w1.out.setCell (fun h => absurd h (by simp)) _).setCell (fun h => absurd h (by simp)) _).setCell (fun h => absurd h (by simp)) _).trans fz (by simp)) (by simp) (by simp)
    clear fz
    go_wp2_with fail
    go_ret2
    have hans : V.answer d (L s) = (d, xx, 8) := by rw [answer_err HHL.out HDQ.out]; rw [HX.out]; try rfl
    rw [hans]
    exact ⟨rfl, LZ.out, FZ.out⟩
  | ok r =>
    obtain ⟨m, q⟩ := r
    have hx := xMove_ok hm
    by_cases hp : q < s.size
    · have hpi : (q : Int) < (s.size : Int) := by omega
      have HDQ : Hid (V.decode (L s) = .error q) := by show _ = _; rw [HDE.out, if_neg (by decide), if_neg (by decide), if_neg (by decide), if_pos rfl, hm]; dsimp only; rw [V.pEnd, if_pos (by rw [L_len]; exact hp)]
      clear HDE hm
      go_enter Try.func94, Try.ntmps94
      go_wp2_with fail
      have HW : Hid (Fr [] w ((w.alloc (Obj.cells #[.string s, .int .i64 1, .int .i64 (-1)] 139)).alloc (Obj.cells #[.int .i64 0, .int .i64 0, .int .i64 0] 56))) := ((Fr.refl _ _).alloc _).alloc _
      have HS : Hid (ScanAt ((w.alloc (Obj.cells #[.string s, .int .i64 1, .int .i64 (-1)] 139)).alloc (Obj.cells #[.int .i64 0, .int .i64 0, .int .i64 0] 56)) w.heap.size s 1 (-1)) := ⟨by simp [go_sem], by simp [go_sem], by simp [go_sem], fun o => by simp [go_sem], HHL.out, by omega⟩
      have m0 : ((w.alloc (Obj.cells #[.string s, .int .i64 1, .int .i64 (-1)] 139)).alloc (Obj.cells #[.int .i64 0, .int .i64 0, .int .i64 0] 56)).cell? ⟨w.heap.size + 1, 0, none⟩ = some (.int .i64 0) := by simp [go_sem]
      have m1 : ((w.alloc (Obj.cells #[.string s, .int .i64 1, .int .i64 (-1)] 139)).alloc (Obj.cells #[.int .i64 0, .int .i64 0, .int .i64 0] 56)).cell? ⟨w.heap.size + 1, 1, none⟩ = some (.int .i64 0) := by simp [go_sem]
      have m2 : ((w.alloc (Obj.cells #[.string s, .int .i64 1, .int .i64 (-1)] 139)).alloc (Obj.cells #[.int .i64 0, .int .i64 0, .int .i64 0] 56)).cell? ⟨w.heap.size + 1, 2, none⟩ = some (.int .i64 0) := by simp [go_sem]
      have zm : ∀ o, ((w.alloc (Obj.cells #[.string s, .int .i64 1, .int .i64 (-1)] 139)).alloc (Obj.cells #[.int .i64 0, .int .i64 0, .int .i64 0] 56)).frozen? ⟨w.heap.size + 1, o, none⟩ = false := fun o => by simp [go_sem]
      replace cG := HW.out.cellv cG (by simp)
      generalize ((w.alloc (Obj.cells #[.string s, .int .i64 1, .int .i64 (-1)] 139)).alloc (Obj.cells #[.int .i64 0, .int .i64 0, .int .i64 0] 56)) = W at *
      have nBA : w.heap.size + 1 ∉ [w.heap.size] := by simp
      have nGA : G ∉ [w.heap.size] := by simp; omega
      refine (smove_calls w.heap.size s (.ok 1) W HS.out).mono ?_
      rintro e w1 ⟨rfl, h1, f1⟩
      have lm := lt_of_cell m0
      replace zm := fun o => f1.frozenv (zm o) lm nBA
      replace m0 := f1.cellv m0 nBA
      replace m1 := f1.cellv m1 nBA
      replace m2 := f1.cellv m2 nBA
      replace cG := f1.cellv cG nGA
      have F_w1 : Hid (Fr [] w w1) := HW.out.trans f1 (fun x hx hm => by simp at hm; omega)
      rw [hx] at h1 ⊢
      have S_w1 : Hid (ScSt w1 w.heap.size s (.ok q)) := h1
      clear f1 lm h1 hx
      have hsc : ScanAt w1 w.heap.size s (q) (-1) := S_w1.out
      have ca := hsc.ca
      have cp := hsc.cp
      have fA := hsc.fA
      clear hsc

      have hil := itoa_len ((q : Nat) : Int)
      obtain ⟨xx, ex, ha⟩ := add_ex [64] (V.itoa ((q : Nat) : Int)) (by simp; omega)
      change ∀ W, (binOp .add 9 (.string ⟨#[64]⟩) (S (V.itoa ((q : Nat) : Int)))).run Try.prog W = .ok (S xx) W at ha
      have HX : Hid (xx = [64] ++ V.itoa ((q : Nat) : Int)) := ex
      clear ex hil
      go_wp2_with fail
      refine (itoa_calls ((q : Nat) : Int) _ (by omega) (by omega)).mono ?_
      rintro e wz ⟨rfl, fz⟩
      have FZ : Hid (Fr [D, M] w wz) := (((((F_w1.out.setCell (fun h => absurd h (by simp)) _).setCell (fun h => absurd h (by simp)) _).setCell (fun h => absurd h (by simp)) _).setCell (fun h => absurd h (by simp)) _).trans fz (by simp)).mono (by simp)
      have LZ : Hid (MLdAt wz D M d) := HH.out.keep (B := []) (((((F_w1.out.setCell (fun h => absurd h (by simp)) _).setCell (fun h => absurd h (by simp)) _).setCell (fun h => absurd h (by simp)) _).setCell (fun h => absurd h (by simp)) _).trans fz (by simp)) (by simp) (by simp)
      clear fz
      go_wp2_with fail
      go_ret2
      have hans : V.answer d (L s) = (d, xx, 8) := by rw [answer_err HHL.out HDQ.out]; rw [HX.out]; try rfl
      rw [hans]
      exact ⟨rfl, LZ.out, FZ.out⟩
    · have hpi : ¬ (q : Int) < (s.size : Int) := by omega
      have HDQ : Hid (V.decode (L s) = .ok ⟨84, m, []⟩) := by show _ = _; rw [HDE.out, if_neg (by decide), if_neg (by decide), if_neg (by decide), if_pos rfl, hm]; dsimp only; rw [V.pEnd, if_neg (by rw [L_len]; exact hp)]
      clear HDE hm
      go_enter Try.func94, Try.ntmps94
      go_wp2_with fail
      have HW : Hid (Fr [] w ((w.alloc (Obj.cells #[.string s, .int .i64 1, .int .i64 (-1)] 139)).alloc (Obj.cells #[.int .i64 0, .int .i64 0, .int .i64 0] 56))) := ((Fr.refl _ _).alloc _).alloc _
      have HS : Hid (ScanAt ((w.alloc (Obj.cells #[.string s, .int .i64 1, .int .i64 (-1)] 139)).alloc (Obj.cells #[.int .i64 0, .int .i64 0, .int .i64 0] 56)) w.heap.size s 1 (-1)) := ⟨by simp [go_sem], by simp [go_sem], by simp [go_sem], fun o => by simp [go_sem], HHL.out, by omega⟩
      have m0 : ((w.alloc (Obj.cells #[.string s, .int .i64 1, .int .i64 (-1)] 139)).alloc (Obj.cells #[.int .i64 0, .int .i64 0, .int .i64 0] 56)).cell? ⟨w.heap.size + 1, 0, none⟩ = some (.int .i64 0) := by simp [go_sem]
      have m1 : ((w.alloc (Obj.cells #[.string s, .int .i64 1, .int .i64 (-1)] 139)).alloc (Obj.cells #[.int .i64 0, .int .i64 0, .int .i64 0] 56)).cell? ⟨w.heap.size + 1, 1, none⟩ = some (.int .i64 0) := by simp [go_sem]
      have m2 : ((w.alloc (Obj.cells #[.string s, .int .i64 1, .int .i64 (-1)] 139)).alloc (Obj.cells #[.int .i64 0, .int .i64 0, .int .i64 0] 56)).cell? ⟨w.heap.size + 1, 2, none⟩ = some (.int .i64 0) := by simp [go_sem]
      have zm : ∀ o, ((w.alloc (Obj.cells #[.string s, .int .i64 1, .int .i64 (-1)] 139)).alloc (Obj.cells #[.int .i64 0, .int .i64 0, .int .i64 0] 56)).frozen? ⟨w.heap.size + 1, o, none⟩ = false := fun o => by simp [go_sem]
      replace cG := HW.out.cellv cG (by simp)
      generalize ((w.alloc (Obj.cells #[.string s, .int .i64 1, .int .i64 (-1)] 139)).alloc (Obj.cells #[.int .i64 0, .int .i64 0, .int .i64 0] 56)) = W at *
      have nBA : w.heap.size + 1 ∉ [w.heap.size] := by simp
      have nGA : G ∉ [w.heap.size] := by simp; omega
      refine (smove_calls w.heap.size s (.ok 1) W HS.out).mono ?_
      rintro e w1 ⟨rfl, h1, f1⟩
      have lm := lt_of_cell m0
      replace zm := fun o => f1.frozenv (zm o) lm nBA
      replace m0 := f1.cellv m0 nBA
      replace m1 := f1.cellv m1 nBA
      replace m2 := f1.cellv m2 nBA
      replace cG := f1.cellv cG nGA
      have F_w1 : Hid (Fr [] w w1) := HW.out.trans f1 (fun x hx hm => by simp at hm; omega)
      rw [hx] at h1 ⊢
      have S_w1 : Hid (ScSt w1 w.heap.size s (.ok q)) := h1
      clear f1 lm h1 hx
      have hsc : ScanAt w1 w.heap.size s (q) (-1) := S_w1.out
      have ca := hsc.ca
      have cp := hsc.cp
      have fA := hsc.fA
      clear hsc
      have F4 : Hid (Fr [] w (((w1.setCell ⟨w.heap.size + 1, 0, none⟩ (.int .i64 m.f)).setCell ⟨w.heap.size + 1, 1, none⟩ (.int .i64 m.t)).setCell ⟨w.heap.size + 1, 2, none⟩ (.int .i64 m.a))) := ((F_w1.out.setCell (fun h => absurd h (by simp)) _).setCell (fun h => absurd h (by simp)) _).setCell (fun h => absurd h (by simp)) _
      have k0 : (((w1.setCell ⟨w.heap.size + 1, 0, none⟩ (.int .i64 m.f)).setCell ⟨w.heap.size + 1, 1, none⟩ (.int .i64 m.t)).setCell ⟨w.heap.size + 1, 2, none⟩ (.int .i64 m.a)).cell? ⟨w.heap.size + 1, 0, none⟩ = some (.int .i64 m.f) := by simp [cell_set, m0]
      have k1 : (((w1.setCell ⟨w.heap.size + 1, 0, none⟩ (.int .i64 m.f)).setCell ⟨w.heap.size + 1, 1, none⟩ (.int .i64 m.t)).setCell ⟨w.heap.size + 1, 2, none⟩ (.int .i64 m.a)).cell? ⟨w.heap.size + 1, 1, none⟩ = some (.int .i64 m.t) := by simp [cell_set, m1]
      have k2 : (((w1.setCell ⟨w.heap.size + 1, 0, none⟩ (.int .i64 m.f)).setCell ⟨w.heap.size + 1, 1, none⟩ (.int .i64 m.t)).setCell ⟨w.heap.size + 1, 2, none⟩ (.int .i64 m.a)).cell? ⟨w.heap.size + 1, 2, none⟩ = some (.int .i64 m.a) := by simp [cell_set, m2]
      have cG4 := ((((Fr.refl [w.heap.size + 1] w1).setCell (p := ⟨w.heap.size + 1, 0, none⟩) (by simp) (.int .i64 m.f)).setCell (p := ⟨w.heap.size + 1, 1, none⟩) (by simp) (.int .i64 m.t)).setCell (p := ⟨w.heap.size + 1, 2, none⟩) (by simp) (.int .i64 m.a)).cellv cG (by simp; omega)
      go_wp2_with fail
      generalize (((w1.setCell ⟨w.heap.size + 1, 0, none⟩ (.int .i64 m.f)).setCell ⟨w.heap.size + 1, 1, none⟩ (.int .i64 m.t)).setCell ⟨w.heap.size + 1, 2, none⟩ (.int .i64 m.a)) = w4 at *
      clear m0 m1 m2 zm ca cp fA cG
      go_region_held3 (fun w' => w'.cell? ⟨G, 0, none⟩ = some (.pointer (some ⟨D, 0, none⟩)) ∧ w'.cell? ⟨w.heap.size + 1, 0, none⟩ = some (.int .i64 m.f) ∧ w'.cell? ⟨w.heap.size + 1, 1, none⟩ = some (.int .i64 m.t) ∧ w'.cell? ⟨w.heap.size + 1, 2, none⟩ = some (.int .i64 m.a)) (go_keep)
        (first | (go_at_call 103; refine (mtransfer_calls D M m d w4.drew (HH.out.keep F4.out.drew (by simp) (by simp))).mono ?_; rintro e w5 ⟨rfl, h3, f3⟩; have LD : Hid (MLdAt w5 D M (d.transfer m).1) := h3; have FR0 : Hid (Fr [D, M] w4.drew w5) := f3; have u0 := f3.cellv (b := G) (o := 0) cG4 HG.out; have u1 := f3.cellv (b := w.heap.size + 1) (o := 0) k0 hd1; have u2 := f3.cellv (b := w.heap.size + 1) (o := 1) k1 hd1; have u3 := f3.cellv (b := w.heap.size + 1) (o := 2) k2 hd1; clear h3 f3))
      rename_i hHeld
      clear hHeld u0 u1 u2 u3 k0 k1 k2 cG4
      have FR : Hid (Fr [D, M] w w5) := (F4.out.drew.mono (by simp)).trans FR0.out (fun _ _ h => h)
      have BD : Hid (0 ≤ (d.transfer m).2.1 ∧ (d.transfer m).2.1 < 10000) := by
        rcases transfer_n d m with q | q
        · rw [q]; show (0 : Int) ≤ 0 ∧ (0 : Int) < 10000; omega
        · rw [q]; have := LD.out.bd m.f.toNat; show _ ∧ _; omega
      have HRUN : Hid ((V.run d ⟨84, m, []⟩).1 = (d.transfer m).1 ∧ (V.run d ⟨84, m, []⟩).2 = some (V.shape 84 (d.transfer m).2.1 (d.transfer m).2.2)) := ⟨rfl, rfl⟩
      clear FR0
      generalize d.transfer m = rr at *
      by_cases he : rr.2.2 = 0
      · have he' : (rr.2.2 != 0) = false := by simpa using he
        go_wp2_with fail
        refine (itoa_calls rr.2.1 _ BD.out.1 BD.out.2).mono ?_
        rintro e wz ⟨rfl, fz⟩
        have FZ : Hid (Fr [D, M] w wz) := FR.out.trans fz (by simp)
        have LZ : Hid (MLdAt wz D M rr.1) := LD.out.keep fz (by simp) (by simp)
        clear fz
        go_wp2_with fail
        go_ret2
        have hr := HRUN.out
        rw [he, shape_ok] at hr
        rw [answer_some HHL.out HDQ.out hr.2, hr.1]
        exact ⟨rfl, LZ.out, FZ.out⟩
      · have he' : (rr.2.2 != 0) = true := by simpa using he
        go_wp2_with fail
        go_ret2
        have hr := HRUN.out
        rw [shape_no he (by decide)] at hr
        rw [answer_some HHL.out HDQ.out hr.2, hr.1]
        exact ⟨rfl, LD.out, FR.out⟩

set_option maxHeartbeats 2000000 in
set_option maxRecDepth 100000 in
theorem mserve_X (G D M : Nat) (d : V.Ld) (s : ByteArray) (w : World) (h : MLdAt w D M d) (cG : w.cell? ⟨G, 0, none⟩ = some (.pointer (some ⟨D, 0, none⟩))) (hG : G ∉ [D, M]) (hl : s.size ≤ 20) (h0 : 0 < s.size) (hv : s[0] = 88) :
    Calls Try.prog 94 #[.pointer (some ⟨G, 0, none⟩), .string s] w fun e w' => e = .returned (.tuple #[S (V.answer d (L s)).2.1, .int .i64 (V.answer d (L s)).2.2]) ∧ MLdAt w' D M (V.answer d (L s)).1 ∧ Fr [D, M] w w' := by
  have HH : Hid (MLdAt w D M d) := h
  have lG := lt_of_cell cG
  have lD := h.lD
  have lM := h.tb.lM
  have hli : ¬ (20 : Int) < (s.size : Int) := by omega
  have hz : (((s.size : Nat) : Int) == 0) = false := by rw [beq_eq_false_iff_ne]; omega
  have h0i : (0 : Int) < (s.size : Int) := by omega
  have hvv : ((s[0].toNat : Nat) : Int) = 88 := by rw [hv]; rfl
  have HDE : Hid (V.decode (L s) = _) := decode_eq s h0
  rw [L_at s 0 h0, hv] at HDE
  have HHL : Hid (s.size ≤ 20) := hl
  have HG : Hid (G ∉ [D, M]) := hG
  have hd0 : w.heap.size ∉ [D, M] := by simp; omega
  have hd1 : w.heap.size + 1 ∉ [D, M] := by simp; omega
  clear h hv hG
  have HDX : Hid (∀ r, V.pMoves (L s) (L s).length 1 [] = r → V.decode (L s) = match r with
      | .ok ms => .ok ⟨88, ⟨0, 0, 0⟩, ms⟩
      | .error e => .error e) := by
    intro r hr
    rw [HDE.out, if_neg (by decide), if_neg (by decide), if_neg (by decide), if_neg (by decide), if_pos rfl, hr]
    cases r <;> rfl
  clear HDE
  go_enter Try.func94, Try.ntmps94
  go_wp2_with fail
  have HW : Hid (Fr [] w ((w.alloc (Obj.cells #[.string s, .int .i64 1, .int .i64 (-1)] 139)).alloc (Obj.cells #[.int .i64 0, .int .i64 0, .int .i64 0] 56))) := ((Fr.refl _ _).alloc _).alloc _
  have HS : Hid (ScanAt ((w.alloc (Obj.cells #[.string s, .int .i64 1, .int .i64 (-1)] 139)).alloc (Obj.cells #[.int .i64 0, .int .i64 0, .int .i64 0] 56)) w.heap.size s 1 (-1)) := ⟨by simp [go_sem], by simp [go_sem], by simp [go_sem], fun o => by simp [go_sem], HHL.out, by omega⟩
  have m0 : ((w.alloc (Obj.cells #[.string s, .int .i64 1, .int .i64 (-1)] 139)).alloc (Obj.cells #[.int .i64 0, .int .i64 0, .int .i64 0] 56)).cell? ⟨w.heap.size + 1, 0, none⟩ = some (.int .i64 0) := by simp [go_sem]
  have m1 : ((w.alloc (Obj.cells #[.string s, .int .i64 1, .int .i64 (-1)] 139)).alloc (Obj.cells #[.int .i64 0, .int .i64 0, .int .i64 0] 56)).cell? ⟨w.heap.size + 1, 1, none⟩ = some (.int .i64 0) := by simp [go_sem]
  have m2 : ((w.alloc (Obj.cells #[.string s, .int .i64 1, .int .i64 (-1)] 139)).alloc (Obj.cells #[.int .i64 0, .int .i64 0, .int .i64 0] 56)).cell? ⟨w.heap.size + 1, 2, none⟩ = some (.int .i64 0) := by simp [go_sem]
  have zm : ∀ o, ((w.alloc (Obj.cells #[.string s, .int .i64 1, .int .i64 (-1)] 139)).alloc (Obj.cells #[.int .i64 0, .int .i64 0, .int .i64 0] 56)).frozen? ⟨w.heap.size + 1, o, none⟩ = false := fun o => by simp [go_sem]
  replace cG := HW.out.cellv cG (by simp)
  generalize ((w.alloc (Obj.cells #[.string s, .int .i64 1, .int .i64 (-1)] 139)).alloc (Obj.cells #[.int .i64 0, .int .i64 0, .int .i64 0] 56)) = W at *
  have nGA : G ∉ [w.heap.size] := by simp; omega
  have HCG : Hid (W.cell? ⟨G, 0, none⟩ = some (.pointer (some ⟨D, 0, none⟩))) := cG
  have HSZ0 : Hid (w.heap.size + 1 + 1 ≤ W.heap.size) := lt_of_cell m0
  have HF0 : Hid (∀ (X : World), Fr [] w X → X.cell? ⟨G, 0, none⟩ = some (.pointer (some ⟨D, 0, none⟩))) := fun X hX => hX.cellv (show w.cell? ⟨G, 0, none⟩ = some (.pointer (some ⟨D, 0, none⟩)) from by rw [← HW.out.cell lG (by simp)]; exact cG) (by simp)
  clear m0 m1 m2 zm cG HCG
  obtain ⟨f0, hf0⟩ : ∃ f, (L s).length = f + 1 := ⟨(L s).length - 1, by rw [L_len]; omega⟩
  have HF00 : Hid ((L s).length = f0 + 1) := hf0
  clear hf0
  go_loopw [9, 10] (fun v i w' => ∃ (n : Nat) (x : Except Nat Nat) (ms : List V.Mv), i = .int .i64 n ∧ n ≤ 25 ∧ XSt s n x ms ∧ ScSt w' w.heap.size s x ∧ w'.ownsRow (w.heap.size + 1 + 1) 56 3 v ms.length (flat ms) ∧ w.heap.size + 1 + 1 ≤ w'.heap.size ∧ Fr [] w w') (fun _ i _ => 40 - (intOf i).toNat)
  case atStart => exact ⟨0, .ok 1, [], rfl, by omega, .inl ⟨1, f0, rfl, by have := HF00.out; rw [L_len] at this; omega, by simp, by omega, by omega, .inl rfl, by rw [HF00.out]⟩, HS.out, ⟨rfl, Or.inl ⟨rfl, rfl⟩⟩, HSZ0.out, HW.out⟩
  case round =>
    obtain ⟨n, x, ms, rfl, hn, hx, hsc, ho, hsz, hf⟩ := hrel
    have HO : Hid (wr.ownsRow (w.heap.size + 1 + 1) 56 3 u9 ms.length (flat ms)) := ho
    have HF : Hid (Fr [] w wr) := hf
    have HSZ : Hid (w.heap.size + 1 + 1 ≤ wr.heap.size) := hsz
    clear ho hf hsz HW HS HSZ0 HF00
    rcases hx with ⟨p, f, rfl, hfu, hml, hnp, hps, hgo, htg⟩ | ⟨q, rfl, hn0, htg⟩ | ⟨p, rfl, hn0, hnp, hm0, hm1, htg⟩
    · have XN0 : Hid (XSt s (n + 1) (xMust (L s) (xMove (L s) (.ok p)).2) (ms ++ [(xMove (L s) (.ok p)).1])) := xst_next HHL.out hfu hml hnp hps htg
      have HSC : Hid (ScSt wr w.heap.size s (.ok p)) := hsc
      have hs1 : ScanAt wr w.heap.size s p (-1) := hsc
      have ca := hs1.ca
      have cp := hs1.cp
      clear hsc hs1 htg hfu
      rcases hgo with rfl | hgo
      · have hn25 : (0 : Nat) ≤ 25 := by omega
        go_wp2_with fail
        refine (smove_calls w.heap.size s (.ok p) wr HSC.out).mono ?_
        rintro e w1 ⟨rfl, h1, f1⟩
        have H1 : Hid (ScSt w1 w.heap.size s (xMove (L s) (.ok p)).2) := h1
        have F1 : Hid (Fr [] w w1) := HF.out.trans f1 (fun x hx hm => by simp at hm; omega)
        have O1 : Hid (w1.ownsRow (w.heap.size + 1 + 1) 56 3 u9 ms.length (flat ms)) := owns_keepX HO.out f1 (by simp; omega)
        have HSZ1 : Hid (w.heap.size + 1 + 1 ≤ w1.heap.size) := by have := HSZ.out; have := f1.size; show _ ≤ _; omega
        have XN : Hid (XSt s (0 + 1) (xMust (L s) (xMove (L s) (.ok p)).2) (ms ++ [(xMove (L s) (.ok p)).1])) := XN0.out
        clear h1 f1 HSC HF HO HSZ XN0 ca cp
        generalize xMove (L s) (.ok p) = r1 at *
        go_wp2_with fail
        have fw : Fr [] w1 (w1.alloc (Obj.cells #[.int .i64 r1.1.f, .int .i64 r1.1.t, .int .i64 r1.1.a] 56)) := (Fr.refl _ _).alloc _
        refine (smust_calls w.heap.size s r1.2 _ (H1.out.keep fw (by simp))).mono ?_
        rintro e w3 ⟨rfl, h3, f3⟩
        have nKA : w1.heap.size ∉ [w.heap.size] := by have := HSZ1.out; simp; omega
        have k0 := f3.cellv (b := w1.heap.size) (o := 0) (v := .int .i64 r1.1.f) (by simp [go_sem]) nKA
        have k1 := f3.cellv (b := w1.heap.size) (o := 1) (v := .int .i64 r1.1.t) (by simp [go_sem]) nKA
        have k2 := f3.cellv (b := w1.heap.size) (o := 2) (v := .int .i64 r1.1.a) (by simp [go_sem]) nKA
        have H3 : Hid (ScSt w3 w.heap.size s (xMust (L s) r1.2)) := h3
        have F3 : Hid (Fr [] w w3) := (F1.out.trans fw (by simp)).trans f3 (fun x hx hm => by simp at hm; omega)
        have O3 : Hid (w3.ownsRow (w.heap.size + 1 + 1) 56 3 u9 ms.length (flat ms)) := owns_keepX (owns_keepX O1.out fw (by simp)) f3 (by simp; omega)
        have HSZ3 : Hid (w.heap.size + 1 + 1 ≤ w3.heap.size) := by have := HSZ1.out; have := f3.size; have := fw.size; show _ ≤ _; omega
        have h33 := HSZ3.out
        clear h3 f3 fw H1 F1 O1 HSZ1 nKA
        generalize xMust (L s) r1.2 = x2 at *
        obtain ⟨m, x1⟩ := r1
        dsimp only at *
        generalize w1.heap.size = K at *
        obtain ⟨i0, hi, hz0, hz1, hz2⟩ := info_of (t := 56) (z := .agg #[.int .i64 0, .int .i64 0, .int .i64 0]) (n := 3) (b := 24) (by kernel_rfl)
        go_wp2_with (first
          | (at_builtin; refine wpList_append_own _ rfl _ _ 57 rfl (w.heap.size + 1 + 1) 56 i0 (.agg #[.int .i64 0, .int .i64 0, .int .i64 0]) 3 24 Try.underlying57 hi hz0 hz1 hz2 rfl (by decide) u9 ms.length (flat ms) rfl (owns_keepX O3.out ((Fr.refl [] w3).alloc _) (by simp)) ⟨w3.heap.size, 0, none⟩ 1 1 [.int .i64 m.f, .int .i64 m.t, .int .i64 m.a] rfl rfl (by intro j u hu; rcases j with _ | _ | _ | j <;> simp at hu <;> (try subst hu) <;> simp [Addr.add, go_sem]) (fun x hx => by simp at hx; rcases hx with rfl | rfl | rfl <;> rfl) (by unfold maxLen; omega) (by omega) (by simp; omega) ?_; intro v' w5 hown' hgrow hnil))
        have hrow : ∀ k, u9.ownBlock = some k → w.heap.size + 1 + 1 ≤ k := by
          intro k hk
          rcases O3.out.2 with ⟨h1, _⟩ | ⟨g, cap, cur, hv, hg, _⟩
          · rw [h1] at hk; simp [Value.ownBlock] at hk
          · rw [hv] at hk; simp [Value.ownBlock] at hk; omega
        have O5 : w5.ownsRow (w.heap.size + 1 + 1) 56 3 v' (ms ++ [m]).length (flat (ms ++ [m])) := by
          rw [flat_snoc, List.length_append]
          exact hown'
        have F5 : Fr [] w w5 := (F3.out.alloc _).grown hgrow (fun k hk => by have := hrow k hk; omega)
        have H5 : ScSt w5 w.heap.size s x2 := by
          have g0 : ScSt (w3.alloc (Obj.cells #[.int .i64 m.f, .int .i64 m.t, .int .i64 m.a] 56)) w.heap.size s x2 := H3.out.keep (X := []) ((Fr.refl _ _).alloc _) (by simp)
          have bA := hgrow.block w.heap.size (by have := h33; simp; omega) (fun e => by have := hrow w.heap.size e.symm; omega)
          cases x2 with
          | ok p2 =>
            have g1 : ScanAt _ w.heap.size s p2 (-1) := g0
            exact (⟨(World.cell?_of_block bA).trans g1.cs, (World.cell?_of_block bA).trans g1.cp, (World.cell?_of_block bA).trans g1.ca, fun o => (World.frozen?_of_block bA).trans (g1.fA o), g1.sz, g1.pz⟩ : ScanAt w5 w.heap.size s p2 (-1))
          | error q2 =>
            obtain ⟨gq, p2, g1⟩ := g0
            exact ⟨gq, p2, (World.cell?_of_block bA).trans g1.cs, (World.cell?_of_block bA).trans g1.cp, (World.cell?_of_block bA).trans g1.ca, fun o => (World.frozen?_of_block bA).trans (g1.fA o), g1.sz, g1.pz⟩
        have HZ5 : w.heap.size + 1 + 1 ≤ w5.heap.size := by have := hgrow.size; simp at this; omega
        exact ⟨⟨0 + 1, x2, ms ++ [m], by simp, by omega, XN.out, H5, O5, HZ5, F5⟩, by simp [intOf] <;> omega⟩
      · have hgi : (p : Int) < (s.size : Int) := by omega
        by_cases hn0 : n = 0
        · subst hn0
          go_wp2_with fail
          refine (smove_calls w.heap.size s (.ok p) wr HSC.out).mono ?_
          rintro e w1 ⟨rfl, h1, f1⟩
          have H1 : Hid (ScSt w1 w.heap.size s (xMove (L s) (.ok p)).2) := h1
          have F1 : Hid (Fr [] w w1) := HF.out.trans f1 (fun x hx hm => by simp at hm; omega)
          have O1 : Hid (w1.ownsRow (w.heap.size + 1 + 1) 56 3 u9 ms.length (flat ms)) := owns_keepX HO.out f1 (by simp; omega)
          have HSZ1 : Hid (w.heap.size + 1 + 1 ≤ w1.heap.size) := by have := HSZ.out; have := f1.size; show _ ≤ _; omega
          have XN : Hid (XSt s (0 + 1) (xMust (L s) (xMove (L s) (.ok p)).2) (ms ++ [(xMove (L s) (.ok p)).1])) := XN0.out
          clear h1 f1 HSC HF HO HSZ XN0 ca cp
          generalize xMove (L s) (.ok p) = r1 at *
          go_wp2_with fail
          have fw : Fr [] w1 (w1.alloc (Obj.cells #[.int .i64 r1.1.f, .int .i64 r1.1.t, .int .i64 r1.1.a] 56)) := (Fr.refl _ _).alloc _
          refine (smust_calls w.heap.size s r1.2 _ (H1.out.keep fw (by simp))).mono ?_
          rintro e w3 ⟨rfl, h3, f3⟩
          have nKA : w1.heap.size ∉ [w.heap.size] := by have := HSZ1.out; simp; omega
          have k0 := f3.cellv (b := w1.heap.size) (o := 0) (v := .int .i64 r1.1.f) (by simp [go_sem]) nKA
          have k1 := f3.cellv (b := w1.heap.size) (o := 1) (v := .int .i64 r1.1.t) (by simp [go_sem]) nKA
          have k2 := f3.cellv (b := w1.heap.size) (o := 2) (v := .int .i64 r1.1.a) (by simp [go_sem]) nKA
          have H3 : Hid (ScSt w3 w.heap.size s (xMust (L s) r1.2)) := h3
          have F3 : Hid (Fr [] w w3) := (F1.out.trans fw (by simp)).trans f3 (fun x hx hm => by simp at hm; omega)
          have O3 : Hid (w3.ownsRow (w.heap.size + 1 + 1) 56 3 u9 ms.length (flat ms)) := owns_keepX (owns_keepX O1.out fw (by simp)) f3 (by simp; omega)
          have HSZ3 : Hid (w.heap.size + 1 + 1 ≤ w3.heap.size) := by have := HSZ1.out; have := f3.size; have := fw.size; show _ ≤ _; omega
          have h33 := HSZ3.out
          clear h3 f3 fw H1 F1 O1 HSZ1 nKA
          generalize xMust (L s) r1.2 = x2 at *
          obtain ⟨m, x1⟩ := r1
          dsimp only at *
          generalize w1.heap.size = K at *
          obtain ⟨i0, hi, hz0, hz1, hz2⟩ := info_of (t := 56) (z := .agg #[.int .i64 0, .int .i64 0, .int .i64 0]) (n := 3) (b := 24) (by kernel_rfl)
          go_wp2_with (first
            | (at_builtin; refine wpList_append_own _ rfl _ _ 57 rfl (w.heap.size + 1 + 1) 56 i0 (.agg #[.int .i64 0, .int .i64 0, .int .i64 0]) 3 24 Try.underlying57 hi hz0 hz1 hz2 rfl (by decide) u9 ms.length (flat ms) rfl (owns_keepX O3.out ((Fr.refl [] w3).alloc _) (by simp)) ⟨w3.heap.size, 0, none⟩ 1 1 [.int .i64 m.f, .int .i64 m.t, .int .i64 m.a] rfl rfl (by intro j u hu; rcases j with _ | _ | _ | j <;> simp at hu <;> (try subst hu) <;> simp [Addr.add, go_sem]) (fun x hx => by simp at hx; rcases hx with rfl | rfl | rfl <;> rfl) (by unfold maxLen; omega) (by omega) (by simp; omega) ?_; intro v' w5 hown' hgrow hnil))
          have hrow : ∀ k, u9.ownBlock = some k → w.heap.size + 1 + 1 ≤ k := by
            intro k hk
            rcases O3.out.2 with ⟨h1, _⟩ | ⟨g, cap, cur, hv, hg, _⟩
            · rw [h1] at hk; simp [Value.ownBlock] at hk
            · rw [hv] at hk; simp [Value.ownBlock] at hk; omega
          have O5 : w5.ownsRow (w.heap.size + 1 + 1) 56 3 v' (ms ++ [m]).length (flat (ms ++ [m])) := by
            rw [flat_snoc, List.length_append]
            exact hown'
          have F5 : Fr [] w w5 := (F3.out.alloc _).grown hgrow (fun k hk => by have := hrow k hk; omega)
          have H5 : ScSt w5 w.heap.size s x2 := by
            have g0 : ScSt (w3.alloc (Obj.cells #[.int .i64 m.f, .int .i64 m.t, .int .i64 m.a] 56)) w.heap.size s x2 := H3.out.keep (X := []) ((Fr.refl _ _).alloc _) (by simp)
            have bA := hgrow.block w.heap.size (by have := h33; simp; omega) (fun e => by have := hrow w.heap.size e.symm; omega)
            cases x2 with
            | ok p2 =>
              have g1 : ScanAt _ w.heap.size s p2 (-1) := g0
              exact (⟨(World.cell?_of_block bA).trans g1.cs, (World.cell?_of_block bA).trans g1.cp, (World.cell?_of_block bA).trans g1.ca, fun o => (World.frozen?_of_block bA).trans (g1.fA o), g1.sz, g1.pz⟩ : ScanAt w5 w.heap.size s p2 (-1))
            | error q2 =>
              obtain ⟨gq, p2, g1⟩ := g0
              exact ⟨gq, p2, (World.cell?_of_block bA).trans g1.cs, (World.cell?_of_block bA).trans g1.cp, (World.cell?_of_block bA).trans g1.ca, fun o => (World.frozen?_of_block bA).trans (g1.fA o), g1.sz, g1.pz⟩
          have HZ5 : w.heap.size + 1 + 1 ≤ w5.heap.size := by have := hgrow.size; simp at this; omega
          exact ⟨⟨0 + 1, x2, ms ++ [m], by simp, by omega, XN.out, H5, O5, HZ5, F5⟩, by simp [intOf] <;> omega⟩
        · have hn0' : (((n : Nat) : Int) == 0) = false := by rw [beq_eq_false_iff_ne]; omega
          go_wp2_with fail
          refine (smove_calls w.heap.size s (.ok p) wr HSC.out).mono ?_
          rintro e w1 ⟨rfl, h1, f1⟩
          have H1 : Hid (ScSt w1 w.heap.size s (xMove (L s) (.ok p)).2) := h1
          have F1 : Hid (Fr [] w w1) := HF.out.trans f1 (fun x hx hm => by simp at hm; omega)
          have O1 : Hid (w1.ownsRow (w.heap.size + 1 + 1) 56 3 u9 ms.length (flat ms)) := owns_keepX HO.out f1 (by simp; omega)
          have HSZ1 : Hid (w.heap.size + 1 + 1 ≤ w1.heap.size) := by have := HSZ.out; have := f1.size; show _ ≤ _; omega
          have XN : Hid (XSt s (n + 1) (xMust (L s) (xMove (L s) (.ok p)).2) (ms ++ [(xMove (L s) (.ok p)).1])) := XN0.out
          clear h1 f1 HSC HF HO HSZ XN0 ca cp
          generalize xMove (L s) (.ok p) = r1 at *
          go_wp2_with fail
          have fw : Fr [] w1 (w1.alloc (Obj.cells #[.int .i64 r1.1.f, .int .i64 r1.1.t, .int .i64 r1.1.a] 56)) := (Fr.refl _ _).alloc _
          refine (smust_calls w.heap.size s r1.2 _ (H1.out.keep fw (by simp))).mono ?_
          rintro e w3 ⟨rfl, h3, f3⟩
          have nKA : w1.heap.size ∉ [w.heap.size] := by have := HSZ1.out; simp; omega
          have k0 := f3.cellv (b := w1.heap.size) (o := 0) (v := .int .i64 r1.1.f) (by simp [go_sem]) nKA
          have k1 := f3.cellv (b := w1.heap.size) (o := 1) (v := .int .i64 r1.1.t) (by simp [go_sem]) nKA
          have k2 := f3.cellv (b := w1.heap.size) (o := 2) (v := .int .i64 r1.1.a) (by simp [go_sem]) nKA
          have H3 : Hid (ScSt w3 w.heap.size s (xMust (L s) r1.2)) := h3
          have F3 : Hid (Fr [] w w3) := (F1.out.trans fw (by simp)).trans f3 (fun x hx hm => by simp at hm; omega)
          have O3 : Hid (w3.ownsRow (w.heap.size + 1 + 1) 56 3 u9 ms.length (flat ms)) := owns_keepX (owns_keepX O1.out fw (by simp)) f3 (by simp; omega)
          have HSZ3 : Hid (w.heap.size + 1 + 1 ≤ w3.heap.size) := by have := HSZ1.out; have := f3.size; have := fw.size; show _ ≤ _; omega
          have h33 := HSZ3.out
          clear h3 f3 fw H1 F1 O1 HSZ1 nKA
          generalize xMust (L s) r1.2 = x2 at *
          obtain ⟨m, x1⟩ := r1
          dsimp only at *
          generalize w1.heap.size = K at *
          obtain ⟨i0, hi, hz0, hz1, hz2⟩ := info_of (t := 56) (z := .agg #[.int .i64 0, .int .i64 0, .int .i64 0]) (n := 3) (b := 24) (by kernel_rfl)
          go_wp2_with (first
            | (at_builtin; refine wpList_append_own _ rfl _ _ 57 rfl (w.heap.size + 1 + 1) 56 i0 (.agg #[.int .i64 0, .int .i64 0, .int .i64 0]) 3 24 Try.underlying57 hi hz0 hz1 hz2 rfl (by decide) u9 ms.length (flat ms) rfl (owns_keepX O3.out ((Fr.refl [] w3).alloc _) (by simp)) ⟨w3.heap.size, 0, none⟩ 1 1 [.int .i64 m.f, .int .i64 m.t, .int .i64 m.a] rfl rfl (by intro j u hu; rcases j with _ | _ | _ | j <;> simp at hu <;> (try subst hu) <;> simp [Addr.add, go_sem]) (fun x hx => by simp at hx; rcases hx with rfl | rfl | rfl <;> rfl) (by unfold maxLen; omega) (by omega) (by simp; omega) ?_; intro v' w5 hown' hgrow hnil))
          have hrow : ∀ k, u9.ownBlock = some k → w.heap.size + 1 + 1 ≤ k := by
            intro k hk
            rcases O3.out.2 with ⟨h1, _⟩ | ⟨g, cap, cur, hv, hg, _⟩
            · rw [h1] at hk; simp [Value.ownBlock] at hk
            · rw [hv] at hk; simp [Value.ownBlock] at hk; omega
          have O5 : w5.ownsRow (w.heap.size + 1 + 1) 56 3 v' (ms ++ [m]).length (flat (ms ++ [m])) := by
            rw [flat_snoc, List.length_append]
            exact hown'
          have F5 : Fr [] w w5 := (F3.out.alloc _).grown hgrow (fun k hk => by have := hrow k hk; omega)
          have H5 : ScSt w5 w.heap.size s x2 := by
            have g0 : ScSt (w3.alloc (Obj.cells #[.int .i64 m.f, .int .i64 m.t, .int .i64 m.a] 56)) w.heap.size s x2 := H3.out.keep (X := []) ((Fr.refl _ _).alloc _) (by simp)
            have bA := hgrow.block w.heap.size (by have := h33; simp; omega) (fun e => by have := hrow w.heap.size e.symm; omega)
            cases x2 with
            | ok p2 =>
              have g1 : ScanAt _ w.heap.size s p2 (-1) := g0
              exact (⟨(World.cell?_of_block bA).trans g1.cs, (World.cell?_of_block bA).trans g1.cp, (World.cell?_of_block bA).trans g1.ca, fun o => (World.frozen?_of_block bA).trans (g1.fA o), g1.sz, g1.pz⟩ : ScanAt w5 w.heap.size s p2 (-1))
            | error q2 =>
              obtain ⟨gq, p2, g1⟩ := g0
              exact ⟨gq, p2, (World.cell?_of_block bA).trans g1.cs, (World.cell?_of_block bA).trans g1.cp, (World.cell?_of_block bA).trans g1.ca, fun o => (World.frozen?_of_block bA).trans (g1.fA o), g1.sz, g1.pz⟩
          have HZ5 : w.heap.size + 1 + 1 ≤ w5.heap.size := by have := hgrow.size; simp at this; omega
          exact ⟨⟨n + 1, x2, ms ++ [m], by simp, by omega, XN.out, H5, O5, HZ5, F5⟩, by simp [intOf] <;> omega⟩
    · have hn0' : (((n : Nat) : Int) == 0) = false := by rw [beq_eq_false_iff_ne]; omega
      have HDQ : Hid (V.decode (L s) = .error q) := HDX.out _ htg
      obtain ⟨hq20, pp, hsc'⟩ := hsc
      have ca := hsc'.ca
      clear hsc' HDX htg
      have hil := itoa_len ((q : Nat) : Int)
      obtain ⟨xx, ex, ha⟩ := add_ex [64] (V.itoa ((q : Nat) : Int)) (by simp; omega)
      change ∀ W, (binOp .add 9 (.string ⟨#[64]⟩) (S (V.itoa ((q : Nat) : Int)))).run Try.prog W = .ok (S xx) W at ha
      have HX : Hid (xx = [64] ++ V.itoa ((q : Nat) : Int)) := ex
      clear ex hil
      go_wp2_with fail
      refine (itoa_calls ((q : Nat) : Int) _ (by omega) (by omega)).mono ?_
      rintro e wz ⟨rfl, fz⟩
      have FZ : Hid (Fr [D, M] w wz) := (HF.out.trans fz (by simp)).mono (by simp)
      have LZ : Hid (MLdAt wz D M d) := HH.out.keep (B := []) (HF.out.trans fz (by simp)) (by simp) (by simp)
      clear fz
      go_wp2_with fail
      go_ret2
      have hans : V.answer d (L s) = (d, xx, 8) := by rw [answer_err HHL.out HDQ.out]; rw [HX.out]; try rfl
      rw [hans]
      exact ⟨rfl, LZ.out, FZ.out⟩
    · have hn0' : (((n : Nat) : Int) == 0) = false := by rw [beq_eq_false_iff_ne]; omega
      have hpi : ¬ (p : Int) < (s.size : Int) := by omega
      have HDQ : Hid (V.decode (L s) = .ok ⟨88, ⟨0, 0, 0⟩, ms⟩) := HDX.out _ htg
      have hs1 : ScanAt wr w.heap.size s p (-1) := hsc
      have ca := hs1.ca
      have cp := hs1.cp
      have cG := HF0.out wr HF.out
      obtain ⟨g, cap, rfl, hgb, hms⟩ := owns_ms HO.out hm0
      have HMS : Hid (MsAt wr g ms) := hms
      have lg := msAt_lt hms hm0
      have HRUN : Hid ((V.run d ⟨88, ⟨0, 0, 0⟩, ms⟩).1 = (d.batch ms).1 ∧ (V.run d ⟨88, ⟨0, 0, 0⟩, ms⟩).2 = some (V.shape 88 (d.batch ms).2.1 (d.batch ms).2.2)) := ⟨rfl, rfl⟩
      have BD : Hid (0 ≤ (d.batch ms).2.1 ∧ (d.batch ms).2.1 < 10000) := batch_bd d ms hm1
      have HLd : Hid (MLdAt wr D M d) := HH.out.keep HF.out (by simp) (by simp)
      clear hms hsc hs1 HDX htg HO
      go_wp2_with fail
      by_cases h3 : ms.length ≤ 3
      · refine (mbatch_calls D M g cap ms d wr HLd.out h3 HMS.out lg (by simp; omega)).mono ?_
        rintro e w5 ⟨rfl, h5, f5⟩
        have LD : Hid (MLdAt w5 D M (d.batch ms).1) := h5
        have FR : Hid (Fr [D, M] w w5) := (HF.out.mono (by simp)).trans f5 (fun _ _ h => h)
        clear h5 f5 ca cp cG
        generalize d.batch ms = rr at *
        by_cases he : rr.2.2 = 0
        · have he' : (rr.2.2 != 0) = false := by simpa using he
          go_wp2_with fail
          refine (itoa_calls rr.2.1 _ BD.out.1 BD.out.2).mono ?_
          rintro e wz ⟨rfl, fz⟩
          have FZ : Hid (Fr [D, M] w wz) := FR.out.trans fz (by simp)
          have LZ : Hid (MLdAt wz D M rr.1) := LD.out.keep fz (by simp) (by simp)
          clear fz
          go_wp2_with fail
          go_ret2
          have hr := HRUN.out
          rw [he, shape_ok] at hr
          rw [answer_some HHL.out HDQ.out hr.2, hr.1]
          exact ⟨rfl, LZ.out, FZ.out⟩
        · have he' : (rr.2.2 != 0) = true := by simpa using he
          have hil := itoa_len rr.2.1
          obtain ⟨xx, ex, ha⟩ := add_ex [35] (V.itoa rr.2.1) (by simp; omega)
          change ∀ W, (binOp .add 9 (.string ⟨#[35]⟩) (S (V.itoa rr.2.1))).run Try.prog W = .ok (S xx) W at ha
          have HX : Hid (xx = [35] ++ V.itoa rr.2.1) := ex
          clear ex hil
          go_wp2_with fail
          refine (itoa_calls rr.2.1 _ BD.out.1 BD.out.2).mono ?_
          rintro e wz ⟨rfl, fz⟩
          have FZ : Hid (Fr [D, M] w wz) := FR.out.trans fz (by simp)
          have LZ : Hid (MLdAt wz D M rr.1) := LD.out.keep fz (by simp) (by simp)
          clear fz
          go_wp2_with fail
          go_ret2
          have hr := HRUN.out
          rw [shape_x he, ← HX.out] at hr
          rw [answer_some HHL.out HDQ.out hr.2, hr.1]
          exact ⟨rfl, LZ.out, FZ.out⟩
      · refine (mbatch_long D ms.length cap _ wr (by omega)).mono ?_
        rintro e w5 ⟨rfl, rfl⟩
        have hb : d.batch ms = (d, 0, 1) := by unfold V.Ld.batch; rw [if_neg h3]
        have LD : Hid (MLdAt w5 D M d) := HLd.out
        have FR : Hid (Fr [D, M] w w5) := HF.out.mono (by simp)
        rw [hb] at HRUN BD
        dsimp only at HRUN BD
        have hil := itoa_len 0
        obtain ⟨xx, ex, ha⟩ := add_ex [35] (V.itoa 0) (by simp; omega)
        change ∀ W, (binOp .add 9 (.string ⟨#[35]⟩) (S (V.itoa 0))).run Try.prog W = .ok (S xx) W at ha
        have HX : Hid (xx = [35] ++ V.itoa 0) := ex
        clear ex hil ca cp cG hb
        go_wp2_with fail
        refine (itoa_calls 0 _ (by omega) (by omega)).mono ?_
        rintro e wz ⟨rfl, fz⟩
        have FZ : Hid (Fr [D, M] w wz) := FR.out.trans fz (by simp)
        have LZ : Hid (MLdAt wz D M d) := LD.out.keep fz (by simp) (by simp)
        clear fz
        go_wp2_with fail
        go_ret2
        have hr := HRUN.out
        rw [shape_x (by decide), ← HX.out] at hr
        rw [answer_some HHL.out HDQ.out hr.2, hr.1]
        exact ⟨rfl, LZ.out, FZ.out⟩

end Go.Proofs.Qxb6500360a
