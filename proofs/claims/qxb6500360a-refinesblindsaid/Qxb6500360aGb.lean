/-
  L3: the real gate: the decoded command's one call.
-/
import Derived.Test.Qxb6500360aGa
import Derived.Test.Qxb6500360aTp
import Derived.Test.Qxb6500360aLf
import Derived.Deep.RegionHeld3
namespace Go.Proofs.Qxb6500360a
open Go.RowKit
set_option linter.unusedSimpArgs false
set_option linter.unusedVariables false

/-! ### how great the answers are -/
theorem bl_bd {bal : List Int} (lb : bal.length = 4) (h : ∀ k, k < 4 → 0 ≤ V.bl bal k ∧ V.bl bal k ≤ 250) (k : Nat) : 0 ≤ V.bl bal k ∧ V.bl bal k ≤ 250 := by
  by_cases hk : k < 4
  · exact h k hk
  · have : V.bl bal k = 0 := by unfold V.bl; rw [List.getD_eq_getElem?_getD, List.getElem?_eq_none (by omega)]; rfl
    omega
theorem balance_bd {d : V.Ld} (h : ∀ k, 0 ≤ V.bl d.bal k ∧ V.bl d.bal k ≤ 250) (k : Int) : 0 ≤ (d.balance k).2.1 ∧ (d.balance k).2.1 < 10000 := by
  unfold V.Ld.balance
  have := h k.toNat
  dsimp only
  split
  · dsimp only; omega
  · dsimp only; omega
theorem cenGo_bd {bal : List Int} (h : ∀ k, 0 ≤ V.bl bal k ∧ V.bl bal k ≤ 250) : ∀ (r : Nat) (t : V.Tb) (k : Nat) (n : Int), 0 ≤ n → 0 ≤ (V.cenGo bal r t k n).2.1 ∧ (V.cenGo bal r t k n).2.1 ≤ n + 250 * r
  | 0, t, k, n, hn => by simp [V.cenGo]; omega
  | r + 1, t, k, n, hn => by
    unfold V.cenGo
    split
    · have := cenGo_bd h r ((t.acq k).1.rel (t.acq k).2.1).1 (k + 1) (n + V.bl bal k) (by have := h k; omega)
      have := h k
      omega
    · dsimp only; omega
theorem census_bd {d : V.Ld} (h : ∀ k, 0 ≤ V.bl d.bal k ∧ V.bl d.bal k ≤ 250) : 0 ≤ d.census.2.1 ∧ d.census.2.1 < 10000 := by
  have := cenGo_bd h 4 d.t.clear 0 0 (by omega)
  unfold V.Ld.census
  dsimp only
  omega
theorem div_bd {a p : Int} (h : 0 ≤ a ∧ a ≤ 250) (hp : 0 < p) : 0 ≤ a / p ∧ a / p < 10000 :=
  ⟨Int.ediv_nonneg h.1 (by omega), by have := Int.ediv_le_self p h.1; omega⟩
theorem transfer_n (d : V.Ld) (m : V.Mv) : (d.transfer m).2.1 = 0 ∨ (d.transfer m).2.1 = V.bl (d.transfer m).1.bal m.f.toNat := by
  unfold V.Ld.transfer
  dsimp only
  split
  · split
    · split
      · exact .inr rfl
      · exact .inl rfl
    · exact .inl rfl
  · exact .inl rfl
theorem bst_bd : ∀ (ms : List V.Mv) (s : V.Bst) (i : Int), i ≤ (s.run i ms).2.1 ∧ (s.run i ms).2.1 ≤ i + ms.length
  | [], s, i => by simp [V.Bst.run]
  | m :: ms, s, i => by
    unfold V.Bst.run
    split
    · have := bst_bd ms (s.move m).1 (i + 1)
      simp only [List.length_cons]
      omega
    · simp only [List.length_cons]; omega
theorem batch_bd (d : V.Ld) (ms : List V.Mv) (h : ms.length ≤ 20) : 0 ≤ (d.batch ms).2.1 ∧ (d.batch ms).2.1 < 10000 := by
  unfold V.Ld.batch
  dsimp only
  have := bst_bd ms ⟨d.t.clear, [false, false, false, false], [], d.bal⟩ 0
  split
  · split
    · dsimp only; omega
    · dsimp only; omega
  · dsimp only; omega

theorem LdAt.bd {w : World} {D T C R B L : Nat} {d : V.Ld} (h : LdAt w D T C R B L d) : ∀ k, 0 ≤ V.bl d.bal k ∧ V.bl d.bal k ≤ 250 := bl_bd h.bk.lb h.bk.bb

/-- What a command's run leaves. -/
def RunOut (w : World) (D T C R B L : Nat) (r : V.Ld × Option (List UInt8 × Int)) (e : Ending) (w' : World) : Prop :=
  (match r.2 with
    | some a => e = .returned (.tuple #[S a.1, .int .i64 a.2])
    | none => ∃ t x older, e = .panicked ({ v := .iface t x, recovered := false } :: older) ∧ ¬ t = 53 ∧ ∀ p ∈ older, p.goexit = false) ∧
  LdAt w' D T C R B L r.1 ∧ Fr [D, T, C, R, B, L] w w'

theorem shape_lit (v : UInt8) (vi : Int) (hv : (v.toNat : Int) = vi) (n e : Int) (w : World) (h0 : 0 ≤ n) (h1 : n < 10000) :
    Calls Try.prog 63 #[.int .u8 vi, .int .i64 n, .int .i64 e] w fun x w' => x = .returned (.tuple #[S (V.shape v n e).1, .int .i64 (V.shape v n e).2]) ∧ Fr [] w w' := by
  subst hv
  exact shape_calls v n e w h0 h1

set_option maxHeartbeats 1000000 in
set_option maxRecDepth 100000 in
theorem run_A (G D T C R B L : Nat) (d : V.Ld) (m : V.Mv) (ms : List V.Mv) (sv : Value) (hsv : ∃ o l c, sv = .slice o l c) (w : World) (h : LdAt w D T C R B L d) (cG : w.cell? ⟨G, 0, none⟩ = some (.pointer (some ⟨D, 0, none⟩))) (hG : G ∉ [D, T, C, R, B, L]) :
    Calls Try.prog 34 #[.pointer (some ⟨G, 0, none⟩), .agg #[.int .u8 65, .int .i64 m.f, .int .i64 m.t, .int .i64 m.a, sv]] w (RunOut w D T C R B L (V.run d ⟨65, m, ms⟩)) := by
  have hr : V.run d ⟨65, m, ms⟩ = (d.census.1, some (V.shape 65 d.census.2.1 d.census.2.2)) := by simp [V.run]
  rw [hr]
  clear hr
  obtain ⟨so, sl, sc, rfl⟩ := hsv
  have HH : Hid (LdAt w D T C R B L d) := h
  have lG := lt_of_cell cG
  have nG : ¬ G = w.heap.size := by omega
  have lD := h.bk.lD
  have lB := h.bk.lB
  have lL := h.bk.lL
  have lT := h.tb.lT
  have lC := h.tb.lC
  have lR := h.tb.lR
  have HX : Hid (w.heap.size ∉ [D, T, C, R, B, L]) := by show _ ∉ _; simp; omega
  have hGh : Hid (G ∉ [D, T, C, R, B, L]) := hG
  clear h lD lB lL lT lC lR hG
  go_enter Try.func34, Try.ntmps34
  go_wp2_with fail
  refine (census_calls D T C R B L d _ (HH.out.keep (X := []) ((Fr.refl _ _).alloc _) (by simp))).mono ?_
  rintro x w1 ⟨rfl, h1, f1⟩
  have k0 : w1.cell? ⟨w.heap.size, 0, none⟩ = some (.int .u8 65) := f1.cellv (by simp [go_sem]) HX.out
  have H1 : Hid (LdAt w1 D T C R B L d.census.1) := h1
  have F1 : Hid (Fr [D, T, C, R, B, L] w w1) := ((Fr.refl _ _).alloc _).trans f1 (fun _ _ h => h)
  have bd := census_bd HH.out.bd
  clear h1 f1 cG
  go_wp2_with (go_at_call 63; refine (shape_lit 65 65 rfl _ _ _ bd.1 bd.2).mono ?_)
  rintro x w2 ⟨rfl, f2⟩
  have F2 : Hid (Fr [] w1 w2) := f2
  clear f2
  go_wp2_with fail
  go_ret2
  exact ⟨rfl, H1.out.keep F2.out (by simp), F1.out.trans F2.out (by simp)⟩

set_option maxHeartbeats 1000000 in
set_option maxRecDepth 100000 in
theorem run_B (G D T C R B L : Nat) (d : V.Ld) (m : V.Mv) (ms : List V.Mv) (sv : Value) (hsv : ∃ o l c, sv = .slice o l c) (w : World) (h : LdAt w D T C R B L d) (cG : w.cell? ⟨G, 0, none⟩ = some (.pointer (some ⟨D, 0, none⟩))) (hG : G ∉ [D, T, C, R, B, L]) :
    Calls Try.prog 34 #[.pointer (some ⟨G, 0, none⟩), .agg #[.int .u8 66, .int .i64 m.f, .int .i64 m.t, .int .i64 m.a, sv]] w (RunOut w D T C R B L (V.run d ⟨66, m, ms⟩)) := by
  have hr : V.run d ⟨66, m, ms⟩ = ((d.balance m.f).1, some (V.shape 66 (d.balance m.f).2.1 (d.balance m.f).2.2)) := by simp [V.run]
  rw [hr]
  clear hr
  obtain ⟨so, sl, sc, rfl⟩ := hsv
  have HH : Hid (LdAt w D T C R B L d) := h
  have lG := lt_of_cell cG
  have nG : ¬ G = w.heap.size := by omega
  have lD := h.bk.lD
  have lB := h.bk.lB
  have lL := h.bk.lL
  have lT := h.tb.lT
  have lC := h.tb.lC
  have lR := h.tb.lR
  have HX : Hid (w.heap.size ∉ [D, T, C, R, B, L]) := by show _ ∉ _; simp; omega
  have hGh : Hid (G ∉ [D, T, C, R, B, L]) := hG
  clear h lD lB lL lT lC lR hG
  go_enter Try.func34, Try.ntmps34
  go_wp2_with fail
  have HW : Hid (Fr [] w (w.alloc (Obj.cells #[.int .u8 66, .int .i64 m.f, .int .i64 m.t, .int .i64 m.a, .slice so sl sc] 59))) := (Fr.refl _ _).alloc _
  have k0 : (w.alloc (Obj.cells #[.int .u8 66, .int .i64 m.f, .int .i64 m.t, .int .i64 m.a, .slice so sl sc] 59)).cell? ⟨w.heap.size, 0, none⟩ = some (.int .u8 66) := by simp [go_sem]
  have k1 : (w.alloc (Obj.cells #[.int .u8 66, .int .i64 m.f, .int .i64 m.t, .int .i64 m.a, .slice so sl sc] 59)).cell? ⟨w.heap.size, 1, none⟩ = some (.int .i64 m.f) := by simp [go_sem]
  have k2 : (w.alloc (Obj.cells #[.int .u8 66, .int .i64 m.f, .int .i64 m.t, .int .i64 m.a, .slice so sl sc] 59)).cell? ⟨w.heap.size, 2, none⟩ = some (.int .i64 m.t) := by simp [go_sem]
  have k3 : (w.alloc (Obj.cells #[.int .u8 66, .int .i64 m.f, .int .i64 m.t, .int .i64 m.a, .slice so sl sc] 59)).cell? ⟨w.heap.size, 3, none⟩ = some (.int .i64 m.a) := by simp [go_sem]
  have k4 : (w.alloc (Obj.cells #[.int .u8 66, .int .i64 m.f, .int .i64 m.t, .int .i64 m.a, .slice so sl sc] 59)).cell? ⟨w.heap.size, 4, none⟩ = some (.slice so sl sc) := by simp [go_sem]
  replace cG := HW.out.cellv cG (by simp)
  generalize w.alloc (Obj.cells #[.int .u8 66, .int .i64 m.f, .int .i64 m.t, .int .i64 m.a, .slice so sl sc] 59) = W at *
  generalize w.heap.size = K at *
  clear nG lG
  clear k2 k3 k4
  go_region_held3 (fun w' => w'.cell? ⟨G, 0, none⟩ = some (.pointer (some ⟨D, 0, none⟩)) ∧ w'.cell? ⟨K, 1, none⟩ = some (.int .i64 m.f)) (go_keep)
    (first | (go_at_call 58; refine (balance_calls D T C R B L m.f d _ (HH.out.keep HW.out.drew (by simp))).mono ?_; rintro x w1 ⟨rfl, h1, f1⟩; have H1 : Hid (LdAt w1 D T C R B L (d.balance m.f).1) := h1; have F1 : Hid (Fr [D, T, C, R, B, L] W.drew w1) := f1; have u0 := f1.cellv (b := G) (o := 0) cG hGh.out; have u1 := f1.cellv (b := K) (o := 1) k1 HX.out; clear h1 f1))
  rename_i hHeld
  clear hHeld
  have kk : w1.cell? ⟨K, 0, none⟩ = some (.int .u8 66) := F1.out.cellv (w := W.drew) k0 HX.out
  have FF : Hid (Fr [D, T, C, R, B, L] w w1) := (HW.out.drew.mono (by simp)).trans F1.out (fun _ _ h => h)
  have bd := balance_bd HH.out.bd m.f
  clear cG k0 F1
  clear k1
  try clear u1
  try clear u2
  try clear u3
  try clear u4
  clear u0
  go_wp2_with (go_at_call 63; refine (shape_lit 66 66 rfl _ _ _ bd.1 bd.2).mono ?_)
  rintro x w2 ⟨rfl, f2⟩
  have F2 : Hid (Fr [] w1 w2) := f2
  clear f2
  go_wp2_with fail
  go_ret2
  exact ⟨rfl, H1.out.keep F2.out (by simp), FF.out.trans F2.out (by simp)⟩

set_option maxHeartbeats 1000000 in
set_option maxRecDepth 100000 in
theorem run_T (G D T C R B L : Nat) (d : V.Ld) (m : V.Mv) (ms : List V.Mv) (sv : Value) (hsv : ∃ o l c, sv = .slice o l c) (w : World) (h : LdAt w D T C R B L d) (cG : w.cell? ⟨G, 0, none⟩ = some (.pointer (some ⟨D, 0, none⟩))) (hG : G ∉ [D, T, C, R, B, L]) :
    Calls Try.prog 34 #[.pointer (some ⟨G, 0, none⟩), .agg #[.int .u8 84, .int .i64 m.f, .int .i64 m.t, .int .i64 m.a, sv]] w (RunOut w D T C R B L (V.run d ⟨84, m, ms⟩)) := by
  have hr : V.run d ⟨84, m, ms⟩ = ((d.transfer m).1, some (V.shape 84 (d.transfer m).2.1 (d.transfer m).2.2)) := by simp [V.run]
  rw [hr]
  clear hr
  obtain ⟨so, sl, sc, rfl⟩ := hsv
  have HH : Hid (LdAt w D T C R B L d) := h
  have lG := lt_of_cell cG
  have nG : ¬ G = w.heap.size := by omega
  have lD := h.bk.lD
  have lB := h.bk.lB
  have lL := h.bk.lL
  have lT := h.tb.lT
  have lC := h.tb.lC
  have lR := h.tb.lR
  have HX : Hid (w.heap.size ∉ [D, T, C, R, B, L]) := by show _ ∉ _; simp; omega
  have hGh : Hid (G ∉ [D, T, C, R, B, L]) := hG
  clear h lD lB lL lT lC lR hG
  go_enter Try.func34, Try.ntmps34
  go_wp2_with fail
  have HW : Hid (Fr [] w (w.alloc (Obj.cells #[.int .u8 84, .int .i64 m.f, .int .i64 m.t, .int .i64 m.a, .slice so sl sc] 59))) := (Fr.refl _ _).alloc _
  have k0 : (w.alloc (Obj.cells #[.int .u8 84, .int .i64 m.f, .int .i64 m.t, .int .i64 m.a, .slice so sl sc] 59)).cell? ⟨w.heap.size, 0, none⟩ = some (.int .u8 84) := by simp [go_sem]
  have k1 : (w.alloc (Obj.cells #[.int .u8 84, .int .i64 m.f, .int .i64 m.t, .int .i64 m.a, .slice so sl sc] 59)).cell? ⟨w.heap.size, 1, none⟩ = some (.int .i64 m.f) := by simp [go_sem]
  have k2 : (w.alloc (Obj.cells #[.int .u8 84, .int .i64 m.f, .int .i64 m.t, .int .i64 m.a, .slice so sl sc] 59)).cell? ⟨w.heap.size, 2, none⟩ = some (.int .i64 m.t) := by simp [go_sem]
  have k3 : (w.alloc (Obj.cells #[.int .u8 84, .int .i64 m.f, .int .i64 m.t, .int .i64 m.a, .slice so sl sc] 59)).cell? ⟨w.heap.size, 3, none⟩ = some (.int .i64 m.a) := by simp [go_sem]
  have k4 : (w.alloc (Obj.cells #[.int .u8 84, .int .i64 m.f, .int .i64 m.t, .int .i64 m.a, .slice so sl sc] 59)).cell? ⟨w.heap.size, 4, none⟩ = some (.slice so sl sc) := by simp [go_sem]
  replace cG := HW.out.cellv cG (by simp)
  generalize w.alloc (Obj.cells #[.int .u8 84, .int .i64 m.f, .int .i64 m.t, .int .i64 m.a, .slice so sl sc] 59) = W at *
  generalize w.heap.size = K at *
  clear nG lG
  clear k4
  go_region_held3 (fun w' => w'.cell? ⟨G, 0, none⟩ = some (.pointer (some ⟨D, 0, none⟩)) ∧ w'.cell? ⟨K, 1, none⟩ = some (.int .i64 m.f) ∧ w'.cell? ⟨K, 2, none⟩ = some (.int .i64 m.t) ∧ w'.cell? ⟨K, 3, none⟩ = some (.int .i64 m.a)) (go_keep)
    (first | (go_at_call 61; refine (transfer_calls D T C R B L m d _ (HH.out.keep HW.out.drew (by simp))).mono ?_; rintro x w1 ⟨rfl, h1, f1⟩; have H1 : Hid (LdAt w1 D T C R B L (d.transfer m).1) := h1; have F1 : Hid (Fr [D, T, C, R, B, L] W.drew w1) := f1; have u0 := f1.cellv (b := G) (o := 0) cG hGh.out; have u1 := f1.cellv (b := K) (o := 1) k1 HX.out; have u2 := f1.cellv (b := K) (o := 2) k2 HX.out; have u3 := f1.cellv (b := K) (o := 3) k3 HX.out; clear h1 f1))
  rename_i hHeld
  clear hHeld
  have kk : w1.cell? ⟨K, 0, none⟩ = some (.int .u8 84) := F1.out.cellv (w := W.drew) k0 HX.out
  have FF : Hid (Fr [D, T, C, R, B, L] w w1) := (HW.out.drew.mono (by simp)).trans F1.out (fun _ _ h => h)
  have bd := (show 0 ≤ (d.transfer m).2.1 ∧ (d.transfer m).2.1 < 10000 by rcases transfer_n d m with q | q <;> rw [q] <;> first | omega | (have := H1.out.bd m.f.toNat; omega))
  clear cG k0 F1
  clear k1 k2 k3
  try clear u1
  try clear u2
  try clear u3
  try clear u4
  clear u0
  go_wp2_with (go_at_call 63; refine (shape_lit 84 84 rfl _ _ _ bd.1 bd.2).mono ?_)
  rintro x w2 ⟨rfl, f2⟩
  have F2 : Hid (Fr [] w1 w2) := f2
  clear f2
  go_wp2_with fail
  go_ret2
  exact ⟨rfl, H1.out.keep F2.out (by simp), FF.out.trans F2.out (by simp)⟩

set_option maxHeartbeats 1000000 in
set_option maxRecDepth 100000 in
theorem run_Se (G D T C R B L : Nat) (d : V.Ld) (m : V.Mv) (ms : List V.Mv) (sv : Value) (hsv : ∃ o l c, sv = .slice o l c) (w : World) (h : LdAt w D T C R B L d) (cG : w.cell? ⟨G, 0, none⟩ = some (.pointer (some ⟨D, 0, none⟩))) (hG : G ∉ [D, T, C, R, B, L]) (hp : 0 ≤ m.t) (he : ¬ (d.t.clear.acq m.f).2.2 = 0) :
    Calls Try.prog 34 #[.pointer (some ⟨G, 0, none⟩), .agg #[.int .u8 83, .int .i64 m.f, .int .i64 m.t, .int .i64 m.a, sv]] w (RunOut w D T C R B L (V.run d ⟨83, m, ms⟩)) := by
  have hr : V.run d ⟨83, m, ms⟩ = ({ d with t := (d.t.clear.acq m.f).1 }, some (V.shape 83 0 (d.t.clear.acq m.f).2.2)) := by simp [V.run, V.Ld.split, he]
  rw [hr]
  clear hr
  obtain ⟨so, sl, sc, rfl⟩ := hsv
  have HH : Hid (LdAt w D T C R B L d) := h
  have lG := lt_of_cell cG
  have nG : ¬ G = w.heap.size := by omega
  have lD := h.bk.lD
  have lB := h.bk.lB
  have lL := h.bk.lL
  have lT := h.tb.lT
  have lC := h.tb.lC
  have lR := h.tb.lR
  have HX : Hid (w.heap.size ∉ [D, T, C, R, B, L]) := by show _ ∉ _; simp; omega
  have hGh : Hid (G ∉ [D, T, C, R, B, L]) := hG
  clear h lD lB lL lT lC lR hG
  go_enter Try.func34, Try.ntmps34
  go_wp2_with fail
  have HW : Hid (Fr [] w (w.alloc (Obj.cells #[.int .u8 83, .int .i64 m.f, .int .i64 m.t, .int .i64 m.a, .slice so sl sc] 59))) := (Fr.refl _ _).alloc _
  have k0 : (w.alloc (Obj.cells #[.int .u8 83, .int .i64 m.f, .int .i64 m.t, .int .i64 m.a, .slice so sl sc] 59)).cell? ⟨w.heap.size, 0, none⟩ = some (.int .u8 83) := by simp [go_sem]
  have k1 : (w.alloc (Obj.cells #[.int .u8 83, .int .i64 m.f, .int .i64 m.t, .int .i64 m.a, .slice so sl sc] 59)).cell? ⟨w.heap.size, 1, none⟩ = some (.int .i64 m.f) := by simp [go_sem]
  have k2 : (w.alloc (Obj.cells #[.int .u8 83, .int .i64 m.f, .int .i64 m.t, .int .i64 m.a, .slice so sl sc] 59)).cell? ⟨w.heap.size, 2, none⟩ = some (.int .i64 m.t) := by simp [go_sem]
  have k3 : (w.alloc (Obj.cells #[.int .u8 83, .int .i64 m.f, .int .i64 m.t, .int .i64 m.a, .slice so sl sc] 59)).cell? ⟨w.heap.size, 3, none⟩ = some (.int .i64 m.a) := by simp [go_sem]
  have k4 : (w.alloc (Obj.cells #[.int .u8 83, .int .i64 m.f, .int .i64 m.t, .int .i64 m.a, .slice so sl sc] 59)).cell? ⟨w.heap.size, 4, none⟩ = some (.slice so sl sc) := by simp [go_sem]
  replace cG := HW.out.cellv cG (by simp)
  generalize w.alloc (Obj.cells #[.int .u8 83, .int .i64 m.f, .int .i64 m.t, .int .i64 m.a, .slice so sl sc] 59) = W at *
  generalize w.heap.size = K at *
  clear nG lG
  clear k3 k4
  go_region_held3 (fun w' => w'.cell? ⟨G, 0, none⟩ = some (.pointer (some ⟨D, 0, none⟩)) ∧ w'.cell? ⟨K, 1, none⟩ = some (.int .i64 m.f) ∧ w'.cell? ⟨K, 2, none⟩ = some (.int .i64 m.t)) (go_keep)
    (first | (go_at_call 60; refine (split_err D T C R B L m.f m.t d _ (HH.out.keep HW.out.drew (by simp)) hp he).mono ?_; rintro x w1 ⟨rfl, h1, f1⟩; have H1 : Hid (LdAt w1 D T C R B L { d with t := (d.t.clear.acq m.f).1 }) := h1; have F1 : Hid (Fr [D, T, C, R, B, L] W.drew w1) := f1; have u0 := f1.cellv (b := G) (o := 0) cG hGh.out; have u1 := f1.cellv (b := K) (o := 1) k1 HX.out; have u2 := f1.cellv (b := K) (o := 2) k2 HX.out; clear h1 f1))
  rename_i hHeld
  clear hHeld
  have kk : w1.cell? ⟨K, 0, none⟩ = some (.int .u8 83) := F1.out.cellv (w := W.drew) k0 HX.out
  have FF : Hid (Fr [D, T, C, R, B, L] w w1) := (HW.out.drew.mono (by simp)).trans F1.out (fun _ _ h => h)
  have bd := (show (0:Int) ≤ 0 ∧ (0:Int) < 10000 by omega)
  clear cG k0 F1
  clear k1 k2
  try clear u1
  try clear u2
  try clear u3
  try clear u4
  clear u0
  go_wp2_with (go_at_call 63; refine (shape_lit 83 83 rfl _ _ _ bd.1 bd.2).mono ?_)
  rintro x w2 ⟨rfl, f2⟩
  have F2 : Hid (Fr [] w1 w2) := f2
  clear f2
  go_wp2_with fail
  go_ret2
  exact ⟨rfl, H1.out.keep F2.out (by simp), FF.out.trans F2.out (by simp)⟩

set_option maxHeartbeats 1000000 in
set_option maxRecDepth 100000 in
theorem run_So (G D T C R B L : Nat) (d : V.Ld) (m : V.Mv) (ms : List V.Mv) (sv : Value) (hsv : ∃ o l c, sv = .slice o l c) (w : World) (h : LdAt w D T C R B L d) (cG : w.cell? ⟨G, 0, none⟩ = some (.pointer (some ⟨D, 0, none⟩))) (hG : G ∉ [D, T, C, R, B, L]) (hp : 0 < m.t) (he : (d.t.clear.acq m.f).2.2 = 0) :
    Calls Try.prog 34 #[.pointer (some ⟨G, 0, none⟩), .agg #[.int .u8 83, .int .i64 m.f, .int .i64 m.t, .int .i64 m.a, sv]] w (RunOut w D T C R B L (V.run d ⟨83, m, ms⟩)) := by
  have hr : V.run d ⟨83, m, ms⟩ = ({ d with t := ((d.t.clear.acq m.f).1.rel (d.t.clear.acq m.f).2.1).1 }, some (V.shape 83 (V.bl d.bal m.f.toNat / m.t) 0)) := by simp [V.run, V.Ld.split, he, (show ¬ m.t = 0 by omega)]
  rw [hr]
  clear hr
  obtain ⟨so, sl, sc, rfl⟩ := hsv
  have HH : Hid (LdAt w D T C R B L d) := h
  have lG := lt_of_cell cG
  have nG : ¬ G = w.heap.size := by omega
  have lD := h.bk.lD
  have lB := h.bk.lB
  have lL := h.bk.lL
  have lT := h.tb.lT
  have lC := h.tb.lC
  have lR := h.tb.lR
  have HX : Hid (w.heap.size ∉ [D, T, C, R, B, L]) := by show _ ∉ _; simp; omega
  have hGh : Hid (G ∉ [D, T, C, R, B, L]) := hG
  clear h lD lB lL lT lC lR hG
  go_enter Try.func34, Try.ntmps34
  go_wp2_with fail
  have HW : Hid (Fr [] w (w.alloc (Obj.cells #[.int .u8 83, .int .i64 m.f, .int .i64 m.t, .int .i64 m.a, .slice so sl sc] 59))) := (Fr.refl _ _).alloc _
  have k0 : (w.alloc (Obj.cells #[.int .u8 83, .int .i64 m.f, .int .i64 m.t, .int .i64 m.a, .slice so sl sc] 59)).cell? ⟨w.heap.size, 0, none⟩ = some (.int .u8 83) := by simp [go_sem]
  have k1 : (w.alloc (Obj.cells #[.int .u8 83, .int .i64 m.f, .int .i64 m.t, .int .i64 m.a, .slice so sl sc] 59)).cell? ⟨w.heap.size, 1, none⟩ = some (.int .i64 m.f) := by simp [go_sem]
  have k2 : (w.alloc (Obj.cells #[.int .u8 83, .int .i64 m.f, .int .i64 m.t, .int .i64 m.a, .slice so sl sc] 59)).cell? ⟨w.heap.size, 2, none⟩ = some (.int .i64 m.t) := by simp [go_sem]
  have k3 : (w.alloc (Obj.cells #[.int .u8 83, .int .i64 m.f, .int .i64 m.t, .int .i64 m.a, .slice so sl sc] 59)).cell? ⟨w.heap.size, 3, none⟩ = some (.int .i64 m.a) := by simp [go_sem]
  have k4 : (w.alloc (Obj.cells #[.int .u8 83, .int .i64 m.f, .int .i64 m.t, .int .i64 m.a, .slice so sl sc] 59)).cell? ⟨w.heap.size, 4, none⟩ = some (.slice so sl sc) := by simp [go_sem]
  replace cG := HW.out.cellv cG (by simp)
  generalize w.alloc (Obj.cells #[.int .u8 83, .int .i64 m.f, .int .i64 m.t, .int .i64 m.a, .slice so sl sc] 59) = W at *
  generalize w.heap.size = K at *
  clear nG lG
  clear k3 k4
  go_region_held3 (fun w' => w'.cell? ⟨G, 0, none⟩ = some (.pointer (some ⟨D, 0, none⟩)) ∧ w'.cell? ⟨K, 1, none⟩ = some (.int .i64 m.f) ∧ w'.cell? ⟨K, 2, none⟩ = some (.int .i64 m.t)) (go_keep)
    (first | (go_at_call 60; refine (split_ok D T C R B L m.f m.t d _ (HH.out.keep HW.out.drew (by simp)) (by omega) hp he).mono ?_; rintro x w1 ⟨rfl, h1, f1⟩; have H1 : Hid (LdAt w1 D T C R B L { d with t := ((d.t.clear.acq m.f).1.rel (d.t.clear.acq m.f).2.1).1 }) := h1; have F1 : Hid (Fr [D, T, C, R, B, L] W.drew w1) := f1; have u0 := f1.cellv (b := G) (o := 0) cG hGh.out; have u1 := f1.cellv (b := K) (o := 1) k1 HX.out; have u2 := f1.cellv (b := K) (o := 2) k2 HX.out; clear h1 f1))
  rename_i hHeld
  clear hHeld
  have kk : w1.cell? ⟨K, 0, none⟩ = some (.int .u8 83) := F1.out.cellv (w := W.drew) k0 HX.out
  have FF : Hid (Fr [D, T, C, R, B, L] w w1) := (HW.out.drew.mono (by simp)).trans F1.out (fun _ _ h => h)
  have bd := div_bd (HH.out.bd m.f.toNat) hp
  clear cG k0 F1
  clear k1 k2
  try clear u1
  try clear u2
  try clear u3
  try clear u4
  clear u0
  go_wp2_with (go_at_call 63; refine (shape_lit 83 83 rfl _ _ _ bd.1 bd.2).mono ?_)
  rintro x w2 ⟨rfl, f2⟩
  have F2 : Hid (Fr [] w1 w2) := f2
  clear f2
  go_wp2_with fail
  go_ret2
  exact ⟨rfl, H1.out.keep F2.out (by simp), FF.out.trans F2.out (by simp)⟩

set_option maxHeartbeats 1000000 in
set_option maxRecDepth 100000 in
theorem run_Sz (G D T C R B L : Nat) (d : V.Ld) (m : V.Mv) (ms : List V.Mv) (sv : Value) (hsv : ∃ o l c, sv = .slice o l c) (w : World) (h : LdAt w D T C R B L d) (cG : w.cell? ⟨G, 0, none⟩ = some (.pointer (some ⟨D, 0, none⟩))) (hG : G ∉ [D, T, C, R, B, L]) (hp : m.t = 0) (he : (d.t.clear.acq m.f).2.2 = 0) :
    Calls Try.prog 34 #[.pointer (some ⟨G, 0, none⟩), .agg #[.int .u8 83, .int .i64 m.f, .int .i64 m.t, .int .i64 m.a, sv]] w (RunOut w D T C R B L (V.run d ⟨83, m, ms⟩)) := by
  have hr : V.run d ⟨83, m, ms⟩ = ({ d with t := ((d.t.clear.acq m.f).1.rel (d.t.clear.acq m.f).2.1).1 }, none) := by simp [V.run, V.Ld.split, he, hp]
  rw [hr]
  clear hr
  obtain ⟨so, sl, sc, rfl⟩ := hsv
  have HH : Hid (LdAt w D T C R B L d) := h
  have lG := lt_of_cell cG
  have nG : ¬ G = w.heap.size := by omega
  have lD := h.bk.lD
  have lB := h.bk.lB
  have lL := h.bk.lL
  have lT := h.tb.lT
  have lC := h.tb.lC
  have lR := h.tb.lR
  have HX : Hid (w.heap.size ∉ [D, T, C, R, B, L]) := by show _ ∉ _; simp; omega
  have hGh : Hid (G ∉ [D, T, C, R, B, L]) := hG
  clear h lD lB lL lT lC lR hG
  have hpz : Hid (m.t = 0) := hp
  clear hp
  go_enter Try.func34, Try.ntmps34
  go_wp2_with fail
  have HW : Hid (Fr [] w (w.alloc (Obj.cells #[.int .u8 83, .int .i64 m.f, .int .i64 m.t, .int .i64 m.a, .slice so sl sc] 59))) := (Fr.refl _ _).alloc _
  have k0 : (w.alloc (Obj.cells #[.int .u8 83, .int .i64 m.f, .int .i64 m.t, .int .i64 m.a, .slice so sl sc] 59)).cell? ⟨w.heap.size, 0, none⟩ = some (.int .u8 83) := by simp [go_sem]
  have k1 : (w.alloc (Obj.cells #[.int .u8 83, .int .i64 m.f, .int .i64 m.t, .int .i64 m.a, .slice so sl sc] 59)).cell? ⟨w.heap.size, 1, none⟩ = some (.int .i64 m.f) := by simp [go_sem]
  have k2 : (w.alloc (Obj.cells #[.int .u8 83, .int .i64 m.f, .int .i64 m.t, .int .i64 m.a, .slice so sl sc] 59)).cell? ⟨w.heap.size, 2, none⟩ = some (.int .i64 m.t) := by simp [go_sem]
  have k3 : (w.alloc (Obj.cells #[.int .u8 83, .int .i64 m.f, .int .i64 m.t, .int .i64 m.a, .slice so sl sc] 59)).cell? ⟨w.heap.size, 3, none⟩ = some (.int .i64 m.a) := by simp [go_sem]
  have k4 : (w.alloc (Obj.cells #[.int .u8 83, .int .i64 m.f, .int .i64 m.t, .int .i64 m.a, .slice so sl sc] 59)).cell? ⟨w.heap.size, 4, none⟩ = some (.slice so sl sc) := by simp [go_sem]
  replace cG := HW.out.cellv cG (by simp)
  generalize w.alloc (Obj.cells #[.int .u8 83, .int .i64 m.f, .int .i64 m.t, .int .i64 m.a, .slice so sl sc] 59) = W at *
  generalize w.heap.size = K at *
  clear nG lG
  rw [hpz.out] at k2
  clear k3 k4
  have hS0 : W.cell? ⟨G, 0, none⟩ = some (.pointer (some ⟨D, 0, none⟩)) ∧ W.cell? ⟨K, 1, none⟩ = some (.int .i64 m.f) ∧ W.cell? ⟨K, 2, none⟩ = some (.int .i64 0) := ⟨cG, k1, k2⟩
  refine wp_region_held_drew (S := fun w' => w'.cell? ⟨G, 0, none⟩ = some (.pointer (some ⟨D, 0, none⟩)) ∧ w'.cell? ⟨K, 1, none⟩ = some (.int .i64 m.f) ∧ w'.cell? ⟨K, 2, none⟩ = some (.int .i64 0)) mixed hS0 (fun hHeld => ?_)
  refine wpAnyH_take (i := 0) (v := .pointer (some ⟨G, 0, none⟩)) rfl (by kernel_rfl) (by kernel_rfl) (by kernel_rfl) (fun _ _ _ h => h) (Or.inl ⟨by rfl, by intro w hSw; (try dsimp only at hSw); go_simp⟩) (by assumption) ?_
  simp only [Act.put, List.setIfInBounds_toArray, List.set_cons_zero, List.set_cons_succ]
  refine wpAnyH_take (i := 1) (v := .pointer (some ⟨G, 0, none⟩)) rfl (by kernel_rfl) (by kernel_rfl) (by kernel_rfl) (fun _ _ _ h => h) (Or.inl ⟨by rfl, by intro w hSw; (try dsimp only at hSw); go_simp⟩) (by assumption) ?_
  simp only [Act.put, List.setIfInBounds_toArray, List.set_cons_zero, List.set_cons_succ]
  refine wpAnyH_take (i := 2) (v := .pointer (some ⟨G, 0, none⟩)) rfl (by kernel_rfl) (by kernel_rfl) (by kernel_rfl) (fun _ _ _ h => h) (Or.inl ⟨by rfl, by intro w hSw; (try dsimp only at hSw); go_simp⟩) (by assumption) ?_
  simp only [Act.put, List.setIfInBounds_toArray, List.set_cons_zero, List.set_cons_succ]
  refine wpAnyH_take (i := 3) (v := .pointer (some ⟨D, 0, none⟩)) rfl (by kernel_rfl) (by kernel_rfl) (by kernel_rfl) (fun _ _ _ h => h) (Or.inl ⟨by rfl, by intro w hSw; (try dsimp only at hSw); go_simp⟩) (by assumption) ?_
  simp only [Act.put, List.setIfInBounds_toArray, List.set_cons_zero, List.set_cons_succ]
  refine wpAnyH_take (i := 4) (v := .pointer (some ⟨K, 1, none⟩)) rfl (by kernel_rfl) (by kernel_rfl) (by kernel_rfl) (fun _ _ _ h => h) (Or.inl ⟨by rfl, by intro w hSw; (try dsimp only at hSw); go_simp⟩) (by assumption) ?_
  simp only [Act.put, List.setIfInBounds_toArray, List.set_cons_zero, List.set_cons_succ]
  refine wpAnyH_take (i := 5) (v := .pointer (some ⟨K, 1, none⟩)) rfl (by kernel_rfl) (by kernel_rfl) (by kernel_rfl) (fun _ _ _ h => h) (Or.inl ⟨by rfl, by intro w hSw; (try dsimp only at hSw); go_simp⟩) (by assumption) ?_
  simp only [Act.put, List.setIfInBounds_toArray, List.set_cons_zero, List.set_cons_succ]
  refine wpAnyH_take (i := 6) (v := .int .i64 m.f) rfl (by kernel_rfl) (by kernel_rfl) (by kernel_rfl) (fun _ _ _ h => h) (Or.inl ⟨by rfl, by intro w hSw; (try dsimp only at hSw); go_simp⟩) (by assumption) ?_
  simp only [Act.put, List.setIfInBounds_toArray, List.set_cons_zero, List.set_cons_succ]
  refine wpAnyH_take (i := 7) (v := .pointer (some ⟨K, 1, none⟩)) rfl (by kernel_rfl) (by kernel_rfl) (by kernel_rfl) (fun _ _ _ h => h) (Or.inl ⟨by rfl, by intro w hSw; (try dsimp only at hSw); go_simp⟩) (by assumption) ?_
  simp only [Act.put, List.setIfInBounds_toArray, List.set_cons_zero, List.set_cons_succ]
  refine wpAnyH_take (i := 8) (v := .pointer (some ⟨K, 2, none⟩)) rfl (by kernel_rfl) (by kernel_rfl) (by kernel_rfl) (fun _ _ _ h => h) (Or.inl ⟨by rfl, by intro w hSw; (try dsimp only at hSw); go_simp⟩) (by assumption) ?_
  simp only [Act.put, List.setIfInBounds_toArray, List.set_cons_zero, List.set_cons_succ]
  refine wpAnyH_take (i := 9) (v := .int .i64 0) rfl (by kernel_rfl) (by kernel_rfl) (by kernel_rfl) (fun _ _ _ h => h) (Or.inl ⟨by rfl, by intro w hSw; (try dsimp only at hSw); go_simp⟩) (by assumption) ?_
  simp only [Act.put, List.setIfInBounds_toArray, List.set_cons_zero, List.set_cons_succ]
  refine wpAnyH_ready (rs := [10]) (by kernel_rfl) (by simp) ?_
  refine AllReadyH.cons rfl (fun K hK => ?_) AllReadyH.nil
  go_simp
  refine (split_zero D T C R B L m.f d _ (HH.out.keep HW.out.drew (by simp)) he).mono ?_
  rintro x w1 ⟨⟨tt, y, older, rfl, ht, ho⟩, h1, f1⟩
  exact ⟨rfl, ⟨tt, y, older, rfl, ht, ho⟩, h1, (HW.out.drew.mono (by simp)).trans f1 (fun _ _ h => h)⟩

set_option maxHeartbeats 1000000 in
set_option maxRecDepth 100000 in
theorem run_Xl (G D T C R B L : Nat) (d : V.Ld) (m : V.Mv) (ms : List V.Mv) (sv : Value) (hsv : True) (w : World) (h : LdAt w D T C R B L d) (cG : w.cell? ⟨G, 0, none⟩ = some (.pointer (some ⟨D, 0, none⟩))) (hG : G ∉ [D, T, C, R, B, L]) (hl : 3 < ms.length) (hl2 : ms.length ≤ 20) (MS : Nat) (hso : ∃ c, sv = .slice (some ⟨MS, 0, none⟩) ms.length c) :
    Calls Try.prog 34 #[.pointer (some ⟨G, 0, none⟩), .agg #[.int .u8 88, .int .i64 m.f, .int .i64 m.t, .int .i64 m.a, sv]] w (RunOut w D T C R B L (V.run d ⟨88, m, ms⟩)) := by
  have hr : V.run d ⟨88, m, ms⟩ = (d, some (V.shape 88 0 1)) := by simp [V.run, V.Ld.batch, (show ¬ ms.length ≤ 3 by omega)]
  rw [hr]
  clear hr
  obtain ⟨sc, rfl⟩ := hso
  clear hsv
  have HH : Hid (LdAt w D T C R B L d) := h
  have lG := lt_of_cell cG
  have nG : ¬ G = w.heap.size := by omega
  have lD := h.bk.lD
  have lB := h.bk.lB
  have lL := h.bk.lL
  have lT := h.tb.lT
  have lC := h.tb.lC
  have lR := h.tb.lR
  have HX : Hid (w.heap.size ∉ [D, T, C, R, B, L]) := by show _ ∉ _; simp; omega
  have hGh : Hid (G ∉ [D, T, C, R, B, L]) := hG
  clear h lD lB lL lT lC lR hG
  go_enter Try.func34, Try.ntmps34
  go_wp2_with fail
  have HW : Hid (Fr [] w (w.alloc (Obj.cells #[.int .u8 88, .int .i64 m.f, .int .i64 m.t, .int .i64 m.a, .slice (some ⟨MS, 0, none⟩) ms.length sc] 59))) := (Fr.refl _ _).alloc _
  have k0 : (w.alloc (Obj.cells #[.int .u8 88, .int .i64 m.f, .int .i64 m.t, .int .i64 m.a, .slice (some ⟨MS, 0, none⟩) ms.length sc] 59)).cell? ⟨w.heap.size, 0, none⟩ = some (.int .u8 88) := by simp [go_sem]
  have k1 : (w.alloc (Obj.cells #[.int .u8 88, .int .i64 m.f, .int .i64 m.t, .int .i64 m.a, .slice (some ⟨MS, 0, none⟩) ms.length sc] 59)).cell? ⟨w.heap.size, 1, none⟩ = some (.int .i64 m.f) := by simp [go_sem]
  have k2 : (w.alloc (Obj.cells #[.int .u8 88, .int .i64 m.f, .int .i64 m.t, .int .i64 m.a, .slice (some ⟨MS, 0, none⟩) ms.length sc] 59)).cell? ⟨w.heap.size, 2, none⟩ = some (.int .i64 m.t) := by simp [go_sem]
  have k3 : (w.alloc (Obj.cells #[.int .u8 88, .int .i64 m.f, .int .i64 m.t, .int .i64 m.a, .slice (some ⟨MS, 0, none⟩) ms.length sc] 59)).cell? ⟨w.heap.size, 3, none⟩ = some (.int .i64 m.a) := by simp [go_sem]
  have k4 : (w.alloc (Obj.cells #[.int .u8 88, .int .i64 m.f, .int .i64 m.t, .int .i64 m.a, .slice (some ⟨MS, 0, none⟩) ms.length sc] 59)).cell? ⟨w.heap.size, 4, none⟩ = some (.slice (some ⟨MS, 0, none⟩) ms.length sc) := by simp [go_sem]
  replace cG := HW.out.cellv cG (by simp)
  generalize w.alloc (Obj.cells #[.int .u8 88, .int .i64 m.f, .int .i64 m.t, .int .i64 m.a, .slice (some ⟨MS, 0, none⟩) ms.length sc] 59) = W at *
  generalize w.heap.size = K at *
  clear nG lG
  clear k1 k2 k3
  go_region_held3 (fun w' => w'.cell? ⟨G, 0, none⟩ = some (.pointer (some ⟨D, 0, none⟩)) ∧ w'.cell? ⟨K, 4, none⟩ = some (.slice (some ⟨MS, 0, none⟩) ms.length sc)) (go_keep)
    (first | (go_at_call 62; refine (batch_long D T C R B L MS ms.length sc d _ (HH.out.keep HW.out.drew (by simp)) hl (by omega)).mono ?_; rintro x w1 ⟨rfl, h1, f1⟩; have H1 : Hid (LdAt w1 D T C R B L d) := h1; have F1 : Hid (Fr [D, T, C, R, B, L] W.drew w1) := f1; have u0 := f1.cellv (b := G) (o := 0) cG hGh.out; have u4 := f1.cellv (b := K) (o := 4) k4 HX.out; clear h1 f1))
  rename_i hHeld
  clear hHeld
  have kk : w1.cell? ⟨K, 0, none⟩ = some (.int .u8 88) := F1.out.cellv (w := W.drew) k0 HX.out
  have FF : Hid (Fr [D, T, C, R, B, L] w w1) := (HW.out.drew.mono (by simp)).trans F1.out (fun _ _ h => h)
  have bd := (show (0:Int) ≤ 0 ∧ (0:Int) < 10000 by omega)
  clear cG k0 F1
  clear k4
  try clear u1
  try clear u2
  try clear u3
  try clear u4
  clear u0
  go_wp2_with (go_at_call 63; refine (shape_lit 88 88 rfl _ _ _ bd.1 bd.2).mono ?_)
  rintro x w2 ⟨rfl, f2⟩
  have F2 : Hid (Fr [] w1 w2) := f2
  clear f2
  go_wp2_with fail
  go_ret2
  exact ⟨rfl, H1.out.keep F2.out (by simp), FF.out.trans F2.out (by simp)⟩

set_option maxHeartbeats 1000000 in
set_option maxRecDepth 100000 in
theorem run_Xr (G D T C R B L : Nat) (d : V.Ld) (m : V.Mv) (ms : List V.Mv) (sv : Value) (hsv : True) (w : World) (h : LdAt w D T C R B L d) (cG : w.cell? ⟨G, 0, none⟩ = some (.pointer (some ⟨D, 0, none⟩))) (hG : G ∉ [D, T, C, R, B, L]) (hl : ms.length ≤ 3) (MS : Nat) (hso : ∃ c, sv = .slice (some ⟨MS, 0, none⟩) ms.length c) (hms : MsAt w MS ms) (hM : MS < w.heap.size) (hMn : MS ∉ [D, T, C, R, B, L]) :
    Calls Try.prog 34 #[.pointer (some ⟨G, 0, none⟩), .agg #[.int .u8 88, .int .i64 m.f, .int .i64 m.t, .int .i64 m.a, sv]] w (RunOut w D T C R B L (V.run d ⟨88, m, ms⟩)) := by
  have hr : V.run d ⟨88, m, ms⟩ = ((d.batch ms).1, some (V.shape 88 (d.batch ms).2.1 (d.batch ms).2.2)) := by simp [V.run]
  rw [hr]
  clear hr
  obtain ⟨sc, rfl⟩ := hso
  clear hsv
  have HH : Hid (LdAt w D T C R B L d) := h
  have lG := lt_of_cell cG
  have nG : ¬ G = w.heap.size := by omega
  have lD := h.bk.lD
  have lB := h.bk.lB
  have lL := h.bk.lL
  have lT := h.tb.lT
  have lC := h.tb.lC
  have lR := h.tb.lR
  have HX : Hid (w.heap.size ∉ [D, T, C, R, B, L]) := by show _ ∉ _; simp; omega
  have hGh : Hid (G ∉ [D, T, C, R, B, L]) := hG
  clear h lD lB lL lT lC lR hG
  have HM0 : Hid (MsAt w MS ms ∧ MS < w.heap.size) := ⟨hms, hM⟩
  have hlh : Hid (ms.length ≤ 3) := hl
  clear hms hM hl
  go_enter Try.func34, Try.ntmps34
  go_wp2_with fail
  have HW : Hid (Fr [] w (w.alloc (Obj.cells #[.int .u8 88, .int .i64 m.f, .int .i64 m.t, .int .i64 m.a, .slice (some ⟨MS, 0, none⟩) ms.length sc] 59))) := (Fr.refl _ _).alloc _
  have k0 : (w.alloc (Obj.cells #[.int .u8 88, .int .i64 m.f, .int .i64 m.t, .int .i64 m.a, .slice (some ⟨MS, 0, none⟩) ms.length sc] 59)).cell? ⟨w.heap.size, 0, none⟩ = some (.int .u8 88) := by simp [go_sem]
  have k1 : (w.alloc (Obj.cells #[.int .u8 88, .int .i64 m.f, .int .i64 m.t, .int .i64 m.a, .slice (some ⟨MS, 0, none⟩) ms.length sc] 59)).cell? ⟨w.heap.size, 1, none⟩ = some (.int .i64 m.f) := by simp [go_sem]
  have k2 : (w.alloc (Obj.cells #[.int .u8 88, .int .i64 m.f, .int .i64 m.t, .int .i64 m.a, .slice (some ⟨MS, 0, none⟩) ms.length sc] 59)).cell? ⟨w.heap.size, 2, none⟩ = some (.int .i64 m.t) := by simp [go_sem]
  have k3 : (w.alloc (Obj.cells #[.int .u8 88, .int .i64 m.f, .int .i64 m.t, .int .i64 m.a, .slice (some ⟨MS, 0, none⟩) ms.length sc] 59)).cell? ⟨w.heap.size, 3, none⟩ = some (.int .i64 m.a) := by simp [go_sem]
  have k4 : (w.alloc (Obj.cells #[.int .u8 88, .int .i64 m.f, .int .i64 m.t, .int .i64 m.a, .slice (some ⟨MS, 0, none⟩) ms.length sc] 59)).cell? ⟨w.heap.size, 4, none⟩ = some (.slice (some ⟨MS, 0, none⟩) ms.length sc) := by simp [go_sem]
  replace cG := HW.out.cellv cG (by simp)
  have HM : Hid (MsAt (w.alloc (Obj.cells #[.int .u8 88, .int .i64 m.f, .int .i64 m.t, .int .i64 m.a, .slice (some ⟨MS, 0, none⟩) ms.length sc] 59)).drew MS ms ∧ MS < (w.alloc (Obj.cells #[.int .u8 88, .int .i64 m.f, .int .i64 m.t, .int .i64 m.a, .slice (some ⟨MS, 0, none⟩) ms.length sc] 59)).drew.heap.size) := ⟨HM0.out.1.keep HW.out.drew (by simp), Nat.lt_of_lt_of_le HM0.out.2 HW.out.drew.size⟩
  clear HM0
  generalize w.alloc (Obj.cells #[.int .u8 88, .int .i64 m.f, .int .i64 m.t, .int .i64 m.a, .slice (some ⟨MS, 0, none⟩) ms.length sc] 59) = W at *
  generalize w.heap.size = K at *
  clear nG lG
  clear k1 k2 k3
  go_region_held3 (fun w' => w'.cell? ⟨G, 0, none⟩ = some (.pointer (some ⟨D, 0, none⟩)) ∧ w'.cell? ⟨K, 4, none⟩ = some (.slice (some ⟨MS, 0, none⟩) ms.length sc)) (go_keep)
    (first | (go_at_call 62; refine (batch_run D T C R B L MS sc d ms _ (HH.out.keep HW.out.drew (by simp)) hlh.out HM.out.1 HM.out.2 hMn).mono ?_; rintro x w1 ⟨rfl, h1, f1⟩; have H1 : Hid (LdAt w1 D T C R B L (d.batch ms).1) := h1; have F1 : Hid (Fr [D, T, C, R, B, L] W.drew w1) := f1; have u0 := f1.cellv (b := G) (o := 0) cG hGh.out; have u4 := f1.cellv (b := K) (o := 4) k4 HX.out; clear h1 f1))
  rename_i hHeld
  clear hHeld
  have kk : w1.cell? ⟨K, 0, none⟩ = some (.int .u8 88) := F1.out.cellv (w := W.drew) k0 HX.out
  have FF : Hid (Fr [D, T, C, R, B, L] w w1) := (HW.out.drew.mono (by simp)).trans F1.out (fun _ _ h => h)
  have bd := batch_bd d ms (by have := hlh.out; omega)
  clear cG k0 F1
  clear k4
  try clear u1
  try clear u2
  try clear u3
  try clear u4
  clear u0
  go_wp2_with (go_at_call 63; refine (shape_lit 88 88 rfl _ _ _ bd.1 bd.2).mono ?_)
  rintro x w2 ⟨rfl, f2⟩
  have F2 : Hid (Fr [] w1 w2) := f2
  clear f2
  go_wp2_with fail
  go_ret2
  exact ⟨rfl, H1.out.keep F2.out (by simp), FF.out.trans F2.out (by simp)⟩

set_option maxHeartbeats 1000000 in
set_option maxRecDepth 100000 in
theorem run_Ny (G D T C R B L : Nat) (d : V.Ld) (m : V.Mv) (ms : List V.Mv) (sv : Value) (hsv : ∃ o l c, sv = .slice o l c) (w : World) (h : LdAt w D T C R B L d) (cG : w.cell? ⟨G, 0, none⟩ = some (.pointer (some ⟨D, 0, none⟩))) (hG : G ∉ [D, T, C, R, B, L]) (h0 : 0 ≤ m.f) (h4 : m.f < 4) :
    Calls Try.prog 34 #[.pointer (some ⟨G, 0, none⟩), .agg #[.int .u8 78, .int .i64 m.f, .int .i64 m.t, .int .i64 m.a, sv]] w (RunOut w D T C R B L (V.run d ⟨78, m, ms⟩)) := by
  have hr : V.run d ⟨78, m, ms⟩ = (d, some (V.name m.f, 0)) := by simp [V.run, h4]
  rw [hr]
  clear hr
  obtain ⟨so, sl, sc, rfl⟩ := hsv
  have HH : Hid (LdAt w D T C R B L d) := h
  have lG := lt_of_cell cG
  have nG : ¬ G = w.heap.size := by omega
  have lD := h.bk.lD
  have lB := h.bk.lB
  have lL := h.bk.lL
  have lT := h.tb.lT
  have lC := h.tb.lC
  have lR := h.tb.lR
  have HX : Hid (w.heap.size ∉ [D, T, C, R, B, L]) := by show _ ∉ _; simp; omega
  have hGh : Hid (G ∉ [D, T, C, R, B, L]) := hG
  clear h lD lB lL lT lC lR hG
  go_enter Try.func34, Try.ntmps34
  go_wp2_with fail
  refine (name_calls m.f _ h0 h4).mono ?_
  rintro x w1 ⟨rfl, f1⟩
  have F1 : Hid (Fr [] w w1) := ((Fr.refl _ _).alloc _).trans f1 (by simp)
  clear f1 cG
  go_wp2_with fail
  go_ret2
  exact ⟨rfl, HH.out.keep F1.out (by simp), F1.out.mono (by simp)⟩

set_option maxHeartbeats 1000000 in
set_option maxRecDepth 100000 in
theorem run_Nn (G D T C R B L : Nat) (d : V.Ld) (m : V.Mv) (ms : List V.Mv) (sv : Value) (hsv : ∃ o l c, sv = .slice o l c) (w : World) (h : LdAt w D T C R B L d) (cG : w.cell? ⟨G, 0, none⟩ = some (.pointer (some ⟨D, 0, none⟩))) (hG : G ∉ [D, T, C, R, B, L]) (h4 : 4 ≤ m.f) (h10 : m.f < 10) :
    Calls Try.prog 34 #[.pointer (some ⟨G, 0, none⟩), .agg #[.int .u8 78, .int .i64 m.f, .int .i64 m.t, .int .i64 m.a, sv]] w (RunOut w D T C R B L (V.run d ⟨78, m, ms⟩)) := by
  have hr : V.run d ⟨78, m, ms⟩ = (d, none) := by simp [V.run, (show ¬ m.f < 4 by omega)]
  rw [hr]
  clear hr
  obtain ⟨so, sl, sc, rfl⟩ := hsv
  have HH : Hid (LdAt w D T C R B L d) := h
  have lG := lt_of_cell cG
  have nG : ¬ G = w.heap.size := by omega
  have lD := h.bk.lD
  have lB := h.bk.lB
  have lL := h.bk.lL
  have lT := h.tb.lT
  have lC := h.tb.lC
  have lR := h.tb.lR
  have HX : Hid (w.heap.size ∉ [D, T, C, R, B, L]) := by show _ ∉ _; simp; omega
  have hGh : Hid (G ∉ [D, T, C, R, B, L]) := hG
  clear h lD lB lL lT lC lR hG
  go_enter Try.func34, Try.ntmps34
  go_wp2_with fail
  refine (name_panics m.f _ h4 h10).mono ?_
  rintro x w1 ⟨⟨tt, y, older, rfl, ht, ho⟩, f1⟩
  have F1 : Hid (Fr [] w w1) := ((Fr.refl _ _).alloc _).trans f1 (by simp)
  exact ⟨rfl, ⟨tt, y, older, rfl, ht, ho⟩, HH.out.keep F1.out (by simp), F1.out.mono (by simp)⟩

end Go.Proofs.Qxb6500360a
