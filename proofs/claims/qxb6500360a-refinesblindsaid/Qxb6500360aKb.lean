/-
  KEEPS: a step played; the clauses.
-/
import Derived.Test.Qxb6500360aKa
namespace Go.Proofs.Qxb6500360a
open Go.RowKit
set_option linter.unusedSimpArgs false
set_option linter.unusedVariables false

set_option maxHeartbeats 1000000 in
set_option maxRecDepth 100000 in
theorem serve_long' (G D T C R B L : Nat) (g : V.Gt) (s : ByteArray) (w : World) (h : GtAt w G D T C R B L g) (hl : 20 < s.size) :
    Calls Try.prog 19 #[.pointer (some ⟨G, 0, none⟩), .string s] w (ServeOut w G D T C R B L (g.serve (LL s))) := by
  have hs : ¬ (LL s).length ≤ 20 := by rw [LL_len]; omega
  have hr : g.serve (LL s) = (⟨g.c.count 1, g.d⟩, [], 1) := by simp only [V.Gt.serve, V.answer, if_neg hs]
  rw [hr]
  clear hr hs
  have HH : Hid (GtAt w G D T C R B L g) := h
  have lG := h.ct.lG
  have hli : (20 : Int) < (s.size : Int) := by omega
  clear h hl
  go_enter_defers Try.func19, Try.ntmps19
  go_wp2_with fail
  have HF : Hid (Fr [] w (((w.alloc (Obj.cells #[.pointer (some ⟨G, 0, none⟩)] 32)).alloc (Obj.cells #[.string ⟨#[]⟩] 9)).alloc (Obj.cells #[.int .i64 1] 34))) := (((Fr.refl _ _).alloc _).alloc _).alloc _
  have k0 : (((w.alloc (Obj.cells #[.pointer (some ⟨G, 0, none⟩)] 32)).alloc (Obj.cells #[.string ⟨#[]⟩] 9)).alloc (Obj.cells #[.int .i64 1] 34)).cell? ⟨w.heap.size, 0, none⟩ = some (.pointer (some ⟨G, 0, none⟩)) := by simp [go_sem]
  have k1 : (((w.alloc (Obj.cells #[.pointer (some ⟨G, 0, none⟩)] 32)).alloc (Obj.cells #[.string ⟨#[]⟩] 9)).alloc (Obj.cells #[.int .i64 1] 34)).cell? ⟨w.heap.size + 1, 0, none⟩ = some (S []) := by simp [go_sem]; rfl
  have k2 : (((w.alloc (Obj.cells #[.pointer (some ⟨G, 0, none⟩)] 32)).alloc (Obj.cells #[.string ⟨#[]⟩] 9)).alloc (Obj.cells #[.int .i64 1] 34)).cell? ⟨w.heap.size + 1 + 1, 0, none⟩ = some (.int .i64 1) := by simp [go_sem]
  generalize (((w.alloc (Obj.cells #[.pointer (some ⟨G, 0, none⟩)] 32)).alloc (Obj.cells #[.string ⟨#[]⟩] 9)).alloc (Obj.cells #[.int .i64 1] 34)) = W at *
  refine leaves_cons (f := 29) (args := #[.pointer (some ⟨w.heap.size, 0, none⟩), .pointer (some ⟨w.heap.size + 1 + 1, 0, none⟩)]) (by simp) (by simp [go_sem]) ?_
  refine (count_deferred _ _ G D 1 g.c W (HH.out.ct.keep HF.out (by simp)) k0 k2 _).mono ?_
  rintro e u w3 ⟨rfl, rfl, hc3, hf3⟩
  have e0 : w3.cell? ⟨w.heap.size + 1, 0, none⟩ = some (S []) := hf3.cellv k1 (by simp; omega)
  have e1 : w3.cell? ⟨w.heap.size + 1 + 1, 0, none⟩ = some (.int .i64 1) := hf3.cellv k2 (by simp; omega)
  exact ⟨.tuple #[S [], .int .i64 1], by simp [results, Try.results19, go_sem, e0, e1], rfl,
    ⟨hc3, (HH.out.ld.keep HF.out (by simp)).keep hf3 (by have := HH.out.nG; simp at this ⊢; omega), HH.out.nG⟩, (HF.out.mono (by simp)).trans hf3 (fun x _ h => by simp at h ⊢; exact .inl h)⟩
theorem serve_any (G D T C R B L : Nat) (g : V.Gt) (s : ByteArray) (w : World) (h : GtAt w G D T C R B L g) :
    Calls Try.prog 19 #[.pointer (some ⟨G, 0, none⟩), .string s] w (ServeOut w G D T C R B L (g.serve (LL s))) := by
  by_cases hl : s.size ≤ 20
  · exact serve_short G D T C R B L g s w h hl
  · exact serve_long' G D T C R B L g s w h (by omega)

/-- A step of the script. -/
structure Op where
  k : Int
  a : Int
  b : Int
  c : Int
  s : ByteArray
  t : ByteArray
def opV (o : Op) : Value := .agg #[.int .i64 o.k, .int .i64 o.a, .int .i64 o.b, .int .i64 o.c, .string o.s, .string o.t]
def doG (g : V.Gt) (o : Op) : V.Gt × Int × List UInt8 :=
  if o.k = 2 then ((g.serve (LL o.s)).1, (g.serve (LL o.s)).2.2, (g.serve (LL o.s)).2.1)
  else if o.k = 3 then (g, 0, g.show) else (g, 0, [])
def ansV (e : Int) (s : List UInt8) : Value := .agg #[.int .i64 e, .int .i64 0, .int .i64 0, S s]

set_option maxHeartbeats 1000000 in
set_option maxRecDepth 100000 in
theorem do_calls (G D T C R B L : Nat) (g : V.Gt) (o : Op) (w : World) (h : GtAt w G D T C R B L g) :
    Calls Try.prog 36 #[.pointer (some ⟨G, 0, none⟩), opV o] w fun x w' => x = .returned (ansV (doG g o).2.1 (doG g o).2.2) ∧ GtAt w' G D T C R B L (doG g o).1 ∧ Fr [G, D, T, C, R, B, L] w w' := by
  obtain ⟨k, a, b, c, s, t⟩ := o
  have HH : Hid (GtAt w G D T C R B L g) := h
  have HL : Hid (G < w.heap.size ∧ D < w.heap.size ∧ T < w.heap.size ∧ C < w.heap.size ∧ R < w.heap.size ∧ B < w.heap.size ∧ L < w.heap.size) := ⟨h.ct.lG, h.ld.bk.lD, h.ld.tb.lT, h.ld.tb.lC, h.ld.tb.lR, h.ld.bk.lB, h.ld.bk.lL⟩
  clear h
  unfold opV
  dsimp only
  by_cases h2 : k = 2
  · subst h2
    have hq : doG g ⟨2, a, b, c, s, t⟩ = ((g.serve (LL s)).1, (g.serve (LL s)).2.2, (g.serve (LL s)).2.1) := rfl
    rw [hq]
    clear hq
    have hsv := fun W (hW : GtAt W G D T C R B L g) => serve_any G D T C R B L g s W hW
    have HR : Hid (∀ W, GtAt W G D T C R B L g → Calls Try.prog 19 #[.pointer (some ⟨G, 0, none⟩), .string s] W (ServeOut W G D T C R B L (g.serve (LL s)))) := hsv
    clear hsv
    generalize g.serve (LL s) = r at *
    obtain ⟨g1, an, er⟩ := r
    dsimp only
    go_enter Try.func36, Try.ntmps36
    go_wp2_with fail
    refine (HR.out _ ⟨HH.out.ct.keep (X := []) (((Fr.refl _ _).alloc _).alloc _) (by simp), HH.out.ld.keep (X := []) (((Fr.refl _ _).alloc _).alloc _) (by simp), HH.out.nG⟩).mono ?_
    rintro e w1 ⟨rfl, h1, f1⟩
    have nP : w.heap.size + 1 ∉ [G, D, T, C, R, B, L] := by have := HL.out; simp; omega
    have k0 := f1.cellv (b := w.heap.size + 1) (o := 0) (v := .int .i64 0) (by simp [go_sem]) nP
    have k1 := f1.cellv (b := w.heap.size + 1) (o := 1) (v := .int .i64 0) (by simp [go_sem]) nP
    have k2 := f1.cellv (b := w.heap.size + 1) (o := 2) (v := .int .i64 0) (by simp [go_sem]) nP
    have k3 := f1.cellv (b := w.heap.size + 1) (o := 3) (v := .string ⟨#[]⟩) (by simp [go_sem]) nP
    have z0 := f1.frozenv (b := w.heap.size + 1) (o := 0) (by simp [go_sem]) (by simp) nP
    have z1 := f1.frozenv (b := w.heap.size + 1) (o := 1) (by simp [go_sem]) (by simp) nP
    have z2 := f1.frozenv (b := w.heap.size + 1) (o := 2) (by simp [go_sem]) (by simp) nP
    have z3 := f1.frozenv (b := w.heap.size + 1) (o := 3) (by simp [go_sem]) (by simp) nP
    have H1 : Hid (GtAt w1 G D T C R B L g1) := h1
    have F1 : Hid (Fr [G, D, T, C, R, B, L] w w1) := (((Fr.refl _ _).alloc _).alloc _).trans f1 (fun _ _ h => h)
    clear h1 f1 nP HR
    unfold S
    go_wp2_with fail
    have FX : Hid (Fr [w.heap.size + 1] w1 ((((w1.setCell ⟨w.heap.size + 1, 0, none⟩ (.int .i64 er)).setCell ⟨w.heap.size + 1, 1, none⟩ (.int .i64 0)).setCell ⟨w.heap.size + 1, 2, none⟩ (.int .i64 0)).setCell ⟨w.heap.size + 1, 3, none⟩ (.string ⟨an.toArray⟩))) := ((((Fr.refl _ _).setCell (by simp) _).setCell (by simp) _).setCell (by simp) _).setCell (by simp) _
    have nX : ∀ x ∈ [G, D, T, C, R, B, L], x ∉ [w.heap.size + 1] := by have := HL.out; simp; omega
    refine bodyPost_ret (v := ansV er an) (by simp [results, Try.results36, go_sem, cell_set, k0, k1, k2, k3]; rfl) rfl ⟨rfl, ⟨H1.out.ct.keep FX.out (nX G (by simp)), H1.out.ld.keep FX.out (fun x hx => nX x (by simp at hx ⊢; omega)), H1.out.nG⟩, F1.out.trans FX.out (fun x hx hm => by simp at hm; omega)⟩
  · by_cases h3 : k = 3
    · subst h3
      have hq : doG g ⟨3, a, b, c, s, t⟩ = (g, 0, g.show) := rfl
      rw [hq]
      clear hq h2
      have HR : Hid (∀ W, GtAt W G D T C R B L g → Calls Try.prog 23 #[.pointer (some ⟨G, 0, none⟩)] W fun e w' => e = .returned (S g.show) ∧ Fr [] W w') := fun W hW => gshow_calls G D T C R B L g W hW
      dsimp only
      generalize g.show = an at *
      go_enter Try.func36, Try.ntmps36
      go_wp2_with fail
      refine (HR.out _ ⟨HH.out.ct.keep (X := []) (((Fr.refl _ _).alloc _).alloc _) (by simp), HH.out.ld.keep (X := []) (((Fr.refl _ _).alloc _).alloc _) (by simp), HH.out.nG⟩).mono ?_
      rintro e w1 ⟨rfl, f1⟩
      have k0 := f1.cellv (b := w.heap.size + 1) (o := 0) (v := .int .i64 0) (by simp [go_sem]) (by simp)
      have k1 := f1.cellv (b := w.heap.size + 1) (o := 1) (v := .int .i64 0) (by simp [go_sem]) (by simp)
      have k2 := f1.cellv (b := w.heap.size + 1) (o := 2) (v := .int .i64 0) (by simp [go_sem]) (by simp)
      have k3 := f1.cellv (b := w.heap.size + 1) (o := 3) (v := .string ⟨#[]⟩) (by simp [go_sem]) (by simp)
      have z0 := f1.frozenv (b := w.heap.size + 1) (o := 0) (by simp [go_sem]) (by simp) (by simp)
      have z1 := f1.frozenv (b := w.heap.size + 1) (o := 1) (by simp [go_sem]) (by simp) (by simp)
      have z2 := f1.frozenv (b := w.heap.size + 1) (o := 2) (by simp [go_sem]) (by simp) (by simp)
      have z3 := f1.frozenv (b := w.heap.size + 1) (o := 3) (by simp [go_sem]) (by simp) (by simp)
      have F1 : Hid (Fr [] w w1) := (((Fr.refl _ _).alloc _).alloc _).trans f1 (by simp)
      clear f1 HR
      unfold S
      go_wp2_with fail
      have FX : Hid (Fr [] w ((((w1.setCell ⟨w.heap.size + 1, 0, none⟩ (.int .i64 0)).setCell ⟨w.heap.size + 1, 1, none⟩ (.int .i64 0)).setCell ⟨w.heap.size + 1, 2, none⟩ (.int .i64 0)).setCell ⟨w.heap.size + 1, 3, none⟩ (.string ⟨an.toArray⟩))) := (((F1.out.setCell (fun h => absurd h (by simp)) _).setCell (fun h => absurd h (by simp)) _).setCell (fun h => absurd h (by simp)) _).setCell (fun h => absurd h (by simp)) _
      refine bodyPost_ret (v := ansV 0 an) (by simp [results, Try.results36, go_sem, cell_set, k0, k1, k2, k3]; rfl) rfl ⟨rfl, ⟨HH.out.ct.keep FX.out (by simp), HH.out.ld.keep FX.out (by simp), HH.out.nG⟩, FX.out.mono (by simp)⟩
    · have hq : doG g ⟨k, a, b, c, s, t⟩ = (g, 0, []) := by unfold doG; dsimp only; rw [if_neg h2, if_neg h3]
      rw [hq]
      have j2 : (k == 2) = false := by simpa using h2
      have j3 : (k == 3) = false := by simpa using h3
      clear hq h2 h3
      by_cases h4 : k = 4
      · subst h4
        clear j2 j3
        go_enter Try.func36, Try.ntmps36
        go_wp2_with fail
        refine (gcheck_calls G D T C R B L g _ ⟨HH.out.ct.keep (X := []) (((Fr.refl _ _).alloc _).alloc _) (by simp), HH.out.ld.keep (X := []) (((Fr.refl _ _).alloc _).alloc _) (by simp), HH.out.nG⟩).mono ?_
        rintro e w1 ⟨rfl, f1⟩
        have k0 := f1.cellv (b := w.heap.size + 1) (o := 0) (v := .int .i64 0) (by simp [go_sem]) (by simp)
        have k1 := f1.cellv (b := w.heap.size + 1) (o := 1) (v := .int .i64 0) (by simp [go_sem]) (by simp)
        have k2 := f1.cellv (b := w.heap.size + 1) (o := 2) (v := .int .i64 0) (by simp [go_sem]) (by simp)
        have k3 := f1.cellv (b := w.heap.size + 1) (o := 3) (v := .string ⟨#[]⟩) (by simp [go_sem]) (by simp)
        have z0 := f1.frozenv (b := w.heap.size + 1) (o := 0) (by simp [go_sem]) (by simp) (by simp)
        have z1 := f1.frozenv (b := w.heap.size + 1) (o := 1) (by simp [go_sem]) (by simp) (by simp)
        have z2 := f1.frozenv (b := w.heap.size + 1) (o := 2) (by simp [go_sem]) (by simp) (by simp)
        have z3 := f1.frozenv (b := w.heap.size + 1) (o := 3) (by simp [go_sem]) (by simp) (by simp)
        have F1 : Hid (Fr [] w w1) := (((Fr.refl _ _).alloc _).alloc _).trans f1 (by simp)
        clear f1
        go_wp2_with fail
        have FX : Hid (Fr [] w ((((w1.setCell ⟨w.heap.size + 1, 0, none⟩ (.int .i64 0)).setCell ⟨w.heap.size + 1, 1, none⟩ (.int .i64 0)).setCell ⟨w.heap.size + 1, 2, none⟩ (.int .i64 0)).setCell ⟨w.heap.size + 1, 3, none⟩ (.string ⟨#[]⟩))) := (((F1.out.setCell (fun h => absurd h (by simp)) _).setCell (fun h => absurd h (by simp)) _).setCell (fun h => absurd h (by simp)) _).setCell (fun h => absurd h (by simp)) _
        refine bodyPost_ret (v := ansV 0 []) (by simp [results, Try.results36, go_sem, cell_set, k0, k1, k2, k3]; rfl) rfl ⟨rfl, ⟨HH.out.ct.keep FX.out (by simp), HH.out.ld.keep FX.out (by simp), HH.out.nG⟩, FX.out.mono (by simp)⟩
      · have j4 : (k == 4) = false := by simpa using h4
        clear h4
        go_enter Try.func36, Try.ntmps36
        go_wp2_with fail
        have FX : Hid (Fr [] w ((w.alloc (Obj.cells #[.int .i64 k, .int .i64 a, .int .i64 b, .int .i64 c, .string s, .string t] 65)).alloc (Obj.cells #[.int .i64 0, .int .i64 0, .int .i64 0, .string ⟨#[]⟩] 68))) := ((Fr.refl _ _).alloc _).alloc _
        refine bodyPost_ret (v := ansV 0 []) (by simp [results, Try.results36, go_sem]; rfl) rfl ⟨rfl, ⟨HH.out.ct.keep FX.out (by simp), HH.out.ld.keep FX.out (by simp), HH.out.nG⟩, FX.out.mono (by simp)⟩

/-- 'N' begins the request of a Serve step. -/
def named (o : Op) : Prop := o.k = 2 ∧ (LL o.s)[0]? = some 78
theorem run_neqS (a : List UInt8) (W : World) : (binOp .neq 9 (S a) (S a)).run Try.prog W = .ok (.bool false) W := by
  simp [S, binOp, go_sem, Op.stringOp]
theorem run_guardN (o1 o2 : Operand) (a b : List UInt8) (W : World) : (eqGuard .neq 9 o1 o2 (S a) (S b)).run Try.prog W = .ok () W := by
  simp [S, eqGuard, go_sem]

set_option maxHeartbeats 2000000 in
set_option maxRecDepth 100000 in
theorem holds_calls (D T C R B L : Nat) (d : V.Ld) (o : Op) (e : Int) (an un : List UInt8) (w : World) (h : LdAt w D T C R B L d) (hh : d.t.held = 0) (he : ¬ e = 10)
    (hu : (e = 1 ∨ e = 8 ∨ named o) → un = d.show) (h8 : e = 8 → ∃ q : Nat, q ≤ o.s.size ∧ q ≤ 20 ∧ an = [64] ++ V.itoa (q : Int)) :
    Calls Try.prog 38 #[.agg #[.pointer (some ⟨D, 0, none⟩), .pointer (some ⟨T, 0, none⟩)], opV o, ansV e an, S un] w fun x w' => x = .returned (.bool true) ∧ Fr [] w w' := by
  obtain ⟨k, a, b, c, s, t⟩ := o
  have hne := run_neqS
  have hgd := run_guardN
  have HH : Hid (LdAt w D T C R B L d) := h
  have HU : Hid ((e = 1 ∨ e = 8 ∨ named ⟨k, a, b, c, s, t⟩) → un = d.show) := hu
  have H8 : Hid (e = 8 → ∃ q : Nat, q ≤ s.size ∧ q ≤ 20 ∧ an = [64] ++ V.itoa (q : Int)) := h8
  have j10 : (e == 10) = false := by simpa using he
  clear h hu h8 he
  unfold opV ansV
  dsimp only
  go_enter Try.func38, Try.ntmps38
  go_wp2_with fail
  have F0 : Hid (Fr [] w (((w.alloc (Obj.cells #[.pointer (some ⟨D, 0, none⟩), .pointer (some ⟨T, 0, none⟩)] 30)).alloc (Obj.cells #[.int .i64 k, .int .i64 a, .int .i64 b, .int .i64 c, .string s, .string t] 65)).alloc (Obj.cells #[.int .i64 e, .int .i64 0, .int .i64 0, S an] 68))) := (((Fr.refl _ _).alloc _).alloc _).alloc _
  have p0 : (((w.alloc (Obj.cells #[.pointer (some ⟨D, 0, none⟩), .pointer (some ⟨T, 0, none⟩)] 30)).alloc (Obj.cells #[.int .i64 k, .int .i64 a, .int .i64 b, .int .i64 c, .string s, .string t] 65)).alloc (Obj.cells #[.int .i64 e, .int .i64 0, .int .i64 0, S an] 68)).cell? ⟨w.heap.size, 0, none⟩ = some (.pointer (some ⟨D, 0, none⟩)) := by simp [go_sem]
  have p1 : (((w.alloc (Obj.cells #[.pointer (some ⟨D, 0, none⟩), .pointer (some ⟨T, 0, none⟩)] 30)).alloc (Obj.cells #[.int .i64 k, .int .i64 a, .int .i64 b, .int .i64 c, .string s, .string t] 65)).alloc (Obj.cells #[.int .i64 e, .int .i64 0, .int .i64 0, S an] 68)).cell? ⟨w.heap.size, 1, none⟩ = some (.pointer (some ⟨T, 0, none⟩)) := by simp [go_sem]
  have pk : (((w.alloc (Obj.cells #[.pointer (some ⟨D, 0, none⟩), .pointer (some ⟨T, 0, none⟩)] 30)).alloc (Obj.cells #[.int .i64 k, .int .i64 a, .int .i64 b, .int .i64 c, .string s, .string t] 65)).alloc (Obj.cells #[.int .i64 e, .int .i64 0, .int .i64 0, S an] 68)).cell? ⟨w.heap.size + 1, 0, none⟩ = some (.int .i64 k) := by simp [go_sem]
  have ps : (((w.alloc (Obj.cells #[.pointer (some ⟨D, 0, none⟩), .pointer (some ⟨T, 0, none⟩)] 30)).alloc (Obj.cells #[.int .i64 k, .int .i64 a, .int .i64 b, .int .i64 c, .string s, .string t] 65)).alloc (Obj.cells #[.int .i64 e, .int .i64 0, .int .i64 0, S an] 68)).cell? ⟨w.heap.size + 1, 4, none⟩ = some (.string s) := by simp [go_sem]
  have pe : (((w.alloc (Obj.cells #[.pointer (some ⟨D, 0, none⟩), .pointer (some ⟨T, 0, none⟩)] 30)).alloc (Obj.cells #[.int .i64 k, .int .i64 a, .int .i64 b, .int .i64 c, .string s, .string t] 65)).alloc (Obj.cells #[.int .i64 e, .int .i64 0, .int .i64 0, S an] 68)).cell? ⟨w.heap.size + 1 + 1, 0, none⟩ = some (.int .i64 e) := by simp [go_sem]
  have pn : (((w.alloc (Obj.cells #[.pointer (some ⟨D, 0, none⟩), .pointer (some ⟨T, 0, none⟩)] 30)).alloc (Obj.cells #[.int .i64 k, .int .i64 a, .int .i64 b, .int .i64 c, .string s, .string t] 65)).alloc (Obj.cells #[.int .i64 e, .int .i64 0, .int .i64 0, S an] 68)).cell? ⟨w.heap.size + 1 + 1, 3, none⟩ = some (S an) := by simp [go_sem]
  generalize (((w.alloc (Obj.cells #[.pointer (some ⟨D, 0, none⟩), .pointer (some ⟨T, 0, none⟩)] 30)).alloc (Obj.cells #[.int .i64 k, .int .i64 a, .int .i64 b, .int .i64 c, .string s, .string t] 65)).alloc (Obj.cells #[.int .i64 e, .int .i64 0, .int .i64 0, S an] 68)) = w0 at *
  refine (sum_calls D T C R B L d w0 (HH.out.keep F0.out (by simp))).mono ?_
  rintro x w1 ⟨rfl, f1⟩
  replace p0 := f1.cellv p0 (by simp)
  replace p1 := f1.cellv p1 (by simp)
  replace pk := f1.cellv pk (by simp)
  replace ps := f1.cellv ps (by simp)
  replace pe := f1.cellv pe (by simp)
  replace pn := f1.cellv pn (by simp)
  have F1 : Hid (Fr [] w w1) := F0.out.trans f1 (by simp)
  clear f1
  go_wp2_with fail
  refine (locked_calls D T C R B L d w1 (HH.out.keep F1.out (by simp))).mono ?_
  rintro x w2 ⟨rfl, f2⟩
  replace p0 := f2.cellv p0 (by simp)
  replace p1 := f2.cellv p1 (by simp)
  replace pk := f2.cellv pk (by simp)
  replace ps := f2.cellv ps (by simp)
  replace pe := f2.cellv pe (by simp)
  replace pn := f2.cellv pn (by simp)
  have F2 : Hid (Fr [] w w2) := F1.out.trans f2 (by simp)
  clear f2
  rw [hh]
  clear hh F0 F1
  generalize w.heap.size = P at *
  by_cases hk : k = 2
  · subst hk
    by_cases hs : 0 < s.size
    · have hs' : (0 : Int) < (s.size : Int) := by omega
      have hL : (LL s)[0]? = some s[0] := by
        have : (LL s)[0]? = s.data[0]? := by show s.data.toList[0]? = _; simp
        rw [this]
        exact Array.getElem?_eq_getElem hs
      by_cases h78 : s[0] = 78
      · have HN : Hid (named ⟨2, a, b, c, s, t⟩) := ⟨rfl, by rw [hL, h78]⟩
        have hv : (((s[0].toNat : Nat) : Int) == 78) = true := by rw [h78]; rfl
        clear h78 hL
        by_cases h1 : e = 1
        · subst h1
          obtain rfl := HU.out (.inl rfl)
          clear HU H8
          go_wp2_with fail
          refine (under_calls D T C R B L d w2 (HH.out.keep F2.out (by simp))).mono ?_
          rintro x w3 ⟨rfl, f3⟩
          replace ps := f3.cellv ps (by simp)
          replace pe := f3.cellv pe (by simp)
          replace pn := f3.cellv pn (by simp)
          have F3 : Hid (Fr [] w w3) := F2.out.trans f3 (by simp)
          clear f3 p0 p1 pk
          go_wp2_with fail
          go_ret
          exact ⟨rfl, F3.out⟩
        · by_cases h8 : e = 8
          · subst h8
            obtain rfl := HU.out (.inr (.inl rfl))
            obtain ⟨q, hq1, hq2, hq3⟩ := H8.out rfl
            have HQ : Hid (q ≤ s.size ∧ q ≤ 20 ∧ an = [64] ++ V.itoa (q : Int)) := ⟨hq1, hq2, hq3⟩
            clear hq1 hq2 hq3
            clear HU H8
            go_wp2_with fail
            refine (under_calls D T C R B L d w2 (HH.out.keep F2.out (by simp))).mono ?_
            rintro x w3 ⟨rfl, f3⟩
            replace ps := f3.cellv ps (by simp)
            replace pe := f3.cellv pe (by simp)
            replace pn := f3.cellv pn (by simp)
            have F3 : Hid (Fr [] w w3) := F2.out.trans f3 (by simp)
            clear f3 p0 p1 pk
            go_wp2_with fail
            refine (placed_calls q s.size an w3 HQ.out.1 HQ.out.2.1 HQ.out.2.2).mono ?_
            rintro x w4 ⟨rfl, f4⟩
            have F4 : Hid (Fr [] w w4) := F3.out.trans f4 (by simp)
            clear f4
            go_wp2_with fail
            go_ret
            exact ⟨rfl, F4.out⟩
          · have j1 : (e == 1) = false := by simpa using h1
            have j8 : (e == 8) = false := by simpa using h8
            clear h1 h8
            obtain rfl := HU.out (.inr (.inr HN.out))
            clear HU H8
            go_wp2_with fail
            refine (under_calls D T C R B L d w2 (HH.out.keep F2.out (by simp))).mono ?_
            rintro x w3 ⟨rfl, f3⟩
            replace ps := f3.cellv ps (by simp)
            replace pe := f3.cellv pe (by simp)
            replace pn := f3.cellv pn (by simp)
            have F3 : Hid (Fr [] w w3) := F2.out.trans f3 (by simp)
            clear f3 p0 p1 pk
            go_wp2_with fail
            go_ret
            exact ⟨rfl, F3.out⟩
      · have hv : (((s[0].toNat : Nat) : Int) == 78) = false := by
          rw [beq_eq_false_iff_ne]
          intro e
          apply h78
          apply UInt8.toNat_inj.mp
          show s[0].toNat = 78
          omega
        clear h78 hL
        by_cases h1 : e = 1
        · subst h1
          obtain rfl := HU.out (.inl rfl)
          clear HU H8
          go_wp2_with fail
          refine (under_calls D T C R B L d w2 (HH.out.keep F2.out (by simp))).mono ?_
          rintro x w3 ⟨rfl, f3⟩
          replace ps := f3.cellv ps (by simp)
          replace pe := f3.cellv pe (by simp)
          replace pn := f3.cellv pn (by simp)
          have F3 : Hid (Fr [] w w3) := F2.out.trans f3 (by simp)
          clear f3 p0 p1 pk
          go_wp2_with fail
          go_ret
          exact ⟨rfl, F3.out⟩
        · by_cases h8 : e = 8
          · subst h8
            obtain rfl := HU.out (.inr (.inl rfl))
            obtain ⟨q, hq1, hq2, hq3⟩ := H8.out rfl
            have HQ : Hid (q ≤ s.size ∧ q ≤ 20 ∧ an = [64] ++ V.itoa (q : Int)) := ⟨hq1, hq2, hq3⟩
            clear hq1 hq2 hq3
            clear HU H8
            go_wp2_with fail
            refine (under_calls D T C R B L d w2 (HH.out.keep F2.out (by simp))).mono ?_
            rintro x w3 ⟨rfl, f3⟩
            replace ps := f3.cellv ps (by simp)
            replace pe := f3.cellv pe (by simp)
            replace pn := f3.cellv pn (by simp)
            have F3 : Hid (Fr [] w w3) := F2.out.trans f3 (by simp)
            clear f3 p0 p1 pk
            go_wp2_with fail
            refine (placed_calls q s.size an w3 HQ.out.1 HQ.out.2.1 HQ.out.2.2).mono ?_
            rintro x w4 ⟨rfl, f4⟩
            have F4 : Hid (Fr [] w w4) := F3.out.trans f4 (by simp)
            clear f4
            go_wp2_with fail
            go_ret
            exact ⟨rfl, F4.out⟩
          · have j1 : (e == 1) = false := by simpa using h1
            have j8 : (e == 8) = false := by simpa using h8
            clear h1 h8
            clear HU H8
            go_wp2_with fail
            go_ret
            exact ⟨rfl, F2.out⟩
    · have hs' : ¬ (0 : Int) < (s.size : Int) := by omega
      by_cases h1 : e = 1
      · subst h1
        obtain rfl := HU.out (.inl rfl)
        clear HU H8
        go_wp2_with fail
        refine (under_calls D T C R B L d w2 (HH.out.keep F2.out (by simp))).mono ?_
        rintro x w3 ⟨rfl, f3⟩
        replace ps := f3.cellv ps (by simp)
        replace pe := f3.cellv pe (by simp)
        replace pn := f3.cellv pn (by simp)
        have F3 : Hid (Fr [] w w3) := F2.out.trans f3 (by simp)
        clear f3 p0 p1 pk
        go_wp2_with fail
        go_ret
        exact ⟨rfl, F3.out⟩
      · by_cases h8 : e = 8
        · subst h8
          obtain rfl := HU.out (.inr (.inl rfl))
          obtain ⟨q, hq1, hq2, hq3⟩ := H8.out rfl
          have HQ : Hid (q ≤ s.size ∧ q ≤ 20 ∧ an = [64] ++ V.itoa (q : Int)) := ⟨hq1, hq2, hq3⟩
          clear hq1 hq2 hq3
          clear HU H8
          go_wp2_with fail
          refine (under_calls D T C R B L d w2 (HH.out.keep F2.out (by simp))).mono ?_
          rintro x w3 ⟨rfl, f3⟩
          replace ps := f3.cellv ps (by simp)
          replace pe := f3.cellv pe (by simp)
          replace pn := f3.cellv pn (by simp)
          have F3 : Hid (Fr [] w w3) := F2.out.trans f3 (by simp)
          clear f3 p0 p1 pk
          go_wp2_with fail
          refine (placed_calls q s.size an w3 HQ.out.1 HQ.out.2.1 HQ.out.2.2).mono ?_
          rintro x w4 ⟨rfl, f4⟩
          have F4 : Hid (Fr [] w w4) := F3.out.trans f4 (by simp)
          clear f4
          go_wp2_with fail
          go_ret
          exact ⟨rfl, F4.out⟩
        · have j1 : (e == 1) = false := by simpa using h1
          have j8 : (e == 8) = false := by simpa using h8
          clear h1 h8
          clear HU H8
          go_wp2_with fail
          go_ret
          exact ⟨rfl, F2.out⟩
  · have hk' : (k == 2) = false := by simpa using hk
    clear hk
    by_cases h1 : e = 1
    · subst h1
      obtain rfl := HU.out (.inl rfl)
      clear HU H8
      go_wp2_with fail
      refine (under_calls D T C R B L d w2 (HH.out.keep F2.out (by simp))).mono ?_
      rintro x w3 ⟨rfl, f3⟩
      replace ps := f3.cellv ps (by simp)
      replace pe := f3.cellv pe (by simp)
      replace pn := f3.cellv pn (by simp)
      have F3 : Hid (Fr [] w w3) := F2.out.trans f3 (by simp)
      clear f3 p0 p1 pk
      go_wp2_with fail
      go_ret
      exact ⟨rfl, F3.out⟩
    · by_cases h8 : e = 8
      · subst h8
        obtain rfl := HU.out (.inr (.inl rfl))
        obtain ⟨q, hq1, hq2, hq3⟩ := H8.out rfl
        have HQ : Hid (q ≤ s.size ∧ q ≤ 20 ∧ an = [64] ++ V.itoa (q : Int)) := ⟨hq1, hq2, hq3⟩
        clear hq1 hq2 hq3
        clear HU H8
        go_wp2_with fail
        refine (under_calls D T C R B L d w2 (HH.out.keep F2.out (by simp))).mono ?_
        rintro x w3 ⟨rfl, f3⟩
        replace ps := f3.cellv ps (by simp)
        replace pe := f3.cellv pe (by simp)
        replace pn := f3.cellv pn (by simp)
        have F3 : Hid (Fr [] w w3) := F2.out.trans f3 (by simp)
        clear f3 p0 p1 pk
        go_wp2_with fail
        refine (placed_calls q s.size an w3 HQ.out.1 HQ.out.2.1 HQ.out.2.2).mono ?_
        rintro x w4 ⟨rfl, f4⟩
        have F4 : Hid (Fr [] w w4) := F3.out.trans f4 (by simp)
        clear f4
        go_wp2_with fail
        go_ret
        exact ⟨rfl, F4.out⟩
      · have j1 : (e == 1) = false := by simpa using h1
        have j8 : (e == 8) = false := by simpa using h8
        clear h1 h8
        clear HU H8
        go_wp2_with fail
        go_ret
        exact ⟨rfl, F2.out⟩

end Go.Proofs.Qxb6500360a
