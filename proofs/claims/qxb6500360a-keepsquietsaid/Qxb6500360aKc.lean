/-
  KEEPS: the walk over the script.
-/
import Derived.Test.Qxb6500360aKb
import Derived.Test.Qxb6500360aSamples
import Derived.Test.Qxb6500360aFacts
namespace Go.Proofs.Qxb6500360a
open Go.RowKit
set_option linter.unusedSimpArgs false
set_option linter.unusedVariables false

/-- The script's n steps lie in the block b from off on. -/
structure OpAt (w : World) (X off : Nat) (o : Op) : Prop where
  o0 : w.cell? ⟨X, off, none⟩ = some (.int .i64 o.k)
  o1 : w.cell? ⟨X, off + 1, none⟩ = some (.int .i64 o.a)
  o2 : w.cell? ⟨X, off + 2, none⟩ = some (.int .i64 o.b)
  o3 : w.cell? ⟨X, off + 3, none⟩ = some (.int .i64 o.c)
  o4 : w.cell? ⟨X, off + 4, none⟩ = some (.string o.s)
  o5 : w.cell? ⟨X, off + 5, none⟩ = some (.string o.t)
theorem OpAt.keep {w w' : World} {b off : Nat} {o : Op} (h : OpAt w b off o) (hf : Fr [] w w') : OpAt w' b off o :=
  ⟨hf.cellv h.o0 (by simp), hf.cellv h.o1 (by simp), hf.cellv h.o2 (by simp), hf.cellv h.o3 (by simp), hf.cellv h.o4 (by simp), hf.cellv h.o5 (by simp)⟩
def ScAt (w : World) (A : Option Addr) (n : Nat) (O : Nat → Op) : Prop := 0 < n → ∃ b off, A = some ⟨b, off, none⟩ ∧ ∀ i, i < n → OpAt w b (off + i * 6) (O i)

theorem doG_kept {g : V.Gt} (h : Kept g.d.t []) (o : Op) : Kept (doG g o).1.d.t [] := by
  unfold doG
  split
  · exact serve_kept h _
  · split <;> exact h
theorem doG_pre (g : V.Gt) (o : Op) : (¬ (doG g o).2.1 = 10) ∧ (((doG g o).2.1 = 1 ∨ (doG g o).2.1 = 8 ∨ named o) → g.d.show = (doG g o).1.d.show) ∧ ((doG g o).2.1 = 8 → ∃ q : Nat, q ≤ o.s.size ∧ q ≤ 20 ∧ (doG g o).2.2 = [64] ++ V.itoa (q : Int)) := by
  unfold doG
  by_cases h2 : o.k = 2
  · rw [if_pos h2]
    dsimp only
    have h := serve_er g (LL o.s)
    refine ⟨?_, ?_, ?_⟩
    · rcases h with (h | h) | ⟨h, -⟩ | ⟨h, -⟩
      · unfold Er at h; omega
      · omega
      · omega
      · omega
    · intro hc
      have : (g.serve (LL o.s)).1.d = g.d := by
        rcases h with (h | h) | ⟨h, h'⟩ | ⟨h, h', -⟩
        · rcases hc with hc | hc | hc
          · unfold Er at h; omega
          · unfold Er at h; omega
          · exact serve_N g _ hc.2
        · rcases hc with hc | hc | hc
          · omega
          · omega
          · exact serve_N g _ hc.2
        · exact h'
        · exact h'
      rw [this]
    · intro hc
      rcases h with (h | h) | ⟨h, h'⟩ | ⟨h, h', q, a, b, c⟩
      · unfold Er at h; omega
      · omega
      · omega
      · exact ⟨q, by rw [LL_len] at a; exact a, b, c⟩
  · rw [if_neg h2]
    split
    · exact ⟨by simp, fun _ => rfl, fun h => by simp at h⟩
    · exact ⟨by simp, fun _ => rfl, fun h => by simp at h⟩
theorem head_len (c : V.Ct) : (c.head).length ≤ 100 := by
  have h1 := itoa_len c.ok
  have h2 := itoa_len c.bad
  have h3 := itoa_len c.er
  have h4 := itoa_len c.it
  unfold V.Ct.head
  simp
  omega
/-- What holds ahead of each round. -/
structure KInv (w : World) (P Q G D T C R B L : Nat) (g : V.Gt) (w' : World) : Prop where
  gt : GtAt w' G D T C R B L g
  kp : Kept g.d.t []
  p0 : w'.cell? ⟨P, 0, none⟩ = some (.pointer (some ⟨D, 0, none⟩))
  p1 : w'.cell? ⟨P, 1, none⟩ = some (.pointer (some ⟨T, 0, none⟩))
  q0 : w'.cell? ⟨Q, 0, none⟩ = some (.int .i64 g.c.ok)
  q1 : w'.cell? ⟨Q, 1, none⟩ = some (.int .i64 g.c.bad)
  q2 : w'.cell? ⟨Q, 2, none⟩ = some (.int .i64 g.c.er)
  q3 : w'.cell? ⟨Q, 3, none⟩ = some (.int .i64 g.c.it)
  zP : ∀ o, w'.frozen? ⟨P, o, none⟩ = false
  zQ : ∀ o, w'.frozen? ⟨Q, o, none⟩ = false
  fr : Fr [] w w'
  nw : ∀ x ∈ [G, D, T, C, R, B, L], w.heap.size ≤ x ∧ ¬ x = P ∧ ¬ x = Q
  lP : w.heap.size ≤ P
  lQ : w.heap.size ≤ Q
  nPQ : ¬ P = Q
theorem GtAt.lt {w : World} {G D T C R B L : Nat} {g : V.Gt} (h : GtAt w G D T C R B L g) : ∀ x ∈ [G, D, T, C, R, B, L], x < w.heap.size := by
  intro x hx
  have a0 := h.ct.lG
  have a1 := h.ld.bk.lD
  have a2 := h.ld.bk.lB
  have a3 := h.ld.bk.lL
  have a4 := h.ld.tb.lT
  have a5 := h.ld.tb.lC
  have a6 := h.ld.tb.lR
  simp at hx
  rcases hx with rfl | rfl | rfl | rfl | rfl | rfl | rfl <;> assumption
theorem GtAt.keep {w w' : World} {G D T C R B L : Nat} {g : V.Gt} (h : GtAt w G D T C R B L g) {X : List Nat} (hf : Fr X w w') (hX : ∀ x ∈ [G, D, T, C, R, B, L], x ∉ X) : GtAt w' G D T C R B L g :=
  ⟨h.ct.keep hf (hX G (by simp)), h.ld.keep hf (fun x hx => hX x (by simp at hx ⊢; omega)), h.nG⟩
theorem kept_fresh : Kept V.Tb.fresh [] := ⟨⟨rfl, rfl, fun k hk => by rcases (show k = 0 ∨ k = 1 ∨ k = 2 ∨ k = 3 by omega) with rfl | rfl | rfl | rfl <;> simp [V.Tb.fresh, V.Tb.g], by simp [V.Tb.fresh], by simp [V.Tb.fresh]⟩, fun k hk => by
  unfold V.Tb.o V.Tb.fresh at hk
  rcases k with _ | _ | _ | _ | k <;> simp at hk⟩
def freshG : V.Gt := ⟨⟨0, 0, 0, 0⟩, V.Ld.fresh⟩
theorem show_eq (g : V.Gt) {x : List UInt8} (h : x = g.c.head ++ g.d.show) : x = g.show := h

set_option maxHeartbeats 2000000 in
set_option maxRecDepth 100000 in
theorem keeps_q (A : Option Addr) (n cap : Nat) (O : Nat → Op) (w : World) (hA : ScAt w A n O) :
    Calls Try.prog 20 #[.slice A n cap, .bool true] w fun e w' => e = .returned (.int .i64 (-1)) ∧ Fr [] w w' := by
  have HA : Hid (ScAt w A n O) := hA
  clear hA
  go_enter Try.func20, Try.ntmps20
  go_wp2_with fail
  refine (samples.walk w).mono ?_
  rintro e w1 ⟨rfl, f1⟩
  have F1 : Hid (Fr [] w w1) := f1
  clear f1
  go_wp2_with fail
  refine (facts.walk w1).mono ?_
  rintro e w2 ⟨rfl, f2⟩
  have F2 : Hid (Fr [] w w2) := F1.out.trans f2 (by simp)
  clear f2 F1
  go_wp2_with fail
  refine (ground_calls _).mono ?_
  rintro e w3 ⟨D, T, C, R, B, L, rfl, h3, f3, s3⟩
  have H3 : Hid (LdAt w3 D T C R B L V.Ld.fresh) := h3
  have F3 : Hid (Fr [] w w3) := F2.out.trans f3 (by simp)
  have HS : Hid (∀ x ∈ [D, T, C, R, B, L], w.heap.size ≤ x ∧ x < w3.heap.size) := by
    have a1 := h3.bk.lD
    have a2 := h3.bk.lB
    have a3 := h3.bk.lL
    have a4 := h3.tb.lT
    have a5 := h3.tb.lC
    have a6 := h3.tb.lR
    have a0 := F2.out.size
    intro x hx
    have := s3 x hx
    simp at hx
    rcases hx with rfl | rfl | rfl | rfl | rfl | rfl <;> omega
  clear h3 f3 s3 F2
  go_wp2_with (go_at_call 17; refine (gnew_calls D T C R B L V.Ld.fresh _ (H3.out.keep (X := []) ((Fr.refl _ _).alloc _) (by simp))).mono ?_)
  rintro e w4 ⟨G, rfl, h4, f4, s4⟩
  have F4 : Hid (Fr [] w w4) := (F3.out.alloc _).trans f4 (by simp)
  have H4 : Hid (GtAt w4 G D T C R B L freshG) := h4
  have p0 := f4.cellv (b := w3.heap.size) (o := 0) (v := .pointer (some ⟨D, 0, none⟩)) (by simp [go_sem]) (by simp)
  have p1 := f4.cellv (b := w3.heap.size) (o := 1) (v := .pointer (some ⟨T, 0, none⟩)) (by simp [go_sem]) (by simp)
  have zP : ∀ o, w4.frozen? ⟨w3.heap.size, o, none⟩ = false := fun o => f4.frozenv (b := w3.heap.size) (o := o) (by simp [go_sem]) (by simp) (by simp)
  have lP : w3.heap.size < w4.heap.size := lt_of_cell p0
  have nPQ : ¬ w3.heap.size = w4.heap.size := by omega
  have lG := h4.ct.lG
  simp at s4
  clear h4 f4
  go_wp2_with fail
  have HI : Hid (KInv w w3.heap.size w4.heap.size G D T C R B L freshG (w4.alloc (Obj.cells #[.int .i64 0, .int .i64 0, .int .i64 0, .int .i64 0] 63))) := by
    refine ⟨H4.out.keep (X := []) ((Fr.refl _ _).alloc _) (by simp), kept_fresh, ((Fr.refl [] _).alloc _).cellv p0 (by simp), ((Fr.refl [] _).alloc _).cellv p1 (by simp), by simp [go_sem, freshG], by simp [go_sem, freshG], by simp [go_sem, freshG], by simp [go_sem, freshG], fun o => ((Fr.refl [] _).alloc _).frozenv (zP o) lP (by simp), fun o => by simp [go_sem], F4.out.alloc _, ?_, F3.out.size, Nat.le_trans F3.out.size (by omega), nPQ⟩
    intro x hx
    have a0 := F3.out.size
    rcases List.mem_cons.mp hx with rfl | hx
    · omega
    · have := HS.out x hx
      omega
  clear p0 p1 zP s4 lG H4 F4 H3 F3 HS
  generalize w3.heap.size = P at *
  generalize w4.heap.size = Q at *
  go_loopw [6, 8] (fun x i w' => ∃ (k G D T C R B L : Nat) (g : V.Gt), k ≤ n ∧ i = .int .i64 k ∧ x = .pointer (some ⟨G, 0, none⟩) ∧ KInv w P Q G D T C R B L g w') (fun _ i _ => n - (intOf i).toNat)
  case atStart => exact ⟨0, G, D, T, C, R, B, L, _, by omega, rfl, rfl, HI.out⟩
  case round =>
    clear HI lP nPQ
    obtain ⟨k, G, D, T, C, R, B, L, g, hk, rfl, rfl, hi⟩ := hrel
    obtain ⟨gt, kp, p0, p1, q0, q1, q2, q3, zP, zQ, fr, nw, lP, lQ, nPQ⟩ := hi
    have HK : Hid (Kept g.d.t []) := kp
    have HLT : Hid (∀ x ∈ [G, D, T, C, R, B, L], x < wr.heap.size) := gt.lt
    have HWF : Hid (g.c.Wf) := gt.ct.wf
    have HGr : Hid (GtAt wr G D T C R B L g) := gt
    have HFr : Hid (Fr [] w wr) := fr
    have HW : Hid ((∀ x ∈ [G, D, T, C, R, B, L], w.heap.size ≤ x) ∧ w.heap.size ≤ P ∧ w.heap.size ≤ Q ∧ ¬ P = Q ∧ w.heap.size ≤ wr.heap.size) := ⟨fun x hx => (nw x hx).1, lP, lQ, nPQ, fr.size⟩
    have lPr := lt_of_cell p0
    have lQr := lt_of_cell q0
    have HN : Hid (∀ x ∈ [G, D, T, C, R, B, L], ¬ x = P ∧ ¬ x = Q ∧ ¬ x = wr.heap.size) := fun x hx => ⟨(nw x hx).2.1, (nw x hx).2.2, by have := HLT.out x hx; omega⟩
    clear gt kp fr nw lP lQ
    by_cases hend : k < n ∧ k < 4398046511104
    · obtain ⟨hlt, hmax⟩ := hend
      have hlt' : (k : Int) < (n : Int) := by omega
      have hmax' : (k : Int) < 4398046511104 := by omega
      obtain ⟨X, off, hAx, ho⟩ := HA.out (by omega)
      have HAX : Hid (A = some ⟨X, off, none⟩) := hAx
      subst hAx
      obtain ⟨o0, o1, o2, o3, o4, o5⟩ := (ho k hlt).keep HFr.out
      clear ho hlt hmax HAX
      generalize O k = op at *
      obtain ⟨kd, a, b, c, s, t⟩ := op
      dsimp only at o0 o1 o2 o3 o4 o5
      have HMEAS : Hid (k < n) := by show k < n; omega
      have n1 : ¬ P = wr.heap.size := by omega
      have n2 : ¬ Q = wr.heap.size := by omega
      have lXr := lt_of_cell o0
      by_cases h1 : kd = 1
      · subst h1
        clear HK HWF HGr HN HLT
        go_wp2_with fail
        refine (ground_calls _).mono ?_
        rintro e w5 ⟨D, T, C, R, B, L, rfl, h5, f5, s5⟩
        have fw : Fr [] wr w5 := ((Fr.refl [] wr).alloc (Obj.cells #[.int .i64 1, .int .i64 a, .int .i64 b, .int .i64 c, .string s, .string t] 65)).trans f5 (by simp)
        have c0 := f5.cellv (b := wr.heap.size) (o := 0) (v := .int .i64 1) (by simp [go_sem]) (by simp)
        have c1 := f5.cellv (b := wr.heap.size) (o := 1) (v := .int .i64 a) (by simp [go_sem]) (by simp)
        have c2 := f5.cellv (b := wr.heap.size) (o := 2) (v := .int .i64 b) (by simp [go_sem]) (by simp)
        have c3 := f5.cellv (b := wr.heap.size) (o := 3) (v := .int .i64 c) (by simp [go_sem]) (by simp)
        have c4 := f5.cellv (b := wr.heap.size) (o := 4) (v := .string s) (by simp [go_sem]) (by simp)
        have c5 := f5.cellv (b := wr.heap.size) (o := 5) (v := .string t) (by simp [go_sem]) (by simp)
        have lP0 := lt_of_cell p0
        have lQ0 := lt_of_cell q0
        replace p0 := fw.cellv p0 (by simp)
        replace p1 := fw.cellv p1 (by simp)
        replace q0 := fw.cellv q0 (by simp)
        replace q1 := fw.cellv q1 (by simp)
        replace q2 := fw.cellv q2 (by simp)
        replace q3 := fw.cellv q3 (by simp)
        replace zP := fun o => fw.frozenv (zP o) lP0 (by simp)
        replace zQ := fun o => fw.frozenv (zQ o) lQ0 (by simp)
        have lP5 := lt_of_cell p0
        have lQ5 := lt_of_cell q0
        have lZ5 := lt_of_cell c0
        have HS5 : Hid (∀ x ∈ [D, T, C, R, B, L], wr.heap.size < x ∧ x < w5.heap.size) := by
          have a1 := h5.bk.lD
          have a2 := h5.bk.lB
          have a3 := h5.bk.lL
          have a4 := h5.tb.lT
          have a5 := h5.tb.lC
          have a6 := h5.tb.lR
          intro x hx
          have := s5 x hx
          simp at this hx
          rcases hx with rfl | rfl | rfl | rfl | rfl | rfl <;> omega
        have H5 : Hid (LdAt w5 D T C R B L V.Ld.fresh) := h5
        have F5 : Hid (Fr [] w w5) := HFr.out.trans fw (by simp)
        clear h5 f5 s5 fw HFr o0 o1 o2 o3 o4 o5 lP0 lQ0 n1 n2
        go_wp2_with fail
        have FP : Fr [P] w5 ((w5.setCell ⟨P, 0, none⟩ (.pointer (some ⟨D, 0, none⟩))).setCell ⟨P, 1, none⟩ (.pointer (some ⟨T, 0, none⟩))) := ((Fr.refl _ _).setCell (by simp) _).setCell (by simp) _
        have r0 : ((w5.setCell ⟨P, 0, none⟩ (.pointer (some ⟨D, 0, none⟩))).setCell ⟨P, 1, none⟩ (.pointer (some ⟨T, 0, none⟩))).cell? ⟨P, 0, none⟩ = some (.pointer (some ⟨D, 0, none⟩)) := by simp [cell_set, p0, p1]
        have r1 : ((w5.setCell ⟨P, 0, none⟩ (.pointer (some ⟨D, 0, none⟩))).setCell ⟨P, 1, none⟩ (.pointer (some ⟨T, 0, none⟩))).cell? ⟨P, 1, none⟩ = some (.pointer (some ⟨T, 0, none⟩)) := by simp [cell_set, p0, p1]
        have rz : ∀ o, ((w5.setCell ⟨P, 0, none⟩ (.pointer (some ⟨D, 0, none⟩))).setCell ⟨P, 1, none⟩ (.pointer (some ⟨T, 0, none⟩))).frozen? ⟨P, o, none⟩ = false := fun o => by simp [zP o]
        have nQP : Q ∉ [P] := by simp; omega
        have nZP : wr.heap.size ∉ [P] := by simp; omega
        replace q0 := FP.cellv q0 nQP
        replace q1 := FP.cellv q1 nQP
        replace q2 := FP.cellv q2 nQP
        replace q3 := FP.cellv q3 nQP
        replace zQ := fun o => FP.frozenv (zQ o) lQ5 nQP
        replace c0 := FP.cellv c0 nZP
        replace c1 := FP.cellv c1 nZP
        replace c2 := FP.cellv c2 nZP
        replace c3 := FP.cellv c3 nZP
        replace c4 := FP.cellv c4 nZP
        replace c5 := FP.cellv c5 nZP
        have HP5 : Hid (Fr [P] w5 ((w5.setCell ⟨P, 0, none⟩ (.pointer (some ⟨D, 0, none⟩))).setCell ⟨P, 1, none⟩ (.pointer (some ⟨T, 0, none⟩)))) := FP
        clear p0 p1 zP FP nQP nZP
        generalize ((w5.setCell ⟨P, 0, none⟩ (.pointer (some ⟨D, 0, none⟩))).setCell ⟨P, 1, none⟩ (.pointer (some ⟨T, 0, none⟩))) = w5' at *
        refine (gnew_calls D T C R B L V.Ld.fresh w5' (H5.out.keep HP5.out (fun x hx => by have := HS5.out x hx; simp; omega))).mono ?_
        rintro e w6 ⟨G, rfl, h6, f6, s6⟩
        have p0 := f6.cellv r0 (by simp)
        have p1 := f6.cellv r1 (by simp)
        have zP : ∀ o, w6.frozen? ⟨P, o, none⟩ = false := fun o => f6.frozenv (rz o) (lt_of_cell r0) (by simp)
        have lQ0 := lt_of_cell q0
        replace q0 := f6.cellv q0 (by simp)
        replace q1 := f6.cellv q1 (by simp)
        replace q2 := f6.cellv q2 (by simp)
        replace q3 := f6.cellv q3 (by simp)
        replace c0 := f6.cellv c0 (by simp)
        replace c1 := f6.cellv c1 (by simp)
        replace c2 := f6.cellv c2 (by simp)
        replace c3 := f6.cellv c3 (by simp)
        replace c4 := f6.cellv c4 (by simp)
        replace c5 := f6.cellv c5 (by simp)
        replace zQ := fun o => f6.frozenv (zQ o) lQ0 (by simp)
        have H6 : Hid (GtAt w6 G D T C R B L freshG) := h6
        have F6 : Hid (Fr [] w w6) := (F5.out.trans HP5.out (fun x hx hm => by have := HW.out; simp at hm; omega)).trans f6 (by simp)
        have HS6 : Hid (∀ x ∈ [G, D, T, C, R, B, L], wr.heap.size < x) := by
          intro x hx
          rcases List.mem_cons.mp hx with rfl | hx
          · have := HP5.out.size; omega
          · exact (HS5.out x hx).1
        have lP6 := lt_of_cell p0
        have lQ6 := lt_of_cell q0
        have lZ6 := lt_of_cell c0
        clear h6 f6 s6 r0 r1 rz HP5 H5 F5 HS5 lQ0 lP5 lQ5 lZ5
        go_wp2_with fail
        have FQ : Fr [Q] w6 ((((w6.setCell ⟨Q, 0, none⟩ (.int .i64 0)).setCell ⟨Q, 1, none⟩ (.int .i64 0)).setCell ⟨Q, 2, none⟩ (.int .i64 0)).setCell ⟨Q, 3, none⟩ (.int .i64 0)) := ((((Fr.refl _ _).setCell (by simp) _).setCell (by simp) _).setCell (by simp) _).setCell (by simp) _
        have r0 : ((((w6.setCell ⟨Q, 0, none⟩ (.int .i64 0)).setCell ⟨Q, 1, none⟩ (.int .i64 0)).setCell ⟨Q, 2, none⟩ (.int .i64 0)).setCell ⟨Q, 3, none⟩ (.int .i64 0)).cell? ⟨Q, 0, none⟩ = some (.int .i64 0) := by simp [cell_set, q0, q1, q2, q3]
        have r1 : ((((w6.setCell ⟨Q, 0, none⟩ (.int .i64 0)).setCell ⟨Q, 1, none⟩ (.int .i64 0)).setCell ⟨Q, 2, none⟩ (.int .i64 0)).setCell ⟨Q, 3, none⟩ (.int .i64 0)).cell? ⟨Q, 1, none⟩ = some (.int .i64 0) := by simp [cell_set, q0, q1, q2, q3]
        have r2 : ((((w6.setCell ⟨Q, 0, none⟩ (.int .i64 0)).setCell ⟨Q, 1, none⟩ (.int .i64 0)).setCell ⟨Q, 2, none⟩ (.int .i64 0)).setCell ⟨Q, 3, none⟩ (.int .i64 0)).cell? ⟨Q, 2, none⟩ = some (.int .i64 0) := by simp [cell_set, q0, q1, q2, q3]
        have r3 : ((((w6.setCell ⟨Q, 0, none⟩ (.int .i64 0)).setCell ⟨Q, 1, none⟩ (.int .i64 0)).setCell ⟨Q, 2, none⟩ (.int .i64 0)).setCell ⟨Q, 3, none⟩ (.int .i64 0)).cell? ⟨Q, 3, none⟩ = some (.int .i64 0) := by simp [cell_set, q0, q1, q2, q3]
        have rz : ∀ o, ((((w6.setCell ⟨Q, 0, none⟩ (.int .i64 0)).setCell ⟨Q, 1, none⟩ (.int .i64 0)).setCell ⟨Q, 2, none⟩ (.int .i64 0)).setCell ⟨Q, 3, none⟩ (.int .i64 0)).frozen? ⟨Q, o, none⟩ = false := fun o => by simp [zQ o]
        have nPQ' : P ∉ [Q] := by simp; omega
        have nZQ : wr.heap.size ∉ [Q] := by simp; omega
        replace p0 := FQ.cellv p0 nPQ'
        replace p1 := FQ.cellv p1 nPQ'
        replace zP := fun o => FQ.frozenv (zP o) lP6 nPQ'
        replace c0 := FQ.cellv c0 nZQ
        replace c1 := FQ.cellv c1 nZQ
        replace c2 := FQ.cellv c2 nZQ
        replace c3 := FQ.cellv c3 nZQ
        replace c4 := FQ.cellv c4 nZQ
        replace c5 := FQ.cellv c5 nZQ
        have HFQ : Hid (Fr [Q] w6 ((((w6.setCell ⟨Q, 0, none⟩ (.int .i64 0)).setCell ⟨Q, 1, none⟩ (.int .i64 0)).setCell ⟨Q, 2, none⟩ (.int .i64 0)).setCell ⟨Q, 3, none⟩ (.int .i64 0))) := FQ
        clear q0 q1 q2 q3 zQ FQ nPQ' nZQ
        generalize ((((w6.setCell ⟨Q, 0, none⟩ (.int .i64 0)).setCell ⟨Q, 1, none⟩ (.int .i64 0)).setCell ⟨Q, 2, none⟩ (.int .i64 0)).setCell ⟨Q, 3, none⟩ (.int .i64 0)) = W at *
        have q0 := r0
        have q1 := r1
        have q2 := r2
        have q3 := r3
        have zQ := rz
        clear r0 r1 r2 r3 rz
        have HG : Hid (GtAt W G D T C R B L freshG) := H6.out.keep HFQ.out (fun x hx => by have := HS6.out x hx; simp; omega)
        have HF : Hid (Fr [] w W) := F6.out.trans HFQ.out (fun x hx hm => by have := HW.out; simp at hm; omega)
        have HN : Hid (∀ x ∈ [G, D, T, C, R, B, L], ¬ x = P ∧ ¬ x = Q ∧ ¬ x = wr.heap.size) := fun x hx => by have := HS6.out x hx; omega
        have HW' : Hid ((∀ x ∈ [G, D, T, C, R, B, L], w.heap.size ≤ x) ∧ w.heap.size ≤ P ∧ w.heap.size ≤ Q ∧ ¬ P = Q ∧ w.heap.size ≤ wr.heap.size) := ⟨fun x hx => by have := HS6.out x hx; have := HW.out; omega, HW.out.2⟩
        clear HW
        have HW := HW'
        clear HW' HS6 HFQ H6 F6
        have HK : Hid (Kept freshG.d.t []) := kept_fresh
        have HWF : Hid (freshG.c.Wf) := HG.out.ct.wf
        change W.cell? ⟨Q, 0, none⟩ = some (.int .i64 freshG.c.ok) at q0
        change W.cell? ⟨Q, 1, none⟩ = some (.int .i64 freshG.c.bad) at q1
        change W.cell? ⟨Q, 2, none⟩ = some (.int .i64 freshG.c.er) at q2
        change W.cell? ⟨Q, 3, none⟩ = some (.int .i64 freshG.c.it) at q3
        generalize freshG = g at *
        generalize wr.heap.size = Z at *
        refine (under_calls D T C R B L g.d W HG.out.ld).mono ?_
        rintro e wa ⟨rfl, fa⟩
        have lP0 := lt_of_cell p0
        have lQ0 := lt_of_cell q0
        replace p0 := fa.cellv p0 (by simp)
        replace p1 := fa.cellv p1 (by simp)
        replace q0 := fa.cellv q0 (by simp)
        replace q1 := fa.cellv q1 (by simp)
        replace q2 := fa.cellv q2 (by simp)
        replace q3 := fa.cellv q3 (by simp)
        replace c0 := fa.cellv c0 (by simp)
        replace c1 := fa.cellv c1 (by simp)
        replace c2 := fa.cellv c2 (by simp)
        replace c3 := fa.cellv c3 (by simp)
        replace c4 := fa.cellv c4 (by simp)
        replace c5 := fa.cellv c5 (by simp)
        replace zP := fun o => fa.frozenv (zP o) lP0 (by simp)
        replace zQ := fun o => fa.frozenv (zQ o) lQ0 (by simp)
        have HGa : Hid (GtAt wa G D T C R B L g) := HG.out.keep fa (by simp)
        have HFa : Hid (Fr [] w wa) := HF.out.trans fa (by simp)
        clear fa HG HF lP0 lQ0
        go_wp2_with fail
        have HR : Hid (∀ X, GtAt X G D T C R B L g → Calls Try.prog 36 #[.pointer (some ⟨G, 0, none⟩), opV ⟨1, a, b, c, s, t⟩] X fun x w' => x = .returned (ansV (doG g ⟨1, a, b, c, s, t⟩).2.1 (doG g ⟨1, a, b, c, s, t⟩).2.2) ∧ GtAt w' G D T C R B L (doG g ⟨1, a, b, c, s, t⟩).1 ∧ Fr [G, D, T, C, R, B, L] X w') := fun X hX => do_calls G D T C R B L g _ X hX
        have HP : Hid _ := doG_pre g ⟨1, a, b, c, s, t⟩
        have HK1 : Hid (Kept (doG g ⟨1, a, b, c, s, t⟩).1.d.t []) := doG_kept HK.out _
        have HC : Hid (doG g ⟨1, a, b, c, s, t⟩ = (g, 0, [])) := rfl
        rw [HC.out] at HR HK1
        dsimp only at HR HK1
        clear HP
        refine (HR.out wa HGa.out).mono ?_
        rintro e wb ⟨rfl, hb, fb⟩
        have lP0 := lt_of_cell p0
        have lQ0 := lt_of_cell q0
        have nP : P ∉ [G, D, T, C, R, B, L] := fun h => (HN.out P h).1 rfl
        have nQ : Q ∉ [G, D, T, C, R, B, L] := fun h => (HN.out Q h).2.1 rfl
        have nZ : Z ∉ [G, D, T, C, R, B, L] := fun h => (HN.out Z h).2.2 rfl
        replace p0 := fb.cellv p0 nP
        replace p1 := fb.cellv p1 nP
        replace q0 := fb.cellv q0 nQ
        replace q1 := fb.cellv q1 nQ
        replace q2 := fb.cellv q2 nQ
        replace q3 := fb.cellv q3 nQ
        replace c0 := fb.cellv c0 nZ
        replace c1 := fb.cellv c1 nZ
        replace c2 := fb.cellv c2 nZ
        replace c3 := fb.cellv c3 nZ
        replace c4 := fb.cellv c4 nZ
        replace c5 := fb.cellv c5 nZ
        replace zP := fun o => fb.frozenv (zP o) lP0 nP
        replace zQ := fun o => fb.frozenv (zQ o) lQ0 nQ
        have HGb : Hid (GtAt wb G D T C R B L g) := hb
        have HFb : Hid (Fr [] w wb) := HFa.out.trans fb (fun x hx hm => by have := HW.out.1 x hm; omega)
        clear fb hb HR lP0 lQ0 nP nQ nZ HGa HFa
        unfold ansV S
        have lP0 := lt_of_cell p0
        have lQ0 := lt_of_cell q0
        have lZ0 := lt_of_cell c0
        have n1 : ¬ P = wb.heap.size := by omega
        have n2 : ¬ Q = wb.heap.size := by omega
        have n3 : ¬ Z = wb.heap.size := by omega
        go_wp2_with fail
        have y0 : (wb.alloc (Obj.cells #[.int .i64 0, .int .i64 0, .int .i64 0, .string ⟨#[]⟩] 68)).cell? ⟨wb.heap.size, 0, none⟩ = some (.int .i64 0) := by simp [go_sem]
        have y1 : (wb.alloc (Obj.cells #[.int .i64 0, .int .i64 0, .int .i64 0, .string ⟨#[]⟩] 68)).cell? ⟨wb.heap.size, 1, none⟩ = some (.int .i64 0) := by simp [go_sem]
        have y2 : (wb.alloc (Obj.cells #[.int .i64 0, .int .i64 0, .int .i64 0, .string ⟨#[]⟩] 68)).cell? ⟨wb.heap.size, 2, none⟩ = some (.int .i64 0) := by simp [go_sem]
        have y3 : (wb.alloc (Obj.cells #[.int .i64 0, .int .i64 0, .int .i64 0, .string ⟨#[]⟩] 68)).cell? ⟨wb.heap.size, 3, none⟩ = some (.string ⟨#[]⟩) := by simp [go_sem]
        have fy : Fr [] wb (wb.alloc (Obj.cells #[.int .i64 0, .int .i64 0, .int .i64 0, .string ⟨#[]⟩] 68)) := (Fr.refl _ _).alloc _
        replace p0 := fy.cellv p0 (by simp)
        replace p1 := fy.cellv p1 (by simp)
        replace q0 := fy.cellv q0 (by simp)
        replace q1 := fy.cellv q1 (by simp)
        replace q2 := fy.cellv q2 (by simp)
        replace q3 := fy.cellv q3 (by simp)
        replace c0 := fy.cellv c0 (by simp)
        replace c1 := fy.cellv c1 (by simp)
        replace c2 := fy.cellv c2 (by simp)
        replace c3 := fy.cellv c3 (by simp)
        replace c4 := fy.cellv c4 (by simp)
        replace c5 := fy.cellv c5 (by simp)
        replace zP := fun o => fy.frozenv (zP o) lP0 (by simp)
        replace zQ := fun o => fy.frozenv (zQ o) lQ0 (by simp)
        have HGc : Hid (GtAt (wb.alloc (Obj.cells #[.int .i64 0, .int .i64 0, .int .i64 0, .string ⟨#[]⟩] 68)) G D T C R B L g) := HGb.out.keep fy (by simp)
        have HFc : Hid (Fr [] w (wb.alloc (Obj.cells #[.int .i64 0, .int .i64 0, .int .i64 0, .string ⟨#[]⟩] 68))) := HFb.out.trans fy (by simp)
        have lPY : P < wb.heap.size := lP0
        have lQY : Q < wb.heap.size := lQ0
        have lZY : Z < wb.heap.size := lZ0
        generalize (wb.alloc (Obj.cells #[.int .i64 0, .int .i64 0, .int .i64 0, .string ⟨#[]⟩] 68)) = wc at *
        generalize wb.heap.size = Y at *
        clear fy lP0 lQ0 lZ0 n1 n2 n3 HGb HFb
        refine (holds_calls D T C R B L g.d ⟨1, a, b, c, s, t⟩ 0 [] g.d.show wc HGc.out.ld HK1.out.held (by decide) (fun _ => rfl) (fun h => by simp at h)).mono ?_
        rintro e wd ⟨rfl, fd⟩
        have lP0 := lt_of_cell p0
        have lQ0 := lt_of_cell q0
        replace p0 := fd.cellv p0 (by simp)
        replace p1 := fd.cellv p1 (by simp)
        replace q0 := fd.cellv q0 (by simp)
        replace q1 := fd.cellv q1 (by simp)
        replace q2 := fd.cellv q2 (by simp)
        replace q3 := fd.cellv q3 (by simp)
        replace c0 := fd.cellv c0 (by simp)
        replace c1 := fd.cellv c1 (by simp)
        replace c2 := fd.cellv c2 (by simp)
        replace c3 := fd.cellv c3 (by simp)
        replace c4 := fd.cellv c4 (by simp)
        replace c5 := fd.cellv c5 (by simp)
        replace y0 := fd.cellv y0 (by simp)
        replace y1 := fd.cellv y1 (by simp)
        replace y2 := fd.cellv y2 (by simp)
        replace y3 := fd.cellv y3 (by simp)
        replace zP := fun o => fd.frozenv (zP o) lP0 (by simp)
        replace zQ := fun o => fd.frozenv (zQ o) lQ0 (by simp)
        have HGd : Hid (GtAt wd G D T C R B L g) := HGc.out.keep fd (by simp)
        have HFd : Hid (Fr [] w wd) := HFc.out.trans fd (by simp)
        clear fd lP0 lQ0 HGc HFc
        clear c1 c2 c3 c4 c5 y0 y1 y2 y3
        have HI : Hid (KInv w P Q G D T C R B L g wd) := ⟨HGd.out, HK1.out, p0, p1, q0, q1, q2, q3, zP, zQ, HFd.out, fun x hx => ⟨HW.out.1 x hx, (HN.out x hx).1, (HN.out x hx).2.1⟩, HW.out.2.1, HW.out.2.2.1, nPQ⟩
        clear p0 p1 q0 q1 q2 q3 zP zQ
        go_wp2_with fail
        exact ⟨⟨k + 1, G, D, T, C, R, B, L, g, by have := HMEAS.out; omega, by simp, rfl, HI.out⟩, by have := HMEAS.out; simp [intOf]; omega⟩
      · have j1 : (kd == 1) = false := by simpa using h1
        clear h1
        by_cases h2 : kd = 2
        · subst h2
          go_wp2_with fail
          have c0 : (wr.alloc (Obj.cells #[.int .i64 2, .int .i64 a, .int .i64 b, .int .i64 c, .string s, .string t] 65)).cell? ⟨wr.heap.size, 0, none⟩ = some (.int .i64 2) := by simp [go_sem]
          have c1 : (wr.alloc (Obj.cells #[.int .i64 2, .int .i64 a, .int .i64 b, .int .i64 c, .string s, .string t] 65)).cell? ⟨wr.heap.size, 1, none⟩ = some (.int .i64 a) := by simp [go_sem]
          have c2 : (wr.alloc (Obj.cells #[.int .i64 2, .int .i64 a, .int .i64 b, .int .i64 c, .string s, .string t] 65)).cell? ⟨wr.heap.size, 2, none⟩ = some (.int .i64 b) := by simp [go_sem]
          have c3 : (wr.alloc (Obj.cells #[.int .i64 2, .int .i64 a, .int .i64 b, .int .i64 c, .string s, .string t] 65)).cell? ⟨wr.heap.size, 3, none⟩ = some (.int .i64 c) := by simp [go_sem]
          have c4 : (wr.alloc (Obj.cells #[.int .i64 2, .int .i64 a, .int .i64 b, .int .i64 c, .string s, .string t] 65)).cell? ⟨wr.heap.size, 4, none⟩ = some (.string s) := by simp [go_sem]
          have c5 : (wr.alloc (Obj.cells #[.int .i64 2, .int .i64 a, .int .i64 b, .int .i64 c, .string s, .string t] 65)).cell? ⟨wr.heap.size, 5, none⟩ = some (.string t) := by simp [go_sem]
          have fw : Fr [] wr (wr.alloc (Obj.cells #[.int .i64 2, .int .i64 a, .int .i64 b, .int .i64 c, .string s, .string t] 65)) := (Fr.refl _ _).alloc _
          have lP0 := lt_of_cell p0
          have lQ0 := lt_of_cell q0
          replace p0 := fw.cellv p0 (by simp)
          replace p1 := fw.cellv p1 (by simp)
          replace q0 := fw.cellv q0 (by simp)
          replace q1 := fw.cellv q1 (by simp)
          replace q2 := fw.cellv q2 (by simp)
          replace q3 := fw.cellv q3 (by simp)
          replace zP := fun o => fw.frozenv (zP o) lP0 (by simp)
          replace zQ := fun o => fw.frozenv (zQ o) lQ0 (by simp)
          have HG : Hid (GtAt (wr.alloc (Obj.cells #[.int .i64 2, .int .i64 a, .int .i64 b, .int .i64 c, .string s, .string t] 65)) G D T C R B L g) := HGr.out.keep fw (by simp)
          have HF : Hid (Fr [] w (wr.alloc (Obj.cells #[.int .i64 2, .int .i64 a, .int .i64 b, .int .i64 c, .string s, .string t] 65))) := HFr.out.trans fw (by simp)
          generalize (wr.alloc (Obj.cells #[.int .i64 2, .int .i64 a, .int .i64 b, .int .i64 c, .string s, .string t] 65)) = W at *
          clear fw lP0 lQ0 HGr HFr o0 o1 o2 o3 o4 o5 n1 n2 HLT
          generalize wr.heap.size = Z at *
          refine (under_calls D T C R B L g.d W HG.out.ld).mono ?_
          rintro e wa ⟨rfl, fa⟩
          have lP0 := lt_of_cell p0
          have lQ0 := lt_of_cell q0
          replace p0 := fa.cellv p0 (by simp)
          replace p1 := fa.cellv p1 (by simp)
          replace q0 := fa.cellv q0 (by simp)
          replace q1 := fa.cellv q1 (by simp)
          replace q2 := fa.cellv q2 (by simp)
          replace q3 := fa.cellv q3 (by simp)
          replace c0 := fa.cellv c0 (by simp)
          replace c1 := fa.cellv c1 (by simp)
          replace c2 := fa.cellv c2 (by simp)
          replace c3 := fa.cellv c3 (by simp)
          replace c4 := fa.cellv c4 (by simp)
          replace c5 := fa.cellv c5 (by simp)
          replace zP := fun o => fa.frozenv (zP o) lP0 (by simp)
          replace zQ := fun o => fa.frozenv (zQ o) lQ0 (by simp)
          have HGa : Hid (GtAt wa G D T C R B L g) := HG.out.keep fa (by simp)
          have HFa : Hid (Fr [] w wa) := HF.out.trans fa (by simp)
          clear fa HG HF lP0 lQ0
          go_wp2_with fail
          have HR : Hid (∀ X, GtAt X G D T C R B L g → Calls Try.prog 36 #[.pointer (some ⟨G, 0, none⟩), opV ⟨2, a, b, c, s, t⟩] X fun x w' => x = .returned (ansV (doG g ⟨2, a, b, c, s, t⟩).2.1 (doG g ⟨2, a, b, c, s, t⟩).2.2) ∧ GtAt w' G D T C R B L (doG g ⟨2, a, b, c, s, t⟩).1 ∧ Fr [G, D, T, C, R, B, L] X w') := fun X hX => do_calls G D T C R B L g _ X hX
          have HP : Hid _ := doG_pre g ⟨2, a, b, c, s, t⟩
          have HK1 : Hid (Kept (doG g ⟨2, a, b, c, s, t⟩).1.d.t []) := doG_kept HK.out _
          have HC : Hid ((doG g ⟨2, a, b, c, s, t⟩).1.c = g.c.count (doG g ⟨2, a, b, c, s, t⟩).2.1) := rfl
          generalize doG g ⟨2, a, b, c, s, t⟩ = r at *
          obtain ⟨g1, e1, an⟩ := r
          dsimp only at HR HP HK1 HC
          refine (HR.out wa HGa.out).mono ?_
          rintro e wb ⟨rfl, hb, fb⟩
          have lP0 := lt_of_cell p0
          have lQ0 := lt_of_cell q0
          have nP : P ∉ [G, D, T, C, R, B, L] := fun h => (HN.out P h).1 rfl
          have nQ : Q ∉ [G, D, T, C, R, B, L] := fun h => (HN.out Q h).2.1 rfl
          have nZ : Z ∉ [G, D, T, C, R, B, L] := fun h => (HN.out Z h).2.2 rfl
          replace p0 := fb.cellv p0 nP
          replace p1 := fb.cellv p1 nP
          replace q0 := fb.cellv q0 nQ
          replace q1 := fb.cellv q1 nQ
          replace q2 := fb.cellv q2 nQ
          replace q3 := fb.cellv q3 nQ
          replace c0 := fb.cellv c0 nZ
          replace c1 := fb.cellv c1 nZ
          replace c2 := fb.cellv c2 nZ
          replace c3 := fb.cellv c3 nZ
          replace c4 := fb.cellv c4 nZ
          replace c5 := fb.cellv c5 nZ
          replace zP := fun o => fb.frozenv (zP o) lP0 nP
          replace zQ := fun o => fb.frozenv (zQ o) lQ0 nQ
          have HGb : Hid (GtAt wb G D T C R B L g1) := hb
          have HFb : Hid (Fr [] w wb) := HFa.out.trans fb (fun x hx hm => by have := HW.out.1 x hm; omega)
          clear fb hb HR lP0 lQ0 nP nQ nZ HGa HFa
          unfold ansV S
          have lP0 := lt_of_cell p0
          have lQ0 := lt_of_cell q0
          have lZ0 := lt_of_cell c0
          have n1 : ¬ P = wb.heap.size := by omega
          have n2 : ¬ Q = wb.heap.size := by omega
          have n3 : ¬ Z = wb.heap.size := by omega
          go_wp2_with fail
          have y0 : (wb.alloc (Obj.cells #[.int .i64 e1, .int .i64 0, .int .i64 0, .string ⟨an.toArray⟩] 68)).cell? ⟨wb.heap.size, 0, none⟩ = some (.int .i64 e1) := by simp [go_sem]
          have y1 : (wb.alloc (Obj.cells #[.int .i64 e1, .int .i64 0, .int .i64 0, .string ⟨an.toArray⟩] 68)).cell? ⟨wb.heap.size, 1, none⟩ = some (.int .i64 0) := by simp [go_sem]
          have y2 : (wb.alloc (Obj.cells #[.int .i64 e1, .int .i64 0, .int .i64 0, .string ⟨an.toArray⟩] 68)).cell? ⟨wb.heap.size, 2, none⟩ = some (.int .i64 0) := by simp [go_sem]
          have y3 : (wb.alloc (Obj.cells #[.int .i64 e1, .int .i64 0, .int .i64 0, .string ⟨an.toArray⟩] 68)).cell? ⟨wb.heap.size, 3, none⟩ = some (.string ⟨an.toArray⟩) := by simp [go_sem]
          have fy : Fr [] wb (wb.alloc (Obj.cells #[.int .i64 e1, .int .i64 0, .int .i64 0, .string ⟨an.toArray⟩] 68)) := (Fr.refl _ _).alloc _
          replace p0 := fy.cellv p0 (by simp)
          replace p1 := fy.cellv p1 (by simp)
          replace q0 := fy.cellv q0 (by simp)
          replace q1 := fy.cellv q1 (by simp)
          replace q2 := fy.cellv q2 (by simp)
          replace q3 := fy.cellv q3 (by simp)
          replace c0 := fy.cellv c0 (by simp)
          replace c1 := fy.cellv c1 (by simp)
          replace c2 := fy.cellv c2 (by simp)
          replace c3 := fy.cellv c3 (by simp)
          replace c4 := fy.cellv c4 (by simp)
          replace c5 := fy.cellv c5 (by simp)
          replace zP := fun o => fy.frozenv (zP o) lP0 (by simp)
          replace zQ := fun o => fy.frozenv (zQ o) lQ0 (by simp)
          have HGc : Hid (GtAt (wb.alloc (Obj.cells #[.int .i64 e1, .int .i64 0, .int .i64 0, .string ⟨an.toArray⟩] 68)) G D T C R B L g1) := HGb.out.keep fy (by simp)
          have HFc : Hid (Fr [] w (wb.alloc (Obj.cells #[.int .i64 e1, .int .i64 0, .int .i64 0, .string ⟨an.toArray⟩] 68))) := HFb.out.trans fy (by simp)
          have lPY : P < wb.heap.size := lP0
          have lQY : Q < wb.heap.size := lQ0
          have lZY : Z < wb.heap.size := lZ0
          generalize (wb.alloc (Obj.cells #[.int .i64 e1, .int .i64 0, .int .i64 0, .string ⟨an.toArray⟩] 68)) = wc at *
          generalize wb.heap.size = Y at *
          clear fy lP0 lQ0 lZ0 n1 n2 n3 HGb HFb
          refine (tally_calls g.c e1 wc HWF.out).mono ?_
          rintro e wt ⟨rfl, ft⟩
          have lP0 := lt_of_cell p0
          have lQ0 := lt_of_cell q0
          replace p0 := ft.cellv p0 (by simp)
          replace p1 := ft.cellv p1 (by simp)
          replace q0 := ft.cellv q0 (by simp)
          replace q1 := ft.cellv q1 (by simp)
          replace q2 := ft.cellv q2 (by simp)
          replace q3 := ft.cellv q3 (by simp)
          replace c0 := ft.cellv c0 (by simp)
          replace c1 := ft.cellv c1 (by simp)
          replace c2 := ft.cellv c2 (by simp)
          replace c3 := ft.cellv c3 (by simp)
          replace c4 := ft.cellv c4 (by simp)
          replace c5 := ft.cellv c5 (by simp)
          replace y0 := ft.cellv y0 (by simp)
          replace y1 := ft.cellv y1 (by simp)
          replace y2 := ft.cellv y2 (by simp)
          replace y3 := ft.cellv y3 (by simp)
          replace zP := fun o => ft.frozenv (zP o) lP0 (by simp)
          replace zQ := fun o => ft.frozenv (zQ o) lQ0 (by simp)
          have HGt : Hid (GtAt wt G D T C R B L g1) := HGc.out.keep ft (by simp)
          have HFt : Hid (Fr [] w wt) := HFc.out.trans ft (by simp)
          clear ft lP0 lQ0 HGc HFc
          rw [← HC.out]
          unfold ctV
          go_wp2_with fail
          have FQ : Fr [Q] wt ((((wt.setCell ⟨Q, 0, none⟩ (.int .i64 g1.c.ok)).setCell ⟨Q, 1, none⟩ (.int .i64 g1.c.bad)).setCell ⟨Q, 2, none⟩ (.int .i64 g1.c.er)).setCell ⟨Q, 3, none⟩ (.int .i64 g1.c.it)) := ((((Fr.refl _ _).setCell (by simp) _).setCell (by simp) _).setCell (by simp) _).setCell (by simp) _
          have r0 : ((((wt.setCell ⟨Q, 0, none⟩ (.int .i64 g1.c.ok)).setCell ⟨Q, 1, none⟩ (.int .i64 g1.c.bad)).setCell ⟨Q, 2, none⟩ (.int .i64 g1.c.er)).setCell ⟨Q, 3, none⟩ (.int .i64 g1.c.it)).cell? ⟨Q, 0, none⟩ = some (.int .i64 g1.c.ok) := by simp [cell_set, q0, q1, q2, q3]
          have r1 : ((((wt.setCell ⟨Q, 0, none⟩ (.int .i64 g1.c.ok)).setCell ⟨Q, 1, none⟩ (.int .i64 g1.c.bad)).setCell ⟨Q, 2, none⟩ (.int .i64 g1.c.er)).setCell ⟨Q, 3, none⟩ (.int .i64 g1.c.it)).cell? ⟨Q, 1, none⟩ = some (.int .i64 g1.c.bad) := by simp [cell_set, q0, q1, q2, q3]
          have r2 : ((((wt.setCell ⟨Q, 0, none⟩ (.int .i64 g1.c.ok)).setCell ⟨Q, 1, none⟩ (.int .i64 g1.c.bad)).setCell ⟨Q, 2, none⟩ (.int .i64 g1.c.er)).setCell ⟨Q, 3, none⟩ (.int .i64 g1.c.it)).cell? ⟨Q, 2, none⟩ = some (.int .i64 g1.c.er) := by simp [cell_set, q0, q1, q2, q3]
          have r3 : ((((wt.setCell ⟨Q, 0, none⟩ (.int .i64 g1.c.ok)).setCell ⟨Q, 1, none⟩ (.int .i64 g1.c.bad)).setCell ⟨Q, 2, none⟩ (.int .i64 g1.c.er)).setCell ⟨Q, 3, none⟩ (.int .i64 g1.c.it)).cell? ⟨Q, 3, none⟩ = some (.int .i64 g1.c.it) := by simp [cell_set, q0, q1, q2, q3]
          have rz : ∀ o, ((((wt.setCell ⟨Q, 0, none⟩ (.int .i64 g1.c.ok)).setCell ⟨Q, 1, none⟩ (.int .i64 g1.c.bad)).setCell ⟨Q, 2, none⟩ (.int .i64 g1.c.er)).setCell ⟨Q, 3, none⟩ (.int .i64 g1.c.it)).frozen? ⟨Q, o, none⟩ = false := fun o => by simp [zQ o]
          have mP : P ∉ [Q] := by simp; omega
          have mZ : Z ∉ [Q] := by simp; omega
          have mY : Y ∉ [Q] := by simp; omega
          have lP0 := lt_of_cell p0
          replace p0 := FQ.cellv p0 mP
          replace p1 := FQ.cellv p1 mP
          replace c0 := FQ.cellv c0 mZ
          replace c1 := FQ.cellv c1 mZ
          replace c2 := FQ.cellv c2 mZ
          replace c3 := FQ.cellv c3 mZ
          replace c4 := FQ.cellv c4 mZ
          replace c5 := FQ.cellv c5 mZ
          replace y0 := FQ.cellv y0 mY
          replace y1 := FQ.cellv y1 mY
          replace y2 := FQ.cellv y2 mY
          replace y3 := FQ.cellv y3 mY
          replace zP := fun o => FQ.frozenv (zP o) lP0 mP
          have HGq : Hid (GtAt ((((wt.setCell ⟨Q, 0, none⟩ (.int .i64 g1.c.ok)).setCell ⟨Q, 1, none⟩ (.int .i64 g1.c.bad)).setCell ⟨Q, 2, none⟩ (.int .i64 g1.c.er)).setCell ⟨Q, 3, none⟩ (.int .i64 g1.c.it)) G D T C R B L g1) := HGt.out.keep FQ (fun x hx => by have := HN.out x hx; simp; omega)
          have HFq : Hid (Fr [] w ((((wt.setCell ⟨Q, 0, none⟩ (.int .i64 g1.c.ok)).setCell ⟨Q, 1, none⟩ (.int .i64 g1.c.bad)).setCell ⟨Q, 2, none⟩ (.int .i64 g1.c.er)).setCell ⟨Q, 3, none⟩ (.int .i64 g1.c.it))) := HFt.out.trans FQ (fun x hx hm => by have := HW.out; simp at hm; omega)
          clear q0 q1 q2 q3 zQ FQ mP mZ mY lP0 HGt HFt
          generalize ((((wt.setCell ⟨Q, 0, none⟩ (.int .i64 g1.c.ok)).setCell ⟨Q, 1, none⟩ (.int .i64 g1.c.bad)).setCell ⟨Q, 2, none⟩ (.int .i64 g1.c.er)).setCell ⟨Q, 3, none⟩ (.int .i64 g1.c.it)) = wq at *
          have q0 := r0
          have q1 := r1
          have q2 := r2
          have q3 := r3
          have zQ := rz
          clear r0 r1 r2 r3 rz
          refine (holds_calls D T C R B L g1.d ⟨2, a, b, c, s, t⟩ e1 an g.d.show wq HGq.out.ld HK1.out.held HP.out.1 HP.out.2.1 HP.out.2.2).mono ?_
          rintro e wd ⟨rfl, fd⟩
          have lP0 := lt_of_cell p0
          have lQ0 := lt_of_cell q0
          replace p0 := fd.cellv p0 (by simp)
          replace p1 := fd.cellv p1 (by simp)
          replace q0 := fd.cellv q0 (by simp)
          replace q1 := fd.cellv q1 (by simp)
          replace q2 := fd.cellv q2 (by simp)
          replace q3 := fd.cellv q3 (by simp)
          replace c0 := fd.cellv c0 (by simp)
          replace c1 := fd.cellv c1 (by simp)
          replace c2 := fd.cellv c2 (by simp)
          replace c3 := fd.cellv c3 (by simp)
          replace c4 := fd.cellv c4 (by simp)
          replace c5 := fd.cellv c5 (by simp)
          replace y0 := fd.cellv y0 (by simp)
          replace y1 := fd.cellv y1 (by simp)
          replace y2 := fd.cellv y2 (by simp)
          replace y3 := fd.cellv y3 (by simp)
          replace zP := fun o => fd.frozenv (zP o) lP0 (by simp)
          replace zQ := fun o => fd.frozenv (zQ o) lQ0 (by simp)
          have HGd : Hid (GtAt wd G D T C R B L g1) := HGq.out.keep fd (by simp)
          have HFd : Hid (Fr [] w wd) := HFq.out.trans fd (by simp)
          clear fd lP0 lQ0 HGq HFq
          clear c1 c2 c3 c4 c5 y0 y1 y2 y3
          have HI : Hid (KInv w P Q G D T C R B L g1 wd) := ⟨HGd.out, HK1.out, p0, p1, q0, q1, q2, q3, zP, zQ, HFd.out, fun x hx => ⟨HW.out.1 x hx, (HN.out x hx).1, (HN.out x hx).2.1⟩, HW.out.2.1, HW.out.2.2.1, nPQ⟩
          clear p0 p1 q0 q1 q2 q3 zP zQ
          go_wp2_with fail
          exact ⟨⟨k + 1, G, D, T, C, R, B, L, g1, by have := HMEAS.out; omega, by simp, rfl, HI.out⟩, by have := HMEAS.out; simp [intOf]; omega⟩
        · have j2 : (kd == 2) = false := by simpa using h2
          clear h2
          by_cases h3 : kd = 3
          · subst h3
            go_wp2_with fail
            have c0 : (wr.alloc (Obj.cells #[.int .i64 3, .int .i64 a, .int .i64 b, .int .i64 c, .string s, .string t] 65)).cell? ⟨wr.heap.size, 0, none⟩ = some (.int .i64 3) := by simp [go_sem]
            have c1 : (wr.alloc (Obj.cells #[.int .i64 3, .int .i64 a, .int .i64 b, .int .i64 c, .string s, .string t] 65)).cell? ⟨wr.heap.size, 1, none⟩ = some (.int .i64 a) := by simp [go_sem]
            have c2 : (wr.alloc (Obj.cells #[.int .i64 3, .int .i64 a, .int .i64 b, .int .i64 c, .string s, .string t] 65)).cell? ⟨wr.heap.size, 2, none⟩ = some (.int .i64 b) := by simp [go_sem]
            have c3 : (wr.alloc (Obj.cells #[.int .i64 3, .int .i64 a, .int .i64 b, .int .i64 c, .string s, .string t] 65)).cell? ⟨wr.heap.size, 3, none⟩ = some (.int .i64 c) := by simp [go_sem]
            have c4 : (wr.alloc (Obj.cells #[.int .i64 3, .int .i64 a, .int .i64 b, .int .i64 c, .string s, .string t] 65)).cell? ⟨wr.heap.size, 4, none⟩ = some (.string s) := by simp [go_sem]
            have c5 : (wr.alloc (Obj.cells #[.int .i64 3, .int .i64 a, .int .i64 b, .int .i64 c, .string s, .string t] 65)).cell? ⟨wr.heap.size, 5, none⟩ = some (.string t) := by simp [go_sem]
            have fw : Fr [] wr (wr.alloc (Obj.cells #[.int .i64 3, .int .i64 a, .int .i64 b, .int .i64 c, .string s, .string t] 65)) := (Fr.refl _ _).alloc _
            have lP0 := lt_of_cell p0
            have lQ0 := lt_of_cell q0
            replace p0 := fw.cellv p0 (by simp)
            replace p1 := fw.cellv p1 (by simp)
            replace q0 := fw.cellv q0 (by simp)
            replace q1 := fw.cellv q1 (by simp)
            replace q2 := fw.cellv q2 (by simp)
            replace q3 := fw.cellv q3 (by simp)
            replace zP := fun o => fw.frozenv (zP o) lP0 (by simp)
            replace zQ := fun o => fw.frozenv (zQ o) lQ0 (by simp)
            have HG : Hid (GtAt (wr.alloc (Obj.cells #[.int .i64 3, .int .i64 a, .int .i64 b, .int .i64 c, .string s, .string t] 65)) G D T C R B L g) := HGr.out.keep fw (by simp)
            have HF : Hid (Fr [] w (wr.alloc (Obj.cells #[.int .i64 3, .int .i64 a, .int .i64 b, .int .i64 c, .string s, .string t] 65))) := HFr.out.trans fw (by simp)
            generalize (wr.alloc (Obj.cells #[.int .i64 3, .int .i64 a, .int .i64 b, .int .i64 c, .string s, .string t] 65)) = W at *
            clear fw lP0 lQ0 HGr HFr o0 o1 o2 o3 o4 o5 n1 n2 HLT
            generalize wr.heap.size = Z at *
            refine (under_calls D T C R B L g.d W HG.out.ld).mono ?_
            rintro e wa ⟨rfl, fa⟩
            have lP0 := lt_of_cell p0
            have lQ0 := lt_of_cell q0
            replace p0 := fa.cellv p0 (by simp)
            replace p1 := fa.cellv p1 (by simp)
            replace q0 := fa.cellv q0 (by simp)
            replace q1 := fa.cellv q1 (by simp)
            replace q2 := fa.cellv q2 (by simp)
            replace q3 := fa.cellv q3 (by simp)
            replace c0 := fa.cellv c0 (by simp)
            replace c1 := fa.cellv c1 (by simp)
            replace c2 := fa.cellv c2 (by simp)
            replace c3 := fa.cellv c3 (by simp)
            replace c4 := fa.cellv c4 (by simp)
            replace c5 := fa.cellv c5 (by simp)
            replace zP := fun o => fa.frozenv (zP o) lP0 (by simp)
            replace zQ := fun o => fa.frozenv (zQ o) lQ0 (by simp)
            have HGa : Hid (GtAt wa G D T C R B L g) := HG.out.keep fa (by simp)
            have HFa : Hid (Fr [] w wa) := HF.out.trans fa (by simp)
            clear fa HG HF lP0 lQ0
            go_wp2_with fail
            have HR : Hid (∀ X, GtAt X G D T C R B L g → Calls Try.prog 36 #[.pointer (some ⟨G, 0, none⟩), opV ⟨3, a, b, c, s, t⟩] X fun x w' => x = .returned (ansV (doG g ⟨3, a, b, c, s, t⟩).2.1 (doG g ⟨3, a, b, c, s, t⟩).2.2) ∧ GtAt w' G D T C R B L (doG g ⟨3, a, b, c, s, t⟩).1 ∧ Fr [G, D, T, C, R, B, L] X w') := fun X hX => do_calls G D T C R B L g _ X hX
            have HP : Hid _ := doG_pre g ⟨3, a, b, c, s, t⟩
            have HK1 : Hid (Kept (doG g ⟨3, a, b, c, s, t⟩).1.d.t []) := doG_kept HK.out _
            have HC : Hid (doG g ⟨3, a, b, c, s, t⟩ = (g, 0, g.show)) := rfl
            rw [HC.out] at HR HK1
            dsimp only at HR HK1
            clear HP
            generalize hsh : g.show = an at *
            have HSH : Hid (g.show = an) := hsh
            clear hsh
            refine (HR.out wa HGa.out).mono ?_
            rintro e wb ⟨rfl, hb, fb⟩
            have lP0 := lt_of_cell p0
            have lQ0 := lt_of_cell q0
            have nP : P ∉ [G, D, T, C, R, B, L] := fun h => (HN.out P h).1 rfl
            have nQ : Q ∉ [G, D, T, C, R, B, L] := fun h => (HN.out Q h).2.1 rfl
            have nZ : Z ∉ [G, D, T, C, R, B, L] := fun h => (HN.out Z h).2.2 rfl
            replace p0 := fb.cellv p0 nP
            replace p1 := fb.cellv p1 nP
            replace q0 := fb.cellv q0 nQ
            replace q1 := fb.cellv q1 nQ
            replace q2 := fb.cellv q2 nQ
            replace q3 := fb.cellv q3 nQ
            replace c0 := fb.cellv c0 nZ
            replace c1 := fb.cellv c1 nZ
            replace c2 := fb.cellv c2 nZ
            replace c3 := fb.cellv c3 nZ
            replace c4 := fb.cellv c4 nZ
            replace c5 := fb.cellv c5 nZ
            replace zP := fun o => fb.frozenv (zP o) lP0 nP
            replace zQ := fun o => fb.frozenv (zQ o) lQ0 nQ
            have HGb : Hid (GtAt wb G D T C R B L g) := hb
            have HFb : Hid (Fr [] w wb) := HFa.out.trans fb (fun x hx hm => by have := HW.out.1 x hm; omega)
            clear fb hb HR lP0 lQ0 nP nQ nZ HGa HFa
            unfold ansV S
            have lP0 := lt_of_cell p0
            have lQ0 := lt_of_cell q0
            have lZ0 := lt_of_cell c0
            have n1 : ¬ P = wb.heap.size := by omega
            have n2 : ¬ Q = wb.heap.size := by omega
            have n3 : ¬ Z = wb.heap.size := by omega
            go_wp2_with fail
            have y0 : (wb.alloc (Obj.cells #[.int .i64 0, .int .i64 0, .int .i64 0, .string ⟨an.toArray⟩] 68)).cell? ⟨wb.heap.size, 0, none⟩ = some (.int .i64 0) := by simp [go_sem]
            have y1 : (wb.alloc (Obj.cells #[.int .i64 0, .int .i64 0, .int .i64 0, .string ⟨an.toArray⟩] 68)).cell? ⟨wb.heap.size, 1, none⟩ = some (.int .i64 0) := by simp [go_sem]
            have y2 : (wb.alloc (Obj.cells #[.int .i64 0, .int .i64 0, .int .i64 0, .string ⟨an.toArray⟩] 68)).cell? ⟨wb.heap.size, 2, none⟩ = some (.int .i64 0) := by simp [go_sem]
            have y3 : (wb.alloc (Obj.cells #[.int .i64 0, .int .i64 0, .int .i64 0, .string ⟨an.toArray⟩] 68)).cell? ⟨wb.heap.size, 3, none⟩ = some (.string ⟨an.toArray⟩) := by simp [go_sem]
            have fy : Fr [] wb (wb.alloc (Obj.cells #[.int .i64 0, .int .i64 0, .int .i64 0, .string ⟨an.toArray⟩] 68)) := (Fr.refl _ _).alloc _
            replace p0 := fy.cellv p0 (by simp)
            replace p1 := fy.cellv p1 (by simp)
            replace q0 := fy.cellv q0 (by simp)
            replace q1 := fy.cellv q1 (by simp)
            replace q2 := fy.cellv q2 (by simp)
            replace q3 := fy.cellv q3 (by simp)
            replace c0 := fy.cellv c0 (by simp)
            replace c1 := fy.cellv c1 (by simp)
            replace c2 := fy.cellv c2 (by simp)
            replace c3 := fy.cellv c3 (by simp)
            replace c4 := fy.cellv c4 (by simp)
            replace c5 := fy.cellv c5 (by simp)
            replace zP := fun o => fy.frozenv (zP o) lP0 (by simp)
            replace zQ := fun o => fy.frozenv (zQ o) lQ0 (by simp)
            have HGc : Hid (GtAt (wb.alloc (Obj.cells #[.int .i64 0, .int .i64 0, .int .i64 0, .string ⟨an.toArray⟩] 68)) G D T C R B L g) := HGb.out.keep fy (by simp)
            have HFc : Hid (Fr [] w (wb.alloc (Obj.cells #[.int .i64 0, .int .i64 0, .int .i64 0, .string ⟨an.toArray⟩] 68))) := HFb.out.trans fy (by simp)
            have lPY : P < wb.heap.size := lP0
            have lQY : Q < wb.heap.size := lQ0
            have lZY : Z < wb.heap.size := lZ0
            generalize (wb.alloc (Obj.cells #[.int .i64 0, .int .i64 0, .int .i64 0, .string ⟨an.toArray⟩] 68)) = wc at *
            generalize wb.heap.size = Y at *
            clear fy lP0 lQ0 lZ0 n1 n2 n3 HGb HFb
            refine (holds_calls D T C R B L g.d ⟨3, a, b, c, s, t⟩ 0 an g.d.show wc HGc.out.ld HK1.out.held (by decide) (fun _ => rfl) (fun h => by simp at h)).mono ?_
            rintro e wd ⟨rfl, fd⟩
            have lP0 := lt_of_cell p0
            have lQ0 := lt_of_cell q0
            replace p0 := fd.cellv p0 (by simp)
            replace p1 := fd.cellv p1 (by simp)
            replace q0 := fd.cellv q0 (by simp)
            replace q1 := fd.cellv q1 (by simp)
            replace q2 := fd.cellv q2 (by simp)
            replace q3 := fd.cellv q3 (by simp)
            replace c0 := fd.cellv c0 (by simp)
            replace c1 := fd.cellv c1 (by simp)
            replace c2 := fd.cellv c2 (by simp)
            replace c3 := fd.cellv c3 (by simp)
            replace c4 := fd.cellv c4 (by simp)
            replace c5 := fd.cellv c5 (by simp)
            replace y0 := fd.cellv y0 (by simp)
            replace y1 := fd.cellv y1 (by simp)
            replace y2 := fd.cellv y2 (by simp)
            replace y3 := fd.cellv y3 (by simp)
            replace zP := fun o => fd.frozenv (zP o) lP0 (by simp)
            replace zQ := fun o => fd.frozenv (zQ o) lQ0 (by simp)
            have HGd : Hid (GtAt wd G D T C R B L g) := HGc.out.keep fd (by simp)
            have HFd : Hid (Fr [] w wd) := HFc.out.trans fd (by simp)
            clear fd lP0 lQ0 HGc HFc
            clear c1 c2 c3 c4 c5 y0 y1 y2
            go_wp2_with fail
            refine (head_calls g.c wd HWF.out).mono ?_
            rintro e we ⟨rfl, fe⟩
            have lP0 := lt_of_cell p0
            have lQ0 := lt_of_cell q0
            replace p0 := fe.cellv p0 (by simp)
            replace p1 := fe.cellv p1 (by simp)
            replace q0 := fe.cellv q0 (by simp)
            replace q1 := fe.cellv q1 (by simp)
            replace q2 := fe.cellv q2 (by simp)
            replace q3 := fe.cellv q3 (by simp)
            replace c0 := fe.cellv c0 (by simp)
            replace y3 := fe.cellv y3 (by simp)
            replace zP := fun o => fe.frozenv (zP o) lP0 (by simp)
            replace zQ := fun o => fe.frozenv (zQ o) lQ0 (by simp)
            have HGe : Hid (GtAt we G D T C R B L g) := HGd.out.keep fe (by simp)
            have HFe : Hid (Fr [] w we) := HFd.out.trans fe (by simp)
            clear fe HGd HFd lP0 lQ0
            have hl1 := head_len g.c
            have hl2 := shB_show g.d (by have := HGe.out.ld.tb.wf.tr; omega)
            obtain ⟨x, ex, ha⟩ := add_ex g.c.head g.d.show (by omega)
            have hx : x = an := by rw [ex, ← HSH.out]; rfl
            subst hx
            clear ex hl1 hl2
            have hne := run_neqS x
            have hgd := fun o1 o2 W => run_guardN o1 o2 x x W
            change we.cell? ⟨Y, 3, none⟩ = some (S x) at y3
            generalize g.c.head = hd at *
            go_wp2_with fail
            go_region_held3 (fun w' => w'.cell? ⟨Y, 3, none⟩ = some (S x) ∧ w'.cell? ⟨P, 0, none⟩ = some (.pointer (some ⟨D, 0, none⟩)) ∧ w'.cell? ⟨P, 1, none⟩ = some (.pointer (some ⟨T, 0, none⟩))) (go_keep)
              (first | (go_at_call 35; refine (under_calls D T C R B L g.d we.drew (HGe.out.keep (X := []) (Fr.refl _ _).drew (by simp)).ld).mono ?_; rintro e wf ⟨rfl, ff⟩; have HFF : Hid (Fr [] we.drew wf) := ff; have u0 := ff.cellv (b := Y) (o := 3) y3 (by simp); have u1 := ff.cellv (b := P) (o := 0) p0 (by simp); have u2 := ff.cellv (b := P) (o := 1) p1 (by simp); clear ff))
            rename_i hHeld
            clear hHeld u0 u1 u2
            have ff : Fr [] we wf := ((Fr.refl [] we).drew).trans HFF.out (by simp)
            have lP0 := lt_of_cell p0
            have lQ0 := lt_of_cell q0
            replace p0 := ff.cellv p0 (by simp)
            replace p1 := ff.cellv p1 (by simp)
            replace q0 := ff.cellv q0 (by simp)
            replace q1 := ff.cellv q1 (by simp)
            replace q2 := ff.cellv q2 (by simp)
            replace q3 := ff.cellv q3 (by simp)
            replace c0 := ff.cellv c0 (by simp)
            replace zP := fun o => ff.frozenv (zP o) lP0 (by simp)
            replace zQ := fun o => ff.frozenv (zQ o) lQ0 (by simp)
            have HGf : Hid (GtAt wf G D T C R B L g) := HGe.out.keep ff (by simp)
            have HFf : Hid (Fr [] w wf) := HFe.out.trans ff (by simp)
            clear ff HFF y3 lP0 lQ0 HGe HFe
            have HI : Hid (KInv w P Q G D T C R B L g wf) := ⟨HGf.out, HK1.out, p0, p1, q0, q1, q2, q3, zP, zQ, HFf.out, fun x hx => ⟨HW.out.1 x hx, (HN.out x hx).1, (HN.out x hx).2.1⟩, HW.out.2.1, HW.out.2.2.1, nPQ⟩
            clear p0 p1 q0 q1 q2 q3 zP zQ
            go_wp2_with fail
            exact ⟨⟨k + 1, G, D, T, C, R, B, L, g, by have := HMEAS.out; omega, by simp, rfl, HI.out⟩, by have := HMEAS.out; simp [intOf]; omega⟩
          · have j3 : (kd == 3) = false := by simpa using h3
            clear h3
            go_wp2_with fail
            have c0 : (wr.alloc (Obj.cells #[.int .i64 kd, .int .i64 a, .int .i64 b, .int .i64 c, .string s, .string t] 65)).cell? ⟨wr.heap.size, 0, none⟩ = some (.int .i64 kd) := by simp [go_sem]
            have c1 : (wr.alloc (Obj.cells #[.int .i64 kd, .int .i64 a, .int .i64 b, .int .i64 c, .string s, .string t] 65)).cell? ⟨wr.heap.size, 1, none⟩ = some (.int .i64 a) := by simp [go_sem]
            have c2 : (wr.alloc (Obj.cells #[.int .i64 kd, .int .i64 a, .int .i64 b, .int .i64 c, .string s, .string t] 65)).cell? ⟨wr.heap.size, 2, none⟩ = some (.int .i64 b) := by simp [go_sem]
            have c3 : (wr.alloc (Obj.cells #[.int .i64 kd, .int .i64 a, .int .i64 b, .int .i64 c, .string s, .string t] 65)).cell? ⟨wr.heap.size, 3, none⟩ = some (.int .i64 c) := by simp [go_sem]
            have c4 : (wr.alloc (Obj.cells #[.int .i64 kd, .int .i64 a, .int .i64 b, .int .i64 c, .string s, .string t] 65)).cell? ⟨wr.heap.size, 4, none⟩ = some (.string s) := by simp [go_sem]
            have c5 : (wr.alloc (Obj.cells #[.int .i64 kd, .int .i64 a, .int .i64 b, .int .i64 c, .string s, .string t] 65)).cell? ⟨wr.heap.size, 5, none⟩ = some (.string t) := by simp [go_sem]
            have fw : Fr [] wr (wr.alloc (Obj.cells #[.int .i64 kd, .int .i64 a, .int .i64 b, .int .i64 c, .string s, .string t] 65)) := (Fr.refl _ _).alloc _
            have lP0 := lt_of_cell p0
            have lQ0 := lt_of_cell q0
            replace p0 := fw.cellv p0 (by simp)
            replace p1 := fw.cellv p1 (by simp)
            replace q0 := fw.cellv q0 (by simp)
            replace q1 := fw.cellv q1 (by simp)
            replace q2 := fw.cellv q2 (by simp)
            replace q3 := fw.cellv q3 (by simp)
            replace zP := fun o => fw.frozenv (zP o) lP0 (by simp)
            replace zQ := fun o => fw.frozenv (zQ o) lQ0 (by simp)
            have HG : Hid (GtAt (wr.alloc (Obj.cells #[.int .i64 kd, .int .i64 a, .int .i64 b, .int .i64 c, .string s, .string t] 65)) G D T C R B L g) := HGr.out.keep fw (by simp)
            have HF : Hid (Fr [] w (wr.alloc (Obj.cells #[.int .i64 kd, .int .i64 a, .int .i64 b, .int .i64 c, .string s, .string t] 65))) := HFr.out.trans fw (by simp)
            generalize (wr.alloc (Obj.cells #[.int .i64 kd, .int .i64 a, .int .i64 b, .int .i64 c, .string s, .string t] 65)) = W at *
            clear fw lP0 lQ0 HGr HFr o0 o1 o2 o3 o4 o5 n1 n2 HLT
            generalize wr.heap.size = Z at *
            refine (under_calls D T C R B L g.d W HG.out.ld).mono ?_
            rintro e wa ⟨rfl, fa⟩
            have lP0 := lt_of_cell p0
            have lQ0 := lt_of_cell q0
            replace p0 := fa.cellv p0 (by simp)
            replace p1 := fa.cellv p1 (by simp)
            replace q0 := fa.cellv q0 (by simp)
            replace q1 := fa.cellv q1 (by simp)
            replace q2 := fa.cellv q2 (by simp)
            replace q3 := fa.cellv q3 (by simp)
            replace c0 := fa.cellv c0 (by simp)
            replace c1 := fa.cellv c1 (by simp)
            replace c2 := fa.cellv c2 (by simp)
            replace c3 := fa.cellv c3 (by simp)
            replace c4 := fa.cellv c4 (by simp)
            replace c5 := fa.cellv c5 (by simp)
            replace zP := fun o => fa.frozenv (zP o) lP0 (by simp)
            replace zQ := fun o => fa.frozenv (zQ o) lQ0 (by simp)
            have HGa : Hid (GtAt wa G D T C R B L g) := HG.out.keep fa (by simp)
            have HFa : Hid (Fr [] w wa) := HF.out.trans fa (by simp)
            clear fa HG HF lP0 lQ0
            go_wp2_with fail
            have HR : Hid (∀ X, GtAt X G D T C R B L g → Calls Try.prog 36 #[.pointer (some ⟨G, 0, none⟩), opV ⟨kd, a, b, c, s, t⟩] X fun x w' => x = .returned (ansV (doG g ⟨kd, a, b, c, s, t⟩).2.1 (doG g ⟨kd, a, b, c, s, t⟩).2.2) ∧ GtAt w' G D T C R B L (doG g ⟨kd, a, b, c, s, t⟩).1 ∧ Fr [G, D, T, C, R, B, L] X w') := fun X hX => do_calls G D T C R B L g _ X hX
            have HP : Hid _ := doG_pre g ⟨kd, a, b, c, s, t⟩
            have HK1 : Hid (Kept (doG g ⟨kd, a, b, c, s, t⟩).1.d.t []) := doG_kept HK.out _
            have HC : Hid (doG g ⟨kd, a, b, c, s, t⟩ = (g, 0, [])) := by show _ = _; unfold doG; dsimp only; rw [if_neg (by simpa using j2), if_neg (by simpa using j3)]
            rw [HC.out] at HR HK1
            dsimp only at HR HK1
            clear HP
            refine (HR.out wa HGa.out).mono ?_
            rintro e wb ⟨rfl, hb, fb⟩
            have lP0 := lt_of_cell p0
            have lQ0 := lt_of_cell q0
            have nP : P ∉ [G, D, T, C, R, B, L] := fun h => (HN.out P h).1 rfl
            have nQ : Q ∉ [G, D, T, C, R, B, L] := fun h => (HN.out Q h).2.1 rfl
            have nZ : Z ∉ [G, D, T, C, R, B, L] := fun h => (HN.out Z h).2.2 rfl
            replace p0 := fb.cellv p0 nP
            replace p1 := fb.cellv p1 nP
            replace q0 := fb.cellv q0 nQ
            replace q1 := fb.cellv q1 nQ
            replace q2 := fb.cellv q2 nQ
            replace q3 := fb.cellv q3 nQ
            replace c0 := fb.cellv c0 nZ
            replace c1 := fb.cellv c1 nZ
            replace c2 := fb.cellv c2 nZ
            replace c3 := fb.cellv c3 nZ
            replace c4 := fb.cellv c4 nZ
            replace c5 := fb.cellv c5 nZ
            replace zP := fun o => fb.frozenv (zP o) lP0 nP
            replace zQ := fun o => fb.frozenv (zQ o) lQ0 nQ
            have HGb : Hid (GtAt wb G D T C R B L g) := hb
            have HFb : Hid (Fr [] w wb) := HFa.out.trans fb (fun x hx hm => by have := HW.out.1 x hm; omega)
            clear fb hb HR lP0 lQ0 nP nQ nZ HGa HFa
            unfold ansV S
            have lP0 := lt_of_cell p0
            have lQ0 := lt_of_cell q0
            have lZ0 := lt_of_cell c0
            have n1 : ¬ P = wb.heap.size := by omega
            have n2 : ¬ Q = wb.heap.size := by omega
            have n3 : ¬ Z = wb.heap.size := by omega
            go_wp2_with fail
            have y0 : (wb.alloc (Obj.cells #[.int .i64 0, .int .i64 0, .int .i64 0, .string ⟨#[]⟩] 68)).cell? ⟨wb.heap.size, 0, none⟩ = some (.int .i64 0) := by simp [go_sem]
            have y1 : (wb.alloc (Obj.cells #[.int .i64 0, .int .i64 0, .int .i64 0, .string ⟨#[]⟩] 68)).cell? ⟨wb.heap.size, 1, none⟩ = some (.int .i64 0) := by simp [go_sem]
            have y2 : (wb.alloc (Obj.cells #[.int .i64 0, .int .i64 0, .int .i64 0, .string ⟨#[]⟩] 68)).cell? ⟨wb.heap.size, 2, none⟩ = some (.int .i64 0) := by simp [go_sem]
            have y3 : (wb.alloc (Obj.cells #[.int .i64 0, .int .i64 0, .int .i64 0, .string ⟨#[]⟩] 68)).cell? ⟨wb.heap.size, 3, none⟩ = some (.string ⟨#[]⟩) := by simp [go_sem]
            have fy : Fr [] wb (wb.alloc (Obj.cells #[.int .i64 0, .int .i64 0, .int .i64 0, .string ⟨#[]⟩] 68)) := (Fr.refl _ _).alloc _
            replace p0 := fy.cellv p0 (by simp)
            replace p1 := fy.cellv p1 (by simp)
            replace q0 := fy.cellv q0 (by simp)
            replace q1 := fy.cellv q1 (by simp)
            replace q2 := fy.cellv q2 (by simp)
            replace q3 := fy.cellv q3 (by simp)
            replace c0 := fy.cellv c0 (by simp)
            replace c1 := fy.cellv c1 (by simp)
            replace c2 := fy.cellv c2 (by simp)
            replace c3 := fy.cellv c3 (by simp)
            replace c4 := fy.cellv c4 (by simp)
            replace c5 := fy.cellv c5 (by simp)
            replace zP := fun o => fy.frozenv (zP o) lP0 (by simp)
            replace zQ := fun o => fy.frozenv (zQ o) lQ0 (by simp)
            have HGc : Hid (GtAt (wb.alloc (Obj.cells #[.int .i64 0, .int .i64 0, .int .i64 0, .string ⟨#[]⟩] 68)) G D T C R B L g) := HGb.out.keep fy (by simp)
            have HFc : Hid (Fr [] w (wb.alloc (Obj.cells #[.int .i64 0, .int .i64 0, .int .i64 0, .string ⟨#[]⟩] 68))) := HFb.out.trans fy (by simp)
            have lPY : P < wb.heap.size := lP0
            have lQY : Q < wb.heap.size := lQ0
            have lZY : Z < wb.heap.size := lZ0
            generalize (wb.alloc (Obj.cells #[.int .i64 0, .int .i64 0, .int .i64 0, .string ⟨#[]⟩] 68)) = wc at *
            generalize wb.heap.size = Y at *
            clear fy lP0 lQ0 lZ0 n1 n2 n3 HGb HFb
            refine (holds_calls D T C R B L g.d ⟨kd, a, b, c, s, t⟩ 0 [] g.d.show wc HGc.out.ld HK1.out.held (by decide) (fun _ => rfl) (fun h => by simp at h)).mono ?_
            rintro e wd ⟨rfl, fd⟩
            have lP0 := lt_of_cell p0
            have lQ0 := lt_of_cell q0
            replace p0 := fd.cellv p0 (by simp)
            replace p1 := fd.cellv p1 (by simp)
            replace q0 := fd.cellv q0 (by simp)
            replace q1 := fd.cellv q1 (by simp)
            replace q2 := fd.cellv q2 (by simp)
            replace q3 := fd.cellv q3 (by simp)
            replace c0 := fd.cellv c0 (by simp)
            replace c1 := fd.cellv c1 (by simp)
            replace c2 := fd.cellv c2 (by simp)
            replace c3 := fd.cellv c3 (by simp)
            replace c4 := fd.cellv c4 (by simp)
            replace c5 := fd.cellv c5 (by simp)
            replace y0 := fd.cellv y0 (by simp)
            replace y1 := fd.cellv y1 (by simp)
            replace y2 := fd.cellv y2 (by simp)
            replace y3 := fd.cellv y3 (by simp)
            replace zP := fun o => fd.frozenv (zP o) lP0 (by simp)
            replace zQ := fun o => fd.frozenv (zQ o) lQ0 (by simp)
            have HGd : Hid (GtAt wd G D T C R B L g) := HGc.out.keep fd (by simp)
            have HFd : Hid (Fr [] w wd) := HFc.out.trans fd (by simp)
            clear fd lP0 lQ0 HGc HFc
            clear c1 c2 c3 c4 c5 y0 y1 y2 y3
            have HI : Hid (KInv w P Q G D T C R B L g wd) := ⟨HGd.out, HK1.out, p0, p1, q0, q1, q2, q3, zP, zQ, HFd.out, fun x hx => ⟨HW.out.1 x hx, (HN.out x hx).1, (HN.out x hx).2.1⟩, HW.out.2.1, HW.out.2.2.1, nPQ⟩
            clear p0 p1 q0 q1 q2 q3 zP zQ
            go_wp2_with fail
            exact ⟨⟨k + 1, G, D, T, C, R, B, L, g, by have := HMEAS.out; omega, by simp, rfl, HI.out⟩, by have := HMEAS.out; simp [intOf]; omega⟩
    · have hb : (decide ((k : Int) < (n : Int)) && decide ((k : Int) < 4398046511104)) = false := by
        rw [Bool.and_eq_false_iff]
        simp only [decide_eq_false_iff_not]
        omega
      clear lPr lQr p0 p1 q0 q1 q2 q3 zP zQ
      by_cases hkn : (k : Int) < (n : Int)
      · have hkm : ¬ (k : Int) < 4398046511104 := by omega
        clear hend hb
        go_wp2_with fail
        go_ret
        exact ⟨rfl, HFr.out⟩
      · clear hend hb
        go_wp2_with fail
        go_ret
        exact ⟨rfl, HFr.out⟩

set_option maxHeartbeats 2000000 in
set_option maxRecDepth 100000 in
theorem keeps_l (A : Option Addr) (n cap : Nat) (O : Nat → Op) (w : World) (hA : ScAt w A n O) :
    Calls Try.prog 20 #[.slice A n cap, .bool false] w fun e w' => e = .returned (.int .i64 (-1)) ∧ Fr [] w w' := by
  have HA : Hid (ScAt w A n O) := hA
  clear hA
  go_enter Try.func20, Try.ntmps20
  go_wp2_with fail
  refine (samples.walk w).mono ?_
  rintro e w1 ⟨rfl, f1⟩
  have F1 : Hid (Fr [] w w1) := f1
  clear f1
  go_wp2_with fail
  refine (facts.walk w1).mono ?_
  rintro e w2 ⟨rfl, f2⟩
  have F2 : Hid (Fr [] w w2) := F1.out.trans f2 (by simp)
  clear f2 F1
  go_wp2_with fail
  refine (ground_calls _).mono ?_
  rintro e w3 ⟨D, T, C, R, B, L, rfl, h3, f3, s3⟩
  have H3 : Hid (LdAt w3 D T C R B L V.Ld.fresh) := h3
  have F3 : Hid (Fr [] w w3) := F2.out.trans f3 (by simp)
  have HS : Hid (∀ x ∈ [D, T, C, R, B, L], w.heap.size ≤ x ∧ x < w3.heap.size) := by
    have a1 := h3.bk.lD
    have a2 := h3.bk.lB
    have a3 := h3.bk.lL
    have a4 := h3.tb.lT
    have a5 := h3.tb.lC
    have a6 := h3.tb.lR
    have a0 := F2.out.size
    intro x hx
    have := s3 x hx
    simp at hx
    rcases hx with rfl | rfl | rfl | rfl | rfl | rfl <;> omega
  clear h3 f3 s3 F2
  go_wp2_with (go_at_call 17; refine (gnew_calls D T C R B L V.Ld.fresh _ (H3.out.keep (X := []) ((Fr.refl _ _).alloc _) (by simp))).mono ?_)
  rintro e w4 ⟨G, rfl, h4, f4, s4⟩
  have F4 : Hid (Fr [] w w4) := (F3.out.alloc _).trans f4 (by simp)
  have H4 : Hid (GtAt w4 G D T C R B L freshG) := h4
  have p0 := f4.cellv (b := w3.heap.size) (o := 0) (v := .pointer (some ⟨D, 0, none⟩)) (by simp [go_sem]) (by simp)
  have p1 := f4.cellv (b := w3.heap.size) (o := 1) (v := .pointer (some ⟨T, 0, none⟩)) (by simp [go_sem]) (by simp)
  have zP : ∀ o, w4.frozen? ⟨w3.heap.size, o, none⟩ = false := fun o => f4.frozenv (b := w3.heap.size) (o := o) (by simp [go_sem]) (by simp) (by simp)
  have lP : w3.heap.size < w4.heap.size := lt_of_cell p0
  have nPQ : ¬ w3.heap.size = w4.heap.size := by omega
  have lG := h4.ct.lG
  simp at s4
  clear h4 f4
  go_wp2_with fail
  have HI : Hid (KInv w w3.heap.size w4.heap.size G D T C R B L freshG (w4.alloc (Obj.cells #[.int .i64 0, .int .i64 0, .int .i64 0, .int .i64 0] 63))) := by
    refine ⟨H4.out.keep (X := []) ((Fr.refl _ _).alloc _) (by simp), kept_fresh, ((Fr.refl [] _).alloc _).cellv p0 (by simp), ((Fr.refl [] _).alloc _).cellv p1 (by simp), by simp [go_sem, freshG], by simp [go_sem, freshG], by simp [go_sem, freshG], by simp [go_sem, freshG], fun o => ((Fr.refl [] _).alloc _).frozenv (zP o) lP (by simp), fun o => by simp [go_sem], F4.out.alloc _, ?_, F3.out.size, Nat.le_trans F3.out.size (by omega), nPQ⟩
    intro x hx
    have a0 := F3.out.size
    rcases List.mem_cons.mp hx with rfl | hx
    · omega
    · have := HS.out x hx
      omega
  clear p0 p1 zP s4 lG H4 F4 H3 F3 HS
  generalize w3.heap.size = P at *
  generalize w4.heap.size = Q at *
  go_loopw [6, 8] (fun x i w' => ∃ (k G D T C R B L : Nat) (g : V.Gt), k ≤ n ∧ i = .int .i64 k ∧ x = .pointer (some ⟨G, 0, none⟩) ∧ KInv w P Q G D T C R B L g w') (fun _ i _ => n - (intOf i).toNat)
  case atStart => exact ⟨0, G, D, T, C, R, B, L, _, by omega, rfl, rfl, HI.out⟩
  case round =>
    clear HI lP nPQ
    obtain ⟨k, G, D, T, C, R, B, L, g, hk, rfl, rfl, hi⟩ := hrel
    obtain ⟨gt, kp, p0, p1, q0, q1, q2, q3, zP, zQ, fr, nw, lP, lQ, nPQ⟩ := hi
    have HK : Hid (Kept g.d.t []) := kp
    have HLT : Hid (∀ x ∈ [G, D, T, C, R, B, L], x < wr.heap.size) := gt.lt
    have HWF : Hid (g.c.Wf) := gt.ct.wf
    have HGr : Hid (GtAt wr G D T C R B L g) := gt
    have HFr : Hid (Fr [] w wr) := fr
    have HW : Hid ((∀ x ∈ [G, D, T, C, R, B, L], w.heap.size ≤ x) ∧ w.heap.size ≤ P ∧ w.heap.size ≤ Q ∧ ¬ P = Q ∧ w.heap.size ≤ wr.heap.size) := ⟨fun x hx => (nw x hx).1, lP, lQ, nPQ, fr.size⟩
    have lPr := lt_of_cell p0
    have lQr := lt_of_cell q0
    have HN : Hid (∀ x ∈ [G, D, T, C, R, B, L], ¬ x = P ∧ ¬ x = Q ∧ ¬ x = wr.heap.size) := fun x hx => ⟨(nw x hx).2.1, (nw x hx).2.2, by have := HLT.out x hx; omega⟩
    clear gt kp fr nw lP lQ
    by_cases hend : k < n ∧ k < 4398046511104
    · obtain ⟨hlt, hmax⟩ := hend
      have hlt' : (k : Int) < (n : Int) := by omega
      have hmax' : (k : Int) < 4398046511104 := by omega
      obtain ⟨X, off, hAx, ho⟩ := HA.out (by omega)
      have HAX : Hid (A = some ⟨X, off, none⟩) := hAx
      subst hAx
      obtain ⟨o0, o1, o2, o3, o4, o5⟩ := (ho k hlt).keep HFr.out
      clear ho hlt hmax HAX
      generalize O k = op at *
      obtain ⟨kd, a, b, c, s, t⟩ := op
      dsimp only at o0 o1 o2 o3 o4 o5
      have HMEAS : Hid (k < n) := by show k < n; omega
      have n1 : ¬ P = wr.heap.size := by omega
      have n2 : ¬ Q = wr.heap.size := by omega
      have lXr := lt_of_cell o0
      by_cases h1 : kd = 1
      · subst h1
        clear HK HWF HGr HN HLT
        go_wp2_with fail
        refine (ground_calls _).mono ?_
        rintro e w5 ⟨D, T, C, R, B, L, rfl, h5, f5, s5⟩
        have fw : Fr [] wr w5 := ((Fr.refl [] wr).alloc (Obj.cells #[.int .i64 1, .int .i64 a, .int .i64 b, .int .i64 c, .string s, .string t] 65)).trans f5 (by simp)
        have c0 := f5.cellv (b := wr.heap.size) (o := 0) (v := .int .i64 1) (by simp [go_sem]) (by simp)
        have c1 := f5.cellv (b := wr.heap.size) (o := 1) (v := .int .i64 a) (by simp [go_sem]) (by simp)
        have c2 := f5.cellv (b := wr.heap.size) (o := 2) (v := .int .i64 b) (by simp [go_sem]) (by simp)
        have c3 := f5.cellv (b := wr.heap.size) (o := 3) (v := .int .i64 c) (by simp [go_sem]) (by simp)
        have c4 := f5.cellv (b := wr.heap.size) (o := 4) (v := .string s) (by simp [go_sem]) (by simp)
        have c5 := f5.cellv (b := wr.heap.size) (o := 5) (v := .string t) (by simp [go_sem]) (by simp)
        have lP0 := lt_of_cell p0
        have lQ0 := lt_of_cell q0
        replace p0 := fw.cellv p0 (by simp)
        replace p1 := fw.cellv p1 (by simp)
        replace q0 := fw.cellv q0 (by simp)
        replace q1 := fw.cellv q1 (by simp)
        replace q2 := fw.cellv q2 (by simp)
        replace q3 := fw.cellv q3 (by simp)
        replace zP := fun o => fw.frozenv (zP o) lP0 (by simp)
        replace zQ := fun o => fw.frozenv (zQ o) lQ0 (by simp)
        have lP5 := lt_of_cell p0
        have lQ5 := lt_of_cell q0
        have lZ5 := lt_of_cell c0
        have HS5 : Hid (∀ x ∈ [D, T, C, R, B, L], wr.heap.size < x ∧ x < w5.heap.size) := by
          have a1 := h5.bk.lD
          have a2 := h5.bk.lB
          have a3 := h5.bk.lL
          have a4 := h5.tb.lT
          have a5 := h5.tb.lC
          have a6 := h5.tb.lR
          intro x hx
          have := s5 x hx
          simp at this hx
          rcases hx with rfl | rfl | rfl | rfl | rfl | rfl <;> omega
        have H5 : Hid (LdAt w5 D T C R B L V.Ld.fresh) := h5
        have F5 : Hid (Fr [] w w5) := HFr.out.trans fw (by simp)
        clear h5 f5 s5 fw HFr o0 o1 o2 o3 o4 o5 lP0 lQ0 n1 n2
        go_wp2_with fail
        have FP : Fr [P] w5 ((w5.setCell ⟨P, 0, none⟩ (.pointer (some ⟨D, 0, none⟩))).setCell ⟨P, 1, none⟩ (.pointer (some ⟨T, 0, none⟩))) := ((Fr.refl _ _).setCell (by simp) _).setCell (by simp) _
        have r0 : ((w5.setCell ⟨P, 0, none⟩ (.pointer (some ⟨D, 0, none⟩))).setCell ⟨P, 1, none⟩ (.pointer (some ⟨T, 0, none⟩))).cell? ⟨P, 0, none⟩ = some (.pointer (some ⟨D, 0, none⟩)) := by simp [cell_set, p0, p1]
        have r1 : ((w5.setCell ⟨P, 0, none⟩ (.pointer (some ⟨D, 0, none⟩))).setCell ⟨P, 1, none⟩ (.pointer (some ⟨T, 0, none⟩))).cell? ⟨P, 1, none⟩ = some (.pointer (some ⟨T, 0, none⟩)) := by simp [cell_set, p0, p1]
        have rz : ∀ o, ((w5.setCell ⟨P, 0, none⟩ (.pointer (some ⟨D, 0, none⟩))).setCell ⟨P, 1, none⟩ (.pointer (some ⟨T, 0, none⟩))).frozen? ⟨P, o, none⟩ = false := fun o => by simp [zP o]
        have nQP : Q ∉ [P] := by simp; omega
        have nZP : wr.heap.size ∉ [P] := by simp; omega
        replace q0 := FP.cellv q0 nQP
        replace q1 := FP.cellv q1 nQP
        replace q2 := FP.cellv q2 nQP
        replace q3 := FP.cellv q3 nQP
        replace zQ := fun o => FP.frozenv (zQ o) lQ5 nQP
        replace c0 := FP.cellv c0 nZP
        replace c1 := FP.cellv c1 nZP
        replace c2 := FP.cellv c2 nZP
        replace c3 := FP.cellv c3 nZP
        replace c4 := FP.cellv c4 nZP
        replace c5 := FP.cellv c5 nZP
        have HP5 : Hid (Fr [P] w5 ((w5.setCell ⟨P, 0, none⟩ (.pointer (some ⟨D, 0, none⟩))).setCell ⟨P, 1, none⟩ (.pointer (some ⟨T, 0, none⟩)))) := FP
        clear p0 p1 zP FP nQP nZP
        generalize ((w5.setCell ⟨P, 0, none⟩ (.pointer (some ⟨D, 0, none⟩))).setCell ⟨P, 1, none⟩ (.pointer (some ⟨T, 0, none⟩))) = w5' at *
        refine (gnew_calls D T C R B L V.Ld.fresh w5' (H5.out.keep HP5.out (fun x hx => by have := HS5.out x hx; simp; omega))).mono ?_
        rintro e w6 ⟨G, rfl, h6, f6, s6⟩
        have p0 := f6.cellv r0 (by simp)
        have p1 := f6.cellv r1 (by simp)
        have zP : ∀ o, w6.frozen? ⟨P, o, none⟩ = false := fun o => f6.frozenv (rz o) (lt_of_cell r0) (by simp)
        have lQ0 := lt_of_cell q0
        replace q0 := f6.cellv q0 (by simp)
        replace q1 := f6.cellv q1 (by simp)
        replace q2 := f6.cellv q2 (by simp)
        replace q3 := f6.cellv q3 (by simp)
        replace c0 := f6.cellv c0 (by simp)
        replace c1 := f6.cellv c1 (by simp)
        replace c2 := f6.cellv c2 (by simp)
        replace c3 := f6.cellv c3 (by simp)
        replace c4 := f6.cellv c4 (by simp)
        replace c5 := f6.cellv c5 (by simp)
        replace zQ := fun o => f6.frozenv (zQ o) lQ0 (by simp)
        have H6 : Hid (GtAt w6 G D T C R B L freshG) := h6
        have F6 : Hid (Fr [] w w6) := (F5.out.trans HP5.out (fun x hx hm => by have := HW.out; simp at hm; omega)).trans f6 (by simp)
        have HS6 : Hid (∀ x ∈ [G, D, T, C, R, B, L], wr.heap.size < x) := by
          intro x hx
          rcases List.mem_cons.mp hx with rfl | hx
          · have := HP5.out.size; omega
          · exact (HS5.out x hx).1
        have lP6 := lt_of_cell p0
        have lQ6 := lt_of_cell q0
        have lZ6 := lt_of_cell c0
        clear h6 f6 s6 r0 r1 rz HP5 H5 F5 HS5 lQ0 lP5 lQ5 lZ5
        go_wp2_with fail
        have FQ : Fr [Q] w6 ((((w6.setCell ⟨Q, 0, none⟩ (.int .i64 0)).setCell ⟨Q, 1, none⟩ (.int .i64 0)).setCell ⟨Q, 2, none⟩ (.int .i64 0)).setCell ⟨Q, 3, none⟩ (.int .i64 0)) := ((((Fr.refl _ _).setCell (by simp) _).setCell (by simp) _).setCell (by simp) _).setCell (by simp) _
        have r0 : ((((w6.setCell ⟨Q, 0, none⟩ (.int .i64 0)).setCell ⟨Q, 1, none⟩ (.int .i64 0)).setCell ⟨Q, 2, none⟩ (.int .i64 0)).setCell ⟨Q, 3, none⟩ (.int .i64 0)).cell? ⟨Q, 0, none⟩ = some (.int .i64 0) := by simp [cell_set, q0, q1, q2, q3]
        have r1 : ((((w6.setCell ⟨Q, 0, none⟩ (.int .i64 0)).setCell ⟨Q, 1, none⟩ (.int .i64 0)).setCell ⟨Q, 2, none⟩ (.int .i64 0)).setCell ⟨Q, 3, none⟩ (.int .i64 0)).cell? ⟨Q, 1, none⟩ = some (.int .i64 0) := by simp [cell_set, q0, q1, q2, q3]
        have r2 : ((((w6.setCell ⟨Q, 0, none⟩ (.int .i64 0)).setCell ⟨Q, 1, none⟩ (.int .i64 0)).setCell ⟨Q, 2, none⟩ (.int .i64 0)).setCell ⟨Q, 3, none⟩ (.int .i64 0)).cell? ⟨Q, 2, none⟩ = some (.int .i64 0) := by simp [cell_set, q0, q1, q2, q3]
        have r3 : ((((w6.setCell ⟨Q, 0, none⟩ (.int .i64 0)).setCell ⟨Q, 1, none⟩ (.int .i64 0)).setCell ⟨Q, 2, none⟩ (.int .i64 0)).setCell ⟨Q, 3, none⟩ (.int .i64 0)).cell? ⟨Q, 3, none⟩ = some (.int .i64 0) := by simp [cell_set, q0, q1, q2, q3]
        have rz : ∀ o, ((((w6.setCell ⟨Q, 0, none⟩ (.int .i64 0)).setCell ⟨Q, 1, none⟩ (.int .i64 0)).setCell ⟨Q, 2, none⟩ (.int .i64 0)).setCell ⟨Q, 3, none⟩ (.int .i64 0)).frozen? ⟨Q, o, none⟩ = false := fun o => by simp [zQ o]
        have nPQ' : P ∉ [Q] := by simp; omega
        have nZQ : wr.heap.size ∉ [Q] := by simp; omega
        replace p0 := FQ.cellv p0 nPQ'
        replace p1 := FQ.cellv p1 nPQ'
        replace zP := fun o => FQ.frozenv (zP o) lP6 nPQ'
        replace c0 := FQ.cellv c0 nZQ
        replace c1 := FQ.cellv c1 nZQ
        replace c2 := FQ.cellv c2 nZQ
        replace c3 := FQ.cellv c3 nZQ
        replace c4 := FQ.cellv c4 nZQ
        replace c5 := FQ.cellv c5 nZQ
        have HFQ : Hid (Fr [Q] w6 ((((w6.setCell ⟨Q, 0, none⟩ (.int .i64 0)).setCell ⟨Q, 1, none⟩ (.int .i64 0)).setCell ⟨Q, 2, none⟩ (.int .i64 0)).setCell ⟨Q, 3, none⟩ (.int .i64 0))) := FQ
        clear q0 q1 q2 q3 zQ FQ nPQ' nZQ
        generalize ((((w6.setCell ⟨Q, 0, none⟩ (.int .i64 0)).setCell ⟨Q, 1, none⟩ (.int .i64 0)).setCell ⟨Q, 2, none⟩ (.int .i64 0)).setCell ⟨Q, 3, none⟩ (.int .i64 0)) = W at *
        have q0 := r0
        have q1 := r1
        have q2 := r2
        have q3 := r3
        have zQ := rz
        clear r0 r1 r2 r3 rz
        have HG : Hid (GtAt W G D T C R B L freshG) := H6.out.keep HFQ.out (fun x hx => by have := HS6.out x hx; simp; omega)
        have HF : Hid (Fr [] w W) := F6.out.trans HFQ.out (fun x hx hm => by have := HW.out; simp at hm; omega)
        have HN : Hid (∀ x ∈ [G, D, T, C, R, B, L], ¬ x = P ∧ ¬ x = Q ∧ ¬ x = wr.heap.size) := fun x hx => by have := HS6.out x hx; omega
        have HW' : Hid ((∀ x ∈ [G, D, T, C, R, B, L], w.heap.size ≤ x) ∧ w.heap.size ≤ P ∧ w.heap.size ≤ Q ∧ ¬ P = Q ∧ w.heap.size ≤ wr.heap.size) := ⟨fun x hx => by have := HS6.out x hx; have := HW.out; omega, HW.out.2⟩
        clear HW
        have HW := HW'
        clear HW' HS6 HFQ H6 F6
        have HK : Hid (Kept freshG.d.t []) := kept_fresh
        have HWF : Hid (freshG.c.Wf) := HG.out.ct.wf
        change W.cell? ⟨Q, 0, none⟩ = some (.int .i64 freshG.c.ok) at q0
        change W.cell? ⟨Q, 1, none⟩ = some (.int .i64 freshG.c.bad) at q1
        change W.cell? ⟨Q, 2, none⟩ = some (.int .i64 freshG.c.er) at q2
        change W.cell? ⟨Q, 3, none⟩ = some (.int .i64 freshG.c.it) at q3
        generalize freshG = g at *
        generalize wr.heap.size = Z at *
        refine (under_calls D T C R B L g.d W HG.out.ld).mono ?_
        rintro e wa ⟨rfl, fa⟩
        have lP0 := lt_of_cell p0
        have lQ0 := lt_of_cell q0
        replace p0 := fa.cellv p0 (by simp)
        replace p1 := fa.cellv p1 (by simp)
        replace q0 := fa.cellv q0 (by simp)
        replace q1 := fa.cellv q1 (by simp)
        replace q2 := fa.cellv q2 (by simp)
        replace q3 := fa.cellv q3 (by simp)
        replace c0 := fa.cellv c0 (by simp)
        replace c1 := fa.cellv c1 (by simp)
        replace c2 := fa.cellv c2 (by simp)
        replace c3 := fa.cellv c3 (by simp)
        replace c4 := fa.cellv c4 (by simp)
        replace c5 := fa.cellv c5 (by simp)
        replace zP := fun o => fa.frozenv (zP o) lP0 (by simp)
        replace zQ := fun o => fa.frozenv (zQ o) lQ0 (by simp)
        have HGa : Hid (GtAt wa G D T C R B L g) := HG.out.keep fa (by simp)
        have HFa : Hid (Fr [] w wa) := HF.out.trans fa (by simp)
        clear fa HG HF lP0 lQ0
        go_wp2_with fail
        have HR : Hid (∀ X, GtAt X G D T C R B L g → Calls Try.prog 36 #[.pointer (some ⟨G, 0, none⟩), opV ⟨1, a, b, c, s, t⟩] X fun x w' => x = .returned (ansV (doG g ⟨1, a, b, c, s, t⟩).2.1 (doG g ⟨1, a, b, c, s, t⟩).2.2) ∧ GtAt w' G D T C R B L (doG g ⟨1, a, b, c, s, t⟩).1 ∧ Fr [G, D, T, C, R, B, L] X w') := fun X hX => do_calls G D T C R B L g _ X hX
        have HP : Hid _ := doG_pre g ⟨1, a, b, c, s, t⟩
        have HK1 : Hid (Kept (doG g ⟨1, a, b, c, s, t⟩).1.d.t []) := doG_kept HK.out _
        have HC : Hid (doG g ⟨1, a, b, c, s, t⟩ = (g, 0, [])) := rfl
        rw [HC.out] at HR HK1
        dsimp only at HR HK1
        clear HP
        refine (HR.out wa HGa.out).mono ?_
        rintro e wb ⟨rfl, hb, fb⟩
        have lP0 := lt_of_cell p0
        have lQ0 := lt_of_cell q0
        have nP : P ∉ [G, D, T, C, R, B, L] := fun h => (HN.out P h).1 rfl
        have nQ : Q ∉ [G, D, T, C, R, B, L] := fun h => (HN.out Q h).2.1 rfl
        have nZ : Z ∉ [G, D, T, C, R, B, L] := fun h => (HN.out Z h).2.2 rfl
        replace p0 := fb.cellv p0 nP
        replace p1 := fb.cellv p1 nP
        replace q0 := fb.cellv q0 nQ
        replace q1 := fb.cellv q1 nQ
        replace q2 := fb.cellv q2 nQ
        replace q3 := fb.cellv q3 nQ
        replace c0 := fb.cellv c0 nZ
        replace c1 := fb.cellv c1 nZ
        replace c2 := fb.cellv c2 nZ
        replace c3 := fb.cellv c3 nZ
        replace c4 := fb.cellv c4 nZ
        replace c5 := fb.cellv c5 nZ
        replace zP := fun o => fb.frozenv (zP o) lP0 nP
        replace zQ := fun o => fb.frozenv (zQ o) lQ0 nQ
        have HGb : Hid (GtAt wb G D T C R B L g) := hb
        have HFb : Hid (Fr [] w wb) := HFa.out.trans fb (fun x hx hm => by have := HW.out.1 x hm; omega)
        clear fb hb HR lP0 lQ0 nP nQ nZ HGa HFa
        unfold ansV S
        have lP0 := lt_of_cell p0
        have lQ0 := lt_of_cell q0
        have lZ0 := lt_of_cell c0
        have n1 : ¬ P = wb.heap.size := by omega
        have n2 : ¬ Q = wb.heap.size := by omega
        have n3 : ¬ Z = wb.heap.size := by omega
        go_wp2_with fail
        have y0 : (wb.alloc (Obj.cells #[.int .i64 0, .int .i64 0, .int .i64 0, .string ⟨#[]⟩] 68)).cell? ⟨wb.heap.size, 0, none⟩ = some (.int .i64 0) := by simp [go_sem]
        have y1 : (wb.alloc (Obj.cells #[.int .i64 0, .int .i64 0, .int .i64 0, .string ⟨#[]⟩] 68)).cell? ⟨wb.heap.size, 1, none⟩ = some (.int .i64 0) := by simp [go_sem]
        have y2 : (wb.alloc (Obj.cells #[.int .i64 0, .int .i64 0, .int .i64 0, .string ⟨#[]⟩] 68)).cell? ⟨wb.heap.size, 2, none⟩ = some (.int .i64 0) := by simp [go_sem]
        have y3 : (wb.alloc (Obj.cells #[.int .i64 0, .int .i64 0, .int .i64 0, .string ⟨#[]⟩] 68)).cell? ⟨wb.heap.size, 3, none⟩ = some (.string ⟨#[]⟩) := by simp [go_sem]
        have fy : Fr [] wb (wb.alloc (Obj.cells #[.int .i64 0, .int .i64 0, .int .i64 0, .string ⟨#[]⟩] 68)) := (Fr.refl _ _).alloc _
        replace p0 := fy.cellv p0 (by simp)
        replace p1 := fy.cellv p1 (by simp)
        replace q0 := fy.cellv q0 (by simp)
        replace q1 := fy.cellv q1 (by simp)
        replace q2 := fy.cellv q2 (by simp)
        replace q3 := fy.cellv q3 (by simp)
        replace c0 := fy.cellv c0 (by simp)
        replace c1 := fy.cellv c1 (by simp)
        replace c2 := fy.cellv c2 (by simp)
        replace c3 := fy.cellv c3 (by simp)
        replace c4 := fy.cellv c4 (by simp)
        replace c5 := fy.cellv c5 (by simp)
        replace zP := fun o => fy.frozenv (zP o) lP0 (by simp)
        replace zQ := fun o => fy.frozenv (zQ o) lQ0 (by simp)
        have HGc : Hid (GtAt (wb.alloc (Obj.cells #[.int .i64 0, .int .i64 0, .int .i64 0, .string ⟨#[]⟩] 68)) G D T C R B L g) := HGb.out.keep fy (by simp)
        have HFc : Hid (Fr [] w (wb.alloc (Obj.cells #[.int .i64 0, .int .i64 0, .int .i64 0, .string ⟨#[]⟩] 68))) := HFb.out.trans fy (by simp)
        have lPY : P < wb.heap.size := lP0
        have lQY : Q < wb.heap.size := lQ0
        have lZY : Z < wb.heap.size := lZ0
        generalize (wb.alloc (Obj.cells #[.int .i64 0, .int .i64 0, .int .i64 0, .string ⟨#[]⟩] 68)) = wc at *
        generalize wb.heap.size = Y at *
        clear fy lP0 lQ0 lZ0 n1 n2 n3 HGb HFb
        refine (holds_calls D T C R B L g.d ⟨1, a, b, c, s, t⟩ 0 [] g.d.show wc HGc.out.ld HK1.out.held (by decide) (fun _ => rfl) (fun h => by simp at h)).mono ?_
        rintro e wd ⟨rfl, fd⟩
        have lP0 := lt_of_cell p0
        have lQ0 := lt_of_cell q0
        replace p0 := fd.cellv p0 (by simp)
        replace p1 := fd.cellv p1 (by simp)
        replace q0 := fd.cellv q0 (by simp)
        replace q1 := fd.cellv q1 (by simp)
        replace q2 := fd.cellv q2 (by simp)
        replace q3 := fd.cellv q3 (by simp)
        replace c0 := fd.cellv c0 (by simp)
        replace c1 := fd.cellv c1 (by simp)
        replace c2 := fd.cellv c2 (by simp)
        replace c3 := fd.cellv c3 (by simp)
        replace c4 := fd.cellv c4 (by simp)
        replace c5 := fd.cellv c5 (by simp)
        replace y0 := fd.cellv y0 (by simp)
        replace y1 := fd.cellv y1 (by simp)
        replace y2 := fd.cellv y2 (by simp)
        replace y3 := fd.cellv y3 (by simp)
        replace zP := fun o => fd.frozenv (zP o) lP0 (by simp)
        replace zQ := fun o => fd.frozenv (zQ o) lQ0 (by simp)
        have HGd : Hid (GtAt wd G D T C R B L g) := HGc.out.keep fd (by simp)
        have HFd : Hid (Fr [] w wd) := HFc.out.trans fd (by simp)
        clear fd lP0 lQ0 HGc HFc
        clear c1 c2 c3 c4 c5 y0 y1 y2 y3
        go_wp2_with fail
        refine (gshow_calls G D T C R B L g wd HGd.out).mono ?_
        rintro e wg ⟨rfl, fg⟩
        have lP0 := lt_of_cell p0
        have lQ0 := lt_of_cell q0
        replace p0 := fg.cellv p0 (by simp)
        replace p1 := fg.cellv p1 (by simp)
        replace q0 := fg.cellv q0 (by simp)
        replace q1 := fg.cellv q1 (by simp)
        replace q2 := fg.cellv q2 (by simp)
        replace q3 := fg.cellv q3 (by simp)
        replace zP := fun o => fg.frozenv (zP o) lP0 (by simp)
        replace zQ := fun o => fg.frozenv (zQ o) lQ0 (by simp)
        have HGg : Hid (GtAt wg G D T C R B L g) := HGd.out.keep fg (by simp)
        have HFg : Hid (Fr [] w wg) := HFd.out.trans fg (by simp)
        clear fg lP0 lQ0
        try clear c0
        go_wp2_with fail
        refine (head_calls g.c wg HGg.out.ct.wf).mono ?_
        rintro e wh ⟨rfl, fh⟩
        have lP0 := lt_of_cell p0
        have lQ0 := lt_of_cell q0
        replace p0 := fh.cellv p0 (by simp)
        replace p1 := fh.cellv p1 (by simp)
        replace q0 := fh.cellv q0 (by simp)
        replace q1 := fh.cellv q1 (by simp)
        replace q2 := fh.cellv q2 (by simp)
        replace q3 := fh.cellv q3 (by simp)
        replace zP := fun o => fh.frozenv (zP o) lP0 (by simp)
        replace zQ := fun o => fh.frozenv (zQ o) lQ0 (by simp)
        have HGh : Hid (GtAt wh G D T C R B L g) := HGg.out.keep fh (by simp)
        have HFh : Hid (Fr [] w wh) := HFg.out.trans fh (by simp)
        clear fh lP0 lQ0
        go_wp2_with fail
        refine (under_calls D T C R B L g.d wh HGh.out.ld).mono ?_
        rintro e wi ⟨rfl, fi⟩
        have lP0 := lt_of_cell p0
        have lQ0 := lt_of_cell q0
        replace p0 := fi.cellv p0 (by simp)
        replace p1 := fi.cellv p1 (by simp)
        replace q0 := fi.cellv q0 (by simp)
        replace q1 := fi.cellv q1 (by simp)
        replace q2 := fi.cellv q2 (by simp)
        replace q3 := fi.cellv q3 (by simp)
        replace zP := fun o => fi.frozenv (zP o) lP0 (by simp)
        replace zQ := fun o => fi.frozenv (zQ o) lQ0 (by simp)
        have HGi : Hid (GtAt wi G D T C R B L g) := HGh.out.keep fi (by simp)
        have HFi : Hid (Fr [] w wi) := HFh.out.trans fi (by simp)
        clear fi lP0 lQ0
        have hl1 := head_len g.c
        have hl2 := shB_show g.d (by have := HGi.out.ld.tb.wf.tr; omega)
        obtain ⟨x, ex, ha⟩ := add_ex g.c.head g.d.show (by omega)
        have hx : x = g.show := ex
        rw [← hx]
        clear ex hx hl1 hl2
        have hne := run_neqS x
        have hgd := fun o1 o2 W => run_guardN o1 o2 x x W
        have HI : Hid (KInv w P Q G D T C R B L g wi) := ⟨HGi.out, HK1.out, p0, p1, q0, q1, q2, q3, zP, zQ, HFi.out, fun x hx => ⟨HW.out.1 x hx, (HN.out x hx).1, (HN.out x hx).2.1⟩, HW.out.2.1, HW.out.2.2.1, nPQ⟩
        clear p0 p1 q0 q1 q2 q3 zP zQ
        go_wp2_with fail
        exact ⟨⟨k + 1, G, D, T, C, R, B, L, g, by have := HMEAS.out; omega, by simp, rfl, HI.out⟩, by have := HMEAS.out; simp [intOf]; omega⟩
      · have j1 : (kd == 1) = false := by simpa using h1
        clear h1
        by_cases h2 : kd = 2
        · subst h2
          go_wp2_with fail
          have c0 : (wr.alloc (Obj.cells #[.int .i64 2, .int .i64 a, .int .i64 b, .int .i64 c, .string s, .string t] 65)).cell? ⟨wr.heap.size, 0, none⟩ = some (.int .i64 2) := by simp [go_sem]
          have c1 : (wr.alloc (Obj.cells #[.int .i64 2, .int .i64 a, .int .i64 b, .int .i64 c, .string s, .string t] 65)).cell? ⟨wr.heap.size, 1, none⟩ = some (.int .i64 a) := by simp [go_sem]
          have c2 : (wr.alloc (Obj.cells #[.int .i64 2, .int .i64 a, .int .i64 b, .int .i64 c, .string s, .string t] 65)).cell? ⟨wr.heap.size, 2, none⟩ = some (.int .i64 b) := by simp [go_sem]
          have c3 : (wr.alloc (Obj.cells #[.int .i64 2, .int .i64 a, .int .i64 b, .int .i64 c, .string s, .string t] 65)).cell? ⟨wr.heap.size, 3, none⟩ = some (.int .i64 c) := by simp [go_sem]
          have c4 : (wr.alloc (Obj.cells #[.int .i64 2, .int .i64 a, .int .i64 b, .int .i64 c, .string s, .string t] 65)).cell? ⟨wr.heap.size, 4, none⟩ = some (.string s) := by simp [go_sem]
          have c5 : (wr.alloc (Obj.cells #[.int .i64 2, .int .i64 a, .int .i64 b, .int .i64 c, .string s, .string t] 65)).cell? ⟨wr.heap.size, 5, none⟩ = some (.string t) := by simp [go_sem]
          have fw : Fr [] wr (wr.alloc (Obj.cells #[.int .i64 2, .int .i64 a, .int .i64 b, .int .i64 c, .string s, .string t] 65)) := (Fr.refl _ _).alloc _
          have lP0 := lt_of_cell p0
          have lQ0 := lt_of_cell q0
          replace p0 := fw.cellv p0 (by simp)
          replace p1 := fw.cellv p1 (by simp)
          replace q0 := fw.cellv q0 (by simp)
          replace q1 := fw.cellv q1 (by simp)
          replace q2 := fw.cellv q2 (by simp)
          replace q3 := fw.cellv q3 (by simp)
          replace zP := fun o => fw.frozenv (zP o) lP0 (by simp)
          replace zQ := fun o => fw.frozenv (zQ o) lQ0 (by simp)
          have HG : Hid (GtAt (wr.alloc (Obj.cells #[.int .i64 2, .int .i64 a, .int .i64 b, .int .i64 c, .string s, .string t] 65)) G D T C R B L g) := HGr.out.keep fw (by simp)
          have HF : Hid (Fr [] w (wr.alloc (Obj.cells #[.int .i64 2, .int .i64 a, .int .i64 b, .int .i64 c, .string s, .string t] 65))) := HFr.out.trans fw (by simp)
          generalize (wr.alloc (Obj.cells #[.int .i64 2, .int .i64 a, .int .i64 b, .int .i64 c, .string s, .string t] 65)) = W at *
          clear fw lP0 lQ0 HGr HFr o0 o1 o2 o3 o4 o5 n1 n2 HLT
          generalize wr.heap.size = Z at *
          refine (under_calls D T C R B L g.d W HG.out.ld).mono ?_
          rintro e wa ⟨rfl, fa⟩
          have lP0 := lt_of_cell p0
          have lQ0 := lt_of_cell q0
          replace p0 := fa.cellv p0 (by simp)
          replace p1 := fa.cellv p1 (by simp)
          replace q0 := fa.cellv q0 (by simp)
          replace q1 := fa.cellv q1 (by simp)
          replace q2 := fa.cellv q2 (by simp)
          replace q3 := fa.cellv q3 (by simp)
          replace c0 := fa.cellv c0 (by simp)
          replace c1 := fa.cellv c1 (by simp)
          replace c2 := fa.cellv c2 (by simp)
          replace c3 := fa.cellv c3 (by simp)
          replace c4 := fa.cellv c4 (by simp)
          replace c5 := fa.cellv c5 (by simp)
          replace zP := fun o => fa.frozenv (zP o) lP0 (by simp)
          replace zQ := fun o => fa.frozenv (zQ o) lQ0 (by simp)
          have HGa : Hid (GtAt wa G D T C R B L g) := HG.out.keep fa (by simp)
          have HFa : Hid (Fr [] w wa) := HF.out.trans fa (by simp)
          clear fa HG HF lP0 lQ0
          go_wp2_with fail
          have HR : Hid (∀ X, GtAt X G D T C R B L g → Calls Try.prog 36 #[.pointer (some ⟨G, 0, none⟩), opV ⟨2, a, b, c, s, t⟩] X fun x w' => x = .returned (ansV (doG g ⟨2, a, b, c, s, t⟩).2.1 (doG g ⟨2, a, b, c, s, t⟩).2.2) ∧ GtAt w' G D T C R B L (doG g ⟨2, a, b, c, s, t⟩).1 ∧ Fr [G, D, T, C, R, B, L] X w') := fun X hX => do_calls G D T C R B L g _ X hX
          have HP : Hid _ := doG_pre g ⟨2, a, b, c, s, t⟩
          have HK1 : Hid (Kept (doG g ⟨2, a, b, c, s, t⟩).1.d.t []) := doG_kept HK.out _
          have HC : Hid ((doG g ⟨2, a, b, c, s, t⟩).1.c = g.c.count (doG g ⟨2, a, b, c, s, t⟩).2.1) := rfl
          generalize doG g ⟨2, a, b, c, s, t⟩ = r at *
          obtain ⟨g1, e1, an⟩ := r
          dsimp only at HR HP HK1 HC
          refine (HR.out wa HGa.out).mono ?_
          rintro e wb ⟨rfl, hb, fb⟩
          have lP0 := lt_of_cell p0
          have lQ0 := lt_of_cell q0
          have nP : P ∉ [G, D, T, C, R, B, L] := fun h => (HN.out P h).1 rfl
          have nQ : Q ∉ [G, D, T, C, R, B, L] := fun h => (HN.out Q h).2.1 rfl
          have nZ : Z ∉ [G, D, T, C, R, B, L] := fun h => (HN.out Z h).2.2 rfl
          replace p0 := fb.cellv p0 nP
          replace p1 := fb.cellv p1 nP
          replace q0 := fb.cellv q0 nQ
          replace q1 := fb.cellv q1 nQ
          replace q2 := fb.cellv q2 nQ
          replace q3 := fb.cellv q3 nQ
          replace c0 := fb.cellv c0 nZ
          replace c1 := fb.cellv c1 nZ
          replace c2 := fb.cellv c2 nZ
          replace c3 := fb.cellv c3 nZ
          replace c4 := fb.cellv c4 nZ
          replace c5 := fb.cellv c5 nZ
          replace zP := fun o => fb.frozenv (zP o) lP0 nP
          replace zQ := fun o => fb.frozenv (zQ o) lQ0 nQ
          have HGb : Hid (GtAt wb G D T C R B L g1) := hb
          have HFb : Hid (Fr [] w wb) := HFa.out.trans fb (fun x hx hm => by have := HW.out.1 x hm; omega)
          clear fb hb HR lP0 lQ0 nP nQ nZ HGa HFa
          unfold ansV S
          have lP0 := lt_of_cell p0
          have lQ0 := lt_of_cell q0
          have lZ0 := lt_of_cell c0
          have n1 : ¬ P = wb.heap.size := by omega
          have n2 : ¬ Q = wb.heap.size := by omega
          have n3 : ¬ Z = wb.heap.size := by omega
          go_wp2_with fail
          have y0 : (wb.alloc (Obj.cells #[.int .i64 e1, .int .i64 0, .int .i64 0, .string ⟨an.toArray⟩] 68)).cell? ⟨wb.heap.size, 0, none⟩ = some (.int .i64 e1) := by simp [go_sem]
          have y1 : (wb.alloc (Obj.cells #[.int .i64 e1, .int .i64 0, .int .i64 0, .string ⟨an.toArray⟩] 68)).cell? ⟨wb.heap.size, 1, none⟩ = some (.int .i64 0) := by simp [go_sem]
          have y2 : (wb.alloc (Obj.cells #[.int .i64 e1, .int .i64 0, .int .i64 0, .string ⟨an.toArray⟩] 68)).cell? ⟨wb.heap.size, 2, none⟩ = some (.int .i64 0) := by simp [go_sem]
          have y3 : (wb.alloc (Obj.cells #[.int .i64 e1, .int .i64 0, .int .i64 0, .string ⟨an.toArray⟩] 68)).cell? ⟨wb.heap.size, 3, none⟩ = some (.string ⟨an.toArray⟩) := by simp [go_sem]
          have fy : Fr [] wb (wb.alloc (Obj.cells #[.int .i64 e1, .int .i64 0, .int .i64 0, .string ⟨an.toArray⟩] 68)) := (Fr.refl _ _).alloc _
          replace p0 := fy.cellv p0 (by simp)
          replace p1 := fy.cellv p1 (by simp)
          replace q0 := fy.cellv q0 (by simp)
          replace q1 := fy.cellv q1 (by simp)
          replace q2 := fy.cellv q2 (by simp)
          replace q3 := fy.cellv q3 (by simp)
          replace c0 := fy.cellv c0 (by simp)
          replace c1 := fy.cellv c1 (by simp)
          replace c2 := fy.cellv c2 (by simp)
          replace c3 := fy.cellv c3 (by simp)
          replace c4 := fy.cellv c4 (by simp)
          replace c5 := fy.cellv c5 (by simp)
          replace zP := fun o => fy.frozenv (zP o) lP0 (by simp)
          replace zQ := fun o => fy.frozenv (zQ o) lQ0 (by simp)
          have HGc : Hid (GtAt (wb.alloc (Obj.cells #[.int .i64 e1, .int .i64 0, .int .i64 0, .string ⟨an.toArray⟩] 68)) G D T C R B L g1) := HGb.out.keep fy (by simp)
          have HFc : Hid (Fr [] w (wb.alloc (Obj.cells #[.int .i64 e1, .int .i64 0, .int .i64 0, .string ⟨an.toArray⟩] 68))) := HFb.out.trans fy (by simp)
          have lPY : P < wb.heap.size := lP0
          have lQY : Q < wb.heap.size := lQ0
          have lZY : Z < wb.heap.size := lZ0
          generalize (wb.alloc (Obj.cells #[.int .i64 e1, .int .i64 0, .int .i64 0, .string ⟨an.toArray⟩] 68)) = wc at *
          generalize wb.heap.size = Y at *
          clear fy lP0 lQ0 lZ0 n1 n2 n3 HGb HFb
          refine (tally_calls g.c e1 wc HWF.out).mono ?_
          rintro e wt ⟨rfl, ft⟩
          have lP0 := lt_of_cell p0
          have lQ0 := lt_of_cell q0
          replace p0 := ft.cellv p0 (by simp)
          replace p1 := ft.cellv p1 (by simp)
          replace q0 := ft.cellv q0 (by simp)
          replace q1 := ft.cellv q1 (by simp)
          replace q2 := ft.cellv q2 (by simp)
          replace q3 := ft.cellv q3 (by simp)
          replace c0 := ft.cellv c0 (by simp)
          replace c1 := ft.cellv c1 (by simp)
          replace c2 := ft.cellv c2 (by simp)
          replace c3 := ft.cellv c3 (by simp)
          replace c4 := ft.cellv c4 (by simp)
          replace c5 := ft.cellv c5 (by simp)
          replace y0 := ft.cellv y0 (by simp)
          replace y1 := ft.cellv y1 (by simp)
          replace y2 := ft.cellv y2 (by simp)
          replace y3 := ft.cellv y3 (by simp)
          replace zP := fun o => ft.frozenv (zP o) lP0 (by simp)
          replace zQ := fun o => ft.frozenv (zQ o) lQ0 (by simp)
          have HGt : Hid (GtAt wt G D T C R B L g1) := HGc.out.keep ft (by simp)
          have HFt : Hid (Fr [] w wt) := HFc.out.trans ft (by simp)
          clear ft lP0 lQ0 HGc HFc
          rw [← HC.out]
          unfold ctV
          go_wp2_with fail
          have FQ : Fr [Q] wt ((((wt.setCell ⟨Q, 0, none⟩ (.int .i64 g1.c.ok)).setCell ⟨Q, 1, none⟩ (.int .i64 g1.c.bad)).setCell ⟨Q, 2, none⟩ (.int .i64 g1.c.er)).setCell ⟨Q, 3, none⟩ (.int .i64 g1.c.it)) := ((((Fr.refl _ _).setCell (by simp) _).setCell (by simp) _).setCell (by simp) _).setCell (by simp) _
          have r0 : ((((wt.setCell ⟨Q, 0, none⟩ (.int .i64 g1.c.ok)).setCell ⟨Q, 1, none⟩ (.int .i64 g1.c.bad)).setCell ⟨Q, 2, none⟩ (.int .i64 g1.c.er)).setCell ⟨Q, 3, none⟩ (.int .i64 g1.c.it)).cell? ⟨Q, 0, none⟩ = some (.int .i64 g1.c.ok) := by simp [cell_set, q0, q1, q2, q3]
          have r1 : ((((wt.setCell ⟨Q, 0, none⟩ (.int .i64 g1.c.ok)).setCell ⟨Q, 1, none⟩ (.int .i64 g1.c.bad)).setCell ⟨Q, 2, none⟩ (.int .i64 g1.c.er)).setCell ⟨Q, 3, none⟩ (.int .i64 g1.c.it)).cell? ⟨Q, 1, none⟩ = some (.int .i64 g1.c.bad) := by simp [cell_set, q0, q1, q2, q3]
          have r2 : ((((wt.setCell ⟨Q, 0, none⟩ (.int .i64 g1.c.ok)).setCell ⟨Q, 1, none⟩ (.int .i64 g1.c.bad)).setCell ⟨Q, 2, none⟩ (.int .i64 g1.c.er)).setCell ⟨Q, 3, none⟩ (.int .i64 g1.c.it)).cell? ⟨Q, 2, none⟩ = some (.int .i64 g1.c.er) := by simp [cell_set, q0, q1, q2, q3]
          have r3 : ((((wt.setCell ⟨Q, 0, none⟩ (.int .i64 g1.c.ok)).setCell ⟨Q, 1, none⟩ (.int .i64 g1.c.bad)).setCell ⟨Q, 2, none⟩ (.int .i64 g1.c.er)).setCell ⟨Q, 3, none⟩ (.int .i64 g1.c.it)).cell? ⟨Q, 3, none⟩ = some (.int .i64 g1.c.it) := by simp [cell_set, q0, q1, q2, q3]
          have rz : ∀ o, ((((wt.setCell ⟨Q, 0, none⟩ (.int .i64 g1.c.ok)).setCell ⟨Q, 1, none⟩ (.int .i64 g1.c.bad)).setCell ⟨Q, 2, none⟩ (.int .i64 g1.c.er)).setCell ⟨Q, 3, none⟩ (.int .i64 g1.c.it)).frozen? ⟨Q, o, none⟩ = false := fun o => by simp [zQ o]
          have mP : P ∉ [Q] := by simp; omega
          have mZ : Z ∉ [Q] := by simp; omega
          have mY : Y ∉ [Q] := by simp; omega
          have lP0 := lt_of_cell p0
          replace p0 := FQ.cellv p0 mP
          replace p1 := FQ.cellv p1 mP
          replace c0 := FQ.cellv c0 mZ
          replace c1 := FQ.cellv c1 mZ
          replace c2 := FQ.cellv c2 mZ
          replace c3 := FQ.cellv c3 mZ
          replace c4 := FQ.cellv c4 mZ
          replace c5 := FQ.cellv c5 mZ
          replace y0 := FQ.cellv y0 mY
          replace y1 := FQ.cellv y1 mY
          replace y2 := FQ.cellv y2 mY
          replace y3 := FQ.cellv y3 mY
          replace zP := fun o => FQ.frozenv (zP o) lP0 mP
          have HGq : Hid (GtAt ((((wt.setCell ⟨Q, 0, none⟩ (.int .i64 g1.c.ok)).setCell ⟨Q, 1, none⟩ (.int .i64 g1.c.bad)).setCell ⟨Q, 2, none⟩ (.int .i64 g1.c.er)).setCell ⟨Q, 3, none⟩ (.int .i64 g1.c.it)) G D T C R B L g1) := HGt.out.keep FQ (fun x hx => by have := HN.out x hx; simp; omega)
          have HFq : Hid (Fr [] w ((((wt.setCell ⟨Q, 0, none⟩ (.int .i64 g1.c.ok)).setCell ⟨Q, 1, none⟩ (.int .i64 g1.c.bad)).setCell ⟨Q, 2, none⟩ (.int .i64 g1.c.er)).setCell ⟨Q, 3, none⟩ (.int .i64 g1.c.it))) := HFt.out.trans FQ (fun x hx hm => by have := HW.out; simp at hm; omega)
          clear q0 q1 q2 q3 zQ FQ mP mZ mY lP0 HGt HFt
          generalize ((((wt.setCell ⟨Q, 0, none⟩ (.int .i64 g1.c.ok)).setCell ⟨Q, 1, none⟩ (.int .i64 g1.c.bad)).setCell ⟨Q, 2, none⟩ (.int .i64 g1.c.er)).setCell ⟨Q, 3, none⟩ (.int .i64 g1.c.it)) = wq at *
          have q0 := r0
          have q1 := r1
          have q2 := r2
          have q3 := r3
          have zQ := rz
          clear r0 r1 r2 r3 rz
          refine (holds_calls D T C R B L g1.d ⟨2, a, b, c, s, t⟩ e1 an g.d.show wq HGq.out.ld HK1.out.held HP.out.1 HP.out.2.1 HP.out.2.2).mono ?_
          rintro e wd ⟨rfl, fd⟩
          have lP0 := lt_of_cell p0
          have lQ0 := lt_of_cell q0
          replace p0 := fd.cellv p0 (by simp)
          replace p1 := fd.cellv p1 (by simp)
          replace q0 := fd.cellv q0 (by simp)
          replace q1 := fd.cellv q1 (by simp)
          replace q2 := fd.cellv q2 (by simp)
          replace q3 := fd.cellv q3 (by simp)
          replace c0 := fd.cellv c0 (by simp)
          replace c1 := fd.cellv c1 (by simp)
          replace c2 := fd.cellv c2 (by simp)
          replace c3 := fd.cellv c3 (by simp)
          replace c4 := fd.cellv c4 (by simp)
          replace c5 := fd.cellv c5 (by simp)
          replace y0 := fd.cellv y0 (by simp)
          replace y1 := fd.cellv y1 (by simp)
          replace y2 := fd.cellv y2 (by simp)
          replace y3 := fd.cellv y3 (by simp)
          replace zP := fun o => fd.frozenv (zP o) lP0 (by simp)
          replace zQ := fun o => fd.frozenv (zQ o) lQ0 (by simp)
          have HGd : Hid (GtAt wd G D T C R B L g1) := HGq.out.keep fd (by simp)
          have HFd : Hid (Fr [] w wd) := HFq.out.trans fd (by simp)
          clear fd lP0 lQ0 HGq HFq
          clear c1 c2 c3 c4 c5 y0 y1 y2 y3
          go_wp2_with fail
          refine (gshow_calls G D T C R B L g1 wd HGd.out).mono ?_
          rintro e wg ⟨rfl, fg⟩
          have lP0 := lt_of_cell p0
          have lQ0 := lt_of_cell q0
          replace p0 := fg.cellv p0 (by simp)
          replace p1 := fg.cellv p1 (by simp)
          replace q0 := fg.cellv q0 (by simp)
          replace q1 := fg.cellv q1 (by simp)
          replace q2 := fg.cellv q2 (by simp)
          replace q3 := fg.cellv q3 (by simp)
          replace zP := fun o => fg.frozenv (zP o) lP0 (by simp)
          replace zQ := fun o => fg.frozenv (zQ o) lQ0 (by simp)
          have HGg : Hid (GtAt wg G D T C R B L g1) := HGd.out.keep fg (by simp)
          have HFg : Hid (Fr [] w wg) := HFd.out.trans fg (by simp)
          clear fg lP0 lQ0
          try clear c0
          go_wp2_with fail
          refine (head_calls g1.c wg HGg.out.ct.wf).mono ?_
          rintro e wh ⟨rfl, fh⟩
          have lP0 := lt_of_cell p0
          have lQ0 := lt_of_cell q0
          replace p0 := fh.cellv p0 (by simp)
          replace p1 := fh.cellv p1 (by simp)
          replace q0 := fh.cellv q0 (by simp)
          replace q1 := fh.cellv q1 (by simp)
          replace q2 := fh.cellv q2 (by simp)
          replace q3 := fh.cellv q3 (by simp)
          replace zP := fun o => fh.frozenv (zP o) lP0 (by simp)
          replace zQ := fun o => fh.frozenv (zQ o) lQ0 (by simp)
          have HGh : Hid (GtAt wh G D T C R B L g1) := HGg.out.keep fh (by simp)
          have HFh : Hid (Fr [] w wh) := HFg.out.trans fh (by simp)
          clear fh lP0 lQ0
          go_wp2_with fail
          refine (under_calls D T C R B L g1.d wh HGh.out.ld).mono ?_
          rintro e wi ⟨rfl, fi⟩
          have lP0 := lt_of_cell p0
          have lQ0 := lt_of_cell q0
          replace p0 := fi.cellv p0 (by simp)
          replace p1 := fi.cellv p1 (by simp)
          replace q0 := fi.cellv q0 (by simp)
          replace q1 := fi.cellv q1 (by simp)
          replace q2 := fi.cellv q2 (by simp)
          replace q3 := fi.cellv q3 (by simp)
          replace zP := fun o => fi.frozenv (zP o) lP0 (by simp)
          replace zQ := fun o => fi.frozenv (zQ o) lQ0 (by simp)
          have HGi : Hid (GtAt wi G D T C R B L g1) := HGh.out.keep fi (by simp)
          have HFi : Hid (Fr [] w wi) := HFh.out.trans fi (by simp)
          clear fi lP0 lQ0
          have hl1 := head_len g1.c
          have hl2 := shB_show g1.d (by have := HGi.out.ld.tb.wf.tr; omega)
          obtain ⟨x, ex, ha⟩ := add_ex g1.c.head g1.d.show (by omega)
          have hx : x = g1.show := ex
          rw [← hx]
          clear ex hx hl1 hl2
          have hne := run_neqS x
          have hgd := fun o1 o2 W => run_guardN o1 o2 x x W
          have HI : Hid (KInv w P Q G D T C R B L g1 wi) := ⟨HGi.out, HK1.out, p0, p1, q0, q1, q2, q3, zP, zQ, HFi.out, fun x hx => ⟨HW.out.1 x hx, (HN.out x hx).1, (HN.out x hx).2.1⟩, HW.out.2.1, HW.out.2.2.1, nPQ⟩
          clear p0 p1 q0 q1 q2 q3 zP zQ
          go_wp2_with fail
          exact ⟨⟨k + 1, G, D, T, C, R, B, L, g1, by have := HMEAS.out; omega, by simp, rfl, HI.out⟩, by have := HMEAS.out; simp [intOf]; omega⟩
        · have j2 : (kd == 2) = false := by simpa using h2
          clear h2
          by_cases h3 : kd = 3
          · subst h3
            go_wp2_with fail
            have c0 : (wr.alloc (Obj.cells #[.int .i64 3, .int .i64 a, .int .i64 b, .int .i64 c, .string s, .string t] 65)).cell? ⟨wr.heap.size, 0, none⟩ = some (.int .i64 3) := by simp [go_sem]
            have c1 : (wr.alloc (Obj.cells #[.int .i64 3, .int .i64 a, .int .i64 b, .int .i64 c, .string s, .string t] 65)).cell? ⟨wr.heap.size, 1, none⟩ = some (.int .i64 a) := by simp [go_sem]
            have c2 : (wr.alloc (Obj.cells #[.int .i64 3, .int .i64 a, .int .i64 b, .int .i64 c, .string s, .string t] 65)).cell? ⟨wr.heap.size, 2, none⟩ = some (.int .i64 b) := by simp [go_sem]
            have c3 : (wr.alloc (Obj.cells #[.int .i64 3, .int .i64 a, .int .i64 b, .int .i64 c, .string s, .string t] 65)).cell? ⟨wr.heap.size, 3, none⟩ = some (.int .i64 c) := by simp [go_sem]
            have c4 : (wr.alloc (Obj.cells #[.int .i64 3, .int .i64 a, .int .i64 b, .int .i64 c, .string s, .string t] 65)).cell? ⟨wr.heap.size, 4, none⟩ = some (.string s) := by simp [go_sem]
            have c5 : (wr.alloc (Obj.cells #[.int .i64 3, .int .i64 a, .int .i64 b, .int .i64 c, .string s, .string t] 65)).cell? ⟨wr.heap.size, 5, none⟩ = some (.string t) := by simp [go_sem]
            have fw : Fr [] wr (wr.alloc (Obj.cells #[.int .i64 3, .int .i64 a, .int .i64 b, .int .i64 c, .string s, .string t] 65)) := (Fr.refl _ _).alloc _
            have lP0 := lt_of_cell p0
            have lQ0 := lt_of_cell q0
            replace p0 := fw.cellv p0 (by simp)
            replace p1 := fw.cellv p1 (by simp)
            replace q0 := fw.cellv q0 (by simp)
            replace q1 := fw.cellv q1 (by simp)
            replace q2 := fw.cellv q2 (by simp)
            replace q3 := fw.cellv q3 (by simp)
            replace zP := fun o => fw.frozenv (zP o) lP0 (by simp)
            replace zQ := fun o => fw.frozenv (zQ o) lQ0 (by simp)
            have HG : Hid (GtAt (wr.alloc (Obj.cells #[.int .i64 3, .int .i64 a, .int .i64 b, .int .i64 c, .string s, .string t] 65)) G D T C R B L g) := HGr.out.keep fw (by simp)
            have HF : Hid (Fr [] w (wr.alloc (Obj.cells #[.int .i64 3, .int .i64 a, .int .i64 b, .int .i64 c, .string s, .string t] 65))) := HFr.out.trans fw (by simp)
            generalize (wr.alloc (Obj.cells #[.int .i64 3, .int .i64 a, .int .i64 b, .int .i64 c, .string s, .string t] 65)) = W at *
            clear fw lP0 lQ0 HGr HFr o0 o1 o2 o3 o4 o5 n1 n2 HLT
            generalize wr.heap.size = Z at *
            refine (under_calls D T C R B L g.d W HG.out.ld).mono ?_
            rintro e wa ⟨rfl, fa⟩
            have lP0 := lt_of_cell p0
            have lQ0 := lt_of_cell q0
            replace p0 := fa.cellv p0 (by simp)
            replace p1 := fa.cellv p1 (by simp)
            replace q0 := fa.cellv q0 (by simp)
            replace q1 := fa.cellv q1 (by simp)
            replace q2 := fa.cellv q2 (by simp)
            replace q3 := fa.cellv q3 (by simp)
            replace c0 := fa.cellv c0 (by simp)
            replace c1 := fa.cellv c1 (by simp)
            replace c2 := fa.cellv c2 (by simp)
            replace c3 := fa.cellv c3 (by simp)
            replace c4 := fa.cellv c4 (by simp)
            replace c5 := fa.cellv c5 (by simp)
            replace zP := fun o => fa.frozenv (zP o) lP0 (by simp)
            replace zQ := fun o => fa.frozenv (zQ o) lQ0 (by simp)
            have HGa : Hid (GtAt wa G D T C R B L g) := HG.out.keep fa (by simp)
            have HFa : Hid (Fr [] w wa) := HF.out.trans fa (by simp)
            clear fa HG HF lP0 lQ0
            go_wp2_with fail
            have HR : Hid (∀ X, GtAt X G D T C R B L g → Calls Try.prog 36 #[.pointer (some ⟨G, 0, none⟩), opV ⟨3, a, b, c, s, t⟩] X fun x w' => x = .returned (ansV (doG g ⟨3, a, b, c, s, t⟩).2.1 (doG g ⟨3, a, b, c, s, t⟩).2.2) ∧ GtAt w' G D T C R B L (doG g ⟨3, a, b, c, s, t⟩).1 ∧ Fr [G, D, T, C, R, B, L] X w') := fun X hX => do_calls G D T C R B L g _ X hX
            have HP : Hid _ := doG_pre g ⟨3, a, b, c, s, t⟩
            have HK1 : Hid (Kept (doG g ⟨3, a, b, c, s, t⟩).1.d.t []) := doG_kept HK.out _
            have HC : Hid (doG g ⟨3, a, b, c, s, t⟩ = (g, 0, g.show)) := rfl
            rw [HC.out] at HR HK1
            dsimp only at HR HK1
            clear HP
            generalize hsh : g.show = an at *
            have HSH : Hid (g.show = an) := hsh
            clear hsh
            refine (HR.out wa HGa.out).mono ?_
            rintro e wb ⟨rfl, hb, fb⟩
            have lP0 := lt_of_cell p0
            have lQ0 := lt_of_cell q0
            have nP : P ∉ [G, D, T, C, R, B, L] := fun h => (HN.out P h).1 rfl
            have nQ : Q ∉ [G, D, T, C, R, B, L] := fun h => (HN.out Q h).2.1 rfl
            have nZ : Z ∉ [G, D, T, C, R, B, L] := fun h => (HN.out Z h).2.2 rfl
            replace p0 := fb.cellv p0 nP
            replace p1 := fb.cellv p1 nP
            replace q0 := fb.cellv q0 nQ
            replace q1 := fb.cellv q1 nQ
            replace q2 := fb.cellv q2 nQ
            replace q3 := fb.cellv q3 nQ
            replace c0 := fb.cellv c0 nZ
            replace c1 := fb.cellv c1 nZ
            replace c2 := fb.cellv c2 nZ
            replace c3 := fb.cellv c3 nZ
            replace c4 := fb.cellv c4 nZ
            replace c5 := fb.cellv c5 nZ
            replace zP := fun o => fb.frozenv (zP o) lP0 nP
            replace zQ := fun o => fb.frozenv (zQ o) lQ0 nQ
            have HGb : Hid (GtAt wb G D T C R B L g) := hb
            have HFb : Hid (Fr [] w wb) := HFa.out.trans fb (fun x hx hm => by have := HW.out.1 x hm; omega)
            clear fb hb HR lP0 lQ0 nP nQ nZ HGa HFa
            unfold ansV S
            have lP0 := lt_of_cell p0
            have lQ0 := lt_of_cell q0
            have lZ0 := lt_of_cell c0
            have n1 : ¬ P = wb.heap.size := by omega
            have n2 : ¬ Q = wb.heap.size := by omega
            have n3 : ¬ Z = wb.heap.size := by omega
            go_wp2_with fail
            have y0 : (wb.alloc (Obj.cells #[.int .i64 0, .int .i64 0, .int .i64 0, .string ⟨an.toArray⟩] 68)).cell? ⟨wb.heap.size, 0, none⟩ = some (.int .i64 0) := by simp [go_sem]
            have y1 : (wb.alloc (Obj.cells #[.int .i64 0, .int .i64 0, .int .i64 0, .string ⟨an.toArray⟩] 68)).cell? ⟨wb.heap.size, 1, none⟩ = some (.int .i64 0) := by simp [go_sem]
            have y2 : (wb.alloc (Obj.cells #[.int .i64 0, .int .i64 0, .int .i64 0, .string ⟨an.toArray⟩] 68)).cell? ⟨wb.heap.size, 2, none⟩ = some (.int .i64 0) := by simp [go_sem]
            have y3 : (wb.alloc (Obj.cells #[.int .i64 0, .int .i64 0, .int .i64 0, .string ⟨an.toArray⟩] 68)).cell? ⟨wb.heap.size, 3, none⟩ = some (.string ⟨an.toArray⟩) := by simp [go_sem]
            have fy : Fr [] wb (wb.alloc (Obj.cells #[.int .i64 0, .int .i64 0, .int .i64 0, .string ⟨an.toArray⟩] 68)) := (Fr.refl _ _).alloc _
            replace p0 := fy.cellv p0 (by simp)
            replace p1 := fy.cellv p1 (by simp)
            replace q0 := fy.cellv q0 (by simp)
            replace q1 := fy.cellv q1 (by simp)
            replace q2 := fy.cellv q2 (by simp)
            replace q3 := fy.cellv q3 (by simp)
            replace c0 := fy.cellv c0 (by simp)
            replace c1 := fy.cellv c1 (by simp)
            replace c2 := fy.cellv c2 (by simp)
            replace c3 := fy.cellv c3 (by simp)
            replace c4 := fy.cellv c4 (by simp)
            replace c5 := fy.cellv c5 (by simp)
            replace zP := fun o => fy.frozenv (zP o) lP0 (by simp)
            replace zQ := fun o => fy.frozenv (zQ o) lQ0 (by simp)
            have HGc : Hid (GtAt (wb.alloc (Obj.cells #[.int .i64 0, .int .i64 0, .int .i64 0, .string ⟨an.toArray⟩] 68)) G D T C R B L g) := HGb.out.keep fy (by simp)
            have HFc : Hid (Fr [] w (wb.alloc (Obj.cells #[.int .i64 0, .int .i64 0, .int .i64 0, .string ⟨an.toArray⟩] 68))) := HFb.out.trans fy (by simp)
            have lPY : P < wb.heap.size := lP0
            have lQY : Q < wb.heap.size := lQ0
            have lZY : Z < wb.heap.size := lZ0
            generalize (wb.alloc (Obj.cells #[.int .i64 0, .int .i64 0, .int .i64 0, .string ⟨an.toArray⟩] 68)) = wc at *
            generalize wb.heap.size = Y at *
            clear fy lP0 lQ0 lZ0 n1 n2 n3 HGb HFb
            refine (holds_calls D T C R B L g.d ⟨3, a, b, c, s, t⟩ 0 an g.d.show wc HGc.out.ld HK1.out.held (by decide) (fun _ => rfl) (fun h => by simp at h)).mono ?_
            rintro e wd ⟨rfl, fd⟩
            have lP0 := lt_of_cell p0
            have lQ0 := lt_of_cell q0
            replace p0 := fd.cellv p0 (by simp)
            replace p1 := fd.cellv p1 (by simp)
            replace q0 := fd.cellv q0 (by simp)
            replace q1 := fd.cellv q1 (by simp)
            replace q2 := fd.cellv q2 (by simp)
            replace q3 := fd.cellv q3 (by simp)
            replace c0 := fd.cellv c0 (by simp)
            replace c1 := fd.cellv c1 (by simp)
            replace c2 := fd.cellv c2 (by simp)
            replace c3 := fd.cellv c3 (by simp)
            replace c4 := fd.cellv c4 (by simp)
            replace c5 := fd.cellv c5 (by simp)
            replace y0 := fd.cellv y0 (by simp)
            replace y1 := fd.cellv y1 (by simp)
            replace y2 := fd.cellv y2 (by simp)
            replace y3 := fd.cellv y3 (by simp)
            replace zP := fun o => fd.frozenv (zP o) lP0 (by simp)
            replace zQ := fun o => fd.frozenv (zQ o) lQ0 (by simp)
            have HGd : Hid (GtAt wd G D T C R B L g) := HGc.out.keep fd (by simp)
            have HFd : Hid (Fr [] w wd) := HFc.out.trans fd (by simp)
            clear fd lP0 lQ0 HGc HFc
            clear c1 c2 c3 c4 c5 y0 y1 y2
            go_wp2_with fail
            refine (head_calls g.c wd HWF.out).mono ?_
            rintro e we ⟨rfl, fe⟩
            have lP0 := lt_of_cell p0
            have lQ0 := lt_of_cell q0
            replace p0 := fe.cellv p0 (by simp)
            replace p1 := fe.cellv p1 (by simp)
            replace q0 := fe.cellv q0 (by simp)
            replace q1 := fe.cellv q1 (by simp)
            replace q2 := fe.cellv q2 (by simp)
            replace q3 := fe.cellv q3 (by simp)
            replace c0 := fe.cellv c0 (by simp)
            replace y3 := fe.cellv y3 (by simp)
            replace zP := fun o => fe.frozenv (zP o) lP0 (by simp)
            replace zQ := fun o => fe.frozenv (zQ o) lQ0 (by simp)
            have HGe : Hid (GtAt we G D T C R B L g) := HGd.out.keep fe (by simp)
            have HFe : Hid (Fr [] w we) := HFd.out.trans fe (by simp)
            clear fe HGd HFd lP0 lQ0
            have hl1 := head_len g.c
            have hl2 := shB_show g.d (by have := HGe.out.ld.tb.wf.tr; omega)
            obtain ⟨x, ex, ha⟩ := add_ex g.c.head g.d.show (by omega)
            have hx : x = an := by rw [ex, ← HSH.out]; rfl
            subst hx
            clear ex hl1 hl2
            have hne := run_neqS x
            have hgd := fun o1 o2 W => run_guardN o1 o2 x x W
            change we.cell? ⟨Y, 3, none⟩ = some (S x) at y3
            generalize g.c.head = hd at *
            go_wp2_with fail
            go_region_held3 (fun w' => w'.cell? ⟨Y, 3, none⟩ = some (S x) ∧ w'.cell? ⟨P, 0, none⟩ = some (.pointer (some ⟨D, 0, none⟩)) ∧ w'.cell? ⟨P, 1, none⟩ = some (.pointer (some ⟨T, 0, none⟩))) (go_keep)
              (first | (go_at_call 35; refine (under_calls D T C R B L g.d we.drew (HGe.out.keep (X := []) (Fr.refl _ _).drew (by simp)).ld).mono ?_; rintro e wf ⟨rfl, ff⟩; have HFF : Hid (Fr [] we.drew wf) := ff; have u0 := ff.cellv (b := Y) (o := 3) y3 (by simp); have u1 := ff.cellv (b := P) (o := 0) p0 (by simp); have u2 := ff.cellv (b := P) (o := 1) p1 (by simp); clear ff))
            rename_i hHeld
            clear hHeld u0 u1 u2
            have ff : Fr [] we wf := ((Fr.refl [] we).drew).trans HFF.out (by simp)
            have lP0 := lt_of_cell p0
            have lQ0 := lt_of_cell q0
            replace p0 := ff.cellv p0 (by simp)
            replace p1 := ff.cellv p1 (by simp)
            replace q0 := ff.cellv q0 (by simp)
            replace q1 := ff.cellv q1 (by simp)
            replace q2 := ff.cellv q2 (by simp)
            replace q3 := ff.cellv q3 (by simp)
            replace c0 := ff.cellv c0 (by simp)
            replace zP := fun o => ff.frozenv (zP o) lP0 (by simp)
            replace zQ := fun o => ff.frozenv (zQ o) lQ0 (by simp)
            have HGf : Hid (GtAt wf G D T C R B L g) := HGe.out.keep ff (by simp)
            have HFf : Hid (Fr [] w wf) := HFe.out.trans ff (by simp)
            clear ff HFF y3 lP0 lQ0 HGe HFe
            clear ha hne hgd
            go_wp2_with fail
            refine (gshow_calls G D T C R B L g wf HGf.out).mono ?_
            rintro e wg ⟨rfl, fg⟩
            have lP0 := lt_of_cell p0
            have lQ0 := lt_of_cell q0
            replace p0 := fg.cellv p0 (by simp)
            replace p1 := fg.cellv p1 (by simp)
            replace q0 := fg.cellv q0 (by simp)
            replace q1 := fg.cellv q1 (by simp)
            replace q2 := fg.cellv q2 (by simp)
            replace q3 := fg.cellv q3 (by simp)
            replace zP := fun o => fg.frozenv (zP o) lP0 (by simp)
            replace zQ := fun o => fg.frozenv (zQ o) lQ0 (by simp)
            have HGg : Hid (GtAt wg G D T C R B L g) := HGf.out.keep fg (by simp)
            have HFg : Hid (Fr [] w wg) := HFf.out.trans fg (by simp)
            clear fg lP0 lQ0
            try clear c0
            go_wp2_with fail
            refine (head_calls g.c wg HGg.out.ct.wf).mono ?_
            rintro e wh ⟨rfl, fh⟩
            have lP0 := lt_of_cell p0
            have lQ0 := lt_of_cell q0
            replace p0 := fh.cellv p0 (by simp)
            replace p1 := fh.cellv p1 (by simp)
            replace q0 := fh.cellv q0 (by simp)
            replace q1 := fh.cellv q1 (by simp)
            replace q2 := fh.cellv q2 (by simp)
            replace q3 := fh.cellv q3 (by simp)
            replace zP := fun o => fh.frozenv (zP o) lP0 (by simp)
            replace zQ := fun o => fh.frozenv (zQ o) lQ0 (by simp)
            have HGh : Hid (GtAt wh G D T C R B L g) := HGg.out.keep fh (by simp)
            have HFh : Hid (Fr [] w wh) := HFg.out.trans fh (by simp)
            clear fh lP0 lQ0
            go_wp2_with fail
            refine (under_calls D T C R B L g.d wh HGh.out.ld).mono ?_
            rintro e wi ⟨rfl, fi⟩
            have lP0 := lt_of_cell p0
            have lQ0 := lt_of_cell q0
            replace p0 := fi.cellv p0 (by simp)
            replace p1 := fi.cellv p1 (by simp)
            replace q0 := fi.cellv q0 (by simp)
            replace q1 := fi.cellv q1 (by simp)
            replace q2 := fi.cellv q2 (by simp)
            replace q3 := fi.cellv q3 (by simp)
            replace zP := fun o => fi.frozenv (zP o) lP0 (by simp)
            replace zQ := fun o => fi.frozenv (zQ o) lQ0 (by simp)
            have HGi : Hid (GtAt wi G D T C R B L g) := HGh.out.keep fi (by simp)
            have HFi : Hid (Fr [] w wi) := HFh.out.trans fi (by simp)
            clear fi lP0 lQ0
            have hl1 := head_len g.c
            have hl2 := shB_show g.d (by have := HGi.out.ld.tb.wf.tr; omega)
            obtain ⟨x, ex, ha⟩ := add_ex g.c.head g.d.show (by omega)
            have hx : x = g.show := ex
            rw [← hx]
            clear ex hx hl1 hl2
            have hne := run_neqS x
            have hgd := fun o1 o2 W => run_guardN o1 o2 x x W
            have HI : Hid (KInv w P Q G D T C R B L g wi) := ⟨HGi.out, HK1.out, p0, p1, q0, q1, q2, q3, zP, zQ, HFi.out, fun x hx => ⟨HW.out.1 x hx, (HN.out x hx).1, (HN.out x hx).2.1⟩, HW.out.2.1, HW.out.2.2.1, nPQ⟩
            clear p0 p1 q0 q1 q2 q3 zP zQ
            go_wp2_with fail
            exact ⟨⟨k + 1, G, D, T, C, R, B, L, g, by have := HMEAS.out; omega, by simp, rfl, HI.out⟩, by have := HMEAS.out; simp [intOf]; omega⟩
          · have j3 : (kd == 3) = false := by simpa using h3
            clear h3
            go_wp2_with fail
            have c0 : (wr.alloc (Obj.cells #[.int .i64 kd, .int .i64 a, .int .i64 b, .int .i64 c, .string s, .string t] 65)).cell? ⟨wr.heap.size, 0, none⟩ = some (.int .i64 kd) := by simp [go_sem]
            have c1 : (wr.alloc (Obj.cells #[.int .i64 kd, .int .i64 a, .int .i64 b, .int .i64 c, .string s, .string t] 65)).cell? ⟨wr.heap.size, 1, none⟩ = some (.int .i64 a) := by simp [go_sem]
            have c2 : (wr.alloc (Obj.cells #[.int .i64 kd, .int .i64 a, .int .i64 b, .int .i64 c, .string s, .string t] 65)).cell? ⟨wr.heap.size, 2, none⟩ = some (.int .i64 b) := by simp [go_sem]
            have c3 : (wr.alloc (Obj.cells #[.int .i64 kd, .int .i64 a, .int .i64 b, .int .i64 c, .string s, .string t] 65)).cell? ⟨wr.heap.size, 3, none⟩ = some (.int .i64 c) := by simp [go_sem]
            have c4 : (wr.alloc (Obj.cells #[.int .i64 kd, .int .i64 a, .int .i64 b, .int .i64 c, .string s, .string t] 65)).cell? ⟨wr.heap.size, 4, none⟩ = some (.string s) := by simp [go_sem]
            have c5 : (wr.alloc (Obj.cells #[.int .i64 kd, .int .i64 a, .int .i64 b, .int .i64 c, .string s, .string t] 65)).cell? ⟨wr.heap.size, 5, none⟩ = some (.string t) := by simp [go_sem]
            have fw : Fr [] wr (wr.alloc (Obj.cells #[.int .i64 kd, .int .i64 a, .int .i64 b, .int .i64 c, .string s, .string t] 65)) := (Fr.refl _ _).alloc _
            have lP0 := lt_of_cell p0
            have lQ0 := lt_of_cell q0
            replace p0 := fw.cellv p0 (by simp)
            replace p1 := fw.cellv p1 (by simp)
            replace q0 := fw.cellv q0 (by simp)
            replace q1 := fw.cellv q1 (by simp)
            replace q2 := fw.cellv q2 (by simp)
            replace q3 := fw.cellv q3 (by simp)
            replace zP := fun o => fw.frozenv (zP o) lP0 (by simp)
            replace zQ := fun o => fw.frozenv (zQ o) lQ0 (by simp)
            have HG : Hid (GtAt (wr.alloc (Obj.cells #[.int .i64 kd, .int .i64 a, .int .i64 b, .int .i64 c, .string s, .string t] 65)) G D T C R B L g) := HGr.out.keep fw (by simp)
            have HF : Hid (Fr [] w (wr.alloc (Obj.cells #[.int .i64 kd, .int .i64 a, .int .i64 b, .int .i64 c, .string s, .string t] 65))) := HFr.out.trans fw (by simp)
            generalize (wr.alloc (Obj.cells #[.int .i64 kd, .int .i64 a, .int .i64 b, .int .i64 c, .string s, .string t] 65)) = W at *
            clear fw lP0 lQ0 HGr HFr o0 o1 o2 o3 o4 o5 n1 n2 HLT
            generalize wr.heap.size = Z at *
            refine (under_calls D T C R B L g.d W HG.out.ld).mono ?_
            rintro e wa ⟨rfl, fa⟩
            have lP0 := lt_of_cell p0
            have lQ0 := lt_of_cell q0
            replace p0 := fa.cellv p0 (by simp)
            replace p1 := fa.cellv p1 (by simp)
            replace q0 := fa.cellv q0 (by simp)
            replace q1 := fa.cellv q1 (by simp)
            replace q2 := fa.cellv q2 (by simp)
            replace q3 := fa.cellv q3 (by simp)
            replace c0 := fa.cellv c0 (by simp)
            replace c1 := fa.cellv c1 (by simp)
            replace c2 := fa.cellv c2 (by simp)
            replace c3 := fa.cellv c3 (by simp)
            replace c4 := fa.cellv c4 (by simp)
            replace c5 := fa.cellv c5 (by simp)
            replace zP := fun o => fa.frozenv (zP o) lP0 (by simp)
            replace zQ := fun o => fa.frozenv (zQ o) lQ0 (by simp)
            have HGa : Hid (GtAt wa G D T C R B L g) := HG.out.keep fa (by simp)
            have HFa : Hid (Fr [] w wa) := HF.out.trans fa (by simp)
            clear fa HG HF lP0 lQ0
            go_wp2_with fail
            have HR : Hid (∀ X, GtAt X G D T C R B L g → Calls Try.prog 36 #[.pointer (some ⟨G, 0, none⟩), opV ⟨kd, a, b, c, s, t⟩] X fun x w' => x = .returned (ansV (doG g ⟨kd, a, b, c, s, t⟩).2.1 (doG g ⟨kd, a, b, c, s, t⟩).2.2) ∧ GtAt w' G D T C R B L (doG g ⟨kd, a, b, c, s, t⟩).1 ∧ Fr [G, D, T, C, R, B, L] X w') := fun X hX => do_calls G D T C R B L g _ X hX
            have HP : Hid _ := doG_pre g ⟨kd, a, b, c, s, t⟩
            have HK1 : Hid (Kept (doG g ⟨kd, a, b, c, s, t⟩).1.d.t []) := doG_kept HK.out _
            have HC : Hid (doG g ⟨kd, a, b, c, s, t⟩ = (g, 0, [])) := by show _ = _; unfold doG; dsimp only; rw [if_neg (by simpa using j2), if_neg (by simpa using j3)]
            rw [HC.out] at HR HK1
            dsimp only at HR HK1
            clear HP
            refine (HR.out wa HGa.out).mono ?_
            rintro e wb ⟨rfl, hb, fb⟩
            have lP0 := lt_of_cell p0
            have lQ0 := lt_of_cell q0
            have nP : P ∉ [G, D, T, C, R, B, L] := fun h => (HN.out P h).1 rfl
            have nQ : Q ∉ [G, D, T, C, R, B, L] := fun h => (HN.out Q h).2.1 rfl
            have nZ : Z ∉ [G, D, T, C, R, B, L] := fun h => (HN.out Z h).2.2 rfl
            replace p0 := fb.cellv p0 nP
            replace p1 := fb.cellv p1 nP
            replace q0 := fb.cellv q0 nQ
            replace q1 := fb.cellv q1 nQ
            replace q2 := fb.cellv q2 nQ
            replace q3 := fb.cellv q3 nQ
            replace c0 := fb.cellv c0 nZ
            replace c1 := fb.cellv c1 nZ
            replace c2 := fb.cellv c2 nZ
            replace c3 := fb.cellv c3 nZ
            replace c4 := fb.cellv c4 nZ
            replace c5 := fb.cellv c5 nZ
            replace zP := fun o => fb.frozenv (zP o) lP0 nP
            replace zQ := fun o => fb.frozenv (zQ o) lQ0 nQ
            have HGb : Hid (GtAt wb G D T C R B L g) := hb
            have HFb : Hid (Fr [] w wb) := HFa.out.trans fb (fun x hx hm => by have := HW.out.1 x hm; omega)
            clear fb hb HR lP0 lQ0 nP nQ nZ HGa HFa
            unfold ansV S
            have lP0 := lt_of_cell p0
            have lQ0 := lt_of_cell q0
            have lZ0 := lt_of_cell c0
            have n1 : ¬ P = wb.heap.size := by omega
            have n2 : ¬ Q = wb.heap.size := by omega
            have n3 : ¬ Z = wb.heap.size := by omega
            go_wp2_with fail
            have y0 : (wb.alloc (Obj.cells #[.int .i64 0, .int .i64 0, .int .i64 0, .string ⟨#[]⟩] 68)).cell? ⟨wb.heap.size, 0, none⟩ = some (.int .i64 0) := by simp [go_sem]
            have y1 : (wb.alloc (Obj.cells #[.int .i64 0, .int .i64 0, .int .i64 0, .string ⟨#[]⟩] 68)).cell? ⟨wb.heap.size, 1, none⟩ = some (.int .i64 0) := by simp [go_sem]
            have y2 : (wb.alloc (Obj.cells #[.int .i64 0, .int .i64 0, .int .i64 0, .string ⟨#[]⟩] 68)).cell? ⟨wb.heap.size, 2, none⟩ = some (.int .i64 0) := by simp [go_sem]
            have y3 : (wb.alloc (Obj.cells #[.int .i64 0, .int .i64 0, .int .i64 0, .string ⟨#[]⟩] 68)).cell? ⟨wb.heap.size, 3, none⟩ = some (.string ⟨#[]⟩) := by simp [go_sem]
            have fy : Fr [] wb (wb.alloc (Obj.cells #[.int .i64 0, .int .i64 0, .int .i64 0, .string ⟨#[]⟩] 68)) := (Fr.refl _ _).alloc _
            replace p0 := fy.cellv p0 (by simp)
            replace p1 := fy.cellv p1 (by simp)
            replace q0 := fy.cellv q0 (by simp)
            replace q1 := fy.cellv q1 (by simp)
            replace q2 := fy.cellv q2 (by simp)
            replace q3 := fy.cellv q3 (by simp)
            replace c0 := fy.cellv c0 (by simp)
            replace c1 := fy.cellv c1 (by simp)
            replace c2 := fy.cellv c2 (by simp)
            replace c3 := fy.cellv c3 (by simp)
            replace c4 := fy.cellv c4 (by simp)
            replace c5 := fy.cellv c5 (by simp)
            replace zP := fun o => fy.frozenv (zP o) lP0 (by simp)
            replace zQ := fun o => fy.frozenv (zQ o) lQ0 (by simp)
            have HGc : Hid (GtAt (wb.alloc (Obj.cells #[.int .i64 0, .int .i64 0, .int .i64 0, .string ⟨#[]⟩] 68)) G D T C R B L g) := HGb.out.keep fy (by simp)
            have HFc : Hid (Fr [] w (wb.alloc (Obj.cells #[.int .i64 0, .int .i64 0, .int .i64 0, .string ⟨#[]⟩] 68))) := HFb.out.trans fy (by simp)
            have lPY : P < wb.heap.size := lP0
            have lQY : Q < wb.heap.size := lQ0
            have lZY : Z < wb.heap.size := lZ0
            generalize (wb.alloc (Obj.cells #[.int .i64 0, .int .i64 0, .int .i64 0, .string ⟨#[]⟩] 68)) = wc at *
            generalize wb.heap.size = Y at *
            clear fy lP0 lQ0 lZ0 n1 n2 n3 HGb HFb
            refine (holds_calls D T C R B L g.d ⟨kd, a, b, c, s, t⟩ 0 [] g.d.show wc HGc.out.ld HK1.out.held (by decide) (fun _ => rfl) (fun h => by simp at h)).mono ?_
            rintro e wd ⟨rfl, fd⟩
            have lP0 := lt_of_cell p0
            have lQ0 := lt_of_cell q0
            replace p0 := fd.cellv p0 (by simp)
            replace p1 := fd.cellv p1 (by simp)
            replace q0 := fd.cellv q0 (by simp)
            replace q1 := fd.cellv q1 (by simp)
            replace q2 := fd.cellv q2 (by simp)
            replace q3 := fd.cellv q3 (by simp)
            replace c0 := fd.cellv c0 (by simp)
            replace c1 := fd.cellv c1 (by simp)
            replace c2 := fd.cellv c2 (by simp)
            replace c3 := fd.cellv c3 (by simp)
            replace c4 := fd.cellv c4 (by simp)
            replace c5 := fd.cellv c5 (by simp)
            replace y0 := fd.cellv y0 (by simp)
            replace y1 := fd.cellv y1 (by simp)
            replace y2 := fd.cellv y2 (by simp)
            replace y3 := fd.cellv y3 (by simp)
            replace zP := fun o => fd.frozenv (zP o) lP0 (by simp)
            replace zQ := fun o => fd.frozenv (zQ o) lQ0 (by simp)
            have HGd : Hid (GtAt wd G D T C R B L g) := HGc.out.keep fd (by simp)
            have HFd : Hid (Fr [] w wd) := HFc.out.trans fd (by simp)
            clear fd lP0 lQ0 HGc HFc
            clear c1 c2 c3 c4 c5 y0 y1 y2 y3
            go_wp2_with fail
            refine (gshow_calls G D T C R B L g wd HGd.out).mono ?_
            rintro e wg ⟨rfl, fg⟩
            have lP0 := lt_of_cell p0
            have lQ0 := lt_of_cell q0
            replace p0 := fg.cellv p0 (by simp)
            replace p1 := fg.cellv p1 (by simp)
            replace q0 := fg.cellv q0 (by simp)
            replace q1 := fg.cellv q1 (by simp)
            replace q2 := fg.cellv q2 (by simp)
            replace q3 := fg.cellv q3 (by simp)
            replace zP := fun o => fg.frozenv (zP o) lP0 (by simp)
            replace zQ := fun o => fg.frozenv (zQ o) lQ0 (by simp)
            have HGg : Hid (GtAt wg G D T C R B L g) := HGd.out.keep fg (by simp)
            have HFg : Hid (Fr [] w wg) := HFd.out.trans fg (by simp)
            clear fg lP0 lQ0
            try clear c0
            go_wp2_with fail
            refine (head_calls g.c wg HGg.out.ct.wf).mono ?_
            rintro e wh ⟨rfl, fh⟩
            have lP0 := lt_of_cell p0
            have lQ0 := lt_of_cell q0
            replace p0 := fh.cellv p0 (by simp)
            replace p1 := fh.cellv p1 (by simp)
            replace q0 := fh.cellv q0 (by simp)
            replace q1 := fh.cellv q1 (by simp)
            replace q2 := fh.cellv q2 (by simp)
            replace q3 := fh.cellv q3 (by simp)
            replace zP := fun o => fh.frozenv (zP o) lP0 (by simp)
            replace zQ := fun o => fh.frozenv (zQ o) lQ0 (by simp)
            have HGh : Hid (GtAt wh G D T C R B L g) := HGg.out.keep fh (by simp)
            have HFh : Hid (Fr [] w wh) := HFg.out.trans fh (by simp)
            clear fh lP0 lQ0
            go_wp2_with fail
            refine (under_calls D T C R B L g.d wh HGh.out.ld).mono ?_
            rintro e wi ⟨rfl, fi⟩
            have lP0 := lt_of_cell p0
            have lQ0 := lt_of_cell q0
            replace p0 := fi.cellv p0 (by simp)
            replace p1 := fi.cellv p1 (by simp)
            replace q0 := fi.cellv q0 (by simp)
            replace q1 := fi.cellv q1 (by simp)
            replace q2 := fi.cellv q2 (by simp)
            replace q3 := fi.cellv q3 (by simp)
            replace zP := fun o => fi.frozenv (zP o) lP0 (by simp)
            replace zQ := fun o => fi.frozenv (zQ o) lQ0 (by simp)
            have HGi : Hid (GtAt wi G D T C R B L g) := HGh.out.keep fi (by simp)
            have HFi : Hid (Fr [] w wi) := HFh.out.trans fi (by simp)
            clear fi lP0 lQ0
            have hl1 := head_len g.c
            have hl2 := shB_show g.d (by have := HGi.out.ld.tb.wf.tr; omega)
            obtain ⟨x, ex, ha⟩ := add_ex g.c.head g.d.show (by omega)
            have hx : x = g.show := ex
            rw [← hx]
            clear ex hx hl1 hl2
            have hne := run_neqS x
            have hgd := fun o1 o2 W => run_guardN o1 o2 x x W
            have HI : Hid (KInv w P Q G D T C R B L g wi) := ⟨HGi.out, HK1.out, p0, p1, q0, q1, q2, q3, zP, zQ, HFi.out, fun x hx => ⟨HW.out.1 x hx, (HN.out x hx).1, (HN.out x hx).2.1⟩, HW.out.2.1, HW.out.2.2.1, nPQ⟩
            clear p0 p1 q0 q1 q2 q3 zP zQ
            go_wp2_with fail
            exact ⟨⟨k + 1, G, D, T, C, R, B, L, g, by have := HMEAS.out; omega, by simp, rfl, HI.out⟩, by have := HMEAS.out; simp [intOf]; omega⟩
    · have hb : (decide ((k : Int) < (n : Int)) && decide ((k : Int) < 4398046511104)) = false := by
        rw [Bool.and_eq_false_iff]
        simp only [decide_eq_false_iff_not]
        omega
      clear lPr lQr p0 p1 q0 q1 q2 q3 zP zQ
      by_cases hkn : (k : Int) < (n : Int)
      · have hkm : ¬ (k : Int) < 4398046511104 := by omega
        clear hend hb
        go_wp2_with fail
        go_ret
        exact ⟨rfl, HFr.out⟩
      · clear hend hb
        go_wp2_with fail
        go_ret
        exact ⟨rfl, HFr.out⟩

end Go.Proofs.Qxb6500360a
