/-
  REFINES: the walk of both sides over the script.
-/
import Derived.Test.Qxb6500360aMh
import Derived.Test.Qxb6500360aNa
import Derived.Test.Qxb6500360aKx
import Derived.Laws.StructEq
namespace Go.Proofs.Qxb6500360a
open Go.RowKit
set_option linter.unusedSimpArgs false
set_option linter.unusedVariables false

theorem fields68 : Try.prog.fieldsOf 68 = #[{ name := "E", type := 34, offset := 0, embedded := false, tag := "", pkgPath := "", byteOffset := 0 },
        { name := "N", type := 3, offset := 1, embedded := false, tag := "", pkgPath := "", byteOffset := 8 },
        { name := "M", type := 3, offset := 2, embedded := false, tag := "", pkgPath := "", byteOffset := 16 },
        { name := "S", type := 9, offset := 3, embedded := false, tag := "", pkgPath := "", byteOffset := 24 }] := by simp [Program.fieldsOf, Try.underlying68]
set_option maxRecDepth 100000 in
theorem run_neq68 (e : Int) (an : List UInt8) (W : World) : (binOp .neq 68 (.agg #[.int .i64 e, .int .i64 0, .int .i64 0, S an]) (.agg #[.int .i64 e, .int .i64 0, .int .i64 0, S an])).run Try.prog W = .ok (.bool false) W := by
  have ht : Try.prog.underlying 68 = some (.struct (Try.prog.fieldsOf 68)) := by simp [Program.fieldsOf, Try.underlying68]
  have hs : Try.prog.stoodInHeld 68 = false := by kernel_rfl
  have u34 := Try.underlying34
  have u3 := Try.underlying3
  have u9 := Try.underlying9
  rw [run_neq_struct, show 10000 = 9999 + 1 from rfl, run_equalIn_agg W 9999 68 _ _ ht hs, fields68]
  simp only [Op.eqFields, S]
  simp [go_sem, part, isAgg, u34, u3, u9]
theorem run_guard68 (o1 o2 : Operand) (e : Int) (an : List UInt8) (W : World) : (eqGuard .neq 68 o1 o2 (.agg #[.int .i64 e, .int .i64 0, .int .i64 0, S an]) (.agg #[.int .i64 e, .int .i64 0, .int .i64 0, S an])).run Try.prog W = .ok () W :=
  run_eqGuard_agg W .neq 68 o1 o2 _ _ (by kernel_rfl)

/-- What holds ahead of each round. -/
structure RInv (w : World) (P G D T C R B L G2 D2 M2 : Nat) (g : V.Gt) (w' : World) : Prop where
  gt : GtAt w' G D T C R B L g
  mg : MGtAt w' G2 D2 M2 g
  p0 : w'.cell? ⟨P, 0, none⟩ = some (.pointer (some ⟨D, 0, none⟩))
  p1 : w'.cell? ⟨P, 1, none⟩ = some (.pointer (some ⟨T, 0, none⟩))
  zP : ∀ o, w'.frozen? ⟨P, o, none⟩ = false
  fr : Fr [] w w'
  nw : ∀ x ∈ [G, D, T, C, R, B, L], w.heap.size ≤ x ∧ ¬ x = P ∧ x ∉ [G2, D2, M2]
  nm : ∀ x ∈ [G2, D2, M2], w.heap.size ≤ x ∧ ¬ x = P ∧ x ∉ [G, D, T, C, R, B, L]
  lP : w.heap.size ≤ P

set_option maxHeartbeats 2000000 in
set_option maxRecDepth 100000 in
theorem walk_b (A : Option Addr) (n cap : Nat) (O : Nat → Op) (w : World) (hA : ScAt w A n O) :
    Calls Try.prog 21 #[.slice A n cap, .bool true, .bool true] w fun e w' => (∃ v, e = .returned (.tuple #[.int .i64 (-1), v])) ∧ Fr [] w w' := by
  have HA : Hid (ScAt w A n O) := hA
  clear hA
  go_enter Try.func21, Try.ntmps21
  go_wp2_with fail
  refine (ground_calls _).mono ?_
  rintro e w3 ⟨D, T, C, R, B, L, rfl, h3, f3, s3⟩
  have H3 : Hid (LdAt w3 D T C R B L V.Ld.fresh) := h3
  have F3 : Hid (Fr [] w w3) := f3
  have HS : Hid (∀ x ∈ [D, T, C, R, B, L], w.heap.size ≤ x ∧ x < w3.heap.size) := by
    have a1 := h3.bk.lD
    have a2 := h3.bk.lB
    have a3 := h3.bk.lL
    have a4 := h3.tb.lT
    have a5 := h3.tb.lC
    have a6 := h3.tb.lR
    intro x hx
    have := s3 x hx
    simp at hx
    rcases hx with rfl | rfl | rfl | rfl | rfl | rfl <;> omega
  clear h3 f3 s3
  go_wp2_with (go_at_call 17; refine (gnew_calls D T C R B L V.Ld.fresh _ (H3.out.keep (X := []) ((Fr.refl _ _).alloc _) (by simp))).mono ?_)
  rintro e w4 ⟨G, rfl, h4, f4, s4⟩
  have F4 : Hid (Fr [] w w4) := (F3.out.alloc _).trans f4 (by simp)
  have H4 : Hid (GtAt w4 G D T C R B L freshG) := h4
  have p0 := f4.cellv (b := w3.heap.size) (o := 0) (v := .pointer (some ⟨D, 0, none⟩)) (by simp [go_sem]) (by simp)
  have p1 := f4.cellv (b := w3.heap.size) (o := 1) (v := .pointer (some ⟨T, 0, none⟩)) (by simp [go_sem]) (by simp)
  have zP : ∀ o, w4.frozen? ⟨w3.heap.size, o, none⟩ = false := fun o => f4.frozenv (b := w3.heap.size) (o := o) (by simp [go_sem]) (by simp) (by simp)
  have lP : w3.heap.size < w4.heap.size := lt_of_cell p0
  have lG := h4.ct.lG
  simp at s4
  clear h4 f4
  go_wp2_with fail
  refine (mgnew_calls w4).mono ?_
  rintro e w5 ⟨G2, D2, M2, rfl, h5, f5, s5⟩
  have HI : Hid (RInv w w3.heap.size G D T C R B L G2 D2 M2 freshG w5) := by
    have a0 := F3.out.size
    refine ⟨H4.out.keep f5 (by simp), h5, f5.cellv p0 (by simp), f5.cellv p1 (by simp), fun o => f5.frozenv (zP o) lP (by simp), F4.out.trans f5 (by simp), ?_, ?_, F3.out.size⟩
    · intro x hx
      have hx4 : x < w4.heap.size := H4.out.lt x hx
      refine ⟨?_, ?_, fun hm => by have := s5 x hm; omega⟩
      · rcases List.mem_cons.mp hx with rfl | hx
        · omega
        · exact (HS.out x hx).1
      · rcases List.mem_cons.mp hx with rfl | hx
        · omega
        · have := HS.out x hx; omega
    · intro x hx
      have hx5 := s5 x hx
      have a1 := F4.out.size
      exact ⟨by omega, by omega, fun hm => by have := H4.out.lt x hm; omega⟩
  clear h5 f5 s5 p0 p1 zP s4 lG H4 F4 H3 F3 HS lP
  generalize w3.heap.size = P at *
  go_wp2_with fail
  go_loopw [9, 10, 11] (fun x y i w' => ∃ (k : Nat) (z : Int) (G D T C R B L G2 D2 M2 : Nat) (g : V.Gt), k ≤ n + 1 ∧ i = .int .i64 z ∧ z = (k : Int) - 1 ∧ x = .pointer (some ⟨G, 0, none⟩) ∧ y = .pointer (some ⟨G2, 0, none⟩) ∧ RInv w P G D T C R B L G2 D2 M2 g w') (fun _ _ i _ => n + 1 - (intOf i + 1).toNat)
  case atStart => exact ⟨0, -1, G, D, T, C, R, B, L, G2, D2, M2, _, by omega, rfl, by simp, rfl, rfl, HI.out⟩
  case round =>
    clear HI
    obtain ⟨k, z, G, D, T, C, R, B, L, G2, D2, M2, g, hk, rfl, hz, rfl, rfl, hi⟩ := hrel
    obtain ⟨gt, mg, p0, p1, zP, fr, nw, nm, lP⟩ := hi
    have HLT : Hid (∀ x ∈ [G, D, T, C, R, B, L], x < wr.heap.size) := gt.lt
    have HLM : Hid (∀ x ∈ [G2, D2, M2], x < wr.heap.size) := mg.lt
    have HG : Hid (GtAt wr G D T C R B L g) := gt
    have HM : Hid (MGtAt wr G2 D2 M2 g) := mg
    have HF : Hid (Fr [] w wr) := fr
    have HW : Hid ((∀ x ∈ [G, D, T, C, R, B, L], w.heap.size ≤ x ∧ ¬ x = P ∧ x ∉ [G2, D2, M2]) ∧ (∀ x ∈ [G2, D2, M2], w.heap.size ≤ x ∧ ¬ x = P ∧ x ∉ [G, D, T, C, R, B, L]) ∧ w.heap.size ≤ P) := ⟨nw, nm, lP⟩
    clear gt mg fr nw nm lP
    rcases k with _ | k
    · obtain rfl : z = -1 := by omega
      clear hz
      by_cases hn : 0 = 1
      · omega
      clear hn
      have hlt1 : (-1 : Int) < (n : Int) := by omega
      go_wp2_with (go_at_call 41; refine calls_same (max0_neg _) ?_)
      have hne := fun a W => run_neqS a W
      have hgd := fun o1 o2 a b W => run_guardN o1 o2 a b W
      have HI : Hid (RInv w P G D T C R B L G2 D2 M2 g wr) := ⟨HG.out, HM.out, p0, p1, zP, HF.out, HW.out.1, HW.out.2.1, HW.out.2.2⟩
      clear p0 p1 zP
      go_wp2_with fail
      exact ⟨⟨1, 0, G, D, T, C, R, B, L, G2, D2, M2, g, by omega, by simp, by simp, rfl, rfl, HI.out⟩, by simp [intOf]⟩
    · obtain rfl : z = (k : Int) := by omega
      clear hz
      by_cases hend : k < n ∧ k < 4398046511104
      · obtain ⟨hlt, hmax⟩ := hend
        have hlt' : (k : Int) < (n : Int) := by omega
        have hmax' : (k : Int) < 4398046511104 := by omega
        have hk0 : ¬ (k : Int) < 0 := by omega
        obtain ⟨X, off, hAx, ho⟩ := HA.out (by omega)
        have HAX : Hid (A = some ⟨X, off, none⟩) := hAx
        subst hAx
        obtain ⟨o0, o1, o2, o3, o4, o5⟩ := (ho k hlt).keep HF.out
        clear ho hmax HAX
        have HMEAS : Hid (k < n) := hlt
        clear hlt
        generalize O k = op at *
        obtain ⟨kd, a, b, c, s, t⟩ := op
        dsimp only at o0 o1 o2 o3 o4 o5
        have lPr := lt_of_cell p0
        have lXr := lt_of_cell o0
        by_cases h1 : kd = 1
        · subst h1
          have HFW : Hid (w.heap.size ≤ wr.heap.size) := HF.out.size
          clear HG HM HLT HLM
          go_wp2_with (go_at_call 41; refine calls_same (max0_nat k _) ?_)
          refine (ground_calls _).mono ?_
          rintro e w5 ⟨D, T, C, R, B, L, rfl, h5, f5, s5⟩
          have fw : Fr [] wr w5 := ((Fr.refl [] wr).alloc (Obj.cells #[.int .i64 1, .int .i64 a, .int .i64 b, .int .i64 c, .string s, .string t] 65)).trans f5 (by simp)
          have lP0 := lt_of_cell p0
          replace zP := fun o => fw.frozenv (zP o) lP0 (by simp)
          replace p0 := fw.cellv p0 (by simp)
          replace p1 := fw.cellv p1 (by simp)
          clear lP0
          have HS5 : Hid (∀ x ∈ [D, T, C, R, B, L], wr.heap.size < x ∧ x < w5.heap.size) := by
            have a1 := h5.bk.lD
            have a2 := h5.bk.lB
            have a3 := h5.bk.lL
            have a4 := h5.tb.lT
            have a5 := h5.tb.lC
            have a6 := h5.tb.lR
            intro x hx
            have := s5 x hx
            simp at this hx
            rcases hx with rfl | rfl | rfl | rfl | rfl | rfl <;> omega
          have H5 : Hid (LdAt w5 D T C R B L V.Ld.fresh) := h5
          have F5 : Hid (Fr [] w w5) := HF.out.trans fw (by simp)
          clear h5 f5 s5 fw HF o0 o1 o2 o3 o4 o5
          go_wp2_with fail
          have FP : Hid (Fr [P] w5 ((w5.setCell ⟨P, 0, none⟩ (.pointer (some ⟨D, 0, none⟩))).setCell ⟨P, 1, none⟩ (.pointer (some ⟨T, 0, none⟩)))) := ((Fr.refl _ _).setCell (by simp) _).setCell (by simp) _
          have r0 : ((w5.setCell ⟨P, 0, none⟩ (.pointer (some ⟨D, 0, none⟩))).setCell ⟨P, 1, none⟩ (.pointer (some ⟨T, 0, none⟩))).cell? ⟨P, 0, none⟩ = some (.pointer (some ⟨D, 0, none⟩)) := by simp [cell_set, p0, p1]
          have r1 : ((w5.setCell ⟨P, 0, none⟩ (.pointer (some ⟨D, 0, none⟩))).setCell ⟨P, 1, none⟩ (.pointer (some ⟨T, 0, none⟩))).cell? ⟨P, 1, none⟩ = some (.pointer (some ⟨T, 0, none⟩)) := by simp [cell_set, p0, p1]
          have rz : ∀ o, ((w5.setCell ⟨P, 0, none⟩ (.pointer (some ⟨D, 0, none⟩))).setCell ⟨P, 1, none⟩ (.pointer (some ⟨T, 0, none⟩))).frozen? ⟨P, o, none⟩ = false := fun o => by simp [zP o]
          clear p0 p1 zP
          generalize ((w5.setCell ⟨P, 0, none⟩ (.pointer (some ⟨D, 0, none⟩))).setCell ⟨P, 1, none⟩ (.pointer (some ⟨T, 0, none⟩))) = w5' at *
          refine (gnew_calls D T C R B L V.Ld.fresh w5' (H5.out.keep FP.out (fun x hx => by have := HS5.out x hx; simp; omega))).mono ?_
          rintro e w6 ⟨G, rfl, h6, f6, s6⟩
          have p0 := f6.cellv r0 (by simp)
          have p1 := f6.cellv r1 (by simp)
          have zP : ∀ o, w6.frozen? ⟨P, o, none⟩ = false := fun o => f6.frozenv (rz o) (lt_of_cell r0) (by simp)
          have H6 : Hid (GtAt w6 G D T C R B L freshG) := h6
          have F6 : Hid (Fr [] w w6) := (F5.out.trans FP.out (fun x hx hm => by have := HW.out.2.2; simp at hm; omega)).trans f6 (by simp)
          have HS6 : Hid (∀ x ∈ [G, D, T, C, R, B, L], wr.heap.size < x ∧ x < w6.heap.size) := by
            intro x hx
            refine ⟨?_, h6.lt x hx⟩
            rcases List.mem_cons.mp hx with rfl | hx
            · have := FP.out.size; have := lt_of_cell r0; have := s6; have := HS5.out D (by simp); omega
            · exact (HS5.out x hx).1
          clear h6 f6 s6 r0 r1 rz FP H5 F5 HS5
          go_wp2_with fail
          refine (mgnew_calls w6).mono ?_
          rintro e w7 ⟨G2, D2, M2, rfl, h7, f7, s7⟩
          have lP0 := lt_of_cell p0
          replace zP := fun o => f7.frozenv (zP o) lP0 (by simp)
          replace p0 := f7.cellv p0 (by simp)
          replace p1 := f7.cellv p1 (by simp)
          clear lP0
          have HG : Hid (GtAt w7 G D T C R B L freshG) := H6.out.keep f7 (by simp)
          have HM : Hid (MGtAt w7 G2 D2 M2 freshG) := h7
          have HF : Hid (Fr [] w w7) := F6.out.trans f7 (by simp)
          have hpw := HW.out.2.2
          have HW' : Hid ((∀ x ∈ [G, D, T, C, R, B, L], w.heap.size ≤ x ∧ ¬ x = P ∧ x ∉ [G2, D2, M2]) ∧ (∀ x ∈ [G2, D2, M2], w.heap.size ≤ x ∧ ¬ x = P ∧ x ∉ [G, D, T, C, R, B, L]) ∧ w.heap.size ≤ P) := by
            have hw := HFW.out
            refine ⟨fun x hx => ?_, fun x hx => ?_, hpw⟩
            · have := HS6.out x hx; exact ⟨by omega, by omega, fun hm => by have := s7 x hm; omega⟩
            · have h1 := s7 x hx; have h2 := HS6.out G (by simp); exact ⟨by omega, by omega, fun hm => by have := HS6.out x hm; omega⟩
          clear HW hpw
          have HW := HW'
          clear HW' HS6 H6 F6 h7 f7 s7
          have hne := fun a W => run_neqS a W
          have hgd := fun o1 o2 a b W => run_guardN o1 o2 a b W
          have HI : Hid (RInv w P G D T C R B L G2 D2 M2 freshG w7) := ⟨HG.out, HM.out, p0, p1, zP, HF.out, HW.out.1, HW.out.2.1, HW.out.2.2⟩
          clear p0 p1 zP
          go_wp2_with fail
          exact ⟨⟨k + 1 + 1, (k : Int) + 1, G, D, T, C, R, B, L, G2, D2, M2, freshG, by have := HMEAS.out; omega, by simp, by simp, rfl, rfl, HI.out⟩, by have := HMEAS.out; simp [intOf] <;> omega⟩
        · have j1 : (kd == 1) = false := by simpa using h1
          clear h1
          go_wp2_with (go_at_call 41; refine calls_same (max0_nat k _) ?_)
          have c0 : (wr.alloc (Obj.cells #[.int .i64 kd, .int .i64 a, .int .i64 b, .int .i64 c, .string s, .string t] 65)).cell? ⟨wr.heap.size, 0, none⟩ = some (.int .i64 kd) := by simp [go_sem]
          have c1 : (wr.alloc (Obj.cells #[.int .i64 kd, .int .i64 a, .int .i64 b, .int .i64 c, .string s, .string t] 65)).cell? ⟨wr.heap.size, 1, none⟩ = some (.int .i64 a) := by simp [go_sem]
          have c2 : (wr.alloc (Obj.cells #[.int .i64 kd, .int .i64 a, .int .i64 b, .int .i64 c, .string s, .string t] 65)).cell? ⟨wr.heap.size, 2, none⟩ = some (.int .i64 b) := by simp [go_sem]
          have c3 : (wr.alloc (Obj.cells #[.int .i64 kd, .int .i64 a, .int .i64 b, .int .i64 c, .string s, .string t] 65)).cell? ⟨wr.heap.size, 3, none⟩ = some (.int .i64 c) := by simp [go_sem]
          have c4 : (wr.alloc (Obj.cells #[.int .i64 kd, .int .i64 a, .int .i64 b, .int .i64 c, .string s, .string t] 65)).cell? ⟨wr.heap.size, 4, none⟩ = some (.string s) := by simp [go_sem]
          have c5 : (wr.alloc (Obj.cells #[.int .i64 kd, .int .i64 a, .int .i64 b, .int .i64 c, .string s, .string t] 65)).cell? ⟨wr.heap.size, 5, none⟩ = some (.string t) := by simp [go_sem]
          have fw : Fr [] wr (wr.alloc (Obj.cells #[.int .i64 kd, .int .i64 a, .int .i64 b, .int .i64 c, .string s, .string t] 65)) := (Fr.refl _ _).alloc _
          have lP0 := lt_of_cell p0
          replace zP := fun o => fw.frozenv (zP o) lP0 (by simp)
          replace p0 := fw.cellv p0 (by simp)
          replace p1 := fw.cellv p1 (by simp)
          clear lP0
          have HG1 : Hid (GtAt (wr.alloc (Obj.cells #[.int .i64 kd, .int .i64 a, .int .i64 b, .int .i64 c, .string s, .string t] 65)) G D T C R B L g) := HG.out.keep fw (by simp)
          have HM1 : Hid (MGtAt (wr.alloc (Obj.cells #[.int .i64 kd, .int .i64 a, .int .i64 b, .int .i64 c, .string s, .string t] 65)) G2 D2 M2 g) := HM.out.keep fw (by simp)
          have HF1 : Hid (Fr [] w (wr.alloc (Obj.cells #[.int .i64 kd, .int .i64 a, .int .i64 b, .int .i64 c, .string s, .string t] 65))) := HF.out.trans fw (by simp)
          have HNZ : Hid (wr.heap.size ∉ [G, D, T, C, R, B, L] ∧ wr.heap.size ∉ [G2, D2, M2]) := ⟨fun h => by have := HLT.out _ h; omega, fun h => by have := HLM.out _ h; omega⟩
          generalize (wr.alloc (Obj.cells #[.int .i64 kd, .int .i64 a, .int .i64 b, .int .i64 c, .string s, .string t] 65)) = W at *
          clear fw HG HM HF HLT HLM o0 o1 o2 o3 o4 o5
          generalize wr.heap.size = Z at *
          have HR1 : Hid (∀ X, GtAt X G D T C R B L g → Calls Try.prog 36 #[.pointer (some ⟨G, 0, none⟩), opV ⟨kd, a, b, c, s, t⟩] X fun x w' => x = .returned (ansV (doG g ⟨kd, a, b, c, s, t⟩).2.1 (doG g ⟨kd, a, b, c, s, t⟩).2.2) ∧ GtAt w' G D T C R B L (doG g ⟨kd, a, b, c, s, t⟩).1 ∧ Fr [G, D, T, C, R, B, L] X w') := fun X hX => do_calls G D T C R B L g _ X hX
          have HR2 : Hid (∀ X, MGtAt X G2 D2 M2 g → Calls Try.prog 42 #[.pointer (some ⟨G2, 0, none⟩), opV ⟨kd, a, b, c, s, t⟩] X fun x w' => x = .returned (ansV (doG g ⟨kd, a, b, c, s, t⟩).2.1 (doG g ⟨kd, a, b, c, s, t⟩).2.2) ∧ MGtAt w' G2 D2 M2 (doG g ⟨kd, a, b, c, s, t⟩).1 ∧ Fr [G2, D2, M2] X w') := fun X hX => dom_calls G2 D2 M2 g _ X hX
          generalize doG g ⟨kd, a, b, c, s, t⟩ = r at *
          obtain ⟨g1, e1, an⟩ := r
          dsimp only at HR1 HR2
          refine (HR1.out W HG1.out).mono ?_
          rintro e wb ⟨rfl, hb, fb⟩
          have nP : P ∉ [G, D, T, C, R, B, L] := fun h => (HW.out.1 P h).2.1 rfl
          have nP2 : P ∉ [G2, D2, M2] := fun h => (HW.out.2.1 P h).2.1 rfl
          have lP0 := lt_of_cell p0
          replace zP := fun o => fb.frozenv (zP o) lP0 nP
          replace p0 := fb.cellv p0 nP
          replace p1 := fb.cellv p1 nP
          clear lP0
          replace c0 := fb.cellv c0 HNZ.out.1
          replace c1 := fb.cellv c1 HNZ.out.1
          replace c2 := fb.cellv c2 HNZ.out.1
          replace c3 := fb.cellv c3 HNZ.out.1
          replace c4 := fb.cellv c4 HNZ.out.1
          replace c5 := fb.cellv c5 HNZ.out.1
          have HG2 : Hid (GtAt wb G D T C R B L g1) := hb
          have HM2 : Hid (MGtAt wb G2 D2 M2 g) := HM1.out.keep fb (fun x hx => (HW.out.2.1 x hx).2.2)
          have HF2 : Hid (Fr [] w wb) := HF1.out.trans fb (fun x hx hm => by have := HW.out.1 x hm; omega)
          clear fb hb HR1 HG1 HM1 HF1
          unfold ansV S
          have lP0 := lt_of_cell p0
          have lZ0 := lt_of_cell c0
          go_wp2_with fail
          have y0 : (wb.alloc (Obj.cells #[.int .i64 e1, .int .i64 0, .int .i64 0, .string ⟨an.toArray⟩] 68)).cell? ⟨wb.heap.size, 0, none⟩ = some (.int .i64 e1) := by simp [go_sem]
          have y1 : (wb.alloc (Obj.cells #[.int .i64 e1, .int .i64 0, .int .i64 0, .string ⟨an.toArray⟩] 68)).cell? ⟨wb.heap.size, 1, none⟩ = some (.int .i64 0) := by simp [go_sem]
          have y2 : (wb.alloc (Obj.cells #[.int .i64 e1, .int .i64 0, .int .i64 0, .string ⟨an.toArray⟩] 68)).cell? ⟨wb.heap.size, 2, none⟩ = some (.int .i64 0) := by simp [go_sem]
          have y3 : (wb.alloc (Obj.cells #[.int .i64 e1, .int .i64 0, .int .i64 0, .string ⟨an.toArray⟩] 68)).cell? ⟨wb.heap.size, 3, none⟩ = some (S an) := by simp [go_sem]; rfl
          have fy : Fr [] wb (wb.alloc (Obj.cells #[.int .i64 e1, .int .i64 0, .int .i64 0, .string ⟨an.toArray⟩] 68)) := (Fr.refl _ _).alloc _
          clear lP0
          have lP0 := lt_of_cell p0
          replace zP := fun o => fy.frozenv (zP o) lP0 (by simp)
          replace p0 := fy.cellv p0 (by simp)
          replace p1 := fy.cellv p1 (by simp)
          clear lP0
          replace c0 := fy.cellv c0 (by simp)
          replace c1 := fy.cellv c1 (by simp)
          replace c2 := fy.cellv c2 (by simp)
          replace c3 := fy.cellv c3 (by simp)
          replace c4 := fy.cellv c4 (by simp)
          replace c5 := fy.cellv c5 (by simp)
          have HG3 : Hid (GtAt (wb.alloc (Obj.cells #[.int .i64 e1, .int .i64 0, .int .i64 0, .string ⟨an.toArray⟩] 68)) G D T C R B L g1) := HG2.out.keep fy (by simp)
          have HM3 : Hid (MGtAt (wb.alloc (Obj.cells #[.int .i64 e1, .int .i64 0, .int .i64 0, .string ⟨an.toArray⟩] 68)) G2 D2 M2 g) := HM2.out.keep fy (by simp)
          have HF3 : Hid (Fr [] w (wb.alloc (Obj.cells #[.int .i64 e1, .int .i64 0, .int .i64 0, .string ⟨an.toArray⟩] 68))) := HF2.out.trans fy (by simp)
          have nY2 : wb.heap.size ∉ [G2, D2, M2] := fun h => by have := HM2.out.lt _ h; omega
          generalize (wb.alloc (Obj.cells #[.int .i64 e1, .int .i64 0, .int .i64 0, .string ⟨an.toArray⟩] 68)) = wc at *
          generalize wb.heap.size = Y at *
          clear fy HG2 HM2 HF2
          refine (HR2.out wc HM3.out).mono ?_
          rintro e wd ⟨rfl, hd, fd⟩
          have lP0 := lt_of_cell p0
          replace zP := fun o => fd.frozenv (zP o) lP0 nP2
          replace p0 := fd.cellv p0 nP2
          replace p1 := fd.cellv p1 nP2
          clear lP0
          replace y0 := fd.cellv y0 nY2
          replace y1 := fd.cellv y1 nY2
          replace y2 := fd.cellv y2 nY2
          replace y3 := fd.cellv y3 nY2
          have HM4 : Hid (MGtAt wd G2 D2 M2 g1) := hd
          have HG4 : Hid (GtAt wd G D T C R B L g1) := HG3.out.keep fd (fun x hx => (HW.out.1 x hx).2.2)
          have HF4 : Hid (Fr [] w wd) := HF3.out.trans fd (fun x hx hm => by have := HW.out.2.1 x hm; omega)
          clear fd hd HR2 HG3 HM3 HF3 c0 c1 c2 c3 c4 c5 nY2 nP nP2 HNZ lZ0
          unfold ansV S
          unfold S at y3
          have hne68 := fun W => run_neq68 e1 an W
          have hgd68 := fun o1 o2 W => run_guard68 o1 o2 e1 an W
          unfold S at hne68 hgd68
          have lY := lt_of_cell y0
          have lP9 := lt_of_cell p0
          have fz : Fr [] wd (wd.alloc (Obj.cells #[.int .i64 e1, .int .i64 0, .int .i64 0, .string ⟨an.toArray⟩] 68)) := (Fr.refl _ _).alloc _
          have HG5 : Hid (GtAt (wd.alloc (Obj.cells #[.int .i64 e1, .int .i64 0, .int .i64 0, .string ⟨an.toArray⟩] 68)) G D T C R B L g1) := HG4.out.keep fz (by simp)
          have HM5 : Hid (MGtAt (wd.alloc (Obj.cells #[.int .i64 e1, .int .i64 0, .int .i64 0, .string ⟨an.toArray⟩] 68)) G2 D2 M2 g1) := HM4.out.keep fz (by simp)
          have HF5 : Hid (Fr [] w (wd.alloc (Obj.cells #[.int .i64 e1, .int .i64 0, .int .i64 0, .string ⟨an.toArray⟩] 68))) := HF4.out.trans fz (by simp)
          have HI : Hid (RInv w P G D T C R B L G2 D2 M2 g1 (wd.alloc (Obj.cells #[.int .i64 e1, .int .i64 0, .int .i64 0, .string ⟨an.toArray⟩] 68))) := ⟨HG5.out, HM5.out, fz.cellv p0 (by simp), fz.cellv p1 (by simp), fun o => fz.frozenv (zP o) lP9 (by simp), HF5.out, HW.out.1, HW.out.2.1, HW.out.2.2⟩
          clear fz
          go_wp2_with fail
          exact ⟨⟨k + 1 + 1, (k : Int) + 1, G, D, T, C, R, B, L, G2, D2, M2, g1, by have := HMEAS.out; omega, by simp, by simp, rfl, rfl, HI.out⟩, by have := HMEAS.out; simp [intOf] <;> omega⟩
      · by_cases hkn : (k : Int) < (n : Int)
        · have hkm : ¬ (k : Int) < 4398046511104 := by omega
          have hnm : ¬ (n : Int) < 4398046511104 := by omega
          clear hend p0 p1 zP
          go_wp2_with fail
          go_ret2
          exact ⟨⟨_, rfl⟩, HF.out⟩
        · by_cases hnm : (n : Int) < 4398046511104
          · clear hend p0 p1 zP
            go_wp2_with fail
            go_ret2
            exact ⟨⟨_, rfl⟩, HF.out⟩
          · clear hend p0 p1 zP
            go_wp2_with fail
            go_ret2
            exact ⟨⟨_, rfl⟩, HF.out⟩

set_option maxHeartbeats 2000000 in
set_option maxRecDepth 100000 in
theorem walk_q (A : Option Addr) (n cap : Nat) (O : Nat → Op) (w : World) (hA : ScAt w A n O) :
    Calls Try.prog 21 #[.slice A n cap, .bool true, .bool false] w fun e w' => (∃ v, e = .returned (.tuple #[.int .i64 (-1), v])) ∧ Fr [] w w' := by
  have HA : Hid (ScAt w A n O) := hA
  clear hA
  go_enter Try.func21, Try.ntmps21
  go_wp2_with fail
  refine (ground_calls _).mono ?_
  rintro e w3 ⟨D, T, C, R, B, L, rfl, h3, f3, s3⟩
  have H3 : Hid (LdAt w3 D T C R B L V.Ld.fresh) := h3
  have F3 : Hid (Fr [] w w3) := f3
  have HS : Hid (∀ x ∈ [D, T, C, R, B, L], w.heap.size ≤ x ∧ x < w3.heap.size) := by
    have a1 := h3.bk.lD
    have a2 := h3.bk.lB
    have a3 := h3.bk.lL
    have a4 := h3.tb.lT
    have a5 := h3.tb.lC
    have a6 := h3.tb.lR
    intro x hx
    have := s3 x hx
    simp at hx
    rcases hx with rfl | rfl | rfl | rfl | rfl | rfl <;> omega
  clear h3 f3 s3
  go_wp2_with (go_at_call 17; refine (gnew_calls D T C R B L V.Ld.fresh _ (H3.out.keep (X := []) ((Fr.refl _ _).alloc _) (by simp))).mono ?_)
  rintro e w4 ⟨G, rfl, h4, f4, s4⟩
  have F4 : Hid (Fr [] w w4) := (F3.out.alloc _).trans f4 (by simp)
  have H4 : Hid (GtAt w4 G D T C R B L freshG) := h4
  have p0 := f4.cellv (b := w3.heap.size) (o := 0) (v := .pointer (some ⟨D, 0, none⟩)) (by simp [go_sem]) (by simp)
  have p1 := f4.cellv (b := w3.heap.size) (o := 1) (v := .pointer (some ⟨T, 0, none⟩)) (by simp [go_sem]) (by simp)
  have zP : ∀ o, w4.frozen? ⟨w3.heap.size, o, none⟩ = false := fun o => f4.frozenv (b := w3.heap.size) (o := o) (by simp [go_sem]) (by simp) (by simp)
  have lP : w3.heap.size < w4.heap.size := lt_of_cell p0
  have lG := h4.ct.lG
  simp at s4
  clear h4 f4
  go_wp2_with fail
  refine (mgnew_calls w4).mono ?_
  rintro e w5 ⟨G2, D2, M2, rfl, h5, f5, s5⟩
  have HI : Hid (RInv w w3.heap.size G D T C R B L G2 D2 M2 freshG w5) := by
    have a0 := F3.out.size
    refine ⟨H4.out.keep f5 (by simp), h5, f5.cellv p0 (by simp), f5.cellv p1 (by simp), fun o => f5.frozenv (zP o) lP (by simp), F4.out.trans f5 (by simp), ?_, ?_, F3.out.size⟩
    · intro x hx
      have hx4 : x < w4.heap.size := H4.out.lt x hx
      refine ⟨?_, ?_, fun hm => by have := s5 x hm; omega⟩
      · rcases List.mem_cons.mp hx with rfl | hx
        · omega
        · exact (HS.out x hx).1
      · rcases List.mem_cons.mp hx with rfl | hx
        · omega
        · have := HS.out x hx; omega
    · intro x hx
      have hx5 := s5 x hx
      have a1 := F4.out.size
      exact ⟨by omega, by omega, fun hm => by have := H4.out.lt x hm; omega⟩
  clear h5 f5 s5 p0 p1 zP s4 lG H4 F4 H3 F3 HS lP
  generalize w3.heap.size = P at *
  go_wp2_with fail
  go_loopw [9, 10, 11] (fun x y i w' => ∃ (k : Nat) (z : Int) (G D T C R B L G2 D2 M2 : Nat) (g : V.Gt), k ≤ n + 1 ∧ i = .int .i64 z ∧ z = (k : Int) - 1 ∧ x = .pointer (some ⟨G, 0, none⟩) ∧ y = .pointer (some ⟨G2, 0, none⟩) ∧ RInv w P G D T C R B L G2 D2 M2 g w') (fun _ _ i _ => n + 1 - (intOf i + 1).toNat)
  case atStart => exact ⟨0, -1, G, D, T, C, R, B, L, G2, D2, M2, _, by omega, rfl, by simp, rfl, rfl, HI.out⟩
  case round =>
    clear HI
    obtain ⟨k, z, G, D, T, C, R, B, L, G2, D2, M2, g, hk, rfl, hz, rfl, rfl, hi⟩ := hrel
    obtain ⟨gt, mg, p0, p1, zP, fr, nw, nm, lP⟩ := hi
    have HLT : Hid (∀ x ∈ [G, D, T, C, R, B, L], x < wr.heap.size) := gt.lt
    have HLM : Hid (∀ x ∈ [G2, D2, M2], x < wr.heap.size) := mg.lt
    have HG : Hid (GtAt wr G D T C R B L g) := gt
    have HM : Hid (MGtAt wr G2 D2 M2 g) := mg
    have HF : Hid (Fr [] w wr) := fr
    have HW : Hid ((∀ x ∈ [G, D, T, C, R, B, L], w.heap.size ≤ x ∧ ¬ x = P ∧ x ∉ [G2, D2, M2]) ∧ (∀ x ∈ [G2, D2, M2], w.heap.size ≤ x ∧ ¬ x = P ∧ x ∉ [G, D, T, C, R, B, L]) ∧ w.heap.size ≤ P) := ⟨nw, nm, lP⟩
    clear gt mg fr nw nm lP
    rcases k with _ | k
    · obtain rfl : z = -1 := by omega
      clear hz
      by_cases hn : 0 = 1
      · omega
      clear hn
      have hlt1 : (-1 : Int) < (n : Int) := by omega
      go_wp2_with (go_at_call 41; refine calls_same (max0_neg _) ?_)
      have hne := fun a W => run_neqS a W
      have hgd := fun o1 o2 a b W => run_guardN o1 o2 a b W
      go_wp2_with fail
      refine calls_same (mled_calls G2 D2 M2 g wr HM.out) ?_
      go_wp2_with fail
      refine (mdshow_calls D2 M2 g.d wr HM.out.ld).mono ?_
      rintro e wA ⟨rfl, f9⟩
      have lP0 := lt_of_cell p0
      replace zP := fun o => f9.frozenv (zP o) lP0 (by simp)
      replace p0 := f9.cellv p0 (by simp)
      replace p1 := f9.cellv p1 (by simp)
      clear lP0
      have HG_wA : Hid (GtAt wA G D T C R B L g) := HG.out.keep f9 (by simp)
      have HM_wA : Hid (MGtAt wA G2 D2 M2 g) := HM.out.keep f9 (by simp)
      have HF_wA : Hid (Fr [] w wA) := HF.out.trans f9 (by simp)
      clear f9
      go_wp2_with fail
      refine (under_calls D T C R B L g.d wA HG_wA.out.ld).mono ?_
      rintro e wB ⟨rfl, f9⟩
      have lP0 := lt_of_cell p0
      replace zP := fun o => f9.frozenv (zP o) lP0 (by simp)
      replace p0 := f9.cellv p0 (by simp)
      replace p1 := f9.cellv p1 (by simp)
      clear lP0
      have HG_wB : Hid (GtAt wB G D T C R B L g) := HG_wA.out.keep f9 (by simp)
      have HM_wB : Hid (MGtAt wB G2 D2 M2 g) := HM_wA.out.keep f9 (by simp)
      have HF_wB : Hid (Fr [] w wB) := HF_wA.out.trans f9 (by simp)
      clear f9
      have HI : Hid (RInv w P G D T C R B L G2 D2 M2 g wB) := ⟨HG_wB.out, HM_wB.out, p0, p1, zP, HF_wB.out, HW.out.1, HW.out.2.1, HW.out.2.2⟩
      clear p0 p1 zP
      go_wp2_with fail
      exact ⟨⟨1, 0, G, D, T, C, R, B, L, G2, D2, M2, g, by omega, by simp, by simp, rfl, rfl, HI.out⟩, by simp [intOf]⟩
    · obtain rfl : z = (k : Int) := by omega
      clear hz
      by_cases hend : k < n ∧ k < 4398046511104
      · obtain ⟨hlt, hmax⟩ := hend
        have hlt' : (k : Int) < (n : Int) := by omega
        have hmax' : (k : Int) < 4398046511104 := by omega
        have hk0 : ¬ (k : Int) < 0 := by omega
        obtain ⟨X, off, hAx, ho⟩ := HA.out (by omega)
        have HAX : Hid (A = some ⟨X, off, none⟩) := hAx
        subst hAx
        obtain ⟨o0, o1, o2, o3, o4, o5⟩ := (ho k hlt).keep HF.out
        clear ho hmax HAX
        have HMEAS : Hid (k < n) := hlt
        clear hlt
        generalize O k = op at *
        obtain ⟨kd, a, b, c, s, t⟩ := op
        dsimp only at o0 o1 o2 o3 o4 o5
        have lPr := lt_of_cell p0
        have lXr := lt_of_cell o0
        by_cases h1 : kd = 1
        · subst h1
          have HFW : Hid (w.heap.size ≤ wr.heap.size) := HF.out.size
          clear HG HM HLT HLM
          go_wp2_with (go_at_call 41; refine calls_same (max0_nat k _) ?_)
          refine (ground_calls _).mono ?_
          rintro e w5 ⟨D, T, C, R, B, L, rfl, h5, f5, s5⟩
          have fw : Fr [] wr w5 := ((Fr.refl [] wr).alloc (Obj.cells #[.int .i64 1, .int .i64 a, .int .i64 b, .int .i64 c, .string s, .string t] 65)).trans f5 (by simp)
          have lP0 := lt_of_cell p0
          replace zP := fun o => fw.frozenv (zP o) lP0 (by simp)
          replace p0 := fw.cellv p0 (by simp)
          replace p1 := fw.cellv p1 (by simp)
          clear lP0
          have HS5 : Hid (∀ x ∈ [D, T, C, R, B, L], wr.heap.size < x ∧ x < w5.heap.size) := by
            have a1 := h5.bk.lD
            have a2 := h5.bk.lB
            have a3 := h5.bk.lL
            have a4 := h5.tb.lT
            have a5 := h5.tb.lC
            have a6 := h5.tb.lR
            intro x hx
            have := s5 x hx
            simp at this hx
            rcases hx with rfl | rfl | rfl | rfl | rfl | rfl <;> omega
          have H5 : Hid (LdAt w5 D T C R B L V.Ld.fresh) := h5
          have F5 : Hid (Fr [] w w5) := HF.out.trans fw (by simp)
          clear h5 f5 s5 fw HF o0 o1 o2 o3 o4 o5
          go_wp2_with fail
          have FP : Hid (Fr [P] w5 ((w5.setCell ⟨P, 0, none⟩ (.pointer (some ⟨D, 0, none⟩))).setCell ⟨P, 1, none⟩ (.pointer (some ⟨T, 0, none⟩)))) := ((Fr.refl _ _).setCell (by simp) _).setCell (by simp) _
          have r0 : ((w5.setCell ⟨P, 0, none⟩ (.pointer (some ⟨D, 0, none⟩))).setCell ⟨P, 1, none⟩ (.pointer (some ⟨T, 0, none⟩))).cell? ⟨P, 0, none⟩ = some (.pointer (some ⟨D, 0, none⟩)) := by simp [cell_set, p0, p1]
          have r1 : ((w5.setCell ⟨P, 0, none⟩ (.pointer (some ⟨D, 0, none⟩))).setCell ⟨P, 1, none⟩ (.pointer (some ⟨T, 0, none⟩))).cell? ⟨P, 1, none⟩ = some (.pointer (some ⟨T, 0, none⟩)) := by simp [cell_set, p0, p1]
          have rz : ∀ o, ((w5.setCell ⟨P, 0, none⟩ (.pointer (some ⟨D, 0, none⟩))).setCell ⟨P, 1, none⟩ (.pointer (some ⟨T, 0, none⟩))).frozen? ⟨P, o, none⟩ = false := fun o => by simp [zP o]
          clear p0 p1 zP
          generalize ((w5.setCell ⟨P, 0, none⟩ (.pointer (some ⟨D, 0, none⟩))).setCell ⟨P, 1, none⟩ (.pointer (some ⟨T, 0, none⟩))) = w5' at *
          refine (gnew_calls D T C R B L V.Ld.fresh w5' (H5.out.keep FP.out (fun x hx => by have := HS5.out x hx; simp; omega))).mono ?_
          rintro e w6 ⟨G, rfl, h6, f6, s6⟩
          have p0 := f6.cellv r0 (by simp)
          have p1 := f6.cellv r1 (by simp)
          have zP : ∀ o, w6.frozen? ⟨P, o, none⟩ = false := fun o => f6.frozenv (rz o) (lt_of_cell r0) (by simp)
          have H6 : Hid (GtAt w6 G D T C R B L freshG) := h6
          have F6 : Hid (Fr [] w w6) := (F5.out.trans FP.out (fun x hx hm => by have := HW.out.2.2; simp at hm; omega)).trans f6 (by simp)
          have HS6 : Hid (∀ x ∈ [G, D, T, C, R, B, L], wr.heap.size < x ∧ x < w6.heap.size) := by
            intro x hx
            refine ⟨?_, h6.lt x hx⟩
            rcases List.mem_cons.mp hx with rfl | hx
            · have := FP.out.size; have := lt_of_cell r0; have := s6; have := HS5.out D (by simp); omega
            · exact (HS5.out x hx).1
          clear h6 f6 s6 r0 r1 rz FP H5 F5 HS5
          go_wp2_with fail
          refine (mgnew_calls w6).mono ?_
          rintro e w7 ⟨G2, D2, M2, rfl, h7, f7, s7⟩
          have lP0 := lt_of_cell p0
          replace zP := fun o => f7.frozenv (zP o) lP0 (by simp)
          replace p0 := f7.cellv p0 (by simp)
          replace p1 := f7.cellv p1 (by simp)
          clear lP0
          have HG : Hid (GtAt w7 G D T C R B L freshG) := H6.out.keep f7 (by simp)
          have HM : Hid (MGtAt w7 G2 D2 M2 freshG) := h7
          have HF : Hid (Fr [] w w7) := F6.out.trans f7 (by simp)
          have hpw := HW.out.2.2
          have HW' : Hid ((∀ x ∈ [G, D, T, C, R, B, L], w.heap.size ≤ x ∧ ¬ x = P ∧ x ∉ [G2, D2, M2]) ∧ (∀ x ∈ [G2, D2, M2], w.heap.size ≤ x ∧ ¬ x = P ∧ x ∉ [G, D, T, C, R, B, L]) ∧ w.heap.size ≤ P) := by
            have hw := HFW.out
            refine ⟨fun x hx => ?_, fun x hx => ?_, hpw⟩
            · have := HS6.out x hx; exact ⟨by omega, by omega, fun hm => by have := s7 x hm; omega⟩
            · have h1 := s7 x hx; have h2 := HS6.out G (by simp); exact ⟨by omega, by omega, fun hm => by have := HS6.out x hm; omega⟩
          clear HW hpw
          have HW := HW'
          clear HW' HS6 H6 F6 h7 f7 s7
          have hne := fun a W => run_neqS a W
          have hgd := fun o1 o2 a b W => run_guardN o1 o2 a b W
          go_wp2_with fail
          refine calls_same (mled_calls G2 D2 M2 freshG w7 HM.out) ?_
          go_wp2_with fail
          refine (mdshow_calls D2 M2 freshG.d w7 HM.out.ld).mono ?_
          rintro e wA ⟨rfl, f9⟩
          have lP0 := lt_of_cell p0
          replace zP := fun o => f9.frozenv (zP o) lP0 (by simp)
          replace p0 := f9.cellv p0 (by simp)
          replace p1 := f9.cellv p1 (by simp)
          clear lP0
          have HG_wA : Hid (GtAt wA G D T C R B L freshG) := HG.out.keep f9 (by simp)
          have HM_wA : Hid (MGtAt wA G2 D2 M2 freshG) := HM.out.keep f9 (by simp)
          have HF_wA : Hid (Fr [] w wA) := HF.out.trans f9 (by simp)
          clear f9
          go_wp2_with fail
          refine (under_calls D T C R B L freshG.d wA HG_wA.out.ld).mono ?_
          rintro e wB ⟨rfl, f9⟩
          have lP0 := lt_of_cell p0
          replace zP := fun o => f9.frozenv (zP o) lP0 (by simp)
          replace p0 := f9.cellv p0 (by simp)
          replace p1 := f9.cellv p1 (by simp)
          clear lP0
          have HG_wB : Hid (GtAt wB G D T C R B L freshG) := HG_wA.out.keep f9 (by simp)
          have HM_wB : Hid (MGtAt wB G2 D2 M2 freshG) := HM_wA.out.keep f9 (by simp)
          have HF_wB : Hid (Fr [] w wB) := HF_wA.out.trans f9 (by simp)
          clear f9
          have HI : Hid (RInv w P G D T C R B L G2 D2 M2 freshG wB) := ⟨HG_wB.out, HM_wB.out, p0, p1, zP, HF_wB.out, HW.out.1, HW.out.2.1, HW.out.2.2⟩
          clear p0 p1 zP
          go_wp2_with fail
          exact ⟨⟨k + 1 + 1, (k : Int) + 1, G, D, T, C, R, B, L, G2, D2, M2, freshG, by have := HMEAS.out; omega, by simp, by simp, rfl, rfl, HI.out⟩, by have := HMEAS.out; simp [intOf] <;> omega⟩
        · have j1 : (kd == 1) = false := by simpa using h1
          clear h1
          go_wp2_with (go_at_call 41; refine calls_same (max0_nat k _) ?_)
          have c0 : (wr.alloc (Obj.cells #[.int .i64 kd, .int .i64 a, .int .i64 b, .int .i64 c, .string s, .string t] 65)).cell? ⟨wr.heap.size, 0, none⟩ = some (.int .i64 kd) := by simp [go_sem]
          have c1 : (wr.alloc (Obj.cells #[.int .i64 kd, .int .i64 a, .int .i64 b, .int .i64 c, .string s, .string t] 65)).cell? ⟨wr.heap.size, 1, none⟩ = some (.int .i64 a) := by simp [go_sem]
          have c2 : (wr.alloc (Obj.cells #[.int .i64 kd, .int .i64 a, .int .i64 b, .int .i64 c, .string s, .string t] 65)).cell? ⟨wr.heap.size, 2, none⟩ = some (.int .i64 b) := by simp [go_sem]
          have c3 : (wr.alloc (Obj.cells #[.int .i64 kd, .int .i64 a, .int .i64 b, .int .i64 c, .string s, .string t] 65)).cell? ⟨wr.heap.size, 3, none⟩ = some (.int .i64 c) := by simp [go_sem]
          have c4 : (wr.alloc (Obj.cells #[.int .i64 kd, .int .i64 a, .int .i64 b, .int .i64 c, .string s, .string t] 65)).cell? ⟨wr.heap.size, 4, none⟩ = some (.string s) := by simp [go_sem]
          have c5 : (wr.alloc (Obj.cells #[.int .i64 kd, .int .i64 a, .int .i64 b, .int .i64 c, .string s, .string t] 65)).cell? ⟨wr.heap.size, 5, none⟩ = some (.string t) := by simp [go_sem]
          have fw : Fr [] wr (wr.alloc (Obj.cells #[.int .i64 kd, .int .i64 a, .int .i64 b, .int .i64 c, .string s, .string t] 65)) := (Fr.refl _ _).alloc _
          have lP0 := lt_of_cell p0
          replace zP := fun o => fw.frozenv (zP o) lP0 (by simp)
          replace p0 := fw.cellv p0 (by simp)
          replace p1 := fw.cellv p1 (by simp)
          clear lP0
          have HG1 : Hid (GtAt (wr.alloc (Obj.cells #[.int .i64 kd, .int .i64 a, .int .i64 b, .int .i64 c, .string s, .string t] 65)) G D T C R B L g) := HG.out.keep fw (by simp)
          have HM1 : Hid (MGtAt (wr.alloc (Obj.cells #[.int .i64 kd, .int .i64 a, .int .i64 b, .int .i64 c, .string s, .string t] 65)) G2 D2 M2 g) := HM.out.keep fw (by simp)
          have HF1 : Hid (Fr [] w (wr.alloc (Obj.cells #[.int .i64 kd, .int .i64 a, .int .i64 b, .int .i64 c, .string s, .string t] 65))) := HF.out.trans fw (by simp)
          have HNZ : Hid (wr.heap.size ∉ [G, D, T, C, R, B, L] ∧ wr.heap.size ∉ [G2, D2, M2]) := ⟨fun h => by have := HLT.out _ h; omega, fun h => by have := HLM.out _ h; omega⟩
          generalize (wr.alloc (Obj.cells #[.int .i64 kd, .int .i64 a, .int .i64 b, .int .i64 c, .string s, .string t] 65)) = W at *
          clear fw HG HM HF HLT HLM o0 o1 o2 o3 o4 o5
          generalize wr.heap.size = Z at *
          have HR1 : Hid (∀ X, GtAt X G D T C R B L g → Calls Try.prog 36 #[.pointer (some ⟨G, 0, none⟩), opV ⟨kd, a, b, c, s, t⟩] X fun x w' => x = .returned (ansV (doG g ⟨kd, a, b, c, s, t⟩).2.1 (doG g ⟨kd, a, b, c, s, t⟩).2.2) ∧ GtAt w' G D T C R B L (doG g ⟨kd, a, b, c, s, t⟩).1 ∧ Fr [G, D, T, C, R, B, L] X w') := fun X hX => do_calls G D T C R B L g _ X hX
          have HR2 : Hid (∀ X, MGtAt X G2 D2 M2 g → Calls Try.prog 42 #[.pointer (some ⟨G2, 0, none⟩), opV ⟨kd, a, b, c, s, t⟩] X fun x w' => x = .returned (ansV (doG g ⟨kd, a, b, c, s, t⟩).2.1 (doG g ⟨kd, a, b, c, s, t⟩).2.2) ∧ MGtAt w' G2 D2 M2 (doG g ⟨kd, a, b, c, s, t⟩).1 ∧ Fr [G2, D2, M2] X w') := fun X hX => dom_calls G2 D2 M2 g _ X hX
          generalize doG g ⟨kd, a, b, c, s, t⟩ = r at *
          obtain ⟨g1, e1, an⟩ := r
          dsimp only at HR1 HR2
          refine (HR1.out W HG1.out).mono ?_
          rintro e wb ⟨rfl, hb, fb⟩
          have nP : P ∉ [G, D, T, C, R, B, L] := fun h => (HW.out.1 P h).2.1 rfl
          have nP2 : P ∉ [G2, D2, M2] := fun h => (HW.out.2.1 P h).2.1 rfl
          have lP0 := lt_of_cell p0
          replace zP := fun o => fb.frozenv (zP o) lP0 nP
          replace p0 := fb.cellv p0 nP
          replace p1 := fb.cellv p1 nP
          clear lP0
          replace c0 := fb.cellv c0 HNZ.out.1
          replace c1 := fb.cellv c1 HNZ.out.1
          replace c2 := fb.cellv c2 HNZ.out.1
          replace c3 := fb.cellv c3 HNZ.out.1
          replace c4 := fb.cellv c4 HNZ.out.1
          replace c5 := fb.cellv c5 HNZ.out.1
          have HG2 : Hid (GtAt wb G D T C R B L g1) := hb
          have HM2 : Hid (MGtAt wb G2 D2 M2 g) := HM1.out.keep fb (fun x hx => (HW.out.2.1 x hx).2.2)
          have HF2 : Hid (Fr [] w wb) := HF1.out.trans fb (fun x hx hm => by have := HW.out.1 x hm; omega)
          clear fb hb HR1 HG1 HM1 HF1
          unfold ansV S
          have lP0 := lt_of_cell p0
          have lZ0 := lt_of_cell c0
          go_wp2_with fail
          have y0 : (wb.alloc (Obj.cells #[.int .i64 e1, .int .i64 0, .int .i64 0, .string ⟨an.toArray⟩] 68)).cell? ⟨wb.heap.size, 0, none⟩ = some (.int .i64 e1) := by simp [go_sem]
          have y1 : (wb.alloc (Obj.cells #[.int .i64 e1, .int .i64 0, .int .i64 0, .string ⟨an.toArray⟩] 68)).cell? ⟨wb.heap.size, 1, none⟩ = some (.int .i64 0) := by simp [go_sem]
          have y2 : (wb.alloc (Obj.cells #[.int .i64 e1, .int .i64 0, .int .i64 0, .string ⟨an.toArray⟩] 68)).cell? ⟨wb.heap.size, 2, none⟩ = some (.int .i64 0) := by simp [go_sem]
          have y3 : (wb.alloc (Obj.cells #[.int .i64 e1, .int .i64 0, .int .i64 0, .string ⟨an.toArray⟩] 68)).cell? ⟨wb.heap.size, 3, none⟩ = some (S an) := by simp [go_sem]; rfl
          have fy : Fr [] wb (wb.alloc (Obj.cells #[.int .i64 e1, .int .i64 0, .int .i64 0, .string ⟨an.toArray⟩] 68)) := (Fr.refl _ _).alloc _
          clear lP0
          have lP0 := lt_of_cell p0
          replace zP := fun o => fy.frozenv (zP o) lP0 (by simp)
          replace p0 := fy.cellv p0 (by simp)
          replace p1 := fy.cellv p1 (by simp)
          clear lP0
          replace c0 := fy.cellv c0 (by simp)
          replace c1 := fy.cellv c1 (by simp)
          replace c2 := fy.cellv c2 (by simp)
          replace c3 := fy.cellv c3 (by simp)
          replace c4 := fy.cellv c4 (by simp)
          replace c5 := fy.cellv c5 (by simp)
          have HG3 : Hid (GtAt (wb.alloc (Obj.cells #[.int .i64 e1, .int .i64 0, .int .i64 0, .string ⟨an.toArray⟩] 68)) G D T C R B L g1) := HG2.out.keep fy (by simp)
          have HM3 : Hid (MGtAt (wb.alloc (Obj.cells #[.int .i64 e1, .int .i64 0, .int .i64 0, .string ⟨an.toArray⟩] 68)) G2 D2 M2 g) := HM2.out.keep fy (by simp)
          have HF3 : Hid (Fr [] w (wb.alloc (Obj.cells #[.int .i64 e1, .int .i64 0, .int .i64 0, .string ⟨an.toArray⟩] 68))) := HF2.out.trans fy (by simp)
          have nY2 : wb.heap.size ∉ [G2, D2, M2] := fun h => by have := HM2.out.lt _ h; omega
          generalize (wb.alloc (Obj.cells #[.int .i64 e1, .int .i64 0, .int .i64 0, .string ⟨an.toArray⟩] 68)) = wc at *
          generalize wb.heap.size = Y at *
          clear fy HG2 HM2 HF2
          refine (HR2.out wc HM3.out).mono ?_
          rintro e wd ⟨rfl, hd, fd⟩
          have lP0 := lt_of_cell p0
          replace zP := fun o => fd.frozenv (zP o) lP0 nP2
          replace p0 := fd.cellv p0 nP2
          replace p1 := fd.cellv p1 nP2
          clear lP0
          replace y0 := fd.cellv y0 nY2
          replace y1 := fd.cellv y1 nY2
          replace y2 := fd.cellv y2 nY2
          replace y3 := fd.cellv y3 nY2
          have HM4 : Hid (MGtAt wd G2 D2 M2 g1) := hd
          have HG4 : Hid (GtAt wd G D T C R B L g1) := HG3.out.keep fd (fun x hx => (HW.out.1 x hx).2.2)
          have HF4 : Hid (Fr [] w wd) := HF3.out.trans fd (fun x hx hm => by have := HW.out.2.1 x hm; omega)
          clear fd hd HR2 HG3 HM3 HF3 c0 c1 c2 c3 c4 c5 nY2 nP nP2 HNZ lZ0
          unfold ansV S
          unfold S at y3
          have hne68 := fun W => run_neq68 e1 an W
          have hgd68 := fun o1 o2 W => run_guard68 o1 o2 e1 an W
          unfold S at hne68 hgd68
          have lY := lt_of_cell y0
          have lP9 := lt_of_cell p0
          have fz : Fr [] wd (wd.alloc (Obj.cells #[.int .i64 e1, .int .i64 0, .int .i64 0, .string ⟨an.toArray⟩] 68)) := (Fr.refl _ _).alloc _
          have HG5 : Hid (GtAt (wd.alloc (Obj.cells #[.int .i64 e1, .int .i64 0, .int .i64 0, .string ⟨an.toArray⟩] 68)) G D T C R B L g1) := HG4.out.keep fz (by simp)
          have HM5 : Hid (MGtAt (wd.alloc (Obj.cells #[.int .i64 e1, .int .i64 0, .int .i64 0, .string ⟨an.toArray⟩] 68)) G2 D2 M2 g1) := HM4.out.keep fz (by simp)
          have HF5 : Hid (Fr [] w (wd.alloc (Obj.cells #[.int .i64 e1, .int .i64 0, .int .i64 0, .string ⟨an.toArray⟩] 68))) := HF4.out.trans fz (by simp)
          clear fz
          go_wp2_with fail
          have fz : Fr [] wd (wd.alloc (Obj.cells #[.int .i64 e1, .int .i64 0, .int .i64 0, .string ⟨an.toArray⟩] 68)) := (Fr.refl _ _).alloc _
          have lP0 := lt_of_cell p0
          replace zP := fun o => fz.frozenv (zP o) lP0 (by simp)
          replace p0 := fz.cellv p0 (by simp)
          replace p1 := fz.cellv p1 (by simp)
          clear lP0
          clear fz hne68 hgd68 y0 y1 y2 y3 lY lP9 HG4 HM4 HF4
          generalize (wd.alloc (Obj.cells #[.int .i64 e1, .int .i64 0, .int .i64 0, .string ⟨an.toArray⟩] 68)) = wz at *
          have hne := fun a W => run_neqS a W
          have hgd := fun o1 o2 a b W => run_guardN o1 o2 a b W
          refine calls_same (mled_calls G2 D2 M2 g1 wz HM5.out) ?_
          go_wp2_with fail
          refine (mdshow_calls D2 M2 g1.d wz HM5.out.ld).mono ?_
          rintro e wA ⟨rfl, f9⟩
          have lP0 := lt_of_cell p0
          replace zP := fun o => f9.frozenv (zP o) lP0 (by simp)
          replace p0 := f9.cellv p0 (by simp)
          replace p1 := f9.cellv p1 (by simp)
          clear lP0
          have HG_wA : Hid (GtAt wA G D T C R B L g1) := HG5.out.keep f9 (by simp)
          have HM_wA : Hid (MGtAt wA G2 D2 M2 g1) := HM5.out.keep f9 (by simp)
          have HF_wA : Hid (Fr [] w wA) := HF5.out.trans f9 (by simp)
          clear f9
          go_wp2_with fail
          refine (under_calls D T C R B L g1.d wA HG_wA.out.ld).mono ?_
          rintro e wB ⟨rfl, f9⟩
          have lP0 := lt_of_cell p0
          replace zP := fun o => f9.frozenv (zP o) lP0 (by simp)
          replace p0 := f9.cellv p0 (by simp)
          replace p1 := f9.cellv p1 (by simp)
          clear lP0
          have HG_wB : Hid (GtAt wB G D T C R B L g1) := HG_wA.out.keep f9 (by simp)
          have HM_wB : Hid (MGtAt wB G2 D2 M2 g1) := HM_wA.out.keep f9 (by simp)
          have HF_wB : Hid (Fr [] w wB) := HF_wA.out.trans f9 (by simp)
          clear f9
          have HI : Hid (RInv w P G D T C R B L G2 D2 M2 g1 wB) := ⟨HG_wB.out, HM_wB.out, p0, p1, zP, HF_wB.out, HW.out.1, HW.out.2.1, HW.out.2.2⟩
          clear p0 p1 zP
          go_wp2_with fail
          exact ⟨⟨k + 1 + 1, (k : Int) + 1, G, D, T, C, R, B, L, G2, D2, M2, g1, by have := HMEAS.out; omega, by simp, by simp, rfl, rfl, HI.out⟩, by have := HMEAS.out; simp [intOf] <;> omega⟩
      · by_cases hkn : (k : Int) < (n : Int)
        · have hkm : ¬ (k : Int) < 4398046511104 := by omega
          have hnm : ¬ (n : Int) < 4398046511104 := by omega
          clear hend p0 p1 zP
          go_wp2_with fail
          go_ret2
          exact ⟨⟨_, rfl⟩, HF.out⟩
        · by_cases hnm : (n : Int) < 4398046511104
          · clear hend p0 p1 zP
            go_wp2_with fail
            go_ret2
            exact ⟨⟨_, rfl⟩, HF.out⟩
          · clear hend p0 p1 zP
            go_wp2_with fail
            go_ret2
            exact ⟨⟨_, rfl⟩, HF.out⟩

set_option maxHeartbeats 2000000 in
set_option maxRecDepth 100000 in
theorem walk_l (A : Option Addr) (n cap : Nat) (O : Nat → Op) (w : World) (hA : ScAt w A n O) :
    Calls Try.prog 21 #[.slice A n cap, .bool false, .bool false] w fun e w' => (∃ v, e = .returned (.tuple #[.int .i64 (-1), v])) ∧ Fr [] w w' := by
  have HA : Hid (ScAt w A n O) := hA
  clear hA
  go_enter Try.func21, Try.ntmps21
  go_wp2_with fail
  refine (ground_calls _).mono ?_
  rintro e w3 ⟨D, T, C, R, B, L, rfl, h3, f3, s3⟩
  have H3 : Hid (LdAt w3 D T C R B L V.Ld.fresh) := h3
  have F3 : Hid (Fr [] w w3) := f3
  have HS : Hid (∀ x ∈ [D, T, C, R, B, L], w.heap.size ≤ x ∧ x < w3.heap.size) := by
    have a1 := h3.bk.lD
    have a2 := h3.bk.lB
    have a3 := h3.bk.lL
    have a4 := h3.tb.lT
    have a5 := h3.tb.lC
    have a6 := h3.tb.lR
    intro x hx
    have := s3 x hx
    simp at hx
    rcases hx with rfl | rfl | rfl | rfl | rfl | rfl <;> omega
  clear h3 f3 s3
  go_wp2_with (go_at_call 17; refine (gnew_calls D T C R B L V.Ld.fresh _ (H3.out.keep (X := []) ((Fr.refl _ _).alloc _) (by simp))).mono ?_)
  rintro e w4 ⟨G, rfl, h4, f4, s4⟩
  have F4 : Hid (Fr [] w w4) := (F3.out.alloc _).trans f4 (by simp)
  have H4 : Hid (GtAt w4 G D T C R B L freshG) := h4
  have p0 := f4.cellv (b := w3.heap.size) (o := 0) (v := .pointer (some ⟨D, 0, none⟩)) (by simp [go_sem]) (by simp)
  have p1 := f4.cellv (b := w3.heap.size) (o := 1) (v := .pointer (some ⟨T, 0, none⟩)) (by simp [go_sem]) (by simp)
  have zP : ∀ o, w4.frozen? ⟨w3.heap.size, o, none⟩ = false := fun o => f4.frozenv (b := w3.heap.size) (o := o) (by simp [go_sem]) (by simp) (by simp)
  have lP : w3.heap.size < w4.heap.size := lt_of_cell p0
  have lG := h4.ct.lG
  simp at s4
  clear h4 f4
  go_wp2_with fail
  refine (mgnew_calls w4).mono ?_
  rintro e w5 ⟨G2, D2, M2, rfl, h5, f5, s5⟩
  have HI : Hid (RInv w w3.heap.size G D T C R B L G2 D2 M2 freshG w5) := by
    have a0 := F3.out.size
    refine ⟨H4.out.keep f5 (by simp), h5, f5.cellv p0 (by simp), f5.cellv p1 (by simp), fun o => f5.frozenv (zP o) lP (by simp), F4.out.trans f5 (by simp), ?_, ?_, F3.out.size⟩
    · intro x hx
      have hx4 : x < w4.heap.size := H4.out.lt x hx
      refine ⟨?_, ?_, fun hm => by have := s5 x hm; omega⟩
      · rcases List.mem_cons.mp hx with rfl | hx
        · omega
        · exact (HS.out x hx).1
      · rcases List.mem_cons.mp hx with rfl | hx
        · omega
        · have := HS.out x hx; omega
    · intro x hx
      have hx5 := s5 x hx
      have a1 := F4.out.size
      exact ⟨by omega, by omega, fun hm => by have := H4.out.lt x hm; omega⟩
  clear h5 f5 s5 p0 p1 zP s4 lG H4 F4 H3 F3 HS lP
  generalize w3.heap.size = P at *
  go_wp2_with fail
  go_loopw [9, 10, 11] (fun x y i w' => ∃ (k : Nat) (z : Int) (G D T C R B L G2 D2 M2 : Nat) (g : V.Gt), k ≤ n + 1 ∧ i = .int .i64 z ∧ z = (k : Int) - 1 ∧ x = .pointer (some ⟨G, 0, none⟩) ∧ y = .pointer (some ⟨G2, 0, none⟩) ∧ RInv w P G D T C R B L G2 D2 M2 g w') (fun _ _ i _ => n + 1 - (intOf i + 1).toNat)
  case atStart => exact ⟨0, -1, G, D, T, C, R, B, L, G2, D2, M2, _, by omega, rfl, by simp, rfl, rfl, HI.out⟩
  case round =>
    clear HI
    obtain ⟨k, z, G, D, T, C, R, B, L, G2, D2, M2, g, hk, rfl, hz, rfl, rfl, hi⟩ := hrel
    obtain ⟨gt, mg, p0, p1, zP, fr, nw, nm, lP⟩ := hi
    have HLT : Hid (∀ x ∈ [G, D, T, C, R, B, L], x < wr.heap.size) := gt.lt
    have HLM : Hid (∀ x ∈ [G2, D2, M2], x < wr.heap.size) := mg.lt
    have HG : Hid (GtAt wr G D T C R B L g) := gt
    have HM : Hid (MGtAt wr G2 D2 M2 g) := mg
    have HF : Hid (Fr [] w wr) := fr
    have HW : Hid ((∀ x ∈ [G, D, T, C, R, B, L], w.heap.size ≤ x ∧ ¬ x = P ∧ x ∉ [G2, D2, M2]) ∧ (∀ x ∈ [G2, D2, M2], w.heap.size ≤ x ∧ ¬ x = P ∧ x ∉ [G, D, T, C, R, B, L]) ∧ w.heap.size ≤ P) := ⟨nw, nm, lP⟩
    clear gt mg fr nw nm lP
    rcases k with _ | k
    · obtain rfl : z = -1 := by omega
      clear hz
      by_cases hn : 0 = 1
      · omega
      clear hn
      have hlt1 : (-1 : Int) < (n : Int) := by omega
      go_wp2_with (go_at_call 41; refine calls_same (max0_neg _) ?_)
      have hne := fun a W => run_neqS a W
      have hgd := fun o1 o2 a b W => run_guardN o1 o2 a b W
      go_wp2_with fail
      refine calls_same (mled_calls G2 D2 M2 g wr HM.out) ?_
      go_wp2_with fail
      refine (mdshow_calls D2 M2 g.d wr HM.out.ld).mono ?_
      rintro e wA ⟨rfl, f9⟩
      have lP0 := lt_of_cell p0
      replace zP := fun o => f9.frozenv (zP o) lP0 (by simp)
      replace p0 := f9.cellv p0 (by simp)
      replace p1 := f9.cellv p1 (by simp)
      clear lP0
      have HG_wA : Hid (GtAt wA G D T C R B L g) := HG.out.keep f9 (by simp)
      have HM_wA : Hid (MGtAt wA G2 D2 M2 g) := HM.out.keep f9 (by simp)
      have HF_wA : Hid (Fr [] w wA) := HF.out.trans f9 (by simp)
      clear f9
      go_wp2_with fail
      refine (under_calls D T C R B L g.d wA HG_wA.out.ld).mono ?_
      rintro e wB ⟨rfl, f9⟩
      have lP0 := lt_of_cell p0
      replace zP := fun o => f9.frozenv (zP o) lP0 (by simp)
      replace p0 := f9.cellv p0 (by simp)
      replace p1 := f9.cellv p1 (by simp)
      clear lP0
      have HG_wB : Hid (GtAt wB G D T C R B L g) := HG_wA.out.keep f9 (by simp)
      have HM_wB : Hid (MGtAt wB G2 D2 M2 g) := HM_wA.out.keep f9 (by simp)
      have HF_wB : Hid (Fr [] w wB) := HF_wA.out.trans f9 (by simp)
      clear f9
      go_wp2_with fail
      refine (gshow_calls G D T C R B L g wB HG_wB.out).mono ?_
      rintro e wC ⟨rfl, f9⟩
      have lP0 := lt_of_cell p0
      replace zP := fun o => f9.frozenv (zP o) lP0 (by simp)
      replace p0 := f9.cellv p0 (by simp)
      replace p1 := f9.cellv p1 (by simp)
      clear lP0
      have HG_wC : Hid (GtAt wC G D T C R B L g) := HG_wB.out.keep f9 (by simp)
      have HM_wC : Hid (MGtAt wC G2 D2 M2 g) := HM_wB.out.keep f9 (by simp)
      have HF_wC : Hid (Fr [] w wC) := HF_wB.out.trans f9 (by simp)
      clear f9
      go_wp2_with fail
      refine (mgshow_calls G2 D2 M2 g wC HM_wC.out).mono ?_
      rintro e wD ⟨rfl, f9⟩
      have lP0 := lt_of_cell p0
      replace zP := fun o => f9.frozenv (zP o) lP0 (by simp)
      replace p0 := f9.cellv p0 (by simp)
      replace p1 := f9.cellv p1 (by simp)
      clear lP0
      have HG_wD : Hid (GtAt wD G D T C R B L g) := HG_wC.out.keep f9 (by simp)
      have HM_wD : Hid (MGtAt wD G2 D2 M2 g) := HM_wC.out.keep f9 (by simp)
      have HF_wD : Hid (Fr [] w wD) := HF_wC.out.trans f9 (by simp)
      clear f9
      go_wp2_with fail
      refine (gcheck_calls G D T C R B L g wD HG_wD.out).mono ?_
      rintro e wE ⟨rfl, f9⟩
      have lP0 := lt_of_cell p0
      replace zP := fun o => f9.frozenv (zP o) lP0 (by simp)
      replace p0 := f9.cellv p0 (by simp)
      replace p1 := f9.cellv p1 (by simp)
      clear lP0
      have HG_wE : Hid (GtAt wE G D T C R B L g) := HG_wD.out.keep f9 (by simp)
      have HM_wE : Hid (MGtAt wE G2 D2 M2 g) := HM_wD.out.keep f9 (by simp)
      have HF_wE : Hid (Fr [] w wE) := HF_wD.out.trans f9 (by simp)
      clear f9
      go_wp2_with fail
      refine (sound_calls D T C R B L g.d wE HG_wE.out.ld).mono ?_
      rintro e wF ⟨rfl, f9⟩
      have lP0 := lt_of_cell p0
      replace zP := fun o => f9.frozenv (zP o) lP0 (by simp)
      replace p0 := f9.cellv p0 (by simp)
      replace p1 := f9.cellv p1 (by simp)
      clear lP0
      have HG_wF : Hid (GtAt wF G D T C R B L g) := HG_wE.out.keep f9 (by simp)
      have HM_wF : Hid (MGtAt wF G2 D2 M2 g) := HM_wE.out.keep f9 (by simp)
      have HF_wF : Hid (Fr [] w wF) := HF_wE.out.trans f9 (by simp)
      clear f9
      have HI : Hid (RInv w P G D T C R B L G2 D2 M2 g wF) := ⟨HG_wF.out, HM_wF.out, p0, p1, zP, HF_wF.out, HW.out.1, HW.out.2.1, HW.out.2.2⟩
      clear p0 p1 zP
      go_wp2_with fail
      exact ⟨⟨1, 0, G, D, T, C, R, B, L, G2, D2, M2, g, by omega, by simp, by simp, rfl, rfl, HI.out⟩, by simp [intOf]⟩
    · obtain rfl : z = (k : Int) := by omega
      clear hz
      by_cases hend : k < n ∧ k < 4398046511104
      · obtain ⟨hlt, hmax⟩ := hend
        have hlt' : (k : Int) < (n : Int) := by omega
        have hmax' : (k : Int) < 4398046511104 := by omega
        have hk0 : ¬ (k : Int) < 0 := by omega
        obtain ⟨X, off, hAx, ho⟩ := HA.out (by omega)
        have HAX : Hid (A = some ⟨X, off, none⟩) := hAx
        subst hAx
        obtain ⟨o0, o1, o2, o3, o4, o5⟩ := (ho k hlt).keep HF.out
        clear ho hmax HAX
        have HMEAS : Hid (k < n) := hlt
        clear hlt
        generalize O k = op at *
        obtain ⟨kd, a, b, c, s, t⟩ := op
        dsimp only at o0 o1 o2 o3 o4 o5
        have lPr := lt_of_cell p0
        have lXr := lt_of_cell o0
        by_cases h1 : kd = 1
        · subst h1
          have HFW : Hid (w.heap.size ≤ wr.heap.size) := HF.out.size
          clear HG HM HLT HLM
          go_wp2_with (go_at_call 41; refine calls_same (max0_nat k _) ?_)
          refine (ground_calls _).mono ?_
          rintro e w5 ⟨D, T, C, R, B, L, rfl, h5, f5, s5⟩
          have fw : Fr [] wr w5 := ((Fr.refl [] wr).alloc (Obj.cells #[.int .i64 1, .int .i64 a, .int .i64 b, .int .i64 c, .string s, .string t] 65)).trans f5 (by simp)
          have lP0 := lt_of_cell p0
          replace zP := fun o => fw.frozenv (zP o) lP0 (by simp)
          replace p0 := fw.cellv p0 (by simp)
          replace p1 := fw.cellv p1 (by simp)
          clear lP0
          have HS5 : Hid (∀ x ∈ [D, T, C, R, B, L], wr.heap.size < x ∧ x < w5.heap.size) := by
            have a1 := h5.bk.lD
            have a2 := h5.bk.lB
            have a3 := h5.bk.lL
            have a4 := h5.tb.lT
            have a5 := h5.tb.lC
            have a6 := h5.tb.lR
            intro x hx
            have := s5 x hx
            simp at this hx
            rcases hx with rfl | rfl | rfl | rfl | rfl | rfl <;> omega
          have H5 : Hid (LdAt w5 D T C R B L V.Ld.fresh) := h5
          have F5 : Hid (Fr [] w w5) := HF.out.trans fw (by simp)
          clear h5 f5 s5 fw HF o0 o1 o2 o3 o4 o5
          go_wp2_with fail
          have FP : Hid (Fr [P] w5 ((w5.setCell ⟨P, 0, none⟩ (.pointer (some ⟨D, 0, none⟩))).setCell ⟨P, 1, none⟩ (.pointer (some ⟨T, 0, none⟩)))) := ((Fr.refl _ _).setCell (by simp) _).setCell (by simp) _
          have r0 : ((w5.setCell ⟨P, 0, none⟩ (.pointer (some ⟨D, 0, none⟩))).setCell ⟨P, 1, none⟩ (.pointer (some ⟨T, 0, none⟩))).cell? ⟨P, 0, none⟩ = some (.pointer (some ⟨D, 0, none⟩)) := by simp [cell_set, p0, p1]
          have r1 : ((w5.setCell ⟨P, 0, none⟩ (.pointer (some ⟨D, 0, none⟩))).setCell ⟨P, 1, none⟩ (.pointer (some ⟨T, 0, none⟩))).cell? ⟨P, 1, none⟩ = some (.pointer (some ⟨T, 0, none⟩)) := by simp [cell_set, p0, p1]
          have rz : ∀ o, ((w5.setCell ⟨P, 0, none⟩ (.pointer (some ⟨D, 0, none⟩))).setCell ⟨P, 1, none⟩ (.pointer (some ⟨T, 0, none⟩))).frozen? ⟨P, o, none⟩ = false := fun o => by simp [zP o]
          clear p0 p1 zP
          generalize ((w5.setCell ⟨P, 0, none⟩ (.pointer (some ⟨D, 0, none⟩))).setCell ⟨P, 1, none⟩ (.pointer (some ⟨T, 0, none⟩))) = w5' at *
          refine (gnew_calls D T C R B L V.Ld.fresh w5' (H5.out.keep FP.out (fun x hx => by have := HS5.out x hx; simp; omega))).mono ?_
          rintro e w6 ⟨G, rfl, h6, f6, s6⟩
          have p0 := f6.cellv r0 (by simp)
          have p1 := f6.cellv r1 (by simp)
          have zP : ∀ o, w6.frozen? ⟨P, o, none⟩ = false := fun o => f6.frozenv (rz o) (lt_of_cell r0) (by simp)
          have H6 : Hid (GtAt w6 G D T C R B L freshG) := h6
          have F6 : Hid (Fr [] w w6) := (F5.out.trans FP.out (fun x hx hm => by have := HW.out.2.2; simp at hm; omega)).trans f6 (by simp)
          have HS6 : Hid (∀ x ∈ [G, D, T, C, R, B, L], wr.heap.size < x ∧ x < w6.heap.size) := by
            intro x hx
            refine ⟨?_, h6.lt x hx⟩
            rcases List.mem_cons.mp hx with rfl | hx
            · have := FP.out.size; have := lt_of_cell r0; have := s6; have := HS5.out D (by simp); omega
            · exact (HS5.out x hx).1
          clear h6 f6 s6 r0 r1 rz FP H5 F5 HS5
          go_wp2_with fail
          refine (mgnew_calls w6).mono ?_
          rintro e w7 ⟨G2, D2, M2, rfl, h7, f7, s7⟩
          have lP0 := lt_of_cell p0
          replace zP := fun o => f7.frozenv (zP o) lP0 (by simp)
          replace p0 := f7.cellv p0 (by simp)
          replace p1 := f7.cellv p1 (by simp)
          clear lP0
          have HG : Hid (GtAt w7 G D T C R B L freshG) := H6.out.keep f7 (by simp)
          have HM : Hid (MGtAt w7 G2 D2 M2 freshG) := h7
          have HF : Hid (Fr [] w w7) := F6.out.trans f7 (by simp)
          have hpw := HW.out.2.2
          have HW' : Hid ((∀ x ∈ [G, D, T, C, R, B, L], w.heap.size ≤ x ∧ ¬ x = P ∧ x ∉ [G2, D2, M2]) ∧ (∀ x ∈ [G2, D2, M2], w.heap.size ≤ x ∧ ¬ x = P ∧ x ∉ [G, D, T, C, R, B, L]) ∧ w.heap.size ≤ P) := by
            have hw := HFW.out
            refine ⟨fun x hx => ?_, fun x hx => ?_, hpw⟩
            · have := HS6.out x hx; exact ⟨by omega, by omega, fun hm => by have := s7 x hm; omega⟩
            · have h1 := s7 x hx; have h2 := HS6.out G (by simp); exact ⟨by omega, by omega, fun hm => by have := HS6.out x hm; omega⟩
          clear HW hpw
          have HW := HW'
          clear HW' HS6 H6 F6 h7 f7 s7
          have hne := fun a W => run_neqS a W
          have hgd := fun o1 o2 a b W => run_guardN o1 o2 a b W
          go_wp2_with fail
          refine calls_same (mled_calls G2 D2 M2 freshG w7 HM.out) ?_
          go_wp2_with fail
          refine (mdshow_calls D2 M2 freshG.d w7 HM.out.ld).mono ?_
          rintro e wA ⟨rfl, f9⟩
          have lP0 := lt_of_cell p0
          replace zP := fun o => f9.frozenv (zP o) lP0 (by simp)
          replace p0 := f9.cellv p0 (by simp)
          replace p1 := f9.cellv p1 (by simp)
          clear lP0
          have HG_wA : Hid (GtAt wA G D T C R B L freshG) := HG.out.keep f9 (by simp)
          have HM_wA : Hid (MGtAt wA G2 D2 M2 freshG) := HM.out.keep f9 (by simp)
          have HF_wA : Hid (Fr [] w wA) := HF.out.trans f9 (by simp)
          clear f9
          go_wp2_with fail
          refine (under_calls D T C R B L freshG.d wA HG_wA.out.ld).mono ?_
          rintro e wB ⟨rfl, f9⟩
          have lP0 := lt_of_cell p0
          replace zP := fun o => f9.frozenv (zP o) lP0 (by simp)
          replace p0 := f9.cellv p0 (by simp)
          replace p1 := f9.cellv p1 (by simp)
          clear lP0
          have HG_wB : Hid (GtAt wB G D T C R B L freshG) := HG_wA.out.keep f9 (by simp)
          have HM_wB : Hid (MGtAt wB G2 D2 M2 freshG) := HM_wA.out.keep f9 (by simp)
          have HF_wB : Hid (Fr [] w wB) := HF_wA.out.trans f9 (by simp)
          clear f9
          go_wp2_with fail
          refine (gshow_calls G D T C R B L freshG wB HG_wB.out).mono ?_
          rintro e wC ⟨rfl, f9⟩
          have lP0 := lt_of_cell p0
          replace zP := fun o => f9.frozenv (zP o) lP0 (by simp)
          replace p0 := f9.cellv p0 (by simp)
          replace p1 := f9.cellv p1 (by simp)
          clear lP0
          have HG_wC : Hid (GtAt wC G D T C R B L freshG) := HG_wB.out.keep f9 (by simp)
          have HM_wC : Hid (MGtAt wC G2 D2 M2 freshG) := HM_wB.out.keep f9 (by simp)
          have HF_wC : Hid (Fr [] w wC) := HF_wB.out.trans f9 (by simp)
          clear f9
          go_wp2_with fail
          refine (mgshow_calls G2 D2 M2 freshG wC HM_wC.out).mono ?_
          rintro e wD ⟨rfl, f9⟩
          have lP0 := lt_of_cell p0
          replace zP := fun o => f9.frozenv (zP o) lP0 (by simp)
          replace p0 := f9.cellv p0 (by simp)
          replace p1 := f9.cellv p1 (by simp)
          clear lP0
          have HG_wD : Hid (GtAt wD G D T C R B L freshG) := HG_wC.out.keep f9 (by simp)
          have HM_wD : Hid (MGtAt wD G2 D2 M2 freshG) := HM_wC.out.keep f9 (by simp)
          have HF_wD : Hid (Fr [] w wD) := HF_wC.out.trans f9 (by simp)
          clear f9
          go_wp2_with fail
          refine (gcheck_calls G D T C R B L freshG wD HG_wD.out).mono ?_
          rintro e wE ⟨rfl, f9⟩
          have lP0 := lt_of_cell p0
          replace zP := fun o => f9.frozenv (zP o) lP0 (by simp)
          replace p0 := f9.cellv p0 (by simp)
          replace p1 := f9.cellv p1 (by simp)
          clear lP0
          have HG_wE : Hid (GtAt wE G D T C R B L freshG) := HG_wD.out.keep f9 (by simp)
          have HM_wE : Hid (MGtAt wE G2 D2 M2 freshG) := HM_wD.out.keep f9 (by simp)
          have HF_wE : Hid (Fr [] w wE) := HF_wD.out.trans f9 (by simp)
          clear f9
          go_wp2_with fail
          refine (sound_calls D T C R B L freshG.d wE HG_wE.out.ld).mono ?_
          rintro e wF ⟨rfl, f9⟩
          have lP0 := lt_of_cell p0
          replace zP := fun o => f9.frozenv (zP o) lP0 (by simp)
          replace p0 := f9.cellv p0 (by simp)
          replace p1 := f9.cellv p1 (by simp)
          clear lP0
          have HG_wF : Hid (GtAt wF G D T C R B L freshG) := HG_wE.out.keep f9 (by simp)
          have HM_wF : Hid (MGtAt wF G2 D2 M2 freshG) := HM_wE.out.keep f9 (by simp)
          have HF_wF : Hid (Fr [] w wF) := HF_wE.out.trans f9 (by simp)
          clear f9
          have HI : Hid (RInv w P G D T C R B L G2 D2 M2 freshG wF) := ⟨HG_wF.out, HM_wF.out, p0, p1, zP, HF_wF.out, HW.out.1, HW.out.2.1, HW.out.2.2⟩
          clear p0 p1 zP
          go_wp2_with fail
          exact ⟨⟨k + 1 + 1, (k : Int) + 1, G, D, T, C, R, B, L, G2, D2, M2, freshG, by have := HMEAS.out; omega, by simp, by simp, rfl, rfl, HI.out⟩, by have := HMEAS.out; simp [intOf] <;> omega⟩
        · have j1 : (kd == 1) = false := by simpa using h1
          clear h1
          go_wp2_with (go_at_call 41; refine calls_same (max0_nat k _) ?_)
          have c0 : (wr.alloc (Obj.cells #[.int .i64 kd, .int .i64 a, .int .i64 b, .int .i64 c, .string s, .string t] 65)).cell? ⟨wr.heap.size, 0, none⟩ = some (.int .i64 kd) := by simp [go_sem]
          have c1 : (wr.alloc (Obj.cells #[.int .i64 kd, .int .i64 a, .int .i64 b, .int .i64 c, .string s, .string t] 65)).cell? ⟨wr.heap.size, 1, none⟩ = some (.int .i64 a) := by simp [go_sem]
          have c2 : (wr.alloc (Obj.cells #[.int .i64 kd, .int .i64 a, .int .i64 b, .int .i64 c, .string s, .string t] 65)).cell? ⟨wr.heap.size, 2, none⟩ = some (.int .i64 b) := by simp [go_sem]
          have c3 : (wr.alloc (Obj.cells #[.int .i64 kd, .int .i64 a, .int .i64 b, .int .i64 c, .string s, .string t] 65)).cell? ⟨wr.heap.size, 3, none⟩ = some (.int .i64 c) := by simp [go_sem]
          have c4 : (wr.alloc (Obj.cells #[.int .i64 kd, .int .i64 a, .int .i64 b, .int .i64 c, .string s, .string t] 65)).cell? ⟨wr.heap.size, 4, none⟩ = some (.string s) := by simp [go_sem]
          have c5 : (wr.alloc (Obj.cells #[.int .i64 kd, .int .i64 a, .int .i64 b, .int .i64 c, .string s, .string t] 65)).cell? ⟨wr.heap.size, 5, none⟩ = some (.string t) := by simp [go_sem]
          have fw : Fr [] wr (wr.alloc (Obj.cells #[.int .i64 kd, .int .i64 a, .int .i64 b, .int .i64 c, .string s, .string t] 65)) := (Fr.refl _ _).alloc _
          have lP0 := lt_of_cell p0
          replace zP := fun o => fw.frozenv (zP o) lP0 (by simp)
          replace p0 := fw.cellv p0 (by simp)
          replace p1 := fw.cellv p1 (by simp)
          clear lP0
          have HG1 : Hid (GtAt (wr.alloc (Obj.cells #[.int .i64 kd, .int .i64 a, .int .i64 b, .int .i64 c, .string s, .string t] 65)) G D T C R B L g) := HG.out.keep fw (by simp)
          have HM1 : Hid (MGtAt (wr.alloc (Obj.cells #[.int .i64 kd, .int .i64 a, .int .i64 b, .int .i64 c, .string s, .string t] 65)) G2 D2 M2 g) := HM.out.keep fw (by simp)
          have HF1 : Hid (Fr [] w (wr.alloc (Obj.cells #[.int .i64 kd, .int .i64 a, .int .i64 b, .int .i64 c, .string s, .string t] 65))) := HF.out.trans fw (by simp)
          have HNZ : Hid (wr.heap.size ∉ [G, D, T, C, R, B, L] ∧ wr.heap.size ∉ [G2, D2, M2]) := ⟨fun h => by have := HLT.out _ h; omega, fun h => by have := HLM.out _ h; omega⟩
          generalize (wr.alloc (Obj.cells #[.int .i64 kd, .int .i64 a, .int .i64 b, .int .i64 c, .string s, .string t] 65)) = W at *
          clear fw HG HM HF HLT HLM o0 o1 o2 o3 o4 o5
          generalize wr.heap.size = Z at *
          have HR1 : Hid (∀ X, GtAt X G D T C R B L g → Calls Try.prog 36 #[.pointer (some ⟨G, 0, none⟩), opV ⟨kd, a, b, c, s, t⟩] X fun x w' => x = .returned (ansV (doG g ⟨kd, a, b, c, s, t⟩).2.1 (doG g ⟨kd, a, b, c, s, t⟩).2.2) ∧ GtAt w' G D T C R B L (doG g ⟨kd, a, b, c, s, t⟩).1 ∧ Fr [G, D, T, C, R, B, L] X w') := fun X hX => do_calls G D T C R B L g _ X hX
          have HR2 : Hid (∀ X, MGtAt X G2 D2 M2 g → Calls Try.prog 42 #[.pointer (some ⟨G2, 0, none⟩), opV ⟨kd, a, b, c, s, t⟩] X fun x w' => x = .returned (ansV (doG g ⟨kd, a, b, c, s, t⟩).2.1 (doG g ⟨kd, a, b, c, s, t⟩).2.2) ∧ MGtAt w' G2 D2 M2 (doG g ⟨kd, a, b, c, s, t⟩).1 ∧ Fr [G2, D2, M2] X w') := fun X hX => dom_calls G2 D2 M2 g _ X hX
          generalize doG g ⟨kd, a, b, c, s, t⟩ = r at *
          obtain ⟨g1, e1, an⟩ := r
          dsimp only at HR1 HR2
          refine (HR1.out W HG1.out).mono ?_
          rintro e wb ⟨rfl, hb, fb⟩
          have nP : P ∉ [G, D, T, C, R, B, L] := fun h => (HW.out.1 P h).2.1 rfl
          have nP2 : P ∉ [G2, D2, M2] := fun h => (HW.out.2.1 P h).2.1 rfl
          have lP0 := lt_of_cell p0
          replace zP := fun o => fb.frozenv (zP o) lP0 nP
          replace p0 := fb.cellv p0 nP
          replace p1 := fb.cellv p1 nP
          clear lP0
          replace c0 := fb.cellv c0 HNZ.out.1
          replace c1 := fb.cellv c1 HNZ.out.1
          replace c2 := fb.cellv c2 HNZ.out.1
          replace c3 := fb.cellv c3 HNZ.out.1
          replace c4 := fb.cellv c4 HNZ.out.1
          replace c5 := fb.cellv c5 HNZ.out.1
          have HG2 : Hid (GtAt wb G D T C R B L g1) := hb
          have HM2 : Hid (MGtAt wb G2 D2 M2 g) := HM1.out.keep fb (fun x hx => (HW.out.2.1 x hx).2.2)
          have HF2 : Hid (Fr [] w wb) := HF1.out.trans fb (fun x hx hm => by have := HW.out.1 x hm; omega)
          clear fb hb HR1 HG1 HM1 HF1
          unfold ansV S
          have lP0 := lt_of_cell p0
          have lZ0 := lt_of_cell c0
          go_wp2_with fail
          have y0 : (wb.alloc (Obj.cells #[.int .i64 e1, .int .i64 0, .int .i64 0, .string ⟨an.toArray⟩] 68)).cell? ⟨wb.heap.size, 0, none⟩ = some (.int .i64 e1) := by simp [go_sem]
          have y1 : (wb.alloc (Obj.cells #[.int .i64 e1, .int .i64 0, .int .i64 0, .string ⟨an.toArray⟩] 68)).cell? ⟨wb.heap.size, 1, none⟩ = some (.int .i64 0) := by simp [go_sem]
          have y2 : (wb.alloc (Obj.cells #[.int .i64 e1, .int .i64 0, .int .i64 0, .string ⟨an.toArray⟩] 68)).cell? ⟨wb.heap.size, 2, none⟩ = some (.int .i64 0) := by simp [go_sem]
          have y3 : (wb.alloc (Obj.cells #[.int .i64 e1, .int .i64 0, .int .i64 0, .string ⟨an.toArray⟩] 68)).cell? ⟨wb.heap.size, 3, none⟩ = some (S an) := by simp [go_sem]; rfl
          have fy : Fr [] wb (wb.alloc (Obj.cells #[.int .i64 e1, .int .i64 0, .int .i64 0, .string ⟨an.toArray⟩] 68)) := (Fr.refl _ _).alloc _
          clear lP0
          have lP0 := lt_of_cell p0
          replace zP := fun o => fy.frozenv (zP o) lP0 (by simp)
          replace p0 := fy.cellv p0 (by simp)
          replace p1 := fy.cellv p1 (by simp)
          clear lP0
          replace c0 := fy.cellv c0 (by simp)
          replace c1 := fy.cellv c1 (by simp)
          replace c2 := fy.cellv c2 (by simp)
          replace c3 := fy.cellv c3 (by simp)
          replace c4 := fy.cellv c4 (by simp)
          replace c5 := fy.cellv c5 (by simp)
          have HG3 : Hid (GtAt (wb.alloc (Obj.cells #[.int .i64 e1, .int .i64 0, .int .i64 0, .string ⟨an.toArray⟩] 68)) G D T C R B L g1) := HG2.out.keep fy (by simp)
          have HM3 : Hid (MGtAt (wb.alloc (Obj.cells #[.int .i64 e1, .int .i64 0, .int .i64 0, .string ⟨an.toArray⟩] 68)) G2 D2 M2 g) := HM2.out.keep fy (by simp)
          have HF3 : Hid (Fr [] w (wb.alloc (Obj.cells #[.int .i64 e1, .int .i64 0, .int .i64 0, .string ⟨an.toArray⟩] 68))) := HF2.out.trans fy (by simp)
          have nY2 : wb.heap.size ∉ [G2, D2, M2] := fun h => by have := HM2.out.lt _ h; omega
          generalize (wb.alloc (Obj.cells #[.int .i64 e1, .int .i64 0, .int .i64 0, .string ⟨an.toArray⟩] 68)) = wc at *
          generalize wb.heap.size = Y at *
          clear fy HG2 HM2 HF2
          refine (HR2.out wc HM3.out).mono ?_
          rintro e wd ⟨rfl, hd, fd⟩
          have lP0 := lt_of_cell p0
          replace zP := fun o => fd.frozenv (zP o) lP0 nP2
          replace p0 := fd.cellv p0 nP2
          replace p1 := fd.cellv p1 nP2
          clear lP0
          replace y0 := fd.cellv y0 nY2
          replace y1 := fd.cellv y1 nY2
          replace y2 := fd.cellv y2 nY2
          replace y3 := fd.cellv y3 nY2
          have HM4 : Hid (MGtAt wd G2 D2 M2 g1) := hd
          have HG4 : Hid (GtAt wd G D T C R B L g1) := HG3.out.keep fd (fun x hx => (HW.out.1 x hx).2.2)
          have HF4 : Hid (Fr [] w wd) := HF3.out.trans fd (fun x hx hm => by have := HW.out.2.1 x hm; omega)
          clear fd hd HR2 HG3 HM3 HF3 c0 c1 c2 c3 c4 c5 nY2 nP nP2 HNZ lZ0
          unfold ansV S
          unfold S at y3
          have hne68 := fun W => run_neq68 e1 an W
          have hgd68 := fun o1 o2 W => run_guard68 o1 o2 e1 an W
          unfold S at hne68 hgd68
          have lY := lt_of_cell y0
          have lP9 := lt_of_cell p0
          have fz : Fr [] wd (wd.alloc (Obj.cells #[.int .i64 e1, .int .i64 0, .int .i64 0, .string ⟨an.toArray⟩] 68)) := (Fr.refl _ _).alloc _
          have HG5 : Hid (GtAt (wd.alloc (Obj.cells #[.int .i64 e1, .int .i64 0, .int .i64 0, .string ⟨an.toArray⟩] 68)) G D T C R B L g1) := HG4.out.keep fz (by simp)
          have HM5 : Hid (MGtAt (wd.alloc (Obj.cells #[.int .i64 e1, .int .i64 0, .int .i64 0, .string ⟨an.toArray⟩] 68)) G2 D2 M2 g1) := HM4.out.keep fz (by simp)
          have HF5 : Hid (Fr [] w (wd.alloc (Obj.cells #[.int .i64 e1, .int .i64 0, .int .i64 0, .string ⟨an.toArray⟩] 68))) := HF4.out.trans fz (by simp)
          clear fz
          go_wp2_with fail
          have fz : Fr [] wd (wd.alloc (Obj.cells #[.int .i64 e1, .int .i64 0, .int .i64 0, .string ⟨an.toArray⟩] 68)) := (Fr.refl _ _).alloc _
          have lP0 := lt_of_cell p0
          replace zP := fun o => fz.frozenv (zP o) lP0 (by simp)
          replace p0 := fz.cellv p0 (by simp)
          replace p1 := fz.cellv p1 (by simp)
          clear lP0
          clear fz hne68 hgd68 y0 y1 y2 y3 lY lP9 HG4 HM4 HF4
          generalize (wd.alloc (Obj.cells #[.int .i64 e1, .int .i64 0, .int .i64 0, .string ⟨an.toArray⟩] 68)) = wz at *
          have hne := fun a W => run_neqS a W
          have hgd := fun o1 o2 a b W => run_guardN o1 o2 a b W
          refine calls_same (mled_calls G2 D2 M2 g1 wz HM5.out) ?_
          go_wp2_with fail
          refine (mdshow_calls D2 M2 g1.d wz HM5.out.ld).mono ?_
          rintro e wA ⟨rfl, f9⟩
          have lP0 := lt_of_cell p0
          replace zP := fun o => f9.frozenv (zP o) lP0 (by simp)
          replace p0 := f9.cellv p0 (by simp)
          replace p1 := f9.cellv p1 (by simp)
          clear lP0
          have HG_wA : Hid (GtAt wA G D T C R B L g1) := HG5.out.keep f9 (by simp)
          have HM_wA : Hid (MGtAt wA G2 D2 M2 g1) := HM5.out.keep f9 (by simp)
          have HF_wA : Hid (Fr [] w wA) := HF5.out.trans f9 (by simp)
          clear f9
          go_wp2_with fail
          refine (under_calls D T C R B L g1.d wA HG_wA.out.ld).mono ?_
          rintro e wB ⟨rfl, f9⟩
          have lP0 := lt_of_cell p0
          replace zP := fun o => f9.frozenv (zP o) lP0 (by simp)
          replace p0 := f9.cellv p0 (by simp)
          replace p1 := f9.cellv p1 (by simp)
          clear lP0
          have HG_wB : Hid (GtAt wB G D T C R B L g1) := HG_wA.out.keep f9 (by simp)
          have HM_wB : Hid (MGtAt wB G2 D2 M2 g1) := HM_wA.out.keep f9 (by simp)
          have HF_wB : Hid (Fr [] w wB) := HF_wA.out.trans f9 (by simp)
          clear f9
          go_wp2_with fail
          refine (gshow_calls G D T C R B L g1 wB HG_wB.out).mono ?_
          rintro e wC ⟨rfl, f9⟩
          have lP0 := lt_of_cell p0
          replace zP := fun o => f9.frozenv (zP o) lP0 (by simp)
          replace p0 := f9.cellv p0 (by simp)
          replace p1 := f9.cellv p1 (by simp)
          clear lP0
          have HG_wC : Hid (GtAt wC G D T C R B L g1) := HG_wB.out.keep f9 (by simp)
          have HM_wC : Hid (MGtAt wC G2 D2 M2 g1) := HM_wB.out.keep f9 (by simp)
          have HF_wC : Hid (Fr [] w wC) := HF_wB.out.trans f9 (by simp)
          clear f9
          go_wp2_with fail
          refine (mgshow_calls G2 D2 M2 g1 wC HM_wC.out).mono ?_
          rintro e wD ⟨rfl, f9⟩
          have lP0 := lt_of_cell p0
          replace zP := fun o => f9.frozenv (zP o) lP0 (by simp)
          replace p0 := f9.cellv p0 (by simp)
          replace p1 := f9.cellv p1 (by simp)
          clear lP0
          have HG_wD : Hid (GtAt wD G D T C R B L g1) := HG_wC.out.keep f9 (by simp)
          have HM_wD : Hid (MGtAt wD G2 D2 M2 g1) := HM_wC.out.keep f9 (by simp)
          have HF_wD : Hid (Fr [] w wD) := HF_wC.out.trans f9 (by simp)
          clear f9
          go_wp2_with fail
          refine (gcheck_calls G D T C R B L g1 wD HG_wD.out).mono ?_
          rintro e wE ⟨rfl, f9⟩
          have lP0 := lt_of_cell p0
          replace zP := fun o => f9.frozenv (zP o) lP0 (by simp)
          replace p0 := f9.cellv p0 (by simp)
          replace p1 := f9.cellv p1 (by simp)
          clear lP0
          have HG_wE : Hid (GtAt wE G D T C R B L g1) := HG_wD.out.keep f9 (by simp)
          have HM_wE : Hid (MGtAt wE G2 D2 M2 g1) := HM_wD.out.keep f9 (by simp)
          have HF_wE : Hid (Fr [] w wE) := HF_wD.out.trans f9 (by simp)
          clear f9
          go_wp2_with fail
          refine (sound_calls D T C R B L g1.d wE HG_wE.out.ld).mono ?_
          rintro e wF ⟨rfl, f9⟩
          have lP0 := lt_of_cell p0
          replace zP := fun o => f9.frozenv (zP o) lP0 (by simp)
          replace p0 := f9.cellv p0 (by simp)
          replace p1 := f9.cellv p1 (by simp)
          clear lP0
          have HG_wF : Hid (GtAt wF G D T C R B L g1) := HG_wE.out.keep f9 (by simp)
          have HM_wF : Hid (MGtAt wF G2 D2 M2 g1) := HM_wE.out.keep f9 (by simp)
          have HF_wF : Hid (Fr [] w wF) := HF_wE.out.trans f9 (by simp)
          clear f9
          have HI : Hid (RInv w P G D T C R B L G2 D2 M2 g1 wF) := ⟨HG_wF.out, HM_wF.out, p0, p1, zP, HF_wF.out, HW.out.1, HW.out.2.1, HW.out.2.2⟩
          clear p0 p1 zP
          go_wp2_with fail
          exact ⟨⟨k + 1 + 1, (k : Int) + 1, G, D, T, C, R, B, L, G2, D2, M2, g1, by have := HMEAS.out; omega, by simp, by simp, rfl, rfl, HI.out⟩, by have := HMEAS.out; simp [intOf] <;> omega⟩
      · by_cases hkn : (k : Int) < (n : Int)
        · have hkm : ¬ (k : Int) < 4398046511104 := by omega
          have hnm : ¬ (n : Int) < 4398046511104 := by omega
          clear hend p0 p1 zP
          go_wp2_with fail
          go_ret2
          exact ⟨⟨_, rfl⟩, HF.out⟩
        · by_cases hnm : (n : Int) < 4398046511104
          · clear hend p0 p1 zP
            go_wp2_with fail
            go_ret2
            exact ⟨⟨_, rfl⟩, HF.out⟩
          · clear hend p0 p1 zP
            go_wp2_with fail
            go_ret2
            exact ⟨⟨_, rfl⟩, HF.out⟩


end Go.Proofs.Qxb6500360a
