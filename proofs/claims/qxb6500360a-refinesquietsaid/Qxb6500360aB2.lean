/-
  L2: the real ledger: Batch.
-/
import Derived.Test.Qxb6500360aB1
namespace Go.Proofs.Qxb6500360a
open Go.RowKit
set_option linter.unusedSimpArgs false
set_option linter.unusedVariables false

theorem hide_ {p : Prop} (h : p) : Hid p := h
theorem idx0 (x y : Int) (W : World) : (Instr.index 125 (.agg #[.int .i64 x, .int .i64 y]) (.int .i64 0)).run Try.prog W = .ok (.int .i64 x) W := by
  obtain ⟨i, hi, hz, hn, hb⟩ := info_of (t := 3) (z := .int .i64 0) (n := 1) (b := 8) (by kernel_rfl)
  simp [Instr.index, asIntOf, run_underlying Try.underlying125, part, sizeOf, typeInfo, hi, hn]
theorem idx1 (x y : Int) (W : World) : (Instr.index 125 (.agg #[.int .i64 x, .int .i64 y]) (.int .i64 1)).run Try.prog W = .ok (.int .i64 y) W := by
  obtain ⟨i, hi, hz, hn, hb⟩ := info_of (t := 3) (z := .int .i64 0) (n := 1) (b := 8) (by kernel_rfl)
  simp [Instr.index, asIntOf, run_underlying Try.underlying125, part, sizeOf, typeInfo, hi, hn]

set_option maxHeartbeats 2000000 in
set_option maxRecDepth 100000 in
theorem batch_run (D T C R B L MS cap : Nat) (d : V.Ld) (ms : List V.Mv) (w : World) (h : LdAt w D T C R B L d) (hl : ms.length ≤ 3) (hms : MsAt w MS ms) (hM : MS < w.heap.size) (hMn : MS ∉ [D, T, C, R, B, L]) :
    Calls Try.prog 62 #[.pointer (some ⟨D, 0, none⟩), .slice (some ⟨MS, 0, none⟩) ms.length cap] w fun e w' => e = .returned (.tuple #[.int .i64 (d.batch ms).2.1, .int .i64 (d.batch ms).2.2]) ∧ LdAt w' D T C R B L (d.batch ms).1 ∧ Fr [D, T, C, R, B, L] w w' := by
  have d0 := h.bk.d0
  have HH : Hid (LdAt w D T C R B L d) := h
  have lD := h.bk.lD
  have lB := h.bk.lB
  have lL := h.bk.lL
  have lT := h.tb.lT
  have lC := h.tb.lC
  have lR := h.tb.lR
  have hli : (ms.length : Int) ≤ 3 := by omega
  have hmf : ∀ (fn : Fn) (first cap : Array Value) (w : World), (Instr.makeFunc fn first cap).run Try.prog w = .ok (.func fn first cap) w := fun _ _ _ _ => rfl
  have HM : Hid (MsAt w MS ms) := hms
  clear h hms
  go_enter_defers Try.func62, Try.ntmps62
  go_wp2_with fail
  refine (clear_calls T C R d.t _ ((HH.out.tb.alloc _).alloc _)).mono ?_
  rintro e w1 ⟨rfl, ht1, hf1⟩
  have k0 : w1.cell? ⟨w.heap.size, 0, none⟩ = some (.int .i64 0) := by rw [hf1.cell (by simp; omega) (by simp; omega)]; simp [go_sem]
  have k1 : w1.cell? ⟨w.heap.size + 1, 0, none⟩ = some (.int .i64 0) := by rw [hf1.cell (by simp) (by simp; omega)]; simp [go_sem]
  have g0 : w1.frozen? ⟨w.heap.size, 0, none⟩ = false := by rw [hf1.frozen (by simp; omega) (by simp; omega)]; simp [go_sem]
  have g1 : w1.frozen? ⟨w.heap.size + 1, 0, none⟩ = false := by rw [hf1.frozen (by simp) (by simp; omega)]; simp [go_sem]
  have hb1 := (((HH.out.bk.alloc _).alloc _)).keepT HH.out.sp hf1
  have HB1 : Hid (BkAt w1 D T B L d.bal [] d.und) := hb1
  have HT1 : Hid (TabAt w1 T C R d.t.clear) := ht1
  have HF1 : Hid (Fr [D, T, C, R, B, L] w w1) := (((Fr.refl _ _).alloc _).alloc _).trans hf1.wide (fun _ _ h => h)
  have HM1 : Hid (MsAt w1 MS ms) := (HM.out.keep (X := []) (((Fr.refl _ _).alloc _).alloc _) (by simp)).keep hf1 (by simp at hMn ⊢; omega)
  have HK : Hid (w1.cell? ⟨w.heap.size, 0, none⟩ = some (.int .i64 0) ∧ w1.cell? ⟨w.heap.size + 1, 0, none⟩ = some (.int .i64 0) ∧ w1.frozen? ⟨w.heap.size, 0, none⟩ = false ∧ w1.frozen? ⟨w.heap.size + 1, 0, none⟩ = false) := ⟨k0, k1, g0, g1⟩
  have HO : Hid (D < w.heap.size ∧ T < w.heap.size ∧ C < w.heap.size ∧ R < w.heap.size ∧ B < w.heap.size ∧ L < w.heap.size ∧ MS < w.heap.size ∧ w.heap.size + 1 < w1.heap.size) := ⟨lD, lT, lC, lR, lB, lL, hM, lt_of_cell k1⟩
  clear ht1 hf1 hb1 d0 k0 k1 g0 g1 lD lB lL lT lC lR hM HM
  go_wp2_with fail
  refine (begin_calls D _).mono ?_
  rintro e w2 ⟨rfl, rfl⟩
  go_wp2_with fail
  have hI0 : BatAt w w.heap.size (w.heap.size + 1) w1.heap.size (w1.heap.size + 1) (w1.heap.size + 1 + 1) (w1.heap.size + 1 + 1 + 1) MS D T C R B L d ms ⟨d.t.clear, [false, false, false, false], [], d.bal⟩ [] 0 0 false ((((w1.alloc (.cells #[.pointer (some ⟨D, 0, none⟩)] 133)).alloc (.cells #[.pointer (some ⟨w1.heap.size, 0, none⟩)] 122)).alloc (.cells #[.bool false] 4)).alloc (.cells #[.bool false, .bool false, .bool false, .bool false] 124)) := by
    obtain ⟨k0, k1, g0, g1⟩ := HK.out
    have o := HO.out
    have hfa : Fr [] w1 ((((w1.alloc (.cells #[.pointer (some ⟨D, 0, none⟩)] 133)).alloc (.cells #[.pointer (some ⟨w1.heap.size, 0, none⟩)] 122)).alloc (.cells #[.bool false] 4)).alloc (.cells #[.bool false, .bool false, .bool false, .bool false] 124)) := ((((Fr.refl _ _).alloc _).alloc _).alloc _).alloc _
    refine ⟨hfa.cellv k0 (by simp), hfa.cellv k1 (by simp), by simp [go_sem], by simp [go_sem], by simp [go_sem], ?_, hfa.frozenv g0 (lt_of_cell k0) (by simp), hfa.frozenv g1 (lt_of_cell k1) (by simp), by simp [go_sem], fun o => by simp [go_sem], HB1.out.keep hfa (by simp) (by simp) (by simp), HT1.out.keep hfa (by simp) (by simp) (by simp), HM1.out.keep hfa (by simp), rfl, ⟨HH.out.bk.lb, rfl⟩, HF1.out.trans hfa (by simp), by omega, ⟨Nat.le_refl _, hMn⟩⟩
    intro k hk
    rcases (show k = 0 ∨ k = 1 ∨ k = 2 ∨ k = 3 by omega) with rfl | rfl | rfl | rfl <;> simp [go_sem]
  have HI0 := hI0
  have sp := HH.out.sp
  clear hI0 HK HO HB1 HT1 HF1 HM1 hmf
  generalize decide ((3 : Int) < ms.length) = x16
  generalize (((w1.alloc (.cells #[.pointer (some ⟨D, 0, none⟩)] 133)).alloc (.cells #[.pointer (some ⟨w1.heap.size, 0, none⟩)] 122)).alloc (.cells #[.bool false] 4)).alloc (.cells #[.bool false, .bool false, .bool false, .bool false] 124) = W at *
  generalize w1.heap.size + 1 + 1 + 1 = MN at *
  generalize w1.heap.size + 1 + 1 = DN at *
  generalize w1.heap.size + 1 = TX at *
  generalize w1.heap.size = X at *
  generalize w.heap.size + 1 = E at *
  generalize hN : w.heap.size = N at HI0 ⊢
  have HI : Hid (BatAt w N E X TX DN MN MS D T C R B L d ms ⟨d.t.clear, [false, false, false, false], [], d.bal⟩ [] 0 0 false W) := HI0
  clear HI0 hN
  refine wp_loop_ghost_k (fun g a' w' => ∃ (i : Nat) (s : V.Bst) (lg : List (Nat × Int)) (defs : List Deferred) (u9 u10 u11 u13 u28 u29 u30 u31 u32 u33 u34 u35 u36 u37 u38 u39 u40 u41 u42 u43 u44 u45 u46 u47 u48 u49 u50 u51 u52 u53 u54 u55 u56 u57 u58 u59 u60 u61 u62 u63 u64 u65 u66 u67 u68 u69 u70 u71 u72 u73 u74 u75 u76 : Value),
      (u28 = .int .i64 i ∧ defs = s.hs.map (relD T) ++ [{ target := .fn (.func 89) #[.pointer (some ⟨DN, 0, none⟩), .pointer (some ⟨TX, 0, none⟩)], args := #[] }, { target := .fn (.func 80) #[], args := #[.pointer (some ⟨D, 0, none⟩), .pointer (some ⟨N, 0, none⟩), .pointer (some ⟨E, 0, none⟩)] }] ∧ BatI w N E X TX DN MN MS D T C R B L d ms g i s lg w') ∧ a' = { tmps := #[.pointer (some ⟨D, 0, none⟩), .slice (some ⟨MS, 0, none⟩) ms.length cap, undef, undef, .pointer (some ⟨N, 0, none⟩), .pointer (some ⟨E, 0, none⟩), .pointer (some ⟨TX, 0, none⟩), .pointer (some ⟨DN, 0, none⟩), .pointer (some ⟨MN, 0, none⟩), u9, u10, u11, undef, u13, .slice (some ⟨MS, 0, none⟩) ms.length cap, .int .i64 ms.length, .bool x16, .pointer (some ⟨D, 0, none⟩), .pointer (some ⟨D, 0, none⟩), .pointer (some ⟨D, 0, none⟩), .pointer (some ⟨D, 0, none⟩), .pointer (some ⟨T, 0, none⟩), .tuple #[], .pointer (some ⟨D, 0, none⟩), .pointer (some ⟨X, 0, none⟩), .func (.func 89) #[] #[.pointer (some ⟨DN, 0, none⟩), .pointer (some ⟨TX, 0, none⟩)], .slice (some ⟨MS, 0, none⟩) ms.length cap, .int .i64 ms.length, u28, u29, u30, u31, u32, u33, u34, u35, u36, u37, u38, u39, u40, u41, u42, u43, u44, u45, u46, u47, u48, u49, u50, u51, u52, u53, u54, u55, u56, u57, u58, u59, u60, u61, u62, u63, u64, u65, u66, u67, u68, u69, u70, u71, u72, u73, u74, u75, u76, undef, undef], defers := defs }) ms.length ?_ ?_
  · refine ⟨0, ⟨d.t.clear, [false, false, false, false], [], d.bal⟩, [], ?_⟩
    (repeat apply Exists.intro)
    refine ⟨⟨?_, ?_, ?_⟩, rfl⟩
    · rfl
    · rfl
    · exact ⟨HI.out, by omega, rfl, by simp, by simp, HH.out.sum⟩
  · intro gk a wr hinv J K hJ hK
    obtain ⟨i, s, lg, defs, hinv⟩ := hinv
    obtain ⟨u9, hinv⟩ := hinv
    obtain ⟨u10, hinv⟩ := hinv
    obtain ⟨u11, hinv⟩ := hinv
    obtain ⟨u13, hinv⟩ := hinv
    obtain ⟨u28, hinv⟩ := hinv
    obtain ⟨u29, hinv⟩ := hinv
    obtain ⟨u30, hinv⟩ := hinv
    obtain ⟨u31, hinv⟩ := hinv
    obtain ⟨u32, hinv⟩ := hinv
    obtain ⟨u33, hinv⟩ := hinv
    obtain ⟨u34, hinv⟩ := hinv
    obtain ⟨u35, hinv⟩ := hinv
    obtain ⟨u36, hinv⟩ := hinv
    obtain ⟨u37, hinv⟩ := hinv
    obtain ⟨u38, hinv⟩ := hinv
    obtain ⟨u39, hinv⟩ := hinv
    obtain ⟨u40, hinv⟩ := hinv
    obtain ⟨u41, hinv⟩ := hinv
    obtain ⟨u42, hinv⟩ := hinv
    obtain ⟨u43, hinv⟩ := hinv
    obtain ⟨u44, hinv⟩ := hinv
    obtain ⟨u45, hinv⟩ := hinv
    obtain ⟨u46, hinv⟩ := hinv
    obtain ⟨u47, hinv⟩ := hinv
    obtain ⟨u48, hinv⟩ := hinv
    obtain ⟨u49, hinv⟩ := hinv
    obtain ⟨u50, hinv⟩ := hinv
    obtain ⟨u51, hinv⟩ := hinv
    obtain ⟨u52, hinv⟩ := hinv
    obtain ⟨u53, hinv⟩ := hinv
    obtain ⟨u54, hinv⟩ := hinv
    obtain ⟨u55, hinv⟩ := hinv
    obtain ⟨u56, hinv⟩ := hinv
    obtain ⟨u57, hinv⟩ := hinv
    obtain ⟨u58, hinv⟩ := hinv
    obtain ⟨u59, hinv⟩ := hinv
    obtain ⟨u60, hinv⟩ := hinv
    obtain ⟨u61, hinv⟩ := hinv
    obtain ⟨u62, hinv⟩ := hinv
    obtain ⟨u63, hinv⟩ := hinv
    obtain ⟨u64, hinv⟩ := hinv
    obtain ⟨u65, hinv⟩ := hinv
    obtain ⟨u66, hinv⟩ := hinv
    obtain ⟨u67, hinv⟩ := hinv
    obtain ⟨u68, hinv⟩ := hinv
    obtain ⟨u69, hinv⟩ := hinv
    obtain ⟨u70, hinv⟩ := hinv
    obtain ⟨u71, hinv⟩ := hinv
    obtain ⟨u72, hinv⟩ := hinv
    obtain ⟨u73, hinv⟩ := hinv
    obtain ⟨u74, hinv⟩ := hinv
    obtain ⟨u75, hinv⟩ := hinv
    obtain ⟨u76, hinv⟩ := hinv
    obtain ⟨⟨h28, hdefs, hi⟩, ha⟩ := hinv
    subst h28 ha
    have HI : Hid (BatI w N E X TX DN MN MS D T C R B L d ms gk i s lg wr) := hi
    have HD : Hid (defs = s.hs.map (relD T) ++ [{ target := .fn (.func 89) #[.pointer (some ⟨DN, 0, none⟩), .pointer (some ⟨TX, 0, none⟩)], args := #[] }, { target := .fn (.func 80) #[], args := #[.pointer (some ⟨D, 0, none⟩), .pointer (some ⟨N, 0, none⟩), .pointer (some ⟨E, 0, none⟩)] }]) := hdefs
    clear hi hdefs
    by_cases hlt : i < ms.length
    · obtain ⟨m, hm⟩ : ∃ m, ms[i]? = some m := ⟨ms[i], List.getElem?_eq_getElem hlt⟩
      obtain ⟨a0, a1, a2⟩ := HI.out.at_.hm i m hm
      have lE := lt_of_cell HI.out.at_.ce
      have ce := HI.out.at_.ce
      have fe := HI.out.at_.fe
      have hii : (i : Int) < (ms.length : Int) := by omega
      have HMm : Hid (ms[i]? = some m) := hm
      clear hm
      have hdrop : ms.drop i = m :: ms.drop (i + 1) := by
        rw [List.drop_eq_getElem_cons hlt]
        have := HMm.out
        rw [List.getElem?_eq_getElem hlt] at this
        simp at this
        rw [this]
      have HRN : Hid (V.Bst.run ⟨d.t.clear, [false, false, false, false], [], d.bal⟩ 0 ms = V.Bst.run s i (m :: ms.drop (i + 1))) := by show _ = _; rw [HI.out.rn, hdrop]
      clear hdrop
      go_wp2_with fail
      refine (check_calls m _).mono ?_
      rintro e w2 ⟨rfl, hf2⟩
      have hb2 : BatAt w N E X TX DN MN MS D T C R B L d ms s lg 0 0 false w2 := HI.out.at_.keep (((Fr.refl _ _).alloc _).trans hf2 (by simp))
      have HMB : Hid (w2.cell? ⟨wr.heap.size, 0, none⟩ = some (.int .i64 m.f) ∧ w2.cell? ⟨wr.heap.size, 1, none⟩ = some (.int .i64 m.t) ∧ w2.cell? ⟨wr.heap.size, 2, none⟩ = some (.int .i64 m.a)) :=
        ⟨by rw [hf2.cell (by simp) (by simp)]; simp [go_sem], by rw [hf2.cell (by simp) (by simp)]; simp [go_sem], by rw [hf2.cell (by simp) (by simp)]; simp [go_sem]⟩
      have HA : Hid (BatAt w N E X TX DN MN MS D T C R B L d ms s lg 0 0 false w2) := hb2
      have lMM : MN < wr.heap.size := lt_of_cell (HI.out.at_.cm 0 (by omega))
      have HMM : Hid (MN < wr.heap.size) := lMM
      have ce2 := hb2.ce
      have fe2 := hb2.fe
      have cn2 := hb2.cn
      have fn2 := hb2.fn
      have hNE : ¬ N = E := by have := hb2.ho; omega
      have hEN : ¬ E = N := by have := hb2.ho; omega
      generalize wr.heap.size = M at *
      clear hb2 hf2 a0 a1 a2 ce fe lE lMM
      by_cases hc : V.check m = 0
      · rw [hc]
        clear cn2 fn2
        obtain ⟨m0, m1, m2⟩ := HMB.out
        have nME : ¬ E = M := by have h1 := HA.out.ho; have h2 := HMM.out; omega
        go_wp2_with fail
        have HA1 : Hid (BatAt w N E X TX DN MN MS D T C R B L d ms s lg 0 0 false (w2.setCell ⟨E, 0, none⟩ (.int .i64 0))) := HA.out.setE 0
        have HMB1 : Hid ((w2.setCell ⟨E, 0, none⟩ (.int .i64 0)).cell? ⟨M, 0, none⟩ = some (.int .i64 m.f) ∧ (w2.setCell ⟨E, 0, none⟩ (.int .i64 0)).cell? ⟨M, 1, none⟩ = some (.int .i64 m.t) ∧ (w2.setCell ⟨E, 0, none⟩ (.int .i64 0)).cell? ⟨M, 2, none⟩ = some (.int .i64 m.a)) := by
          refine ⟨?_, ?_, ?_⟩ <;> (rw [cell_set, if_neg (fun h => nME h.1)]; assumption)
        clear m0 m1 m2 HMB HA ce2 fe2
        generalize w2.setCell ⟨E, 0, none⟩ (.int .i64 0) = W at *
        refine wp_loop_ghost_k (fun g a' w' => ∃ (k : Nat) (s2 : V.Bst) (defs2 : List Deferred) (u9 u13 u29 u30 u31 u32 u33 u34 u35 u36 u37 u38 u39 u40 u41 u42 u44 u45 u46 u47 u48 u49 u50 u51 u52 u53 u54 u55 u56 u57 u58 u59 u60 u61 u62 u63 u64 u65 u66 u67 u68 u69 u70 u71 u72 u73 u74 u75 u76 : Value),
            (u44 = .int .i64 k ∧ defs2 = s2.hs.map (relD T) ++ [{ target := .fn (.func 89) #[.pointer (some ⟨DN, 0, none⟩), .pointer (some ⟨TX, 0, none⟩)], args := #[] }, { target := .fn (.func 80) #[], args := #[.pointer (some ⟨D, 0, none⟩), .pointer (some ⟨N, 0, none⟩), .pointer (some ⟨E, 0, none⟩)] }] ∧ LkI w N E X TX DN MN MS D T C R B L d ms s lg M m g k s2 w') ∧ a' = { tmps := #[.pointer (some ⟨D, 0, none⟩), .slice (some ⟨MS, 0, none⟩) ms.length cap, undef, undef, .pointer (some ⟨N, 0, none⟩), .pointer (some ⟨E, 0, none⟩), .pointer (some ⟨TX, 0, none⟩), .pointer (some ⟨DN, 0, none⟩), .pointer (some ⟨MN, 0, none⟩), u9, .int .i64 i, .pointer (some ⟨M, 0, none⟩), undef, u13, .slice (some ⟨MS, 0, none⟩) ms.length cap, .int .i64 ms.length, .bool x16, .pointer (some ⟨D, 0, none⟩), .pointer (some ⟨D, 0, none⟩), .pointer (some ⟨D, 0, none⟩), .pointer (some ⟨D, 0, none⟩), .pointer (some ⟨T, 0, none⟩), .tuple #[], .pointer (some ⟨D, 0, none⟩), .pointer (some ⟨X, 0, none⟩), .func (.func 89) #[] #[.pointer (some ⟨DN, 0, none⟩), .pointer (some ⟨TX, 0, none⟩)], .slice (some ⟨MS, 0, none⟩) ms.length cap, .int .i64 ms.length, .int .i64 i, u29, u30, u31, u32, u33, u34, u35, u36, u37, u38, u39, u40, u41, u42, .agg #[.int .i64 m.f, .int .i64 m.t], u44, u45, u46, u47, u48, u49, u50, u51, u52, u53, u54, u55, u56, u57, u58, u59, u60, u61, u62, u63, u64, u65, u66, u67, u68, u69, u70, u71, u72, u73, u74, u75, u76, undef, undef], defers := defs2 }) 2 ?_ ?_
        · refine ⟨0, s, ?_⟩
          (repeat apply Exists.intro)
          refine ⟨⟨?_, ?_, ?_⟩, rfl⟩
          · rfl
          · exact HD.out
          · exact ⟨HA1.out, HMB1.out.1, HMB1.out.2.1, HMB1.out.2.2, HMM.out, by omega, .inl ⟨rfl, rfl⟩⟩
        · intro g2 a2 w4 hinv J2 K2 hJ2 hK2
          obtain ⟨k, s2, defs2, hinv⟩ := hinv
          obtain ⟨v9, hinv⟩ := hinv
          obtain ⟨v13, hinv⟩ := hinv
          obtain ⟨v29, hinv⟩ := hinv
          obtain ⟨v30, hinv⟩ := hinv
          obtain ⟨v31, hinv⟩ := hinv
          obtain ⟨v32, hinv⟩ := hinv
          obtain ⟨v33, hinv⟩ := hinv
          obtain ⟨v34, hinv⟩ := hinv
          obtain ⟨v35, hinv⟩ := hinv
          obtain ⟨v36, hinv⟩ := hinv
          obtain ⟨v37, hinv⟩ := hinv
          obtain ⟨v38, hinv⟩ := hinv
          obtain ⟨v39, hinv⟩ := hinv
          obtain ⟨v40, hinv⟩ := hinv
          obtain ⟨v41, hinv⟩ := hinv
          obtain ⟨v42, hinv⟩ := hinv
          obtain ⟨v44, hinv⟩ := hinv
          obtain ⟨v45, hinv⟩ := hinv
          obtain ⟨v46, hinv⟩ := hinv
          obtain ⟨v47, hinv⟩ := hinv
          obtain ⟨v48, hinv⟩ := hinv
          obtain ⟨v49, hinv⟩ := hinv
          obtain ⟨v50, hinv⟩ := hinv
          obtain ⟨v51, hinv⟩ := hinv
          obtain ⟨v52, hinv⟩ := hinv
          obtain ⟨v53, hinv⟩ := hinv
          obtain ⟨v54, hinv⟩ := hinv
          obtain ⟨v55, hinv⟩ := hinv
          obtain ⟨v56, hinv⟩ := hinv
          obtain ⟨v57, hinv⟩ := hinv
          obtain ⟨v58, hinv⟩ := hinv
          obtain ⟨v59, hinv⟩ := hinv
          obtain ⟨v60, hinv⟩ := hinv
          obtain ⟨v61, hinv⟩ := hinv
          obtain ⟨v62, hinv⟩ := hinv
          obtain ⟨v63, hinv⟩ := hinv
          obtain ⟨v64, hinv⟩ := hinv
          obtain ⟨v65, hinv⟩ := hinv
          obtain ⟨v66, hinv⟩ := hinv
          obtain ⟨v67, hinv⟩ := hinv
          obtain ⟨v68, hinv⟩ := hinv
          obtain ⟨v69, hinv⟩ := hinv
          obtain ⟨v70, hinv⟩ := hinv
          obtain ⟨v71, hinv⟩ := hinv
          obtain ⟨v72, hinv⟩ := hinv
          obtain ⟨v73, hinv⟩ := hinv
          obtain ⟨v74, hinv⟩ := hinv
          obtain ⟨v75, hinv⟩ := hinv
          obtain ⟨v76, hinv⟩ := hinv
          obtain ⟨⟨h44, hdefs2, hl2⟩, ha2⟩ := hinv
          subst h44 ha2
          have HL : Hid (LkI w N E X TX DN MN MS D T C R B L d ms s lg M m g2 k s2 w4) := hl2
          have HD2 : Hid (defs2 = s2.hs.map (relD T) ++ [{ target := .fn (.func 89) #[.pointer (some ⟨DN, 0, none⟩), .pointer (some ⟨TX, 0, none⟩)], args := #[] }, { target := .fn (.func 80) #[], args := #[.pointer (some ⟨D, 0, none⟩), .pointer (some ⟨N, 0, none⟩), .pointer (some ⟨E, 0, none⟩)] }]) := hdefs2
          have hg2 := hl2.hg
          have hMN := hl2.at_.ho
          clear hl2 hdefs2 HA1 HMB1 hMN
          rcases HL.out.rel with ⟨rfl, hs2⟩ | ⟨rfl, hs2⟩ | ⟨rfl, hs2⟩
          · have HS := hide_ hs2
            clear hs2
            have hx0 : 0 ≤ m.f := by have := check_ok hc; omega
            have hx1 : m.f < 4 := by have := check_ok hc; omega
            have cm := HL.out.at_.cm m.f.toNat (by omega)
            have ix := idx0 m.f m.t
            cases hmine : s2.mine.getD m.f.toNat false with
            | true =>
              rw [hmine] at cm
              go_wp2_with fail
              refine Handed.intro 1 (by omega) ?_
              go_step
              refine ⟨1, s2, ?_⟩
              (repeat apply Exists.intro)
              refine ⟨⟨?_, ?_, ?_⟩, rfl⟩
              · rfl
              · exact HD2.out
              · exact ⟨HL.out.at_, HL.out.m0, HL.out.m1, HL.out.m2, HL.out.hM, by omega, .inr (.inl ⟨rfl, by rw [← HS.out]; unfold V.Bst.lock; rw [if_pos hmine]⟩)⟩
            | false =>
              rw [hmine] at cm
              have hlk : s2.lock m.f = if (s2.t.acq m.f).2.2 = 0 then (V.Bst.mk (s2.t.acq m.f).1 (s2.mine.set m.f.toNat true) ((s2.t.acq m.f).2.1 :: s2.hs) s2.bal, 0) else (V.Bst.mk (s2.t.acq m.f).1 s2.mine s2.hs s2.bal, (s2.t.acq m.f).2.2) := by
                unfold V.Bst.lock
                rw [hmine]
                simp
              have HLK := hide_ hlk
              clear hlk
              have d0 := HL.out.at_.hb.d0
              go_wp2_with fail
              refine (acquire_calls T C R m.f s2.t _ HL.out.at_.ht).mono ?_
              rintro e w5 ⟨rfl, ht5, hf5⟩
              have hb5 := HL.out.at_.tab sp hf5 ht5
              have HB5 := hide_ hb5
              have oo := hb5.ho
              have HM5 : Hid (w5.cell? ⟨M, 0, none⟩ = some (.int .i64 m.f) ∧ w5.cell? ⟨M, 1, none⟩ = some (.int .i64 m.t) ∧ w5.cell? ⟨M, 2, none⟩ = some (.int .i64 m.a)) :=
                ⟨hf5.cellv HL.out.m0 (by have := HL.out.hM; simp; omega), hf5.cellv HL.out.m1 (by have := HL.out.hM; simp; omega), hf5.cellv HL.out.m2 (by have := HL.out.hM; simp; omega)⟩
              have ce := hb5.ce
              have fe := hb5.fe
              have cn := hb5.cn
              have fn := hb5.fn
              have e0 := hb5.hb.d0
              have cm5 := hb5.cm m.f.toNat (by omega)
              have fm5 := hb5.fm
              have hNE : ¬ N = E := by omega
              have hEN : ¬ E = N := by omega
              have hED : ¬ E = D := by omega
              have hEM : ¬ E = MN := by omega
              have hME : ¬ MN = E := by omega
              clear hb5 oo ht5 hf5 cm d0 hmine
              generalize hh1 : (s2.t.acq m.f).2.1 = h5 at *
              generalize hh2 : (s2.t.acq m.f).1 = t5 at *
              have hev := acq_vals s2.t m.f
              generalize hh3 : (s2.t.acq m.f).2.2 = e5 at *
              clear hh1 hh2 hh3
              by_cases he : e5 = 0
              · subst he
                rw [if_pos rfl] at HLK
                clear cn fn
                go_wp2_with fail
                refine Handed.intro 1 (by omega) ?_
                go_step
                refine ⟨1, ⟨t5, s2.mine.set m.f.toNat true, h5 :: s2.hs, s2.bal⟩, ?_⟩
                (repeat apply Exists.intro)
                refine ⟨⟨?_, ?_, ?_⟩, rfl⟩
                · rfl
                · rw [HD2.out]; rfl
                · have hb6 := ((HB5.out.setE 0).setM m.f.toNat (by omega)).hs (h5 :: s2.hs)
                  have hMl := HL.out.hM
                  have oo := hb6.ho
                  obtain ⟨q0, q1, q2⟩ := HM5.out
                  refine ⟨hb6, ?_, ?_, ?_, hMl, by omega, .inr (.inl ⟨rfl, by rw [← HS.out]; exact HLK.out⟩)⟩
                  · rw [cell_set, if_neg (by omega), cell_set, if_neg (by omega)]; exact q0
                  · rw [cell_set, if_neg (by omega), cell_set, if_neg (by omega)]; exact q1
                  · rw [cell_set, if_neg (by omega), cell_set, if_neg (by omega)]; exact q2
              · have he' : (e5 != 0) = true := by simpa using he
                rw [if_neg he] at HLK
                have HB : Hid (d.batch ms = (V.Ld.mk d.bal (if (0 : Int) < (i : Int) ∨ e5 = 7 then V.bump d.und else d.und) (V.relAll t5 s2.hs), (i : Int), e5)) :=
                  batch_err (s := ⟨t5, s2.mine, s2.hs, s2.bal⟩) hl (by rw [HRN.out, run_cons]; have hs := HS.out; subst hs; have hmv : s2.move m = (⟨t5, s2.mine, s2.hs, s2.bal⟩, e5) := (by have hq := HLK.out; simp only [V.Bst.move, hc, if_true, V.Bst.locks, hq, if_neg he]); rw [hmv]; simp [he]) he
                go_wp2_with fail
                rw [HD2.out]
                refine bat_door (s := ⟨t5, s2.mine, s2.hs, s2.bal⟩) sp (((HB5.out.setE e5).setN i).setE e5) (by have := HI.out.ll; omega) ?_
                intro w' b' t' f' c1 c2
                rw [HB.out]
                have hbal : balOf false s2.bal lg = d.bal := by simpa [balOf] using HL.out.at_.un
                have hund : unOf false lg d.und = if (0 : Int) < (i : Int) ∨ e5 = 7 then V.bump d.und else d.und := by
                  unfold unOf
                  have h7 : ¬ e5 = 7 := by omega
                  by_cases h0 : i = 0
                  · simp [HI.out.lz.2 h0, h0, h7]
                  · have : ¬ lg = [] := fun h => h0 (HI.out.lz.1 h)
                    simp [this, h7, Nat.pos_of_ne_zero h0]
                rw [hbal, hund] at b'
                exact ⟨.tuple #[.int .i64 i, .int .i64 e5], by simp [results, Try.results62, go_sem, c1, c2], rfl, ⟨b', t', sp, HH.out.sum⟩, f'⟩
          · have HS := hide_ hs2
            clear hs2
            have hx0 : 0 ≤ m.t := by have := check_ok hc; omega
            have hx1 : m.t < 4 := by have := check_ok hc; omega
            have cm := HL.out.at_.cm m.t.toNat (by omega)
            have ix := idx1 m.f m.t
            cases hmine : s2.mine.getD m.t.toNat false with
            | true =>
              rw [hmine] at cm
              go_wp2_with fail
              refine Handed.intro 0 (by omega) ?_
              go_step
              refine ⟨2, s2, ?_⟩
              (repeat apply Exists.intro)
              refine ⟨⟨?_, ?_, ?_⟩, rfl⟩
              · rfl
              · exact HD2.out
              · exact ⟨HL.out.at_, HL.out.m0, HL.out.m1, HL.out.m2, HL.out.hM, by omega, .inr (.inr ⟨rfl, by simp only [V.Bst.locks, HS.out, if_true]; unfold V.Bst.lock; rw [if_pos hmine]⟩)⟩
            | false =>
              rw [hmine] at cm
              have hlk : s2.lock m.t = if (s2.t.acq m.t).2.2 = 0 then (V.Bst.mk (s2.t.acq m.t).1 (s2.mine.set m.t.toNat true) ((s2.t.acq m.t).2.1 :: s2.hs) s2.bal, 0) else (V.Bst.mk (s2.t.acq m.t).1 s2.mine s2.hs s2.bal, (s2.t.acq m.t).2.2) := by
                unfold V.Bst.lock
                rw [hmine]
                simp
              have HLK := hide_ hlk
              clear hlk
              have d0 := HL.out.at_.hb.d0
              go_wp2_with fail
              refine (acquire_calls T C R m.t s2.t _ HL.out.at_.ht).mono ?_
              rintro e w5 ⟨rfl, ht5, hf5⟩
              have hb5 := HL.out.at_.tab sp hf5 ht5
              have HB5 := hide_ hb5
              have oo := hb5.ho
              have HM5 : Hid (w5.cell? ⟨M, 0, none⟩ = some (.int .i64 m.f) ∧ w5.cell? ⟨M, 1, none⟩ = some (.int .i64 m.t) ∧ w5.cell? ⟨M, 2, none⟩ = some (.int .i64 m.a)) :=
                ⟨hf5.cellv HL.out.m0 (by have := HL.out.hM; simp; omega), hf5.cellv HL.out.m1 (by have := HL.out.hM; simp; omega), hf5.cellv HL.out.m2 (by have := HL.out.hM; simp; omega)⟩
              have ce := hb5.ce
              have fe := hb5.fe
              have cn := hb5.cn
              have fn := hb5.fn
              have e0 := hb5.hb.d0
              have cm5 := hb5.cm m.t.toNat (by omega)
              have fm5 := hb5.fm
              have hNE : ¬ N = E := by omega
              have hEN : ¬ E = N := by omega
              have hED : ¬ E = D := by omega
              have hEM : ¬ E = MN := by omega
              have hME : ¬ MN = E := by omega
              clear hb5 oo ht5 hf5 cm d0 hmine
              generalize hh1 : (s2.t.acq m.t).2.1 = h5 at *
              generalize hh2 : (s2.t.acq m.t).1 = t5 at *
              have hev := acq_vals s2.t m.t
              generalize hh3 : (s2.t.acq m.t).2.2 = e5 at *
              clear hh1 hh2 hh3
              by_cases he : e5 = 0
              · subst he
                rw [if_pos rfl] at HLK
                clear cn fn
                go_wp2_with fail
                refine Handed.intro 0 (by omega) ?_
                go_step
                refine ⟨2, ⟨t5, s2.mine.set m.t.toNat true, h5 :: s2.hs, s2.bal⟩, ?_⟩
                (repeat apply Exists.intro)
                refine ⟨⟨?_, ?_, ?_⟩, rfl⟩
                · rfl
                · rw [HD2.out]; rfl
                · have hb6 := ((HB5.out.setE 0).setM m.t.toNat (by omega)).hs (h5 :: s2.hs)
                  have hMl := HL.out.hM
                  have oo := hb6.ho
                  obtain ⟨q0, q1, q2⟩ := HM5.out
                  refine ⟨hb6, ?_, ?_, ?_, hMl, by omega, .inr (.inr ⟨rfl, by simp only [V.Bst.locks, HS.out, if_true]; exact HLK.out⟩)⟩
                  · rw [cell_set, if_neg (by omega), cell_set, if_neg (by omega)]; exact q0
                  · rw [cell_set, if_neg (by omega), cell_set, if_neg (by omega)]; exact q1
                  · rw [cell_set, if_neg (by omega), cell_set, if_neg (by omega)]; exact q2
              · have he' : (e5 != 0) = true := by simpa using he
                rw [if_neg he] at HLK
                have HB : Hid (d.batch ms = (V.Ld.mk d.bal (if (0 : Int) < (i : Int) ∨ e5 = 7 then V.bump d.und else d.und) (V.relAll t5 s2.hs), (i : Int), e5)) :=
                  batch_err (s := ⟨t5, s2.mine, s2.hs, s2.bal⟩) hl (by rw [HRN.out, run_cons]; have hmv : s.move m = (⟨t5, s2.mine, s2.hs, s2.bal⟩, e5) := (by have hq := HLK.out; simp only [V.Bst.move, hc, if_true, V.Bst.locks, HS.out, hq, if_neg he]); rw [hmv]; simp [he]) he
                go_wp2_with fail
                rw [HD2.out]
                refine bat_door (s := ⟨t5, s2.mine, s2.hs, s2.bal⟩) sp (((HB5.out.setE e5).setN i).setE e5) (by have := HI.out.ll; omega) ?_
                intro w' b' t' f' c1 c2
                rw [HB.out]
                have hbal : balOf false s2.bal lg = d.bal := by simpa [balOf] using HL.out.at_.un
                have hund : unOf false lg d.und = if (0 : Int) < (i : Int) ∨ e5 = 7 then V.bump d.und else d.und := by
                  unfold unOf
                  have h7 : ¬ e5 = 7 := by omega
                  by_cases h0 : i = 0
                  · simp [HI.out.lz.2 h0, h0, h7]
                  · have : ¬ lg = [] := fun h => h0 (HI.out.lz.1 h)
                    simp [this, h7, Nat.pos_of_ne_zero h0]
                rw [hbal, hund] at b'
                exact ⟨.tuple #[.int .i64 i, .int .i64 e5], by simp [results, Try.results62, go_sem, c1, c2], rfl, ⟨b', t', sp, HH.out.sum⟩, f'⟩
          · have HS := hide_ hs2
            clear hs2
            have cx := HL.out.at_.cx
            have ct := HL.out.at_.ct
            have m0 := HL.out.m0
            have m1 := HL.out.m1
            have m2 := HL.out.m2
            go_wp2_with fail
            have hll := HI.out.ll
            have hun := payBal_undo (bal := s2.bal) (m := m) lg HL.out.at_.sm.1 hc
            rw [HL.out.at_.un] at hun
            have hpe := payBal_e s2.bal m
            have hst := step_calls X D T B L i m s2.bal lg d.und w4 HL.out.at_.hb cx (by have := HL.out.at_.ho; simp; omega) hc (by omega)
            have hlen := payBal_len s2.bal m
            by_cases hp : (payBal s2.bal m).2.2 = 0
            · simp only [if_pos hp] at hst
              refine hst.mono ?_
              rintro e w5 ⟨rfl, hb5, hf5⟩
              have hpay : (V.pay s2.bal m).2 = 0 := by rw [← hpe]; exact hp
              have hmv : s.move m = (⟨s2.t, s2.mine, s2.hs, (payBal s2.bal m).1⟩, 0) := by
                simp only [V.Bst.move, hc, if_true, HS.out, hpay, payBal_ok hpay]
              have HB6 : Hid (BatI w N E X TX DN MN MS D T C R B L d ms (gk - 1) (i + 1) ⟨s2.t, s2.mine, s2.hs, (payBal s2.bal m).1⟩ (lg ++ (payBal s2.bal m).2.1) w5) := by
                refine ⟨HL.out.at_.books sp hf5 hb5 hun, by have := HI.out.hg; omega, ?_, by simp; omega, ?_, ?_⟩
                · rw [HRN.out, run_cons, hmv]
                  simp
                · simp [payBal_full hpay]
                · rw [payBal_ok hpay, pay_sum HL.out.at_.sm.1 hc _ d.und _ d.t, locks_bal HS.out]
                  exact HI.out.sum
              have hgk : 0 < gk := by have := HI.out.hg; omega
              clear hst hb5 hf5 hmv hpay hp hpe hun hlen cx ct m0 m1 m2
              go_wp2_with fail
              refine Handed.intro (gk - 1) (by omega) ?_
              go_step
              refine ⟨i + 1, ⟨s2.t, s2.mine, s2.hs, (payBal s2.bal m).1⟩, lg ++ (payBal s2.bal m).2.1, ?_⟩
              (repeat apply Exists.intro)
              refine ⟨⟨?_, ?_, ?_⟩, rfl⟩
              · rfl
              · exact HD2.out
              · exact HB6.out
            · simp only [if_neg hp] at hst
              refine hst.mono ?_
              rintro e w5 ⟨rfl, hb5, hf5⟩
              have hpay : ¬ (V.pay s2.bal m).2 = 0 := by rw [← hpe]; exact hp
              have HB6 := hide_ (HL.out.at_.books sp hf5 hb5 hun)
              have HB : Hid (d.batch ms = (V.Ld.mk d.bal (if (0 : Int) < (i : Int) ∨ (V.pay s2.bal m).2 = 7 then V.bump d.und else d.und) (V.relAll s2.t s2.hs), (i : Int), (V.pay s2.bal m).2)) :=
                batch_err (s := ⟨s2.t, s2.mine, s2.hs, (V.pay s2.bal m).1⟩) hl (by rw [HRN.out, run_cons]; simp only [V.Bst.move, hc, if_true, HS.out, if_neg hpay]) hpay
              have hund : unOf false (lg ++ (payBal s2.bal m).2.1) d.und = if (0 : Int) < (i : Int) ∨ (V.pay s2.bal m).2 = 7 then V.bump d.und else d.und := by
                have hlog := payBal_log hpay
                unfold unOf
                by_cases h7 : (V.pay s2.bal m).2 = 7
                · have : ¬ (payBal s2.bal m).2.1 = [] := fun h => hlog.1 h h7
                  simp [h7, this]
                · have hn : (payBal s2.bal m).2.1 = [] := hlog.2 h7
                  by_cases h0 : i = 0
                  · simp [HI.out.lz.2 h0, h0, h7, hn]
                  · have : ¬ lg = [] := fun h => h0 (HI.out.lz.1 h)
                    simp [this, h7, Nat.pos_of_ne_zero h0]
              have HUN := hide_ hund
              have HU := hide_ hun
              have hll2 : (lg ++ (payBal s2.bal m).2.1).length ≤ 6 := by simp; omega
              have HPE := hide_ hpe
              clear hst hb5 hf5 hpay hp hpe hun hlen cx ct m0 m1 m2 hund
              go_wp2_with fail
              rw [HD2.out]
              refine bat_fall (s := ⟨s2.t, s2.mine, s2.hs, (payBal s2.bal m).1⟩) sp HB6.out hll2 ?_
              intro w' b' t' f' c1 c2
              rw [HB.out]
              have hbal : balOf false (payBal s2.bal m).1 (lg ++ (payBal s2.bal m).2.1) = d.bal := by simpa [balOf] using HU.out
              rw [hbal, HUN.out] at b'
              rw [HPE.out] at c2
              exact ⟨.tuple #[.int .i64 i, .int .i64 (V.pay s2.bal m).2], by simp [results, Try.results62, go_sem, c1, c2], rfl, ⟨b', t', sp, HH.out.sum⟩, f'⟩
      · have hc' : (V.check m != 0) = true := by simpa using hc
        have HB : Hid (d.batch ms = (V.Ld.mk d.bal (if (0 : Int) < (i : Int) ∨ V.check m = 7 then V.bump d.und else d.und) (V.relAll s.t s.hs), (i : Int), V.check m)) :=
          batch_err hl (by rw [HRN.out, run_cons]; simp [V.Bst.move, hc]) hc
        go_wp2_with fail
        rw [HD.out]
        refine bat_door sp (((HA.out.setE (V.check m)).setN i).setE (V.check m)) (by have := HI.out.ll; omega) ?_
        intro w' b' t' f' c1 c2
        rw [HB.out]
        have hbal : balOf false s.bal lg = d.bal := by simpa [balOf] using HA.out.un
        have hund : unOf false lg d.und = if (0 : Int) < (i : Int) ∨ V.check m = 7 then V.bump d.und else d.und := by
          unfold unOf
          have h7 : ¬ V.check m = 7 := by have := check_vals m; omega
          by_cases h0 : i = 0
          · simp [HI.out.lz.2 h0, h0, h7]
          · have : ¬ lg = [] := fun h => h0 (HI.out.lz.1 h)
            simp [this, h7, Nat.pos_of_ne_zero h0]
        rw [hbal, hund] at b'
        exact ⟨.tuple #[.int .i64 i, .int .i64 (V.check m)], by simp [results, Try.results62, go_sem, c1, c2], rfl, ⟨b', t', sp, HH.out.sum⟩, f'⟩
    · have hge : i = ms.length := by have := HI.out.hg; omega
      have hdrop : ms.drop i = [] := by rw [hge]; simp
      have HB : Hid (d.batch ms = (V.Ld.mk s.bal d.und (V.relAll s.t s.hs), (ms.length : Int), 0)) := batch_ok hl (by rw [HI.out.rn, hdrop]; rfl)
      have hii : ¬ (i : Int) < (ms.length : Int) := by omega
      have ce := HI.out.at_.ce
      have fe := HI.out.at_.fe
      have cn := HI.out.at_.cn
      have fn := HI.out.at_.fn
      have cd := HI.out.at_.cd
      have fd := HI.out.at_.fd
      have o := HI.out.at_.ho
      have hNE : ¬ N = E := by omega
      have hEN : ¬ E = N := by omega
      have hND : ¬ N = DN := by omega
      have hDN : ¬ DN = N := by omega
      have hED : ¬ E = DN := by omega
      have hDE : ¬ DN = E := by omega
      clear o hdrop
      go_wp2_with fail
      rw [HD.out]
      refine bat_door sp (((HI.out.at_.setD true).setN ms.length).setE 0) (by have := HI.out.ll; omega) ?_
      intro w' b' t' f' c1 c2
      rw [HB.out]
      exact ⟨.tuple #[.int .i64 ms.length, .int .i64 0], by simp [results, Try.results62, go_sem, c1, c2], rfl, ⟨by simpa [balOf, unOf] using b', t', sp, HI.out.sum⟩, f'⟩

end Go.Proofs.Qxb6500360a
