/-
  L3: the decoder of the real gate: moves, decode.
-/
import Derived.Test.Qxb6500360aDc
import Derived.Test.Qxb6500360aB0
import Derived.Laws.AppendOwn
import Derived.Scope
import Derived.ScopeJumps
import Derived.WalkMore
namespace Go.Proofs.Qxb6500360a
open Go.RowKit
set_option linter.unusedSimpArgs false
set_option linter.unusedVariables false

def flat (ms : List V.Mv) : List Value := ms.flatMap (fun m => [.int .i64 m.f, .int .i64 m.t, .int .i64 m.a])
theorem flat_snoc (ms : List V.Mv) (m : V.Mv) : flat (ms ++ [m]) = flat ms ++ [.int .i64 m.f, .int .i64 m.t, .int .i64 m.a] := by simp [flat]
theorem flat_at : ∀ (ms : List V.Mv) (i : Nat) (m : V.Mv), ms[i]? = some m → (flat ms)[i * 3]? = some (.int .i64 m.f) ∧ (flat ms)[i * 3 + 1]? = some (.int .i64 m.t) ∧ (flat ms)[i * 3 + 2]? = some (.int .i64 m.a)
  | [], i, m, h => by simp at h
  | x :: ms, 0, m, h => by
    simp at h
    subst h
    simp [flat]
  | x :: ms, i + 1, m, h => by
    have h' : ms[i]? = some m := by simpa using h
    have := flat_at ms i m h'
    have e : flat (x :: ms) = [.int .i64 x.f, .int .i64 x.t, .int .i64 x.a] ++ flat ms := by simp [flat]
    rw [e, show (i + 1) * 3 = i * 3 + 3 by omega]
    simpa using this
theorem flat_len (ms : List V.Mv) : (flat ms).length = ms.length * 3 := by
  induction ms with
  | nil => rfl
  | cons x l ih =>
    have e : flat (x :: l) = [.int .i64 x.f, .int .i64 x.t, .int .i64 x.a] ++ flat l := by simp [flat]
    rw [e, List.length_append, ih]
    simp
    omega

theorem Fr.grown {B : List Nat} {w wk w' : World} {row : Option Nat} (h : Fr B w wk) (hg : wk.grownBy w' row) (hr : ∀ k, row = some k → w.heap.size ≤ k) : Fr B w w' := by
  have hb : ∀ k, k < w.heap.size → w'.heap[k]? = wk.heap[k]? := fun k hk => hg.block k (Nat.lt_of_lt_of_le hk h.size) (fun e => by have := hr k e.symm; omega)
  refine ⟨hg.os.trans h.os, hg.tape.trans h.tape, hg.output.trans h.output, Nat.le_trans h.size hg.size, fun k hk hn => (hb k hk).trans (h.block k hk hn), fun k o hk => ?_⟩
  exact (World.frozen?_of_block (w := wk) (hb k hk)).trans (h.frz k o hk)

theorem owns_keep {w1 w2 : World} {A base : Nat} {e : TypeId} {size : Nat} {v : Value} {n : Nat} {xs : List Value} (h : w1.ownsRow base e size v n xs) (hf : Fr [A] w1 w2) (hA : A < base) : w2.ownsRow base e size v n xs := by
  obtain ⟨h1, h2⟩ := h
  refine ⟨h1, ?_⟩
  rcases h2 with h2 | ⟨g, cap, cur, hv, hg, hh, r⟩
  · exact Or.inl h2
  · have hlt : g < w1.heap.size := by
      rcases Nat.lt_or_ge g w1.heap.size with h | h
      · exact h
      · rw [Array.getElem?_eq_none h] at hh; cases hh
    exact Or.inr ⟨g, cap, cur, hv, hg, by rw [hf.block g hlt (by simp; omega)]; exact hh, r⟩

theorem owns_ms {w : World} {base : Nat} {v : Value} {ms : List V.Mv} (h : w.ownsRow base 56 3 v ms.length (flat ms)) (hne : 0 < ms.length) : ∃ g cap, v = .slice (some ⟨g, 0, none⟩) ms.length cap ∧ base ≤ g ∧ MsAt w g ms := by
  obtain ⟨h1, h2⟩ := h
  rcases h2 with ⟨_, h2⟩ | ⟨g, cap, cur, hv, hg, hh, h3, h4, h5, h6⟩
  · omega
  · refine ⟨g, cap, hv, hg, fun i m hm => ?_⟩
    obtain ⟨a, b, c⟩ := flat_at ms i m hm
    have hi : i < ms.length := (List.getElem?_eq_some_iff.1 hm).1
    have hcell : ∀ j, j < ms.length * 3 → w.cell? ⟨g, j, none⟩ = (flat ms)[j]? := by
      intro j hj
      rw [← h6, List.getElem?_take, if_pos hj]
      simp [World.cell?, hh]
    exact ⟨by rw [hcell _ (by omega)]; exact a, by rw [hcell _ (by omega)]; exact b, by rw [hcell _ (by omega)]; exact c⟩

/-- What moves comes to. -/
def MovesOut (A : Nat) (s : ByteArray) (w : World) (r : Except Nat (List V.Mv)) (e : Ending) (w' : World) : Prop :=
  match r with
  | .ok ms => (∃ g cap, e = .returned (.slice (some ⟨g, 0, none⟩) ms.length cap) ∧ w.heap.size ≤ g ∧ MsAt w' g ms) ∧ 0 < ms.length ∧ ms.length ≤ 20 ∧ DecAt w' A s s.size ∧ Fr [A] w w'
  | .error q => e = synE q ∧ Fr [A] w w'

theorem pMove_pos {s : List UInt8} {p q : Nat} {m : V.Mv} (h : V.pMove s p = .ok (m, q)) : p + 3 ≤ q := by
  unfold V.pMove at h
  split at h
  · split at h
    · cases hn : V.pNum s (p + 2) with
      | error x => simp [hn] at h
      | ok r =>
        simp only [hn] at h
        cases h
        obtain ⟨v, q'⟩ := r
        unfold V.pNum at hn
        split at hn
        · split at hn
          · split at hn
            · simp at hn; simp; omega
            · simp at hn; simp; omega
          · simp at hn; simp; omega
        · cases hn
    · cases h
  · cases h

/-- At the label: the moves ms have been read; p: the place. -/
structure MvJ (A : Nat) (s : ByteArray) (w : World) (p0 f p : Nat) (ms : List V.Mv) (v : Value) (w' : World) : Prop where
  d : DecAt w' A s p
  own : w'.ownsRow w.heap.size 56 3 v ms.length (flat ms)
  fr : Fr [A] w w'
  hf : s.size < f + 1 + p
  hm : ms.length ≤ p
  hr : V.pMoves (L s) (L s).length p0 [] = V.pMoves (L s) (f + 1) p ms
def muP (A : Nat) (s : ByteArray) (w : World) : Nat := s.size - (intOf ((w.cell? ⟨A, 1, none⟩).getD undef)).toNat
theorem muP_at {A p : Nat} {s : ByteArray} {w : World} (h : DecAt w A s p) : muP A s w = s.size - p := by simp [muP, h.cp, intOf]

theorem DecAt.grown {wk w' : World} {A p : Nat} {s : ByteArray} {row : Option Nat} (h : DecAt wk A s p) (hg : wk.grownBy w' row) (hA : some A ≠ row) : DecAt w' A s p := by
  have hb := hg.block A h.lA hA
  exact ⟨(World.cell?_of_block (w := wk) hb).trans h.cs, (World.cell?_of_block (w := wk) hb).trans h.cp, fun o => (World.frozen?_of_block (w := wk) hb).trans (h.fA o), h.sz, h.pz⟩
theorem own_drewN {w : World} {base : Nat} {e : TypeId} {size : Nat} {v : Value} {n : Nat} {xs : List Value} (h : w.ownsRow base e size v n xs) (k : Nat) : (w.drewN k).ownsRow base e size v n xs := h

set_option maxHeartbeats 2000000 in
set_option maxRecDepth 100000 in
theorem moves_calls (A p0 : Nat) (s : ByteArray) (w : World) (h : DecAt w A s p0) (hp : 1 ≤ p0) (hl : 1 ≤ (L s).length) :
    Calls Try.prog 55 #[.pointer (some ⟨A, 0, none⟩)] w (MovesOut A s w (V.pMoves (L s) (L s).length p0 [])) := by
  have HH : Hid (DecAt w A s p0) := h
  clear h
  have lA := HH.out.lA
  obtain ⟨f, hf1⟩ : ∃ f, (L s).length = f + 1 := ⟨(L s).length - 1, by omega⟩
  go_enter Try.func55, Try.ntmps55
  go_wp2
  refine wp_scope_jumps 0 (fun a' w' => ∃ (f p : Nat) (ms : List V.Mv) (v : Value) (u4 u5 u6 u7 u8 u9 u10 u11 u12 u13 u14 u15 u16 u17 u18 u19 u20 u21 u22 : Value), a' = { tmps := #[.pointer (some ⟨A, 0, none⟩), undef, .slice none 0 0, v, u4, u5, u6, u7, u8, u9, u10, u11, u12, u13, u14, u15, u16, u17, u18, u19, u20, u21, u22, undef], defers := [] } ∧ MvJ A s w p0 f p ms v w') (fun _ w' => muP A s w') rfl ?_ ?_
  · go_wp2
    go_step3
    have HOwn : Hid (w.ownsRow w.heap.size 56 3 (.slice none 0 0) ([] : List V.Mv).length (flat [])) := ⟨rfl, Or.inl ⟨rfl, rfl⟩⟩
    have HP : Hid (V.pMoves (L s) (L s).length p0 [] = V.pMoves (L s) (f + 1) p0 []) := by show _ = _; rw [hf1]
    have HF : Hid (Fr [A] w w) := Fr.refl _ _
    have hms : ([] : List V.Mv).length ≤ p0 := by simp
    have hfp : s.size < f + 1 + p0 := by rw [← hf1, L_len]; omega
    have HD : Hid (DecAt w A s p0) := HH.out
    obtain ⟨i0, hi, hz0, hz1, hz2⟩ := info_of (t := 56) (z := .agg #[.int .i64 0, .int .i64 0, .int .i64 0]) (n := 3) (b := 24) (by kernel_rfl)
    have sz := HD.out.sz
    have pz := HD.out.pz
    cases hm : V.pMove (L s) p0 with
    | error q =>
      have HR : Hid (V.pMoves (L s) (L s).length p0 [] = .error q) := by show _ = _; rw [HP.out]; simp [V.pMoves, hm]
      clear hi hz0 hz1 hz2
      go_wp2_with fail
      refine (move_err A p0 q s w HD.out hm).mono ?_
      rintro e w1 ⟨rfl, f1⟩
      have F1 : Hid (Fr [A] w w1) := HF.out.trans f1 (fun _ _ h => h)
      clear f1
      go_wp2_with fail
      refine ⟨rfl, ?_⟩
      rw [HR.out]
      exact ⟨rfl, F1.out⟩
    | ok r =>
      obtain ⟨m, q⟩ := r
      have hq3 := pMove_pos hm
      go_wp2_with fail
      refine (move_ok A p0 q m s w HD.out hm).mono ?_
      rintro e w1 ⟨rfl, d1, f1⟩
      have own1 := owns_keep HOwn.out f1 lA
      have H1 : Hid (DecAt w1 A s q) := d1
      have O1 : Hid (w1.ownsRow w.heap.size 56 3 (Value.slice none 0 0) ([] : List V.Mv).length (flat ([] : List V.Mv))) := own1
      have F1 : Hid (Fr [A] w w1) := HF.out.trans f1 (fun _ _ h => h)
      have hw1 : w.heap.size ≤ w1.heap.size := F1.out.size
      clear d1 f1 own1
      go_wp2_with (first
        | (at_builtin; refine wpList_append_own _ rfl _ _ 57 rfl w.heap.size 56 i0 (.agg #[.int .i64 0, .int .i64 0, .int .i64 0]) 3 24 Try.underlying57 hi hz0 hz1 hz2 rfl (by decide) _ _ _ rfl (by exact (O1.out.alloc _).alloc _) ⟨w1.heap.size + 1, 0, none⟩ 1 1 [.int .i64 m.f, .int .i64 m.t, .int .i64 m.a] rfl rfl (by intro j u hu; rcases j with _ | _ | _ | j <;> simp at hu <;> (try subst hu) <;> simp [Addr.add, go_sem]) (fun x hx => by simp at hx; rcases hx with rfl | rfl | rfl <;> rfl) (by unfold maxLen; omega) (by omega) (by simp; omega) ?_; intro v' w3 hown' hgrow hnil))
      have O3 : Hid (w3.ownsRow w.heap.size 56 3 v' (([] : List V.Mv) ++ [m]).length (flat (([] : List V.Mv) ++ [m]))) := by
        show World.ownsRow _ _ _ _ _ _ _
        rw [flat_snoc, List.length_append]
        exact hown'
      have hrow : ∀ k, (Value.slice none 0 0).ownBlock = some k → w.heap.size ≤ k := by
        intro k hk
        rcases O1.out.2 with ⟨h1, _⟩ | ⟨g, cap, cur, hv, hg, _⟩
        · rw [h1] at hk; simp [Value.ownBlock] at hk
        · rw [hv] at hk; simp [Value.ownBlock] at hk; omega
      have F3 : Hid (Fr [A] w w3) := ((F1.out.alloc _).alloc _).grown hgrow hrow
      have H3 : Hid (DecAt w3 A s q) := ((H1.out.alloc _).alloc _).grown hgrow (fun e => by have := hrow A e.symm; omega)
      clear hown' hgrow hnil hrow hi hz0 hz1 hz2 H1 O1 F1
      by_cases hqs : q < s.size
      · by_cases h59 : (L s).getD q 0 = 59
        · have hmust : V.pMust (L s) 59 q = .ok (q + 1) := by simp only [V.pMust, L_len, hqs, h59, decide_true, Bool.true_and, beq_self_eq_true, if_true]
          refine (must_yes A q s w3 H3.out hqs h59).mono ?_
          rintro e w4 ⟨rfl, d4, f4⟩
          have O4 : Hid (w4.ownsRow w.heap.size 56 3 v' (([] : List V.Mv) ++ [m]).length (flat (([] : List V.Mv) ++ [m]))) := owns_keep O3.out f4 lA
          have H4 : Hid (DecAt w4 A s (q + 1)) := d4
          have F4 : Hid (Fr [A] w w4) := F3.out.trans f4 (fun _ _ h => h)
          have cp4 := d4.cp
          have cs4 := d4.cs
          clear d4 f4
          by_cases hlast : q + 1 < s.size
          · obtain ⟨f', rfl⟩ : ∃ f', f = f' + 1 := ⟨f - 1, by omega⟩
            have HR : Hid (V.pMoves (L s) (f' + 1 + 1) p0 ([] : List V.Mv) = V.pMoves (L s) (f' + 1) (q + 1) (([] : List V.Mv) ++ [m])) := by
              show _ = _
              rw [V.pMoves, hm]
              simp only [hmust, L_len, if_pos hlast]
            have hli : ((q : Int) + 1) < (s.size : Int) := by omega
            clear hmust hm h59
            go_wp2_with fail
            go_quiet (fail)
            go_wp2_with fail
            go_step3
            refine ⟨rfl, ?_⟩
            refine ⟨f', q + 1, ([] : List V.Mv) ++ [m], v', _, _, _, _, _, _, _, _, _, _, _, _, _, _, _, _, _, _, _, rfl, ?_⟩
            exact ⟨H4.out.drewN _, own_drewN O4.out _, F4.out.drewN _, by omega, by simp <;> omega, by rw [HP.out, HR.out]⟩
          · have HR : Hid (V.pMoves (L s) (L s).length p0 [] = .ok (([] : List V.Mv) ++ [m])) := by
              show _ = _
              rw [HP.out, V.pMoves, hm]
              simp only [hmust, L_len, if_neg hlast]
            have hli : ¬ ((q : Int) + 1) < (s.size : Int) := by omega
            obtain ⟨g, cap, hv', hg, hms'⟩ := owns_ms O4.out (by simp)
            have HG : Hid (w.heap.size ≤ g ∧ MsAt w4 g (([] : List V.Mv) ++ [m])) := ⟨hg, hms'⟩
            have heq : q + 1 = s.size := by have := H4.out.pz; omega
            have H5 : Hid (DecAt w4 A s s.size) := by have := H4.out; rw [heq] at this; exact this
            have hle : (([] : List V.Mv) ++ [m]).length ≤ 20 := by simp <;> omega
            clear hmust hm h59 hg hms' heq
            subst hv'
            go_wp2_with fail
            go_quiet (fail)
            go_wp2_with fail
            try simp only [Exit.jump]
            go_ret
            rw [HR.out]
            exact ⟨⟨g, cap, by simp, HG.out.1, HG.out.2.keep (X := []) ((Fr.refl _ _).drewN _) (by simp)⟩, by simp, hle, H5.out.drewN _, F4.out.drewN _⟩
        · have HR : Hid (V.pMoves (L s) (L s).length p0 [] = .error q) := by
            show _ = _
            rw [HP.out, V.pMoves, hm]
            have hmust : V.pMust (L s) 59 q = .error q := by
              unfold V.pMust
              rw [if_neg (by simp only [Bool.and_eq_true, beq_iff_eq]; exact fun h => h59 h.2)]
            simp only [hmust]
          refine (must_no A q s w3 H3.out hqs h59).mono ?_
          rintro e w4 ⟨rfl, f4⟩
          have F4 : Hid (Fr [A] w w4) := F3.out.trans f4 (fun _ _ h => h)
          clear f4 hm h59
          go_wp2_with fail
          refine ⟨rfl, ?_⟩
          rw [HR.out]
          exact ⟨rfl, F4.out⟩
      · have HR : Hid (V.pMoves (L s) (L s).length p0 [] = .error q) := by
          show _ = _
          rw [HP.out, V.pMoves, hm]
          have hmust : V.pMust (L s) 59 q = .error q := by
            unfold V.pMust
            rw [if_neg (by simp [L_len, hqs])]
          simp only [hmust]
        refine (must_end A q s w3 H3.out hqs).mono ?_
        rintro e w4 ⟨rfl, f4⟩
        have F4 : Hid (Fr [A] w w4) := F3.out.trans f4 (fun _ _ h => h)
        clear f4 hm
        go_wp2_with fail
        refine ⟨rfl, ?_⟩
        rw [HR.out]
        exact ⟨rfl, F4.out⟩
  · rintro a' wk ⟨f, p, ms, v, u4, u5, u6, u7, u8, u9, u10, u11, u12, u13, u14, u15, u16, u17, u18, u19, u20, u21, u22, rfl, hJ⟩
    have HOwn : Hid (wk.ownsRow w.heap.size 56 3 v ms.length (flat ms)) := hJ.own
    have HP : Hid (V.pMoves (L s) (L s).length p0 [] = V.pMoves (L s) (f + 1) p ms) := hJ.hr
    have HF : Hid (Fr [A] w wk) := hJ.fr
    have hms := hJ.hm
    have hfp := hJ.hf
    have HD : Hid (DecAt wk A s p) := hJ.d
    clear hJ HH
    obtain ⟨i0, hi, hz0, hz1, hz2⟩ := info_of (t := 56) (z := .agg #[.int .i64 0, .int .i64 0, .int .i64 0]) (n := 3) (b := 24) (by kernel_rfl)
    have sz := HD.out.sz
    have pz := HD.out.pz
    cases hm : V.pMove (L s) p with
    | error q =>
      have HR : Hid (V.pMoves (L s) (L s).length p0 [] = .error q) := by show _ = _; rw [HP.out]; simp [V.pMoves, hm]
      clear hi hz0 hz1 hz2
      go_wp2_with fail
      refine (move_err A p q s wk HD.out hm).mono ?_
      rintro e w1 ⟨rfl, f1⟩
      have F1 : Hid (Fr [A] w w1) := HF.out.trans f1 (fun _ _ h => h)
      clear f1
      go_wp2_with fail
      refine ⟨rfl, ?_⟩
      rw [HR.out]
      exact ⟨rfl, F1.out⟩
    | ok r =>
      obtain ⟨m, q⟩ := r
      have hq3 := pMove_pos hm
      go_wp2_with fail
      refine (move_ok A p q m s wk HD.out hm).mono ?_
      rintro e w1 ⟨rfl, d1, f1⟩
      have own1 := owns_keep HOwn.out f1 lA
      have H1 : Hid (DecAt w1 A s q) := d1
      have O1 : Hid (w1.ownsRow w.heap.size 56 3 v ms.length (flat ms)) := own1
      have F1 : Hid (Fr [A] w w1) := HF.out.trans f1 (fun _ _ h => h)
      have hw1 : w.heap.size ≤ w1.heap.size := F1.out.size
      clear d1 f1 own1
      go_wp2_with (first
        | (at_builtin; refine wpList_append_own _ rfl _ _ 57 rfl w.heap.size 56 i0 (.agg #[.int .i64 0, .int .i64 0, .int .i64 0]) 3 24 Try.underlying57 hi hz0 hz1 hz2 rfl (by decide) _ _ _ rfl (by exact (O1.out.alloc _).alloc _) ⟨w1.heap.size + 1, 0, none⟩ 1 1 [.int .i64 m.f, .int .i64 m.t, .int .i64 m.a] rfl rfl (by intro j u hu; rcases j with _ | _ | _ | j <;> simp at hu <;> (try subst hu) <;> simp [Addr.add, go_sem]) (fun x hx => by simp at hx; rcases hx with rfl | rfl | rfl <;> rfl) (by unfold maxLen; omega) (by omega) (by simp; omega) ?_; intro v' w3 hown' hgrow hnil))
      have O3 : Hid (w3.ownsRow w.heap.size 56 3 v' (ms ++ [m]).length (flat (ms ++ [m]))) := by
        show World.ownsRow _ _ _ _ _ _ _
        rw [flat_snoc, List.length_append]
        exact hown'
      have hrow : ∀ k, v.ownBlock = some k → w.heap.size ≤ k := by
        intro k hk
        rcases O1.out.2 with ⟨h1, _⟩ | ⟨g, cap, cur, hv, hg, _⟩
        · rw [h1] at hk; simp [Value.ownBlock] at hk
        · rw [hv] at hk; simp [Value.ownBlock] at hk; omega
      have F3 : Hid (Fr [A] w w3) := ((F1.out.alloc _).alloc _).grown hgrow hrow
      have H3 : Hid (DecAt w3 A s q) := ((H1.out.alloc _).alloc _).grown hgrow (fun e => by have := hrow A e.symm; omega)
      clear hown' hgrow hnil hrow hi hz0 hz1 hz2 H1 O1 F1
      by_cases hqs : q < s.size
      · by_cases h59 : (L s).getD q 0 = 59
        · have hmust : V.pMust (L s) 59 q = .ok (q + 1) := by simp only [V.pMust, L_len, hqs, h59, decide_true, Bool.true_and, beq_self_eq_true, if_true]
          refine (must_yes A q s w3 H3.out hqs h59).mono ?_
          rintro e w4 ⟨rfl, d4, f4⟩
          have O4 : Hid (w4.ownsRow w.heap.size 56 3 v' (ms ++ [m]).length (flat (ms ++ [m]))) := owns_keep O3.out f4 lA
          have H4 : Hid (DecAt w4 A s (q + 1)) := d4
          have F4 : Hid (Fr [A] w w4) := F3.out.trans f4 (fun _ _ h => h)
          have cp4 := d4.cp
          have cs4 := d4.cs
          clear d4 f4
          by_cases hlast : q + 1 < s.size
          · obtain ⟨f', rfl⟩ : ∃ f', f = f' + 1 := ⟨f - 1, by omega⟩
            have HR : Hid (V.pMoves (L s) (f' + 1 + 1) p ms = V.pMoves (L s) (f' + 1) (q + 1) (ms ++ [m])) := by
              show _ = _
              rw [V.pMoves, hm]
              simp only [hmust, L_len, if_pos hlast]
            have hli : ((q : Int) + 1) < (s.size : Int) := by omega
            clear hmust hm h59
            go_wp2_with fail
            go_quiet (fail)
            go_wp2_with fail
            go_step3
            refine ⟨rfl, ?_, ?_⟩
            · refine ⟨f', q + 1, ms ++ [m], v', _, _, _, _, _, _, _, _, _, _, _, _, _, _, _, _, _, _, _, rfl, ?_⟩
              exact ⟨H4.out.drewN _, own_drewN O4.out _, F4.out.drewN _, by omega, by simp <;> omega, by rw [HP.out, HR.out]⟩
            · rw [muP_at (H4.out.drewN _), muP_at HD.out]
              omega
          · have HR : Hid (V.pMoves (L s) (L s).length p0 [] = .ok (ms ++ [m])) := by
              show _ = _
              rw [HP.out, V.pMoves, hm]
              simp only [hmust, L_len, if_neg hlast]
            have hli : ¬ ((q : Int) + 1) < (s.size : Int) := by omega
            obtain ⟨g, cap, hv', hg, hms'⟩ := owns_ms O4.out (by simp)
            have HG : Hid (w.heap.size ≤ g ∧ MsAt w4 g (ms ++ [m])) := ⟨hg, hms'⟩
            have heq : q + 1 = s.size := by have := H4.out.pz; omega
            have H5 : Hid (DecAt w4 A s s.size) := by have := H4.out; rw [heq] at this; exact this
            have hle : (ms ++ [m]).length ≤ 20 := by simp <;> omega
            clear hmust hm h59 hg hms' heq
            subst hv'
            go_wp2_with fail
            go_quiet (fail)
            go_wp2_with fail
            try simp only [Exit.jump]
            go_ret
            rw [HR.out]
            exact ⟨⟨g, cap, by simp, HG.out.1, HG.out.2.keep (X := []) ((Fr.refl _ _).drewN _) (by simp)⟩, by simp, hle, H5.out.drewN _, F4.out.drewN _⟩
        · have HR : Hid (V.pMoves (L s) (L s).length p0 [] = .error q) := by
            show _ = _
            rw [HP.out, V.pMoves, hm]
            have hmust : V.pMust (L s) 59 q = .error q := by
              unfold V.pMust
              rw [if_neg (by simp only [Bool.and_eq_true, beq_iff_eq]; exact fun h => h59 h.2)]
            simp only [hmust]
          refine (must_no A q s w3 H3.out hqs h59).mono ?_
          rintro e w4 ⟨rfl, f4⟩
          have F4 : Hid (Fr [A] w w4) := F3.out.trans f4 (fun _ _ h => h)
          clear f4 hm h59
          go_wp2_with fail
          refine ⟨rfl, ?_⟩
          rw [HR.out]
          exact ⟨rfl, F4.out⟩
      · have HR : Hid (V.pMoves (L s) (L s).length p0 [] = .error q) := by
          show _ = _
          rw [HP.out, V.pMoves, hm]
          have hmust : V.pMust (L s) 59 q = .error q := by
            unfold V.pMust
            rw [if_neg (by simp [L_len, hqs])]
          simp only [hmust]
        refine (must_end A q s w3 H3.out hqs).mono ?_
        rintro e w4 ⟨rfl, f4⟩
        have F4 : Hid (Fr [A] w w4) := F3.out.trans f4 (fun _ _ h => h)
        clear f4 hm
        go_wp2_with fail
        refine ⟨rfl, ?_⟩
        rw [HR.out]
        exact ⟨rfl, F4.out⟩

end Go.Proofs.Qxb6500360a
