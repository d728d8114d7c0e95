/-
  L2: the real ledger: Batch: laws on what lies in memory; a list that is too long.
-/
import Derived.Test.Qxb6500360aB0
namespace Go.Proofs.Qxb6500360a
open Go.RowKit
set_option linter.unusedSimpArgs false
set_option linter.unusedVariables false

set_option maxHeartbeats 1000000 in
set_option maxRecDepth 100000 in
theorem batch_long (D T C R B L MS len cap : Nat) (d : V.Ld) (w : World) (h : LdAt w D T C R B L d) (hl : 3 < len) (hl2 : len ≤ 1000) :
    Calls Try.prog 62 #[.pointer (some ⟨D, 0, none⟩), .slice (some ⟨MS, 0, none⟩) len cap] w fun e w' => e = .returned (.tuple #[.int .i64 0, .int .i64 1]) ∧ LdAt w' D T C R B L d ∧ Fr [D, T, C, R, B, L] w w' := by
  have HH : Hid (LdAt w D T C R B L d) := h
  clear h
  have hli : (3 : Int) < (len : Int) := by omega
  go_enter_defers Try.func62, Try.ntmps62
  go_wp2_with fail
  refine gone (.tuple #[.int .i64 0, .int .i64 1]) rfl (by simp [results, Try.results62, go_sem]) ⟨rfl, ?_, ((Fr.refl _ _).alloc _).alloc _⟩
  exact HH.out.keep (X := []) (((Fr.refl _ _).alloc _).alloc _) (by simp)

/-- Ahead of a round of Batch: i moves are done; g are to come. -/
structure BatI (w : World) (N E X TX DN MN MS D T C R B L : Nat) (d : V.Ld) (ms : List V.Mv) (g i : Nat) (s : V.Bst) (lg : List (Nat × Int)) (wr : World) : Prop where
  at_ : BatAt w N E X TX DN MN MS D T C R B L d ms s lg 0 0 false wr
  hg : i + g = ms.length
  rn : V.Bst.run ⟨d.t.clear, [false, false, false, false], [], d.bal⟩ 0 ms = V.Bst.run s i (ms.drop i)
  ll : lg.length ≤ 2 * i
  lz : lg = [] ↔ i = 0
  sum : (V.Ld.mk s.bal d.und d.t).audit = 400

/-- Ahead of a round of the inner loop: k locks of the move m have been looked at. -/
structure LkI (w : World) (N E X TX DN MN MS D T C R B L : Nat) (d : V.Ld) (ms : List V.Mv) (s : V.Bst) (lg : List (Nat × Int)) (M : Nat) (m : V.Mv) (g k : Nat) (s2 : V.Bst) (wr : World) : Prop where
  at_ : BatAt w N E X TX DN MN MS D T C R B L d ms s2 lg 0 0 false wr
  m0 : wr.cell? ⟨M, 0, none⟩ = some (.int .i64 m.f)
  m1 : wr.cell? ⟨M, 1, none⟩ = some (.int .i64 m.t)
  m2 : wr.cell? ⟨M, 2, none⟩ = some (.int .i64 m.a)
  hM : MN < M
  hg : k + g = 2
  rel : (k = 0 ∧ s2 = s) ∨ (k = 1 ∧ s.lock m.f = (s2, 0)) ∨ (k = 2 ∧ s.locks m = (s2, 0))

theorem lock_bal {s s2 : V.Bst} {k e : Int} (h : s.lock k = (s2, e)) : s2.bal = s.bal := by
  unfold V.Bst.lock at h
  split at h
  · cases h; rfl
  · simp only at h
    split at h <;> (cases h; rfl)
theorem locks_bal {s s2 : V.Bst} {m : V.Mv} {e : Int} (h : s.locks m = (s2, e)) : s2.bal = s.bal := by
  unfold V.Bst.locks at h
  cases h1 : s.lock m.f with
  | mk a b =>
    simp only [h1] at h
    split at h
    · rw [lock_bal h, lock_bal h1]
    · cases h; exact lock_bal h1

section
variable {w wr w2 : World} {N E X TX DN MN MS D T C R B L : Nat} {d : V.Ld} {ms : List V.Mv} {s : V.Bst} {lg : List (Nat × Int)} {n e : Int} {b : Bool}

theorem BatAt.keep (h : BatAt w N E X TX DN MN MS D T C R B L d ms s lg n e b wr) (hf : Fr [] wr w2) : BatAt w N E X TX DN MN MS D T C R B L d ms s lg n e b w2 :=
  ⟨hf.cellv h.cn (by simp), hf.cellv h.ce (by simp), hf.cellv h.cx (by simp), hf.cellv h.ct (by simp), hf.cellv h.cd (by simp), fun k hk => hf.cellv (h.cm k hk) (by simp),
    hf.frozenv h.fn (lt_of_cell h.cn) (by simp), hf.frozenv h.fe (lt_of_cell h.ce) (by simp), hf.frozenv h.fd (lt_of_cell h.cd) (by simp), fun o => hf.frozenv (h.fm o) (lt_of_cell (h.cm 0 (by omega))) (by simp),
    h.hb.keep hf (by simp) (by simp) (by simp), h.ht.keep hf (by simp) (by simp) (by simp), h.hm.keep hf (by simp), h.un, h.sm, h.fr.trans hf (by simp), h.ho, h.hw⟩

theorem BatAt.hs (h : BatAt w N E X TX DN MN MS D T C R B L d ms s lg n e b wr) (l : List Int) : BatAt w N E X TX DN MN MS D T C R B L d ms { s with hs := l } lg n e b wr :=
  ⟨h.cn, h.ce, h.cx, h.ct, h.cd, h.cm, h.fn, h.fe, h.fd, h.fm, h.hb, h.ht, h.hm, h.un, h.sm, h.fr, h.ho, h.hw⟩

/-- A store into one of the call's own boxes: what is asked of each. -/
theorem BatAt.stored (h : BatAt w N E X TX DN MN MS D T C R B L d ms s lg n e b wr) {A : Nat} (hA : N ≤ A) {n' e' : Int} {b' : Bool} {mine' : List Bool} (hf : Fr [A] wr w2)
    (cn : w2.cell? ⟨N, 0, none⟩ = some (.int .i64 n')) (ce : w2.cell? ⟨E, 0, none⟩ = some (.int .i64 e')) (cd : w2.cell? ⟨DN, 0, none⟩ = some (.bool b'))
    (cm : ∀ k, k < 4 → w2.cell? ⟨MN, k, none⟩ = some (.bool (mine'.getD k false))) (lm : mine'.length = 4) (nX : ¬ X = A) (nT : ¬ TX = A) :
    BatAt w N E X TX DN MN MS D T C R B L d ms { s with mine := mine' } lg n' e' b' w2 := by
  have o := h.ho
  have hfz : ∀ c o, c < wr.heap.size → w2.frozen? ⟨c, o, none⟩ = wr.frozen? ⟨c, o, none⟩ := hf.frz
  exact ⟨cn, ce, hf.cellv h.cx (by simpa using nX), hf.cellv h.ct (by simpa using nT), cd, cm,
    (hfz _ _ (lt_of_cell h.cn)).trans h.fn, (hfz _ _ (lt_of_cell h.ce)).trans h.fe, (hfz _ _ (lt_of_cell h.cd)).trans h.fd, fun o => (hfz _ _ (lt_of_cell (h.cm 0 (by omega)))).trans (h.fm o),
    h.hb.keep hf (by simp; omega) (by simp; omega) (by simp; omega), h.ht.keep hf (by simp; omega) (by simp; omega) (by simp; omega), h.hm.keep hf (by simp; omega), h.un, ⟨h.sm.1, lm⟩,
    h.fr.trans hf (fun x hx hm => by have := h.hw.1; simp at hm; omega), h.ho, h.hw⟩
theorem BatAt.setN (h : BatAt w N E X TX DN MN MS D T C R B L d ms s lg n e b wr) (v : Int) : BatAt w N E X TX DN MN MS D T C R B L d ms s lg v e b (wr.setCell ⟨N, 0, none⟩ (.int .i64 v)) := by
  have o := h.ho
  have := h.stored (A := N) (mine' := s.mine) (n' := v) (e' := e) (b' := b) (Nat.le_refl _) ((Fr.refl _ _).setCell (p := ⟨N, 0, none⟩) (by simp) (.int .i64 v)) (by simp [cell_set, h.cn]) (by rw [cell_set, if_neg (by omega)]; exact h.ce) (by rw [cell_set, if_neg (by omega)]; exact h.cd) (fun k hk => by rw [cell_set, if_neg (by omega)]; exact h.cm k hk) h.sm.2 (by omega) (by omega)
  exact this
theorem BatAt.setE (h : BatAt w N E X TX DN MN MS D T C R B L d ms s lg n e b wr) (v : Int) : BatAt w N E X TX DN MN MS D T C R B L d ms s lg n v b (wr.setCell ⟨E, 0, none⟩ (.int .i64 v)) := by
  have o := h.ho
  have := h.stored (A := E) (mine' := s.mine) (n' := n) (e' := v) (b' := b) (by omega) ((Fr.refl _ _).setCell (p := ⟨E, 0, none⟩) (by simp) (.int .i64 v)) (by rw [cell_set, if_neg (by omega)]; exact h.cn) (by simp [cell_set, h.ce]) (by rw [cell_set, if_neg (by omega)]; exact h.cd) (fun k hk => by rw [cell_set, if_neg (by omega)]; exact h.cm k hk) h.sm.2 (by omega) (by omega)
  exact this
theorem BatAt.setD (h : BatAt w N E X TX DN MN MS D T C R B L d ms s lg n e b wr) (v : Bool) : BatAt w N E X TX DN MN MS D T C R B L d ms s lg n e v (wr.setCell ⟨DN, 0, none⟩ (.bool v)) := by
  have o := h.ho
  have := h.stored (A := DN) (mine' := s.mine) (n' := n) (e' := e) (b' := v) (by omega) ((Fr.refl _ _).setCell (p := ⟨DN, 0, none⟩) (by simp) (.bool v)) (by rw [cell_set, if_neg (by omega)]; exact h.cn) (by rw [cell_set, if_neg (by omega)]; exact h.ce) (by simp [cell_set, h.cd]) (fun k hk => by rw [cell_set, if_neg (by omega)]; exact h.cm k hk) h.sm.2 (by omega) (by omega)
  exact this
theorem BatAt.setM (h : BatAt w N E X TX DN MN MS D T C R B L d ms s lg n e b wr) (k : Nat) (hk : k < 4) : BatAt w N E X TX DN MN MS D T C R B L d ms { s with mine := s.mine.set k true } lg n e b (wr.setCell ⟨MN, k, none⟩ (.bool true)) := by
  have o := h.ho
  refine h.stored (A := MN) (by omega) ((Fr.refl _ _).setCell (p := ⟨MN, k, none⟩) (by simp) (.bool true)) (by rw [cell_set, if_neg (by omega)]; exact h.cn) (by rw [cell_set, if_neg (by omega)]; exact h.ce) (by rw [cell_set, if_neg (by omega)]; exact h.cd) (fun j hj => ?_) (by simpa using h.sm.2) (by omega) (by omega)
  rw [getD_set, h.sm.2, cell_set]
  by_cases hjk : k = j
  · subst hjk; simp [h.cm k hk, hk]
  · simp [hjk, h.cm j hj]
theorem BatAt.tab (h : BatAt w N E X TX DN MN MS D T C R B L d ms s lg n e b wr) (sp : Sep D T C R B L) {t' : V.Tb} (hf : Fr [T, C, R] wr w2) (ht : TabAt w2 T C R t') : BatAt w N E X TX DN MN MS D T C R B L d ms { s with t := t' } lg n e b w2 := by
  have o := h.ho
  have hw := h.hw.2
  exact ⟨hf.cellv h.cn (by simp; omega), hf.cellv h.ce (by simp; omega), hf.cellv h.cx (by simp; omega), hf.cellv h.ct (by simp; omega), hf.cellv h.cd (by simp; omega), fun k hk => hf.cellv (h.cm k hk) (by simp; omega),
    hf.frozenv h.fn (lt_of_cell h.cn) (by simp; omega), hf.frozenv h.fe (lt_of_cell h.ce) (by simp; omega), hf.frozenv h.fd (lt_of_cell h.cd) (by simp; omega), fun o => hf.frozenv (h.fm o) (lt_of_cell (h.cm 0 (by omega))) (by simp; omega),
    h.hb.keepT sp hf, ht, h.hm.keep hf (by simp at hw ⊢; omega), h.un, h.sm, h.fr.trans hf.wide (fun _ _ hh => hh), h.ho, h.hw⟩
theorem BatAt.books (h : BatAt w N E X TX DN MN MS D T C R B L d ms s lg n e b wr) (sp : Sep D T C R B L) {bal' : List Int} {lg' : List (Nat × Int)} (hf : Fr [D, B, L] wr w2) (hb : BkAt w2 D T B L bal' lg' d.und) (hu : undo bal' lg' = d.bal) : BatAt w N E X TX DN MN MS D T C R B L d ms { s with bal := bal' } lg' n e b w2 := by
  have o := h.ho
  have hw := h.hw.2
  exact ⟨hf.cellv h.cn (by simp; omega), hf.cellv h.ce (by simp; omega), hf.cellv h.cx (by simp; omega), hf.cellv h.ct (by simp; omega), hf.cellv h.cd (by simp; omega), fun k hk => hf.cellv (h.cm k hk) (by simp; omega),
    hf.frozenv h.fn (lt_of_cell h.cn) (by simp; omega), hf.frozenv h.fe (lt_of_cell h.ce) (by simp; omega), hf.frozenv h.fd (lt_of_cell h.cd) (by simp; omega), fun o => hf.frozenv (h.fm o) (lt_of_cell (h.cm 0 (by omega))) (by simp; omega),
    hb, h.ht.keepB sp hf, h.hm.keep hf (by simp at hw ⊢; omega), hu, ⟨hb.lb, h.sm.2⟩, h.fr.trans hf.wideB (fun _ _ hh => hh), h.ho, h.hw⟩
end

theorem batch_err {d : V.Ld} {ms : List V.Mv} {s : V.Bst} {i e : Int} (hl : ms.length ≤ 3) (hr : V.Bst.run ⟨d.t.clear, [false, false, false, false], [], d.bal⟩ 0 ms = (s, i, e)) (he : ¬ e = 0) :
    d.batch ms = (V.Ld.mk d.bal (if 0 < i ∨ e = 7 then V.bump d.und else d.und) (V.relAll s.t s.hs), i, e) := by
  simp only [V.Ld.batch, hl, if_true, hr, if_neg he]
theorem batch_ok {d : V.Ld} {ms : List V.Mv} {s : V.Bst} {i : Int} (hl : ms.length ≤ 3) (hr : V.Bst.run ⟨d.t.clear, [false, false, false, false], [], d.bal⟩ 0 ms = (s, i, 0)) :
    d.batch ms = (V.Ld.mk s.bal d.und (V.relAll s.t s.hs), (ms.length : Int), 0) := by
  simp only [V.Ld.batch, hl, if_true, hr]

theorem run_cons (s : V.Bst) (i : Int) (m : V.Mv) (l : List V.Mv) : V.Bst.run s i (m :: l) = if (s.move m).2 = 0 then (s.move m).1.run (i + 1) l else ((s.move m).1, i, (s.move m).2) := rfl
theorem check_vals (m : V.Mv) : V.check m = 0 ∨ V.check m = 2 ∨ V.check m = 3 := by
  unfold V.check; split
  · split <;> simp
  · simp
theorem acq_vals (t : V.Tb) (k : Int) : (t.acq k).2.2 = 0 ∨ (t.acq k).2.2 = 2 ∨ (t.acq k).2.2 = 4 := by
  unfold V.Tb.acq; split
  · split <;> simp
  · simp

end Go.Proofs.Qxb6500360a
