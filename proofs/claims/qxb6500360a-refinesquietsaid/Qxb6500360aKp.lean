/-
  PLAIN LAWS: between calls no lock is held; what leaves the ledger untouched; where a malformed request names its place.
-/
import Derived.Test.Qxb6500360aGc
namespace Go.Proofs.Qxb6500360a
open Go.RowKit
set_option linter.unusedSimpArgs false
set_option linter.unusedVariables false

/-! ### the table -/
theorem note_o (t : V.Tb) (c : UInt8) (k j : Nat) : (t.note c k).o j = t.o j := by unfold V.Tb.note; split <;> rfl
theorem note_g (t : V.Tb) (c : UInt8) (k j : Nat) : (t.note c k).g j = t.g j := by unfold V.Tb.note; split <;> rfl
theorem take_o (t : V.Tb) (k j : Nat) (h : k < t.op.length) : (t.take k).o j = if j = k then true else t.o j := by
  unfold V.Tb.take
  rw [note_o]
  unfold V.Tb.o
  simp only [List.getD_eq_getElem?_getD, List.getElem?_set]
  by_cases hj : k = j
  · subst hj; simp [h]
  · rw [if_neg hj, if_neg (fun e => hj e.symm)]
theorem take_g (t : V.Tb) (k j : Nat) : (t.take k).g j = t.g j := by
  unfold V.Tb.take
  rw [note_g]
  rfl
theorem give_o (t : V.Tb) (k j : Nat) (h : k < t.op.length) : (t.give k).o j = if j = k then false else t.o j := by
  unfold V.Tb.give
  rw [note_o]
  unfold V.Tb.o
  simp only [List.getD_eq_getElem?_getD, List.getElem?_set]
  by_cases hj : k = j
  · subst hj; simp [h]
  · rw [if_neg hj, if_neg (fun e => hj e.symm)]
theorem give_g (t : V.Tb) (k j : Nat) (hj : ¬ j = k) : (t.give k).g j = t.g j := by
  unfold V.Tb.give
  rw [note_g]
  unfold V.Tb.g
  simp only [List.getD_eq_getElem?_getD, List.getElem?_set]
  rw [if_neg (fun e => hj e.symm)]
theorem take_wf {t : V.Tb} (h : t.Wf) (k : Nat) : (t.take k).Wf := by
  unfold V.Tb.take
  exact V.Tb.note_wf (t := { t with op := t.op.set k true }) ⟨by simp [h.lo], h.lg, h.g, h.tr, h.ev⟩ _ _
theorem give_wf {t : V.Tb} (h : t.Wf) (k : Nat) : (t.give k).Wf := by
  unfold V.Tb.give
  exact V.Tb.note_wf (V.Tb.give_wf' h k) _ _
theorem acq_wf {t : V.Tb} (h : t.Wf) (k : Int) : (t.acq k).1.Wf := by
  unfold V.Tb.acq
  split
  · split
    · exact h
    · exact take_wf h _
  · exact h
theorem rel_wf {t : V.Tb} (h : t.Wf) (k : Int) : (t.rel k).1.Wf := by
  unfold V.Tb.rel
  split
  · split
    · exact give_wf h _
    · exact h
  · exact h
theorem acq_no {t : V.Tb} {k : Int} (h : ¬ (t.acq k).2.2 = 0) : (t.acq k).1 = t := by
  unfold V.Tb.acq at h ⊢
  split
  · rename_i hg
    rw [if_pos hg] at h
    split
    · rfl
    · rename_i ho
      rw [if_neg ho] at h
      exact absurd rfl h
  · rfl
/-- Each lock that is held is one of the handles hs. -/
def Kept (t : V.Tb) (hs : List Int) : Prop := t.Wf ∧ ∀ k : Nat, t.o k = true → ((k : Int) + 4 * t.g k) ∈ hs
theorem o_lt {t : V.Tb} (h : t.Wf) {k : Nat} (ho : t.o k = true) : k < 4 := by
  unfold V.Tb.o at ho
  rw [List.getD_eq_getElem?_getD] at ho
  by_cases hk : k < 4
  · exact hk
  · rw [List.getElem?_eq_none (by rw [h.lo]; omega)] at ho
    cases ho
theorem Kept.acq {t : V.Tb} {hs : List Int} (h : Kept t hs) {k : Int} (he : (t.acq k).2.2 = 0) : Kept (t.acq k).1 ((t.acq k).2.1 :: hs) := by
  have hg := acq_err he
  obtain ⟨g0, g1⟩ := V.good_lt hg
  refine ⟨acq_wf h.1 k, ?_⟩
  unfold V.Tb.acq at he ⊢
  rw [if_pos hg] at he ⊢
  split
  · rename_i ho; rw [if_pos ho] at he; cases he
  · intro j hj
    dsimp only at hj ⊢
    rw [take_o _ _ _ (by rw [h.1.lo]; omega)] at hj
    rw [take_g]
    by_cases hjk : j = k.toNat
    · subst hjk
      have : ((k.toNat : Nat) : Int) = k := by omega
      rw [this]
      exact List.mem_cons_self
    · rw [if_neg hjk] at hj
      exact List.mem_cons_of_mem _ (h.2 j hj)
theorem Kept.acq_no {t : V.Tb} {hs : List Int} (h : Kept t hs) {k : Int} (he : ¬ (t.acq k).2.2 = 0) : Kept (t.acq k).1 hs := by
  rw [Qxb6500360a.acq_no he]; exact h
theorem Kept.rel {t : V.Tb} {hs : List Int} {h : Int} (hk : Kept t (h :: hs)) : Kept (t.rel h).1 hs := by
  refine ⟨rel_wf hk.1 h, ?_⟩
  intro j hj
  have key : ∀ j : Nat, t.o j = true → ((j : Int) + 4 * t.g j = h → 0 ≤ h ∧ h < 16 ∧ (h % 4).toNat = j ∧ t.ov (h % 4).toNat = h) := by
    intro j ho e
    have l := o_lt hk.1 ho
    have g := hk.1.g j l
    have e4 : (h % 4).toNat = j := by omega
    refine ⟨by omega, by omega, e4, ?_⟩
    rw [e4]
    unfold V.Tb.ov
    rw [if_pos ho]
    exact e
  unfold V.Tb.rel at hj ⊢
  by_cases hr : 0 ≤ h ∧ h < 16
  · rw [if_pos hr] at hj ⊢
    by_cases hv : t.ov (h % 4).toNat = h
    · have hv' : (t.ov (h % 4).toNat == h) = true := by simpa using hv
      rw [if_pos hv'] at hj ⊢
      dsimp only at hj ⊢
      have l4 : (h % 4).toNat < t.op.length := by rw [hk.1.lo]; omega
      rw [give_o _ _ _ l4] at hj
      by_cases hjk : j = (h % 4).toNat
      · rw [if_pos hjk] at hj; cases hj
      · rw [if_neg hjk] at hj
        rw [give_g _ _ _ hjk]
        rcases List.mem_cons.mp (hk.2 j hj) with e | e
        · exact absurd (key j hj e).2.2.1.symm hjk
        · exact e
    · have hv' : ¬ (t.ov (h % 4).toNat == h) = true := by simpa using hv
      rw [if_neg hv'] at hj ⊢
      rcases List.mem_cons.mp (hk.2 j hj) with e | e
      · exact absurd (key j hj e).2.2.2 hv
      · exact e
  · rw [if_neg hr] at hj ⊢
    rcases List.mem_cons.mp (hk.2 j hj) with e | e
    · have := key j hj e; exact absurd ⟨this.1, this.2.1⟩ hr
    · exact e
theorem Kept.all {hs : List Int} : ∀ {t : V.Tb}, Kept t hs → Kept (V.relAll t hs) [] := by
  induction hs with
  | nil => intro t h; exact h
  | cons a hs ih => intro t h; exact ih h.rel
theorem Kept.clear {t : V.Tb} {hs : List Int} (h : Kept t hs) : Kept t.clear hs := ⟨V.Tb.clear_wf h.1, h.2⟩
theorem Kept.swap {t : V.Tb} {a b : Int} {hs : List Int} (h : Kept t (a :: b :: hs)) : Kept t (b :: a :: hs) :=
  ⟨h.1, fun k hk => by have := h.2 k hk; simp at this ⊢; rcases this with e | e | e <;> simp [e]⟩
theorem Kept.held {t : V.Tb} (h : Kept t []) : t.held = 0 := by
  have : t.op.count true = 0 := by
    rw [List.count_eq_zero]
    intro hm
    obtain ⟨k, hk, e⟩ := List.getElem_of_mem hm
    have : t.o k = true := by unfold V.Tb.o; rw [List.getD_eq_getElem?_getD, List.getElem?_eq_getElem hk, e]; rfl
    have := h.2 k this
    cases this
  unfold V.Tb.held
  omega

/-! ### the ledger -/
theorem Kept.pair {t : V.Tb} (h : Kept t []) (a b : Int) (he : (t.pair a b).2.2.2 = 0) : Kept (t.pair a b).1 [(t.pair a b).2.2.1, (t.pair a b).2.1] := by
  unfold V.Tb.pair at he ⊢
  split
  · rename_i hg
    rw [if_pos hg] at he
    split
    · rename_i hab; rw [if_pos hab] at he; cases he
    · rename_i hab
      rw [if_neg hab] at he
      dsimp only at he ⊢
      by_cases h1 : (t.acq (if b < a then b else a)).2.2 = 0
      · rw [if_pos h1] at he ⊢
        by_cases h2 : ((t.acq (if b < a then b else a)).1.acq (if b < a then a else b)).2.2 = 0
        · rw [if_pos h2] at he ⊢
          dsimp only at he ⊢
          have k2 := (h.acq h1).acq h2
          by_cases hlt : a < b
          · rw [if_pos hlt, if_pos hlt]
            exact k2
          · rw [if_neg hlt, if_neg hlt]
            exact k2.swap
        · rw [if_neg h2] at he; exact absurd he h2
      · rw [if_neg h1] at he; exact absurd he h1
  · rename_i hg; rw [if_neg hg] at he; cases he
theorem Kept.pair_no {t : V.Tb} (h : Kept t []) (a b : Int) (he : ¬ (t.pair a b).2.2.2 = 0) : Kept (t.pair a b).1 [] := by
  unfold V.Tb.pair at he ⊢
  split
  · rename_i hg
    rw [if_pos hg] at he
    split
    · exact h
    · rename_i hab
      rw [if_neg hab] at he
      dsimp only at he ⊢
      by_cases h1 : (t.acq (if b < a then b else a)).2.2 = 0
      · rw [if_pos h1] at he ⊢
        by_cases h2 : ((t.acq (if b < a then b else a)).1.acq (if b < a then a else b)).2.2 = 0
        · rw [if_pos h2] at he; exact absurd rfl he
        · rw [if_neg h2]
          exact ((h.acq h1).acq_no h2).rel
      · rw [if_neg h1]
        exact h.acq_no h1
  · exact h
theorem balance_kept {d : V.Ld} (h : Kept d.t []) (k : Int) : Kept (d.balance k).1.t [] := by
  unfold V.Ld.balance
  dsimp only
  by_cases he : (d.t.clear.acq k).2.2 = 0
  · rw [if_pos he]; exact (h.clear.acq he).rel
  · rw [if_neg he]; exact h.clear.acq_no he
theorem split_kept {d : V.Ld} (h : Kept d.t []) (k p : Int) : Kept (d.split k p).1.t [] := by
  unfold V.Ld.split
  dsimp only
  by_cases he : (d.t.clear.acq k).2.2 = 0
  · rw [if_pos he]; exact (h.clear.acq he).rel
  · rw [if_neg he]; exact h.clear.acq_no he
theorem transfer_kept {d : V.Ld} (h : Kept d.t []) (m : V.Mv) : Kept (d.transfer m).1.t [] := by
  unfold V.Ld.transfer
  dsimp only
  split
  · by_cases he : (d.t.clear.pair m.f m.t).2.2.2 = 0
    · rw [if_pos he]
      have k := (h.clear.pair m.f m.t he).rel.rel
      split
      · exact k
      · exact k
    · rw [if_neg he]
      exact h.clear.pair_no m.f m.t he
  · exact h.clear
theorem cenGo_kept (bal : List Int) : ∀ (r : Nat) (t : V.Tb) (k : Nat) (n : Int), Kept t [] → Kept (V.cenGo bal r t k n).1 []
  | 0, t, k, n, h => by simpa [V.cenGo] using h
  | r + 1, t, k, n, h => by
    unfold V.cenGo
    by_cases he : (t.acq k).2.2 = 0
    · rw [if_pos he]; exact cenGo_kept bal r _ _ _ (h.acq he).rel
    · rw [if_neg he]; exact h.acq_no he
theorem census_kept {d : V.Ld} (h : Kept d.t []) : Kept d.census.1.t [] := by
  unfold V.Ld.census
  exact cenGo_kept d.bal 4 _ 0 0 h.clear
theorem lock_kept {s : V.Bst} (h : Kept s.t s.hs) (k : Int) : Kept (s.lock k).1.t (s.lock k).1.hs := by
  unfold V.Bst.lock
  split
  · exact h
  · dsimp only
    by_cases he : (s.t.acq k).2.2 = 0
    · rw [if_pos he]; exact h.acq he
    · rw [if_neg he]; exact h.acq_no he
theorem locks_kept {s : V.Bst} (h : Kept s.t s.hs) (m : V.Mv) : Kept (s.locks m).1.t (s.locks m).1.hs := by
  unfold V.Bst.locks
  dsimp only
  split
  · exact lock_kept (lock_kept h m.f) m.t
  · exact lock_kept h m.f
theorem move_kept {s : V.Bst} (h : Kept s.t s.hs) (m : V.Mv) : Kept (s.move m).1.t (s.move m).1.hs := by
  unfold V.Bst.move
  split
  · dsimp only
    split
    · exact locks_kept h m
    · exact locks_kept h m
  · exact h
theorem run_kept : ∀ (ms : List V.Mv) (s : V.Bst) (i : Int), Kept s.t s.hs → Kept (s.run i ms).1.t (s.run i ms).1.hs
  | [], s, i, h => by simpa [V.Bst.run] using h
  | m :: ms, s, i, h => by
    unfold V.Bst.run
    split
    · exact run_kept ms _ _ (move_kept h m)
    · exact move_kept h m
theorem batch_kept {d : V.Ld} (h : Kept d.t []) (ms : List V.Mv) : Kept (d.batch ms).1.t [] := by
  unfold V.Ld.batch
  split
  · dsimp only
    have k := (run_kept ms ⟨d.t.clear, [false, false, false, false], [], d.bal⟩ 0 h.clear).all
    split
    · exact k
    · exact k
  · exact h
theorem vrun_kept {d : V.Ld} (h : Kept d.t []) (c : V.Cmd) : Kept (V.run d c).1.t [] := by
  unfold V.run
  split
  · exact census_kept h
  · split
    · exact balance_kept h _
    · split
      · exact h
      · split
        · exact split_kept h _ _
        · split
          · exact transfer_kept h _
          · exact batch_kept h _
theorem serve_kept {g : V.Gt} (h : Kept g.d.t []) (s : List UInt8) : Kept (g.serve s).1.d.t [] := by
  unfold V.Gt.serve V.answer
  dsimp only
  split
  · split
    · split
      · exact vrun_kept h _
      · exact vrun_kept h _
    · exact h
  · exact h

/-! ### which errors there are -/
def Er (e : Int) : Prop := e = 0 ∨ e = 2 ∨ e = 3 ∨ e = 4 ∨ e = 6 ∨ e = 7
theorem acq_er (t : V.Tb) (k : Int) : Er (t.acq k).2.2 := by
  unfold V.Tb.acq Er
  split
  · split <;> simp
  · simp
theorem pair_er (t : V.Tb) (a b : Int) : Er (t.pair a b).2.2.2 := by
  unfold V.Tb.pair
  split
  · split
    · simp [Er]
    · dsimp only
      generalize (if b < a then b else a) = lo
      generalize (if b < a then a else b) = hi
      by_cases h1 : (t.acq lo).2.2 = 0
      · rw [if_pos h1]
        by_cases h2 : ((t.acq lo).1.acq hi).2.2 = 0
        · rw [if_pos h2]; simp [Er]
        · rw [if_neg h2]; exact acq_er _ _
      · rw [if_neg h1]; exact acq_er _ _
  · simp [Er]
theorem check_er (m : V.Mv) : Er (V.check m) := by
  unfold V.check Er
  split
  · split <;> simp
  · simp
theorem pay_er (bal : List Int) (m : V.Mv) : Er (V.pay bal m).2 := by
  unfold V.pay Er
  split
  · simp
  · split <;> simp
theorem balance_er (d : V.Ld) (k : Int) : Er (d.balance k).2.2 := by
  unfold V.Ld.balance
  dsimp only
  split
  · simp [Er]
  · exact acq_er _ _
theorem cenGo_er (bal : List Int) : ∀ (r : Nat) (t : V.Tb) (k : Nat) (n : Int), Er (V.cenGo bal r t k n).2.2
  | 0, t, k, n => by simp [V.cenGo, Er]
  | r + 1, t, k, n => by
    unfold V.cenGo
    split
    · exact cenGo_er bal r _ _ _
    · exact acq_er _ _
theorem transfer_er (d : V.Ld) (m : V.Mv) : Er (d.transfer m).2.2 := by
  unfold V.Ld.transfer
  split
  · dsimp only
    split
    · split
      · simp [Er]
      · exact pay_er _ _
    · exact pair_er _ _ _
  · exact check_er m
theorem lock_er (s : V.Bst) (k : Int) : Er (s.lock k).2 := by
  unfold V.Bst.lock
  split
  · simp [Er]
  · dsimp only
    split
    · simp [Er]
    · exact acq_er _ _
theorem locks_er (s : V.Bst) (m : V.Mv) : Er (s.locks m).2 := by
  unfold V.Bst.locks
  dsimp only
  split
  · exact lock_er _ _
  · exact lock_er _ _
theorem move_er (s : V.Bst) (m : V.Mv) : Er (s.move m).2 := by
  unfold V.Bst.move
  split
  · dsimp only
    split
    · exact pay_er _ _
    · exact locks_er _ _
  · exact check_er m
theorem run_er : ∀ (ms : List V.Mv) (s : V.Bst) (i : Int), Er (s.run i ms).2.2
  | [], s, i => by simp [V.Bst.run, Er]
  | m :: ms, s, i => by
    unfold V.Bst.run
    split
    · exact run_er ms _ _
    · exact move_er _ _
theorem batch_er (d : V.Ld) (ms : List V.Mv) : Er (d.batch ms).2.2 ∨ ((d.batch ms).2.2 = 1 ∧ (d.batch ms).1 = d) := by
  unfold V.Ld.batch
  split
  · dsimp only
    split
    · exact .inl (by simp [Er])
    · exact .inl (run_er _ _ _)
  · exact .inr ⟨rfl, rfl⟩
theorem shape_e (v : UInt8) (n e : Int) : (V.shape v n e).2 = e := by
  unfold V.shape
  split
  · rename_i h; rw [h]
  · split <;> rfl
theorem vrun_er (d : V.Ld) (c : V.Cmd) (r : List UInt8 × Int) (h : (V.run d c).2 = some r) : Er r.2 ∨ (r.2 = 1 ∧ (V.run d c).1 = d) := by
  unfold V.run at h ⊢
  split
  · rename_i hv
    rw [if_pos hv] at h
    cases h
    rw [shape_e]
    exact .inl (cenGo_er _ _ _ _ _)
  · rename_i hv
    rw [if_neg hv] at h
    split
    · rename_i hv
      rw [if_pos hv] at h
      cases h
      rw [shape_e]
      exact .inl (balance_er _ _)
    · rename_i hv
      rw [if_neg hv] at h
      split
      · rename_i hv
        rw [if_pos hv] at h
        dsimp only at h
        split at h
        · cases h; exact .inl (by simp [Er])
        · cases h
      · rename_i hv
        rw [if_neg hv] at h
        split
        · rename_i hv
          rw [if_pos hv] at h
          dsimp only at h
          unfold V.Ld.split at h
          dsimp only at h
          left
          split at h
          · rename_i he
            cases h
            rw [shape_e]
            split at he
            · split at he
              · cases he
              · cases he; simp [Er]
            · cases he; exact acq_er _ _
          · cases h
        · rename_i hv
          rw [if_neg hv] at h
          split
          · rename_i hv
            rw [if_pos hv] at h
            cases h
            rw [shape_e]
            exact .inl (transfer_er _ _)
          · rename_i hv
            rw [if_neg hv] at h
            cases h
            dsimp only
            rw [shape_e]
            exact batch_er _ _
/-- What a served request's answer tells of the ledger. -/
theorem serve_er (g : V.Gt) (s : List UInt8) :
    (Er (g.serve s).2.2 ∨ (g.serve s).2.2 = 9) ∨ ((g.serve s).2.2 = 1 ∧ (g.serve s).1.d = g.d) ∨
      ((g.serve s).2.2 = 8 ∧ (g.serve s).1.d = g.d ∧ ∃ q : Nat, q ≤ s.length ∧ q ≤ 20 ∧ (g.serve s).2.1 = [64] ++ V.itoa q) := by
  unfold V.Gt.serve V.answer
  dsimp only
  split
  · rename_i hl
    have hb := decode_bd s
    cases hd : V.decode s with
    | error q =>
      dsimp only
      have := hb.1 q hd
      exact .inr (.inr ⟨rfl, rfl, q, this, by omega, rfl⟩)
    | ok c =>
      dsimp only
      cases hr : (V.run g.d c).2 with
      | none => exact .inl (.inr rfl)
      | some r =>
        dsimp only
        rcases vrun_er g.d c r hr with h | ⟨h, e⟩
        · exact .inl (.inl h)
        · exact .inr (.inl ⟨h, e⟩)
  · exact .inr (.inl ⟨rfl, rfl⟩)
theorem decode_verbN {s : List UInt8} {c : V.Cmd} (h0 : s[0]? = some 78) (h : V.decode s = .ok c) : c.verb = 78 := by
  cases s with
  | nil => cases h0
  | cons v t =>
    simp at h0
    subst h0
    unfold V.decode at h
    dsimp only at h
    rw [if_neg (by decide), if_pos (by decide)] at h
    split at h
    · cases pEnd_ok h; rfl
    · cases h
theorem serve_N (g : V.Gt) (s : List UInt8) (h0 : s[0]? = some 78) : (g.serve s).1.d = g.d := by
  unfold V.Gt.serve V.answer
  dsimp only
  split
  · cases hd : V.decode s with
    | error q => rfl
    | ok c =>
      dsimp only
      have hv := decode_verbN h0 hd
      have hr : (V.run g.d c).1 = g.d := by unfold V.run; rw [hv]; rfl
      split <;> exact hr
  · rfl

end Go.Proofs.Qxb6500360a
