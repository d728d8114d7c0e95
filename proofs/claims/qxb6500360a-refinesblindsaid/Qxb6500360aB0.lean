/-
  L2: the real ledger: Batch: the doors.
-/
import Derived.Test.Qxb6500360aCe
import Derived.Deep.LoopGhost
namespace Go.Proofs.Qxb6500360a
open Go.RowKit
set_option linter.unusedSimpArgs false
set_option linter.unusedVariables false

/-- The moves ms lie at the block MS. -/
def MsAt (w : World) (MS : Nat) (ms : List V.Mv) : Prop :=
  ∀ i m, ms[i]? = some m → w.cell? ⟨MS, i * 3, none⟩ = some (.int .i64 m.f) ∧ w.cell? ⟨MS, i * 3 + 1, none⟩ = some (.int .i64 m.t) ∧ w.cell? ⟨MS, i * 3 + 2, none⟩ = some (.int .i64 m.a)
theorem MsAt.keep {w w' : World} {MS : Nat} {ms : List V.Mv} (h : MsAt w MS ms) {X : List Nat} (hf : Fr X w w') (hn : MS ∉ X) : MsAt w' MS ms :=
  fun i m hm => ⟨hf.cellv (h i m hm).1 hn, hf.cellv (h i m hm).2.1 hn, hf.cellv (h i m hm).2.2 hn⟩

/-- The deferred release of the handle h. -/
def relD (T : Nat) (h : Int) : Deferred := { target := .fn (.func 50) #[], args := #[.pointer (some ⟨T, 0, none⟩), .int .i64 h] }

theorem leaves_rel {fn : Func} {tmps : Array Value} {Q : Ending → World → Prop} {T C R : Nat} {rest : List Deferred} {u : FrameMode} (hu : u ≠ .run) (hs : settle u = u) :
    ∀ (l : List Int) (t : V.Tb) (w : World), TabAt w T C R t → (∀ w', TabAt w' T C R (V.relAll t l) → Fr [T, C, R] w w' → Leaves Try.prog fn tmps Q rest u w') →
      Leaves Try.prog fn tmps Q (l.map (relD T) ++ rest) u w := by
  intro l
  induction l with
  | nil => intro t w ht h; exact h w ht (Fr.refl _ _)
  | cons x l ih =>
    intro t w ht h
    show Leaves Try.prog fn tmps Q (relD T x :: (l.map (relD T) ++ rest)) u w
    refine leaves_cons (f := 50) (args := #[.pointer (some ⟨T, 0, none⟩), .int .i64 x]) hu (by simp [go_sem]) ?_
    refine ((release_both T C R x t w ht).2 _).mono ?_
    rintro e u' w1 ⟨rfl, rfl, ht1, hf1⟩
    show Leaves Try.prog fn tmps Q (l.map (relD T) ++ rest) (settle u') w1
    rw [hs]
    exact ih (t.rel x).1 w1 ht1 (fun w' ht' hf' => h w' ht' (hf1.trans hf' (fun _ _ hh => hh)))

/-- What lies in memory while Batch runs: N, E: its results; X: the tx, TX: t; DN: done; MN: mine. -/
structure BatAt (w : World) (N E X TX DN MN MS D T C R B L : Nat) (d : V.Ld) (ms : List V.Mv) (s : V.Bst) (lg : List (Nat × Int)) (n e : Int) (b : Bool) (wr : World) : Prop where
  cn : wr.cell? ⟨N, 0, none⟩ = some (.int .i64 n)
  ce : wr.cell? ⟨E, 0, none⟩ = some (.int .i64 e)
  cx : wr.cell? ⟨X, 0, none⟩ = some (.pointer (some ⟨D, 0, none⟩))
  ct : wr.cell? ⟨TX, 0, none⟩ = some (.pointer (some ⟨X, 0, none⟩))
  cd : wr.cell? ⟨DN, 0, none⟩ = some (.bool b)
  cm : ∀ k, k < 4 → wr.cell? ⟨MN, k, none⟩ = some (.bool (s.mine.getD k false))
  fn : wr.frozen? ⟨N, 0, none⟩ = false
  fe : wr.frozen? ⟨E, 0, none⟩ = false
  fd : wr.frozen? ⟨DN, 0, none⟩ = false
  fm : ∀ o, wr.frozen? ⟨MN, o, none⟩ = false
  hb : BkAt wr D T B L s.bal lg d.und
  ht : TabAt wr T C R s.t
  hm : MsAt wr MS ms
  un : undo s.bal lg = d.bal
  sm : s.bal.length = 4 ∧ s.mine.length = 4
  fr : Fr [D, T, C, R, B, L] w wr
  ho : D < N ∧ T < N ∧ C < N ∧ R < N ∧ B < N ∧ L < N ∧ MS < N ∧ N < E ∧ E < X ∧ X < TX ∧ TX < DN ∧ DN < MN
  hw : w.heap.size ≤ N ∧ MS ∉ [D, T, C, R, B, L]

/-- The door of Batch, by a return: the locks go back, the roll-back or the commit, catch. -/
theorem bat_door {tmps : Array Value} {Q : Ending → World → Prop} {w wr : World} {N E X TX DN MN MS D T C R B L : Nat} {d : V.Ld} {ms : List V.Mv} {s : V.Bst} {lg : List (Nat × Int)} {n e : Int} {b : Bool}
    (sp : Sep D T C R B L) (h : BatAt w N E X TX DN MN MS D T C R B L d ms s lg n e b wr) (hl : lg.length ≤ 6)
    (hq : ∀ w', BkAt w' D T B L (balOf b s.bal lg) [] (unOf b lg d.und) → TabAt w' T C R (V.relAll s.t s.hs) → Fr [D, T, C, R, B, L] w w' →
      w'.cell? ⟨N, 0, none⟩ = some (.int .i64 n) → w'.cell? ⟨E, 0, none⟩ = some (.int .i64 e) → ∃ v, (results Try.f62 tmps).run Try.prog w' = .ok v w' ∧ Q (.returned v) w') :
    Leaves Try.prog Try.f62 tmps Q (s.hs.map (relD T) ++ [{ target := .fn (.func 89) #[.pointer (some ⟨DN, 0, none⟩), .pointer (some ⟨TX, 0, none⟩)], args := #[] }, { target := .fn (.func 80) #[], args := #[.pointer (some ⟨D, 0, none⟩), .pointer (some ⟨N, 0, none⟩), .pointer (some ⟨E, 0, none⟩)] }]) .returning wr := by
  have o := h.ho
  refine leaves_rel (by simp) rfl s.hs s.t wr h.ht ?_
  intro w1 t1 f1
  have b1 := h.hb.keepT sp f1
  refine leaves_cons (f := 89) (args := #[.pointer (some ⟨DN, 0, none⟩), .pointer (some ⟨TX, 0, none⟩)]) (by simp) (by simp [go_sem]) ?_
  refine (undo_deferred89 DN TX X D T B L b s.bal lg d.und w1 b1 hl (f1.cellv h.cx (by simp; omega)) (f1.cellv h.cd (by simp; omega)) (f1.cellv h.ct (by simp; omega)) _).mono ?_
  rintro e1 u w2 ⟨rfl, rfl, b2, f2⟩
  have t2 := t1.keepB sp f2
  refine leaves_cons (f := 80) (args := #[.pointer (some ⟨D, 0, none⟩), .pointer (some ⟨N, 0, none⟩), .pointer (some ⟨E, 0, none⟩)]) (by simp [settle]) (by simp [go_sem]) ?_
  refine (catch_idle D N E _).mono ?_
  rintro e1 u w3 ⟨rfl, rfl, rfl⟩
  exact hq w3 b2 t2 ((h.fr.trans f1.wide (fun _ _ hh => hh)).trans f2.wideB (fun _ _ hh => hh)) (f2.cellv (f1.cellv h.cn (by simp; omega)) (by simp; omega)) (f2.cellv (f1.cellv h.ce (by simp; omega)) (by simp; omega))

/-- The door of Batch, by step's panic. -/
theorem bat_fall {tmps : Array Value} {Q : Ending → World → Prop} {w wr : World} {N E X TX DN MN MS D T C R B L : Nat} {d : V.Ld} {ms : List V.Mv} {s : V.Bst} {lg : List (Nat × Int)} {n e i e0 : Int}
    (sp : Sep D T C R B L) (h : BatAt w N E X TX DN MN MS D T C R B L d ms s lg n e false wr) (hl : lg.length ≤ 6)
    (hq : ∀ w', BkAt w' D T B L (balOf false s.bal lg) [] (unOf false lg d.und) → TabAt w' T C R (V.relAll s.t s.hs) → Fr [D, T, C, R, B, L] w w' →
      w'.cell? ⟨N, 0, none⟩ = some (.int .i64 i) → w'.cell? ⟨E, 0, none⟩ = some (.int .i64 e0) → ∃ v, (results Try.f62 tmps).run Try.prog w' = .ok v w' ∧ Q (.returned v) w') :
    Leaves Try.prog Try.f62 tmps Q (s.hs.map (relD T) ++ [{ target := .fn (.func 89) #[.pointer (some ⟨DN, 0, none⟩), .pointer (some ⟨TX, 0, none⟩)], args := #[] }, { target := .fn (.func 80) #[], args := #[.pointer (some ⟨D, 0, none⟩), .pointer (some ⟨N, 0, none⟩), .pointer (some ⟨E, 0, none⟩)] }])
      (.panicking [{ v := .iface 131 (.agg #[.int .i64 i, .int .i64 e0]), recovered := false }]) wr := by
  have o := h.ho
  refine leaves_rel (by simp) rfl s.hs s.t wr h.ht ?_
  intro w1 t1 f1
  have b1 := h.hb.keepT sp f1
  refine leaves_cons (f := 89) (args := #[.pointer (some ⟨DN, 0, none⟩), .pointer (some ⟨TX, 0, none⟩)]) (by simp) (by simp [go_sem]) ?_
  refine (undo_deferred89 DN TX X D T B L false s.bal lg d.und w1 b1 hl (f1.cellv h.cx (by simp; omega)) (f1.cellv h.cd (by simp; omega)) (f1.cellv h.ct (by simp; omega)) _).mono ?_
  rintro e1 u w2 ⟨rfl, rfl, b2, f2⟩
  have t2 := t1.keepB sp f2
  have c2n := f2.cellv (f1.cellv h.cn (by simp; omega)) (by simp; omega)
  have c2e := f2.cellv (f1.cellv h.ce (by simp; omega)) (by simp; omega)
  have f2n : w2.frozen? ⟨N, 0, none⟩ = false := (f2.frz _ _ (Nat.lt_of_lt_of_le (lt_of_cell h.cn) f1.size)).trans ((f1.frz _ _ (lt_of_cell h.cn)).trans h.fn)
  have f2e : w2.frozen? ⟨E, 0, none⟩ = false := (f2.frz _ _ (Nat.lt_of_lt_of_le (lt_of_cell h.ce) f1.size)).trans ((f1.frz _ _ (lt_of_cell h.ce)).trans h.fe)
  refine leaves_cons (f := 80) (args := #[.pointer (some ⟨D, 0, none⟩), .pointer (some ⟨N, 0, none⟩), .pointer (some ⟨E, 0, none⟩)]) (by simp [settle]) (by simp [go_sem]) ?_
  refine (catch_abort D N E i e0 n e [] w2 c2n c2e f2n f2e (by omega)).mono ?_
  rintro e1 u w3 ⟨rfl, rfl, c3n, c3e, f3⟩
  refine hq w3 (b2.keep f3 (by simp; omega) (by simp; omega) (by simp; omega)) (t2.keep f3 (by simp; omega) (by simp; omega) (by simp; omega)) ?_ c3n c3e
  exact ((h.fr.trans f1.wide (fun _ _ hh => hh)).trans f2.wideB (fun _ _ hh => hh)).trans f3 (fun x hx hm => by have := h.hw.1; simp at hm; omega)

end Go.Proofs.Qxb6500360a
