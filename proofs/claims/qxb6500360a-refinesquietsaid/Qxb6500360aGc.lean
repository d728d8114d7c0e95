/-
  L3: the real gate: what a decoded command is; Serve.
-/
import Derived.Test.Qxb6500360aGb
namespace Go.Proofs.Qxb6500360a
open Go.RowKit
set_option linter.unusedSimpArgs false
set_option linter.unusedVariables false

/-! ### the decoder, plainly -/
theorem dig_bd {s : List UInt8} {p : Nat} (h : V.isDig s p = true) : p < s.length ∧ 0 ≤ V.digV s p ∧ V.digV s p < 10 := by
  unfold V.isDig at h
  simp at h
  unfold V.digV
  rw [List.getD_eq_getElem?_getD]
  omega
theorem pNum_bd' {s : List UInt8} {p : Nat} (hp : p ≤ s.length) : (∀ q, V.pNum s p = .error q → q ≤ s.length) ∧ (∀ r, V.pNum s p = .ok r → r.2 ≤ s.length) := by
  unfold V.pNum
  by_cases h0 : V.isDig s p = true
  · rw [if_pos h0]
    have := dig_bd h0
    by_cases h1 : V.isDig s (p + 1) = true
    · rw [if_pos h1]
      have := dig_bd h1
      by_cases h2 : V.isDig s (p + 2) = true
      · rw [if_pos h2]
        have := dig_bd h2
        exact ⟨fun q hq => (by cases hq), fun r hr => by cases hr; dsimp only; omega⟩
      · rw [if_neg h2]
        exact ⟨fun q hq => (by cases hq), fun r hr => by cases hr; dsimp only; omega⟩
    · rw [if_neg h1]
      exact ⟨fun q hq => (by cases hq), fun r hr => by cases hr; dsimp only; omega⟩
  · rw [if_neg h0]
    exact ⟨fun q hq => (by cases hq; omega), fun r hr => by cases hr⟩
theorem pMove_bd {s : List UInt8} {p : Nat} (hp : p ≤ s.length) : (∀ q, V.pMove s p = .error q → q ≤ s.length) ∧ (∀ r, V.pMove s p = .ok r → r.2 ≤ s.length ∧ (0 ≤ r.1.f ∧ r.1.f < 10) ∧ 0 ≤ r.1.t) := by
  unfold V.pMove
  by_cases h0 : V.isDig s p = true
  · rw [if_pos h0]
    have d0 := dig_bd h0
    by_cases h1 : V.isDig s (p + 1) = true
    · rw [if_pos h1]
      have d1 := dig_bd h1
      have hn := pNum_bd' (s := s) (p := p + 2) (by omega)
      cases hx : V.pNum s (p + 2) with
      | error e => exact ⟨fun q hq => (by cases hq; exact hn.1 _ hx), fun r hr => by cases hr⟩
      | ok r0 => exact ⟨fun q hq => (by cases hq), fun r hr => by cases hr; exact ⟨hn.2 _ hx, ⟨d0.2.1, d0.2.2⟩, d1.2.1⟩⟩
    · rw [if_neg h1]
      exact ⟨fun q hq => (by cases hq; omega), fun r hr => by cases hr⟩
  · rw [if_neg h0]
    exact ⟨fun q hq => (by cases hq; omega), fun r hr => by cases hr⟩
theorem pMust_bd {s : List UInt8} {b : UInt8} {p : Nat} (hp : p ≤ s.length) : (∀ q, V.pMust s b p = .error q → q ≤ s.length) ∧ (∀ r, V.pMust s b p = .ok r → r ≤ s.length) := by
  unfold V.pMust
  split
  · rename_i h
    simp at h
    exact ⟨fun q hq => (by cases hq), fun r hr => by cases hr; omega⟩
  · exact ⟨fun q hq => (by cases hq; omega), fun r hr => by cases hr⟩
theorem pMoves_bd {s : List UInt8} : ∀ (f p : Nat) (ms : List V.Mv), p ≤ s.length → ∀ q, V.pMoves s f p ms = .error q → q ≤ s.length
  | 0, p, ms, hp, q, h => by unfold V.pMoves at h; cases h; omega
  | f + 1, p, ms, hp, q, h => by
    unfold V.pMoves at h
    have hm := pMove_bd (s := s) hp
    cases hx : V.pMove s p with
    | error e => rw [hx] at h; cases h; exact hm.1 _ hx
    | ok r =>
      rw [hx] at h
      dsimp only at h
      have hr := (hm.2 _ hx).1
      have hu := pMust_bd (s := s) (b := 59) hr
      cases hy : V.pMust s 59 r.2 with
      | error e => rw [hy] at h; cases h; exact hu.1 _ hy
      | ok r2 =>
        rw [hy] at h
        dsimp only at h
        split at h
        · exact pMoves_bd f r2 _ (hu.2 _ hy) q h
        · cases h
theorem pEnd_err {s : List UInt8} {p q : Nat} {c : V.Cmd} (hp : p ≤ s.length) (h : V.pEnd s p c = .error q) : q ≤ s.length := by
  unfold V.pEnd at h
  split at h
  · cases h; omega
  · cases h
theorem pEnd_ok {s : List UInt8} {p : Nat} {c c' : V.Cmd} (h : V.pEnd s p c = .ok c') : c' = c := by
  unfold V.pEnd at h
  split at h
  · cases h
  · cases h; rfl
/-- The verb, and what its digits are. -/
structure CmdOk (c : V.Cmd) : Prop where
  v : c.verb = 65 ∨ c.verb = 66 ∨ c.verb = 78 ∨ c.verb = 83 ∨ c.verb = 84 ∨ c.verb = 88
  f0 : 0 ≤ c.m.f
  f1 : c.m.f < 10
  t0 : 0 ≤ c.m.t
theorem decode_bd (s : List UInt8) : (∀ q, V.decode s = .error q → q ≤ s.length) ∧ (∀ c, V.decode s = .ok c → CmdOk c) := by
  cases s with
  | nil => exact ⟨fun q h => (by cases h; simp), fun c h => by cases h⟩
  | cons v t =>
    unfold V.decode
    dsimp only
    have l1 : 1 ≤ (v :: t).length := by simp
    generalize (v :: t) = s at *
    split
    · rename_i hv
      exact ⟨fun q h => pEnd_err l1 h, fun c h => by cases pEnd_ok h; exact ⟨.inl hv, by dsimp only; omega, by dsimp only; omega, by dsimp only; omega⟩⟩
    · split
      · rename_i hv
        split
        · rename_i hd
          have d := dig_bd hd
          exact ⟨fun q h => pEnd_err (by omega) h, fun c h => by cases pEnd_ok h; exact ⟨by rcases hv with hv | hv <;> simp [hv], d.2.1, d.2.2, by dsimp only; omega⟩⟩
        · exact ⟨fun q h => (by cases h; omega), fun c h => by cases h⟩
      · split
        · rename_i hv
          split
          · rename_i hd
            have d := dig_bd hd
            split
            · rename_i hd2
              have d2 := dig_bd hd2
              exact ⟨fun q h => pEnd_err (by omega) h, fun c h => by cases pEnd_ok h; exact ⟨by simp [hv], d.2.1, d.2.2, d2.2.1⟩⟩
            · exact ⟨fun q h => (by cases h; omega), fun c h => by cases h⟩
          · exact ⟨fun q h => (by cases h; omega), fun c h => by cases h⟩
        · split
          · rename_i hv
            have hm := pMove_bd (s := s) l1
            cases hx : V.pMove s 1 with
            | error e => exact ⟨fun q h => (by cases h; exact hm.1 _ hx), fun c h => by cases h⟩
            | ok r =>
              obtain ⟨a, b, c1⟩ := hm.2 _ hx
              exact ⟨fun q h => pEnd_err a h, fun c h => by cases pEnd_ok h; exact ⟨by simp [hv], b.1, b.2, c1⟩⟩
          · split
            · rename_i hv
              cases hx : V.pMoves s s.length 1 [] with
              | error e => exact ⟨fun q h => (by cases h; exact pMoves_bd _ _ _ l1 _ hx), fun c h => by cases h⟩
              | ok ms => exact ⟨fun q h => (by cases h), fun c h => by cases h; exact ⟨by simp [hv], by dsimp only; omega, by dsimp only; omega, by dsimp only; omega⟩⟩
            · exact ⟨fun q h => (by cases h; omega), fun c h => by cases h⟩

/-! ### run -/
theorem run_calls (G D T C R B L : Nat) (d : V.Ld) (c : V.Cmd) (hc : CmdOk c) (sv : Value) (hsv : ∃ o l k, sv = .slice o l k) (w : World) (h : LdAt w D T C R B L d) (cG : w.cell? ⟨G, 0, none⟩ = some (.pointer (some ⟨D, 0, none⟩))) (hG : G ∉ [D, T, C, R, B, L])
    (hx : c.verb = 88 → ∃ g cap, sv = .slice (some ⟨g, 0, none⟩) c.ms.length cap ∧ MsAt w g c.ms ∧ g < w.heap.size ∧ g ∉ [D, T, C, R, B, L] ∧ c.ms.length ≤ 20) :
    Calls Try.prog 34 #[.pointer (some ⟨G, 0, none⟩), cmdV c sv] w (RunOut w D T C R B L (V.run d c)) := by
  obtain ⟨v, m, ms⟩ := c
  obtain ⟨hv, f0, f1, t0⟩ := hc
  dsimp only at *
  rcases hv with rfl | rfl | rfl | rfl | rfl | rfl
  · exact run_A G D T C R B L d m ms sv hsv w h cG hG
  · exact run_B G D T C R B L d m ms sv hsv w h cG hG
  · by_cases h4 : m.f < 4
    · exact run_Ny G D T C R B L d m ms sv hsv w h cG hG f0 h4
    · exact run_Nn G D T C R B L d m ms sv hsv w h cG hG (by omega) f1
  · by_cases he : (d.t.clear.acq m.f).2.2 = 0
    · by_cases hz : m.t = 0
      · exact run_Sz G D T C R B L d m ms sv hsv w h cG hG hz he
      · exact run_So G D T C R B L d m ms sv hsv w h cG hG (by omega) he
    · exact run_Se G D T C R B L d m ms sv hsv w h cG hG t0 he
  · exact run_T G D T C R B L d m ms sv hsv w h cG hG
  · obtain ⟨g, cap, rfl, hm, hl, hn, h20⟩ := hx rfl
    by_cases h3 : ms.length ≤ 3
    · exact run_Xr G D T C R B L d m ms _ trivial w h cG hG h3 g ⟨cap, rfl⟩ hm hl hn
    · exact run_Xl G D T C R B L d m ms _ trivial w h cG hG (by omega) h20 g ⟨cap, rfl⟩

/-! ### Serve -/
theorem msAt_lt {w : World} {g : Nat} {ms : List V.Mv} (h : MsAt w g ms) (hl : 0 < ms.length) : g < w.heap.size :=
  lt_of_cell (h 0 _ (List.getElem?_eq_getElem hl)).1
theorem settle_rec (v : Value) (older : List PanicEntry) (ho : ∀ p ∈ older, p.goexit = false) : settle (.panicking ({ v := v, recovered := true } :: older)) = .returning := by
  have h : List.dropWhile (fun x => !x.goexit) older = [] := by induction older with
    | nil => rfl
    | cons p ps ih => simp [List.dropWhile, ho p (by simp)]; exact ih (fun q hq => ho q (by simp [hq]))
  simp [settle, h]
/-- The gate g lies at G. -/
structure GtAt (w : World) (G D T C R B L : Nat) (g : V.Gt) : Prop where
  ct : CtAt w G D g.c
  ld : LdAt w D T C R B L g.d
  nG : G ∉ [D, T, C, R, B, L]

abbrev LL (s : ByteArray) : List UInt8 := L s

/-- What Serve leaves. -/
def ServeOut (w : World) (G D T C R B L : Nat) (r : V.Gt × List UInt8 × Int) (e : Ending) (w' : World) : Prop :=
  e = .returned (.tuple #[S r.2.1, .int .i64 r.2.2]) ∧ GtAt w' G D T C R B L r.1 ∧ Fr [G, D, T, C, R, B, L] w w'

theorem LL_len (s : ByteArray) : (LL s).length = s.size := by show s.data.toList.length = s.data.size; simp

set_option maxHeartbeats 1000000 in
set_option maxRecDepth 100000 in
theorem serve_long (G D T C R B L : Nat) (g : V.Gt) (s : ByteArray) (w : World) (h : GtAt w G D T C R B L g) (hl : 20 < s.size) (hm : s.size < 1000000) :
    Calls Try.prog 19 #[.pointer (some ⟨G, 0, none⟩), .string s] w (ServeOut w G D T C R B L (g.serve (LL s))) := by
  have hs : ¬ (LL s).length ≤ 20 := by rw [LL_len]; omega
  have hr : g.serve (LL s) = (⟨g.c.count 1, g.d⟩, [], 1) := by simp only [V.Gt.serve, V.answer, if_neg hs]
  rw [hr]
  clear hr hs
  have HH : Hid (GtAt w G D T C R B L g) := h
  have lG := h.ct.lG
  have hli : (20 : Int) < (s.size : Int) := by omega
  clear h hl
  go_enter_defers Try.func19, Try.ntmps19
  go_wp2_with fail
  have HF : Hid (Fr [] w (((w.alloc (Obj.cells #[.pointer (some ⟨G, 0, none⟩)] 32)).alloc (Obj.cells #[.string ⟨#[]⟩] 9)).alloc (Obj.cells #[.int .i64 1] 34))) := (((Fr.refl _ _).alloc _).alloc _).alloc _
  have k0 : (((w.alloc (Obj.cells #[.pointer (some ⟨G, 0, none⟩)] 32)).alloc (Obj.cells #[.string ⟨#[]⟩] 9)).alloc (Obj.cells #[.int .i64 1] 34)).cell? ⟨w.heap.size, 0, none⟩ = some (.pointer (some ⟨G, 0, none⟩)) := by simp [go_sem]
  have k1 : (((w.alloc (Obj.cells #[.pointer (some ⟨G, 0, none⟩)] 32)).alloc (Obj.cells #[.string ⟨#[]⟩] 9)).alloc (Obj.cells #[.int .i64 1] 34)).cell? ⟨w.heap.size + 1, 0, none⟩ = some (S []) := by simp [go_sem]; rfl
  have k2 : (((w.alloc (Obj.cells #[.pointer (some ⟨G, 0, none⟩)] 32)).alloc (Obj.cells #[.string ⟨#[]⟩] 9)).alloc (Obj.cells #[.int .i64 1] 34)).cell? ⟨w.heap.size + 1 + 1, 0, none⟩ = some (.int .i64 1) := by simp [go_sem]
  generalize (((w.alloc (Obj.cells #[.pointer (some ⟨G, 0, none⟩)] 32)).alloc (Obj.cells #[.string ⟨#[]⟩] 9)).alloc (Obj.cells #[.int .i64 1] 34)) = W at *
  refine leaves_cons (f := 29) (args := #[.pointer (some ⟨w.heap.size, 0, none⟩), .pointer (some ⟨w.heap.size + 1 + 1, 0, none⟩)]) (by simp) (by simp [go_sem]) ?_
  refine (count_deferred _ _ G D 1 g.c W (HH.out.ct.keep HF.out (by simp)) k0 k2 _).mono ?_
  rintro e u w3 ⟨rfl, rfl, hc3, hf3⟩
  have e0 : w3.cell? ⟨w.heap.size + 1, 0, none⟩ = some (S []) := hf3.cellv k1 (by simp; omega)
  have e1 : w3.cell? ⟨w.heap.size + 1 + 1, 0, none⟩ = some (.int .i64 1) := hf3.cellv k2 (by simp; omega)
  exact ⟨.tuple #[S [], .int .i64 1], by simp [results, Try.results19, go_sem, e0, e1], rfl,
    ⟨hc3, (HH.out.ld.keep HF.out (by simp)).keep hf3 (by have := HH.out.nG; simp at this ⊢; omega), HH.out.nG⟩, (HF.out.mono (by simp)).trans hf3 (fun x _ h => by simp at h ⊢; exact .inl h)⟩

set_option maxHeartbeats 1000000 in
set_option maxRecDepth 100000 in
theorem serve_short (G D T C R B L : Nat) (g : V.Gt) (s : ByteArray) (w : World) (h : GtAt w G D T C R B L g) (hl : s.size ≤ 20) :
    Calls Try.prog 19 #[.pointer (some ⟨G, 0, none⟩), .string s] w (ServeOut w G D T C R B L (g.serve (LL s))) := by
  have HH : Hid (GtAt w G D T C R B L g) := h
  have lG := h.ct.lG
  have hli : ¬ (20 : Int) < (s.size : Int) := by omega
  clear h
  go_enter_defers Try.func19, Try.ntmps19
  go_wp2_with fail
  have HF : Hid (Fr [] w (((w.alloc (Obj.cells #[.pointer (some ⟨G, 0, none⟩)] 32)).alloc (Obj.cells #[.string ⟨#[]⟩] 9)).alloc (Obj.cells #[.int .i64 0] 34))) := (((Fr.refl _ _).alloc _).alloc _).alloc _
  have k0 : (((w.alloc (Obj.cells #[.pointer (some ⟨G, 0, none⟩)] 32)).alloc (Obj.cells #[.string ⟨#[]⟩] 9)).alloc (Obj.cells #[.int .i64 0] 34)).cell? ⟨w.heap.size, 0, none⟩ = some (.pointer (some ⟨G, 0, none⟩)) := by simp [go_sem]
  have k1 : (((w.alloc (Obj.cells #[.pointer (some ⟨G, 0, none⟩)] 32)).alloc (Obj.cells #[.string ⟨#[]⟩] 9)).alloc (Obj.cells #[.int .i64 0] 34)).cell? ⟨w.heap.size + 1, 0, none⟩ = some (.string ⟨#[]⟩) := by simp [go_sem]
  have k2 : (((w.alloc (Obj.cells #[.pointer (some ⟨G, 0, none⟩)] 32)).alloc (Obj.cells #[.string ⟨#[]⟩] 9)).alloc (Obj.cells #[.int .i64 0] 34)).cell? ⟨w.heap.size + 1 + 1, 0, none⟩ = some (.int .i64 0) := by simp [go_sem]
  have f1 : (((w.alloc (Obj.cells #[.pointer (some ⟨G, 0, none⟩)] 32)).alloc (Obj.cells #[.string ⟨#[]⟩] 9)).alloc (Obj.cells #[.int .i64 0] 34)).frozen? ⟨w.heap.size + 1, 0, none⟩ = false := by simp [go_sem]
  have f2 : (((w.alloc (Obj.cells #[.pointer (some ⟨G, 0, none⟩)] 32)).alloc (Obj.cells #[.string ⟨#[]⟩] 9)).alloc (Obj.cells #[.int .i64 0] 34)).frozen? ⟨w.heap.size + 1 + 1, 0, none⟩ = false := by simp [go_sem]
  generalize (((w.alloc (Obj.cells #[.pointer (some ⟨G, 0, none⟩)] 32)).alloc (Obj.cells #[.string ⟨#[]⟩] 9)).alloc (Obj.cells #[.int .i64 0] 34)) = W at *
  have HO : Hid (w.heap.size + 1 + 1 < W.heap.size) := lt_of_cell k2
  generalize hP : w.heap.size = P at *
  have nAE : ¬ P + 1 = P + 1 + 1 := by omega
  have nEA : ¬ P + 1 + 1 = P + 1 := by omega
  refine (decode_calls s _ hl).mono ?_
  intro e w1 hd
  have hbd := decode_bd (LL s)
  cases hdec : V.decode (LL s) with
  | error q =>
    rw [hdec] at hd hbd
    obtain ⟨rfl, fd⟩ := hd
    have hq : q ≤ 20 := by have := hbd.1 q rfl; rw [LL_len] at this; omega
    have j0 := fd.cellv k0 (by simp)
    have j1 := fd.cellv k1 (by simp)
    have j2 := fd.cellv k2 (by simp)
    have g1 := fd.frozenv f1 (lt_of_cell k1) (by simp)
    have g2 := fd.frozenv f2 (lt_of_cell k2) (by simp)
    have HF1 : Hid (Fr [] w w1) := HF.out.trans fd (by simp)
    clear fd k0 k1 k2 f1 f2 hbd
    refine leaves_cons (f := 31) (args := #[.pointer (some ⟨P + 1, 0, none⟩), .pointer (some ⟨P + 1 + 1, 0, none⟩)]) (by simp) (by simp [go_sem]) ?_
    refine (rescue_syntax _ _ q _ _ [] w1 j1 j2 g1 g2 nAE hq).mono ?_
    rintro e u w2 ⟨rfl, rfl, c1, c2, fr2⟩
    have HF2 : Hid (Fr [] w w2) := HF1.out.trans fr2 (fun x hx hm => by simp at hm; omega)
    have j02 := fr2.cellv j0 (by simp; omega)
    refine leaves_cons (f := 29) (args := #[.pointer (some ⟨P, 0, none⟩), .pointer (some ⟨P + 1 + 1, 0, none⟩)]) (by simp [settle]) (by simp [go_sem]) ?_
    refine (count_deferred _ _ G D 8 g.c w2 (HH.out.ct.keep HF2.out (by simp)) j02 c2 _).mono ?_
    rintro e u w3 ⟨rfl, rfl, hc3, hf3⟩
    have e0 := hf3.cellv c1 (by simp; omega)
    have e1 := hf3.cellv c2 (by simp; omega)
    have hr : g.serve (LL s) = (⟨g.c.count 8, g.d⟩, [64] ++ V.itoa q, 8) := by simp only [V.Gt.serve, V.answer, hdec, if_pos (show (LL s).length ≤ 20 by rw [LL_len]; omega)]
    rw [hr]
    exact ⟨.tuple #[S ([64] ++ V.itoa q), .int .i64 8], by simp [results, Try.results19, go_sem, e0, e1], rfl,
      ⟨hc3, (HH.out.ld.keep HF2.out (by simp)).keep hf3 (by have := HH.out.nG; simp at this ⊢; omega), HH.out.nG⟩, (HF2.out.mono (by simp)).trans hf3 (fun x _ h => by simp at h ⊢; exact .inl h)⟩
  | ok c =>
    rw [hdec] at hd hbd
    obtain ⟨sv, rfl, hsv, hx, fd⟩ := hd
    have hc := hbd.2 c rfl
    have j0 := fd.cellv k0 (by simp)
    have j1 := fd.cellv k1 (by simp)
    have j2 := fd.cellv k2 (by simp)
    have g1 := fd.frozenv f1 (lt_of_cell k1) (by simp)
    have g2 := fd.frozenv f2 (lt_of_cell k2) (by simp)
    have HF1 : Hid (Fr [] w w1) := HF.out.trans fd (by simp)
    have HS : Hid (W.heap.size ≤ w1.heap.size) := fd.size
    have HX : Hid (c.verb = 88 → ∃ g cap, sv = .slice (some ⟨g, 0, none⟩) c.ms.length cap ∧ W.heap.size ≤ g ∧ MsAt w1 g c.ms ∧ 0 < c.ms.length ∧ c.ms.length ≤ 20) := hx
    have HC : Hid (CmdOk c) := hc
    have HD : Hid (V.decode (LL s) = .ok c) := hdec
    clear fd k0 k1 k2 f1 f2 hbd hx hc hdec HF
    obtain ⟨so, sl, sc, rfl⟩ := hsv
    have l0 := lt_of_cell j0
    have l1 := lt_of_cell j1
    have l2 := lt_of_cell j2
    have n0 : ¬ P = w1.heap.size := by omega
    have n1 : ¬ P + 1 = w1.heap.size := by omega
    have n2 : ¬ P + 1 + 1 = w1.heap.size := by omega
    go_wp2_with fail
    have lD := HH.out.ld.bk.lD
    have lB := HH.out.ld.bk.lB
    have lL := HH.out.ld.bk.lL
    have lT := HH.out.ld.tb.lT
    have lC := HH.out.ld.tb.lC
    have lR := HH.out.ld.tb.lR
    have HFB : Hid (Fr [] w1 (w1.alloc (Obj.cells #[.int .u8 c.verb.toNat, .int .i64 c.m.f, .int .i64 c.m.t, .int .i64 c.m.a, .slice so sl sc] 59))) := (Fr.refl _ _).alloc _
    generalize w1.alloc (Obj.cells #[.int .u8 c.verb.toNat, .int .i64 c.m.f, .int .i64 c.m.t, .int .i64 c.m.a, .slice so sl sc] 59) = W2 at *
    have HF2 : Hid (Fr [] w W2) := HF1.out.trans HFB.out (by simp)
    replace j0 := HFB.out.cellv j0 (by simp)
    replace j1 := HFB.out.cellv j1 (by simp)
    replace j2 := HFB.out.cellv j2 (by simp)
    replace g1 := HFB.out.frozenv g1 l1 (by simp)
    replace g2 := HFB.out.frozenv g2 l2 (by simp)
    have q0 := lt_of_cell j0
    have q1 := lt_of_cell j1
    have q2 := lt_of_cell j2
    refine (run_calls G D T C R B L g.d c HC.out (.slice so sl sc) ⟨so, sl, sc, rfl⟩ W2 (HH.out.ld.keep HF2.out (by simp)) (HH.out.ct.keep HF2.out (by simp)).c0 HH.out.nG (fun hv => by
      obtain ⟨gg, cap, a1, a2, a3, a4, a5⟩ := HX.out hv
      have o1 := HO.out
      have : gg < w1.heap.size := msAt_lt a3 a4
      exact ⟨gg, cap, a1, a3.keep HFB.out (by simp), Nat.lt_of_lt_of_le this HFB.out.size, by simp; omega, a5⟩)).mono ?_
    intro e w3 hr
    obtain ⟨he, hld, hf3⟩ := hr
    have HF3 : Hid (Fr [D, T, C, R, B, L] w w3) := (HF2.out.mono (by simp)).trans hf3 (fun _ _ h => h)
    have HL3 : Hid (LdAt w3 D T C R B L (V.run g.d c).1) := hld
    have nP : P ∉ [D, T, C, R, B, L] := by simp; omega
    have nP1 : P + 1 ∉ [D, T, C, R, B, L] := by simp; omega
    have nP2 : P + 1 + 1 ∉ [D, T, C, R, B, L] := by simp; omega
    replace j0 := hf3.cellv j0 nP
    replace j1 := hf3.cellv j1 nP1
    replace j2 := hf3.cellv j2 nP2
    replace g1 := hf3.frozenv g1 q1 nP1
    replace g2 := hf3.frozenv g2 q2 nP2
    have HC3 : Hid (CtAt w3 G D g.c) := (HH.out.ct.keep HF2.out (by simp)).keep hf3 HH.out.nG
    clear hld hf3 q0 q1 q2 l0 l1 l2 n0 n1 n2 HX HS HFB HF1 nP nP1 nP2
    have hlen : (LL s).length ≤ 20 := by rw [LL_len]; omega
    cases hrun : (V.run g.d c).2 with
    | some a =>
      rw [hrun] at he
      dsimp only at he
      subst he
      have hr : g.serve (LL s) = (⟨g.c.count a.2, (V.run g.d c).1⟩, a.1, a.2) := by simp only [V.Gt.serve, V.answer, HD.out, hrun, if_pos hlen]
      have HR : Hid (g.serve (LL s) = (⟨g.c.count a.2, (V.run g.d c).1⟩, a.1, a.2)) := hr
      clear hr hrun hlen
      unfold S
      go_wp2_with fail
      rw [HR.out]
      have FW : Hid (Fr [P + 1, P + 1 + 1] w3 ((w3.setCell ⟨P + 1, 0, none⟩ (.string ⟨a.1.toArray⟩)).setCell ⟨P + 1 + 1, 0, none⟩ (.int .i64 a.2))) := ((Fr.refl _ _).setCell (by simp) _).setCell (by simp) _
      have c1 : ((w3.setCell ⟨P + 1, 0, none⟩ (.string ⟨a.1.toArray⟩)).setCell ⟨P + 1 + 1, 0, none⟩ (.int .i64 a.2)).cell? ⟨P + 1, 0, none⟩ = some (S a.1) := by simp [cell_set, j1, j2]; rfl
      have c2 : ((w3.setCell ⟨P + 1, 0, none⟩ (.string ⟨a.1.toArray⟩)).setCell ⟨P + 1 + 1, 0, none⟩ (.int .i64 a.2)).cell? ⟨P + 1 + 1, 0, none⟩ = some (.int .i64 a.2) := by simp [cell_set, j1, j2]
      generalize ((w3.setCell ⟨P + 1, 0, none⟩ (.string ⟨a.1.toArray⟩)).setCell ⟨P + 1 + 1, 0, none⟩ (.int .i64 a.2)) = w4 at *
      refine leaves_cons (f := 31) (args := #[.pointer (some ⟨P + 1, 0, none⟩), .pointer (some ⟨P + 1 + 1, 0, none⟩)]) (by simp) (by simp [go_sem]) ?_
      refine (rescue_idle _ _ w4).mono ?_
      rintro e u w4' ⟨rfl, rfl, rfl⟩
      have HF4 : Hid (Fr [D, T, C, R, B, L] w w4') := HF3.out.trans FW.out (fun x hx hm => by simp at hm; omega)
      have j02 := FW.out.cellv j0 (by simp; omega)
      refine leaves_cons (f := 29) (args := #[.pointer (some ⟨P, 0, none⟩), .pointer (some ⟨P + 1 + 1, 0, none⟩)]) (by simp [settle]) (by simp [go_sem]) ?_
      refine (count_deferred _ _ G D a.2 g.c w4' (HC3.out.keep FW.out (by simp; omega)) j02 c2 _).mono ?_
      rintro e u w5 ⟨rfl, rfl, hc5, hf5⟩
      have e0 := hf5.cellv c1 (by simp; omega)
      have e1 := hf5.cellv c2 (by simp; omega)
      exact ⟨.tuple #[S a.1, .int .i64 a.2], by simp [results, Try.results19, go_sem, e0, e1], rfl,
        ⟨hc5, (HL3.out.keep FW.out (by simp; omega)).keep hf5 (by have := HH.out.nG; simp at this ⊢; omega), HH.out.nG⟩, (HF4.out.mono (fun x _ h => by simp at h ⊢; omega)).trans hf5 (fun x _ h => by simp at h ⊢; exact .inl h)⟩
    | none =>
      rw [hrun] at he
      dsimp only at he
      obtain ⟨tt, y, older, rfl, ht, ho⟩ := he
      have hr : g.serve (LL s) = (⟨g.c.count 9, (V.run g.d c).1⟩, [], 9) := by simp only [V.Gt.serve, V.answer, HD.out, hrun, if_pos hlen]
      rw [hr]
      clear hr hrun hlen
      refine leaves_cons (f := 31) (args := #[.pointer (some ⟨P + 1, 0, none⟩), .pointer (some ⟨P + 1 + 1, 0, none⟩)]) (by simp) (by simp [go_sem]) ?_
      refine (rescue_other _ _ tt y ht _ _ older w3 j1 j2 g1 g2 nAE).mono ?_
      rintro e u w4 ⟨rfl, rfl, c1, c2, fr2⟩
      have HF4 : Hid (Fr [D, T, C, R, B, L] w w4) := HF3.out.trans fr2 (fun x hx hm => by simp at hm; omega)
      have j02 := fr2.cellv j0 (by simp; omega)
      dsimp only
      rw [settle_rec _ _ ho]
      refine leaves_cons (f := 29) (args := #[.pointer (some ⟨P, 0, none⟩), .pointer (some ⟨P + 1 + 1, 0, none⟩)]) (by simp [settle]) (by simp [go_sem]) ?_
      refine (count_deferred _ _ G D 9 g.c w4 (HC3.out.keep fr2 (by simp; omega)) j02 c2 _).mono ?_
      rintro e u w5 ⟨rfl, rfl, hc5, hf5⟩
      have e0 := hf5.cellv c1 (by simp; omega)
      have e1 := hf5.cellv c2 (by simp; omega)
      exact ⟨.tuple #[S [], .int .i64 9], by simp [results, Try.results19, go_sem, e0, e1], rfl,
        ⟨hc5, (HL3.out.keep fr2 (by simp; omega)).keep hf5 (by have := HH.out.nG; simp at this ⊢; omega), HH.out.nG⟩, (HF4.out.mono (fun x _ h => by simp at h ⊢; omega)).trans hf5 (fun x _ h => by simp at h ⊢; exact .inl h)⟩

theorem serve_calls (G D T C R B L : Nat) (g : V.Gt) (s : ByteArray) (w : World) (h : GtAt w G D T C R B L g) (hm : s.size < 1000000) :
    Calls Try.prog 19 #[.pointer (some ⟨G, 0, none⟩), .string s] w (ServeOut w G D T C R B L (g.serve (LL s))) := by
  by_cases hl : s.size ≤ 20
  · exact serve_short G D T C R B L g s w h hl
  · exact serve_long G D T C R B L g s w h (by omega) hm

end Go.Proofs.Qxb6500360a
