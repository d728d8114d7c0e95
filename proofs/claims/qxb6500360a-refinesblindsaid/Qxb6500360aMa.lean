/-
  L1, abstract: the model's table of locks: its walks.
-/
import Derived.Test.Qxb6500360aLk
import Derived.Test.Qxb6500360aIt
import Derived.Test.Qxb6500360aLs
namespace Go.Proofs.Qxb6500360a
open Go.RowKit
set_option linter.unusedSimpArgs false
set_option linter.unusedVariables false

/-- The table t lies in the one block M. -/
structure MTabAt (w : World) (M : Nat) (t : V.Tb) : Prop where
  co : ∀ k, k < 4 → w.cell? ⟨M, k, none⟩ = some (.bool (t.o k))
  cg : ∀ k, k < 4 → w.cell? ⟨M, 4 + k, none⟩ = some (.int .i64 (t.g k))
  ct : w.cell? ⟨M, 8, none⟩ = some (S t.tr)
  fM : ∀ o, w.frozen? ⟨M, o, none⟩ = false
  wf : t.Wf
theorem MTabAt.lM {w : World} {M : Nat} {t : V.Tb} (h : MTabAt w M t) : M < w.heap.size := lt_of_cell h.ct
theorem MTabAt.keep {w w' : World} {M : Nat} {t : V.Tb} (h : MTabAt w M t) {B : List Nat} (hf : Fr B w w') (hM : M ∉ B) : MTabAt w' M t :=
  ⟨fun k hk => (hf.cell h.lM hM _).trans (h.co k hk), fun k hk => (hf.cell h.lM hM _).trans (h.cg k hk), (hf.cell h.lM hM _).trans h.ct, fun o => (hf.frozen h.lM hM o).trans (h.fM o), h.wf⟩

theorem bytes_app (a b : List UInt8) : (⟨a.toArray⟩ : ByteArray) ++ ⟨b.toArray⟩ = ⟨(a ++ b).toArray⟩ := by
  apply ByteArray.ext
  simp
theorem conv2 (W : World) (b : Nat) (c : UInt8) (k : Nat) (hk : k < 10) (h0 : W.cell? ⟨b, 0, none⟩ = some (.int .u8 c.toNat)) (h1 : W.cell? ⟨b, 1, none⟩ = some (.int .u8 (48 + (k : Int)))) :
    (convert 84 9 (.slice (some ⟨b, 0, none⟩) 2 2)).run Try.prog W = .ok (S [c, V.dg k]) W := by
  refine run_convert_bytes_back _ 84 9 5 ⟨b, 0, none⟩ 2 [c, V.dg k] Try.underlying84 Try.underlying5 Try.underlying9 ?_
  intro j hj
  simp at hj
  have hd := dg_toNat k hk
  rcases (show j = 0 ∨ j = 1 by omega) with rfl | rfl
  · simp [Addr.add, h0]
  · simp [Addr.add, h1, hd]

theorem mnote_eff {w : World} {M k : Nat} {c : UInt8} {t : V.Tb} (h : MTabAt w M t) (hn : t.tr.length < 24) (hk : k < 4) :
    MTabAt (w.setCell ⟨M, 8, none⟩ (S (t.tr ++ [c, V.dg k]))) M (t.note c k) := by
  have wf := V.Tb.note_wf h.wf c k
  have e : t.note c k = { t with tr := t.tr ++ [c, V.dg k] } := by simp [V.Tb.note, hn]
  rw [e] at wf ⊢
  refine ⟨fun j hj => ?_, fun j hj => ?_, ?_, fun o => by simp [h.fM], wf⟩
  · have := h.co j hj
    have e2 : ¬ 8 = j := by omega
    simp [cell_set, e2, this]; rfl
  · have := h.cg j hj
    have e2 : ¬ 8 = 4 + j := by omega
    simp [cell_set, e2, this]; rfl
  · simp [cell_set, h.ct]

set_option maxHeartbeats 1000000 in
set_option maxRecDepth 100000 in
theorem mnote_calls (M k : Nat) (x q : Int) (c : UInt8) (t : V.Tb) (w : World) (hc : x = c.toNat) (hq : q = k) (hk : k < 4) (h : MTabAt w M t) :
    Calls Try.prog 113 #[.pointer (some ⟨M, 0, none⟩), .int .u8 x, .int .i64 q] w fun e w' => e = .returned (.tuple #[]) ∧ MTabAt w' M (t.note c k) ∧ Fr [M] w w' := by
  subst hc hq
  have HH : Hid (MTabAt w M t) := h
  have ct := h.ct
  have fM := h.fM
  have lM := h.lM
  have nM : ¬ M = w.heap.size := by omega
  have nM2 : ¬ w.heap.size = M := by omega
  have htr := h.wf.tr
  clear h
  by_cases hn : t.tr.length < 24
  · have hn' : ((t.tr.length : Nat) : Int) < 24 := by omega
    have w1 : IntKind.i64.wrap (48 + (k : Int)) = 48 + (k : Int) := by rw [i64w]; omega
    have w2 : IntKind.u8.wrap (48 + (k : Int)) = 48 + (k : Int) := by rw [IntKind.wrap_u8]; omega
    have hcv : (convert 84 9 (.slice (some ⟨w.heap.size, 0, none⟩) 2 2)).run Try.prog ((w.alloc (.cells #[.int .u8 c.toNat, .int .u8 (48 + (k : Int))] 5)).drew) = .ok (S [c, V.dg k]) ((w.alloc (.cells #[.int .u8 c.toNat, .int .u8 (48 + (k : Int))] 5)).drew) := conv2 _ _ c k (by omega) (by simp [go_sem]) (by simp [go_sem])
    have ha : ∀ W, (binOp .add 9 (S t.tr) (S [c, V.dg k])).run Try.prog W = .ok (S (t.tr ++ [c, V.dg k])) W := fun W => run_addS _ _ W (by simp; omega)
    unfold S at ct hcv ha
    clear htr
    go_enter Try.func113, Try.ntmps113
    go_wp2_with fail
    go_region
    go_end0
    have eb : (⟨t.tr.toArray⟩ : ByteArray) ++ ⟨#[c, V.dg k]⟩ = ⟨(t.tr ++ [c, V.dg k]).toArray⟩ := bytes_app _ _
    rw [eb]
    exact ⟨rfl, (mnote_eff HH.out hn hk).keep (B := []) ((Fr.refl _ _).alloc _).drew (by simp), (((Fr.refl _ _).setCell (by simp) _).alloc _).drew⟩
  · have hn' : ¬ ((t.tr.length : Nat) : Int) < 24 := by omega
    have e : t.note c k = t := by simp [V.Tb.note, hn]
    rw [e]
    unfold S at ct
    go_enter Try.func113, Try.ntmps113
    go_wp2_with fail
    go_end0
    exact ⟨rfl, HH.out, Fr.refl _ _⟩

theorem mclear_eff {w : World} {M : Nat} {t : V.Tb} (h : MTabAt w M t) : MTabAt (w.setCell ⟨M, 8, none⟩ (.string ⟨#[]⟩)) M t.clear := by
  refine ⟨fun j hj => ?_, fun j hj => ?_, ?_, fun o => by simp [h.fM], V.Tb.clear_wf h.wf⟩
  · have := h.co j hj
    have e2 : ¬ 8 = j := by omega
    simp [cell_set, e2, this]; rfl
  · have := h.cg j hj
    have e2 : ¬ 8 = 4 + j := by omega
    simp [cell_set, e2, this]; rfl
  · simp [cell_set, h.ct]; rfl
set_option maxHeartbeats 1000000 in
set_option maxRecDepth 100000 in
theorem mclear_calls (M : Nat) (t : V.Tb) (w : World) (h : MTabAt w M t) :
    Calls Try.prog 107 #[.pointer (some ⟨M, 0, none⟩)] w fun e w' => e = .returned (.tuple #[]) ∧ MTabAt w' M t.clear ∧ Fr [M] w w' := by
  have HH : Hid (MTabAt w M t) := h
  have ct := h.ct
  have fM := h.fM
  clear h
  unfold S at ct
  go_enter Try.func107, Try.ntmps107
  go_wp2_with fail
  go_end0
  exact ⟨rfl, mclear_eff HH.out, (Fr.refl _ _).setCell (by simp) _⟩

theorem mtake_eff {w : World} {M k : Nat} {t : V.Tb} (hk : k < 4) (h : MTabAt w M t) : MTabAt (w.setCell ⟨M, k, none⟩ (.bool true)) M { t with op := t.op.set k true } := by
  have hl := h.wf.lo
  refine ⟨fun j hj => ?_, fun j hj => ?_, ?_, fun o => by simp [h.fM], ⟨by simpa using h.wf.lo, h.wf.lg, h.wf.g, h.wf.tr, h.wf.ev⟩⟩
  · have := h.co j hj
    by_cases e : k = j
    · subst e; simp [cell_set, this, V.Tb.o, getD_set, hl, hk]
    · simp [cell_set, e, this, V.Tb.o, getD_set]
  · have := h.cg j hj
    have e2 : ¬ k = 4 + j := by omega
    simp [cell_set, e2, this]; rfl
  · have e2 : ¬ k = 8 := by omega
    simp [cell_set, e2, h.ct]
set_option maxHeartbeats 1000000 in
set_option maxRecDepth 100000 in
theorem macquire_calls (M : Nat) (k : Int) (t : V.Tb) (w : World) (h : MTabAt w M t) :
    Calls Try.prog 108 #[.pointer (some ⟨M, 0, none⟩), .int .i64 k] w fun e w' => e = .returned (.tuple #[.int .i64 (t.acq k).2.1, .int .i64 (t.acq k).2.2]) ∧ MTabAt w' M (t.acq k).1 ∧ Fr [M] w w' := by
  cases hg : V.good k with
  | false =>
    have hq : t.acq k = (t, 0, 2) := by simp [V.Tb.acq, hg]
    rw [hq]
    have HH : Hid (MTabAt w M t) := h
    clear h hq
    go_enter Try.func108, Try.ntmps108
    go_wp2_with (go_at_call 73; refine calls_same (good_calls _ _) ?_)
    go_ret2
    exact ⟨rfl, HH.out, Fr.refl _ _⟩
  | true =>
    obtain ⟨g0, g1⟩ := V.good_lt hg
    obtain ⟨k, rfl⟩ := Int.eq_ofNat_of_zero_le g0
    have hk : k < 4 := by omega
    have co := h.co k hk
    cases ho : t.o k with
    | true =>
      rw [ho] at co
      have hq : t.acq k = (t, 0, 4) := by simp [V.Tb.acq, hg, ho]
      rw [hq]
      have HH : Hid (MTabAt w M t) := h
      clear h hq
      go_enter Try.func108, Try.ntmps108
      go_wp2_with (go_at_call 73; refine calls_same (good_calls _ _) ?_)
      go_ret2
      exact ⟨rfl, HH.out, Fr.refl _ _⟩
    | false =>
      rw [ho] at co
      have fM := h.fM
      obtain ⟨b0, b1⟩ := V.Tb.g_bd h.wf k
      have HH : Hid (MTabAt w M t) := h
      clear h
      go_enter Try.func108, Try.ntmps108
      go_wp2_with (go_at_call 73; refine calls_same (good_calls _ _) ?_)
      refine (mnote_calls M k _ _ 65 { t with op := t.op.set k true } _ rfl rfl hk (mtake_eff hk HH.out)).mono ?_
      rintro e w1 ⟨rfl, ht, hf⟩
      have HT : Hid (MTabAt w1 M (t.take k)) := ht
      have HF : Hid (Fr [M] w w1) := (((Fr.refl _ _).setCell (by simp) _).trans hf (fun _ _ h => h))
      have cg := HT.out.cg k hk
      have eg : (t.take k).g k = t.g k := by unfold V.Tb.take V.Tb.note; split <;> rfl
      rw [eg] at cg
      clear ht hf co fM eg
      go_wp2_with fail
      go_ret2
      have hq : t.acq k = (t.take k, k + 4 * t.g k, 0) := by simp [V.Tb.acq, hg, ho]
      rw [hq]
      exact ⟨rfl, HT.out, HF.out⟩

theorem mgive_eff {w : World} {M k : Nat} {t : V.Tb} (hk : k < 4) (h : MTabAt w M t) :
    MTabAt ((w.setCell ⟨M, k, none⟩ (.bool false)).setCell ⟨M, 4 + k, none⟩ (.int .i64 ((t.g k + 1) % 4))) M { t with op := t.op.set k false, gn := t.gn.set k ((t.g k + 1) % 4) } := by
  have hl := h.wf.lo
  have hl2 := h.wf.lg
  refine ⟨fun j hj => ?_, fun j hj => ?_, ?_, fun o => by simp [h.fM], V.Tb.give_wf' h.wf k⟩
  · have := h.co j hj
    have e3 : ¬ 4 + k = j := by omega
    by_cases e : k = j
    · subst e; simp [cell_set, this, V.Tb.o, getD_set, hl, hk, e3]
    · simp [cell_set, e, e3, this, V.Tb.o, getD_set]
  · have := h.cg j hj
    have e2 : ¬ k = 4 + j := by omega
    by_cases e : k = j
    · subst e; simp [cell_set, this, V.Tb.g, getD_set, hl2, hk, e2]
    · have e3 : ¬ 4 + k = 4 + j := by omega
      simp [cell_set, e, e2, this, V.Tb.g, getD_set]
  · have e2 : ¬ k = 8 := by omega
    have e3 : ¬ 4 + k = 8 := by omega
    simp [cell_set, e2, e3, h.ct]

set_option maxHeartbeats 1000000 in
set_option maxRecDepth 100000 in
theorem mrelease_calls (M : Nat) (h : Int) (t : V.Tb) (w : World) (ht : MTabAt w M t) :
    Calls Try.prog 109 #[.pointer (some ⟨M, 0, none⟩), .int .i64 h] w fun e w' => e = .returned (.int .i64 (t.rel h).2) ∧ MTabAt w' M (t.rel h).1 ∧ Fr [M] w w' := by
  by_cases hr : 0 ≤ h ∧ h < 16
  · obtain ⟨h0, h1⟩ := hr
    have hk : (h % 4).toNat < 4 := by omega
    have co := ht.co _ hk
    have cg := ht.cg _ hk
    have e1 : (decide (h < 0) || decide (16 ≤ h)) = false := by simp; omega
    obtain ⟨b0, b1⟩ := V.Tb.g_bd ht.wf (h % 4).toNat
    have HH : Hid (MTabAt w M t) := ht
    have fM := ht.fM
    cases hop : t.o (h % 4).toNat with
    | false =>
      have hq : t.rel h = (t, 5) := by simp [V.Tb.rel, h0, h1, V.Tb.ov, hop]; omega
      rw [hq]
      rw [hop] at co
      clear ht hq
      go_enter Try.func109, Try.ntmps109
      go_wp2_with fail
      go_ret
      exact ⟨rfl, HH.out, Fr.refl _ _⟩
    | true =>
      rw [hop] at co
      by_cases hgn : t.g (h % 4).toNat = h / 4
      · have hq : t.rel h = (t.give (h % 4).toNat, 0) := by
          have : t.ov (h % 4).toNat = h := by simp [V.Tb.ov, hop, hgn]; omega
          simp [V.Tb.rel, h0, h1, this]
        rw [hq]
        have HK : Hid ((h % 4) = ((h % 4).toNat : Int)) := by show _ = _; omega
        have en : (t.g (h % 4).toNat != h / 4) = false := by simpa using hgn
        clear ht hq hgn
        go_enter Try.func109, Try.ntmps109
        go_wp2_with fail
        go_region
        go_wp2_with fail
        refine (mnote_calls M (h % 4).toNat _ _ 82 { t with op := t.op.set (h % 4).toNat false, gn := t.gn.set (h % 4).toNat ((t.g (h % 4).toNat + 1) % 4) } _ rfl HK.out hk ((mgive_eff hk HH.out).keep (B := []) (Fr.refl _ _).drew (by simp))).mono ?_
        rintro e w1 ⟨rfl, ht, hf⟩
        have HT : Hid (MTabAt w1 M (t.give (h % 4).toNat)) := ht
        have HF : Hid (Fr [M] w w1) := (((Fr.refl _ _).setCell (by simp) _).setCell (by simp) _).drew.trans hf (fun _ _ h => h)
        clear ht hf
        go_wp2_with fail
        go_ret
        exact ⟨rfl, HT.out, HF.out⟩
      · have hq : t.rel h = (t, 5) := by
          have : ¬ t.ov (h % 4).toNat = h := by simp [V.Tb.ov, hop]; omega
          simp [V.Tb.rel, h0, h1, this]
        rw [hq]
        have en : (t.g (h % 4).toNat != h / 4) = true := by simpa using hgn
        clear ht hq
        go_enter Try.func109, Try.ntmps109
        go_wp2_with fail
        go_ret
        exact ⟨rfl, HH.out, Fr.refl _ _⟩
  · have hq : t.rel h = (t, 2) := by simp only [V.Tb.rel, if_neg hr]
    rw [hq]
    have HH : Hid (MTabAt w M t) := ht
    have e1 : (decide (h < 0) || decide (16 ≤ h)) = true := by simp; omega
    clear ht hq
    go_enter Try.func109, Try.ntmps109
    go_wp2_with fail
    all_goals
      go_ret
      exact ⟨rfl, HH.out, Fr.refl _ _⟩

set_option maxHeartbeats 1000000 in
set_option maxRecDepth 100000 in
theorem mpair_calls (M : Nat) (a b : Int) (t : V.Tb) (w : World) (h : MTabAt w M t) :
    Calls Try.prog 111 #[.pointer (some ⟨M, 0, none⟩), .int .i64 a, .int .i64 b] w fun e w' => e = .returned (.tuple #[.int .i64 (t.pair a b).2.1, .int .i64 (t.pair a b).2.2.1, .int .i64 (t.pair a b).2.2.2]) ∧ MTabAt w' M (t.pair a b).1 ∧ Fr [M] w w' := by
  have HH : Hid (MTabAt w M t) := h
  clear h
  cases ha : V.good a with
  | false =>
    have hq : t.pair a b = (t, 0, 0, 2) := by simp [V.Tb.pair, ha]
    rw [hq]
    clear hq
    go_enter Try.func111, Try.ntmps111
    go_wp2_with (go_at_call 73; refine calls_same (good_calls _ _) ?_)
    exact bodyPost_ret (v := .tuple #[_, _, _]) (by simp [results, Try.results111, go_sem]) rfl ⟨rfl, HH.out, Fr.refl _ _⟩
  | true =>
    cases hb : V.good b with
    | false =>
      have hq : t.pair a b = (t, 0, 0, 2) := by simp [V.Tb.pair, hb]
      rw [hq]
      clear hq
      go_enter Try.func111, Try.ntmps111
      go_wp2_with (go_at_call 73; refine calls_same (good_calls _ _) ?_)
      exact bodyPost_ret (v := .tuple #[_, _, _]) (by simp [results, Try.results111, go_sem]) rfl ⟨rfl, HH.out, Fr.refl _ _⟩
    | true =>
      by_cases hab : a = b
      · have hq : t.pair a b = (t, 0, 0, 3) := by simp [V.Tb.pair, ha, hb, hab]
        rw [hq]
        subst hab
        clear hq
        go_enter Try.func111, Try.ntmps111
        go_wp2_with (go_at_call 73; refine calls_same (good_calls _ _) ?_)
        exact bodyPost_ret (v := .tuple #[_, _, _]) (by simp [results, Try.results111, go_sem]) rfl ⟨rfl, HH.out, Fr.refl _ _⟩
      · have HP : Hid (t.pair a b = if (t.acq (if b < a then b else a)).2.2 = 0 then
            if ((t.acq (if b < a then b else a)).1.acq (if b < a then a else b)).2.2 = 0 then
              (((t.acq (if b < a then b else a)).1.acq (if b < a then a else b)).1, (if a < b then (t.acq (if b < a then b else a)).2.1 else ((t.acq (if b < a then b else a)).1.acq (if b < a then a else b)).2.1), (if a < b then ((t.acq (if b < a then b else a)).1.acq (if b < a then a else b)).2.1 else (t.acq (if b < a then b else a)).2.1), 0)
            else ((((t.acq (if b < a then b else a)).1.acq (if b < a then a else b)).1.rel (t.acq (if b < a then b else a)).2.1).1, 0, 0, ((t.acq (if b < a then b else a)).1.acq (if b < a then a else b)).2.2)
          else ((t.acq (if b < a then b else a)).1, 0, 0, (t.acq (if b < a then b else a)).2.2)) := by show _ = _; simp only [V.Tb.pair, ha, hb, hab, Bool.and_self, if_true, if_false]
        by_cases hlt : b < a
        · have hgt : ¬ a < b := by omega
          simp only [if_pos hlt, if_neg hgt] at HP
          clear hgt
          go_enter Try.func111, Try.ntmps111
          go_wp2_with (go_at_call 73; refine calls_same (good_calls _ _) ?_)
          refine (macquire_calls M b t w HH.out).mono ?_
          rintro e w1 ⟨rfl, h1, f1⟩
          have H1 : Hid (MTabAt w1 M (t.acq b).1) := h1
          have F1 : Hid (Fr [M] w w1) := f1
          clear h1 f1
          generalize hr1 : t.acq b = r1 at *
          by_cases q1 : r1.2.2 = 0
          · have q1' : (r1.2.2 != 0) = false := by simpa using q1
            go_wp2_with fail
            refine (macquire_calls M a r1.1 w1 H1.out).mono ?_
            rintro e w2 ⟨rfl, h2, f2⟩
            have H2 : Hid (MTabAt w2 M (r1.1.acq a).1) := h2
            have F2 : Hid (Fr [M] w w2) := F1.out.trans f2 (fun _ _ h => h)
            clear h2 f2
            generalize hr2 : r1.1.acq a = r2 at *
            by_cases q2 : r2.2.2 = 0
            · have q2' : (r2.2.2 != 0) = false := by simpa using q2
              go_wp2_with fail
              have := HP.out
              rw [if_pos q1, if_pos q2] at this
              rw [this]
              exact bodyPost_ret (v := .tuple #[_, _, _]) (by simp [results, Try.results111, go_sem]) rfl ⟨rfl, H2.out, F2.out⟩
            · have q2' : (r2.2.2 != 0) = true := by simpa using q2
              go_wp2_with fail
              refine (mrelease_calls M r1.2.1 r2.1 w2 H2.out).mono ?_
              rintro e w3 ⟨rfl, h3, f3⟩
              have H3 : Hid (MTabAt w3 M (r2.1.rel r1.2.1).1) := h3
              have F3 : Hid (Fr [M] w w3) := F2.out.trans f3 (fun _ _ h => h)
              clear h3 f3
              go_wp2_with fail
              have := HP.out
              rw [if_pos q1, if_neg q2] at this
              rw [this]
              exact bodyPost_ret (v := .tuple #[_, _, _]) (by simp [results, Try.results111, go_sem]) rfl ⟨rfl, H3.out, F3.out⟩
          · have q1' : (r1.2.2 != 0) = true := by simpa using q1
            go_wp2_with fail
            have := HP.out
            rw [if_neg q1] at this
            rw [this]
            exact bodyPost_ret (v := .tuple #[_, _, _]) (by simp [results, Try.results111, go_sem]) rfl ⟨rfl, H1.out, F1.out⟩
        · have hgt : a < b := by omega
          simp only [if_neg hlt, if_pos hgt] at HP
          clear hgt
          go_enter Try.func111, Try.ntmps111
          go_wp2_with (go_at_call 73; refine calls_same (good_calls _ _) ?_)
          refine (macquire_calls M a t w HH.out).mono ?_
          rintro e w1 ⟨rfl, h1, f1⟩
          have H1 : Hid (MTabAt w1 M (t.acq a).1) := h1
          have F1 : Hid (Fr [M] w w1) := f1
          clear h1 f1
          generalize hr1 : t.acq a = r1 at *
          by_cases q1 : r1.2.2 = 0
          · have q1' : (r1.2.2 != 0) = false := by simpa using q1
            go_wp2_with fail
            refine (macquire_calls M b r1.1 w1 H1.out).mono ?_
            rintro e w2 ⟨rfl, h2, f2⟩
            have H2 : Hid (MTabAt w2 M (r1.1.acq b).1) := h2
            have F2 : Hid (Fr [M] w w2) := F1.out.trans f2 (fun _ _ h => h)
            clear h2 f2
            generalize hr2 : r1.1.acq b = r2 at *
            by_cases q2 : r2.2.2 = 0
            · have q2' : (r2.2.2 != 0) = false := by simpa using q2
              go_wp2_with fail
              have := HP.out
              rw [if_pos q1, if_pos q2] at this
              rw [this]
              exact bodyPost_ret (v := .tuple #[_, _, _]) (by simp [results, Try.results111, go_sem]) rfl ⟨rfl, H2.out, F2.out⟩
            · have q2' : (r2.2.2 != 0) = true := by simpa using q2
              go_wp2_with fail
              refine (mrelease_calls M r1.2.1 r2.1 w2 H2.out).mono ?_
              rintro e w3 ⟨rfl, h3, f3⟩
              have H3 : Hid (MTabAt w3 M (r2.1.rel r1.2.1).1) := h3
              have F3 : Hid (Fr [M] w w3) := F2.out.trans f3 (fun _ _ h => h)
              clear h3 f3
              go_wp2_with fail
              have := HP.out
              rw [if_pos q1, if_neg q2] at this
              rw [this]
              exact bodyPost_ret (v := .tuple #[_, _, _]) (by simp [results, Try.results111, go_sem]) rfl ⟨rfl, H3.out, F3.out⟩
          · have q1' : (r1.2.2 != 0) = true := by simpa using q1
            go_wp2_with fail
            have := HP.out
            rw [if_neg q1] at this
            rw [this]
            exact bodyPost_ret (v := .tuple #[_, _, _]) (by simp [results, Try.results111, go_sem]) rfl ⟨rfl, H1.out, F1.out⟩

set_option maxHeartbeats 1000000 in
set_option maxRecDepth 100000 in
theorem mlshow_calls (M : Nat) (t : V.Tb) (w : World) (h : MTabAt w M t) :
    Calls Try.prog 69 #[.pointer (some ⟨M, 0, none⟩)] w fun e w' => e = .returned (S t.show) ∧ Fr [] w w' := by
  have HH : Hid (MTabAt w M t) := h
  have tl := h.wf.tr
  clear h
  go_enter Try.func69, Try.ntmps69
  go_wp2
  go_loop [3, 4] (fun s i => ∃ k : Nat, k ≤ 4 ∧ i = .int .i64 k ∧ s = S (shO t k)) (fun _ i => 4 - (intOf i).toNat)
  case atStart => exact ⟨0, by omega, rfl, rfl⟩
  case round =>
    obtain ⟨k, hk, rfl, rfl⟩ := hrel
    by_cases hlt : k < 4
    · have co := HH.out.co k hlt
      have hl := shO_len t k
      have hsu := shO_succ t k
      cases ho : t.o k with
      | true =>
        rw [ho] at co
        have ha : ∀ W, (binOp .add 9 (S (shO t k)) (.string ⟨#[49]⟩)).run Try.prog W = .ok (S (shO t k ++ [49])) W := fun W => run_addS _ [49] W (by simp; omega)
        have HS : Hid (shO t (k + 1) = shO t k ++ [49]) := by show _ = _; simpa [ho] using hsu
        clear hsu
        go_wp2
        go_round
        case rel => exact ⟨k + 1, by omega, by go_num, by rw [HS.out]⟩
        case measure => simp [intOf]; omega
      | false =>
        rw [ho] at co
        have ha : ∀ W, (binOp .add 9 (S (shO t k)) (.string ⟨#[48]⟩)).run Try.prog W = .ok (S (shO t k ++ [48])) W := fun W => run_addS _ [48] W (by simp; omega)
        have HS : Hid (shO t (k + 1) = shO t k ++ [48]) := by show _ = _; simpa [ho] using hsu
        clear hsu
        go_wp2
        go_round
        case rel => exact ⟨k + 1, by omega, by go_num, by rw [HS.out]⟩
        case measure => simp [intOf]; omega
    · have hk4 : k = 4 := by omega
      subst hk4
      have hl := shO_len t 4
      have ha : ∀ W, (binOp .add 9 (S (shO t 4)) (.string ⟨#[32, 103, 101, 110, 61]⟩)).run Try.prog W = .ok (S (shO t 4 ++ [32, 103, 101, 110, 61])) W := fun W => run_addS _ _ W (by simp; omega)
      go_wp2
      go_loopw [3, 5] (fun s i w' => ∃ k : Nat, k ≤ 4 ∧ i = .int .i64 k ∧ s = S (shG t k) ∧ Fr [] w w') (fun _ i _ => 4 - (intOf i).toNat)
      case atStart => exact ⟨0, by omega, rfl, by simp [shG], Fr.refl _ _⟩
      case round =>
        obtain ⟨k, hk, rfl, rfl, hf⟩ := hrel
        have hT := HH.out.keep hf (by simp)
        have HF : Hid (Fr [] w wr) := hf
        have HT : Hid (MTabAt wr M t) := hT
        have hlg := shG_len t k
        clear hf hT ha
        by_cases hlt : k < 4
        · have cg := HT.out.cg k hlt
          obtain ⟨gb0, gb1⟩ := V.Tb.g_bd HT.out.wf k
          have hil := itoa_len (t.g k)
          have ha : ∀ W, (binOp .add 9 (S (shG t k)) (S (V.itoa (t.g k)))).run Try.prog W = .ok (S (shG t k ++ V.itoa (t.g k))) W := fun W => run_addS _ _ W (by omega)
          have HS : Hid (shG t (k + 1) = shG t k ++ V.itoa (t.g k)) := shG_succ t k
          go_wp2_with fail
          refine (itoa_calls (t.g k) wr gb0 (by omega)).mono ?_
          rintro e w2 ⟨rfl, hf2⟩
          have HF2 : Hid (Fr [] w w2) := HF.out.trans hf2 (fun _ _ h => h)
          clear hf2
          go_wp2_with fail
          go_roundw
          case rel => exact ⟨k + 1, by omega, by go_num, by rw [HS.out], HF2.out⟩
          case measure => simp [intOf]; omega
        · have hk4 : k = 4 := by omega
          subst hk4
          have ct := HT.out.ct
          have ha1 : ∀ W, (binOp .add 9 (S (shG t 4)) (.string ⟨#[32, 116, 114, 97, 99, 101, 61]⟩)).run Try.prog W = .ok (S (shG t 4 ++ [32, 116, 114, 97, 99, 101, 61])) W := fun W => run_addS _ _ W (by simp; omega)
          have ha2 : ∀ W, (binOp .add 9 (S (shG t 4 ++ [32, 116, 114, 97, 99, 101, 61])) (S t.tr)).run Try.prog W = .ok (S (shG t 4 ++ [32, 116, 114, 97, 99, 101, 61] ++ t.tr)) W := fun W => run_addS _ _ W (by simp; omega)
          go_wp2
          go_ret
          exact ⟨S_congr (by simp [V.Tb.show, shG, shO]), HF.out⟩

set_option maxHeartbeats 1000000 in
set_option maxRecDepth 100000 in
theorem mlnew_calls (w : World) :
    Calls Try.prog 93 #[] w fun e w' => ∃ M, e = .returned (.pointer (some ⟨M, 0, none⟩)) ∧ MTabAt w' M V.Tb.fresh ∧ Fr [] w w' ∧ w.heap.size ≤ M := by
  go_enter Try.func93, Try.ntmps93
  go_wp2_with fail
  go_ret
  refine ⟨w.heap.size, rfl, ⟨fun k hk => ?_, fun k hk => ?_, ?_, fun o => by simp [go_sem], ⟨rfl, rfl, fun k hk => ?_, by simp [V.Tb.fresh], by simp [V.Tb.fresh]⟩⟩, (Fr.refl _ _).alloc _, by omega⟩
  · rcases (show k = 0 ∨ k = 1 ∨ k = 2 ∨ k = 3 by omega) with rfl | rfl | rfl | rfl <;> simp [go_sem, V.Tb.fresh, V.Tb.o]
  · rcases (show k = 0 ∨ k = 1 ∨ k = 2 ∨ k = 3 by omega) with rfl | rfl | rfl | rfl <;> simp [go_sem, V.Tb.fresh, V.Tb.g]
  · simp [go_sem, V.Tb.fresh, S]
  · rcases (show k = 0 ∨ k = 1 ∨ k = 2 ∨ k = 3 by omega) with rfl | rfl | rfl | rfl <;> simp [V.Tb.fresh, V.Tb.g]

end Go.Proofs.Qxb6500360a
