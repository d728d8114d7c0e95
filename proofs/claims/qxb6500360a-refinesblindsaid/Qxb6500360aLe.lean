/-
  L2: the real ledger: Balance, Split.
-/
import Derived.Test.Qxb6500360aLd
namespace Go.Proofs.Qxb6500360a
open Go.RowKit
set_option linter.unusedSimpArgs false
set_option linter.unusedVariables false

/-- No block of the books is one of the table's. -/
structure Sep (D T C R B L : Nat) : Prop where
  DT : ¬ D = T
  DC : ¬ D = C
  DR : ¬ D = R
  BT : ¬ B = T
  BC : ¬ B = C
  BR : ¬ B = R
  LT : ¬ L = T
  LC : ¬ L = C
  LR : ¬ L = R

/-- The ledger d lies at D (over the table T, C, R; its balances at B, its journal, empty, at L). -/
structure LdAt (w : World) (D T C R B L : Nat) (d : V.Ld) : Prop where
  bk : BkAt w D T B L d.bal [] d.und
  tb : TabAt w T C R d.t
  sp : Sep D T C R B L
  sum : d.audit = 400

theorem BkAt.keepT {w w' : World} {D T C R B L : Nat} {bal lg und} (h : BkAt w D T B L bal lg und) (sp : Sep D T C R B L) (hf : Fr [T, C, R] w w') : BkAt w' D T B L bal lg und :=
  h.keep hf (by simp [sp.DT, sp.DC, sp.DR]) (by simp [sp.BT, sp.BC, sp.BR]) (by simp [sp.LT, sp.LC, sp.LR])
theorem TabAt.keepB {w w' : World} {D T C R B L : Nat} {t : V.Tb} (h : TabAt w T C R t) (sp : Sep D T C R B L) (hf : Fr [D, B, L] w w') : TabAt w' T C R t :=
  h.keep hf (by simp [Ne.symm sp.DT, Ne.symm sp.BT, Ne.symm sp.LT]) (by simp [Ne.symm sp.DC, Ne.symm sp.BC, Ne.symm sp.LC]) (by simp [Ne.symm sp.DR, Ne.symm sp.BR, Ne.symm sp.LR])
theorem LdAt.keep {w w' : World} {D T C R B L : Nat} {d : V.Ld} (h : LdAt w D T C R B L d) {X : List Nat} (hf : Fr X w w') (hX : ∀ x ∈ [D, T, C, R, B, L], x ∉ X) : LdAt w' D T C R B L d :=
  ⟨h.bk.keep hf (hX _ (by simp)) (hX _ (by simp)) (hX _ (by simp)), h.tb.keep hf (hX _ (by simp)) (hX _ (by simp)) (hX _ (by simp)), h.sp, h.sum⟩
theorem Fr.wide {D T C R B L : Nat} {w w' : World} (h : Fr [T, C, R] w w') : Fr [D, T, C, R, B, L] w w' := h.mono (fun x _ hx => by simp at hx ⊢; omega)
theorem Fr.wideB {D T C R B L : Nat} {w w' : World} (h : Fr [D, B, L] w w') : Fr [D, T, C, R, B, L] w w' := h.mono (fun x _ hx => by simp at hx ⊢; omega)

theorem acq_err {t : V.Tb} {k : Int} (h : (t.acq k).2.2 = 0) : V.good k = true := by
  unfold V.Tb.acq at h
  cases hg : V.good k with
  | true => rfl
  | false => simp [hg] at h

set_option maxHeartbeats 1000000 in
set_option maxRecDepth 100000 in
theorem balance_calls (D T C R B L : Nat) (k : Int) (d : V.Ld) (w : World) (h : LdAt w D T C R B L d) :
    Calls Try.prog 58 #[.pointer (some ⟨D, 0, none⟩), .int .i64 k] w fun e w' => e = .returned (.tuple #[.int .i64 (d.balance k).2.1, .int .i64 (d.balance k).2.2]) ∧ LdAt w' D T C R B L (d.balance k).1 ∧ Fr [D, T, C, R, B, L] w w' := by
  have d0 := h.bk.d0
  have HH : Hid (LdAt w D T C R B L d) := h
  clear h
  go_enter_defers Try.func58, Try.ntmps58
  go_wp2_with fail
  refine (clear_calls T C R d.t w HH.out.tb).mono ?_
  rintro e w1 ⟨rfl, ht1, hf1⟩
  have hb1 := HH.out.bk.keepT HH.out.sp hf1
  have a0 := hb1.d0
  have HB1 : Hid (BkAt w1 D T B L d.bal [] d.und) := hb1
  have HT1 : Hid (TabAt w1 T C R d.t.clear) := ht1
  have HF1 : Hid (Fr [T, C, R] w w1) := hf1
  clear ht1 hf1 hb1 d0
  go_wp2_with fail
  refine (acquire_calls T C R k d.t.clear w1 HT1.out).mono ?_
  rintro e w2 ⟨rfl, ht2, hf2⟩
  have hb2 := HB1.out.keepT HH.out.sp hf2
  have b0 := hb2.d0
  have b1 := hb2.d1
  have HB2 : Hid (BkAt w2 D T B L d.bal [] d.und) := hb2
  have HT2 : Hid (TabAt w2 T C R (d.t.clear.acq k).1) := ht2
  have HF2 : Hid (Fr [T, C, R] w w2) := HF1.out.trans hf2 (fun _ _ h => h)
  clear ht2 hf2 a0
  by_cases he : (d.t.clear.acq k).2.2 = 0
  · obtain ⟨g0, g1⟩ := V.good_lt (acq_err he)
    have HZ : Hid (d.balance k = ({ d with t := ((d.t.clear.acq k).1.rel (d.t.clear.acq k).2.1).1 }, V.bl d.bal k.toNat, 0)) := by show _ = _; simp [V.Ld.balance, he]
    obtain ⟨k, rfl⟩ := Int.eq_ofNat_of_zero_le g0
    have cb := hb2.cb k (by omega)
    clear hb2
    go_wp2_with fail
    refine leaves_cons (f := 50) (args := #[.pointer (some ⟨T, 0, none⟩), .int .i64 (d.t.clear.acq k).2.1]) (by simp) (by simp [go_sem]) ?_
    refine ((release_both T C R _ _ w2 HT2.out).2 _).mono ?_
    rintro e u w3 ⟨rfl, rfl, ht3, hf3⟩
    rw [HZ.out]
    exact ⟨_, results_tmp2 rfl _ _ _, rfl, ⟨HB2.out.keepT HH.out.sp hf3, ht3, HH.out.sp, HH.out.sum⟩, (HF2.out.trans hf3 (fun _ _ h => h)).wide⟩
  · have he' : ((d.t.clear.acq k).2.2 != 0) = true := by simpa using he
    have HZ : Hid (d.balance k = ({ d with t := (d.t.clear.acq k).1 }, 0, (d.t.clear.acq k).2.2)) := by show _ = _; simp [V.Ld.balance, he]
    clear hb2
    go_wp2_with fail
    rw [HZ.out]
    exact ⟨_, results_tmp2 rfl _ _ _, rfl, ⟨HB2.out, HT2.out, HH.out.sp, HH.out.sum⟩, HF2.out.wide⟩

end Go.Proofs.Qxb6500360a
