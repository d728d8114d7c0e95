/-
  Plain facts on pay and its journal.
-/
import Derived.Test.Qxb6500360aLh
namespace Go.Proofs.Qxb6500360a
open Go.RowKit

theorem check_ok {m : V.Mv} (h : V.check m = 0) : (0 ≤ m.f ∧ m.f < 4) ∧ (0 ≤ m.t ∧ m.t < 4) ∧ 1 ≤ m.a ∧ m.a ≤ 999 ∧ m.f ≠ m.t := by
  unfold V.check at h
  by_cases hg : (V.good m.f && V.good m.t && decide (1 ≤ m.a) && decide (m.a ≤ 999)) = true
  · rw [if_pos hg] at h
    by_cases he : m.f = m.t
    · rw [if_pos he] at h; cases h
    · simp [V.good] at hg
      exact ⟨hg.1.1.1, hg.1.1.2, hg.1.2, hg.2, he⟩
  · rw [if_neg hg] at h; cases h

theorem payBal_e (bal : List Int) (m : V.Mv) : (payBal bal m).2.2 = (V.pay bal m).2 := by
  unfold payBal V.pay
  split
  · rfl
  · split <;> rfl
theorem payBal_ok {bal : List Int} {m : V.Mv} (h : (V.pay bal m).2 = 0) : (payBal bal m).1 = (V.pay bal m).1 := by
  unfold payBal V.pay at *
  split
  · rfl
  · split
    · rename_i h1 h2; simp [h1, h2] at h
    · rfl
theorem payBal_log {bal : List Int} {m : V.Mv} (h : ¬ (V.pay bal m).2 = 0) : (payBal bal m).2.1 = [] ↔ ¬ (V.pay bal m).2 = 7 := by
  unfold payBal V.pay at *
  split
  · simp
  · split
    · simp
    · rename_i h1 h2; simp [h1, h2] at h
theorem payBal_len (bal : List Int) (m : V.Mv) : (payBal bal m).2.1.length ≤ 2 := by
  unfold payBal
  split
  · simp
  · split <;> simp
theorem payBal_full {bal : List Int} {m : V.Mv} (h : (V.pay bal m).2 = 0) : ¬ (payBal bal m).2.1 = [] := by
  unfold payBal V.pay at *
  split
  · rename_i h1; simp [h1] at h
  · split
    · rename_i h1 h2; simp [h1, h2] at h
    · simp

theorem set_back (b : List Int) (k : Nat) (v : Int) (h : k < b.length) : (b.set k v).set k (V.bl b k) = b := by
  rw [List.set_set]
  unfold V.bl
  rw [List.getD_eq_getElem?_getD, List.getElem?_eq_getElem h]
  simp
theorem undo_put (b : List Int) (lg : List (Nat × Int)) (k : Nat) (v : Int) (h : k < b.length) : undo (b.set k v) (lg ++ [(k, V.bl b k)]) = undo b lg := by
  rw [undo_snoc]
  simp only [set_back b k v h]
theorem payBal_undo {bal : List Int} {m : V.Mv} (lg : List (Nat × Int)) (lb : bal.length = 4) (hc : V.check m = 0) : undo (payBal bal m).1 (lg ++ (payBal bal m).2.1) = undo bal lg := by
  obtain ⟨⟨f0, f1⟩, ⟨t0, t1⟩, -, -, hne⟩ := check_ok hc
  have hft : ¬ m.f.toNat = m.t.toNat := by omega
  unfold payBal
  split
  · simp
  · split
    · exact undo_put _ _ _ _ (by omega)
    · have e : V.bl bal m.t.toNat = V.bl (bal.set m.f.toNat (V.bl bal m.f.toNat - m.a)) m.t.toNat := by
        rw [V.bl_set _ _ _ _ lb (by omega), if_neg hft]
      rw [show (lg ++ [(m.f.toNat, V.bl bal m.f.toNat), (m.t.toNat, V.bl bal m.t.toNat)]) = (lg ++ [(m.f.toNat, V.bl bal m.f.toNat)]) ++ [(m.t.toNat, V.bl bal m.t.toNat)] by simp]
      rw [show undo ((bal.set m.f.toNat (V.bl bal m.f.toNat - m.a)).set m.t.toNat (V.bl bal m.t.toNat + m.a)) (lg ++ [(m.f.toNat, V.bl bal m.f.toNat)] ++ [(m.t.toNat, V.bl bal m.t.toNat)]) = undo (bal.set m.f.toNat (V.bl bal m.f.toNat - m.a)) (lg ++ [(m.f.toNat, V.bl bal m.f.toNat)]) from by
        rw [e]
        exact undo_put _ _ _ _ (by simp; omega)]
      exact undo_put _ _ _ _ (by omega)

theorem pay_sum {bal : List Int} {m : V.Mv} (lb : bal.length = 4) (hc : V.check m = 0) (u v : Int) (t t' : V.Tb) : (V.Ld.mk (V.pay bal m).1 u t).audit = (V.Ld.mk bal v t').audit := by
  obtain ⟨⟨f0, f1⟩, ⟨t0, t1⟩, -, -, hne⟩ := check_ok hc
  unfold V.pay
  split
  · rfl
  · split
    · rfl
    · have hft : ¬ m.f.toNat = m.t.toNat := by omega
      have l2 : (bal.set m.f.toNat (V.bl bal m.f.toNat - m.a)).length = 4 := by simpa using lb
      simp only [V.Ld.audit, V.bl_set _ _ _ _ l2 (show m.t.toNat < 4 by omega), V.bl_set _ _ _ _ lb (show m.f.toNat < 4 by omega)]
      have hf4 : m.f.toNat < 4 := by omega
      have hq4 : m.t.toNat < 4 := by omega
      generalize m.f.toNat = f at *
      generalize m.t.toNat = q at *
      rcases (show f = 0 ∨ f = 1 ∨ f = 2 ∨ f = 3 by omega) with rfl | rfl | rfl | rfl <;>
        rcases (show q = 0 ∨ q = 1 ∨ q = 2 ∨ q = 3 by omega) with rfl | rfl | rfl | rfl <;>
          first | (exfalso; omega) | (simp; omega)

end Go.Proofs.Qxb6500360a
