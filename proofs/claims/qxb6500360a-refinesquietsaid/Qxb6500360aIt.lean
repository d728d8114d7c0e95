/-
  api: Itoa, Bump.
-/
import Derived.Test.Qxb6500360aBa
import Derived.Deep.RegionWith
import Derived.Laws.IdiomStrings
namespace Go.Proofs.Qxb6500360a
open Go.RowKit
set_option linter.unusedSimpArgs false
set_option linter.unusedVariables false

/-- A string of plain bytes. -/
def S (l : List UInt8) : Value := .string ⟨l.toArray⟩

theorem run_addS (a b : List UInt8) (W : World) (h : a.length + b.length < 1000000) : (binOp .add 9 (S a) (S b)).run Try.prog W = .ok (S (a ++ b)) W := by
  have hs : (⟨a.toArray⟩ : ByteArray).size + (⟨b.toArray⟩ : ByteArray).size = a.length + b.length := by simp [ByteArray.size]
  have hm : ¬ ((((⟨a.toArray⟩ : ByteArray).size + (⟨b.toArray⟩ : ByteArray).size : Nat) : Int) > IntKind.i64.max) := by
    rw [hs]
    have : IntKind.i64.max = 9223372036854775807 := by decide
    omega
  have he : (⟨a.toArray⟩ : ByteArray) ++ ⟨b.toArray⟩ = ⟨(a ++ b).toArray⟩ := by
    apply ByteArray.ext
    simp [ByteArray.data_append]
  simp only [S, binOp_string_add, Op.stringOp, if_neg hm, he]
  simp

set_option maxHeartbeats 400000 in
theorem bump_calls (n : Int) (w : World) (h0 : 0 ≤ n) (h1 : n ≤ 99) :
    Calls Try.prog 51 #[.int .i64 n] w fun e w' => e = .returned (.int .i64 (V.bump n)) ∧ w' = w := by
  by_cases h : 99 ≤ n
  · have hb : V.bump n = 99 := by simp [V.bump, h]
    rw [hb]
    clear hb
    go_enter Try.func51, Try.ntmps51
    go_wp2
    go_ret
    exact ⟨rfl, rfl⟩
  · have hb : V.bump n = n + 1 := by simp [V.bump, h]
    rw [hb]
    clear hb
    go_enter Try.func51, Try.ntmps51
    go_wp2
    go_ret
    exact ⟨rfl, rfl⟩

theorem conv1 (w : World) (n : Int) (h0 : 0 ≤ n) (h1 : n < 10) (nq : Nat) :
    (convert 84 9 (.slice (some ⟨w.heap.size, 0, none⟩) 1 1)).run Try.prog ((w.alloc (.cells #[.int .u8 (48 + n)] 5)).drewN nq) = .ok (S [V.dg n.toNat]) ((w.alloc (.cells #[.int .u8 (48 + n)] 5)).drewN nq) := by
  refine run_convert_bytes_back _ 84 9 5 ⟨w.heap.size, 0, none⟩ 1 [V.dg n.toNat] Try.underlying84 Try.underlying5 Try.underlying9 ?_
  intro j hj
  simp at hj
  subst hj
  have : ((V.dg n.toNat).toNat : Int) = 48 + n := by unfold V.dg; rw [UInt8.toNat_ofNat']; omega
  simp [this, Addr.add, go_sem, cell_drewN]

set_option maxHeartbeats 400000 in
set_option maxRecDepth 100000 in
theorem itoa1 (n : Int) (w : World) (h0 : 0 ≤ n) (h1 : n < 10) :
    Calls Try.prog 32 #[.int .i64 n] w fun e w' => e = .returned (S [V.dg n.toNat]) ∧ Fr [] w w' := by
  have h3 : -10 < n := by omega
  have hc := conv1 w n h0 h1 0
  simp only [World.drewN_zero] at hc
  go_enter Try.func32, Try.ntmps32
  go_wp2_with fail
  go_ret
  exact ⟨rfl, (Fr.refl _ _).alloc _⟩

theorem convW (n : Int) (h0 : 0 ≤ n) (h1 : n < 10) (W : World) (b : Nat) (hc : W.cell? ⟨b, 0, none⟩ = some (.int .u8 (48 + n))) :
    (convert 84 9 (.slice (some ⟨b, 0, none⟩) 1 1)).run Try.prog W = .ok (S [V.dg n.toNat]) W := by
  refine run_convert_bytes_back _ 84 9 5 ⟨b, 0, none⟩ 1 [V.dg n.toNat] Try.underlying84 Try.underlying5 Try.underlying9 ?_
  intro j hj
  simp at hj
  subst hj
  have : ((V.dg n.toNat).toNat : Int) = 48 + n := by unfold V.dg; rw [UInt8.toNat_ofNat']; omega
  simpa [this, Addr.add] using hc

theorem itoa_ar (n : Int) (h0 : 0 ≤ n) (h1 : n < 1000000) : IntKind.i64.wrap (n.tdiv 10) = n / 10 ∧ n.tmod 10 = n % 10 ∧ IntKind.i64.wrap (48 + n % 10) = 48 + n % 10 ∧ IntKind.u8.wrap (48 + n % 10) = 48 + n % 10 := by
  rw [Int.tdiv_eq_ediv_of_nonneg h0, Int.tmod_eq_emod_of_nonneg h0]
  refine ⟨?_, rfl, ?_, ?_⟩
  all_goals (first | rw [IntKind.wrap_i64] | rw [IntKind.wrap_u8]) <;> omega

set_option maxHeartbeats 400000 in
set_option maxRecDepth 100000 in
theorem itoa_step (n : Int) (l : List UInt8) (w : World) (h0 : 10 ≤ n) (h1 : n < 1000000) (hl : l.length < 100)
    (ih : Hid (∀ W, Calls Try.prog 32 #[.int .i64 (n / 10)] W fun e w' => e = .returned (S l) ∧ Fr [] W w')) :
    Calls Try.prog 32 #[.int .i64 n] w fun e w' => e = .returned (S (l ++ [V.dg (n % 10).toNat])) ∧ Fr [] w w' := by
  have h3 : -10 < n := by omega
  have h4 : ¬ n < 0 := by omega
  have hc := convW (n % 10) (by omega) (by omega)
  obtain ⟨w1, w2, w3, w4⟩ := itoa_ar n (by omega) (by omega)
  go_enter Try.func32, Try.ntmps32
  go_wp2_with fail
  have hs := run_addS l [V.dg (n % 10).toNat] (h := by simp; omega)
  go_region_with (go_at_call 32; refine (ih.out _).mono ?_; rintro e w1 ⟨rfl, hf⟩; have hk := fun b hb o => hf.cell (b := b) hb (by simp) o)
  all_goals
    go_wp2_with fail
    go_ret
    refine ⟨rfl, ?_⟩
    first
      | exact ((Fr.refl _ _).drew.trans hf (by simp)).alloc _
      | exact (((Fr.refl _ _).drew).alloc _).trans hf (by simp)
      | exact (((Fr.refl _ _).alloc _).drew).trans hf (by simp)

theorem S_congr {a b : List UInt8} (h : a = b) : Ending.returned (S a) = Ending.returned (S b) := by rw [h]

/-- Itoa, for what this system prints. -/
theorem itoa_calls (n : Int) (w : World) (h0 : 0 ≤ n) (h1 : n < 10000) :
    Calls Try.prog 32 #[.int .i64 n] w fun e w' => e = .returned (S (V.itoa n)) ∧ Fr [] w w' := by
  have i1 : ∀ m : Int, 0 ≤ m → m < 10 → ∀ W, Calls Try.prog 32 #[.int .i64 m] W fun e w' => e = .returned (S [V.dg m.toNat]) ∧ Fr [] W w' := fun m a b W => itoa1 m W a b
  have i2 : ∀ m : Int, 10 ≤ m → m < 100 → ∀ W, Calls Try.prog 32 #[.int .i64 m] W fun e w' => e = .returned (S [V.dg (m / 10).toNat, V.dg (m % 10).toNat]) ∧ Fr [] W w' :=
    fun m a b W => itoa_step m [V.dg (m / 10).toNat] W a (by omega) (by simp) (i1 (m / 10) (by omega) (by omega))
  have i3 : ∀ m : Int, 100 ≤ m → m < 1000 → ∀ W, Calls Try.prog 32 #[.int .i64 m] W fun e w' => e = .returned (S [V.dg (m / 10 / 10).toNat, V.dg (m / 10 % 10).toNat, V.dg (m % 10).toNat]) ∧ Fr [] W w' :=
    fun m a b W => itoa_step m [V.dg (m / 10 / 10).toNat, V.dg (m / 10 % 10).toNat] W (by omega) (by omega) (by simp) (i2 (m / 10) (by omega) (by omega))
  have i4 : ∀ m : Int, 1000 ≤ m → m < 10000 → ∀ W, Calls Try.prog 32 #[.int .i64 m] W fun e w' => e = .returned (S [V.dg (m / 10 / 10 / 10).toNat, V.dg (m / 10 / 10 % 10).toNat, V.dg (m / 10 % 10).toNat, V.dg (m % 10).toNat]) ∧ Fr [] W w' :=
    fun m a b W => itoa_step m [V.dg (m / 10 / 10 / 10).toNat, V.dg (m / 10 / 10 % 10).toNat, V.dg (m / 10 % 10).toNat] W (by omega) (by omega) (by simp) (i3 (m / 10) (by omega) (by omega))
  obtain ⟨m, rfl⟩ := Int.eq_ofNat_of_zero_le h0
  by_cases c1 : m < 10
  · refine (i1 _ h0 (by omega) w).mono ?_
    rintro e w' ⟨rfl, hf⟩
    exact ⟨S_congr (by simp [V.itoa, V.itoaN, c1]), hf⟩
  · by_cases c2 : m < 100
    · refine (i2 _ (by omega) (by omega) w).mono ?_
      rintro e w' ⟨rfl, hf⟩
      refine ⟨S_congr ?_, hf⟩
      rw [show ((m : Int) / 10).toNat = m / 10 by omega, show ((m : Int) % 10).toNat = m % 10 by omega]
      simp [V.itoa, V.itoaN, c1, c2]
    · by_cases c3 : m < 1000
      · refine (i3 _ (by omega) (by omega) w).mono ?_
        rintro e w' ⟨rfl, hf⟩
        refine ⟨S_congr ?_, hf⟩
        rw [show ((m : Int) / 10 / 10).toNat = m / 100 by omega, show ((m : Int) / 10 % 10).toNat = m / 10 % 10 by omega, show ((m : Int) % 10).toNat = m % 10 by omega]
        simp [V.itoa, V.itoaN, c1, c2, c3]
      · refine (i4 _ (by omega) (by omega) w).mono ?_
        rintro e w' ⟨rfl, hf⟩
        refine ⟨S_congr ?_, hf⟩
        rw [show ((m : Int) / 10 / 10 / 10).toNat = m / 1000 by omega, show ((m : Int) / 10 / 10 % 10).toNat = m / 100 % 10 by omega, show ((m : Int) / 10 % 10).toNat = m / 10 % 10 by omega, show ((m : Int) % 10).toNat = m % 10 by omega]
        simp [V.itoa, V.itoaN, c1, c2, c3]

theorem itoa_len (n : Int) : (V.itoa n).length ≤ 4 := by
  unfold V.itoa V.itoaN
  split
  · simp
  · split
    · simp
    · split <;> simp

end Go.Proofs.Qxb6500360a
