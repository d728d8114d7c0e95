/-
  Samples returns true.
-/
import Derived.Test.Qxb6500360aGd
import Derived.ProofKit
import Derived.OpenShut
import Derived.ShutString
namespace Go.Proofs.Qxb6500360a.samples
open Go.ChangeShapes Go.WideShapes Go.ChangeAt Go.RowKit
open Go.ChangeMaps (open_string shut_string)
set_option linter.unusedVariables false
set_option linter.unusedSimpArgs false

theorem own : ownKnob Try.prog.godebug = none := by kernel_rfl

theorem smp_len (i : Nat) : (smp i).1.length < 1000000 := by
  unfold smp
  split <;> simp
theorem run_neqS (a : List UInt8) (W : World) : (binOp .neq 9 (S a) (S a)).run Try.prog W = .ok (.bool false) W := by
  simp [S, binOp, go_sem, Op.stringOp]
theorem run_guardS (o1 o2 : Operand) (a b : List UInt8) (W : World) : (eqGuard .neq 9 o1 o2 (S a) (S b)).run Try.prog W = .ok () W := by
  simp [S, eqGuard, go_sem]

set_option maxHeartbeats 1000000 in
set_option maxRecDepth 100000 in
theorem walk (w : World) :
    Calls Try.prog 9 #[] w fun e w' => e = .returned (.bool true) ∧ Fr [] w w' := by
  have hne := run_neqS
  have hgd := run_guardS
  go_enter Try.func9, Try.ntmps9
  go_wp2_with fail
  refine (ground_calls _).mono ?_
  rintro e w1 ⟨D, T, C, R, B, L, rfl, h1, f1, s1⟩
  have H1 : Hid (LdAt w1 D T C R B L V.Ld.fresh) := h1
  have F1 : Hid (Fr [] w w1) := f1
  have HS : Hid (∀ x ∈ [D, T, C, R, B, L], w.heap.size ≤ x) := s1
  clear h1 f1 s1
  go_wp2_with (go_at_call 17; refine (gnew_calls D T C R B L V.Ld.fresh _ (H1.out.keep (X := []) ((Fr.refl _ _).alloc _) (by simp))).mono ?_)
  rintro e w2 ⟨G, rfl, h2, f2, s2⟩
  have H2 : Hid (GtAt w2 G D T C R B L (gsN 0)) := h2
  have F2 : Hid (Fr [] w w2) := ((F1.out.alloc _)).trans f2 (by simp)
  have HG : Hid (w.heap.size ≤ G) := by have := F1.out.size; simp at s2; show _ ≤ _; omega
  clear h2 f2 s2 H1 F1
  go_wp2_with fail
  go_loopw [3] (fun i w' => ∃ k : Nat, k ≤ 18 ∧ i = .int .i64 k ∧ GtAt w' G D T C R B L (gsN k) ∧ Fr [] w w') (fun i _ => 18 - (intOf i).toNat)
  case atStart => exact ⟨0, by omega, rfl, H2.out, F2.out⟩
  case round =>
    obtain ⟨k, hk, rfl, hg, hf⟩ := hrel
    have HK : Hid (GtAt wr G D T C R B L (gsN k)) := hg
    have HF : Hid (Fr [] w wr) := hf
    clear hg hf
    by_cases hlt : k < 18
    · have hlt' : (k : Int) < 18 := by omega
      have hs := sample_eq k hlt
      go_wp2_with (first | (go_at_call 18; refine calls_same (sample_calls k hlt _) ?_) | (go_at_call 19; refine (serve_S G D T C R B L (gsN k) (smp k).1 _ HK.out (smp_len k)).mono ?_))
      rintro e w3 ⟨rfl, h3, f3⟩
      rw [hs]
      have H3 : Hid (GtAt w3 G D T C R B L (gsN (k + 1))) := h3
      have F3 : Hid (Fr [] w w3) := HF.out.trans f3 (fun x hx hm => by have a := HS.out; have b := HG.out; simp at a hm; omega)
      clear h3 f3
      go_wp2_with fail
      exact ⟨⟨k + 1, by omega, by simp, H3.out, F3.out⟩, by simp [intOf]; omega⟩
    · have hk4 : k = 18 := by omega
      subst hk4
      go_wp2_with fail
      go_ret
      exact ⟨rfl, HF.out⟩

/-! ### THE ROW's STEP -/
set_option maxRecDepth 100000 in
theorem lifted (os : Os) (started : os.Started) (H : Type) (enc : TypeId × Value → H) :
    ReturnsInHanded {} Try.checked os 9 .any (Rows.samplesSpec.pre6 enc Try.prog Try.f9 Rows.samplesRow.domain false) (Rows.samplesSpec.post enc Try.prog Try.f9 false true false false) := by
  refine returnsInHanded_of_change (C := Try.checked) own started (by kernel_rfl) Try.func9
    (ChangeSpec.witness6 (enc := enc) (C := Try.checked) false ⟨#[], #[], []⟩ 8 (by kernel_rfl) (by kernel_rfl) (by kernel_rfl) (by kernel_rfl)) ?_
  intro W base args ds gs before hval0 hW hcnd _
  have hval : ∀ (j : Nat) t v, Try.f9.params[j]? = some t → args[j]? = some v → Value.okWide Try.prog W .any base t v := hval0
  have hW' := hW
  obtain ⟨p, q, hA0, hV, rfl, hfz, hnd⟩ := hW
  have hA : DataW.TrodAll enc Try.prog W 0 (fun _ => true) true Try.f9.params.toList args.toList ds p := hA0
  rw [Try.params9] at hA hval
  obtain ⟨rfl, rfl, rfl⟩ := trodAll_none hA
  obtain ⟨rfl, rfl⟩ := trodVars_none hV
  clear hA0 hval0
  simp only [List.append_nil] at hW'
  refine (walk W).mono fun e W' ⟨he, hg⟩ => ?_
  subst he
  have bel : Below W.heap.size W W' := hg.below (Nat.le_refl _) (by simp)
  exact ⟨_, rfl, _, _, _, [], [], [], hW', trodAll_mk1 (shut_bool Try.underlying4 _), trodAll_mk0, rfl, bel.frame _, fun h => by cases h⟩

theorem over : Rows.samplesRow.holds Try.pinned (OpenSpec.ofChange Rows.samplesSpec) :=
  OpenClaim.holds_of_wide 9 Try.f9 rfl rfl rfl rfl rfl rfl rfl ⟨rfl, rfl, rfl, rfl, rfl⟩ rfl rfl rfl rfl rfl (by kernel_rfl) Try.func9 (by kernel_rfl)
    (of_decide_eq_true (by kernel_rfl)) (by unfold Func.isWrapper; first | (rw [if_pos (by decide +kernel)]; kernel_rfl) | (rw [if_neg (by decide +kernel)]; exact ⟨rfl, rfl⟩))
    (fun os started H enc _ => lifted os started H enc)

/-- THE STATEMENT. -/
theorem proved : Rows.SamplesSaid :=
  over

end Go.Proofs.Qxb6500360a.samples
