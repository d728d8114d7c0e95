/-
  L2: the real ledger: Census.
-/
import Derived.Test.Qxb6500360aTp
import Derived.Deep.RegionHeld3
namespace Go.Proofs.Qxb6500360a
open Go.RowKit
set_option linter.unusedSimpArgs false
set_option linter.unusedVariables false

theorem TabAt.setB {w : World} {T C R : Nat} {t : V.Tb} (h : TabAt w T C R t) {b o : Nat} (v : Value) (hT : ¬ T = b) (hC : ¬ C = b) (hR : ¬ R = b) : TabAt (w.setCell ⟨b, o, none⟩ v) T C R t := h.setCell v hT hC hR
theorem BkAt.setB {w : World} {D T B L : Nat} {bal lg und} (h : BkAt w D T B L bal lg und) {b o : Nat} (v : Value) (hD : ¬ D = b) (hB : ¬ B = b) (hL : ¬ L = b) : BkAt (w.setCell ⟨b, o, none⟩ v) D T B L bal lg und := h.setCell v hD hB hL
theorem Fr.setB {B : List Nat} {a w : World} (h : Fr B a w) {b o : Nat} (hp : b < a.heap.size → b ∈ B) (u : Value) : Fr B a (w.setCell ⟨b, o, none⟩ u) := h.setCell hp u

def c1t (t : V.Tb) (k : Nat) : V.Tb := if (t.acq k).2.2 = 0 then ((t.acq k).1.rel (t.acq k).2.1).1 else (t.acq k).1
def c1n (t : V.Tb) (bal : List Int) (k : Nat) (n : Int) : Int := if (t.acq k).2.2 = 0 then n + V.bl bal k else 0

set_option maxHeartbeats 2000000 in
set_option maxRecDepth 100000 in
theorem census1_calls (P K N E D T C R B L : Nat) (k : Nat) (n : Int) (bal : List Int) (und : Int) (t : V.Tb) (w : World) (hb : BkAt w D T B L bal [] und) (ht : TabAt w T C R t) (sp : Sep D T C R B L)
    (cp : w.cell? ⟨P, 0, none⟩ = some (.pointer (some ⟨D, 0, none⟩))) (ck : w.cell? ⟨K, 0, none⟩ = some (.int .i64 k)) (cn : w.cell? ⟨N, 0, none⟩ = some (.int .i64 n)) (ce : w.cell? ⟨E, 0, none⟩ = some (.int .i64 0))
    (fn : w.frozen? ⟨N, 0, none⟩ = false) (fe : w.frozen? ⟨E, 0, none⟩ = false) (hk : k < 4) (hn : 0 ≤ n ∧ n ≤ 1000)
    (HO : Hid (D < P ∧ T < P ∧ C < P ∧ R < P ∧ B < P ∧ L < P ∧ P < N ∧ N < E ∧ E < K)) :
    Calls Try.prog 79 #[.pointer (some ⟨P, 0, none⟩), .pointer (some ⟨K, 0, none⟩), .pointer (some ⟨N, 0, none⟩), .pointer (some ⟨E, 0, none⟩)] w fun e w' => e = .returned (.tuple #[]) ∧
      TabAt w' T C R (c1t t k) ∧
      w'.cell? ⟨N, 0, none⟩ = some (.int .i64 (c1n t bal k n)) ∧ w'.cell? ⟨E, 0, none⟩ = some (.int .i64 (t.acq k).2.2) ∧ Fr [T, C, R, N, E] w w' := by
  have b0 := hb.d0
  obtain ⟨hn0, hn1⟩ := hn
  go_enter_defers Try.func79, Try.ntmps79
  go_wp2_with fail
  have HB : Hid (BkAt w D T B L bal [] und) := hb
  have HT : Hid (TabAt w T C R t) := ht
  clear hb ht
  go_region_held3 (fun w' => w'.cell? ⟨P, 0, none⟩ = some (.pointer (some ⟨D, 0, none⟩)) ∧ w'.cell? ⟨D, 0, none⟩ = some (.pointer (some ⟨T, 0, none⟩)) ∧ w'.cell? ⟨K, 0, none⟩ = some (.int .i64 k)) (go_keep)
    (first | (go_at_call 49; refine (acquire_calls T C R k t _ (HT.out.drew)).mono ?_; rintro e w1 ⟨rfl, ht1, hf1⟩; have HF1 : Hid (Fr [T, C, R] w.drew w1) := hf1; have HT1 : Hid (TabAt w1 T C R (t.acq k).1) := ht1; have u1 := hf1.cellv (b := P) (o := 0) cp (by have := HO.out; simp; omega); have u2 := hf1.cellv (b := D) (o := 0) b0 (by simp [sp.DT, sp.DC, sp.DR]); have u3 := hf1.cellv (b := K) (o := 0) ck (by have := HO.out; simp; omega); clear hf1 ht1))
  rename_i hHeld
  clear hHeld
  have oo := HO.out
  have hdN : w1.cell? ⟨N, 0, none⟩ = some (.int .i64 n) := HF1.out.cellv (w := w.drew) cn (by simp; omega)
  have hdE : w1.cell? ⟨E, 0, none⟩ = some (.int .i64 0) := HF1.out.cellv (w := w.drew) ce (by simp; omega)
  have lN := lt_of_cell cn
  have lE := lt_of_cell ce
  have ffN : w1.frozen? ⟨N, 0, none⟩ = false := HF1.out.frozenv (w := w.drew) fn (by simpa using lN) (by simp; omega)
  have ffE : w1.frozen? ⟨E, 0, none⟩ = false := HF1.out.frozenv (w := w.drew) fe (by simpa using lE) (by simp; omega)
  have hb1 := HB.out.drew.keepT sp HF1.out
  have v1 := hb1.d1
  have cb := hb1.cb k hk
  obtain ⟨q0, q1⟩ := hb1.bb k hk
  have HG : Hid (Fr [T, C, R, N, E] w w1) := ((Fr.refl _ _).drew.trans (B := [T, C, R, N, E]) HF1.out (fun x _ hx => by simp at hx ⊢; omega))
  have nEN : ¬ E = N := by omega
  have nNE : ¬ N = E := by omega
  have nNP : ¬ N = P := by omega
  have nNK : ¬ N = K := by omega
  have nND : ¬ N = D := by omega
  have nNB : ¬ N = B := by omega
  clear oo hb1 cp ck cn ce fn fe b0 lN lE HB HT HF1
  generalize hh1 : (t.acq k).2.1 = h1 at *
  generalize hh2 : (t.acq k).1 = t1 at *
  generalize hh3 : (t.acq k).2.2 = e1 at *
  have HP : Hid (t.acq k = (t1, h1, e1)) := by show _ = _; rw [← hh1, ← hh2, ← hh3]
  clear hh1 hh2 hh3
  by_cases he : e1 = 0
  · subst he
    go_wp2_with fail
    go_region
    go_wp2_with fail
    have hct : c1t t k = (t1.rel h1).1 := by simp [c1t, HP.out]
    have hcn : c1n t bal k n = n + V.bl bal k := by simp [c1n, HP.out]
    rw [hct, hcn, HP.out]
    refine leaves_cons (f := 50) (args := #[.pointer (some ⟨T, 0, none⟩), .int .i64 h1]) (by simp) (by simp [go_sem]) ?_
    have c0 : ((w1.setCell ⟨N, 0, none⟩ (.int .i64 (n + V.bl bal k))).drew).cell? ⟨N, 0, none⟩ = some (.int .i64 (n + V.bl bal k)) := by simp [cell_set, *]
    have c1 : ((w1.setCell ⟨N, 0, none⟩ (.int .i64 (n + V.bl bal k))).drew).cell? ⟨E, 0, none⟩ = some (.int .i64 0) := by simp [cell_set, *]
    have tW := (HT1.out.setB (b := N) (o := 0) (.int .i64 (n + V.bl bal k)) (by have := HO.out; omega) (by have := HO.out; omega) (by have := HO.out; omega)).drew
    have gW := (HG.out.setCell (p := ⟨N, 0, none⟩) (by simp) (.int .i64 (n + V.bl bal k))).drew
    generalize (w1.setCell ⟨N, 0, none⟩ (.int .i64 (n + V.bl bal k))).drew = W at *
    refine ((release_both T C R h1 t1 W tW).2 _).mono ?_
    rintro e u w3 ⟨rfl, rfl, t3, f3⟩
    exact ⟨.tuple #[], results_none rfl _ _ _, rfl, t3, f3.cellv c0 (by have := HO.out; simp; omega), f3.cellv c1 (by have := HO.out; simp; omega), gW.trans f3 (fun x _ hx => by simp at hx ⊢; omega)⟩
  · have he' : (e1 != 0) = true := by simpa using he
    go_wp2_with fail
    have hct : c1t t k = t1 := by simp [c1t, HP.out, he]
    have hcn : c1n t bal k n = 0 := by simp [c1n, HP.out, he]
    rw [hct, hcn, HP.out]
    refine ⟨.tuple #[], results_none rfl _ _ _, rfl, ?_, ?_, ?_, ?_⟩
    · exact (HT1.out.setB _ (by have := HO.out; omega) (by have := HO.out; omega) (by have := HO.out; omega)).setB _ (by have := HO.out; omega) (by have := HO.out; omega) (by have := HO.out; omega)
    · simp [cell_set, *]
    · simp [cell_set, *]
    · exact (HG.out.setCell (by simp) _).setCell (by simp) _
end Go.Proofs.Qxb6500360a
