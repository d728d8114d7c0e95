/-
  L2: the real ledger: Census, its loop.
-/
import Derived.Test.Qxb6500360aCe
import Derived.Deep.LoopGhost
namespace Go.Proofs.Qxb6500360a
open Go.RowKit
set_option linter.unusedSimpArgs false
set_option linter.unusedVariables false

/-- Ahead of a round of Census: account j is next; g rounds at most are to come. -/
structure CenInv (w : World) (P N E D T C R B L : Nat) (d : V.Ld) (g K j : Nat) (t : V.Tb) (n e : Int) (wr : World) : Prop where
  cp : wr.cell? ⟨P, 0, none⟩ = some (.pointer (some ⟨D, 0, none⟩))
  ck : wr.cell? ⟨K, 0, none⟩ = some (.int .i64 j)
  cn : wr.cell? ⟨N, 0, none⟩ = some (.int .i64 n)
  ce : wr.cell? ⟨E, 0, none⟩ = some (.int .i64 e)
  fn : wr.frozen? ⟨N, 0, none⟩ = false
  fe : wr.frozen? ⟨E, 0, none⟩ = false
  fk : wr.frozen? ⟨K, 0, none⟩ = false
  hb : BkAt wr D T B L d.bal [] d.und
  ht : TabAt wr T C R t
  hg : j + g = 4
  hn : 0 ≤ n ∧ n ≤ 250 * (j : Int)
  he : (e = 0 ∧ V.cenGo d.bal 4 d.t.clear 0 0 = V.cenGo d.bal g t j n) ∨ (¬ e = 0 ∧ V.cenGo d.bal 4 d.t.clear 0 0 = (t, n, e))
  ho : D < P ∧ T < P ∧ C < P ∧ R < P ∧ B < P ∧ L < P ∧ P < N ∧ N < E ∧ E < K
  fr : Fr [D, T, C, R, B, L] w wr
  hw : w.heap.size ≤ P

set_option maxHeartbeats 2000000 in
set_option maxRecDepth 100000 in
theorem census_calls (D T C R B L : Nat) (d : V.Ld) (w : World) (h : LdAt w D T C R B L d) :
    Calls Try.prog 57 #[.pointer (some ⟨D, 0, none⟩)] w fun e w' => e = .returned (.tuple #[.int .i64 d.census.2.1, .int .i64 d.census.2.2]) ∧ LdAt w' D T C R B L d.census.1 ∧ Fr [D, T, C, R, B, L] w w' := by
  have d0 := h.bk.d0
  have HH : Hid (LdAt w D T C R B L d) := h
  have lD := h.bk.lD
  have lB := h.bk.lB
  have lL := h.bk.lL
  have lT := h.tb.lT
  have lC := h.tb.lC
  have lR := h.tb.lR
  have hmf : ∀ (fn : Fn) (first cap : Array Value) (w : World), (Instr.makeFunc fn first cap).run Try.prog w = .ok (.func fn first cap) w := fun _ _ _ _ => rfl
  clear h
  go_enter Try.func57, Try.ntmps57
  have lD1 : D < w.heap.size + 1 := by omega
  have lD2 : D < w.heap.size + 1 + 1 := by omega
  have lD3 : D < w.heap.size + 2 := by omega
  go_wp2_with fail
  refine (clear_calls T C R d.t _ (((HH.out.tb.alloc _).alloc _).alloc _)).mono ?_
  rintro e w1 ⟨rfl, ht1, hf1⟩
  have k0 : w1.cell? ⟨w.heap.size, 0, none⟩ = some (.pointer (some ⟨D, 0, none⟩)) := by rw [hf1.cell (by simp; omega) (by simp; omega)]; simp [go_sem]
  have k1 : w1.cell? ⟨w.heap.size + 1, 0, none⟩ = some (.int .i64 0) := by rw [hf1.cell (by simp) (by simp; omega)]; simp [go_sem]
  have k2 : w1.cell? ⟨w.heap.size + 1 + 1, 0, none⟩ = some (.int .i64 0) := by rw [hf1.cell (by simp) (by simp; omega)]; simp [go_sem]
  have g1 : w1.frozen? ⟨w.heap.size + 1, 0, none⟩ = false := by rw [hf1.frozen (by simp) (by simp; omega)]; simp [go_sem]
  have g2 : w1.frozen? ⟨w.heap.size + 1 + 1, 0, none⟩ = false := by rw [hf1.frozen (by simp) (by simp; omega)]; simp [go_sem]
  have hb1 := ((((HH.out.bk.alloc _).alloc _).alloc _)).keepT HH.out.sp hf1
  have HB1 : Hid (BkAt w1 D T B L d.bal [] d.und) := hb1
  have HT1 : Hid (TabAt w1 T C R d.t.clear) := ht1
  have HF1 : Hid (Fr [D, T, C, R, B, L] w w1) := ((((Fr.refl _ _).alloc _).alloc _).alloc _).trans hf1.wide (fun _ _ h => h)
  have hz : w.heap.size + 1 + 1 < w1.heap.size := lt_of_cell k2
  clear ht1 hf1 hb1 d0 lD1 lD2 lD3
  generalize hE : w.heap.size + 1 + 1 = E at k2 g2 hz ⊢
  generalize hN : w.heap.size + 1 = N at k1 g1 ⊢
  generalize hP : w.heap.size = P at k0 ⊢
  have HO : Hid (D < P ∧ T < P ∧ C < P ∧ R < P ∧ B < P ∧ L < P ∧ P < N ∧ N < E ∧ E < w1.heap.size ∧ w.heap.size ≤ P) := by refine ⟨?_, ?_, ?_, ?_, ?_, ?_, ?_, ?_, ?_, ?_⟩ <;> omega
  clear hE hN hP lD lB lL lT lC lR
  go_wp2_with fail
  go_loopg [4] 4 (fun g s wr => ∃ (K j : Nat) (t : V.Tb) (n e : Int), s = .pointer (some ⟨K, 0, none⟩) ∧ CenInv w P N E D T C R B L d g K j t n e wr)
  case atStart =>
    have o := HO.out
    refine ⟨w1.heap.size, 0, d.t.clear, 0, 0, rfl, ?_⟩
    refine ⟨?_, ?_, ?_, ?_, ?_, ?_, ?_, HB1.out.alloc _, HT1.out.alloc _, rfl, by simp, .inl ⟨rfl, rfl⟩, ?_, HF1.out.alloc _, o.2.2.2.2.2.2.2.2.2⟩
    · rw [cell_alloc _ _ _ _ (lt_of_cell k0)]; exact k0
    · simp [go_sem]
    · rw [cell_alloc _ _ _ _ (lt_of_cell k1)]; exact k1
    · rw [cell_alloc _ _ _ _ (lt_of_cell k2)]; exact k2
    · rw [frozen_alloc _ _ _ _ (lt_of_cell k1)]; exact g1
    · rw [frozen_alloc _ _ _ _ (lt_of_cell k2)]; exact g2
    · simp [go_sem]
    · omega
  case round =>
    obtain ⟨K, j, t, n, e, rfl, hi⟩ := hrel
    have HI : Hid (CenInv w P N E D T C R B L d gk K j t n e wr) := hi
    have ck := hi.ck
    have ce := hi.ce
    have cn := hi.cn
    have fn := hi.fn
    have fe := hi.fe
    have fk := hi.fk
    have hg := hi.hg
    clear k0 k1 k2 g1 g2 hz HB1 HT1 HF1 hi
    by_cases hc : j < 4 ∧ e = 0
    · obtain ⟨hj, rfl⟩ := hc
      go_wp2_with fail
      have hi := HI.out
      refine (census1_calls P K N E D T C R B L j n d.bal d.und t wr hi.hb hi.ht HH.out.sp hi.cp hi.ck hi.cn hi.ce hi.fn hi.fe hj ⟨hi.hn.1, by have := hi.hn.2; omega⟩ hi.ho).mono ?_
      rintro e w2 ⟨rfl, ht2, c2n, c2e, hf2⟩
      have o := hi.ho
      have c2k : w2.cell? ⟨K, 0, none⟩ = some (.int .i64 j) := hf2.cellv hi.ck (by simp; omega)
      have c2p : w2.cell? ⟨P, 0, none⟩ = some (.pointer (some ⟨D, 0, none⟩)) := hf2.cellv hi.cp (by simp; omega)
      have f2n : w2.frozen? ⟨N, 0, none⟩ = false := (hf2.frz _ _ (lt_of_cell hi.cn)).trans hi.fn
      have f2e : w2.frozen? ⟨E, 0, none⟩ = false := (hf2.frz _ _ (lt_of_cell hi.ce)).trans hi.fe
      have HB2 : Hid (BkAt w2 D T B L d.bal [] d.und) := hi.hb.keep hf2 (by have := HH.out.sp; simp [this.DT, this.DC, this.DR]; omega) (by have := HH.out.sp; simp [this.BT, this.BC, this.BR]; omega) (by have := HH.out.sp; simp [this.LT, this.LC, this.LR]; omega)
      have HT2 : Hid (TabAt w2 T C R (c1t t j)) := ht2
      have HF2 : Hid (Fr [D, T, C, R, B, L] w w2) := hi.fr.trans hf2 (fun x hx hm => by have := hi.hw; simp at hm ⊢; omega)
      have lK2 := lt_of_cell c2k
      have nK1 : ¬ K = w2.heap.size := by omega
      have HP2 : Hid (w2.cell? ⟨P, 0, none⟩ = some (.pointer (some ⟨D, 0, none⟩)) ∧ w2.cell? ⟨N, 0, none⟩ = some (.int .i64 (c1n t d.bal j n)) ∧ w2.cell? ⟨E, 0, none⟩ = some (.int .i64 (t.acq j).2.2) ∧ w2.frozen? ⟨N, 0, none⟩ = false ∧ w2.frozen? ⟨E, 0, none⟩ = false) := ⟨c2p, c2n, c2e, f2n, f2e⟩
      have hj9 : (j : Int) < 9 := by omega
      clear hi hf2 ht2 c2n c2e c2p f2n f2e ck ce cn fn fe fk o
      go_wp2_with fail
      go_roundg (gk - 1)
      case measure => omega
      case rel =>
        have hi := HI.out
        have o := hi.ho
        obtain ⟨c2p, c2n, c2e, f2n, f2e⟩ := HP2.out
        refine ⟨w2.heap.size, j + 1, c1t t j, c1n t d.bal j n, (t.acq j).2.2, rfl, ?_⟩
        refine ⟨?_, ?_, ?_, ?_, ?_, ?_, ?_, HB2.out.alloc _, HT2.out.alloc _, by omega, ?_, ?_, by omega, HF2.out.alloc _, hi.hw⟩
        · rw [cell_alloc _ _ _ _ (lt_of_cell c2p)]; exact c2p
        · simp [go_sem]
        · rw [cell_alloc _ _ _ _ (lt_of_cell c2n)]; exact c2n
        · rw [cell_alloc _ _ _ _ (lt_of_cell c2e)]; exact c2e
        · rw [frozen_alloc _ _ _ _ (lt_of_cell c2n)]; exact f2n
        · rw [frozen_alloc _ _ _ _ (lt_of_cell c2e)]; exact f2e
        · simp [go_sem]
        · have := hi.hb.bb j hj
          have := hi.hn
          unfold c1n
          split <;> omega
        · rcases hi.he with ⟨_, h2⟩ | ⟨h2, _⟩
          · obtain ⟨g', rfl⟩ : ∃ g', gk = g' + 1 := ⟨gk - 1, by omega⟩
            rw [h2]
            simp only [V.cenGo, Nat.add_sub_cancel, c1t, c1n]
            by_cases hz : (t.acq (j : Int)).2.2 = 0
            · exact .inl ⟨hz, by simp [hz]⟩
            · exact .inr ⟨hz, by simp [hz]⟩
          · exact absurd rfl h2
    · have hres : V.cenGo d.bal 4 d.t.clear 0 0 = (t, n, e) := by
        have hi := HI.out
        rcases hi.he with ⟨h1, h2⟩ | ⟨h1, h2⟩
        · subst h1
          have : gk = 0 := by have := hi.hg; omega
          subst this
          rw [h2]; rfl
        · exact h2
      have HR : Hid (d.census = ({ d with t := t }, n, e)) := by show _ = _; simp [V.Ld.census, hres]
      have hNE : ¬ N = E := by have := HO.out; omega
      have hEN : ¬ E = N := by have := HO.out; omega
      have HS : Hid (LdAt ((wr.setCell ⟨N, 0, none⟩ (.int .i64 n)).setCell ⟨E, 0, none⟩ (.int .i64 e)).drew D T C R B L { d with t := t } ∧ Fr [D, T, C, R, B, L] w ((wr.setCell ⟨N, 0, none⟩ (.int .i64 n)).setCell ⟨E, 0, none⟩ (.int .i64 e)).drew) := by
        have hi := HI.out
        have o := hi.ho
        have hw := hi.hw
        refine ⟨⟨((hi.hb.setB _ (by omega) (by omega) (by omega)).setB _ (by omega) (by omega) (by omega)).drew, ((hi.ht.setB _ (by omega) (by omega) (by omega)).setB _ (by omega) (by omega) (by omega)).drew, HH.out.sp, HH.out.sum⟩, ((hi.fr.setB (fun h => by omega) _).setB (fun h => by omega) _).drew⟩
      clear hres
      by_cases hj : j < 4
      · have he : (e == 0) = false := by simp; intro h; exact hc ⟨hj, h⟩
        go_wp2_with fail
        go_region
        go_wp2_with fail
        refine bodyPost_ret (v := .tuple #[.int .i64 n, .int .i64 e]) (by simp [results, Try.results57, go_sem, cell_set, *]) rfl ?_
        rw [HR.out]
        exact ⟨rfl, HS.out.1, HS.out.2⟩
      · go_wp2_with fail
        go_region
        go_wp2_with fail
        refine bodyPost_ret (v := .tuple #[.int .i64 n, .int .i64 e]) (by simp [results, Try.results57, go_sem, cell_set, *]) rfl ?_
        rw [HR.out]
        exact ⟨rfl, HS.out.1, HS.out.2⟩
end Go.Proofs.Qxb6500360a
