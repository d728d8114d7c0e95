/-
  A deferred function that opens with recover(): the law, and its two uses.
-/
import Derived.Test.Qxb6500360aBa
import Derived.Defers
import Derived.Recover
namespace Go.Proofs.Qxb6500360a
open Go.RowKit

theorem bodyPost_S {P : Program} {fn : Func} {R : Ending → World → Prop} {c₀ : Frame} {cs : List Frame} {u' : FrameMode} {e : Exit} {a : Act} {w : World} (h : bodyPost P fn R e a w) :
    bodyPostS P fn c₀ cs (fun e u'' w' => u'' = u' ∧ R e w') e a ({ c₀ with mode := u' } :: cs) w := by
  cases e with
  | normal => obtain ⟨hd, v, hr, hR⟩ := h; exact ⟨hd, u', rfl, v, hr, rfl, hR⟩
  | ret => obtain ⟨hd, v, hr, hR⟩ := h; exact ⟨hd, u', rfl, v, hr, rfl, hR⟩
  | panic chain => obtain ⟨hd, hR⟩ := h; exact ⟨hd, u', rfl, rfl, hR⟩
  | outgrown => exact ⟨u', rfl, h⟩
  | exit id => exact h.elim
  | goto l => exact h.elim

/-- What recover() hands back, and the mode behind it, of a frame in the mode u. -/
def RecAt (u : FrameMode) (v : Value) (u' : FrameMode) : Prop :=
  ∀ (c₀ : Frame) (cs : List Frame), c₀.mode = u → (recoverD (c₀ :: cs) = some (v, { c₀ with mode := u' } :: cs)) ∨ (recoverD (c₀ :: cs) = none ∧ v = .nilIface ∧ u' = u)
theorem recAt_idle : RecAt .returning .nilIface .returning := by
  intro c₀ cs h
  exact .inr ⟨by simp [recoverD, h], rfl, rfl⟩
theorem recAt_panic (v : Value) (older : List PanicEntry) : RecAt (.panicking ({ v := v, recovered := false } :: older)) v (.panicking ({ v := v, recovered := true } :: older)) := by
  intro c₀ cs h
  exact .inl (by simp [recoverD, h])

theorem callsD_rec1 {P : Program} {f : FuncId} {fn : Func} {id : Nat} {d : Tmp} {ty : TypeId} {pos : String} {rest : Code} {args : Array Value} {w : World} {R : Ending → World → Prop} {u u' : FrameMode} {v : Value}
    (hr : RecAt u v u') (hf : P.funcs[f]? = some fn)
    (hb : fn.body = some (.seq (.region id #[{ dst := some d, op := .call { callee := .builtin .recover, args := #[], argTypes := #[] }, type := ty, pos := pos, after := #[], guard := none }] false) rest))
    (h : rest.wp P (bodyPost P fn R) { tmps := (args ++ Array.replicate (fn.ntmps - args.size) undef).setIfInBounds d v, defers := [] } w) :
    CallsD P f args u w fun e u'' w' => u'' = u' ∧ R e w' := by
  refine callsD_of_wpS hf hb fun c₀ cs hu => ?_
  refine wpS_seq ?_
  refine wpS_region ?_
  rcases hr c₀ cs hu with hq | ⟨hq, rfl, rfl⟩
  · have hgoal : Code.wpS P rest (bodyPostS P fn c₀ cs (fun e u'' w' => u'' = u' ∧ R e w')) { tmps := (args ++ Array.replicate (fn.ntmps - args.size) undef).setIfInBounds d v, defers := [] } ({ c₀ with mode := u' } :: cs) w :=
      wpS_of_wp (Code.wp_mono (fun e a w hh => bodyPost_S hh) h)
    simpa [wpOpsS, List.range_succ, go_sem, hq, Exit.thenS, Act.put] using hgoal
  · have hc : ({ c₀ with mode := u' } : Frame) = c₀ := by subst hu; rfl
    have hgoal : Code.wpS P rest (bodyPostS P fn c₀ cs (fun e u'' w' => u'' = u' ∧ R e w')) { tmps := (args ++ Array.replicate (fn.ntmps - args.size) undef).setIfInBounds d .nilIface, defers := [] } (c₀ :: cs) w :=
      wpS_of_wp (Code.wp_mono (fun e a w hh => by have := bodyPost_S (c₀ := c₀) (cs := cs) (u' := u') hh; rw [hc] at this; exact this) h)
    simpa [wpOpsS, List.range_succ, go_sem, hq, Exit.thenS, Act.put] using hgoal

theorem callsD_rec2 {P : Program} {f : FuncId} {fn : Func} {id : Nat} {d d2 : Tmp} {ty ty2 : TypeId} {pos pos2 : String} {af : Array Edge} {rest : Code} {args : Array Value} {w : World} {R : Ending → World → Prop} {u u' : FrameMode} {v : Value}
    (hr : RecAt u v u') (hf : P.funcs[f]? = some fn) (hd : d < (args ++ Array.replicate (fn.ntmps - args.size) undef).size)
    (hb : fn.body = some (.seq (.region id #[{ dst := some d, op := .call { callee := .builtin .recover, args := #[], argTypes := #[] }, type := ty, pos := pos, after := #[], guard := none }, { dst := some d2, op := .assign (.tmp d), type := ty2, pos := pos2, after := af, guard := none }] false) rest))
    (h : rest.wp P (bodyPost P fn R) { tmps := ((args ++ Array.replicate (fn.ntmps - args.size) undef).setIfInBounds d v).setIfInBounds d2 v, defers := [] } w) :
    CallsD P f args u w fun e u'' w' => u'' = u' ∧ R e w' := by
  refine callsD_of_wpS hf hb fun c₀ cs hu => ?_
  refine wpS_seq ?_
  refine wpS_region ?_
  generalize args ++ Array.replicate (fn.ntmps - args.size) undef = tm at *
  rcases hr c₀ cs hu with hq | ⟨hq, rfl, rfl⟩
  · have hgoal : Code.wpS P rest (bodyPostS P fn c₀ cs (fun e u'' w' => u'' = u' ∧ R e w')) { tmps := (tm.setIfInBounds d v).setIfInBounds d2 v, defers := [] } ({ c₀ with mode := u' } :: cs) w :=
      wpS_of_wp (Code.wp_mono (fun e a w hh => bodyPost_S hh) h)
    simpa [wpOpsS, List.range_succ, go_sem, hq, Exit.thenS, Act.put, Act.eval, hd] using hgoal
  · have hc : ({ c₀ with mode := u' } : Frame) = c₀ := by subst hu; rfl
    have hgoal : Code.wpS P rest (bodyPostS P fn c₀ cs (fun e u'' w' => u'' = u' ∧ R e w')) { tmps := (tm.setIfInBounds d .nilIface).setIfInBounds d2 .nilIface, defers := [] } (c₀ :: cs) w :=
      wpS_of_wp (Code.wp_mono (fun e a w hh => by have := bodyPost_S (c₀ := c₀) (cs := cs) (u' := u') hh; rw [hc] at this; exact this) h)
    simpa [wpOpsS, List.range_succ, go_sem, hq, Exit.thenS, Act.put, Act.eval, hd] using hgoal

end Go.Proofs.Qxb6500360a
