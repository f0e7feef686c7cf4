/- The same judgements where a loop over a function's values is on its way: over wpIn, in the wide fence or in a round of it. -/
import Derived.Test.YthcgmdmdgpljmaaDoorUnmake
import Derived.RangeFuncNested
import Derived.RangeFuncCalls
import Derived.RangeFuncLeaves
import Derived.RangeFuncBound
import Derived.OwnWalkIn
import Derived.TacticsIn
set_option linter.unusedVariables false
set_option linter.unusedSimpArgs false
set_option linter.unusedSectionVars false
namespace Go.Proofs.YthcgmdmdgpljmaaDoor.Z
open Go Go.RowKit

/-- The wide fence, or a round in it. -/
class WF (F : Fence) : Prop where
  h : F = Fence.wide ∨ ∃ l, F = Fence.wide.inRound l
instance : WF Fence.wide := ⟨.inl rfl⟩
instance (l : Nat) : WF (Fence.wide.inRound l) := ⟨.inr ⟨l, rfl⟩⟩
theorem WF.fn {F : Fence} [h : WF F] : ∀ f, F.fn f := by
  rcases h.h with rfl | ⟨l, rfl⟩
  · exact fun _ => trivial
  · exact fun _ => trivial
theorem WF.depth {F : Fence} [h : WF F] : F.depth = none := by
  rcases h.h with rfl | ⟨l, rfl⟩ <;> rfl
theorem WF.calls {F : Fence} [h : WF F] {n : Nat} {P : Program} {f : FuncId} {args : Array Value} {w : World} {R : Ending → World → Prop} (hc : Calls P f args w R) : CallsIn F n P f args w R := by
  rcases h.h with rfl | ⟨l, rfl⟩
  · exact callsIn_wide.2 hc
  · exact CallsIn.inRound l (callsIn_wide.2 hc)

structure YL (F : Fence) (m : Nat) (P : Program) (n : Nat) (ops : Array Oper) (Q : Post) (l : List Oper) (σ : Env) (w : World) : Prop where
  h : ∀ a, FR n σ a → wpListIn F m P ops Q l a w
structure YC (F : Fence) (m : Nat) (P : Program) (n : Nat) (Q : Post) (c : Code) (σ : Env) (w : World) : Prop where
  h : ∀ a, FR n σ a → c.wpIn F m P Q a w

def noDefer : Op → Bool
  | .defer _ => false
  | _ => true
theorem noDefer_spec {o : Oper} (h : noDefer o.op = true) : ∀ c, o.op ≠ .defer c := by
  intro c hc; rw [hc] at h; cases h

section
variable {F : Fence} [WF F] {m : Nat} {P : Program} {n : Nat} {ops : Array Oper} {Q : Post} {rest : List Oper} {σ : Env} {w : World}
theorem YL.nil (h : ZP n Q .normal σ w) : YL F m P n ops Q [] σ w := ⟨fun a ha => wpListIn_nil (h.h a ha)⟩
theorem YL.vw {d : Nat} {op : Op} {ty : TypeId} {pos : String} {after : Array Edge} {v : Value} {w' : World} (hv : VW P σ op v w w') (hd : Nat.blt d n = true)
    (h : YL F m P n ops Q rest ((d, v) :: σ) w') (hn : noDefer op = true := by rfl) : YL F m P n ops Q (⟨some d, op, ty, pos, after, none⟩ :: rest) σ w := by
  refine ⟨fun a ha => wpListIn_plain rfl fun K hK => ?_⟩
  unfold Oper.wpIn
  refine ⟨fun f _ => WF.fn f, ?_⟩
  rw [Oper.semAt_plain F _ _ (noDefer_spec hn), hv.h a.eval ha.ag _ rfl]
  exact hK _ _ (h.h _ (ha.put hd))
theorem YL.val {d : Nat} {op : Op} {ty : TypeId} {pos : String} {after : Array Edge} {v : Value} (hv : V P σ op v w) (hd : Nat.blt d n = true)
    (h : YL F m P n ops Q rest ((d, v) :: σ) w) (hn : noDefer op = true := by rfl) : YL F m P n ops Q (⟨some d, op, ty, pos, after, none⟩ :: rest) σ w := YL.vw hv.vw hd h hn
theorem YL.unit {op : Op} {ty : TypeId} {pos : String} {after : Array Edge} {w' : World} (hv : UW P σ op w w')
    (h : YL F m P n ops Q rest σ w') (hn : noDefer op = true := by rfl) : YL F m P n ops Q (⟨none, op, ty, pos, after, none⟩ :: rest) σ w := by
  refine ⟨fun a ha => wpListIn_plain rfl fun K hK => ?_⟩
  unfold Oper.wpIn
  refine ⟨fun f _ => WF.fn f, ?_⟩
  rw [Oper.semAt_plain F _ _ (noDefer_spec hn), hv.h a.eval ha.ag _ rfl]
  exact hK _ _ (h.h _ ha)
theorem YL.call {d : Nat} {op : Op} {ty : TypeId} {pos : String} {after : Array Edge} {f : FuncId} {args : Array Value} {R : Value → World → Prop}
    (hv : EN P σ op f args w) (hd : Nat.blt d n = true) (hc : Ret P f args w R)
    (h : ∀ v w', R v w' → YL F m P n ops Q rest ((d, v) :: σ) w') (hn : noDefer op = true := by rfl) : YL F m P n ops Q (⟨some d, op, ty, pos, after, none⟩ :: rest) σ w := by
  refine ⟨fun a ha => wpListIn_plain rfl fun K hK => ?_⟩
  unfold Oper.wpIn
  refine ⟨fun f _ => WF.fn f, ?_⟩
  rw [Oper.semAt_plain F _ _ (noDefer_spec hn), hv.h a.eval ha.ag _ rfl]
  refine ⟨(fun hd => by rw [WF.depth] at hd; cases hd), WF.calls (Calls.mono hc.h ?_)⟩
  rintro e w' ⟨v, rfl, hr⟩
  exact hK _ _ ((h _ _ hr).h _ (ha.put hd))
/-- A round of the loop is run. -/
theorem YL.yield {d : Nat} {op : Op} {ty : TypeId} {pos : String} {after : Array Edge} {l : Nat} {args : Array Value} {R : Ending → World → Prop}
    (hy : YieldAt F (m - 1) P l args w R) (hd : Nat.blt d n = true) (hop : ∀ ρ, Ag ρ σ → ∀ o : Oper, o.op = op → (execOp ρ o).run P w = (Instr.yield l args).run P w)
    (h : ∀ e w', R e w' → ∃ v, e = .returned v ∧ YL F m P n ops Q rest ((d, v) :: σ) w') (hn : noDefer op = true := by rfl) : YL F m P n ops Q (⟨some d, op, ty, pos, after, none⟩ :: rest) σ w := by
  refine ⟨fun a ha => wpListIn_plain rfl fun K hK => ?_⟩
  obtain ⟨fn, tmps, assign, body, hr, hR⟩ := hy
  unfold Oper.wpIn
  refine ⟨fun f _ => WF.fn f, ?_⟩
  rw [Oper.semAt_plain F _ _ (noDefer_spec hn), hop a.eval ha.ag _ rfl, hr]
  refine ⟨(fun hd => by rw [WF.depth] at hd; cases hd), hR.mono ?_⟩
  intro e w' hRe
  obtain ⟨v, rfl, hy⟩ := h e w' hRe
  exact hK _ _ (hy.h _ (ha.put hd))

theorem YC.region {id : Nat} {l : List Oper} (h : YL F m P n l.toArray Q l σ w) : YC F m P n Q (.region id l.toArray false) σ w := ⟨fun a ha => wpIn_region_lit (h.h a ha)⟩
theorem YC.seq {x y : Code} (h : YC F m P n (Exit.then (y.wpIn F m P Q) Q) x σ w) : YC F m P n Q (.seq x y) σ w := ⟨fun a ha => wpIn_seq (h.h a ha)⟩
theorem YC.skip (h : ZP n Q .normal σ w) : YC F m P n Q .skip σ w := ⟨fun a ha => wpIn_skip (h.h a ha)⟩
theorem YC.ret (h : ZP n Q .ret σ w) : YC F m P n Q .ret σ w := ⟨fun a ha => wpIn_ret (h.h a ha)⟩
theorem YC.exit {id : Nat} (h : ZP n Q (.exit id) σ w) : YC F m P n Q (.exit id) σ w := ⟨fun a ha => wpIn_exit (h.h a ha)⟩
theorem YC.block {id : Nat} {c : Code} (h : YC F m P n (Exit.inBlock id Q) c σ w) : YC F m P n Q (.block id c) σ w := ⟨fun a ha => wpIn_block (h.h a ha)⟩
theorem YC.cond {c : Operand} {x y : Code} {t : Bool} (hc : ev σ c = some (.bool t)) (ht : t = true → YC F m P n Q x σ w) (hf : t = false → YC F m P n Q y σ w) :
    YC F m P n Q (.cond c x y) σ w := ⟨fun a ha => wpIn_cond_split (ha.ag c _ hc) (fun h => (ht h).h a ha) (fun h => (hf h).h a ha)⟩
theorem YP.then {y : Code} (h : YC F m P n Q y σ w) : ZP n (Exit.then (y.wpIn F m P Q) Q) .normal σ w := ⟨h.h⟩
end
end Go.Proofs.YthcgmdmdgpljmaaDoor.Z
