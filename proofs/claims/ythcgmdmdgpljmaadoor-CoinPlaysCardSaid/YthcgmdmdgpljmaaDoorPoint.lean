/- The laws' points of few. -/
import Derived.Test.YthcgmdmdgpljmaaDoorPtCmp
set_option linter.unusedVariables false
set_option linter.unusedSimpArgs false
set_option linter.unusedSectionVars false
set_option maxRecDepth 100000
set_option maxHeartbeats 4000000
namespace Go.Proofs.YthcgmdmdgpljmaaDoor.Z
open Go Go.RowKit

def ptC (b c : UInt8) (vo : UInt32) : Array Value := (u8 b :: (List.replicate 30 (u8 0) ++ [u8 c, u32 vo])).toArray
theorem ptC_eq (b c : UInt8) (vo : UInt32) : ptC b c vo = (Pt.mk (prevOf b c) vo).cells.toArray := by
  simp [ptC, Pt.cells, prevOf, B32.cells]
theorem Point_ok (n : Int) (w : World) : Ret P 15 #[.int .i64 n] w (fun r w' => Ext w w' ∧ ∃ p : Pt, r = p.v) := by
  refine Ret.enter1 Tryd.func15 rfl Tryd.ntmps15 rfl ?_
  refine ZC.seq ?_; refine ZC.region ?_
  refine ZL.alloc (Mem.start w No) rfl rfl (fun b2 w1 M1 => ?_)
  refine ZL.nil ?_; refine ZP.then ?_; refine ZC.seq ?_; refine ZC.region ?_; refine ZL.val (r_move rfl) rfl ?_; refine ZL.val (r_and rfl rfl rfl) rfl ?_; refine ZL.val (r_toU rfl) rfl ?_
  refine ZL.val (r_buildOne rfl rfl (cs := (ptC 0 0 _).toList) rfl) rfl ?_
  refine ZL.alloc M1 rfl rfl (fun b3 w2 M2 => ?_)
  refine ZL.stW M2 rfl rfl (cs' := ptC 0 0 _) rfl (by rfl) (by rfl) (by rfl) (fun w3 M3 => ?_)
  refine ZL.nil ?_; refine ZP.then ?_; refine ZC.seq ?_; refine ZC.region ?_; refine ZL.val (r_move rfl) rfl ?_; refine ZL.val (r_shr rfl rfl (by omega) rfl) rfl ?_; refine ZL.val (r_and rfl rfl rfl) rfl ?_; refine ZL.val (r_toB rfl) rfl ?_; refine ZL.val (r_move rfl) rfl ?_; refine ZL.val (r_shr rfl rfl (by omega) rfl) rfl ?_; refine ZL.val (r_and rfl rfl rfl) rfl ?_; refine ZL.val (r_toB rfl) rfl ?_; refine ZL.val (r_fieldAddr rfl) rfl ?_
  refine ZL.val (r_idxA 0 rfl rfl rfl (by decide)) rfl ?_
  refine ZL.st M3 rfl rfl (cs' := ptC _ 0 _) rfl rfl (fun w4 M4 => ?_)
  refine ZL.val (r_fieldAddr rfl) rfl ?_
  refine ZL.val (r_idxA 31 rfl rfl rfl (by decide)) rfl ?_
  refine ZL.st M4 rfl rfl (cs' := ptC _ _ _) rfl rfl (fun w5 M5 => ?_)
  refine ZL.nil ?_; refine ZP.then ?_; refine ZC.seq ?_; refine ZC.region ?_
  refine ZL.val (r_ldW M5 rfl (by rfl)) rfl ?_
  refine ZL.stW M5 rfl rfl (cs' := ptC _ _ _) rfl (by rfl) (by rfl) (by rfl) (fun w6 M6 => ?_)
  refine ZL.nil ?_; refine ZP.then ?_; refine ZC.ret ?_
  exact ZP.retC rfl rfl (M6.get inferInstance) rfl ⟨M6.ext, _, congrArg Value.agg (ptC_eq _ _ _)⟩
end Go.Proofs.YthcgmdmdgpljmaaDoor.Z
