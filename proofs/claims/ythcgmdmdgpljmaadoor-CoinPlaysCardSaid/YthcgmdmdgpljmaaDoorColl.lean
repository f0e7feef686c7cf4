/- maps.Keys, slices.Collect. -/
import Derived.Test.YthcgmdmdgpljmaaDoorSeq
set_option linter.unusedVariables false
set_option linter.unusedSimpArgs false
set_option linter.unusedSectionVars false
set_option maxRecDepth 100000
set_option maxHeartbeats 4000000
namespace Go.Proofs.YthcgmdmdgpljmaaDoor.Z
open Go Go.RowKit

theorem Keys_ok (b : Nat) (w : World) : Ret P 27 #[.map (some b)] w
    (fun r w' => ∃ Bm, Mem w No [.blk Bm (.cells #[.map (some b)] 57)] w' ∧ r = .func (.func KF) #[] #[.pointer (some ⟨Bm, 0, none⟩)]) := by
  refine Ret.enter1 Tryd.func27 rfl Tryd.ntmps27 rfl ?_
  refine ZC.seq ?_; refine ZC.region ?_
  refine ZL.box (Mem.start w No) rfl rfl rfl (fun Bm w1 M1 => ?_)
  refine ZL.val (r_assign rfl) rfl ?_; refine ZL.nil ?_; refine ZP.then ?_; refine ZC.seq ?_; refine ZC.region ?_; refine ZL.val (r_makeFunc rfl rfl) rfl ?_; refine ZL.val (r_assign rfl) rfl ?_; refine ZL.nil ?_; refine ZP.then ?_; refine ZC.ret ?_
  exact ZP.ret1 rfl rfl ⟨Bm, M1, rfl⟩

theorem Collect_ok (Bm b : Nat) (m : CMap) (es : Array MapEntry) (clk : Nat) (fz : Nat × Nat) (w : World) (hBm : w.heap[Bm]? = some (.cells #[.map (some b)] 57 fz)) (hm : w.heap[b]? = some (.map es clk)) (hO : CObj m es clk) (hn : m.length ≤ 100000) :
    Ret P 33 #[.func (.func KF) #[] #[.pointer (some ⟨Bm, 0, none⟩)]] w (fun r w' => Ext w w' ∧ ∃ xs : List Pt, xs.Perm (m.map (·.1)) ∧ NewO w w' 41 33 r xs.length ((xs.map Pt.cells).flatten)) := by
  refine Ret.enter1 Tryd.func33 rfl Tryd.ntmps33 rfl ?_
  refine ZC.seq ?_; refine ZC.region ?_; refine ZL.val (r_assign rfl) rfl ?_; refine ZL.nil ?_; refine ZP.then ?_; refine ZC.seq ?_; refine ZC.region ?_; refine ZL.val (r_move rfl) rfl ?_
  refine ZL.call (r_call rfl) rfl (AppendSeq_ok Bm b m es clk fz w hBm hm hO hn) (fun v1 w1 h1 => ?_)
  refine ZL.val (r_assign rfl) rfl ?_; refine ZL.nil ?_; refine ZP.then ?_; refine ZC.ret ?_
  exact ZP.ret1 rfl rfl h1
end Go.Proofs.YthcgmdmdgpljmaaDoor.Z
