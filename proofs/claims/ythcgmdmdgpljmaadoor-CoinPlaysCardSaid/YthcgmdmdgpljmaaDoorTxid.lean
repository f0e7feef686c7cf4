/- A transaction's name. -/
import Derived.Test.YthcgmdmdgpljmaaDoorLaw3
set_option linter.unusedVariables false
set_option linter.unusedSimpArgs false
set_option linter.unusedSectionVars false
set_option maxRecDepth 100000
set_option maxHeartbeats 4000000
namespace Go.Proofs.YthcgmdmdgpljmaaDoor.Z
open Go Go.RowKit

theorem base_len (t : TTx) : t.base.length ≤ 500000 := by
  unfold TTx.base
  split
  · rename_i h
    have := body_len h
    simp [le_length]; omega
  · simp
def TTx.id (t : TTx) : B32 := twice t.base
theorem Txid_ok (v : Value) (t : TTx) (w : World) (Y : Nat → Prop) (hG : GW w) (h : TxR w Y v t) :
    Ret P 39 #[v] w (fun r w' => Ext w w' ∧ r = t.id.v) := by
  obtain ⟨iv, ov, rfl, -, -⟩ := h.v
  refine Ret.enter1 Tryd.func39 rfl Tryd.ntmps39 rfl ?_
  refine ZC.seq ?_; refine ZC.region ?_
  refine ZL.box (Mem.start w No) rfl rfl rfl (fun b w1 M1 => ?_)
  refine ZL.alloc M1 rfl rfl (fun br w2 M2 => ?_)
  refine ZL.nil ?_; refine ZP.then ?_; refine ZC.seq ?_; refine ZC.region ?_
  refine ZL.val (r_ldW M2 rfl rfl) rfl ?_
  refine ZL.call (r_call rfl) rfl (Base_ok _ t w2 Y (h.mv (Mv.ext M2.ext))) (fun v3 w3 ⟨E3, O3⟩ => ?_)
  have M3 := M2.ext' E3
  refine ZL.call (r_call rfl) rfl (Twice_ok v3 t.base w3 _ (hG.ext M3.ext) O3.r (base_len t)) (fun v4 w4 ⟨E4, hv⟩ => ?_)
  subst hv
  have M4 := M3.ext' E4
  refine ZL.stW M4 rfl rfl (cs' := t.id.cells.toArray) rfl (by simp) (B32.size _) (B32.one _) (fun w5 M5 => ?_)
  refine ZL.nil ?_; refine ZP.then ?_; refine ZC.ret ?_
  exact ZP.retC rfl rfl (M5.get inferInstance) (B32.size _) ⟨M5.ext, rfl⟩
theorem refTxid_ok (v : Value) (t : TTx) (w : World) (Y : Nat → Prop) (h : TxR w Y v t) :
    Ret P 17 #[v] w (fun r w' => Ext w w' ∧ r = t.id.v) := by
  obtain ⟨iv, ov, rfl, -, -⟩ := h.v
  refine Ret.enter1 Tryd.func17 rfl Tryd.ntmps17 rfl ?_
  refine ZC.seq ?_; refine ZC.region ?_
  refine ZL.box (Mem.start w No) rfl rfl rfl (fun b w1 M1 => ?_)
  refine ZL.alloc M1 rfl rfl (fun br w2 M2 => ?_)
  refine ZL.nil ?_; refine ZP.then ?_; refine ZC.seq ?_; refine ZC.region ?_
  refine ZL.val (r_ldW M2 rfl rfl) rfl ?_
  refine ZL.call (r_call rfl) rfl (refBase_ok _ t w2 Y (h.mv (Mv.ext M2.ext))) (fun v3 w3 ⟨E3, O3⟩ => ?_)
  have M3 := M2.ext' E3
  refine ZL.call (r_call rfl) rfl (refTwice_ok v3 t.base w3 _ O3.r (base_len t)) (fun v4 w4 ⟨E4, hv⟩ => ?_)
  subst hv
  have M4 := M3.ext' E4
  refine ZL.stW M4 rfl rfl (cs' := t.id.cells.toArray) rfl (by simp) (B32.size _) (B32.one _) (fun w5 M5 => ?_)
  refine ZL.nil ?_; refine ZP.then ?_; refine ZC.ret ?_
  exact ZP.retC rfl rfl (M5.get inferInstance) (B32.size _) ⟨M5.ext, rfl⟩
end Go.Proofs.YthcgmdmdgpljmaaDoor.Z
