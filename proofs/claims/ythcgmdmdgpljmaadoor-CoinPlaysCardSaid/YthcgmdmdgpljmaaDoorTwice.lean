/- The sum of the sum. -/
import Derived.Test.YthcgmdmdgpljmaaDoorSum
set_option linter.unusedVariables false
set_option linter.unusedSimpArgs false
set_option linter.unusedSectionVars false
set_option maxRecDepth 100000
set_option maxHeartbeats 4000000
namespace Go.Proofs.YthcgmdmdgpljmaaDoor.Z
open Go Go.RowKit

theorem B32.size (x : B32) : x.cells.toArray.size = 32 := by simp [B32.cells, x.property]
theorem B32.one (x : B32) : x.cells.toArray.toList.all Value.oneCell' = true := by simp [B32.cells, u8, Value.oneCell']
/-- An array's bytes, as a slice. -/
theorem Mem.slArr {w0 w : World} {X Y : Nat → Prop} {L : List Chunk} {b : Nat} {x : B32} {t : TypeId} {fz : Nat × Nat} (h : Mem w0 X L w) (i : In L b (.cells x.cells.toArray t fz)) (hb : ¬ Y b) : BytesR w Y (.slice (some ⟨b, 0, none⟩) 32 32) x.val := by
  refine ⟨by simp, .inr ⟨b, 0, 32, x.cells.toArray, t, fz, by rw [x.property], hb, h.get i, by rw [x.property]; omega, by decide, fun i u hu => ?_⟩⟩
  simpa [B32.cells] using hu

def twice (l : List UInt8) : B32 := sumL (sumL l).val

theorem Twice_ok (v : Value) (l : List UInt8) (w : World) (X : Nat → Prop) (hG : GW w) (h : BytesR w X v l) (hl : l.length ≤ 500000) :
    Ret P 50 #[v] w (fun r w' => Ext w w' ∧ r = (twice l).v) := by
  refine Ret.enter1 Tryd.func50 rfl Tryd.ntmps50 rfl ?_
  refine ZC.seq ?_; refine ZC.region ?_
  refine ZL.alloc (Mem.start w No) rfl rfl (fun br w1 M1 => ?_)
  refine ZL.nil ?_; refine ZP.then ?_; refine ZC.seq ?_; refine ZC.region ?_; refine ZL.val (r_move rfl) rfl ?_
  refine ZL.call (r_call rfl) rfl (Sum_ok _ l w1 X (hG.ext M1.ext) (h.ext M1.ext) hl) (fun v2 w2 ⟨E2, hv⟩ => ?_)
  subst hv
  have M2 := M1.ext' E2
  refine ZL.alloc M2 rfl rfl (fun bx w3 M3 => ?_)
  refine ZL.stW M3 rfl rfl (cs' := (sumL l).cells.toArray) rfl (by simp) (B32.size _) (B32.one _) (fun w4 M4 => ?_)
  refine ZL.nil ?_; refine ZP.then ?_; refine ZC.seq ?_; refine ZC.region ?_
  refine ZL.val (r_sliceArr rfl) rfl ?_
  refine ZL.call (r_call rfl) rfl (Sum_ok _ (sumL l).val w4 No (hG.ext M4.ext) (M4.slArr (x := sumL l) inferInstance id) (by simp [(sumL l).property])) (fun v5 w5 ⟨E5, hv⟩ => ?_)
  subst hv
  have M5 := M4.ext' E5
  refine ZL.stW M5 rfl rfl (cs' := (twice l).cells.toArray) rfl (by simp) (B32.size _) (B32.one _) (fun w6 M6 => ?_)
  refine ZL.nil ?_; refine ZP.then ?_; refine ZC.ret ?_
  exact ZP.retC rfl rfl (M6.get inferInstance) (B32.size _) ⟨M6.ext, rfl⟩
end Go.Proofs.YthcgmdmdgpljmaaDoor.Z
