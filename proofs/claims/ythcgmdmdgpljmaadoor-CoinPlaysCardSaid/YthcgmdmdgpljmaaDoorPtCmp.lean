/- Which of two points is ahead. -/
import Derived.Test.YthcgmdmdgpljmaaDoorCmp
set_option linter.unusedVariables false
set_option linter.unusedSimpArgs false
set_option linter.unusedSectionVars false
set_option maxRecDepth 100000
set_option maxHeartbeats 4000000
namespace Go.Proofs.YthcgmdmdgpljmaaDoor.Z
open Go Go.RowKit

def cmpP (p q : Pt) : Int := orI (Go.Lib.compareBytes p.id.val q.id.val) (cmpU p.vout q.vout)
theorem coinCompare_ok (p q : Pt) (w : World) : Ret P 28 #[p.v, q.v] w (fun r w' => Ext w w' ∧ r = .int .i64 (cmpP p q)) := by
  refine Ret.enter2 Tryd.func28 rfl Tryd.ntmps28 rfl ?_
  refine ZC.seq ?_; refine ZC.region ?_
  refine ZL.box (Mem.start w No) rfl rfl rfl (fun b2 w1 M1 => ?_)
  refine ZL.box M1 rfl rfl rfl (fun b3 w2 M2 => ?_)
  refine ZL.val (r_assign rfl) rfl ?_; refine ZL.nil ?_; refine ZP.then ?_; refine ZC.seq ?_
  refine ZC.turning (MemS w No [.blk b3 (.cells q.cells.toArray 41), .blk b2 (.cells p.cells.toArray 41)]) 11 rfl (by kernel_rfl) rfl rfl rfl (fun w3 E3 _ => ?_)
  have M3 := M2.ext' E3
  have S3 := MemS.of M3
  refine ZT.take 0 rfl rfl (fun w' hS' => by first | exact r_move rfl | exact r_assign rfl | exact r_fieldAddr rfl | exact r_add rfl rfl (wrap_i64 (by omega) (by omega)) | exact r_sub rfl rfl (wrap_i64 (by omega) (by omega)) | exact r_mul rfl rfl (wrap_i64 (by omega) (by omega)) | exact r_convInt rfl (wrap_u64 (by omega) (by omega)) | exact r_convInt rfl (wrap_i64 (by omega) (by omega)) | exact r_convInt rfl (wrap_u32 (by omega) (by omega)) | exact r_sliceArr rfl | exact r_nilCheck rfl | exact r_extract rfl rfl | exact r_lenSlice rfl | exact r_and rfl rfl rfl | exact r_shr rfl rfl (by omega) rfl | exact r_toB rfl | exact r_toU rfl | exact r_toQ rfl) (by kernel_rfl) rfl (by kernel_rfl) (by kernel_rfl) rfl rfl (fun _ _ _ _ h => h) S3 ?_
  refine ZT.take 1 rfl rfl (fun w' hS' => r_loadN rfl (hS'.get (b := b2) inferInstance) (by rw [p.size]; decide) p.id_extract) (by kernel_rfl) rfl (by kernel_rfl) (by kernel_rfl) rfl rfl (fun _ _ _ _ h => h) S3 ?_
  refine ZT.take 2 rfl rfl (fun w' hS' => by first | exact r_move rfl | exact r_assign rfl | exact r_fieldAddr rfl | exact r_add rfl rfl (wrap_i64 (by omega) (by omega)) | exact r_sub rfl rfl (wrap_i64 (by omega) (by omega)) | exact r_mul rfl rfl (wrap_i64 (by omega) (by omega)) | exact r_convInt rfl (wrap_u64 (by omega) (by omega)) | exact r_convInt rfl (wrap_i64 (by omega) (by omega)) | exact r_convInt rfl (wrap_u32 (by omega) (by omega)) | exact r_sliceArr rfl | exact r_nilCheck rfl | exact r_extract rfl rfl | exact r_lenSlice rfl | exact r_and rfl rfl rfl | exact r_shr rfl rfl (by omega) rfl | exact r_toB rfl | exact r_toU rfl | exact r_toQ rfl) (by kernel_rfl) rfl (by kernel_rfl) (by kernel_rfl) rfl rfl (fun _ _ _ _ h => h) S3 ?_
  refine ZT.take 3 rfl rfl (fun w' hS' => r_loadN rfl (hS'.get (b := b3) inferInstance) (by rw [q.size]; decide) q.id_extract) (by kernel_rfl) rfl (by kernel_rfl) (by kernel_rfl) rfl rfl (fun _ _ _ _ h => h) S3 ?_
  refine ZT.take 5 rfl rfl (fun w' hS' => by first | exact r_move rfl | exact r_assign rfl | exact r_fieldAddr rfl | exact r_add rfl rfl (wrap_i64 (by omega) (by omega)) | exact r_sub rfl rfl (wrap_i64 (by omega) (by omega)) | exact r_mul rfl rfl (wrap_i64 (by omega) (by omega)) | exact r_convInt rfl (wrap_u64 (by omega) (by omega)) | exact r_convInt rfl (wrap_i64 (by omega) (by omega)) | exact r_convInt rfl (wrap_u32 (by omega) (by omega)) | exact r_sliceArr rfl | exact r_nilCheck rfl | exact r_extract rfl rfl | exact r_lenSlice rfl | exact r_and rfl rfl rfl | exact r_shr rfl rfl (by omega) rfl | exact r_toB rfl | exact r_toU rfl | exact r_toQ rfl) (by kernel_rfl) rfl (by kernel_rfl) (by kernel_rfl) rfl rfl (fun _ _ _ _ h => h) S3 ?_
  refine ZT.take 6 rfl rfl (fun w' hS' => r_load1 rfl (hS'.get (b := b2) inferInstance) p.vout_at) (by kernel_rfl) rfl (by kernel_rfl) (by kernel_rfl) rfl rfl (fun _ _ _ _ h => h) S3 ?_
  refine ZT.take 7 rfl rfl (fun w' hS' => by first | exact r_move rfl | exact r_assign rfl | exact r_fieldAddr rfl | exact r_add rfl rfl (wrap_i64 (by omega) (by omega)) | exact r_sub rfl rfl (wrap_i64 (by omega) (by omega)) | exact r_mul rfl rfl (wrap_i64 (by omega) (by omega)) | exact r_convInt rfl (wrap_u64 (by omega) (by omega)) | exact r_convInt rfl (wrap_i64 (by omega) (by omega)) | exact r_convInt rfl (wrap_u32 (by omega) (by omega)) | exact r_sliceArr rfl | exact r_nilCheck rfl | exact r_extract rfl rfl | exact r_lenSlice rfl | exact r_and rfl rfl rfl | exact r_shr rfl rfl (by omega) rfl | exact r_toB rfl | exact r_toU rfl | exact r_toQ rfl) (by kernel_rfl) rfl (by kernel_rfl) (by kernel_rfl) rfl rfl (fun _ _ _ _ h => h) S3 ?_
  refine ZT.take 8 rfl rfl (fun w' hS' => r_load1 rfl (hS'.get (b := b3) inferInstance) q.vout_at) (by kernel_rfl) rfl (by kernel_rfl) (by kernel_rfl) rfl rfl (fun _ _ _ _ h => h) S3 ?_
  refine ZT.one 4 rfl (by kernel_rfl) rfl rfl rfl ?_
  refine ZL.call (r_call rfl) rfl (shasCompare_ok p.id q.id w3) (fun v4 w4 ⟨E4, hv⟩ => ?_)
  subst hv
  have M4 := M3.ext' E4
  refine ZL.nil (ZP.turning (MemS.of M4) ?_)
  refine ZT.one 9 rfl (by kernel_rfl) rfl rfl rfl ?_
  refine ZL.call (r_call rfl) rfl (cmpCompare_ok p.vout q.vout w4) (fun v5 w5 hv => ?_)
  obtain ⟨rfl, rfl⟩ := hv
  refine ZL.nil (ZP.turning (MemS.of M4) ?_)
  refine ZT.one 10 rfl (by kernel_rfl) rfl rfl rfl ?_
  refine ZL.bslice M4 rfl rfl rfl (by simp [Value.cells]) (by decide) rfl (fun g w6 M6 => ?_)
  refine ZL.nil (ZP.turning ⟨[_], M6⟩ ?_)
  refine ZT.done rfl (by kernel_rfl) ?_
  refine ZL.call (r_call rfl) rfl (Or_ok _ _ _ w6 _ 2 M6.own) (fun v7 w7 hv => ?_)
  obtain ⟨rfl, rfl⟩ := hv
  refine ZL.val (r_assign rfl) rfl ?_; refine ZL.nil ?_; refine ZP.then ?_; refine ZC.ret ?_
  exact ZP.ret1 rfl rfl ⟨M6.ext, rfl⟩
end Go.Proofs.YthcgmdmdgpljmaaDoor.Z
