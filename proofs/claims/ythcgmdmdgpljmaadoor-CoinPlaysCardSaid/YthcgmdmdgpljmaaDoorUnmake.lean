/- Unmake. -/
import Derived.Test.YthcgmdmdgpljmaaDoorMake
set_option linter.unusedVariables false
set_option linter.unusedSimpArgs false
set_option linter.unusedSectionVars false
set_option maxRecDepth 100000
set_option maxHeartbeats 4000000
namespace Go.Proofs.YthcgmdmdgpljmaaDoor.Z
open Go Go.RowKit

theorem Unmake_ok (bs bm : Nat) (m : CMap) (v : Value) (t : TTx) (w : World) (Y : Nat → Prop) (hG : GW w) (h : SetR w bs bm m) (hT : TxR w Y v t) (hY : Y bm) (hn : t.outs.length ≤ 10000) :
    Ret P 11 #[.pointer (some ⟨bs, 0, none⟩), v] w (fun r w' => SetU w w' bs bm (sunmake m t) ∧ r = .bool (hasAll m (ptsOf t.id t.outs.length))) := by
  have h' := h
  obtain ⟨hs, es, clk, hm, hO⟩ := h'
  have hne := h.ne
  obtain ⟨r, rfl, iv, ov, rfl, hI, hOut⟩ := hT
  have hT : TxR w Y (.agg #[u32 t.version, iv, ov, u32 t.lock]) t := ⟨_, rfl, iv, ov, rfl, hI, hOut⟩
  obtain ⟨po, co, rfl⟩ := hOut.shape
  refine Ret.enter2 Tryd.func11 rfl Tryd.ntmps11 rfl ?_
  refine ZC.seq ?_; refine ZC.region ?_
  refine ZL.box (Mem.startB hm) rfl rfl rfl (fun b3 w1 M1 => ?_)
  refine ZL.val (r_assign rfl) rfl ?_; refine ZL.nil ?_; refine ZP.then ?_; refine ZC.seq ?_; refine ZC.region ?_
  refine ZL.val (r_ldW M1 rfl rfl) rfl ?_
  refine ZL.call (r_call rfl) rfl (made_ok _ t w1 Y (hG.extX hm M1.ext) (hT.mv (Mv.extX M1.ext (fun b _ hb => hb ▸ hY))) hn) (fun v2 w2 ⟨E2, hP⟩ => ?_)
  have M2 := M1.ext' E2
  have hP2 := hP.mv (Mv.newer M1 E2.size)
  have hT2 := hT.mv (Mv.fp M2 (fun b hb => hb ▸ hY))
  have R2 := M2.rebase
  have hbs2 := M2.ext.at hs hne
  have hbsX : ¬ fpIn [.blk b3 (.cells #[u32 t.version, iv, .slice po t.outs.length co, u32 t.lock] 30), .blk bm (.map es clk)] bs := by
    rintro ⟨c, hc, hg⟩
    simp only [List.mem_cons, List.not_mem_nil, or_false] at hc
    rcases hc with rfl | rfl
    · have := M2.get (b := b3) inferInstance
      simp only [Chunk.fp, Option.some.injEq] at hg
      subst hg
      rw [this] at hbs2
      cases hbs2
    · simp only [Chunk.fp, Option.some.injEq] at hg
      exact hne hg.symm
  have hback := fun w' (he : ExtX w2 _ w') => M2.backX he
  generalize hX : fpIn [.blk b3 (.cells #[u32 t.version, iv, .slice po t.outs.length co, u32 t.lock] 30), .blk bm (.map es clk)] = X2 at R2 hP2 hT2 hbsX hback
  obtain ⟨pp, cp, rfl⟩ := hP2.shape
  have hpl := ptsOf_length t.id t.outs.length
  refine ZL.val (r_assign rfl) rfl ?_; refine ZL.nil ?_; refine ZP.then ?_; refine ZC.seq ?_; refine ZC.seq ?_; refine ZC.region ?_; refine ZL.val (r_move rfl) rfl ?_; refine ZL.val (r_lenSlice rfl) rfl ?_; refine ZL.val (r_move rfl) rfl ?_; refine ZL.nil ?_; refine ZP.then ?_; refine ZC.block ?_
  refine ZC.loop (X := Nat) (fun k => [(16, .int .i64 k), (15, .int .i64 ((ptsOf t.id t.outs.length).length : Int)), (14, .slice pp (ptsOf t.id t.outs.length).length cp), (5, .slice pp (ptsOf t.id t.outs.length).length cp), (3, .pointer (some ⟨b3, 0, none⟩)), (0, .pointer (some ⟨bs, 0, none⟩))])
    (fun k w' => k ≤ t.outs.length ∧ (∀ i, i < k → (mget m ⟨t.id, UInt32.ofNat i⟩).isSome = true) ∧ Mem w2 X2 [.blk b3 (.cells #[u32 t.version, iv, .slice po t.outs.length co, u32 t.lock] 30), .blk bm (.map es clk)] w') (fun k => t.outs.length - k) 0 ⟨rfl, rfl, rfl, rfl, rfl, rfl, trivial⟩ ⟨by omega, (fun i hi => by omega), R2⟩ ?_
  rintro k w3 ⟨hk, hnone, M3⟩
  refine ZC.seq ?_; refine ZC.region ?_; refine ZL.val (r_lss rfl rfl) rfl ?_; refine ZL.nil ?_; refine ZP.then ?_; refine ZC.seq ?_
  refine ZC.condD rfl (fun hc => ?_) (fun hc => ?_)
  · have hk' : k < (ptsOf t.id t.outs.length).length := by omega
    have hP3 := hP2.mv (Mv.extX M3.ext (fun _ _ h => h))
    obtain ⟨g, o, cs, e, fz, r, rfl, hg, hgx, hrl, hre, hcell, hsz, hext⟩ := ListR.elem (by decide) hP3 hk'
    rw [ptsOf_get] at hre
    simp only [PtE] at hre
    subst hre
    refine ZC.skip ?_; refine ZP.then ?_; refine ZC.seq ?_; refine ZC.block ?_; refine ZC.seq ?_; refine ZC.region ?_
    refine ZL.val (r_idxS k rfl rfl rfl hk') rfl ?_
    refine ZL.val (r_loadN rfl hg hsz hext) rfl ?_
    refine ZL.alloc M3 rfl rfl (fun b13 w4 M4 => ?_)
    refine ZL.stW M4 rfl rfl (cs' := (Pt.mk t.id (UInt32.ofNat k)).cells.toArray) rfl (by simp) (Pt.size _) (Pt.one _) (fun w5 M5 => ?_)
    refine ZL.nil ?_; refine ZP.then ?_; refine ZC.seq ?_
    refine ZC.turning (MemS w2 X2 [.blk b13 (.cells (Pt.mk t.id (UInt32.ofNat k)).cells.toArray 41), .blk b3 (.cells #[u32 t.version, iv, .slice po t.outs.length co, u32 t.lock] 30), .blk bm (.map es clk)]) 11 rfl (by kernel_rfl) rfl rfl rfl (fun w6 E6 _ => ?_)
    have M6 := M5.ext' E6
    have S6 := MemS.of M6
    refine ZT.take 0 rfl rfl (fun w' hS' => by first | exact r_move rfl | exact r_assign rfl | exact r_fieldAddr rfl | exact r_add rfl rfl (wrap_i64 (by omega) (by omega)) | exact r_sub rfl rfl (wrap_i64 (by omega) (by omega)) | exact r_mul rfl rfl (wrap_i64 (by omega) (by omega)) | exact r_convInt rfl (wrap_u64 (by omega) (by omega)) | exact r_convInt rfl (wrap_i64 (by omega) (by omega)) | exact r_convInt rfl (wrap_u32 (by omega) (by omega)) | exact r_sliceArr rfl | exact r_nilCheck rfl | exact r_extract rfl rfl | exact r_lenSlice rfl | exact r_and rfl rfl rfl | exact r_shr rfl rfl (by omega) rfl | exact r_toB rfl | exact r_toU rfl | exact r_toQ rfl) (by kernel_rfl) rfl (by kernel_rfl) (by kernel_rfl) rfl rfl (fun _ _ _ _ h => h) S6 ?_; refine ZT.take 1 rfl rfl (fun w' hS' => by first | exact r_move rfl | exact r_assign rfl | exact r_fieldAddr rfl | exact r_add rfl rfl (wrap_i64 (by omega) (by omega)) | exact r_sub rfl rfl (wrap_i64 (by omega) (by omega)) | exact r_mul rfl rfl (wrap_i64 (by omega) (by omega)) | exact r_convInt rfl (wrap_u64 (by omega) (by omega)) | exact r_convInt rfl (wrap_i64 (by omega) (by omega)) | exact r_convInt rfl (wrap_u32 (by omega) (by omega)) | exact r_sliceArr rfl | exact r_nilCheck rfl | exact r_extract rfl rfl | exact r_lenSlice rfl | exact r_and rfl rfl rfl | exact r_shr rfl rfl (by omega) rfl | exact r_toB rfl | exact r_toU rfl | exact r_toQ rfl) (by kernel_rfl) rfl (by kernel_rfl) (by kernel_rfl) rfl rfl (fun _ _ _ _ h => h) S6 ?_; refine ZT.take 2 rfl rfl (fun w' hS' => by first | exact r_move rfl | exact r_assign rfl | exact r_fieldAddr rfl | exact r_add rfl rfl (wrap_i64 (by omega) (by omega)) | exact r_sub rfl rfl (wrap_i64 (by omega) (by omega)) | exact r_mul rfl rfl (wrap_i64 (by omega) (by omega)) | exact r_convInt rfl (wrap_u64 (by omega) (by omega)) | exact r_convInt rfl (wrap_i64 (by omega) (by omega)) | exact r_convInt rfl (wrap_u32 (by omega) (by omega)) | exact r_sliceArr rfl | exact r_nilCheck rfl | exact r_extract rfl rfl | exact r_lenSlice rfl | exact r_and rfl rfl rfl | exact r_shr rfl rfl (by omega) rfl | exact r_toB rfl | exact r_toU rfl | exact r_toQ rfl) (by kernel_rfl) rfl (by kernel_rfl) (by kernel_rfl) rfl rfl (fun _ _ _ _ h => h) S6 ?_
    refine ZT.take 3 rfl rfl (fun w' hS' => r_load1 rfl (hS'.ext.at hbs2 hbsX) rfl) (by kernel_rfl) rfl (by kernel_rfl) (by kernel_rfl) rfl rfl (fun _ _ _ _ h => h) S6 ?_
    refine ZT.take 4 rfl rfl (fun w' hS' => r_loadW rfl (hS'.get inferInstance) (Pt.size _)) (by kernel_rfl) rfl (by kernel_rfl) (by kernel_rfl) rfl rfl (fun _ _ _ _ h => h) S6 ?_
    refine ZT.take 5 rfl rfl (fun w' hS' => r_lookup2 (k := (Pt.mk t.id (UInt32.ofNat k))) rfl rfl (hS'.get inferInstance) hO) (by kernel_rfl) rfl (by kernel_rfl) (by kernel_rfl) rfl rfl (fun _ _ _ _ h => h) S6 ?_
    refine ZT.take 6 rfl rfl (fun w' hS' => by first | exact r_move rfl | exact r_assign rfl | exact r_fieldAddr rfl | exact r_add rfl rfl (wrap_i64 (by omega) (by omega)) | exact r_sub rfl rfl (wrap_i64 (by omega) (by omega)) | exact r_mul rfl rfl (wrap_i64 (by omega) (by omega)) | exact r_convInt rfl (wrap_u64 (by omega) (by omega)) | exact r_convInt rfl (wrap_i64 (by omega) (by omega)) | exact r_convInt rfl (wrap_u32 (by omega) (by omega)) | exact r_sliceArr rfl | exact r_nilCheck rfl | exact r_extract rfl rfl | exact r_lenSlice rfl | exact r_and rfl rfl rfl | exact r_shr rfl rfl (by omega) rfl | exact r_toB rfl | exact r_toU rfl | exact r_toQ rfl) (by kernel_rfl) rfl (by kernel_rfl) (by kernel_rfl) rfl rfl (fun _ _ _ _ h => h) S6 ?_; refine ZT.take 7 rfl rfl (fun w' hS' => by first | exact r_move rfl | exact r_assign rfl | exact r_fieldAddr rfl | exact r_add rfl rfl (wrap_i64 (by omega) (by omega)) | exact r_sub rfl rfl (wrap_i64 (by omega) (by omega)) | exact r_mul rfl rfl (wrap_i64 (by omega) (by omega)) | exact r_convInt rfl (wrap_u64 (by omega) (by omega)) | exact r_convInt rfl (wrap_i64 (by omega) (by omega)) | exact r_convInt rfl (wrap_u32 (by omega) (by omega)) | exact r_sliceArr rfl | exact r_nilCheck rfl | exact r_extract rfl rfl | exact r_lenSlice rfl | exact r_and rfl rfl rfl | exact r_shr rfl rfl (by omega) rfl | exact r_toB rfl | exact r_toU rfl | exact r_toQ rfl) (by kernel_rfl) rfl (by kernel_rfl) (by kernel_rfl) rfl rfl (fun _ _ _ _ h => h) S6 ?_; refine ZT.take 8 rfl rfl (fun w' hS' => by first | exact r_move rfl | exact r_assign rfl | exact r_fieldAddr rfl | exact r_add rfl rfl (wrap_i64 (by omega) (by omega)) | exact r_sub rfl rfl (wrap_i64 (by omega) (by omega)) | exact r_mul rfl rfl (wrap_i64 (by omega) (by omega)) | exact r_convInt rfl (wrap_u64 (by omega) (by omega)) | exact r_convInt rfl (wrap_i64 (by omega) (by omega)) | exact r_convInt rfl (wrap_u32 (by omega) (by omega)) | exact r_sliceArr rfl | exact r_nilCheck rfl | exact r_extract rfl rfl | exact r_lenSlice rfl | exact r_and rfl rfl rfl | exact r_shr rfl rfl (by omega) rfl | exact r_toB rfl | exact r_toU rfl | exact r_toQ rfl) (by kernel_rfl) rfl (by kernel_rfl) (by kernel_rfl) rfl rfl (fun _ _ _ _ h => h) S6 ?_
    refine ZT.one 9 rfl (by kernel_rfl) rfl rfl rfl ?_
    refine ZL.alloc M6 rfl rfl (fun b14 w7 M7 => ?_)
    refine ZL.nil (ZP.turning ⟨[_], M7⟩ ?_)
    rw [mget_or]
    refine ZT.one 10 rfl (by kernel_rfl) rfl rfl rfl ?_
    refine ZL.stW M7 rfl rfl (cs' := ((mget m (Pt.mk t.id (UInt32.ofNat k))).getD Cn.zero).cells) rfl (by rfl) (by rfl) (by rfl) (fun w8 M8 => ?_)
    refine ZL.nil (ZP.turning ⟨[_], M8⟩ ?_)
    refine ZT.done rfl (by kernel_rfl) ?_
    refine ZL.val (r_assign rfl) rfl ?_; refine ZL.nil ?_; refine ZP.then ?_; refine ZC.seq ?_; refine ZC.region ?_; refine ZL.val (r_move rfl) rfl ?_; refine ZL.val (r_not rfl) rfl ?_; refine ZL.nil ?_; refine ZP.then ?_
    cases hkk : (mget m (Pt.mk t.id (UInt32.ofNat k))).isSome with
    | false =>
      refine ZC.cond rfl (fun _ => ?_) (fun hh => by cases hh)
      refine ZC.seq ?_; refine ZC.region ?_; refine ZL.val (r_assign rfl) rfl ?_; refine ZL.nil ?_; refine ZP.then ?_; refine ZC.ret ?_; refine ZP.blockR ?_; refine ZP.thenR ?_; refine ZP.thenR ?_; refine ZP.blockR ?_; refine ZP.thenR ?_
      have hall : hasAll m (ptsOf t.id t.outs.length) = false := by
        rw [hasAll, List.all_eq_false]
        exact ⟨(Pt.mk t.id (UInt32.ofNat k)), by rw [ptsOf, List.mem_map]; exact ⟨k, by simp; omega, rfl⟩, by rw [hkk]; decide⟩
      refine ZP.ret1 rfl rfl ⟨?_, by rw [hall]⟩
      rw [sunmake, if_neg (by rw [hall]; decide)]
      exact h.turned (hback _ M8.ext) (M8.get inferInstance) hO
    | true =>
      refine ZC.cond rfl (fun hh => by cases hh) (fun _ => ?_)
      refine ZC.skip ?_; refine ZP.blockN ?_; refine ZP.then ?_; refine ZC.region ?_; refine ZL.val (r_add rfl rfl (wrap_i64 (by omega) (by omega))) rfl ?_; refine ZL.val (r_move rfl) rfl ?_; refine ZL.nil ?_
      refine ZP.round (k + 1) ⟨rfl, rfl, rfl, rfl, rfl, rfl, trivial⟩ ⟨by omega, fun i hi => ?_, M8.sub [2, 3] rfl⟩ (by omega)
      rcases (by omega : i < k ∨ i = k) with hi | rfl
      · exact hnone i hi
      · exact hkk
  · have hk' : k = t.outs.length := by omega
    subst hk'
    have hall : hasAll m (ptsOf t.id t.outs.length) = true := by
      rw [hasAll, List.all_eq_true]
      intro p hp
      rw [ptsOf, List.mem_map] at hp
      obtain ⟨i, hi, rfl⟩ := hp
      exact hnone i (by simpa using hi)
    refine ZC.exit ?_; refine ZP.thenX ?_; refine ZP.thenX ?_; refine ZP.blockE ?_; refine ZP.then ?_; refine ZC.seq ?_; refine ZC.seq ?_; refine ZC.region ?_; refine ZL.val (r_move rfl) rfl ?_; refine ZL.val (r_lenSlice rfl) rfl ?_; refine ZL.val (r_move rfl) rfl ?_; refine ZL.nil ?_; refine ZP.then ?_; refine ZC.block ?_
    refine ZC.loop (X := Nat × Array MapEntry × Nat) (fun x => [(34, .int .i64 x.1), (33, .int .i64 ((ptsOf t.id t.outs.length).length : Int)), (32, .slice pp (ptsOf t.id t.outs.length).length cp), (5, .slice pp (ptsOf t.id t.outs.length).length cp), (3, .pointer (some ⟨b3, 0, none⟩)), (0, .pointer (some ⟨bs, 0, none⟩))])
      (fun x w' => x.1 ≤ t.outs.length ∧ CObj (delAll m t x.1) x.2.1 x.2.2 ∧ Mem w2 X2 [.blk b3 (.cells #[u32 t.version, iv, .slice po t.outs.length co, u32 t.lock] 30), .blk bm (.map x.2.1 x.2.2)] w') (fun x => t.outs.length - x.1) (0, es, clk) ⟨rfl, rfl, rfl, rfl, rfl, rfl, trivial⟩ ⟨by omega, hO, M3⟩ ?_
    rintro ⟨k, es4, clk4⟩ w4 ⟨hk, hO4, M4⟩
    simp only at hk hO4 M4 ⊢
    refine ZC.seq ?_; refine ZC.region ?_; refine ZL.val (r_lss rfl rfl) rfl ?_; refine ZL.nil ?_; refine ZP.then ?_; refine ZC.seq ?_
    refine ZC.condD rfl (fun hd => ?_) (fun hd => ?_)
    · have hk' : k < (ptsOf t.id t.outs.length).length := by omega
      have hP4 := hP2.mv (Mv.extX M4.ext (fun _ _ h => h))
      obtain ⟨g, o, cs, e, fz, r, rfl, hg, hgx, hrl, hre, hcell, hsz, hext⟩ := ListR.elem (by decide) hP4 hk'
      rw [ptsOf_get] at hre
      simp only [PtE] at hre
      subst hre
      refine ZC.skip ?_; refine ZP.then ?_; refine ZC.seq ?_; refine ZC.block ?_; refine ZC.seq ?_; refine ZC.region ?_
      refine ZL.val (r_idxS k rfl rfl rfl hk') rfl ?_
      refine ZL.val (r_loadN rfl hg hsz hext) rfl ?_
      refine ZL.alloc M4 rfl rfl (fun b17 w5 M5 => ?_)
      skip
      refine ZL.stW M5 rfl rfl (cs' := (Pt.mk t.id (UInt32.ofNat k)).cells.toArray) rfl (by simp) (Pt.size _) (Pt.one _) (fun w6 M6 => ?_)
      refine ZL.nil ?_; refine ZP.then ?_
      refine ZC.tail 5 (by kernel_rfl) rfl rfl (fun w7 E7 _ => ?_)
      have M7 := M6.ext' E7
      refine ZS.val (r_move rfl) rfl ?_; refine ZS.val (r_nilCheck rfl) rfl ?_; refine ZS.val (r_fieldAddr rfl) rfl ?_
      refine ZS.val (r_load1 rfl (M7.ext.at hbs2 hbsX) rfl) rfl ?_
      refine ZS.val (r_ldW M7 rfl (Pt.size _)) rfl ?_
      refine ZS.tail ?_
      refine ZL.mdel (k := (Pt.mk t.id (UInt32.ofNat k))) (t := 57) rfl M7 rfl rfl hO4 (fun es8 w8 hO8 M8 => ?_)
      refine ZL.nil ?_; refine ZP.blockN ?_; refine ZP.then ?_; refine ZC.region ?_; refine ZL.val (r_add rfl rfl (wrap_i64 (by omega) (by omega))) rfl ?_; refine ZL.val (r_move rfl) rfl ?_; refine ZL.nil ?_
      exact ZP.round (k + 1, es8, clk4) ⟨rfl, rfl, rfl, rfl, rfl, rfl, trivial⟩ ⟨by simp only; omega, hO8, M8.sub [1, 2] rfl⟩ (by simp only; omega)
    · have hk' : k = t.outs.length := by omega
      subst hk'
      refine ZC.exit ?_; refine ZP.thenX ?_; refine ZP.thenX ?_; refine ZP.blockE ?_; refine ZP.then ?_; refine ZC.seq ?_; refine ZC.region ?_; refine ZL.val (r_assign rfl) rfl ?_; refine ZL.nil ?_; refine ZP.then ?_; refine ZC.ret ?_
      refine ZP.ret1 rfl rfl ⟨?_, by rw [hall]⟩
      rw [sunmake, if_pos hall]
      exact h.turned (hback _ M4.ext) (M4.get inferInstance) hO4
end Go.Proofs.YthcgmdmdgpljmaaDoor.Z
