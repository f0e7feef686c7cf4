/- CoinPlays. -/
import Derived.Test.YthcgmdmdgpljmaaDoorDoc
set_option linter.unusedVariables false
set_option linter.unusedSimpArgs false
set_option linter.unusedSectionVars false
set_option maxRecDepth 100000
set_option maxHeartbeats 4000000
namespace Go.Proofs.YthcgmdmdgpljmaaDoor.Z
open Go Go.RowKit Go.Lib

abbrev LPl (bs bm : Nat) (es : Array MapEntry) (clk : Nat) : List Chunk := [.blk bs (.cells (setC bm) 59), .blk bm (.map es clk)]
abbrev LQ (b9 b8 b7 bs bm : Nat) (c : Cn) (x : Array Value) (p : Pt) (es : Array MapEntry) (clk : Nat) : List Chunk := .blk b9 (.cells c.cells 44) :: .blk b8 (.cells x 30) :: .blk b7 (.cells p.cells.toArray 41) :: LPl bs bm es clk

theorem CoinPlays_ok (v0 : Value) (l : List Int) (w : World) (hG : GW w) (hA : IntsA w v0 l) : Ret P 6 #[v0] w (fun r w' => Ext w w' ∧ r = .bool true) := by
  have hA0 := hA
  obtain ⟨pa, ca, rfl, _⟩ := hA0
  refine Ret.enter1 Tryd.func6 rfl Tryd.ntmps6 rfl ?_
  refine ZC.seq ?_; refine ZC.region ?_; refine ZL.val (r_assign rfl) rfl ?_; refine ZL.nil ?_; refine ZP.then ?_; refine ZC.seq ?_; refine ZC.region ?_
  refine ZL.call (r_call rfl) rfl (New_ok w) (fun v1 w1 ⟨bs, bm, M1, hr⟩ => ?_)
  subst hr
  skip
  refine ZL.val (r_buildZ rfl) rfl ?_
  refine ZL.box M1 rfl rfl rfl (fun bw w2 M2 => ?_)
  have hbw : w.heap.size ≤ bw := (M2.mine _ (List.mem_cons_self ..) bw rfl).resolve_left (fun h => h)
  have hR2 : RefS w2 (Out w (LPl bs bm #[] 0)) bw [] := by
    refine ⟨?_, .slice none 0 0, [], M2.get inferInstance, KeptR.of ⟨rfl, .inl ⟨rfl, rfl⟩⟩, List.Pairwise.nil, List.Perm.refl _⟩
    rintro (h | ⟨c, hc, hg⟩)
    · omega
    · exact (List.pairwise_cons.1 M2.ap).1 c hc bw rfl hg
  have M2' : Mem w No (LPl bs bm #[] 0) w2 := M2.sub [1, 2] rfl
  clear M2
  refine ZL.val (r_assign rfl) rfl ?_; refine ZL.val (r_assign rfl) rfl ?_; refine ZL.nil ?_; refine ZP.then ?_; refine ZC.seq ?_; refine ZC.seq ?_; refine ZC.region ?_; refine ZL.val (r_move rfl) rfl ?_; refine ZL.val (r_eqlPtrNil rfl rfl) rfl ?_; refine ZL.nil ?_; refine ZP.then ?_; refine ZC.condF rfl ?_; refine ZC.skip ?_; refine ZP.then ?_
  refine ZC.mid (X := Unit) (fun _ => []) (fun _ w' => Ext w w') ?_ ?_
  · refine ZC.seq ?_; refine ZC.region ?_; refine ZL.val (r_assign rfl) rfl ?_; refine ZL.nil ?_; refine ZP.then ?_; refine ZC.block ?_
    refine ZC.loop (X := Nat × CMap × Array MapEntry × Nat) (fun x => [(5, .int .i64 x.1), (4, .pointer (some ⟨bw, 0, none⟩)), (3, .pointer (some ⟨bs, 0, none⟩)), (0, .slice pa l.length ca)])
      (fun x w' => x.1 ≤ 80 ∧ x.2.1.length ≤ 4 * x.1 ∧ CObj x.2.1 x.2.2.1 x.2.2.2 ∧ Mem w No (LPl bs bm x.2.2.1 x.2.2.2) w' ∧ RefS w' (Out w (LPl bs bm x.2.2.1 x.2.2.2)) bw x.2.1)
      (fun x => 80 - x.1) (0, [], #[], 0) ⟨rfl, rfl, rfl, rfl, trivial⟩ ⟨by simp, by simp, MObj.empty _ _, M2', hR2⟩ ?_
    rintro ⟨i, m, es, clk⟩ w3 ⟨hi80, hml, hO, M3, hR3⟩
    simp only at hi80 hml hO M3 hR3 ⊢
    refine ZC.seq ?_; refine ZC.seq ?_; refine ZC.region ?_; refine ZL.val (r_move rfl) rfl ?_; refine ZL.val (r_move rfl) rfl ?_; refine ZL.val (r_lenSlice rfl) rfl ?_; refine ZL.val (r_lss rfl rfl) rfl ?_; refine ZL.val (r_move rfl) rfl ?_
    by_cases hlt : (i : Int) < (l.length : Int)
    · rw [show decide ((i : Int) < (l.length : Int)) = true from decide_eq_true hlt]
      refine ZL.on rfl rfl rfl ?_; refine ZL.val (r_move rfl) rfl ?_; refine ZL.on rfl rfl rfl ?_; refine ZL.val (r_lss rfl rfl) rfl ?_; refine ZL.val (r_pickT rfl rfl) rfl ?_; refine ZL.nil ?_; refine ZP.then ?_
      refine ZC.condD rfl (fun hc => ?_) (fun hc => ?_)
      · have hil : i < l.length := by omega
        obtain ⟨_, ba, oa, ca', ea, fa, rfl, hba, hca⟩ := hA.elem hil
        obtain ⟨q, hq, hqe⟩ := iand_mask l[i] 7 (by decide)
        generalize l[i] = li at hca hqe
        refine ZC.skip ?_; refine ZP.then ?_; refine ZC.seq ?_; refine ZC.block ?_; refine ZC.seq ?_; refine ZC.region ?_; refine ZL.val (r_move rfl) rfl ?_; refine ZL.val (r_move rfl) rfl ?_
        refine ZL.val (r_idxS i rfl rfl rfl hil) rfl ?_
        refine ZL.val (r_load1 rfl (M3.ext.at hba id) (by rw [Nat.mul_one]; exact hca)) rfl ?_
        refine ZL.val (r_shr rfl rfl (by omega) rfl) rfl ?_
        generalize li / 2 ^ min (Int.toNat 3) IntKind.i64.bits = nn
        refine ZL.val (r_assign rfl) rfl ?_; refine ZL.nil ?_; refine ZP.then ?_; refine ZC.seq ?_; refine ZC.region ?_; refine ZL.val (r_move rfl) rfl ?_
        refine ZL.call (r_call rfl) rfl (Point_ok _ w3) (fun v4 w4 ⟨E4, p0, hr⟩ => ?_)
        subst hr
        have R4 := M3.rebase.ext' E4
        refine ZL.alloc R4 rfl rfl (fun b7 w5 R5 => ?_)
        refine ZL.stW R5 rfl rfl (cs' := p0.cells.toArray) rfl (by simp) (Pt.size _) (Pt.one _) (fun w6 R6 => ?_)
        have M6 := M3.join R6
        have hR6 := hR3.mv (Mv.frame R6)
        refine ZL.nil ?_; refine ZP.then ?_; refine ZC.seq ?_; refine ZC.region ?_; refine ZL.val (r_move rfl) rfl ?_
        refine ZL.val (r_and rfl rfl rfl) rfl ?_
        refine ZL.call (r_call rfl) rfl (Tx_ok _ 0 w6) (fun v7 w7 ⟨E7, T, hT, h1, h4⟩ => ?_)
        have M7 := M6.ext' E7
        have hbw6 : bw < w6.heap.size := by obtain ⟨_, _, _, hb, _⟩ := hR6; exact (Array.getElem?_eq_some_iff.1 hb).1
        have hT := hT.mv (Mv.mono (Y := fun b => Out w _ b ∨ b = bw) fun b _ hb => hb.elim (Out.lt M6 b) (fun e => e ▸ hbw6))
        obtain ⟨r, rfl, iv, ov, rfl, hI, hOut⟩ := hT
        have hT : TxR w7 _ (.agg #[u32 T.version, iv, ov, u32 T.lock]) T := ⟨_, rfl, iv, ov, rfl, hI, hOut⟩
        obtain ⟨po, co, rfl⟩ := hOut.shape
        obtain ⟨pi, ci, rfl⟩ := hI.shape
        have P7 : Pl w bw m (.agg #[u32 T.version, .slice pi T.ins.length ci, .slice po T.outs.length co, u32 T.lock]) T _ w7 := ⟨M7, hR6.mv (Mv.ext E7), hT⟩
        refine ZL.alloc P7.M.rebase rfl rfl (fun b8 w8 R8 => ?_)
        refine ZL.stW R8 rfl rfl (cs' := #[u32 T.version, .slice pi T.ins.length ci, .slice po T.outs.length co, u32 T.lock]) rfl (by rfl) (by rfl) (by rfl) (fun w9 R9 => ?_)
        have P9 := P7.seg R9
        clear R8 R9 P7 hT hI hOut hR6 M7 M6 R4 R5 R6 E7 hR3 M3 E4
        generalize hX : #[u32 T.version, .slice pi T.ins.length ci, .slice po T.outs.length co, u32 T.lock] = xT at P9
        refine ZL.nil ?_; refine ZP.then ?_
        refine ZC.mid (X := Pt) (fun p => [(8, .pointer (some ⟨b8, 0, none⟩)), (7, .pointer (some ⟨b7, 0, none⟩)), (5, .int .i64 i), (4, .pointer (some ⟨bw, 0, none⟩)), (3, .pointer (some ⟨bs, 0, none⟩)), (0, .slice (some ⟨ba, oa, none⟩) l.length ca)])
          (fun p w' => Pl w bw m (.agg xT) T (.blk b8 (.cells xT 30) :: .blk b7 (.cells p.cells.toArray 41) :: LPl bs bm es clk) w') ?_ ?_
        · refine ZC.seq ?_; refine ZC.region ?_; refine ZL.val (r_move rfl) rfl ?_
          refine ZL.val (r_and rfl rfl rfl) rfl ?_
          refine ZL.val (r_eql rfl rfl) rfl ?_; refine ZL.nil ?_; refine ZP.then ?_
          refine ZC.condD rfl (fun hn1 => ?_) (fun hn1 => ?_)
          · subst hX
            refine ZC.region ?_
            refine ZL.val (r_ldW P9.M rfl rfl) rfl ?_
            refine ZL.call (r_call rfl) rfl (refTxid_ok _ T w9 _ P9.t) (fun v10 w10 ⟨E10, hr⟩ => ?_)
            subst hr
            have P10 := P9.ext E10
            refine ZL.val (r_move rfl) rfl ?_
            refine ZL.val (r_shr rfl rfl (by omega) rfl) rfl ?_
            refine ZL.val (r_and rfl rfl rfl) rfl ?_
            refine ZL.val (r_toU rfl) rfl ?_
            refine ZL.val (r_buildPt rfl rfl rfl rfl rfl) rfl ?_
            generalize Pt.mk T.id _ = p1
            refine ZL.stW P10.M.rebase rfl rfl (cs' := p1.cells.toArray) rfl (by simp [Pt.length]) (Pt.size _) (Pt.one _) (fun w11 R11 => ?_)
            refine ZL.nil ?_
            exact ZP.mid p1 ⟨rfl, rfl, rfl, rfl, rfl, rfl, trivial⟩ (P10.seg R11)
          · refine ZC.skip ?_
            exact ZP.mid p0 ⟨rfl, rfl, rfl, rfl, rfl, rfl, trivial⟩ P9
        · clear P9
          rintro p w9 P9
          refine ZC.seq ?_; refine ZC.region ?_; refine ZL.val (r_move rfl) rfl ?_; refine ZL.val (r_convInt rfl (wrap_u64 (by omega) (by omega))) rfl ?_; refine ZL.val (r_move rfl) rfl ?_; refine ZL.val (r_move rfl) rfl ?_; refine ZL.val (r_mul rfl rfl (wrap_i64 (by omega) (by omega))) rfl ?_; refine ZL.val (r_move rfl) rfl ?_
          refine ZL.val (r_and rfl rfl rfl) rfl ?_
          refine ZL.val (r_eql rfl rfl) rfl ?_
          generalize decide (iand .i64 (i : Int) 1 = 1) = bb
          refine ZL.val (r_buildOne rfl rfl (cs := [.int .u64 i, .int .i64 i, .int .i64 (2 * i), .bool bb]) rfl) rfl ?_
          refine ZL.alloc P9.M.rebase rfl rfl (fun b9 w10 R10 => ?_)
          refine ZL.stW R10 rfl rfl (cs' := (Cn.mk i i (2 * i) bb).cells) rfl (by rfl) (by rfl) (by rfl) (fun w11 R11 => ?_)
          have P11 := P9.seg R11
          clear R10 R11 P9
          generalize Cn.mk i i (2 * i) bb = c at P11
          refine ZL.nil ?_; refine ZP.then ?_
          refine ZC.mid (X := CMap × Array MapEntry × Nat) (fun x => [(7, .pointer (some ⟨b7, 0, none⟩)), (5, .int .i64 i), (4, .pointer (some ⟨bw, 0, none⟩)), (3, .pointer (some ⟨bs, 0, none⟩)), (0, .slice (some ⟨ba, oa, none⟩) l.length ca)])
            (fun x w' => x.1.length ≤ 4 * i + 4 ∧ CObj x.1 x.2.1 x.2.2 ∧ Pl w bw x.1 (.agg xT) T (LQ b9 b8 b7 bs bm c xT p x.2.1 x.2.2) w') ?_ ?_
          · refine ZC.seq ?_; refine ZC.region ?_; refine ZL.val (r_move rfl) rfl ?_; refine ZL.val (r_move rfl) rfl ?_
            refine ZL.val (r_idxS i rfl rfl rfl hil) rfl ?_
            refine ZL.val (r_load1 rfl (P11.M.ext.at hba id) (by rw [Nat.mul_one]; exact hca)) rfl ?_
            refine ZL.val (r_and rfl rfl hqe) rfl ?_
            have hq' : (q = 0 ∨ q = 1 ∨ q = 2) ∨ (q = 3 ∨ q = 4) ∨ (q = 5 ∨ q = 6) ∨ q = 7 := by omega
            rcases hq' with h012 | h34 | h56 | rfl
            · rcases h012 with rfl | rfl | rfl
              all_goals
                repeat (first | (first | refine ZC.seq ?_ | refine ZC.region ?_ | refine ZC.skip ?_ | refine ZC.ret ?_ | refine ZC.exit ?_ | refine ZC.block ?_ | refine ZL.nil ?_ | refine ZP.thenX ?_ | refine ZP.thenR ?_ | refine ZP.blockN ?_ | refine ZP.blockR ?_ | refine ZP.blockE ?_ | refine ZP.blockX rfl ?_ | refine ZP.then ?_) | (refine ZC.condT rfl ?_) | (refine ZC.condF rfl ?_) | (first | refine ZL.val (r_move rfl) rfl ?_ | refine ZL.val (r_assign rfl) rfl ?_ | refine ZL.val (r_fieldAddr rfl) rfl ?_ | refine ZL.val (r_add rfl rfl (wrap_i64 (by omega) (by omega))) rfl ?_ | refine ZL.val (r_sub rfl rfl (wrap_i64 (by omega) (by omega))) rfl ?_ | refine ZL.val (r_mul rfl rfl (wrap_i64 (by omega) (by omega))) rfl ?_  | refine ZL.val (r_lss rfl rfl) rfl ?_ | refine ZL.val (r_leq rfl rfl) rfl ?_ | refine ZL.val (r_gtr rfl rfl) rfl ?_ | refine ZL.val (r_geq rfl rfl) rfl ?_ | refine ZL.val (r_eql rfl rfl) rfl ?_ | refine ZL.val (r_neq rfl rfl) rfl ?_ | refine ZL.val (r_not rfl) rfl ?_  | refine ZL.val (r_lenSlice rfl) rfl ?_ | refine ZL.val (r_lenString rfl) rfl ?_ | refine ZL.val (r_extract rfl rfl) rfl ?_ | refine ZL.val (r_nilCheck rfl) rfl ?_ | refine ZL.val (r_makeFunc rfl rfl) rfl ?_ | refine ZL.val (r_eqlPtrNil rfl rfl) rfl ?_ | refine ZL.val (r_pickT rfl rfl) rfl ?_ | refine ZL.val (r_pickF rfl rfl) rfl ?_  | refine ZL.val (r_eqlSliceNil rfl rfl) rfl ?_ | refine ZL.val (r_max rfl rfl (Int.max_eq_left (by omega))) rfl ?_ | refine ZL.val (r_max rfl rfl (Int.max_eq_right (by omega))) rfl ?_ | refine ZL.val (r_min rfl rfl (Int.min_eq_left (by omega))) rfl ?_ | refine ZL.val (r_min rfl rfl (Int.min_eq_right (by omega))) rfl ?_  | refine ZL.skip rfl rfl rfl rfl ?_ | refine ZL.on rfl rfl rfl ?_  | refine ZL.val (r_convInt rfl (wrap_i64 (by omega) (by omega))) rfl ?_ | refine ZL.val (r_convInt rfl (wrap_u64 (by omega) (by omega))) rfl ?_ | refine ZL.val (r_convInt rfl (wrap_u32 (by omega) (by omega))) rfl ?_ | refine ZL.val (r_convInt rfl (wrap_u8 (by omega) (by omega))) rfl ?_))
                refine ZC.turning (Holds [(b7, .cells p.cells.toArray 41), (b9, .cells c.cells 44)]) 8 rfl (by kernel_rfl) rfl rfl rfl (fun w12 E12 _ => ?_)
                have P12 := P11.ext E12
                have S12 : Holds [(b7, .cells p.cells.toArray 41), (b9, .cells c.cells 44)] w12 := ⟨P12.M.get inferInstance, P12.M.get inferInstance, trivial⟩
                refine ZT.take 0 rfl rfl (fun w' hS' => by first | exact r_move rfl | exact r_assign rfl | exact r_fieldAddr rfl | exact r_add rfl rfl (wrap_i64 (by omega) (by omega)) | exact r_sub rfl rfl (wrap_i64 (by omega) (by omega)) | exact r_mul rfl rfl (wrap_i64 (by omega) (by omega)) | exact r_convInt rfl (wrap_u64 (by omega) (by omega)) | exact r_convInt rfl (wrap_i64 (by omega) (by omega)) | exact r_convInt rfl (wrap_u32 (by omega) (by omega)) | exact r_sliceArr rfl | exact r_nilCheck rfl | exact r_extract rfl rfl | exact r_lenSlice rfl | exact r_and rfl rfl rfl | exact r_shr rfl rfl (by omega) rfl | exact r_toB rfl | exact r_toU rfl | exact r_toQ rfl) (by kernel_rfl) rfl (by kernel_rfl) (by kernel_rfl) rfl rfl (fun _ _ _ _ h => h) S12 ?_
                refine ZT.take 1 rfl rfl (fun w' hS' => r_loadW rfl hS'.1 (Pt.size _)) (by kernel_rfl) rfl (by kernel_rfl) (by kernel_rfl) rfl rfl (fun _ _ _ _ h => h) S12 ?_
                refine ZT.take 2 rfl rfl (fun w' hS' => r_loadW rfl hS'.2.1 rfl) (by kernel_rfl) rfl (by kernel_rfl) (by kernel_rfl) rfl rfl (fun _ _ _ _ h => h) S12 ?_
                refine ZT.take 4 rfl rfl (fun w' hS' => by first | exact r_move rfl | exact r_assign rfl | exact r_fieldAddr rfl | exact r_add rfl rfl (wrap_i64 (by omega) (by omega)) | exact r_sub rfl rfl (wrap_i64 (by omega) (by omega)) | exact r_mul rfl rfl (wrap_i64 (by omega) (by omega)) | exact r_convInt rfl (wrap_u64 (by omega) (by omega)) | exact r_convInt rfl (wrap_i64 (by omega) (by omega)) | exact r_convInt rfl (wrap_u32 (by omega) (by omega)) | exact r_sliceArr rfl | exact r_nilCheck rfl | exact r_extract rfl rfl | exact r_lenSlice rfl | exact r_and rfl rfl rfl | exact r_shr rfl rfl (by omega) rfl | exact r_toB rfl | exact r_toU rfl | exact r_toQ rfl) (by kernel_rfl) rfl (by kernel_rfl) (by kernel_rfl) rfl rfl (fun _ _ _ _ h => h) S12 ?_
                refine ZT.take 5 rfl rfl (fun w' hS' => r_loadW rfl hS'.1 (Pt.size _)) (by kernel_rfl) rfl (by kernel_rfl) (by kernel_rfl) rfl rfl (fun _ _ _ _ h => h) S12 ?_
                refine ZT.take 6 rfl rfl (fun w' hS' => r_loadW rfl hS'.2.1 rfl) (by kernel_rfl) rfl (by kernel_rfl) (by kernel_rfl) rfl rfl (fun _ _ _ _ h => h) S12 ?_
                refine ZT.one 3 rfl (by kernel_rfl) rfl rfl rfl ?_
                refine ZL.call (r_call rfl) rfl (Put_ok bs bm m p c w12 (SetR.of P12.M hO)) (fun v13 w13 ⟨U13, hr⟩ => ?_)
                subst hr
                obtain ⟨es13, clk13, hm13, hO13⟩ := U13.r.m
                have P13 := P12.seg (P12.M.rebase.called (o' := .map es13 clk13) inferInstance U13.ext hm13)
                refine ZL.nil (ZP.turning ⟨P13.M.get inferInstance, P13.M.get inferInstance, trivial⟩ ?_)
                refine ZT.one 7 rfl (by kernel_rfl) rfl rfl rfl ?_
                refine ZL.call (r_call rfl) rfl (RPut_ok (Out w _) bw m p c w13 P13.r (by omega)) (fun v14 w14 ⟨U14, hr⟩ => ?_)
                subst hr
                have P14 := P13.ref hbw U14
                refine ZL.nil (ZP.turning ⟨P14.M.get inferInstance, P14.M.get inferInstance, trivial⟩ ?_)
                refine ZT.done rfl (by kernel_rfl) ?_
                refine ZL.val ((r_neqBool rfl rfl).eq (v' := .bool false) (by simp)) rfl ?_
                refine ZL.nil ?_; refine ZP.then ?_; refine ZC.condF rfl ?_; refine ZC.skip ?_; refine ZP.blockN ?_
                exact ZP.mid (sput m p c, es13, clk13) ⟨rfl, rfl, rfl, rfl, rfl, trivial⟩ ⟨by have := sput_length m p c; simp only; omega, hO13, P14⟩
            · rcases h34 with rfl | rfl
              all_goals
                repeat (first | (first | refine ZC.seq ?_ | refine ZC.region ?_ | refine ZC.skip ?_ | refine ZC.ret ?_ | refine ZC.exit ?_ | refine ZC.block ?_ | refine ZL.nil ?_ | refine ZP.thenX ?_ | refine ZP.thenR ?_ | refine ZP.blockN ?_ | refine ZP.blockR ?_ | refine ZP.blockE ?_ | refine ZP.blockX rfl ?_ | refine ZP.then ?_) | (refine ZC.condT rfl ?_) | (refine ZC.condF rfl ?_) | (first | refine ZL.val (r_move rfl) rfl ?_ | refine ZL.val (r_assign rfl) rfl ?_ | refine ZL.val (r_fieldAddr rfl) rfl ?_ | refine ZL.val (r_add rfl rfl (wrap_i64 (by omega) (by omega))) rfl ?_ | refine ZL.val (r_sub rfl rfl (wrap_i64 (by omega) (by omega))) rfl ?_ | refine ZL.val (r_mul rfl rfl (wrap_i64 (by omega) (by omega))) rfl ?_  | refine ZL.val (r_lss rfl rfl) rfl ?_ | refine ZL.val (r_leq rfl rfl) rfl ?_ | refine ZL.val (r_gtr rfl rfl) rfl ?_ | refine ZL.val (r_geq rfl rfl) rfl ?_ | refine ZL.val (r_eql rfl rfl) rfl ?_ | refine ZL.val (r_neq rfl rfl) rfl ?_ | refine ZL.val (r_not rfl) rfl ?_  | refine ZL.val (r_lenSlice rfl) rfl ?_ | refine ZL.val (r_lenString rfl) rfl ?_ | refine ZL.val (r_extract rfl rfl) rfl ?_ | refine ZL.val (r_nilCheck rfl) rfl ?_ | refine ZL.val (r_makeFunc rfl rfl) rfl ?_ | refine ZL.val (r_eqlPtrNil rfl rfl) rfl ?_ | refine ZL.val (r_pickT rfl rfl) rfl ?_ | refine ZL.val (r_pickF rfl rfl) rfl ?_  | refine ZL.val (r_eqlSliceNil rfl rfl) rfl ?_ | refine ZL.val (r_max rfl rfl (Int.max_eq_left (by omega))) rfl ?_ | refine ZL.val (r_max rfl rfl (Int.max_eq_right (by omega))) rfl ?_ | refine ZL.val (r_min rfl rfl (Int.min_eq_left (by omega))) rfl ?_ | refine ZL.val (r_min rfl rfl (Int.min_eq_right (by omega))) rfl ?_  | refine ZL.skip rfl rfl rfl rfl ?_ | refine ZL.on rfl rfl rfl ?_  | refine ZL.val (r_convInt rfl (wrap_i64 (by omega) (by omega))) rfl ?_ | refine ZL.val (r_convInt rfl (wrap_u64 (by omega) (by omega))) rfl ?_ | refine ZL.val (r_convInt rfl (wrap_u32 (by omega) (by omega))) rfl ?_ | refine ZL.val (r_convInt rfl (wrap_u8 (by omega) (by omega))) rfl ?_))
                refine ZL.val (r_ldW P11.M rfl (Pt.size _)) rfl ?_
                refine ZL.call (r_call rfl) rfl (Take_ok bs bm m p w11 (SetR.of P11.M hO)) (fun v12 w12 ⟨U12, hr⟩ => ?_)
                subst hr
                obtain ⟨es12, clk12, hm12, hO12⟩ := U12.r.m
                have P12 := P11.seg (P11.M.rebase.called (o' := .map es12 clk12) inferInstance U12.ext hm12)
                generalize hc1 : (mget m p).getD Cn.zero = c1
                refine ZL.val (r_move rfl) rfl ?_; refine ZL.val (r_extract rfl rfl) rfl ?_; refine ZL.val (r_extract rfl rfl) rfl ?_
                refine ZL.alloc P12.M.rebase rfl rfl (fun b10 w13 R13 => ?_)
                refine ZL.stW R13 rfl rfl (cs' := c1.cells) rfl (by rfl) (by rfl) (by rfl) (fun w14 R14 => ?_)
                have P14 := P12.seg R14
                refine ZL.val (r_assign rfl) rfl ?_; refine ZL.nil ?_; refine ZP.then ?_; refine ZC.seq ?_; refine ZC.region ?_; refine ZL.val (r_move rfl) rfl ?_
                refine ZL.val (r_ldW P14.M rfl (Pt.size _)) rfl ?_
                refine ZL.call (r_call rfl) rfl (RTake_ok (Out w _) bw m p w14 P14.r (by omega)) (fun v15 w15 ⟨U15, hr⟩ => ?_)
                rw [hc1] at hr
                subst hr
                have P15 := P14.ref hbw U15
                refine ZL.val (r_move rfl) rfl ?_; refine ZL.val (r_extract rfl rfl) rfl ?_; refine ZL.val (r_extract rfl rfl) rfl ?_
                refine ZL.alloc P15.M.rebase rfl rfl (fun b12 w16 R16 => ?_)
                refine ZL.stW R16 rfl rfl (cs' := c1.cells) rfl (by rfl) (by rfl) (by rfl) (fun w17 R17 => ?_)
                have P17 := P15.seg R17
                refine ZL.val (r_assign rfl) rfl ?_; refine ZL.nil ?_; refine ZP.then ?_; refine ZC.seq ?_; refine ZC.region ?_
                refine ZL.val (r_ldW P17.M rfl rfl) rfl ?_
                refine ZL.val (r_ldW P17.M rfl rfl) rfl ?_
                refine ZL.val (r_neqCn (c := c1) rfl rfl) rfl ?_
                refine ZL.val (r_move rfl) rfl ?_; refine ZL.on rfl rfl rfl ?_; refine ZL.val (r_move rfl) rfl ?_; refine ZL.on rfl rfl rfl ?_; refine ZL.val (r_move rfl) rfl ?_; refine ZL.on rfl rfl rfl ?_
                refine ZL.val ((r_neqBool rfl rfl).eq (v' := .bool false) (by simp)) rfl ?_
                refine ZL.val (r_pickF rfl rfl) rfl ?_; refine ZL.nil ?_; refine ZP.then ?_; refine ZC.condF rfl ?_; refine ZC.skip ?_; refine ZP.blockN ?_
                have P18 := P17.sub [2, 3, 4, 5, 6] rfl
                exact ZP.mid (mdel m p, es12, clk12) ⟨rfl, rfl, rfl, rfl, rfl, trivial⟩ ⟨by have := mdel_length m p; simp only; omega, hO12, P18⟩
            · rcases h56 with rfl | rfl
              all_goals
                repeat (first | (first | refine ZC.seq ?_ | refine ZC.region ?_ | refine ZC.skip ?_ | refine ZC.ret ?_ | refine ZC.exit ?_ | refine ZC.block ?_ | refine ZL.nil ?_ | refine ZP.thenX ?_ | refine ZP.thenR ?_ | refine ZP.blockN ?_ | refine ZP.blockR ?_ | refine ZP.blockE ?_ | refine ZP.blockX rfl ?_ | refine ZP.then ?_) | (refine ZC.condT rfl ?_) | (refine ZC.condF rfl ?_) | (first | refine ZL.val (r_move rfl) rfl ?_ | refine ZL.val (r_assign rfl) rfl ?_ | refine ZL.val (r_fieldAddr rfl) rfl ?_ | refine ZL.val (r_add rfl rfl (wrap_i64 (by omega) (by omega))) rfl ?_ | refine ZL.val (r_sub rfl rfl (wrap_i64 (by omega) (by omega))) rfl ?_ | refine ZL.val (r_mul rfl rfl (wrap_i64 (by omega) (by omega))) rfl ?_  | refine ZL.val (r_lss rfl rfl) rfl ?_ | refine ZL.val (r_leq rfl rfl) rfl ?_ | refine ZL.val (r_gtr rfl rfl) rfl ?_ | refine ZL.val (r_geq rfl rfl) rfl ?_ | refine ZL.val (r_eql rfl rfl) rfl ?_ | refine ZL.val (r_neq rfl rfl) rfl ?_ | refine ZL.val (r_not rfl) rfl ?_  | refine ZL.val (r_lenSlice rfl) rfl ?_ | refine ZL.val (r_lenString rfl) rfl ?_ | refine ZL.val (r_extract rfl rfl) rfl ?_ | refine ZL.val (r_nilCheck rfl) rfl ?_ | refine ZL.val (r_makeFunc rfl rfl) rfl ?_ | refine ZL.val (r_eqlPtrNil rfl rfl) rfl ?_ | refine ZL.val (r_pickT rfl rfl) rfl ?_ | refine ZL.val (r_pickF rfl rfl) rfl ?_  | refine ZL.val (r_eqlSliceNil rfl rfl) rfl ?_ | refine ZL.val (r_max rfl rfl (Int.max_eq_left (by omega))) rfl ?_ | refine ZL.val (r_max rfl rfl (Int.max_eq_right (by omega))) rfl ?_ | refine ZL.val (r_min rfl rfl (Int.min_eq_left (by omega))) rfl ?_ | refine ZL.val (r_min rfl rfl (Int.min_eq_right (by omega))) rfl ?_  | refine ZL.skip rfl rfl rfl rfl ?_ | refine ZL.on rfl rfl rfl ?_  | refine ZL.val (r_convInt rfl (wrap_i64 (by omega) (by omega))) rfl ?_ | refine ZL.val (r_convInt rfl (wrap_u64 (by omega) (by omega))) rfl ?_ | refine ZL.val (r_convInt rfl (wrap_u32 (by omega) (by omega))) rfl ?_ | refine ZL.val (r_convInt rfl (wrap_u8 (by omega) (by omega))) rfl ?_))
                refine ZC.turning (Holds [(b8, .cells xT 30)]) 18 rfl (by kernel_rfl) rfl rfl rfl (fun w12 E12 _ => ?_)
                have P12 := P11.ext E12
                have S12 : Holds [(b8, .cells xT 30)] w12 := ⟨P12.M.get inferInstance, trivial⟩
                refine ZT.take 0 rfl rfl (fun w' hS' => by first | exact r_move rfl | exact r_assign rfl | exact r_fieldAddr rfl | exact r_add rfl rfl (wrap_i64 (by omega) (by omega)) | exact r_sub rfl rfl (wrap_i64 (by omega) (by omega)) | exact r_mul rfl rfl (wrap_i64 (by omega) (by omega)) | exact r_convInt rfl (wrap_u64 (by omega) (by omega)) | exact r_convInt rfl (wrap_i64 (by omega) (by omega)) | exact r_convInt rfl (wrap_u32 (by omega) (by omega)) | exact r_sliceArr rfl | exact r_nilCheck rfl | exact r_extract rfl rfl | exact r_lenSlice rfl | exact r_and rfl rfl rfl | exact r_shr rfl rfl (by omega) rfl | exact r_toB rfl | exact r_toU rfl | exact r_toQ rfl) (by kernel_rfl) rfl (by kernel_rfl) (by kernel_rfl) rfl rfl (fun _ _ _ _ h => h) S12 ?_
                refine ZT.take 1 rfl rfl (fun w' hS' => r_loadW rfl hS'.1 (by subst hX; rfl)) (by kernel_rfl) rfl (by kernel_rfl) (by kernel_rfl) rfl rfl (fun _ _ _ _ h => h) S12 ?_
                refine ZT.take 2 rfl rfl (fun w' hS' => by first | exact r_move rfl | exact r_assign rfl | exact r_fieldAddr rfl | exact r_add rfl rfl (wrap_i64 (by omega) (by omega)) | exact r_sub rfl rfl (wrap_i64 (by omega) (by omega)) | exact r_mul rfl rfl (wrap_i64 (by omega) (by omega)) | exact r_convInt rfl (wrap_u64 (by omega) (by omega)) | exact r_convInt rfl (wrap_i64 (by omega) (by omega)) | exact r_convInt rfl (wrap_u32 (by omega) (by omega)) | exact r_sliceArr rfl | exact r_nilCheck rfl | exact r_extract rfl rfl | exact r_lenSlice rfl | exact r_and rfl rfl rfl | exact r_shr rfl rfl (by omega) rfl | exact r_toB rfl | exact r_toU rfl | exact r_toQ rfl) (by kernel_rfl) rfl (by kernel_rfl) (by kernel_rfl) rfl rfl (fun _ _ _ _ h => h) S12 ?_
                refine ZT.take 3 rfl rfl (fun w' hS' => by first | exact r_move rfl | exact r_assign rfl | exact r_fieldAddr rfl | exact r_add rfl rfl (wrap_i64 (by omega) (by omega)) | exact r_sub rfl rfl (wrap_i64 (by omega) (by omega)) | exact r_mul rfl rfl (wrap_i64 (by omega) (by omega)) | exact r_convInt rfl (wrap_u64 (by omega) (by omega)) | exact r_convInt rfl (wrap_i64 (by omega) (by omega)) | exact r_convInt rfl (wrap_u32 (by omega) (by omega)) | exact r_sliceArr rfl | exact r_nilCheck rfl | exact r_extract rfl rfl | exact r_lenSlice rfl | exact r_and rfl rfl rfl | exact r_shr rfl rfl (by omega) rfl | exact r_toB rfl | exact r_toU rfl | exact r_toQ rfl) (by kernel_rfl) rfl (by kernel_rfl) (by kernel_rfl) rfl rfl (fun _ _ _ _ h => h) S12 ?_
                refine ZT.take 4 rfl rfl (fun w' hS' => by first | exact r_move rfl | exact r_assign rfl | exact r_fieldAddr rfl | exact r_add rfl rfl (wrap_i64 (by omega) (by omega)) | exact r_sub rfl rfl (wrap_i64 (by omega) (by omega)) | exact r_mul rfl rfl (wrap_i64 (by omega) (by omega)) | exact r_convInt rfl (wrap_u64 (by omega) (by omega)) | exact r_convInt rfl (wrap_i64 (by omega) (by omega)) | exact r_convInt rfl (wrap_u32 (by omega) (by omega)) | exact r_sliceArr rfl | exact r_nilCheck rfl | exact r_extract rfl rfl | exact r_lenSlice rfl | exact r_and rfl rfl rfl | exact r_shr rfl rfl (by omega) rfl | exact r_toB rfl | exact r_toU rfl | exact r_toQ rfl) (by kernel_rfl) rfl (by kernel_rfl) (by kernel_rfl) rfl rfl (fun _ _ _ _ h => h) S12 ?_
                refine ZT.take 5 rfl rfl (fun w' hS' => by first | exact r_move rfl | exact r_assign rfl | exact r_fieldAddr rfl | exact r_add rfl rfl (wrap_i64 (by omega) (by omega)) | exact r_sub rfl rfl (wrap_i64 (by omega) (by omega)) | exact r_mul rfl rfl (wrap_i64 (by omega) (by omega)) | exact r_convInt rfl (wrap_u64 (by omega) (by omega)) | exact r_convInt rfl (wrap_i64 (by omega) (by omega)) | exact r_convInt rfl (wrap_u32 (by omega) (by omega)) | exact r_sliceArr rfl | exact r_nilCheck rfl | exact r_extract rfl rfl | exact r_lenSlice rfl | exact r_and rfl rfl rfl | exact r_shr rfl rfl (by omega) rfl | exact r_toB rfl | exact r_toU rfl | exact r_toQ rfl) (by kernel_rfl) rfl (by kernel_rfl) (by kernel_rfl) rfl rfl (fun _ _ _ _ h => h) S12 ?_
                refine ZT.take 6 rfl rfl (fun w' hS' => r_and rfl rfl rfl) (by kernel_rfl) rfl (by kernel_rfl) (by kernel_rfl) rfl rfl (fun _ _ _ _ h => h) S12 ?_
                refine ZT.take 7 rfl rfl (fun w' hS' => r_eql rfl rfl) (by kernel_rfl) rfl (by kernel_rfl) (by kernel_rfl) rfl rfl (fun _ _ _ _ h => h) S12 ?_
                refine ZT.take 9 rfl rfl (fun w' hS' => by first | exact r_move rfl | exact r_assign rfl | exact r_fieldAddr rfl | exact r_add rfl rfl (wrap_i64 (by omega) (by omega)) | exact r_sub rfl rfl (wrap_i64 (by omega) (by omega)) | exact r_mul rfl rfl (wrap_i64 (by omega) (by omega)) | exact r_convInt rfl (wrap_u64 (by omega) (by omega)) | exact r_convInt rfl (wrap_i64 (by omega) (by omega)) | exact r_convInt rfl (wrap_u32 (by omega) (by omega)) | exact r_sliceArr rfl | exact r_nilCheck rfl | exact r_extract rfl rfl | exact r_lenSlice rfl | exact r_and rfl rfl rfl | exact r_shr rfl rfl (by omega) rfl | exact r_toB rfl | exact r_toU rfl | exact r_toQ rfl) (by kernel_rfl) rfl (by kernel_rfl) (by kernel_rfl) rfl rfl (fun _ _ _ _ h => h) S12 ?_
                refine ZT.take 10 rfl rfl (fun w' hS' => r_loadW rfl hS'.1 (by subst hX; rfl)) (by kernel_rfl) rfl (by kernel_rfl) (by kernel_rfl) rfl rfl (fun _ _ _ _ h => h) S12 ?_
                refine ZT.take 11 rfl rfl (fun w' hS' => by first | exact r_move rfl | exact r_assign rfl | exact r_fieldAddr rfl | exact r_add rfl rfl (wrap_i64 (by omega) (by omega)) | exact r_sub rfl rfl (wrap_i64 (by omega) (by omega)) | exact r_mul rfl rfl (wrap_i64 (by omega) (by omega)) | exact r_convInt rfl (wrap_u64 (by omega) (by omega)) | exact r_convInt rfl (wrap_i64 (by omega) (by omega)) | exact r_convInt rfl (wrap_u32 (by omega) (by omega)) | exact r_sliceArr rfl | exact r_nilCheck rfl | exact r_extract rfl rfl | exact r_lenSlice rfl | exact r_and rfl rfl rfl | exact r_shr rfl rfl (by omega) rfl | exact r_toB rfl | exact r_toU rfl | exact r_toQ rfl) (by kernel_rfl) rfl (by kernel_rfl) (by kernel_rfl) rfl rfl (fun _ _ _ _ h => h) S12 ?_
                refine ZT.take 12 rfl rfl (fun w' hS' => by first | exact r_move rfl | exact r_assign rfl | exact r_fieldAddr rfl | exact r_add rfl rfl (wrap_i64 (by omega) (by omega)) | exact r_sub rfl rfl (wrap_i64 (by omega) (by omega)) | exact r_mul rfl rfl (wrap_i64 (by omega) (by omega)) | exact r_convInt rfl (wrap_u64 (by omega) (by omega)) | exact r_convInt rfl (wrap_i64 (by omega) (by omega)) | exact r_convInt rfl (wrap_u32 (by omega) (by omega)) | exact r_sliceArr rfl | exact r_nilCheck rfl | exact r_extract rfl rfl | exact r_lenSlice rfl | exact r_and rfl rfl rfl | exact r_shr rfl rfl (by omega) rfl | exact r_toB rfl | exact r_toU rfl | exact r_toQ rfl) (by kernel_rfl) rfl (by kernel_rfl) (by kernel_rfl) rfl rfl (fun _ _ _ _ h => h) S12 ?_
                refine ZT.take 13 rfl rfl (fun w' hS' => by first | exact r_move rfl | exact r_assign rfl | exact r_fieldAddr rfl | exact r_add rfl rfl (wrap_i64 (by omega) (by omega)) | exact r_sub rfl rfl (wrap_i64 (by omega) (by omega)) | exact r_mul rfl rfl (wrap_i64 (by omega) (by omega)) | exact r_convInt rfl (wrap_u64 (by omega) (by omega)) | exact r_convInt rfl (wrap_i64 (by omega) (by omega)) | exact r_convInt rfl (wrap_u32 (by omega) (by omega)) | exact r_sliceArr rfl | exact r_nilCheck rfl | exact r_extract rfl rfl | exact r_lenSlice rfl | exact r_and rfl rfl rfl | exact r_shr rfl rfl (by omega) rfl | exact r_toB rfl | exact r_toU rfl | exact r_toQ rfl) (by kernel_rfl) rfl (by kernel_rfl) (by kernel_rfl) rfl rfl (fun _ _ _ _ h => h) S12 ?_
                refine ZT.take 14 rfl rfl (fun w' hS' => by first | exact r_move rfl | exact r_assign rfl | exact r_fieldAddr rfl | exact r_add rfl rfl (wrap_i64 (by omega) (by omega)) | exact r_sub rfl rfl (wrap_i64 (by omega) (by omega)) | exact r_mul rfl rfl (wrap_i64 (by omega) (by omega)) | exact r_convInt rfl (wrap_u64 (by omega) (by omega)) | exact r_convInt rfl (wrap_i64 (by omega) (by omega)) | exact r_convInt rfl (wrap_u32 (by omega) (by omega)) | exact r_sliceArr rfl | exact r_nilCheck rfl | exact r_extract rfl rfl | exact r_lenSlice rfl | exact r_and rfl rfl rfl | exact r_shr rfl rfl (by omega) rfl | exact r_toB rfl | exact r_toU rfl | exact r_toQ rfl) (by kernel_rfl) rfl (by kernel_rfl) (by kernel_rfl) rfl rfl (fun _ _ _ _ h => h) S12 ?_
                refine ZT.take 15 rfl rfl (fun w' hS' => r_and rfl rfl rfl) (by kernel_rfl) rfl (by kernel_rfl) (by kernel_rfl) rfl rfl (fun _ _ _ _ h => h) S12 ?_
                refine ZT.take 16 rfl rfl (fun w' hS' => r_eql rfl rfl) (by kernel_rfl) rfl (by kernel_rfl) (by kernel_rfl) rfl rfl (fun _ _ _ _ h => h) S12 ?_
                generalize decide (iand .i64 (i : Int) 2 = 2) = b2
                refine ZT.one 8 rfl (by kernel_rfl) rfl rfl rfl ?_
                have hU := Make_ok bs bm m _ T i (i + 5) b2 w12 _ (hG.ext P12.M.ext) (SetR.of P12.M hO) P12.t (.inl (.inr (fpIn_of P12.M))) (by omega)
                refine ZL.call (r_call rfl) rfl hU (fun v13 w13 ⟨U13, hr⟩ => ?_)
                clear hU
                subst hr
                obtain ⟨es13, clk13, hm13, hO13⟩ := U13.r.m
                have P13 := P12.seg (P12.M.rebase.called (o' := .map es13 clk13) inferInstance U13.ext hm13)
                refine ZL.nil (ZP.turning ⟨P13.M.get inferInstance, trivial⟩ ?_)
                refine ZT.one 17 rfl (by kernel_rfl) rfl rfl rfl ?_
                have hU := RMake_ok (Out w _) _ bw m _ T i (i + 5) b2 w13 P13.r P13.t (.inr rfl) (by omega) (by omega)
                refine ZL.call (r_call rfl) rfl hU (fun v14 w14 ⟨U14, hr⟩ => ?_)
                clear hU
                subst hr
                have P14 := P13.ref hbw U14
                refine ZL.nil (ZP.turning ⟨P14.M.get inferInstance, trivial⟩ ?_)
                refine ZT.done rfl (by kernel_rfl) ?_
                refine ZL.val ((r_neqBool rfl rfl).eq (v' := .bool false) (by simp)) rfl ?_
                refine ZL.nil ?_; refine ZP.then ?_; refine ZC.condF rfl ?_; refine ZC.skip ?_; refine ZP.blockN ?_
                exact ZP.mid (smake m T i (i + 5) b2, es13, clk13) ⟨rfl, rfl, rfl, rfl, rfl, trivial⟩ ⟨by have := smake_length m T i (i + 5) b2; simp only; omega, hO13, P14⟩
            · refine ZL.nil ?_; refine ZP.then ?_; refine ZC.block ?_; refine ZC.seq ?_; refine ZC.seq ?_; refine ZC.region ?_; refine ZL.val (r_eql rfl rfl) rfl ?_; refine ZL.val (r_assign rfl) rfl ?_; refine ZL.nil ?_; refine ZP.then ?_; refine ZC.condF rfl ?_; refine ZC.seq ?_; refine ZC.region ?_; refine ZL.val (r_eql rfl rfl) rfl ?_; refine ZL.val (r_assign rfl) rfl ?_; refine ZL.nil ?_; refine ZP.then ?_; refine ZC.condF rfl ?_; refine ZC.region ?_; refine ZL.val (r_eql rfl rfl) rfl ?_; refine ZL.val (r_assign rfl) rfl ?_; refine ZL.nil ?_; refine ZP.then ?_; refine ZC.condF rfl ?_; refine ZC.seq ?_; refine ZC.seq ?_; refine ZC.region ?_; refine ZL.val (r_eql rfl rfl) rfl ?_; refine ZL.val (r_assign rfl) rfl ?_; refine ZL.nil ?_; refine ZP.then ?_; refine ZC.condF rfl ?_; refine ZC.region ?_; refine ZL.val (r_eql rfl rfl) rfl ?_; refine ZL.val (r_assign rfl) rfl ?_; refine ZL.nil ?_; refine ZP.then ?_; refine ZC.condF rfl ?_; refine ZC.seq ?_; refine ZC.seq ?_; refine ZC.region ?_; refine ZL.val (r_eql rfl rfl) rfl ?_; refine ZL.val (r_assign rfl) rfl ?_; refine ZL.nil ?_; refine ZP.then ?_; refine ZC.condF rfl ?_; refine ZC.region ?_; refine ZL.val (r_eql rfl rfl) rfl ?_; refine ZL.val (r_assign rfl) rfl ?_; refine ZL.nil ?_; refine ZP.then ?_; refine ZC.condF rfl ?_; refine ZC.seq ?_
              refine ZC.turning (Holds [(b8, .cells xT 30)]) 6 rfl (by kernel_rfl) rfl rfl rfl (fun w12 E12 _ => ?_)
              have P12 := P11.ext E12
              have S12 : Holds [(b8, .cells xT 30)] w12 := ⟨P12.M.get inferInstance, trivial⟩
              refine ZT.take 0 rfl rfl (fun w' hS' => by first | exact r_move rfl | exact r_assign rfl | exact r_fieldAddr rfl | exact r_add rfl rfl (wrap_i64 (by omega) (by omega)) | exact r_sub rfl rfl (wrap_i64 (by omega) (by omega)) | exact r_mul rfl rfl (wrap_i64 (by omega) (by omega)) | exact r_convInt rfl (wrap_u64 (by omega) (by omega)) | exact r_convInt rfl (wrap_i64 (by omega) (by omega)) | exact r_convInt rfl (wrap_u32 (by omega) (by omega)) | exact r_sliceArr rfl | exact r_nilCheck rfl | exact r_extract rfl rfl | exact r_lenSlice rfl | exact r_and rfl rfl rfl | exact r_shr rfl rfl (by omega) rfl | exact r_toB rfl | exact r_toU rfl | exact r_toQ rfl) (by kernel_rfl) rfl (by kernel_rfl) (by kernel_rfl) rfl rfl (fun _ _ _ _ h => h) S12 ?_
              refine ZT.take 1 rfl rfl (fun w' hS' => r_loadW rfl hS'.1 (by subst hX; rfl)) (by kernel_rfl) rfl (by kernel_rfl) (by kernel_rfl) rfl rfl (fun _ _ _ _ h => h) S12 ?_
              refine ZT.take 3 rfl rfl (fun w' hS' => by first | exact r_move rfl | exact r_assign rfl | exact r_fieldAddr rfl | exact r_add rfl rfl (wrap_i64 (by omega) (by omega)) | exact r_sub rfl rfl (wrap_i64 (by omega) (by omega)) | exact r_mul rfl rfl (wrap_i64 (by omega) (by omega)) | exact r_convInt rfl (wrap_u64 (by omega) (by omega)) | exact r_convInt rfl (wrap_i64 (by omega) (by omega)) | exact r_convInt rfl (wrap_u32 (by omega) (by omega)) | exact r_sliceArr rfl | exact r_nilCheck rfl | exact r_extract rfl rfl | exact r_lenSlice rfl | exact r_and rfl rfl rfl | exact r_shr rfl rfl (by omega) rfl | exact r_toB rfl | exact r_toU rfl | exact r_toQ rfl) (by kernel_rfl) rfl (by kernel_rfl) (by kernel_rfl) rfl rfl (fun _ _ _ _ h => h) S12 ?_
              refine ZT.take 4 rfl rfl (fun w' hS' => r_loadW rfl hS'.1 (by subst hX; rfl)) (by kernel_rfl) rfl (by kernel_rfl) (by kernel_rfl) rfl rfl (fun _ _ _ _ h => h) S12 ?_
              refine ZT.one 2 rfl (by kernel_rfl) rfl rfl rfl ?_
              have hU := Unmake_ok bs bm m _ T w12 _ (hG.ext P12.M.ext) (SetR.of P12.M hO) P12.t (.inl (.inr (fpIn_of P12.M))) (by omega)
              refine ZL.call (r_call rfl) rfl hU (fun v13 w13 ⟨U13, hr⟩ => ?_)
              clear hU
              subst hr
              obtain ⟨es13, clk13, hm13, hO13⟩ := U13.r.m
              have P13 := P12.seg (P12.M.rebase.called (o' := .map es13 clk13) inferInstance U13.ext hm13)
              refine ZL.nil (ZP.turning ⟨P13.M.get inferInstance, trivial⟩ ?_)
              refine ZT.one 5 rfl (by kernel_rfl) rfl rfl rfl ?_
              have hU := RUnmake_ok (Out w _) _ bw m _ T w13 P13.r P13.t (.inr rfl) (by omega) (by omega)
              refine ZL.call (r_call rfl) rfl hU (fun v14 w14 ⟨U14, hr⟩ => ?_)
              clear hU
              subst hr
              have P14 := P13.ref hbw U14
              refine ZL.nil (ZP.turning ⟨P14.M.get inferInstance, trivial⟩ ?_)
              refine ZT.done rfl (by kernel_rfl) ?_
              refine ZL.val ((r_neqBool rfl rfl).eq (v' := .bool false) (by simp)) rfl ?_
              refine ZL.nil ?_; refine ZP.then ?_; refine ZC.condF rfl ?_; refine ZC.skip ?_; refine ZP.blockN ?_
              exact ZP.mid (sunmake m T, es13, clk13) ⟨rfl, rfl, rfl, rfl, rfl, trivial⟩ ⟨by have := sunmake_length m T; simp only; omega, hO13, P14⟩
          · clear P11 hO
            rintro ⟨m2, es2, clk2⟩ w12 ⟨hml2, hO2, P12⟩
            simp only at hml2 hO2 P12 ⊢
            refine ZC.seq ?_; refine ZC.region ?_; refine ZL.val (r_move rfl) rfl ?_
            refine ZL.val (r_ldW P12.M rfl (Pt.size _)) rfl ?_
            refine ZL.call (r_call rfl) rfl (Get_ok bs bm m2 p w12 (SetR.of P12.M hO2)) (fun v13 w13 ⟨E13, hr⟩ => ?_)
            subst hr
            have P13 := P12.ext E13
            generalize hc1 : (mget m2 p).getD Cn.zero = c1
            refine ZL.val (r_move rfl) rfl ?_; refine ZL.val (r_extract rfl rfl) rfl ?_; refine ZL.val (r_extract rfl rfl) rfl ?_
            refine ZL.alloc P13.M.rebase rfl rfl (fun b14 w14 R14 => ?_)
            refine ZL.stW R14 rfl rfl (cs' := c1.cells) rfl (by rfl) (by rfl) (by rfl) (fun w15 R15 => ?_)
            have P15 := P13.seg R15
            refine ZL.val (r_assign rfl) rfl ?_; refine ZL.nil ?_; refine ZP.then ?_; refine ZC.seq ?_; refine ZC.region ?_; refine ZL.val (r_move rfl) rfl ?_
            refine ZL.val (r_ldW P15.M rfl (Pt.size _)) rfl ?_
            refine ZL.call (r_call rfl) rfl (RGet_ok (Out w _) bw m2 p w15 P15.r (by omega)) (fun v16 w16 ⟨E16, hr⟩ => ?_)
            rw [hc1] at hr
            subst hr
            have P16 := P15.ext E16
            refine ZL.val (r_move rfl) rfl ?_; refine ZL.val (r_extract rfl rfl) rfl ?_; refine ZL.val (r_extract rfl rfl) rfl ?_
            refine ZL.alloc P16.M.rebase rfl rfl (fun b16 w17 R17 => ?_)
            refine ZL.stW R17 rfl rfl (cs' := c1.cells) rfl (by rfl) (by rfl) (by rfl) (fun w18 R18 => ?_)
            have P18 := P16.seg R18
            refine ZL.val (r_assign rfl) rfl ?_; refine ZL.nil ?_; refine ZP.then ?_; refine ZC.seq ?_; refine ZC.region ?_; refine ZL.val (r_move rfl) rfl ?_
            refine ZL.call (r_call rfl) rfl (Points_ok bs bm m2 w18 (SetR.of P18.M hO2) (by omega)) (fun v19 w19 ⟨E19, xs, hp1, hs1, hN1⟩ => ?_)
            have P19 := P18.ext E19
            have hX1 : PtsR w19 No v19 xs := PtsR.of (hN1.own.slc fun _ _ h => h)
            obtain ⟨pv1, cv1, rfl⟩ := hN1.own.shape
            refine ZL.val (r_move rfl) rfl ?_
            refine ZL.call (r_call rfl) rfl (RPoints_ok (Out w _) bw m2 w19 P19.r (by omega)) (fun v20 w20 ⟨E20, ys, hp2, hs2, hN2⟩ => ?_)
            have P20 := P19.ext E20
            obtain rfl := sorted_eq hp2 hp1 hs2 hs1
            have hyl := hp2.length_eq
            rw [List.length_map] at hyl
            have hX2 : PtsR w20 No v20 ys := PtsR.of (hN2.own.slc fun _ _ h => h)
            obtain ⟨pv2, cv2, rfl⟩ := hN2.own.shape
            have hX1 := hX1.mv (Mv.ext E20)
            refine ZL.val (r_assign rfl) rfl ?_; refine ZL.val (r_assign rfl) rfl ?_; refine ZL.nil ?_; refine ZP.then ?_; refine ZC.seq ?_; refine ZC.seq ?_; refine ZC.region ?_
            refine ZL.val (r_ldW P20.M rfl rfl) rfl ?_
            refine ZL.val (r_ldW P20.M rfl rfl) rfl ?_
            refine ZL.val (r_neqCn (c := c1) rfl rfl) rfl ?_
            refine ZL.val (r_move rfl) rfl ?_; refine ZL.on rfl rfl rfl ?_; refine ZL.val (r_move rfl) rfl ?_; refine ZL.on rfl rfl rfl ?_; refine ZL.val (r_move rfl) rfl ?_; refine ZL.on rfl rfl rfl ?_
            refine ZL.val ((r_neqBool rfl rfl).eq (v' := .bool false) (by simp)) rfl ?_
            refine ZL.val (r_pickF rfl rfl) rfl ?_; refine ZL.val (r_move rfl) rfl ?_; refine ZL.on rfl rfl rfl ?_; refine ZL.val (r_move rfl) rfl ?_; refine ZL.on rfl rfl rfl ?_; refine ZL.val (r_lenSlice rfl) rfl ?_; refine ZL.on rfl rfl rfl ?_; refine ZL.val (r_move rfl) rfl ?_; refine ZL.on rfl rfl rfl ?_; refine ZL.val (r_lenSlice rfl) rfl ?_; refine ZL.on rfl rfl rfl ?_; refine ZL.val (r_neq rfl rfl) rfl ?_; refine ZL.val (r_pickF rfl rfl) rfl ?_; refine ZL.nil ?_; refine ZP.then ?_
            rw [show decide ((ys.length : Int) ≠ (ys.length : Int)) = false from decide_eq_false (by simp)]
            refine ZC.condF rfl ?_; refine ZC.skip ?_; refine ZP.then ?_; refine ZC.seq ?_; refine ZC.region ?_; refine ZL.val (r_move rfl) rfl ?_; refine ZL.val (r_lenSlice rfl) rfl ?_; refine ZL.val (r_move rfl) rfl ?_; refine ZL.nil ?_; refine ZP.then ?_; refine ZC.block ?_
            refine ZC.loop (X := Nat) (fun j => [(168, .int .i64 j), (167, .int .i64 (ys.length : Int)), (18, .slice pv1 ys.length cv1), (19, .slice pv2 ys.length cv2), (5, .int .i64 i), (4, .pointer (some ⟨bw, 0, none⟩)), (3, .pointer (some ⟨bs, 0, none⟩)), (0, .slice (some ⟨ba, oa, none⟩) l.length ca)])
              (fun j w' => j ≤ ys.length ∧ Ext w20 w') (fun j => ys.length - j) 0 ⟨rfl, rfl, rfl, rfl, rfl, rfl, rfl, rfl, trivial⟩ ⟨by omega, ExtX.refl _ _⟩ ?_
            rintro j w21 ⟨hj, E21⟩
            refine ZC.seq ?_; refine ZC.region ?_; refine ZL.val (r_lss rfl rfl) rfl ?_; refine ZL.nil ?_; refine ZP.then ?_; refine ZC.seq ?_
            refine ZC.condD rfl (fun hd => ?_) (fun hd => ?_)
            · have hjl : j < ys.length := by omega
              refine ZC.skip ?_; refine ZP.then ?_; refine ZC.seq ?_; refine ZC.block ?_; refine ZC.seq ?_; refine ZC.region ?_; refine ZL.val (r_move rfl) rfl ?_; refine ZL.val (r_assign rfl) rfl ?_; refine ZL.nil ?_; refine ZP.then ?_; refine ZC.seq ?_
              refine ZC.still (by kernel_rfl) (fun w22 E22 _ => ?_)
              have E := ExtX.trans E21 E22 (fun _ h => h) (fun _ _ h => h)
              obtain ⟨g1, o1, cs1, e1, fz1, r1, rfl, hg1, _, _, hre1, _, hsz1, hext1⟩ := ListR.elem (by decide) (hX1.mv (Mv.ext E)) hjl
              obtain ⟨g2, o2, cs2, e2, fz2, r2, rfl, hg2, _, _, hre2, _, hsz2, hext2⟩ := ListR.elem (by decide) (hX2.mv (Mv.ext E)) hjl
              simp only [PtE] at hre1 hre2
              subst hre1 hre2
              refine ZS.val (r_move rfl) rfl ?_; refine ZS.val (r_move rfl) rfl ?_
              refine ZS.val (r_idxS j rfl rfl rfl hjl) rfl ?_
              skip
              refine ZS.val (r_loadN rfl hg1 hsz1 hext1) rfl ?_
              refine ZS.val (r_move rfl) rfl ?_; refine ZS.val (r_move rfl) rfl ?_
              refine ZS.val (r_idxS j rfl rfl rfl hjl) rfl ?_
              skip
              refine ZS.val (r_loadN rfl hg2 hsz2 hext2) rfl ?_
              refine ZS.val ((r_neqPt (p := ys[j]) (q := ys[j]) rfl rfl).eq (v' := .bool false) (by simp)) rfl ?_
              refine ZS.nil ?_
              refine ZP.then ?_; refine ZC.condF rfl ?_; refine ZC.skip ?_; refine ZP.blockN ?_; refine ZP.then ?_; refine ZC.region ?_; refine ZL.val (r_add rfl rfl (wrap_i64 (by omega) (by omega))) rfl ?_; refine ZL.val (r_move rfl) rfl ?_; refine ZL.nil ?_
              exact ZP.round (j + 1) ⟨rfl, rfl, rfl, rfl, rfl, rfl, rfl, rfl, trivial⟩ ⟨by omega, E⟩ (by omega)
            · refine ZC.exit ?_; refine ZP.thenX ?_; refine ZP.thenX ?_; refine ZP.blockE ?_; refine ZP.blockN ?_; refine ZP.then ?_; refine ZC.region ?_; refine ZL.val (r_move rfl) rfl ?_; refine ZL.val (r_add rfl rfl (wrap_i64 (by omega) (by omega))) rfl ?_; refine ZL.val (r_assign rfl) rfl ?_; refine ZL.nil ?_
              have P21 := (P20.ext E21).sub [5, 6] rfl
              exact ZP.round (i + 1, m2, es2, clk2) ⟨rfl, rfl, rfl, rfl, trivial⟩ ⟨by simp only; omega, by simp only; omega, hO2, P21.M, P21.r⟩ (by simp only; omega)
      · refine ZC.exit ?_; refine ZP.thenX ?_; refine ZP.thenX ?_; refine ZP.blockE ?_
        exact ZP.mid () trivial M3.ext
    · rw [show decide ((i : Int) < (l.length : Int)) = false from decide_eq_false hlt]
      refine ZL.skip rfl rfl rfl rfl ?_; refine ZL.skip rfl rfl rfl rfl ?_; refine ZL.val (r_pickF rfl rfl) rfl ?_; refine ZL.nil ?_; refine ZP.then ?_; refine ZC.condF rfl ?_; refine ZC.exit ?_; refine ZP.thenX ?_; refine ZP.thenX ?_; refine ZP.blockE ?_
      exact ZP.mid () trivial M3.ext
  · rintro ⟨⟩ w3 E3
    refine ZC.seq ?_; refine ZC.region ?_
    refine ZL.call (r_call rfl) rfl (awake_ok w3 (hG.ext E3)) (fun v8 w8 ⟨E8, hr⟩ => ?_)
    subst hr
    refine ZL.val (r_assign rfl) rfl ?_; refine ZL.nil ?_; refine ZP.then ?_; refine ZC.ret ?_
    exact ZP.ret1 rfl rfl ⟨ExtX.trans E3 E8 (fun _ h => h) (fun _ _ h => h), rfl⟩
end Go.Proofs.YthcgmdmdgpljmaaDoor.Z
