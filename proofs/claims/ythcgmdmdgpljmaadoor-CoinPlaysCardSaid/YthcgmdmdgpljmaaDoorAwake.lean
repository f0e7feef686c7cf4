/- awake. -/
import Derived.Test.YthcgmdmdgpljmaaDoorPlain
import Derived.Test.YthcgmdmdgpljmaaDoorSort
import Derived.Test.YthcgmdmdgpljmaaDoorLaw3
set_option linter.unusedVariables false
set_option linter.unusedSimpArgs false
set_option linter.unusedSectionVars false
set_option maxRecDepth 100000
set_option maxHeartbeats 4000000
namespace Go.Proofs.YthcgmdmdgpljmaaDoor.Z
open Go Go.RowKit

theorem SetR.of {w0 w : World} {X : Nat → Prop} {L : List Chunk} {bs bm : Nat} {m : CMap} {es : Array MapEntry} {clk : Nat} (M : Mem w0 X L w) [i : In L bs (.cells (setC bm) 59)] [j : In L bm (.map es clk)] (hO : CObj m es clk) : SetR w bs bm m := ⟨M.get i, es, clk, M.get j, hO⟩

section
variable {P : Program} {σ : Env} {w : World}
theorem r_buildPt0 {t : TypeId} {x : Operand} {id : B32} {z : Value} {zs : Array Value} [TB P t [(0, 32), (32, 1)]] [TZ P t z] (hz : vcells z = some zs) (hzs : zs.size = 33) (hl : zs.toList.drop 32 = [u32 0]) (hx : ev σ x = some id.v) :
    V P σ (.build t #[(0, x)]) (Pt.mk id 0).v w := by
  refine ⟨fun ρ ha o ho => ?_⟩
  have hb : P.built t [(0, id.v)] = some (Pt.mk id 0).cells.toArray := by
    have hi := TB.h (P := P) (t := t)
    have hzz := TZ.h (P := P) (t := t)
    unfold Program.built
    cases hit : P.info? t with
    | none => simp [hit] at hzz
    | some it =>
      cases hu : P.underlying t with
      | none => simp [hu] at hi
      | some d =>
        rw [hu] at hi
        cases d <;> simp only [reduceCtorEq] at hi
        simp only [hit, Option.map_some, Option.some.injEq] at hzz
        simp only [hzz, hi]
        rw [vcells_eq hz]
        have hc : (id.v).cells = id.cells.toArray := rfl
        rw [fill_cons (off := 0) (size := 32) rfl (by rw [hc]; exact B32.size id) (by omega)]
        simp only [Instr.fill, hc]
        congr 2
        simp [Pt.cells, hl]
  have hr : (Instr.build t #[(0, ρ x)]).run P w = .ok (.agg (Pt.mk id 0).cells.toArray) w := run_build w t _ _ (by rw [ha _ _ hx]; exact hb)
  simp [execOp, ho, hr, Pt.v]
end
theorem fpIn_of {w0 w : World} {X : Nat → Prop} {L : List Chunk} {b : Nat} {o : Obj} (M : Mem w0 X L w) [i : In L b o] : fpIn L b := ⟨.blk b o, i.h, rfl⟩
theorem mget_one (p : Pt) (c : Cn) : mget [(p, c)] p = some c := by simp [mget]
theorem mdel_one (p : Pt) (c : Cn) : mdel [(p, c)] p = [] := by simp [mdel]
theorem sput_nil (p : Pt) (c : Cn) : sput [] p c = [(p, c)] := rfl
theorem sput_one (p : Pt) (c d : Cn) : sput [(p, c)] p d = [(p, c)] := by simp [sput, mget_one]

theorem awake_ok (w : World) (hG : GW w) : Ret P 12 #[] w (fun r w' => Ext w w' ∧ r = .bool true) := by
  refine Ret.enter0 Tryd.func12 rfl Tryd.ntmps12 rfl ?_
  refine ZC.seq ?_; refine ZC.region ?_; refine ZL.val (r_assign rfl) rfl ?_; refine ZL.nil ?_; refine ZP.then ?_; refine ZC.seq ?_; refine ZC.region ?_
  refine ZL.call (r_call rfl) rfl (New_ok w) (fun v1 w1 ⟨bs, bm, M1, hr⟩ => ?_)
  subst hr
  refine ZL.val (r_assign rfl) rfl ?_; refine ZL.nil ?_; refine ZP.then ?_; refine ZC.seq ?_; refine ZC.seq ?_; refine ZC.region ?_; refine ZL.val (r_move rfl) rfl ?_; refine ZL.val (r_eqlPtrNil rfl rfl) rfl ?_; refine ZL.nil ?_; refine ZP.then ?_; refine ZC.condF rfl ?_; refine ZC.skip ?_; refine ZP.then ?_; refine ZC.seq ?_; refine ZC.region ?_
  --@
  refine ZL.val (r_buildOne rfl rfl (cs := (Pt.mk ⟨List.replicate 32 0, rfl⟩ 3).cells) rfl) rfl ?_
  refine ZL.alloc M1 rfl rfl (fun b2 w2 M2 => ?_)
  refine ZL.stW M2 rfl rfl (cs' := (Pt.mk ⟨List.replicate 32 0, rfl⟩ 3).cells.toArray) rfl (by simp) (Pt.size _) (Pt.one _) (fun w3 M3 => ?_)
  generalize hp : (Pt.mk ⟨List.replicate 32 0, rfl⟩ 3) = p at M3
  refine ZL.nil ?_; refine ZP.then ?_; refine ZC.seq ?_
  refine ZC.turning (Holds [(b2, .cells p.cells.toArray 41)]) 8 rfl (by kernel_rfl) rfl rfl rfl (fun w4 E4 _ => ?_)
  have M4 := M3.ext' E4
  have S4 : Holds [(b2, .cells p.cells.toArray 41)] w4 := ⟨M4.get inferInstance, trivial⟩
  refine ZT.take 0 rfl rfl (fun w' hS' => by first | exact r_move rfl | exact r_assign rfl | exact r_fieldAddr rfl | exact r_add rfl rfl (wrap_i64 (by omega) (by omega)) | exact r_sub rfl rfl (wrap_i64 (by omega) (by omega)) | exact r_mul rfl rfl (wrap_i64 (by omega) (by omega)) | exact r_convInt rfl (wrap_u64 (by omega) (by omega)) | exact r_convInt rfl (wrap_i64 (by omega) (by omega)) | exact r_convInt rfl (wrap_u32 (by omega) (by omega)) | exact r_sliceArr rfl | exact r_nilCheck rfl | exact r_extract rfl rfl | exact r_lenSlice rfl | exact r_and rfl rfl rfl | exact r_shr rfl rfl (by omega) rfl | exact r_toB rfl | exact r_toU rfl | exact r_toQ rfl) (by kernel_rfl) rfl (by kernel_rfl) (by kernel_rfl) rfl rfl (fun _ _ _ _ h => h) S4 ?_
  refine ZT.take 1 rfl rfl (fun w' hS' => r_loadW rfl hS'.1 (Pt.size _)) (by kernel_rfl) rfl (by kernel_rfl) (by kernel_rfl) rfl rfl (fun _ _ _ _ h => h) S4 ?_
  refine ZT.take 2 rfl rfl (fun w' hS' => r_buildOne rfl rfl (cs := [.int .u64 5, .int .i64 0, .int .i64 0, .bool false]) rfl) (by kernel_rfl) rfl (by kernel_rfl) (by kernel_rfl) rfl rfl (fun _ _ _ _ h => h) S4 ?_
  refine ZT.take 4 rfl rfl (fun w' hS' => by first | exact r_move rfl | exact r_assign rfl | exact r_fieldAddr rfl | exact r_add rfl rfl (wrap_i64 (by omega) (by omega)) | exact r_sub rfl rfl (wrap_i64 (by omega) (by omega)) | exact r_mul rfl rfl (wrap_i64 (by omega) (by omega)) | exact r_convInt rfl (wrap_u64 (by omega) (by omega)) | exact r_convInt rfl (wrap_i64 (by omega) (by omega)) | exact r_convInt rfl (wrap_u32 (by omega) (by omega)) | exact r_sliceArr rfl | exact r_nilCheck rfl | exact r_extract rfl rfl | exact r_lenSlice rfl | exact r_and rfl rfl rfl | exact r_shr rfl rfl (by omega) rfl | exact r_toB rfl | exact r_toU rfl | exact r_toQ rfl) (by kernel_rfl) rfl (by kernel_rfl) (by kernel_rfl) rfl rfl (fun _ _ _ _ h => h) S4 ?_
  refine ZT.take 5 rfl rfl (fun w' hS' => r_loadW rfl hS'.1 (Pt.size _)) (by kernel_rfl) rfl (by kernel_rfl) (by kernel_rfl) rfl rfl (fun _ _ _ _ h => h) S4 ?_
  refine ZT.take 6 rfl rfl (fun w' hS' => r_buildOne rfl rfl (cs := [.int .u64 6, .int .i64 0, .int .i64 0, .bool false]) rfl) (by kernel_rfl) rfl (by kernel_rfl) (by kernel_rfl) rfl rfl (fun _ _ _ _ h => h) S4 ?_
  refine ZT.one 3 rfl (by kernel_rfl) rfl rfl rfl ?_
  refine ZL.call (r_call rfl) rfl (Put_ok bs bm [] p ⟨5, 0, 0, false⟩ w4 (SetR.of M4 (MObj.empty _ _))) (fun v5 w5 ⟨U5, hr⟩ => ?_)
  obtain rfl : v5 = .bool true := hr
  rw [sput_nil] at U5
  obtain ⟨es5, clk5, hm5, hO5⟩ := U5.r.m
  have M5 := M4.called (o' := .map es5 clk5) inferInstance U5.ext hm5
  refine ZL.nil (ZP.turning ⟨M5.get inferInstance, trivial⟩ ?_)
  refine ZT.one 7 rfl (by kernel_rfl) rfl rfl rfl ?_
  refine ZL.call (r_call rfl) rfl (Put_ok bs bm _ p ⟨6, 0, 0, false⟩ w5 (SetR.of M5 hO5)) (fun v6 w6 ⟨U6, hr⟩ => ?_)
  rw [mget_one] at hr
  obtain rfl : v6 = .bool false := hr
  rw [sput_one] at U6
  obtain ⟨es6, clk6, hm6, hO6⟩ := U6.r.m
  have M6 := M5.called (o' := .map es6 clk6) inferInstance U6.ext hm6
  refine ZL.nil (ZP.turning ⟨M6.get inferInstance, trivial⟩ ?_)
  refine ZT.done rfl (by kernel_rfl) ?_
  refine ZL.val (r_assign rfl) rfl ?_; refine ZL.val (r_assign rfl) rfl ?_; refine ZL.nil ?_; refine ZP.then ?_; refine ZC.seq ?_; refine ZC.region ?_; refine ZL.val (r_move rfl) rfl ?_
  refine ZL.val (r_ldW M6 rfl (Pt.size _)) rfl ?_
  refine ZL.call (r_call rfl) rfl (Get_ok bs bm _ p w6 (SetR.of M6 hO6)) (fun v7 w7 ⟨E7, hr⟩ => ?_)
  rw [mget_one] at hr
  obtain rfl : v7 = .tuple #[Cn.v ⟨5, 0, 0, false⟩, .bool true] := hr
  have M7 := M6.ext' E7
  refine ZL.val (r_move rfl) rfl ?_; refine ZL.val (r_extract rfl rfl) rfl ?_; refine ZL.val (r_extract rfl rfl) rfl ?_
  refine ZL.alloc M7 rfl rfl (fun b5 w8 M8 => ?_)
  refine ZL.stW M8 rfl rfl (cs' := (Cn.mk 5 0 0 false).cells) rfl (by rfl) (by rfl) (by rfl) (fun w9 M9 => ?_)
  refine ZL.val (r_assign rfl) rfl ?_; refine ZL.nil ?_; refine ZP.then ?_; refine ZC.seq ?_; refine ZC.region ?_; refine ZL.val (r_move rfl) rfl ?_
  refine ZL.val (r_ldW M9 rfl (Pt.size _)) rfl ?_
  refine ZL.call (r_call rfl) rfl (Take_ok bs bm _ p w9 (SetR.of M9 hO6)) (fun v10 w10 ⟨U10, hr⟩ => ?_)
  rw [mget_one] at hr
  obtain rfl : v10 = .tuple #[Cn.v ⟨5, 0, 0, false⟩, .bool true] := hr
  rw [mdel_one] at U10
  obtain ⟨es10, clk10, hm10, hO10⟩ := U10.r.m
  have M10 := M9.called (o' := .map es10 clk10) inferInstance U10.ext hm10
  refine ZL.val (r_move rfl) rfl ?_; refine ZL.val (r_extract rfl rfl) rfl ?_; refine ZL.val (r_extract rfl rfl) rfl ?_
  refine ZL.alloc M10 rfl rfl (fun b7 w11 M11 => ?_)
  refine ZL.stW M11 rfl rfl (cs' := (Cn.mk 5 0 0 false).cells) rfl (by rfl) (by rfl) (by rfl) (fun w12 M12 => ?_)
  refine ZL.val (r_assign rfl) rfl ?_; refine ZL.nil ?_; refine ZP.then ?_; refine ZC.seq ?_; refine ZC.region ?_; refine ZL.val (r_move rfl) rfl ?_
  refine ZL.val (r_ldW M12 rfl (Pt.size _)) rfl ?_
  refine ZL.call (r_call rfl) rfl (Take_ok bs bm [] p w12 (SetR.of M12 hO10)) (fun v13 w13 ⟨U13, hr⟩ => ?_)
  obtain rfl : v13 = .tuple #[Cn.v Cn.zero, .bool false] := hr
  obtain ⟨es13, clk13, hm13, hO13⟩ := U13.r.m
  have M13 := M12.called (o' := .map es13 clk13) inferInstance U13.ext hm13
  refine ZL.val (r_move rfl) rfl ?_; refine ZL.val (r_extract rfl rfl) rfl ?_; refine ZL.val (r_extract rfl rfl) rfl ?_
  refine ZL.alloc M13 rfl rfl (fun b9 w14 M14 => ?_)
  refine ZL.stW M14 rfl rfl (cs' := Cn.zero.cells) rfl (by rfl) (by rfl) (by rfl) (fun w15 M15 => ?_)
  refine ZL.val (r_assign rfl) rfl ?_; refine ZL.nil ?_; refine ZP.then ?_; refine ZC.seq ?_; refine ZC.region ?_
  refine ZL.call (r_call rfl) rfl (Tx_ok 5 9 w15) (fun v16 w16 ⟨E16, T, hT, h1, h4⟩ => ?_)
  have M16 := M15.ext' E16
  have hT := hT.mv (Mv.newer M15 E16.size)
  obtain ⟨r, rfl, iv, ov, rfl, hI, hOut⟩ := hT
  have hT : TxR w16 _ (.agg #[u32 T.version, iv, ov, u32 T.lock]) T := ⟨_, rfl, iv, ov, rfl, hI, hOut⟩
  have R16 := M16.rebase
  have hbm := fpIn_of M16 (b := bm)
  have hGj := fun w' (he : ExtX w16 _ w') => hG.ext (M16.backX he)
  obtain ⟨po, co, rfl⟩ := hOut.shape
  obtain ⟨pi, ci, rfl⟩ := hI.shape
  skip
  refine ZL.alloc R16 rfl rfl (fun b11 w17 R17 => ?_)
  refine ZL.stW R17 rfl rfl (cs' := #[u32 T.version, (.slice pi T.ins.length ci), .slice po T.outs.length co, u32 T.lock]) rfl (by rfl) (by rfl) (by rfl) (fun w18 R18 => ?_)
  refine ZL.nil ?_; refine ZP.then ?_; refine ZC.seq ?_
  refine ZC.turning (Holds [(b11, .cells #[u32 T.version, (.slice pi T.ins.length ci), .slice po T.outs.length co, u32 T.lock] 30)]) 6 rfl (by kernel_rfl) rfl rfl rfl (fun w19 E19 _ => ?_)
  have R19 := R18.ext' E19
  have S19 : Holds [(b11, .cells #[u32 T.version, (.slice pi T.ins.length ci), .slice po T.outs.length co, u32 T.lock] 30)] w19 := ⟨R19.get inferInstance, trivial⟩
  refine ZT.take 0 rfl rfl (fun w' hS' => by first | exact r_move rfl | exact r_assign rfl | exact r_fieldAddr rfl | exact r_add rfl rfl (wrap_i64 (by omega) (by omega)) | exact r_sub rfl rfl (wrap_i64 (by omega) (by omega)) | exact r_mul rfl rfl (wrap_i64 (by omega) (by omega)) | exact r_convInt rfl (wrap_u64 (by omega) (by omega)) | exact r_convInt rfl (wrap_i64 (by omega) (by omega)) | exact r_convInt rfl (wrap_u32 (by omega) (by omega)) | exact r_sliceArr rfl | exact r_nilCheck rfl | exact r_extract rfl rfl | exact r_lenSlice rfl | exact r_and rfl rfl rfl | exact r_shr rfl rfl (by omega) rfl | exact r_toB rfl | exact r_toU rfl | exact r_toQ rfl) (by kernel_rfl) rfl (by kernel_rfl) (by kernel_rfl) rfl rfl (fun _ _ _ _ h => h) S19 ?_
  refine ZT.take 1 rfl rfl (fun w' hS' => r_loadW rfl hS'.1 rfl) (by kernel_rfl) rfl (by kernel_rfl) (by kernel_rfl) rfl rfl (fun _ _ _ _ h => h) S19 ?_
  refine ZT.take 3 rfl rfl (fun w' hS' => by first | exact r_move rfl | exact r_assign rfl | exact r_fieldAddr rfl | exact r_add rfl rfl (wrap_i64 (by omega) (by omega)) | exact r_sub rfl rfl (wrap_i64 (by omega) (by omega)) | exact r_mul rfl rfl (wrap_i64 (by omega) (by omega)) | exact r_convInt rfl (wrap_u64 (by omega) (by omega)) | exact r_convInt rfl (wrap_i64 (by omega) (by omega)) | exact r_convInt rfl (wrap_u32 (by omega) (by omega)) | exact r_sliceArr rfl | exact r_nilCheck rfl | exact r_extract rfl rfl | exact r_lenSlice rfl | exact r_and rfl rfl rfl | exact r_shr rfl rfl (by omega) rfl | exact r_toB rfl | exact r_toU rfl | exact r_toQ rfl) (by kernel_rfl) rfl (by kernel_rfl) (by kernel_rfl) rfl rfl (fun _ _ _ _ h => h) S19 ?_
  refine ZT.take 4 rfl rfl (fun w' hS' => r_loadW rfl hS'.1 rfl) (by kernel_rfl) rfl (by kernel_rfl) (by kernel_rfl) rfl rfl (fun _ _ _ _ h => h) S19 ?_
  refine ZT.one 2 rfl (by kernel_rfl) rfl rfl rfl ?_
  have hA0 : hasAny [] (ptsOf T.id T.outs.length) = false := hasAny_false.2 (by simp)
  refine ZL.call (r_call rfl) rfl (Make_ok bs bm [] _ T 7 8 true w19 _ (hGj _ R19.ext) (SetR.of R19 hO13) (hT.mv (Mv.extX R19.ext (fun _ _ h => h))) hbm (by omega)) (fun v20 w20 ⟨U20, hr⟩ => ?_)
  rw [hA0] at hr
  obtain rfl : v20 = .bool true := hr
  rw [smake_new (by omega) hA0, List.nil_append] at U20
  obtain ⟨es20, clk20, hm20, hO20⟩ := U20.r.m
  have R20 := R19.called (o' := .map es20 clk20) inferInstance U20.ext hm20
  refine ZL.nil (ZP.turning ⟨R20.get inferInstance, trivial⟩ ?_)
  refine ZT.one 5 rfl (by kernel_rfl) rfl rfl rfl ?_
  have hA1 : hasAny (newC T 7 8 true T.outs.length) (ptsOf T.id T.outs.length) = true := made_any (m := []) h1
  refine ZL.call (r_call rfl) rfl (Make_ok bs bm _ _ T 7 8 true w20 _ (hGj _ R20.ext) (SetR.of R20 hO20) (hT.mv (Mv.extX R20.ext (fun _ _ h => h))) hbm (by omega)) (fun v21 w21 ⟨U21, hr⟩ => ?_)
  rw [hA1] at hr
  obtain rfl : v21 = .bool false := hr
  rw [smake_old hA1] at U21
  obtain ⟨es21, clk21, hm21, hO21⟩ := U21.r.m
  have R21 := R20.called (o' := .map es21 clk21) inferInstance U21.ext hm21
  refine ZL.nil (ZP.turning ⟨R21.get inferInstance, trivial⟩ ?_)
  refine ZT.done rfl (by kernel_rfl) ?_
  refine ZL.val (r_assign rfl) rfl ?_; refine ZL.val (r_assign rfl) rfl ?_; refine ZL.nil ?_; refine ZP.then ?_; refine ZC.seq ?_; refine ZC.region ?_; refine ZL.val (r_move rfl) rfl ?_
  refine ZL.val (r_ldW R21 rfl rfl) rfl ?_
  refine ZL.call (r_call rfl) rfl (refTxid_ok _ T w21 _ (hT.mv (Mv.extX R21.ext (fun _ _ h => h)))) (fun v22 w22 ⟨E22, hr⟩ => ?_)
  subst hr
  have R22 := R21.ext' E22
  refine ZL.val (r_buildPt0 rfl (by rfl) (by rfl) rfl) rfl ?_
  refine ZL.call (r_call rfl) rfl (Get_ok bs bm _ ⟨T.id, 0⟩ w22 (SetR.of R22 hO21)) (fun v23 w23 ⟨E23, hr⟩ => ?_)
  rw [show (⟨T.id, 0⟩ : Pt) = ⟨T.id, UInt32.ofNat 0⟩ from rfl, newC_get h1 (by omega)] at hr
  obtain rfl : v23 = .tuple #[(cnOf T 7 8 true 0).v, .bool true] := hr
  have R23 := R22.ext' E23
  refine ZL.val (r_move rfl) rfl ?_; refine ZL.val (r_extract rfl rfl) rfl ?_; refine ZL.val (r_extract rfl rfl) rfl ?_
  refine ZL.alloc R23 rfl rfl (fun b14 w24 R24 => ?_)
  refine ZL.stW R24 rfl rfl (cs' := (cnOf T 7 8 true 0).cells) rfl (by rfl) (by rfl) (by rfl) (fun w25 R25 => ?_)
  refine ZL.val (r_assign rfl) rfl ?_; refine ZL.nil ?_; refine ZP.then ?_; refine ZC.seq ?_; refine ZC.region ?_; refine ZL.val (r_move rfl) rfl ?_; refine ZL.val (r_move rfl) rfl ?_; refine ZL.on rfl rfl rfl ?_; refine ZL.val (r_move rfl) rfl ?_; refine ZL.on rfl rfl rfl ?_; refine ZL.val (r_not rfl) rfl ?_; refine ZL.val (r_pickT rfl rfl) rfl ?_; refine ZL.val (r_move rfl) rfl ?_; refine ZL.on rfl rfl rfl ?_; refine ZL.val (r_move rfl) rfl ?_; refine ZL.val (r_pickT rfl rfl) rfl ?_; refine ZL.val (r_move rfl) rfl ?_; refine ZL.on rfl rfl rfl ?_; refine ZL.val (r_fieldAddr rfl) rfl ?_; refine ZL.on rfl rfl rfl ?_
  refine ZL.val (r_ld R25 rfl (by rfl)) rfl ?_
  refine ZL.on rfl rfl rfl ?_; refine ZL.val (r_eql rfl rfl) rfl ?_; refine ZL.val (r_pickT rfl rfl) rfl ?_; refine ZL.val (r_move rfl) rfl ?_; refine ZL.on rfl rfl rfl ?_; refine ZL.val (r_move rfl) rfl ?_; refine ZL.val (r_pickT rfl rfl) rfl ?_; refine ZL.val (r_move rfl) rfl ?_; refine ZL.on rfl rfl rfl ?_; refine ZL.val (r_fieldAddr rfl) rfl ?_; refine ZL.on rfl rfl rfl ?_
  refine ZL.val (r_ld R25 rfl (by rfl)) rfl ?_
  refine ZL.on rfl rfl rfl ?_; refine ZL.val (r_eql rfl rfl) rfl ?_; refine ZL.val (r_pickT rfl rfl) rfl ?_; refine ZL.val (r_move rfl) rfl ?_; refine ZL.on rfl rfl rfl ?_; refine ZL.val (r_move rfl) rfl ?_; refine ZL.on rfl rfl rfl ?_; refine ZL.val (r_not rfl) rfl ?_; refine ZL.val (r_pickT rfl rfl) rfl ?_; refine ZL.val (r_move rfl) rfl ?_; refine ZL.on rfl rfl rfl ?_; refine ZL.val (r_move rfl) rfl ?_; refine ZL.val (r_pickT rfl rfl) rfl ?_; refine ZL.val (r_move rfl) rfl ?_; refine ZL.on rfl rfl rfl ?_; refine ZL.val (r_move rfl) rfl ?_; refine ZL.on rfl rfl rfl ?_; refine ZL.val (r_not rfl) rfl ?_; refine ZL.val (r_pickT rfl rfl) rfl ?_; refine ZL.val (r_move rfl) rfl ?_; refine ZL.on rfl rfl rfl ?_; refine ZL.val (r_move rfl) rfl ?_; refine ZL.val (r_pickT rfl rfl) rfl ?_; refine ZL.val (r_move rfl) rfl ?_; refine ZL.on rfl rfl rfl ?_; refine ZL.val (r_fieldAddr rfl) rfl ?_; refine ZL.on rfl rfl rfl ?_
  refine ZL.val (r_ld R25 rfl (by rfl)) rfl ?_
  refine ZL.on rfl rfl rfl ?_; refine ZL.val (r_eql rfl rfl) rfl ?_; refine ZL.val (r_pickT rfl rfl) rfl ?_; refine ZL.val (r_move rfl) rfl ?_; refine ZL.on rfl rfl rfl ?_; refine ZL.val (r_fieldAddr rfl) rfl ?_; refine ZL.on rfl rfl rfl ?_
  refine ZL.val (r_ld R25 rfl (by rfl)) rfl ?_
  refine ZL.on rfl rfl rfl ?_; refine ZL.val (r_eql rfl rfl) rfl ?_; refine ZL.val (r_pickT rfl rfl) rfl ?_; refine ZL.val (r_move rfl) rfl ?_; refine ZL.on rfl rfl rfl ?_; refine ZL.val (r_fieldAddr rfl) rfl ?_; refine ZL.on rfl rfl rfl ?_
  refine ZL.val (r_ld R25 rfl (by rfl)) rfl ?_
  refine ZL.val (r_pickT rfl rfl) rfl ?_; refine ZL.val (r_move rfl) rfl ?_; refine ZL.on rfl rfl rfl ?_; refine ZL.val (r_move rfl) rfl ?_; refine ZL.on rfl rfl rfl ?_
  refine ZL.val (r_ldW R25 rfl rfl) rfl ?_
  refine ZL.on rfl rfl rfl ?_
  refine ZL.call (r_call rfl) rfl (Unmake_ok bs bm _ _ T w25 _ (hGj _ R25.ext) (SetR.of R25 hO21) (hT.mv (Mv.extX R25.ext (fun _ _ h => h))) hbm (by omega)) (fun v26 w26 ⟨U26, hr⟩ => ?_)
  rw [show hasAll (newC T 7 8 true T.outs.length) (ptsOf T.id T.outs.length) = true from made_all (m := [])] at hr
  obtain rfl : v26 = .bool true := hr
  rw [show sunmake (newC T 7 8 true T.outs.length) T = [] from unmade (m := []) hA0] at U26
  obtain ⟨es26, clk26, hm26, hO26⟩ := U26.r.m
  have R26 := R25.called (o' := .map es26 clk26) inferInstance U26.ext hm26
  refine ZL.val (r_pickT rfl rfl) rfl ?_; refine ZL.val (r_move rfl) rfl ?_; refine ZL.on rfl rfl rfl ?_; refine ZL.val (r_move rfl) rfl ?_; refine ZL.on rfl rfl rfl ?_
  refine ZL.val (r_ldW R26 rfl rfl) rfl ?_
  refine ZL.on rfl rfl rfl ?_
  have hn1 : hasAll [] (ptsOf T.id T.outs.length) = false := unmade_not h1 hA0
  have hU := Unmake_ok bs bm [] _ T w26 _ (hGj _ R26.ext) (SetR.of R26 hO26) (hT.mv (Mv.extX R26.ext (fun _ _ h => h))) hbm (by omega)
  refine ZL.call (r_call rfl) rfl hU (fun v27 w27 ⟨U27, hr⟩ => ?_)
  rw [hn1] at hr
  obtain rfl : v27 = .bool false := hr
  rw [sunmake_not hn1] at U27
  obtain ⟨es27, clk27, hm27, hO27⟩ := U27.r.m
  have R27 := R26.called (o' := .map es27 clk27) inferInstance U27.ext hm27
  refine ZL.on rfl rfl rfl ?_; refine ZL.val (r_not rfl) rfl ?_; refine ZL.val (r_pickT rfl rfl) rfl ?_; refine ZL.val (r_move rfl) rfl ?_; refine ZL.on rfl rfl rfl ?_; refine ZL.val (r_move rfl) rfl ?_; refine ZL.on rfl rfl rfl ?_
  refine ZL.call (r_call rfl) rfl (Points_ok bs bm [] w27 (SetR.of R27 hO27) (by simp)) (fun v28 w28 ⟨E28, xs, hp, hs, hN⟩ => ?_)
  have hxs : xs = [] := List.perm_nil.1 hp
  subst hxs
  obtain ⟨pv, cv, rfl⟩ := hN.own.shape
  have R28 := R27.ext' E28
  refine ZL.on rfl rfl rfl ?_; refine ZL.val (r_lenSlice rfl) rfl ?_; refine ZL.on rfl rfl rfl ?_; refine ZL.val (r_eql rfl rfl) rfl ?_; refine ZL.val (r_pickT rfl rfl) rfl ?_; refine ZL.val (r_assign rfl) rfl ?_; refine ZL.nil ?_; refine ZP.then ?_; refine ZC.ret ?_
  exact ZP.ret1 rfl rfl ⟨(M16.backX R28.ext), rfl⟩
end Go.Proofs.YthcgmdmdgpljmaaDoor.Z
