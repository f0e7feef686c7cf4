/- CoinPart. -/
import Derived.Test.YthcgmdmdgpljmaaDoorAwake
set_option linter.unusedVariables false
set_option linter.unusedSimpArgs false
set_option linter.unusedSectionVars false
set_option maxRecDepth 100000
set_option maxHeartbeats 4000000
namespace Go.Proofs.YthcgmdmdgpljmaaDoor.Z
open Go Go.RowKit

section
variable {t : TTx} {h tm : Int} {b : Bool} {n : Nat} {p : Pt}
theorem part_get (hn : n ≤ 4294967296) (hp : p ∈ (newC t h tm b n).map (·.1)) : ∃ c : Cn, mget (newC t h tm b n) p = some c ∧ c.height = h ∧ c.time = tm ∧ c.base = b := by
  rw [newC_keys] at hp
  simp only [ptsOf, List.mem_map, List.mem_range] at hp
  obtain ⟨i, hi, rfl⟩ := hp
  exact ⟨_, newC_get hi hn, rfl, rfl, rfl⟩
theorem part_not (hp : p ∈ (newC t h tm b n).map (·.1)) : hasAll (mdel (newC t h tm b n) p) (ptsOf t.id n) = false := by
  rw [newC_keys] at hp
  exact hasAll_false p hp (by rw [keys_mdel]; simp)
theorem part_back {c : Cn} (hp : p ∈ (newC t h tm b t.outs.length).map (·.1)) : hasAll (sput (mdel (newC t h tm b t.outs.length) p) p c) (ptsOf t.id t.outs.length) = true ∧ sunmake (sput (mdel (newC t h tm b t.outs.length) p) p c) t = [] := by
  have hk : (sput (mdel (newC t h tm b t.outs.length) p) p c).map (·.1) = (ptsOf t.id t.outs.length).filter (fun x => decide (x ≠ p)) ++ [p] := by
    rw [sput, mget_mdel_self, if_neg (by decide), mput_new mget_mdel_self, List.map_append, keys_mdel, newC_keys]
    rfl
  have ha : hasAll (sput (mdel (newC t h tm b t.outs.length) p) p c) (ptsOf t.id t.outs.length) = true := by
    rw [hasAll_true]
    intro q hq
    rw [hk]
    by_cases e : q = p <;> simp [e, hq]
  refine ⟨ha, ?_⟩
  rw [sunmake, if_pos ha, delAll_eq, List.filter_eq_nil_iff]
  intro x hx
  have hm : x.1 ∈ (sput (mdel (newC t h tm b t.outs.length) p) p c).map (·.1) := List.mem_map.2 ⟨x, hx, rfl⟩
  rw [hk] at hm
  rw [newC_keys] at hp
  have : x.1 ∈ ptsOf t.id t.outs.length := by
    rcases List.mem_append.1 hm with h | h
    · exact (List.mem_filter.1 h).1
    · simp at h; rw [h]; exact hp
  simp [this]
end

theorem CoinPart_ok (n m at' : Int) (w : World) (hG : GW w) : Ret P 4 #[.int .i64 n, .int .i64 m, .int .i64 at'] w (fun r w' => Ext w w' ∧ r = .bool true) := by
  obtain ⟨q, hq, hqe⟩ := iand_mask at' 255 (by decide)
  refine Ret.enter3 Tryd.func4 rfl Tryd.ntmps4 rfl ?_
  refine ZC.seq ?_; refine ZC.region ?_; refine ZL.val (r_assign rfl) rfl ?_; refine ZL.nil ?_; refine ZP.then ?_; refine ZC.seq ?_; refine ZC.region ?_
  refine ZL.call (r_call rfl) rfl (New_ok w) (fun v1 w1 ⟨bs, bm, M1, hr⟩ => ?_)
  subst hr
  refine ZL.val (r_assign rfl) rfl ?_; refine ZL.nil ?_; refine ZP.then ?_; refine ZC.seq ?_; refine ZC.region ?_; refine ZL.val (r_move rfl) rfl ?_; refine ZL.val (r_move rfl) rfl ?_
  refine ZL.call (r_call rfl) rfl (Tx_ok n m w1) (fun v2 w2 ⟨E2, T, hT, h1, h4⟩ => ?_)
  have M2 := M1.ext' E2
  have hT := hT.mv (Mv.newer M1 E2.size)
  obtain ⟨r, rfl, iv, ov, rfl, hI, hOut⟩ := hT
  have hT : TxR w2 _ (.agg #[u32 T.version, iv, ov, u32 T.lock]) T := ⟨_, rfl, iv, ov, rfl, hI, hOut⟩
  have R2 := M2.rebase
  have hbm := fpIn_of M2 (b := bm)
  have hGj := fun w' (he : ExtX w2 _ w') => hG.ext (M2.backX he)
  obtain ⟨po, co, rfl⟩ := hOut.shape
  obtain ⟨pi, ci, rfl⟩ := hI.shape
  have hA0 : hasAny [] (ptsOf T.id T.outs.length) = false := hasAny_false.2 (by simp)
  refine ZL.alloc R2 rfl rfl (fun b8 w3 R3 => ?_)
  refine ZL.stW R3 rfl rfl (cs' := #[u32 T.version, .slice pi T.ins.length ci, .slice po T.outs.length co, u32 T.lock]) rfl (by rfl) (by rfl) (by rfl) (fun w4 R4 => ?_)
  refine ZL.nil ?_; refine ZP.then ?_; refine ZC.seq ?_; refine ZC.seq ?_; refine ZC.region ?_; refine ZL.val (r_move rfl) rfl ?_; refine ZL.val (r_eqlPtrNil rfl rfl) rfl ?_; refine ZL.val (r_move rfl) rfl ?_; refine ZL.on rfl rfl rfl ?_; refine ZL.val (r_move rfl) rfl ?_; refine ZL.on rfl rfl rfl ?_
  refine ZL.val (r_ldW R4 rfl rfl) rfl ?_
  refine ZL.on rfl rfl rfl ?_
  have hU := Make_ok bs bm [] _ T 5 6 true w4 _ (hGj _ R4.ext) (SetR.of R4 (MObj.empty _ _)) (hT.mv (Mv.extX R4.ext (fun _ _ h => h))) hbm (by omega)
  refine ZL.call (r_call rfl) rfl hU (fun v5 w5 ⟨U5, hr⟩ => ?_)
  clear hU
  rw [hA0] at hr
  obtain rfl : v5 = .bool true := hr
  rw [smake_new (by omega) hA0, List.nil_append] at U5
  obtain ⟨es5, clk5, hm5, hO5⟩ := U5.r.m
  have R5 := R4.called (o' := .map es5 clk5) inferInstance U5.ext hm5
  refine ZL.on rfl rfl rfl ?_; refine ZL.val (r_not rfl) rfl ?_; refine ZL.val (r_pickF rfl rfl) rfl ?_; refine ZL.nil ?_; refine ZP.then ?_; refine ZC.condF rfl ?_; refine ZC.skip ?_; refine ZP.then ?_; refine ZC.seq ?_; refine ZC.region ?_; refine ZL.val (r_move rfl) rfl ?_
  refine ZL.call (r_call rfl) rfl (Points_ok bs bm _ w5 (SetR.of R5 hO5) (by rw [newC_length]; omega)) (fun v6 w6 ⟨E6, xs, hp, hs, hN⟩ => ?_)
  have hl := hp.length_eq
  rw [List.length_map, newC_length] at hl
  have hP : PtsR w6 No v6 xs := PtsR.of (hN.own.slc fun _ _ h => h)
  obtain ⟨pv, cv, rfl⟩ := hN.own.shape
  have R6 := R5.ext' E6
  refine ZL.val (r_assign rfl) rfl ?_; refine ZL.nil ?_; refine ZP.then ?_; refine ZC.seq ?_; refine ZC.seq ?_; refine ZC.region ?_; refine ZL.val (r_move rfl) rfl ?_; refine ZL.val (r_lenSlice rfl) rfl ?_; refine ZL.val (r_fieldAddr rfl) rfl ?_
  refine ZL.val (r_ld R6 rfl (by rfl)) rfl ?_
  refine ZL.val (r_lenSlice rfl) rfl ?_; refine ZL.val (r_neq rfl rfl) rfl ?_; refine ZL.nil ?_; refine ZP.then ?_
  refine ZC.condD rfl (fun hh => absurd hh (by omega)) (fun _ => ?_)
  refine ZC.skip ?_; refine ZP.then ?_; refine ZC.seq ?_; refine ZC.region ?_; refine ZL.val (r_move rfl) rfl ?_; refine ZL.val (r_move rfl) rfl ?_
  refine ZL.val (r_and rfl rfl hqe) rfl ?_
  refine ZL.val (r_move rfl) rfl ?_; refine ZL.val (r_lenSlice rfl) rfl ?_
  have hj : q % xs.length < xs.length := Nat.mod_lt _ (by omega)
  have hpm : xs[q % xs.length] ∈ (newC T 5 6 true T.outs.length).map (·.1) := hp.subset (List.getElem_mem hj)
  obtain ⟨g, o, cs, e, fz, r, rfl, hg, hgx, hrl, hre, hcell, hsz, hext⟩ := ListR.elem (by decide) hP hj
  simp only [PtE] at hre
  subst hre
  generalize xs[q % xs.length] = p at hpm hext
  obtain ⟨⟨cv', ch, ct, cb⟩, hget, hch, hct, hcb⟩ := part_get (by omega) hpm
  simp only at hch hct hcb
  subst hch hct hcb
  refine ZL.val (r_rem (r := ((q % xs.length : Nat) : Int)) rfl rfl (by omega) rfl) rfl ?_
  refine ZL.val (r_idxS (q % xs.length) rfl rfl rfl hj) rfl ?_
  refine ZL.val (r_loadN rfl hg hsz hext) rfl ?_
  refine ZL.alloc R6 rfl rfl (fun b10 w7 R7 => ?_)
  refine ZL.stW R7 rfl rfl (cs' := p.cells.toArray) rfl (by simp) (Pt.size _) (Pt.one _) (fun w8 R8 => ?_)
  refine ZL.nil ?_; refine ZP.then ?_; refine ZC.seq ?_; refine ZC.region ?_; refine ZL.val (r_move rfl) rfl ?_
  refine ZL.val (r_ldW R8 rfl (Pt.size _)) rfl ?_
  refine ZL.call (r_call rfl) rfl (Take_ok bs bm _ p w8 (SetR.of R8 hO5)) (fun v9 w9 ⟨U9, hr⟩ => ?_)
  rw [hget] at hr
  obtain rfl : v9 = .tuple #[(Cn.mk cv' 5 6 true).v, .bool true] := hr
  obtain ⟨es9, clk9, hm9, hO9⟩ := U9.r.m
  have R9 := R8.called (o' := .map es9 clk9) inferInstance U9.ext hm9
  refine ZL.val (r_move rfl) rfl ?_; refine ZL.val (r_extract rfl rfl) rfl ?_; refine ZL.val (r_extract rfl rfl) rfl ?_
  refine ZL.alloc R9 rfl rfl (fun b11 w10 R10 => ?_)
  refine ZL.stW R10 rfl rfl (cs' := (Cn.mk cv' 5 6 true).cells) rfl (by rfl) (by rfl) (by rfl) (fun w11 R11 => ?_)
  refine ZL.val (r_assign rfl) rfl ?_; refine ZL.nil ?_; refine ZP.then ?_; refine ZC.seq ?_; refine ZC.region ?_; refine ZL.val (r_move rfl) rfl ?_
  refine ZL.val (r_ldW R11 rfl rfl) rfl ?_
  have hU := Unmake_ok bs bm _ _ T w11 _ (hGj _ R11.ext) (SetR.of R11 hO9) (hT.mv (Mv.extX R11.ext (fun _ _ h => h))) hbm (by omega)
  have hno := part_not hpm
  refine ZL.call (r_call rfl) rfl hU (fun v12 w12 ⟨U12, hr⟩ => ?_)
  clear hU
  rw [hno] at hr
  obtain rfl : v12 = .bool false := hr
  rw [sunmake_not hno] at U12
  obtain ⟨es12, clk12, hm12, hO12⟩ := U12.r.m
  have R12 := R11.called (o' := .map es12 clk12) inferInstance U12.ext hm12
  refine ZL.val (r_assign rfl) rfl ?_; refine ZL.nil ?_; refine ZP.then ?_; refine ZC.seq ?_; refine ZC.region ?_; refine ZL.val (r_move rfl) rfl ?_
  have hml : (mdel (newC T 5 6 true T.outs.length) p).length = T.outs.length - 1 := by
    rw [length_mdel (by rw [newC_keys]; exact ptsOf_nodup _ _ (by omega)) hpm, newC_length]
  refine ZL.call (r_call rfl) rfl (Points_ok bs bm _ w12 (SetR.of R12 hO12) (by rw [hml]; omega)) (fun v13 w13 ⟨E13, ys, hp13, _, hN13⟩ => ?_)
  have hl13 := hp13.length_eq
  rw [List.length_map, hml] at hl13
  obtain ⟨pv13, cv13, rfl⟩ := hN13.own.shape
  have R13 := R12.ext' E13
  refine ZL.val (r_lenSlice rfl) rfl ?_; refine ZL.val (r_assign rfl) rfl ?_; refine ZL.nil ?_; refine ZP.then ?_; refine ZC.seq ?_; refine ZC.region ?_; refine ZL.val (r_move rfl) rfl ?_
  refine ZL.val (r_ldW R13 rfl (Pt.size _)) rfl ?_
  refine ZL.val (r_ldW R13 rfl rfl) rfl ?_
  refine ZL.call (r_call rfl) rfl (Put_ok bs bm _ p (Cn.mk cv' 5 6 true) w13 (SetR.of R13 hO12)) (fun v14 w14 ⟨U14, hr⟩ => ?_)
  rw [mget_mdel_self] at hr
  obtain rfl : v14 = .bool true := hr
  obtain ⟨es14, clk14, hm14, hO14⟩ := U14.r.m
  have R14 := R13.called (o' := .map es14 clk14) inferInstance U14.ext hm14
  have hdone := part_back (c := Cn.mk cv' 5 6 true) hpm
  generalize sput (mdel (newC T 5 6 true T.outs.length) p) p (Cn.mk cv' 5 6 true) = m14 at hdone hO14 U14
  refine ZL.val (r_assign rfl) rfl ?_; refine ZL.nil ?_; refine ZP.then ?_; refine ZC.seq ?_; refine ZC.region ?_; refine ZL.val (r_move rfl) rfl ?_; refine ZL.val (r_move rfl) rfl ?_; refine ZL.on rfl rfl rfl ?_; refine ZL.val (r_fieldAddr rfl) rfl ?_; refine ZL.on rfl rfl rfl ?_
  refine ZL.val (r_ld R14 rfl (by rfl)) rfl ?_
  refine ZL.val (r_pickT rfl rfl) rfl ?_; refine ZL.val (r_move rfl) rfl ?_; refine ZL.on rfl rfl rfl ?_; refine ZL.val (r_fieldAddr rfl) rfl ?_; refine ZL.on rfl rfl rfl ?_
  refine ZL.val (r_ld R14 rfl (by rfl)) rfl ?_
  refine ZL.on rfl rfl rfl ?_; refine ZL.val (r_eql rfl rfl) rfl ?_; refine ZL.val (r_pickT rfl rfl) rfl ?_; refine ZL.val (r_move rfl) rfl ?_; refine ZL.on rfl rfl rfl ?_; refine ZL.val (r_fieldAddr rfl) rfl ?_; refine ZL.on rfl rfl rfl ?_
  refine ZL.val (r_ld R14 rfl (by rfl)) rfl ?_
  refine ZL.on rfl rfl rfl ?_; refine ZL.val (r_eql rfl rfl) rfl ?_; refine ZL.val (r_pickT rfl rfl) rfl ?_; refine ZL.val (r_move rfl) rfl ?_; refine ZL.on rfl rfl rfl ?_; refine ZL.val (r_move rfl) rfl ?_; refine ZL.on rfl rfl rfl ?_; refine ZL.val (r_not rfl) rfl ?_; refine ZL.val (r_pickT rfl rfl) rfl ?_; refine ZL.val (r_move rfl) rfl ?_; refine ZL.on rfl rfl rfl ?_; refine ZL.val (r_move rfl) rfl ?_; refine ZL.on rfl rfl rfl ?_; refine ZL.val (r_move rfl) rfl ?_; refine ZL.on rfl rfl rfl ?_; refine ZL.val (r_lenSlice rfl) rfl ?_; refine ZL.on rfl rfl rfl ?_; refine ZL.val (r_sub rfl rfl (wrap_i64 (by omega) (by omega))) rfl ?_; refine ZL.on rfl rfl rfl ?_; refine ZL.val (r_eql rfl rfl) rfl ?_; refine ZL.val (r_pickT rfl rfl) rfl ?_; refine ZL.val (r_move rfl) rfl ?_
  rw [show decide (((ys.length : Nat) : Int) = ((xs.length : Nat) : Int) - 1) = true from decide_eq_true (by omega)]
  refine ZL.on rfl rfl rfl ?_; refine ZL.val (r_move rfl) rfl ?_; refine ZL.val (r_pickT rfl rfl) rfl ?_; refine ZL.val (r_move rfl) rfl ?_; refine ZL.on rfl rfl rfl ?_; refine ZL.val (r_move rfl) rfl ?_; refine ZL.on rfl rfl rfl ?_
  refine ZL.val (r_ldW R14 rfl rfl) rfl ?_
  refine ZL.on rfl rfl rfl ?_
  have hU := Unmake_ok bs bm _ _ T w14 _ (hGj _ R14.ext) (SetR.of R14 hO14) (hT.mv (Mv.extX R14.ext (fun _ _ h => h))) hbm (by omega)
  refine ZL.call (r_call rfl) rfl hU (fun v15 w15 ⟨U15, hr⟩ => ?_)
  clear hU
  rw [hdone.1] at hr
  subst hr
  rw [hdone.2] at U15
  obtain ⟨es15, clk15, hm15, hO15⟩ := U15.r.m
  have R15 := R14.called (o' := .map es15 clk15) inferInstance U15.ext hm15
  refine ZL.val (r_pickT rfl rfl) rfl ?_; refine ZL.val (r_move rfl) rfl ?_; refine ZL.on rfl rfl rfl ?_; refine ZL.val (r_move rfl) rfl ?_; refine ZL.on rfl rfl rfl ?_
  refine ZL.call (r_call rfl) rfl (Points_ok bs bm [] w15 (SetR.of R15 hO15) (by simp)) (fun v16 w16 ⟨E16, zs, hp16, _, hN16⟩ => ?_)
  have hzs : zs = [] := List.perm_nil.1 hp16
  subst hzs
  obtain ⟨pv16, cv16, rfl⟩ := hN16.own.shape
  have R16 := R15.ext' E16
  refine ZL.on rfl rfl rfl ?_; refine ZL.val (r_lenSlice rfl) rfl ?_; refine ZL.on rfl rfl rfl ?_; refine ZL.val (r_eql rfl rfl) rfl ?_; refine ZL.val (r_pickT rfl rfl) rfl ?_; refine ZL.val (r_move rfl) rfl ?_; refine ZL.on rfl rfl rfl ?_
  refine ZL.call (r_call rfl) rfl (awake_ok w16 (hGj _ R16.ext)) (fun v17 w17 ⟨E17, hr⟩ => ?_)
  subst hr
  have R17 := R16.ext' E17
  refine ZL.val (r_pickT rfl rfl) rfl ?_; refine ZL.val (r_assign rfl) rfl ?_; refine ZL.nil ?_; refine ZP.then ?_; refine ZC.ret ?_
  exact ZP.ret1 rfl rfl ⟨M2.backX R17.ext, rfl⟩
end Go.Proofs.YthcgmdmdgpljmaaDoor.Z
