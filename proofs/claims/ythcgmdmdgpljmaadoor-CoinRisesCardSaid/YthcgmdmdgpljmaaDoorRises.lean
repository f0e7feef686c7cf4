/- CoinRises. -/
import Derived.Test.YthcgmdmdgpljmaaDoorRecs
import Derived.Test.YthcgmdmdgpljmaaDoorAwake
import Derived.Test.YthcgmdmdgpljmaaDoorLess
import Derived.Test.YthcgmdmdgpljmaaDoorPoint
set_option linter.unusedVariables false
set_option linter.unusedSimpArgs false
set_option linter.unusedSectionVars false
set_option maxRecDepth 100000
set_option maxHeartbeats 4000000
namespace Go.Proofs.YthcgmdmdgpljmaaDoor.Z
open Go Go.RowKit Go.Lib

def hasL (ks : List Pt) : List (Pt × Bool) := ks.map fun p => (p, true)
theorem hasL_keys (ks : List Pt) : (hasL ks).map (·.1) = ks := by simp [hasL, Function.comp_def]
theorem hasL_get {ks : List Pt} {p : Pt} (h : p ∈ ks) : mget (hasL ks) p = some true := by
  have h1 : (mget (hasL ks) p).isSome = true := by rw [mget_isSome, hasL_keys]; exact h
  obtain ⟨v, hv⟩ := Option.isSome_iff_exists.1 h1
  have := mget_mem hv
  simp only [hasL, List.mem_map] at this
  obtain ⟨q, _, hq⟩ := this
  simp only [Prod.mk.injEq] at hq
  rw [hv, ← hq.2]
theorem hasL_none {ks : List Pt} {p : Pt} (h : p ∉ ks) : mget (hasL ks) p = none := by rw [mget_none, hasL_keys]; exact h
theorem hasL_old {ks : List Pt} {p : Pt} (h : p ∈ ks) : Z.mput (hasL ks) p true = hasL ks := by
  rw [mput, hasL_get h]
  simp only [Option.isSome_some, if_true, hasL, List.map_map]
  apply List.map_congr_left
  intro q _
  simp
theorem hasL_new {ks : List Pt} {p : Pt} (h : p ∉ ks) : Z.mput (hasL ks) p true = hasL (ks ++ [p]) := by
  rw [mput_new (hasL_none h)]; simp [hasL]
/-- What one Put does to the points. -/
def addP (ks : List Pt) (p : Pt) : List Pt := if p ∈ ks then ks else ks ++ [p]
theorem addP_has (ks : List Pt) (p : Pt) : Z.mput (hasL ks) p true = hasL (addP ks p) := by
  unfold addP; split
  · rename_i h; exact hasL_old h
  · rename_i h; exact hasL_new h
theorem addP_put (m : CMap) (p : Pt) (c : Cn) : (sput m p c).map (·.1) = addP (m.map (·.1)) p := by
  unfold addP sput
  by_cases h : p ∈ m.map (·.1)
  · rw [if_pos (mget_isSome.2 h), if_pos h]
  · rw [if_neg (by rw [mget_isSome]; exact h), if_neg h, mput_new (mget_none.2 h)]; simp
theorem addP_length (ks : List Pt) (p : Pt) : (addP ks p).length ≤ ks.length + 1 := by
  unfold addP; split <;> simp
theorem has_val (m : CMap) (p : Pt) : ((mget (hasL (m.map (·.1))) p).map Value.bool).getD (.bool false) = .bool (mget m p).isSome := by
  by_cases h : p ∈ m.map (·.1)
  · rw [mget_isSome.2 h, hasL_get h]; rfl
  · rw [mget_none.2 h, hasL_none h]; rfl

abbrev LR (bs bm bh : Nat) (es esh : Array MapEntry) (clk clkh : Nat) : List Chunk :=
  [.blk bh (.map esh clkh), .blk bs (.cells (setC bm) 59), .blk bm (.map es clk)]

theorem CoinRises_ok (v0 : Value) (l : List Int) (w : World) (hG : GW w) (hA : IntsA w v0 l) : Ret P 5 #[v0] w (fun r w' => Ext w w' ∧ r = .bool true) := by
  have hA0 := hA
  obtain ⟨pa, ca, rfl, _⟩ := hA0
  refine Ret.enter1 Tryd.func5 rfl Tryd.ntmps5 rfl ?_
  refine ZC.seq ?_; refine ZC.region ?_; refine ZL.val (r_assign rfl) rfl ?_; refine ZL.nil ?_; refine ZP.then ?_; refine ZC.seq ?_; refine ZC.region ?_
  refine ZL.call (r_call rfl) rfl (New_ok w) (fun v1 w1 ⟨bs, bm, M1, hr⟩ => ?_)
  subst hr
  refine ZL.val (r_assign rfl) rfl ?_; refine ZL.nil ?_; refine ZP.then ?_; refine ZC.seq ?_; refine ZC.seq ?_; refine ZC.region ?_; refine ZL.val (r_move rfl) rfl ?_; refine ZL.val (r_eqlPtrNil rfl rfl) rfl ?_; refine ZL.nil ?_; refine ZP.then ?_; refine ZC.condF rfl ?_; refine ZC.skip ?_; refine ZP.then ?_; refine ZC.seq ?_; refine ZC.region ?_
  refine ZL.makeMap M1 rfl (fun bh w2 M2 => ?_)
  refine ZL.val (r_assign rfl) rfl ?_; refine ZL.nil ?_; refine ZP.then ?_
  refine ZC.mid (X := CMap × Array MapEntry × Nat × Array MapEntry × Nat) (fun x => [(4, .map (some bh)), (3, .pointer (some ⟨bs, 0, none⟩))])
    (fun x w' => x.1.length ≤ 60 ∧ CObj x.1 x.2.1 x.2.2.1 ∧ MObj Pt.v Value.bool (hasL (x.1.map (·.1))) x.2.2.2.1 x.2.2.2.2 ∧ Mem w No (LR bs bm bh x.2.1 x.2.2.2.1 x.2.2.1 x.2.2.2.2) w') ?_ ?_
  · refine ZC.seq ?_; refine ZC.region ?_; refine ZL.val (r_assign rfl) rfl ?_; refine ZL.nil ?_; refine ZP.then ?_; refine ZC.block ?_
    refine ZC.loop (X := Nat × CMap × Array MapEntry × Nat × Array MapEntry × Nat) (fun x => [(5, .int .i64 x.1), (4, .map (some bh)), (3, .pointer (some ⟨bs, 0, none⟩)), (0, .slice pa l.length ca)])
      (fun x w' => x.1 ≤ 60 ∧ x.2.1.length ≤ x.1 ∧ CObj x.2.1 x.2.2.1 x.2.2.2.1 ∧ MObj Pt.v Value.bool (hasL (x.2.1.map (·.1))) x.2.2.2.2.1 x.2.2.2.2.2 ∧ Mem w No (LR bs bm bh x.2.2.1 x.2.2.2.2.1 x.2.2.2.1 x.2.2.2.2.2) w')
      (fun x => 60 - x.1) (0, [], #[], 0, #[], 0) ⟨rfl, rfl, rfl, rfl, trivial⟩ ⟨by simp, by simp, MObj.empty _ _, MObj.empty _ _, M2⟩ ?_
    rintro ⟨i, m, es, clk, esh, clkh⟩ w3 ⟨hi60, hmi, hO, hH, M3⟩
    simp only at hi60 hmi hO hH M3 ⊢
    refine ZC.seq ?_; refine ZC.seq ?_; refine ZC.region ?_; refine ZL.val (r_move rfl) rfl ?_; refine ZL.val (r_move rfl) rfl ?_; refine ZL.val (r_lenSlice rfl) rfl ?_; refine ZL.val (r_lss rfl rfl) rfl ?_; refine ZL.val (r_move rfl) rfl ?_
    by_cases hlt : (i : Int) < (l.length : Int)
    · rw [show decide ((i : Int) < (l.length : Int)) = true from decide_eq_true hlt]
      refine ZL.on rfl rfl rfl ?_; refine ZL.val (r_move rfl) rfl ?_; refine ZL.on rfl rfl rfl ?_; refine ZL.val (r_lss rfl rfl) rfl ?_; refine ZL.val (r_pickT rfl rfl) rfl ?_; refine ZL.nil ?_; refine ZP.then ?_
      refine ZC.condD rfl (fun hc => ?_) (fun hc => ?_)
      · have hil : i < l.length := by omega
        obtain ⟨_, ba, oa, ca', ea, fa, rfl, hba, hca⟩ := hA.elem hil
        refine ZC.skip ?_; refine ZP.then ?_; refine ZC.seq ?_; refine ZC.block ?_; refine ZC.seq ?_; refine ZC.region ?_; refine ZL.val (r_move rfl) rfl ?_; refine ZL.val (r_move rfl) rfl ?_
        refine ZL.val (r_idxS i rfl rfl rfl hil) rfl ?_
        refine ZL.val (r_load1 rfl (M3.ext.at hba id) (by rw [Nat.mul_one]; exact hca)) rfl ?_
        refine ZL.call (r_call rfl) rfl (Point_ok _ w3) (fun v4 w4 ⟨E4, p, hr⟩ => ?_)
        subst hr
        have M4 := M3.ext' E4
        refine ZL.alloc M4 rfl rfl (fun b6 w5 M5 => ?_)
        refine ZL.stW M5 rfl rfl (cs' := p.cells.toArray) rfl (by simp) (Pt.size _) (Pt.one _) (fun w6 M6 => ?_)
        refine ZL.nil ?_; refine ZP.then ?_; refine ZC.seq ?_; refine ZC.seq ?_
        refine ZC.turning (Holds [(b6, .cells p.cells.toArray 41), (bh, .map esh clkh)]) 7 rfl (by kernel_rfl) rfl rfl rfl (fun w7 E7 _ => ?_)
        have M7 := M6.ext' E7
        have S7 : Holds [(b6, .cells p.cells.toArray 41), (bh, .map esh clkh)] w7 := ⟨M7.get inferInstance, M7.get inferInstance, trivial⟩
        refine ZT.take 0 rfl rfl (fun w' hS' => by first | exact r_move rfl | exact r_assign rfl | exact r_fieldAddr rfl | exact r_add rfl rfl (wrap_i64 (by omega) (by omega)) | exact r_sub rfl rfl (wrap_i64 (by omega) (by omega)) | exact r_mul rfl rfl (wrap_i64 (by omega) (by omega)) | exact r_convInt rfl (wrap_u64 (by omega) (by omega)) | exact r_convInt rfl (wrap_i64 (by omega) (by omega)) | exact r_convInt rfl (wrap_u32 (by omega) (by omega)) | exact r_sliceArr rfl | exact r_nilCheck rfl | exact r_extract rfl rfl | exact r_lenSlice rfl | exact r_and rfl rfl rfl | exact r_shr rfl rfl (by omega) rfl | exact r_toB rfl | exact r_toU rfl | exact r_toQ rfl) (by kernel_rfl) rfl (by kernel_rfl) (by kernel_rfl) rfl rfl (fun _ _ _ _ h => h) S7 ?_
        refine ZT.take 1 rfl rfl (fun w' hS' => r_loadW rfl hS'.1 (Pt.size _)) (by kernel_rfl) rfl (by kernel_rfl) (by kernel_rfl) rfl rfl (fun _ _ _ _ h => h) S7 ?_
        refine ZT.take 2 rfl rfl (fun w' hS' => r_buildOne rfl rfl (cs := [.int .u64 1, .int .i64 0, .int .i64 0, .bool false]) rfl) (by kernel_rfl) rfl (by kernel_rfl) (by kernel_rfl) rfl rfl (fun _ _ _ _ h => h) S7 ?_
        refine ZT.take 4 rfl rfl (fun w' hS' => by first | exact r_move rfl | exact r_assign rfl | exact r_fieldAddr rfl | exact r_add rfl rfl (wrap_i64 (by omega) (by omega)) | exact r_sub rfl rfl (wrap_i64 (by omega) (by omega)) | exact r_mul rfl rfl (wrap_i64 (by omega) (by omega)) | exact r_convInt rfl (wrap_u64 (by omega) (by omega)) | exact r_convInt rfl (wrap_i64 (by omega) (by omega)) | exact r_convInt rfl (wrap_u32 (by omega) (by omega)) | exact r_sliceArr rfl | exact r_nilCheck rfl | exact r_extract rfl rfl | exact r_lenSlice rfl | exact r_and rfl rfl rfl | exact r_shr rfl rfl (by omega) rfl | exact r_toB rfl | exact r_toU rfl | exact r_toQ rfl) (by kernel_rfl) rfl (by kernel_rfl) (by kernel_rfl) rfl rfl (fun _ _ _ _ h => h) S7 ?_
        refine ZT.take 5 rfl rfl (fun w' hS' => r_loadW rfl hS'.1 (Pt.size _)) (by kernel_rfl) rfl (by kernel_rfl) (by kernel_rfl) rfl rfl (fun _ _ _ _ h => h) S7 ?_
        refine ZT.take 6 rfl rfl (fun w' hS' => (r_lookup1 (k := p) rfl rfl hS'.2.1 hH).eq (has_val m p)) (by kernel_rfl) rfl (by kernel_rfl) (by kernel_rfl) rfl rfl (fun _ _ _ _ h => h) S7 ?_
        refine ZT.one 3 rfl (by kernel_rfl) rfl rfl rfl ?_
        refine ZL.call (r_call rfl) rfl (Put_ok bs bm m p ⟨1, 0, 0, false⟩ w7 (SetR.of M7 hO)) (fun v8 w8 ⟨U8, hr⟩ => ?_)
        subst hr
        obtain ⟨es8, clk8, hm8, hO8⟩ := U8.r.m
        have M8 := M7.called (o' := .map es8 clk8) inferInstance U8.ext hm8
        refine ZL.nil (ZP.turning ⟨M8.get inferInstance, M8.get inferInstance, trivial⟩ ?_)
        refine ZT.done rfl (by kernel_rfl) ?_
        skip
        refine ZL.val ((r_eqlBool rfl rfl).eq (v' := .bool false) (by cases (mget m p).isSome <;> rfl)) rfl ?_
        refine ZL.nil ?_; refine ZP.then ?_; refine ZC.condF rfl ?_; refine ZC.skip ?_; refine ZP.then ?_; refine ZC.region ?_; refine ZL.val (r_move rfl) rfl ?_
        refine ZL.val (r_ldW M8 rfl (Pt.size _)) rfl ?_
        refine ZL.mput (k := p) (v := true) M8 rfl rfl rfl hH (fun esh9 clkh9 w9 hH9 M9 => ?_)
        refine ZL.nil ?_; refine ZP.blockN ?_; refine ZP.then ?_; refine ZC.region ?_; refine ZL.val (r_move rfl) rfl ?_; refine ZL.val (r_add rfl rfl (wrap_i64 (by omega) (by omega))) rfl ?_; refine ZL.val (r_assign rfl) rfl ?_; refine ZL.nil ?_
        have hsl : (sput m p ⟨1, 0, 0, false⟩).length ≤ i + 1 := by
          have := addP_length (m.map (·.1)) p
          rw [← addP_put m p ⟨1, 0, 0, false⟩, List.length_map, List.length_map] at this
          omega
        exact ZP.round (i + 1, sput m p ⟨1, 0, 0, false⟩, es8, clk8, esh9, clkh9) ⟨rfl, rfl, rfl, rfl, trivial⟩ ⟨by simp only; omega, hsl, hO8, by simp only [addP_put]; rw [← addP_has]; exact hH9, M9.sub [1, 2, 3] rfl⟩ (by simp only; omega)
      · refine ZC.exit ?_; refine ZP.thenX ?_; refine ZP.thenX ?_; refine ZP.blockE ?_
        exact ZP.mid (m, es, clk, esh, clkh) ⟨rfl, rfl, trivial⟩ ⟨by simp only; omega, hO, hH, M3⟩
    · rw [show decide ((i : Int) < (l.length : Int)) = false from decide_eq_false hlt]
      refine ZL.skip rfl rfl rfl rfl ?_; refine ZL.skip rfl rfl rfl rfl ?_; refine ZL.val (r_pickF rfl rfl) rfl ?_; refine ZL.nil ?_; refine ZP.then ?_; refine ZC.condF rfl ?_; refine ZC.exit ?_; refine ZP.thenX ?_; refine ZP.thenX ?_; refine ZP.blockE ?_
      exact ZP.mid (m, es, clk, esh, clkh) ⟨rfl, rfl, trivial⟩ ⟨by simp only; omega, hO, hH, M3⟩
  · rintro ⟨m, es, clk, esh, clkh⟩ w3 ⟨h60, hO, hH, M3⟩
    simp only at h60 hO hH M3 ⊢
    refine ZC.seq ?_; refine ZC.region ?_; refine ZL.val (r_move rfl) rfl ?_
    refine ZL.call (r_call rfl) rfl (Points_ok bs bm m w3 (SetR.of M3 hO) (by omega)) (fun v4 w4 ⟨E4, xs, hp, hs, hN⟩ => ?_)
    have hl := hp.length_eq
    rw [List.length_map] at hl
    have M4 := M3.addNew E4 hN
    obtain ⟨pv, cv, rfl⟩ := hN.own.shape
    clear hN
    refine ZL.val (r_assign rfl) rfl ?_; refine ZL.nil ?_; refine ZP.then ?_; refine ZC.seq ?_; refine ZC.seq ?_; refine ZC.region ?_; refine ZL.val (r_move rfl) rfl ?_; refine ZL.val (r_lenSlice rfl) rfl ?_; refine ZL.val (r_move rfl) rfl ?_; refine ZL.nil ?_; refine ZP.then ?_; refine ZC.block ?_
    refine ZC.loop (X := Nat) (fun j => [(44, .int .i64 j), (43, .int .i64 (xs.length : Int)), (42, .slice pv xs.length cv), (7, .slice pv xs.length cv), (4, .map (some bh)), (3, .pointer (some ⟨bs, 0, none⟩))])
      (fun j w' => j ≤ xs.length ∧ Mem w No (.own (.slice pv xs.length cv) 41 33 xs.length (flatP xs) :: LR bs bm bh es esh clk clkh) w') (fun j => xs.length - j) 0 ⟨rfl, rfl, rfl, rfl, rfl, rfl, trivial⟩ ⟨by omega, M4⟩ ?_
    rintro j w5 ⟨hj, M5⟩
    refine ZC.seq ?_; refine ZC.region ?_; refine ZL.val (r_lss rfl rfl) rfl ?_; refine ZL.nil ?_; refine ZP.then ?_; refine ZC.seq ?_
    refine ZC.condD rfl (fun hc => ?_) (fun hc => ?_)
    · have hjl : j < xs.length := by omega
      have hP : PtsR w5 No (.slice pv xs.length cv) xs := PtsR.of (M5.own.slc (X := No) (fun _ _ h => h))
      obtain ⟨g, o, cs', e, fz, r, rfl, hg, _, _, hre, _, hsz, hext⟩ := ListR.elem (by decide) hP hjl
      simp only [PtE] at hre
      subst hre
      have hmem : xs[j] ∈ m.map (·.1) := hp.subset (List.getElem_mem hjl)
      refine ZC.skip ?_; refine ZP.then ?_; refine ZC.seq ?_; refine ZC.block ?_; refine ZC.seq ?_; refine ZC.region ?_; refine ZL.val (r_move rfl) rfl ?_
      refine ZL.val (r_idxS j rfl rfl rfl hjl) rfl ?_
      refine ZL.val (r_loadN rfl hg hsz hext) rfl ?_
      refine ZL.alloc M5 rfl rfl (fun b9 w6 M6 => ?_)
      refine ZL.val (r_assign rfl) rfl ?_
      refine ZL.stW M6 rfl rfl (cs' := xs[j].cells.toArray) rfl (by simp) (Pt.size _) (Pt.one _) (fun w7 M7 => ?_)
      refine ZL.nil ?_; refine ZP.then ?_; refine ZC.seq ?_; refine ZC.seq ?_; refine ZC.region ?_; refine ZL.val (r_move rfl) rfl ?_
      refine ZL.val (r_ldW M7 rfl (Pt.size _)) rfl ?_
      refine ZL.val ((r_lookup1 (k := xs[j]) rfl rfl (M7.get (b := bh) inferInstance) hH).eq (v' := .bool true) (by rw [hasL_get hmem]; rfl)) rfl ?_
      refine ZL.val (r_not rfl) rfl ?_; refine ZL.nil ?_; refine ZP.then ?_; refine ZC.condF rfl ?_; refine ZC.skip ?_; refine ZP.then ?_; refine ZC.seq ?_; refine ZC.region ?_; refine ZL.val (r_move rfl) rfl ?_; refine ZL.val (r_gtr rfl rfl) rfl ?_; refine ZL.nil ?_; refine ZP.then ?_
      refine ZC.condD rfl (fun h0 => ?_) (fun h0 => ?_)
      · have hj1 : j - 1 < xs.length := by omega
        have hlt : ltP xs[j - 1] xs[j] := List.pairwise_iff_getElem.1 hs (j - 1) j hj1 hjl (by omega)
        have hP7 : PtsR w7 No _ xs := PtsR.of (M7.drop.own.slc (X := No) (fun _ _ h => h))
        obtain ⟨g2, o2, cs2, e2, fz2, r2, hpe, hg2, _, _, hre2, _, hsz2, hext2⟩ := ListR.elem (by decide) hP7 hj1
        simp only [Option.some.injEq, Addr.mk.injEq, and_true] at hpe
        obtain ⟨rfl, rfl⟩ := hpe
        simp only [PtE] at hre2
        subst hre2
        generalize xs[j - 1] = q at hlt hext2
        generalize xs[j] = p at hlt hext M7
        refine ZC.seq ?_; refine ZC.region ?_; refine ZL.val (r_move rfl) rfl ?_; refine ZL.val (r_move rfl) rfl ?_; refine ZL.val (r_sub rfl rfl (wrap_i64 (by omega) (by omega))) rfl ?_
        refine ZL.val (r_idxS (j - 1) rfl rfl (by omega) hj1) rfl ?_
        refine ZL.val (r_loadN rfl hg2 hsz2 hext2) rfl ?_
        refine ZL.alloc M7 rfl rfl (fun b10 w8 M8 => ?_)
        refine ZL.stW M8 rfl rfl (cs' := q.cells.toArray) rfl (by simp) (Pt.size _) (Pt.one _) (fun w9 M9 => ?_)
        refine ZL.nil ?_; refine ZP.then ?_; refine ZC.seq ?_; refine ZC.region ?_; refine ZL.val (r_fieldAddr rfl) rfl ?_
        refine ZL.val (r_loadN rfl (M9.get (b := b10) inferInstance) (by rw [Pt.size]; decide) (Pt.id_extract _)) rfl ?_
        refine ZL.val (r_fieldAddr rfl) rfl ?_
        refine ZL.val (r_loadN rfl (M9.get (b := b9) inferInstance) (by rw [Pt.size]; decide) (Pt.id_extract _)) rfl ?_
        refine ZL.call (r_call rfl) rfl (refLess_ok q.id p.id w9) (fun v10 w10 ⟨E10, hr⟩ => ?_)
        subst hr
        have M10 := M9.ext' E10
        by_cases hcb : compareBytes q.id.val p.id.val < 0
        · rw [show decide (compareBytes q.id.val p.id.val < 0) = true from decide_eq_true hcb]
          refine ZL.val (r_move rfl) rfl ?_; refine ZL.skip rfl rfl rfl rfl ?_; refine ZL.skip rfl rfl rfl rfl ?_; refine ZL.skip rfl rfl rfl rfl ?_; refine ZL.skip rfl rfl rfl rfl ?_; refine ZL.skip rfl rfl rfl rfl ?_; refine ZL.skip rfl rfl rfl rfl ?_
          repeat (refine ZL.skipU rfl rfl rfl ?_)
          refine ZL.skip rfl rfl rfl rfl ?_; refine ZL.val (r_pickT rfl rfl) rfl ?_; refine ZL.val (r_not rfl) rfl ?_; refine ZL.nil ?_; refine ZP.then ?_; refine ZC.condF rfl ?_; refine ZC.skip ?_; refine ZP.blockN ?_; refine ZP.then ?_; refine ZC.region ?_; refine ZL.val (r_add rfl rfl (wrap_i64 (by omega) (by omega))) rfl ?_; refine ZL.val (r_move rfl) rfl ?_; refine ZL.nil ?_
          exact ZP.round (j + 1) ⟨rfl, rfl, rfl, rfl, rfl, rfl, trivial⟩ ⟨by omega, M10.sub [2, 3, 4, 5] rfl⟩ (by omega)
        · rw [show decide (compareBytes q.id.val p.id.val < 0) = false from decide_eq_false hcb]
          obtain ⟨hid, hvo⟩ := hlt.resolve_left hcb
          refine ZL.val (r_move rfl) rfl ?_; refine ZL.on rfl rfl rfl ?_; refine ZL.val (r_fieldAddr rfl) rfl ?_; refine ZL.on rfl rfl rfl ?_
          refine ZL.val (r_loadN rfl (M10.get (b := b10) inferInstance) (by rw [Pt.size]; decide) (Pt.id_extract _)) rfl ?_
          refine ZL.on rfl rfl rfl ?_; refine ZL.val (r_fieldAddr rfl) rfl ?_; refine ZL.on rfl rfl rfl ?_
          refine ZL.val (r_loadN rfl (M10.get (b := b9) inferInstance) (by rw [Pt.size]; decide) (Pt.id_extract _)) rfl ?_
          refine ZL.on rfl rfl rfl ?_
          refine ZL.val ((r_eqlB32 (p := q.id) (q := p.id) rfl rfl).eq (v' := .bool true) (congrArg Value.bool (decide_eq_true hid))) rfl ?_
          refine ZL.on rfl rfl rfl ?_; refine ZL.val (r_move rfl) rfl ?_; refine ZL.on rfl rfl rfl ?_; refine ZL.val (r_fieldAddr rfl) rfl ?_; refine ZL.on rfl rfl rfl ?_
          refine ZL.val (r_load1 rfl (M10.get (b := b10) inferInstance) (Pt.vout_at _)) rfl ?_
          refine ZL.on rfl rfl rfl ?_; refine ZL.val (r_fieldAddr rfl) rfl ?_; refine ZL.on rfl rfl rfl ?_
          refine ZL.val (r_load1 rfl (M10.get (b := b9) inferInstance) (Pt.vout_at _)) rfl ?_
          refine ZL.on rfl rfl rfl ?_; refine ZL.val (r_lss rfl rfl) rfl ?_; refine ZL.on rfl rfl rfl ?_; refine ZL.val (r_pickT rfl rfl) rfl ?_; refine ZL.val (r_pickF rfl rfl) rfl ?_; refine ZL.val (r_not rfl) rfl ?_; refine ZL.nil ?_; refine ZP.then ?_
          rw [show decide ((q.vout.toNat : Int) < (p.vout.toNat : Int)) = true from decide_eq_true (Int.ofNat_lt.2 (UInt32.lt_iff_toNat_lt.1 hvo))]
          refine ZC.condF rfl ?_; refine ZC.skip ?_; refine ZP.blockN ?_; refine ZP.then ?_; refine ZC.region ?_; refine ZL.val (r_add rfl rfl (wrap_i64 (by omega) (by omega))) rfl ?_; refine ZL.val (r_move rfl) rfl ?_; refine ZL.nil ?_
          exact ZP.round (j + 1) ⟨rfl, rfl, rfl, rfl, rfl, rfl, trivial⟩ ⟨by omega, M10.sub [2, 3, 4, 5] rfl⟩ (by omega)
      · refine ZC.skip ?_; refine ZP.blockN ?_; refine ZP.then ?_; refine ZC.region ?_; refine ZL.val (r_add rfl rfl (wrap_i64 (by omega) (by omega))) rfl ?_; refine ZL.val (r_move rfl) rfl ?_; refine ZL.nil ?_
        exact ZP.round (j + 1) ⟨rfl, rfl, rfl, rfl, rfl, rfl, trivial⟩ ⟨by omega, M7.sub [1, 2, 3, 4] rfl⟩ (by omega)
    · refine ZC.exit ?_; refine ZP.thenX ?_; refine ZP.thenX ?_; refine ZP.blockE ?_; refine ZP.then ?_; refine ZC.seq ?_; refine ZC.region ?_; refine ZL.val (r_move rfl) rfl ?_; refine ZL.val (r_lenSlice rfl) rfl ?_; refine ZL.val (r_move rfl) rfl ?_
      refine ZL.val (r_lenMap rfl (M5.get (b := bh) inferInstance)) rfl ?_
      have hsz : (esh.size : Int) = (xs.length : Int) := by rw [hH.size, hl]; simp [hasL]
      refine ZL.val (r_eql rfl rfl) rfl ?_; refine ZL.val (r_move rfl) rfl ?_
      rw [show decide ((xs.length : Int) = (esh.size : Int)) = true from decide_eq_true hsz.symm]
      refine ZL.on rfl rfl rfl ?_
      refine ZL.call (r_call rfl) rfl (awake_ok w5 (hG.ext M5.ext)) (fun v6 w6 ⟨E6, hr⟩ => ?_)
      subst hr
      have M6 := M5.ext' E6
      refine ZL.val (r_pickT rfl rfl) rfl ?_; refine ZL.val (r_assign rfl) rfl ?_; refine ZL.nil ?_; refine ZP.then ?_; refine ZC.ret ?_
      exact ZP.ret1 rfl rfl ⟨M6.ext, rfl⟩
end Go.Proofs.YthcgmdmdgpljmaaDoor.Z
