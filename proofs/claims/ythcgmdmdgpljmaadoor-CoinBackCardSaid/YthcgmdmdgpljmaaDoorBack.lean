/- CoinBack. -/
import Derived.Test.YthcgmdmdgpljmaaDoorRecs
import Derived.Test.YthcgmdmdgpljmaaDoorAwake
set_option linter.unusedVariables false
set_option linter.unusedSimpArgs false
set_option linter.unusedSectionVars false
set_option maxRecDepth 100000
set_option maxHeartbeats 4000000
namespace Go.Proofs.YthcgmdmdgpljmaaDoor.Z
open Go Go.RowKit

theorem SlC.row {w : World} {X : Nat → Prop} {s n c n' i : Nat} {p : Option Addr} {rows : List (List Value)} {r : List Value} (hs : 0 < s) (h : SlC w X s (.slice p n c) n' rows.flatten) (hn : n' = rows.length) (hr : ∀ r ∈ rows, r.length = s) (hi : rows[i]? = some r) :
    ∃ g o cs e fz, p = some ⟨g, o, none⟩ ∧ w.heap[g]? = some (.cells cs e fz) ∧ ¬ X g ∧ o + i * s + s ≤ cs.size ∧ cs.extract (o + i * s) (o + i * s + s) = r.toArray := by
  subst hn
  have hL : ListR (fun _ _ r a => r = a) s w X (.slice p n c) rows := ⟨rows, rfl, hr, h, fun i r a hr ha => by rw [hr] at ha; exact Option.some.inj ha⟩
  obtain ⟨hlt, hget⟩ := List.getElem?_eq_some_iff.1 hi
  obtain ⟨g, o, cs, e, fz, r', hp, hh, hx, _, he, _, h1, h2⟩ := hL.elem hs hlt
  subst he
  rw [hget] at h2
  exact ⟨g, o, cs, e, fz, hp, hh, hx, h1, h2⟩
theorem SlC.at1 {w : World} {X : Nat → Prop} {n c n' i : Nat} {p : Option Addr} {xs : List Value} {u : Value} (h : SlC w X 1 (.slice p n c) n' xs) (hi : xs[i]? = some u) :
    ∃ g o cs e fz, p = some ⟨g, o, none⟩ ∧ w.heap[g]? = some (.cells cs e fz) ∧ ¬ X g ∧ cs[o + i * 1]? = some u ∧ i < n := by
  obtain ⟨hl, hn | ⟨g, o, c', cs, e, fz, hv, hx, hg, h1, h2, h3⟩⟩ := h
  · obtain ⟨_, rfl⟩ := hn
    have := (List.getElem?_eq_some_iff.1 hi).1
    omega
  · simp only [Value.slice.injEq] at hv
    obtain ⟨rfl, rfl, rfl⟩ := hv
    refine ⟨g, o, cs, e, fz, rfl, hg, hx, by rw [Nat.mul_one]; exact h3 i u hi, ?_⟩
    have := (List.getElem?_eq_some_iff.1 hi).1
    omega

abbrev LB (bs bm : Nat) (all : List Rec) (vt vs : Value) (es : Array MapEntry) (clk : Nat) : List Chunk :=
  [.own vs 3 1 all.length ((szs all).map (Value.int .i64)), .own vt 30 4 all.length (rws all).flatten, .blk bs (.cells (setC bm) 59), .blk bm (.map es clk)]

theorem CoinBack_ok (v0 : Value) (l : List Int) (w : World) (hG : GW w) (hA : IntsA w v0 l) : Ret P 3 #[v0] w (fun r w' => Ext w w' ∧ r = .bool true) := by
  have hA0 := hA
  obtain ⟨pa, ca, rfl, _⟩ := hA0
  refine Ret.enter1 Tryd.func3 rfl Tryd.ntmps3 rfl ?_
  refine ZC.seq ?_; refine ZC.region ?_; refine ZL.val (r_assign rfl) rfl ?_; refine ZL.nil ?_; refine ZP.then ?_; refine ZC.seq ?_; refine ZC.region ?_
  refine ZL.call (r_call rfl) rfl (New_ok w) (fun v1 w1 ⟨bs, bm, M1, hr⟩ => ?_)
  subst hr
  have M1 := (M1.nilOwn 30 4).nilOwn 3 1
  refine ZL.val (r_assign rfl) rfl ?_; refine ZL.nil ?_; refine ZP.then ?_; refine ZC.seq ?_; refine ZC.seq ?_; refine ZC.region ?_; refine ZL.val (r_move rfl) rfl ?_; refine ZL.val (r_eqlPtrNil rfl rfl) rfl ?_; refine ZL.nil ?_; refine ZP.then ?_; refine ZC.condF rfl ?_; refine ZC.skip ?_; refine ZP.then ?_; refine ZC.seq ?_; refine ZC.region ?_; refine ZL.val (r_assign rfl) rfl ?_; refine ZL.nil ?_; refine ZP.then ?_; refine ZC.seq ?_; refine ZC.region ?_; refine ZL.val (r_assign rfl) rfl ?_; refine ZL.nil ?_; refine ZP.then ?_
  refine ZC.mid (X := List Rec × Value × Value × Array MapEntry × Nat) (fun x => [(4, x.2.1), (5, x.2.2.1), (3, .pointer (some ⟨bs, 0, none⟩))])
    (fun x w' => x.1.length ≤ 10 ∧ Good x.1 ∧ CObj (cur x.1) x.2.2.2.1 x.2.2.2.2 ∧ Mem w No (LB bs bm x.1 x.2.1 x.2.2.1 x.2.2.2.1 x.2.2.2.2) w' ∧ RecF w (LB bs bm x.1 x.2.1 x.2.2.1 x.2.2.2.1 x.2.2.2.2) w' x.1) ?_ ?_
  · refine ZC.seq ?_; refine ZC.region ?_; refine ZL.val (r_assign rfl) rfl ?_; refine ZL.nil ?_; refine ZP.then ?_; refine ZC.block ?_
    refine ZC.loop (X := Nat × List Rec × Value × Value × Array MapEntry × Nat) (fun x => [(6, .int .i64 x.1), (4, x.2.2.1), (5, x.2.2.2.1), (3, .pointer (some ⟨bs, 0, none⟩)), (0, .slice pa l.length ca)])
      (fun x w' => x.2.1.length ≤ x.1 ∧ x.1 ≤ 10 ∧ Good x.2.1 ∧ CObj (cur x.2.1) x.2.2.2.2.1 x.2.2.2.2.2 ∧ Mem w No (LB bs bm x.2.1 x.2.2.1 x.2.2.2.1 x.2.2.2.2.1 x.2.2.2.2.2) w' ∧ RecF w (LB bs bm x.2.1 x.2.2.1 x.2.2.2.1 x.2.2.2.2.1 x.2.2.2.2.2) w' x.2.1)
      (fun x => 10 - x.1) (0, [], .slice none 0 0, .slice none 0 0, #[], 0) ⟨rfl, rfl, rfl, rfl, rfl, trivial⟩ ⟨by simp, by simp, trivial, MObj.empty _ _, M1, fun r hr => by cases hr⟩ ?_
    rintro ⟨i, recs, vt, vs, es, clk⟩ w2 ⟨hri, hi10, hgood, hO, M2, hF⟩
    simp only at hri hi10 hgood hO M2 hF ⊢
    obtain ⟨ps, cs, rfl⟩ := M2.own.shape
    obtain ⟨pt, ct, rfl⟩ := M2.drop.own.shape
    refine ZC.seq ?_; refine ZC.seq ?_; refine ZC.region ?_; refine ZL.val (r_move rfl) rfl ?_; refine ZL.val (r_move rfl) rfl ?_; refine ZL.val (r_lenSlice rfl) rfl ?_; refine ZL.val (r_lss rfl rfl) rfl ?_; refine ZL.val (r_move rfl) rfl ?_
    by_cases hlt : (i : Int) < (l.length : Int)
    · rw [show decide ((i : Int) < (l.length : Int)) = true from decide_eq_true hlt]
      refine ZL.on rfl rfl rfl ?_; refine ZL.val (r_move rfl) rfl ?_; refine ZL.on rfl rfl rfl ?_; refine ZL.val (r_lss rfl rfl) rfl ?_; refine ZL.val (r_pickT rfl rfl) rfl ?_; refine ZL.nil ?_; refine ZP.then ?_
      refine ZC.condD rfl (fun hc => ?_) (fun hc => ?_)
      · have hil : i < l.length := by omega
        refine ZC.skip ?_; refine ZP.then ?_; refine ZC.seq ?_; refine ZC.block ?_; refine ZC.seq ?_
        obtain ⟨_, ba, oa, ca', ea, fa, rfl, hba, hca⟩ := hA.elem hil
        refine ZC.draw (MemS w No (LB bs bm recs (.slice pt recs.length ct) (.slice ps recs.length cs) es clk)) rfl rfl (fun w3 E3 _ => ?_)
        have M3 := M2.ext' E3
        have S3 := MemS.of M3
        have hF3 : RecF w (LB bs bm recs (.slice pt recs.length ct) (.slice ps recs.length cs) es clk) w3 recs := hF.mv (Mv.ext E3)
        have hle : w2.heap.size ≤ w3.heap.size := E3.size
        refine ZA.take 0 rfl (fun w' hS' => by first | exact r_move rfl | exact r_assign rfl | exact r_fieldAddr rfl | exact r_sliceArr rfl | exact r_addU rfl rfl | exact r_xorU rfl rfl | exact r_orU rfl rfl | exact r_andU rfl rfl | exact r_complU rfl | exact r_convU rfl | exact r_ldS hS' rfl (by rfl) | exact r_nilCheck rfl | exact r_extract rfl rfl | exact r_lenSlice rfl) (by kernel_rfl) (by kernel_rfl) (by kernel_rfl) rfl rfl (fun _ _ _ _ h => h) S3 ?_
        refine ZA.take 1 rfl (fun w' hS' => by first | exact r_move rfl | exact r_assign rfl | exact r_fieldAddr rfl | exact r_sliceArr rfl | exact r_addU rfl rfl | exact r_xorU rfl rfl | exact r_orU rfl rfl | exact r_andU rfl rfl | exact r_complU rfl | exact r_convU rfl | exact r_ldS hS' rfl (by rfl) | exact r_nilCheck rfl | exact r_extract rfl rfl | exact r_lenSlice rfl) (by kernel_rfl) (by kernel_rfl) (by kernel_rfl) rfl rfl (fun _ _ _ _ h => h) S3 ?_
        refine ZA.take 2 rfl (fun w' hS' => r_idxS i rfl rfl rfl hil) (by kernel_rfl) (by kernel_rfl) (by kernel_rfl) rfl rfl (fun _ _ _ _ h => h) S3 ?_
        refine ZA.take 4 rfl (fun w' hS' => by first | exact r_move rfl | exact r_assign rfl | exact r_fieldAddr rfl | exact r_sliceArr rfl | exact r_addU rfl rfl | exact r_xorU rfl rfl | exact r_orU rfl rfl | exact r_andU rfl rfl | exact r_complU rfl | exact r_convU rfl | exact r_ldS hS' rfl (by rfl) | exact r_nilCheck rfl | exact r_extract rfl rfl | exact r_lenSlice rfl) (by kernel_rfl) (by kernel_rfl) (by kernel_rfl) rfl rfl (fun _ _ _ _ h => h) S3 ?_
        refine ZA.take 5 rfl (fun w' hS' => by first | exact r_move rfl | exact r_assign rfl | exact r_fieldAddr rfl | exact r_sliceArr rfl | exact r_addU rfl rfl | exact r_xorU rfl rfl | exact r_orU rfl rfl | exact r_andU rfl rfl | exact r_complU rfl | exact r_convU rfl | exact r_ldS hS' rfl (by rfl) | exact r_nilCheck rfl | exact r_extract rfl rfl | exact r_lenSlice rfl) (by kernel_rfl) (by kernel_rfl) (by kernel_rfl) rfl rfl (fun _ _ _ _ h => h) S3 ?_
        refine ZA.take 6 rfl (fun w' hS' => r_idxS i rfl rfl rfl hil) (by kernel_rfl) (by kernel_rfl) (by kernel_rfl) rfl rfl (fun _ _ _ _ h => h) S3 ?_
        refine ZA.take 3 rfl (fun w' hS' => r_load1 rfl (hS'.ext.at hba id) (by rw [Nat.mul_one]; exact hca)) (by kernel_rfl) (by kernel_rfl) (by kernel_rfl) rfl rfl (fun _ _ _ _ h => h) S3 ?_
        refine ZA.take 7 rfl (fun w' hS' => r_load1 rfl (hS'.ext.at hba id) (by rw [Nat.mul_one]; exact hca)) (by kernel_rfl) (by kernel_rfl) (by kernel_rfl) rfl rfl (fun _ _ _ _ h => h) S3 ?_
        refine ZA.take 8 rfl (fun w' hS' => r_shr rfl rfl (by omega) rfl) (by kernel_rfl) (by kernel_rfl) (by kernel_rfl) rfl rfl (fun _ _ _ _ h => h) S3 ?_
        refine ZA.callAlloc 9 10 (R := fun X v w => ∃ T, TxR w X v T ∧ 1 ≤ T.outs.length ∧ T.outs.length ≤ 4) (by kernel_rfl) (by kernel_rfl) (by kernel_rfl) rfl rfl rfl rfl rfl rfl rfl rfl rfl rfl rfl
          (fun w => r_call rfl) (fun w' hS => Tx_ok _ _ w') (fun h m => by obtain ⟨T, h1, h2, h3⟩ := h; exact ⟨T, h1.mv m, h2, h3⟩) rfl M3 (fun v b7 w4 E4 hb7 M4 hR => ?_)
        have hF4 : RecF w _ w4 recs := hF3.mv (Mv.pushed M4 E4 hb7)
        obtain ⟨T, hT, h1, h4⟩ := hR
        have hTo := hT.mv (Mv.mono (Y := Out w _) fun g _ hg => hg.imp (fun h => Nat.lt_of_lt_of_le h (Nat.le_trans M2.ext.size hle)) (fun h => h))
        have hT := hT.mv (Mv.mono (Y := fpIn _) fun g _ hg => Or.inr hg)
        obtain ⟨r, rfl, iv, ov, rfl, hI, hOut⟩ := hT
        have hT : TxR w4 _ (.agg #[u32 T.version, iv, ov, u32 T.lock]) T := ⟨_, rfl, iv, ov, rfl, hI, hOut⟩
        obtain ⟨po, co, rfl⟩ := hOut.shape
        obtain ⟨pi, ci, rfl⟩ := hI.shape
        have R4 := M4.rebase
        have hbm := fpIn_of M4 (b := bm)
        have hGj := fun w' (he : ExtX w4 _ w') => hG.ext (M4.backX he)
        refine ZA.one 11 (by kernel_rfl) rfl rfl ?_
        refine ZL.stW R4 rfl rfl (cs' := #[u32 T.version, .slice pi T.ins.length ci, .slice po T.outs.length co, u32 T.lock]) rfl (by rfl) (by rfl) (by rfl) (fun w5 R5 => ?_)
        refine ZL.nil (ZP.any ⟨[_], M4.join R5⟩ ?_)
        refine ZA.done (by kernel_rfl) ?_
        have hlen := cur_length hgood
        refine ZP.then ?_; refine ZC.seq ?_; refine ZC.region ?_; refine ZL.val (r_move rfl) rfl ?_
        refine ZL.call (r_call rfl) rfl (Points_ok bs bm _ w5 (SetR.of R5 hO) (by omega)) (fun v6 w6 ⟨E6, xs, hp, _, hN⟩ => ?_)
        have hl := hp.length_eq
        rw [List.length_map] at hl
        obtain ⟨pv, cv, rfl⟩ := hN.own.shape
        have R6 := R5.ext' E6
        clear hN hp
        refine ZL.val (r_lenSlice rfl) rfl ?_; refine ZL.val (r_assign rfl) rfl ?_; refine ZL.nil ?_; refine ZP.then ?_; refine ZC.seq ?_; refine ZC.region ?_; refine ZL.val (r_move rfl) rfl ?_
        refine ZL.val (r_ldW R6 rfl rfl) rfl ?_
        refine ZL.val (r_move rfl) rfl ?_; refine ZL.val (r_move rfl) rfl ?_
        have hU := Make_ok bs bm _ _ T i i false w6 _ (hGj _ R6.ext) (SetR.of R6 hO) (hT.mv (Mv.extX R6.ext (fun _ _ h => h))) hbm (by omega)
        refine ZL.call (r_call rfl) rfl hU (fun v7 w7 ⟨U7, hr⟩ => ?_)
        clear hU
        obtain ⟨es7, clk7, hm7, hO7⟩ := U7.r.m
        have R7 := R6.called (o' := .map es7 clk7) inferInstance U7.ext hm7
        cases hany : hasAny (cur recs) (ptsOf T.id T.outs.length) with
        | false =>
          rw [hany] at hr
          obtain rfl : v7 = .bool true := hr
          rw [smake_new (by omega) hany] at hO7
          refine ZL.nil ?_; refine ZP.then ?_; refine ZC.condT rfl ?_; refine ZC.seq ?_; refine ZC.region ?_; refine ZL.val (r_move rfl) rfl ?_
          refine ZL.val (r_ldW R7 rfl rfl) rfl ?_
          refine ZL.bslice R7 rfl rfl rfl (by simp [Value.cells]) (by decide) rfl (fun g8 w8 R8 => ?_)
          refine ZL.append R8 rfl rfl (R8.own.slc (X := No) (fun _ _ h => h)) (by intro x hx; simp at hx; rcases hx with rfl | rfl | rfl | rfl <;> rfl) (by simp only [maxLen]; omega) (by omega) rfl (fun vt9 w9 R9 => ?_)
          refine ZL.val (r_move rfl) rfl ?_; refine ZL.val (r_move rfl) rfl ?_
          refine ZL.bslice R9 rfl rfl rfl (by simp [Value.cells]) (by decide) rfl (fun g10 w10 R10 => ?_)
          refine ZL.append R10 rfl rfl (R10.own.slc (X := No) (fun _ _ h => h)) (by intro x hx; simp at hx; rcases hx with rfl; rfl) (by simp only [maxLen]; omega) (by omega) rfl (fun vs11 w11 R11 => ?_)
          refine ZL.val (r_assign rfl) rfl ?_; refine ZL.val (r_assign rfl) rfl ?_; refine ZL.nil ?_; refine ZP.then ?_; refine ZC.seq ?_
          refine ZC.turning (Holds [(b7, .cells #[u32 T.version, .slice pi T.ins.length ci, .slice po T.outs.length co, u32 T.lock] 30)]) 26 rfl (by kernel_rfl) rfl rfl rfl (fun w12 E12 _ => ?_)
          have R12 := R11.ext' E12
          have S12 : Holds [(b7, .cells #[u32 T.version, .slice pi T.ins.length ci, .slice po T.outs.length co, u32 T.lock] 30)] w12 := ⟨R12.get inferInstance, trivial⟩
          refine ZT.take 0 rfl rfl (fun w' hS' => by first | exact r_move rfl | exact r_assign rfl | exact r_fieldAddr rfl | exact r_add rfl rfl (wrap_i64 (by omega) (by omega)) | exact r_sub rfl rfl (wrap_i64 (by omega) (by omega)) | exact r_mul rfl rfl (wrap_i64 (by omega) (by omega)) | exact r_convInt rfl (wrap_u64 (by omega) (by omega)) | exact r_convInt rfl (wrap_i64 (by omega) (by omega)) | exact r_convInt rfl (wrap_u32 (by omega) (by omega)) | exact r_sliceArr rfl | exact r_nilCheck rfl | exact r_extract rfl rfl | exact r_lenSlice rfl | exact r_and rfl rfl rfl | exact r_shr rfl rfl (by omega) rfl | exact r_toB rfl | exact r_toU rfl | exact r_toQ rfl) (by kernel_rfl) rfl (by kernel_rfl) (by kernel_rfl) rfl rfl (fun _ _ _ _ h => h) S12 ?_
          refine ZT.take 3 rfl rfl (fun w' hS' => by first | exact r_move rfl | exact r_assign rfl | exact r_fieldAddr rfl | exact r_add rfl rfl (wrap_i64 (by omega) (by omega)) | exact r_sub rfl rfl (wrap_i64 (by omega) (by omega)) | exact r_mul rfl rfl (wrap_i64 (by omega) (by omega)) | exact r_convInt rfl (wrap_u64 (by omega) (by omega)) | exact r_convInt rfl (wrap_i64 (by omega) (by omega)) | exact r_convInt rfl (wrap_u32 (by omega) (by omega)) | exact r_sliceArr rfl | exact r_nilCheck rfl | exact r_extract rfl rfl | exact r_lenSlice rfl | exact r_and rfl rfl rfl | exact r_shr rfl rfl (by omega) rfl | exact r_toB rfl | exact r_toU rfl | exact r_toQ rfl) (by kernel_rfl) rfl (by kernel_rfl) (by kernel_rfl) rfl rfl (fun _ _ _ _ h => h) S12 ?_
          refine ZT.take 4 rfl rfl (fun w' hS' => by first | exact r_move rfl | exact r_assign rfl | exact r_fieldAddr rfl | exact r_add rfl rfl (wrap_i64 (by omega) (by omega)) | exact r_sub rfl rfl (wrap_i64 (by omega) (by omega)) | exact r_mul rfl rfl (wrap_i64 (by omega) (by omega)) | exact r_convInt rfl (wrap_u64 (by omega) (by omega)) | exact r_convInt rfl (wrap_i64 (by omega) (by omega)) | exact r_convInt rfl (wrap_u32 (by omega) (by omega)) | exact r_sliceArr rfl | exact r_nilCheck rfl | exact r_extract rfl rfl | exact r_lenSlice rfl | exact r_and rfl rfl rfl | exact r_shr rfl rfl (by omega) rfl | exact r_toB rfl | exact r_toU rfl | exact r_toQ rfl) (by kernel_rfl) rfl (by kernel_rfl) (by kernel_rfl) rfl rfl (fun _ _ _ _ h => h) S12 ?_
          refine ZT.take 5 rfl rfl (fun w' hS' => r_load1 rfl hS'.1 rfl) (by kernel_rfl) rfl (by kernel_rfl) (by kernel_rfl) rfl rfl (fun _ _ _ _ h => h) S12 ?_
          refine ZT.take 6 rfl rfl (fun w' hS' => by first | exact r_move rfl | exact r_assign rfl | exact r_fieldAddr rfl | exact r_add rfl rfl (wrap_i64 (by omega) (by omega)) | exact r_sub rfl rfl (wrap_i64 (by omega) (by omega)) | exact r_mul rfl rfl (wrap_i64 (by omega) (by omega)) | exact r_convInt rfl (wrap_u64 (by omega) (by omega)) | exact r_convInt rfl (wrap_i64 (by omega) (by omega)) | exact r_convInt rfl (wrap_u32 (by omega) (by omega)) | exact r_sliceArr rfl | exact r_nilCheck rfl | exact r_extract rfl rfl | exact r_lenSlice rfl | exact r_and rfl rfl rfl | exact r_shr rfl rfl (by omega) rfl | exact r_toB rfl | exact r_toU rfl | exact r_toQ rfl) (by kernel_rfl) rfl (by kernel_rfl) (by kernel_rfl) rfl rfl (fun _ _ _ _ h => h) S12 ?_
          refine ZT.take 7 rfl rfl (fun w' hS' => by first | exact r_move rfl | exact r_assign rfl | exact r_fieldAddr rfl | exact r_add rfl rfl (wrap_i64 (by omega) (by omega)) | exact r_sub rfl rfl (wrap_i64 (by omega) (by omega)) | exact r_mul rfl rfl (wrap_i64 (by omega) (by omega)) | exact r_convInt rfl (wrap_u64 (by omega) (by omega)) | exact r_convInt rfl (wrap_i64 (by omega) (by omega)) | exact r_convInt rfl (wrap_u32 (by omega) (by omega)) | exact r_sliceArr rfl | exact r_nilCheck rfl | exact r_extract rfl rfl | exact r_lenSlice rfl | exact r_and rfl rfl rfl | exact r_shr rfl rfl (by omega) rfl | exact r_toB rfl | exact r_toU rfl | exact r_toQ rfl) (by kernel_rfl) rfl (by kernel_rfl) (by kernel_rfl) rfl rfl (fun _ _ _ _ h => h) S12 ?_
          refine ZT.one 1 rfl (by kernel_rfl) rfl rfl rfl ?_
          have hlen7 : (cur recs ++ newC T i i false T.outs.length).length = xs.length + T.outs.length := by rw [List.length_append, newC_length, hl]
          refine ZL.call (r_call rfl) rfl (Points_ok bs bm _ w12 (SetR.of R12 hO7) (by omega)) (fun v13 w13 ⟨E13, ys, hp13, _, hN13⟩ => ?_)
          have hl13 := hp13.length_eq
          rw [List.length_map, hlen7] at hl13
          obtain ⟨pv13, cv13, rfl⟩ := hN13.own.shape
          have R13 := R12.ext' E13
          clear hN13 hp13
          have S13 : Holds [(b7, .cells #[u32 T.version, .slice pi T.ins.length ci, .slice po T.outs.length co, u32 T.lock] 30)] w13 := ⟨R13.get inferInstance, trivial⟩
          refine ZL.nil (ZP.turning S13 ?_)
          refine ZT.take 2 rfl rfl (fun w' hS' => by first | exact r_move rfl | exact r_assign rfl | exact r_fieldAddr rfl | exact r_add rfl rfl (wrap_i64 (by omega) (by omega)) | exact r_sub rfl rfl (wrap_i64 (by omega) (by omega)) | exact r_mul rfl rfl (wrap_i64 (by omega) (by omega)) | exact r_convInt rfl (wrap_u64 (by omega) (by omega)) | exact r_convInt rfl (wrap_i64 (by omega) (by omega)) | exact r_convInt rfl (wrap_u32 (by omega) (by omega)) | exact r_sliceArr rfl | exact r_nilCheck rfl | exact r_extract rfl rfl | exact r_lenSlice rfl | exact r_and rfl rfl rfl | exact r_shr rfl rfl (by omega) rfl | exact r_toB rfl | exact r_toU rfl | exact r_toQ rfl) (by kernel_rfl) rfl (by kernel_rfl) (by kernel_rfl) rfl rfl (fun _ _ _ _ h => h) S13 ?_
          refine ZT.take 8 rfl rfl (fun w' hS' => (r_neq rfl rfl).eq (v' := .bool false) (congrArg Value.bool (decide_eq_false (by omega)))) (by kernel_rfl) rfl (by kernel_rfl) (by kernel_rfl) rfl rfl (fun _ _ _ _ h => h) S13 ?_
          refine ZT.take 9 rfl rfl (fun w' hS' => by first | exact r_move rfl | exact r_assign rfl | exact r_fieldAddr rfl | exact r_add rfl rfl (wrap_i64 (by omega) (by omega)) | exact r_sub rfl rfl (wrap_i64 (by omega) (by omega)) | exact r_mul rfl rfl (wrap_i64 (by omega) (by omega)) | exact r_convInt rfl (wrap_u64 (by omega) (by omega)) | exact r_convInt rfl (wrap_i64 (by omega) (by omega)) | exact r_convInt rfl (wrap_u32 (by omega) (by omega)) | exact r_sliceArr rfl | exact r_nilCheck rfl | exact r_extract rfl rfl | exact r_lenSlice rfl | exact r_and rfl rfl rfl | exact r_shr rfl rfl (by omega) rfl | exact r_toB rfl | exact r_toU rfl | exact r_toQ rfl) (by kernel_rfl) rfl (by kernel_rfl) (by kernel_rfl) rfl rfl (fun _ _ _ _ h => h) S13 ?_
          refine ZT.takeOn 10 rfl rfl rfl rfl rfl (fun w' hS' => by first | exact r_move rfl | exact r_fieldAddr rfl | exact r_lenSlice rfl | exact r_add rfl rfl (wrap_i64 (by omega) (by omega)) | exact r_not rfl | exact r_nilCheck rfl | exact r_extract rfl rfl) (by kernel_rfl) rfl (by kernel_rfl) (by kernel_rfl) rfl rfl (fun _ _ _ _ h => h) S13 ?_
          refine ZT.takeOn 11 rfl rfl rfl rfl rfl (fun w' hS' => r_loadW rfl hS'.1 rfl) (by kernel_rfl) rfl (by kernel_rfl) (by kernel_rfl) rfl rfl (fun _ _ _ _ h => h) S13 ?_
          refine ZT.takeOn 12 rfl rfl rfl rfl rfl (fun w' hS' => by first | exact r_move rfl | exact r_fieldAddr rfl | exact r_lenSlice rfl | exact r_add rfl rfl (wrap_i64 (by omega) (by omega)) | exact r_not rfl | exact r_nilCheck rfl | exact r_extract rfl rfl) (by kernel_rfl) rfl (by kernel_rfl) (by kernel_rfl) rfl rfl (fun _ _ _ _ h => h) S13 ?_
          refine ZT.takeOn 13 rfl rfl rfl rfl rfl (fun w' hS' => by first | exact r_move rfl | exact r_fieldAddr rfl | exact r_lenSlice rfl | exact r_add rfl rfl (wrap_i64 (by omega) (by omega)) | exact r_not rfl | exact r_nilCheck rfl | exact r_extract rfl rfl) (by kernel_rfl) rfl (by kernel_rfl) (by kernel_rfl) rfl rfl (fun _ _ _ _ h => h) S13 ?_
          refine ZT.one 14 rfl (by kernel_rfl) rfl rfl rfl ?_
          refine ZL.on rfl rfl rfl ?_
          have hany7 : hasAny (cur recs ++ newC T i i false T.outs.length) (ptsOf T.id T.outs.length) = true := made_any h1
          have hU := Make_ok bs bm _ _ T i i true w13 _ (hGj _ R13.ext) (SetR.of R13 hO7) (hT.mv (Mv.extX R13.ext (fun _ _ h => h))) hbm (by omega)
          refine ZL.call (r_call rfl) rfl hU (fun v14 w14 ⟨U14, hr⟩ => ?_)
          clear hU
          rw [hany7] at hr
          obtain rfl : v14 = .bool false := hr
          rw [smake_old hany7] at U14
          obtain ⟨es14, clk14, hm14, hO14⟩ := U14.r.m
          have R14 := R13.called (o' := .map es14 clk14) inferInstance U14.ext hm14
          have S14 : Holds [(b7, .cells #[u32 T.version, .slice pi T.ins.length ci, .slice po T.outs.length co, u32 T.lock] 30)] w14 := ⟨R14.get inferInstance, trivial⟩
          refine ZL.nil (ZP.turning S14 ?_)
          refine ZT.take 15 rfl rfl (fun w' hS' => r_pickF rfl rfl) (by kernel_rfl) rfl (by kernel_rfl) (by kernel_rfl) rfl rfl (fun _ _ _ _ h => h) S14 ?_
          refine ZT.take 16 rfl rfl (fun w' hS' => by first | exact r_move rfl | exact r_assign rfl | exact r_fieldAddr rfl | exact r_add rfl rfl (wrap_i64 (by omega) (by omega)) | exact r_sub rfl rfl (wrap_i64 (by omega) (by omega)) | exact r_mul rfl rfl (wrap_i64 (by omega) (by omega)) | exact r_convInt rfl (wrap_u64 (by omega) (by omega)) | exact r_convInt rfl (wrap_i64 (by omega) (by omega)) | exact r_convInt rfl (wrap_u32 (by omega) (by omega)) | exact r_sliceArr rfl | exact r_nilCheck rfl | exact r_extract rfl rfl | exact r_lenSlice rfl | exact r_and rfl rfl rfl | exact r_shr rfl rfl (by omega) rfl | exact r_toB rfl | exact r_toU rfl | exact r_toQ rfl) (by kernel_rfl) rfl (by kernel_rfl) (by kernel_rfl) rfl rfl (fun _ _ _ _ h => h) S14 ?_
          refine ZT.takeOn 17 rfl rfl rfl rfl rfl (fun w' hS' => by first | exact r_move rfl | exact r_fieldAddr rfl | exact r_lenSlice rfl | exact r_add rfl rfl (wrap_i64 (by omega) (by omega)) | exact r_not rfl | exact r_nilCheck rfl | exact r_extract rfl rfl) (by kernel_rfl) rfl (by kernel_rfl) (by kernel_rfl) rfl rfl (fun _ _ _ _ h => h) S14 ?_
          refine ZT.takeOn 20 rfl rfl rfl rfl rfl (fun w' hS' => by first | exact r_move rfl | exact r_fieldAddr rfl | exact r_lenSlice rfl | exact r_add rfl rfl (wrap_i64 (by omega) (by omega)) | exact r_not rfl | exact r_nilCheck rfl | exact r_extract rfl rfl) (by kernel_rfl) rfl (by kernel_rfl) (by kernel_rfl) rfl rfl (fun _ _ _ _ h => h) S14 ?_
          refine ZT.takeOn 21 rfl rfl rfl rfl rfl (fun w' hS' => by first | exact r_move rfl | exact r_fieldAddr rfl | exact r_lenSlice rfl | exact r_add rfl rfl (wrap_i64 (by omega) (by omega)) | exact r_not rfl | exact r_nilCheck rfl | exact r_extract rfl rfl) (by kernel_rfl) rfl (by kernel_rfl) (by kernel_rfl) rfl rfl (fun _ _ _ _ h => h) S14 ?_
          refine ZT.takeOn 22 rfl rfl rfl rfl rfl (fun w' hS' => r_load1 rfl hS'.1 rfl) (by kernel_rfl) rfl (by kernel_rfl) (by kernel_rfl) rfl rfl (fun _ _ _ _ h => h) S14 ?_
          refine ZT.takeOn 23 rfl rfl rfl rfl rfl (fun w' hS' => by first | exact r_move rfl | exact r_fieldAddr rfl | exact r_lenSlice rfl | exact r_add rfl rfl (wrap_i64 (by omega) (by omega)) | exact r_not rfl | exact r_nilCheck rfl | exact r_extract rfl rfl) (by kernel_rfl) rfl (by kernel_rfl) (by kernel_rfl) rfl rfl (fun _ _ _ _ h => h) S14 ?_
          refine ZT.takeOn 24 rfl rfl rfl rfl rfl (fun w' hS' => by first | exact r_move rfl | exact r_fieldAddr rfl | exact r_lenSlice rfl | exact r_add rfl rfl (wrap_i64 (by omega) (by omega)) | exact r_not rfl | exact r_nilCheck rfl | exact r_extract rfl rfl) (by kernel_rfl) rfl (by kernel_rfl) (by kernel_rfl) rfl rfl (fun _ _ _ _ h => h) S14 ?_
          refine ZT.one 18 rfl (by kernel_rfl) rfl rfl rfl ?_
          refine ZL.on rfl rfl rfl ?_
          refine ZL.call (r_call rfl) rfl (Points_ok bs bm _ w14 (SetR.of R14 hO14) (by omega)) (fun v15 w15 ⟨E15, zs, hp15, _, hN15⟩ => ?_)
          have hl15 := hp15.length_eq
          rw [List.length_map, hlen7] at hl15
          obtain ⟨pv15, cv15, rfl⟩ := hN15.own.shape
          have R15 := R14.ext' E15
          clear hN15 hp15
          have S15 : Holds [(b7, .cells #[u32 T.version, .slice pi T.ins.length ci, .slice po T.outs.length co, u32 T.lock] 30)] w15 := ⟨R15.get inferInstance, trivial⟩
          refine ZL.nil (ZP.turning S15 ?_)
          refine ZT.takeOn 19 rfl rfl rfl rfl rfl (fun w' hS' => by first | exact r_move rfl | exact r_fieldAddr rfl | exact r_lenSlice rfl | exact r_add rfl rfl (wrap_i64 (by omega) (by omega)) | exact r_not rfl | exact r_nilCheck rfl | exact r_extract rfl rfl) (by kernel_rfl) rfl (by kernel_rfl) (by kernel_rfl) rfl rfl (fun _ _ _ _ h => h) S15 ?_
          refine ZT.takeOn 25 rfl rfl rfl rfl rfl (fun w' hS' => (r_neq rfl rfl).eq (v' := .bool false) (congrArg Value.bool (decide_eq_false (by omega)))) (by kernel_rfl) rfl (by kernel_rfl) (by kernel_rfl) rfl rfl (fun _ _ _ _ h => h) S15 ?_
          refine ZT.done rfl (by kernel_rfl) ?_
          refine ZL.val (r_pickF rfl rfl) rfl ?_
          refine ZL.nil ?_; refine ZP.then ?_; refine ZC.condF rfl ?_; refine ZC.skip ?_; refine ZP.blockN ?_; refine ZP.then ?_; refine ZC.region ?_; refine ZL.val (r_move rfl) rfl ?_; refine ZL.val (r_add rfl rfl (wrap_i64 (by omega) (by omega))) rfl ?_; refine ZL.val (r_assign rfl) rfl ?_; refine ZL.nil ?_
          have M15 := M4.join R15
          have hRec := RecF.cons (n := (i : Int)) (row := [u32 T.version, .slice pi T.ins.length ci, .slice po T.outs.length co, u32 T.lock]) (hF4.mv (Mv.frame R15)) rfl (hTo.mv (Mv.frame R15)).row
          obtain ⟨M16, hs16⟩ := M15.subP [3, 4, 5, 6] rfl
          have hRec := hRec.sub hs16
          refine ZP.round (i + 1, ⟨[u32 T.version, .slice pi T.ins.length ci, .slice po T.outs.length co, u32 T.lock], T, i⟩ :: recs, vt9, vs11, es14, clk14) ⟨rfl, rfl, rfl, rfl, rfl, trivial⟩ ?_ (by simp only; omega)
          have e1 : (szs (⟨[u32 T.version, .slice pi T.ins.length ci, .slice po T.outs.length co, u32 T.lock], T, i⟩ :: recs)).map (Value.int .i64) = (szs recs).map (Value.int .i64) ++ [.int .i64 xs.length] := by simp [szs, hl]
          have e2 : (rws (⟨[u32 T.version, .slice pi T.ins.length ci, .slice po T.outs.length co, u32 T.lock], T, i⟩ :: recs)).flatten = (rws recs).flatten ++ [u32 T.version, .slice pi T.ins.length ci, .slice po T.outs.length co, u32 T.lock] := by simp [rws]
          refine ⟨by simp only [List.length_cons]; omega, by simp only; omega, ⟨hany, h1, h4, hgood⟩, hO14, ?_, ?_⟩
          · simp only [LB]; rw [e1, e2]; exact M16
          · simp only [LB]; rw [e1, e2]; exact hRec
        | true =>
          rw [hany] at hr
          obtain rfl : v7 = .bool false := hr
          rw [smake_old hany] at hO7
          refine ZL.nil ?_; refine ZP.then ?_; refine ZC.condF rfl ?_; refine ZC.seq ?_; refine ZC.region ?_; refine ZL.val (r_move rfl) rfl ?_
          refine ZL.call (r_call rfl) rfl (Points_ok bs bm _ w7 (SetR.of R7 hO7) (by omega)) (fun v8 w8 ⟨E8, ys, hp8, _, hN8⟩ => ?_)
          have hl8 := hp8.length_eq
          rw [List.length_map] at hl8
          obtain ⟨pv8, cv8, rfl⟩ := hN8.own.shape
          have R8 := R7.ext' E8
          clear hN8 hp8
          refine ZL.val (r_lenSlice rfl) rfl ?_; refine ZL.val (r_move rfl) rfl ?_; refine ZL.val (r_neq rfl rfl) rfl ?_; refine ZL.nil ?_; refine ZP.then ?_
          refine ZC.condD rfl (fun hh => absurd hh (by omega)) (fun _ => ?_)
          refine ZC.skip ?_; refine ZP.blockN ?_; refine ZP.then ?_; refine ZC.region ?_; refine ZL.val (r_move rfl) rfl ?_; refine ZL.val (r_add rfl rfl (wrap_i64 (by omega) (by omega))) rfl ?_; refine ZL.val (r_assign rfl) rfl ?_; refine ZL.nil ?_
          have M8 := M4.join R8
          obtain ⟨M9, hs9⟩ := M8.subP [1, 2, 3, 4] rfl
          exact ZP.round (i + 1, recs, .slice pt recs.length ct, .slice ps recs.length cs, es7, clk7) ⟨rfl, rfl, rfl, rfl, rfl, trivial⟩ ⟨by simp only; omega, by simp only; omega, hgood, hO7, M9, (hF4.mv (Mv.frame R8)).sub hs9⟩ (by simp only; omega)
      · refine ZC.exit ?_; refine ZP.thenX ?_; refine ZP.thenX ?_; refine ZP.blockE ?_
        exact ZP.mid (recs, .slice pt recs.length ct, .slice ps recs.length cs, es, clk) ⟨rfl, rfl, rfl, trivial⟩ ⟨by simp only; omega, hgood, hO, M2, hF⟩
    · rw [show decide ((i : Int) < (l.length : Int)) = false from decide_eq_false hlt]
      refine ZL.skip rfl rfl rfl rfl ?_; refine ZL.skip rfl rfl rfl rfl ?_; refine ZL.val (r_pickF rfl rfl) rfl ?_; refine ZL.nil ?_; refine ZP.then ?_; refine ZC.condF rfl ?_; refine ZC.exit ?_; refine ZP.thenX ?_; refine ZP.thenX ?_; refine ZP.blockE ?_
      exact ZP.mid (recs, .slice pt recs.length ct, .slice ps recs.length cs, es, clk) ⟨rfl, rfl, rfl, trivial⟩ ⟨by simp only; omega, hgood, hO, M2, hF⟩
  · rintro ⟨all, vt, vs, es, clk⟩ w2 ⟨h10, hgood, hO, M2, hF⟩
    simp only at h10 hgood hO M2 hF ⊢
    obtain ⟨ps, cs, rfl⟩ := M2.own.shape
    obtain ⟨pt, ct, rfl⟩ := M2.drop.own.shape
    refine ZC.seq ?_; refine ZC.seq ?_; refine ZC.region ?_; refine ZL.val (r_move rfl) rfl ?_; refine ZL.val (r_lenSlice rfl) rfl ?_; refine ZL.val (r_sub rfl rfl (wrap_i64 (by omega) (by omega))) rfl ?_; refine ZL.val (r_assign rfl) rfl ?_; refine ZL.nil ?_; refine ZP.then ?_; refine ZC.block ?_
    refine ZC.loop (X := Int × List Rec × List Rec × Array MapEntry × Nat) (fun x => [(9, .int .i64 x.1), (4, .slice pt all.length ct), (5, .slice ps all.length cs), (3, .pointer (some ⟨bs, 0, none⟩))])
      (fun x w' => x.1 = (x.2.2.1.length : Int) - 1 ∧ all = x.2.1 ++ x.2.2.1 ∧ Good x.2.2.1 ∧ CObj (cur x.2.2.1) x.2.2.2.1 x.2.2.2.2 ∧ Mem w No (LB bs bm all (.slice pt all.length ct) (.slice ps all.length cs) x.2.2.2.1 x.2.2.2.2) w' ∧ RecF w (LB bs bm all (.slice pt all.length ct) (.slice ps all.length cs) x.2.2.2.1 x.2.2.2.2) w' all)
      (fun x => x.2.2.1.length) (_, [], all, es, clk) ⟨rfl, rfl, rfl, rfl, trivial⟩ ⟨rfl, rfl, hgood, hO, M2, hF⟩ ?_
    rintro ⟨k, d, rs, es3, clk3⟩ w3 ⟨hk, hall, hg3, hO3, M3, hF3⟩
    simp only at hk hall hg3 hO3 M3 hF3 ⊢
    refine ZC.seq ?_; refine ZC.seq ?_; refine ZC.region ?_; refine ZL.val (r_move rfl) rfl ?_; refine ZL.val (r_geq rfl rfl) rfl ?_; refine ZL.nil ?_; refine ZP.then ?_
    refine ZC.condD rfl (fun hc => ?_) (fun hc => ?_)
    · cases rs with
      | nil => simp at hk; omega
      | cons r rest =>
        obtain ⟨hany, h1, h4, hgr⟩ := hg3
        rw [show cur (r :: rest) = cur rest ++ newC r.t r.h r.h false r.t.outs.length from rfl] at hO3
        have hk' : k = (rest.length : Int) := by rw [hk, List.length_cons]; omega
        have hrlt : rest.length < all.length := by rw [hall, List.length_append, List.length_cons]; omega
        obtain ⟨gt, ot, cT, eT, fT, rfl, hht, _, hsz, hext⟩ := SlC.row (by decide) (M3.drop.own.slc (X := No) (fun _ _ h => h)) (rws_length all).symm (rws_row fun r hr => (hF3 r hr).1) (rws_at hall)
        obtain ⟨gz, oz, cZ, eZ, fZ, rfl, hhz, _, hcz, _⟩ := SlC.at1 (i := rest.length) (u := .int .i64 ((cur rest).length : Int)) (M3.own.slc (X := No) (fun _ _ h => h)) (by rw [List.getElem?_map, szs_at hall]; rfl)
        have hrm : r ∈ all := by rw [hall]; simp
        have hT3 : TxR w3 _ (.agg r.row.toArray) r.t := ⟨_, rfl, (hF3 r hrm).2⟩
        have hlen := cur_length hgr
        have hrl : rest.length ≤ 10 := by omega
        refine ZC.skip ?_; refine ZP.then ?_; refine ZC.seq ?_; refine ZC.block ?_; refine ZC.seq ?_
        refine ZC.turning (Holds [(gt, .cells cT eT fT), (gz, .cells cZ eZ fZ)]) 24 rfl (by kernel_rfl) rfl rfl rfl (fun w4 E4 _ => ?_)
        have R4 := M3.rebase.ext' E4
        have hne1 : ¬ gt = bm := fun e => by subst e; have h1 := M3.get (b := gt) inferInstance; rw [hht] at h1; cases h1
        have hne2 : ¬ gz = bm := fun e => by subst e; have h1 := M3.get (b := gz) inferInstance; rw [hhz] at h1; cases h1
        have S4 : Holds [(gt, .cells cT eT fT), (gz, .cells cZ eZ fZ)] w4 := ⟨E4.at hht id, E4.at hhz id, trivial⟩
        refine ZT.take 0 rfl rfl (fun w' hS' => by first | exact r_move rfl | exact r_assign rfl | exact r_fieldAddr rfl | exact r_add rfl rfl (wrap_i64 (by omega) (by omega)) | exact r_sub rfl rfl (wrap_i64 (by omega) (by omega)) | exact r_mul rfl rfl (wrap_i64 (by omega) (by omega)) | exact r_convInt rfl (wrap_u64 (by omega) (by omega)) | exact r_convInt rfl (wrap_i64 (by omega) (by omega)) | exact r_convInt rfl (wrap_u32 (by omega) (by omega)) | exact r_sliceArr rfl | exact r_nilCheck rfl | exact r_extract rfl rfl | exact r_lenSlice rfl | exact r_and rfl rfl rfl | exact r_shr rfl rfl (by omega) rfl | exact r_toB rfl | exact r_toU rfl | exact r_toQ rfl) (by kernel_rfl) rfl (by kernel_rfl) (by kernel_rfl) rfl rfl (fun _ _ _ _ h => h) S4 ?_
        refine ZT.take 1 rfl rfl (fun w' hS' => by first | exact r_move rfl | exact r_assign rfl | exact r_fieldAddr rfl | exact r_add rfl rfl (wrap_i64 (by omega) (by omega)) | exact r_sub rfl rfl (wrap_i64 (by omega) (by omega)) | exact r_mul rfl rfl (wrap_i64 (by omega) (by omega)) | exact r_convInt rfl (wrap_u64 (by omega) (by omega)) | exact r_convInt rfl (wrap_i64 (by omega) (by omega)) | exact r_convInt rfl (wrap_u32 (by omega) (by omega)) | exact r_sliceArr rfl | exact r_nilCheck rfl | exact r_extract rfl rfl | exact r_lenSlice rfl | exact r_and rfl rfl rfl | exact r_shr rfl rfl (by omega) rfl | exact r_toB rfl | exact r_toU rfl | exact r_toQ rfl) (by kernel_rfl) rfl (by kernel_rfl) (by kernel_rfl) rfl rfl (fun _ _ _ _ h => h) S4 ?_
        refine ZT.take 2 rfl rfl (fun w' hS' => by first | exact r_move rfl | exact r_assign rfl | exact r_fieldAddr rfl | exact r_add rfl rfl (wrap_i64 (by omega) (by omega)) | exact r_sub rfl rfl (wrap_i64 (by omega) (by omega)) | exact r_mul rfl rfl (wrap_i64 (by omega) (by omega)) | exact r_convInt rfl (wrap_u64 (by omega) (by omega)) | exact r_convInt rfl (wrap_i64 (by omega) (by omega)) | exact r_convInt rfl (wrap_u32 (by omega) (by omega)) | exact r_sliceArr rfl | exact r_nilCheck rfl | exact r_extract rfl rfl | exact r_lenSlice rfl | exact r_and rfl rfl rfl | exact r_shr rfl rfl (by omega) rfl | exact r_toB rfl | exact r_toU rfl | exact r_toQ rfl) (by kernel_rfl) rfl (by kernel_rfl) (by kernel_rfl) rfl rfl (fun _ _ _ _ h => h) S4 ?_
        refine ZT.take 3 rfl rfl (fun w' hS' => r_idxS rest.length rfl rfl hk' hrlt) (by kernel_rfl) rfl (by kernel_rfl) (by kernel_rfl) rfl rfl (fun _ _ _ _ h => h) S4 ?_
        refine ZT.take 4 rfl rfl (fun w' hS' => r_loadN rfl hS'.1 hsz hext) (by kernel_rfl) rfl (by kernel_rfl) (by kernel_rfl) rfl rfl (fun _ _ _ _ h => h) S4 ?_
        refine ZT.one 5 rfl (by kernel_rfl) rfl rfl rfl ?_
        have hU := Unmake_ok bs bm _ _ r.t w4 _ (hG.ext (M3.backX R4.ext)) (SetR.of R4 hO3) (hT3.mv (Mv.ext E4)) (.inr (fpIn_of M3)) (by omega)
        refine ZL.call (r_call rfl) rfl hU (fun v5 w5 ⟨U5, hr⟩ => ?_)
        clear hU
        rw [made_all] at hr
        subst hr
        rw [unmade hany] at U5
        obtain ⟨es5, clk5, hm5, hO5⟩ := U5.r.m
        have R5 := R4.called (o' := .map es5 clk5) inferInstance U5.ext hm5
        have S5 : Holds [(gt, .cells cT eT fT), (gz, .cells cZ eZ fZ)] w5 := ⟨U5.ext.at S4.1 hne1, U5.ext.at S4.2.1 hne2, trivial⟩
        refine ZL.nil (ZP.turning S5 ?_)
        refine ZT.take 6 rfl rfl (fun w' hS' => (r_not rfl).eq (v' := .bool false) rfl) (by kernel_rfl) rfl (by kernel_rfl) (by kernel_rfl) rfl rfl (fun _ _ _ _ h => h) S5 ?_
        refine ZT.take 7 rfl rfl (fun w' hS' => by first | exact r_move rfl | exact r_assign rfl | exact r_fieldAddr rfl | exact r_add rfl rfl (wrap_i64 (by omega) (by omega)) | exact r_sub rfl rfl (wrap_i64 (by omega) (by omega)) | exact r_mul rfl rfl (wrap_i64 (by omega) (by omega)) | exact r_convInt rfl (wrap_u64 (by omega) (by omega)) | exact r_convInt rfl (wrap_i64 (by omega) (by omega)) | exact r_convInt rfl (wrap_u32 (by omega) (by omega)) | exact r_sliceArr rfl | exact r_nilCheck rfl | exact r_extract rfl rfl | exact r_lenSlice rfl | exact r_and rfl rfl rfl | exact r_shr rfl rfl (by omega) rfl | exact r_toB rfl | exact r_toU rfl | exact r_toQ rfl) (by kernel_rfl) rfl (by kernel_rfl) (by kernel_rfl) rfl rfl (fun _ _ _ _ h => h) S5 ?_
        refine ZT.takeOn 8 rfl rfl rfl rfl rfl (fun w' hS' => by first | exact r_move rfl | exact r_fieldAddr rfl | exact r_lenSlice rfl | exact r_add rfl rfl (wrap_i64 (by omega) (by omega)) | exact r_not rfl | exact r_nilCheck rfl | exact r_extract rfl rfl) (by kernel_rfl) rfl (by kernel_rfl) (by kernel_rfl) rfl rfl (fun _ _ _ _ h => h) S5 ?_
        refine ZT.takeOn 9 rfl rfl rfl rfl rfl (fun w' hS' => by first | exact r_move rfl | exact r_fieldAddr rfl | exact r_lenSlice rfl | exact r_add rfl rfl (wrap_i64 (by omega) (by omega)) | exact r_not rfl | exact r_nilCheck rfl | exact r_extract rfl rfl) (by kernel_rfl) rfl (by kernel_rfl) (by kernel_rfl) rfl rfl (fun _ _ _ _ h => h) S5 ?_
        refine ZT.takeOn 10 rfl rfl rfl rfl rfl (fun w' hS' => by first | exact r_move rfl | exact r_fieldAddr rfl | exact r_lenSlice rfl | exact r_add rfl rfl (wrap_i64 (by omega) (by omega)) | exact r_not rfl | exact r_nilCheck rfl | exact r_extract rfl rfl) (by kernel_rfl) rfl (by kernel_rfl) (by kernel_rfl) rfl rfl (fun _ _ _ _ h => h) S5 ?_
        refine ZT.takeOn 11 rfl rfl rfl rfl rfl (fun w' hS' => r_idxS rest.length rfl rfl hk' hrlt) (by kernel_rfl) rfl (by kernel_rfl) (by kernel_rfl) rfl rfl (fun _ _ _ _ h => h) S5 ?_
        refine ZT.takeOn 12 rfl rfl rfl rfl rfl (fun w' hS' => r_loadN rfl hS'.1 hsz hext) (by kernel_rfl) rfl (by kernel_rfl) (by kernel_rfl) rfl rfl (fun _ _ _ _ h => h) S5 ?_
        refine ZT.one 13 rfl (by kernel_rfl) rfl rfl rfl ?_
        refine ZL.on rfl rfl rfl ?_
        have hno := unmade_not h1 hany
        have hU := Unmake_ok bs bm _ _ r.t w5 _ (hG.ext (M3.backX R5.ext)) (SetR.of R5 hO5) (hT3.mv (Mv.frame R5)) (.inr (fpIn_of R5)) (by omega)
        refine ZL.call (r_call rfl) rfl hU (fun v6 w6 ⟨U6, hr⟩ => ?_)
        clear hU
        rw [hno] at hr
        subst hr
        rw [sunmake_not hno] at U6
        obtain ⟨es6, clk6, hm6, hO6⟩ := U6.r.m
        have R6 := R5.called (o' := .map es6 clk6) inferInstance U6.ext hm6
        have S6 : Holds [(gt, .cells cT eT fT), (gz, .cells cZ eZ fZ)] w6 := ⟨U6.ext.at S5.1 hne1, U6.ext.at S5.2.1 hne2, trivial⟩
        refine ZL.nil (ZP.turning S6 ?_)
        refine ZT.take 14 rfl rfl (fun w' hS' => r_pickF rfl rfl) (by kernel_rfl) rfl (by kernel_rfl) (by kernel_rfl) rfl rfl (fun _ _ _ _ h => h) S6 ?_
        refine ZT.take 15 rfl rfl (fun w' hS' => by first | exact r_move rfl | exact r_assign rfl | exact r_fieldAddr rfl | exact r_add rfl rfl (wrap_i64 (by omega) (by omega)) | exact r_sub rfl rfl (wrap_i64 (by omega) (by omega)) | exact r_mul rfl rfl (wrap_i64 (by omega) (by omega)) | exact r_convInt rfl (wrap_u64 (by omega) (by omega)) | exact r_convInt rfl (wrap_i64 (by omega) (by omega)) | exact r_convInt rfl (wrap_u32 (by omega) (by omega)) | exact r_sliceArr rfl | exact r_nilCheck rfl | exact r_extract rfl rfl | exact r_lenSlice rfl | exact r_and rfl rfl rfl | exact r_shr rfl rfl (by omega) rfl | exact r_toB rfl | exact r_toU rfl | exact r_toQ rfl) (by kernel_rfl) rfl (by kernel_rfl) (by kernel_rfl) rfl rfl (fun _ _ _ _ h => h) S6 ?_
        refine ZT.takeOn 16 rfl rfl rfl rfl rfl (fun w' hS' => by first | exact r_move rfl | exact r_fieldAddr rfl | exact r_lenSlice rfl | exact r_add rfl rfl (wrap_i64 (by omega) (by omega)) | exact r_not rfl | exact r_nilCheck rfl | exact r_extract rfl rfl) (by kernel_rfl) rfl (by kernel_rfl) (by kernel_rfl) rfl rfl (fun _ _ _ _ h => h) S6 ?_
        refine ZT.takeOn 19 rfl rfl rfl rfl rfl (fun w' hS' => by first | exact r_move rfl | exact r_fieldAddr rfl | exact r_lenSlice rfl | exact r_add rfl rfl (wrap_i64 (by omega) (by omega)) | exact r_not rfl | exact r_nilCheck rfl | exact r_extract rfl rfl) (by kernel_rfl) rfl (by kernel_rfl) (by kernel_rfl) rfl rfl (fun _ _ _ _ h => h) S6 ?_
        refine ZT.takeOn 20 rfl rfl rfl rfl rfl (fun w' hS' => by first | exact r_move rfl | exact r_fieldAddr rfl | exact r_lenSlice rfl | exact r_add rfl rfl (wrap_i64 (by omega) (by omega)) | exact r_not rfl | exact r_nilCheck rfl | exact r_extract rfl rfl) (by kernel_rfl) rfl (by kernel_rfl) (by kernel_rfl) rfl rfl (fun _ _ _ _ h => h) S6 ?_
        refine ZT.takeOn 21 rfl rfl rfl rfl rfl (fun w' hS' => r_idxS rest.length rfl rfl hk' hrlt) (by kernel_rfl) rfl (by kernel_rfl) (by kernel_rfl) rfl rfl (fun _ _ _ _ h => h) S6 ?_
        refine ZT.takeOn 22 rfl rfl rfl rfl rfl (fun w' hS' => r_load1 rfl hS'.2.1 hcz) (by kernel_rfl) rfl (by kernel_rfl) (by kernel_rfl) rfl rfl (fun _ _ _ _ h => h) S6 ?_
        refine ZT.one 17 rfl (by kernel_rfl) rfl rfl rfl ?_
        refine ZL.on rfl rfl rfl ?_
        refine ZL.call (r_call rfl) rfl (Points_ok bs bm _ w6 (SetR.of R6 hO6) (by omega)) (fun v7 w7 ⟨E7, xs, hp, _, hN⟩ => ?_)
        have hl := hp.length_eq
        rw [List.length_map] at hl
        obtain ⟨pv, cv, rfl⟩ := hN.own.shape
        have R7 := R6.ext' E7
        clear hN hp
        have S7 : Holds [(gt, .cells cT eT fT), (gz, .cells cZ eZ fZ)] w7 := ⟨E7.at S6.1 id, E7.at S6.2.1 id, trivial⟩
        refine ZL.nil (ZP.turning S7 ?_)
        refine ZT.takeOn 18 rfl rfl rfl rfl rfl (fun w' hS' => by first | exact r_move rfl | exact r_fieldAddr rfl | exact r_lenSlice rfl | exact r_add rfl rfl (wrap_i64 (by omega) (by omega)) | exact r_not rfl | exact r_nilCheck rfl | exact r_extract rfl rfl) (by kernel_rfl) rfl (by kernel_rfl) (by kernel_rfl) rfl rfl (fun _ _ _ _ h => h) S7 ?_
        refine ZT.takeOn 23 rfl rfl rfl rfl rfl (fun w' hS' => (r_neq rfl rfl).eq (v' := .bool false) (congrArg Value.bool (decide_eq_false (by omega)))) (by kernel_rfl) rfl (by kernel_rfl) (by kernel_rfl) rfl rfl (fun _ _ _ _ h => h) S7 ?_
        refine ZT.done rfl (by kernel_rfl) ?_
        refine ZL.val (r_pickF rfl rfl) rfl ?_
        refine ZL.nil ?_; refine ZP.then ?_; refine ZC.condF rfl ?_; refine ZC.skip ?_; refine ZP.blockN ?_; refine ZP.then ?_; refine ZC.region ?_; refine ZL.val (r_move rfl) rfl ?_; refine ZL.val (r_sub rfl rfl (wrap_i64 (by omega) (by omega))) rfl ?_; refine ZL.val (r_assign rfl) rfl ?_; refine ZL.nil ?_
        exact ZP.round (_, d ++ [r], rest, es6, clk6) ⟨rfl, rfl, rfl, rfl, trivial⟩ ⟨by simp only; omega, by simp only [List.append_assoc]; exact hall, hgr, hO6, M3.join R7, hF3.mv (Mv.frame R7)⟩ (by simp only [List.length_cons]; omega)
    · cases rs with
      | cons r rest => simp only [List.length_cons] at hk; omega
      | nil =>
        refine ZC.exit ?_; refine ZP.thenX ?_; refine ZP.thenX ?_; refine ZP.blockE ?_; refine ZP.then ?_; refine ZC.seq ?_; refine ZC.region ?_; refine ZL.val (r_move rfl) rfl ?_
        refine ZL.call (r_call rfl) rfl (Points_ok bs bm [] w3 (SetR.of M3 hO3) (by simp)) (fun v7 w7 ⟨E7, xs, hp, _, hN⟩ => ?_)
        have hxs : xs = [] := List.perm_nil.1 hp
        subst hxs
        obtain ⟨pv, cv, rfl⟩ := hN.own.shape
        have M7 := M3.ext' E7
        refine ZL.val (r_lenSlice rfl) rfl ?_; refine ZL.val (r_eql rfl rfl) rfl ?_; refine ZL.val (r_move rfl) rfl ?_; refine ZL.on rfl rfl rfl ?_
        refine ZL.call (r_call rfl) rfl (awake_ok w7 (hG.ext M7.ext)) (fun v8 w8 ⟨E8, hr⟩ => ?_)
        subst hr
        have M8 := M7.ext' E8
        refine ZL.val (r_pickT rfl rfl) rfl ?_; refine ZL.val (r_assign rfl) rfl ?_; refine ZL.nil ?_; refine ZP.then ?_; refine ZC.ret ?_
        exact ZP.ret1 rfl rfl ⟨M8.ext, rfl⟩
end Go.Proofs.YthcgmdmdgpljmaaDoor.Z
