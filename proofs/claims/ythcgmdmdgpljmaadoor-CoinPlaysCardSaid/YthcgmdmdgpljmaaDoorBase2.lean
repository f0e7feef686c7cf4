/- A transaction's bytes without its witnesses: the document's. -/
import Derived.Test.YthcgmdmdgpljmaaDoorBase
set_option linter.unusedVariables false
set_option linter.unusedSimpArgs false
set_option linter.unusedSectionVars false
set_option maxRecDepth 100000
set_option maxHeartbeats 4000000
namespace Go.Proofs.YthcgmdmdgpljmaaDoor.Z
open Go Go.RowKit

theorem refbody_ok (bv v : Value) (l : List UInt8) (t : TTx) (w : World) (Y : Nat → Prop) (hb : BytesR w No bv l) (h : TxR w Y v t) (hm : t.may = true) (hl : l.length ≤ 10000) :
    Ret P 43 #[bv, v] w (fun r w' => Ext w w' ∧ BytesO w w' r (l ++ t.bodyB)) := by
  obtain ⟨r, rfl, iv, ov, rfl, hi, ho⟩ := h
  obtain ⟨ip, ic, rfl⟩ := hi.shape
  obtain ⟨op, oc, rfl⟩ := ho.shape
  obtain ⟨-, hi1, hi2⟩ := hi.le
  obtain ⟨-, ho1, ho2⟩ := ho.le
  obtain ⟨hn1, hn2, hn3, hn4⟩ := may_len hm
  have hli := may_in hm
  have hlo := may_out hm
  refine Ret.enter2 Tryd.func43 rfl Tryd.ntmps43 rfl ?_
  refine ZC.seq ?_; refine ZC.region ?_
  refine ZL.box (Mem.start w No) rfl rfl rfl (fun b w1 M => ?_)
  refine ZL.val (r_assign rfl) rfl ?_; refine ZL.nil ?_; refine ZP.then ?_; refine ZC.seq ?_; refine ZC.region ?_; refine ZL.val (r_move rfl) rfl ?_; refine ZL.val (r_fieldAddr rfl) rfl ?_
  refine ZL.val (r_ld M rfl (by rfl)) rfl ?_
  refine ZL.val (r_lenSlice rfl) rfl ?_
  refine ZL.call (r_call rfl) rfl (refCount_ok bv l t.ins.length w1 _ (SlC.ext hb M.ext) (by omega) (by omega)) (fun v2 w2 ⟨E2, O2⟩ => ?_)
  have M2 := M.addNew E2 O2
  refine ZL.val (r_assign rfl) rfl ?_; refine ZL.nil ?_; refine ZP.then ?_; refine ZC.seq ?_; refine ZC.seq ?_; refine ZC.region ?_; refine ZL.val (r_assign rfl) rfl ?_; refine ZL.nil ?_; refine ZP.then ?_; refine ZC.block ?_
  refine ZC.loop (X := Nat × Value) (fun x => [(5, .int .i64 x.1), (0, x.2), (3, .pointer (some ⟨b, 0, none⟩))])
    (fun x w' => Mem w No [.own x.2 5 1 (l ++ cnt t.ins.length ++ insB (t.ins.take x.1)).length ((l ++ cnt t.ins.length ++ insB (t.ins.take x.1)).map u8), .blk b (.cells #[u32 t.version, .slice ip t.ins.length ic, .slice op t.outs.length oc, u32 t.lock] 30)] w' ∧ x.1 ≤ t.ins.length) (fun x => t.ins.length - x.1) (0, v2) ⟨rfl, rfl, rfl, trivial⟩ ⟨by simpa [insB] using M2, by omega⟩ ?_
  rintro ⟨k, bk⟩ w3 ⟨M3, hk⟩
  have hc1 := cnt_length t.ins.length
  have hc2 := insB_len (t.ins.take k) (fun x hx => hli x (List.mem_of_mem_take hx))
  rw [List.length_take] at hc2
  simp only at hk M3 ⊢
  refine ZC.seq ?_; refine ZC.seq ?_; refine ZC.region ?_; refine ZL.val (r_move rfl) rfl ?_; refine ZL.val (r_fieldAddr rfl) rfl ?_
  refine ZL.val (r_ld M3 rfl (by rfl)) rfl ?_
  refine ZL.val (r_lenSlice rfl) rfl ?_; refine ZL.val (r_lss rfl rfl) rfl ?_; refine ZL.nil ?_; refine ZP.then ?_
  refine ZC.condD rfl (fun hc => ?_) (fun hc => ?_)
  · have hk' : k < t.ins.length := by omega
    have hsl := hli _ (List.getElem_mem hk')
    have hc3 := cnt_length t.ins[k].script.length
    obtain ⟨g, o, cs, e, fz, r, rfl, hh, hx, hlen, hE, hcell, hsz, hext⟩ := hi.elem (by decide) hk'
    obtain ⟨sv, wv, rfl, hs, hwit⟩ := hE
    change cs.extract _ _ = InC t.ins[k] sv wv at hext
    refine ZC.skip ?_; refine ZP.then ?_; refine ZC.seq ?_; refine ZC.block ?_; refine ZC.seq ?_; refine ZC.region ?_; refine ZL.val (r_fieldAddr rfl) rfl ?_
    refine ZL.val (r_ld M3 rfl (by rfl)) rfl ?_
    refine ZL.val (r_move rfl) rfl ?_
    refine ZL.val (r_indexAddrSlice rfl rfl hk') rfl ?_
    refine ZL.val (r_loadN rfl (M3.ext.at hh id) hsz hext) rfl ?_
    refine ZL.alloc M3 rfl rfl (fun bx w4 M4 => ?_)
    refine ZL.stW M4 rfl rfl rfl (by rfl) (InC.size _ _ _) (InC.one hs.one hwit.one) (fun w5 M5 => ?_)
    refine ZL.nil ?_; refine ZP.then ?_
    refine ZC.draw (Holds [(bx, .cells (InC t.ins[k] sv wv) 63 (0, 0))]) rfl rfl (fun w6 E6 _ => ?_)
    have M6 := M5.ext' E6
    have S6 : Holds [(bx, .cells (InC t.ins[k] sv wv) 63 (0, 0))] w6 := ⟨M6.get inferInstance, trivial⟩
    refine ZA.take 0 rfl (fun w' hS' => by first | exact r_move rfl | exact r_assign rfl | exact r_fieldAddr rfl | exact r_sliceArr rfl | exact r_addU rfl rfl | exact r_xorU rfl rfl | exact r_orU rfl rfl | exact r_andU rfl rfl | exact r_complU rfl | exact r_convU rfl | exact r_ldS hS' rfl (by rfl) | exact r_nilCheck rfl | exact r_extract rfl rfl | exact r_lenSlice rfl) (by kernel_rfl) (by kernel_rfl) (by kernel_rfl) rfl rfl (fun _ _ _ _ h => h) S6 ?_
    refine ZA.take 1 rfl (fun w' hS' => by first | exact r_move rfl | exact r_assign rfl | exact r_fieldAddr rfl | exact r_sliceArr rfl | exact r_addU rfl rfl | exact r_xorU rfl rfl | exact r_orU rfl rfl | exact r_andU rfl rfl | exact r_complU rfl | exact r_convU rfl | exact r_ldS hS' rfl (by rfl) | exact r_nilCheck rfl | exact r_extract rfl rfl | exact r_lenSlice rfl) (by kernel_rfl) (by kernel_rfl) (by kernel_rfl) rfl rfl (fun _ _ _ _ h => h) S6 ?_
    refine ZA.take 2 rfl (fun w' hS' => by first | exact r_move rfl | exact r_assign rfl | exact r_fieldAddr rfl | exact r_sliceArr rfl | exact r_addU rfl rfl | exact r_xorU rfl rfl | exact r_orU rfl rfl | exact r_andU rfl rfl | exact r_complU rfl | exact r_convU rfl | exact r_ldS hS' rfl (by rfl) | exact r_nilCheck rfl | exact r_extract rfl rfl | exact r_lenSlice rfl) (by kernel_rfl) (by kernel_rfl) (by kernel_rfl) rfl rfl (fun _ _ _ _ h => h) S6 ?_
    refine ZA.take 4 rfl (fun w' hS' => by first | exact r_move rfl | exact r_assign rfl | exact r_fieldAddr rfl | exact r_sliceArr rfl | exact r_addU rfl rfl | exact r_xorU rfl rfl | exact r_orU rfl rfl | exact r_andU rfl rfl | exact r_complU rfl | exact r_convU rfl | exact r_ldS hS' rfl (by rfl) | exact r_nilCheck rfl | exact r_extract rfl rfl | exact r_lenSlice rfl) (by kernel_rfl) (by kernel_rfl) (by kernel_rfl) rfl rfl (fun _ _ _ _ h => h) S6 ?_
    refine ZA.take 5 rfl (fun w' hS' => r_ldS hS' rfl (InC.n32 _ _ _)) (by kernel_rfl) (by kernel_rfl) (by kernel_rfl) rfl rfl (fun _ _ _ _ h => h) S6 ?_
    refine ZA.take 7 rfl (fun w' hS' => by first | exact r_move rfl | exact r_assign rfl | exact r_fieldAddr rfl | exact r_sliceArr rfl | exact r_addU rfl rfl | exact r_xorU rfl rfl | exact r_orU rfl rfl | exact r_andU rfl rfl | exact r_complU rfl | exact r_convU rfl | exact r_ldS hS' rfl (by rfl) | exact r_nilCheck rfl | exact r_extract rfl rfl | exact r_lenSlice rfl) (by kernel_rfl) (by kernel_rfl) (by kernel_rfl) rfl rfl (fun _ _ _ _ h => h) S6 ?_
    refine ZA.take 8 rfl (fun w' hS' => r_ldS hS' rfl (InC.n33 _ _ _)) (by kernel_rfl) (by kernel_rfl) (by kernel_rfl) rfl rfl (fun _ _ _ _ h => h) S6 ?_
    refine ZA.take 10 rfl (fun w' hS' => by first | exact r_move rfl | exact r_assign rfl | exact r_fieldAddr rfl | exact r_sliceArr rfl | exact r_addU rfl rfl | exact r_xorU rfl rfl | exact r_orU rfl rfl | exact r_andU rfl rfl | exact r_complU rfl | exact r_convU rfl | exact r_ldS hS' rfl (by rfl) | exact r_nilCheck rfl | exact r_extract rfl rfl | exact r_lenSlice rfl) (by kernel_rfl) (by kernel_rfl) (by kernel_rfl) rfl rfl (fun _ _ _ _ h => h) S6 ?_
    refine ZA.take 11 rfl (fun w' hS' => r_ldS hS' rfl (InC.n34 _ _ _)) (by kernel_rfl) (by kernel_rfl) (by kernel_rfl) rfl rfl (fun _ _ _ _ h => h) S6 ?_
    refine ZA.one 3 (by kernel_rfl) rfl rfl ?_
    refine ZL.append M6 rfl rfl (InC.prev (M6.get inferInstance)) (u8_one _) (by simp only [maxLen, List.length_append, t.ins[k].prev.property]; omega) (by simp only [List.length_append, t.ins[k].prev.property]; omega) rfl (fun v7 w7 M7 => ?_)
    have S7 : Holds [(bx, .cells (InC t.ins[k] sv wv) 63 (0, 0))] w7 := ⟨M7.get inferInstance, trivial⟩
    refine ZL.nil (ZP.any S7 ?_)
    refine ZA.one 6 (by kernel_rfl) rfl rfl ?_
    refine ZL.call (r_call rfl) rfl (refSmall_ok v7 (l ++ cnt t.ins.length ++ insB (t.ins.take k) ++ t.ins[k].prev.val) t.ins[k].vout.toNat w7 No ((M7.og inferInstance).bytes (by simp only [List.length_append]) (by simp only [List.map_append])) (by simp only [List.length_append, t.ins[k].prev.property]; omega) t.ins[k].vout.toNat_lt) (fun v8 w8 ⟨E8, O8⟩ => ?_)
    have M8 := M7.addNew E8 O8
    have S8 : Holds [(bx, .cells (InC t.ins[k] sv wv) 63 (0, 0))] w8 := ⟨M8.get inferInstance, trivial⟩
    refine ZL.nil (ZP.any S8 ?_)
    refine ZA.one 9 (by kernel_rfl) rfl rfl ?_
    refine ZL.call (r_call rfl) rfl (refbytes_ok v8 sv (l ++ cnt t.ins.length ++ insB (t.ins.take k) ++ t.ins[k].prev.val ++ le t.ins[k].vout.toNat 4) t.ins[k].script w8 No _ (O8.own.bytes rfl rfl) (hs.mv (Mv.mem (M8.weak Y))) (by simp only [List.length_append, t.ins[k].prev.property, le_length]; omega) (by omega)) (fun v10 w10 ⟨E10, O10⟩ => ?_)
    have M10 := M8.addNew E10 O10
    have S10 : Holds [(bx, .cells (InC t.ins[k] sv wv) 63 (0, 0))] w10 := ⟨M10.get inferInstance, trivial⟩
    refine ZL.nil (ZP.any S10 ?_)
    refine ZA.one 12 (by kernel_rfl) rfl rfl ?_
    refine ZL.call (r_call rfl) rfl (refSmall_ok v10 _ t.ins[k].seq.toNat w10 No (O10.own.bytes rfl rfl) (by simp only [List.length_append, t.ins[k].prev.property, le_length]; omega) t.ins[k].seq.toNat_lt) (fun v11 w11 ⟨E11, O11⟩ => ?_)
    have M11 := M10.addNew E11 O11
    have S11 : Holds [(bx, .cells (InC t.ins[k] sv wv) 63 (0, 0))] w11 := ⟨M11.get inferInstance, trivial⟩
    refine ZL.nil (ZP.any S11 ?_)
    refine ZA.take 13 rfl (fun w' hS' => by first | exact r_move rfl | exact r_assign rfl | exact r_fieldAddr rfl | exact r_sliceArr rfl | exact r_addU rfl rfl | exact r_xorU rfl rfl | exact r_orU rfl rfl | exact r_andU rfl rfl | exact r_complU rfl | exact r_convU rfl | exact r_ldS hS' rfl (by rfl) | exact r_nilCheck rfl | exact r_extract rfl rfl | exact r_lenSlice rfl) (by kernel_rfl) (by kernel_rfl) (by kernel_rfl) rfl rfl (fun _ _ _ _ h => h) S11 ?_
    refine ZA.done (by kernel_rfl) ?_
    refine ZP.blockN ?_; refine ZP.then ?_; refine ZC.region ?_; refine ZL.val (r_move rfl) rfl ?_; refine ZL.val (r_add rfl rfl (wrap_i64 (by omega) (by omega))) rfl ?_; refine ZL.val (r_assign rfl) rfl ?_; refine ZL.nil ?_
    refine ZP.round (k + 1, v11) ⟨rfl, rfl, rfl, trivial⟩ ⟨?_, by omega⟩ (by simp only; omega)
    have M12 := M11.sub [0, 5] rfl
    have e : l ++ cnt t.ins.length ++ insB (t.ins.take (k + 1)) = l ++ cnt t.ins.length ++ insB (t.ins.take k) ++ t.ins[k].prev.val ++ le t.ins[k].vout.toNat 4 ++ cnt t.ins[k].script.length ++ t.ins[k].script ++ le t.ins[k].seq.toNat 4 := by
      rw [insB_succ _ _ hk']; simp [TIn.enc]
    simp only
    rw [e]
    exact M12
  · have hk' : k = t.ins.length := by omega
    subst hk'
    rw [List.take_length] at M3 hc2
    have hc4 := cnt_length t.outs.length
    refine ZC.exit ?_; refine ZP.thenX ?_; refine ZP.thenX ?_; refine ZP.blockE ?_; refine ZP.then ?_; refine ZC.seq ?_; refine ZC.region ?_; refine ZL.val (r_move rfl) rfl ?_; refine ZL.val (r_fieldAddr rfl) rfl ?_
    refine ZL.val (r_ld M3 rfl (by rfl)) rfl ?_
    refine ZL.val (r_lenSlice rfl) rfl ?_
    refine ZL.call (r_call rfl) rfl (refCount_ok bk (l ++ cnt t.ins.length ++ insB t.ins) t.outs.length w3 No ((M3.og inferInstance).bytes rfl rfl) (by simp only [List.length_append]; omega) (by omega)) (fun v4 w4 ⟨E4, O4⟩ => ?_)
    have M4 := M3.addNew E4 O4
    refine ZL.val (r_assign rfl) rfl ?_; refine ZL.nil ?_; refine ZP.then ?_; refine ZC.seq ?_; refine ZC.seq ?_; refine ZC.region ?_; refine ZL.val (r_assign rfl) rfl ?_; refine ZL.nil ?_; refine ZP.then ?_; refine ZC.block ?_
    have M5 := M4.sub [0, 2] rfl
    refine ZC.loop (X := Nat × Value) (fun x => [(7, .int .i64 x.1), (0, x.2), (3, .pointer (some ⟨b, 0, none⟩))])
      (fun x w' => Mem w No [.own x.2 5 1 (l ++ cnt t.ins.length ++ insB t.ins ++ cnt t.outs.length ++ outsB (t.outs.take x.1)).length ((l ++ cnt t.ins.length ++ insB t.ins ++ cnt t.outs.length ++ outsB (t.outs.take x.1)).map u8), .blk b (.cells #[u32 t.version, .slice ip t.ins.length ic, .slice op t.outs.length oc, u32 t.lock] 30)] w' ∧ x.1 ≤ t.outs.length) (fun x => t.outs.length - x.1) (0, v4) ⟨rfl, rfl, rfl, trivial⟩ ⟨by simpa [outsB] using M5, by omega⟩ ?_
    rintro ⟨k, bk⟩ w6 ⟨M6, hk⟩
    have hc5 := outsB_len (t.outs.take k) (fun x hx => hlo x (List.mem_of_mem_take hx))
    rw [List.length_take] at hc5
    simp only at hk M6 ⊢
    refine ZC.seq ?_; refine ZC.seq ?_; refine ZC.region ?_; refine ZL.val (r_move rfl) rfl ?_; refine ZL.val (r_fieldAddr rfl) rfl ?_
    refine ZL.val (r_ld M6 rfl (by rfl)) rfl ?_
    refine ZL.val (r_lenSlice rfl) rfl ?_; refine ZL.val (r_lss rfl rfl) rfl ?_; refine ZL.nil ?_; refine ZP.then ?_
    refine ZC.condD rfl (fun hd => ?_) (fun hd => ?_)
    · have hk' : k < t.outs.length := by omega
      obtain ⟨g, o, cs, e, fz, r, rfl, hh, hx, hlen, hE, hcell, hsz, hext⟩ := ho.elem (by decide) hk'
      obtain ⟨sv, rfl, hs⟩ := hE
      have hsl := hlo _ (List.getElem_mem hk')
      have c0 : nth cs (o + k * 2 + 0) = some (u64 t.outs[k].value) := by rw [nth_eq]; exact hcell 0 _ rfl
      have c1 : nth cs (o + k * 2 + 1) = some sv := by rw [nth_eq]; exact hcell 1 _ rfl
      refine ZC.skip ?_; refine ZP.then ?_; refine ZC.seq ?_; refine ZC.block ?_
      refine ZC.draw (Holds [(b, .cells #[u32 t.version, .slice ip t.ins.length ic, .slice (some ⟨g, o, none⟩) t.outs.length oc, u32 t.lock] 30 (0, 0)), (g, .cells cs e fz)]) rfl rfl (fun w9 E9 _ => ?_)
      have M9 := M6.ext' E9
      have S9 : Holds [(b, .cells #[u32 t.version, .slice ip t.ins.length ic, .slice (some ⟨g, o, none⟩) t.outs.length oc, u32 t.lock] 30 (0, 0)), (g, .cells cs e fz)] w9 := ⟨M9.get inferInstance, M9.ext.at hh id, trivial⟩
      refine ZA.take 0 rfl (fun w' hS' => by first | exact r_move rfl | exact r_assign rfl | exact r_fieldAddr rfl | exact r_sliceArr rfl | exact r_addU rfl rfl | exact r_xorU rfl rfl | exact r_orU rfl rfl | exact r_andU rfl rfl | exact r_complU rfl | exact r_convU rfl | exact r_ldS hS' rfl (by rfl) | exact r_nilCheck rfl | exact r_extract rfl rfl | exact r_lenSlice rfl) (by kernel_rfl) (by kernel_rfl) (by kernel_rfl) rfl rfl (fun _ _ _ _ h => h) S9 ?_
      refine ZA.take 1 rfl (fun w' hS' => by first | exact r_move rfl | exact r_assign rfl | exact r_fieldAddr rfl | exact r_sliceArr rfl | exact r_addU rfl rfl | exact r_xorU rfl rfl | exact r_orU rfl rfl | exact r_andU rfl rfl | exact r_complU rfl | exact r_convU rfl | exact r_ldS hS' rfl (by rfl) | exact r_nilCheck rfl | exact r_extract rfl rfl | exact r_lenSlice rfl) (by kernel_rfl) (by kernel_rfl) (by kernel_rfl) rfl rfl (fun _ _ _ _ h => h) S9 ?_
      refine ZA.take 2 rfl (fun w' hS' => by first | exact r_move rfl | exact r_assign rfl | exact r_fieldAddr rfl | exact r_sliceArr rfl | exact r_addU rfl rfl | exact r_xorU rfl rfl | exact r_orU rfl rfl | exact r_andU rfl rfl | exact r_complU rfl | exact r_convU rfl | exact r_ldS hS' rfl (by rfl) | exact r_nilCheck rfl | exact r_extract rfl rfl | exact r_lenSlice rfl) (by kernel_rfl) (by kernel_rfl) (by kernel_rfl) rfl rfl (fun _ _ _ _ h => h) S9 ?_
      refine ZA.take 3 rfl (fun w' hS' => by first | exact r_move rfl | exact r_assign rfl | exact r_fieldAddr rfl | exact r_sliceArr rfl | exact r_addU rfl rfl | exact r_xorU rfl rfl | exact r_orU rfl rfl | exact r_andU rfl rfl | exact r_complU rfl | exact r_convU rfl | exact r_ldS hS' rfl (by rfl) | exact r_nilCheck rfl | exact r_extract rfl rfl | exact r_lenSlice rfl) (by kernel_rfl) (by kernel_rfl) (by kernel_rfl) rfl rfl (fun _ _ _ _ h => h) S9 ?_
      refine ZA.take 4 rfl (fun w' hS' => r_indexAddrSlice rfl rfl hk') (by kernel_rfl) (by kernel_rfl) (by kernel_rfl) rfl rfl (fun _ _ _ _ h => h) S9 ?_
      refine ZA.take 5 rfl (fun w' hS' => by first | exact r_move rfl | exact r_assign rfl | exact r_fieldAddr rfl | exact r_sliceArr rfl | exact r_addU rfl rfl | exact r_xorU rfl rfl | exact r_orU rfl rfl | exact r_andU rfl rfl | exact r_complU rfl | exact r_convU rfl | exact r_ldS hS' rfl (by rfl) | exact r_nilCheck rfl | exact r_extract rfl rfl | exact r_lenSlice rfl) (by kernel_rfl) (by kernel_rfl) (by kernel_rfl) rfl rfl (fun _ _ _ _ h => h) S9 ?_
      refine ZA.take 6 rfl (fun w' hS' => r_ldS hS' rfl c0) (by kernel_rfl) (by kernel_rfl) (by kernel_rfl) rfl rfl (fun _ _ _ _ h => h) S9 ?_
      refine ZA.take 8 rfl (fun w' hS' => by first | exact r_move rfl | exact r_assign rfl | exact r_fieldAddr rfl | exact r_sliceArr rfl | exact r_addU rfl rfl | exact r_xorU rfl rfl | exact r_orU rfl rfl | exact r_andU rfl rfl | exact r_complU rfl | exact r_convU rfl | exact r_ldS hS' rfl (by rfl) | exact r_nilCheck rfl | exact r_extract rfl rfl | exact r_lenSlice rfl) (by kernel_rfl) (by kernel_rfl) (by kernel_rfl) rfl rfl (fun _ _ _ _ h => h) S9 ?_
      refine ZA.take 9 rfl (fun w' hS' => by first | exact r_move rfl | exact r_assign rfl | exact r_fieldAddr rfl | exact r_sliceArr rfl | exact r_addU rfl rfl | exact r_xorU rfl rfl | exact r_orU rfl rfl | exact r_andU rfl rfl | exact r_complU rfl | exact r_convU rfl | exact r_ldS hS' rfl (by rfl) | exact r_nilCheck rfl | exact r_extract rfl rfl | exact r_lenSlice rfl) (by kernel_rfl) (by kernel_rfl) (by kernel_rfl) rfl rfl (fun _ _ _ _ h => h) S9 ?_
      refine ZA.take 10 rfl (fun w' hS' => by first | exact r_move rfl | exact r_assign rfl | exact r_fieldAddr rfl | exact r_sliceArr rfl | exact r_addU rfl rfl | exact r_xorU rfl rfl | exact r_orU rfl rfl | exact r_andU rfl rfl | exact r_complU rfl | exact r_convU rfl | exact r_ldS hS' rfl (by rfl) | exact r_nilCheck rfl | exact r_extract rfl rfl | exact r_lenSlice rfl) (by kernel_rfl) (by kernel_rfl) (by kernel_rfl) rfl rfl (fun _ _ _ _ h => h) S9 ?_
      refine ZA.take 11 rfl (fun w' hS' => r_indexAddrSlice rfl rfl hk') (by kernel_rfl) (by kernel_rfl) (by kernel_rfl) rfl rfl (fun _ _ _ _ h => h) S9 ?_
      refine ZA.take 12 rfl (fun w' hS' => by first | exact r_move rfl | exact r_assign rfl | exact r_fieldAddr rfl | exact r_sliceArr rfl | exact r_addU rfl rfl | exact r_xorU rfl rfl | exact r_orU rfl rfl | exact r_andU rfl rfl | exact r_complU rfl | exact r_convU rfl | exact r_ldS hS' rfl (by rfl) | exact r_nilCheck rfl | exact r_extract rfl rfl | exact r_lenSlice rfl) (by kernel_rfl) (by kernel_rfl) (by kernel_rfl) rfl rfl (fun _ _ _ _ h => h) S9 ?_
      refine ZA.take 13 rfl (fun w' hS' => r_ldS hS' rfl c1) (by kernel_rfl) (by kernel_rfl) (by kernel_rfl) rfl rfl (fun _ _ _ _ h => h) S9 ?_
      refine ZA.one 7 (by kernel_rfl) rfl rfl ?_
      refine ZL.call (r_call rfl) rfl (refBig_ok bk (l ++ cnt t.ins.length ++ insB t.ins ++ cnt t.outs.length ++ outsB (t.outs.take k)) t.outs[k].value.toNat w9 No ((M9.og inferInstance).bytes rfl rfl) (by simp only [List.length_append]; omega) t.outs[k].value.toNat_lt) (fun v10 w10 ⟨E10, O10⟩ => ?_)
      have M10 := M9.addNew E10 O10
      have S10 : Holds [(b, .cells #[u32 t.version, .slice ip t.ins.length ic, .slice (some ⟨g, o, none⟩) t.outs.length oc, u32 t.lock] 30 (0, 0)), (g, .cells cs e fz)] w10 := ⟨M10.get inferInstance, M10.ext.at hh id, trivial⟩
      refine ZL.nil (ZP.any S10 ?_)
      refine ZA.one 14 (by kernel_rfl) rfl rfl ?_
      refine ZL.call (r_call rfl) rfl (refbytes_ok v10 sv _ t.outs[k].script w10 No _ (O10.own.bytes rfl rfl) (hs.mv (Mv.mem (M10.weak Y))) (by simp only [List.length_append, le_length]; omega) (by omega)) (fun v11 w11 ⟨E11, O11⟩ => ?_)
      have M11 := M10.addNew E11 O11
      have S11 : Holds [(b, .cells #[u32 t.version, .slice ip t.ins.length ic, .slice (some ⟨g, o, none⟩) t.outs.length oc, u32 t.lock] 30 (0, 0)), (g, .cells cs e fz)] w11 := ⟨M11.get inferInstance, M11.ext.at hh id, trivial⟩
      refine ZL.nil (ZP.any S11 ?_)
      refine ZA.take 15 rfl (fun w' hS' => by first | exact r_move rfl | exact r_assign rfl | exact r_fieldAddr rfl | exact r_sliceArr rfl | exact r_addU rfl rfl | exact r_xorU rfl rfl | exact r_orU rfl rfl | exact r_andU rfl rfl | exact r_complU rfl | exact r_convU rfl | exact r_ldS hS' rfl (by rfl) | exact r_nilCheck rfl | exact r_extract rfl rfl | exact r_lenSlice rfl) (by kernel_rfl) (by kernel_rfl) (by kernel_rfl) rfl rfl (fun _ _ _ _ h => h) S11 ?_
      refine ZA.done (by kernel_rfl) ?_
      refine ZP.blockN ?_; refine ZP.then ?_; refine ZC.region ?_; refine ZL.val (r_move rfl) rfl ?_; refine ZL.val (r_add rfl rfl (wrap_i64 (by omega) (by omega))) rfl ?_; refine ZL.val (r_assign rfl) rfl ?_; refine ZL.nil ?_
      refine ZP.round (k + 1, v11) ⟨rfl, rfl, rfl, trivial⟩ ⟨?_, by omega⟩ (by simp only; omega)
      have M12 := M11.sub [0, 3] rfl
      have e : l ++ cnt t.ins.length ++ insB t.ins ++ cnt t.outs.length ++ outsB (t.outs.take (k + 1)) = l ++ cnt t.ins.length ++ insB t.ins ++ cnt t.outs.length ++ outsB (t.outs.take k) ++ le t.outs[k].value.toNat 8 ++ cnt t.outs[k].script.length ++ t.outs[k].script := by
        rw [outsB_succ _ _ hk']; simp [TOut.enc]
      simp only
      rw [e]
      exact M12
    · have hk' : k = t.outs.length := by omega
      subst hk'
      rw [List.take_length] at M6
      refine ZC.exit ?_; refine ZP.thenX ?_; refine ZP.thenX ?_; refine ZP.blockE ?_; refine ZP.then ?_; refine ZC.seq ?_; refine ZC.region ?_; refine ZL.val (r_move rfl) rfl ?_; refine ZL.val (r_assign rfl) rfl ?_; refine ZL.nil ?_; refine ZP.then ?_; refine ZC.ret ?_
      exact ZP.ret1 rfl rfl (M6.new (by simp [TTx.bodyB]) (by simp [TTx.bodyB]))

theorem refBase_ok (v : Value) (t : TTx) (w : World) (Y : Nat → Prop) (h : TxR w Y v t) :
    Ret P 31 #[v] w (fun r w' => Ext w w' ∧ BytesO w w' r t.base) := by
  obtain ⟨iv, ov, rfl, -, -⟩ := h.v
  refine Ret.enter1 Tryd.func31 rfl Tryd.ntmps31 rfl ?_
  refine ZC.seq ?_; refine ZC.region ?_
  refine ZL.box (Mem.start w No) rfl rfl rfl (fun b w1 M => ?_)
  refine ZL.val (r_assign rfl) rfl ?_; refine ZL.nil ?_; refine ZP.then ?_; refine ZC.seq ?_; refine ZC.seq ?_; refine ZC.region ?_
  refine ZL.val (r_ldW M rfl rfl) rfl ?_
  refine ZL.call (r_call rfl) rfl (refmay_ok _ t w1 _ (h.mv (Mv.ext M.ext))) (fun v2 w2 ⟨E2, hv2⟩ => ?_)
  subst hv2
  have M2 := M.ext' E2
  refine ZL.val (r_not rfl) rfl ?_; refine ZL.nil ?_; refine ZP.then ?_
  refine ZC.cond rfl (fun ht => ?_) (fun hf => ?_)
  · have hm : t.may = false := by simpa using ht
    refine ZC.seq ?_; refine ZC.region ?_; refine ZL.val (r_assign rfl) rfl ?_; refine ZL.nil ?_; refine ZP.then ?_; refine ZC.ret ?_; refine ZP.thenR ?_
    refine ZP.ret1 rfl rfl ⟨M2.ext, ?_⟩
    simp only [TTx.base, hm, Bool.false_eq_true, if_false]
    exact ⟨OwnR.nil _ _ _, fun g hg => by simp [Value.ownBlock] at hg⟩
  · have hm : t.may = true := by simpa using hf
    have hbl := body_len hm
    refine ZC.skip ?_; refine ZP.then ?_; refine ZC.seq ?_
    refine ZC.draw (Holds [(b, .cells #[u32 t.version, iv, ov, u32 t.lock] 30 (0, 0))]) rfl rfl (fun w3 E3 _ => ?_)
    have M3 := M2.ext' E3
    have S3 : Holds [(b, .cells #[u32 t.version, iv, ov, u32 t.lock] 30 (0, 0))] w3 := ⟨M3.get inferInstance, trivial⟩
    refine ZA.take 0 rfl (fun w' hS' => by first | exact r_move rfl | exact r_assign rfl | exact r_fieldAddr rfl | exact r_sliceArr rfl | exact r_addU rfl rfl | exact r_xorU rfl rfl | exact r_orU rfl rfl | exact r_andU rfl rfl | exact r_complU rfl | exact r_convU rfl | exact r_ldS hS' rfl (by rfl) | exact r_nilCheck rfl | exact r_extract rfl rfl | exact r_lenSlice rfl) (by kernel_rfl) (by kernel_rfl) (by kernel_rfl) rfl rfl (fun _ _ _ _ h => h) S3 ?_
    refine ZA.take 1 rfl (fun w' hS' => by first | exact r_move rfl | exact r_assign rfl | exact r_fieldAddr rfl | exact r_sliceArr rfl | exact r_addU rfl rfl | exact r_xorU rfl rfl | exact r_orU rfl rfl | exact r_andU rfl rfl | exact r_complU rfl | exact r_convU rfl | exact r_ldS hS' rfl (by rfl) | exact r_nilCheck rfl | exact r_extract rfl rfl | exact r_lenSlice rfl) (by kernel_rfl) (by kernel_rfl) (by kernel_rfl) rfl rfl (fun _ _ _ _ h => h) S3 ?_
    refine ZA.take 3 rfl (fun w' hS' => r_ldSW hS' rfl rfl) (by kernel_rfl) (by kernel_rfl) (by kernel_rfl) rfl rfl (fun _ _ _ _ h => h) S3 ?_
    refine ZA.take 5 rfl (fun w' hS' => by first | exact r_move rfl | exact r_assign rfl | exact r_fieldAddr rfl | exact r_sliceArr rfl | exact r_addU rfl rfl | exact r_xorU rfl rfl | exact r_orU rfl rfl | exact r_andU rfl rfl | exact r_complU rfl | exact r_convU rfl | exact r_ldS hS' rfl (by rfl) | exact r_nilCheck rfl | exact r_extract rfl rfl | exact r_lenSlice rfl) (by kernel_rfl) (by kernel_rfl) (by kernel_rfl) rfl rfl (fun _ _ _ _ h => h) S3 ?_
    refine ZA.take 6 rfl (fun w' hS' => by first | exact r_move rfl | exact r_assign rfl | exact r_fieldAddr rfl | exact r_sliceArr rfl | exact r_addU rfl rfl | exact r_xorU rfl rfl | exact r_orU rfl rfl | exact r_andU rfl rfl | exact r_complU rfl | exact r_convU rfl | exact r_ldS hS' rfl (by rfl) | exact r_nilCheck rfl | exact r_extract rfl rfl | exact r_lenSlice rfl) (by kernel_rfl) (by kernel_rfl) (by kernel_rfl) rfl rfl (fun _ _ _ _ h => h) S3 ?_
    refine ZA.one 2 (by kernel_rfl) rfl rfl ?_
    refine ZL.call (r_call rfl) rfl (refSmall_ok _ [] t.version.toNat w3 No (nilBytes w3 No) (by simp) t.version.toNat_lt) (fun v4 w4 ⟨E4, O4⟩ => ?_)
    have M4 := M3.addNew E4 O4
    have S4 : Holds [(b, .cells #[u32 t.version, iv, ov, u32 t.lock] 30 (0, 0))] w4 := ⟨M4.get inferInstance, trivial⟩
    refine ZL.nil (ZP.any S4 ?_)
    refine ZA.one 4 (by kernel_rfl) rfl rfl ?_
    refine ZL.call (r_call rfl) rfl (refbody_ok v4 _ _ t w4 Y (O4.own.bytes rfl rfl) (h.mv (Mv.ext M4.ext)) hm (by simp [le_length])) (fun v5 w5 ⟨E5, O5⟩ => ?_)
    have M5 := M4.addNew E5 O5
    have S5 : Holds [(b, .cells #[u32 t.version, iv, ov, u32 t.lock] 30 (0, 0))] w5 := ⟨M5.get inferInstance, trivial⟩
    refine ZL.nil (ZP.any S5 ?_)
    refine ZA.one 7 (by kernel_rfl) rfl rfl ?_
    refine ZL.call (r_call rfl) rfl (refSmall_ok v5 _ t.lock.toNat w5 No (O5.own.bytes rfl rfl) (by simp [le_length]; omega) t.lock.toNat_lt) (fun v6 w6 ⟨E6, O6⟩ => ?_)
    have M6 := M5.addNew E6 O6
    have S6 : Holds [(b, .cells #[u32 t.version, iv, ov, u32 t.lock] 30 (0, 0))] w6 := ⟨M6.get inferInstance, trivial⟩
    refine ZL.nil (ZP.any S6 ?_)
    refine ZA.take 8 rfl (fun w' hS' => by first | exact r_move rfl | exact r_assign rfl | exact r_fieldAddr rfl | exact r_sliceArr rfl | exact r_addU rfl rfl | exact r_xorU rfl rfl | exact r_orU rfl rfl | exact r_andU rfl rfl | exact r_complU rfl | exact r_convU rfl | exact r_ldS hS' rfl (by rfl) | exact r_nilCheck rfl | exact r_extract rfl rfl | exact r_lenSlice rfl) (by kernel_rfl) (by kernel_rfl) (by kernel_rfl) rfl rfl (fun _ _ _ _ h => h) S6 ?_
    refine ZA.done (by kernel_rfl) ?_
    refine ZP.then ?_; refine ZC.ret ?_
    have e : t.base = [] ++ le t.version.toNat 4 ++ t.bodyB ++ le t.lock.toNat 4 := by simp [TTx.base, hm]
    rw [e]
    exact ZP.ret1 rfl rfl (M6.new rfl rfl)
end Go.Proofs.YthcgmdmdgpljmaaDoor.Z
