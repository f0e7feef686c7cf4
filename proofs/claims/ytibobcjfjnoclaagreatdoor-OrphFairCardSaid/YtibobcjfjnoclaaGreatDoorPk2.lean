/- Parts of one proof, laid one behind the other: Base, Base2, Word, Sha, Mix, Sum, Twice, RefSum, Frame, Tail, Forms, Name, FrameC, Gen, Args2. -/
import Derived.Test.YtibobcjfjnoclaaGreatDoorPk1
import Derived.OrdersHeld
import Derived.Test.YtibobcjfjnoclaaGreatDoorRows
import Derived.WalkKit
import Derived.ProofKit
import Derived.OpenShut
import Derived.Deep.DeepHandedRow
import Derived.Lib.LaidTab
import Derived.Laws.IdiomStrings
import Derived.Laws.Strings
import Derived.Laws.StructEq
import Derived.Sort.Grow
import Derived.ChangeSlices
section
/- A transaction's bytes without its witnesses: the program's, and the document's. -/
set_option linter.unusedVariables false
set_option linter.unusedSimpArgs false
set_option linter.unusedSectionVars false
set_option maxRecDepth 100000
set_option maxHeartbeats 4000000
namespace Go.Proofs.YtibobcjfjnoclaaGreatDoor.Z
open Go Go.RowKit

def TIn.enc (x : TIn) : List UInt8 := x.prev.val ++ le x.vout.toNat 4 ++ cnt x.script.length ++ x.script ++ le x.seq.toNat 4
def TOut.enc (o : TOut) : List UInt8 := le o.value.toNat 8 ++ cnt o.script.length ++ o.script
def insB (l : List TIn) : List UInt8 := (l.map TIn.enc).flatten
def outsB (l : List TOut) : List UInt8 := (l.map TOut.enc).flatten
def TTx.bodyB (t : TTx) : List UInt8 := cnt t.ins.length ++ insB t.ins ++ cnt t.outs.length ++ outsB t.outs
def TTx.base (t : TTx) : List UInt8 := if t.may then le t.version.toNat 4 ++ t.bodyB ++ le t.lock.toNat 4 else []

theorem may_in {t : TTx} (h : t.may = true) : ∀ x ∈ t.ins, x.script.length ≤ 500 := by
  intro x hx
  simp only [TTx.may, Bool.and_eq_true, Bool.not_eq_true', List.any_eq_false] at h
  have := h.1.1.1.1.1 x hx
  simp [TIn.bad, longB] at this; omega
theorem may_out {t : TTx} (h : t.may = true) : ∀ x ∈ t.outs, x.script.length ≤ 500 := by
  intro x hx
  simp only [TTx.may, Bool.and_eq_true, Bool.not_eq_true', List.any_eq_false] at h
  have := h.1.1.1.1.2 x hx
  simp [TOut.bad, longB] at this; omega
theorem may_len {t : TTx} (h : t.may = true) : 1 ≤ t.ins.length ∧ t.ins.length ≤ 50 ∧ 1 ≤ t.outs.length ∧ t.outs.length ≤ 50 := by
  simp [TTx.may] at h; omega
theorem enc_in {x : TIn} (h : x.script.length ≤ 500) : x.enc.length ≤ 545 := by
  have := cnt_length x.script.length
  simp [TIn.enc, le_length, x.prev.property]; omega
theorem enc_out {x : TOut} (h : x.script.length ≤ 500) : x.enc.length ≤ 513 := by
  have := cnt_length x.script.length
  simp [TOut.enc, le_length]; omega
theorem insB_len : ∀ (l : List TIn), (∀ x ∈ l, x.script.length ≤ 500) → (insB l).length ≤ 545 * l.length
  | [], _ => by simp [insB]
  | a :: r, h => by
    have h1 := enc_in (h a (by simp))
    have h2 := insB_len r (fun x hx => h x (by simp [hx]))
    simp only [insB, List.map_cons, List.flatten_cons, List.length_append, List.length_cons] at *; omega
theorem outsB_len : ∀ (l : List TOut), (∀ x ∈ l, x.script.length ≤ 500) → (outsB l).length ≤ 513 * l.length
  | [], _ => by simp [outsB]
  | a :: r, h => by
    have h1 := enc_out (h a (by simp))
    have h2 := outsB_len r (fun x hx => h x (by simp [hx]))
    simp only [outsB, List.map_cons, List.flatten_cons, List.length_append, List.length_cons] at *; omega
theorem insB_succ (l : List TIn) (k : Nat) (h : k < l.length) : insB (l.take (k + 1)) = insB (l.take k) ++ l[k].enc := by
  rw [List.take_succ_eq_append_getElem h]; simp only [insB, List.map_append, List.flatten_append, List.map_cons, List.map_nil, List.flatten_cons, List.flatten_nil, List.append_nil]
theorem outsB_succ (l : List TOut) (k : Nat) (h : k < l.length) : outsB (l.take (k + 1)) = outsB (l.take k) ++ l[k].enc := by
  rw [List.take_succ_eq_append_getElem h]; simp only [outsB, List.map_append, List.flatten_append, List.map_cons, List.map_nil, List.flatten_cons, List.flatten_nil, List.append_nil]

/-- The head of a variable that holds an input is a row of bytes. -/
theorem InC.prev {w : World} {b : Nat} {e : TypeId} {fz : Nat × Nat} {i : TIn} {sv wv : Value} (h : w.heap[b]? = some (.cells (InC i sv wv) e fz)) : BytesR w No (.slice (some ⟨b, 0, none⟩) 32 32) i.prev.val := by
  refine ⟨by simp, .inr ⟨b, 0, 32, _, e, fz, by rw [i.prev.property], id, h, by rw [i.prev.property]; omega, by simp [maxLen], fun j u hj => ?_⟩⟩
  have hlt := (List.getElem?_eq_some_iff.1 hj).1
  rw [Nat.zero_add]
  simp only [InC, List.getElem?_toArray]
  rw [List.getElem?_append_left (by simpa [B32.cells] using hlt)]
  exact hj

theorem body_ok (bv v : Value) (l : List UInt8) (t : TTx) (w : World) (X Y : Nat → Prop) (hb : BytesR w X bv l) (h : TxR w Y v t) (hm : t.may = true) (hl : l.length ≤ 10000) :
    Ret P 72 #[bv, v] w (fun r w' => Ext w w' ∧ BytesO w w' r (l ++ t.bodyB)) := by
  obtain ⟨r, rfl, iv, ov, rfl, hi, ho⟩ := h
  obtain ⟨ip, ic, rfl⟩ := hi.shape
  obtain ⟨op, oc, rfl⟩ := ho.shape
  obtain ⟨-, hi1, hi2⟩ := hi.le
  obtain ⟨-, ho1, ho2⟩ := ho.le
  obtain ⟨hn1, hn2, hn3, hn4⟩ := may_len hm
  have hli := may_in hm
  have hlo := may_out hm
  refine Ret.enter2 Tryz.func72 rfl Tryz.ntmps72 rfl ?_
  refine ZC.seq ?_; refine ZC.region ?_
  refine ZL.box (Mem.start w No) rfl rfl rfl (fun b w1 M => ?_)
  refine ZL.val (r_assign rfl) rfl ?_; refine ZL.nil ?_; refine ZP.then ?_; refine ZC.seq ?_; refine ZC.region ?_; refine ZL.val (r_move rfl) rfl ?_; refine ZL.val (r_fieldAddr rfl) rfl ?_
  refine ZL.val (r_ld M rfl (by rfl)) rfl ?_
  refine ZL.val (r_lenSlice rfl) rfl ?_
  refine ZL.call (r_call rfl) rfl (Count_ok bv l t.ins.length w1 _ (hb.ext M.ext) (by omega) (by omega)) (fun v2 w2 ⟨E2, O2⟩ => ?_)
  have M2 := M.addNew E2 O2
  refine ZL.val (r_assign rfl) rfl ?_; refine ZL.nil ?_; refine ZP.then ?_; refine ZC.seq ?_; refine ZC.seq ?_; refine ZC.region ?_; refine ZL.val (r_fieldAddr rfl) rfl ?_
  refine ZL.val (r_ld M2 rfl (by rfl)) rfl ?_
  refine ZL.val (r_lenSlice rfl) rfl ?_; refine ZL.val (r_move rfl) rfl ?_; refine ZL.nil ?_; refine ZP.then ?_; refine ZC.block ?_
  refine ZC.loop (X := Nat × Value) (fun x => [(17, .int .i64 x.1), (16, .int .i64 t.ins.length), (15, .slice ip t.ins.length ic), (0, x.2), (3, .pointer (some ⟨b, 0, none⟩))])
    (fun x w' => Mem w No [.own x.2 5 1 (l ++ cnt t.ins.length ++ insB (t.ins.take x.1)).length ((l ++ cnt t.ins.length ++ insB (t.ins.take x.1)).map u8), .blk b (.cells #[u32 t.version, .slice ip t.ins.length ic, .slice op t.outs.length oc, u32 t.lock] 33)] w' ∧ x.1 ≤ t.ins.length) (fun x => t.ins.length - x.1) (0, v2) ⟨rfl, rfl, rfl, rfl, rfl, trivial⟩ ⟨by simpa [insB] using M2, by omega⟩ ?_
  rintro ⟨k, bk⟩ w3 ⟨M3, hk⟩
  have hc1 := cnt_length t.ins.length
  have hc2 := insB_len (t.ins.take k) (fun x hx => hli x (List.mem_of_mem_take hx))
  rw [List.length_take] at hc2
  simp only at hk M3 ⊢
  refine ZC.seq ?_; refine ZC.region ?_; refine ZL.val (r_lss rfl rfl) rfl ?_; refine ZL.nil ?_; refine ZP.then ?_; refine ZC.seq ?_
  refine ZC.condD rfl (fun hc => ?_) (fun hc => ?_)
  · have hk' : k < t.ins.length := by omega
    obtain ⟨g, o, cs, e, fz, r, rfl, hh, hx, hlen, hE, hcell, hsz, hext⟩ := hi.elem (by decide) hk'
    obtain ⟨sv, wv, rfl, hs, hwit⟩ := hE
    change cs.extract _ _ = InC t.ins[k] sv wv at hext
    refine ZC.skip ?_; refine ZP.then ?_; refine ZC.seq ?_; refine ZC.block ?_; refine ZC.seq ?_; refine ZC.region ?_
    refine ZL.val (r_indexAddrSlice rfl rfl hk') rfl ?_
    refine ZL.val (r_loadN rfl (M3.ext.at hh id) hsz hext) rfl ?_
    refine ZL.alloc M3 rfl rfl (fun bx w4 M4 => ?_)
    refine ZL.stW M4 rfl rfl rfl (by rfl) (InC.size _ _ _) (InC.one hs.one hwit.one) (fun w5 M5 => ?_)
    refine ZL.nil ?_; refine ZP.then ?_; refine ZC.seq ?_
    refine ZC.draw (Holds [(bx, .cells (InC t.ins[k] sv wv) 60 (0, 0))]) rfl rfl (fun w6 E6 _ => ?_)
    have M6 := M5.ext' E6
    have S6 : Holds [(bx, .cells (InC t.ins[k] sv wv) 60 (0, 0))] w6 := ⟨M6.get inferInstance, trivial⟩
    refine ZA.take 0 rfl (fun w' hS' => by first | exact r_move rfl | exact r_assign rfl | exact r_fieldAddr rfl | exact r_sliceArr rfl | exact r_addU rfl rfl | exact r_xorU rfl rfl | exact r_orU rfl rfl | exact r_andU rfl rfl | exact r_complU rfl | exact r_convU rfl | exact r_ldS hS' rfl (by rfl) | exact r_nilCheck rfl | exact r_extract rfl rfl | exact r_lenSlice rfl) (by kernel_rfl) (by kernel_rfl) (by kernel_rfl) rfl rfl (fun _ _ _ _ h => h) S6 ?_
    refine ZA.take 1 rfl (fun w' hS' => by first | exact r_move rfl | exact r_assign rfl | exact r_fieldAddr rfl | exact r_sliceArr rfl | exact r_addU rfl rfl | exact r_xorU rfl rfl | exact r_orU rfl rfl | exact r_andU rfl rfl | exact r_complU rfl | exact r_convU rfl | exact r_ldS hS' rfl (by rfl) | exact r_nilCheck rfl | exact r_extract rfl rfl | exact r_lenSlice rfl) (by kernel_rfl) (by kernel_rfl) (by kernel_rfl) rfl rfl (fun _ _ _ _ h => h) S6 ?_
    refine ZA.take 2 rfl (fun w' hS' => by first | exact r_move rfl | exact r_assign rfl | exact r_fieldAddr rfl | exact r_sliceArr rfl | exact r_addU rfl rfl | exact r_xorU rfl rfl | exact r_orU rfl rfl | exact r_andU rfl rfl | exact r_complU rfl | exact r_convU rfl | exact r_ldS hS' rfl (by rfl) | exact r_nilCheck rfl | exact r_extract rfl rfl | exact r_lenSlice rfl) (by kernel_rfl) (by kernel_rfl) (by kernel_rfl) rfl rfl (fun _ _ _ _ h => h) S6 ?_
    refine ZA.take 4 rfl (fun w' hS' => by first | exact r_move rfl | exact r_assign rfl | exact r_fieldAddr rfl | exact r_sliceArr rfl | exact r_addU rfl rfl | exact r_xorU rfl rfl | exact r_orU rfl rfl | exact r_andU rfl rfl | exact r_complU rfl | exact r_convU rfl | exact r_ldS hS' rfl (by rfl) | exact r_nilCheck rfl | exact r_extract rfl rfl | exact r_lenSlice rfl) (by kernel_rfl) (by kernel_rfl) (by kernel_rfl) rfl rfl (fun _ _ _ _ h => h) S6 ?_
    refine ZA.take 5 rfl (fun w' hS' => r_ldS hS' rfl (InC.n32 _ _ _)) (by kernel_rfl) (by kernel_rfl) (by kernel_rfl) rfl rfl (fun _ _ _ _ h => h) S6 ?_
    refine ZA.one 3 (by kernel_rfl) rfl rfl ?_
    refine ZL.append M6 rfl rfl (InC.prev (M6.get inferInstance)) (u8_one _) (by simp only [maxLen, List.length_append, t.ins[k].prev.property]; omega) (by simp only [List.length_append, t.ins[k].prev.property]; omega) rfl (fun v7 w7 M7 => ?_)
    have S7 : Holds [(bx, .cells (InC t.ins[k] sv wv) 60 (0, 0))] w7 := ⟨M7.get inferInstance, trivial⟩
    refine ZL.nil (ZP.any S7 ?_)
    refine ZA.one 6 (by kernel_rfl) rfl rfl ?_
    refine ZL.call (r_call rfl) rfl (Small_ok v7 (l ++ cnt t.ins.length ++ insB (t.ins.take k) ++ t.ins[k].prev.val) t.ins[k].vout.toNat w7 No ((M7.og inferInstance).bytes (by simp only [List.length_append]) (by simp only [List.map_append])) (by simp only [List.length_append, t.ins[k].prev.property]; omega) t.ins[k].vout.toNat_lt) (fun v8 w8 ⟨E8, O8⟩ => ?_)
    have M8 := M7.addNew E8 O8
    have S8 : Holds [(bx, .cells (InC t.ins[k] sv wv) 60 (0, 0))] w8 := ⟨M8.get inferInstance, trivial⟩
    refine ZL.nil (ZP.any S8 ?_)
    refine ZA.take 7 rfl (fun w' hS' => by first | exact r_move rfl | exact r_assign rfl | exact r_fieldAddr rfl | exact r_sliceArr rfl | exact r_addU rfl rfl | exact r_xorU rfl rfl | exact r_orU rfl rfl | exact r_andU rfl rfl | exact r_complU rfl | exact r_convU rfl | exact r_ldS hS' rfl (by rfl) | exact r_nilCheck rfl | exact r_extract rfl rfl | exact r_lenSlice rfl) (by kernel_rfl) (by kernel_rfl) (by kernel_rfl) rfl rfl (fun _ _ _ _ h => h) S8 ?_
    refine ZA.done (by kernel_rfl) ?_
    refine ZP.then ?_
    refine ZC.draw (Holds [(bx, .cells (InC t.ins[k] sv wv) 60 (0, 0))]) rfl rfl (fun w9 E9 _ => ?_)
    have M9 := M8.ext' E9
    have S9 : Holds [(bx, .cells (InC t.ins[k] sv wv) 60 (0, 0))] w9 := ⟨M9.get inferInstance, trivial⟩
    refine ZA.take 0 rfl (fun w' hS' => by first | exact r_move rfl | exact r_assign rfl | exact r_fieldAddr rfl | exact r_sliceArr rfl | exact r_addU rfl rfl | exact r_xorU rfl rfl | exact r_orU rfl rfl | exact r_andU rfl rfl | exact r_complU rfl | exact r_convU rfl | exact r_ldS hS' rfl (by rfl) | exact r_nilCheck rfl | exact r_extract rfl rfl | exact r_lenSlice rfl) (by kernel_rfl) (by kernel_rfl) (by kernel_rfl) rfl rfl (fun _ _ _ _ h => h) S9 ?_
    refine ZA.take 1 rfl (fun w' hS' => by first | exact r_move rfl | exact r_assign rfl | exact r_fieldAddr rfl | exact r_sliceArr rfl | exact r_addU rfl rfl | exact r_xorU rfl rfl | exact r_orU rfl rfl | exact r_andU rfl rfl | exact r_complU rfl | exact r_convU rfl | exact r_ldS hS' rfl (by rfl) | exact r_nilCheck rfl | exact r_extract rfl rfl | exact r_lenSlice rfl) (by kernel_rfl) (by kernel_rfl) (by kernel_rfl) rfl rfl (fun _ _ _ _ h => h) S9 ?_
    refine ZA.take 2 rfl (fun w' hS' => r_ldS hS' rfl (InC.n33 _ _ _)) (by kernel_rfl) (by kernel_rfl) (by kernel_rfl) rfl rfl (fun _ _ _ _ h => h) S9 ?_
    refine ZA.take 4 rfl (fun w' hS' => by first | exact r_move rfl | exact r_assign rfl | exact r_fieldAddr rfl | exact r_sliceArr rfl | exact r_addU rfl rfl | exact r_xorU rfl rfl | exact r_orU rfl rfl | exact r_andU rfl rfl | exact r_complU rfl | exact r_convU rfl | exact r_ldS hS' rfl (by rfl) | exact r_nilCheck rfl | exact r_extract rfl rfl | exact r_lenSlice rfl) (by kernel_rfl) (by kernel_rfl) (by kernel_rfl) rfl rfl (fun _ _ _ _ h => h) S9 ?_
    refine ZA.take 5 rfl (fun w' hS' => r_ldS hS' rfl (InC.n34 _ _ _)) (by kernel_rfl) (by kernel_rfl) (by kernel_rfl) rfl rfl (fun _ _ _ _ h => h) S9 ?_
    refine ZA.one 3 (by kernel_rfl) rfl rfl ?_
    have hsl := hli _ (List.getElem_mem hk')
    refine ZL.call (r_call rfl) rfl (counted_ok v8 sv (l ++ cnt t.ins.length ++ insB (t.ins.take k) ++ t.ins[k].prev.val ++ le t.ins[k].vout.toNat 4) t.ins[k].script w9 No _ ((M9.og inferInstance).bytes rfl rfl) (hs.mv (Mv.mem (M9.weak Y))) (by simp only [List.length_append, t.ins[k].prev.property, le_length]; omega) (by omega)) (fun v10 w10 ⟨E10, O10⟩ => ?_)
    have M10 := M9.addNew E10 O10
    have S10 : Holds [(bx, .cells (InC t.ins[k] sv wv) 60 (0, 0))] w10 := ⟨M10.get inferInstance, trivial⟩
    refine ZL.nil (ZP.any S10 ?_)
    refine ZA.one 6 (by kernel_rfl) rfl rfl ?_
    have hc3 := cnt_length t.ins[k].script.length
    refine ZL.call (r_call rfl) rfl (Small_ok v10 _ t.ins[k].seq.toNat w10 No (O10.own.bytes rfl rfl) (by simp only [List.length_append, t.ins[k].prev.property, le_length]; omega) t.ins[k].seq.toNat_lt) (fun v11 w11 ⟨E11, O11⟩ => ?_)
    have M11 := M10.addNew E11 O11
    have S11 : Holds [(bx, .cells (InC t.ins[k] sv wv) 60 (0, 0))] w11 := ⟨M11.get inferInstance, trivial⟩
    refine ZL.nil (ZP.any S11 ?_)
    refine ZA.take 7 rfl (fun w' hS' => by first | exact r_move rfl | exact r_assign rfl | exact r_fieldAddr rfl | exact r_sliceArr rfl | exact r_addU rfl rfl | exact r_xorU rfl rfl | exact r_orU rfl rfl | exact r_andU rfl rfl | exact r_complU rfl | exact r_convU rfl | exact r_ldS hS' rfl (by rfl) | exact r_nilCheck rfl | exact r_extract rfl rfl | exact r_lenSlice rfl) (by kernel_rfl) (by kernel_rfl) (by kernel_rfl) rfl rfl (fun _ _ _ _ h => h) S11 ?_
    refine ZA.done (by kernel_rfl) ?_
    refine ZP.blockN ?_; refine ZP.then ?_; refine ZC.region ?_; refine ZL.val (r_add rfl rfl (wrap_i64 (by omega) (by omega))) rfl ?_; refine ZL.val (r_move rfl) rfl ?_; refine ZL.nil ?_
    refine ZP.round (k + 1, v11) ⟨rfl, rfl, rfl, rfl, rfl, trivial⟩ ⟨?_, by omega⟩ (by simp only; omega)
    have M12 := M11.sub [0, 5] rfl
    have e : l ++ cnt t.ins.length ++ insB (t.ins.take (k + 1)) = l ++ cnt t.ins.length ++ insB (t.ins.take k) ++ t.ins[k].prev.val ++ le t.ins[k].vout.toNat 4 ++ cnt t.ins[k].script.length ++ t.ins[k].script ++ le t.ins[k].seq.toNat 4 := by
      rw [insB_succ _ _ hk']; simp [TIn.enc]
    simp only
    rw [e]
    exact M12
  · have hk' : k = t.ins.length := by omega
    subst hk'
    rw [List.take_length] at M3 hc2
    have hc4 := cnt_length t.outs.length
    refine ZC.exit ?_; refine ZP.thenX ?_; refine ZP.thenX ?_; refine ZP.blockE ?_; refine ZP.then ?_; refine ZC.seq ?_; refine ZC.region ?_; refine ZL.val (r_move rfl) rfl ?_; refine ZL.val (r_fieldAddr rfl) rfl ?_
    refine ZL.val (r_ld M3 rfl (by rfl)) rfl ?_
    refine ZL.val (r_lenSlice rfl) rfl ?_
    refine ZL.call (r_call rfl) rfl (Count_ok bk (l ++ cnt t.ins.length ++ insB t.ins) t.outs.length w3 No ((M3.og inferInstance).bytes rfl rfl) (by simp only [List.length_append]; omega) (by omega)) (fun v4 w4 ⟨E4, O4⟩ => ?_)
    have M4 := M3.addNew E4 O4
    refine ZL.val (r_assign rfl) rfl ?_; refine ZL.nil ?_; refine ZP.then ?_; refine ZC.seq ?_; refine ZC.seq ?_; refine ZC.region ?_; refine ZL.val (r_fieldAddr rfl) rfl ?_
    refine ZL.val (r_ld M4 rfl (by rfl)) rfl ?_
    refine ZL.val (r_lenSlice rfl) rfl ?_; refine ZL.val (r_move rfl) rfl ?_; refine ZL.nil ?_; refine ZP.then ?_; refine ZC.block ?_
    have M5 := M4.sub [0, 2] rfl
    refine ZC.loop (X := Nat × Value) (fun x => [(44, .int .i64 x.1), (43, .int .i64 t.outs.length), (42, .slice op t.outs.length oc), (0, x.2), (3, .pointer (some ⟨b, 0, none⟩))])
      (fun x w' => Mem w No [.own x.2 5 1 (l ++ cnt t.ins.length ++ insB t.ins ++ cnt t.outs.length ++ outsB (t.outs.take x.1)).length ((l ++ cnt t.ins.length ++ insB t.ins ++ cnt t.outs.length ++ outsB (t.outs.take x.1)).map u8), .blk b (.cells #[u32 t.version, .slice ip t.ins.length ic, .slice op t.outs.length oc, u32 t.lock] 33)] w' ∧ x.1 ≤ t.outs.length) (fun x => t.outs.length - x.1) (0, v4) ⟨rfl, rfl, rfl, rfl, rfl, trivial⟩ ⟨by simpa [outsB] using M5, by omega⟩ ?_
    rintro ⟨k, bk⟩ w6 ⟨M6, hk⟩
    have hc5 := outsB_len (t.outs.take k) (fun x hx => hlo x (List.mem_of_mem_take hx))
    rw [List.length_take] at hc5
    simp only at hk M6 ⊢
    refine ZC.seq ?_; refine ZC.region ?_; refine ZL.val (r_lss rfl rfl) rfl ?_; refine ZL.nil ?_; refine ZP.then ?_; refine ZC.seq ?_
    refine ZC.condD rfl (fun hd => ?_) (fun hd => ?_)
    · have hk' : k < t.outs.length := by omega
      obtain ⟨g, o, cs, e, fz, r, rfl, hh, hx, hlen, hE, hcell, hsz, hext⟩ := ho.elem (by decide) hk'
      obtain ⟨sv, rfl, hs⟩ := hE
      refine ZC.skip ?_; refine ZP.then ?_; refine ZC.seq ?_; refine ZC.block ?_; refine ZC.seq ?_; refine ZC.region ?_
      refine ZL.val (r_indexAddrSlice rfl rfl hk') rfl ?_
      refine ZL.val (r_loadN rfl (M6.ext.at hh id) hsz hext) rfl ?_
      refine ZL.alloc M6 rfl rfl (fun bx w7 M7 => ?_)
      refine ZL.stW M7 rfl rfl rfl (by rfl) (by rfl) (by simp only [List.all_cons, List.all_nil, hs.one]; rfl) (fun w8 M8 => ?_)
      refine ZL.nil ?_; refine ZP.then ?_
      refine ZC.draw (Holds [(bx, .cells #[u64 t.outs[k].value, sv] 64 (0, 0))]) rfl rfl (fun w9 E9 _ => ?_)
      have M9 := M8.ext' E9
      have S9 : Holds [(bx, .cells #[u64 t.outs[k].value, sv] 64 (0, 0))] w9 := ⟨M9.get inferInstance, trivial⟩
      refine ZA.take 0 rfl (fun w' hS' => by first | exact r_move rfl | exact r_assign rfl | exact r_fieldAddr rfl | exact r_sliceArr rfl | exact r_addU rfl rfl | exact r_xorU rfl rfl | exact r_orU rfl rfl | exact r_andU rfl rfl | exact r_complU rfl | exact r_convU rfl | exact r_ldS hS' rfl (by rfl) | exact r_nilCheck rfl | exact r_extract rfl rfl | exact r_lenSlice rfl) (by kernel_rfl) (by kernel_rfl) (by kernel_rfl) rfl rfl (fun _ _ _ _ h => h) S9 ?_
      refine ZA.take 1 rfl (fun w' hS' => by first | exact r_move rfl | exact r_assign rfl | exact r_fieldAddr rfl | exact r_sliceArr rfl | exact r_addU rfl rfl | exact r_xorU rfl rfl | exact r_orU rfl rfl | exact r_andU rfl rfl | exact r_complU rfl | exact r_convU rfl | exact r_ldS hS' rfl (by rfl) | exact r_nilCheck rfl | exact r_extract rfl rfl | exact r_lenSlice rfl) (by kernel_rfl) (by kernel_rfl) (by kernel_rfl) rfl rfl (fun _ _ _ _ h => h) S9 ?_
      refine ZA.take 2 rfl (fun w' hS' => by first | exact r_move rfl | exact r_assign rfl | exact r_fieldAddr rfl | exact r_sliceArr rfl | exact r_addU rfl rfl | exact r_xorU rfl rfl | exact r_orU rfl rfl | exact r_andU rfl rfl | exact r_complU rfl | exact r_convU rfl | exact r_ldS hS' rfl (by rfl) | exact r_nilCheck rfl | exact r_extract rfl rfl | exact r_lenSlice rfl) (by kernel_rfl) (by kernel_rfl) (by kernel_rfl) rfl rfl (fun _ _ _ _ h => h) S9 ?_
      refine ZA.take 4 rfl (fun w' hS' => by first | exact r_move rfl | exact r_assign rfl | exact r_fieldAddr rfl | exact r_sliceArr rfl | exact r_addU rfl rfl | exact r_xorU rfl rfl | exact r_orU rfl rfl | exact r_andU rfl rfl | exact r_complU rfl | exact r_convU rfl | exact r_ldS hS' rfl (by rfl) | exact r_nilCheck rfl | exact r_extract rfl rfl | exact r_lenSlice rfl) (by kernel_rfl) (by kernel_rfl) (by kernel_rfl) rfl rfl (fun _ _ _ _ h => h) S9 ?_
      refine ZA.take 5 rfl (fun w' hS' => by first | exact r_move rfl | exact r_assign rfl | exact r_fieldAddr rfl | exact r_sliceArr rfl | exact r_addU rfl rfl | exact r_xorU rfl rfl | exact r_orU rfl rfl | exact r_andU rfl rfl | exact r_complU rfl | exact r_convU rfl | exact r_ldS hS' rfl (by rfl) | exact r_nilCheck rfl | exact r_extract rfl rfl | exact r_lenSlice rfl) (by kernel_rfl) (by kernel_rfl) (by kernel_rfl) rfl rfl (fun _ _ _ _ h => h) S9 ?_
      refine ZA.one 3 (by kernel_rfl) rfl rfl ?_
      have hsl := hlo _ (List.getElem_mem hk')
      refine ZL.call (r_call rfl) rfl (Big_ok bk (l ++ cnt t.ins.length ++ insB t.ins ++ cnt t.outs.length ++ outsB (t.outs.take k)) t.outs[k].value.toNat w9 No ((M9.og inferInstance).bytes rfl rfl) (by simp only [List.length_append]; omega) t.outs[k].value.toNat_lt) (fun v10 w10 ⟨E10, O10⟩ => ?_)
      have M10 := M9.addNew E10 O10
      have S10 : Holds [(bx, .cells #[u64 t.outs[k].value, sv] 64 (0, 0))] w10 := ⟨M10.get inferInstance, trivial⟩
      refine ZL.nil (ZP.any S10 ?_)
      refine ZA.one 6 (by kernel_rfl) rfl rfl ?_
      refine ZL.call (r_call rfl) rfl (counted_ok v10 sv _ t.outs[k].script w10 No _ (O10.own.bytes rfl rfl) (hs.mv (Mv.mem (M10.weak Y))) (by simp only [List.length_append, le_length]; omega) (by omega)) (fun v11 w11 ⟨E11, O11⟩ => ?_)
      have M11 := M10.addNew E11 O11
      have S11 : Holds [(bx, .cells #[u64 t.outs[k].value, sv] 64 (0, 0))] w11 := ⟨M11.get inferInstance, trivial⟩
      refine ZL.nil (ZP.any S11 ?_)
      refine ZA.take 7 rfl (fun w' hS' => by first | exact r_move rfl | exact r_assign rfl | exact r_fieldAddr rfl | exact r_sliceArr rfl | exact r_addU rfl rfl | exact r_xorU rfl rfl | exact r_orU rfl rfl | exact r_andU rfl rfl | exact r_complU rfl | exact r_convU rfl | exact r_ldS hS' rfl (by rfl) | exact r_nilCheck rfl | exact r_extract rfl rfl | exact r_lenSlice rfl) (by kernel_rfl) (by kernel_rfl) (by kernel_rfl) rfl rfl (fun _ _ _ _ h => h) S11 ?_
      refine ZA.done (by kernel_rfl) ?_
      refine ZP.blockN ?_; refine ZP.then ?_; refine ZC.region ?_; refine ZL.val (r_add rfl rfl (wrap_i64 (by omega) (by omega))) rfl ?_; refine ZL.val (r_move rfl) rfl ?_; refine ZL.nil ?_
      refine ZP.round (k + 1, v11) ⟨rfl, rfl, rfl, rfl, rfl, trivial⟩ ⟨?_, by omega⟩ (by simp only; omega)
      have M12 := M11.sub [0, 4] rfl
      have e : l ++ cnt t.ins.length ++ insB t.ins ++ cnt t.outs.length ++ outsB (t.outs.take (k + 1)) = l ++ cnt t.ins.length ++ insB t.ins ++ cnt t.outs.length ++ outsB (t.outs.take k) ++ le t.outs[k].value.toNat 8 ++ cnt t.outs[k].script.length ++ t.outs[k].script := by
        rw [outsB_succ _ _ hk']; simp [TOut.enc]
      simp only
      rw [e]
      exact M12
    · have hk' : k = t.outs.length := by omega
      subst hk'
      rw [List.take_length] at M6
      refine ZC.exit ?_; refine ZP.thenX ?_; refine ZP.thenX ?_; refine ZP.blockE ?_; refine ZP.then ?_; refine ZC.seq ?_; refine ZC.region ?_; refine ZL.val (r_move rfl) rfl ?_; refine ZL.val (r_assign rfl) rfl ?_; refine ZL.nil ?_; refine ZP.then ?_; refine ZC.ret ?_
      exact ZP.ret1 rfl rfl (M6.new (by simp [TTx.bodyB]) (by simp [TTx.bodyB]))

theorem nilBytes (w : World) (X : Nat → Prop) : BytesR w X (.slice none 0 0) [] := ⟨rfl, .inl ⟨rfl, rfl⟩⟩
theorem body_len {t : TTx} (hm : t.may = true) : t.bodyB.length ≤ 60000 := by
  obtain ⟨hn1, hn2, hn3, hn4⟩ := may_len hm
  have h1 := insB_len t.ins (may_in hm)
  have h2 := outsB_len t.outs (may_out hm)
  have h3 := cnt_length t.ins.length
  have h4 := cnt_length t.outs.length
  simp only [TTx.bodyB, List.length_append]; omega

theorem TxR.v {w : World} {X : Nat → Prop} {v : Value} {t : TTx} (h : TxR w X v t) : ∃ iv ov, v = .agg #[u32 t.version, iv, ov, u32 t.lock] ∧ iv.oneCell' = true ∧ ov.oneCell' = true := by
  obtain ⟨r, rfl, iv, ov, rfl, hi, ho⟩ := h; exact ⟨iv, ov, rfl, hi.one, ho.one⟩

theorem Base_ok (v : Value) (t : TTx) (w : World) (Y : Nat → Prop) (h : TxR w Y v t) :
    Ret P 47 #[v] w (fun r w' => Ext w w' ∧ BytesO w w' r t.base) := by
  obtain ⟨iv, ov, rfl, -, -⟩ := h.v
  refine Ret.enter1 Tryz.func47 rfl Tryz.ntmps47 rfl ?_
  refine ZC.seq ?_; refine ZC.region ?_
  refine ZL.box (Mem.start w No) rfl rfl rfl (fun b w1 M => ?_)
  refine ZL.val (r_assign rfl) rfl ?_; refine ZL.nil ?_; refine ZP.then ?_; refine ZC.seq ?_; refine ZC.seq ?_; refine ZC.region ?_
  refine ZL.val (r_ldW M rfl rfl) rfl ?_
  refine ZL.call (r_call rfl) rfl (may_ok _ t w1 _ (h.mv (Mv.ext M.ext))) (fun v2 w2 ⟨E2, hv2⟩ => ?_)
  subst hv2
  have M2 := M.ext' E2
  refine ZL.val (r_not rfl) rfl ?_; refine ZL.nil ?_; refine ZP.then ?_
  refine ZC.cond rfl (fun ht => ?_) (fun hf => ?_)
  · have hm : t.may = false := by simpa using ht
    refine ZC.seq ?_; refine ZC.region ?_; refine ZL.val (r_assign rfl) rfl ?_; refine ZL.nil ?_; refine ZP.then ?_; refine ZC.ret ?_; refine ZP.thenR ?_
    refine ZP.ret1 rfl rfl ⟨M2.ext, ?_⟩
    simp only [TTx.base, hm, Bool.false_eq_true, if_false]
    exact ⟨OwnR.nil _ _ _, fun g hg => by simp [Value.ownBlock] at hg⟩
  · have hm : t.may = true := by simpa using hf
    have hbl := body_len hm
    refine ZC.skip ?_; refine ZP.then ?_; refine ZC.seq ?_
    refine ZC.draw (Holds [(b, .cells #[u32 t.version, iv, ov, u32 t.lock] 33 (0, 0))]) rfl rfl (fun w3 E3 _ => ?_)
    have M3 := M2.ext' E3
    have S3 : Holds [(b, .cells #[u32 t.version, iv, ov, u32 t.lock] 33 (0, 0))] w3 := ⟨M3.get inferInstance, trivial⟩
    refine ZA.take 0 rfl (fun w' hS' => by first | exact r_move rfl | exact r_assign rfl | exact r_fieldAddr rfl | exact r_sliceArr rfl | exact r_addU rfl rfl | exact r_xorU rfl rfl | exact r_orU rfl rfl | exact r_andU rfl rfl | exact r_complU rfl | exact r_convU rfl | exact r_ldS hS' rfl (by rfl) | exact r_nilCheck rfl | exact r_extract rfl rfl | exact r_lenSlice rfl) (by kernel_rfl) (by kernel_rfl) (by kernel_rfl) rfl rfl (fun _ _ _ _ h => h) S3 ?_
    refine ZA.take 1 rfl (fun w' hS' => by first | exact r_move rfl | exact r_assign rfl | exact r_fieldAddr rfl | exact r_sliceArr rfl | exact r_addU rfl rfl | exact r_xorU rfl rfl | exact r_orU rfl rfl | exact r_andU rfl rfl | exact r_complU rfl | exact r_convU rfl | exact r_ldS hS' rfl (by rfl) | exact r_nilCheck rfl | exact r_extract rfl rfl | exact r_lenSlice rfl) (by kernel_rfl) (by kernel_rfl) (by kernel_rfl) rfl rfl (fun _ _ _ _ h => h) S3 ?_
    refine ZA.take 3 rfl (fun w' hS' => r_ldSW hS' rfl rfl) (by kernel_rfl) (by kernel_rfl) (by kernel_rfl) rfl rfl (fun _ _ _ _ h => h) S3 ?_
    refine ZA.take 5 rfl (fun w' hS' => by first | exact r_move rfl | exact r_assign rfl | exact r_fieldAddr rfl | exact r_sliceArr rfl | exact r_addU rfl rfl | exact r_xorU rfl rfl | exact r_orU rfl rfl | exact r_andU rfl rfl | exact r_complU rfl | exact r_convU rfl | exact r_ldS hS' rfl (by rfl) | exact r_nilCheck rfl | exact r_extract rfl rfl | exact r_lenSlice rfl) (by kernel_rfl) (by kernel_rfl) (by kernel_rfl) rfl rfl (fun _ _ _ _ h => h) S3 ?_
    refine ZA.take 6 rfl (fun w' hS' => by first | exact r_move rfl | exact r_assign rfl | exact r_fieldAddr rfl | exact r_sliceArr rfl | exact r_addU rfl rfl | exact r_xorU rfl rfl | exact r_orU rfl rfl | exact r_andU rfl rfl | exact r_complU rfl | exact r_convU rfl | exact r_ldS hS' rfl (by rfl) | exact r_nilCheck rfl | exact r_extract rfl rfl | exact r_lenSlice rfl) (by kernel_rfl) (by kernel_rfl) (by kernel_rfl) rfl rfl (fun _ _ _ _ h => h) S3 ?_
    refine ZA.one 2 (by kernel_rfl) rfl rfl ?_
    refine ZL.call (r_call rfl) rfl (Small_ok _ [] t.version.toNat w3 No (nilBytes w3 No) (by simp) t.version.toNat_lt) (fun v4 w4 ⟨E4, O4⟩ => ?_)
    have M4 := M3.addNew E4 O4
    have S4 : Holds [(b, .cells #[u32 t.version, iv, ov, u32 t.lock] 33 (0, 0))] w4 := ⟨M4.get inferInstance, trivial⟩
    refine ZL.nil (ZP.any S4 ?_)
    refine ZA.one 4 (by kernel_rfl) rfl rfl ?_
    refine ZL.call (r_call rfl) rfl (body_ok v4 _ _ t w4 No Y (O4.own.bytes rfl rfl) (h.mv (Mv.ext M4.ext)) hm (by simp [le_length])) (fun v5 w5 ⟨E5, O5⟩ => ?_)
    have M5 := M4.addNew E5 O5
    have S5 : Holds [(b, .cells #[u32 t.version, iv, ov, u32 t.lock] 33 (0, 0))] w5 := ⟨M5.get inferInstance, trivial⟩
    refine ZL.nil (ZP.any S5 ?_)
    refine ZA.one 7 (by kernel_rfl) rfl rfl ?_
    refine ZL.call (r_call rfl) rfl (Small_ok v5 _ t.lock.toNat w5 No (O5.own.bytes rfl rfl) (by simp [le_length]; omega) t.lock.toNat_lt) (fun v6 w6 ⟨E6, O6⟩ => ?_)
    have M6 := M5.addNew E6 O6
    have S6 : Holds [(b, .cells #[u32 t.version, iv, ov, u32 t.lock] 33 (0, 0))] w6 := ⟨M6.get inferInstance, trivial⟩
    refine ZL.nil (ZP.any S6 ?_)
    refine ZA.take 8 rfl (fun w' hS' => by first | exact r_move rfl | exact r_assign rfl | exact r_fieldAddr rfl | exact r_sliceArr rfl | exact r_addU rfl rfl | exact r_xorU rfl rfl | exact r_orU rfl rfl | exact r_andU rfl rfl | exact r_complU rfl | exact r_convU rfl | exact r_ldS hS' rfl (by rfl) | exact r_nilCheck rfl | exact r_extract rfl rfl | exact r_lenSlice rfl) (by kernel_rfl) (by kernel_rfl) (by kernel_rfl) rfl rfl (fun _ _ _ _ h => h) S6 ?_
    refine ZA.done (by kernel_rfl) ?_
    refine ZP.then ?_; refine ZC.ret ?_
    have e : t.base = [] ++ le t.version.toNat 4 ++ t.bodyB ++ le t.lock.toNat 4 := by simp [TTx.base, hm]
    rw [e]
    exact ZP.ret1 rfl rfl (M6.new rfl rfl)
end Go.Proofs.YtibobcjfjnoclaaGreatDoor.Z
end
section
/- A transaction's bytes without its witnesses: the document's. -/
set_option linter.unusedVariables false
set_option linter.unusedSimpArgs false
set_option linter.unusedSectionVars false
set_option maxRecDepth 100000
set_option maxHeartbeats 4000000
namespace Go.Proofs.YtibobcjfjnoclaaGreatDoor.Z
open Go Go.RowKit

theorem refbody_ok (bv v : Value) (l : List UInt8) (t : TTx) (w : World) (Y : Nat → Prop) (hb : BytesR w No bv l) (h : TxR w Y v t) (hm : t.may = true) (hl : l.length ≤ 10000) :
    Ret P 43 #[bv, v] w (fun r w' => Ext w w' ∧ BytesO w w' r (l ++ t.bodyB)) := by
  obtain ⟨r, rfl, iv, ov, rfl, hi, ho⟩ := h
  obtain ⟨ip, ic, rfl⟩ := hi.shape
  obtain ⟨op, oc, rfl⟩ := ho.shape
  obtain ⟨-, hi1, hi2⟩ := hi.le
  obtain ⟨-, ho1, ho2⟩ := ho.le
  obtain ⟨hn1, hn2, hn3, hn4⟩ := may_len hm
  have hli := may_in hm
  have hlo := may_out hm
  refine Ret.enter2 Tryz.func43 rfl Tryz.ntmps43 rfl ?_
  refine ZC.seq ?_; refine ZC.region ?_
  refine ZL.box (Mem.start w No) rfl rfl rfl (fun b w1 M => ?_)
  refine ZL.val (r_assign rfl) rfl ?_; refine ZL.nil ?_; refine ZP.then ?_; refine ZC.seq ?_; refine ZC.region ?_; refine ZL.val (r_move rfl) rfl ?_; refine ZL.val (r_fieldAddr rfl) rfl ?_
  refine ZL.val (r_ld M rfl (by rfl)) rfl ?_
  refine ZL.val (r_lenSlice rfl) rfl ?_
  refine ZL.call (r_call rfl) rfl (refCount_ok bv l t.ins.length w1 _ (SlC.ext hb M.ext) (by omega) (by omega)) (fun v2 w2 ⟨E2, O2⟩ => ?_)
  have M2 := M.addNew E2 O2
  refine ZL.val (r_assign rfl) rfl ?_; refine ZL.nil ?_; refine ZP.then ?_; refine ZC.seq ?_; refine ZC.seq ?_; refine ZC.region ?_; refine ZL.val (r_assign rfl) rfl ?_; refine ZL.nil ?_; refine ZP.then ?_; refine ZC.block ?_
  refine ZC.loop (X := Nat × Value) (fun x => [(5, .int .i64 x.1), (0, x.2), (3, .pointer (some ⟨b, 0, none⟩))])
    (fun x w' => Mem w No [.own x.2 5 1 (l ++ cnt t.ins.length ++ insB (t.ins.take x.1)).length ((l ++ cnt t.ins.length ++ insB (t.ins.take x.1)).map u8), .blk b (.cells #[u32 t.version, .slice ip t.ins.length ic, .slice op t.outs.length oc, u32 t.lock] 33)] w' ∧ x.1 ≤ t.ins.length) (fun x => t.ins.length - x.1) (0, v2) ⟨rfl, rfl, rfl, trivial⟩ ⟨by simpa [insB] using M2, by omega⟩ ?_
  rintro ⟨k, bk⟩ w3 ⟨M3, hk⟩
  have hc1 := cnt_length t.ins.length
  have hc2 := insB_len (t.ins.take k) (fun x hx => hli x (List.mem_of_mem_take hx))
  rw [List.length_take] at hc2
  simp only at hk M3 ⊢
  refine ZC.seq ?_; refine ZC.seq ?_; refine ZC.region ?_; refine ZL.val (r_move rfl) rfl ?_; refine ZL.val (r_fieldAddr rfl) rfl ?_
  refine ZL.val (r_ld M3 rfl (by rfl)) rfl ?_
  refine ZL.val (r_lenSlice rfl) rfl ?_; refine ZL.val (r_lss rfl rfl) rfl ?_; refine ZL.nil ?_; refine ZP.then ?_
  refine ZC.condD rfl (fun hc => ?_) (fun hc => ?_)
  · have hk' : k < t.ins.length := by omega
    have hsl := hli _ (List.getElem_mem hk')
    have hc3 := cnt_length t.ins[k].script.length
    obtain ⟨g, o, cs, e, fz, r, rfl, hh, hx, hlen, hE, hcell, hsz, hext⟩ := hi.elem (by decide) hk'
    obtain ⟨sv, wv, rfl, hs, hwit⟩ := hE
    change cs.extract _ _ = InC t.ins[k] sv wv at hext
    refine ZC.skip ?_; refine ZP.then ?_; refine ZC.seq ?_; refine ZC.block ?_; refine ZC.seq ?_; refine ZC.region ?_; refine ZL.val (r_fieldAddr rfl) rfl ?_
    refine ZL.val (r_ld M3 rfl (by rfl)) rfl ?_
    refine ZL.val (r_move rfl) rfl ?_
    refine ZL.val (r_indexAddrSlice rfl rfl hk') rfl ?_
    refine ZL.val (r_loadN rfl (M3.ext.at hh id) hsz hext) rfl ?_
    refine ZL.alloc M3 rfl rfl (fun bx w4 M4 => ?_)
    refine ZL.stW M4 rfl rfl rfl (by rfl) (InC.size _ _ _) (InC.one hs.one hwit.one) (fun w5 M5 => ?_)
    refine ZL.nil ?_; refine ZP.then ?_
    refine ZC.draw (Holds [(bx, .cells (InC t.ins[k] sv wv) 60 (0, 0))]) rfl rfl (fun w6 E6 _ => ?_)
    have M6 := M5.ext' E6
    have S6 : Holds [(bx, .cells (InC t.ins[k] sv wv) 60 (0, 0))] w6 := ⟨M6.get inferInstance, trivial⟩
    refine ZA.take 0 rfl (fun w' hS' => by first | exact r_move rfl | exact r_assign rfl | exact r_fieldAddr rfl | exact r_sliceArr rfl | exact r_addU rfl rfl | exact r_xorU rfl rfl | exact r_orU rfl rfl | exact r_andU rfl rfl | exact r_complU rfl | exact r_convU rfl | exact r_ldS hS' rfl (by rfl) | exact r_nilCheck rfl | exact r_extract rfl rfl | exact r_lenSlice rfl) (by kernel_rfl) (by kernel_rfl) (by kernel_rfl) rfl rfl (fun _ _ _ _ h => h) S6 ?_
    refine ZA.take 1 rfl (fun w' hS' => by first | exact r_move rfl | exact r_assign rfl | exact r_fieldAddr rfl | exact r_sliceArr rfl | exact r_addU rfl rfl | exact r_xorU rfl rfl | exact r_orU rfl rfl | exact r_andU rfl rfl | exact r_complU rfl | exact r_convU rfl | exact r_ldS hS' rfl (by rfl) | exact r_nilCheck rfl | exact r_extract rfl rfl | exact r_lenSlice rfl) (by kernel_rfl) (by kernel_rfl) (by kernel_rfl) rfl rfl (fun _ _ _ _ h => h) S6 ?_
    refine ZA.take 2 rfl (fun w' hS' => by first | exact r_move rfl | exact r_assign rfl | exact r_fieldAddr rfl | exact r_sliceArr rfl | exact r_addU rfl rfl | exact r_xorU rfl rfl | exact r_orU rfl rfl | exact r_andU rfl rfl | exact r_complU rfl | exact r_convU rfl | exact r_ldS hS' rfl (by rfl) | exact r_nilCheck rfl | exact r_extract rfl rfl | exact r_lenSlice rfl) (by kernel_rfl) (by kernel_rfl) (by kernel_rfl) rfl rfl (fun _ _ _ _ h => h) S6 ?_
    refine ZA.take 4 rfl (fun w' hS' => by first | exact r_move rfl | exact r_assign rfl | exact r_fieldAddr rfl | exact r_sliceArr rfl | exact r_addU rfl rfl | exact r_xorU rfl rfl | exact r_orU rfl rfl | exact r_andU rfl rfl | exact r_complU rfl | exact r_convU rfl | exact r_ldS hS' rfl (by rfl) | exact r_nilCheck rfl | exact r_extract rfl rfl | exact r_lenSlice rfl) (by kernel_rfl) (by kernel_rfl) (by kernel_rfl) rfl rfl (fun _ _ _ _ h => h) S6 ?_
    refine ZA.take 5 rfl (fun w' hS' => r_ldS hS' rfl (InC.n32 _ _ _)) (by kernel_rfl) (by kernel_rfl) (by kernel_rfl) rfl rfl (fun _ _ _ _ h => h) S6 ?_
    refine ZA.take 7 rfl (fun w' hS' => by first | exact r_move rfl | exact r_assign rfl | exact r_fieldAddr rfl | exact r_sliceArr rfl | exact r_addU rfl rfl | exact r_xorU rfl rfl | exact r_orU rfl rfl | exact r_andU rfl rfl | exact r_complU rfl | exact r_convU rfl | exact r_ldS hS' rfl (by rfl) | exact r_nilCheck rfl | exact r_extract rfl rfl | exact r_lenSlice rfl) (by kernel_rfl) (by kernel_rfl) (by kernel_rfl) rfl rfl (fun _ _ _ _ h => h) S6 ?_
    refine ZA.take 8 rfl (fun w' hS' => r_ldS hS' rfl (InC.n33 _ _ _)) (by kernel_rfl) (by kernel_rfl) (by kernel_rfl) rfl rfl (fun _ _ _ _ h => h) S6 ?_
    refine ZA.take 10 rfl (fun w' hS' => by first | exact r_move rfl | exact r_assign rfl | exact r_fieldAddr rfl | exact r_sliceArr rfl | exact r_addU rfl rfl | exact r_xorU rfl rfl | exact r_orU rfl rfl | exact r_andU rfl rfl | exact r_complU rfl | exact r_convU rfl | exact r_ldS hS' rfl (by rfl) | exact r_nilCheck rfl | exact r_extract rfl rfl | exact r_lenSlice rfl) (by kernel_rfl) (by kernel_rfl) (by kernel_rfl) rfl rfl (fun _ _ _ _ h => h) S6 ?_
    refine ZA.take 11 rfl (fun w' hS' => r_ldS hS' rfl (InC.n34 _ _ _)) (by kernel_rfl) (by kernel_rfl) (by kernel_rfl) rfl rfl (fun _ _ _ _ h => h) S6 ?_
    refine ZA.one 3 (by kernel_rfl) rfl rfl ?_
    refine ZL.append M6 rfl rfl (InC.prev (M6.get inferInstance)) (u8_one _) (by simp only [maxLen, List.length_append, t.ins[k].prev.property]; omega) (by simp only [List.length_append, t.ins[k].prev.property]; omega) rfl (fun v7 w7 M7 => ?_)
    have S7 : Holds [(bx, .cells (InC t.ins[k] sv wv) 60 (0, 0))] w7 := ⟨M7.get inferInstance, trivial⟩
    refine ZL.nil (ZP.any S7 ?_)
    refine ZA.one 6 (by kernel_rfl) rfl rfl ?_
    refine ZL.call (r_call rfl) rfl (refSmall_ok v7 (l ++ cnt t.ins.length ++ insB (t.ins.take k) ++ t.ins[k].prev.val) t.ins[k].vout.toNat w7 No ((M7.og inferInstance).bytes (by simp only [List.length_append]) (by simp only [List.map_append])) (by simp only [List.length_append, t.ins[k].prev.property]; omega) t.ins[k].vout.toNat_lt) (fun v8 w8 ⟨E8, O8⟩ => ?_)
    have M8 := M7.addNew E8 O8
    have S8 : Holds [(bx, .cells (InC t.ins[k] sv wv) 60 (0, 0))] w8 := ⟨M8.get inferInstance, trivial⟩
    refine ZL.nil (ZP.any S8 ?_)
    refine ZA.one 9 (by kernel_rfl) rfl rfl ?_
    refine ZL.call (r_call rfl) rfl (refbytes_ok v8 sv (l ++ cnt t.ins.length ++ insB (t.ins.take k) ++ t.ins[k].prev.val ++ le t.ins[k].vout.toNat 4) t.ins[k].script w8 No _ (O8.own.bytes rfl rfl) (hs.mv (Mv.mem (M8.weak Y))) (by simp only [List.length_append, t.ins[k].prev.property, le_length]; omega) (by omega)) (fun v10 w10 ⟨E10, O10⟩ => ?_)
    have M10 := M8.addNew E10 O10
    have S10 : Holds [(bx, .cells (InC t.ins[k] sv wv) 60 (0, 0))] w10 := ⟨M10.get inferInstance, trivial⟩
    refine ZL.nil (ZP.any S10 ?_)
    refine ZA.one 12 (by kernel_rfl) rfl rfl ?_
    refine ZL.call (r_call rfl) rfl (refSmall_ok v10 _ t.ins[k].seq.toNat w10 No (O10.own.bytes rfl rfl) (by simp only [List.length_append, t.ins[k].prev.property, le_length]; omega) t.ins[k].seq.toNat_lt) (fun v11 w11 ⟨E11, O11⟩ => ?_)
    have M11 := M10.addNew E11 O11
    have S11 : Holds [(bx, .cells (InC t.ins[k] sv wv) 60 (0, 0))] w11 := ⟨M11.get inferInstance, trivial⟩
    refine ZL.nil (ZP.any S11 ?_)
    refine ZA.take 13 rfl (fun w' hS' => by first | exact r_move rfl | exact r_assign rfl | exact r_fieldAddr rfl | exact r_sliceArr rfl | exact r_addU rfl rfl | exact r_xorU rfl rfl | exact r_orU rfl rfl | exact r_andU rfl rfl | exact r_complU rfl | exact r_convU rfl | exact r_ldS hS' rfl (by rfl) | exact r_nilCheck rfl | exact r_extract rfl rfl | exact r_lenSlice rfl) (by kernel_rfl) (by kernel_rfl) (by kernel_rfl) rfl rfl (fun _ _ _ _ h => h) S11 ?_
    refine ZA.done (by kernel_rfl) ?_
    refine ZP.blockN ?_; refine ZP.then ?_; refine ZC.region ?_; refine ZL.val (r_move rfl) rfl ?_; refine ZL.val (r_add rfl rfl (wrap_i64 (by omega) (by omega))) rfl ?_; refine ZL.val (r_assign rfl) rfl ?_; refine ZL.nil ?_
    refine ZP.round (k + 1, v11) ⟨rfl, rfl, rfl, trivial⟩ ⟨?_, by omega⟩ (by simp only; omega)
    have M12 := M11.sub [0, 5] rfl
    have e : l ++ cnt t.ins.length ++ insB (t.ins.take (k + 1)) = l ++ cnt t.ins.length ++ insB (t.ins.take k) ++ t.ins[k].prev.val ++ le t.ins[k].vout.toNat 4 ++ cnt t.ins[k].script.length ++ t.ins[k].script ++ le t.ins[k].seq.toNat 4 := by
      rw [insB_succ _ _ hk']; simp [TIn.enc]
    simp only
    rw [e]
    exact M12
  · have hk' : k = t.ins.length := by omega
    subst hk'
    rw [List.take_length] at M3 hc2
    have hc4 := cnt_length t.outs.length
    refine ZC.exit ?_; refine ZP.thenX ?_; refine ZP.thenX ?_; refine ZP.blockE ?_; refine ZP.then ?_; refine ZC.seq ?_; refine ZC.region ?_; refine ZL.val (r_move rfl) rfl ?_; refine ZL.val (r_fieldAddr rfl) rfl ?_
    refine ZL.val (r_ld M3 rfl (by rfl)) rfl ?_
    refine ZL.val (r_lenSlice rfl) rfl ?_
    refine ZL.call (r_call rfl) rfl (refCount_ok bk (l ++ cnt t.ins.length ++ insB t.ins) t.outs.length w3 No ((M3.og inferInstance).bytes rfl rfl) (by simp only [List.length_append]; omega) (by omega)) (fun v4 w4 ⟨E4, O4⟩ => ?_)
    have M4 := M3.addNew E4 O4
    refine ZL.val (r_assign rfl) rfl ?_; refine ZL.nil ?_; refine ZP.then ?_; refine ZC.seq ?_; refine ZC.seq ?_; refine ZC.region ?_; refine ZL.val (r_assign rfl) rfl ?_; refine ZL.nil ?_; refine ZP.then ?_; refine ZC.block ?_
    have M5 := M4.sub [0, 2] rfl
    refine ZC.loop (X := Nat × Value) (fun x => [(7, .int .i64 x.1), (0, x.2), (3, .pointer (some ⟨b, 0, none⟩))])
      (fun x w' => Mem w No [.own x.2 5 1 (l ++ cnt t.ins.length ++ insB t.ins ++ cnt t.outs.length ++ outsB (t.outs.take x.1)).length ((l ++ cnt t.ins.length ++ insB t.ins ++ cnt t.outs.length ++ outsB (t.outs.take x.1)).map u8), .blk b (.cells #[u32 t.version, .slice ip t.ins.length ic, .slice op t.outs.length oc, u32 t.lock] 33)] w' ∧ x.1 ≤ t.outs.length) (fun x => t.outs.length - x.1) (0, v4) ⟨rfl, rfl, rfl, trivial⟩ ⟨by simpa [outsB] using M5, by omega⟩ ?_
    rintro ⟨k, bk⟩ w6 ⟨M6, hk⟩
    have hc5 := outsB_len (t.outs.take k) (fun x hx => hlo x (List.mem_of_mem_take hx))
    rw [List.length_take] at hc5
    simp only at hk M6 ⊢
    refine ZC.seq ?_; refine ZC.seq ?_; refine ZC.region ?_; refine ZL.val (r_move rfl) rfl ?_; refine ZL.val (r_fieldAddr rfl) rfl ?_
    refine ZL.val (r_ld M6 rfl (by rfl)) rfl ?_
    refine ZL.val (r_lenSlice rfl) rfl ?_; refine ZL.val (r_lss rfl rfl) rfl ?_; refine ZL.nil ?_; refine ZP.then ?_
    refine ZC.condD rfl (fun hd => ?_) (fun hd => ?_)
    · have hk' : k < t.outs.length := by omega
      obtain ⟨g, o, cs, e, fz, r, rfl, hh, hx, hlen, hE, hcell, hsz, hext⟩ := ho.elem (by decide) hk'
      obtain ⟨sv, rfl, hs⟩ := hE
      have hsl := hlo _ (List.getElem_mem hk')
      have c0 : nth cs (o + k * 2 + 0) = some (u64 t.outs[k].value) := by rw [nth_eq]; exact hcell 0 _ rfl
      have c1 : nth cs (o + k * 2 + 1) = some sv := by rw [nth_eq]; exact hcell 1 _ rfl
      refine ZC.skip ?_; refine ZP.then ?_; refine ZC.seq ?_; refine ZC.block ?_
      refine ZC.draw (Holds [(b, .cells #[u32 t.version, .slice ip t.ins.length ic, .slice (some ⟨g, o, none⟩) t.outs.length oc, u32 t.lock] 33 (0, 0)), (g, .cells cs e fz)]) rfl rfl (fun w9 E9 _ => ?_)
      have M9 := M6.ext' E9
      have S9 : Holds [(b, .cells #[u32 t.version, .slice ip t.ins.length ic, .slice (some ⟨g, o, none⟩) t.outs.length oc, u32 t.lock] 33 (0, 0)), (g, .cells cs e fz)] w9 := ⟨M9.get inferInstance, M9.ext.at hh id, trivial⟩
      refine ZA.take 0 rfl (fun w' hS' => by first | exact r_move rfl | exact r_assign rfl | exact r_fieldAddr rfl | exact r_sliceArr rfl | exact r_addU rfl rfl | exact r_xorU rfl rfl | exact r_orU rfl rfl | exact r_andU rfl rfl | exact r_complU rfl | exact r_convU rfl | exact r_ldS hS' rfl (by rfl) | exact r_nilCheck rfl | exact r_extract rfl rfl | exact r_lenSlice rfl) (by kernel_rfl) (by kernel_rfl) (by kernel_rfl) rfl rfl (fun _ _ _ _ h => h) S9 ?_
      refine ZA.take 1 rfl (fun w' hS' => by first | exact r_move rfl | exact r_assign rfl | exact r_fieldAddr rfl | exact r_sliceArr rfl | exact r_addU rfl rfl | exact r_xorU rfl rfl | exact r_orU rfl rfl | exact r_andU rfl rfl | exact r_complU rfl | exact r_convU rfl | exact r_ldS hS' rfl (by rfl) | exact r_nilCheck rfl | exact r_extract rfl rfl | exact r_lenSlice rfl) (by kernel_rfl) (by kernel_rfl) (by kernel_rfl) rfl rfl (fun _ _ _ _ h => h) S9 ?_
      refine ZA.take 2 rfl (fun w' hS' => by first | exact r_move rfl | exact r_assign rfl | exact r_fieldAddr rfl | exact r_sliceArr rfl | exact r_addU rfl rfl | exact r_xorU rfl rfl | exact r_orU rfl rfl | exact r_andU rfl rfl | exact r_complU rfl | exact r_convU rfl | exact r_ldS hS' rfl (by rfl) | exact r_nilCheck rfl | exact r_extract rfl rfl | exact r_lenSlice rfl) (by kernel_rfl) (by kernel_rfl) (by kernel_rfl) rfl rfl (fun _ _ _ _ h => h) S9 ?_
      refine ZA.take 3 rfl (fun w' hS' => by first | exact r_move rfl | exact r_assign rfl | exact r_fieldAddr rfl | exact r_sliceArr rfl | exact r_addU rfl rfl | exact r_xorU rfl rfl | exact r_orU rfl rfl | exact r_andU rfl rfl | exact r_complU rfl | exact r_convU rfl | exact r_ldS hS' rfl (by rfl) | exact r_nilCheck rfl | exact r_extract rfl rfl | exact r_lenSlice rfl) (by kernel_rfl) (by kernel_rfl) (by kernel_rfl) rfl rfl (fun _ _ _ _ h => h) S9 ?_
      refine ZA.take 4 rfl (fun w' hS' => r_indexAddrSlice rfl rfl hk') (by kernel_rfl) (by kernel_rfl) (by kernel_rfl) rfl rfl (fun _ _ _ _ h => h) S9 ?_
      refine ZA.take 5 rfl (fun w' hS' => by first | exact r_move rfl | exact r_assign rfl | exact r_fieldAddr rfl | exact r_sliceArr rfl | exact r_addU rfl rfl | exact r_xorU rfl rfl | exact r_orU rfl rfl | exact r_andU rfl rfl | exact r_complU rfl | exact r_convU rfl | exact r_ldS hS' rfl (by rfl) | exact r_nilCheck rfl | exact r_extract rfl rfl | exact r_lenSlice rfl) (by kernel_rfl) (by kernel_rfl) (by kernel_rfl) rfl rfl (fun _ _ _ _ h => h) S9 ?_
      refine ZA.take 6 rfl (fun w' hS' => r_ldS hS' rfl c0) (by kernel_rfl) (by kernel_rfl) (by kernel_rfl) rfl rfl (fun _ _ _ _ h => h) S9 ?_
      refine ZA.take 8 rfl (fun w' hS' => by first | exact r_move rfl | exact r_assign rfl | exact r_fieldAddr rfl | exact r_sliceArr rfl | exact r_addU rfl rfl | exact r_xorU rfl rfl | exact r_orU rfl rfl | exact r_andU rfl rfl | exact r_complU rfl | exact r_convU rfl | exact r_ldS hS' rfl (by rfl) | exact r_nilCheck rfl | exact r_extract rfl rfl | exact r_lenSlice rfl) (by kernel_rfl) (by kernel_rfl) (by kernel_rfl) rfl rfl (fun _ _ _ _ h => h) S9 ?_
      refine ZA.take 9 rfl (fun w' hS' => by first | exact r_move rfl | exact r_assign rfl | exact r_fieldAddr rfl | exact r_sliceArr rfl | exact r_addU rfl rfl | exact r_xorU rfl rfl | exact r_orU rfl rfl | exact r_andU rfl rfl | exact r_complU rfl | exact r_convU rfl | exact r_ldS hS' rfl (by rfl) | exact r_nilCheck rfl | exact r_extract rfl rfl | exact r_lenSlice rfl) (by kernel_rfl) (by kernel_rfl) (by kernel_rfl) rfl rfl (fun _ _ _ _ h => h) S9 ?_
      refine ZA.take 10 rfl (fun w' hS' => by first | exact r_move rfl | exact r_assign rfl | exact r_fieldAddr rfl | exact r_sliceArr rfl | exact r_addU rfl rfl | exact r_xorU rfl rfl | exact r_orU rfl rfl | exact r_andU rfl rfl | exact r_complU rfl | exact r_convU rfl | exact r_ldS hS' rfl (by rfl) | exact r_nilCheck rfl | exact r_extract rfl rfl | exact r_lenSlice rfl) (by kernel_rfl) (by kernel_rfl) (by kernel_rfl) rfl rfl (fun _ _ _ _ h => h) S9 ?_
      refine ZA.take 11 rfl (fun w' hS' => r_indexAddrSlice rfl rfl hk') (by kernel_rfl) (by kernel_rfl) (by kernel_rfl) rfl rfl (fun _ _ _ _ h => h) S9 ?_
      refine ZA.take 12 rfl (fun w' hS' => by first | exact r_move rfl | exact r_assign rfl | exact r_fieldAddr rfl | exact r_sliceArr rfl | exact r_addU rfl rfl | exact r_xorU rfl rfl | exact r_orU rfl rfl | exact r_andU rfl rfl | exact r_complU rfl | exact r_convU rfl | exact r_ldS hS' rfl (by rfl) | exact r_nilCheck rfl | exact r_extract rfl rfl | exact r_lenSlice rfl) (by kernel_rfl) (by kernel_rfl) (by kernel_rfl) rfl rfl (fun _ _ _ _ h => h) S9 ?_
      refine ZA.take 13 rfl (fun w' hS' => r_ldS hS' rfl c1) (by kernel_rfl) (by kernel_rfl) (by kernel_rfl) rfl rfl (fun _ _ _ _ h => h) S9 ?_
      refine ZA.one 7 (by kernel_rfl) rfl rfl ?_
      refine ZL.call (r_call rfl) rfl (refBig_ok bk (l ++ cnt t.ins.length ++ insB t.ins ++ cnt t.outs.length ++ outsB (t.outs.take k)) t.outs[k].value.toNat w9 No ((M9.og inferInstance).bytes rfl rfl) (by simp only [List.length_append]; omega) t.outs[k].value.toNat_lt) (fun v10 w10 ⟨E10, O10⟩ => ?_)
      have M10 := M9.addNew E10 O10
      have S10 : Holds [(b, .cells #[u32 t.version, .slice ip t.ins.length ic, .slice (some ⟨g, o, none⟩) t.outs.length oc, u32 t.lock] 33 (0, 0)), (g, .cells cs e fz)] w10 := ⟨M10.get inferInstance, M10.ext.at hh id, trivial⟩
      refine ZL.nil (ZP.any S10 ?_)
      refine ZA.one 14 (by kernel_rfl) rfl rfl ?_
      refine ZL.call (r_call rfl) rfl (refbytes_ok v10 sv _ t.outs[k].script w10 No _ (O10.own.bytes rfl rfl) (hs.mv (Mv.mem (M10.weak Y))) (by simp only [List.length_append, le_length]; omega) (by omega)) (fun v11 w11 ⟨E11, O11⟩ => ?_)
      have M11 := M10.addNew E11 O11
      have S11 : Holds [(b, .cells #[u32 t.version, .slice ip t.ins.length ic, .slice (some ⟨g, o, none⟩) t.outs.length oc, u32 t.lock] 33 (0, 0)), (g, .cells cs e fz)] w11 := ⟨M11.get inferInstance, M11.ext.at hh id, trivial⟩
      refine ZL.nil (ZP.any S11 ?_)
      refine ZA.take 15 rfl (fun w' hS' => by first | exact r_move rfl | exact r_assign rfl | exact r_fieldAddr rfl | exact r_sliceArr rfl | exact r_addU rfl rfl | exact r_xorU rfl rfl | exact r_orU rfl rfl | exact r_andU rfl rfl | exact r_complU rfl | exact r_convU rfl | exact r_ldS hS' rfl (by rfl) | exact r_nilCheck rfl | exact r_extract rfl rfl | exact r_lenSlice rfl) (by kernel_rfl) (by kernel_rfl) (by kernel_rfl) rfl rfl (fun _ _ _ _ h => h) S11 ?_
      refine ZA.done (by kernel_rfl) ?_
      refine ZP.blockN ?_; refine ZP.then ?_; refine ZC.region ?_; refine ZL.val (r_move rfl) rfl ?_; refine ZL.val (r_add rfl rfl (wrap_i64 (by omega) (by omega))) rfl ?_; refine ZL.val (r_assign rfl) rfl ?_; refine ZL.nil ?_
      refine ZP.round (k + 1, v11) ⟨rfl, rfl, rfl, trivial⟩ ⟨?_, by omega⟩ (by simp only; omega)
      have M12 := M11.sub [0, 3] rfl
      have e : l ++ cnt t.ins.length ++ insB t.ins ++ cnt t.outs.length ++ outsB (t.outs.take (k + 1)) = l ++ cnt t.ins.length ++ insB t.ins ++ cnt t.outs.length ++ outsB (t.outs.take k) ++ le t.outs[k].value.toNat 8 ++ cnt t.outs[k].script.length ++ t.outs[k].script := by
        rw [outsB_succ _ _ hk']; simp [TOut.enc]
      simp only
      rw [e]
      exact M12
    · have hk' : k = t.outs.length := by omega
      subst hk'
      rw [List.take_length] at M6
      refine ZC.exit ?_; refine ZP.thenX ?_; refine ZP.thenX ?_; refine ZP.blockE ?_; refine ZP.then ?_; refine ZC.seq ?_; refine ZC.region ?_; refine ZL.val (r_move rfl) rfl ?_; refine ZL.val (r_assign rfl) rfl ?_; refine ZL.nil ?_; refine ZP.then ?_; refine ZC.ret ?_
      exact ZP.ret1 rfl rfl (M6.new (by simp [TTx.bodyB]) (by simp [TTx.bodyB]))

theorem refBase_ok (v : Value) (t : TTx) (w : World) (Y : Nat → Prop) (h : TxR w Y v t) :
    Ret P 34 #[v] w (fun r w' => Ext w w' ∧ BytesO w w' r t.base) := by
  obtain ⟨iv, ov, rfl, -, -⟩ := h.v
  refine Ret.enter1 Tryz.func34 rfl Tryz.ntmps34 rfl ?_
  refine ZC.seq ?_; refine ZC.region ?_
  refine ZL.box (Mem.start w No) rfl rfl rfl (fun b w1 M => ?_)
  refine ZL.val (r_assign rfl) rfl ?_; refine ZL.nil ?_; refine ZP.then ?_; refine ZC.seq ?_; refine ZC.seq ?_; refine ZC.region ?_
  refine ZL.val (r_ldW M rfl rfl) rfl ?_
  refine ZL.call (r_call rfl) rfl (refmay_ok _ t w1 _ (h.mv (Mv.ext M.ext))) (fun v2 w2 ⟨E2, hv2⟩ => ?_)
  subst hv2
  have M2 := M.ext' E2
  refine ZL.val (r_not rfl) rfl ?_; refine ZL.nil ?_; refine ZP.then ?_
  refine ZC.cond rfl (fun ht => ?_) (fun hf => ?_)
  · have hm : t.may = false := by simpa using ht
    refine ZC.seq ?_; refine ZC.region ?_; refine ZL.val (r_assign rfl) rfl ?_; refine ZL.nil ?_; refine ZP.then ?_; refine ZC.ret ?_; refine ZP.thenR ?_
    refine ZP.ret1 rfl rfl ⟨M2.ext, ?_⟩
    simp only [TTx.base, hm, Bool.false_eq_true, if_false]
    exact ⟨OwnR.nil _ _ _, fun g hg => by simp [Value.ownBlock] at hg⟩
  · have hm : t.may = true := by simpa using hf
    have hbl := body_len hm
    refine ZC.skip ?_; refine ZP.then ?_; refine ZC.seq ?_
    refine ZC.draw (Holds [(b, .cells #[u32 t.version, iv, ov, u32 t.lock] 33 (0, 0))]) rfl rfl (fun w3 E3 _ => ?_)
    have M3 := M2.ext' E3
    have S3 : Holds [(b, .cells #[u32 t.version, iv, ov, u32 t.lock] 33 (0, 0))] w3 := ⟨M3.get inferInstance, trivial⟩
    refine ZA.take 0 rfl (fun w' hS' => by first | exact r_move rfl | exact r_assign rfl | exact r_fieldAddr rfl | exact r_sliceArr rfl | exact r_addU rfl rfl | exact r_xorU rfl rfl | exact r_orU rfl rfl | exact r_andU rfl rfl | exact r_complU rfl | exact r_convU rfl | exact r_ldS hS' rfl (by rfl) | exact r_nilCheck rfl | exact r_extract rfl rfl | exact r_lenSlice rfl) (by kernel_rfl) (by kernel_rfl) (by kernel_rfl) rfl rfl (fun _ _ _ _ h => h) S3 ?_
    refine ZA.take 1 rfl (fun w' hS' => by first | exact r_move rfl | exact r_assign rfl | exact r_fieldAddr rfl | exact r_sliceArr rfl | exact r_addU rfl rfl | exact r_xorU rfl rfl | exact r_orU rfl rfl | exact r_andU rfl rfl | exact r_complU rfl | exact r_convU rfl | exact r_ldS hS' rfl (by rfl) | exact r_nilCheck rfl | exact r_extract rfl rfl | exact r_lenSlice rfl) (by kernel_rfl) (by kernel_rfl) (by kernel_rfl) rfl rfl (fun _ _ _ _ h => h) S3 ?_
    refine ZA.take 3 rfl (fun w' hS' => r_ldSW hS' rfl rfl) (by kernel_rfl) (by kernel_rfl) (by kernel_rfl) rfl rfl (fun _ _ _ _ h => h) S3 ?_
    refine ZA.take 5 rfl (fun w' hS' => by first | exact r_move rfl | exact r_assign rfl | exact r_fieldAddr rfl | exact r_sliceArr rfl | exact r_addU rfl rfl | exact r_xorU rfl rfl | exact r_orU rfl rfl | exact r_andU rfl rfl | exact r_complU rfl | exact r_convU rfl | exact r_ldS hS' rfl (by rfl) | exact r_nilCheck rfl | exact r_extract rfl rfl | exact r_lenSlice rfl) (by kernel_rfl) (by kernel_rfl) (by kernel_rfl) rfl rfl (fun _ _ _ _ h => h) S3 ?_
    refine ZA.take 6 rfl (fun w' hS' => by first | exact r_move rfl | exact r_assign rfl | exact r_fieldAddr rfl | exact r_sliceArr rfl | exact r_addU rfl rfl | exact r_xorU rfl rfl | exact r_orU rfl rfl | exact r_andU rfl rfl | exact r_complU rfl | exact r_convU rfl | exact r_ldS hS' rfl (by rfl) | exact r_nilCheck rfl | exact r_extract rfl rfl | exact r_lenSlice rfl) (by kernel_rfl) (by kernel_rfl) (by kernel_rfl) rfl rfl (fun _ _ _ _ h => h) S3 ?_
    refine ZA.one 2 (by kernel_rfl) rfl rfl ?_
    refine ZL.call (r_call rfl) rfl (refSmall_ok _ [] t.version.toNat w3 No (nilBytes w3 No) (by simp) t.version.toNat_lt) (fun v4 w4 ⟨E4, O4⟩ => ?_)
    have M4 := M3.addNew E4 O4
    have S4 : Holds [(b, .cells #[u32 t.version, iv, ov, u32 t.lock] 33 (0, 0))] w4 := ⟨M4.get inferInstance, trivial⟩
    refine ZL.nil (ZP.any S4 ?_)
    refine ZA.one 4 (by kernel_rfl) rfl rfl ?_
    refine ZL.call (r_call rfl) rfl (refbody_ok v4 _ _ t w4 Y (O4.own.bytes rfl rfl) (h.mv (Mv.ext M4.ext)) hm (by simp [le_length])) (fun v5 w5 ⟨E5, O5⟩ => ?_)
    have M5 := M4.addNew E5 O5
    have S5 : Holds [(b, .cells #[u32 t.version, iv, ov, u32 t.lock] 33 (0, 0))] w5 := ⟨M5.get inferInstance, trivial⟩
    refine ZL.nil (ZP.any S5 ?_)
    refine ZA.one 7 (by kernel_rfl) rfl rfl ?_
    refine ZL.call (r_call rfl) rfl (refSmall_ok v5 _ t.lock.toNat w5 No (O5.own.bytes rfl rfl) (by simp [le_length]; omega) t.lock.toNat_lt) (fun v6 w6 ⟨E6, O6⟩ => ?_)
    have M6 := M5.addNew E6 O6
    have S6 : Holds [(b, .cells #[u32 t.version, iv, ov, u32 t.lock] 33 (0, 0))] w6 := ⟨M6.get inferInstance, trivial⟩
    refine ZL.nil (ZP.any S6 ?_)
    refine ZA.take 8 rfl (fun w' hS' => by first | exact r_move rfl | exact r_assign rfl | exact r_fieldAddr rfl | exact r_sliceArr rfl | exact r_addU rfl rfl | exact r_xorU rfl rfl | exact r_orU rfl rfl | exact r_andU rfl rfl | exact r_complU rfl | exact r_convU rfl | exact r_ldS hS' rfl (by rfl) | exact r_nilCheck rfl | exact r_extract rfl rfl | exact r_lenSlice rfl) (by kernel_rfl) (by kernel_rfl) (by kernel_rfl) rfl rfl (fun _ _ _ _ h => h) S6 ?_
    refine ZA.done (by kernel_rfl) ?_
    refine ZP.then ?_; refine ZC.ret ?_
    have e : t.base = [] ++ le t.version.toNat 4 ++ t.bodyB ++ le t.lock.toNat 4 := by simp [TTx.base, hm]
    rw [e]
    exact ZP.ret1 rfl rfl (M6.new rfl rfl)
end Go.Proofs.YtibobcjfjnoclaaGreatDoor.Z
end
section
/- Words of 32 bits: the operations on them, and the turn. -/
set_option linter.unusedVariables false
set_option linter.unusedSimpArgs false
set_option linter.unusedSectionVars false
set_option maxRecDepth 100000
set_option maxHeartbeats 4000000
namespace Go.Proofs.YtibobcjfjnoclaaGreatDoor.Z
open Go Go.RowKit

section
theorem bv_u32 (a : UInt32) : BitVec.ofInt IntKind.u32.bits (a.toNat : Int) = a.toBitVec := by
  apply BitVec.eq_of_toNat_eq
  simp [IntKind.bits, BitVec.toNat_ofInt]
theorem wrap_u32_lt (a : UInt32) : IntKind.u32.wrap (a.toNat : Int) = (a.toNat : Int) := wrap_u32 (by omega) (by have := a.toNat_lt; omega)
theorem iand_u32 (a b : UInt32) : iand .u32 a.toNat b.toNat = ((a &&& b).toNat : Int) := by
  unfold iand; rw [bv_u32, bv_u32]; exact wrap_u32_lt (a &&& b)
theorem ior_u32 (a b : UInt32) : ior .u32 a.toNat b.toNat = ((a ||| b).toNat : Int) := by
  unfold ior; rw [bv_u32, bv_u32]; exact wrap_u32_lt (a ||| b)
theorem ixor_u32 (a b : UInt32) : ixor .u32 a.toNat b.toNat = ((a ^^^ b).toNat : Int) := by
  unfold ixor; rw [bv_u32, bv_u32]; exact wrap_u32_lt (a ^^^ b)
theorem icompl_u32 (a : UInt32) : ixor .u32 (if IntKind.u32.signed then -1 else IntKind.u32.max) a.toNat = ((~~~a).toNat : Int) := by
  have : (if IntKind.u32.signed then -1 else IntKind.u32.max : Int) = ((4294967295 : UInt32).toNat : Int) := by decide
  rw [this, ixor_u32]
  congr 2
theorem add_u32 (a b : UInt32) : IntKind.u32.wrap ((a.toNat : Int) + b.toNat) = ((a + b).toNat : Int) := by
  rw [UInt32.toNat_add, ← Int.natCast_add, wrap_u32_nat]
theorem shl_u32 (a : UInt32) (s : Nat) (hs : s < 32) : IntKind.u32.wrap ((a.toNat : Int) * 2 ^ (min ((s : Int).toNat) IntKind.u32.bits)) = ((a <<< UInt32.ofNat s).toNat : Int) := by
  have h1 : min ((s : Int).toNat) IntKind.u32.bits = s := by simp [IntKind.bits]; omega
  rw [h1, UInt32.toNat_shiftLeft]
  have h2 : (UInt32.ofNat s).toNat % 32 = s := by simp; omega
  rw [h2, Nat.shiftLeft_eq]
  have h3 : ((a.toNat : Int) * 2 ^ s) = ((a.toNat * 2 ^ s : Nat) : Int) := by simp
  rw [h3, wrap_u32_nat]
theorem shr_u32 (a : UInt32) (s : Nat) (hs : s < 32) : ((a.toNat : Int) / 2 ^ (min ((s : Int).toNat) IntKind.u32.bits)) = ((a >>> UInt32.ofNat s).toNat : Int) := by
  rw [shr_nat _ _ _ (by simp [IntKind.bits]; omega), UInt32.toNat_shiftRight]
  have h2 : (UInt32.ofNat s).toNat % 32 = s := by simp; omega
  rw [h2, Nat.shiftRight_eq_div_pow]
theorem conv_u8_u32 (a : UInt8) : IntKind.u32.wrap (a.toNat : Int) = (a.toUInt32.toNat : Int) := by
  rw [wrap_u32 (by omega) (by have := a.toNat_lt; omega)]; simp
theorem conv_u32_u8 (a : UInt32) : IntKind.u8.wrap (a.toNat : Int) = (a.toUInt8.toNat : Int) := by
  rw [wrap_u8_nat]; simp

variable {P : Program} {σ : Env} {w : World} {t t' : TypeId} {x y : Operand} {a b : UInt32} {k : IntKind}
theorem r_addU (hx : ev σ x = some (u32 a)) (hy : ev σ y = some (u32 b)) : V P σ (.binOp .add t x y t') (u32 (a + b)) w := r_add hx hy (add_u32 a b)
theorem r_andU (hx : ev σ x = some (u32 a)) (hy : ev σ y = some (u32 b)) : V P σ (.binOp .and t x y t') (u32 (a &&& b)) w := r_and hx hy (iand_u32 a b)
theorem r_orU (hx : ev σ x = some (u32 a)) (hy : ev σ y = some (u32 b)) : V P σ (.binOp .or t x y t') (u32 (a ||| b)) w := r_or hx hy (ior_u32 a b)
theorem r_xorU (hx : ev σ x = some (u32 a)) (hy : ev σ y = some (u32 b)) : V P σ (.binOp .xor t x y t') (u32 (a ^^^ b)) w := r_xor hx hy (ixor_u32 a b)
theorem r_complU (hx : ev σ x = some (u32 a)) : V P σ (.unOp .xor t x) (u32 (~~~a)) w := r_compl hx (icompl_u32 a)
theorem r_shlU (s : Nat) (hx : ev σ x = some (u32 a)) (hy : ev σ y = some (.int k (s : Int))) (hs : s < 32) : V P σ (.binOp .shl t x y t') (u32 (a <<< UInt32.ofNat s)) w := r_shl hx hy (by omega) (shl_u32 a s hs)
theorem r_shrU (s : Nat) (hx : ev σ x = some (u32 a)) (hy : ev σ y = some (.int k (s : Int))) (hs : s < 32) : V P σ (.binOp .shr t x y t') (u32 (a >>> UInt32.ofNat s)) w := r_shr hx hy (by omega) (shr_u32 a s hs)
theorem r_convU {s d : TypeId} {ds : TypeDesc} {c : UInt8} [TU P s ds] [TU P d (.int .u32)] (hx : ev σ x = some (u8 c)) : V P σ (.convert s d x) (u32 c.toUInt32) w := r_convInt hx (conv_u8_u32 c)
theorem r_convB {s d : TypeId} {ds : TypeDesc} [TU P s ds] [TU P d (.int .u8)] (hx : ev σ x = some (u32 a)) : V P σ (.convert s d x) (u8 a.toUInt8) w := r_convInt hx (conv_u32_u8 a)
end

/-- A word turned right. -/
def rotr (x : UInt32) (n : Nat) : UInt32 := (x <<< UInt32.ofNat (32 - n)) ||| (x >>> UInt32.ofNat n)

theorem iand_31 (n : Nat) (h1 : 1 ≤ n) (h2 : n ≤ 31) : iand .u64 (IntKind.u64.wrap (-(n : Int))) 31 = ((32 - n : Nat) : Int) := by
  have : ∀ m : Nat, m < 31 → iand .u64 (IntKind.u64.wrap (-((m + 1 : Nat) : Int))) 31 = ((32 - (m + 1) : Nat) : Int) := by decide
  have := this (n - 1) (by omega)
  rwa [show n - 1 + 1 = n by omega] at this

theorem rotl_ok (x : UInt32) (n : Nat) (w : World) (h1 : 1 ≤ n) (h2 : n ≤ 31) :
    Ret P 121 #[u32 x, .int .i64 (-(n : Int))] w (fun r w' => w = w' ∧ r = u32 (rotr x n)) := by
  refine Ret.enter2 Tryz.func121 rfl Tryz.ntmps121 rfl ?_
  refine ZC.seq ?_; refine ZC.region ?_; refine ZL.val (r_assign rfl) rfl ?_; refine ZL.nil ?_; refine ZP.then ?_; refine ZC.seq ?_; refine ZC.region ?_; refine ZL.val (r_move rfl) rfl ?_
  refine ZL.val (r_convInt rfl rfl) rfl ?_
  refine ZL.val (r_and rfl rfl (iand_31 n h1 h2)) rfl ?_
  refine ZL.val (r_assign rfl) rfl ?_; refine ZL.nil ?_; refine ZP.then ?_; refine ZC.seq ?_; refine ZC.region ?_; refine ZL.val (r_move rfl) rfl ?_; refine ZL.val (r_move rfl) rfl ?_
  refine ZL.val (r_shlU (32 - n) rfl rfl (by omega)) rfl ?_
  refine ZL.val (r_move rfl) rfl ?_; refine ZL.val (r_move rfl) rfl ?_
  refine ZL.val (r_sub rfl rfl (r := (n : Int)) (by rw [wrap_u64 (by omega) (by omega)]; omega)) rfl ?_
  refine ZL.val (r_shrU n rfl rfl (by omega)) rfl ?_
  refine ZL.val (r_orU rfl rfl) rfl ?_
  refine ZL.val (r_assign rfl) rfl ?_; refine ZL.nil ?_; refine ZP.then ?_; refine ZC.ret ?_
  exact ZP.ret1 rfl rfl ⟨rfl, rfl⟩

theorem turned_ok (x : UInt32) (n : Nat) (w : World) (h1 : 1 ≤ n) (h2 : n ≤ 31) :
    Ret P 116 #[u32 x, .int .i64 n] w (fun r w' => w = w' ∧ r = u32 (rotr x n)) := by
  refine Ret.enter2 Tryz.func116 rfl Tryz.ntmps116 rfl ?_
  refine ZC.seq ?_; refine ZC.region ?_; refine ZL.val (r_assign rfl) rfl ?_; refine ZL.nil ?_; refine ZP.then ?_; refine ZC.seq ?_; refine ZC.region ?_; refine ZL.val (r_move rfl) rfl ?_; refine ZL.val (r_move rfl) rfl ?_
  refine ZL.val (r_neg rfl (r := -(n : Int)) (by rw [wrap_i64 (by omega) (by omega)]; omega)) rfl ?_
  refine ZL.call (r_call rfl) rfl (rotl_ok x n w h1 h2) (fun v1 w1 hv => ?_)
  obtain ⟨rfl, rfl⟩ := hv
  refine ZL.val (r_assign rfl) rfl ?_; refine ZL.nil ?_; refine ZP.then ?_; refine ZC.ret ?_
  exact ZP.ret1 rfl rfl ⟨rfl, rfl⟩

theorem refturned_ok (x : UInt32) (n : Nat) (w : World) (h1 : 1 ≤ n) (h2 : n ≤ 31) :
    Ret P 68 #[u32 x, .int .u64 n] w (fun r w' => w = w' ∧ r = u32 (rotr x n)) := by
  refine Ret.enter2 Tryz.func68 rfl Tryz.ntmps68 rfl ?_
  refine ZC.seq ?_; refine ZC.region ?_; refine ZL.val (r_assign rfl) rfl ?_; refine ZL.nil ?_; refine ZP.then ?_; refine ZC.seq ?_; refine ZC.region ?_; refine ZL.val (r_move rfl) rfl ?_; refine ZL.val (r_move rfl) rfl ?_
  refine ZL.val (r_shrU n rfl rfl (by omega)) rfl ?_
  refine ZL.val (r_move rfl) rfl ?_; refine ZL.val (r_move rfl) rfl ?_
  refine ZL.val (r_sub rfl rfl (r := ((32 - n : Nat) : Int)) (by rw [wrap_u64 (by omega) (by omega)]; omega)) rfl ?_
  refine ZL.val (r_shlU (32 - n) rfl rfl (by omega)) rfl ?_
  refine ZL.val (r_orU rfl rfl) rfl ?_
  refine ZL.val (r_assign rfl) rfl ?_; refine ZL.nil ?_; refine ZP.then ?_; refine ZC.ret ?_
  refine ZP.ret1 rfl rfl ⟨rfl, ?_⟩
  rw [rotr, UInt32.or_comm]

/-! ### Rows of words -/
def wcells (n : Nat) (f : Nat → UInt32) : Array Value := ((List.range n).map fun i => u32 (f i)).toArray
theorem wcells_size (n : Nat) (f : Nat → UInt32) : (wcells n f).size = n := by simp [wcells]
theorem nthW {n o i : Nat} {f : Nat → UInt32} (h : o = i) (hi : i < n) : nth (wcells n f) o = some (u32 (f i)) := by
  subst h; rw [nth_eq]; simp [wcells, hi]
def upd (f : Nat → UInt32) (i : Nat) (v : UInt32) : Nat → UInt32 := fun j => if j = i then v else f j
theorem wcells_set {n o i : Nat} {f : Nat → UInt32} {v : UInt32} (h : o = i) : (wcells n f).setIfInBounds o (u32 v) = wcells n (upd f i v) := by
  subst h
  apply Array.ext'
  apply List.ext_getElem?
  intro j
  simp only [wcells, upd, Array.toList_setIfInBounds, List.getElem?_set, List.getElem?_map, List.getElem?_range, List.length_map, List.length_range]
  by_cases hj : j < n
  · by_cases h2 : o = j
    · subst h2; simp [hj]
    · simp [h2, hj, Ne.symm h2]
  · simp [hj]
    intro h; omega
theorem wcells_one (n : Nat) (f : Nat → UInt32) : (wcells n f).toList.all Value.oneCell' = true := by
  simp [wcells, u32, Value.oneCell']
theorem wcells_congr {n : Nat} {f g : Nat → UInt32} (h : ∀ i, i < n → f i = g i) : wcells n f = wcells n g := by
  simp only [wcells]
  congr 1
  refine List.map_congr_left fun i hi => ?_
  rw [h i (by simpa using hi)]
theorem wcells_zero (n : Nat) : (List.replicate n (Value.int .u32 0)).toArray = wcells n (fun _ => 0) := by
  simp [wcells, u32, List.map_const']

section
variable {P : Program} {n : Nat} {ops : Array Oper} {Q : Post} {rest : List Oper} {σ : Env} {w w0 : World} {X : Nat → Prop} {L L' : List Chunk}
theorem ZP.retC {fn : Func} {R : Value → World → Prop} {t ty b s by' : Nat} {cs : Array Value} {e : TypeId} {fz : Nat × Nat} [TA P ty] [TI P ty s by'] (hr : fn.results = #[.cell t ty]) (hv : lk σ t = some (.pointer (some ⟨b, 0, none⟩)))
    (hm : w.heap[b]? = some (.cells cs e fz)) (hn : cs.size = s) (hR : R (.agg cs) w) : ZP n (RetPost P fn R) .ret σ w := by
  refine ⟨fun a ha => ⟨ha.defers, .agg cs, ?_, hR⟩⟩
  have h1 := ha.at' t _ hv
  have hl := run_loadSeg (P := P) (w := w) (b' := b) (o' := 0) (n := s) hm (by omega)
  have he : cs.extract 0 (0 + s) = cs := by subst hn; simp
  rw [he] at hl
  simp [results, hr, h1, asAddr, loadVar, TA.h, run_sizeOf' (t := ty), hl]
/-- A word is stored into a row of words. -/
theorem ZL.stU {t b o m by' : Nat} {f : Nat → UInt32} {e : TypeId} {v : UInt32} {ty : TypeId} {pos : String} {after : Array Edge} {x y : Operand} (i : Nat) [TI P t 1 by'] (hM : Mem w0 X L w) (hx : ev σ x = some (.pointer (some ⟨b, o, none⟩))) (hy : ev σ y = some (u32 v))
    [ip : Put L b (.cells (wcells m f) e (0, 0)) (.cells (wcells m (upd f i v)) e (0, 0)) L'] (ho : o = i) (hi : i < m) (h : ∀ w', Mem w0 X L' w' → ZL P n ops Q rest σ w') : ZL P n ops Q (⟨none, .store t x y, ty, pos, after, none⟩ :: rest) σ w := by
  refine ZL.unit (uw_store1 hx hy (hM.putGet ip) (by rw [wcells_size]; omega) rfl) (h _ ?_)
  rw [wcells_set ho]
  exact hM.upd ip (Upd.setRow (hM.putGet ip))
end
end Go.Proofs.YtibobcjfjnoclaaGreatDoor.Z
end
section
/- The sum: the words of a block, and a block taken in. -/
set_option linter.unusedVariables false
set_option linter.unusedSimpArgs false
set_option linter.unusedSectionVars false
set_option maxRecDepth 100000
set_option maxHeartbeats 4000000
namespace Go.Proofs.YtibobcjfjnoclaaGreatDoor.Z
open Go Go.RowKit

theorem mulN (a b : Nat) (h : a * b < 9223372036854775808) : IntKind.i64.wrap ((a : Int) * (b : Int)) = ((a * b : Nat) : Int) := by
  rw [← Int.natCast_mul, wrap_i64 (by omega) (by omega)]
theorem addN (a b : Nat) (h : a + b < 9223372036854775808) : IntKind.i64.wrap ((a : Int) + (b : Int)) = ((a + b : Nat) : Int) := by
  rw [← Int.natCast_add, wrap_i64 (by omega) (by omega)]
theorem subN (a b : Nat) (h : b ≤ a) (h2 : a < 9223372036854775808) : IntKind.i64.wrap ((a : Int) - (b : Int)) = ((a - b : Nat) : Int) := by
  rw [wrap_i64 (by omega) (by omega)]; omega

def be32 (g : Nat → UInt8) (j : Nat) : UInt32 := (((g j).toUInt32 <<< UInt32.ofNat 24 ||| (g (j + 1)).toUInt32 <<< UInt32.ofNat 16) ||| (g (j + 2)).toUInt32 <<< UInt32.ofNat 8) ||| (g (j + 3)).toUInt32
def sg0 (x : UInt32) : UInt32 := (rotr x 7 ^^^ rotr x 18) ^^^ (x >>> UInt32.ofNat 3)
def sg1 (x : UInt32) : UInt32 := (rotr x 17 ^^^ rotr x 19) ^^^ (x >>> UInt32.ofNat 10)
def nxt (g : Nat → UInt8) (f : Nat → UInt32) (k : Nat) : UInt32 := if k < 16 then be32 g (4 * k) else ((f (k - 16) + sg0 (f (k - 15))) + f (k - 7)) + sg1 (f (k - 2))
def sched (g : Nat → UInt8) : Nat → Nat → UInt32
  | 0 => fun _ => 0
  | k + 1 => upd (sched g k) k (nxt g (sched g k) k)

/-- The bytes of a slice, as its cells say. -/
theorem bytesAt {w : World} {X : Nat → Prop} {p : Option Addr} {c : Nat} {l : List UInt8} (h : BytesR w X (.slice p l.length c) l) (h0 : 0 < l.length) :
    ∃ g o cs e fz, p = some ⟨g, o, none⟩ ∧ w.heap[g]? = some (.cells cs e fz) ∧ ¬ X g ∧ ∀ i, i < l.length → nth cs (o + i * 1) = some (u8 (l.getD i 0)) := by
  obtain ⟨g, o, cs, e, fz, rfl, hh, hx, hr⟩ := SlC.at h h0
  refine ⟨g, o, cs, e, fz, rfl, hh, hx, fun i hi => ?_⟩
  rw [nth_eq]
  refine hr (i * 1) _ ?_
  simp [List.getD, hi]

theorem spread_ok (v : Value) (l : List UInt8) (w : World) (X : Nat → Prop) (h : BytesR w X v l) (hl : l.length = 64) :
    Ret P 115 #[v] w (fun r w' => Ext w w' ∧ r = .agg (wcells 64 (sched (fun i => l.getD i 0) 64))) := by
  obtain ⟨p, c, rfl⟩ := h.shape
  obtain ⟨g, o, cs, e, fz, rfl, hh, hx, hb⟩ := bytesAt h (by omega)
  rw [hl] at hb
  generalize hgb : (fun i => l.getD i 0) = gb
  have hb' : ∀ i j, i < 64 → j = o + i * 1 → cs[j]? = some (u8 (gb i)) := fun i j hi hj => by rw [hj, ← nth_eq, hb i hi, ← hgb]
  refine Ret.enter1 Tryz.func115 rfl Tryz.ntmps115 rfl ?_
  refine ZC.seq ?_; refine ZC.region ?_
  refine ZL.alloc (Mem.start w No) rfl rfl (fun br w1 M1 => ?_)
  refine ZL.nil ?_; refine ZP.then ?_; refine ZC.seq ?_; refine ZC.region ?_
  refine ZL.alloc M1 rfl rfl (fun bw w2 M2 => ?_)
  refine ZL.nil ?_; refine ZP.then ?_; refine ZC.seq ?_; refine ZC.seq ?_; refine ZC.region ?_; refine ZL.val (r_move rfl) rfl ?_; refine ZL.nil ?_; refine ZP.then ?_; refine ZC.block ?_
  rw [wcells_zero, show wcells 64 (fun _ => 0) = wcells 64 (sched gb 0) from rfl] at M2
  refine ZC.loop (X := Nat) (fun k => [(10, .int .i64 k), (3, .pointer (some ⟨bw, 0, none⟩)), (2, .pointer (some ⟨br, 0, none⟩)), (0, .slice (some ⟨g, o, none⟩) l.length c)])
    (fun k w' => Mem w No [.blk bw (.cells (wcells 64 (sched gb k)) 101), .blk br (.cells (List.replicate 64 (Value.int .u32 0)).toArray 101)] w' ∧ k ≤ 16) (fun k => 16 - k) 0 ⟨rfl, rfl, rfl, rfl, trivial⟩ ⟨M2, by omega⟩ ?_
  rintro k w3 ⟨M3, hk⟩
  refine ZC.seq ?_; refine ZC.region ?_; refine ZL.val (r_lss rfl rfl) rfl ?_; refine ZL.nil ?_; refine ZP.then ?_; refine ZC.seq ?_
  refine ZC.condD rfl (fun hc => ?_) (fun hc => ?_)
  · have hk' : k < 16 := by omega
    refine ZC.skip ?_; refine ZP.then ?_; refine ZC.seq ?_; refine ZC.block ?_; refine ZC.seq ?_; refine ZC.region ?_; refine ZL.val (r_move rfl) rfl ?_; refine ZL.val (r_assign rfl) rfl ?_; refine ZL.nil ?_; refine ZP.then ?_
    refine ZC.tail 35 (by kernel_rfl) rfl rfl (fun w4 E4 _ => ?_)
    have M4 := M3.ext' E4
    have hg := M4.ext.at hh id
    refine ZS.val (r_move rfl) rfl ?_; refine ZS.val (r_move rfl) rfl ?_; refine ZS.val (r_move rfl) rfl ?_; refine ZS.val (r_mul rfl rfl (wrap_i64 (by omega) (by omega))) rfl ?_
    refine ZS.val (r_idxS (4 * k) rfl rfl (by omega) (by omega)) rfl ?_
    refine ZS.val (r_load1 rfl hg (hb' (4 * k) _ (by omega) (by omega))) rfl ?_
    refine ZS.val (r_convU rfl) rfl ?_
    refine ZS.val (r_shlU 24 rfl rfl (by decide)) rfl ?_
    refine ZS.val (r_move rfl) rfl ?_; refine ZS.val (r_move rfl) rfl ?_; refine ZS.val (r_mul rfl rfl (wrap_i64 (by omega) (by omega))) rfl ?_; refine ZS.val (r_add rfl rfl (wrap_i64 (by omega) (by omega))) rfl ?_
    refine ZS.val (r_idxS (4 * k + 1) rfl rfl (by omega) (by omega)) rfl ?_
    refine ZS.val (r_load1 rfl hg (hb' (4 * k + 1) _ (by omega) (by omega))) rfl ?_
    refine ZS.val (r_convU rfl) rfl ?_
    refine ZS.val (r_shlU 16 rfl rfl (by decide)) rfl ?_
    refine ZS.val (r_orU rfl rfl) rfl ?_; refine ZS.val (r_move rfl) rfl ?_; refine ZS.val (r_move rfl) rfl ?_; refine ZS.val (r_mul rfl rfl (wrap_i64 (by omega) (by omega))) rfl ?_; refine ZS.val (r_add rfl rfl (wrap_i64 (by omega) (by omega))) rfl ?_
    refine ZS.val (r_idxS (4 * k + 2) rfl rfl (by omega) (by omega)) rfl ?_
    refine ZS.val (r_load1 rfl hg (hb' (4 * k + 2) _ (by omega) (by omega))) rfl ?_
    refine ZS.val (r_convU rfl) rfl ?_
    refine ZS.val (r_shlU 8 rfl rfl (by decide)) rfl ?_
    refine ZS.val (r_orU rfl rfl) rfl ?_; refine ZS.val (r_move rfl) rfl ?_; refine ZS.val (r_move rfl) rfl ?_; refine ZS.val (r_mul rfl rfl (wrap_i64 (by omega) (by omega))) rfl ?_; refine ZS.val (r_add rfl rfl (wrap_i64 (by omega) (by omega))) rfl ?_
    refine ZS.val (r_idxS (4 * k + 3) rfl rfl (by omega) (by omega)) rfl ?_
    refine ZS.val (r_load1 rfl hg (hb' (4 * k + 3) _ (by omega) (by omega))) rfl ?_
    refine ZS.val (r_convU rfl) rfl ?_; refine ZS.val (r_orU rfl rfl) rfl ?_
    refine ZS.val (r_idxA k rfl rfl (by omega) (by omega)) rfl ?_
    refine ZS.tail ?_
    refine ZL.stU k M4 rfl rfl (by omega) (by omega) (fun w5 M5 => ?_)
    refine ZL.nil ?_; refine ZP.blockN ?_; refine ZP.then ?_; refine ZC.region ?_; refine ZL.val (r_add rfl rfl (wrap_i64 (by omega) (by omega))) rfl ?_; refine ZL.val (r_move rfl) rfl ?_; refine ZL.nil ?_
    refine ZP.round (k + 1) ⟨rfl, rfl, rfl, rfl, trivial⟩ ⟨?_, by omega⟩ (by omega)
    simp only [sched, nxt, if_pos hk', be32]
    exact M5
  · have hk' : k = 16 := by omega
    subst hk'
    refine ZC.exit ?_; refine ZP.thenX ?_; refine ZP.thenX ?_; refine ZP.blockE ?_; refine ZP.then ?_; refine ZC.seq ?_; refine ZC.seq ?_; refine ZC.region ?_; refine ZL.val (r_assign rfl) rfl ?_; refine ZL.nil ?_; refine ZP.then ?_; refine ZC.block ?_
    refine ZC.loop (X := Nat) (fun k => [(5, .int .i64 k), (3, .pointer (some ⟨bw, 0, none⟩)), (2, .pointer (some ⟨br, 0, none⟩))])
      (fun k w' => Mem w No [.blk bw (.cells (wcells 64 (sched gb k)) 101), .blk br (.cells (List.replicate 64 (Value.int .u32 0)).toArray 101)] w' ∧ 16 ≤ k ∧ k ≤ 64) (fun k => 64 - k) 16 ⟨rfl, rfl, rfl, trivial⟩ ⟨M3, by omega, by omega⟩ ?_
    rintro k w4 ⟨M4, hk1, hk2⟩
    refine ZC.seq ?_; refine ZC.seq ?_; refine ZC.region ?_; refine ZL.val (r_move rfl) rfl ?_; refine ZL.val (r_lss rfl rfl) rfl ?_; refine ZL.nil ?_; refine ZP.then ?_
    refine ZC.condD rfl (fun hd => ?_) (fun hd => ?_)
    · have hk' : k < 64 := by omega
      refine ZC.skip ?_; refine ZP.then ?_; refine ZC.seq ?_; refine ZC.block ?_; refine ZC.seq ?_
      refine ZC.still (by kernel_rfl) (fun w5 E5 _ => ?_)
      have M5 := M4.ext' E5
      refine ZS.val (r_move rfl) rfl ?_; refine ZS.val (r_sub rfl rfl (wrap_i64 (by omega) (by omega))) rfl ?_
      refine ZS.val (r_idxA (k - 15) rfl rfl (by omega) (by omega)) rfl ?_
      refine ZS.val (r_ld M5 rfl (nthW (i := k - 15) (by omega) (by omega))) rfl ?_
      refine ZS.val (r_move rfl) rfl ?_; refine ZS.val (r_sub rfl rfl (wrap_i64 (by omega) (by omega))) rfl ?_
      refine ZS.val (r_idxA (k - 2) rfl rfl (by omega) (by omega)) rfl ?_
      refine ZS.val (r_ld M5 rfl (nthW (i := k - 2) (by omega) (by omega))) rfl ?_
      refine ZS.val (r_assign rfl) rfl ?_; refine ZS.val (r_assign rfl) rfl ?_; refine ZS.nil ?_
      refine ZP.then ?_; refine ZC.seq ?_; refine ZC.region ?_; refine ZL.val (r_move rfl) rfl ?_
      refine ZL.call (r_call rfl) rfl (turned_ok (sched gb k (k - 15)) 7 w5 (by omega) (by omega)) (fun v6 w6 hv => ?_)
      obtain ⟨rfl, rfl⟩ := hv
      refine ZL.val (r_move rfl) rfl ?_
      refine ZL.call (r_call rfl) rfl (turned_ok (sched gb k (k - 15)) 18 w5 (by omega) (by omega)) (fun v6 w6 hv => ?_)
      obtain ⟨rfl, rfl⟩ := hv
      refine ZL.val (r_xorU rfl rfl) rfl ?_
      refine ZL.val (r_move rfl) rfl ?_
      refine ZL.val (r_shrU 3 rfl rfl (by decide)) rfl ?_
      refine ZL.val (r_xorU rfl rfl) rfl ?_
      refine ZL.val (r_assign rfl) rfl ?_; refine ZL.nil ?_; refine ZP.then ?_; refine ZC.seq ?_; refine ZC.region ?_; refine ZL.val (r_move rfl) rfl ?_
      refine ZL.call (r_call rfl) rfl (turned_ok (sched gb k (k - 2)) 17 w5 (by omega) (by omega)) (fun v6 w6 hv => ?_)
      obtain ⟨rfl, rfl⟩ := hv
      refine ZL.val (r_move rfl) rfl ?_
      refine ZL.call (r_call rfl) rfl (turned_ok (sched gb k (k - 2)) 19 w5 (by omega) (by omega)) (fun v6 w6 hv => ?_)
      obtain ⟨rfl, rfl⟩ := hv
      refine ZL.val (r_xorU rfl rfl) rfl ?_
      refine ZL.val (r_move rfl) rfl ?_
      refine ZL.val (r_shrU 10 rfl rfl (by decide)) rfl ?_
      refine ZL.val (r_xorU rfl rfl) rfl ?_
      refine ZL.val (r_assign rfl) rfl ?_; refine ZL.nil ?_; refine ZP.then ?_
      refine ZC.tail 15 (by kernel_rfl) rfl rfl (fun w7 E7 _ => ?_)
      have M7 := M5.ext' E7
      refine ZS.val (r_move rfl) rfl ?_; refine ZS.val (r_move rfl) rfl ?_; refine ZS.val (r_sub rfl rfl (wrap_i64 (by omega) (by omega))) rfl ?_
      refine ZS.val (r_idxA (k - 16) rfl rfl (by omega) (by omega)) rfl ?_
      refine ZS.val (r_ld M7 rfl (nthW (i := k - 16) (by omega) (by omega))) rfl ?_
      refine ZS.val (r_move rfl) rfl ?_; refine ZS.val (r_addU rfl rfl) rfl ?_; refine ZS.val (r_move rfl) rfl ?_; refine ZS.val (r_sub rfl rfl (wrap_i64 (by omega) (by omega))) rfl ?_
      refine ZS.val (r_idxA (k - 7) rfl rfl (by omega) (by omega)) rfl ?_
      refine ZS.val (r_ld M7 rfl (nthW (i := k - 7) (by omega) (by omega))) rfl ?_
      refine ZS.val (r_addU rfl rfl) rfl ?_; refine ZS.val (r_move rfl) rfl ?_; refine ZS.val (r_addU rfl rfl) rfl ?_
      refine ZS.val (r_idxA k rfl rfl (by omega) (by omega)) rfl ?_
      refine ZS.tail ?_
      refine ZL.stU k M7 rfl rfl (by omega) (by omega) (fun w8 M8 => ?_)
      refine ZL.nil ?_; refine ZP.blockN ?_; refine ZP.then ?_; refine ZC.region ?_; refine ZL.val (r_move rfl) rfl ?_; refine ZL.val (r_add rfl rfl (wrap_i64 (by omega) (by omega))) rfl ?_; refine ZL.val (r_assign rfl) rfl ?_; refine ZL.nil ?_
      refine ZP.round (k + 1) ⟨rfl, rfl, rfl, trivial⟩ ⟨?_, by omega, by omega⟩ (by omega)
      simp only [sched, nxt, if_neg (show ¬ k < 16 by omega), sg0, sg1]
      exact M8
    · have hk' : k = 64 := by omega
      subst hk'
      refine ZC.exit ?_; refine ZP.thenX ?_; refine ZP.thenX ?_; refine ZP.blockE ?_; refine ZP.then ?_; refine ZC.seq ?_; refine ZC.region ?_
      refine ZL.val (r_ldW M4 rfl (wcells_size _ _)) rfl ?_
      refine ZL.stW M4 rfl rfl (cs' := wcells 64 (sched gb 64)) rfl (by simp) (wcells_size _ _) (wcells_one _ _) (fun w5 M5 => ?_)
      refine ZL.nil ?_; refine ZP.then ?_; refine ZC.ret ?_
      exact ZP.retC rfl rfl (M5.get inferInstance) (wcells_size _ _) ⟨M5.ext, rfl⟩
end Go.Proofs.YtibobcjfjnoclaaGreatDoor.Z
end
section
/- A block taken in. -/
set_option linter.unusedVariables false
set_option linter.unusedSimpArgs false
set_option linter.unusedSectionVars false
set_option maxRecDepth 100000
set_option maxHeartbeats 4000000
namespace Go.Proofs.YtibobcjfjnoclaaGreatDoor.Z
open Go Go.RowKit

def cubes : List UInt32 := [0x428a2f98, 0x71374491, 0xb5c0fbcf, 0xe9b5dba5, 0x3956c25b, 0x59f111f1, 0x923f82a4, 0xab1c5ed5,
  0xd807aa98, 0x12835b01, 0x243185be, 0x550c7dc3, 0x72be5d74, 0x80deb1fe, 0x9bdc06a7, 0xc19bf174,
  0xe49b69c1, 0xefbe4786, 0x0fc19dc6, 0x240ca1cc, 0x2de92c6f, 0x4a7484aa, 0x5cb0a9dc, 0x76f988da,
  0x983e5152, 0xa831c66d, 0xb00327c8, 0xbf597fc7, 0xc6e00bf3, 0xd5a79147, 0x06ca6351, 0x14292967,
  0x27b70a85, 0x2e1b2138, 0x4d2c6dfc, 0x53380d13, 0x650a7354, 0x766a0abb, 0x81c2c92e, 0x92722c85,
  0xa2bfe8a1, 0xa81a664b, 0xc24b8b70, 0xc76c51a3, 0xd192e819, 0xd6990624, 0xf40e3585, 0x106aa070,
  0x19a4c116, 0x1e376c08, 0x2748774c, 0x34b0bcb5, 0x391c0cb3, 0x4ed8aa4a, 0x5b9cca4f, 0x682e6ff3,
  0x748f82ee, 0x78a5636f, 0x84c87814, 0x8cc70208, 0x90befffa, 0xa4506ceb, 0xbef9a3f7, 0xc67178f2]
def squares : List UInt32 := [0x6a09e667, 0xbb67ae85, 0x3c6ef372, 0xa54ff53a, 0x510e527f, 0x9b05688c, 0x1f83d9ab, 0x5be0cd19]
def kc (i : Nat) : UInt32 := cubes.getD i 0
def sq (i : Nat) : UInt32 := squares.getD i 0

/-- The rows of numbers stand where the program keeps them. -/
structure GW (w : World) : Prop where
  c : ∃ e fz, w.heap[1]? = some (.cells (wcells 64 kc) e fz)
  s : ∃ e fz, w.heap[0]? = some (.cells (wcells 8 sq) e fz)
theorem GW.ext {w w' : World} (h : GW w) (he : Ext w w') : GW w' := by
  obtain ⟨⟨e, fz, h1⟩, ⟨e', fz', h2⟩⟩ := h
  exact ⟨⟨e, fz, he.at h1 id⟩, ⟨e', fz', he.at h2 id⟩⟩

def sS1 (x : UInt32) : UInt32 := (rotr x 6 ^^^ rotr x 11) ^^^ rotr x 25
def sS0 (x : UInt32) : UInt32 := (rotr x 2 ^^^ rotr x 13) ^^^ rotr x 22
def pickW (v : Nat → UInt32) : UInt32 := (v 4 &&& v 5) ^^^ (~~~(v 4) &&& v 6)
def mostW (v : Nat → UInt32) : UInt32 := ((v 0 &&& v 1) ^^^ (v 0 &&& v 2)) ^^^ (v 1 &&& v 2)
def t1W (K W v : Nat → UInt32) (i : Nat) : UInt32 := (((v 7 + sS1 (v 4)) + pickW v) + K i) + W i
def rnd (K W v : Nat → UInt32) (i : Nat) : Nat → UInt32
  | 0 => (t1W K W v i + sS0 (v 0)) + mostW v
  | 1 => v 0
  | 2 => v 1
  | 3 => v 2
  | 4 => v 3 + t1W K W v i
  | 5 => v 4
  | 6 => v 5
  | _ => v 6
def rnds (K W v : Nat → UInt32) : Nat → Nat → UInt32
  | 0 => v
  | k + 1 => rnd K W (rnds K W v k) k
def comp (h : Nat → UInt32) (g : Nat → UInt8) (j : Nat) : UInt32 := rnds kc (sched g 64) h 64 j + h j
def sumTo (v h : Nat → UInt32) (k j : Nat) : UInt32 := if j < k then v j + h j else v j

theorem mix_ok (f : Nat → UInt32) (v : Value) (l : List UInt8) (w : World) (X : Nat → Prop) (hG : GW w) (h : BytesR w X v l) (hl : l.length = 64) :
    Ret P 98 #[.agg (wcells 8 f), v] w (fun r w' => Ext w w' ∧ r = .agg (wcells 8 (comp f (fun i => l.getD i 0)))) := by
  refine Ret.enter2 Tryz.func98 rfl Tryz.ntmps98 rfl ?_
  refine ZC.seq ?_; refine ZC.region ?_
  refine ZL.box (Mem.start w No) rfl rfl rfl (fun bh w1 M1 => ?_)
  refine ZL.alloc M1 rfl rfl (fun br w2 M2 => ?_)
  refine ZL.nil ?_; refine ZP.then ?_; refine ZC.seq ?_
  refine ZC.draw (MemS w No [.blk br (.cells (List.replicate 8 (Value.int .u32 0)).toArray 103), .blk bh (.cells (wcells 8 f) 103)]) rfl rfl (fun w3 E3 _ => ?_)
  have M3 := M2.ext' E3
  have S3 := MemS.of M3
  refine ZA.take 0 rfl (fun w' hS' => by first | exact r_move rfl | exact r_assign rfl | exact r_fieldAddr rfl | exact r_sliceArr rfl | exact r_addU rfl rfl | exact r_xorU rfl rfl | exact r_orU rfl rfl | exact r_andU rfl rfl | exact r_complU rfl | exact r_convU rfl | exact r_ldS hS' rfl (by rfl) | exact r_nilCheck rfl | exact r_extract rfl rfl | exact r_lenSlice rfl) (by kernel_rfl) (by kernel_rfl) (by kernel_rfl) rfl rfl (fun _ _ _ _ h => h) S3 ?_
  refine ZA.take 2 rfl (fun w' hS' => r_loadW rfl (hS'.get inferInstance) (wcells_size _ _)) (by kernel_rfl) (by kernel_rfl) (by kernel_rfl) rfl rfl (fun _ _ _ _ h => h) S3 ?_
  refine ZA.par3 1 3 4 (by kernel_rfl) (by kernel_rfl) (by kernel_rfl) (by kernel_rfl) (by kernel_rfl) (by kernel_rfl) (by kernel_rfl) rfl rfl rfl rfl rfl rfl rfl rfl rfl rfl rfl rfl rfl rfl rfl rfl rfl rfl rfl rfl rfl rfl rfl rfl (Turn.call (R := fun v c => v = .agg (wcells 64 (sched (fun i => l.getD i 0) 64)) ∧ c = []) (fun w => r_call rfl) (fun cs w' hM => (spread_ok v l w' X (h.ext hM.ext) hl).mono (fun r w'' hr => ⟨[], ⟨hr.2, rfl⟩, hM.ext' hr.1⟩))) (Turn.alloc rfl) (Turn.alloc rfl) (cs := []) M3 (?_)
  rintro v1 c1 v2 c2 v3 c3 w4 ⟨rfl, rfl⟩ ⟨bw, rfl, rfl⟩ ⟨bv, rfl, rfl⟩ M4
  simp only [List.nil_append, List.cons_append] at M4
  refine ZA.one 5 (by kernel_rfl) rfl rfl ?_
  refine ZL.stW M4 rfl rfl (cs' := wcells 64 (sched (fun i => l.getD i 0) 64)) rfl (by simp) (wcells_size _ _) (wcells_one _ _) (fun w5 M5 => ?_)
  have S5 := MemS.of M5
  refine ZL.nil (ZP.any ⟨[_, _], M5⟩ ?_)
  refine ZA.one 6 (by kernel_rfl) rfl rfl ?_
  refine ZL.stW M5 rfl rfl (cs' := wcells 8 f) rfl (by simp) (wcells_size _ _) (wcells_one _ _) (fun w6 M6 => ?_)
  refine ZL.nil (ZP.any ⟨[_, _], M6⟩ ?_)
  refine ZA.done (by kernel_rfl) ?_
  refine ZP.then ?_; refine ZC.seq ?_; refine ZC.seq ?_; refine ZC.region ?_; refine ZL.val (r_move rfl) rfl ?_; refine ZL.nil ?_; refine ZP.then ?_; refine ZC.block ?_
  generalize hW : sched (fun i => l.getD i 0) 64 = W at M6
  refine ZC.loop (X := Nat) (fun k => [(17, .int .i64 k), (6, .pointer (some ⟨bv, 0, none⟩)), (5, .pointer (some ⟨bw, 0, none⟩)), (4, .pointer (some ⟨br, 0, none⟩)), (2, .pointer (some ⟨bh, 0, none⟩))])
    (fun k w' => Mem w No [.blk bv (.cells (wcells 8 (rnds kc W f k)) 103), .blk bw (.cells (wcells 64 W) 101), .blk br (.cells (wcells 8 fun _ => 0) 103), .blk bh (.cells (wcells 8 f) 103)] w' ∧ k ≤ 64) (fun k => 64 - k) 0 ⟨rfl, rfl, rfl, rfl, rfl, trivial⟩ ⟨M6, by omega⟩ ?_
  rintro k w7 ⟨M7, hk⟩
  refine ZC.seq ?_; refine ZC.region ?_; refine ZL.val (r_lss rfl rfl) rfl ?_; refine ZL.nil ?_; refine ZP.then ?_; refine ZC.seq ?_
  refine ZC.condD rfl (fun hc => ?_) (fun hc => ?_)
  · have hk' : k < 64 := by omega
    generalize hV : rnds kc W f k = V at M7
    refine ZC.skip ?_; refine ZP.then ?_; refine ZC.seq ?_; refine ZC.block ?_; refine ZC.seq ?_; refine ZC.region ?_; refine ZL.val (r_move rfl) rfl ?_; refine ZL.val (r_assign rfl) rfl ?_; refine ZL.nil ?_; refine ZP.then ?_; refine ZC.seq ?_
    refine ZC.still (by kernel_rfl) (fun w8 E8 _ => ?_)
    have M8 := M7.ext' E8
    refine ZS.val (r_idxA 4 rfl rfl rfl (by decide)) rfl ?_; refine ZS.val (r_ld M8 rfl (nthW (i := 4) rfl (by decide))) rfl ?_
    refine ZS.call (r_call rfl) rfl (turned_ok _ 6 w8 (by omega) (by omega)) ?_
    refine ZS.val (r_idxA 4 rfl rfl rfl (by decide)) rfl ?_; refine ZS.val (r_ld M8 rfl (nthW (i := 4) rfl (by decide))) rfl ?_
    refine ZS.call (r_call rfl) rfl (turned_ok _ 11 w8 (by omega) (by omega)) ?_
    refine ZS.val (r_xorU rfl rfl) rfl ?_
    refine ZS.val (r_idxA 4 rfl rfl rfl (by decide)) rfl ?_; refine ZS.val (r_ld M8 rfl (nthW (i := 4) rfl (by decide))) rfl ?_
    refine ZS.call (r_call rfl) rfl (turned_ok _ 25 w8 (by omega) (by omega)) ?_
    refine ZS.val (r_xorU rfl rfl) rfl ?_; refine ZS.val (r_assign rfl) rfl ?_; refine ZS.nil ?_
    refine ZP.then ?_; refine ZC.seq ?_; refine ZC.region ?_
    refine ZL.val (r_idxA 4 rfl rfl rfl (by decide)) rfl ?_; refine ZL.val (r_ld M8 rfl (nthW (i := 4) rfl (by decide))) rfl ?_
    refine ZL.val (r_idxA 5 rfl rfl rfl (by decide)) rfl ?_; refine ZL.val (r_ld M8 rfl (nthW (i := 5) rfl (by decide))) rfl ?_
    refine ZL.val (r_andU rfl rfl) rfl ?_
    refine ZL.val (r_idxA 4 rfl rfl rfl (by decide)) rfl ?_; refine ZL.val (r_ld M8 rfl (nthW (i := 4) rfl (by decide))) rfl ?_
    refine ZL.val (r_complU rfl) rfl ?_
    refine ZL.val (r_idxA 6 rfl rfl rfl (by decide)) rfl ?_; refine ZL.val (r_ld M8 rfl (nthW (i := 6) rfl (by decide))) rfl ?_
    refine ZL.val (r_andU rfl rfl) rfl ?_; refine ZL.val (r_xorU rfl rfl) rfl ?_; refine ZL.val (r_assign rfl) rfl ?_
    refine ZL.nil ?_; refine ZP.then ?_; refine ZC.seq ?_
    refine ZC.still (by kernel_rfl) (fun w9 E9 _ => ?_)
    have M9 := M8.ext' E9
    obtain ⟨e, fz, hcu⟩ := hG.c
    refine ZS.val (r_idxA 7 rfl rfl rfl (by decide)) rfl ?_; refine ZS.val (r_ld M9 rfl (nthW (i := 7) rfl (by decide))) rfl ?_
    refine ZS.val (r_move rfl) rfl ?_; refine ZS.val (r_addU rfl rfl) rfl ?_; refine ZS.val (r_move rfl) rfl ?_; refine ZS.val (r_addU rfl rfl) rfl ?_; refine ZS.val (r_move rfl) rfl ?_
    refine ZS.val (r_idxA k rfl rfl rfl (by omega)) rfl ?_
    refine ZS.val (r_load1 rfl (M9.ext.at hcu id) ((nth_eq _ _).symm.trans (nthW (i := k) (by omega) (by omega)))) rfl ?_
    refine ZS.val (r_addU rfl rfl) rfl ?_; refine ZS.val (r_move rfl) rfl ?_
    refine ZS.val (r_idxA k rfl rfl rfl (by omega)) rfl ?_
    refine ZS.val (r_ld M9 rfl (nthW (i := k) (by omega) (by omega))) rfl ?_
    refine ZS.val (r_addU rfl rfl) rfl ?_; refine ZS.val (r_assign rfl) rfl ?_; refine ZS.nil ?_
    refine ZP.then ?_; refine ZC.seq ?_
    refine ZC.still (by kernel_rfl) (fun w10 E10 _ => ?_)
    have M10 := M9.ext' E10
    refine ZS.val (r_idxA 0 rfl rfl rfl (by decide)) rfl ?_; refine ZS.val (r_ld M10 rfl (nthW (i := 0) rfl (by decide))) rfl ?_
    refine ZS.call (r_call rfl) rfl (turned_ok _ 2 w10 (by omega) (by omega)) ?_
    refine ZS.val (r_idxA 0 rfl rfl rfl (by decide)) rfl ?_; refine ZS.val (r_ld M10 rfl (nthW (i := 0) rfl (by decide))) rfl ?_
    refine ZS.call (r_call rfl) rfl (turned_ok _ 13 w10 (by omega) (by omega)) ?_
    refine ZS.val (r_xorU rfl rfl) rfl ?_
    refine ZS.val (r_idxA 0 rfl rfl rfl (by decide)) rfl ?_; refine ZS.val (r_ld M10 rfl (nthW (i := 0) rfl (by decide))) rfl ?_
    refine ZS.call (r_call rfl) rfl (turned_ok _ 22 w10 (by omega) (by omega)) ?_
    refine ZS.val (r_xorU rfl rfl) rfl ?_; refine ZS.val (r_assign rfl) rfl ?_; refine ZS.nil ?_
    refine ZP.then ?_; refine ZC.seq ?_; refine ZC.region ?_
    refine ZL.val (r_idxA 0 rfl rfl rfl (by decide)) rfl ?_; refine ZL.val (r_ld M10 rfl (nthW (i := 0) rfl (by decide))) rfl ?_
    refine ZL.val (r_idxA 1 rfl rfl rfl (by decide)) rfl ?_; refine ZL.val (r_ld M10 rfl (nthW (i := 1) rfl (by decide))) rfl ?_
    refine ZL.val (r_andU rfl rfl) rfl ?_
    refine ZL.val (r_idxA 0 rfl rfl rfl (by decide)) rfl ?_; refine ZL.val (r_ld M10 rfl (nthW (i := 0) rfl (by decide))) rfl ?_
    refine ZL.val (r_idxA 2 rfl rfl rfl (by decide)) rfl ?_; refine ZL.val (r_ld M10 rfl (nthW (i := 2) rfl (by decide))) rfl ?_
    refine ZL.val (r_andU rfl rfl) rfl ?_; refine ZL.val (r_xorU rfl rfl) rfl ?_
    refine ZL.val (r_idxA 1 rfl rfl rfl (by decide)) rfl ?_; refine ZL.val (r_ld M10 rfl (nthW (i := 1) rfl (by decide))) rfl ?_
    refine ZL.val (r_idxA 2 rfl rfl rfl (by decide)) rfl ?_; refine ZL.val (r_ld M10 rfl (nthW (i := 2) rfl (by decide))) rfl ?_
    refine ZL.val (r_andU rfl rfl) rfl ?_; refine ZL.val (r_xorU rfl rfl) rfl ?_; refine ZL.val (r_assign rfl) rfl ?_
    refine ZL.nil ?_; refine ZP.then ?_; refine ZC.region ?_; refine ZL.val (r_move rfl) rfl ?_; refine ZL.val (r_move rfl) rfl ?_
    refine ZL.val (r_addU rfl rfl) rfl ?_; refine ZL.val (r_move rfl) rfl ?_; refine ZL.val (r_addU rfl rfl) rfl ?_
    refine ZL.val (r_idxA 0 rfl rfl rfl (by decide)) rfl ?_; refine ZL.val (r_ld M10 rfl (nthW (i := 0) rfl (by decide))) rfl ?_
    refine ZL.val (r_idxA 1 rfl rfl rfl (by decide)) rfl ?_; refine ZL.val (r_ld M10 rfl (nthW (i := 1) rfl (by decide))) rfl ?_
    refine ZL.val (r_idxA 2 rfl rfl rfl (by decide)) rfl ?_; refine ZL.val (r_ld M10 rfl (nthW (i := 2) rfl (by decide))) rfl ?_
    refine ZL.val (r_idxA 3 rfl rfl rfl (by decide)) rfl ?_; refine ZL.val (r_ld M10 rfl (nthW (i := 3) rfl (by decide))) rfl ?_
    refine ZL.val (r_move rfl) rfl ?_; refine ZL.val (r_addU rfl rfl) rfl ?_
    refine ZL.val (r_idxA 4 rfl rfl rfl (by decide)) rfl ?_; refine ZL.val (r_ld M10 rfl (nthW (i := 4) rfl (by decide))) rfl ?_
    refine ZL.val (r_idxA 5 rfl rfl rfl (by decide)) rfl ?_; refine ZL.val (r_ld M10 rfl (nthW (i := 5) rfl (by decide))) rfl ?_
    refine ZL.val (r_idxA 6 rfl rfl rfl (by decide)) rfl ?_; refine ZL.val (r_ld M10 rfl (nthW (i := 6) rfl (by decide))) rfl ?_
    refine ZL.val (r_buildArr rfl rfl (cs := (List.range 8).map fun i => u32 (rnd kc W V k i)) rfl) rfl ?_
    refine ZL.stW M10 rfl rfl (cs' := wcells 8 (rnd kc W V k)) rfl (by simp [wcells]) (wcells_size _ _) (wcells_one _ _) (fun w11 M11 => ?_)
    refine ZL.nil ?_; refine ZP.blockN ?_; refine ZP.then ?_; refine ZC.region ?_; refine ZL.val (r_add rfl rfl (wrap_i64 (by omega) (by omega))) rfl ?_; refine ZL.val (r_move rfl) rfl ?_; refine ZL.nil ?_
    refine ZP.round (k + 1) ⟨rfl, rfl, rfl, rfl, rfl, trivial⟩ ⟨?_, by omega⟩ (by omega)
    simp only [rnds, hV]
    exact M11
  · have hk' : k = 64 := by omega
    subst hk'
    generalize hV : rnds kc W f 64 = V at M7
    refine ZC.exit ?_; refine ZP.thenX ?_; refine ZP.thenX ?_; refine ZP.blockE ?_; refine ZP.then ?_; refine ZC.seq ?_; refine ZC.seq ?_; refine ZC.region ?_; refine ZL.val (r_move rfl) rfl ?_; refine ZL.nil ?_; refine ZP.then ?_; refine ZC.block ?_
    refine ZC.loop (X := Nat) (fun k => [(108, .int .i64 k), (6, .pointer (some ⟨bv, 0, none⟩)), (4, .pointer (some ⟨br, 0, none⟩)), (2, .pointer (some ⟨bh, 0, none⟩))])
      (fun k w' => Mem w No [.blk bv (.cells (wcells 8 (sumTo V f k)) 103), .blk bw (.cells (wcells 64 W) 101), .blk br (.cells (wcells 8 fun _ => 0) 103), .blk bh (.cells (wcells 8 f) 103)] w' ∧ k ≤ 8) (fun k => 8 - k) 0 ⟨rfl, rfl, rfl, rfl, trivial⟩ ⟨M7, by omega⟩ ?_
    rintro k w8 ⟨M8, hk⟩
    refine ZC.seq ?_; refine ZC.region ?_; refine ZL.val (r_lss rfl rfl) rfl ?_; refine ZL.nil ?_; refine ZP.then ?_; refine ZC.seq ?_
    refine ZC.condD rfl (fun hd => ?_) (fun hd => ?_)
    · have hk' : k < 8 := by omega
      refine ZC.skip ?_; refine ZP.then ?_; refine ZC.seq ?_; refine ZC.block ?_; refine ZC.seq ?_; refine ZC.region ?_; refine ZL.val (r_move rfl) rfl ?_; refine ZL.val (r_assign rfl) rfl ?_; refine ZL.nil ?_; refine ZP.then ?_
      refine ZC.tail 8 (by kernel_rfl) rfl rfl (fun w9 E9 _ => ?_)
      have M9 := M8.ext' E9
      refine ZS.val (r_move rfl) rfl ?_
      refine ZS.val (r_idxA k rfl rfl rfl (by omega)) rfl ?_
      refine ZS.val (r_ld M9 rfl (nthW (i := k) (by omega) (by omega))) rfl ?_
      refine ZS.val (r_move rfl) rfl ?_
      refine ZS.val (r_idxA k rfl rfl rfl (by omega)) rfl ?_
      refine ZS.val (r_ld M9 rfl (nthW (i := k) (by omega) (by omega))) rfl ?_
      refine ZS.val (r_addU rfl rfl) rfl ?_
      refine ZS.val (r_idxA k rfl rfl rfl (by omega)) rfl ?_
      refine ZS.tail ?_
      refine ZL.stU k M9 rfl rfl (by omega) (by omega) (fun w10 M10 => ?_)
      refine ZL.nil ?_; refine ZP.blockN ?_; refine ZP.then ?_; refine ZC.region ?_; refine ZL.val (r_add rfl rfl (wrap_i64 (by omega) (by omega))) rfl ?_; refine ZL.val (r_move rfl) rfl ?_; refine ZL.nil ?_
      refine ZP.round (k + 1) ⟨rfl, rfl, rfl, rfl, trivial⟩ ⟨?_, by omega⟩ (by omega)
      rwa [wcells_congr (g := sumTo V f (k + 1))] at M10
      intro i hi
      simp only [upd, sumTo]
      by_cases h1 : i = k
      · subst h1; simp
      · simp only [h1, if_false]
        by_cases h2 : i < k
        · simp [h2, show i < k + 1 by omega]
        · simp [h2, show ¬ i < k + 1 by omega]
    · have hk' : k = 8 := by omega
      subst hk'
      refine ZC.exit ?_; refine ZP.thenX ?_; refine ZP.thenX ?_; refine ZP.blockE ?_; refine ZP.then ?_; refine ZC.seq ?_; refine ZC.region ?_
      refine ZL.val (r_ldW M8 rfl (wcells_size _ _)) rfl ?_
      refine ZL.stW M8 rfl rfl (cs' := wcells 8 (sumTo V f 8)) rfl (by simp [wcells]) (wcells_size _ _) (wcells_one _ _) (fun w9 M9 => ?_)
      refine ZL.nil ?_; refine ZP.then ?_; refine ZC.ret ?_
      refine ZP.retC rfl rfl (M9.get inferInstance) (wcells_size _ _) ⟨M9.ext, ?_⟩
      rw [wcells_congr (g := comp f (fun i => l.getD i 0))]
      intro i hi
      simp only [sumTo, comp, if_pos hi, hW, hV]
end Go.Proofs.YtibobcjfjnoclaaGreatDoor.Z
end
section
/- The sum of bytes. -/
set_option linter.unusedVariables false
set_option linter.unusedSimpArgs false
set_option linter.unusedSectionVars false
set_option maxRecDepth 100000
set_option maxHeartbeats 4000000
namespace Go.Proofs.YtibobcjfjnoclaaGreatDoor.Z
open Go Go.RowKit

def fpIn (L : List Chunk) (k : Nat) : Prop := ∃ c ∈ L, c.fp = some k
/-- What was made first stays; the others go on. -/
theorem Mem.freeze {w0 w : World} {X : Nat → Prop} {L : List Chunk} {v : Value} {e s n : Nat} {xs : List Value} (h : Mem w0 X (.own v e s n xs :: L) w) :
    Mem w (fpIn L) L w ∧ SlC w (fpIn L) s v n xs := by
  refine ⟨⟨.refl _ _, h.drop.ok, h.drop.ap, fun c hc g hg => .inl ⟨c, hc, hg⟩⟩, h.own.slc fun g hg ⟨c, hc, hc'⟩ => ?_⟩
  exact (List.pairwise_cons.1 h.ap).1 c hc g hg hc'
theorem Mem.back {w0 w w' : World} {L : List Chunk} (h : Mem w0 No L w) {L' : List Chunk} (hl : ∀ c ∈ L', c ∈ L) (he : ExtX w (fpIn L') w') : Ext w0 w' :=
  h.ext.trans he (fun _ h => h) fun b hb ⟨c, hc, hg⟩ => by
    rcases h.mine c (hl c hc) b hg with h | h
    · exact h
    · omega

/-! ### Rows of bytes -/
def bcells (n : Nat) (f : Nat → UInt8) : Array Value := ((List.range n).map fun i => u8 (f i)).toArray
theorem bcells_size (n : Nat) (f : Nat → UInt8) : (bcells n f).size = n := by simp [bcells]
def updB (f : Nat → UInt8) (i : Nat) (v : UInt8) : Nat → UInt8 := fun j => if j = i then v else f j
theorem bcells_set {n o i : Nat} {f : Nat → UInt8} {v : UInt8} (h : o = i) : (bcells n f).setIfInBounds o (u8 v) = bcells n (updB f i v) := by
  subst h
  apply Array.ext'
  apply List.ext_getElem?
  intro j
  simp only [bcells, updB, Array.toList_setIfInBounds, List.getElem?_set, List.getElem?_map, List.getElem?_range, List.length_map, List.length_range]
  by_cases hj : j < n
  · by_cases h2 : o = j
    · subst h2; simp [hj]
    · simp [h2, hj, Ne.symm h2]
  · simp [hj]
    intro h; omega
theorem bcells_one (n : Nat) (f : Nat → UInt8) : (bcells n f).toList.all Value.oneCell' = true := by
  simp [bcells, u8, Value.oneCell']
theorem bcells_congr {n : Nat} {f g : Nat → UInt8} (h : ∀ i, i < n → f i = g i) : bcells n f = bcells n g := by
  simp only [bcells]
  congr 1
  refine List.map_congr_left fun i hi => ?_
  rw [h i (by simpa using hi)]
theorem bcells_zero (n : Nat) : (List.replicate n (Value.int .u8 0)).toArray = bcells n (fun _ => 0) := by
  simp [bcells, u8, List.map_const']
section
variable {P : Program} {n : Nat} {ops : Array Oper} {Q : Post} {rest : List Oper} {σ : Env} {w w0 : World} {X : Nat → Prop} {L L' : List Chunk}
theorem ZL.stB {t b o m by' : Nat} {f : Nat → UInt8} {e : TypeId} {v : UInt8} {ty : TypeId} {pos : String} {after : Array Edge} {x y : Operand} (i : Nat) [TI P t 1 by'] (hM : Mem w0 X L w) (hx : ev σ x = some (.pointer (some ⟨b, o, none⟩))) (hy : ev σ y = some (u8 v))
    [ip : Put L b (.cells (bcells m f) e (0, 0)) (.cells (bcells m (updB f i v)) e (0, 0)) L'] (ho : o = i) (hi : i < m) (h : ∀ w', Mem w0 X L' w' → ZL P n ops Q rest σ w') : ZL P n ops Q (⟨none, .store t x y, ty, pos, after, none⟩ :: rest) σ w := by
  refine ZL.unit (uw_store1 hx hy (hM.putGet ip) (by rw [bcells_size]; omega) rfl) (h _ ?_)
  rw [bcells_set ho]
  exact hM.upd ip (Upd.setRow (hM.putGet ip))
end

theorem SlC.cap {w : World} {X : Nat → Prop} {s n c : Nat} {p : Option Addr} {xs : List Value} (h : SlC w X s (.slice p n c) n xs) : n ≤ c := by
  rcases h.2 with ⟨hv, rfl⟩ | ⟨g, o, c', cs, e', fz, hv, hg, hh, hc, hm, hr⟩
  · omega
  · simp only [Value.slice.injEq] at hv; omega
theorem BytesR.to {w : World} {X : Nat → Prop} {c : Nat} {p : Option Addr} {l : List UInt8} (h : BytesR w X (.slice p l.length c) l) {k : Nat} (hk : k ≤ l.length) : BytesR w X (.slice p k c) (l.take k) := by
  have h1 := SlC.cut h (l := 0) (h := k) (by omega) hk
  simp only [cutAt_zero, Nat.sub_zero, Nat.zero_mul, List.drop_zero, Nat.mul_one] at h1
  have e1 : (l.take k).length = k := by simp; omega
  show SlC w X 1 _ (l.take k).length ((l.take k).map u8)
  rw [e1, List.map_take]
  exact h1
theorem BytesR.from {w : World} {X : Nat → Prop} {c : Nat} {p : Option Addr} {l : List UInt8} (h : BytesR w X (.slice p l.length c) l) {k : Nat} (hk : k ≤ l.length) : BytesR w X (.slice (cutAt p c k 1) (l.length - k) (c - k)) (l.drop k) := by
  have h1 := SlC.cut h (l := k) (h := l.length) hk (Nat.le_refl _)
  simp only [Nat.mul_one] at h1
  have e1 : (l.drop k).length = l.length - k := by simp
  show SlC w X 1 _ (l.drop k).length ((l.drop k).map u8)
  rw [e1, List.map_drop]
  rwa [List.take_of_length_le (by simp)] at h1

/-! ### What the sum is -/
def be8 (m k : Nat) : List UInt8 := (List.range k).map fun i => UInt8.ofNat (m / 2 ^ (8 * (7 - i)))
theorem be8_length (m k : Nat) : (be8 m k).length = k := by simp [be8]
theorem be8_succ (m k : Nat) : be8 m (k + 1) = be8 m k ++ [UInt8.ofNat (m / 2 ^ (8 * (7 - k)))] := by simp [be8, List.range_succ]
def padz (n : Nat) : Nat := (119 - n % 64) % 64
def pad0 (l : List UInt8) (z : Nat) : List UInt8 := l ++ 128 :: List.replicate z 0
theorem pad0_length (l : List UInt8) (z : Nat) : (pad0 l z).length = l.length + 1 + z := by simp [pad0]; omega
theorem pad0_succ (l : List UInt8) (z : Nat) : pad0 l (z + 1) = pad0 l z ++ [0] := by simp [pad0, List.replicate_succ']
def pad (l : List UInt8) : List UInt8 := pad0 l (padz l.length) ++ be8 (8 * l.length) 8
theorem pad_length (l : List UInt8) : (pad l).length = l.length + 9 + padz l.length := by simp [pad, pad0_length, be8_length]; omega
theorem pad_mod (l : List UInt8) : (pad l).length % 64 = 0 := by rw [pad_length]; unfold padz; omega
def blkAt (m : List UInt8) (j i : Nat) : UInt8 := ((m.drop (64 * j)).take 64).getD i 0
def blk (m : List UInt8) (h : Nat → UInt32) : Nat → Nat → UInt32
  | 0 => h
  | j + 1 => comp (blk m h j) (blkAt m j)
def outB (h : Nat → UInt32) (i : Nat) : UInt8 := (h (i / 4) >>> UInt32.ofNat (24 - 8 * (i % 4))).toUInt8
def sumF (l : List UInt8) : Nat → UInt8 := outB (blk (pad l) sq ((pad l).length / 64))
def sumL (l : List UInt8) : B32 := ⟨(List.range 32).map (sumF l), by simp⟩
theorem sumL_v (l : List UInt8) : (sumL l).v = .agg (bcells 32 (sumF l)) := by simp [B32.v, B32.cells, sumL, bcells, Function.comp_def]

theorem r_shrI {P : Program} {σ : Env} {w : World} {t t' : TypeId} {x y : Operand} {a : UInt32} {k : IntKind} {b : Int} (s : Nat) (hx : ev σ x = some (u32 a)) (hy : ev σ y = some (.int k b)) (hb : b = s) (hs : s < 32) : V P σ (.binOp .shr t x y t') (u32 (a >>> UInt32.ofNat s)) w := by
  subst hb; exact r_shrU s hx hy hs
theorem padz_lt (n : Nat) : padz n < 64 := Nat.mod_lt _ (by decide)

theorem Sum_ok (v : Value) (l : List UInt8) (w : World) (X : Nat → Prop) (hG : GW w) (h : BytesR w X v l) (hl : l.length ≤ 500000) :
    Ret P 76 #[v] w (fun r w' => Ext w w' ∧ r = (sumL l).v) := by
  rw [sumL_v]
  obtain ⟨p, c, rfl⟩ := h.shape
  refine Ret.enter1 Tryz.func76 rfl Tryz.ntmps76 rfl ?_
  refine ZC.seq ?_; refine ZC.region ?_
  refine ZL.alloc (Mem.start w No) rfl rfl (fun br w1 M1 => ?_)
  rw [bcells_zero] at M1
  refine ZL.nil ?_; refine ZP.then ?_; refine ZC.seq ?_; refine ZC.region ?_; refine ZL.val (r_move rfl) rfl ?_; refine ZL.val (r_lenSlice rfl) rfl ?_; refine ZL.val (r_convInt rfl (wrap_u64 (by omega) (by omega))) rfl ?_
  refine ZL.val (r_mul rfl rfl (r := ((8 * l.length : Nat) : Int)) (by rw [wrap_u64 (by omega) (by omega)]; omega)) rfl ?_
  refine ZL.val (r_assign rfl) rfl ?_; refine ZL.nil ?_; refine ZP.then ?_; refine ZC.seq ?_; refine ZC.region ?_; refine ZL.val (r_move rfl) rfl ?_
  refine ZL.call (r_call rfl) rfl (clone_ok _ l w1 X (h.ext M1.ext) (by omega)) (fun v1 w2 ⟨E2, O2⟩ => ?_)
  refine ZL.call (r_call rfl) rfl (clip_ok v1 _ _ _ _ w2 O2.own) (fun v2 w3 hv => ?_)
  obtain ⟨rfl, O3, hb3⟩ := hv
  have N3 : BytesO w1 w2 v2 l := ⟨O3, fun g hg => O2.new g (hb3 ▸ hg)⟩
  have M3 := M1.addNew E2 N3
  refine ZL.bslice M3 rfl rfl rfl (by simp [Value.cells]) (by decide) rfl (fun g w4 M4 => ?_)
  refine ZL.append M4 rfl rfl (M4.own.slc (X := No) (fun _ _ h => h)) (by simp [Value.oneCell']) (by simp [maxLen]; omega) (by simp; omega) rfl (fun v5 w5 M5 => ?_)
  refine ZL.val (r_assign rfl) rfl ?_; refine ZL.nil ?_; refine ZP.then ?_; refine ZC.seq ?_; refine ZC.block ?_
  have M6 := M5.drop
  refine ZC.loop (X := Nat × Value) (fun x => [(4, x.2), (3, .int .u64 ((8 * l.length : Nat) : Int)), (2, .pointer (some ⟨br, 0, none⟩))])
    (fun x w' => x.1 ≤ padz l.length ∧ Mem w No [.own x.2 5 1 (pad0 l x.1).length ((pad0 l x.1).map u8), .blk br (.cells (bcells 32 fun _ => 0) 27)] w') (fun x => padz l.length - x.1) (0, v5) ⟨rfl, rfl, rfl, trivial⟩ ⟨by omega, by simpa [pad0, u8] using M6⟩ ?_
  rintro ⟨z, x⟩ w7 ⟨hz, M7⟩
  simp only at hz M7 ⊢
  have hz6 := padz_lt l.length
  obtain ⟨px, cx, rfl⟩ := M7.own.shape
  refine ZC.seq ?_; refine ZC.seq ?_; refine ZC.region ?_; refine ZL.val (r_move rfl) rfl ?_; refine ZL.val (r_lenSlice rfl) rfl ?_
  refine ZL.val (r_rem rfl rfl (by decide) (r := (((pad0 l z).length % 64 : Nat) : Int)) (by rw [Int.tmod_eq_emod_of_nonneg (by omega)]; omega)) rfl ?_
  refine ZL.val (r_neq rfl rfl) rfl ?_; refine ZL.nil ?_; refine ZP.then ?_
  refine ZC.condD rfl (fun hc => ?_) (fun hc => ?_)
  · have hz' : z < padz l.length := by
      rw [pad0_length] at hc
      unfold padz at hz ⊢
      omega
    refine ZC.skip ?_; refine ZP.then ?_; refine ZC.block ?_; refine ZC.region ?_; refine ZL.val (r_move rfl) rfl ?_
    refine ZL.bslice M7 rfl rfl rfl (by simp [Value.cells]) (by decide) rfl (fun g2 w8 M8 => ?_)
    refine ZL.append M8 rfl rfl (M8.own.slc (X := No) (fun _ _ h => h)) (by simp [Value.oneCell']) (by simp [maxLen, pad0_length]; omega) (by simp [pad0_length]; omega) rfl (fun v9 w9 M9 => ?_)
    refine ZL.val (r_assign rfl) rfl ?_; refine ZL.nil ?_; refine ZP.blockN ?_
    refine ZP.round (z + 1, v9) ⟨rfl, rfl, rfl, trivial⟩ ⟨by simp only; omega, ?_⟩ (by simp only; omega)
    have M10 := M9.drop
    simpa [pad0_succ, u8, pad0_length] using M10
  · have hz' : z = padz l.length := by
      rw [pad0_length] at hc
      unfold padz at hz ⊢
      omega
    subst hz'
    refine ZC.exit ?_; refine ZP.thenX ?_; refine ZP.thenX ?_; refine ZP.blockE ?_; refine ZP.then ?_; refine ZC.seq ?_; refine ZC.seq ?_; refine ZC.region ?_; refine ZL.val (r_assign rfl) rfl ?_; refine ZL.nil ?_; refine ZP.then ?_; refine ZC.block ?_
    refine ZC.loop (X := Nat × Value) (fun x => [(5, .int .i64 (7 - (x.1 : Int))), (4, x.2), (3, .int .u64 ((8 * l.length : Nat) : Int)), (2, .pointer (some ⟨br, 0, none⟩))])
      (fun x w' => x.1 ≤ 8 ∧ Mem w No [.own x.2 5 1 (pad0 l (padz l.length) ++ be8 (8 * l.length) x.1).length ((pad0 l (padz l.length) ++ be8 (8 * l.length) x.1).map u8), .blk br (.cells (bcells 32 fun _ => 0) 27)] w') (fun x => 8 - x.1) (0, .slice px (pad0 l (padz l.length)).length cx) ⟨rfl, rfl, rfl, rfl, trivial⟩ ⟨by omega, by simpa [be8] using M7⟩ ?_
    rintro ⟨k, x⟩ w8 ⟨hk, M8⟩
    simp only at hk M8 ⊢
    refine ZC.seq ?_; refine ZC.seq ?_; refine ZC.region ?_; refine ZL.val (r_move rfl) rfl ?_; refine ZL.val (r_geq rfl rfl) rfl ?_; refine ZL.nil ?_; refine ZP.then ?_
    refine ZC.condD rfl (fun hd => ?_) (fun hd => ?_)
    · have hk' : k < 8 := by omega
      refine ZC.skip ?_; refine ZP.then ?_; refine ZC.seq ?_; refine ZC.block ?_; refine ZC.region ?_; refine ZL.val (r_move rfl) rfl ?_; refine ZL.val (r_move rfl) rfl ?_; refine ZL.val (r_move rfl) rfl ?_; refine ZL.val (r_mul rfl rfl (wrap_i64 (by omega) (by omega))) rfl ?_
      refine ZL.val (r_shr rfl rfl (by omega) (r := ((8 * l.length / 2 ^ (8 * (7 - k)) : Nat) : Int)) (by
        have e : 8 * (7 - (k : Int)) = ((8 * (7 - k) : Nat) : Int) := by omega
        rw [e]
        exact shr_nat _ _ _ (by simp [IntKind.bits]; omega))) rfl ?_
      refine ZL.val (r_convInt rfl (wrap_u8_nat _)) rfl ?_
      refine ZL.bslice M8 rfl rfl rfl (by simp [Value.cells]) (by decide) rfl (fun g2 w9 M9 => ?_)
      refine ZL.append M9 rfl rfl (M9.own.slc (X := No) (fun _ _ h => h)) (by simp [Value.oneCell']) (by simp [maxLen, pad0_length, be8_length]; omega) (by simp [pad0_length, be8_length]; omega) rfl (fun v9 w10 M10 => ?_)
      refine ZL.val (r_assign rfl) rfl ?_; refine ZL.nil ?_; refine ZP.blockN ?_; refine ZP.then ?_; refine ZC.region ?_; refine ZL.val (r_move rfl) rfl ?_; refine ZL.val (r_sub rfl rfl (wrap_i64 (by omega) (by omega))) rfl ?_; refine ZL.val (r_assign rfl) rfl ?_; refine ZL.nil ?_
      refine ZP.round (k + 1, v9) ⟨?_, rfl, rfl, rfl, trivial⟩ ⟨by simp only; omega, ?_⟩ (by simp only; omega)
      · show some (Value.int .i64 (7 - (k : Int) - 1)) = some (Value.int .i64 (7 - ((k + 1 : Nat) : Int)))
        congr 2; omega
      · have M11 := M10.drop
        simpa [be8_succ, u8, Nat.add_assoc] using M11
    · have hk' : k = 8 := by omega
      subst hk'
      rw [show pad0 l (padz l.length) ++ be8 (8 * l.length) 8 = pad l from rfl] at M8
      have hpm := pad_mod l
      have hpl := pad_length l
      obtain ⟨px, cx, rfl⟩ := M8.own.shape
      have hG8 := hG.ext M8.ext
      obtain ⟨e, fz, hs⟩ := hG8.s
      refine ZC.exit ?_; refine ZP.thenX ?_; refine ZP.thenX ?_; refine ZP.blockE ?_; refine ZP.then ?_; refine ZC.seq ?_; refine ZC.region ?_
      refine ZL.val (r_loadW rfl hs (wcells_size _ _)) rfl ?_
      refine ZL.alloc M8 rfl rfl (fun bh w9 M9 => ?_)
      refine ZL.stW M9 rfl rfl (cs' := wcells 8 sq) rfl (by simp) (wcells_size _ _) (wcells_one _ _) (fun w10 M10 => ?_)
      have M11 := M10.swap.freeze
      obtain ⟨M11, SL⟩ := M11
      have hback := fun w' he => M10.swap.back (L' := [.blk bh (.cells (wcells 8 sq) 103), .blk br (.cells (bcells 32 fun _ => 0) 27)]) (w' := w') (fun c hc => List.mem_cons_of_mem _ hc) he
      have SL0 : BytesR w10 _ (.slice px (pad l).length cx) (pad l) := SL
      have hG10 : GW w10 := hG.ext M10.ext
      generalize fpIn [.blk bh (.cells (wcells 8 sq) 103), .blk br (.cells (bcells 32 fun _ => 0) 27)] = Y at M11 hback SL0
      refine ZL.nil ?_; refine ZP.then ?_; refine ZC.seq ?_; refine ZC.block ?_
      refine ZC.loop (X := Nat × Value) (fun x => [(4, x.2), (6, .pointer (some ⟨bh, 0, none⟩)), (2, .pointer (some ⟨br, 0, none⟩))])
        (fun x w' => BytesR w10 Y x.2 ((pad l).drop (64 * x.1)) ∧ 64 * x.1 ≤ (pad l).length ∧ Mem w10 Y [.blk bh (.cells (wcells 8 (blk (pad l) sq x.1)) 103), .blk br (.cells (bcells 32 fun _ => 0) 27)] w') (fun x => (pad l).length - 64 * x.1) (0, .slice px (pad l).length cx) ⟨rfl, rfl, rfl, trivial⟩ ⟨by simpa using SL0, by omega, M11⟩ ?_
      rintro ⟨j, x⟩ w12 ⟨hx, hj, M12⟩
      simp only at hx hj M12 ⊢
      obtain ⟨pj, cj, rfl⟩ := hx.shape
      have hcap := SlC.cap hx
      have hdl : ((pad l).drop (64 * j)).length = (pad l).length - 64 * j := by simp
      refine ZC.seq ?_; refine ZC.seq ?_; refine ZC.region ?_; refine ZL.val (r_move rfl) rfl ?_; refine ZL.val (r_lenSlice rfl) rfl ?_; refine ZL.val (r_gtr rfl rfl) rfl ?_; refine ZL.nil ?_; refine ZP.then ?_
      refine ZC.condD rfl (fun hd2 => ?_) (fun hd2 => ?_)
      · have hj' : 64 * (j + 1) ≤ (pad l).length := by omega
        refine ZC.skip ?_; refine ZP.then ?_; refine ZC.seq ?_; refine ZC.block ?_
        refine ZC.tail 3 (by kernel_rfl) rfl rfl (fun w13 E13 _ => ?_)
        have M13 := M12.ext' E13
        refine ZS.val (r_ldW M13 rfl (wcells_size _ _)) rfl ?_
        refine ZS.val (r_move rfl) rfl ?_
        refine ZS.val (r_sliceTo rfl rfl (by decide) (by omega)) rfl ?_
        refine ZS.tail ?_
        have hx64 := BytesR.to hx (k := 64) (by omega)
        refine ZL.call (r_call rfl) rfl (mix_ok (blk (pad l) sq j) _ (((pad l).drop (64 * j)).take 64) w13 Y (hG.ext (hback _ M13.ext)) (SlC.move hx64 M13.ext (fun _ _ h => h) (fun _ _ h => h)) (by simp; omega)) (fun v14 w14 ⟨E14, hv⟩ => ?_)
        subst hv
        have M14 := M13.ext' E14
        refine ZL.stW M14 rfl rfl (cs' := wcells 8 (blk (pad l) sq (j + 1))) rfl (wcells_size _ _) (wcells_size _ _) (wcells_one _ _) (fun w15 M15 => ?_)
        refine ZL.nil ?_; refine ZP.blockN ?_; refine ZP.then ?_; refine ZC.region ?_; refine ZL.val (r_move rfl) rfl ?_
        refine ZL.val (r_sliceFrom rfl rfl (by decide) (by omega)) rfl ?_
        refine ZL.val (r_assign rfl) rfl ?_; refine ZL.nil ?_
        have hx2 := BytesR.from hx (k := 64) (by omega)
        rw [List.drop_drop, show 64 * j + 64 = 64 * (j + 1) by omega] at hx2
        exact ZP.round (j + 1, _) ⟨rfl, rfl, rfl, trivial⟩ ⟨hx2, hj', M15⟩ (by simp only; omega)
      · have hj' : 64 * j = (pad l).length := by omega
        have hjd : j = (pad l).length / 64 := by omega
        subst hjd
        refine ZC.exit ?_; refine ZP.thenX ?_; refine ZP.thenX ?_; refine ZP.blockE ?_; refine ZP.then ?_; refine ZC.seq ?_; refine ZC.region ?_
        rw [← bcells_zero] at M12
        refine ZL.alloc M12 rfl rfl (fun bo w13 M13 => ?_)
        refine ZL.nil ?_; refine ZP.then ?_; refine ZC.seq ?_; refine ZC.seq ?_; refine ZC.region ?_; refine ZL.val (r_move rfl) rfl ?_; refine ZL.nil ?_; refine ZP.then ?_; refine ZC.block ?_
        generalize hH : blk (pad l) sq ((pad l).length / 64) = H at M13
        have hout : outB H = sumF l := by rw [← hH]; rfl
        rw [bcells_zero] at M13
        refine ZC.loop (X := Nat) (fun k => [(47, .int .i64 k), (7, .pointer (some ⟨bo, 0, none⟩)), (6, .pointer (some ⟨bh, 0, none⟩)), (2, .pointer (some ⟨br, 0, none⟩))])
          (fun k w' => k ≤ 32 ∧ Mem w10 Y [.blk bo (.cells (bcells 32 fun i => if i < k then outB H i else 0) 27), .blk bh (.cells (wcells 8 H) 103), .blk br (.cells (bcells 32 fun _ => 0) 27)] w') (fun k => 32 - k) 0 ⟨rfl, rfl, rfl, rfl, trivial⟩ ⟨by omega, by simpa using M13⟩ ?_
        rintro k w14 ⟨hk, M14⟩
        refine ZC.seq ?_; refine ZC.region ?_; refine ZL.val (r_lss rfl rfl) rfl ?_; refine ZL.nil ?_; refine ZP.then ?_; refine ZC.seq ?_
        refine ZC.condD rfl (fun he => ?_) (fun he => ?_)
        · have hk' : k < 32 := by omega
          refine ZC.skip ?_; refine ZP.then ?_; refine ZC.seq ?_; refine ZC.block ?_; refine ZC.seq ?_; refine ZC.region ?_; refine ZL.val (r_move rfl) rfl ?_; refine ZL.val (r_assign rfl) rfl ?_; refine ZL.nil ?_; refine ZP.then ?_; refine ZC.region ?_; refine ZL.val (r_move rfl) rfl ?_; refine ZL.val (r_move rfl) rfl ?_
          refine ZL.val (r_quo rfl rfl (by decide) (r := ((k / 4 : Nat) : Int)) (by rw [Int.tdiv_eq_ediv_of_nonneg (by omega), wrap_i64 (by omega) (by omega)]; omega)) rfl ?_
          refine ZL.val (r_idxA (k / 4) rfl rfl rfl (by omega)) rfl ?_
          refine ZL.val (r_ld M14 rfl (nthW (i := k / 4) (by omega) (by omega))) rfl ?_
          refine ZL.val (r_move rfl) rfl ?_
          refine ZL.val (r_rem rfl rfl (by decide) (r := ((k % 4 : Nat) : Int)) (by rw [Int.tmod_eq_emod_of_nonneg (by omega)]; omega)) rfl ?_
          refine ZL.val (r_mul rfl rfl (wrap_i64 (by omega) (by omega))) rfl ?_; refine ZL.val (r_sub rfl rfl (wrap_i64 (by omega) (by omega))) rfl ?_
          refine ZL.val (r_shrI (24 - 8 * (k % 4)) rfl rfl (by omega) (by omega)) rfl ?_
          refine ZL.val (r_convB rfl) rfl ?_
          refine ZL.val (r_idxA k rfl rfl rfl (by omega)) rfl ?_
          refine ZL.stB k M14 rfl rfl (by omega) (by omega) (fun w15 M15 => ?_)
          refine ZL.nil ?_; refine ZP.blockN ?_; refine ZP.then ?_; refine ZC.region ?_; refine ZL.val (r_add rfl rfl (wrap_i64 (by omega) (by omega))) rfl ?_; refine ZL.val (r_move rfl) rfl ?_; refine ZL.nil ?_
          refine ZP.round (k + 1) ⟨rfl, rfl, rfl, rfl, trivial⟩ ⟨by omega, ?_⟩ (by omega)
          rwa [bcells_congr (g := fun i => if i < k + 1 then outB H i else 0)] at M15
          intro i hi
          simp only [updB]
          by_cases h1 : i = k
          · subst h1; simp [outB]
          · simp only [h1, if_false]
            by_cases h2 : i < k
            · simp [h2, show i < k + 1 by omega]
            · simp [h2, show ¬ i < k + 1 by omega]
        · have hk' : k = 32 := by omega
          subst hk'
          rw [bcells_congr (g := sumF l) (fun i hi => by simp [hi, hout])] at M14
          refine ZC.exit ?_; refine ZP.thenX ?_; refine ZP.thenX ?_; refine ZP.blockE ?_; refine ZP.then ?_; refine ZC.seq ?_; refine ZC.region ?_
          refine ZL.val (r_ldW M14 rfl (bcells_size _ _)) rfl ?_
          refine ZL.stW M14 rfl rfl (cs' := bcells 32 (sumF l)) rfl (by simp [bcells]) (bcells_size _ _) (bcells_one _ _) (fun w15 M15 => ?_)
          refine ZL.nil ?_; refine ZP.then ?_; refine ZC.ret ?_
          exact ZP.retC rfl rfl (M15.get inferInstance) (bcells_size _ _) ⟨hback _ M15.ext, rfl⟩
end Go.Proofs.YtibobcjfjnoclaaGreatDoor.Z
end
section
/- The sum of the sum. -/
set_option linter.unusedVariables false
set_option linter.unusedSimpArgs false
set_option linter.unusedSectionVars false
set_option maxRecDepth 100000
set_option maxHeartbeats 4000000
namespace Go.Proofs.YtibobcjfjnoclaaGreatDoor.Z
open Go Go.RowKit

theorem B32.size (x : B32) : x.cells.toArray.size = 32 := by simp [B32.cells, x.property]
theorem B32.one (x : B32) : x.cells.toArray.toList.all Value.oneCell' = true := by simp [B32.cells, u8, Value.oneCell']
/-- An array's bytes, as a slice. -/
theorem Mem.slArr {w0 w : World} {X Y : Nat → Prop} {L : List Chunk} {b : Nat} {x : B32} {t : TypeId} {fz : Nat × Nat} (h : Mem w0 X L w) (i : In L b (.cells x.cells.toArray t fz)) (hb : ¬ Y b) : BytesR w Y (.slice (some ⟨b, 0, none⟩) 32 32) x.val := by
  refine ⟨by simp, .inr ⟨b, 0, 32, x.cells.toArray, t, fz, by rw [x.property], hb, h.get i, by rw [x.property]; omega, by decide, fun i u hu => ?_⟩⟩
  simpa [B32.cells] using hu

def twice (l : List UInt8) : B32 := sumL (sumL l).val

theorem Twice_ok (v : Value) (l : List UInt8) (w : World) (X : Nat → Prop) (hG : GW w) (h : BytesR w X v l) (hl : l.length ≤ 500000) :
    Ret P 49 #[v] w (fun r w' => Ext w w' ∧ r = (twice l).v) := by
  refine Ret.enter1 Tryz.func49 rfl Tryz.ntmps49 rfl ?_
  refine ZC.seq ?_; refine ZC.region ?_
  refine ZL.alloc (Mem.start w No) rfl rfl (fun br w1 M1 => ?_)
  refine ZL.nil ?_; refine ZP.then ?_; refine ZC.seq ?_; refine ZC.region ?_; refine ZL.val (r_move rfl) rfl ?_
  refine ZL.call (r_call rfl) rfl (Sum_ok _ l w1 X (hG.ext M1.ext) (h.ext M1.ext) hl) (fun v2 w2 ⟨E2, hv⟩ => ?_)
  subst hv
  have M2 := M1.ext' E2
  refine ZL.alloc M2 rfl rfl (fun bx w3 M3 => ?_)
  refine ZL.stW M3 rfl rfl (cs' := (sumL l).cells.toArray) rfl (by simp) (B32.size _) (B32.one _) (fun w4 M4 => ?_)
  refine ZL.nil ?_; refine ZP.then ?_; refine ZC.seq ?_; refine ZC.region ?_
  refine ZL.val (r_sliceArr rfl) rfl ?_
  refine ZL.call (r_call rfl) rfl (Sum_ok _ (sumL l).val w4 No (hG.ext M4.ext) (M4.slArr (x := sumL l) inferInstance id) (by simp [(sumL l).property])) (fun v5 w5 ⟨E5, hv⟩ => ?_)
  subst hv
  have M5 := M4.ext' E5
  refine ZL.stW M5 rfl rfl (cs' := (twice l).cells.toArray) rfl (by simp) (B32.size _) (B32.one _) (fun w6 M6 => ?_)
  refine ZL.nil ?_; refine ZP.then ?_; refine ZC.ret ?_
  exact ZP.retC rfl rfl (M6.get inferInstance) (B32.size _) ⟨M6.ext, rfl⟩
end Go.Proofs.YtibobcjfjnoclaaGreatDoor.Z
end
section
/- The document's sum. -/
set_option linter.unusedVariables false
set_option linter.unusedSimpArgs false
set_option linter.unusedSectionVars false
set_option maxRecDepth 100000
set_option maxHeartbeats 8000000
namespace Go.Proofs.YtibobcjfjnoclaaGreatDoor.Z
open Go Go.RowKit

theorem numbers_ok (w : World) : Ret P 67 #[] w (fun r w' => Ext w w' ∧ r = .agg (wcells 64 kc)) := by
  refine Ret.enter0 Tryz.func67 rfl Tryz.ntmps67 rfl ?_
  refine ZC.seq ?_; refine ZC.region ?_
  refine ZL.alloc (Mem.start w No) rfl rfl (fun br w1 M1 => ?_)
  refine ZL.nil ?_; refine ZP.then ?_; refine ZC.seq ?_; refine ZC.region ?_
  refine ZL.val (r_buildArr rfl rfl (cs := (List.range 64).map fun i => u32 (kc i)) rfl) rfl ?_
  refine ZL.stW M1 rfl rfl (cs' := wcells 64 kc) rfl (by simp) (wcells_size _ _) (wcells_one _ _) (fun w2 M2 => ?_)
  refine ZL.nil ?_; refine ZP.then ?_; refine ZC.ret ?_
  exact ZP.retC rfl rfl (M2.get inferInstance) (wcells_size _ _) ⟨M2.ext, rfl⟩

theorem blkAt_get (m : List UInt8) (j i : Nat) (hi : i < 64) (hm : 64 * (j + 1) ≤ m.length) : m[64 * j + i]? = some (blkAt m j i) := by
  have h1 : 64 * j + i < m.length := by omega
  simp [blkAt, List.getD, List.getElem?_take, List.getElem?_drop, hi, h1]

theorem r_convU64 {P : Program} {σ : Env} {w : World} {s d : TypeId} {ds : TypeDesc} {k : IntKind} {x : Operand} {a : Int} (n : Nat) [TU P s ds] [TU P d (.int .u64)] (hx : ev σ x = some (.int k a)) (ha : a = n) (hn : n < 18446744073709551616) : V P σ (.convert s d x) (.int .u64 (n : Int)) w := by
  subst ha; exact r_convInt hx (wrap_u64 (by omega) (by omega))

theorem refSum_ok (v : Value) (l : List UInt8) (w : World) (X : Nat → Prop) (h : BytesR w X v l) (hl : l.length ≤ 500000) :
    Ret P 40 #[v] w (fun r w' => Ext w w' ∧ r = (sumL l).v) := by
  rw [sumL_v]
  obtain ⟨p, c, rfl⟩ := h.shape
  refine Ret.enter1 Tryz.func40 rfl Tryz.ntmps40 rfl ?_
  refine ZC.seq ?_; refine ZC.region ?_
  refine ZL.alloc (Mem.start w No) rfl rfl (fun br w1 M1 => ?_)
  rw [bcells_zero] at M1
  refine ZL.nil ?_; refine ZP.then ?_; refine ZC.seq ?_; refine ZC.region ?_
  refine ZL.bslice M1 rfl rfl rfl (by simp) (by decide) rfl (fun g0 w2 M2 => ?_)
  refine ZL.val (r_move rfl) rfl ?_
  refine ZL.append M2 rfl rfl (h.ext M2.ext) (u8_one l) (by simp only [maxLen]; omega) (by omega) rfl (fun v3 w3 M3 => ?_)
  refine ZL.bslice M3 rfl rfl rfl (by simp [Value.cells]) (by decide) rfl (fun g w4 M4 => ?_)
  refine ZL.append M4 rfl rfl (M4.own.slc (X := No) (fun _ _ h => h)) (by simp [Value.oneCell']) (by simp only [maxLen]; omega) (by omega) rfl (fun v5 w5 M5 => ?_)
  refine ZL.val (r_assign rfl) rfl ?_; refine ZL.nil ?_; refine ZP.then ?_; refine ZC.seq ?_; refine ZC.block ?_
  have M6 := M5.drop
  refine ZC.loop (X := Nat × Value) (fun x => [(3, x.2), (2, .pointer (some ⟨br, 0, none⟩)), (0, .slice p l.length c)])
    (fun x w' => x.1 ≤ padz l.length ∧ Mem w No [.own x.2 5 1 (pad0 l x.1).length ((pad0 l x.1).map u8), .blk br (.cells (bcells 32 fun _ => 0) 27)] w') (fun x => padz l.length - x.1) (0, v5) ⟨rfl, rfl, rfl, trivial⟩ ⟨by omega, by simpa [pad0, u8] using M6⟩ ?_
  rintro ⟨z, x⟩ w7 ⟨hz, M7⟩
  simp only at hz M7 ⊢
  have hz6 := padz_lt l.length
  obtain ⟨px, cx, rfl⟩ := M7.own.shape
  refine ZC.seq ?_; refine ZC.seq ?_; refine ZC.region ?_; refine ZL.val (r_move rfl) rfl ?_; refine ZL.val (r_lenSlice rfl) rfl ?_
  refine ZL.val (r_rem rfl rfl (by decide) (r := (((pad0 l z).length % 64 : Nat) : Int)) (by rw [Int.tmod_eq_emod_of_nonneg (by omega)]; omega)) rfl ?_
  refine ZL.val (r_neq rfl rfl) rfl ?_; refine ZL.nil ?_; refine ZP.then ?_
  refine ZC.condD rfl (fun hc => ?_) (fun hc => ?_)
  · have hz' : z < padz l.length := by
      rw [pad0_length] at hc
      unfold padz at hz ⊢
      omega
    refine ZC.skip ?_; refine ZP.then ?_; refine ZC.block ?_; refine ZC.region ?_; refine ZL.val (r_move rfl) rfl ?_
    refine ZL.bslice M7 rfl rfl rfl (by simp [Value.cells]) (by decide) rfl (fun g2 w8 M8 => ?_)
    refine ZL.append M8 rfl rfl (M8.own.slc (X := No) (fun _ _ h => h)) (by simp [Value.oneCell']) (by simp [maxLen, pad0_length]; omega) (by simp [pad0_length]; omega) rfl (fun v9 w9 M9 => ?_)
    refine ZL.val (r_assign rfl) rfl ?_; refine ZL.nil ?_; refine ZP.blockN ?_
    refine ZP.round (z + 1, v9) ⟨rfl, rfl, rfl, trivial⟩ ⟨by simp only; omega, ?_⟩ (by simp only; omega)
    have M10 := M9.drop
    simpa [pad0_succ, u8, pad0_length] using M10
  · have hz' : z = padz l.length := by
      rw [pad0_length] at hc
      unfold padz at hz ⊢
      omega
    subst hz'
    refine ZC.exit ?_; refine ZP.thenX ?_; refine ZP.thenX ?_; refine ZP.blockE ?_; refine ZP.then ?_; refine ZC.seq ?_; refine ZC.region ?_; refine ZL.val (r_move rfl) rfl ?_; refine ZL.val (r_lenSlice rfl) rfl ?_; refine ZL.val (r_convInt rfl (wrap_u64 (by omega) (by omega))) rfl ?_
    refine ZL.val (r_mul rfl rfl (r := ((8 * l.length : Nat) : Int)) (by rw [wrap_u64 (by omega) (by omega)]; omega)) rfl ?_
    refine ZL.val (r_assign rfl) rfl ?_; refine ZL.nil ?_; refine ZP.then ?_; refine ZC.seq ?_; refine ZC.seq ?_; refine ZC.region ?_; refine ZL.val (r_assign rfl) rfl ?_; refine ZL.nil ?_; refine ZP.then ?_; refine ZC.block ?_
    refine ZC.loop (X := Nat × Value) (fun x => [(5, .int .i64 (7 - (x.1 : Int))), (3, x.2), (4, .int .u64 ((8 * l.length : Nat) : Int)), (2, .pointer (some ⟨br, 0, none⟩))])
      (fun x w' => x.1 ≤ 8 ∧ Mem w No [.own x.2 5 1 (pad0 l (padz l.length) ++ be8 (8 * l.length) x.1).length ((pad0 l (padz l.length) ++ be8 (8 * l.length) x.1).map u8), .blk br (.cells (bcells 32 fun _ => 0) 27)] w') (fun x => 8 - x.1) (0, .slice px (pad0 l (padz l.length)).length cx) ⟨rfl, rfl, rfl, rfl, trivial⟩ ⟨by omega, by simpa [be8] using M7⟩ ?_
    rintro ⟨k, x⟩ w8 ⟨hk, M8⟩
    simp only at hk M8 ⊢
    refine ZC.seq ?_; refine ZC.seq ?_; refine ZC.region ?_; refine ZL.val (r_move rfl) rfl ?_; refine ZL.val (r_geq rfl rfl) rfl ?_; refine ZL.nil ?_; refine ZP.then ?_
    refine ZC.condD rfl (fun hd => ?_) (fun hd => ?_)
    · have hk' : k < 8 := by omega
      refine ZC.skip ?_; refine ZP.then ?_; refine ZC.seq ?_; refine ZC.block ?_; refine ZC.region ?_; refine ZL.val (r_move rfl) rfl ?_; refine ZL.val (r_move rfl) rfl ?_; refine ZL.val (r_move rfl) rfl ?_; refine ZL.val (r_mul rfl rfl (wrap_i64 (by omega) (by omega))) rfl ?_; refine ZL.val (r_convInt rfl (wrap_u64 (by omega) (by omega))) rfl ?_
      refine ZL.val (r_shr rfl rfl (by omega) (r := ((8 * l.length / 2 ^ (8 * (7 - k)) : Nat) : Int)) (by
        have e : 8 * (7 - (k : Int)) = ((8 * (7 - k) : Nat) : Int) := by omega
        rw [e]
        exact shr_nat _ _ _ (by simp [IntKind.bits]; omega))) rfl ?_
      refine ZL.val (r_convInt rfl (wrap_u8_nat _)) rfl ?_
      refine ZL.bslice M8 rfl rfl rfl (by simp [Value.cells]) (by decide) rfl (fun g2 w9 M9 => ?_)
      refine ZL.append M9 rfl rfl (M9.own.slc (X := No) (fun _ _ h => h)) (by simp [Value.oneCell']) (by simp [maxLen, pad0_length, be8_length]; omega) (by simp [pad0_length, be8_length]; omega) rfl (fun v9 w10 M10 => ?_)
      refine ZL.val (r_assign rfl) rfl ?_; refine ZL.nil ?_; refine ZP.blockN ?_; refine ZP.then ?_; refine ZC.region ?_; refine ZL.val (r_move rfl) rfl ?_; refine ZL.val (r_sub rfl rfl (wrap_i64 (by omega) (by omega))) rfl ?_; refine ZL.val (r_assign rfl) rfl ?_; refine ZL.nil ?_
      refine ZP.round (k + 1, v9) ⟨?_, rfl, rfl, rfl, trivial⟩ ⟨by simp only; omega, ?_⟩ (by simp only; omega)
      · show some (Value.int .i64 (7 - (k : Int) - 1)) = some (Value.int .i64 (7 - ((k + 1 : Nat) : Int)))
        congr 2; omega
      · have M11 := M10.drop
        simpa [be8_succ, u8, Nat.add_assoc] using M11
    · have hk' : k = 8 := by omega
      subst hk'
      rw [show pad0 l (padz l.length) ++ be8 (8 * l.length) 8 = pad l from rfl] at M8
      have hpm := pad_mod l
      have hpl := pad_length l
      obtain ⟨px, cx, rfl⟩ := M8.own.shape
      obtain ⟨M9, SL⟩ := M8.freeze
      have hback := fun w' he => M8.back (L' := [.blk br (.cells (bcells 32 fun _ => 0) 27)]) (w' := w') (fun c hc => List.mem_cons_of_mem _ hc) he
      have SL0 : BytesR w8 _ (.slice px (pad l).length cx) (pad l) := SL
      generalize fpIn [.blk br (.cells (bcells 32 fun _ => 0) 27)] = Y at M9 hback SL0
      obtain ⟨gm, om, cm, em, fm, rfl, hgm, hym, hbm⟩ := bytesAt SL0 (by omega)
      have hb' : ∀ i j, i < (pad l).length → j = om + i * 1 → cm[j]? = some (u8 ((pad l).getD i 0)) := fun i j hi hj => by rw [hj, ← nth_eq, hbm i hi]
      refine ZC.exit ?_; refine ZP.thenX ?_; refine ZP.thenX ?_; refine ZP.blockE ?_; refine ZP.then ?_; refine ZC.seq ?_; refine ZC.region ?_
      refine ZL.call (r_call rfl) rfl (numbers_ok w8) (fun v10 w10 ⟨E10, hv⟩ => ?_)
      subst hv
      have M10 := M9.ext' E10
      refine ZL.alloc M10 rfl rfl (fun bk w11 M11 => ?_)
      refine ZL.stW M11 rfl rfl (cs' := wcells 64 kc) rfl (by simp) (wcells_size _ _) (wcells_one _ _) (fun w12 M12 => ?_)
      refine ZL.nil ?_; refine ZP.then ?_; refine ZC.seq ?_; refine ZC.region ?_
      refine ZL.val (r_buildArr rfl rfl (cs := (List.range 8).map fun i => u32 (sq i)) rfl) rfl ?_
      refine ZL.alloc M12 rfl rfl (fun bh w13 M13 => ?_)
      refine ZL.stW M13 rfl rfl (cs' := wcells 8 sq) rfl (by simp) (wcells_size _ _) (wcells_one _ _) (fun w14 M14 => ?_)
      refine ZL.nil ?_; refine ZP.then ?_; refine ZC.seq ?_; refine ZC.seq ?_; refine ZC.region ?_; refine ZL.val (r_assign rfl) rfl ?_; refine ZL.nil ?_; refine ZP.then ?_; refine ZC.block ?_
      refine ZC.loop (X := Nat) (fun j => [(8, .int .i64 ((64 * j : Nat) : Int)), (3, .slice (some ⟨gm, om, none⟩) (pad l).length cx), (7, .pointer (some ⟨bh, 0, none⟩)), (6, .pointer (some ⟨bk, 0, none⟩)), (2, .pointer (some ⟨br, 0, none⟩))])
        (fun j w' => 64 * j ≤ (pad l).length ∧ Mem w8 Y [.blk bh (.cells (wcells 8 (blk (pad l) sq j)) 103), .blk bk (.cells (wcells 64 kc) 101), .blk br (.cells (bcells 32 fun _ => 0) 27)] w') (fun j => (pad l).length - 64 * j) 0 ⟨rfl, rfl, rfl, rfl, rfl, trivial⟩ ⟨by omega, M14⟩ ?_
      rintro j w15 ⟨hj, M15⟩
      refine ZC.seq ?_; refine ZC.seq ?_; refine ZC.region ?_; refine ZL.val (r_move rfl) rfl ?_; refine ZL.val (r_move rfl) rfl ?_; refine ZL.val (r_lenSlice rfl) rfl ?_; refine ZL.val (r_lss rfl rfl) rfl ?_; refine ZL.nil ?_; refine ZP.then ?_
      refine ZC.condD rfl (fun he => ?_) (fun he => ?_)
      · have hj' : 64 * (j + 1) ≤ (pad l).length := by omega
        generalize hH : blk (pad l) sq j = H at M15
        refine ZC.skip ?_; refine ZP.then ?_; refine ZC.seq ?_; refine ZC.block ?_; refine ZC.seq ?_; refine ZC.region ?_
        generalize hgb : blkAt (pad l) j = gb
        have hb : ∀ i q, i < 64 → q = om + (64 * j + i) * 1 → cm[q]? = some (u8 (gb i)) := fun i q hi hq => by
          rw [hb' (64 * j + i) q (by omega) hq, ← hgb, List.getD_eq_getElem?_getD, blkAt_get _ _ _ hi hj']; rfl
        refine ZL.alloc M15 rfl rfl (fun bw w16 M16 => ?_)
        rw [wcells_zero, show wcells 64 (fun _ => 0) = wcells 64 (sched gb 0) from rfl] at M16
        refine ZL.nil ?_; refine ZP.then ?_; refine ZC.seq ?_; refine ZC.seq ?_; refine ZC.region ?_; refine ZL.val (r_assign rfl) rfl ?_; refine ZL.nil ?_; refine ZP.then ?_; refine ZC.block ?_
        refine ZC.loop (X := Nat) (fun k => [(10, .int .i64 k), (9, .pointer (some ⟨bw, 0, none⟩)), (8, .int .i64 ((64 * j : Nat) : Int)), (3, .slice (some ⟨gm, om, none⟩) (pad l).length cx), (7, .pointer (some ⟨bh, 0, none⟩)), (6, .pointer (some ⟨bk, 0, none⟩)), (2, .pointer (some ⟨br, 0, none⟩))])
          (fun k w' => k ≤ 16 ∧ Mem w8 Y [.blk bw (.cells (wcells 64 (sched gb k)) 101), .blk bh (.cells (wcells 8 H) 103), .blk bk (.cells (wcells 64 kc) 101), .blk br (.cells (bcells 32 fun _ => 0) 27)] w') (fun k => 16 - k) 0 ⟨rfl, rfl, rfl, rfl, rfl, rfl, rfl, trivial⟩ ⟨by omega, M16⟩ ?_
        rintro k w17 ⟨hk, M17⟩
        refine ZC.seq ?_; refine ZC.seq ?_; refine ZC.region ?_; refine ZL.val (r_move rfl) rfl ?_; refine ZL.val (r_lss rfl rfl) rfl ?_; refine ZL.nil ?_; refine ZP.then ?_
        refine ZC.condD rfl (fun hf => ?_) (fun hf => ?_)
        · have hk' : k < 16 := by omega
          refine ZC.skip ?_; refine ZP.then ?_; refine ZC.seq ?_; refine ZC.block ?_; refine ZC.seq ?_; refine ZC.region ?_; refine ZL.val (r_move rfl) rfl ?_; refine ZL.val (r_move rfl) rfl ?_; refine ZL.val (r_mul rfl rfl (wrap_i64 (by omega) (by omega))) rfl ?_; refine ZL.val (r_add rfl rfl (wrap_i64 (by omega) (by omega))) rfl ?_; refine ZL.val (r_assign rfl) rfl ?_; refine ZL.nil ?_; refine ZP.then ?_
          refine ZC.tail 31 (by kernel_rfl) rfl rfl (fun w18 E18 _ => ?_)
          have M18 := M17.ext' E18
          have hg := M18.ext.at hgm hym
          refine ZS.val (r_move rfl) rfl ?_; refine ZS.val (r_move rfl) rfl ?_; refine ZS.val (r_move rfl) rfl ?_
          refine ZS.val (r_idxS (64 * j + 4 * k) rfl rfl (by omega) (by omega)) rfl ?_
          refine ZS.val (r_load1 rfl hg (hb (4 * k) _ (by omega) (by omega))) rfl ?_
          refine ZS.val (r_convU rfl) rfl ?_
          refine ZS.val (r_shlU 24 rfl rfl (by decide)) rfl ?_
          refine ZS.val (r_move rfl) rfl ?_; refine ZS.val (r_move rfl) rfl ?_; refine ZS.val (r_add rfl rfl (wrap_i64 (by omega) (by omega))) rfl ?_
          refine ZS.val (r_idxS (64 * j + (4 * k + 1)) rfl rfl (by omega) (by omega)) rfl ?_
          refine ZS.val (r_load1 rfl hg (hb (4 * k + 1) _ (by omega) (by omega))) rfl ?_
          refine ZS.val (r_convU rfl) rfl ?_
          refine ZS.val (r_shlU 16 rfl rfl (by decide)) rfl ?_
          refine ZS.val (r_orU rfl rfl) rfl ?_; refine ZS.val (r_move rfl) rfl ?_; refine ZS.val (r_move rfl) rfl ?_; refine ZS.val (r_add rfl rfl (wrap_i64 (by omega) (by omega))) rfl ?_
          refine ZS.val (r_idxS (64 * j + (4 * k + 2)) rfl rfl (by omega) (by omega)) rfl ?_
          refine ZS.val (r_load1 rfl hg (hb (4 * k + 2) _ (by omega) (by omega))) rfl ?_
          refine ZS.val (r_convU rfl) rfl ?_
          refine ZS.val (r_shlU 8 rfl rfl (by decide)) rfl ?_
          refine ZS.val (r_orU rfl rfl) rfl ?_; refine ZS.val (r_move rfl) rfl ?_; refine ZS.val (r_move rfl) rfl ?_; refine ZS.val (r_add rfl rfl (wrap_i64 (by omega) (by omega))) rfl ?_
          refine ZS.val (r_idxS (64 * j + (4 * k + 3)) rfl rfl (by omega) (by omega)) rfl ?_
          refine ZS.val (r_load1 rfl hg (hb (4 * k + 3) _ (by omega) (by omega))) rfl ?_
          refine ZS.val (r_convU rfl) rfl ?_; refine ZS.val (r_orU rfl rfl) rfl ?_
          refine ZS.val (r_idxA k rfl rfl (by omega) (by omega)) rfl ?_
          refine ZS.tail ?_
          refine ZL.stU k M18 rfl rfl (by omega) (by omega) (fun w19 M19 => ?_)
          refine ZL.nil ?_; refine ZP.blockN ?_; refine ZP.then ?_; refine ZC.region ?_; refine ZL.val (r_move rfl) rfl ?_; refine ZL.val (r_add rfl rfl (wrap_i64 (by omega) (by omega))) rfl ?_; refine ZL.val (r_assign rfl) rfl ?_; refine ZL.nil ?_
          refine ZP.round (k + 1) ⟨rfl, rfl, rfl, rfl, rfl, rfl, rfl, trivial⟩ ⟨by omega, ?_⟩ (by omega)
          simp only [sched, nxt, if_pos hk', be32]
          exact M19
        · have hk' : k = 16 := by omega
          subst hk'
          refine ZC.exit ?_; refine ZP.thenX ?_; refine ZP.thenX ?_; refine ZP.blockE ?_; refine ZP.then ?_; refine ZC.seq ?_; refine ZC.seq ?_; refine ZC.region ?_; refine ZL.val (r_assign rfl) rfl ?_; refine ZL.nil ?_; refine ZP.then ?_; refine ZC.block ?_
          refine ZC.loop (X := Nat) (fun k => [(12, .int .i64 k), (9, .pointer (some ⟨bw, 0, none⟩)), (8, .int .i64 ((64 * j : Nat) : Int)), (3, .slice (some ⟨gm, om, none⟩) (pad l).length cx), (7, .pointer (some ⟨bh, 0, none⟩)), (6, .pointer (some ⟨bk, 0, none⟩)), (2, .pointer (some ⟨br, 0, none⟩))])
            (fun k w' => 16 ≤ k ∧ k ≤ 64 ∧ Mem w8 Y [.blk bw (.cells (wcells 64 (sched gb k)) 101), .blk bh (.cells (wcells 8 H) 103), .blk bk (.cells (wcells 64 kc) 101), .blk br (.cells (bcells 32 fun _ => 0) 27)] w') (fun k => 64 - k) 16 ⟨rfl, rfl, rfl, rfl, rfl, rfl, rfl, trivial⟩ ⟨by omega, by omega, M17⟩ ?_
          rintro k w20 ⟨hk1, hk2, M20⟩
          refine ZC.seq ?_; refine ZC.seq ?_; refine ZC.region ?_; refine ZL.val (r_move rfl) rfl ?_; refine ZL.val (r_lss rfl rfl) rfl ?_; refine ZL.nil ?_; refine ZP.then ?_
          refine ZC.condD rfl (fun hh => ?_) (fun hh => ?_)
          · have hk' : k < 64 := by omega
            refine ZC.skip ?_; refine ZP.then ?_; refine ZC.seq ?_; refine ZC.block ?_; refine ZC.seq ?_
            refine ZC.still (by kernel_rfl) (fun w21 E21 _ => ?_)
            have M21 := M20.ext' E21
            refine ZS.val (r_move rfl) rfl ?_; refine ZS.val (r_sub rfl rfl (wrap_i64 (by omega) (by omega))) rfl ?_
            refine ZS.val (r_idxA (k - 15) rfl rfl (by omega) (by omega)) rfl ?_
            refine ZS.val (r_ld M21 rfl (nthW (i := k - 15) (by omega) (by omega))) rfl ?_
            refine ZS.val (r_move rfl) rfl ?_; refine ZS.val (r_sub rfl rfl (wrap_i64 (by omega) (by omega))) rfl ?_
            refine ZS.val (r_idxA (k - 2) rfl rfl (by omega) (by omega)) rfl ?_
            refine ZS.val (r_ld M21 rfl (nthW (i := k - 2) (by omega) (by omega))) rfl ?_
            refine ZS.val (r_assign rfl) rfl ?_; refine ZS.val (r_assign rfl) rfl ?_; refine ZS.nil ?_
            refine ZP.then ?_
            refine ZC.tail 29 (by kernel_rfl) rfl rfl (fun w22 E22 _ => ?_)
            have M22 := M21.ext' E22
            refine ZS.val (r_move rfl) rfl ?_; refine ZS.val (r_move rfl) rfl ?_; refine ZS.val (r_sub rfl rfl (wrap_i64 (by omega) (by omega))) rfl ?_
            refine ZS.val (r_idxA (k - 16) rfl rfl (by omega) (by omega)) rfl ?_
            refine ZS.val (r_ld M22 rfl (nthW (i := k - 16) (by omega) (by omega))) rfl ?_
            refine ZS.val (r_move rfl) rfl ?_
            refine ZS.call (r_call rfl) rfl (refturned_ok _ 7 w22 (by omega) (by omega)) ?_
            refine ZS.val (r_move rfl) rfl ?_
            refine ZS.call (r_call rfl) rfl (refturned_ok _ 18 w22 (by omega) (by omega)) ?_
            refine ZS.val (r_xorU rfl rfl) rfl ?_; refine ZS.val (r_move rfl) rfl ?_
            refine ZS.val (r_shrU 3 rfl rfl (by decide)) rfl ?_
            refine ZS.val (r_xorU rfl rfl) rfl ?_; refine ZS.val (r_addU rfl rfl) rfl ?_; refine ZS.val (r_move rfl) rfl ?_; refine ZS.val (r_sub rfl rfl (wrap_i64 (by omega) (by omega))) rfl ?_
            refine ZS.val (r_idxA (k - 7) rfl rfl (by omega) (by omega)) rfl ?_
            refine ZS.val (r_ld M22 rfl (nthW (i := k - 7) (by omega) (by omega))) rfl ?_
            refine ZS.val (r_addU rfl rfl) rfl ?_; refine ZS.val (r_move rfl) rfl ?_
            refine ZS.call (r_call rfl) rfl (refturned_ok _ 17 w22 (by omega) (by omega)) ?_
            refine ZS.val (r_move rfl) rfl ?_
            refine ZS.call (r_call rfl) rfl (refturned_ok _ 19 w22 (by omega) (by omega)) ?_
            refine ZS.val (r_xorU rfl rfl) rfl ?_; refine ZS.val (r_move rfl) rfl ?_
            refine ZS.val (r_shrU 10 rfl rfl (by decide)) rfl ?_
            refine ZS.val (r_xorU rfl rfl) rfl ?_; refine ZS.val (r_addU rfl rfl) rfl ?_
            refine ZS.val (r_idxA k rfl rfl (by omega) (by omega)) rfl ?_
            refine ZS.tail ?_
            refine ZL.stU k M22 rfl rfl (by omega) (by omega) (fun w23 M23 => ?_)
            refine ZL.nil ?_; refine ZP.blockN ?_; refine ZP.then ?_; refine ZC.region ?_; refine ZL.val (r_move rfl) rfl ?_; refine ZL.val (r_add rfl rfl (wrap_i64 (by omega) (by omega))) rfl ?_; refine ZL.val (r_assign rfl) rfl ?_; refine ZL.nil ?_
            refine ZP.round (k + 1) ⟨rfl, rfl, rfl, rfl, rfl, rfl, rfl, trivial⟩ ⟨by omega, by omega, ?_⟩ (by omega)
            simp only [sched, nxt, if_neg (show ¬ k < 16 by omega), sg0, sg1]
            exact M23
          · have hk' : k = 64 := by omega
            subst hk'
            refine ZC.exit ?_; refine ZP.thenX ?_; refine ZP.thenX ?_; refine ZP.blockE ?_; refine ZP.then ?_; refine ZC.seq ?_; refine ZC.region ?_
            generalize hW : sched gb 64 = W at M20
            refine ZL.val (r_ldW M20 rfl (wcells_size _ _)) rfl ?_
            refine ZL.alloc M20 rfl rfl (fun bs w21 M21 => ?_)
            refine ZL.stW M21 rfl rfl (cs' := wcells 8 H) rfl (by simp) (wcells_size _ _) (wcells_one _ _) (fun w22 M22 => ?_)
            refine ZL.nil ?_; refine ZP.then ?_; refine ZC.seq ?_; refine ZC.seq ?_; refine ZC.region ?_; refine ZL.val (r_assign rfl) rfl ?_; refine ZL.nil ?_; refine ZP.then ?_; refine ZC.block ?_
            refine ZC.loop (X := Nat) (fun k => [(16, .int .i64 k), (15, .pointer (some ⟨bs, 0, none⟩)), (9, .pointer (some ⟨bw, 0, none⟩)), (8, .int .i64 ((64 * j : Nat) : Int)), (3, .slice (some ⟨gm, om, none⟩) (pad l).length cx), (7, .pointer (some ⟨bh, 0, none⟩)), (6, .pointer (some ⟨bk, 0, none⟩)), (2, .pointer (some ⟨br, 0, none⟩))])
              (fun k w' => k ≤ 64 ∧ Mem w8 Y [.blk bs (.cells (wcells 8 (rnds kc W H k)) 103), .blk bw (.cells (wcells 64 W) 101), .blk bh (.cells (wcells 8 H) 103), .blk bk (.cells (wcells 64 kc) 101), .blk br (.cells (bcells 32 fun _ => 0) 27)] w') (fun k => 64 - k) 0 ⟨rfl, rfl, rfl, rfl, rfl, rfl, rfl, rfl, trivial⟩ ⟨by omega, M22⟩ ?_
            rintro k w23 ⟨hk, M23⟩
            refine ZC.seq ?_; refine ZC.seq ?_; refine ZC.region ?_; refine ZL.val (r_move rfl) rfl ?_; refine ZL.val (r_lss rfl rfl) rfl ?_; refine ZL.nil ?_; refine ZP.then ?_
            refine ZC.condD rfl (fun hi => ?_) (fun hi => ?_)
            · have hk' : k < 64 := by omega
              generalize hV : rnds kc W H k = V at M23
              refine ZC.skip ?_; refine ZP.then ?_; refine ZC.seq ?_; refine ZC.block ?_; refine ZC.seq ?_
              refine ZC.still (by kernel_rfl) (fun w24 E24 _ => ?_)
              have M24 := M23.ext' E24
              refine ZS.val (r_idxA 4 rfl rfl rfl (by decide)) rfl ?_; refine ZS.val (r_ld M24 rfl (nthW (i := 4) rfl (by decide))) rfl ?_
              refine ZS.val (r_idxA 0 rfl rfl rfl (by decide)) rfl ?_; refine ZS.val (r_ld M24 rfl (nthW (i := 0) rfl (by decide))) rfl ?_
              refine ZS.val (r_assign rfl) rfl ?_; refine ZS.val (r_assign rfl) rfl ?_; refine ZS.nil ?_
              refine ZP.then ?_; refine ZC.seq ?_
              refine ZC.still (by kernel_rfl) (fun w25 E25 _ => ?_)
              have M25 := M24.ext' E25
              refine ZS.val (r_idxA 7 rfl rfl rfl (by decide)) rfl ?_; refine ZS.val (r_ld M25 rfl (nthW (i := 7) rfl (by decide))) rfl ?_
              refine ZS.val (r_move rfl) rfl ?_
              refine ZS.call (r_call rfl) rfl (refturned_ok _ 6 w25 (by omega) (by omega)) ?_
              refine ZS.val (r_move rfl) rfl ?_
              refine ZS.call (r_call rfl) rfl (refturned_ok _ 11 w25 (by omega) (by omega)) ?_
              refine ZS.val (r_xorU rfl rfl) rfl ?_; refine ZS.val (r_move rfl) rfl ?_
              refine ZS.call (r_call rfl) rfl (refturned_ok _ 25 w25 (by omega) (by omega)) ?_
              refine ZS.val (r_xorU rfl rfl) rfl ?_; refine ZS.val (r_addU rfl rfl) rfl ?_; refine ZS.val (r_move rfl) rfl ?_
              refine ZS.val (r_idxA 5 rfl rfl rfl (by decide)) rfl ?_; refine ZS.val (r_ld M25 rfl (nthW (i := 5) rfl (by decide))) rfl ?_
              refine ZS.val (r_andU rfl rfl) rfl ?_; refine ZS.val (r_move rfl) rfl ?_; refine ZS.val (r_complU rfl) rfl ?_
              refine ZS.val (r_idxA 6 rfl rfl rfl (by decide)) rfl ?_; refine ZS.val (r_ld M25 rfl (nthW (i := 6) rfl (by decide))) rfl ?_
              refine ZS.val (r_andU rfl rfl) rfl ?_; refine ZS.val (r_xorU rfl rfl) rfl ?_; refine ZS.val (r_addU rfl rfl) rfl ?_; refine ZS.val (r_move rfl) rfl ?_
              refine ZS.val (r_idxA k rfl rfl rfl (by omega)) rfl ?_
              refine ZS.val (r_ld M25 rfl (nthW (i := k) (by omega) (by omega))) rfl ?_
              refine ZS.val (r_addU rfl rfl) rfl ?_; refine ZS.val (r_move rfl) rfl ?_
              refine ZS.val (r_idxA k rfl rfl rfl (by omega)) rfl ?_
              refine ZS.val (r_ld M25 rfl (nthW (i := k) (by omega) (by omega))) rfl ?_
              refine ZS.val (r_addU rfl rfl) rfl ?_; refine ZS.val (r_assign rfl) rfl ?_; refine ZS.nil ?_
              refine ZP.then ?_; refine ZC.seq ?_
              refine ZC.still (by kernel_rfl) (fun w26 E26 _ => ?_)
              have M26 := M25.ext' E26
              refine ZS.val (r_move rfl) rfl ?_
              refine ZS.call (r_call rfl) rfl (refturned_ok _ 2 w26 (by omega) (by omega)) ?_
              refine ZS.val (r_move rfl) rfl ?_
              refine ZS.call (r_call rfl) rfl (refturned_ok _ 13 w26 (by omega) (by omega)) ?_
              refine ZS.val (r_xorU rfl rfl) rfl ?_; refine ZS.val (r_move rfl) rfl ?_
              refine ZS.call (r_call rfl) rfl (refturned_ok _ 22 w26 (by omega) (by omega)) ?_
              refine ZS.val (r_xorU rfl rfl) rfl ?_; refine ZS.val (r_move rfl) rfl ?_
              refine ZS.val (r_idxA 1 rfl rfl rfl (by decide)) rfl ?_; refine ZS.val (r_ld M26 rfl (nthW (i := 1) rfl (by decide))) rfl ?_
              refine ZS.val (r_andU rfl rfl) rfl ?_; refine ZS.val (r_move rfl) rfl ?_
              refine ZS.val (r_idxA 2 rfl rfl rfl (by decide)) rfl ?_; refine ZS.val (r_ld M26 rfl (nthW (i := 2) rfl (by decide))) rfl ?_
              refine ZS.val (r_andU rfl rfl) rfl ?_; refine ZS.val (r_xorU rfl rfl) rfl ?_
              refine ZS.val (r_idxA 1 rfl rfl rfl (by decide)) rfl ?_; refine ZS.val (r_ld M26 rfl (nthW (i := 1) rfl (by decide))) rfl ?_
              refine ZS.val (r_idxA 2 rfl rfl rfl (by decide)) rfl ?_; refine ZS.val (r_ld M26 rfl (nthW (i := 2) rfl (by decide))) rfl ?_
              refine ZS.val (r_andU rfl rfl) rfl ?_; refine ZS.val (r_xorU rfl rfl) rfl ?_; refine ZS.val (r_addU rfl rfl) rfl ?_; refine ZS.val (r_assign rfl) rfl ?_; refine ZS.nil ?_
              refine ZP.then ?_; refine ZC.region ?_; refine ZL.val (r_move rfl) rfl ?_; refine ZL.val (r_move rfl) rfl ?_
              refine ZL.val (r_addU rfl rfl) rfl ?_
              refine ZL.val (r_idxA 0 rfl rfl rfl (by decide)) rfl ?_; refine ZL.val (r_ld M26 rfl (nthW (i := 0) rfl (by decide))) rfl ?_
              refine ZL.val (r_idxA 1 rfl rfl rfl (by decide)) rfl ?_; refine ZL.val (r_ld M26 rfl (nthW (i := 1) rfl (by decide))) rfl ?_
              refine ZL.val (r_idxA 2 rfl rfl rfl (by decide)) rfl ?_; refine ZL.val (r_ld M26 rfl (nthW (i := 2) rfl (by decide))) rfl ?_
              refine ZL.val (r_idxA 3 rfl rfl rfl (by decide)) rfl ?_; refine ZL.val (r_ld M26 rfl (nthW (i := 3) rfl (by decide))) rfl ?_
              refine ZL.val (r_move rfl) rfl ?_; refine ZL.val (r_addU rfl rfl) rfl ?_
              refine ZL.val (r_idxA 4 rfl rfl rfl (by decide)) rfl ?_; refine ZL.val (r_ld M26 rfl (nthW (i := 4) rfl (by decide))) rfl ?_
              refine ZL.val (r_idxA 5 rfl rfl rfl (by decide)) rfl ?_; refine ZL.val (r_ld M26 rfl (nthW (i := 5) rfl (by decide))) rfl ?_
              refine ZL.val (r_idxA 6 rfl rfl rfl (by decide)) rfl ?_; refine ZL.val (r_ld M26 rfl (nthW (i := 6) rfl (by decide))) rfl ?_
              refine ZL.val (r_buildArr rfl rfl (cs := [u32 (t1W kc W V k + (sS0 (V 0) + mostW V)), u32 (V 0), u32 (V 1), u32 (V 2), u32 (V 3 + t1W kc W V k), u32 (V 4), u32 (V 5), u32 (V 6)]) rfl) rfl ?_
              have hbuilt : [u32 (t1W kc W V k + (sS0 (V 0) + mostW V)), u32 (V 0), u32 (V 1), u32 (V 2), u32 (V 3 + t1W kc W V k), u32 (V 4), u32 (V 5), u32 (V 6)].toArray = wcells 8 (rnd kc W V k) := by
                rw [← UInt32.add_assoc]; rfl
              rw [hbuilt]
              refine ZL.stW M26 rfl rfl (cs' := wcells 8 (rnd kc W V k)) rfl (wcells_size _ _) (wcells_size _ _) (wcells_one _ _) (fun w27 M27 => ?_)
              refine ZL.nil ?_; refine ZP.blockN ?_; refine ZP.then ?_; refine ZC.region ?_; refine ZL.val (r_move rfl) rfl ?_; refine ZL.val (r_add rfl rfl (wrap_i64 (by omega) (by omega))) rfl ?_; refine ZL.val (r_assign rfl) rfl ?_; refine ZL.nil ?_
              refine ZP.round (k + 1) ⟨rfl, rfl, rfl, rfl, rfl, rfl, rfl, rfl, trivial⟩ ⟨by omega, ?_⟩ (by omega)
              simp only [rnds, hV]
              exact M27
            · have hk' : k = 64 := by omega
              subst hk'
              generalize hV : rnds kc W H 64 = V at M23
              refine ZC.exit ?_; refine ZP.thenX ?_; refine ZP.thenX ?_; refine ZP.blockE ?_; refine ZP.then ?_; refine ZC.seq ?_; refine ZC.region ?_; refine ZL.val (r_assign rfl) rfl ?_; refine ZL.nil ?_; refine ZP.then ?_; refine ZC.block ?_
              refine ZC.loop (X := Nat) (fun k => [(21, .int .i64 k), (15, .pointer (some ⟨bs, 0, none⟩)), (9, .pointer (some ⟨bw, 0, none⟩)), (8, .int .i64 ((64 * j : Nat) : Int)), (3, .slice (some ⟨gm, om, none⟩) (pad l).length cx), (7, .pointer (some ⟨bh, 0, none⟩)), (6, .pointer (some ⟨bk, 0, none⟩)), (2, .pointer (some ⟨br, 0, none⟩))])
                (fun k w' => k ≤ 8 ∧ Mem w8 Y [.blk bs (.cells (wcells 8 (V)) 103), .blk bw (.cells (wcells 64 W) 101), .blk bh (.cells (wcells 8 (sumTo H V k)) 103), .blk bk (.cells (wcells 64 kc) 101), .blk br (.cells (bcells 32 fun _ => 0) 27)] w') (fun k => 8 - k) 0 ⟨rfl, rfl, rfl, rfl, rfl, rfl, rfl, rfl, trivial⟩ ⟨by omega, M23⟩ ?_
              rintro k w28 ⟨hk, M28⟩
              refine ZC.seq ?_; refine ZC.seq ?_; refine ZC.region ?_; refine ZL.val (r_move rfl) rfl ?_; refine ZL.val (r_lss rfl rfl) rfl ?_; refine ZL.nil ?_; refine ZP.then ?_
              refine ZC.condD rfl (fun hi2 => ?_) (fun hi2 => ?_)
              · have hk' : k < 8 := by omega
                refine ZC.skip ?_; refine ZP.then ?_; refine ZC.seq ?_; refine ZC.block ?_
                refine ZC.tail 9 (by kernel_rfl) rfl rfl (fun w29 E29 _ => ?_)
                have M29 := M28.ext' E29
                refine ZS.val (r_move rfl) rfl ?_; refine ZS.val (r_move rfl) rfl ?_
                refine ZS.val (r_idxA k rfl rfl rfl (by omega)) rfl ?_
                refine ZS.val (r_ld M29 rfl (nthW (i := k) (by omega) (by omega))) rfl ?_
                refine ZS.val (r_move rfl) rfl ?_
                refine ZS.val (r_idxA k rfl rfl rfl (by omega)) rfl ?_
                refine ZS.val (r_ld M29 rfl (nthW (i := k) (by omega) (by omega))) rfl ?_
                refine ZS.val (r_addU rfl rfl) rfl ?_
                refine ZS.val (r_idxA k rfl rfl rfl (by omega)) rfl ?_
                refine ZS.tail ?_
                refine ZL.stU k M29 rfl rfl (by omega) (by omega) (fun w30 M30 => ?_)
                refine ZL.nil ?_; refine ZP.blockN ?_; refine ZP.then ?_; refine ZC.region ?_; refine ZL.val (r_move rfl) rfl ?_; refine ZL.val (r_add rfl rfl (wrap_i64 (by omega) (by omega))) rfl ?_; refine ZL.val (r_assign rfl) rfl ?_; refine ZL.nil ?_
                refine ZP.round (k + 1) ⟨rfl, rfl, rfl, rfl, rfl, rfl, rfl, rfl, trivial⟩ ⟨by omega, ?_⟩ (by omega)
                rwa [wcells_congr (f := upd (sumTo H V k) k (sumTo H V k k + V k)) (g := sumTo H V (k + 1))] at M30
                intro i hi
                simp only [upd, sumTo]
                by_cases h1 : i = k
                · subst h1; simp
                · simp only [h1, if_false]
                  by_cases h2 : i < k
                  · simp [h2, show i < k + 1 by omega]
                  · simp [h2, show ¬ i < k + 1 by omega]
              · have hk' : k = 8 := by omega
                subst hk'
                refine ZC.exit ?_; refine ZP.thenX ?_; refine ZP.thenX ?_; refine ZP.blockE ?_; refine ZP.blockN ?_; refine ZP.then ?_; refine ZC.region ?_; refine ZL.val (r_move rfl) rfl ?_; refine ZL.val (r_add rfl rfl (wrap_i64 (by omega) (by omega))) rfl ?_; refine ZL.val (r_assign rfl) rfl ?_; refine ZL.nil ?_
                have hnext : wcells 8 (sumTo H V 8) = wcells 8 (blk (pad l) sq (j + 1)) := by
                  refine wcells_congr fun i hi => ?_
                  simp only [sumTo, if_pos hi, blk, comp, hH, hgb, hW, hV]
                  rw [UInt32.add_comm]
                rw [hnext] at M28
                refine ZP.round (j + 1) ⟨?_, rfl, rfl, rfl, rfl, trivial⟩ ⟨hj', M28.sub [2, 3, 4] rfl⟩ (by omega)
                show some (Value.int .i64 (((64 * j : Nat) : Int) + 64)) = some (Value.int .i64 ((64 * (j + 1) : Nat) : Int))
                congr 2
      · have hj' : 64 * j = (pad l).length := by omega
        have hjd : j = (pad l).length / 64 := by omega
        subst hjd
        refine ZC.exit ?_; refine ZP.thenX ?_; refine ZP.thenX ?_; refine ZP.blockE ?_; refine ZP.then ?_; refine ZC.seq ?_; refine ZC.region ?_
        rw [← bcells_zero] at M15
        refine ZL.alloc M15 rfl rfl (fun bo w13 M13 => ?_)
        refine ZL.nil ?_; refine ZP.then ?_; refine ZC.seq ?_; refine ZC.seq ?_; refine ZC.region ?_; refine ZL.val (r_assign rfl) rfl ?_; refine ZL.nil ?_; refine ZP.then ?_; refine ZC.block ?_
        generalize hH : blk (pad l) sq ((pad l).length / 64) = H at M13
        have hout : outB H = sumF l := by rw [← hH]; rfl
        rw [bcells_zero] at M13
        refine ZC.loop (X := Nat) (fun k => [(23, .int .i64 k), (22, .pointer (some ⟨bo, 0, none⟩)), (7, .pointer (some ⟨bh, 0, none⟩)), (2, .pointer (some ⟨br, 0, none⟩))])
          (fun k w' => k ≤ 32 ∧ Mem w8 Y [.blk bo (.cells (bcells 32 fun i => if i < k then outB H i else 0) 27), .blk bh (.cells (wcells 8 H) 103), .blk bk (.cells (wcells 64 kc) 101), .blk br (.cells (bcells 32 fun _ => 0) 27)] w') (fun k => 32 - k) 0 ⟨rfl, rfl, rfl, rfl, trivial⟩ ⟨by omega, by simpa using M13⟩ ?_
        rintro k w14 ⟨hk, M14⟩
        refine ZC.seq ?_; refine ZC.seq ?_; refine ZC.region ?_; refine ZL.val (r_move rfl) rfl ?_; refine ZL.val (r_lss rfl rfl) rfl ?_; refine ZL.nil ?_; refine ZP.then ?_
        refine ZC.condD rfl (fun he => ?_) (fun he => ?_)
        · have hk' : k < 32 := by omega
          refine ZC.skip ?_; refine ZP.then ?_; refine ZC.seq ?_; refine ZC.block ?_; refine ZC.region ?_; refine ZL.val (r_move rfl) rfl ?_; refine ZL.val (r_move rfl) rfl ?_
          refine ZL.val (r_quo rfl rfl (by decide) (r := ((k / 4 : Nat) : Int)) (by rw [Int.tdiv_eq_ediv_of_nonneg (by omega), wrap_i64 (by omega) (by omega)]; omega)) rfl ?_
          refine ZL.val (r_idxA (k / 4) rfl rfl rfl (by omega)) rfl ?_
          refine ZL.val (r_ld M14 rfl (nthW (i := k / 4) (by omega) (by omega))) rfl ?_
          refine ZL.val (r_move rfl) rfl ?_
          refine ZL.val (r_rem rfl rfl (by decide) (r := ((k % 4 : Nat) : Int)) (by rw [Int.tmod_eq_emod_of_nonneg (by omega)]; omega)) rfl ?_
          refine ZL.val (r_mul rfl rfl (wrap_i64 (by omega) (by omega))) rfl ?_; refine ZL.val (r_sub rfl rfl (wrap_i64 (by omega) (by omega))) rfl ?_; refine ZL.val (r_convInt rfl (wrap_u64 (by omega) (by omega))) rfl ?_
          refine ZL.val (r_shrI (24 - 8 * (k % 4)) rfl rfl (by omega) (by omega)) rfl ?_
          refine ZL.val (r_convB rfl) rfl ?_
          refine ZL.val (r_idxA k rfl rfl rfl (by omega)) rfl ?_
          refine ZL.stB k M14 rfl rfl (by omega) (by omega) (fun w15 M15 => ?_)
          refine ZL.nil ?_; refine ZP.blockN ?_; refine ZP.then ?_; refine ZC.region ?_; refine ZL.val (r_move rfl) rfl ?_; refine ZL.val (r_add rfl rfl (wrap_i64 (by omega) (by omega))) rfl ?_; refine ZL.val (r_assign rfl) rfl ?_; refine ZL.nil ?_
          refine ZP.round (k + 1) ⟨rfl, rfl, rfl, rfl, trivial⟩ ⟨by omega, ?_⟩ (by omega)
          rwa [bcells_congr (g := fun i => if i < k + 1 then outB H i else 0)] at M15
          intro i hi
          simp only [updB]
          by_cases h1 : i = k
          · subst h1; simp [outB]
          · simp only [h1, if_false]
            by_cases h2 : i < k
            · simp [h2, show i < k + 1 by omega]
            · simp [h2, show ¬ i < k + 1 by omega]
        · have hk' : k = 32 := by omega
          subst hk'
          rw [bcells_congr (g := sumF l) (fun i hi => by simp [hi, hout])] at M14
          refine ZC.exit ?_; refine ZP.thenX ?_; refine ZP.thenX ?_; refine ZP.blockE ?_; refine ZP.then ?_; refine ZC.seq ?_; refine ZC.region ?_
          refine ZL.val (r_ldW M14 rfl (bcells_size _ _)) rfl ?_
          refine ZL.stW M14 rfl rfl (cs' := bcells 32 (sumF l)) rfl (by simp [bcells]) (bcells_size _ _) (bcells_one _ _) (fun w15 M15 => ?_)
          refine ZL.nil ?_; refine ZP.then ?_; refine ZC.ret ?_
          exact ZP.retC rfl rfl (M15.get inferInstance) (bcells_size _ _) ⟨hback _ M15.ext, rfl⟩

theorem refTwice_ok (v : Value) (l : List UInt8) (w : World) (X : Nat → Prop) (h : BytesR w X v l) (hl : l.length ≤ 500000) :
    Ret P 22 #[v] w (fun r w' => Ext w w' ∧ r = (twice l).v) := by
  refine Ret.enter1 Tryz.func22 rfl Tryz.ntmps22 rfl ?_
  refine ZC.seq ?_; refine ZC.region ?_
  refine ZL.alloc (Mem.start w No) rfl rfl (fun br w1 M1 => ?_)
  refine ZL.nil ?_; refine ZP.then ?_; refine ZC.seq ?_; refine ZC.region ?_; refine ZL.val (r_move rfl) rfl ?_
  refine ZL.call (r_call rfl) rfl (refSum_ok _ l w1 X (h.ext M1.ext) hl) (fun v2 w2 ⟨E2, hv⟩ => ?_)
  subst hv
  have M2 := M1.ext' E2
  refine ZL.alloc M2 rfl rfl (fun bx w3 M3 => ?_)
  refine ZL.stW M3 rfl rfl (cs' := (sumL l).cells.toArray) rfl (by simp) (B32.size _) (B32.one _) (fun w4 M4 => ?_)
  refine ZL.nil ?_; refine ZP.then ?_; refine ZC.seq ?_; refine ZC.region ?_
  refine ZL.val (r_sliceArr rfl) rfl ?_
  refine ZL.call (r_call rfl) rfl (refSum_ok _ (sumL l).val w4 No (M4.slArr (x := sumL l) inferInstance id) (by simp [(sumL l).property])) (fun v5 w5 ⟨E5, hv⟩ => ?_)
  subst hv
  have M5 := M4.ext' E5
  refine ZL.stW M5 rfl rfl (cs' := (twice l).cells.toArray) rfl (by simp) (B32.size _) (B32.one _) (fun w6 M6 => ?_)
  refine ZL.nil ?_; refine ZP.then ?_; refine ZC.ret ?_
  exact ZP.retC rfl rfl (M6.get inferInstance) (B32.size _) ⟨M6.ext, rfl⟩
end Go.Proofs.YtibobcjfjnoclaaGreatDoor.Z
end
section
/- Facts carried along a walk whose chunks go on; what is made along the way and stays. -/
set_option linter.unusedVariables false
set_option linter.unusedSimpArgs false
set_option linter.unusedSectionVars false
namespace Go.Proofs.YtibobcjfjnoclaaGreatDoor.Z
open Go Go.RowKit

section
variable {w0 w w' : World} {X : Nat → Prop} {L L' : List Chunk}
theorem Mem.rebase (h : Mem w0 X L w) : Mem w (fpIn L) L w := ⟨.refl _ _, h.ok, h.ap, fun c hc g hg => .inl ⟨c, hc, hg⟩⟩
theorem Mem.join (h : Mem w0 No L w) (h' : Mem w (fpIn L) L' w') : Mem w0 No L' w' := by
  have key : ∀ b, fpIn L b → w0.heap.size ≤ b := fun b ⟨c, hc, hg⟩ => (h.mine c hc b hg).resolve_left (fun h => h)
  refine ⟨h.ext.trans h'.ext (fun _ h => h) (fun b hb hf => ?_), h'.ok, h'.ap, fun c hc g hg => .inr ?_⟩
  · have := key b hf; omega
  · rcases h'.mine c hc g hg with h1 | h1
    · exact key g h1
    · exact Nat.le_trans h.ext.size h1
/-- What is neither older than w0 nor a chunk's. -/
def Out (w0 : World) (L : List Chunk) (b : Nat) : Prop := b < w0.heap.size ∨ fpIn L b
theorem Mv.frame {w0 : World} (h' : Mem w (fpIn L) L' w') : Mv w (Out w0 L) w' (Out w0 L') :=
  ⟨fun b hb hx => h'.ext.keep b hb (fun h => hx (.inr h)), fun b hb hx => by
    rcases hx with hx | ⟨c, hc, hg⟩
    · exact .inl hx
    · rcases h'.mine c hc b hg with h1 | h1
      · exact .inr h1
      · omega, h'.ext.size⟩
theorem Mem.out {v : Value} {e s n : Nat} {xs : List Value} (h : Mem w0 No (.own v e s n xs :: L) w) : Mem w0 No L w ∧ SlC w (Out w0 L) s v n xs := by
  refine ⟨h.drop, h.own.slc fun g hg hx => ?_⟩
  rcases hx with hx | ⟨c, hc, hc'⟩
  · have := (h.mine _ (List.mem_cons_self ..) g hg).resolve_left (fun h => h)
    omega
  · exact (List.pairwise_cons.1 h.ap).1 c hc g hg hc'
theorem Out.drop {c : Chunk} : ∀ b, Out w0 L b → Out w0 (c :: L) b := fun b h => h.imp id fun ⟨d, hd, hg⟩ => ⟨d, List.mem_cons_of_mem _ hd, hg⟩
theorem Mv.drop {c : Chunk} : Mv w (Out w0 (c :: L)) w (Out w0 L) := Mv.mono fun b _ h => Out.drop b h
theorem Mv.done : Mv w (Out w0 L) w (· < w0.heap.size) := Mv.mono fun b _ h => .inl h
/-- What a call made anew. -/
theorem Mv.fresh (h : Mem w0 No L w) {w1 : World} (hs : w.heap.size ≤ w1.heap.size) : Mv w1 (· < w.heap.size) w1 (Out w0 L) := Mv.mono fun b _ hx => by
  rcases hx with hx | ⟨c, hc, hg⟩
  · exact Nat.lt_of_lt_of_le hx h.ext.size
  · exact Chunk.lt (h.ok c hc) b hg
end

/-- What a piece of code is asked for where its ways meet; another exit is the whole's. -/
def Mid (Q : Post) (n : Nat) {X : Type} (vals : X → Env) (inv : X → World → Prop) : Post := fun e a w =>
  match e with
  | .normal => ∃ x, FR n (vals x) a ∧ inv x w
  | e => Q e a w
section
variable {P : Program} {n : Nat} {Q : Post} {σ : Env} {w : World} {X : Type} {vals : X → Env} {inv : X → World → Prop}
theorem ZC.mid {c1 c2 : Code} {X : Type} (vals : X → Env) (inv : X → World → Prop) (h1 : ZC P n (Mid Q n vals inv) c1 σ w) (h2 : ∀ x w', inv x w' → ZC P n Q c2 (vals x) w') : ZC P n Q (.seq c1 c2) σ w := by
  refine ZC.seq (ZC.cut h1 fun e a w' h => ?_)
  cases e <;> simp only [Mid] at h <;> simp only [Exit.then]
  · obtain ⟨x, hf, hi⟩ := h
    exact (h2 x w' hi).h a hf
  all_goals exact h
theorem ZP.mid (x : X) (hs : Sub (vals x) σ) (hi : inv x w) : ZP n (Mid Q n vals inv) .normal σ w := ⟨fun a ha => ⟨x, ha.sub hs, hi⟩⟩
theorem ZP.midR (h : ZP n Q .ret σ w) : ZP n (Mid Q n vals inv) .ret σ w := ⟨h.h⟩
theorem ZP.midX {id : Nat} (h : ZP n Q (.exit id) σ w) : ZP n (Mid Q n vals inv) (.exit id) σ w := ⟨h.h⟩
end
end Go.Proofs.YtibobcjfjnoclaaGreatDoor.Z
end
section
/- A region that draws, in which the last operations are a chain behind all others: what reads may be taken first, in the worlds that the first part passes. -/
set_option linter.unusedVariables false
set_option linter.unusedSimpArgs false
set_option linter.unusedSectionVars false
namespace Go.Proofs.YtibobcjfjnoclaaGreatDoor.Z
open Go Go.RowKit

section
variable {P : Program} {ops : Array Oper} {Q : Exit → Act → World → Prop} {md : Region.Mode} {S : World → Prop}

def wpAnyT (P : Program) (md : Region.Mode) (ops : Array Oper) (Q : Exit → Act → World → Prop) (S : World → Prop) (n : Nat) (L : Array Bool → Act → World → Prop) : Nat → Array Bool → Act → World → Prop
  | 0, listed, a, w => L listed a w
  | f + 1, listed, a, w =>
    Region.ready md ops listed ≠ [] ∧ ∀ i ∈ Region.ready md ops listed, i < n ∧ wpOp P ops Q i (fun a' w' => S w' ∧ wpAnyT P md ops Q S n L f (listed.setIfInBounds i true) a' w') a w

theorem wpAny_of_T {n g : Nat} {L : Array Bool → Act → World → Prop} (hL : ∀ listed a w, L listed a w → wpAny P md ops Q g listed a w) :
    ∀ (f : Nat) (listed : Array Bool) (a : Act) (w : World), wpAnyT P md ops Q S n L f listed a w → wpAny P md ops Q (f + g) listed a w
  | 0, listed, a, w, h => by rw [Nat.zero_add]; exact hL _ _ _ h
  | f + 1, listed, a, w, h => by
    rw [show f + 1 + g = (f + g) + 1 by omega]
    exact ⟨fun h0 => absurd h0 h.1, fun i hi => wpOp_mono (fun a' w' h' => wpAny_of_T hL f _ a' w' h'.2) (h.2 i hi).2⟩

theorem wpAnyT_first {n i : Nat} {oi : Oper} {v : Value} {L : Array Bool → Act → World → Prop} (hi : ops[i]? = some oi) (hsel : ∀ (j : Nat) (o : Oper) cs b, ops[j]? = some o → o.op ≠ .select cs b)
    (hs : Region.sinkB md ops n = true) (hc : Region.chainB md ops n = true) (hn : n < ops.size) (hin : i < n) (hQ : ∀ c a w, Q (.panic c) (a.put oi.dst v) w → Q (.panic c) a w)
    (hdone : ∀ listed a w, L listed a w → ∀ j ∈ Region.ready md ops listed, n ≤ j) :
    ∀ (f : Nat) (listed : Array Bool) (a : Act) (w : World), HeadInv md ops n listed →
      (∀ j oj, ops[j]? = some oj → j ≠ i → listed.getD j true = false → (∀ e ∈ oj.after, Region.binds md e = true → e.on ≠ i) → oi.apart ops oj = true) →
      i ∈ Region.ready md ops listed → YieldsIf P ops S oi v a → S w →
      wpAnyT P md ops Q S n L f (listed.setIfInBounds i true) (a.put oi.dst v) w → wpAnyT P md ops Q S n L (f + 1) listed a w := by
  intro f
  induction f with
  | zero =>
    intro listed a w inv _ hr hy hS H
    have hun := (mem_ready.1 hr).1
    refine ⟨fun h => (by rw [h] at hr; cases hr), fun j hj => ?_⟩
    have hjn : j < n := by
      rcases Nat.lt_or_ge j n with h | h
      · exact h
      · exact absurd hj (tail_waits hs hc hn inv _ i rfl hin hun j h)
    refine ⟨hjn, ?_⟩
    by_cases hji : j = i
    · subst hji; exact hy.wpOp hi hS ⟨hS, H⟩
    · have := hdone _ _ _ H j (ready_mono hj hji)
      omega
  | succ f ih =>
    intro listed a w inv hfree hr hy hS H
    have hun := (mem_ready.1 hr).1
    refine ⟨fun h => (by rw [h] at hr; cases hr), fun j hj => ?_⟩
    have hjn : j < n := by
      rcases Nat.lt_or_ge j n with h | h
      · exact h
      · exact absurd hj (tail_waits hs hc hn inv _ i rfl hin hun j h)
    refine ⟨hjn, ?_⟩
    by_cases hji : j = i
    · subst hji; exact hy.wpOp hi hS ⟨hS, H⟩
    · have h1 := (H.2 j (ready_mono hj hji)).2
      obtain ⟨hjun, oj, hoj, hall⟩ := mem_ready.1 hj
      have hnot : ∀ e ∈ oj.after, Region.binds md e = true → e.on ≠ i := fun e he hb heq => by
        have h1 := hall e he hb
        rw [heq, getD_both hun] at h1
        cases h1
      have h2 := wpOp_putIf (S := S) hoj (hfree j oj hoj hji hjun hnot) (fun cs b => hsel i oi cs b hi) (fun cs b => hsel j oj cs b hoj) hQ hy h1
      have hfree' : ∀ k ok, ops[k]? = some ok → k ≠ i → (listed.setIfInBounds j true).getD k true = false →
          (∀ e ∈ ok.after, Region.binds md e = true → e.on ≠ i) → oi.apart ops ok = true := fun k ok hk hki hun hno => by
        refine hfree k ok hk hki ?_ hno
        by_cases hjk : j = k
        · subst hjk; exact hjun
        · rw [getD_set_ne true hjk] at hun; exact hun
      refine wpOp_mono (fun a' w' h3 => ⟨h3.2.1, ih (listed.setIfInBounds j true) a' w' (inv.set hj hjn) hfree' (ready_mono hr (Ne.symm hji)) h3.1 h3.2.1 ?_⟩) h2
      rw [Array.setIfInBounds_comm _ _ hji]
      exact h3.2.2
end

/-- Where the chain at the end begins. -/
def TailK (P : Program) (ops : Array Oper) (Q : Post) (k g : Nat) (l2 : List Oper) (listed : Array Bool) (a : Act) (w : World) : Prop := Region.seqB .any ops g k listed = true ∧ wpList P ops Q l2 a w
structure ZT (P : Program) (n : Nat) (ops : Array Oper) (Q : Post) (S : World → Prop) (k g : Nat) (l2 : List Oper) (fuel : Nat) (listed : Array Bool) (σ : Env) (w : World) : Prop where
  h : ∀ a, FR n σ a → HeadInv .any ops k listed → wpAnyT P .any ops Q S k (TailK P ops Q k g l2) fuel listed a w

section
variable {P : Program} {n : Nat} {ops : Array Oper} {Q : Post} {S : World → Prop} {k g fuel : Nat} {l2 : List Oper} {listed listed' : Array Bool} {σ : Env} {w : World}
def tailB (ops : Array Oper) (k : Nat) : Bool := Region.noSelect ops && Nat.blt k ops.size && Region.sinkB .any ops k && Region.chainB .any ops k

theorem ZC.turning {id : Nat} {l : List Oper} [FO P] (S : World → Prop) (k : Nat) {m : Nat} {ls : Array Bool} (hm : l.length = m) (hB : tailB l.toArray k = true) (h2 : l.drop k = l2) (hg : m - k = g) (hls : Array.replicate m false = ls)
    (h : ∀ w', Ext w w' → w'.heap = w.heap → ZT P n l.toArray Q S k g l2 k ls σ w') : ZC P n Q (.region id l.toArray true) σ w := by
  subst hm; subst hls; subst h2; subst hg
  simp only [tailB, Bool.and_eq_true] at hB
  obtain ⟨⟨⟨hsel, hn⟩, hs⟩, hc⟩ := hB
  have hn' : k < l.length := by simpa [Nat.blt_eq] using hn
  refine ⟨fun a ha => ?_⟩
  have inv0 : HeadInv .any l.toArray k (Array.replicate l.length false) :=
    ⟨by simp, fun j oj _ hl => (by rw [getD_replicate_false] at hl; cases hl), fun t _ ht => getD_in (by simpa using ht) (getD_replicate_false _ _)⟩
  have H := (h { w with drawn := w.drawn + 1 } (drew_ext w _) rfl).h a ha inv0
  refine wp_region_any FO.h ?_
  have := wpAny_of_T (P := P) (md := .any) (Q := Q) (g := l.length - k) (fun listed a' w' hL => by
    have := wpAny_of_seq (md := .any) (Q' := Q) (l.drop k) k listed a' w' (fun j => by simp [List.getElem?_drop]) (by rw [List.length_drop]; exact hL.1) hL.2
    rwa [List.length_drop] at this) _ _ _ _ H
  rw [show k + (l.length - k) = l.length by omega] at this
  simpa using this

theorem seqB_le : ∀ {listed : Array Bool}, Region.seqB .any ops g k listed = true → ∀ j ∈ Region.ready .any ops listed, k ≤ j := fun h => seqB_ready h

theorem ZT.take (i : Nat) {d : Nat} {op : Op} {ty : TypeId} {pos : String} {after : Array Edge} {v : Value} {fuel' : Nat} (hf1 : fuel = fuel' + 1)
    (hi : ops[i]? = some ⟨some d, op, ty, pos, after, none⟩) (hy : ∀ w', S w' → V P σ op v w') (hB : tailB ops k = true) (hik : Nat.blt i k = true) (hf : Region.free .any ops listed i = true)
    (hr : (Region.ready .any ops listed).contains i = true) (hl : listed.setIfInBounds i true = listed') (hd : Nat.blt d n = true) (hQ : ∀ c a a' w, Q (.panic c) a w → Q (.panic c) a' w) (hS : S w)
    (h : ZT P n ops Q S k g l2 fuel' listed' ((d, v) :: σ) w) : ZT P n ops Q S k g l2 fuel listed σ w := by
  subst hl; subst hf1
  simp only [tailB, Bool.and_eq_true] at hB
  obtain ⟨⟨⟨hsel, hn⟩, hs⟩, hc⟩ := hB
  have hik' : i < k := by simpa [Nat.blt_eq] using hik
  have hr' : i ∈ Region.ready .any ops listed := by simpa using hr
  refine ⟨fun a ha inv => ?_⟩
  exact wpAnyT_first hi (Region.noSelect_spec hsel) hs hc (by simpa [Nat.blt_eq] using hn) hik' (fun c a w hq => hQ c _ _ w hq) (fun listed a w hL => seqB_ready hL.1) fuel' listed a w inv (Region.free_spec hi hf) hr'
    (.inl ⟨by simp [Region.wanted], fun w' hw' => (hy w' hw').h a.eval ha.ag _ rfl⟩) hS (h.h _ (ha.put hd) (inv.set hr' hik'))

theorem ZT.one (i : Nat) {o : Oper} {fuel' : Nat} (hf1 : fuel = fuel' + 1) (hr : Region.ready .any ops listed = [i]) (hik : Nat.blt i k = true) (hi : ops[i]? = some o) (hl : listed.setIfInBounds i true = listed')
    (h : ZL P n ops (Exit.then (fun a w => S w ∧ (HeadInv .any ops k listed' → wpAnyT P .any ops Q S k (TailK P ops Q k g l2) fuel' listed' a w)) Q) [o] σ w) : ZT P n ops Q S k g l2 fuel listed σ w := by
  subst hl; subst hf1
  have hik' : i < k := by simpa [Nat.blt_eq] using hik
  refine ⟨fun a ha inv => ⟨by rw [hr]; simp, fun j hj => ?_⟩⟩
  have hr' : i ∈ Region.ready .any ops listed := by rw [hr]; simp
  rw [hr] at hj
  simp only [List.mem_singleton] at hj
  subst hj
  refine ⟨hik', ?_⟩
  have h1 := h.h a ha
  have inv' := inv.set hr' hik'
  have h2 : wpOp P ops (Exit.then (fun a w => S w ∧ (HeadInv .any ops k (listed.setIfInBounds j true) → wpAnyT P .any ops Q S k (TailK P ops Q k g l2) fuel' (listed.setIfInBounds j true) a w)) Q) j (fun a w => S w ∧ (HeadInv .any ops k (listed.setIfInBounds j true) → wpAnyT P .any ops Q S k (TailK P ops Q k g l2) fuel' (listed.setIfInBounds j true) a w)) a w := by
    unfold wpOp
    simp only [hi]
    simpa [wpList, Exit.then] using h1
  have h3 := wpOp_mono (K' := fun a w => S w ∧ wpAnyT P .any ops Q S k (TailK P ops Q k g l2) fuel' (listed.setIfInBounds j true) a w) (fun a' w' h => ⟨h.1, h.2 inv'⟩) h2
  unfold wpOp at h3 ⊢
  simp only [hi] at h3 ⊢
  simpa [Exit.then, LetsOut, Oper.wp, Oper.upon] using h3
theorem ZP.turning {Q' : Post} (hS : S w) (h : ZT P n ops Q S k g l2 fuel listed σ w) : ZP n (Exit.then (fun a w => S w ∧ (HeadInv .any ops k listed → wpAnyT P .any ops Q S k (TailK P ops Q k g l2) fuel listed a w)) Q') .normal σ w := ⟨fun a ha => ⟨hS, fun inv => h.h a ha inv⟩⟩
theorem ZT.done (hf : fuel = 0) (hB : Region.seqB .any ops g k listed = true) (h : ZL P n ops Q l2 σ w) : ZT P n ops Q S k g l2 fuel listed σ w := by
  subst hf; exact ⟨fun a ha _ => ⟨hB, h.h a ha⟩⟩
end
end Go.Proofs.YtibobcjfjnoclaaGreatDoor.Z
end
section
/- Inputs and outputs of a transaction as cells; rows of them. -/
set_option linter.unusedVariables false
set_option linter.unusedSimpArgs false
set_option linter.unusedSectionVars false
set_option maxRecDepth 100000
set_option maxHeartbeats 4000000
namespace Go.Proofs.YtibobcjfjnoclaaGreatDoor.Z
open Go Go.RowKit

instance : TB P 33 [(0, 1), (1, 1), (2, 1), (3, 1)] := ⟨by kernel_rfl⟩
instance : TB P 60 [(0, 32), (32, 1), (33, 1), (34, 1), (35, 1)] := ⟨by kernel_rfl⟩
instance : TB P 64 [(0, 1), (1, 1)] := ⟨by kernel_rfl⟩

/-- An input's cells, of which two bytes of its name may be other than none. -/
def inC (b c : UInt8) (vo : UInt32) (sv : Value) (sq : UInt32) (wv : Value) : Array Value := (u8 b :: (List.replicate 30 (u8 0) ++ [u8 c, u32 vo, sv, u32 sq, wv])).toArray
def prevOf (b c : UInt8) : B32 := ⟨b :: (List.replicate 30 0 ++ [c]), by simp⟩
theorem inC_eq (b c : UInt8) (vo : UInt32) (sv : Value) (sq : UInt32) (wv : Value) : (inC b c vo sv sq wv).toList = (prevOf b c).cells ++ [u32 vo, sv, u32 sq, wv] := by
  simp [inC, prevOf, B32.cells]

def InsF (w0 : World) (L : List Chunk) (w : World) (rows : List (List Value)) : Prop := ∀ r ∈ rows, r.length = 36 ∧ ∃ i, InE w (Out w0 L) r i
def OutsF (w0 : World) (L : List Chunk) (w : World) (rows : List (List Value)) : Prop := ∀ r ∈ rows, r.length = 2 ∧ ∃ i, OutE w (Out w0 L) r i
theorem InsF.mv {w0 w w' : World} {L L' : List Chunk} {rows : List (List Value)} (h : InsF w0 L w rows) (m : Mv w (Out w0 L) w' (Out w0 L')) : InsF w0 L' w' rows := fun r hr => ⟨(h r hr).1, by obtain ⟨i, hi⟩ := (h r hr).2; exact ⟨i, hi.mv m⟩⟩
theorem OutsF.mv {w0 w w' : World} {L L' : List Chunk} {rows : List (List Value)} (h : OutsF w0 L w rows) (m : Mv w (Out w0 L) w' (Out w0 L')) : OutsF w0 L' w' rows := fun r hr => ⟨(h r hr).1, by obtain ⟨i, hi⟩ := (h r hr).2; exact ⟨i, hi.mv m⟩⟩

def txC (ver : UInt32) (iv ov : Value) (lk : UInt32) : Array Value := #[u32 ver, iv, ov, u32 lk]

theorem InsF.list {w0 w : World} {L : List Chunk} {rows : List (List Value)} (h : InsF w0 L w rows) : ∃ l : List TIn, l.length = rows.length ∧ ∀ (i : Nat) (r : List Value) (a : TIn), rows[i]? = some r → l[i]? = some a → InE w (Out w0 L) r a := by
  induction rows with
  | nil => exact ⟨[], rfl, fun i r a hr => by simp at hr⟩
  | cons r t ih =>
    obtain ⟨l, h1, h2⟩ := ih fun r hr => h r (List.mem_cons_of_mem _ hr)
    obtain ⟨i, hi⟩ := (h r (by simp)).2
    refine ⟨i :: l, by simp [h1], fun j r' a hr ha => ?_⟩
    cases j with
    | zero => simp at hr ha; subst hr; subst ha; exact hi
    | succ j => exact h2 j r' a (by simpa using hr) (by simpa using ha)
theorem OutsF.list {w0 w : World} {L : List Chunk} {rows : List (List Value)} (h : OutsF w0 L w rows) : ∃ l : List TOut, l.length = rows.length ∧ ∀ (i : Nat) (r : List Value) (a : TOut), rows[i]? = some r → l[i]? = some a → OutE w (Out w0 L) r a := by
  induction rows with
  | nil => exact ⟨[], rfl, fun i r a hr => by simp at hr⟩
  | cons r t ih =>
    obtain ⟨l, h1, h2⟩ := ih fun r hr => h r (List.mem_cons_of_mem _ hr)
    obtain ⟨i, hi⟩ := (h r (by simp)).2
    refine ⟨i :: l, by simp [h1], fun j r' a hr ha => ?_⟩
    cases j with
    | zero => simp at hr ha; subst hr; subst ha; exact hi
    | succ j => exact h2 j r' a (by simpa using hr) (by simpa using ha)

end Go.Proofs.YtibobcjfjnoclaaGreatDoor.Z
end
section
/- A transaction's name. -/
set_option linter.unusedVariables false
set_option linter.unusedSimpArgs false
set_option linter.unusedSectionVars false
set_option maxRecDepth 100000
set_option maxHeartbeats 4000000
namespace Go.Proofs.YtibobcjfjnoclaaGreatDoor.Z
open Go Go.RowKit

theorem base_len (t : TTx) : t.base.length ≤ 500000 := by
  unfold TTx.base
  split
  · rename_i h
    have := body_len h
    simp [le_length]; omega
  · simp
def TTx.id (t : TTx) : B32 := twice t.base
theorem refTxid_ok (v : Value) (t : TTx) (w : World) (Y : Nat → Prop) (h : TxR w Y v t) :
    Ret P 20 #[v] w (fun r w' => Ext w w' ∧ r = t.id.v) := by
  obtain ⟨iv, ov, rfl, -, -⟩ := h.v
  refine Ret.enter1 Tryz.func20 rfl Tryz.ntmps20 rfl ?_
  refine ZC.seq ?_; refine ZC.region ?_
  refine ZL.box (Mem.start w No) rfl rfl rfl (fun b w1 M1 => ?_)
  refine ZL.alloc M1 rfl rfl (fun br w2 M2 => ?_)
  refine ZL.nil ?_; refine ZP.then ?_; refine ZC.seq ?_; refine ZC.region ?_
  refine ZL.val (r_ldW M2 rfl rfl) rfl ?_
  refine ZL.call (r_call rfl) rfl (refBase_ok _ t w2 Y (h.mv (Mv.ext M2.ext))) (fun v3 w3 ⟨E3, O3⟩ => ?_)
  have M3 := M2.ext' E3
  refine ZL.call (r_call rfl) rfl (refTwice_ok v3 t.base w3 _ O3.r (base_len t)) (fun v4 w4 ⟨E4, hv⟩ => ?_)
  subst hv
  have M4 := M3.ext' E4
  refine ZL.stW M4 rfl rfl (cs' := t.id.cells.toArray) rfl (by simp) (B32.size _) (B32.one _) (fun w5 M5 => ?_)
  refine ZL.nil ?_; refine ZP.then ?_; refine ZC.ret ?_
  exact ZP.retC rfl rfl (M5.get inferInstance) (B32.size _) ⟨M5.ext, rfl⟩
end Go.Proofs.YtibobcjfjnoclaaGreatDoor.Z
end
section
/- What a card asks of a walk: the frame of every law of this seat. -/
set_option linter.unusedVariables false
set_option linter.unusedSimpArgs false
set_option linter.unusedSectionVars false
set_option maxRecDepth 100000
namespace Go.Proofs.YtibobcjfjnoclaaGreatDoor.Z
open Go Go.RowKit Go.ChangeShapes Go.WideShapes Go.ChangeAt

theorem own : ownKnob Tryz.prog.godebug = none := by kernel_rfl
theorem keptBut_of_ext {w w' : World} (h : Ext w w') (may : MemPlace → Prop) : w.keptBut w' may := by
  refine ⟨h.os, h.output, fun i hi => ?_⟩
  rw [h.keep i hi id]
  cases w.heap[i]? with
  | none => rfl
  | some o => cases o <;> first | exact ⟨rfl, rfl, rfl, fun _ _ => rfl⟩ | exact .inr ⟨rfl, rfl⟩ | rfl
theorem postE {H : Type} {enc : TypeId × Value → H} {P : Program} {f : Func} {s : ChangeSpec} {apart fresh handsOn : Bool} {W W' : World} {args : Array Value} {v : Value} {ds gs : List (DataW H)} {before pa pv : List MemPlace}
    (hW : DataW.Whole enc P f.params.toList s.vars apart W args.toList ds gs before)
    (hres : ∀ (b : Nat) (sp : Nat → Bool) (hd : Bool), DataW.TrodAll enc P W' b sp hd f.resultTypes.toList (v.resultList f.resultTypes.size) (s.fn H (ds ++ gs)).results [])
    (hargs : ∀ sp : Nat → Bool, (∀ p ∈ before, sp p.block = true) → DataW.TrodAll enc P W' 0 sp true f.params.toList args.toList (s.fn H (ds ++ gs)).args pa)
    (hvars : ∀ sp : Nat → Bool, (∀ p ∈ before, sp p.block = true) → DataW.TrodVars enc P W' sp s.vars (s.fn H (ds ++ gs)).vars pv)
    (hps : before = pa ++ pv) (hE : Ext W W') : s.post enc P f apart fresh handsOn false W args v W' := by
  have hold : ∀ p ∈ before, (fun b => decide (b < W.heap.size)) p.block = true := fun p hp => by simpa using hW.lt p hp
  exact ⟨ds, gs, before, [], pa, pv, hW, hres _ _ _, hargs _ hold, hvars _ hold, keptBut_of_ext hE _, fun h => by cases h⟩

def laidC : List Int := cubes.map fun x => (x.toNat : Int)
def laidS : List Int := squares.map fun x => (x.toNat : Int)
def laid2 {H : Type} : List (String × DataW H) := [("lighterage/shas.cubes", Rows.laid_lighterage_shas_cubes), ("lighterage/shas.squares", Rows.laid_lighterage_shas_squares)]
theorem laid_c {H : Type} : (Rows.laid_lighterage_shas_cubes : DataW H) = Lib.tabData .u32 laidC := rfl
theorem laid_s {H : Type} : (Rows.laid_lighterage_shas_squares : DataW H) = Lib.tabData .u32 laidS := rfl
theorem cells_c : (laidC.map fun z => Value.int .u32 z).toArray = wcells 64 kc := by kernel_rfl
theorem cells_s : (laidS.map fun z => Value.int .u32 z).toArray = wcells 8 sq := by kernel_rfl
theorem u93 : Tryz.prog.underlying 101 = some (.array 64 29) := by kernel_rfl
theorem u95 : Tryz.prog.underlying 103 = some (.array 8 29) := by kernel_rfl
theorem u26 : Tryz.prog.underlying 29 = some (.int .u32) := by kernel_rfl
theorem c26 : Tryz.prog.cellsOf 29 = 1 := by kernel_rfl
theorem c93 : Tryz.prog.cellsOf 101 = 64 := by kernel_rfl
theorem c95 : Tryz.prog.cellsOf 103 = 8 := by kernel_rfl
theorem gC : Tryz.prog.globalNamed "lighterage/shas.cubes" = some 1 := by kernel_rfl
theorem gS : Tryz.prog.globalNamed "lighterage/shas.squares" = some 0 := by kernel_rfl
theorem tC : (Tryz.prog.globals[1]?).map (·.type) = some 101 := by kernel_rfl
theorem tS : (Tryz.prog.globals[0]?).map (·.type) = some 103 := by kernel_rfl

theorem var_heap {P : Program} {W : World} {name : String} {g : Nat} {cs : Array Value} (hg : P.globalNamed name = some g) (h : W.var? P name = some cs) : ∃ e fz, W.heap[g]? = some (.cells cs e fz) := by
  simp only [World.var?, hg, Option.bind_some] at h
  split at h
  · rename_i c e fz hh
    simp only [Option.some.injEq] at h
    subst h
    exact ⟨e, fz, hh⟩
  · cases h
theorem gw_of_laid {W : World} (h : laidMetH Tryz.prog laid2 W) : GW W := by
  have h' : laidMet Tryz.prog laid2 W := h
  obtain ⟨ps, ⟨g1, t1, cs1, fuel1, p1, q1, hg1, ht1, hv1, hd1, ⟨g2, t2, cs2, fuel2, p2, q2, hg2, ht2, hv2, hd2, _, _⟩, _⟩, _⟩ := h'
  obtain rfl := Option.some.inj (tC.symm.trans (by rw [← Option.some.inj (hg1.symm.trans gC)]; exact ht1))
  obtain rfl := Option.some.inj (tS.symm.trans (by rw [← Option.some.inj (hg2.symm.trans gS)]; exact ht2))
  rw [laid_c] at hd1
  rw [laid_s] at hd2
  have e1 := Lib.cells_of_tab u93 u26 c26 c93 hd1
  have e2 := Lib.cells_of_tab u95 u26 c26 c95 hd2
  have f1 : cs1 = wcells 64 kc := by rw [← cells_c, ← e1]
  have f2 : cs2 = wcells 8 sq := by rw [← cells_s, ← e2]
  subst f1 f2
  exact ⟨var_heap gC hv1, var_heap gS hv2⟩

def putCs (cs : Array Value) : Obj → Obj
  | .cells _ t frozen => .cells cs t frozen
  | o => o
/-- A world for the witness: the settled one, both tables holding what their initialisers lay. -/
noncomputable def laidWorld (os : Os) : World :=
  let w := World.holding Tryz.prog os ⟨#[], #[], []⟩
  { w with heap := (w.heap.modify 1 (putCs (wcells 64 kc))).modify 0 (putCs (wcells 8 sq)) }
theorem u4 : Tryz.prog.underlying 4 = some .bool := by kernel_rfl
theorem u3 : Tryz.prog.underlying 3 = some (.int .i64) := by kernel_rfl
end Go.Proofs.YtibobcjfjnoclaaGreatDoor.Z
end
section
/- General steps for seats without coins: what the coins' texts have, gathered. -/
set_option linter.unusedVariables false
set_option linter.unusedSimpArgs false
set_option linter.unusedSectionVars false
set_option maxRecDepth 100000
set_option maxHeartbeats 4000000
namespace Go.Proofs.YtibobcjfjnoclaaGreatDoor.Z
open Go Go.RowKit

theorem ZP.retCT {P : Program} {n : Nat} {σ : Env} {w : World} {fn : Func} {R : Value → World → Prop} {t ty b s by' : Nat} {u : Tmp} {cs : Array Value} {v : Value} {e : TypeId} {fz : Nat × Nat} [TA P ty] [TI P ty s by'] (hr : fn.results = #[.cell t ty, .tmp u]) (hv : lk σ t = some (.pointer (some ⟨b, 0, none⟩)))
    (hm : w.heap[b]? = some (.cells cs e fz)) (hn : cs.size = s) (hu : lk σ u = some v) (hR : R (.tuple #[.agg cs, v]) w) : ZP n (RetPost P fn R) .ret σ w := by
  refine ⟨fun a ha => ⟨ha.defers, .tuple #[.agg cs, v], ?_, hR⟩⟩
  have h1 := ha.at' t _ hv
  have h2 := ha.at' u _ hu
  have hl := run_loadSeg (P := P) (w := w) (b' := b) (o' := 0) (n := s) hm (by omega)
  have he : cs.extract 0 (0 + s) = cs := by subst hn; simp
  rw [he] at hl
  simp [results, hr, h1, h2, asAddr, loadVar, TA.h, run_sizeOf' (t := ty), hl]


/-! ### Maps among the chunks -/
class PutF (L : List Chunk) (b : Nat) (o : outParam Obj) (F : outParam (Obj → List Chunk)) : Prop where
  h : ∃ A B, L = A ++ .blk b o :: B ∧ ∀ o', F o' = A ++ .blk b o' :: B
instance (priority := 1100) PutF.head {L : List Chunk} {b : Nat} {o : Obj} : PutF (.blk b o :: L) b o (fun o' => .blk b o' :: L) := ⟨[], L, rfl, fun _ => rfl⟩
instance (priority := 900) PutF.tail {L : List Chunk} {b : Nat} {o : Obj} {c : Chunk} {F : Obj → List Chunk} [i : PutF L b o F] : PutF (c :: L) b o (fun o' => c :: F o') := ⟨by
  obtain ⟨A, B, h1, h2⟩ := i.h
  exact ⟨c :: A, B, by simp [h1], fun o' => by simp [h2]⟩⟩
theorem PutF.put {L : List Chunk} {b : Nat} {o o' : Obj} {F : Obj → List Chunk} (i : PutF L b o F) : Put L b o o' (F o') := ⟨by
  obtain ⟨A, B, h1, h2⟩ := i.h
  exact ⟨A, B, h1, h2 o'⟩⟩
theorem Mem.startB {w : World} {b : Nat} {o : Obj} (h : w.heap[b]? = some o) : Mem w (· = b) [.blk b o] w :=
  ⟨.refl _ _, by simpa [Chunk.ok] using h, by simp, by simp [Chunk.fp]⟩
/-- A call that turns one block. -/
theorem Mem.called {w0 w w' : World} {X : Nat → Prop} {L : List Chunk} {b : Nat} {o o' : Obj} {F : Obj → List Chunk} (h : Mem w0 X L w) (i : PutF L b o F) (he : ExtX w (· = b) w') (ho : w'.heap[b]? = some o') : Mem w0 X (F o') w' := by
  obtain ⟨A, B, rfl, h2⟩ := i.h
  rw [h2]
  exact h.turn (he.mono fun k hk => by subst hk; rfl) ho (fun g hg => .inl hg)
section
variable {P : Program} {n : Nat} {ops : Array Oper} {Q : Post} {rest : List Oper} {σ : Env} {w w0 : World} {X : Nat → Prop} {L : List Chunk} {F : Obj → List Chunk}
variable {d : Nat} {ty : TypeId} {pos : String} {after : Array Edge} {x y u : Operand} {K U : Type} [DecidableEq K] {ke : K → Value} {ve : U → Value} {m : List (K × U)} {es : Array MapEntry} {clk : Nat} {kt et t : TypeId} {b : Nat} {k : K} {v : U}
theorem ZL.mput [TU P t (.map kt et)] [kk : KeyT P kt ke] (hM : Mem w0 X L w) (hx : ev σ x = some (.map (some b))) (hy : ev σ y = some (ke k)) (hu : ev σ u = some (ve v)) [i : PutF L b (.map es clk) F] (hO : MObj ke ve m es clk)
    (h : ∀ es' clk' w', MObj ke ve (Z.mput m k v) es' clk' → Mem w0 X (F (.map es' clk')) w' → ZL P n ops Q rest σ w') : ZL P n ops Q (⟨none, .mapUpdate t x y u, ty, pos, after, none⟩ :: rest) σ w := by
  obtain ⟨es', clk', h1, h2⟩ := uw_mapUpdate (P := P) (σ := σ) (t := t) hx hy hu (hM.putGet (i.put (o' := .map es clk))) hO
  exact ZL.unit h1 (h es' clk' _ h2 (hM.upd i.put (Upd.putObj (Array.getElem?_eq_some_iff.1 (hM.putGet (i.put (o' := .map es clk)))).1)))
theorem ZL.mdel {ats : Array TypeId} [TU P t (.map kt et)] [kk : KeyT P kt ke] (hat : ats[0]? = some t) (hM : Mem w0 X L w) (hx : ev σ x = some (.map (some b))) (hy : ev σ y = some (ke k)) [i : PutF L b (.map es clk) F] (hO : MObj ke ve m es clk)
    (h : ∀ es' w', MObj ke ve (Z.mdel m k) es' clk → Mem w0 X (F (.map es' clk)) w' → ZL P n ops Q rest σ w') : ZL P n ops Q (⟨none, .call ⟨.builtin .delete, #[x, y], ats⟩, ty, pos, after, none⟩ :: rest) σ w := by
  obtain ⟨es', h1, h2⟩ := vw_delete (P := P) (σ := σ) (t := t) hat hx hy (hM.putGet (i.put (o' := .map es clk))) hO
  exact ZL.vw0 h1 (h es' _ h2 (hM.upd i.put (Upd.putObj (Array.getElem?_eq_some_iff.1 (hM.putGet (i.put (o' := .map es clk)))).1)))
end


theorem fill_cons {place : Nat → Option (Nat × Nat)} {cs : Array Value} {v : Value} {i off size : Nat} {rest : List (Nat × Value)} (hp : place i = some (off, size)) (hs : v.cells.size = size) (hb : off + size ≤ cs.size) :
    Instr.fill place cs ((i, v) :: rest) = Instr.fill place (cs.toList.take off ++ v.cells.toList ++ cs.toList.drop (off + size)).toArray rest := by
  have hf := foldl_set v.cells.toList off 0 cs (by simp [hs]; omega)
  simp only [Instr.fill, hp]
  rw [if_neg (by simp [hs]; omega)]
  congr 1
  apply Array.ext'
  rw [← Array.foldl_toList, Array.toList_zipIdx, hf]
  simp [hs]


theorem Mv.fp {w w' : World} {X Y : Nat → Prop} {L : List Chunk} (h : Mem w X L w') (hy : ∀ b, X b → Y b) : Mv w Y w' (fpIn L) :=
  ⟨fun b hb hx => h.ext.keep b hb (fun hh => hx (hy b hh)), fun b hb ⟨c, hc, hg⟩ => by
    rcases h.mine c hc b hg with h1 | h1
    · exact hy b h1
    · omega, h.ext.size⟩
theorem Mv.newer {w0 w w' : World} {X : Nat → Prop} {L : List Chunk} (h : Mem w0 X L w) (hs : w.heap.size ≤ w'.heap.size) : Mv w' (· < w.heap.size) w' (fpIn L) :=
  Mv.mono fun b _ ⟨c, hc, hg⟩ => Chunk.lt (h.ok c hc) b hg

theorem Mem.backX {w0 w w' : World} {X : Nat → Prop} {L : List Chunk} (h : Mem w0 X L w) (he : ExtX w (fpIn L) w') : ExtX w0 X w' :=
  h.ext.trans he (fun _ h => h) fun b hb ⟨c, hc, hg⟩ => by
    rcases h.mine c hc b hg with h | h
    · exact h
    · omega


section
variable {P : Program} {n : Nat} {ops : Array Oper} {Q : Post} {S : World → Prop} {k g fuel : Nat} {l2 : List Oper} {listed listed' : Array Bool} {σ : Env} {w : World}
theorem ZT.takeOn (i : Nat) {d : Nat} {op : Op} {ty : TypeId} {pos : String} {after : Array Edge} {j gs : Nat} {want b : Bool} {v : Value} {fuel' : Nat} (hf1 : fuel = fuel' + 1)
    (hi : ops[i]? = some ⟨some d, op, ty, pos, after, some (j, want)⟩) (hg : ((ops[j]?).bind (·.dst)) = some gs) (hb : lk σ gs = some (.bool b)) (hne : (b == want) = true) (hy : ∀ w', S w' → V P σ op v w') (hB : tailB ops k = true) (hik : Nat.blt i k = true) (hf : Region.free .any ops listed i = true)
    (hr : (Region.ready .any ops listed).contains i = true) (hl : listed.setIfInBounds i true = listed') (hd : Nat.blt d n = true) (hQ : ∀ c a a' w, Q (.panic c) a w → Q (.panic c) a' w) (hS : S w)
    (h : ZT P n ops Q S k g l2 fuel' listed' ((d, v) :: σ) w) : ZT P n ops Q S k g l2 fuel listed σ w := by
  subst hl; subst hf1
  simp only [tailB, Bool.and_eq_true] at hB
  obtain ⟨⟨⟨hsel, hn⟩, hs⟩, hc⟩ := hB
  have hik' : i < k := by simpa [Nat.blt_eq] using hik
  have hr' : i ∈ Region.ready .any ops listed := by simpa using hr
  refine ⟨fun a ha inv => ?_⟩
  have hyd : yielded ops a.tmps j = some b := by simp [yielded, hg, ha.at' gs _ hb]
  have hwant : Region.wanted ⟨some d, op, ty, pos, after, some (j, want)⟩ (yielded ops a.tmps) = true := by simp [Region.wanted, hyd]; simpa using hne
  exact wpAnyT_first hi (Region.noSelect_spec hsel) hs hc (by simpa [Nat.blt_eq] using hn) hik' (fun c a w hq => hQ c _ _ w hq) (fun listed a w hL => seqB_ready hL.1) fuel' listed a w inv (Region.free_spec hi hf) hr'
    (.inl ⟨hwant, fun w' hw' => (hy w' hw').h a.eval ha.ag _ rfl⟩) hS (h.h _ (ha.put hd) (inv.set hr' hik'))
theorem ZT.takeOff (i : Nat) {d : Nat} {op : Op} {ty : TypeId} {pos : String} {after : Array Edge} {j gs : Nat} {want b : Bool} {fuel' : Nat} (hf1 : fuel = fuel' + 1)
    (hi : ops[i]? = some ⟨some d, op, ty, pos, after, some (j, want)⟩) (hg : ((ops[j]?).bind (·.dst)) = some gs) (hb : lk σ gs = some (.bool b)) (hne : (b == want) = false) (hB : tailB ops k = true) (hik : Nat.blt i k = true) (hf : Region.free .any ops listed i = true)
    (hr : (Region.ready .any ops listed).contains i = true) (hl : listed.setIfInBounds i true = listed') (hd : Nat.blt d n = true) (hQ : ∀ c a a' w, Q (.panic c) a w → Q (.panic c) a' w) (hS : S w)
    (h : ZT P n ops Q S k g l2 fuel' listed' ((d, undef) :: σ) w) : ZT P n ops Q S k g l2 fuel listed σ w := by
  subst hl; subst hf1
  simp only [tailB, Bool.and_eq_true] at hB
  obtain ⟨⟨⟨hsel, hn⟩, hs⟩, hc⟩ := hB
  have hik' : i < k := by simpa [Nat.blt_eq] using hik
  have hr' : i ∈ Region.ready .any ops listed := by simpa using hr
  refine ⟨fun a ha inv => ?_⟩
  have hyd : yielded ops a.tmps j = some b := by simp [yielded, hg, ha.at' gs _ hb]
  have hwant : Region.wanted ⟨some d, op, ty, pos, after, some (j, want)⟩ (yielded ops a.tmps) = false := by simp [Region.wanted, hyd, hne]
  exact wpAnyT_first hi (Region.noSelect_spec hsel) hs hc (by simpa [Nat.blt_eq] using hn) hik' (fun c a w hq => hQ c _ _ w hq) (fun listed a w hL => seqB_ready hL.1) fuel' listed a w inv (Region.free_spec hi hf) hr'
    (.inr ⟨hwant, rfl⟩) hS (h.h _ (ha.put hd) (inv.set hr' hik'))
end

section
variable {P : Program} {n : Nat} {ops : Array Oper} {Q : Post} {σ : Env} {w w0 : World} {X : Nat → Prop} {L : List Chunk} {fuel : Nat}
variable {i j di dj : Nat} {opi opj : Op} {ti tj : TypeId} {pi pj : String} {ei ej : Array Edge} {listed li lj lij : Array Bool}
theorem Ext.allocU (w : World) (o : Obj) : Ext w (w.alloc o) := have h := Upd.alloc w o; ⟨h.os, h.tape, h.output, h.size, fun k hk _ => h.other k (Nat.ne_of_lt hk)⟩
/-- A call that makes things anew, and an own cell that is laid, in either order. -/
theorem ZA.callAlloc (i j : Nat) {f : FuncId} {args : Array Value} {t : TypeId} {z : Value} {zs : Array Value} {R : (Nat → Prop) → Value → World → Prop} (hr : Region.ready .any ops listed = [i, j]) (hri : Region.ready .any ops li = [j]) (hrj : Region.ready .any ops lj = [i])
    (hi : ops[i]? = some ⟨some di, opi, ti, pi, ei, none⟩) (hj : ops[j]? = some ⟨some dj, .alloc t, tj, pj, ej, none⟩)
    (hli : listed.setIfInBounds i true = li) (hlj : listed.setIfInBounds j true = lj) (hlij : li.setIfInBounds j true = lij) (hlji : lj.setIfInBounds i true = lij)
    (hdi : Nat.blt di n = true) (hdj : Nat.blt dj n = true) (hni : lk σ di = none) (hnj : lk σ dj = none) (hne : Nat.beq di dj = false)
    (hv : ∀ w, EN P σ opi f args w) (hc : ∀ w, MemS w0 X L w → Ret P f args w (fun v w' => Ext w w' ∧ R (· < w.heap.size) v w')) (hR : ∀ {w w' X X' v}, R X v w → Mv w X w' X' → R X' v w')
    [TZ P t z] (hz : vcells z = some zs) (hM : Mem w0 X L w)
    (h : ∀ v b w', Ext w w' → w.heap.size ≤ b → Mem w0 X (.blk b (.cells zs t) :: L) w' → R (fun g => g < w.heap.size ∨ fpIn (.blk b (.cells zs t) :: L) g) v w' → ZA P n ops Q (MemS w0 X L) fuel lij ((dj, .pointer (some ⟨b, 0, none⟩)) :: (di, v) :: σ) w') : ZA P n ops Q (MemS w0 X L) (fuel + 2) listed σ w := by
  have hne' : di ≠ dj := fun e => by subst e; simp at hne
  refine ⟨fun a ha => wpAnyH_all hr (by simp) fun q hq => ?_⟩
  simp only [List.mem_cons, List.not_mem_nil, or_false] at hq
  rcases hq with rfl | rfl
  · refine wpOp_turn hi rfl ?_
    unfold Oper.wp
    rw [(hv w).h a.eval ha.ag _ rfl]
    refine Calls.mono (hc w (MemS.of hM)).h ?_
    rintro e w1 ⟨v, rfl, hE, hRv⟩
    have hM1 := hM.ext' hE
    refine ⟨MemS.of hM1, ?_⟩
    rw [hli]
    refine wpAnyH_all hri (by simp) fun r hr => ?_
    simp only [List.mem_singleton] at hr; subst hr
    refine wpOp_turn hj rfl ?_
    unfold Oper.wp
    rw [(vw_alloc (P := P) (σ := σ) (w := w1) (t := t) (z := z)).h _ (ha.put' hdi hni (v := v)).ag _ rfl]
    have hp := hM1.push (Upd.alloc w1 (.cells z.cells t)) rfl
    rw [vcells_eq hz] at hp
    rw [vcells_eq hz]
    refine ⟨⟨[_], hp⟩, ?_⟩
    rw [hlij]
    refine (h v _ _ (ExtX.trans hE (Ext.allocU w1 (.cells zs t)) (fun _ h => h) (fun _ _ h => h)) hE.size hp (hR hRv ⟨fun b hb _ => (Upd.alloc w1 (.cells zs t)).other b (by omega), fun b hb hf => ?_, ?_⟩)).h _ ((ha.put hdi).put hdj)
    · rcases hf with hf | hf
      · exact hf
      obtain ⟨c, hc', hg⟩ := hf
      rcases List.mem_cons.1 hc' with rfl | hc'
      · simp only [Chunk.fp, Option.some.injEq] at hg; omega
      · exact Chunk.lt (hM.ok c hc') b hg
    · exact (Upd.alloc w1 (.cells zs t)).extX.size
  · refine wpOp_turn hj rfl ?_
    unfold Oper.wp
    rw [(vw_alloc (P := P) (σ := σ) (w := w) (t := t) (z := z)).h a.eval ha.ag _ rfl]
    have hp := hM.push (Upd.alloc w (.cells z.cells t)) rfl
    rw [vcells_eq hz] at hp
    rw [vcells_eq hz]
    refine ⟨⟨[_], hp⟩, ?_⟩
    rw [hlj]
    refine wpAnyH_all hrj (by simp) fun r hr => ?_
    simp only [List.mem_singleton] at hr; subst hr
    refine wpOp_turn hi rfl ?_
    unfold Oper.wp
    rw [(hv _).h _ (ha.put' hdj hnj (v := .pointer (some ⟨w.heap.size, 0, none⟩))).ag _ rfl]
    refine Calls.mono (hc _ ⟨[_], hp⟩).h ?_
    rintro e w2 ⟨v, rfl, hE, hRv⟩
    have hM2 := hp.ext' hE
    refine ⟨⟨[_], hM2⟩, ?_⟩
    rw [hlji]
    have e : (a.put (some dj) (.pointer (some ⟨w.heap.size, 0, none⟩))).put (some di) v = (a.put (some di) v).put (some dj) (.pointer (some ⟨w.heap.size, 0, none⟩)) := by
      simp only [Act.put]
      rw [Array.setIfInBounds_comm _ _ (Ne.symm hne')]
    show wpAnyH P .any ops Q (MemS w0 X L) fuel lij ((a.put (some dj) (.pointer (some ⟨w.heap.size, 0, none⟩))).put (some di) v) w2
    rw [e]
    refine (h v _ w2 (ExtX.trans (Ext.allocU w (.cells zs t)) hE (fun _ h => h) (fun _ _ h => h)) (Nat.le_refl _) hM2 (hR hRv (Mv.mono fun g _ hg => ?_))).h _ ((ha.put hdi).put hdj)
    have hsz : w.heap.size < (w.alloc (.cells zs t)).heap.size := Chunk.lt (hp.ok _ (List.mem_cons_self ..)) _ rfl
    rcases hg with hg | ⟨c, hc', hg⟩
    · exact Nat.lt_trans hg hsz
    · exact Chunk.lt (hp.ok c hc') g hg

theorem Mv.pushed {w w' w0 w1 : World} {X : Nat → Prop} {L : List Chunk} {b : Nat} {o : Obj} (hM : Mem w1 X (.blk b o :: L) w') (hE : Ext w w') (hb : w.heap.size ≤ b) : Mv w (Out w0 L) w' (Out w0 (.blk b o :: L)) :=
  ⟨fun k hk _ => hE.keep k hk id, fun k hk hx => by
    rcases hx with hx | ⟨c, hc, hg⟩
    · exact .inl hx
    · rcases List.mem_cons.1 hc with rfl | hc
      · simp only [Chunk.fp, Option.some.injEq] at hg; omega
      · exact .inr ⟨c, hc, hg⟩, hE.size⟩
end

theorem V.eq {P : Program} {σ : Env} {op : Op} {v v' : Value} {w : World} (h : V P σ op v w) (e : v = v') : V P σ op v' w := e ▸ h

/-- A slice of integers that was handed in. -/
def IntsA (w : World) (v : Value) (l : List Int) : Prop := ∃ p c, v = .slice p l.length c ∧ (l ≠ [] → ∃ b o cs e fz, p = some ⟨b, o, none⟩ ∧ w.heap[b]? = some (.cells cs e fz) ∧ ∀ i u, l[i]? = some u → cs[o + i]? = some (.int .i64 u))
theorem IntsA.ext {w w' : World} {v : Value} {l : List Int} (h : IntsA w v l) (he : Ext w w') : IntsA w' v l := by
  obtain ⟨p, c, rfl, hh⟩ := h
  refine ⟨p, c, rfl, fun hl => ?_⟩
  obtain ⟨b, o, cs, e, fz, rfl, h1, h2⟩ := hh hl
  exact ⟨b, o, cs, e, fz, rfl, he.at h1 id, h2⟩
theorem IntsA.elem {w : World} {p : Option Addr} {n c : Nat} {l : List Int} (h : IntsA w (.slice p n c) l) {i : Nat} (hi : i < l.length) :
    n = l.length ∧ ∃ b o cs e fz, p = some ⟨b, o, none⟩ ∧ w.heap[b]? = some (.cells cs e fz) ∧ cs[o + i]? = some (.int .i64 l[i]) := by
  obtain ⟨p', c', hv, hh⟩ := h
  simp only [Value.slice.injEq] at hv
  obtain ⟨rfl, rfl, rfl⟩ := hv
  obtain ⟨b, o, cs, e, fz, rfl, h1, h2⟩ := hh (by intro e; subst e; simp at hi)
  exact ⟨rfl, b, o, cs, e, fz, rfl, h1, h2 i _ (List.getElem?_eq_getElem hi)⟩


theorem Mv.outSub {w0 w : World} {L L' : List Chunk} (h : ∀ c ∈ L', c ∈ L) : Mv w (Out w0 L) w (Out w0 L') := Mv.mono fun b _ hx => hx.imp id fun ⟨c, hc, hg⟩ => ⟨c, h c hc, hg⟩

theorem Mem.subP {w0 w : World} {X : Nat → Prop} {L L' : List Chunk} (h : Mem w0 X L w) (is : List Nat) (hp : picks L is = some L') (hr : rising is = true := by rfl) : Mem w0 X L' w ∧ ∀ c ∈ L', c ∈ L := ⟨h.sub is hp hr, fun c hc => by have := (picks_sub is L L' 0 (fun _ _ => Nat.zero_le _) hr hp).subset hc; simpa using this⟩

theorem SlC.row {w : World} {X : Nat → Prop} {s n c n' i : Nat} {p : Option Addr} {rows : List (List Value)} {r : List Value} (hs : 0 < s) (h : SlC w X s (.slice p n c) n' rows.flatten) (hn : n' = rows.length) (hr : ∀ r ∈ rows, r.length = s) (hi : rows[i]? = some r) :
    ∃ g o cs e fz, p = some ⟨g, o, none⟩ ∧ w.heap[g]? = some (.cells cs e fz) ∧ ¬ X g ∧ o + i * s + s ≤ cs.size ∧ cs.extract (o + i * s) (o + i * s + s) = r.toArray := by
  subst hn
  have hL : ListR (fun _ _ r a => r = a) s w X (.slice p n c) rows := ⟨rows, rfl, hr, h, fun i r a hr ha => by rw [hr] at ha; exact Option.some.inj ha⟩
  obtain ⟨hlt, hget⟩ := List.getElem?_eq_some_iff.1 hi
  obtain ⟨g, o, cs, e, fz, r', hp, hh, hx, _, he, _, h1, h2⟩ := hL.elem hs hlt
  subst he
  rw [hget] at h2
  exact ⟨g, o, cs, e, fz, hp, hh, hx, h1, h2⟩
theorem SlC.at1 {w : World} {X : Nat → Prop} {n c n' i : Nat} {p : Option Addr} {xs : List Value} {u : Value} (h : SlC w X 1 (.slice p n c) n' xs) (hi : xs[i]? = some u) :
    ∃ g o cs e fz, p = some ⟨g, o, none⟩ ∧ w.heap[g]? = some (.cells cs e fz) ∧ ¬ X g ∧ cs[o + i * 1]? = some u ∧ i < n := by
  obtain ⟨hl, hn | ⟨g, o, c', cs, e, fz, hv, hx, hg, h1, h2, h3⟩⟩ := h
  · obtain ⟨_, rfl⟩ := hn
    have := (List.getElem?_eq_some_iff.1 hi).1
    omega
  · simp only [Value.slice.injEq] at hv
    obtain ⟨rfl, rfl, rfl⟩ := hv
    refine ⟨g, o, cs, e, fz, rfl, hg, hx, by rw [Nat.mul_one]; exact h3 i u hi, ?_⟩
    have := (List.getElem?_eq_some_iff.1 hi).1
    omega


theorem fpIn_of {w0 w : World} {X : Nat → Prop} {L : List Chunk} {b : Nat} {o : Obj} (M : Mem w0 X L w) [i : In L b o] : fpIn L b := ⟨.blk b o, i.h, rfl⟩

section
variable {P : Program} {n : Nat} {ops : Array Oper} {K : Act → Prop} {rest : List Oper} {σ : Env} {w : World}
theorem ZS.on {dst : Option Tmp} {op : Op} {ty : TypeId} {pos : String} {after : Array Edge} {j : Nat} {want : Bool} {g : Nat} {b : Bool}
    (hg : ((ops[j]?).bind (·.dst)) = some g) (hb : lk σ g = some (.bool b)) (hne : (b == want) = true)
    (h : ZS P n ops K (⟨dst, op, ty, pos, after, none⟩ :: rest) σ w) : ZS P n ops K (⟨dst, op, ty, pos, after, some (j, want)⟩ :: rest) σ w := by
  refine ⟨fun a ha => ?_⟩
  have hy : yielded ops a.tmps j = some b := by simp [yielded, hg, ha.at' g _ hb]
  have hwant : Region.wanted ⟨dst, op, ty, pos, after, some (j, want)⟩ (yielded ops a.tmps) = true := by simp [Region.wanted, hy]; simpa using hne
  have h1 := h.h a ha
  unfold wpStill at h1 ⊢
  rw [if_pos hwant]
  rw [if_pos (by simp [Region.wanted])] at h1
  exact h1
theorem ZS.skip {d : Nat} {op : Op} {ty : TypeId} {pos : String} {after : Array Edge} {j : Nat} {want : Bool} {g : Nat} {b : Bool}
    (hg : ((ops[j]?).bind (·.dst)) = some g) (hb : lk σ g = some (.bool b)) (hne : (b == want) = false) (hd : Nat.blt d n = true)
    (h : ZS P n ops K rest ((d, undef) :: σ) w) : ZS P n ops K (⟨some d, op, ty, pos, after, some (j, want)⟩ :: rest) σ w := by
  refine ⟨fun a ha => ?_⟩
  have hy : yielded ops a.tmps j = some b := by simp [yielded, hg, ha.at' g _ hb]
  have hwant : Region.wanted ⟨some d, op, ty, pos, after, some (j, want)⟩ (yielded ops a.tmps) = false := by simp [Region.wanted, hy, hne]
  unfold wpStill
  rw [if_neg (by rw [hwant]; simp)]
  exact h.h _ (ha.put hd)
end


section
variable {P : Program} {n : Nat} {ops : Array Oper} {Q : Post} {S : World → Prop} {k g fuel : Nat} {l2 : List Oper} {listed listed' listedj : Array Bool} {σ σ' : Env} {w : World}
theorem ZT.sub (hs : Sub σ' σ) (h : ZT P n ops Q S k g l2 fuel listed σ' w) : ZT P n ops Q S k g l2 fuel listed σ w := ⟨fun a ha inv => h.h a (ha.sub hs) inv⟩
/-- Two that may come next. -/
theorem ZT.two (i j : Nat) {oi oj : Oper} {fuel' : Nat} (hf1 : fuel = fuel' + 1) (hr : Region.ready .any ops listed = [i, j]) (hik : Nat.blt i k = true) (hjk : Nat.blt j k = true) (hi : ops[i]? = some oi) (hj : ops[j]? = some oj) (hl : listed.setIfInBounds i true = listed') (hlj : listed.setIfInBounds j true = listedj)
    (h : ZL P n ops (Exit.then (fun a w => S w ∧ (HeadInv .any ops k listed' → wpAnyT P .any ops Q S k (TailK P ops Q k g l2) fuel' listed' a w)) Q) [oi] σ w)
    (h' : ZL P n ops (Exit.then (fun a w => S w ∧ (HeadInv .any ops k listedj → wpAnyT P .any ops Q S k (TailK P ops Q k g l2) fuel' listedj a w)) Q) [oj] σ w) : ZT P n ops Q S k g l2 fuel listed σ w := by
  subst hl; subst hlj; subst hf1
  have hik' : i < k := by simpa [Nat.blt_eq] using hik
  have hjk' : j < k := by simpa [Nat.blt_eq] using hjk
  refine ⟨fun a ha inv => ⟨by rw [hr]; simp, fun q hq => ?_⟩⟩
  have hri : i ∈ Region.ready .any ops listed := by rw [hr]; simp
  have hrj : j ∈ Region.ready .any ops listed := by rw [hr]; simp
  have key : ∀ (q : Nat) (o : Oper), ops[q]? = some o → q < k → q ∈ Region.ready .any ops listed → ZL P n ops (Exit.then (fun a w => S w ∧ (HeadInv .any ops k (listed.setIfInBounds q true) → wpAnyT P .any ops Q S k (TailK P ops Q k g l2) fuel' (listed.setIfInBounds q true) a w)) Q) [o] σ w →
      q < k ∧ wpOp P ops Q q (fun a' w' => S w' ∧ wpAnyT P .any ops Q S k (TailK P ops Q k g l2) fuel' (listed.setIfInBounds q true) a' w') a w := by
    intro q o ho hqk hrq hz
    refine ⟨hqk, ?_⟩
    have h1 := hz.h a ha
    have inv' := inv.set hrq hqk
    have h2 : wpOp P ops (Exit.then (fun a w => S w ∧ (HeadInv .any ops k (listed.setIfInBounds q true) → wpAnyT P .any ops Q S k (TailK P ops Q k g l2) fuel' (listed.setIfInBounds q true) a w)) Q) q (fun a w => S w ∧ (HeadInv .any ops k (listed.setIfInBounds q true) → wpAnyT P .any ops Q S k (TailK P ops Q k g l2) fuel' (listed.setIfInBounds q true) a w)) a w := by
      unfold wpOp
      simp only [ho]
      simpa [wpList, Exit.then] using h1
    have h3 := wpOp_mono (K' := fun a w => S w ∧ wpAnyT P .any ops Q S k (TailK P ops Q k g l2) fuel' (listed.setIfInBounds q true) a w) (fun a' w' h => ⟨h.1, h.2 inv'⟩) h2
    unfold wpOp at h3 ⊢
    simp only [ho] at h3 ⊢
    simpa [Exit.then, LetsOut, Oper.wp, Oper.upon] using h3
  rw [hr] at hq
  simp only [List.mem_cons, List.not_mem_nil, or_false] at hq
  rcases hq with rfl | rfl
  · exact key q oi hi hik' hri h
  · exact key q oj hj hjk' hrj h'
end

section
variable {P : Program} {n : Nat} {ops : Array Oper} {Q : Post} {S : World → Prop} {k g fuel fuel2 : Nat} {l2 : List Oper} {listed listed2 : Array Bool} {σ : Env} {w : World}
/-- Several ways that meet. -/
theorem ZT.via {X : Type} (listed2 : Array Bool) (fuel2 : Nat) (vals : X → Env) (inv : X → World → Prop)
    (paths : (∀ σ' w' listed' fuel', listed' = listed2 → fuel' = fuel2 → (∃ x, Sub (vals x) σ' ∧ inv x w') → ZT P n ops Q S k g l2 fuel' listed' σ' w') → ZT P n ops Q S k g l2 fuel listed σ w)
    (tail : ∀ x w', inv x w' → ZT P n ops Q S k g l2 fuel2 listed2 (vals x) w') : ZT P n ops Q S k g l2 fuel listed σ w :=
  paths fun σ' w' listed' fuel' hl hf ⟨x, hs, hi⟩ => by subst hl; subst hf; exact (tail x w' hi).sub hs
end

theorem Mem.addOld {w0 w : World} {L : List Chunk} {b : Nat} {o : Obj} (h : Mem w0 No L w) (hb : w.heap[b]? = some o) (hlt : b < w0.heap.size) : Mem w0 (· = b) (.blk b o :: L) w := by
  have hw := h.weak (· = b)
  refine ⟨hw.ext, fun c hc => ?_, List.pairwise_cons.2 ⟨fun c hc g hg hg' => ?_, h.ap⟩, fun c hc g hg => ?_⟩
  · rcases List.mem_cons.1 hc with rfl | hc
    · exact hb
    · exact h.ok c hc
  · simp only [Chunk.fp, Option.some.injEq] at hg
    subst hg
    rcases h.mine c hc b hg' with h1 | h1
    · exact h1
    · omega
  · rcases List.mem_cons.1 hc with rfl | hc
    · simp only [Chunk.fp, Option.some.injEq] at hg; exact .inl hg.symm
    · exact hw.mine c hc g hg


theorem Out.lt {w0 w : World} {L : List Chunk} (h : Mem w0 No L w) : ∀ b, Out w0 L b → b < w.heap.size := fun b hb => by
  rcases hb with hb | ⟨c, hc, hg⟩
  · exact Nat.lt_of_lt_of_le hb h.ext.size
  · exact Chunk.lt (h.ok c hc) b hg

section
variable {P : Program} {σ : Env} {w : World}
theorem r_buildZ {t : TypeId} {z : Value} {zs : Array Value} {fs : List (Nat × Nat)} [TB P t fs] [TZ P t z] (hz : vcells z = some zs) : V P σ (.build t #[]) (.agg zs) w := by
  refine ⟨fun ρ ha o ho => ?_⟩
  have hb : P.built t [] = some zs := by
    have hi := TB.h (P := P) (t := t)
    have hzz := TZ.h (P := P) (t := t)
    unfold Program.built
    cases hit : P.info? t with
    | none => simp [hit] at hzz
    | some it =>
      cases hu : P.underlying t with
      | none => simp [hu] at hi
      | some d =>
        rw [hu] at hi
        cases d <;> simp only [reduceCtorEq] at hi
        simp only [hit, Option.map_some, Option.some.injEq] at hzz
        simp only [hzz, hi]
        rw [vcells_eq hz]
        rfl
  have hr : (Instr.build t #[]).run P w = .ok (.agg zs) w := run_build w t _ _ hb
  simp [execOp, ho, hr]
end

section
variable {P : Program} {σ : Env} {w : World} {x y : Operand} {t t' : TypeId}
theorem r_toStr {s d e : TypeId} {X : Nat → Prop} {v : Value} {l : List UInt8} [ts : TU P s (.slice e)] [te : TU P e (.int .u8)] [td : TU P d .string] (hx : ev σ x = some v) (h : BytesR w X v l) (hl : l ≠ []) : V P σ (.convert s d x) (.string ⟨l.toArray⟩) w := by
  refine ⟨fun ρ ha o ho => ?_⟩
  rcases SlC.news h with ⟨rfl, h0, _⟩ | ⟨a, c, rfl, hn⟩
  · exact absurd (List.eq_nil_of_length_eq_zero h0) hl
  · have := run_convert_bytes_back (P := P) w s d e a c l ts.h te.h td.h (fun j hj => hn j (u8 l[j]) (by simp [hj]))
    simp [execOp, ho, ha _ _ hx, this]
theorem r_lssS {a b : ByteArray} (hx : ev σ x = some (.string a)) (hy : ev σ y = some (.string b)) : V P σ (.binOp .lss t x y t') (.bool (Op.bytesLess a.toList b.toList)) w := by
  refine ⟨fun ρ ha o ho => ?_⟩; simp [execOp, ho, ha _ _ hx, ha _ _ hy, eqGuard, binOp_string_lss]
/-- Equality of an aggregate type is plain. -/
class TG (P : Program) (t : TypeId) : Prop where
  h : P.eqGuardType P.depth t = false
theorem r_eqlA {t2 : TypeId} {xs ys : Array Value} {bb : Bool} [g : TG P t2] (hx : ev σ x = some (.agg xs)) (hy : ev σ y = some (.agg ys)) (he : (Op.equalIn 10000 t (.agg xs) (.agg ys)).run P w = .ok bb w) (h2 : t2 = t) : V P σ (.binOp .eql t x y t') (.bool bb) w := by
  subst h2
  refine ⟨fun ρ ha o ho => ?_⟩; simp [execOp, ho, ha _ _ hx, ha _ _ hy, run_eqGuard_agg _ _ _ _ _ _ _ g.h, run_eql_struct, he]
theorem r_eqlB32 {e b : Nat} [TU P t (.array 32 e)] [TU P e (.int .u8)] [TI P e 1 b] [TS P e] [TG P t] {p q : B32} (hx : ev σ x = some p.v) (hy : ev σ y = some q.v) : V P σ (.binOp .eql t x y t') (.bool (decide (p = q))) w :=
  r_eqlA (t2 := t) hx hy (run_equal_b32 (P := P) (t := t) p q 9998) rfl
theorem r_neqA {t2 : TypeId} {xs ys : Array Value} {bb : Bool} [g : TG P t2] (hx : ev σ x = some (.agg xs)) (hy : ev σ y = some (.agg ys)) (he : (Op.equalIn 10000 t (.agg xs) (.agg ys)).run P w = .ok bb w) (h2 : t2 = t) : V P σ (.binOp .neq t x y t') (.bool (!bb)) w := by
  subst h2
  refine ⟨fun ρ ha o ho => ?_⟩; simp [execOp, ho, ha _ _ hx, ha _ _ hy, run_eqGuard_agg _ _ _ _ _ _ _ g.h, run_neq_struct, he]
theorem r_neqB32 {e b : Nat} [TU P t (.array 32 e)] [TU P e (.int .u8)] [TI P e 1 b] [TS P e] [TG P t] {p q : B32} (hx : ev σ x = some p.v) (hy : ev σ y = some q.v) : V P σ (.binOp .neq t x y t') (.bool (!decide (p = q))) w :=
  r_neqA (t2 := t) hx hy (run_equal_b32 (P := P) (t := t) p q 9998) rfl
end
section
variable {P : Program} {n : Nat} {ops : Array Oper} {Q : Post} {rest : List Oper} {σ : Env} {w : World}
/-- A guard that itself was not reached lets nothing through. -/
theorem ZL.skipU {d : Nat} {op : Op} {ty : TypeId} {pos : String} {after : Array Edge} {j : Nat} {want : Bool} {g : Nat}
    (hg : ((ops[j]?).bind (·.dst)) = some g) (hb : lk σ g = some undef) (hd : Nat.blt d n = true)
    (h : ZL P n ops Q rest ((d, undef) :: σ) w) : ZL P n ops Q (⟨some d, op, ty, pos, after, some (j, want)⟩ :: rest) σ w := by
  refine ⟨fun a ha => ?_⟩
  have hy : yielded ops a.tmps j = none := by simp [yielded, hg, ha.at' g _ hb, undef]
  have hwant : Region.wanted ⟨some d, op, ty, pos, after, some (j, want)⟩ (yielded ops a.tmps) = false := by simp [Region.wanted, hy]
  unfold wpList
  rw [if_neg (by rw [hwant]; simp)]
  exact h.h _ (ha.put hd)
end

instance : TG P 27 := ⟨by kernel_rfl⟩


end Go.Proofs.YtibobcjfjnoclaaGreatDoor.Z
end
section
/- An argument that is a slice of integers: what it reads as, and that it reads so behind the call. -/
set_option linter.unusedVariables false
set_option linter.unusedSimpArgs false
set_option linter.unusedSectionVars false
set_option maxRecDepth 100000
namespace Go.Proofs.YtibobcjfjnoclaaGreatDoor.Z
open Go Go.RowKit Go.ChangeShapes Go.WideShapes Go.ChangeAt

theorem uInts : Tryz.prog.underlying 22 = some (.slice 3) := by kernel_rfl
theorem cInt : Tryz.prog.cellsOf 3 = 1 := by kernel_rfl
theorem cell_kept {W W' : World} {a : Addr} {u : Value} (hE : Ext W W') (h : W.cell? a = some u) : W'.cell? a = some u := by
  unfold World.cell? at h ⊢
  split at h
  · rename_i c e fr hh
    rw [hE.at hh id]
    exact h
  · cases h
theorem argInts {H : Type} {enc : TypeId × Value → H} {W : World} {base : Nat} {v : Value} {d : DataW H} {p : List MemPlace} (hval : Value.okWide Tryz.prog W .any base 22 v) (h : DataW.Trod enc Tryz.prog W 0 (fun _ => true) true 22 v d p) :
    ∃ l, IntsA W v l ∧ ∀ W', Ext W W' → ∀ sp : Nat → Bool, (∀ q ∈ p, sp q.block = true) → DataW.Trod enc Tryz.prog W' 0 sp true 22 v d p := by
  obtain ⟨a0, len, cap, rfl⟩ := okWide_slice uInts hval
  obtain ⟨fuel, hf⟩ := h
  rcases open_ints uInts u3 cInt hf with ⟨hcs, hx⟩ | ⟨a, len', cap', zs, hcs, _, hl, hm, hz, hx, hcell, hwz⟩
  · simp [Value.cells] at hcs
    obtain ⟨rfl, rfl, rfl⟩ := hcs
    simp only [Prod.mk.injEq] at hx
    obtain ⟨rfl, rfl⟩ := hx
    refine ⟨[], ⟨none, 0, rfl, fun h => absurd rfl h⟩, fun W' hE sp hsp => ⟨1, ?_⟩⟩
    rw [DataW.trod_step]
    simp [DataW.trodStep, uInts, Value.cells]
  · simp [Value.cells] at hcs
    obtain ⟨rfl, rfl, rfl⟩ := hcs
    simp only [Prod.mk.injEq] at hx
    obtain ⟨rfl, rfl⟩ := hx
    simp only [if_true] at hz
    have htl : (zs.take len).length = len := by rw [List.length_take]; omega
    refine ⟨zs.take len, ⟨some a, cap, by rw [htl], fun hne => ?_⟩, fun W' hE sp hsp => ⟨2, ?_⟩⟩
    · have hpos : 0 < zs.length := by
        rcases Nat.eq_zero_or_pos zs.length with h0 | h0
        · exfalso; apply hne; rw [List.length_eq_zero_iff.1 h0]; simp
        · exact h0
      obtain ⟨b, off, spot⟩ := a
      have hspot : spot = none := by simpa [Addr.add] using World.cell?_spot (hcell 0 hpos)
      subst hspot
      have hc : ∀ j, j < zs.length → W.cell? ⟨b, off + j, none⟩ = some (.int .i64 (zs.getD j 0)) := fun j hj => by rw [← add_plain]; exact hcell j hj
      obtain ⟨c, e, fr, hh, _⟩ := Go.Sort.cells_of_cell? (hc 0 hpos)
      refine ⟨b, off, c, e, fr, rfl, hh, fun i u hi => ?_⟩
      rw [List.getElem?_take] at hi
      split at hi
      · have hlt := (List.getElem?_eq_some_iff.1 hi).1
        have h1 := hc i hlt
        simp only [World.cell?, hh] at h1
        simp only [Option.isSome_none, Bool.false_eq_true, if_false] at h1
        rw [h1, List.getD, hi]
        rfl
      · cases hi
    · have hzs : zs.length = if sp a.block = true then cap else len := by
        rcases Nat.eq_zero_or_pos zs.length with h0 | h0
        · split <;> omega
        · have h1 : sp a.block = true := hsp (.cell a.block a.off) (MemPlace.mem_row.2 ⟨0, h0, by simp⟩)
          rw [if_pos h1]; exact hz
      exact shut_ints (m := 0) uInts u3 cInt (Nat.zero_le _) hl hm hzs (fun i hi => cell_kept hE (hcell i hi)) hwz
end Go.Proofs.YtibobcjfjnoclaaGreatDoor.Z
end
