/- Parts of one proof, laid one behind the other: Wit, Wid, LinkP, Still, JIn, JIter, JKeys, JSeq, JColl, JCmp, JGrow, JOrd, JRow, Lay, JSort, Rise, At. -/
import Derived.Test.YtibobcjfjnoclaaGreatDoorPk2
import Derived.RangeFuncNested
import Derived.RangeFuncCalls
import Derived.RangeFuncLeaves
import Derived.RangeFuncBound
import Derived.OwnWalkIn
import Derived.TacticsIn
import Derived.Lib.Bytealg
import Derived.Sort.Grow
import Derived.Deep.Draws
import Derived.Sort.Statements
import Derived.Shelf.SlSortCmp.Insertion
import Derived.Shelf.SlSortCmp.WholeK
import Derived.Test.YtibobcjfjnoclaaGreatDoorProg
section
/- A transaction's bytes with its witnesses (program): IndexFunc and ContainsFunc over inputs, witnessed, Bytes, Wtxid, Weight. -/
set_option linter.unusedVariables false
set_option linter.unusedSimpArgs false
set_option linter.unusedSectionVars false
set_option maxRecDepth 100000
set_option maxHeartbeats 4000000
namespace Go.Proofs.YtibobcjfjnoclaaGreatDoor.Z
open Go Go.RowKit

def TTx.witnessed (t : TTx) : Bool := t.ins.any fun x => decide (0 < x.wit.length)
def parts (l : List (List UInt8)) : List UInt8 := (l.map fun b => cnt b.length ++ b).flatten
def witB (x : TIn) : List UInt8 := cnt x.wit.length ++ parts x.wit
def wits (l : List TIn) : List UInt8 := (l.map witB).flatten
def TTx.pre (t : TTx) : List UInt8 := le t.version.toNat 4 ++ [0, 1] ++ t.bodyB
def TTx.bytes (t : TTx) : List UInt8 := if t.may && t.witnessed then t.pre ++ wits t.ins ++ le t.lock.toNat 4 else t.base
def TTx.wid (t : TTx) : B32 := twice t.bytes
def TTx.weight (t : TTx) : Nat := 3 * t.base.length + t.bytes.length

theorem may_wit {t : TTx} (h : t.may = true) : ∀ x ∈ t.ins, x.wit.length ≤ 10 ∧ ∀ b ∈ x.wit, b.length ≤ 500 := by
  intro x hx
  simp only [TTx.may, Bool.and_eq_true, Bool.not_eq_true'] at h
  have h1 := h.1.1.1.1.1
  rw [List.any_eq_false] at h1
  have h2 := h1 x hx
  simp only [TIn.bad, Bool.or_eq_true, not_or, decide_eq_true_eq, Bool.not_eq_true, List.any_eq_false] at h2
  refine ⟨by omega, fun b hb => ?_⟩
  have := h2.2 b hb
  unfold longB at this
  simp at this
  omega
theorem parts_len : ∀ (l : List (List UInt8)), (∀ b ∈ l, b.length ≤ 500) → (parts l).length ≤ 505 * l.length
  | [], _ => by simp [parts]
  | b :: r, h => by
    have h1 := parts_len r (fun x hx => h x (List.mem_cons_of_mem _ hx))
    have h2 := h b (List.mem_cons_self ..)
    have h3 := cnt_length b.length
    simp only [parts, List.map_cons, List.flatten_cons, List.length_append, List.length_cons] at *
    omega
theorem parts_succ (l : List (List UInt8)) (k : Nat) (h : k < l.length) : parts (l.take (k + 1)) = parts (l.take k) ++ (cnt l[k].length ++ l[k]) := by
  rw [List.take_succ_eq_append_getElem h]
  simp only [parts, List.map_append, List.flatten_append, List.map_cons, List.map_nil, List.flatten_cons, List.flatten_nil, List.append_nil]
theorem wits_succ (l : List TIn) (k : Nat) (h : k < l.length) : wits (l.take (k + 1)) = wits (l.take k) ++ witB l[k] := by
  rw [List.take_succ_eq_append_getElem h]
  simp only [wits, List.map_append, List.flatten_append, List.map_cons, List.map_nil, List.flatten_cons, List.flatten_nil, List.append_nil]
theorem witB_len {x : TIn} (h1 : x.wit.length ≤ 10) (h2 : ∀ b ∈ x.wit, b.length ≤ 500) : (witB x).length ≤ 5055 := by
  have h3 := parts_len x.wit h2
  have h4 := cnt_length x.wit.length
  simp only [witB, List.length_append]; omega
theorem wits_len : ∀ (l : List TIn), (∀ x ∈ l, x.wit.length ≤ 10 ∧ ∀ b ∈ x.wit, b.length ≤ 500) → (wits l).length ≤ 5055 * l.length
  | [], _ => by simp [wits]
  | x :: r, h => by
    have h1 := wits_len r (fun y hy => h y (List.mem_cons_of_mem _ hy))
    have h2 := witB_len (h x (List.mem_cons_self ..)).1 (h x (List.mem_cons_self ..)).2
    simp only [wits, List.map_cons, List.flatten_cons, List.length_append, List.length_cons] at *
    omega
theorem pre_len {t : TTx} (h : t.may = true) : t.pre.length ≤ 60006 := by
  have := body_len h
  simp only [TTx.pre, List.length_append, le_length, List.length_cons, List.length_nil]; omega
theorem bytes_len (t : TTx) : t.bytes.length ≤ 500000 := by
  unfold TTx.bytes
  split
  · rename_i h
    simp only [Bool.and_eq_true] at h
    have h1 := pre_len h.1
    have h2 := wits_len t.ins (may_wit h.1)
    have h3 := may_len h.1
    simp only [List.length_append, le_length]; omega
  · exact base_len t

theorem idxIn_ok (f : FuncId) [FN P f] (cs : List Value) (pred : TIn → Bool) (v : Value) (ls : List TIn) (w : World) (X : Nat → Prop) (h : ListR InE 36 w X v ls)
    (hf : ∀ r a w', a ∈ ls → Ext w w' → InE w' X r a → Ret P f ([Value.agg r.toArray] ++ cs).toArray w' (fun z w'' => Ext w' w'' ∧ z = .bool (pred a))) :
    Ret P 91 #[v, .func (.func f) #[] cs.toArray] w (fun r w' => Ext w w' ∧ ∃ z : Int, r = .int .i64 z ∧ (0 ≤ z ↔ ls.any pred = true)) := by
  obtain ⟨p, c, rfl⟩ := h.shape
  obtain ⟨-, h1, h2⟩ := h.le
  refine Ret.enter2 Tryz.func91 rfl Tryz.ntmps91 rfl ?_
  refine ZC.seq ?_; refine ZC.region ?_; refine ZL.val (r_assign rfl) rfl ?_; refine ZL.nil ?_; refine ZP.then ?_; refine ZC.seq ?_; refine ZC.seq ?_; refine ZC.region ?_; refine ZL.val (r_move rfl) rfl ?_; refine ZL.val (r_lenSlice rfl) rfl ?_; refine ZL.val (r_move rfl) rfl ?_; refine ZL.nil ?_; refine ZP.then ?_; refine ZC.block ?_
  refine ZC.loop (X := Nat) (fun k => [(8, .int .i64 k), (7, .int .i64 ls.length), (0, .slice p ls.length c), (1, .func (.func f) #[] cs.toArray)])
    (fun k w' => Ext w w' ∧ k ≤ ls.length ∧ (ls.take k).any pred = false) (fun k => ls.length - k) 0 ⟨rfl, rfl, rfl, rfl, trivial⟩ ⟨ExtX.refl _ _, by omega, by simp⟩ ?_
  rintro k w' ⟨E, hk, hno⟩
  refine ZC.seq ?_; refine ZC.region ?_; refine ZL.val (r_lss rfl rfl) rfl ?_; refine ZL.nil ?_; refine ZP.then ?_; refine ZC.seq ?_
  refine ZC.condD rfl (fun hc => ?_) (fun hc => ?_)
  · have hk' : k < ls.length := by omega
    obtain ⟨g, o, cs', e, fz, r, rfl, hh, hx, hlen, hE, hcell, hsz, hext⟩ := ListR.elem (by decide) (ListR.mv (fun _ _ h => InE.mv (Mv.ext E) h) h (Mv.ext E)) hk'
    refine ZC.skip ?_; refine ZP.then ?_; refine ZC.seq ?_; refine ZC.block ?_; refine ZC.seq ?_; refine ZC.region ?_; refine ZL.val (r_move rfl) rfl ?_; refine ZL.val (r_assign rfl) rfl ?_; refine ZL.nil ?_; refine ZP.then ?_; refine ZC.seq ?_; refine ZC.region ?_; refine ZL.val (r_move rfl) rfl ?_; refine ZL.val (r_move rfl) rfl ?_; refine ZL.val (r_move rfl) rfl ?_
    refine ZL.val (r_idxS k rfl rfl rfl hk') rfl ?_
    refine ZL.val (r_loadN rfl hh hsz hext) rfl ?_
    refine ZL.call (r_callv (cs := cs) rfl rfl) rfl (hf r ls[k] w' (List.getElem_mem hk') E hE) (fun v1 w1 ⟨E1, hv⟩ => ?_)
    subst hv
    have E2 := ExtX.trans E E1 (fun _ h => h) (fun _ _ h => h)
    refine ZL.nil ?_; refine ZP.then ?_
    refine ZC.cond rfl (fun ht => ?_) (fun hf => ?_)
    · refine ZC.seq ?_; refine ZC.region ?_; refine ZL.val (r_move rfl) rfl ?_; refine ZL.val (r_assign rfl) rfl ?_; refine ZL.nil ?_; refine ZP.then ?_; refine ZC.ret ?_; refine ZP.blockR ?_; refine ZP.thenR ?_; refine ZP.thenR ?_; refine ZP.blockR ?_; refine ZP.thenR ?_
      refine ZP.ret1 rfl rfl ⟨E2, _, rfl, ?_⟩
      have : ls.any pred = true := List.any_eq_true.2 ⟨ls[k], List.getElem_mem hk', ht⟩
      simp only [this, iff_true]; omega
    · refine ZC.skip ?_; refine ZP.blockN ?_; refine ZP.then ?_; refine ZC.region ?_; refine ZL.val (r_add rfl rfl (wrap_i64 (by omega) (by omega))) rfl ?_; refine ZL.val (r_move rfl) rfl ?_; refine ZL.nil ?_
      refine ZP.round (k + 1) ⟨rfl, rfl, rfl, rfl, trivial⟩ ⟨E2, by omega, ?_⟩ (by omega)
      rw [List.take_succ_eq_append_getElem hk', List.any_append, hno]
      simp [hf]
  · have hk' : k = ls.length := by omega
    subst hk'
    refine ZC.exit ?_; refine ZP.thenX ?_; refine ZP.thenX ?_; refine ZP.blockE ?_; refine ZP.then ?_; refine ZC.seq ?_; refine ZC.region ?_; refine ZL.val (r_assign rfl) rfl ?_; refine ZL.nil ?_; refine ZP.then ?_; refine ZC.ret ?_
    refine ZP.ret1 rfl rfl ⟨E, _, rfl, ?_⟩
    rw [List.take_length] at hno
    simp [hno]
theorem anyIn_ok (f : FuncId) [FN P f] (cs : List Value) (pred : TIn → Bool) (v : Value) (ls : List TIn) (w : World) (X : Nat → Prop) (h : ListR InE 36 w X v ls)
    (hf : ∀ r a w', a ∈ ls → Ext w w' → InE w' X r a → Ret P f ([Value.agg r.toArray] ++ cs).toArray w' (fun z w'' => Ext w' w'' ∧ z = .bool (pred a))) :
    Ret P 65 #[v, .func (.func f) #[] cs.toArray] w (fun r w' => Ext w w' ∧ r = .bool (ls.any pred)) := by
  refine Ret.enter2 Tryz.func65 rfl Tryz.ntmps65 rfl ?_
  refine ZC.seq ?_; refine ZC.region ?_; refine ZL.val (r_assign rfl) rfl ?_; refine ZL.nil ?_; refine ZP.then ?_; refine ZC.seq ?_; refine ZC.region ?_; refine ZL.val (r_move rfl) rfl ?_; refine ZL.val (r_move rfl) rfl ?_
  refine ZL.call (r_call rfl) rfl (idxIn_ok f cs pred v ls w X h hf) (fun v1 w1 ⟨E1, z, hv, hz⟩ => ?_)
  subst hv
  refine ZL.val (r_geq rfl rfl) rfl ?_; refine ZL.val (r_assign rfl) rfl ?_; refine ZL.nil ?_; refine ZP.then ?_; refine ZC.ret ?_
  refine ZP.ret1 rfl rfl ⟨E1, ?_⟩
  simp only [Value.bool.injEq]
  rw [Bool.eq_iff_iff]; simpa using hz
theorem wit1_ok (r : List Value) (a : TIn) (w : World) (X : Nat → Prop) (h : InE w X r a) : Ret P 96 #[.agg r.toArray] w (fun z w' => Ext w w' ∧ z = .bool (decide (0 < a.wit.length))) := by
  obtain ⟨sv, wv, rfl, hs, hw⟩ := h
  obtain ⟨p, c, rfl⟩ := hw.shape
  refine Ret.enter1 Tryz.func96 rfl Tryz.ntmps96 rfl ?_
  refine ZC.seq ?_; refine ZC.region ?_
  change ZL P _ _ _ _ [(0, .agg (InC a sv (.slice p a.wit.length c)))] _
  refine ZL.box (Mem.start w No) rfl rfl rfl (fun b w1 M1 => ?_)
  refine ZL.val (r_assign rfl) rfl ?_; refine ZL.nil ?_; refine ZP.then ?_; refine ZC.seq ?_; refine ZC.region ?_; refine ZL.val (r_fieldAddr rfl) rfl ?_
  refine ZL.val (r_ld M1 rfl (InC.n35 _ _ _)) rfl ?_
  refine ZL.val (r_lenSlice rfl) rfl ?_; refine ZL.val (r_gtr rfl rfl) rfl ?_; refine ZL.val (r_assign rfl) rfl ?_; refine ZL.nil ?_; refine ZP.then ?_; refine ZC.ret ?_
  exact ZP.ret1 rfl rfl ⟨M1.ext, congrArg Value.bool (decide_eq_decide.2 (by omega))⟩
theorem witnessed_ok (v : Value) (t : TTx) (w : World) (Y : Nat → Prop) (h : TxR w Y v t) : Ret P 73 #[v] w (fun r w' => Ext w w' ∧ r = .bool t.witnessed) := by
  obtain ⟨r, rfl, iv, ov, rfl, hi, ho⟩ := h
  refine Ret.enter1 Tryz.func73 rfl Tryz.ntmps73 rfl ?_
  refine ZC.seq ?_; refine ZC.region ?_
  refine ZL.box (Mem.start w No) rfl rfl rfl (fun b w1 M1 => ?_)
  refine ZL.val (r_assign rfl) rfl ?_; refine ZL.nil ?_; refine ZP.then ?_; refine ZC.seq ?_; refine ZC.region ?_; refine ZL.val (r_fieldAddr rfl) rfl ?_
  refine ZL.val (r_ld M1 rfl (by rfl)) rfl ?_
  refine ZL.call (r_call rfl) rfl (anyIn_ok 96 [] (fun x => decide (0 < x.wit.length)) iv t.ins w1 Y (ListR.mv (fun _ _ h => InE.mv (Mv.ext M1.ext) h) hi (Mv.ext M1.ext)) (fun r a w' _ _ hE => wit1_ok r a w' Y hE)) (fun v2 w2 ⟨E2, hv⟩ => ?_)
  subst hv
  have M2 := M1.ext' E2
  refine ZL.val (r_assign rfl) rfl ?_; refine ZL.nil ?_; refine ZP.then ?_; refine ZC.ret ?_
  exact ZP.ret1 rfl rfl ⟨M2.ext, rfl⟩

theorem TBytes_ok (v : Value) (t : TTx) (w : World) (Y : Nat → Prop) (h : TxR w Y v t) :
    Ret P 48 #[v] w (fun r w' => Ext w w' ∧ BytesO w w' r t.bytes) := by
  obtain ⟨r, rfl, iv, ov, rfl, hi, ho⟩ := h
  have h : TxR w Y (.agg #[u32 t.version, iv, ov, u32 t.lock]) t := ⟨_, rfl, iv, ov, rfl, hi, ho⟩
  obtain ⟨ip, ic, rfl⟩ := hi.shape
  obtain ⟨-, hi1, hi2⟩ := hi.le
  have hov := ho.one
  refine Ret.enter1 Tryz.func48 rfl Tryz.ntmps48 rfl ?_
  refine ZC.seq ?_; refine ZC.region ?_
  refine ZL.box (Mem.start w No) rfl rfl rfl (fun b w1 M1 => ?_)
  refine ZL.val (r_assign rfl) rfl ?_; refine ZL.nil ?_; refine ZP.then ?_; refine ZC.seq ?_; refine ZC.seq ?_; refine ZC.region ?_
  refine ZL.val (r_ldW M1 rfl rfl) rfl ?_
  refine ZL.call (r_call rfl) rfl (may_ok _ t w1 _ (h.mv (Mv.ext M1.ext))) (fun v2 w2 ⟨E2, hv2⟩ => ?_)
  subst hv2
  have M2 := M1.ext' E2
  have base : ∀ w', Mem w No [.blk b (.cells #[u32 t.version, .slice ip t.ins.length ic, ov, u32 t.lock] 33)] w' → (t.may && t.witnessed) = false →
      Ret P 47 #[.agg #[u32 t.version, .slice ip t.ins.length ic, ov, u32 t.lock]] w' (fun r w'' => Ext w w'' ∧ BytesO w w'' r t.bytes) := fun w' M' hh => (Base_ok _ t w' Y (h.mv (Mv.ext M'.ext))).mono fun r w'' ⟨E, O⟩ => by
    have e : t.bytes = t.base := by unfold TTx.bytes; rw [hh]; rfl
    rw [e]
    exact ⟨ExtX.trans M'.ext E (fun _ h => h) (fun _ _ h => h), O.older M'.ext⟩
  cases hm : t.may with
  | false =>
    refine ZL.val (r_not rfl) rfl ?_; refine ZL.val (r_move rfl) rfl ?_; refine ZL.skip rfl rfl rfl rfl ?_; refine ZL.skip rfl rfl rfl rfl ?_; refine ZL.skip rfl rfl rfl rfl ?_; refine ZL.val (r_pickT rfl rfl) rfl ?_; refine ZL.nil ?_; refine ZP.then ?_; refine ZC.condT rfl ?_; refine ZC.seq ?_; refine ZC.region ?_
    refine ZL.val (r_ldW M2 rfl rfl) rfl ?_
    refine ZL.call (r_call rfl) rfl (base w2 M2 (by rw [hm]; rfl)) (fun v3 w3 h3 => ?_)
    refine ZL.val (r_assign rfl) rfl ?_; refine ZL.nil ?_; refine ZP.then ?_; refine ZC.ret ?_; refine ZP.thenR ?_
    exact ZP.ret1 rfl rfl h3
  | true =>
    refine ZL.val (r_not rfl) rfl ?_; refine ZL.val (r_move rfl) rfl ?_; refine ZL.on rfl rfl rfl ?_
    refine ZL.val (r_ldW M2 rfl rfl) rfl ?_
    refine ZL.on rfl rfl rfl ?_
    refine ZL.call (r_call rfl) rfl (witnessed_ok _ t w2 Y (h.mv (Mv.ext M2.ext))) (fun v3 w3 ⟨E3, hv3⟩ => ?_)
    subst hv3
    have M3 := M2.ext' E3
    cases hw : t.witnessed with
    | false =>
      refine ZL.on rfl rfl rfl ?_; refine ZL.val (r_not rfl) rfl ?_; refine ZL.val (r_pickF rfl rfl) rfl ?_; refine ZL.nil ?_; refine ZP.then ?_; refine ZC.condT rfl ?_; refine ZC.seq ?_; refine ZC.region ?_
      refine ZL.val (r_ldW M3 rfl rfl) rfl ?_
      refine ZL.call (r_call rfl) rfl (base w3 M3 (by rw [hm, hw]; rfl)) (fun v4 w4 h4 => ?_)
      refine ZL.val (r_assign rfl) rfl ?_; refine ZL.nil ?_; refine ZP.then ?_; refine ZC.ret ?_; refine ZP.thenR ?_
      exact ZP.ret1 rfl rfl h4
    | true =>
      refine ZL.on rfl rfl rfl ?_; refine ZL.val (r_not rfl) rfl ?_; refine ZL.val (r_pickF rfl rfl) rfl ?_; refine ZL.nil ?_; refine ZP.then ?_; refine ZC.condF rfl ?_; refine ZC.skip ?_; refine ZP.then ?_; refine ZC.seq ?_
      refine ZC.turning (Holds [(b, .cells #[u32 t.version, .slice ip t.ins.length ic, ov, u32 t.lock] 33)]) 7 rfl (by kernel_rfl) rfl rfl rfl (fun w4 E4 _ => ?_)
      have M4 := M3.ext' E4
      have S4 : Holds [(b, .cells #[u32 t.version, .slice ip t.ins.length ic, ov, u32 t.lock] 33)] w4 := ⟨M4.get inferInstance, trivial⟩
      have hS : ∀ {w' : World}, Ext w4 w' → Holds [(b, .cells #[u32 t.version, .slice ip t.ins.length ic, ov, u32 t.lock] 33)] w' := fun {w'} hE => ⟨hE.at S4.1 id, trivial⟩
      refine ZT.take 0 rfl rfl (fun w' hS' => by first | exact r_move rfl | exact r_assign rfl | exact r_fieldAddr rfl | exact r_add rfl rfl (wrap_i64 (by omega) (by omega)) | exact r_sub rfl rfl (wrap_i64 (by omega) (by omega)) | exact r_mul rfl rfl (wrap_i64 (by omega) (by omega)) | exact r_convInt rfl (wrap_u64 (by omega) (by omega)) | exact r_convInt rfl (wrap_i64 (by omega) (by omega)) | exact r_convInt rfl (wrap_u32 (by omega) (by omega)) | exact r_sliceArr rfl | exact r_nilCheck rfl | exact r_extract rfl rfl | exact r_lenSlice rfl | exact r_and rfl rfl rfl | exact r_shr rfl rfl (by omega) rfl | exact r_toB rfl | exact r_toU rfl | exact r_toQ rfl) (by kernel_rfl) rfl (by kernel_rfl) (by kernel_rfl) rfl rfl (fun _ _ _ _ h => h) S4 ?_
      refine ZT.take 1 rfl rfl (fun w' hS' => r_load1 rfl hS'.1 rfl) (by kernel_rfl) rfl (by kernel_rfl) (by kernel_rfl) rfl rfl (fun _ _ _ _ h => h) S4 ?_
      refine ZT.take 5 rfl rfl (fun w' hS' => r_loadW rfl hS'.1 rfl) (by kernel_rfl) rfl (by kernel_rfl) (by kernel_rfl) rfl rfl (fun _ _ _ _ h => h) S4 ?_
      refine ZT.via (X := Value × Nat) #[true, true, true, true, false, true, false, false] 2
        (fun x => [(20, x.1), (21, .slice (some ⟨x.2, 0, none⟩) 2 2), (23, .agg #[u32 t.version, .slice ip t.ins.length ic, ov, u32 t.lock]), (1, .pointer (some ⟨b, 0, none⟩))])
        (fun x w' => Mem w4 No [.own (.slice (some ⟨x.2, 0, none⟩) 2 2) 5 1 2 [Value.int .u8 0, Value.int .u8 1], .own x.1 5 1 4 ((le t.version.toNat 4).map u8)] w') (fun join => ?_) ?_
      · refine ZT.two 2 3 rfl (by kernel_rfl) rfl rfl rfl rfl rfl rfl ?_ ?_
        · refine ZL.call (r_call rfl) rfl (Small_ok _ [] t.version.toNat w4 No (nilBytes w4 No) (by simp) t.version.toNat_lt) (fun v5 w5 ⟨E5, O5⟩ => ?_)
          have N5 := (Mem.start w4 No).addNew E5 O5
          refine ZL.nil (ZP.turning (hS N5.ext) ?_)
          refine ZT.one 3 rfl (by kernel_rfl) rfl rfl rfl ?_
          refine ZL.bslice N5 rfl rfl rfl (by simp [Value.cells]) (by decide) rfl (fun g6 w6 N6 => ?_)
          refine ZL.nil (ZP.turning (hS N6.ext) ?_)
          exact join _ _ _ _ (by kernel_rfl) rfl ⟨(v5, g6), ⟨rfl, rfl, rfl, rfl, trivial⟩, by simpa [le_length] using N6⟩
        · refine ZL.bslice (Mem.start w4 No) rfl rfl rfl (by simp [Value.cells]) (by decide) rfl (fun g5 w5 N5 => ?_)
          refine ZL.nil (ZP.turning (hS N5.ext) ?_)
          refine ZT.one 2 rfl (by kernel_rfl) rfl rfl rfl ?_
          refine ZL.call (r_call rfl) rfl (Small_ok _ [] t.version.toNat w5 No (nilBytes w5 No) (by simp) t.version.toNat_lt) (fun v6 w6 ⟨E6, O6⟩ => ?_)
          have N6 := (N5.addNew E6 O6).swap
          refine ZL.nil (ZP.turning (hS N6.ext) ?_)
          exact join _ _ _ _ (by kernel_rfl) rfl ⟨(v6, g5), ⟨rfl, rfl, rfl, rfl, trivial⟩, by simpa [le_length] using N6⟩
      · rintro ⟨v5, g5⟩ w5 N5
        simp only at N5 ⊢
        refine ZT.one 4 rfl (by kernel_rfl) rfl rfl rfl ?_
        refine ZL.append N5 rfl rfl (N5.own.slc (X := No) (fun _ _ h => h)) (by intro x hx; simp at hx; rcases hx with rfl | rfl <;> rfl) (by simp only [maxLen]; omega) (by omega) rfl (fun v6 w6 N6 => ?_)
        refine ZL.nil (ZP.turning (hS N6.ext) ?_)
        refine ZT.one 6 rfl (by kernel_rfl) rfl rfl rfl ?_
        have hb6 : BytesR w6 No v6 (le t.version.toNat 4 ++ [0, 1]) := (N6.og (v := v6) inferInstance).bytes (by simp [le_length]) (by simp only [List.map_append]; rfl)
        refine ZL.call (r_call rfl) rfl (body_ok v6 _ _ t w6 No Y hb6 (h.mv (Mv.ext (M4.ext' N6.ext).ext)) hm (by simp [le_length])) (fun v7 w7 ⟨E7, O7⟩ => ?_)
        refine ZL.nil (ZP.turning (hS (N6.ext' E7).ext) ?_)
        refine ZT.done rfl (by kernel_rfl) ?_
        have M7 := (M4.ext' N6.ext).addNew E7 O7
        have hpre : le t.version.toNat 4 ++ [0, 1] ++ t.bodyB = t.pre := rfl
        rw [hpre] at M7
        have hpl := pre_len hm
        have hwl := may_wit hm
        have hml := may_len hm
        clear O7 hb6
        refine ZL.val (r_assign rfl) rfl ?_; refine ZL.nil ?_; refine ZP.then ?_; refine ZC.seq ?_; refine ZC.seq ?_; refine ZC.region ?_; refine ZL.val (r_fieldAddr rfl) rfl ?_
        refine ZL.val (r_ld M7 rfl (by rfl)) rfl ?_
        refine ZL.val (r_lenSlice rfl) rfl ?_; refine ZL.val (r_move rfl) rfl ?_; refine ZL.nil ?_; refine ZP.then ?_; refine ZC.block ?_
        refine ZC.loop (X := Nat × Value) (fun x => [(28, .int .i64 x.1), (27, .int .i64 (t.ins.length : Int)), (26, .slice ip t.ins.length ic), (3, x.2), (1, .pointer (some ⟨b, 0, none⟩))])
          (fun x w' => x.1 ≤ t.ins.length ∧ Mem w No [.own x.2 5 1 (t.pre ++ wits (t.ins.take x.1)).length ((t.pre ++ wits (t.ins.take x.1)).map u8), .blk b (.cells #[u32 t.version, .slice ip t.ins.length ic, ov, u32 t.lock] 33)] w') (fun x => t.ins.length - x.1) (0, v7) ⟨rfl, rfl, rfl, rfl, rfl, trivial⟩ ⟨by omega, by simpa [wits] using M7⟩ ?_
        clear N5 N6 M7
        rintro ⟨k, bk⟩ w8 ⟨hk, M8⟩
        simp only at hk M8 ⊢
        have hwk := wits_len (t.ins.take k) (fun x hx => hwl x (List.mem_of_mem_take hx))
        rw [List.length_take] at hwk
        refine ZC.seq ?_; refine ZC.region ?_; refine ZL.val (r_lss rfl rfl) rfl ?_; refine ZL.nil ?_; refine ZP.then ?_; refine ZC.seq ?_
        refine ZC.condD rfl (fun hc => ?_) (fun hc => ?_)
        · have hk' : k < t.ins.length := by omega
          obtain ⟨g, o, cs, e, fz, r, rfl, hh, hx, hlen, hE, hcell, hsz, hext⟩ := ListR.elem (by decide) hi hk'
          obtain ⟨sv, wv, rfl, hs, hwit⟩ := hE
          change cs.extract _ _ = InC t.ins[k] sv wv at hext
          have hwx := hwl _ (List.getElem_mem hk')
          generalize hxx : t.ins[k] = xi at hext hs hwit hwx
          obtain ⟨wp, wc, rfl⟩ := hwit.shape
          have hwle := hwit.le
          refine ZC.skip ?_; refine ZP.then ?_; refine ZC.seq ?_; refine ZC.block ?_; refine ZC.seq ?_; refine ZC.region ?_
          refine ZL.val (r_idxS k rfl rfl rfl hk') rfl ?_
          refine ZL.val (r_loadN rfl (M8.ext.at hh id) hsz hext) rfl ?_
          refine ZL.alloc M8 rfl rfl (fun bx w9 M9 => ?_)
          refine ZL.stW M9 rfl rfl (cs' := InC xi sv (.slice wp xi.wit.length wc)) rfl (by rfl) (InC.size _ _ _) (InC.one hs.one rfl) (fun w10 M10 => ?_)
          refine ZL.nil ?_; refine ZP.then ?_; refine ZC.seq ?_; refine ZC.region ?_; refine ZL.val (r_move rfl) rfl ?_; refine ZL.val (r_fieldAddr rfl) rfl ?_
          refine ZL.val (r_ld M10 rfl (InC.n35 _ _ _)) rfl ?_
          refine ZL.val (r_lenSlice rfl) rfl ?_
          refine ZL.call (r_call rfl) rfl (Count_ok bk _ xi.wit.length w10 No ((M10.og (v := bk) inferInstance).bytes rfl rfl) (by simp only [List.length_append]; omega) (by omega)) (fun v11 w11 ⟨E11, O11⟩ => ?_)
          have M11 := (M10.addNew E11 O11).sub [0, 1, 3] rfl
          clear O11
          refine ZL.val (r_assign rfl) rfl ?_; refine ZL.nil ?_; refine ZP.then ?_; refine ZC.seq ?_; refine ZC.region ?_; refine ZL.val (r_fieldAddr rfl) rfl ?_
          refine ZL.val (r_ld M11 rfl (InC.n35 _ _ _)) rfl ?_
          refine ZL.val (r_lenSlice rfl) rfl ?_; refine ZL.val (r_move rfl) rfl ?_; refine ZL.nil ?_; refine ZP.then ?_; refine ZC.block ?_
          have hcn := cnt_length xi.wit.length
          refine ZC.loop (X := Nat × Value) (fun x => [(40, .int .i64 x.1), (39, .int .i64 (xi.wit.length : Int)), (38, .slice wp xi.wit.length wc), (3, x.2), (28, .int .i64 k), (27, .int .i64 (t.ins.length : Int)), (26, .slice (some ⟨g, o, none⟩) t.ins.length ic), (1, .pointer (some ⟨b, 0, none⟩))])
            (fun x w' => x.1 ≤ xi.wit.length ∧ Mem w No [.own x.2 5 1 (t.pre ++ wits (t.ins.take k) ++ cnt xi.wit.length ++ parts (xi.wit.take x.1)).length ((t.pre ++ wits (t.ins.take k) ++ cnt xi.wit.length ++ parts (xi.wit.take x.1)).map u8), .blk bx (.cells (InC xi sv (.slice wp xi.wit.length wc)) 60), .blk b (.cells #[u32 t.version, .slice (some ⟨g, o, none⟩) t.ins.length ic, ov, u32 t.lock] 33)] w') (fun x => xi.wit.length - x.1) (0, v11) ⟨rfl, rfl, rfl, rfl, rfl, rfl, rfl, rfl, trivial⟩ ⟨by omega, by simpa [parts] using M11⟩ ?_
          rintro ⟨j, bj⟩ w12 ⟨hj, M12⟩
          simp only at hj M12 ⊢
          have hpj := parts_len (xi.wit.take j) (fun x hx => hwx.2 x (List.mem_of_mem_take hx))
          rw [List.length_take] at hpj
          refine ZC.seq ?_; refine ZC.region ?_; refine ZL.val (r_lss rfl rfl) rfl ?_; refine ZL.nil ?_; refine ZP.then ?_; refine ZC.seq ?_
          refine ZC.condD rfl (fun hd => ?_) (fun hd => ?_)
          · have hj' : j < xi.wit.length := by omega
            obtain ⟨g2, o2, cs2, e2, fz2, r2, rfl, hh2, hx2, hlen2, ⟨u, rfl, hu⟩, hcell2, -, -⟩ := ListR.elem (by decide) (ListR.mv (fun _ _ h => BytesE.mv (Mv.ext M12.ext) h) hwit (Mv.ext M12.ext)) hj'
            have hbl := hwx.2 _ (List.getElem_mem hj')
            refine ZC.skip ?_; refine ZP.then ?_; refine ZC.seq ?_; refine ZC.block ?_; refine ZC.seq ?_; refine ZC.region ?_
            refine ZL.val (r_idxS j rfl rfl rfl hj') rfl ?_
            refine ZL.val (r_load1 rfl hh2 (hcell2 0 u rfl)) rfl ?_
            refine ZL.val (r_assign rfl) rfl ?_; refine ZL.nil ?_; refine ZP.then ?_; refine ZC.region ?_; refine ZL.val (r_move rfl) rfl ?_; refine ZL.val (r_move rfl) rfl ?_
            refine ZL.call (r_call rfl) rfl (counted_ok bj u _ xi.wit[j] w12 No _ ((M12.og (v := bj) inferInstance).bytes rfl rfl) hu (by simp only [List.length_append]; omega) (by omega)) (fun v13 w13 ⟨E13, O13⟩ => ?_)
            have M13 := (M12.addNew E13 O13).sub [0, 2, 3] rfl
            clear O13
            refine ZL.val (r_assign rfl) rfl ?_; refine ZL.nil ?_; refine ZP.blockN ?_; refine ZP.then ?_; refine ZC.region ?_; refine ZL.val (r_add rfl rfl (wrap_i64 (by omega) (by omega))) rfl ?_; refine ZL.val (r_move rfl) rfl ?_; refine ZL.nil ?_
            refine ZP.round (j + 1, v13) ⟨rfl, rfl, rfl, rfl, rfl, rfl, rfl, rfl, trivial⟩ ⟨by simp only; omega, ?_⟩ (by simp only; omega)
            simp only [parts_succ _ j hj']
            simpa only [List.append_assoc] using M13
          · have hj' : j = xi.wit.length := by omega
            subst hj'
            rw [List.take_length] at M12
            refine ZC.exit ?_; refine ZP.thenX ?_; refine ZP.thenX ?_; refine ZP.blockE ?_; refine ZP.blockN ?_; refine ZP.then ?_; refine ZC.region ?_; refine ZL.val (r_add rfl rfl (wrap_i64 (by omega) (by omega))) rfl ?_; refine ZL.val (r_move rfl) rfl ?_; refine ZL.nil ?_
            refine ZP.round (k + 1, bj) ⟨rfl, rfl, rfl, rfl, rfl, trivial⟩ ⟨by simp only; omega, ?_⟩ (by simp only; omega)
            simp only [wits_succ _ k hk', hxx, witB]
            simpa only [List.append_assoc] using M12.sub [0, 2] rfl
        · have hk' : k = t.ins.length := by omega
          subst hk'
          rw [List.take_length] at M8 hwk
          refine ZC.exit ?_; refine ZP.thenX ?_; refine ZP.thenX ?_; refine ZP.blockE ?_; refine ZP.then ?_; refine ZC.seq ?_; refine ZC.region ?_; refine ZL.val (r_move rfl) rfl ?_; refine ZL.val (r_fieldAddr rfl) rfl ?_
          refine ZL.val (r_ld M8 rfl (by rfl)) rfl ?_
          refine ZL.call (r_call rfl) rfl (Small_ok bk _ t.lock.toNat w8 No ((M8.og (v := bk) inferInstance).bytes rfl rfl) (by simp only [List.length_append]; omega) t.lock.toNat_lt) (fun v9 w9 ⟨E9, O9⟩ => ?_)
          have M9 := M8.addNew E9 O9
          refine ZL.val (r_assign rfl) rfl ?_; refine ZL.nil ?_; refine ZP.then ?_; refine ZC.ret ?_
          have e : t.bytes = t.pre ++ wits t.ins ++ le t.lock.toNat 4 := by simp [TTx.bytes, hm, hw]
          rw [e]
          exact ZP.ret1 rfl rfl (M9.new rfl rfl)
end Go.Proofs.YtibobcjfjnoclaaGreatDoor.Z
end
section
/- Names with witnesses, and weights: the program's and the document's. -/
set_option linter.unusedVariables false
set_option linter.unusedSimpArgs false
set_option linter.unusedSectionVars false
set_option maxRecDepth 100000
set_option maxHeartbeats 4000000
namespace Go.Proofs.YtibobcjfjnoclaaGreatDoor.Z
open Go Go.RowKit

theorem refwitness_ok (v : Value) (t : TTx) (w : World) (Y : Nat → Prop) (h : TxR w Y v t) : Ret P 42 #[v] w (fun r w' => Ext w w' ∧ r = .bool t.witnessed) := by
  obtain ⟨r, rfl, iv, ov, rfl, hi, ho⟩ := h
  obtain ⟨ip, ic, rfl⟩ := hi.shape
  obtain ⟨-, hi1, hi2⟩ := hi.le
  refine Ret.enter1 Tryz.func42 rfl Tryz.ntmps42 rfl ?_
  refine ZC.seq ?_; refine ZC.region ?_
  refine ZL.box (Mem.start w No) rfl rfl rfl (fun b w1 M1 => ?_)
  refine ZL.val (r_assign rfl) rfl ?_; refine ZL.nil ?_; refine ZP.then ?_; refine ZC.seq ?_; refine ZC.seq ?_; refine ZC.region ?_; refine ZL.val (r_assign rfl) rfl ?_; refine ZL.nil ?_; refine ZP.then ?_; refine ZC.block ?_
  refine ZC.loop (X := Nat) (fun k => [(3, .int .i64 k), (1, .pointer (some ⟨b, 0, none⟩))])
    (fun k w' => Mem w No [.blk b (.cells #[u32 t.version, .slice ip t.ins.length ic, ov, u32 t.lock] 33)] w' ∧ k ≤ t.ins.length ∧ ((t.ins.take k).any fun x => decide (0 < x.wit.length)) = false) (fun k => t.ins.length - k) 0 ⟨rfl, rfl, trivial⟩ ⟨M1, by omega, by simp⟩ ?_
  rintro k w2 ⟨M2, hk, hno⟩
  refine ZC.seq ?_; refine ZC.seq ?_; refine ZC.region ?_; refine ZL.val (r_move rfl) rfl ?_; refine ZL.val (r_fieldAddr rfl) rfl ?_
  refine ZL.val (r_ld M2 rfl (by rfl)) rfl ?_
  refine ZL.val (r_lenSlice rfl) rfl ?_; refine ZL.val (r_lss rfl rfl) rfl ?_; refine ZL.nil ?_; refine ZP.then ?_
  refine ZC.condD rfl (fun hc => ?_) (fun hc => ?_)
  · have hk' : k < t.ins.length := by omega
    obtain ⟨g, o, cs, e, fz, r, rfl, hh, hx, hlen, hE, hcell, hsz, hext⟩ := ListR.elem (by decide) (ListR.mv (fun _ _ h => InE.mv (Mv.ext M2.ext) h) hi (Mv.ext M2.ext)) hk'
    obtain ⟨sv, wv, rfl, hs, hwit⟩ := hE
    obtain ⟨wp, wc, rfl⟩ := hwit.shape
    refine ZC.skip ?_; refine ZP.then ?_; refine ZC.seq ?_; refine ZC.block ?_; refine ZC.seq ?_; refine ZC.region ?_; refine ZL.val (r_fieldAddr rfl) rfl ?_
    refine ZL.val (r_ld M2 rfl (by rfl)) rfl ?_
    refine ZL.val (r_move rfl) rfl ?_
    refine ZL.val (r_idxS k rfl rfl rfl hk') rfl ?_
    refine ZL.val (r_fieldAddr rfl) rfl ?_
    have hcw := hcell 35 (.slice wp t.ins[k].wit.length wc) (by simp [B32.cells, (t.ins[k].prev).property])
    refine ZL.val (r_load1 rfl hh hcw) rfl ?_
    refine ZL.val (r_lenSlice rfl) rfl ?_; refine ZL.val (r_gtr rfl rfl) rfl ?_; refine ZL.nil ?_; refine ZP.then ?_
    refine ZC.condD rfl (fun hd => ?_) (fun hd => ?_)
    · refine ZC.seq ?_; refine ZC.region ?_; refine ZL.val (r_assign rfl) rfl ?_; refine ZL.nil ?_; refine ZP.then ?_; refine ZC.ret ?_; refine ZP.blockR ?_; refine ZP.thenR ?_; refine ZP.thenR ?_; refine ZP.blockR ?_; refine ZP.thenR ?_
      refine ZP.ret1 rfl rfl ⟨M2.ext, congrArg Value.bool (Eq.symm ?_)⟩
      exact List.any_eq_true.2 ⟨t.ins[k], List.getElem_mem hk', decide_eq_true (by omega)⟩
    · refine ZC.skip ?_; refine ZP.blockN ?_; refine ZP.then ?_; refine ZC.region ?_; refine ZL.val (r_move rfl) rfl ?_; refine ZL.val (r_add rfl rfl (wrap_i64 (by omega) (by omega))) rfl ?_; refine ZL.val (r_assign rfl) rfl ?_; refine ZL.nil ?_
      refine ZP.round (k + 1) ⟨rfl, rfl, trivial⟩ ⟨M2, by omega, ?_⟩ (by omega)
      rw [List.take_succ_eq_append_getElem hk', List.any_append, hno]
      simp only [List.any_cons, List.any_nil, Bool.or_false, Bool.false_or]
      exact decide_eq_false (by omega)
  · have hk' : k = t.ins.length := by omega
    subst hk'
    rw [List.take_length] at hno
    refine ZC.exit ?_; refine ZP.thenX ?_; refine ZP.thenX ?_; refine ZP.blockE ?_; refine ZP.then ?_; refine ZC.seq ?_; refine ZC.region ?_; refine ZL.val (r_assign rfl) rfl ?_; refine ZL.nil ?_; refine ZP.then ?_; refine ZC.ret ?_
    exact ZP.ret1 rfl rfl ⟨M2.ext, congrArg Value.bool hno.symm⟩

theorem refBytes_ok (v : Value) (t : TTx) (w : World) (Y : Nat → Prop) (h : TxR w Y v t) :
    Ret P 23 #[v] w (fun r w' => Ext w w' ∧ BytesO w w' r t.bytes) := by
  obtain ⟨r, rfl, iv, ov, rfl, hi, ho⟩ := h
  have h : TxR w Y (.agg #[u32 t.version, iv, ov, u32 t.lock]) t := ⟨_, rfl, iv, ov, rfl, hi, ho⟩
  obtain ⟨ip, ic, rfl⟩ := hi.shape
  obtain ⟨-, hi1, hi2⟩ := hi.le
  have hov := ho.one
  refine Ret.enter1 Tryz.func23 rfl Tryz.ntmps23 rfl ?_
  refine ZC.seq ?_; refine ZC.region ?_
  refine ZL.box (Mem.start w No) rfl rfl rfl (fun b w1 M1 => ?_)
  refine ZL.val (r_assign rfl) rfl ?_; refine ZL.nil ?_; refine ZP.then ?_; refine ZC.seq ?_; refine ZC.seq ?_; refine ZC.region ?_
  refine ZL.val (r_ldW M1 rfl rfl) rfl ?_
  refine ZL.call (r_call rfl) rfl (refmay_ok _ t w1 _ (h.mv (Mv.ext M1.ext))) (fun v2 w2 ⟨E2, hv2⟩ => ?_)
  subst hv2
  have M2 := M1.ext' E2
  have base : ∀ w', Mem w No [.blk b (.cells #[u32 t.version, .slice ip t.ins.length ic, ov, u32 t.lock] 33)] w' → (t.may && t.witnessed) = false →
      Ret P 34 #[.agg #[u32 t.version, .slice ip t.ins.length ic, ov, u32 t.lock]] w' (fun r w'' => Ext w w'' ∧ BytesO w w'' r t.bytes) := fun w' M' hh => (refBase_ok _ t w' Y (h.mv (Mv.ext M'.ext))).mono fun r w'' ⟨E, O⟩ => by
    have e : t.bytes = t.base := by unfold TTx.bytes; rw [hh]; rfl
    rw [e]
    exact ⟨ExtX.trans M'.ext E (fun _ h => h) (fun _ _ h => h), O.older M'.ext⟩
  cases hm : t.may with
  | false =>
    refine ZL.val (r_not rfl) rfl ?_; refine ZL.val (r_move rfl) rfl ?_; refine ZL.skip rfl rfl rfl rfl ?_; refine ZL.skip rfl rfl rfl rfl ?_; refine ZL.skip rfl rfl rfl rfl ?_; refine ZL.val (r_pickT rfl rfl) rfl ?_; refine ZL.nil ?_; refine ZP.then ?_; refine ZC.condT rfl ?_; refine ZC.seq ?_; refine ZC.region ?_
    refine ZL.val (r_ldW M2 rfl rfl) rfl ?_
    refine ZL.call (r_call rfl) rfl (base w2 M2 (by rw [hm]; rfl)) (fun v3 w3 h3 => ?_)
    refine ZL.val (r_assign rfl) rfl ?_; refine ZL.nil ?_; refine ZP.then ?_; refine ZC.ret ?_; refine ZP.thenR ?_
    exact ZP.ret1 rfl rfl h3
  | true =>
    refine ZL.val (r_not rfl) rfl ?_; refine ZL.val (r_move rfl) rfl ?_; refine ZL.on rfl rfl rfl ?_
    refine ZL.val (r_ldW M2 rfl rfl) rfl ?_
    refine ZL.on rfl rfl rfl ?_
    refine ZL.call (r_call rfl) rfl (refwitness_ok _ t w2 Y (h.mv (Mv.ext M2.ext))) (fun v3 w3 ⟨E3, hv3⟩ => ?_)
    subst hv3
    have M3 := M2.ext' E3
    cases hw : t.witnessed with
    | false =>
      refine ZL.on rfl rfl rfl ?_; refine ZL.val (r_not rfl) rfl ?_; refine ZL.val (r_pickF rfl rfl) rfl ?_; refine ZL.nil ?_; refine ZP.then ?_; refine ZC.condT rfl ?_; refine ZC.seq ?_; refine ZC.region ?_
      refine ZL.val (r_ldW M3 rfl rfl) rfl ?_
      refine ZL.call (r_call rfl) rfl (base w3 M3 (by rw [hm, hw]; rfl)) (fun v4 w4 h4 => ?_)
      refine ZL.val (r_assign rfl) rfl ?_; refine ZL.nil ?_; refine ZP.then ?_; refine ZC.ret ?_; refine ZP.thenR ?_
      exact ZP.ret1 rfl rfl h4
    | true =>
      refine ZL.on rfl rfl rfl ?_; refine ZL.val (r_not rfl) rfl ?_; refine ZL.val (r_pickF rfl rfl) rfl ?_; refine ZL.nil ?_; refine ZP.then ?_; refine ZC.condF rfl ?_; refine ZC.skip ?_; refine ZP.then ?_; refine ZC.seq ?_
      refine ZC.turning (Holds [(b, .cells #[u32 t.version, .slice ip t.ins.length ic, ov, u32 t.lock] 33)]) 7 rfl (by kernel_rfl) rfl rfl rfl (fun w4 E4 _ => ?_)
      have M4 := M3.ext' E4
      have S4 : Holds [(b, .cells #[u32 t.version, .slice ip t.ins.length ic, ov, u32 t.lock] 33)] w4 := ⟨M4.get inferInstance, trivial⟩
      have hS : ∀ {w' : World}, Ext w4 w' → Holds [(b, .cells #[u32 t.version, .slice ip t.ins.length ic, ov, u32 t.lock] 33)] w' := fun {w'} hE => ⟨hE.at S4.1 id, trivial⟩
      refine ZT.take 0 rfl rfl (fun w' hS' => by first | exact r_move rfl | exact r_assign rfl | exact r_fieldAddr rfl | exact r_add rfl rfl (wrap_i64 (by omega) (by omega)) | exact r_sub rfl rfl (wrap_i64 (by omega) (by omega)) | exact r_mul rfl rfl (wrap_i64 (by omega) (by omega)) | exact r_convInt rfl (wrap_u64 (by omega) (by omega)) | exact r_convInt rfl (wrap_i64 (by omega) (by omega)) | exact r_convInt rfl (wrap_u32 (by omega) (by omega)) | exact r_sliceArr rfl | exact r_nilCheck rfl | exact r_extract rfl rfl | exact r_lenSlice rfl | exact r_and rfl rfl rfl | exact r_shr rfl rfl (by omega) rfl | exact r_toB rfl | exact r_toU rfl | exact r_toQ rfl) (by kernel_rfl) rfl (by kernel_rfl) (by kernel_rfl) rfl rfl (fun _ _ _ _ h => h) S4 ?_
      refine ZT.take 1 rfl rfl (fun w' hS' => r_load1 rfl hS'.1 rfl) (by kernel_rfl) rfl (by kernel_rfl) (by kernel_rfl) rfl rfl (fun _ _ _ _ h => h) S4 ?_
      refine ZT.take 5 rfl rfl (fun w' hS' => r_loadW rfl hS'.1 rfl) (by kernel_rfl) rfl (by kernel_rfl) (by kernel_rfl) rfl rfl (fun _ _ _ _ h => h) S4 ?_
      refine ZT.via (X := Value × Nat) #[true, true, true, true, false, true, false, false] 2
        (fun x => [(18, x.1), (19, .slice (some ⟨x.2, 0, none⟩) 2 2), (21, .agg #[u32 t.version, .slice ip t.ins.length ic, ov, u32 t.lock]), (1, .pointer (some ⟨b, 0, none⟩))])
        (fun x w' => Mem w4 No [.own (.slice (some ⟨x.2, 0, none⟩) 2 2) 5 1 2 [Value.int .u8 0, Value.int .u8 1], .own x.1 5 1 4 ((le t.version.toNat 4).map u8)] w') (fun join => ?_) ?_
      · refine ZT.two 2 3 rfl (by kernel_rfl) rfl rfl rfl rfl rfl rfl ?_ ?_
        · refine ZL.call (r_call rfl) rfl (refSmall_ok _ [] t.version.toNat w4 No (nilBytes w4 No) (by simp) t.version.toNat_lt) (fun v5 w5 ⟨E5, O5⟩ => ?_)
          have N5 := (Mem.start w4 No).addNew E5 O5
          refine ZL.nil (ZP.turning (hS N5.ext) ?_)
          refine ZT.one 3 rfl (by kernel_rfl) rfl rfl rfl ?_
          refine ZL.bslice N5 rfl rfl rfl (by simp [Value.cells]) (by decide) rfl (fun g6 w6 N6 => ?_)
          refine ZL.nil (ZP.turning (hS N6.ext) ?_)
          exact join _ _ _ _ (by kernel_rfl) rfl ⟨(v5, g6), ⟨rfl, rfl, rfl, rfl, trivial⟩, by simpa [le_length] using N6⟩
        · refine ZL.bslice (Mem.start w4 No) rfl rfl rfl (by simp [Value.cells]) (by decide) rfl (fun g5 w5 N5 => ?_)
          refine ZL.nil (ZP.turning (hS N5.ext) ?_)
          refine ZT.one 2 rfl (by kernel_rfl) rfl rfl rfl ?_
          refine ZL.call (r_call rfl) rfl (refSmall_ok _ [] t.version.toNat w5 No (nilBytes w5 No) (by simp) t.version.toNat_lt) (fun v6 w6 ⟨E6, O6⟩ => ?_)
          have N6 := (N5.addNew E6 O6).swap
          refine ZL.nil (ZP.turning (hS N6.ext) ?_)
          exact join _ _ _ _ (by kernel_rfl) rfl ⟨(v6, g5), ⟨rfl, rfl, rfl, rfl, trivial⟩, by simpa [le_length] using N6⟩
      · rintro ⟨v5, g5⟩ w5 N5
        simp only at N5 ⊢
        refine ZT.one 4 rfl (by kernel_rfl) rfl rfl rfl ?_
        refine ZL.append N5 rfl rfl (N5.own.slc (X := No) (fun _ _ h => h)) (by intro x hx; simp at hx; rcases hx with rfl | rfl <;> rfl) (by simp only [maxLen]; omega) (by omega) rfl (fun v6 w6 N6 => ?_)
        refine ZL.nil (ZP.turning (hS N6.ext) ?_)
        refine ZT.one 6 rfl (by kernel_rfl) rfl rfl rfl ?_
        have hb6 : BytesR w6 No v6 (le t.version.toNat 4 ++ [0, 1]) := (N6.og (v := v6) inferInstance).bytes (by simp [le_length]) (by simp only [List.map_append]; rfl)
        refine ZL.call (r_call rfl) rfl (refbody_ok v6 _ _ t w6 Y hb6 (h.mv (Mv.ext (M4.ext' N6.ext).ext)) hm (by simp [le_length])) (fun v7 w7 ⟨E7, O7⟩ => ?_)
        refine ZL.nil (ZP.turning (hS (N6.ext' E7).ext) ?_)
        refine ZT.done rfl (by kernel_rfl) ?_
        have M7 := (M4.ext' N6.ext).addNew E7 O7
        have hpre : le t.version.toNat 4 ++ [0, 1] ++ t.bodyB = t.pre := rfl
        rw [hpre] at M7
        have hpl := pre_len hm
        have hwl := may_wit hm
        have hml := may_len hm
        clear O7 hb6
        refine ZL.val (r_assign rfl) rfl ?_; refine ZL.nil ?_; refine ZP.then ?_; refine ZC.seq ?_; refine ZC.seq ?_; refine ZC.region ?_; refine ZL.val (r_assign rfl) rfl ?_; refine ZL.nil ?_; refine ZP.then ?_; refine ZC.block ?_
        refine ZC.loop (X := Nat × Value) (fun x => [(4, .int .i64 x.1), (3, x.2), (1, .pointer (some ⟨b, 0, none⟩))])
          (fun x w' => x.1 ≤ t.ins.length ∧ Mem w No [.own x.2 5 1 (t.pre ++ wits (t.ins.take x.1)).length ((t.pre ++ wits (t.ins.take x.1)).map u8), .blk b (.cells #[u32 t.version, .slice ip t.ins.length ic, ov, u32 t.lock] 33)] w') (fun x => t.ins.length - x.1) (0, v7) ⟨rfl, rfl, rfl, trivial⟩ ⟨by omega, by simpa [wits] using M7⟩ ?_
        clear N5 N6 M7
        rintro ⟨k, bk⟩ w8 ⟨hk, M8⟩
        simp only at hk M8 ⊢
        have hwk := wits_len (t.ins.take k) (fun x hx => hwl x (List.mem_of_mem_take hx))
        rw [List.length_take] at hwk
        refine ZC.seq ?_; refine ZC.seq ?_; refine ZC.region ?_; refine ZL.val (r_move rfl) rfl ?_; refine ZL.val (r_fieldAddr rfl) rfl ?_
        refine ZL.val (r_ld M8 rfl (by rfl)) rfl ?_
        refine ZL.val (r_lenSlice rfl) rfl ?_; refine ZL.val (r_lss rfl rfl) rfl ?_; refine ZL.nil ?_; refine ZP.then ?_
        refine ZC.condD rfl (fun hc => ?_) (fun hc => ?_)
        · have hk' : k < t.ins.length := by omega
          obtain ⟨g, o, cs, e, fz, r, rfl, hh, hx, hlen, hE, hcell, hsz, hext⟩ := ListR.elem (by decide) hi hk'
          obtain ⟨sv, wv, rfl, hs, hwit⟩ := hE
          have hwx := hwl _ (List.getElem_mem hk')
          have hcw := hcell 35 wv (by simp [B32.cells, (t.ins[k].prev).property])
          generalize hxx : t.ins[k] = xi at hwit hwx
          obtain ⟨wp, wc, rfl⟩ := hwit.shape
          have hwle := hwit.le
          refine ZC.skip ?_; refine ZP.then ?_; refine ZC.seq ?_; refine ZC.block ?_; refine ZC.seq ?_; refine ZC.region ?_; refine ZL.val (r_move rfl) rfl ?_; refine ZL.val (r_fieldAddr rfl) rfl ?_
          refine ZL.val (r_ld M8 rfl (by rfl)) rfl ?_
          refine ZL.val (r_move rfl) rfl ?_
          refine ZL.val (r_idxS k rfl rfl rfl hk') rfl ?_
          refine ZL.val (r_fieldAddr rfl) rfl ?_
          refine ZL.val (r_load1 rfl (M8.ext.at hh id) hcw) rfl ?_
          refine ZL.val (r_lenSlice rfl) rfl ?_
          refine ZL.call (r_call rfl) rfl (refCount_ok bk _ xi.wit.length w8 No ((M8.og (v := bk) inferInstance).bytes rfl rfl) (by simp only [List.length_append]; omega) (by omega)) (fun v11 w11 ⟨E11, O11⟩ => ?_)
          have M11 := (M8.addNew E11 O11).sub [0, 2] rfl
          clear O11
          refine ZL.val (r_assign rfl) rfl ?_; refine ZL.nil ?_; refine ZP.then ?_; refine ZC.seq ?_; refine ZC.region ?_; refine ZL.val (r_assign rfl) rfl ?_; refine ZL.nil ?_; refine ZP.then ?_; refine ZC.block ?_
          have hcn := cnt_length xi.wit.length
          refine ZC.loop (X := Nat × Value) (fun x => [(5, .int .i64 x.1), (3, x.2), (4, .int .i64 k), (1, .pointer (some ⟨b, 0, none⟩))])
            (fun x w' => x.1 ≤ xi.wit.length ∧ Mem w No [.own x.2 5 1 (t.pre ++ wits (t.ins.take k) ++ cnt xi.wit.length ++ parts (xi.wit.take x.1)).length ((t.pre ++ wits (t.ins.take k) ++ cnt xi.wit.length ++ parts (xi.wit.take x.1)).map u8), .blk b (.cells #[u32 t.version, .slice (some ⟨g, o, none⟩) t.ins.length ic, ov, u32 t.lock] 33)] w') (fun x => xi.wit.length - x.1) (0, v11) ⟨rfl, rfl, rfl, rfl, trivial⟩ ⟨by omega, by simpa [parts] using M11⟩ ?_
          rintro ⟨j, bj⟩ w12 ⟨hj, M12⟩
          simp only at hj M12 ⊢
          have hpj := parts_len (xi.wit.take j) (fun x hx => hwx.2 x (List.mem_of_mem_take hx))
          rw [List.length_take] at hpj
          refine ZC.seq ?_; refine ZC.seq ?_; refine ZC.region ?_; refine ZL.val (r_move rfl) rfl ?_; refine ZL.val (r_fieldAddr rfl) rfl ?_
          refine ZL.val (r_ld M12 rfl (by rfl)) rfl ?_
          refine ZL.val (r_move rfl) rfl ?_
          refine ZL.val (r_idxS k rfl rfl rfl hk') rfl ?_
          refine ZL.val (r_fieldAddr rfl) rfl ?_
          refine ZL.val (r_load1 rfl (M12.ext.at hh id) hcw) rfl ?_
          refine ZL.val (r_lenSlice rfl) rfl ?_; refine ZL.val (r_lss rfl rfl) rfl ?_; refine ZL.nil ?_; refine ZP.then ?_
          refine ZC.condD rfl (fun hd => ?_) (fun hd => ?_)
          · have hj' : j < xi.wit.length := by omega
            obtain ⟨g2, o2, cs2, e2, fz2, r2, rfl, hh2, hx2, hlen2, ⟨u, rfl, hu⟩, hcell2, -, -⟩ := ListR.elem (by decide) (ListR.mv (fun _ _ h => BytesE.mv (Mv.ext M12.ext) h) hwit (Mv.ext M12.ext)) hj'
            have hbl := hwx.2 _ (List.getElem_mem hj')
            refine ZC.skip ?_; refine ZP.then ?_; refine ZC.seq ?_; refine ZC.block ?_; refine ZC.region ?_; refine ZL.val (r_move rfl) rfl ?_; refine ZL.val (r_fieldAddr rfl) rfl ?_
            refine ZL.val (r_ld M12 rfl (by rfl)) rfl ?_
            refine ZL.val (r_move rfl) rfl ?_
            refine ZL.val (r_idxS k rfl rfl rfl hk') rfl ?_
            refine ZL.val (r_fieldAddr rfl) rfl ?_
            refine ZL.val (r_load1 rfl (M12.ext.at hh id) hcw) rfl ?_
            refine ZL.val (r_move rfl) rfl ?_
            refine ZL.val (r_idxS j rfl rfl rfl hj') rfl ?_
            refine ZL.val (r_load1 rfl hh2 (hcell2 0 u rfl)) rfl ?_
            skip
            refine ZL.call (r_call rfl) rfl (refbytes_ok bj u _ xi.wit[j] w12 No _ ((M12.og (v := bj) inferInstance).bytes rfl rfl) hu (by simp only [List.length_append]; omega) (by omega)) (fun v13 w13 ⟨E13, O13⟩ => ?_)
            have M13 := (M12.addNew E13 O13).sub [0, 2] rfl
            clear O13
            refine ZL.val (r_assign rfl) rfl ?_; refine ZL.nil ?_; refine ZP.blockN ?_; refine ZP.then ?_; refine ZC.region ?_; refine ZL.val (r_move rfl) rfl ?_; refine ZL.val (r_add rfl rfl (wrap_i64 (by omega) (by omega))) rfl ?_; refine ZL.val (r_assign rfl) rfl ?_; refine ZL.nil ?_
            refine ZP.round (j + 1, v13) ⟨rfl, rfl, rfl, rfl, trivial⟩ ⟨by simp only; omega, ?_⟩ (by simp only; omega)
            simp only [parts_succ _ j hj']
            simpa only [List.append_assoc] using M13
          · have hj' : j = xi.wit.length := by omega
            subst hj'
            rw [List.take_length] at M12
            refine ZC.exit ?_; refine ZP.thenX ?_; refine ZP.thenX ?_; refine ZP.blockE ?_; refine ZP.blockN ?_; refine ZP.then ?_; refine ZC.region ?_; refine ZL.val (r_move rfl) rfl ?_; refine ZL.val (r_add rfl rfl (wrap_i64 (by omega) (by omega))) rfl ?_; refine ZL.val (r_assign rfl) rfl ?_; refine ZL.nil ?_
            refine ZP.round (k + 1, bj) ⟨rfl, rfl, rfl, trivial⟩ ⟨by simp only; omega, ?_⟩ (by simp only; omega)
            simp only [wits_succ _ k hk', hxx, witB]
            simpa only [List.append_assoc] using M12
        · have hk' : k = t.ins.length := by omega
          subst hk'
          rw [List.take_length] at M8 hwk
          refine ZC.exit ?_; refine ZP.thenX ?_; refine ZP.thenX ?_; refine ZP.blockE ?_; refine ZP.then ?_; refine ZC.seq ?_; refine ZC.region ?_; refine ZL.val (r_move rfl) rfl ?_; refine ZL.val (r_fieldAddr rfl) rfl ?_
          refine ZL.val (r_ld M8 rfl (by rfl)) rfl ?_
          refine ZL.call (r_call rfl) rfl (refSmall_ok bk _ t.lock.toNat w8 No ((M8.og (v := bk) inferInstance).bytes rfl rfl) (by simp only [List.length_append]; omega) t.lock.toNat_lt) (fun v9 w9 ⟨E9, O9⟩ => ?_)
          have M9 := M8.addNew E9 O9
          refine ZL.val (r_assign rfl) rfl ?_; refine ZL.nil ?_; refine ZP.then ?_; refine ZC.ret ?_
          have e : t.bytes = t.pre ++ wits t.ins ++ le t.lock.toNat 4 := by simp [TTx.bytes, hm, hw]
          rw [e]
          exact ZP.ret1 rfl rfl (M9.new rfl rfl)

theorem Wtxid_ok (v : Value) (t : TTx) (w : World) (Y : Nat → Prop) (hG : GW w) (h : TxR w Y v t) :
    Ret P 25 #[v] w (fun r w' => Ext w w' ∧ r = t.wid.v) := by
  obtain ⟨iv, ov, rfl, -, -⟩ := h.v
  refine Ret.enter1 Tryz.func25 rfl Tryz.ntmps25 rfl ?_
  refine ZC.seq ?_; refine ZC.region ?_
  refine ZL.box (Mem.start w No) rfl rfl rfl (fun b w1 M1 => ?_)
  refine ZL.alloc M1 rfl rfl (fun br w2 M2 => ?_)
  refine ZL.nil ?_; refine ZP.then ?_; refine ZC.seq ?_; refine ZC.region ?_
  refine ZL.val (r_ldW M2 rfl rfl) rfl ?_
  refine ZL.call (r_call rfl) rfl (TBytes_ok _ t w2 Y (h.mv (Mv.ext M2.ext))) (fun v3 w3 ⟨E3, O3⟩ => ?_)
  have M3 := M2.ext' E3
  refine ZL.call (r_call rfl) rfl (Twice_ok v3 t.bytes w3 _ (hG.ext M3.ext) O3.r (bytes_len t)) (fun v4 w4 ⟨E4, hv⟩ => ?_)
  subst hv
  have M4 := M3.ext' E4
  refine ZL.stW M4 rfl rfl (cs' := t.wid.cells.toArray) rfl (by simp) (B32.size _) (B32.one _) (fun w5 M5 => ?_)
  refine ZL.nil ?_; refine ZP.then ?_; refine ZC.ret ?_
  exact ZP.retC rfl rfl (M5.get inferInstance) (B32.size _) ⟨M5.ext, rfl⟩
theorem refWtxid_ok (v : Value) (t : TTx) (w : World) (Y : Nat → Prop) (h : TxR w Y v t) :
    Ret P 7 #[v] w (fun r w' => Ext w w' ∧ r = t.wid.v) := by
  obtain ⟨iv, ov, rfl, -, -⟩ := h.v
  refine Ret.enter1 Tryz.func7 rfl Tryz.ntmps7 rfl ?_
  refine ZC.seq ?_; refine ZC.region ?_
  refine ZL.box (Mem.start w No) rfl rfl rfl (fun b w1 M1 => ?_)
  refine ZL.alloc M1 rfl rfl (fun br w2 M2 => ?_)
  refine ZL.nil ?_; refine ZP.then ?_; refine ZC.seq ?_; refine ZC.region ?_
  refine ZL.val (r_ldW M2 rfl rfl) rfl ?_
  refine ZL.call (r_call rfl) rfl (refBytes_ok _ t w2 Y (h.mv (Mv.ext M2.ext))) (fun v3 w3 ⟨E3, O3⟩ => ?_)
  have M3 := M2.ext' E3
  refine ZL.call (r_call rfl) rfl (refTwice_ok v3 t.bytes w3 _ O3.r (bytes_len t)) (fun v4 w4 ⟨E4, hv⟩ => ?_)
  subst hv
  have M4 := M3.ext' E4
  refine ZL.stW M4 rfl rfl (cs' := t.wid.cells.toArray) rfl (by simp) (B32.size _) (B32.one _) (fun w5 M5 => ?_)
  refine ZL.nil ?_; refine ZP.then ?_; refine ZC.ret ?_
  exact ZP.retC rfl rfl (M5.get inferInstance) (B32.size _) ⟨M5.ext, rfl⟩

theorem Weight_ok (v : Value) (t : TTx) (w : World) (Y : Nat → Prop) (h : TxR w Y v t) :
    Ret P 24 #[v] w (fun r w' => Ext w w' ∧ r = .int .i64 (t.weight : Nat)) := by
  obtain ⟨iv, ov, rfl, -, -⟩ := h.v
  have hl1 := base_len t
  have hl2 := bytes_len t
  refine Ret.enter1 Tryz.func24 rfl Tryz.ntmps24 rfl ?_
  refine ZC.seq ?_; refine ZC.region ?_
  refine ZL.box (Mem.start w No) rfl rfl rfl (fun b w1 M1 => ?_)
  refine ZL.val (r_assign rfl) rfl ?_; refine ZL.nil ?_; refine ZP.then ?_; refine ZC.seq ?_
  refine ZC.draw (Holds [(b, .cells #[u32 t.version, iv, ov, u32 t.lock] 33 (0, 0))]) rfl rfl (fun w3 E3 _ => ?_)
  have M3 := M1.ext' E3
  have S3 : Holds [(b, .cells #[u32 t.version, iv, ov, u32 t.lock] 33 (0, 0))] w3 := ⟨M3.get inferInstance, trivial⟩
  refine ZA.take 0 rfl (fun w' hS' => r_ldSW hS' rfl rfl) (by kernel_rfl) (by kernel_rfl) (by kernel_rfl) rfl rfl (fun _ _ _ _ h => h) S3 ?_
  refine ZA.take 4 rfl (fun w' hS' => r_ldSW hS' rfl rfl) (by kernel_rfl) (by kernel_rfl) (by kernel_rfl) rfl rfl (fun _ _ _ _ h => h) S3 ?_
  refine ZA.one 1 (by kernel_rfl) rfl rfl ?_
  refine ZL.call (r_call rfl) rfl (Base_ok _ t w3 Y (h.mv (Mv.ext M3.ext))) (fun v4 w4 ⟨E4, O4⟩ => ?_)
  have M4 := M3.ext' E4
  have S4 : Holds [(b, .cells #[u32 t.version, iv, ov, u32 t.lock] 33 (0, 0))] w4 := ⟨M4.get inferInstance, trivial⟩
  obtain ⟨p4, c4, rfl⟩ := O4.r.shape
  refine ZL.nil (ZP.any S4 ?_)
  refine ZA.take 2 rfl (fun w' hS' => by first | exact r_move rfl | exact r_assign rfl | exact r_fieldAddr rfl | exact r_sliceArr rfl | exact r_addU rfl rfl | exact r_xorU rfl rfl | exact r_orU rfl rfl | exact r_andU rfl rfl | exact r_complU rfl | exact r_convU rfl | exact r_ldS hS' rfl (by rfl) | exact r_nilCheck rfl | exact r_extract rfl rfl | exact r_lenSlice rfl) (by kernel_rfl) (by kernel_rfl) (by kernel_rfl) rfl rfl (fun _ _ _ _ h => h) S4 ?_
  refine ZA.take 3 rfl (fun w' hS' => r_mul rfl rfl (wrap_i64 (by omega) (by omega))) (by kernel_rfl) (by kernel_rfl) (by kernel_rfl) rfl rfl (fun _ _ _ _ h => h) S4 ?_
  refine ZA.one 5 (by kernel_rfl) rfl rfl ?_
  refine ZL.call (r_call rfl) rfl (TBytes_ok _ t w4 Y (h.mv (Mv.ext M4.ext))) (fun v5 w5 ⟨E5, O5⟩ => ?_)
  have M5 := M4.ext' E5
  have S5 : Holds [(b, .cells #[u32 t.version, iv, ov, u32 t.lock] 33 (0, 0))] w5 := ⟨M5.get inferInstance, trivial⟩
  obtain ⟨p5, c5, rfl⟩ := O5.r.shape
  refine ZL.nil (ZP.any S5 ?_)
  refine ZA.take 6 rfl (fun w' hS' => by first | exact r_move rfl | exact r_assign rfl | exact r_fieldAddr rfl | exact r_sliceArr rfl | exact r_addU rfl rfl | exact r_xorU rfl rfl | exact r_orU rfl rfl | exact r_andU rfl rfl | exact r_complU rfl | exact r_convU rfl | exact r_ldS hS' rfl (by rfl) | exact r_nilCheck rfl | exact r_extract rfl rfl | exact r_lenSlice rfl) (by kernel_rfl) (by kernel_rfl) (by kernel_rfl) rfl rfl (fun _ _ _ _ h => h) S5 ?_
  refine ZA.take 7 rfl (fun w' hS' => r_add rfl rfl (wrap_i64 (by omega) (by omega))) (by kernel_rfl) (by kernel_rfl) (by kernel_rfl) rfl rfl (fun _ _ _ _ h => h) S5 ?_
  refine ZA.take 8 rfl (fun w' hS' => by first | exact r_move rfl | exact r_assign rfl | exact r_fieldAddr rfl | exact r_sliceArr rfl | exact r_addU rfl rfl | exact r_xorU rfl rfl | exact r_orU rfl rfl | exact r_andU rfl rfl | exact r_complU rfl | exact r_convU rfl | exact r_ldS hS' rfl (by rfl) | exact r_nilCheck rfl | exact r_extract rfl rfl | exact r_lenSlice rfl) (by kernel_rfl) (by kernel_rfl) (by kernel_rfl) rfl rfl (fun _ _ _ _ h => h) S5 ?_
  refine ZA.done (by kernel_rfl) ?_
  refine ZP.then ?_; refine ZC.ret ?_
  exact ZP.ret1 rfl rfl ⟨M5.ext, congrArg (Value.int .i64) (by unfold TTx.weight; omega)⟩
theorem refWeight_ok (v : Value) (t : TTx) (w : World) (Y : Nat → Prop) (h : TxR w Y v t) :
    Ret P 12 #[v] w (fun r w' => Ext w w' ∧ r = .int .i64 (t.weight : Nat)) := by
  obtain ⟨iv, ov, rfl, -, -⟩ := h.v
  have hl1 := base_len t
  have hl2 := bytes_len t
  refine Ret.enter1 Tryz.func12 rfl Tryz.ntmps12 rfl ?_
  refine ZC.seq ?_; refine ZC.region ?_
  refine ZL.box (Mem.start w No) rfl rfl rfl (fun b w1 M1 => ?_)
  refine ZL.val (r_assign rfl) rfl ?_; refine ZL.nil ?_; refine ZP.then ?_; refine ZC.seq ?_
  refine ZC.draw (Holds [(b, .cells #[u32 t.version, iv, ov, u32 t.lock] 33 (0, 0))]) rfl rfl (fun w3 E3 _ => ?_)
  have M3 := M1.ext' E3
  have S3 : Holds [(b, .cells #[u32 t.version, iv, ov, u32 t.lock] 33 (0, 0))] w3 := ⟨M3.get inferInstance, trivial⟩
  refine ZA.take 0 rfl (fun w' hS' => r_ldSW hS' rfl rfl) (by kernel_rfl) (by kernel_rfl) (by kernel_rfl) rfl rfl (fun _ _ _ _ h => h) S3 ?_
  refine ZA.take 4 rfl (fun w' hS' => r_ldSW hS' rfl rfl) (by kernel_rfl) (by kernel_rfl) (by kernel_rfl) rfl rfl (fun _ _ _ _ h => h) S3 ?_
  refine ZA.one 1 (by kernel_rfl) rfl rfl ?_
  refine ZL.call (r_call rfl) rfl (refBase_ok _ t w3 Y (h.mv (Mv.ext M3.ext))) (fun v4 w4 ⟨E4, O4⟩ => ?_)
  have M4 := M3.ext' E4
  have S4 : Holds [(b, .cells #[u32 t.version, iv, ov, u32 t.lock] 33 (0, 0))] w4 := ⟨M4.get inferInstance, trivial⟩
  obtain ⟨p4, c4, rfl⟩ := O4.r.shape
  refine ZL.nil (ZP.any S4 ?_)
  refine ZA.take 2 rfl (fun w' hS' => by first | exact r_move rfl | exact r_assign rfl | exact r_fieldAddr rfl | exact r_sliceArr rfl | exact r_addU rfl rfl | exact r_xorU rfl rfl | exact r_orU rfl rfl | exact r_andU rfl rfl | exact r_complU rfl | exact r_convU rfl | exact r_ldS hS' rfl (by rfl) | exact r_nilCheck rfl | exact r_extract rfl rfl | exact r_lenSlice rfl) (by kernel_rfl) (by kernel_rfl) (by kernel_rfl) rfl rfl (fun _ _ _ _ h => h) S4 ?_
  refine ZA.take 3 rfl (fun w' hS' => r_mul rfl rfl (wrap_i64 (by omega) (by omega))) (by kernel_rfl) (by kernel_rfl) (by kernel_rfl) rfl rfl (fun _ _ _ _ h => h) S4 ?_
  refine ZA.one 5 (by kernel_rfl) rfl rfl ?_
  refine ZL.call (r_call rfl) rfl (refBytes_ok _ t w4 Y (h.mv (Mv.ext M4.ext))) (fun v5 w5 ⟨E5, O5⟩ => ?_)
  have M5 := M4.ext' E5
  have S5 : Holds [(b, .cells #[u32 t.version, iv, ov, u32 t.lock] 33 (0, 0))] w5 := ⟨M5.get inferInstance, trivial⟩
  obtain ⟨p5, c5, rfl⟩ := O5.r.shape
  refine ZL.nil (ZP.any S5 ?_)
  refine ZA.take 6 rfl (fun w' hS' => by first | exact r_move rfl | exact r_assign rfl | exact r_fieldAddr rfl | exact r_sliceArr rfl | exact r_addU rfl rfl | exact r_xorU rfl rfl | exact r_orU rfl rfl | exact r_andU rfl rfl | exact r_complU rfl | exact r_convU rfl | exact r_ldS hS' rfl (by rfl) | exact r_nilCheck rfl | exact r_extract rfl rfl | exact r_lenSlice rfl) (by kernel_rfl) (by kernel_rfl) (by kernel_rfl) rfl rfl (fun _ _ _ _ h => h) S5 ?_
  refine ZA.take 7 rfl (fun w' hS' => r_add rfl rfl (wrap_i64 (by omega) (by omega))) (by kernel_rfl) (by kernel_rfl) (by kernel_rfl) rfl rfl (fun _ _ _ _ h => h) S5 ?_
  refine ZA.take 8 rfl (fun w' hS' => by first | exact r_move rfl | exact r_assign rfl | exact r_fieldAddr rfl | exact r_sliceArr rfl | exact r_addU rfl rfl | exact r_xorU rfl rfl | exact r_orU rfl rfl | exact r_andU rfl rfl | exact r_complU rfl | exact r_convU rfl | exact r_ldS hS' rfl (by rfl) | exact r_nilCheck rfl | exact r_extract rfl rfl | exact r_lenSlice rfl) (by kernel_rfl) (by kernel_rfl) (by kernel_rfl) rfl rfl (fun _ _ _ _ h => h) S5 ?_
  refine ZA.done (by kernel_rfl) ?_
  refine ZP.then ?_; refine ZC.ret ?_
  exact ZP.ret1 rfl rfl ⟨M5.ext, congrArg (Value.int .i64) (by unfold TTx.weight; omega)⟩
end Go.Proofs.YtibobcjfjnoclaaGreatDoor.Z
end
section
/- Linked transactions of numbers: what is said of the rows made so far. -/
set_option linter.unusedVariables false
set_option linter.unusedSimpArgs false
set_option linter.unusedSectionVars false
set_option maxRecDepth 100000
set_option maxHeartbeats 4000000
namespace Go.Proofs.YtibobcjfjnoclaaGreatDoor.Z
open Go Go.RowKit

/-- An input's cells. -/
abbrev pC (p : B32) (vo : UInt32) (sv : Value) (sq : UInt32) (wv : Value) : Array Value := (p.cells ++ [u32 vo, sv, u32 sq, wv]).toArray
theorem B32.len (p : B32) : p.cells.length = 32 := by simp [B32.cells, p.property]
theorem pC.size (p : B32) (vo : UInt32) (sv : Value) (sq : UInt32) (wv : Value) : (pC p vo sv sq wv).size = 36 := by simp [pC, B32.len]
theorem pC.one (p : B32) (vo : UInt32) {sv : Value} (sq : UInt32) {wv : Value} (h1 : sv.oneCell' = true) (h2 : wv.oneCell' = true) : ∀ x ∈ (pC p vo sv sq wv).toList, x.oneCell' = true := by
  intro x hx
  simp only [pC, List.mem_append, List.mem_cons, List.not_mem_nil, or_false] at hx
  rcases hx with hx | rfl | rfl | rfl | rfl
  · exact u8_one _ _ hx
  all_goals first | rfl | assumption
theorem pC.n32 (p : B32) (vo : UInt32) (sv : Value) (sq : UInt32) (wv : Value) : nth (pC p vo sv sq wv) 32 = some (u32 vo) := by
  rw [nth_eq]; simp [pC, List.getElem?_append, B32.len]
theorem setL_of : ∀ (l : List Value) (o : Nat) (v : Value), o < l.length → setL l o v = some (l.set o v)
  | [], _, _, h => by simp at h
  | _ :: _, 0, _, _ => rfl
  | a :: r, i + 1, v, h => by
    simp only [setL, setL_of r i v (by simpa using h)]
    rfl
theorem pC.s32 (p : B32) (vo vo' : UInt32) (sv : Value) (sq : UInt32) (wv : Value) : setA (pC p vo sv sq wv) 32 (u32 vo') = some (pC p vo' sv sq wv) := by
  unfold setA pC
  rw [setL_of _ _ _ (by simp [B32.len])]
  simp only [Option.some.injEq]
  rw [List.set_append_right _ _ (by simp [B32.len])]
  simp [B32.len]
def prevD (b c : UInt8) : B32 := ⟨b :: c :: List.replicate 30 0, by simp⟩
def inD (b c : UInt8) (vo : UInt32) (sq : UInt32) : Array Value := (u8 b :: u8 c :: (List.replicate 30 (u8 0) ++ [u32 vo, .slice none 0 0, u32 sq, .slice none 0 0])).toArray
theorem inD_eq (b c : UInt8) (vo sq : UInt32) : inD b c vo sq = pC (prevD b c) vo (.slice none 0 0) sq (.slice none 0 0) := by
  simp [inD, pC, prevD, B32.cells]

section
variable {P : Program} {n : Nat} {ops : Array Oper} {Q : Post} {rest : List Oper} {σ : Env} {w w0 : World} {X : Nat → Prop} {L L' : List Chunk}
variable {ty : TypeId} {pos : String} {after : Array Edge} {x y : Operand}
/-- A variable's first cells are written. -/
theorem ZL.stP {t : TypeId} {b s by' : Nat} {cs0 cs1 tl : List Value} {e : TypeId} [TI P t s by'] (hM : Mem w0 X L w) (hx : ev σ x = some (.pointer (some ⟨b, 0, none⟩))) (hy : ev σ y = some (.agg cs1.toArray)) [i : Put L b (.cells (cs0 ++ tl).toArray e (0, 0)) (.cells (cs1 ++ tl).toArray e (0, 0)) L']
    (hs : cs0.length = s) (hs' : cs1.length = s) (h1 : ∀ x ∈ cs1, x.oneCell' = true) (h : ∀ w', Mem w0 X L' w' → ZL P n ops Q rest σ w') : ZL P n ops Q (⟨none, .store t x y, ty, pos, after, none⟩ :: rest) σ w := by
  refine ZL.unit (uw_store hx hy (hM.putGet i) (by simp [Value.cells, hs']) (by simp; omega) (by simp [Value.cells, List.all_eq_true]; exact h1)) (h _ ?_)
  have e2 : splice (cs0 ++ tl).toArray 0 (Value.agg cs1.toArray).cells = (cs1 ++ tl).toArray := by
    subst hs
    unfold splice; apply Array.ext'
    simp [Value.cells, hs']
  rw [e2]
  exact hM.upd i (Upd.setRow (hM.putGet i))
end

def InsP (w0 : World) (L : List Chunk) (w : World) (rows : List (List Value)) : Prop := ∀ r ∈ rows, r.length = 36 ∧ ∃ i, InE w (Out w0 L) r i ∧ i.script = [] ∧ i.wit = []
def OutsP (w0 : World) (L : List Chunk) (w : World) (rows : List (List Value)) : Prop := ∀ r ∈ rows, r.length = 2 ∧ ∃ i, OutE w (Out w0 L) r i ∧ i.script.length ≤ 40
theorem InsP.mv {w0 w w' : World} {L L' : List Chunk} {rows : List (List Value)} (h : InsP w0 L w rows) (m : Mv w (Out w0 L) w' (Out w0 L')) : InsP w0 L' w' rows := fun r hr => ⟨(h r hr).1, by obtain ⟨i, hi, hp⟩ := (h r hr).2; exact ⟨i, hi.mv m, hp⟩⟩
theorem OutsP.mv {w0 w w' : World} {L L' : List Chunk} {rows : List (List Value)} (h : OutsP w0 L w rows) (m : Mv w (Out w0 L) w' (Out w0 L')) : OutsP w0 L' w' rows := fun r hr => ⟨(h r hr).1, by obtain ⟨i, hi, hp⟩ := (h r hr).2; exact ⟨i, hi.mv m, hp⟩⟩
theorem rows_list {α : Type} {E : List Value → α → Prop} {Pr : α → Prop} {s : Nat} : ∀ {rows : List (List Value)}, (∀ r ∈ rows, r.length = s ∧ ∃ a, E r a ∧ Pr a) → ∃ l : List α, l.length = rows.length ∧ (∀ a ∈ l, Pr a) ∧ ∀ (i : Nat) (r : List Value) (a : α), rows[i]? = some r → l[i]? = some a → E r a
  | [], _ => ⟨[], rfl, by simp, fun i r a hr => by simp at hr⟩
  | r :: t, h => by
    obtain ⟨l, h1, h2, h3⟩ := rows_list (rows := t) fun r hr => h r (List.mem_cons_of_mem _ hr)
    obtain ⟨a, ha, hp⟩ := (h r (List.mem_cons_self ..)).2
    refine ⟨a :: l, by simp [h1], fun b hb => ?_, fun j r' b hr hb => ?_⟩
    · rcases List.mem_cons.1 hb with rfl | hb
      · exact hp
      · exact h2 b hb
    · cases j with
      | zero => simp at hr hb; subst hr; subst hb; exact ha
      | succ j => exact h3 j r' b (by simpa using hr) (by simpa using hb)

structure LRec where
  ver : UInt32
  iv : Value
  ov : Value
  irows : List (List Value)
  orows : List (List Value)
def LRec.row (r : LRec) : List Value := [u32 r.ver, r.iv, r.ov, u32 0]
def LRec.ci (r : LRec) : Chunk := .own r.iv 60 36 r.irows.length r.irows.flatten
def LRec.co (r : LRec) : Chunk := .own r.ov 64 2 r.orows.length r.orows.flatten
def lchs : List LRec → List Chunk
  | [] => []
  | r :: l => r.ci :: r.co :: lchs l
def lrows (l : List LRec) : List (List Value) := (l.map LRec.row).reverse
theorem lrows_cons (r : LRec) (l : List LRec) : lrows (r :: l) = lrows l ++ [r.row] := by simp [lrows]
theorem lrows_len (l : List LRec) : (lrows l).length = l.length := by simp [lrows]
theorem lchs_mem {r : LRec} : ∀ {l : List LRec}, r ∈ l → r.ci ∈ lchs l ∧ r.co ∈ lchs l
  | a :: l, h => by
    rcases List.mem_cons.1 h with rfl | h
    · exact ⟨by simp [lchs], by simp [lchs]⟩
    · have := lchs_mem h
      exact ⟨by simp [lchs, this.1], by simp [lchs, this.2]⟩
theorem lrows_get {j : Nat} {l : List LRec} (h : j < l.length) : ∃ r ∈ l, ∃ h' : j < (lrows l).length, (lrows l)[j] = r.row := by
  have h' : j < (lrows l).length := by rw [lrows_len]; exact h
  have hm : (lrows l)[j] ∈ lrows l := List.getElem_mem h'
  unfold lrows at hm
  rw [List.mem_reverse, List.mem_map] at hm
  obtain ⟨r, hr, he⟩ := hm
  exact ⟨r, hr, h', he.symm⟩
theorem lrows_row {l : List LRec} : ∀ r ∈ lrows l, r.length = 4 := by
  intro r hr
  unfold lrows at hr
  rw [List.mem_reverse, List.mem_map] at hr
  obtain ⟨a, -, rfl⟩ := hr
  rfl
theorem Mem.slcX {w0 w : World} {L : List Chunk} {v : Value} {e s n : Nat} {xs : List Value} (M : Mem w0 No L w) (hc : Chunk.own v e s n xs ∈ L) (X : Nat → Prop) (hX : ∀ g, X g → g < w0.heap.size) : SlC w X s v n xs :=
  OwnR.slc (M.ok _ hc) fun g hg hx => by
    have := (M.mine _ hc g hg).resolve_left (fun h => h)
    have := hX g hx
    omega
/-- One of the list's own cells. -/
theorem Mem.lrow {w0 w : World} {L : List Chunk} {l : List LRec} {p : Option Addr} {n c e : Nat} (M : Mem w0 No L w) (hm : Chunk.own (.slice p n c) e 4 l.length (lrows l).flatten ∈ L) {j : Nat} (hj : j < l.length) :
    n = l.length ∧ ∃ r ∈ l, ∃ g o cs e fz, p = some ⟨g, o, none⟩ ∧ w.heap[g]? = some (.cells cs e fz) ∧ (∀ k u, r.row[k]? = some u → cs[o + j * 4 + k]? = some u) ∧ o + j * 4 + 4 ≤ cs.size ∧ cs.extract (o + j * 4) (o + j * 4 + 4) = r.row.toArray := by
  obtain ⟨r, hr, hj', he⟩ := lrows_get hj
  have hs := M.slcX hm No (fun _ h => h.elim)
  have hL : ListR (fun _ _ r a => r = a) 4 w No (.slice p n c) (lrows l) := ⟨lrows l, rfl, lrows_row, by rw [lrows_len]; exact hs, fun i r a hr ha => by rw [hr] at ha; exact Option.some.inj ha⟩
  obtain ⟨g, o, cs, e, fz, r', hp, hh, hx, _, he', h0, h1, h2⟩ := hL.elem (by decide) hj'
  obtain ⟨p', c', hv⟩ := hs.shape
  simp only [Value.slice.injEq] at hv
  refine ⟨hv.2.1, r, hr, g, o, cs, e, fz, hp, hh, ?_, h1, ?_⟩
  · rw [← he, ← he']; exact h0
  · rw [← he, ← he']; exact h2
structure LOk (w0 : World) (L : List Chunk) (w : World) (r : LRec) : Prop where
  ins : InsP w0 L w r.irows
  outs : OutsP w0 L w r.orows
  i1 : 1 ≤ r.irows.length
  i2 : r.irows.length ≤ 2
  o1 : 1 ≤ r.orows.length
  o2 : r.orows.length ≤ 4
def RF (w0 : World) (L : List Chunk) (w : World) (recs : List LRec) : Prop := ∀ r ∈ recs, LOk w0 L w r
theorem RF.mv {w0 w w' : World} {L L' : List Chunk} {recs : List LRec} (h : RF w0 L w recs) (m : Mv w (Out w0 L) w' (Out w0 L')) : RF w0 L' w' recs := fun r hr => by
  obtain ⟨a, b, c, d, e, f⟩ := h r hr
  exact ⟨a.mv m, b.mv m, c, d, e, f⟩
/-- A transaction of few and small parts. -/
structure TTx.plain (t : TTx) : Prop where
  i1 : 1 ≤ t.ins.length
  i2 : t.ins.length ≤ 2
  ip : ∀ x ∈ t.ins, x.script = [] ∧ x.wit = []
  o1 : 1 ≤ t.outs.length
  o2 : t.outs.length ≤ 4
  op : ∀ x ∈ t.outs, x.script.length ≤ 40
theorem LOk.tx {w0 w : World} {L : List Chunk} {r : LRec} (h : LOk w0 L w r) (M : Mem w0 No L w) (hi : r.ci ∈ L) (ho : r.co ∈ L) (X : Nat → Prop) (hX : ∀ g, X g → g < w0.heap.size) :
    ∃ T : TTx, TxE w X r.row T ∧ T.plain ∧ T.version = r.ver ∧ T.outs.length = r.orows.length := by
  obtain ⟨li, hli, hpi, hli2⟩ := rows_list h.ins
  obtain ⟨lo, hlo, hpo, hlo2⟩ := rows_list h.outs
  have mv : Mv w (Out w0 L) w X := Mv.mono fun b _ hb => .inl (hX b hb)
  refine ⟨⟨r.ver, li, lo, 0⟩, ⟨r.iv, r.ov, rfl, ⟨r.irows, hli.symm, fun a ha => (h.ins a ha).1, ?_, fun i a b ha hb => (hli2 i a b ha hb).mv mv⟩, ⟨r.orows, hlo.symm, fun a ha => (h.outs a ha).1, ?_, fun i a b ha hb => (hlo2 i a b ha hb).mv mv⟩⟩, ⟨?_, ?_, hpi, ?_, ?_, hpo⟩, rfl, hlo⟩
  · simp only; rw [hli]; exact M.slcX hi X hX
  · simp only; rw [hlo]; exact M.slcX ho X hX
  all_goals simp only
  · rw [hli]; exact h.i1
  · rw [hli]; exact h.i2
  · rw [hlo]; exact h.o1
  · rw [hlo]; exact h.o2
theorem InsP.snoc {w0 w : World} {L : List Chunk} {rows : List (List Value)} (h : InsP w0 L w rows) (p : B32) (vo sq : UInt32) : InsP w0 L w (rows ++ [(pC p vo (.slice none 0 0) sq (.slice none 0 0)).toList]) := fun r hr => by
  rcases List.mem_append.1 hr with hr | hr
  · exact h r hr
  · simp only [List.mem_singleton] at hr
    subst hr
    exact ⟨by simp [pC, B32.len], ⟨p, vo, [], sq, []⟩, ⟨_, _, rfl, ⟨rfl, .inl ⟨rfl, rfl⟩⟩, ⟨[], rfl, (fun r hr => by cases hr), ⟨rfl, .inl ⟨rfl, rfl⟩⟩, (fun i r a hr => by simp at hr)⟩⟩, rfl, rfl⟩
theorem OutsP.snoc {w0 w : World} {L : List Chunk} {rows : List (List Value)} (h : OutsP w0 L w rows) (x : UInt64) {sv : Value} {scr : List UInt8} (hs : BytesR w (Out w0 L) sv scr) (hl : scr.length ≤ 40) : OutsP w0 L w (rows ++ [[u64 x, sv]]) := fun r hr => by
  rcases List.mem_append.1 hr with hr | hr
  · exact h r hr
  · simp only [List.mem_singleton] at hr
    subst hr
    exact ⟨rfl, ⟨x, scr⟩, ⟨sv, rfl, hs⟩, hl⟩
theorem perm4 {α : Type} (a b c d : α) (l : List α) : (a :: b :: c :: d :: l).Perm (c :: d :: b :: a :: l) := by
  refine (List.Perm.cons a ((List.Perm.swap c b _).trans (List.Perm.cons c (List.Perm.swap d b _)))).trans ?_
  refine (List.Perm.swap c a _).trans (List.Perm.cons c ?_)
  exact (List.Perm.swap d a _).trans (List.Perm.cons d (List.Perm.swap b a _))
end Go.Proofs.YtibobcjfjnoclaaGreatDoor.Z
end
section
/- A transaction of its own memory. -/
set_option linter.unusedVariables false
set_option linter.unusedSimpArgs false
set_option linter.unusedSectionVars false
set_option maxRecDepth 100000
set_option maxHeartbeats 4000000
namespace Go.Proofs.YtibobcjfjnoclaaGreatDoor.Z
open Go Go.RowKit

theorem clipB_ok (v : Value) (e s n : Nat) (xs : List Value) (w : World) (h : OwnR w e s v n xs) :
    Ret P 53 #[v] w (fun r w' => w = w' ∧ OwnR w e s r n xs ∧ r.ownBlock = v.ownBlock) := by
  obtain ⟨p, c, rfl⟩ := h.shape
  obtain ⟨h1, h2⟩ := h.clip
  refine Ret.enter1 Tryz.func53 rfl Tryz.ntmps53 rfl ?_
  refine ZC.seq ?_; refine ZC.region ?_; refine ZL.val (r_assign rfl) rfl ?_; refine ZL.nil ?_; refine ZP.then ?_; refine ZC.seq ?_; refine ZC.region ?_; refine ZL.val (r_move rfl) rfl ?_; refine ZL.val (r_move rfl) rfl ?_; refine ZL.val (r_lenSlice rfl) rfl ?_; refine ZL.val (r_move rfl) rfl ?_; refine ZL.val (r_lenSlice rfl) rfl ?_
  refine ZL.val (r_slice3 rfl rfl rfl (by omega) (by omega) (by omega)) rfl ?_
  refine ZL.val (r_assign rfl) rfl ?_; refine ZL.nil ?_; refine ZP.then ?_; refine ZC.ret ?_
  refine ZP.ret1 rfl rfl ⟨rfl, h1, ?_⟩
  cases p <;> rfl
theorem clipI_ok (v : Value) (e s n : Nat) (xs : List Value) (w : World) (h : OwnR w e s v n xs) :
    Ret P 54 #[v] w (fun r w' => w = w' ∧ OwnR w e s r n xs ∧ r.ownBlock = v.ownBlock) := by
  obtain ⟨p, c, rfl⟩ := h.shape
  obtain ⟨h1, h2⟩ := h.clip
  refine Ret.enter1 Tryz.func54 rfl Tryz.ntmps54 rfl ?_
  refine ZC.seq ?_; refine ZC.region ?_; refine ZL.val (r_assign rfl) rfl ?_; refine ZL.nil ?_; refine ZP.then ?_; refine ZC.seq ?_; refine ZC.region ?_; refine ZL.val (r_move rfl) rfl ?_; refine ZL.val (r_move rfl) rfl ?_; refine ZL.val (r_lenSlice rfl) rfl ?_; refine ZL.val (r_move rfl) rfl ?_; refine ZL.val (r_lenSlice rfl) rfl ?_
  refine ZL.val (r_slice3 rfl rfl rfl (by omega) (by omega) (by omega)) rfl ?_
  refine ZL.val (r_assign rfl) rfl ?_; refine ZL.nil ?_; refine ZP.then ?_; refine ZC.ret ?_
  refine ZP.ret1 rfl rfl ⟨rfl, h1, ?_⟩
  cases p <;> rfl
theorem clipO_ok (v : Value) (e s n : Nat) (xs : List Value) (w : World) (h : OwnR w e s v n xs) :
    Ret P 55 #[v] w (fun r w' => w = w' ∧ OwnR w e s r n xs ∧ r.ownBlock = v.ownBlock) := by
  obtain ⟨p, c, rfl⟩ := h.shape
  obtain ⟨h1, h2⟩ := h.clip
  refine Ret.enter1 Tryz.func55 rfl Tryz.ntmps55 rfl ?_
  refine ZC.seq ?_; refine ZC.region ?_; refine ZL.val (r_assign rfl) rfl ?_; refine ZL.nil ?_; refine ZP.then ?_; refine ZC.seq ?_; refine ZC.region ?_; refine ZL.val (r_move rfl) rfl ?_; refine ZL.val (r_move rfl) rfl ?_; refine ZL.val (r_lenSlice rfl) rfl ?_; refine ZL.val (r_move rfl) rfl ?_; refine ZL.val (r_lenSlice rfl) rfl ?_
  refine ZL.val (r_slice3 rfl rfl rfl (by omega) (by omega) (by omega)) rfl ?_
  refine ZL.val (r_assign rfl) rfl ?_; refine ZL.nil ?_; refine ZP.then ?_; refine ZC.ret ?_
  refine ZP.ret1 rfl rfl ⟨rfl, h1, ?_⟩
  cases p <;> rfl
/-- The same block under another value. -/
theorem Mem.reown {w0 w : World} {X : Nat → Prop} {L : List Chunk} {v r : Value} {e s n : Nat} {xs : List Value} (M : Mem w0 X (.own v e s n xs :: L) w) (h : OwnR w e s r n xs) (hb : r.ownBlock = v.ownBlock) : Mem w0 X (.own r e s n xs :: L) w :=
  M.turn (A := []) (c' := .own r e s n xs) (ExtX.refl _ _) h (fun g hg => .inl (by simpa [Chunk.fp, hb] using hg))
/-- What the rows made so far read as. -/
structure RowsE {α : Type} (E : World → (Nat → Prop) → List Value → α → Prop) (s : Nat) (w0 : World) (L : List Chunk) (w : World) (rows : List (List Value)) (l : List α) : Prop where
  len : rows.length = l.length
  size : ∀ r ∈ rows, r.length = s
  each : ∀ (i : Nat) (r : List Value) (a : α), rows[i]? = some r → l[i]? = some a → E w (Out w0 L) r a
section
variable {α : Type} {E : World → (Nat → Prop) → List Value → α → Prop} {s : Nat} {w0 w w' : World} {L L' : List Chunk} {rows : List (List Value)} {l : List α}
theorem RowsE.nil : RowsE E s w0 L w [] [] := ⟨rfl, by simp, fun i r a hr => by simp at hr⟩
theorem RowsE.mv (h : RowsE E s w0 L w rows l) (hE : ∀ r a, E w (Out w0 L) r a → E w' (Out w0 L') r a) : RowsE E s w0 L' w' rows l := ⟨h.len, h.size, fun i r a hr ha => hE _ _ (h.each i r a hr ha)⟩
theorem RowsE.snoc (h : RowsE E s w0 L w rows l) {r : List Value} {a : α} (hr : r.length = s) (hE : E w (Out w0 L) r a) : RowsE E s w0 L w (rows ++ [r]) (l ++ [a]) := by
  refine ⟨by simp [h.len], fun x hx => ?_, fun i x b hx hb => ?_⟩
  · rcases List.mem_append.1 hx with hx | hx
    · exact h.size x hx
    · simp at hx; subst hx; exact hr
  · rcases Nat.lt_or_ge i rows.length with hi | hi
    · rw [List.getElem?_append_left hi] at hx
      rw [List.getElem?_append_left (by rw [← h.len]; exact hi)] at hb
      exact h.each i x b hx hb
    · rw [List.getElem?_append_right hi] at hx
      rw [List.getElem?_append_right (by rw [← h.len]; exact hi)] at hb
      rw [← h.len] at hb
      have : i - rows.length = 0 := by
        have := (List.getElem?_eq_some_iff.1 hx).1
        simp at this; omega
      rw [this] at hx hb
      simp at hx hb; subst hx; subst hb; exact hE
theorem RowsE.take {k : Nat} (h : RowsE E s w0 L w rows (l.take k)) (hk : k < l.length) {r : List Value} (hr : r.length = s) (hE : E w (Out w0 L) r l[k]) : RowsE E s w0 L w (rows ++ [r]) (l.take (k + 1)) := by
  rw [List.take_succ_eq_append_getElem hk]
  exact h.snoc hr hE
theorem RowsE.list (h : RowsE E s w0 L w rows l) {v : Value} {X : Nat → Prop} {n : Nat} (hs : SlC w X s v n rows.flatten) (hn : n = l.length) (hE : ∀ r a, E w (Out w0 L) r a → E w X r a) : ListR E s w X v l :=
  ⟨rows, h.len, h.size, hn ▸ hs, fun i r a hr ha => hE _ _ (h.each i r a hr ha)⟩
end
/-- Small enough to be copied. -/
structure TTx.fits (t : TTx) : Prop where
  i : t.ins.length ≤ 1000
  o : t.outs.length ≤ 1000
  s : ∀ x ∈ t.ins, x.script.length ≤ 1000000 ∧ x.wit.length ≤ 1000 ∧ ∀ b ∈ x.wit, b.length ≤ 1000000
  u : ∀ x ∈ t.outs, x.script.length ≤ 1000000
theorem pC.n33 (p : B32) (vo : UInt32) (sv : Value) (sq : UInt32) (wv : Value) : nth (pC p vo sv sq wv) 33 = some sv := by
  rw [nth_eq]; simp [pC, List.getElem?_append, B32.len]
theorem pC.n35 (p : B32) (vo : UInt32) (sv : Value) (sq : UInt32) (wv : Value) : nth (pC p vo sv sq wv) 35 = some wv := by
  rw [nth_eq]; simp [pC, List.getElem?_append, B32.len]
theorem pC.s33 (p : B32) (vo : UInt32) (sv sv' : Value) (sq : UInt32) (wv : Value) : setA (pC p vo sv sq wv) 33 sv' = some (pC p vo sv' sq wv) := by
  unfold setA pC
  rw [setL_of _ _ _ (by simp [B32.len])]
  simp only [Option.some.injEq]
  rw [List.set_append_right _ _ (by simp [B32.len])]
  simp [B32.len]
theorem pC.s35 (p : B32) (vo : UInt32) (sv : Value) (sq : UInt32) (wv wv' : Value) : setA (pC p vo sv sq wv) 35 wv' = some (pC p vo sv sq wv') := by
  unfold setA pC
  rw [setL_of _ _ _ (by simp [B32.len])]
  simp only [Option.some.injEq]
  rw [List.set_append_right _ _ (by simp [B32.len])]
  simp [B32.len]

theorem Mv.reown {w0 w : World} {v r : Value} {e s n : Nat} {xs : List Value} {A B : List Chunk} (hb : r.ownBlock = v.ownBlock) : Mv w (Out w0 (A ++ .own v e s n xs :: B)) w (Out w0 (A ++ .own r e s n xs :: B)) :=
  Mv.mono fun b _ hx => hx.imp id fun ⟨c, hc, hg⟩ => by
    simp only [List.mem_append, List.mem_cons] at hc
    rcases hc with hc | rfl | hc
    · exact ⟨c, by simp [hc], hg⟩
    · exact ⟨.own v e s n xs, by simp, by simpa [Chunk.fp, hb] using hg⟩
    · exact ⟨c, by simp [hc], hg⟩
theorem Mv.nilOwn {w0 w : World} {e s : Nat} {L : List Chunk} : Mv w (Out w0 L) w (Out w0 (.own (.slice none 0 0) e s 0 [] :: L)) :=
  Mv.mono fun b _ h => h.imp id fun ⟨d, hd, hg⟩ => by
    rcases List.mem_cons.1 hd with rfl | hd
    · simp [Chunk.fp, Value.ownBlock] at hg
    · exact ⟨d, hd, hg⟩

theorem Still_ok (v : Value) (t : TTx) (w : World) (Y : Nat → Prop) (h : TxR w Y v t) (hf : t.fits) :
    Ret P 27 #[v] w (fun r w' => Ext w w' ∧ TxR w' (· < w.heap.size) r t) := by
  obtain ⟨r, rfl, iv, ov, rfl, hi, ho⟩ := h
  obtain ⟨ip, ic, rfl⟩ := hi.shape
  obtain ⟨op, oc, rfl⟩ := ho.shape
  have hfi := hf.i
  have hfo := hf.o
  refine Ret.enter1 Tryz.func27 rfl Tryz.ntmps27 rfl ?_
  refine ZC.seq ?_; refine ZC.region ?_
  refine ZL.box (Mem.start w No) rfl rfl rfl (fun b1 w1 M1 => ?_)
  refine ZL.alloc M1 rfl rfl (fun b2 w2 M2 => ?_)
  refine ZL.nil ?_; refine ZP.then ?_; refine ZC.seq ?_; refine ZC.region ?_; refine ZL.val (r_assign rfl) rfl ?_; refine ZL.nil ?_; refine ZP.then ?_; refine ZC.seq ?_; refine ZC.seq ?_; refine ZC.region ?_; refine ZL.val (r_fieldAddr rfl) rfl ?_
  refine ZL.val (r_ld M2 rfl (by rfl)) rfl ?_
  refine ZL.val (r_lenSlice rfl) rfl ?_; refine ZL.val (r_move rfl) rfl ?_; refine ZL.nil ?_; refine ZP.then ?_; refine ZC.block ?_
  generalize hL0 : ([.blk b2 (.cells #[Value.int IntKind.u32 0, Value.slice none 0 0, Value.slice none 0 0, Value.int IntKind.u32 0] 33), .blk b1 (.cells #[u32 t.version, .slice ip t.ins.length ic, .slice op t.outs.length oc, u32 t.lock] 33)] : List Chunk) = L0 at M2
  refine ZC.loop (X := Nat × Value × List (List Value)) (fun x => [(15, .int .i64 x.1), (14, .int .i64 (t.ins.length : Int)), (13, .slice ip t.ins.length ic), (3, x.2.1), (1, .pointer (some ⟨b1, 0, none⟩)), (2, .pointer (some ⟨b2, 0, none⟩))])
    (fun x w' => Mem w No (.own x.2.1 60 36 x.1 x.2.2.flatten :: L0) w' ∧ RowsE InE 36 w (.own x.2.1 60 36 x.1 x.2.2.flatten :: L0) w' x.2.2 (t.ins.take x.1) ∧ x.1 ≤ t.ins.length) (fun x => t.ins.length - x.1) (0, .slice none 0 0, []) ⟨rfl, rfl, rfl, rfl, rfl, rfl, trivial⟩
    ⟨M2.nilOwn _ _, RowsE.nil, by omega⟩ ?_
  rintro ⟨k, inv, rows⟩ w3 ⟨M3, I3, hk⟩
  simp only at M3 I3 hk ⊢
  refine ZC.seq ?_; refine ZC.region ?_; refine ZL.val (r_lss rfl rfl) rfl ?_; refine ZL.nil ?_; refine ZP.then ?_; refine ZC.seq ?_
  refine ZC.condD rfl (fun hc => ?_) (fun hc => ?_)
  · have hk' : k < t.ins.length := by omega
    obtain ⟨g, o, cs, e, fz, r, rfl, hh, hx, hlen, hE, hcell, hsz, hext⟩ := ListR.elem (by decide) hi hk'
    obtain ⟨sv, wv, rfl, hs, hwit⟩ := hE
    obtain ⟨hf1, hf2, hf3⟩ := hf.s _ (List.getElem_mem hk')
    generalize hxx : t.ins[k] = xi at hext hs hwit hf1 hf2 hf3
    obtain ⟨ps, cs0, rfl⟩ := hs.shape
    obtain ⟨wp, wc, rfl⟩ := hwit.shape
    have R3 := M3.rebase
    refine ZC.skip ?_; refine ZP.then ?_; refine ZC.seq ?_; refine ZC.block ?_; refine ZC.seq ?_; refine ZC.region ?_
    refine ZL.val (r_idxS k rfl rfl rfl hk') rfl ?_
    refine ZL.val (r_loadN rfl (M3.ext.at hh id) hsz hext) rfl ?_
    refine ZL.alloc R3 rfl rfl (fun bx w4 R4 => ?_)
    refine ZL.stW R4 rfl rfl (cs' := pC xi.prev xi.vout (.slice ps xi.script.length cs0) xi.seq (.slice wp xi.wit.length wc)) rfl (by rfl) (pC.size _ _ _ _ _) (by rw [List.all_eq_true]; exact pC.one _ _ _ rfl rfl) (fun w5 R5 => ?_)
    have M5 := M3.join R5
    refine ZL.nil ?_; refine ZP.then ?_; refine ZC.seq ?_; refine ZC.region ?_; refine ZL.val (r_fieldAddr rfl) rfl ?_
    refine ZL.val (r_ld R5 rfl (pC.n33 _ _ _ _ _)) rfl ?_
    refine ZL.call (r_call rfl) rfl (clone_ok _ xi.script w5 Y (hs.mv (Mv.ext M5.ext)) hf1) (fun v6 w6 ⟨E6, O6⟩ => ?_)
    have R6 := R5.addNew E6 O6
    obtain ⟨p6, c6, hv6⟩ := O6.own.shape
    refine ZL.val (r_fieldAddr rfl) rfl ?_
    refine ZL.st R6 rfl rfl (cs' := pC xi.prev xi.vout v6 xi.seq (.slice wp xi.wit.length wc)) (pC.s33 _ _ _ _ _ _) (by rw [hv6]; rfl) (fun w7 R7 => ?_)
    have I7 := I3.mv (fun _ _ h => InE.mv ((Mv.frame R7).trans Mv.drop) h)
    obtain ⟨M7, S7⟩ := (M3.join R7).out
    clear R3 R4 R5 R6 R7 M5 E6 O6
    refine ZL.nil ?_; refine ZP.then ?_; refine ZC.seq ?_; refine ZC.region ?_; refine ZL.val (r_assign rfl) rfl ?_; refine ZL.nil ?_; refine ZP.then ?_; refine ZC.seq ?_; refine ZC.seq ?_; refine ZC.region ?_; refine ZL.val (r_fieldAddr rfl) rfl ?_
    refine ZL.val (r_ld M7 rfl (pC.n35 _ _ _ _ _)) rfl ?_
    refine ZL.val (r_lenSlice rfl) rfl ?_; refine ZL.val (r_move rfl) rfl ?_; refine ZL.nil ?_; refine ZP.then ?_; refine ZC.block ?_
    refine ZC.loop (X := Nat × Value × List (List Value)) (fun x => [(26, .int .i64 x.1), (25, .int .i64 (xi.wit.length : Int)), (24, .slice wp xi.wit.length wc), (6, x.2.1), (5, .pointer (some ⟨bx, 0, none⟩)), (15, .int .i64 k), (14, .int .i64 (t.ins.length : Int)), (13, .slice (some ⟨g, o, none⟩) t.ins.length ic), (3, inv), (1, .pointer (some ⟨b1, 0, none⟩)), (2, .pointer (some ⟨b2, 0, none⟩))])
      (fun x w' => Mem w No (.own x.2.1 57 1 x.1 x.2.2.flatten :: .blk bx (.cells (pC xi.prev xi.vout v6 xi.seq (.slice wp xi.wit.length wc)) 60) :: .own inv 60 36 k rows.flatten :: L0) w' ∧
        RowsE InE 36 w (.own x.2.1 57 1 x.1 x.2.2.flatten :: .blk bx (.cells (pC xi.prev xi.vout v6 xi.seq (.slice wp xi.wit.length wc)) 60) :: .own inv 60 36 k rows.flatten :: L0) w' rows (t.ins.take k) ∧
        RowsE BytesE 1 w (.own x.2.1 57 1 x.1 x.2.2.flatten :: .blk bx (.cells (pC xi.prev xi.vout v6 xi.seq (.slice wp xi.wit.length wc)) 60) :: .own inv 60 36 k rows.flatten :: L0) w' x.2.2 (xi.wit.take x.1) ∧
        BytesR w' (Out w (.own x.2.1 57 1 x.1 x.2.2.flatten :: .blk bx (.cells (pC xi.prev xi.vout v6 xi.seq (.slice wp xi.wit.length wc)) 60) :: .own inv 60 36 k rows.flatten :: L0)) v6 xi.script ∧ x.1 ≤ xi.wit.length)
      (fun x => xi.wit.length - x.1) (0, .slice none 0 0, []) ⟨rfl, rfl, rfl, rfl, rfl, rfl, rfl, rfl, rfl, rfl, rfl, trivial⟩
      ⟨M7.nilOwn _ _, I7.mv (fun _ _ h => InE.mv Mv.nilOwn h), RowsE.nil, S7.mv Mv.nilOwn, by omega⟩ ?_
    clear M3 I3 M7 I7 S7
    rintro ⟨j, wv, wrows⟩ w8 ⟨M8, I8, W8, S8, hj⟩
    simp only at M8 I8 W8 S8 hj ⊢
    refine ZC.seq ?_; refine ZC.region ?_; refine ZL.val (r_lss rfl rfl) rfl ?_; refine ZL.nil ?_; refine ZP.then ?_; refine ZC.seq ?_
    refine ZC.condD rfl (fun hd => ?_) (fun hd => ?_)
    · have hj' : j < xi.wit.length := by omega
      obtain ⟨g2, o2, cs2, e2, fz2, r2, rfl, hh2, hx2, hlen2, ⟨u, rfl, hu⟩, hcell2, -, -⟩ := ListR.elem (by decide) hwit hj'
      refine ZC.skip ?_; refine ZP.then ?_; refine ZC.seq ?_; refine ZC.block ?_; refine ZC.seq ?_; refine ZC.region ?_
      refine ZL.val (r_idxS j rfl rfl rfl hj') rfl ?_
      refine ZL.val (r_load1 rfl (M8.ext.at hh2 id) (hcell2 0 u rfl)) rfl ?_
      refine ZL.val (r_assign rfl) rfl ?_; refine ZL.nil ?_; refine ZP.then ?_; refine ZC.region ?_; refine ZL.val (r_move rfl) rfl ?_; refine ZL.val (r_move rfl) rfl ?_
      refine ZL.call (r_call rfl) rfl (clone_ok _ xi.wit[j] w8 Y (hu.mv (Mv.ext M8.ext)) (hf3 _ (List.getElem_mem hj'))) (fun v9 w9 ⟨E9, O9⟩ => ?_)
      obtain ⟨p9, c9, rfl⟩ := O9.own.shape
      have R9 := M8.rebase.addNew E9 O9
      refine ZL.bslice R9 rfl rfl rfl (by simp [Value.cells]) (by decide) rfl (fun g1 w10 R10 => ?_)
      refine ZL.append R10 rfl rfl (R10.own.slc (X := No) (fun _ _ h => h)) (by intro x hx; simp only [List.mem_cons, List.not_mem_nil, or_false] at hx; rcases hx with rfl; rfl) (by simp only [maxLen]; omega) (by omega) rfl (fun wv' w11 R11 => ?_)
      refine ZL.val (r_assign rfl) rfl ?_; refine ZL.nil ?_; refine ZP.blockN ?_; refine ZP.then ?_; refine ZC.region ?_; refine ZL.val (r_add rfl rfl (wrap_i64 (by omega) (by omega))) rfl ?_; refine ZL.val (r_move rfl) rfl ?_; refine ZL.nil ?_
      have mv := ((Mv.frame (w0 := w) R11).trans Mv.drop).trans Mv.drop
      obtain ⟨M11, T11⟩ := (M8.join R11).drop.out
      refine ZP.round (j + 1, wv', wrows ++ [[.slice p9 xi.wit[j].length c9]]) ⟨rfl, rfl, rfl, rfl, rfl, rfl, rfl, rfl, rfl, rfl, rfl, trivial⟩ ⟨?_, ?_, ?_, ?_, ?_⟩ ?_
      all_goals simp only [List.flatten_append, List.flatten_cons, List.flatten_nil, List.append_nil]
      · exact M11
      · exact I8.mv (fun _ _ h => InE.mv mv h)
      · exact (W8.mv (fun _ _ h => BytesE.mv mv h)).take hj' rfl ⟨_, rfl, T11⟩
      · exact S8.mv mv
      · omega
      · omega
    · have hj' : j = xi.wit.length := by omega
      subst hj'
      rw [List.take_length] at W8
      refine ZC.exit ?_; refine ZP.thenX ?_; refine ZP.thenX ?_; refine ZP.blockE ?_; refine ZP.then ?_; refine ZC.seq ?_; refine ZC.region ?_; refine ZL.val (r_move rfl) rfl ?_
      refine ZL.call (r_call rfl) rfl (clipB_ok wv _ _ _ _ w8 M8.own) (fun v9 w9 h9 => ?_)
      obtain ⟨rfl, O9, hb9⟩ := h9
      have M9 := M8.reown O9 hb9
      have mv9 := Mv.reown (w0 := w) (w := w8) (A := []) (e := 57) (s := 1) (n := xi.wit.length) (xs := wrows.flatten) (B := .blk bx (.cells (pC xi.prev xi.vout v6 xi.seq (.slice wp xi.wit.length wc)) 60) :: .own inv 60 36 k rows.flatten :: L0) hb9
      simp only [List.nil_append] at mv9
      have R9 := M9.rebase
      obtain ⟨p9, c9, hv9⟩ := O9.shape
      refine ZL.val (r_fieldAddr rfl) rfl ?_
      refine ZL.st R9 rfl rfl (cs' := pC xi.prev xi.vout v6 xi.seq v9) (pC.s35 _ _ _ _ _ _) (by rw [hv9]; rfl) (fun w10 R10 => ?_)
      have mv10 := mv9.trans ((Mv.frame (w0 := w) R10).trans Mv.drop)
      obtain ⟨M10, S10⟩ := (M9.join R10).out
      have I10 := I8.mv (fun _ _ h => InE.mv mv10 h)
      have L10 : ListR BytesE 1 w10 _ v9 xi.wit := (W8.mv (fun _ _ h => BytesE.mv mv10 h)).list S10 rfl (fun _ _ h => h)
      have B10 := S8.mv mv10
      clear M8 I8 W8 S8 M9 mv9 R9 R10 mv10 S10
      have R10 := M10.rebase
      obtain ⟨p6', c6', hv6'⟩ := B10.shape
      refine ZL.nil ?_; refine ZP.then ?_; refine ZC.region ?_; refine ZL.val (r_move rfl) rfl ?_
      refine ZL.val (r_ldW R10 rfl (pC.size _ _ _ _ _)) rfl ?_
      refine ZL.bslice R10 rfl rfl rfl (by simp [Value.cells, B32.len]) (by decide) rfl (fun g1 w11 R11 => ?_)
      refine ZL.append R11 rfl rfl (R11.own.slc (X := No) (fun _ _ h => h)) (pC.one _ _ _ (by rw [hv6']; rfl) (by rw [hv9]; rfl)) (by simp only [maxLen]; omega) (by omega) rfl (fun inv' w12 R12 => ?_)
      refine ZL.val (r_assign rfl) rfl ?_; refine ZL.nil ?_; refine ZP.blockN ?_; refine ZP.then ?_; refine ZC.region ?_; refine ZL.val (r_add rfl rfl (wrap_i64 (by omega) (by omega))) rfl ?_; refine ZL.val (r_move rfl) rfl ?_; refine ZL.nil ?_
      have mv := ((Mv.frame (w0 := w) R12).trans Mv.drop).trans Mv.drop
      have M12 := (M10.join R12).drop.drop
      refine ZP.round (k + 1, inv', rows ++ [(pC xi.prev xi.vout v6 xi.seq v9).toList]) ⟨rfl, rfl, rfl, rfl, rfl, rfl, trivial⟩ ⟨?_, ?_, ?_⟩ ?_
      all_goals simp only [List.flatten_append, List.flatten_cons, List.flatten_nil, List.append_nil]
      · exact M12
      · refine (I10.mv (fun _ _ h => InE.mv mv h)).take hk' (by simp [B32.len]) ?_
        rw [hxx]
        exact ⟨v6, v9, rfl, B10.mv mv, ListR.mv (fun _ _ h => BytesE.mv mv h) L10 mv⟩
      · omega
      · omega
  · have hk' : k = t.ins.length := by omega
    subst hk'
    subst hL0
    rw [List.take_length] at I3
    refine ZC.exit ?_; refine ZP.thenX ?_; refine ZP.thenX ?_; refine ZP.blockE ?_; refine ZP.then ?_; refine ZC.seq ?_; refine ZC.region ?_; refine ZL.val (r_assign rfl) rfl ?_; refine ZL.nil ?_; refine ZP.then ?_; refine ZC.seq ?_; refine ZC.seq ?_; refine ZC.region ?_; refine ZL.val (r_fieldAddr rfl) rfl ?_
    refine ZL.val (r_ld M3 rfl (by rfl)) rfl ?_
    refine ZL.val (r_lenSlice rfl) rfl ?_; refine ZL.val (r_move rfl) rfl ?_; refine ZL.nil ?_; refine ZP.then ?_; refine ZC.block ?_
    generalize hL1 : (Chunk.own inv 60 36 t.ins.length rows.flatten :: [.blk b2 (.cells #[Value.int IntKind.u32 0, Value.slice none 0 0, Value.slice none 0 0, Value.int IntKind.u32 0] 33), .blk b1 (.cells #[u32 t.version, .slice ip t.ins.length ic, .slice op t.outs.length oc, u32 t.lock] 33)] : List Chunk) = L1 at M3 I3
    refine ZC.loop (X := Nat × Value × List (List Value)) (fun x => [(47, .int .i64 x.1), (46, .int .i64 (t.outs.length : Int)), (45, .slice op t.outs.length oc), (9, x.2.1), (3, inv), (1, .pointer (some ⟨b1, 0, none⟩)), (2, .pointer (some ⟨b2, 0, none⟩))])
      (fun x w' => Mem w No (.own x.2.1 64 2 x.1 x.2.2.flatten :: L1) w' ∧ RowsE InE 36 w (.own x.2.1 64 2 x.1 x.2.2.flatten :: L1) w' rows t.ins ∧ RowsE OutE 2 w (.own x.2.1 64 2 x.1 x.2.2.flatten :: L1) w' x.2.2 (t.outs.take x.1) ∧ x.1 ≤ t.outs.length) (fun x => t.outs.length - x.1) (0, .slice none 0 0, []) ⟨rfl, rfl, rfl, rfl, rfl, rfl, rfl, trivial⟩
      ⟨M3.nilOwn _ _, I3.mv (fun _ _ h => InE.mv Mv.nilOwn h), RowsE.nil, by omega⟩ ?_
    clear M3 I3
    rintro ⟨k, outv, orows⟩ w3 ⟨M3, I3, U3, hk⟩
    simp only at M3 I3 U3 hk ⊢
    refine ZC.seq ?_; refine ZC.region ?_; refine ZL.val (r_lss rfl rfl) rfl ?_; refine ZL.nil ?_; refine ZP.then ?_; refine ZC.seq ?_
    refine ZC.condD rfl (fun hd => ?_) (fun hd => ?_)
    · have hk' : k < t.outs.length := by omega
      obtain ⟨g, o, cs, e, fz, r, rfl, hh, hx, hlen, hE, hcell, hsz, hext⟩ := ListR.elem (by decide) ho hk'
      obtain ⟨sv, rfl, hs⟩ := hE
      have hf1 := hf.u _ (List.getElem_mem hk')
      generalize hxx : t.outs[k] = xi at hext hs hf1
      obtain ⟨ps, cs0, rfl⟩ := hs.shape
      refine ZC.skip ?_; refine ZP.then ?_; refine ZC.seq ?_; refine ZC.block ?_; refine ZC.seq ?_; refine ZC.region ?_
      refine ZL.val (r_idxS k rfl rfl rfl hk') rfl ?_
      refine ZL.val (r_loadN rfl (M3.ext.at hh id) hsz hext) rfl ?_
      refine ZL.alloc M3.rebase rfl rfl (fun bx w4 R4 => ?_)
      refine ZL.stW R4 rfl rfl (cs' := #[u64 xi.value, .slice ps xi.script.length cs0]) rfl (by rfl) (by rfl) (by rfl) (fun w5 R5 => ?_)
      have M5 := M3.join R5
      refine ZL.nil ?_; refine ZP.then ?_; refine ZC.seq ?_; refine ZC.region ?_; refine ZL.val (r_fieldAddr rfl) rfl ?_
      refine ZL.val (r_ld R5 rfl (by rfl)) rfl ?_
      refine ZL.call (r_call rfl) rfl (clone_ok _ xi.script w5 Y (hs.mv (Mv.ext M5.ext)) hf1) (fun v6 w6 ⟨E6, O6⟩ => ?_)
      have R6 := R5.addNew E6 O6
      obtain ⟨p6, c6, hv6⟩ := O6.own.shape
      refine ZL.val (r_fieldAddr rfl) rfl ?_
      refine ZL.st R6 rfl rfl (cs' := #[u64 xi.value, v6]) (by rfl) (by rw [hv6]; rfl) (fun w7 R7 => ?_)
      have mv7 := (Mv.frame (w0 := w) R7).trans Mv.drop
      obtain ⟨M7, S7⟩ := (M3.join R7).out
      have R7 := M7.rebase
      refine ZL.nil ?_; refine ZP.then ?_; refine ZC.region ?_; refine ZL.val (r_move rfl) rfl ?_
      refine ZL.val (r_ldW R7 rfl (by rfl)) rfl ?_
      refine ZL.bslice R7 rfl rfl rfl (by simp [Value.cells]) (by decide) rfl (fun g1 w11 R11 => ?_)
      refine ZL.append R11 rfl rfl (R11.own.slc (X := No) (fun _ _ h => h)) (by subst hv6; intro x hx; simp only [List.mem_cons, List.not_mem_nil, or_false] at hx; rcases hx with rfl | rfl <;> rfl) (by simp only [maxLen]; omega) (by omega) rfl (fun outv' w12 R12 => ?_)
      refine ZL.val (r_assign rfl) rfl ?_; refine ZL.nil ?_; refine ZP.blockN ?_; refine ZP.then ?_; refine ZC.region ?_; refine ZL.val (r_add rfl rfl (wrap_i64 (by omega) (by omega))) rfl ?_; refine ZL.val (r_move rfl) rfl ?_; refine ZL.nil ?_
      have mv := ((Mv.frame (w0 := w) R12).trans Mv.drop).trans Mv.drop
      have M12 := (M7.join R12).drop.drop
      refine ZP.round (k + 1, outv', orows ++ [[u64 xi.value, v6]]) ⟨rfl, rfl, rfl, rfl, rfl, rfl, rfl, trivial⟩ ⟨?_, ?_, ?_, ?_⟩ ?_
      all_goals simp only [List.flatten_append, List.flatten_cons, List.flatten_nil, List.append_nil]
      · exact M12
      · exact I3.mv (fun _ _ h => InE.mv (mv7.trans mv) h)
      · refine (U3.mv (fun _ _ h => OutE.mv (mv7.trans mv) h)).take hk' rfl ?_
        rw [hxx]
        exact ⟨v6, rfl, S7.mv mv⟩
      · omega
      · omega
    · have hk' : k = t.outs.length := by omega
      subst hk'
      subst hL1
      rw [List.take_length] at U3
      refine ZC.exit ?_; refine ZP.thenX ?_; refine ZP.thenX ?_; refine ZP.blockE ?_; refine ZP.then ?_; refine ZC.seq ?_; refine ZC.region ?_; refine ZL.val (r_move rfl) rfl ?_
      refine ZL.call (r_call rfl) rfl (clipI_ok inv _ _ _ _ w3 M3.drop.own) (fun v4 w4 h4 => ?_)
      obtain ⟨rfl, O4, hb4⟩ := h4
      have M4 := (M3.swap.reown O4 hb4).swap
      have mv4 := Mv.reown (w0 := w) (w := w3) (A := [.own outv 64 2 t.outs.length orows.flatten]) (e := 60) (s := 36) (n := t.ins.length) (xs := rows.flatten) (B := [.blk b2 (.cells #[Value.int IntKind.u32 0, Value.slice none 0 0, Value.slice none 0 0, Value.int IntKind.u32 0] 33), .blk b1 (.cells #[u32 t.version, .slice ip t.ins.length ic, .slice op t.outs.length oc, u32 t.lock] 33)]) hb4
      simp only [List.cons_append, List.nil_append] at mv4
      refine ZL.val (r_move rfl) rfl ?_
      refine ZL.call (r_call rfl) rfl (clipO_ok outv _ _ _ _ w3 M4.own) (fun v5 w5 h5 => ?_)
      obtain ⟨rfl, O5, hb5⟩ := h5
      have M5 := M4.reown O5 hb5
      have mv5 := Mv.reown (w0 := w) (w := w3) (A := []) (e := 64) (s := 2) (n := t.outs.length) (xs := orows.flatten) (B := [.own v4 60 36 t.ins.length rows.flatten, .blk b2 (.cells #[Value.int IntKind.u32 0, Value.slice none 0 0, Value.slice none 0 0, Value.int IntKind.u32 0] 33), .blk b1 (.cells #[u32 t.version, .slice ip t.ins.length ic, .slice op t.outs.length oc, u32 t.lock] 33)]) hb5
      simp only [List.nil_append] at mv5
      obtain ⟨p4, c4, hv4⟩ := O4.shape
      obtain ⟨p5, c5, hv5⟩ := O5.shape
      have R5 := M5.rebase
      refine ZL.val (r_fieldAddr rfl) rfl ?_
      refine ZL.st R5 rfl rfl (cs' := #[u32 t.version, v4, .slice op t.outs.length oc, u32 t.lock]) (by rfl) (by rw [hv4]; rfl) (fun w6 R6 => ?_)
      refine ZL.val (r_fieldAddr rfl) rfl ?_
      refine ZL.st R6 rfl rfl (cs' := #[u32 t.version, v4, v5, u32 t.lock]) (by rfl) (by rw [hv5]; rfl) (fun w7 R7 => ?_)
      refine ZL.nil ?_; refine ZP.then ?_; refine ZC.seq ?_; refine ZC.region ?_
      refine ZL.val (r_ldW R7 rfl (by rfl)) rfl ?_
      refine ZL.stW R7 rfl rfl (cs' := #[u32 t.version, v4, v5, u32 t.lock]) rfl (by rfl) (by rfl) (by rw [hv4, hv5]; rfl) (fun w8 R8 => ?_)
      have M8 := M5.join R8
      have mv8 := (mv4.trans (mv5.trans (Mv.frame (w0 := w) R8))).trans Mv.done
      refine ZL.nil ?_; refine ZP.then ?_; refine ZC.ret ?_
      refine ZP.retC rfl rfl (M8.get inferInstance) rfl ⟨M8.ext, _, rfl, v4, v5, rfl, ?_, ?_⟩
      · exact ⟨rows, I3.len, I3.size, ((M8.sub [1, 2, 3] rfl).out).2.mv Mv.done, fun i r a hr ha => InE.mv mv8 (I3.each i r a hr ha)⟩
      · exact ⟨orows, U3.len, U3.size, (M8.out).2.mv Mv.done, fun i r a hr ha => OutE.mv mv8 (U3.each i r a hr ha)⟩
end Go.Proofs.YtibobcjfjnoclaaGreatDoor.Z
end
section
/- The same judgements where a loop over a function's values is on its way: over wpIn, in the wide fence or in a round of it. -/
set_option linter.unusedVariables false
set_option linter.unusedSimpArgs false
set_option linter.unusedSectionVars false
namespace Go.Proofs.YtibobcjfjnoclaaGreatDoor.Z
open Go Go.RowKit

/-- The wide fence, or a round in it. -/
class WF (F : Fence) : Prop where
  h : F = Fence.wide ∨ ∃ l, F = Fence.wide.inRound l
instance : WF Fence.wide := ⟨.inl rfl⟩
instance (l : Nat) : WF (Fence.wide.inRound l) := ⟨.inr ⟨l, rfl⟩⟩
theorem WF.fn {F : Fence} [h : WF F] : ∀ f, F.fn f := by
  rcases h.h with rfl | ⟨l, rfl⟩
  · exact fun _ => trivial
  · exact fun _ => trivial
theorem WF.depth {F : Fence} [h : WF F] : F.depth = none := by
  rcases h.h with rfl | ⟨l, rfl⟩ <;> rfl
theorem WF.calls {F : Fence} [h : WF F] {n : Nat} {P : Program} {f : FuncId} {args : Array Value} {w : World} {R : Ending → World → Prop} (hc : Calls P f args w R) : CallsIn F n P f args w R := by
  rcases h.h with rfl | ⟨l, rfl⟩
  · exact callsIn_wide.2 hc
  · exact CallsIn.inRound l (callsIn_wide.2 hc)

structure YL (F : Fence) (m : Nat) (P : Program) (n : Nat) (ops : Array Oper) (Q : Post) (l : List Oper) (σ : Env) (w : World) : Prop where
  h : ∀ a, FR n σ a → wpListIn F m P ops Q l a w
structure YC (F : Fence) (m : Nat) (P : Program) (n : Nat) (Q : Post) (c : Code) (σ : Env) (w : World) : Prop where
  h : ∀ a, FR n σ a → c.wpIn F m P Q a w

def noDefer : Op → Bool
  | .defer _ => false
  | _ => true
theorem noDefer_spec {o : Oper} (h : noDefer o.op = true) : ∀ c, o.op ≠ .defer c := by
  intro c hc; rw [hc] at h; cases h

section
variable {F : Fence} [WF F] {m : Nat} {P : Program} {n : Nat} {ops : Array Oper} {Q : Post} {rest : List Oper} {σ : Env} {w : World}
theorem YL.nil (h : ZP n Q .normal σ w) : YL F m P n ops Q [] σ w := ⟨fun a ha => wpListIn_nil (h.h a ha)⟩
theorem YL.vw {d : Nat} {op : Op} {ty : TypeId} {pos : String} {after : Array Edge} {v : Value} {w' : World} (hv : VW P σ op v w w') (hd : Nat.blt d n = true)
    (h : YL F m P n ops Q rest ((d, v) :: σ) w') (hn : noDefer op = true := by rfl) : YL F m P n ops Q (⟨some d, op, ty, pos, after, none⟩ :: rest) σ w := by
  refine ⟨fun a ha => wpListIn_plain rfl fun K hK => ?_⟩
  unfold Oper.wpIn
  refine ⟨fun f _ => WF.fn f, ?_⟩
  rw [Oper.semAt_plain F _ _ (noDefer_spec hn), hv.h a.eval ha.ag _ rfl]
  exact hK _ _ (h.h _ (ha.put hd))
theorem YL.val {d : Nat} {op : Op} {ty : TypeId} {pos : String} {after : Array Edge} {v : Value} (hv : V P σ op v w) (hd : Nat.blt d n = true)
    (h : YL F m P n ops Q rest ((d, v) :: σ) w) (hn : noDefer op = true := by rfl) : YL F m P n ops Q (⟨some d, op, ty, pos, after, none⟩ :: rest) σ w := YL.vw hv.vw hd h hn
theorem YL.unit {op : Op} {ty : TypeId} {pos : String} {after : Array Edge} {w' : World} (hv : UW P σ op w w')
    (h : YL F m P n ops Q rest σ w') (hn : noDefer op = true := by rfl) : YL F m P n ops Q (⟨none, op, ty, pos, after, none⟩ :: rest) σ w := by
  refine ⟨fun a ha => wpListIn_plain rfl fun K hK => ?_⟩
  unfold Oper.wpIn
  refine ⟨fun f _ => WF.fn f, ?_⟩
  rw [Oper.semAt_plain F _ _ (noDefer_spec hn), hv.h a.eval ha.ag _ rfl]
  exact hK _ _ (h.h _ ha)
theorem YL.call {d : Nat} {op : Op} {ty : TypeId} {pos : String} {after : Array Edge} {f : FuncId} {args : Array Value} {R : Value → World → Prop}
    (hv : EN P σ op f args w) (hd : Nat.blt d n = true) (hc : Ret P f args w R)
    (h : ∀ v w', R v w' → YL F m P n ops Q rest ((d, v) :: σ) w') (hn : noDefer op = true := by rfl) : YL F m P n ops Q (⟨some d, op, ty, pos, after, none⟩ :: rest) σ w := by
  refine ⟨fun a ha => wpListIn_plain rfl fun K hK => ?_⟩
  unfold Oper.wpIn
  refine ⟨fun f _ => WF.fn f, ?_⟩
  rw [Oper.semAt_plain F _ _ (noDefer_spec hn), hv.h a.eval ha.ag _ rfl]
  refine ⟨(fun hd => by rw [WF.depth] at hd; cases hd), WF.calls (Calls.mono hc.h ?_)⟩
  rintro e w' ⟨v, rfl, hr⟩
  exact hK _ _ ((h _ _ hr).h _ (ha.put hd))
/-- A round of the loop is run. -/
theorem YL.yield {d : Nat} {op : Op} {ty : TypeId} {pos : String} {after : Array Edge} {l : Nat} {args : Array Value} {R : Ending → World → Prop}
    (hy : YieldAt F (m - 1) P l args w R) (hd : Nat.blt d n = true) (hop : ∀ ρ, Ag ρ σ → ∀ o : Oper, o.op = op → (execOp ρ o).run P w = (Instr.yield l args).run P w)
    (h : ∀ e w', R e w' → ∃ v, e = .returned v ∧ YL F m P n ops Q rest ((d, v) :: σ) w') (hn : noDefer op = true := by rfl) : YL F m P n ops Q (⟨some d, op, ty, pos, after, none⟩ :: rest) σ w := by
  refine ⟨fun a ha => wpListIn_plain rfl fun K hK => ?_⟩
  obtain ⟨fn, tmps, assign, body, hr, hR⟩ := hy
  unfold Oper.wpIn
  refine ⟨fun f _ => WF.fn f, ?_⟩
  rw [Oper.semAt_plain F _ _ (noDefer_spec hn), hop a.eval ha.ag _ rfl, hr]
  refine ⟨(fun hd => by rw [WF.depth] at hd; cases hd), hR.mono ?_⟩
  intro e w' hRe
  obtain ⟨v, rfl, hy⟩ := h e w' hRe
  exact hK _ _ (hy.h _ (ha.put hd))

theorem YC.region {id : Nat} {l : List Oper} (h : YL F m P n l.toArray Q l σ w) : YC F m P n Q (.region id l.toArray false) σ w := ⟨fun a ha => wpIn_region_lit (h.h a ha)⟩
theorem YC.seq {x y : Code} (h : YC F m P n (Exit.then (y.wpIn F m P Q) Q) x σ w) : YC F m P n Q (.seq x y) σ w := ⟨fun a ha => wpIn_seq (h.h a ha)⟩
theorem YC.skip (h : ZP n Q .normal σ w) : YC F m P n Q .skip σ w := ⟨fun a ha => wpIn_skip (h.h a ha)⟩
theorem YC.ret (h : ZP n Q .ret σ w) : YC F m P n Q .ret σ w := ⟨fun a ha => wpIn_ret (h.h a ha)⟩
theorem YC.exit {id : Nat} (h : ZP n Q (.exit id) σ w) : YC F m P n Q (.exit id) σ w := ⟨fun a ha => wpIn_exit (h.h a ha)⟩
theorem YC.block {id : Nat} {c : Code} (h : YC F m P n (Exit.inBlock id Q) c σ w) : YC F m P n Q (.block id c) σ w := ⟨fun a ha => wpIn_block (h.h a ha)⟩
theorem YC.cond {c : Operand} {x y : Code} {t : Bool} (hc : ev σ c = some (.bool t)) (ht : t = true → YC F m P n Q x σ w) (hf : t = false → YC F m P n Q y σ w) :
    YC F m P n Q (.cond c x y) σ w := ⟨fun a ha => wpIn_cond_split (ha.ag c _ hc) (fun h => (ht h).h a ha) (fun h => (hf h).h a ha)⟩
theorem YP.then {y : Code} (h : YC F m P n Q y σ w) : ZP n (Exit.then (y.wpIn F m P Q) Q) .normal σ w := ⟨h.h⟩
end
end Go.Proofs.YtibobcjfjnoclaaGreatDoor.Z
end
section
/- A range over a map: each entry once, in some order. -/
set_option linter.unusedVariables false
set_option linter.unusedSimpArgs false
set_option linter.unusedSectionVars false
namespace Go.Proofs.YtibobcjfjnoclaaGreatDoor.Z
open Go Go.RowKit

section
variable {P : Program} {σ : Env} {w : World} {K U : Type} [DecidableEq K] {ke : K → Value} {ve : U → Value} {m : List (K × U)} {es : Array MapEntry} {clk : Nat}

theorem vw_range {t kt et : TypeId} {x : Operand} {b : Nat} [TU P t (.map kt et)] (hx : ev σ x = some (.map (some b))) (hm : w.heap[b]? = some (.map es clk)) :
    VW P σ (.range t x) (.pointer (some ⟨w.heap.size, 0, none⟩)) w (w.alloc (.mapIter (some b) clk #[] clk)) := by
  refine ⟨fun ρ ha o ho => ?_⟩
  simp [execOp, ho, ha _ _ hx, Instr.range, run_under' (t := t), run_getObj_map' hm, newObj, Sem.run]

/-- What has come, and what is left. -/
structure Came (es : Array MapEntry) (clk : Nat) (pe : List MapEntry) : Prop where
  sub : ∀ e ∈ pe, e ∈ es.toList
  nod : (pe.map (·.born)).Nodup
  lt : ∀ e ∈ es.toList, e.born < clk
  born : (es.toList.map (·.born)).Nodup

theorem vw_next {x : Operand} {b r : Nat} {pe : List MapEntry} (hC : Came es clk pe) (hx : ev σ x = some (.pointer (some ⟨r, 0, none⟩))) (hr : w.heap[r]? = some (.mapIter (some b) clk (pe.map (·.born)).toArray clk)) (hm : w.heap[b]? = some (.map es clk)) :
    (VW P σ (.next x false) (.tuple #[.bool false]) w w ∧ ∀ e ∈ es.toList, e.born ∈ pe.map (·.born)) ∨
    ∃ e w', e ∈ es.toList ∧ e.born ∉ pe.map (·.born) ∧ VW P σ (.next x false) (.tuple #[.bool true, e.key, e.val]) w w' ∧ w.grownBy w' (some r) ∧ w'.heap.size = w.heap.size ∧ w'.heap[r]? = some (.mapIter (some b) clk ((pe ++ [e]).map (·.born)).toArray clk) := by
  have hg : (getObj r).run P w = .ok (.mapIter (some b) clk (pe.map (·.born)).toArray clk) w := by simp [getObj, Sem.run, hr]
  have hlt : ∀ i (h : i < es.size), es[i].born < clk := fun i h => hC.lt _ (by simp)
  have h1 : (!(pe.map (·.born)).toArray.isEmpty && !es.isEmpty && es.all (fun e => decide (e.born ≥ clk))) = false := by
    cases hz : es.isEmpty with
    | true => simp
    | false =>
      have h0 : 0 < es.size := by
        rcases Nat.eq_zero_or_pos es.size with h | h
        · simp [Array.isEmpty, h] at hz
        · exact h
      have : es.all (fun e => decide (e.born ≥ clk)) = false := by
        rw [Array.all_eq_false]
        exact ⟨0, h0, by have := hlt 0 h0; simp; omega⟩
      rw [this]; simp
  obtain ⟨left, hleft⟩ : ∃ left, es.filter (fun e => !(pe.map (·.born)).toArray.contains e.born) = left := ⟨_, rfl⟩
  have hold : left.filter (fun e => decide (e.born < clk)) = left := by
    rw [Array.filter_eq_self]
    intro e he
    rw [← hleft] at he
    have := (Array.mem_filter.1 he).1
    simpa using hC.lt e (by simpa using this)
  have hnew : left.filter (fun e => decide (e.born ≥ clk)) = #[] := by
    rw [Array.filter_eq_empty_iff]
    intro e he
    rw [← hleft] at he
    have := (Array.mem_filter.1 he).1
    have := hC.lt e (by simpa using this)
    simp; omega
  have hall : ∀ e ∈ left, e ∈ es ∧ (!(pe.map (·.born)).toArray.contains e.born) = true := fun e he => by
    rw [← hleft] at he
    exact Array.mem_filter.1 he
  have hrlt := (Array.getElem?_eq_some_iff.1 hr).1
  by_cases hz : left = #[]
  · refine .inl ⟨⟨fun ρ ha o ho => ?_⟩, fun e he => ?_⟩
    · simp only [execOp, ho, ha _ _ hx, Instr.next, Sem.run_bind, hg, run_getObj_map' hm, Result.andThen_ok, h1, hleft, hold, hnew]
      subst hz
      simp [Question.forced]
    · have : e ∉ left := by rw [hz]; simp
      rw [← hleft] at this
      have h2 : ¬ (e ∈ es ∧ (!(pe.map (·.born)).toArray.contains e.born) = true) := fun h => this (Array.mem_filter.2 h)
      have h3 : e ∈ es := by simpa using he
      by_cases h4 : e.born ∈ pe.map (·.born)
      · exact h4
      · exact absurd ⟨h3, by simpa using h4⟩ h2
  · have hsz : 0 < left.size := by
      rcases Nat.eq_zero_or_pos left.size with h | h
      · exact absurd (Array.eq_empty_of_size_eq_zero h) hz
      · exact h
    have hne : left.isEmpty = false := by simp [Array.isEmpty]; omega
    have fin : ∀ (i : Nat) (w1 : World) (hi : i < left.size), w1.heap = w.heap → w1.os = w.os → w1.tape = w.tape → w1.output = w.output →
        ((choose (.mapNext left.size)).run P w = .ok i w1) → ∃ e w', e ∈ es.toList ∧ e.born ∉ pe.map (·.born) ∧ VW P σ (.next x false) (.tuple #[.bool true, e.key, e.val]) w w' ∧ w.grownBy w' (some r) ∧ w'.heap.size = w.heap.size ∧ w'.heap[r]? = some (.mapIter (some b) clk ((pe ++ [e]).map (·.born)).toArray clk) := by
      intro i w1 hi hh h2 h3 h4 hch
      have he : left[i] ∈ left := by simp
      obtain ⟨hm1, hm2⟩ := hall _ he
      refine ⟨left[i], World.putObj w1 r (.mapIter (some b) clk ((pe.map (·.born)).toArray.push left[i].born) clk), by simpa using hm1, by simpa using hm2, ⟨fun ρ ha o ho => ?_⟩, ⟨h2, h3, h4, by simp [World.putObj, hh], fun k hk hkr => ?_⟩, by simp [World.putObj, hh], ?_⟩
      · have hso : (setObj r (.mapIter (some b) clk ((pe.map (·.born)).toArray.push left[i].born) clk)).run P w1 = .ok () (World.putObj w1 r (.mapIter (some b) clk ((pe.map (·.born)).toArray.push left[i].born) clk)) := by
          simp [setObj, Sem.run, World.putObj, hh, hr]
        simp only [execOp, ho, ha _ _ hx, Instr.next, Sem.run_bind, hg, run_getObj_map' hm, Result.andThen_ok, h1, hleft, hold, hnew, hne]
        simp only [Bool.false_eq_true, if_false, Array.append_empty, Array.empty_append, Array.size_map, Sem.run_bind, Sem.run_pure, Result.andThen_ok, hch, Array.getElem?_map, Array.getElem?_eq_getElem hi, Option.map_some, hso]
      · have : k ≠ r := fun e => hkr (by rw [e])
        simp [World.putObj, hh, Array.getElem?_setIfInBounds_ne (Ne.symm this)]
      · simp [World.putObj, hh, hrlt]
    by_cases hf : left.size ≤ 1
    · refine .inr (fin 0 w hsz rfl rfl rfl rfl ?_)
      simp [Question.forced, hf]
    · refine .inr (fin ((Question.mapNext left.size).cut (w.tape w.drawn (.mapNext left.size))) w.drew (Nat.mod_lt _ hsz) rfl rfl rfl rfl ?_)
      simp [Question.forced, hf]
theorem r_entry {x : Operand} {b r : Nat} {pe : List MapEntry} {e : MapEntry} (hC : Came es clk (pe ++ [e])) (hx : ev σ x = some (.pointer (some ⟨r, 0, none⟩))) (hr : w.heap[r]? = some (.mapIter (some b) clk ((pe ++ [e]).map (·.born)).toArray clk)) (hm : w.heap[b]? = some (.map es clk)) :
    V P σ (.entry x) (.tuple #[e.key, e.val]) w := by
  refine ⟨fun ρ ha o ho => ?_⟩
  have hf : es.find? (fun x => x.born == e.born) = some e := by
    have he := hC.sub e (by simp)
    rw [← Array.find?_toList]
    have : ∀ (l : List MapEntry), (l.map (·.born)).Nodup → e ∈ l → l.find? (fun x => x.born == e.born) = some e := by
      intro l
      induction l with
      | nil => intro _ h; cases h
      | cons a t ih =>
        intro hn hm
        rw [List.find?_cons]
        by_cases hb : a.born = e.born
        · rcases List.mem_cons.1 hm with rfl | hm
          · simp
          · have := (List.nodup_cons.1 hn).1
            exact absurd (List.mem_map_of_mem (f := (·.born)) hm) (by rw [← hb]; exact this)
        · have : (a.born == e.born) = false := by simpa using hb
          rw [this]
          rcases List.mem_cons.1 hm with rfl | hm
          · exact absurd rfl hb
          · exact ih (List.nodup_cons.1 hn).2 hm
    exact this _ hC.born he
  have hg : (getObj r).run P w = .ok (.mapIter (some b) clk ((pe ++ [e]).map (·.born)).toArray clk) w := by simp [getObj, Sem.run, hr]
  have hback : ((pe ++ [e]).map (·.born)).toArray.back? = some e.born := by simp
  simp [execOp, ho, ha _ _ hx, Instr.entry, hg, run_getObj_map' hm, hf]
end
end Go.Proofs.YtibobcjfjnoclaaGreatDoor.Z
end
section
/- maps.Keys: each key once, in some order. -/
set_option linter.unusedVariables false
set_option linter.unusedSimpArgs false
set_option linter.unusedSectionVars false
set_option maxRecDepth 100000
set_option maxHeartbeats 4000000
namespace Go.Proofs.YtibobcjfjnoclaaGreatDoor.Z
open Go Go.RowKit

section
variable {F : Fence} [WF F] {m : Nat} {P : Program} {n : Nat} {ops : Array Oper} {Q : Post} {rest : List Oper} {σ : Env} {w : World}
theorem YC.loop {c : Code} {X : Type} (vals : X → Env) (inv : X → World → Prop) (μ : X → Nat) (x0 : X) (h0 : Sub (vals x0) σ) (hi : inv x0 w)
    (hr : ∀ x w, inv x w → YC F m P n (Exit.then (Head n vals inv μ (μ x)) Q) c (vals x) w) : YC F m P n Q (.loop c) σ w := by
  refine ⟨fun a ha => ?_⟩
  intro b k cs hro hb hroom
  have key : ∀ j a w, (∃ x, FR n (vals x) a ∧ inv x w ∧ μ x < j) →
      ∃ e a' w', Q e a' w' ∧ ArrivesIn (Machine.fenced P F) P (lone (b.atR a (.code c :: .inLoop c :: k)) cs w) b k cs e a' w' := by
    intro j
    induction j using Nat.strongRecOn with
    | _ j ih =>
      rintro a w ⟨x, hx, hI, hlt⟩
      obtain ⟨e, a₁, w₁, hq, harr⟩ := (hr x w hI).h a hx b (.inLoop c :: k) cs hro hb hroom
      cases e with
      | normal =>
        obtain ⟨e₂, a₂, w₂, hq₂, harr₂⟩ := ih (μ x) hlt a₁ w₁ hq
        exact ⟨e₂, a₂, w₂, hq₂, .of_steps (StepsIn.trans harr (.one (fenced_calm hb hroom rfl) stepR_inLoop)) harr₂⟩
      | exit id => exact ⟨_, a₁, w₁, hq, .pass (x := .inLoop c) rfl (fun _ _ => .inl (by simp)) harr⟩
      | goto l => exact ⟨_, a₁, w₁, hq, .pass (x := .inLoop c) rfl (fun _ _ => .inl (by simp)) harr⟩
      | ret => exact ⟨_, a₁, w₁, hq, .pass (x := .inLoop c) rfl (fun _ _ => .inl (by simp)) harr⟩
      | panic ch => exact ⟨_, a₁, w₁, hq, .pass (x := .inLoop c) rfl (fun _ _ => .inl (by simp)) harr⟩
      | outgrown => exact ⟨_, a₁, w₁, hq, .pass (x := .inLoop c) rfl (fun _ _ => .inl (by simp)) harr⟩
  obtain ⟨e, a', w', hq, harr⟩ := key _ a w ⟨x0, ha.sub h0, hi, Nat.lt_succ_self _⟩
  exact ⟨e, a', w', hq, .of_steps (.one (fenced_calm hb hroom rfl) stepR_loop) harr⟩

theorem YC.enter {f : FuncId} {fn : Func} {c : Code} {args : Array Value} {R : Ending → World → Prop} (hf : P.funcs[f]? = some fn) (hb : fn.body = some c)
    (hn : fn.ntmps = n) (hsz : Nat.ble args.size n = true) (σ0 : Env) (hs : Sub σ0 (envOf 0 args.toList)) (h : YC Fence.wide m P n (bodyPost P fn R) c σ0 w) : CallsIn Fence.wide m P f args w R := by
  refine callsIn_of_wp hf hb trivial ?_
  have hsz' : args.size ≤ n := Nat.le_of_ble_eq_true hsz
  refine h.h _ ⟨by simp [hn]; omega, rfl, ?_⟩
  intro i v hi
  obtain ⟨_, h2⟩ := lk_envOf _ _ _ _ (hs.lk i v hi)
  simp only [Nat.sub_zero, Array.getElem?_toList] at h2
  have hlt : i < args.size := by
    rcases Nat.lt_or_ge i args.size with h | h
    · exact h
    · simp [Array.getElem?_eq_none h] at h2
  rw [Array.getElem?_append_left hlt]
  exact h2
theorem ZP.body0 {fn : Func} {R : Ending → World → Prop} {e : Exit} (hr : fn.results = #[]) (he : e = .ret ∨ e = .normal) (hR : R (.returned (.tuple #[])) w) : ZP n (bodyPost P fn R) e σ w :=
  ⟨fun a ha => by rcases he with rfl | rfl <;> exact ⟨ha.defers, _, results_none hr _ _ _, hR⟩⟩
end

theorem Came.perm {es : Array MapEntry} {clk : Nat} {pe : List MapEntry} (h : Came es clk pe) (hall : ∀ e ∈ es.toList, e.born ∈ pe.map (·.born)) : pe.Perm es.toList := by
  have inj : ∀ (l : List MapEntry), (l.map (·.born)).Nodup → ∀ a ∈ l, ∀ b ∈ l, a.born = b.born → a = b := by
    intro l
    induction l with
    | nil => intro _ a ha; cases ha
    | cons c t ih =>
      intro hn a ha b hb hab
      obtain ⟨h1, h2⟩ := List.nodup_cons.1 hn
      rcases List.mem_cons.1 ha with ha' | ha' <;> rcases List.mem_cons.1 hb with hb' | hb'
      · rw [ha', hb']
      · exact absurd (show c.born ∈ t.map (·.born) by rw [← ha', hab]; exact List.mem_map_of_mem (f := (·.born)) hb') h1
      · exact absurd (show c.born ∈ t.map (·.born) by rw [← hb', ← hab]; exact List.mem_map_of_mem (f := (·.born)) ha') h1
      · exact ih h2 a ha' b hb' hab
  have nodup : ∀ (l : List MapEntry), (l.map (·.born)).Nodup → l.Nodup := fun l h => (List.pairwise_map.1 h).imp fun hne e => hne (by rw [e])
  rw [List.perm_ext_iff_of_nodup (nodup _ h.nod) (nodup _ h.born)]
  intro e
  refine ⟨h.sub e, fun he => ?_⟩
  obtain ⟨e', he', hb⟩ := List.mem_map.1 (hall e he)
  rw [← inj _ h.born e' (h.sub e' he') e he hb]
  exact he'

section
variable {F : Fence} [WF F] {m : Nat} {P : Program} {n : Nat} {ops : Array Oper} {Q : Post} {rest : List Oper} {σ : Env} {w : World}
theorem run_yieldv {x : Operand} {args : Array Operand} {ats : Array TypeId} {l : Nat} {vs : List Value} (hx : ev σ x = some (.func (.yield l) #[] #[])) (h : evs σ args.toList = some vs) :
    ∀ ρ, Ag ρ σ → ∀ o : Oper, o.op = .call ⟨.value x, args, ats⟩ → (execOp ρ o).run P w = (Instr.yield l vs.toArray).run P w := by
  intro ρ ha o ho
  have e1 : args.map ρ = vs.toArray := by apply Array.ext'; simpa using evs_map h ha
  simp [execOp, ho, resolve, e1, ha _ _ hx, Deferred.ofValue, invoke]
theorem splice_all {cs vs : Array Value} (h : vs.size = cs.size) : splice cs 0 vs = vs := by
  unfold splice; apply Array.ext'
  simp; omega
end

theorem nodup_len {α : Type} : ∀ {l1 l2 : List α}, l1.Nodup → (∀ e ∈ l1, e ∈ l2) → l1.length ≤ l2.length
  | [], l2, _, _ => by simp
  | a :: t, l2, hn, hs => by
    obtain ⟨s, u, hsu⟩ := List.append_of_mem (hs a (by simp))
    subst hsu
    obtain ⟨h1, h2⟩ := List.nodup_cons.1 hn
    have := nodup_len (l1 := t) (l2 := s ++ u) h2 fun e he => by
      have := hs e (List.mem_cons_of_mem _ he)
      simp only [List.mem_append, List.mem_cons] at this ⊢
      rcases this with h | rfl | h
      · exact .inl h
      · exact absurd he h1
      · exact .inr h
    simp only [List.length_append, List.length_cons] at this ⊢
    omega
theorem B32.v_inj {p q : B32} (h : p.v = q.v) : p = q := by
  have kk : KeyT P 27 B32.v := inferInstance
  have h1 := kk.eq p q default
  have h2 := kk.eq p p default
  rw [← h, h2] at h1
  simpa using h1
theorem perm_of_v {l l' : List B32} (h : (l.map B32.v).Perm (l'.map B32.v)) : l.Perm l' := by
  classical
  let g : Value → B32 := fun v => if hv : ∃ p : B32, v = p.v then hv.choose else ⟨List.replicate 32 0, by simp⟩
  have hg : ∀ p : B32, g p.v = p := fun p => by
    have hv : ∃ q : B32, p.v = q.v := ⟨p, rfl⟩
    simp only [g, dif_pos hv]
    exact (B32.v_inj hv.choose_spec).symm
  have h1 := h.map g
  simpa [Function.comp_def, hg] using h1

theorem grown_box {w : World} {t : TypeId} {cs cs' : Array Value} : w.grownBy ((w.alloc (.cells cs t)).setRow w.heap.size cs') none :=
  ⟨rfl, rfl, rfl, by simp, fun k hk _ => by
    rw [setRow_other _ _ _ _ (by omega)]
    exact Below.heap_alloc w _ k hk⟩

abbrev KF : FuncId := 64

theorem keys1_stops (q : Nat) (Bm b : Nat) {U : Type} {ve : U → Value} (m : List (B32 × U)) (es : Array MapEntry) (clk : Nat) (fz : Nat × Nat) (w : World) (hBm : w.heap[Bm]? = some (.cells #[.map (some b)] 53 fz)) (hm : w.heap[b]? = some (.map es clk)) (hO : MObj B32.v ve m es clk) :
    SeqStopsK Fence.wide q P KF #[.pointer (some ⟨Bm, 0, none⟩)] (fun p : B32 => #[p.v]) KeepsWalks (fun xs => xs.Perm (m.map (·.1))) (fun _ => True) m.length w := by
  intro l J Jx W hW hJ hJx hY h0
  have hBmW := (hW.block Bm (Array.getElem?_eq_some_iff.1 hBm).1).trans hBm
  have hmW := (hW.block b (Array.getElem?_eq_some_iff.1 hm).1).trans hm
  have hsz := hO.size
  show CallsIn Fence.wide q P KF #[.func (.yield l) #[] #[], .pointer (some ⟨Bm, 0, none⟩)] W _
  refine YC.enter Tryz.func64 rfl Tryz.ntmps64 rfl [(0, .func (.yield l) #[] #[]), (1, .pointer (some ⟨Bm, 0, none⟩))] ⟨rfl, rfl, trivial⟩ ?_
  refine YC.seq ?_; refine YC.region ?_
  refine YL.val (r_load1 rfl hBmW rfl) rfl ?_
  refine YL.vw (vw_range rfl hmW) rfl ?_
  refine YL.nil ?_; refine YP.then ?_; refine YC.block ?_
  refine YC.loop (X := List MapEntry × List B32) (fun x => [(5, .pointer (some ⟨W.heap.size, 0, none⟩)), (0, .func (.yield l) #[] #[]), (1, .pointer (some ⟨Bm, 0, none⟩))])
    (fun x wr => Came es clk x.1 ∧ x.2.map B32.v = x.1.map (·.key) ∧ J x.2 wr ∧ wr.heap[W.heap.size]? = some (.mapIter (some b) clk (x.1.map (·.born)).toArray clk) ∧ wr.heap[b]? = some (.map es clk)) (fun x => es.size - x.1.length) ([], []) ⟨rfl, rfl, rfl, trivial⟩
    ⟨⟨by simp, by simp, hO.lt, hO.born⟩, rfl, hJ [] W _ none h0 (World.grownBy_alloc W _ none) (fun r e => by cases e), heap_alloc_new W _, (Below.heap_alloc W _ b (Array.getElem?_eq_some_iff.1 hmW).1).trans hmW⟩ ?_
  rintro ⟨pe, pre⟩ wr ⟨hC, hpre, hJr, hr, hmr⟩
  simp only at hC hpre hJr hr hmr ⊢
  have hlen : pre.length = pe.length := by simpa using congrArg List.length hpre
  refine YC.seq ?_; refine YC.region ?_
  rcases vw_next (P := P) (σ := [(5, .pointer (some ⟨W.heap.size, 0, none⟩)), (0, .func (.yield l) #[] #[]), (1, .pointer (some ⟨Bm, 0, none⟩))]) (x := .tmp 5) hC rfl hr hmr with ⟨hv, hall⟩ | ⟨e, w2, he, hne, hv, hg2, hs2, hr2⟩
  · refine YL.vw hv rfl ?_
    refine YL.val (r_extract rfl rfl) rfl ?_; refine YL.nil ?_; refine YP.then ?_; refine YC.seq ?_
    refine YC.cond rfl (fun hh => by cases hh) (fun _ => ?_)
    refine YC.exit ?_; refine ZP.thenX ?_; refine ZP.thenX ?_; refine ZP.blockE ?_
    refine ZP.body0 rfl (.inr rfl) ⟨⟨_, rfl⟩, .inl ⟨pre, ?_, hJr⟩⟩
    have hp := hC.perm hall
    have h1 : (pre.map B32.v).Perm (es.toList.map (·.key)) := by rw [hpre]; exact hp.map _
    have h2 : es.toList.map (·.key) = (m.map (·.1)).map B32.v := by
      have := congrArg (List.map Prod.fst) hO.kv
      simpa [Function.comp_def] using this
    rw [h2] at h1
    exact perm_of_v h1
  · refine YL.vw hv rfl ?_
    refine YL.val (r_extract rfl rfl) rfl ?_; refine YL.nil ?_; refine YP.then ?_; refine YC.seq ?_
    refine YC.cond rfl (fun _ => ?_) (fun hh => by cases hh)
    refine YC.skip ?_; refine YP.then ?_; refine YC.block ?_; refine YC.seq ?_; refine YC.region ?_
    have hC2 : Came es clk (pe ++ [e]) := ⟨fun x hx => by rcases List.mem_append.1 hx with h | h; exact hC.sub x h; simp at h; rw [h]; exact he, by
      rw [List.map_append, List.nodup_append]
      exact ⟨hC.nod, by simp, fun a ha c hc hac => by simp at hc; subst hc; subst hac; exact hne ha⟩, hC.lt, hC.born⟩
    have hm2 : w2.heap[b]? = some (.map es clk) := by
      refine (hg2.block b (Array.getElem?_eq_some_iff.1 hmr).1 (fun hh => ?_)).trans hmr
      simp only [Option.some.injEq] at hh
      rw [hh, hr] at hmr
      cases hmr
    have hJ2 : J pre w2 := hJ pre wr w2 (some W.heap.size) hJr hg2 (fun r hh => by cases hh; exact ⟨Nat.le_refl _, _, hr, rfl⟩)
    obtain ⟨p, hp⟩ : ∃ p : B32, e.key = p.v := by
      have h1 : (e.key, e.val) ∈ es.toList.map (fun e => (e.key, e.val)) := List.mem_map_of_mem (f := fun e => (e.key, e.val)) he
      rw [hO.kv] at h1
      obtain ⟨pc, _, h2⟩ := List.mem_map.1 h1
      exact ⟨pc.1, (Prod.mk.inj h2).1.symm⟩
    refine YL.val (v := .tuple #[p.v, e.val]) (by rw [← hp]; exact r_entry hC2 rfl hr2 hm2) rfl ?_
    refine YL.val (v := p.v) (r_extract rfl rfl) rfl ?_
    refine YL.vw vw_alloc rfl ?_
    have hnew := heap_alloc_new w2 (.cells (Value.agg (List.replicate 32 (Value.int .u8 0)).toArray).cells 27)
    refine YL.unit (uw_store (v := p.v) rfl rfl hnew (B32.size p) (by decide) (B32.one p)) ?_
    rw [splice_all (by rw [show (p.v).cells = p.cells.toArray from rfl, (B32.size p)]; rfl)]
    have hg3 := grown_box (w := w2) (t := 27) (cs := (Value.agg (List.replicate 32 (Value.int .u8 0)).toArray).cells) (cs' := p.v.cells)
    have hb3 := setRow_heap _ _ _ p.v.cells _ _ hnew
    generalize hw3 : (w2.alloc (.cells (Value.agg (List.replicate 32 (Value.int .u8 0)).toArray).cells 27)).setRow w2.heap.size p.v.cells = w3 at hg3 hb3
    have hJ3 : J pre w3 := hJ pre w2 w3 none hJ2 hg3 (fun r hh => by cases hh)
    have hr3 := (hg3.block _ (Array.getElem?_eq_some_iff.1 hr2).1 (by simp)).trans hr2
    have hm3 := (hg3.block _ (Array.getElem?_eq_some_iff.1 hm2).1 (by simp)).trans hm2
    refine YL.nil ?_; refine YP.then ?_; refine YC.seq ?_; refine YC.region ?_; refine YL.val (r_move rfl) rfl ?_
    refine YL.val (r_loadW rfl hb3 (B32.size p)) rfl ?_
    have hlt : pre.length < m.length := by
      have h1 : (pe ++ [e]).length ≤ es.toList.length := by
        exact nodup_len ((List.pairwise_map.1 hC2.nod).imp fun hne e => hne (by rw [e])) hC2.sub
      simp at h1
      omega
    refine YL.yield (hY pre p w3 hJ3 hlt) rfl (run_yieldv rfl rfl) (fun e4 w4 h4 => ?_)
    rcases h4 with ⟨rfl, hJ4, hk4⟩ | ⟨rfl, hJx4⟩
    · refine ⟨_, rfl, ?_⟩
      refine YL.val (r_not rfl) rfl ?_; refine YL.nil ?_; refine YP.then ?_
      refine YC.cond rfl (fun hh => by cases hh) (fun _ => ?_)
      refine YC.skip ?_; refine ZP.blockN ?_
      refine ZP.round (pe ++ [e], pre ++ [p]) ⟨rfl, rfl, rfl, trivial⟩ ⟨hC2, by simp [hpre, hp], hJ4, hk4.same _ _ hr3 rfl, hk4.same _ _ hm3 rfl⟩ (by simp only [List.length_append, List.length_cons, List.length_nil]; omega)
    · refine ⟨_, rfl, ?_⟩
      refine YL.val (r_not rfl) rfl ?_; refine YL.nil ?_; refine YP.then ?_
      refine YC.cond rfl (fun _ => ?_) (fun hh => by cases hh)
      refine YC.ret ?_; refine ZP.blockR ?_; refine ZP.thenR ?_; refine ZP.blockR ?_
      exact ZP.body0 rfl (.inl rfl) ⟨⟨_, rfl⟩, .inr ⟨_, trivial, hJx4⟩⟩
end Go.Proofs.YtibobcjfjnoclaaGreatDoor.Z
end
section
/- slices.AppendSeq over maps.Keys. -/
set_option linter.unusedVariables false
set_option linter.unusedSimpArgs false
set_option linter.unusedSectionVars false
set_option maxRecDepth 100000
set_option maxHeartbeats 4000000
namespace Go.Proofs.YtibobcjfjnoclaaGreatDoor.Z
open Go Go.RowKit

section
variable {m : Nat} {P : Program} {n : Nat} {w : World}
theorem YC.enterM {f : FuncId} {fn : Func} {c : Code} {args : Array Value} {R : Ending → World → Prop} (hf : P.funcs[f]? = some fn) (hb : fn.body = some c)
    (hn : fn.ntmps = n) (hsz : Nat.ble args.size n = true) (σ0 : Env) (hs : Sub σ0 (envOf 0 args.toList)) (h : YC Fence.wide m P n (bodyPostM Fence.wide m P fn R) c σ0 w) : CallsIn Fence.wide m P f args w R := by
  refine callsIn_of_wp_marks hf hb trivial ?_
  have hsz' : args.size ≤ n := Nat.le_of_ble_eq_true hsz
  refine h.h _ ⟨by simp [hn]; omega, rfl, ?_⟩
  intro i v hi
  obtain ⟨_, h2⟩ := lk_envOf _ _ _ _ (hs.lk i v hi)
  simp only [Nat.sub_zero, Array.getElem?_toList] at h2
  have hlt : i < args.size := by
    rcases Nat.lt_or_ge i args.size with h | h
    · exact h
    · simp [Array.getElem?_eq_none h] at h2
  rw [Array.getElem?_append_left hlt]
  exact h2
end

section
variable {F : Fence} [WF F] {q : Nat} {P : Program} {n : Nat} {ops : Array Oper} {Q : Post} {rest : List Oper} {σ : Env} {w w0 : World} {X Y : Nat → Prop} {L L' : List Chunk}
variable {d : Nat} {ty : TypeId} {pos : String} {after : Array Edge} {x y : Operand}
theorem YL.buildSlice {t e s len : Nat} {parts : Array (Nat × Operand)} {cs : List Value} (hM : Mem w0 X L w)
    (hb : ∀ ρ, Ag ρ σ → (Instr.buildSlice t len (parts.map fun (i, x) => (i, ρ x))).run P w = .ok (.slice (some ⟨w.heap.size, 0, none⟩) len len) (w.alloc (.cells cs.toArray e)))
    (hl : cs.length = len * s) (hm : len ≤ maxLen) (hd : Nat.blt d n = true)
    (h : ∀ g w', Mem w0 X (.own (.slice (some ⟨g, 0, none⟩) len len) e s len cs :: L) w' → YL F q P n ops Q rest ((d, .slice (some ⟨g, 0, none⟩) len len) :: σ) w') :
    YL F q P n ops Q (⟨some d, .buildSlice t len parts, ty, pos, after, none⟩ :: rest) σ w := by
  have hv : VW P σ (.buildSlice t len parts) (.slice (some ⟨w.heap.size, 0, none⟩) len len) w (w.alloc (.cells cs.toArray e)) := by
    refine ⟨fun ρ ha o ho => ?_⟩; simp [execOp, ho, hb ρ ha]
  refine YL.vw hv hd (h _ _ ?_)
  have hpush := hM.push (Upd.alloc w (.cells cs.toArray e)) rfl
  refine Mem.add hpush.drop (c := .own (.slice (some ⟨w.heap.size, 0, none⟩) len len) e s len cs) ⟨hl, .inr ⟨_, len, cs.toArray, rfl, hpush.ok (.blk w.heap.size (.cells cs.toArray e)) (by simp), Nat.le_refl _, hm, by simp [hl], by rw [← hl]; simp⟩⟩ ?_
  intro g hg
  simp only [Chunk.fp, Value.ownBlock, Option.some.injEq] at hg
  subst hg
  refine ⟨hM.ext.size, fun c hc hf => ?_⟩
  have := Chunk.lt (hM.ok c hc) _ hf
  omega
theorem YL.append {t e s k m bytes : Nat} {v u z : Value} {xs ys : List Value} {G : Chunk → List Chunk} [TU P t (.slice e)] [TE P e s bytes z] (hM : Mem w0 X L w) (hx : ev σ x = some v) (hy : ev σ y = some u)
    [i : OwnPut L v e s k xs G] (hu : SlC w Y s u m ys) (h1 : ∀ x ∈ ys, x.oneCell' = true) (h63 : k + m ≤ maxLen) (hb : (k + m) * bytes ≤ 140737488355328) (hd : Nat.blt d n = true)
    (h : ∀ v' w', ExtX w (fun b => v.ownBlock = some b) w' → Mem w0 X (G (.own v' e s (k + m) (xs ++ ys))) w' → YL F q P n ops Q rest ((d, v') :: σ) w') :
    YL F q P n ops Q (⟨some d, .call ⟨.builtin .append, #[x, y], #[t, t]⟩, ty, pos, after, none⟩ :: rest) σ w := by
  obtain ⟨A, B, rfl, hF⟩ := i.h
  have hown : OwnR w e s v k xs := hM.ok (.own v e s k xs) (by simp)
  obtain ⟨v', w', hr, h2, h3, h4⟩ := run_append (P := P) (t := t) (ty := ty) hown hu h1 h63 hb
  refine ⟨fun a ha => wpListIn_plain rfl fun K hK => ?_⟩
  unfold Oper.wpIn
  refine ⟨fun f _ => WF.fn f, ?_⟩
  rw [Oper.semAt_plain F _ _ (noDefer_spec rfl), exec_builtin (P := P) rfl (r := .ok (.value v') w') (fun cs => by simp [ha.ag _ _ hx, ha.ag _ _ hy, builtin, hr])]
  refine hK _ _ ((h v' w' h3 ?_).h _ (ha.put hd))
  rw [hF]
  exact hM.turn (c' := .own v' e s (k + m) (xs ++ ys)) h3 h2 h4
end
theorem YL.bslice {F : Fence} [WF F] {q : Nat} {P : Program} {n : Nat} {ops : Array Oper} {Q : Post} {rest : List Oper} {σ : Env} {w w0 : World} {X : Nat → Prop} {L : List Chunk} {d : Nat} {ty : TypeId} {pos : String} {after : Array Edge}
    {t e s by' len : Nat} {z : Value} {parts : Array (Nat × Operand)} {vs : List Value} {xs : List Value} [TU P t (.slice e)] [te : TE P e s by' z] (hM : Mem w0 X L w)
    (hi : parts.toList.map (·.1) = List.range len) (hv : evs σ (parts.toList.map (·.2)) = some vs) (hxs : flat vs = some xs) (hs : ∀ v ∈ vs, v.cells.size = s) (hb : len * s ≤ 16777216) (hd : Nat.blt d n = true)
    (h : ∀ g w', Mem w0 X (.own (.slice (some ⟨g, 0, none⟩) len len) e s len xs :: L) w' → YL F q P n ops Q rest ((d, .slice (some ⟨g, 0, none⟩) len len) :: σ) w') :
    YL F q P n ops Q (⟨some d, .buildSlice t len parts, ty, pos, after, none⟩ :: rest) σ w := by
  have hlen : vs.length = len := by
    have h2 := congrArg List.length hi
    have : ∀ (l : List Operand) (us : List Value), evs σ l = some us → us.length = l.length := by
      intro l
      induction l with
      | nil => intro us h; simp [evs] at h; simp [← h]
      | cons a r ih =>
        intro us h
        simp only [evs] at h
        cases ha : ev σ a with
        | none => simp [ha] at h
        | some v =>
          rw [ha] at h
          cases hr : evs σ r with
          | none => simp [hr] at h
          | some ws => simp [hr] at h; subst h; simp [ih _ hr]
    have := this _ _ hv
    simp at this h2; omega
  have hfl : ∀ (l : List Value), (∀ v ∈ l, v.cells.size = s) → ((l.map (·.cells.toList)).flatten).length = l.length * s := by
    intro l
    induction l with
    | nil => intro _; simp
    | cons a r ih => intro h; simp only [List.map_cons, List.flatten_cons, List.length_append, Array.length_toList, List.length_cons, Nat.succ_mul]; rw [ih (fun v hv => h v (by simp [hv])), h a (by simp)]; omega
  have hz := te.hz
  have hs0 := te.pos
  have i1 := te.ti
  have i2 := te.tz
  have hrb := run_buildSlice (P := P) (w := w) (t := t) (e := e) hz hs0 hi hv hs hb
  have hle : (vs.map (·.cells.toList)).flatten.length = len * s := by rw [hfl _ hs, hlen]
  rw [flat_eq _ _ hxs] at hrb hle
  refine YL.buildSlice hM hrb hle ?_ hd h
  have : len ≤ len * s := Nat.le_mul_of_pos_right _ hs0
  simp only [maxLen]; omega

/-- Chunks of cells abide what turns no cells. -/
theorem Mem.grown {w0 w w' : World} {L : List Chunk} {row : Option Nat} (h : Mem w0 No L w) (hg : w.grownBy w' row) (hr : ∀ r, row = some r → w0.heap.size ≤ r ∧ ∀ c ∈ L, c.fp ≠ some r) : Mem w0 No L w' := by
  have he : ExtX w (fun k => some k = row) w' := ⟨hg.os, hg.tape, hg.output, hg.size, fun k hk hx => hg.block k hk hx⟩
  refine ⟨h.ext.trans he (fun _ h => h) (fun b hb hx => ?_), fun c hc => Chunk.stays (h.ok c hc) fun g hgf => hg.block g (Chunk.lt (h.ok c hc) g hgf) (fun e => (hr g e.symm).2 c hc hgf), h.ap, h.mine⟩
  have := (hr b hx.symm).1
  omega

abbrev SeqI (w : World) (Bs : Nat) (pre : List B32) (W : World) : Prop := ∃ sv, Mem w No [.blk Bs (.cells #[sv] 35), .own sv 27 32 pre.length ((pre.map B32.cells).flatten)] W
theorem seqM_own {w W W' : World} {Bs : Nat} {sv : Value} {k : Nat} {xs : List Value} {row : Option Nat} (hM : Mem w No [.blk Bs (.cells #[sv] 35), .own sv 27 32 k xs] W) (hg : W.grownBy W' row)
    (hr : ∀ r, row = some r → w.heap.size ≤ r ∧ ∃ o : Obj, W.heap[r]? = some o ∧ o.isCells = false) : Mem w No [.blk Bs (.cells #[sv] 35), .own sv 27 32 k xs] W' := hM.grown hg fun r e => by
  obtain ⟨h1, o, ho, hc⟩ := hr r e
  refine ⟨h1, fun c hcm hfp => ?_⟩
  have hok := hM.ok c hcm
  simp only [List.mem_cons, List.not_mem_nil, or_false] at hcm
  rcases hcm with rfl | rfl
  · simp only [Chunk.fp, Option.some.injEq] at hfp
    subst hfp
    rw [show W.heap[Bs]? = _ from hok] at ho
    cases ho; cases hc
  · rcases hok.2 with ⟨rfl, _⟩ | ⟨g, cap, cur, rfl, hg', _⟩
    · simp [Chunk.fp, Value.ownBlock] at hfp
    · simp [Chunk.fp, Value.ownBlock] at hfp
      subst hfp
      rw [hg'] at ho
      cases ho; cases hc
theorem seqI_own (w : World) (Bs B : Nat) (hB : w.heap.size ≤ B) : OwnFrom B (SeqI w Bs) := fun pre W W' row ⟨sv, hM⟩ hg hr => ⟨sv, seqM_own hM hg fun r e => ⟨Nat.le_trans hB (hr r e).1, (hr r e).2⟩⟩

theorem keeps_of {w W W' : World} {Bs : Nat} {sv : Value} {k : Nat} {xs : List Value} (hM : Mem w No [.blk Bs (.cells #[sv] 35), .own sv 27 32 k xs] W) (he : ExtX W (fpIn [.blk Bs (.cells #[sv] 35), .own sv 27 32 k xs]) W') : KeepsOthers W W' := by
  refine ⟨he.size, fun j o hj ho => (he.keep j (Array.getElem?_eq_some_iff.1 hj).1 fun ⟨c, hc, hf⟩ => ?_).trans hj⟩
  have hok := hM.ok c hc
  simp only [List.mem_cons, List.not_mem_nil, or_false] at hc
  rcases hc with rfl | rfl
  · simp only [Chunk.fp, Option.some.injEq] at hf
    subst hf
    rw [show W.heap[Bs]? = _ from hok] at hj
    cases hj; cases ho
  · rcases hok.2 with ⟨rfl, _⟩ | ⟨g, cap, cur, rfl, hg', _⟩
    · simp [Chunk.fp, Value.ownBlock] at hf
    · simp [Chunk.fp, Value.ownBlock] at hf
      subst hf
      rw [hg'] at hj
      cases hj; cases ho

theorem AppendSeq_ok (Bm b : Nat) {U : Type} {ve : U → Value} (m : List (B32 × U)) (es : Array MapEntry) (clk : Nat) (fz : Nat × Nat) (w : World) (hBm : w.heap[Bm]? = some (.cells #[.map (some b)] 53 fz)) (hm : w.heap[b]? = some (.map es clk)) (hO : MObj B32.v ve m es clk) (hn : m.length ≤ 100000) :
    Ret P 63 #[.slice none 0 0, .func (.func KF) #[] #[.pointer (some ⟨Bm, 0, none⟩)]] w (fun r w' => Ext w w' ∧ ∃ xs : List B32, xs.Perm (m.map (·.1)) ∧ NewO w w' 27 32 r xs.length ((xs.map B32.cells).flatten)) := by
  refine ⟨(callsIn_wide (n := 100)).1 ?_⟩
  refine YC.enterM Tryz.func63 rfl Tryz.ntmps63 rfl [(0, .slice none 0 0), (1, .func (.func KF) #[] #[.pointer (some ⟨Bm, 0, none⟩)])] ⟨rfl, rfl, trivial⟩ ?_
  refine YC.seq ?_
  refine YC.region ?_
  refine YL.vw (vw_box rfl) rfl ?_
  refine YL.val (r_assign rfl) rfl ?_; refine YL.nil ?_; refine YP.then ?_; refine YC.seq ?_; refine YC.seq ?_; refine YC.region ?_; refine YL.val (r_move rfl) rfl ?_; refine YL.nil ?_; refine YP.then ?_; refine YC.block ?_
  obtain ⟨w1, hw1⟩ : ∃ w1, w.alloc (.cells (Value.slice none 0 0).cells 35) = w1 := ⟨_, rfl⟩
  have M1 : Mem w No [.blk w.heap.size (.cells #[.slice none 0 0] 35)] w1 := by rw [← hw1]; exact (Mem.start w No).push (Upd.alloc w _) rfl
  have M2 : SeqI w w.heap.size [] w1 := ⟨_, (M1.nilOwn _ _).swap⟩
  rw [hw1]
  refine ⟨fun a ha => ?_⟩
  have hBm1 := M1.ext.at hBm id
  have hm1 := M1.ext.at hm id
  refine wpIn_rangeFunc_ownH rfl (by decide) (gf := KF) (lb := #[.pointer (some ⟨Bm, 0, none⟩)]) (ha.ag _ _ rfl) trivial (fun args w => FN.h args w) (keys1_stops 99 Bm b m es clk fz w1 hBm1 hm1 hO) walksK_t walksK_b (Below.refl _ _) (fun _ => rfl)
    (SeqI w w.heap.size) (fun _ _ _ => False) (seqI_own w _ _ M1.ext.size) (fun _ _ _ _ _ hs _ _ => hs) M2
    (fun x a' W => ∃ b5, W.heap[b5]? = some (.cells x.cells.toArray 27 (0, 0)) ∧ FR 13 [(5, .pointer (some ⟨b5, 0, none⟩)), (2, .pointer (some ⟨w.heap.size, 0, none⟩))] a') ?_ ?assign ?body ?done ?stop
  · intro x a' _ W W' row ⟨b5, h5, hF⟩ hg hr
    refine ⟨b5, (hg.block b5 (Array.getElem?_eq_some_iff.1 h5).1 (fun e => ?_)).trans h5, hF⟩
    obtain ⟨_, o, ho, hc⟩ := hr b5 e.symm
    rw [h5] at ho
    cases ho; cases hc
  case assign =>
    intro l pre x W K hI hK
    obtain ⟨sv, hM⟩ := hI
    have hF : FR 13 ((7, x.v) :: _) (a.put (some 7) x.v) := ha.put rfl
    have e1 : ({ tmps := (#[7].zip #[x.v]).foldl (fun t (p, v) => t.setIfInBounds p v) a.tmps, defers := [] } : Act) = a.put (some 7) x.v := by
      simp [Act.put, ha.defers]
    rw [e1]
    refine YC.h (σ := _) ?_ _ hF
    refine YC.region ?_
    refine YL.vw vw_alloc rfl ?_
    have hnew := heap_alloc_new W (.cells (Value.agg (List.replicate 32 (Value.int .u8 0)).toArray).cells 27)
    refine YL.unit (uw_store (v := x.v) rfl rfl hnew (B32.size x) (by decide) (B32.one x)) ?_
    rw [splice_all (by rw [show (x.v).cells = x.cells.toArray from rfl, (B32.size x)]; rfl)]
    have hg3 := grown_box (w := W) (t := 27) (cs := (Value.agg (List.replicate 32 (Value.int .u8 0)).toArray).cells) (cs' := x.v.cells)
    have hb3 := setRow_heap _ _ _ x.v.cells _ _ hnew
    refine YL.nil ⟨fun a3 ha3 => ?_⟩
    refine hK a3 _ (KeepsFrom.of_grownBy hg3 (fun j e => by cases e)) ⟨hg3.size, fun k o hk ho => (hg3.block k (Array.getElem?_eq_some_iff.1 hk).1 (by simp)).trans hk⟩ ⟨sv, hM.grown hg3 (fun r e => by cases e)⟩ ⟨_, hb3, ha3.sub ⟨rfl, rfl, trivial⟩⟩
  case stop =>
    intro D c pre W _ _ h _
    exact h.elim
  case body =>
    rintro l pre x a' W hl ⟨rl, hrl⟩ ⟨sv, hM⟩ ⟨b5, h5, hF⟩ hlt
    refine YC.h (σ := _) ?_ _ hF
    refine YC.block ?_
    refine YC.region ?_
    refine YL.val (v := sv) (r_load1 rfl (hM.get (b := w.heap.size) inferInstance) rfl) rfl ?_
    refine YL.val (r_loadW rfl h5 (B32.size x)) rfl ?_
    have hM' := hM.rebase
    refine YL.bslice hM' rfl rfl rfl (by simp [Value.cells, B32.length]) (by decide) rfl (fun g w6 M6 => ?_)
    refine YL.append M6 rfl rfl (M6.own.slc (X := No) (fun _ _ h => h)) (fun y hy => u8_one _ _ hy) (by simp only [maxLen]; omega) (by omega) rfl (fun v7 w7 E7 M7 => ?_)
    obtain ⟨pv, cv, hv7⟩ := (M7.sub [2] rfl).own.shape
    refine YL.unit (uw_store1 (v := v7) rfl rfl (M7.get (b := w.heap.size) inferInstance) (by simp) (by rw [hv7]; rfl)) ?_
    have M8 := M7.upd (b := w.heap.size) (o' := .cells #[v7] 35) inferInstance (Upd.setRow (M7.get (b := w.heap.size) inferInstance))
    refine YL.nil ⟨fun a3 ha3 => ?_⟩
    have hko := keeps_of hM M8.ext
    have M9 := hM.join M8
    refine ⟨hko.from _, ⟨hko.size, fun k o hk ho => hko.same k o hk (by cases o <;> first | rfl | cases ho)⟩, v7, ?_⟩
    have M10 := M9.drop
    simpa using M10
  case done =>
    intro D xs W hD hS hI hK
    obtain ⟨sv, hM⟩ := hI
    have hM2 := seqM_own hM (grownBy_putObj' W D (.deferred none)) (fun r e => by cases e; exact ⟨Nat.le_trans M1.ext.size hD, _, hK, rfl⟩)
    obtain ⟨ps, cs, hsv⟩ := (hM.sub [1] rfl).own.shape
    refine (show Code.wpIn _ _ _ _ _ _ _ from ?_)
    refine wpIn_seq (wpIn_region_lit ?_)
    have h1 : FR 13 _ (a.put (some 12) sv) := ha.put rfl
    have hag : Ag (Act.eval { tmps := a.tmps, defers := { target := .collected D, args := #[] } :: a.defers }) _ := ha.ag
    have hag1 : Ag (Act.eval (Act.put { tmps := a.tmps, defers := { target := .collected D, args := #[] } :: a.defers } (some 12) sv)) _ := h1.ag
    have h2 : FR 13 _ ((a.put (some 12) sv).put (some 4) sv) := h1.put rfl
    refine wpListIn_plain rfl fun K hK1 => ?_
    unfold Oper.wpIn
    refine ⟨fun f _ => trivial, ?_⟩
    rw [Oper.semAt_plain Fence.wide _ _ (noDefer_spec rfl), (r_load1 (P := P) (v := sv) rfl (hM.get (b := w.heap.size) inferInstance) rfl).h _ hag _ rfl]
    refine hK1 _ _ ?_
    refine wpListIn_plain rfl fun K hK2 => ?_
    unfold Oper.wpIn
    refine ⟨fun f _ => trivial, ?_⟩
    rw [Oper.semAt_plain Fence.wide _ _ (noDefer_spec rfl), (r_assign (P := P) (v := sv) rfl).h _ hag1 _ rfl]
    refine hK2 _ _ ?_
    refine wpListIn_nil ?_
    refine (show Code.wpIn _ _ _ _ _ _ _ from ?_)
    refine wpIn_ret ?_
    refine ⟨by simp, .inl ⟨_, _, rfl, run_takeDeferred hK, ?_⟩⟩
    rw [ha.defers]
    refine ⟨sv, ?_, sv, rfl, hM2.ext, xs, hS, ⟨hM2.drop.own, fun g hg => ?_⟩⟩
    · have h4 := h2.at' 4 sv rfl
      rw [results_tmp rfl]
      have h5 : ((({ tmps := a.tmps, defers := { target := .collected D, args := #[] } :: a.defers } : Act).put (some 12) sv).put (some 4) sv).tmps[4]? = some sv := h4
      rw [Array.getD_eq_getD_getElem?]
      exact congrArg (fun o => Result.ok (o.getD undef) _) h5
    · exact (hM2.mine _ (List.mem_cons_of_mem _ (List.mem_cons_self ..)) g hg).resolve_left (fun h => h)
end Go.Proofs.YtibobcjfjnoclaaGreatDoor.Z
end
section
/- maps.Keys, slices.Collect. -/
set_option linter.unusedVariables false
set_option linter.unusedSimpArgs false
set_option linter.unusedSectionVars false
set_option maxRecDepth 100000
set_option maxHeartbeats 4000000
namespace Go.Proofs.YtibobcjfjnoclaaGreatDoor.Z
open Go Go.RowKit

theorem Keys_ok (b : Nat) (w : World) : Ret P 33 #[.map (some b)] w
    (fun r w' => ∃ Bm, Mem w No [.blk Bm (.cells #[.map (some b)] 53)] w' ∧ r = .func (.func KF) #[] #[.pointer (some ⟨Bm, 0, none⟩)]) := by
  refine Ret.enter1 Tryz.func33 rfl Tryz.ntmps33 rfl ?_
  refine ZC.seq ?_; refine ZC.region ?_
  refine ZL.box (Mem.start w No) rfl rfl rfl (fun Bm w1 M1 => ?_)
  refine ZL.val (r_assign rfl) rfl ?_; refine ZL.nil ?_; refine ZP.then ?_; refine ZC.seq ?_; refine ZC.region ?_; refine ZL.val (r_makeFunc rfl rfl) rfl ?_; refine ZL.val (r_assign rfl) rfl ?_; refine ZL.nil ?_; refine ZP.then ?_; refine ZC.ret ?_
  exact ZP.ret1 rfl rfl ⟨Bm, M1, rfl⟩

theorem Collect_ok (Bm b : Nat) {U : Type} {ve : U → Value} (m : List (B32 × U)) (es : Array MapEntry) (clk : Nat) (fz : Nat × Nat) (w : World) (hBm : w.heap[Bm]? = some (.cells #[.map (some b)] 53 fz)) (hm : w.heap[b]? = some (.map es clk)) (hO : MObj B32.v ve m es clk) (hn : m.length ≤ 100000) :
    Ret P 32 #[.func (.func KF) #[] #[.pointer (some ⟨Bm, 0, none⟩)]] w (fun r w' => Ext w w' ∧ ∃ xs : List B32, xs.Perm (m.map (·.1)) ∧ NewO w w' 27 32 r xs.length ((xs.map B32.cells).flatten)) := by
  refine Ret.enter1 Tryz.func32 rfl Tryz.ntmps32 rfl ?_
  refine ZC.seq ?_; refine ZC.region ?_; refine ZL.val (r_assign rfl) rfl ?_; refine ZL.nil ?_; refine ZP.then ?_; refine ZC.seq ?_; refine ZC.region ?_; refine ZL.val (r_move rfl) rfl ?_
  refine ZL.call (r_call rfl) rfl (AppendSeq_ok Bm b m es clk fz w hBm hm hO hn) (fun v1 w1 h1 => ?_)
  refine ZL.val (r_assign rfl) rfl ?_; refine ZL.nil ?_; refine ZP.then ?_; refine ZC.ret ?_
  exact ZP.ret1 rfl rfl h1
end Go.Proofs.YtibobcjfjnoclaaGreatDoor.Z
end
section
/- Which of two is ahead: bytes, numbers, points. -/
set_option linter.unusedVariables false
set_option linter.unusedSimpArgs false
set_option linter.unusedSectionVars false
set_option maxRecDepth 100000
set_option maxHeartbeats 4000000
namespace Go.Proofs.YtibobcjfjnoclaaGreatDoor.Z
open Go Go.RowKit

theorem run_loadBytesE {P : Program} {w : World} : ∀ (l : List UInt8) (a : Addr) (acc : ByteArray), (∀ j x, l[j]? = some x → w.cell? (a.add j) = some (u8 x)) →
    (Extern.Bytes.loadBytes a l.length acc).run P w = .ok ⟨acc.data ++ l.toArray⟩ w
  | [], a, acc, _ => by simp [Extern.Bytes.loadBytes]
  | x :: l, a, acc, h => by
    have h0 : w.cell? a = some (.int .u8 x.toNat) := by
      have := h 0 x rfl
      simpa [Addr.add, u8] using this
    have ih := run_loadBytesE (P := P) l (a.add 1) (acc.push x) (fun j y hy => by
      have := h (j + 1) y (by simpa using hy)
      have e : (a.add 1).add j = a.add (j + 1) := by
        unfold Addr.add
        by_cases hj : j = 0
        · subst hj; simp
        · simp [hj]; omega
      rw [e]; exact this)
    have e2 : (x.toNat : Int).toNat.toUInt8 = x := by simp
    simp only [List.length_cons, Extern.Bytes.loadBytes, Sem.run_bind, run_load, h0, Result.andThen, e2]
    rw [ih]
    congr 1
    apply ByteArray.ext
    simp [ByteArray.push]
theorem run_bytesOf {P : Program} {w : World} {X : Nat → Prop} {v : Value} {l : List UInt8} (h : BytesR w X v l) : (Extern.Bytes.bytesOf v).run P w = .ok ⟨l.toArray⟩ w := by
  rcases SlC.news h with ⟨rfl, h0, hx⟩ | ⟨a, c, rfl, hn⟩
  · have : l = [] := List.eq_nil_of_length_eq_zero h0
    subst this
    simp [Extern.Bytes.bytesOf]
    rfl
  · have := run_loadBytesE (P := P) (w := w) l a .empty (fun j x hj => hn j (u8 x) (by simp [hj]))
    simpa [Extern.Bytes.bytesOf] using this

open Go.Lib in
theorem r_cmpBytes {P : Program} {σ : Env} {w : World} {X Y : Nat → Prop} {f : FuncId} {args : Array Operand} {ats : Array TypeId} {v u : Value} {l m : List UInt8} {fn : Func} (hf : P.funcs[f]? = some fn) (hb : fn.body.isNone = true) (h1 : (fn.name == "runtime.NumGoroutine") = false)
    (h2 : (Extern.findNext fn).isNone = true) (h3 : Extern.find fn = some Extern.BytealgCompare.compare)
    (ha : evs σ args.toList = some [v, u]) (hl : BytesR w X v l) (hm : BytesR w Y u m) : V P σ (.call ⟨.value (.func f), args, ats⟩) (.int .i64 (Go.Lib.compareBytes l m)) w := by
  refine ⟨fun ρ hag o ho => ?_⟩
  have e1 : args.map ρ = #[v, u] := by apply Array.ext'; simpa using evs_map ha hag
  have e2 : ρ (.func f) = .func (.func f) #[] #[] := hag (.func f) _ rfl
  have h2' : Extern.findNext fn = none := by simpa using h2
  have hc : (Extern.BytealgCompare.compare #[v, u]).run P w = .ok (.int .i64 (Go.Lib.compareBytes l m)) w := by
    change Sem.run P (do pure (goInt (Extern.BytealgCompare.cmp (← Extern.Bytes.bytesOf v) (← Extern.Bytes.bytesOf u)))) w = _
    simp only [Sem.run_bind, Sem.run_pure, run_bytesOf hl, run_bytesOf hm, Result.andThen]
    rw [Go.Lib.cmp_eq]
    rfl
  have h1' : fn.name ≠ "runtime.NumGoroutine" := by simpa using h1
  have hb' : fn.body = none := by simpa using hb
  simp [execOp, ho, resolve, e1, e2, Deferred.ofValue, invoke, callFunc, hf, hb', h1', h2', h3, hc]

theorem bytesCompare_ok (v u : Value) (l m : List UInt8) (w : World) (X Y : Nat → Prop) (hl : BytesR w X v l) (hm : BytesR w Y u m) :
    Ret P 90 #[v, u] w (fun r w' => w = w' ∧ r = .int .i64 (Go.Lib.compareBytes l m)) := by
  refine Ret.enter2 Tryz.func90 rfl Tryz.ntmps90 rfl ?_
  refine ZC.seq ?_; refine ZC.region ?_; refine ZL.val (r_assign rfl) rfl ?_; refine ZL.nil ?_; refine ZP.then ?_; refine ZC.seq ?_; refine ZC.region ?_; refine ZL.val (r_move rfl) rfl ?_; refine ZL.val (r_move rfl) rfl ?_
  refine ZL.val (r_cmpBytes Tryz.func113 rfl (by decide) (by rfl) (by rfl) rfl hl hm) rfl ?_
  refine ZL.val (r_assign rfl) rfl ?_; refine ZL.nil ?_; refine ZP.then ?_; refine ZC.ret ?_
  exact ZP.ret1 rfl rfl ⟨rfl, rfl⟩

theorem shasCompare_ok (a b : B32) (w : World) :
    Ret P 60 #[a.v, b.v] w (fun r w' => Ext w w' ∧ r = .int .i64 (Go.Lib.compareBytes a.val b.val)) := by
  refine Ret.enter2 Tryz.func60 rfl Tryz.ntmps60 rfl ?_
  refine ZC.seq ?_; refine ZC.region ?_
  refine ZL.box (Mem.start w No) rfl rfl rfl (fun b2 w1 M1 => ?_)
  refine ZL.box M1 rfl rfl rfl (fun b3 w2 M2 => ?_)
  refine ZL.val (r_assign rfl) rfl ?_; refine ZL.nil ?_; refine ZP.then ?_; refine ZC.seq ?_
  refine ZC.tail 2 (by kernel_rfl) rfl rfl (fun w3 E3 _ => ?_)
  have M3 := M2.ext' E3
  refine ZS.val (r_sliceArr rfl) rfl ?_; refine ZS.val (r_sliceArr rfl) rfl ?_; refine ZS.tail ?_
  refine ZL.call (r_call rfl) rfl (bytesCompare_ok _ _ a.val b.val w3 No No (M3.slArr (x := a) inferInstance id) (M3.slArr (x := b) inferInstance id)) (fun v4 w4 hv => ?_)
  obtain ⟨rfl, rfl⟩ := hv
  refine ZL.val (r_assign rfl) rfl ?_; refine ZL.nil ?_; refine ZP.then ?_; refine ZC.ret ?_
  exact ZP.ret1 rfl rfl ⟨M3.ext, rfl⟩

end Go.Proofs.YtibobcjfjnoclaaGreatDoor.Z
end
section
/- A call that only lays new blocks and draws: its world, exactly. -/
set_option linter.unusedVariables false
set_option linter.unusedSimpArgs false
set_option linter.unusedSectionVars false
set_option maxRecDepth 100000
set_option maxHeartbeats 4000000
namespace Go.Proofs.YtibobcjfjnoclaaGreatDoor.Z
open Go Go.RowKit Go.Sort

def Grow (w w' : World) : Prop := ∃ q os, w' = grow (w.drewN q) os
theorem Grow.refl (w : World) : Grow w w := ⟨0, #[], by simp [World.drewN]⟩
theorem Grow.alloc {w w' : World} (h : Grow w w') (o : Obj) : Grow w (w'.alloc o) := by
  obtain ⟨q, os, rfl⟩ := h
  refine ⟨q, os ++ #[o], ?_⟩
  rw [alloc_eq_grow, grow_grow]
theorem Grow.drew {w w' : World} (h : Grow w w') : Grow w { w' with drawn := w'.drawn + 1 } := by
  obtain ⟨q, os, rfl⟩ := h
  exact ⟨q + 1, os, by simp [grow, World.drewN, Nat.add_assoc]⟩
theorem Grow.trans {w w1 w2 : World} (h : Grow w w1) (k : Grow w1 w2) : Grow w w2 := by
  obtain ⟨q, os, rfl⟩ := h
  obtain ⟨q', os', rfl⟩ := k
  exact ⟨q + q', os ++ os', by simp [grow, World.drewN, Nat.add_assoc, Array.append_assoc]⟩

section
variable {P : Program} {n : Nat} {ops : Array Oper} {Q : Post} {rest : List Oper} {σ : Env} {w w0 : World} {X : Nat → Prop} {L L' : List Chunk}
variable {d : Nat} {ty : TypeId} {pos : String} {after : Array Edge} {x y : Operand}
theorem ZL.boxE {t : TypeId} {v : Value} {cs : Array Value} (hM : Mem w0 X L w) (hG : Grow w0 w) (hx : ev σ x = some v) (hz : vcells v = some cs) (hd : Nat.blt d n = true)
    (h : ∀ b w', Mem w0 X (.blk b (.cells cs t) :: L) w' → Grow w0 w' → ZL P n ops Q rest ((d, .pointer (some ⟨b, 0, none⟩)) :: σ) w') : ZL P n ops Q (⟨some d, .box t x, ty, pos, after, none⟩ :: rest) σ w := by
  refine ZL.vw (vw_box hx) hd (h _ _ ?_ (hG.alloc _))
  rw [vcells_eq hz]
  exact hM.push (Upd.alloc w _) rfl
end

section
variable {P : Program} {n : Nat} {ops : Array Oper} {Q : Post} {S : World → Prop} {k g fuel : Nat} {l2 : List Oper} {listed listed' : Array Bool} {σ : Env} {w : World}
theorem ZC.turningG {id : Nat} {l : List Oper} [FO P] (S : World → Prop) (k : Nat) {m : Nat} {ls : Array Bool} (hm : l.length = m) (hB : tailB l.toArray k = true) (h2 : l.drop k = l2) (hg : m - k = g) (hls : Array.replicate m false = ls)
    (h : ∀ w', Ext w w' → w'.heap = w.heap → (∀ w0, Grow w0 w → Grow w0 w') → ZT P n l.toArray Q S k g l2 k ls σ w') : ZC P n Q (.region id l.toArray true) σ w := by
  subst hm; subst hls; subst h2; subst hg
  simp only [tailB, Bool.and_eq_true] at hB
  obtain ⟨⟨⟨hsel, hn⟩, hs⟩, hc⟩ := hB
  have hn' : k < l.length := by simpa [Nat.blt_eq] using hn
  refine ⟨fun a ha => ?_⟩
  have inv0 : HeadInv .any l.toArray k (Array.replicate l.length false) :=
    ⟨by simp, fun j oj _ hl => (by rw [getD_replicate_false] at hl; cases hl), fun t _ ht => getD_in (by simpa using ht) (getD_replicate_false _ _)⟩
  have H := (h { w with drawn := w.drawn + 1 } (drew_ext w _) rfl (fun w0 hG => hG.drew)).h a ha inv0
  refine wp_region_any FO.h ?_
  have := wpAny_of_T (P := P) (md := .any) (Q := Q) (g := l.length - k) (fun listed a' w' hL => by
    have := wpAny_of_seq (md := .any) (Q' := Q) (l.drop k) k listed a' w' (fun j => by simp [List.getElem?_drop]) (by rw [List.length_drop]; exact hL.1) hL.2
    rwa [List.length_drop] at this) _ _ _ _ H
  rw [show k + (l.length - k) = l.length by omega] at this
  simpa using this

theorem ZC.tailG {id : Nat} {l l1 l2 : List Oper} [FO P] (k : Nat) (hB : Region.lexTailB .any l.toArray k = true) (h1 : l.take k = l1) (h2 : l.drop k = l2)
    (h : ∀ w', Ext w w' → w'.heap = w.heap → (∀ w0, Grow w0 w → Grow w0 w') → ZS P n l.toArray (fun a => wpList P l.toArray Q l2 a w') l1 σ w') : ZC P n Q (.region id l.toArray true) σ w := by
  subst h1; subst h2
  exact ⟨fun a ha => wp_region_still_tail k FO.h hB ((h { w with drawn := w.drawn + 1 } (drew_ext w _) rfl (fun w0 hG => hG.drew)).h a ha)⟩
end

theorem shasCompareG (a b : B32) (w : World) :
    Ret P 60 #[a.v, b.v] w (fun r w' => Ext w w' ∧ Grow w w' ∧ r = .int .i64 (Go.Lib.compareBytes a.val b.val)) := by
  refine Ret.enter2 Tryz.func60 rfl Tryz.ntmps60 rfl ?_
  refine ZC.seq ?_; refine ZC.region ?_
  refine ZL.boxE (Mem.start w No) (Grow.refl w) rfl rfl rfl (fun b2 w1 M1 G1 => ?_)
  refine ZL.boxE M1 G1 rfl rfl rfl (fun b3 w2 M2 G2 => ?_)
  refine ZL.val (r_assign rfl) rfl ?_; refine ZL.nil ?_; refine ZP.then ?_; refine ZC.seq ?_
  refine ZC.tailG 2 (by kernel_rfl) rfl rfl (fun w3 E3 _ hG => ?_)
  have M3 := M2.ext' E3
  have G3 := hG _ G2
  refine ZS.val (r_sliceArr rfl) rfl ?_; refine ZS.val (r_sliceArr rfl) rfl ?_; refine ZS.tail ?_
  refine ZL.call (r_call rfl) rfl (bytesCompare_ok _ _ a.val b.val w3 No No (M3.slArr (x := a) inferInstance id) (M3.slArr (x := b) inferInstance id)) (fun v4 w4 hv => ?_)
  obtain ⟨rfl, rfl⟩ := hv
  refine ZL.val (r_assign rfl) rfl ?_; refine ZL.nil ?_; refine ZP.then ?_; refine ZC.ret ?_
  exact ZP.ret1 rfl rfl ⟨M3.ext, G3, rfl⟩

section
variable {P : Program} {n : Nat} {ops : Array Oper} {Q : Post} {rest : List Oper} {σ : Env} {w w0 : World} {X : Nat → Prop} {L L' : List Chunk}
variable {d : Nat} {ty : TypeId} {pos : String} {after : Array Edge} {x y : Operand}
theorem ZL.buildSliceE {t e s len : Nat} {parts : Array (Nat × Operand)} {cs : List Value} (hM : Mem w0 X L w) (hG : Grow w0 w)
    (hb : ∀ ρ, Ag ρ σ → (Instr.buildSlice t len (parts.map fun (i, x) => (i, ρ x))).run P w = .ok (.slice (some ⟨w.heap.size, 0, none⟩) len len) (w.alloc (.cells cs.toArray e)))
    (hl : cs.length = len * s) (hm : len ≤ maxLen) (hd : Nat.blt d n = true)
    (h : ∀ g w', Mem w0 X (.own (.slice (some ⟨g, 0, none⟩) len len) e s len cs :: L) w' → Grow w0 w' → ZL P n ops Q rest ((d, .slice (some ⟨g, 0, none⟩) len len) :: σ) w') :
    ZL P n ops Q (⟨some d, .buildSlice t len parts, ty, pos, after, none⟩ :: rest) σ w := by
  have hv : VW P σ (.buildSlice t len parts) (.slice (some ⟨w.heap.size, 0, none⟩) len len) w (w.alloc (.cells cs.toArray e)) := by
    refine ⟨fun ρ ha o ho => ?_⟩; simp [execOp, ho, hb ρ ha]
  refine ZL.vw hv hd (h _ _ ?_ (hG.alloc _))
  have hpush := hM.push (Upd.alloc w (.cells cs.toArray e)) rfl
  refine Mem.add hpush.drop (c := .own (.slice (some ⟨w.heap.size, 0, none⟩) len len) e s len cs) ⟨hl, .inr ⟨_, len, cs.toArray, rfl, hpush.ok (.blk w.heap.size (.cells cs.toArray e)) (by simp), Nat.le_refl _, hm, by simp [hl], by rw [← hl]; simp⟩⟩ ?_
  intro g hg
  simp only [Chunk.fp, Value.ownBlock, Option.some.injEq] at hg
  subst hg
  refine ⟨hM.ext.size, fun c hc hf => ?_⟩
  have := Chunk.lt (hM.ok c hc) _ hf
  omega
end
theorem ZL.bsliceE {P : Program} {n : Nat} {ops : Array Oper} {Q : Post} {rest : List Oper} {σ : Env} {w w0 : World} {X : Nat → Prop} {L : List Chunk} {d : Nat} {ty : TypeId} {pos : String} {after : Array Edge}
    {t e s by' len : Nat} {z : Value} {parts : Array (Nat × Operand)} {vs : List Value} {xs : List Value} [TU P t (.slice e)] [te : TE P e s by' z] (hM : Mem w0 X L w) (hG : Grow w0 w)
    (hi : parts.toList.map (·.1) = List.range len) (hv : evs σ (parts.toList.map (·.2)) = some vs) (hxs : flat vs = some xs) (hs : ∀ v ∈ vs, v.cells.size = s) (hb : len * s ≤ 16777216) (hd : Nat.blt d n = true)
    (h : ∀ g w', Mem w0 X (.own (.slice (some ⟨g, 0, none⟩) len len) e s len xs :: L) w' → Grow w0 w' → ZL P n ops Q rest ((d, .slice (some ⟨g, 0, none⟩) len len) :: σ) w') :
    ZL P n ops Q (⟨some d, .buildSlice t len parts, ty, pos, after, none⟩ :: rest) σ w := by
  have hlen : vs.length = len := by
    have h2 := congrArg List.length hi
    have : ∀ (l : List Operand) (us : List Value), evs σ l = some us → us.length = l.length := by
      intro l
      induction l with
      | nil => intro us h; simp [evs] at h; simp [← h]
      | cons a r ih =>
        intro us h
        simp only [evs] at h
        cases ha : ev σ a with
        | none => simp [ha] at h
        | some v =>
          rw [ha] at h
          cases hr : evs σ r with
          | none => simp [hr] at h
          | some ws => simp [hr] at h; subst h; simp [ih _ hr]
    have := this _ _ hv
    simp at this h2; omega
  have hfl : ∀ (l : List Value), (∀ v ∈ l, v.cells.size = s) → ((l.map (·.cells.toList)).flatten).length = l.length * s := by
    intro l
    induction l with
    | nil => intro _; simp
    | cons a r ih => intro h; simp only [List.map_cons, List.flatten_cons, List.length_append, Array.length_toList, List.length_cons, Nat.succ_mul]; rw [ih (fun v hv => h v (by simp [hv])), h a (by simp)]; omega
  have hz := te.hz
  have hs0 := te.pos
  have i1 := te.ti
  have i2 := te.tz
  have hrb := run_buildSlice (P := P) (w := w) (t := t) (e := e) hz hs0 hi hv hs hb
  have hle : (vs.map (·.cells.toList)).flatten.length = len * s := by rw [hfl _ hs, hlen]
  rw [flat_eq _ _ hxs] at hrb hle
  refine ZL.buildSliceE hM hG hrb hle ?_ hd h
  have : len ≤ len * s := Nat.le_mul_of_pos_right _ hs0
  simp only [maxLen]; omega

end Go.Proofs.YtibobcjfjnoclaaGreatDoor.Z
end
section
/- The order of names: a plain law. -/
set_option linter.unusedVariables false
set_option linter.unusedSimpArgs false
set_option linter.unusedSectionVars false
namespace Go.Proofs.YtibobcjfjnoclaaGreatDoor.Z
open Go Go.RowKit Go.Sort Go.Lib

theorem cb_self : ∀ l : List UInt8, compareBytes l l = 0
  | [] => rfl
  | a :: l => by simp [compareBytes, cb_self l]
theorem cb_eq : ∀ {l m : List UInt8}, compareBytes l m = 0 → l = m
  | [], [], _ => rfl
  | [], _ :: _, h => by simp [compareBytes] at h
  | _ :: _, [], h => by simp [compareBytes] at h
  | a :: l, b :: m, h => by
    simp only [compareBytes] at h
    split at h
    · cases h
    · split at h
      · cases h
      · rename_i h1 h2
        rw [cb_eq h, UInt8.le_antisymm (UInt8.not_lt.1 h2) (UInt8.not_lt.1 h1)]
theorem cb_neg : ∀ (l m : List UInt8), compareBytes m l = - compareBytes l m
  | [], [] => rfl
  | [], _ :: _ => rfl
  | _ :: _, [] => rfl
  | a :: l, b :: m => by
    simp only [compareBytes]
    by_cases h1 : a < b
    · have h2 : ¬ b < a := UInt8.lt_asymm h1
      simp [h1, h2]
    · by_cases h2 : b < a
      · simp [h1, h2]
      · simp [h1, h2, cb_neg l m]
theorem cb_trans : ∀ {l m n : List UInt8}, compareBytes l m < 0 → compareBytes m n < 0 → compareBytes l n < 0
  | [], [], _, h, _ => by simp [compareBytes] at h
  | [], _ :: _, [], _, h => by simp [compareBytes] at h
  | [], _ :: _, _ :: _, _, _ => by simp [compareBytes]
  | _ :: _, [], _, h, _ => by simp [compareBytes] at h
  | _ :: _, _ :: _, [], _, h => by simp [compareBytes] at h
  | a :: l, b :: m, c :: n, h1, h2 => by
    simp only [compareBytes] at h1 h2 ⊢
    by_cases hab : a < b
    · by_cases hbc : b < c
      · rw [if_pos (UInt8.lt_trans hab hbc)]; decide
      · rw [if_neg hbc] at h2
        by_cases hcb : c < b
        · rw [if_pos hcb] at h2; omega
        · have : b = c := UInt8.le_antisymm (UInt8.not_lt.1 hcb) (UInt8.not_lt.1 hbc)
          subst this
          rw [if_pos hab]; decide
    · rw [if_neg hab] at h1
      by_cases hba : b < a
      · rw [if_pos hba] at h1; omega
      · have : a = b := UInt8.le_antisymm (UInt8.not_lt.1 hba) (UInt8.not_lt.1 hab)
        subst this
        rw [if_neg hba] at h1
        by_cases hbc : a < c
        · rw [if_pos hbc]; decide
        · rw [if_neg hbc] at h2 ⊢
          by_cases hcb : c < a
          · rw [if_pos hcb] at h2; omega
          · rw [if_neg hcb] at h2 ⊢
            exact cb_trans h1 h2

/-- One name is ahead of another one. -/
def cmpP (p q : B32) : Int := compareBytes p.val q.val
def ltP (p q : B32) : Prop := compareBytes p.val q.val < 0
theorem cmpP_lt (p q : B32) : cmpP p q < 0 ↔ ltP p q := Iff.rfl
theorem ltP_irrefl (p : B32) : ¬ ltP p p := by
  unfold ltP; rw [cb_self]; omega
theorem ltP_trans {p q r : B32} (h : ltP p q) (k : ltP q r) : ltP p r := cb_trans h k
theorem ltP_total (p q : B32) : ltP p q ∨ p = q ∨ ltP q p := by
  by_cases h : compareBytes p.val q.val = 0
  · exact .inr (.inl (Subtype.ext (cb_eq h)))
  · by_cases h1 : compareBytes p.val q.val < 0
    · exact .inl h1
    · refine .inr (.inr ?_)
      unfold ltP
      rw [cb_neg]; omega
theorem cmpP_swo : SWO (ltOf cmpP) := by
  have key : ∀ p q, ltOf cmpP p q = true ↔ ltP p q := fun p q => by simp [ltOf, cmpP_lt]
  have keyf : ∀ p q, ltOf cmpP p q = false ↔ ¬ ltP p q := fun p q => by rw [← key]; simp
  refine ⟨fun p => (keyf p p).2 (ltP_irrefl p), fun p q r h k => (key p r).2 (ltP_trans ((key p q).1 h) ((key q r).1 k)), fun p q r h k => (keyf p r).2 fun hpr => ?_⟩
  have h1 := (keyf p q).1 h
  have h2 := (keyf q r).1 k
  rcases ltP_total p q with h3 | rfl | h3
  · exact h1 h3
  · exact h2 hpr
  · exact h2 (ltP_trans h3 hpr)

end Go.Proofs.YtibobcjfjnoclaaGreatDoor.Z
end
section
/- An own slice of points as the shelf's row, and back. -/
set_option linter.unusedVariables false
set_option linter.unusedSimpArgs false
set_option linter.unusedSectionVars false
namespace Go.Proofs.YtibobcjfjnoclaaGreatDoor.Z
open Go Go.RowKit Go.Sort Go.Lib

instance : Inhabited B32 := ⟨⟨List.replicate 32 0, by simp⟩⟩

def flatP (xs : List B32) : List Value := (xs.map B32.cells).flatten
theorem flatP_length (xs : List B32) : (flatP xs).length = xs.length * 32 := by
  induction xs with
  | nil => rfl
  | cons a r ih => simp only [flatP, List.map_cons, List.flatten_cons, List.length_append, List.length_cons, B32.length] at *; omega
theorem flatP_get (xs : List B32) (t : Nat) (h : t < xs.length * 32) : (flatP xs)[t]? = some (xs[t / 32]!).cells[t % 32]! := by
  induction xs generalizing t with
  | nil => simp at h
  | cons a r ih =>
    have hl : (flatP (a :: r)) = a.cells ++ flatP r := by simp [flatP]
    rw [hl]
    by_cases h1 : t < 32
    · rw [List.getElem?_append_left (by rw [B32.length]; exact h1), Nat.div_eq_of_lt h1, Nat.mod_eq_of_lt h1]
      have : t < a.cells.length := by rw [B32.length]; exact h1
      simp [List.getElem?_eq_getElem this, getElem!_pos a.cells t this]
    · obtain ⟨u, rfl⟩ : ∃ u, t = 32 + u := ⟨t - 32, by omega⟩
      rw [List.getElem?_append_right (by rw [B32.length]; omega), B32.length, show 32 + u - 32 = u by omega, ih u (by simp at h; omega)]
      rw [show (32 + u) / 32 = u / 32 + 1 by omega, show (32 + u) % 32 = u % 32 by omega]
      congr 1
theorem flatK_flatP (xs : List B32) : flatK B32.cells 32 xs.toArray = (flatP xs).toArray := by
  apply Array.ext
  · simp [flatP_length]
  · intro t h1 h2
    have h1' : t < xs.length * 32 := by simpa using h1
    have e1 := get_flatK B32.cells 32 xs.toArray t (by simpa using h1')
    rw [getElem!_pos _ t h1] at e1
    have e2 := flatP_get xs t h1'
    rw [List.getElem?_eq_getElem (by rw [flatP_length]; exact h1')] at e2
    rw [e1]
    simp only [Option.some.injEq] at e2
    simp only [List.getElem_toArray]
    rw [e2]
    simp

section
variable {w : World} {e g n cap : Nat} {cur : Array Value} {xs : List B32}
theorem row_holds (hg : w.heap[g]? = some (.cells cur e (0, 0))) (hx : cur.toList.take (n * 32) = flatP xs) (hn : xs.length = n) : HoldsK B32.cells 32 w g 0 xs.toArray := by
  unfold HoldsK
  rw [flatK_flatP]
  intro j hj
  have hj' : j < xs.length * 32 := by simpa [flatP_length] using hj
  have h1 : (flatP xs)[j]? = cur[j]? := by
    rw [← hx, List.getElem?_take, if_pos (by rw [← hn]; exact hj')]
    simp
  refine ⟨?_, by simp [World.frozen?, hg]⟩
  simp only [World.cell?, hg, Nat.zero_add]
  have hlt : j < (flatP xs).length := by rw [flatP_length]; exact hj'
  rw [← h1, getElem!_pos _ j (by simpa using hlt)]
  simp [List.getElem?_eq_getElem hlt]

theorem row_back {d' : List B32} {m : Nat} {os : Array Obj} (hg : w.heap[g]? = some (.cells cur e (0, 0))) (hs : n * 32 ≤ cur.size) (hn : d'.length = n) :
    ExtX w (fun b => b = g) (sortWorldK B32.cells 32 w g 0 m d'.toArray os) ∧ ∃ cur', (sortWorldK B32.cells 32 w g 0 m d'.toArray os).heap[g]? = some (.cells cur' e (0, 0)) ∧ cur'.size = cur.size ∧ cur'.toList.take (n * 32) = flatP d' := by
  have hlt : g < w.heap.size := (Array.getElem?_eq_some_iff.1 hg).1
  refine ⟨⟨rfl, rfl, rfl, ?_, ?_⟩, putCells id 0 (flatP d').toArray cur, ?_, by simp [putCells], ?_⟩
  · simp [sortWorldK, putRowK, putRow, mapBlock, grow, Sort.ahead]
  · intro b hb hne
    have h1 : (w.heap.modify g (onCells (putCells id 0 (flatK B32.cells 32 d'.toArray))))[b]? = w.heap[b]? := by rw [Array.getElem?_modify, if_neg (Ne.symm hne)]
    simp only [sortWorldK, putRowK, putRow, mapBlock, grow, Sort.ahead]
    rw [Array.getElem?_append_left (by simpa using hb)]
    exact h1
  · simp only [sortWorldK, putRowK, putRow, mapBlock, grow, Sort.ahead, flatK_flatP]
    rw [Array.getElem?_append_left (by simpa using hlt), Array.getElem?_modify, if_pos rfl, hg]
    rfl
  · apply List.ext_getElem?
    intro t
    rw [List.getElem?_take]
    split
    · rename_i h
      have h3 : t < (flatP d').length := by rw [flatP_length, hn]; exact h
      have h4 : t < cur.size := by omega
      simp only [putCells, Array.getElem?_toList, Array.getElem?_mapIdx, Array.getElem?_eq_getElem h4, Option.map_some]
      rw [if_pos ⟨Nat.zero_le _, by simpa using h3⟩, getElem!_pos _ _ (by simpa using h3)]
      simp [List.getElem?_eq_getElem h3]
    · rename_i h
      rw [List.getElem?_eq_none (by rw [flatP_length, hn]; omega)]
end
end Go.Proofs.YtibobcjfjnoclaaGreatDoor.Z
end
section
/- a sort as the library has it: its numbers in this program. Written by the shelf's lay-plain. -/
namespace Go.Proofs
open Go.Shelf
def Tryz.sortPt_ren : Go.Shelf.Ren := ⟨fun | 6 => 59 | 15 => 57 | 14 => 89 | 28 => 87 | 29 => 88 | 20 => 105 | 21 => 106 | 22 => 107 | 23 => 108 | 24 => 109 | 25 => 110 | 26 => 111 | 27 => 112 | 46 => 118 | 47 => 100 | 48 => 101 | 49 => 119 | 50 => 120 | 57 => 122 | n => n, fun | 22 => 35 | 24 => 27 | 25 => 97 | 3 => 3 | 39 => 47 | 0 => 0 | 53 => 29 | 55 => 61 | 4 => 4 | 46 => 109 | 45 => 108 | 50 => 114 | 5 => 5 | 9 => 9 | 66 => 125 | 70 => 129 | 76 => 140 | 77 => 38 | n => n, fun | n => n⟩
theorem Tryz.sortPt : Go.Proofs.SlLaysF0.n6 Tryz.prog Tryz.sortPt_ren := {
  mixed := by kernel_rfl
  f6 := ⟨Tryz.f59.name, by decide, Tryz.func59.trans (congrArg some (by kernel_rfl))⟩
  f14 := ⟨Tryz.f89.name, by decide, Tryz.func89.trans (congrArg some (by kernel_rfl))⟩
  f15 := Tryz.func57.trans (congrArg some (by kernel_rfl))
  f20 := ⟨Tryz.f105.name, by decide, Tryz.func105.trans (congrArg some (by kernel_rfl))⟩
  f21 := ⟨Tryz.f106.name, by decide, Tryz.func106.trans (congrArg some (by kernel_rfl))⟩
  f22 := ⟨Tryz.f107.name, by decide, Tryz.func107.trans (congrArg some (by kernel_rfl))⟩
  f23 := ⟨Tryz.f108.name, by decide, Tryz.func108.trans (congrArg some (by kernel_rfl))⟩
  f24 := ⟨Tryz.f109.name, by decide, Tryz.func109.trans (congrArg some (by kernel_rfl))⟩
  f25 := ⟨Tryz.f110.name, by decide, Tryz.func110.trans (congrArg some (by kernel_rfl))⟩
  f26 := ⟨Tryz.f111.name, by decide, Tryz.func111.trans (congrArg some (by kernel_rfl))⟩
  f27 := ⟨Tryz.f112.name, by decide, Tryz.func112.trans (congrArg some (by kernel_rfl))⟩
  f28 := Tryz.func87.trans (congrArg some (by kernel_rfl))
  f29 := Tryz.func88.trans (congrArg some (by kernel_rfl))
  f46 := ⟨Tryz.f118.name, by decide, Tryz.func118.trans (congrArg some (by kernel_rfl))⟩
  f47 := Tryz.func100.trans (congrArg some (by kernel_rfl))
  f48 := Tryz.func101.trans (congrArg some (by kernel_rfl))
  f49 := ⟨Tryz.f119.name, by decide, Tryz.func119.trans (congrArg some (by kernel_rfl))⟩
  f50 := ⟨Tryz.f120.name, by decide, Tryz.func120.trans (congrArg some (by kernel_rfl))⟩
  f57 := ⟨Tryz.f122.name, by decide, Tryz.func122.trans (congrArg some (by kernel_rfl))⟩
  t0 := Tryz.underlying0
  a0 := Tryz.isAgg0
  z0 := Tryz.sizeOf0
  v0 := Tryz.zeroValue0
  t3 := Tryz.underlying3
  a3 := Tryz.isAgg3
  z3 := Tryz.sizeOf3
  v3 := Tryz.zeroValue3
  t4 := Tryz.underlying4
  a4 := Tryz.isAgg4
  z4 := Tryz.sizeOf4
  v4 := Tryz.zeroValue4
  t5 := Tryz.underlying5
  a5 := Tryz.isAgg5
  z5 := Tryz.sizeOf5
  v5 := Tryz.zeroValue5
  t9 := Tryz.underlying9
  a9 := Tryz.isAgg9
  z9 := Tryz.sizeOf9
  v9 := Tryz.zeroValue9
  t22 := Tryz.underlying35
  a22 := Tryz.isAgg35
  z22 := Tryz.sizeOf35
  v22 := Tryz.zeroValue35
  t25 := Tryz.underlying97
  a25 := Tryz.isAgg97
  z25 := Tryz.sizeOf97
  v25 := Tryz.zeroValue97
  t39 := Tryz.underlying47
  a39 := Tryz.isAgg47
  z39 := Tryz.sizeOf47
  v39 := Tryz.zeroValue47
  t45 := Tryz.underlying108
  a45 := Tryz.isAgg108
  z45 := Tryz.sizeOf108
  v45 := Tryz.zeroValue108
  t46 := Tryz.underlying109
  a46 := Tryz.isAgg109
  z46 := Tryz.sizeOf109
  v46 := Tryz.zeroValue109
  t50 := Tryz.underlying114
  a50 := Tryz.isAgg114
  z50 := Tryz.sizeOf114
  v50 := Tryz.zeroValue114
  t53 := Tryz.underlying29
  a53 := Tryz.isAgg29
  z53 := Tryz.sizeOf29
  v53 := Tryz.zeroValue29
  t55 := Tryz.underlying61
  a55 := Tryz.isAgg61
  z55 := Tryz.sizeOf61
  v55 := Tryz.zeroValue61
  t66 := Tryz.underlying125
  a66 := Tryz.isAgg125
  z66 := Tryz.sizeOf125
  v66 := Tryz.zeroValue125
  t70 := Tryz.underlying129
  a70 := Tryz.isAgg129
  z70 := Tryz.sizeOf129
  v70 := Tryz.zeroValue129
  t76 := Tryz.underlying140
  a76 := Tryz.isAgg140
  z76 := Tryz.sizeOf140
  v76 := Tryz.zeroValue140
  t77 := Tryz.underlying38
  a77 := Tryz.isAgg38
  z77 := Tryz.sizeOf38
  v77 := Tryz.zeroValue38 }
end Go.Proofs
end
section
/- slices.SortFunc, slices.SortedFunc, coin.Points. -/
set_option linter.unusedVariables false
set_option linter.unusedSimpArgs false
set_option linter.unusedSectionVars false
set_option maxRecDepth 100000
set_option maxHeartbeats 4000000
namespace Go.Proofs.YtibobcjfjnoclaaGreatDoor.Z
open Go Go.RowKit Go.Sort Go.Lib

theorem insNil_ok (c : Value) (w : World) : Ret P 105 #[.slice none 0 0, .int .i64 0, .int .i64 0, c] w (fun r w' => w' = w ∧ r = .tuple #[]) := by
  refine Ret.enter4 Tryz.func105 rfl Tryz.ntmps105 rfl ?_
  refine ZC.seq ?_; refine ZC.region ?_; refine ZL.val (r_move rfl) rfl ?_; refine ZL.val (r_add rfl rfl (wrap_i64 (by omega) (by omega))) rfl ?_; refine ZL.val (r_assign rfl) rfl ?_; refine ZL.nil ?_; refine ZP.then ?_; refine ZC.block ?_
  refine ZC.loop (X := Unit) (fun _ => [(8, .int .i64 1), (0, .slice none 0 0), (1, .int .i64 0), (2, .int .i64 0), (3, c)]) (fun _ w' => w' = w) (fun _ => 0) () ⟨rfl, rfl, rfl, rfl, rfl, trivial⟩ rfl ?_
  rintro ⟨⟩ w1 rfl
  refine ZC.seq ?_; refine ZC.seq ?_; refine ZC.region ?_; refine ZL.val (r_move rfl) rfl ?_; refine ZL.val (r_move rfl) rfl ?_; refine ZL.val (r_lss rfl rfl) rfl ?_; refine ZL.nil ?_; refine ZP.then ?_
  refine ZC.condD rfl (fun hh => absurd hh (by omega)) (fun _ => ?_)
  refine ZC.exit ?_; refine ZP.thenX ?_; refine ZP.thenX ?_; refine ZP.blockE ?_
  exact ZP.end0 rfl ⟨rfl, rfl⟩
theorem pdqNil_ok (c : Value) (n : Int) (w : World) : Ret P 89 #[.slice none 0 0, .int .i64 0, .int .i64 0, .int .i64 n, c] w (fun r w' => w' = w ∧ r = .tuple #[]) := by
  refine Ret.enter5 Tryz.func89 rfl Tryz.ntmps89 rfl ?_
  refine ZC.seq ?_; refine ZC.region ?_; refine ZL.val (r_assign rfl) rfl ?_; refine ZL.nil ?_; refine ZP.then ?_; refine ZC.seq ?_; refine ZC.region ?_; refine ZL.val (r_assign rfl) rfl ?_; refine ZL.nil ?_; refine ZP.then ?_; refine ZC.block ?_
  refine ZC.loop (X := Unit) (fun _ => [(11, .bool true), (10, .bool true), (0, .slice none 0 0), (1, .int .i64 0), (2, .int .i64 0), (3, .int .i64 n), (4, c)]) (fun _ w' => w' = w) (fun _ => 0) () ⟨rfl, rfl, rfl, rfl, rfl, rfl, rfl, trivial⟩ rfl ?_
  rintro ⟨⟩ w1 rfl
  refine ZC.block ?_; refine ZC.seq ?_; refine ZC.region ?_; refine ZL.val (r_move rfl) rfl ?_; refine ZL.val (r_move rfl) rfl ?_; refine ZL.val (r_sub rfl rfl (wrap_i64 (by omega) (by omega))) rfl ?_; refine ZL.val (r_assign rfl) rfl ?_; refine ZL.nil ?_; refine ZP.then ?_; refine ZC.seq ?_; refine ZC.seq ?_; refine ZC.region ?_; refine ZL.val (r_move rfl) rfl ?_; refine ZL.val (r_leq rfl rfl) rfl ?_; refine ZL.nil ?_; refine ZP.then ?_
  refine ZC.condD rfl (fun _ => ?_) (fun hh => absurd (by omega) hh)
  refine ZC.seq ?_; refine ZC.region ?_; refine ZL.val (r_move rfl) rfl ?_; refine ZL.val (r_move rfl) rfl ?_; refine ZL.val (r_move rfl) rfl ?_; refine ZL.val (r_move rfl) rfl ?_
  refine ZL.call (r_call rfl) rfl (insNil_ok c w1) (fun v2 w2 hv => ?_)
  obtain ⟨rfl, rfl⟩ := hv
  refine ZL.nil ?_; refine ZP.then ?_; refine ZC.ret ?_; refine ZP.thenR ?_; refine ZP.blockR ?_; refine ZP.thenR ?_; refine ZP.blockR ?_
  exact ZP.ret0 rfl ⟨rfl, rfl⟩

theorem LenNil_ok (w : World) : Ret P 57 #[.int .u64 0] w (fun r w' => w' = w ∧ ∃ n, r = .int .i64 n) := by
  have h := Any.bits_Len (SlLaysF0.n15.bits (P := Tryz.prog) (ρ := Tryz.sortPt_ren) { Tryz.sortPt with }) 0 w (by omega) (by omega)
  exact ⟨h.mono fun e w' ⟨he, hw⟩ => ⟨_, he, hw, _, rfl⟩⟩

theorem sortNil_ok (c : Value) (w : World) : Ret P 59 #[.slice none 0 0, c] w (fun r w' => w' = w ∧ r = .tuple #[]) := by
  refine Ret.enter2 Tryz.func59 rfl Tryz.ntmps59 rfl ?_
  refine ZC.seq ?_; refine ZC.region ?_; refine ZL.val (r_move rfl) rfl ?_; refine ZL.val (r_lenSlice rfl) rfl ?_; refine ZL.val (r_assign rfl) rfl ?_; refine ZL.nil ?_; refine ZP.then ?_; refine ZC.region ?_; refine ZL.val (r_move rfl) rfl ?_; refine ZL.val (r_move rfl) rfl ?_; refine ZL.val (r_move rfl) rfl ?_; refine ZL.val (r_convInt rfl (wrap_u64 (by omega) (by omega))) rfl ?_
  refine ZL.call (r_call rfl) rfl (LenNil_ok w) (fun v2 w2 hv => ?_)
  obtain ⟨rfl, l, rfl⟩ := hv
  refine ZL.val (r_move rfl) rfl ?_
  refine ZL.call (r_call rfl) rfl (pdqNil_ok c l w2) (fun v2 w2 hv => ?_)
  obtain ⟨rfl, rfl⟩ := hv
  refine ZL.nil ?_
  exact ZP.end0 rfl ⟨rfl, rfl⟩

theorem cmpLays (blk off size : Nat) (w : World) : CmpLays Tryz.prog 60 #[] B32.cells 32 cmpP blk off size w := by
  intro m os dk hs x y
  refine (shasCompareG x y _).h.mono ?_
  rintro e w' ⟨v, rfl, _, hG, rfl⟩
  exact ⟨rfl, hG⟩
theorem cmp_eg : ∀ args w, (callFunc 60 args).run Tryz.prog w = .ok (.enter 60 args) w := enters_of Tryz.func60 (by kernel_rfl) rfl
theorem B32.oneL (x : B32) : ∀ v ∈ x.cells, v.oneCell' = true := by have := (B32.one x); simpa [List.all_eq_true] using this

theorem SortFunc_ok (e n : Nat) (v : Value) (xs : List B32) (w : World) (hO : OwnR w e 32 v n (flatP xs)) (hl : xs.length = n) (hn : n ≤ 100000) :
    Ret P 59 #[v, .func (.func 60) #[] #[]] w
      (fun r w' => r = .tuple #[] ∧ ExtX w (fun b => v.ownBlock = some b) w' ∧ ∃ ys : List B32, ys.Perm xs ∧ ys.Pairwise (fun a b => ¬ ltP b a) ∧ OwnR w' e 32 v n (flatP ys)) := by
  rcases hO.2 with ⟨rfl, rfl⟩ | ⟨g, cap, cur, rfl, hg, h1, h2, h3, h4⟩
  · obtain rfl : xs = [] := List.length_eq_zero_iff.1 hl
    refine (sortNil_ok _ w).mono fun r w' ⟨hw, hr⟩ => ⟨hr, hw ▸ ExtX.refl _ _, [], List.Perm.refl _, List.Pairwise.nil, hw ▸ hO⟩
  · have hH := row_holds hg h4 hl
    have hlt : g < w.heap.size := (Array.getElem?_eq_some_iff.1 hg).1
    have hcon := AnyQ.slices_SortFunc Tryz.sortPt 32 (by intro w; exact Tryz.isAgg27 w) (by intro w; exact Tryz.sizeOf27 w) B32.cells B32.length B32.oneL cmpP cmpP_swo 60 #[] g 0 cap xs.toArray w cmp_eg (cmpLays g 0 _ w) hH hlt (by simp; omega)
    simp only [List.size_toArray, hl] at hcon
    refine ⟨Calls.mono hcon ?_⟩
    rintro r w' ⟨rfl, d', m, os, hp, hs, rfl⟩
    refine ⟨_, rfl, rfl, ?_⟩
    obtain ⟨hsz, _, hperm⟩ := hp
    have hsz' : d'.size = n := by simpa [hl] using hsz
    have hb := row_back (d' := d'.toList) (m := m) (os := os) hg (Nat.le_trans (Nat.mul_le_mul_right 32 h1) h3) (by simpa using hsz')
    rw [Array.toArray_toList] at hb
    obtain ⟨hE, cur', hg', hsc, ht⟩ := hb
    refine ⟨?_, d'.toList, ?_, ?_, ?_, .inr ⟨g, cap, cur', rfl, hg', h1, h2, by rw [hsc]; exact h3, ht⟩⟩
    · exact hE.mono fun b hb => by subst hb; rfl
    · have e1 : d'.extract 0 n = d' := by rw [← hsz']; exact Array.extract_size
      have e2 : xs.toArray.extract 0 n = xs.toArray := by rw [show n = xs.toArray.size by simp [hl]]; exact Array.extract_size
      rw [e1, e2] at hperm
      exact hperm
    · rw [List.pairwise_iff_getElem]
      intro i j hi hj hij
      have := hs i j (Nat.zero_le _) hij (by simpa [hsz'] using hj)
      rw [getElem!_pos d' j (by simpa using hj), getElem!_pos d' i (by simpa using hi)] at this
      simp only [ltOf, decide_eq_false_iff_not, cmpP_lt] at this
      simpa using this
    · rw [flatP_length]; simp [hsz']

end Go.Proofs.YtibobcjfjnoclaaGreatDoor.Z
end
section
/- shas.Rising: names in order, each once. -/
set_option linter.unusedVariables false
set_option linter.unusedSimpArgs false
set_option linter.unusedSectionVars false
set_option maxRecDepth 100000
set_option maxHeartbeats 4000000
namespace Go.Proofs.YtibobcjfjnoclaaGreatDoor.Z
open Go Go.RowKit Go.Sort Go.Lib

theorem flatP_set : ∀ (zs : List B32) (k : Nat) (x : B32), k < zs.length → flatP (zs.set k x) = (flatP zs).take (k * 32) ++ x.cells ++ (flatP zs).drop (k * 32 + 32)
  | [], k, x, h => by simp at h
  | a :: r, 0, x, h => by
    have ha : a.cells.length = 32 := B32.len a
    simp [flatP, List.drop_append, ha]
  | a :: r, k + 1, x, h => by
    have ih := flatP_set r k x (by simpa using h)
    have ha : a.cells.length = 32 := B32.len a
    have e : ∀ (l : List B32), flatP (a :: l) = a.cells ++ flatP l := fun l => by simp [flatP]
    rw [List.set_cons_succ, e, e, ih, List.take_append, List.drop_append, ha]
    rw [List.take_of_length_le (by omega : a.cells.length ≤ (k + 1) * 32), List.drop_of_length_le (by omega : a.cells.length ≤ (k + 1) * 32 + 32)]
    rw [show (k + 1) * 32 - 32 = k * 32 by omega, show (k + 1) * 32 + 32 - 32 = k * 32 + 32 by omega]
    simp
theorem take_splice {A X : List Value} {N o : Nat} (h1 : o + X.length ≤ N) (h2 : N ≤ A.length) : (A.take o ++ X ++ A.drop (o + X.length)).take N = (A.take N).take o ++ X ++ (A.take N).drop (o + X.length) := by
  rw [List.take_append, List.take_of_length_le (by simp; omega), List.take_take, Nat.min_eq_left (by omega : o ≤ N), List.drop_take]
  congr 2
  simp; omega
theorem own_set {w : World} {e g n cap k : Nat} {zs : List B32} {x : B32} {cur : Array Value} (hz : zs.length = n) (hg : w.heap[g]? = some (.cells cur e (0, 0))) (h1 : n ≤ cap) (h2 : cap ≤ maxLen) (h3 : cap * 32 ≤ cur.size) (h4 : cur.toList.take (n * 32) = flatP zs) (hk : k < n) :
    ∃ cur', splice cur (k * 32) x.cells.toArray = cur' ∧ cur'.size = cur.size ∧ cur'.toList.take (n * 32) = flatP (zs.set k x) := by
  refine ⟨_, rfl, ?_, ?_⟩
  · simp [splice, B32.len]; omega
  · have hle : n * 32 ≤ cur.toList.length := by simp; omega
    have hx := B32.len x
    have := take_splice (A := cur.toList) (X := x.cells) (N := n * 32) (o := k * 32) (by omega) hle
    rw [hx, h4] at this
    rw [flatP_set zs k x (by omega), ← this]
    simp [splice, hx]
abbrev IdE (w : World) (X : Nat → Prop) (r : List Value) (a : B32) : Prop := r = a.cells
theorem ids_list {w : World} {X : Nat → Prop} {v : Value} {n : Nat} {l : List B32} (h : SlC w X 32 v n (flatP l)) (hn : l.length = n) : ListR IdE 32 w X v l :=
  ⟨l.map B32.cells, by simp, (fun r hr => by obtain ⟨a, _, rfl⟩ := List.mem_map.1 hr; exact B32.len a), hn ▸ h, fun i r a hr ha => by
    rw [List.getElem?_map, ha] at hr
    exact (Option.some.inj hr).symm⟩
theorem OwnR.idAt {w : World} {e n cap : Nat} {p : Option Addr} {l : List B32} (h : OwnR w e 32 (.slice p n cap) n (flatP l)) (hn : l.length = n) {i : Nat} (hi : i < n) :
    ∃ g cs fz e', p = some ⟨g, 0, none⟩ ∧ w.heap[g]? = some (.cells cs e' fz) ∧ i * 32 + 32 ≤ cs.size ∧ cs.extract (i * 32) (i * 32 + 32) = (l[i]'(by omega)).cells.toArray := by
  have hL := ids_list (h.slc (X := No) (fun _ _ h => h)) hn
  obtain ⟨g, o, cs, e', fz, r, rfl, hh, hx, hlen, hE, hcell, hsz, hext⟩ := ListR.elem (by decide) hL (i := i) (by omega)
  rw [show r = (l[i]'(by omega)).cells from hE] at hext
  rcases h.2 with ⟨hv, _⟩ | ⟨g', cap', cur, hv, _⟩
  · cases hv
  · simp only [Value.slice.injEq, Option.some.injEq, Addr.mk.injEq, and_true, true_and] at hv
    obtain ⟨⟨rfl, rfl⟩, _⟩ := hv
    rw [Nat.zero_add] at hsz hext
    exact ⟨g, cs, fz, e', rfl, hh, hsz, hext⟩

theorem OwnR.row {w : World} {e n cap g : Nat} {cur : Array Value} {ety : TypeId} {fz : Nat × Nat} {l : List B32} (h : OwnR w e 32 (.slice (some ⟨g, 0, none⟩) n cap) n (flatP l)) (hg : w.heap[g]? = some (.cells cur ety fz)) (hn : l.length = n) {i : Nat} (hi : i < n) {o : Nat} (ho : o = i * 32) :
    o + 32 ≤ cur.size ∧ cur.extract o (o + 32) = (l[i]'(by omega)).cells.toArray := by
  obtain ⟨g', cs, fz', e', hp, hh, h1, h2⟩ := h.idAt hn hi
  simp only [Option.some.injEq, Addr.mk.injEq, and_true] at hp
  subst hp
  rw [hg] at hh
  simp only [Option.some.injEq, Obj.cells.injEq] at hh
  obtain ⟨rfl, _⟩ := hh
  subst ho
  exact ⟨h1, h2⟩
theorem flatP_take : ∀ (l : List B32) (k : Nat), flatP (l.take k) = (flatP l).take (k * 32)
  | [], k => by simp [flatP]
  | a :: r, 0 => by simp [flatP]
  | a :: r, k + 1 => by
    have e : ∀ (l : List B32), flatP (a :: l) = a.cells ++ flatP l := fun l => by simp [flatP]
    have ha : a.cells.length = 32 := B32.len a
    rw [List.take_succ_cons, e, e, flatP_take r k, List.take_append, ha, List.take_of_length_le (by omega : a.cells.length ≤ (k + 1) * 32), show (k + 1) * 32 - 32 = k * 32 by omega]
section
variable {P : Program} {σ : Env} {w : World} {x : Operand}
theorem vw_clear {t e s by' g o n c : Nat} {cur : Array Value} {z : Value} {ety : TypeId} [TU P t (.slice e)] [te : TE P e s by' z] (hx : ev σ x = some (.slice (some ⟨g, o, none⟩) n c)) (hn : 0 < n) (hg : w.heap[g]? = some (.cells cur ety (0, 0)))
    (hf : o + n * s ≤ cur.size) (h1 : ∀ u ∈ z.cells.toList, u.oneCell' = true) : ∃ cur', VW P σ (.call ⟨.builtin .clear, #[x], #[t]⟩) (.tuple #[]) w (w.setRow g cur') ∧ cur'.size = cur.size ∧ ∀ k, k ≤ o → cur'.toList.take k = cur.toList.take k := by
  have hz := te.hz
  have hpos := te.pos
  have htz := te.tz
  have hlen : (Builtin.zeroCells z.cells n).toList.length = n * s := by simp [Builtin.zeroCells, hz]
  have hone : ∀ u ∈ (Builtin.zeroCells z.cells n).toList, u.oneCell' = true := by
    intro u hu
    simp only [Builtin.zeroCells, Array.toList_map, List.mem_map] at hu
    obtain ⟨i, _, rfl⟩ := hu
    have hlt : i % z.cells.size < z.cells.size := Nat.mod_lt _ (by omega)
    rw [getElem!_pos z.cells (i % z.cells.size) hlt]
    exact h1 _ (by simp)
  have hst := run_storeCells_at P g o ety (Builtin.zeroCells z.cells n).toList 0 cur w hg (by rw [hlen]; omega) hone
  simp only [Nat.add_zero] at hst
  refine ⟨(cur.toList.take o ++ (Builtin.zeroCells z.cells n).toList ++ cur.toList.drop (o + (Builtin.zeroCells z.cells n).toList.length)).toArray, ⟨fun ρ ha op ho => exec_builtin ho fun cs => ?_⟩, ?_, ?_⟩
  rotate_left
  · simp only [List.size_toArray, List.length_append, List.length_take, List.length_drop, Array.length_toList, hlen] at *; omega
  · intro k hk
    simp only [List.append_assoc]
    rw [List.take_append_of_le_length (by simp; omega), List.take_take, Nat.min_eq_left hk]
  · obtain ⟨m, rfl⟩ : ∃ m, n = m + 1 := ⟨n - 1, by omega⟩
    simp [ha _ _ hx, builtin, Builtin.clear_, run_under' (t := t), run_zero' (t := e), hst]
end

theorem clip32_ok (v : Value) (e s n : Nat) (xs : List Value) (w : World) (h : OwnR w e s v n xs) :
    Ret P 61 #[v] w (fun r w' => w = w' ∧ OwnR w e s r n xs ∧ r.ownBlock = v.ownBlock) := by
  obtain ⟨p, c, rfl⟩ := h.shape
  obtain ⟨h1, h2⟩ := h.clip
  refine Ret.enter1 Tryz.func61 rfl Tryz.ntmps61 rfl ?_
  refine ZC.seq ?_; refine ZC.region ?_; refine ZL.val (r_assign rfl) rfl ?_; refine ZL.nil ?_; refine ZP.then ?_; refine ZC.seq ?_; refine ZC.region ?_; refine ZL.val (r_move rfl) rfl ?_; refine ZL.val (r_move rfl) rfl ?_; refine ZL.val (r_lenSlice rfl) rfl ?_; refine ZL.val (r_move rfl) rfl ?_; refine ZL.val (r_lenSlice rfl) rfl ?_
  refine ZL.val (r_slice3 rfl rfl rfl (by omega) (by omega) (by omega)) rfl ?_
  refine ZL.val (r_assign rfl) rfl ?_; refine ZL.nil ?_; refine ZP.then ?_; refine ZC.ret ?_
  refine ZP.ret1 rfl rfl ⟨rfl, h1, ?_⟩
  cases p <;> rfl
theorem flatP_one (l : List B32) : ∀ x ∈ flatP l, x.oneCell' = true := by
  intro x hx
  simp only [flatP, List.mem_flatten, List.mem_map] at hx
  obtain ⟨c, ⟨a, _, rfl⟩, hx⟩ := hx
  exact u8_one _ _ hx
theorem clone32_ok (v : Value) (l : List B32) (w : World) (X : Nat → Prop) (h : SlC w X 32 v l.length (flatP l)) (hl : l.length ≤ 100000) :
    Ret P 58 #[v] w (fun r w' => Ext w w' ∧ NewO w w' 27 32 r l.length (flatP l)) := by
  obtain ⟨p, c, rfl⟩ := h.shape
  refine Ret.enter1 Tryz.func58 rfl Tryz.ntmps58 rfl ?_
  refine ZC.seq ?_; refine ZC.region ?_; refine ZL.val (r_assign rfl) rfl ?_; refine ZL.nil ?_; refine ZP.then ?_; refine ZC.seq ?_; refine ZC.seq ?_; refine ZC.region ?_; refine ZL.val (r_move rfl) rfl ?_; refine ZL.val (r_eqlSliceNil rfl rfl) rfl ?_; refine ZL.nil ?_; refine ZP.then ?_
  refine ZC.cond rfl (fun hc => ?_) (fun hc => ?_)
  · refine ZC.seq ?_; refine ZC.region ?_; refine ZL.val (r_assign rfl) rfl ?_; refine ZL.nil ?_; refine ZP.then ?_; refine ZC.ret ?_; refine ZP.thenR ?_
    refine ZP.ret1 rfl rfl ⟨.refl _ _, ?_, ?_⟩
    · rcases h.2 with ⟨hv, h0⟩ | ⟨g, o, c', cs, e, fz, hv, _⟩
      · obtain rfl : l = [] := List.eq_nil_of_length_eq_zero h0
        exact OwnR.nil _ _ _
      · simp only [Value.slice.injEq] at hv
        obtain ⟨rfl, _⟩ := hv
        cases hc
    · intro g hg; simp [Value.ownBlock] at hg
  · refine ZC.skip ?_; refine ZP.then ?_; refine ZC.seq ?_; refine ZC.region ?_
    refine ZL.bslice (Mem.start w No) rfl rfl rfl (by simp) (by decide) rfl (fun g w1 M1 => ?_)
    refine ZL.val (r_move rfl) rfl ?_
    refine ZL.append M1 rfl rfl (h.mv (Mv.ext M1.ext)) (flatP_one l) (by simp only [maxLen]; omega) (by omega) rfl (fun v2 w2 M2 => ?_)
    refine ZL.val (r_assign rfl) rfl ?_; refine ZL.nil ?_; refine ZP.then ?_; refine ZC.ret ?_
    exact ZP.ret1 rfl rfl (M2.new (by simp) (by simp))

theorem Compact_ok (v : Value) (n : Nat) (xs : List B32) (w : World) (hO : OwnR w 27 32 v n (flatP xs)) (hl : xs.length = n) (hn : n ≤ 100000) (hs : xs.Pairwise (fun a b => ¬ ltP b a)) :
    Ret P 62 #[v] w (fun r w' => ExtX w (fun b => v.ownBlock = some b) w' ∧ ∃ ys : List B32, ys.Pairwise ltP ∧ (∀ x, x ∈ ys ↔ x ∈ xs) ∧ OwnR w' 27 32 r ys.length (flatP ys) ∧ (∀ g, r.ownBlock = some g → v.ownBlock = some g)) := by
  have hle : ∀ i j (hi : i < xs.length) (hj : j < xs.length), i < j → ¬ ltP xs[j] xs[i] := fun i j hi hj hij => List.pairwise_iff_getElem.1 hs i j hi hj hij
  obtain ⟨p, cap, rfl⟩ := hO.shape
  refine Ret.enter1 Tryz.func62 rfl Tryz.ntmps62 rfl ?_
  refine ZC.seq ?_; refine ZC.region ?_; refine ZL.val (r_assign rfl) rfl ?_; refine ZL.nil ?_; refine ZP.then ?_; refine ZC.seq ?_; refine ZC.seq ?_; refine ZC.region ?_; refine ZL.val (r_move rfl) rfl ?_; refine ZL.val (r_lenSlice rfl) rfl ?_; refine ZL.val (r_lss rfl rfl) rfl ?_; refine ZL.nil ?_; refine ZP.then ?_
  refine ZC.condD rfl (fun hc => ?_) (fun hc => ?_)
  · refine ZC.seq ?_; refine ZC.region ?_; refine ZL.val (r_move rfl) rfl ?_; refine ZL.val (r_assign rfl) rfl ?_; refine ZL.nil ?_; refine ZP.then ?_; refine ZC.ret ?_; refine ZP.thenR ?_
    refine ZP.ret1 rfl rfl ⟨ExtX.refl _ _, xs, ?_, fun _ => Iff.rfl, hl.symm ▸ hO, fun _ h => h⟩
    rw [List.pairwise_iff_getElem]
    intro i j hi hj hij
    omega
  · have hn2 : 2 ≤ n := by omega
    rcases hO.2 with ⟨hv, h0⟩ | ⟨g, cap', cur, hv, hg, h1, h2, h3, h4⟩
    · omega
    simp only [Value.slice.injEq, true_and] at hv
    obtain ⟨rfl, rfl⟩ := hv
    refine ZC.skip ?_; refine ZP.then ?_; refine ZC.seq ?_; refine ZC.seq ?_; refine ZC.region ?_; refine ZL.val (r_assign rfl) rfl ?_; refine ZL.nil ?_; refine ZP.then ?_; refine ZC.block ?_
    refine ZC.loop (X := Nat) (fun k => [(3, .int .i64 k), (0, .slice (some ⟨g, 0, none⟩) n cap)])
      (fun k w' => Ext w w' ∧ 1 ≤ k ∧ k ≤ n ∧ (xs.take k).Pairwise ltP) (fun k => n - k) 1 ⟨rfl, rfl, trivial⟩ ⟨ExtX.refl _ _, by omega, by omega, ?_⟩ ?_
    · rw [List.pairwise_iff_getElem]
      intro i j hi hj hij
      simp only [List.length_take] at hj
      omega
    rintro k w1 ⟨E1, hk1, hkn, hp⟩
    refine ZC.seq ?_; refine ZC.seq ?_; refine ZC.region ?_; refine ZL.val (r_move rfl) rfl ?_; refine ZL.val (r_move rfl) rfl ?_; refine ZL.val (r_lenSlice rfl) rfl ?_; refine ZL.val (r_lss rfl rfl) rfl ?_; refine ZL.nil ?_; refine ZP.then ?_
    refine ZC.condD rfl (fun hd => ?_) (fun hd => ?_)
    · have hk : k < n := by omega
      have hg1 := E1.at hg (fun h => h)
      have hr1 := hO.row hg hl hk (o := 0 + k * 32) (by omega)
      have hr0 := hO.row hg hl (i := k - 1) (by omega) (o := 0 + (k - 1) * 32) (by omega)
      refine ZC.skip ?_; refine ZP.then ?_; refine ZC.seq ?_; refine ZC.block ?_; refine ZC.seq ?_
      refine ZC.draw (fun w' => w'.heap[g]? = some (.cells cur 27 (0, 0))) rfl rfl (fun w2 E2 _ => ?_)
      have S2 := E2.at hg1 (fun h => h)
      refine ZA.take 0 rfl (fun w' hS' => by first | exact r_move rfl | exact r_assign rfl | exact r_fieldAddr rfl | exact r_sliceArr rfl | exact r_addU rfl rfl | exact r_xorU rfl rfl | exact r_orU rfl rfl | exact r_andU rfl rfl | exact r_complU rfl | exact r_convU rfl | exact r_ldS hS' rfl (by rfl) | exact r_nilCheck rfl | exact r_extract rfl rfl | exact r_lenSlice rfl) (by kernel_rfl) (by kernel_rfl) (by kernel_rfl) rfl rfl (fun _ _ _ _ h => h) S2 ?_
      refine ZA.take 1 rfl (fun w' hS' => by first | exact r_move rfl | exact r_assign rfl | exact r_fieldAddr rfl | exact r_sliceArr rfl | exact r_addU rfl rfl | exact r_xorU rfl rfl | exact r_orU rfl rfl | exact r_andU rfl rfl | exact r_complU rfl | exact r_convU rfl | exact r_ldS hS' rfl (by rfl) | exact r_nilCheck rfl | exact r_extract rfl rfl | exact r_lenSlice rfl) (by kernel_rfl) (by kernel_rfl) (by kernel_rfl) rfl rfl (fun _ _ _ _ h => h) S2 ?_
      refine ZA.take 2 rfl (fun w' hS' => r_idxS k rfl rfl rfl hk) (by kernel_rfl) (by kernel_rfl) (by kernel_rfl) rfl rfl (fun _ _ _ _ h => h) S2 ?_
      refine ZA.take 3 rfl (fun w' hS' => r_loadN rfl hS' hr1.1 hr1.2) (by kernel_rfl) (by kernel_rfl) (by kernel_rfl) rfl rfl (fun _ _ _ _ h => h) S2 ?_
      refine ZA.take 4 rfl (fun w' hS' => by first | exact r_move rfl | exact r_assign rfl | exact r_fieldAddr rfl | exact r_sliceArr rfl | exact r_addU rfl rfl | exact r_xorU rfl rfl | exact r_orU rfl rfl | exact r_andU rfl rfl | exact r_complU rfl | exact r_convU rfl | exact r_ldS hS' rfl (by rfl) | exact r_nilCheck rfl | exact r_extract rfl rfl | exact r_lenSlice rfl) (by kernel_rfl) (by kernel_rfl) (by kernel_rfl) rfl rfl (fun _ _ _ _ h => h) S2 ?_
      refine ZA.take 5 rfl (fun w' hS' => by first | exact r_move rfl | exact r_assign rfl | exact r_fieldAddr rfl | exact r_sliceArr rfl | exact r_addU rfl rfl | exact r_xorU rfl rfl | exact r_orU rfl rfl | exact r_andU rfl rfl | exact r_complU rfl | exact r_convU rfl | exact r_ldS hS' rfl (by rfl) | exact r_nilCheck rfl | exact r_extract rfl rfl | exact r_lenSlice rfl) (by kernel_rfl) (by kernel_rfl) (by kernel_rfl) rfl rfl (fun _ _ _ _ h => h) S2 ?_
      refine ZA.take 6 rfl (fun w' hS' => r_sub rfl rfl (wrap_i64 (by omega) (by omega))) (by kernel_rfl) (by kernel_rfl) (by kernel_rfl) rfl rfl (fun _ _ _ _ h => h) S2 ?_
      refine ZA.take 7 rfl (fun w' hS' => r_idxS (k - 1) rfl rfl (by omega) (by omega)) (by kernel_rfl) (by kernel_rfl) (by kernel_rfl) rfl rfl (fun _ _ _ _ h => h) S2 ?_
      refine ZA.take 8 rfl (fun w' hS' => r_loadN rfl hS' hr0.1 hr0.2) (by kernel_rfl) (by kernel_rfl) (by kernel_rfl) rfl rfl (fun _ _ _ _ h => h) S2 ?_
      refine ZA.take 9 rfl (fun w' hS' => r_eqlB32 rfl rfl) (by kernel_rfl) (by kernel_rfl) (by kernel_rfl) rfl rfl (fun _ _ _ _ h => h) S2 ?_
      refine ZA.done (by kernel_rfl) ?_
      refine ZP.then ?_
      have E2' := ExtX.trans E1 E2 (fun _ h => h) (fun _ _ h => h)
      refine ZC.condD rfl (fun he => ?_) (fun he => ?_)
      rotate_left
      · refine ZC.skip ?_; refine ZP.blockN ?_; refine ZP.then ?_; refine ZC.region ?_; refine ZL.val (r_move rfl) rfl ?_; refine ZL.val (r_add rfl rfl (wrap_i64 (by omega) (by omega))) rfl ?_; refine ZL.val (r_assign rfl) rfl ?_; refine ZL.nil ?_
        refine ZP.round (k + 1) ⟨rfl, rfl, trivial⟩ ⟨E2', by omega, by omega, ?_⟩ (by omega)
        rw [List.take_succ_eq_append_getElem (by omega : k < xs.length), List.pairwise_append]
        refine ⟨hp, by simp, fun a ha b hb => ?_⟩
        simp only [List.mem_singleton] at hb
        subst hb
        have h5 : ltP xs[k - 1] xs[k] := by
          have := hle (k - 1) k (by omega) (by omega) (by omega)
          rcases ltP_total xs[k - 1] xs[k] with h | h | h
          · exact h
          · exact absurd h.symm he
          · exact absurd h this
        obtain ⟨i, hi, rfl⟩ := List.getElem_of_mem ha
        rw [List.length_take] at hi
        rw [List.getElem_take]
        by_cases hik : i = k - 1
        · subst hik; exact h5
        · refine ltP_trans ?_ h5
          have := List.pairwise_iff_getElem.1 hp i (k - 1) (by simp; omega) (by simp; omega) (by omega)
          simpa [List.getElem_take] using this
      obtain ⟨k0, hk0⟩ : ∃ k0, k0 = k := ⟨k, rfl⟩
      have hcut : cutAt (some ⟨g, 0, none⟩) cap k 32 = some ⟨g, k * 32, none⟩ := by
        unfold cutAt
        rw [if_neg (by omega)]
        simp [Addr.add]
        omega
      refine ZC.seq ?_; refine ZC.region ?_; refine ZL.val (r_move rfl) rfl ?_; refine ZL.val (r_move rfl) rfl ?_
      refine ZL.val ((r_sliceFrom rfl rfl (by omega) (by omega)).eq (v' := .slice (some ⟨g, k * 32, none⟩) (n - k) (cap - k)) (by simp only [Int.toNat_natCast, hcut])) rfl ?_
      refine ZL.val (r_assign rfl) rfl ?_; refine ZL.nil ?_; refine ZP.then ?_; refine ZC.seq ?_; refine ZC.seq ?_; refine ZC.region ?_; refine ZL.val (r_assign rfl) rfl ?_; refine ZL.nil ?_; refine ZP.then ?_; refine ZC.block ?_
      refine ZC.loop (X := Nat × Nat × List B32) (fun x => [(5, .int .i64 x.2.1), (4, .slice (some ⟨g, k * 32, none⟩) (n - k) (cap - k)), (3, .int .i64 x.1), (0, .slice (some ⟨g, 0, none⟩) n cap)])
        (fun x w' => ExtX w (fun b => b = g) w' ∧ OwnR w' 27 32 (.slice (some ⟨g, 0, none⟩) n cap) n (flatP x.2.2) ∧ x.2.2.length = n ∧ 1 ≤ x.1 ∧ 1 ≤ x.2.1 ∧ x.1 + 1 ≤ k + x.2.1 ∧ k + x.2.1 ≤ n ∧ (∀ i, k + x.2.1 ≤ i + 1 → x.2.2[i]? = xs[i]?) ∧ (x.2.2.take x.1).Pairwise ltP ∧ (∀ y, y ∈ x.2.2.take x.1 ↔ y ∈ xs.take (k + x.2.1)))
        (fun x => n - x.2.1) (k, 1, xs) ⟨rfl, rfl, rfl, rfl, trivial⟩ ⟨Ext.toX E2', ⟨hO.1, .inr ⟨g, cap, cur, rfl, S2, h1, h2, h3, h4⟩⟩, hl, by simp only; omega, by simp only; omega, by simp only; omega, by simp only; omega, fun _ _ => rfl, hp, ?_⟩ ?_
      · intro y
        simp only
        rw [List.take_succ_eq_append_getElem (by omega : k < xs.length), List.mem_append]
        constructor
        · exact .inl
        · rintro (h | h)
          · exact h
          · simp only [List.mem_singleton] at h
            rw [h, he]
            refine List.mem_iff_getElem.2 ⟨k - 1, by simp; omega, by simp [List.getElem_take]⟩
      rintro ⟨kk, k2, zs⟩ w3 ⟨E3, hO3, hzl, hkk1, hk2, hkk2, hkn2, hsame, hpz, hmz⟩
      simp only at hO3 hzl hkk1 hk2 hkk2 hkn2 hsame hpz hmz ⊢
      refine ZC.seq ?_; refine ZC.seq ?_; refine ZC.region ?_; refine ZL.val (r_move rfl) rfl ?_; refine ZL.val (r_move rfl) rfl ?_; refine ZL.val (r_lenSlice rfl) rfl ?_; refine ZL.val (r_lss rfl rfl) rfl ?_; refine ZL.nil ?_; refine ZP.then ?_
      refine ZC.condD rfl (fun hf => ?_) (fun hf => ?_)
      · have hk2n : k + k2 < n := by omega
        rcases hO3.2 with ⟨hv, _⟩ | ⟨g', cap', cur3, hv, hg3, _, _, h33, h34⟩
        · cases hv
        simp only [Value.slice.injEq, Option.some.injEq, Addr.mk.injEq, and_true, true_and] at hv
        obtain ⟨rfl, rfl⟩ := hv
        have hq1 := hO3.row hg3 hzl (i := k + k2) (by omega) (o := k * 32 + k2 * 32) (by omega)
        have hq0 := hO3.row hg3 hzl (i := k + k2 - 1) (by omega) (o := k * 32 + (k2 - 1) * 32) (by omega)
        have hz1 : zs[k + k2]'(by omega) = xs[k + k2]'(by omega) := by
          have := hsame (k + k2) (by omega)
          rw [List.getElem?_eq_getElem (by omega), List.getElem?_eq_getElem (by omega)] at this
          exact Option.some.inj this
        have hz0 : zs[k + k2 - 1]'(by omega) = xs[k + k2 - 1]'(by omega) := by
          have := hsame (k + k2 - 1) (by omega)
          rw [List.getElem?_eq_getElem (by omega), List.getElem?_eq_getElem (by omega)] at this
          exact Option.some.inj this
        rw [hz1] at hq1
        rw [hz0] at hq0
        refine ZC.skip ?_; refine ZP.then ?_; refine ZC.seq ?_; refine ZC.block ?_; refine ZC.seq ?_
        refine ZC.draw (fun w' => w'.heap[g]? = some (.cells cur3 27 (0, 0))) rfl rfl (fun w4 E4 _ => ?_)
        have S4 := E4.at hg3 (fun h => h)
        have hO4 : OwnR w4 27 32 (.slice (some ⟨g, 0, none⟩) n cap) n (flatP zs) := ⟨hO3.1, .inr ⟨g, cap, cur3, rfl, S4, h1, h2, h33, h34⟩⟩
        refine ZA.take 0 rfl (fun w' hS' => by first | exact r_move rfl | exact r_assign rfl | exact r_fieldAddr rfl | exact r_sliceArr rfl | exact r_addU rfl rfl | exact r_xorU rfl rfl | exact r_orU rfl rfl | exact r_andU rfl rfl | exact r_complU rfl | exact r_convU rfl | exact r_ldS hS' rfl (by rfl) | exact r_nilCheck rfl | exact r_extract rfl rfl | exact r_lenSlice rfl) (by kernel_rfl) (by kernel_rfl) (by kernel_rfl) rfl rfl (fun _ _ _ _ h => h) S4 ?_
        refine ZA.take 1 rfl (fun w' hS' => by first | exact r_move rfl | exact r_assign rfl | exact r_fieldAddr rfl | exact r_sliceArr rfl | exact r_addU rfl rfl | exact r_xorU rfl rfl | exact r_orU rfl rfl | exact r_andU rfl rfl | exact r_complU rfl | exact r_convU rfl | exact r_ldS hS' rfl (by rfl) | exact r_nilCheck rfl | exact r_extract rfl rfl | exact r_lenSlice rfl) (by kernel_rfl) (by kernel_rfl) (by kernel_rfl) rfl rfl (fun _ _ _ _ h => h) S4 ?_
        refine ZA.take 2 rfl (fun w' hS' => r_idxS k2 rfl rfl rfl (by omega)) (by kernel_rfl) (by kernel_rfl) (by kernel_rfl) rfl rfl (fun _ _ _ _ h => h) S4 ?_
        refine ZA.take 3 rfl (fun w' hS' => r_loadN rfl hS' hq1.1 hq1.2) (by kernel_rfl) (by kernel_rfl) (by kernel_rfl) rfl rfl (fun _ _ _ _ h => h) S4 ?_
        refine ZA.take 4 rfl (fun w' hS' => by first | exact r_move rfl | exact r_assign rfl | exact r_fieldAddr rfl | exact r_sliceArr rfl | exact r_addU rfl rfl | exact r_xorU rfl rfl | exact r_orU rfl rfl | exact r_andU rfl rfl | exact r_complU rfl | exact r_convU rfl | exact r_ldS hS' rfl (by rfl) | exact r_nilCheck rfl | exact r_extract rfl rfl | exact r_lenSlice rfl) (by kernel_rfl) (by kernel_rfl) (by kernel_rfl) rfl rfl (fun _ _ _ _ h => h) S4 ?_
        refine ZA.take 5 rfl (fun w' hS' => by first | exact r_move rfl | exact r_assign rfl | exact r_fieldAddr rfl | exact r_sliceArr rfl | exact r_addU rfl rfl | exact r_xorU rfl rfl | exact r_orU rfl rfl | exact r_andU rfl rfl | exact r_complU rfl | exact r_convU rfl | exact r_ldS hS' rfl (by rfl) | exact r_nilCheck rfl | exact r_extract rfl rfl | exact r_lenSlice rfl) (by kernel_rfl) (by kernel_rfl) (by kernel_rfl) rfl rfl (fun _ _ _ _ h => h) S4 ?_
        refine ZA.take 6 rfl (fun w' hS' => r_sub rfl rfl (wrap_i64 (by omega) (by omega))) (by kernel_rfl) (by kernel_rfl) (by kernel_rfl) rfl rfl (fun _ _ _ _ h => h) S4 ?_
        refine ZA.take 7 rfl (fun w' hS' => r_idxS (k2 - 1) rfl rfl (by omega) (by omega)) (by kernel_rfl) (by kernel_rfl) (by kernel_rfl) rfl rfl (fun _ _ _ _ h => h) S4 ?_
        refine ZA.take 8 rfl (fun w' hS' => r_loadN rfl hS' hq0.1 hq0.2) (by kernel_rfl) (by kernel_rfl) (by kernel_rfl) rfl rfl (fun _ _ _ _ h => h) S4 ?_
        refine ZA.take 9 rfl (fun w' hS' => r_neqB32 rfl rfl) (by kernel_rfl) (by kernel_rfl) (by kernel_rfl) rfl rfl (fun _ _ _ _ h => h) S4 ?_
        refine ZA.done (by kernel_rfl) ?_
        refine ZP.then ?_
        have E4' : ExtX w (fun b => b = g) w4 := E3.trans E4 (fun _ h => h) (fun _ _ h => h.elim)
        refine ZC.cond rfl (fun hne => ?_) (fun heq => ?_)
        rotate_left
        · have heq' : xs[k + k2]'(by omega) = xs[k + k2 - 1]'(by omega) := by simpa using heq
          refine ZC.skip ?_; refine ZP.blockN ?_; refine ZP.then ?_; refine ZC.region ?_; refine ZL.val (r_move rfl) rfl ?_; refine ZL.val (r_add rfl rfl (wrap_i64 (by omega) (by omega))) rfl ?_; refine ZL.val (r_assign rfl) rfl ?_; refine ZL.nil ?_
          refine ZP.round (kk, k2 + 1, zs) ⟨rfl, rfl, rfl, rfl, trivial⟩ ⟨E4', hO4, hzl, hkk1, by simp only; omega, by simp only; omega, by simp only; omega, fun i hi => hsame i (by simp only at hi; omega), hpz, ?_⟩ (by simp only; omega)
          intro y
          simp only
          rw [hmz, show k + (k2 + 1) = k + k2 + 1 by omega, List.take_succ_eq_append_getElem (by omega : k + k2 < xs.length), List.mem_append]
          constructor
          · exact .inl
          · rintro (h | h)
            · exact h
            · simp only [List.mem_singleton] at h
              rw [h, heq']
              refine List.mem_iff_getElem.2 ⟨k + k2 - 1, by simp; omega, by simp [List.getElem_take]⟩
        · have hne' : ¬ xs[k + k2]'(by omega) = xs[k + k2 - 1]'(by omega) := by simpa using hne
          refine ZC.seq ?_; refine ZC.region ?_; refine ZL.val (r_move rfl) rfl ?_; refine ZL.val (r_move rfl) rfl ?_; refine ZL.val (r_move rfl) rfl ?_; refine ZL.val (r_move rfl) rfl ?_
          refine ZL.val (r_idxS k2 rfl rfl rfl (by omega)) rfl ?_
          refine ZL.val (r_loadN rfl S4 hq1.1 hq1.2) rfl ?_
          refine ZL.val (r_idxS kk rfl rfl rfl (by omega)) rfl ?_
          obtain ⟨cur5, hsp, hs5, ht5⟩ := own_set (e := 27) (x := xs[k + k2]'(by omega)) (k := kk) hzl S4 h1 h2 h33 h34 (by omega)
          refine ZL.unit (uw_store (cs := cur3) rfl rfl S4 (show _ = 32 by simp [Value.cells, B32.len]) (by omega) (by simp only [Value.cells, List.all_eq_true]; exact fun y hy => u8_one _ _ hy)) ?_
          rw [show (Value.agg (xs[k + k2]'(by omega)).cells.toArray).cells = (xs[k + k2]'(by omega)).cells.toArray from rfl, Nat.zero_add, hsp]
          have U5 := Upd.setRow (cs := cur5) S4
          generalize w4.setRow g cur5 = w5 at U5
          have h5 : ltP (xs[k + k2 - 1]'(by omega)) (xs[k + k2]'(by omega)) := by
            have := hle (k + k2 - 1) (k + k2) (by omega) (by omega) (by omega)
            rcases ltP_total (xs[k + k2 - 1]'(by omega)) (xs[k + k2]'(by omega)) with h | h | h
            · exact h
            · exact absurd h.symm hne'
            · exact absurd h this
          have htk : (zs.set kk (xs[k + k2]'(by omega))).take (kk + 1) = zs.take kk ++ [xs[k + k2]'(by omega)] := by
            rw [List.take_succ_eq_append_getElem (by simp; omega), List.getElem_set_self, List.take_set_of_le (Nat.le_refl _)]
          refine ZL.nil ?_; refine ZP.then ?_; refine ZC.region ?_; refine ZL.val (r_move rfl) rfl ?_; refine ZL.val (r_add rfl rfl (wrap_i64 (by omega) (by omega))) rfl ?_; refine ZL.val (r_assign rfl) rfl ?_; refine ZL.nil ?_; refine ZP.blockN ?_; refine ZP.then ?_; refine ZC.region ?_; refine ZL.val (r_move rfl) rfl ?_; refine ZL.val (r_add rfl rfl (wrap_i64 (by omega) (by omega))) rfl ?_; refine ZL.val (r_assign rfl) rfl ?_; refine ZL.nil ?_
          refine ZP.round (kk + 1, k2 + 1, zs.set kk (xs[k + k2]'(by omega))) ⟨rfl, rfl, rfl, rfl, trivial⟩ ⟨E4'.trans U5.extX (fun _ h => h) (fun _ _ h => h), ⟨by rw [flatP_length]; simp; omega, .inr ⟨g, cap, cur5, rfl, U5.at', h1, h2, by rw [hs5]; exact h33, ht5⟩⟩, by simpa using hzl, by simp only; omega, by simp only; omega, by simp only; omega, by simp only; omega, fun i hi => ?_, ?_, ?_⟩ (by simp only; omega)
          · simp only at hi ⊢
            rw [List.getElem?_set_ne (by omega)]
            exact hsame i (by omega)
          · simp only
            rw [htk, List.pairwise_append]
            refine ⟨hpz, by simp, fun a ha b hb => ?_⟩
            simp only [List.mem_singleton] at hb
            subst hb
            have ha' := (hmz a).1 ha
            obtain ⟨i, hi, rfl⟩ := List.getElem_of_mem ha'
            rw [List.length_take] at hi
            rw [List.getElem_take]
            by_cases hik : i = k + k2 - 1
            · subst hik; exact h5
            · have := hle i (k + k2 - 1) (by omega) (by omega) (by omega)
              rcases ltP_total (xs[i]'(by omega)) (xs[k + k2 - 1]'(by omega)) with h | h | h
              · exact ltP_trans h h5
              · rw [h]; exact h5
              · exact absurd h this
          · intro y
            simp only
            rw [htk, show k + (k2 + 1) = k + k2 + 1 by omega, List.take_succ_eq_append_getElem (by omega : k + k2 < xs.length), List.mem_append, List.mem_append, hmz]
      · have hk2n : k + k2 = n := by omega
        rcases hO3.2 with ⟨hv, _⟩ | ⟨g', cap', cur3, hv, hg3, _, _, h33, h34⟩
        · cases hv
        simp only [Value.slice.injEq, Option.some.injEq, Addr.mk.injEq, and_true, true_and] at hv
        obtain ⟨rfl, rfl⟩ := hv
        have hcut3 : cutAt (some ⟨g, 0, none⟩) cap kk 32 = some ⟨g, kk * 32, none⟩ := by
          unfold cutAt
          rw [if_neg (by omega)]
          simp [Addr.add]
          omega
        refine ZC.exit ?_; refine ZP.thenX ?_; refine ZP.thenX ?_; refine ZP.blockE ?_; refine ZP.then ?_; refine ZC.seq ?_; refine ZC.region ?_; refine ZL.val (r_move rfl) rfl ?_; refine ZL.val (r_move rfl) rfl ?_
        refine ZL.val ((r_sliceFrom rfl rfl (by omega) (by omega)).eq (v' := .slice (some ⟨g, kk * 32, none⟩) (n - kk) (cap - kk)) (by simp only [Int.toNat_natCast, hcut3])) rfl ?_
        obtain ⟨cur4, hclr, hs4, ht4⟩ := vw_clear (P := P) (t := 35) (e := 27) (x := .tmp 56) (o := kk * 32) (n := n - kk) (c := cap - kk) (σ := (56, .slice (some ⟨g, kk * 32, none⟩) (n - kk) (cap - kk)) :: _) rfl (by omega) hg3 (by omega) (by simp [Value.cells, Value.oneCell'])
        refine ZL.vw0 hclr ?_
        have U4 := Upd.setRow (cs := cur4) hg3
        generalize w3.setRow g cur4 = w4 at U4
        refine ZL.nil ?_; refine ZP.then ?_; refine ZC.seq ?_; refine ZC.region ?_; refine ZL.val (r_move rfl) rfl ?_; refine ZL.val (r_move rfl) rfl ?_
        refine ZL.val (r_sliceTo rfl rfl (by omega) (by omega)) rfl ?_
        rw [Int.toNat_natCast]
        refine ZL.val (r_assign rfl) rfl ?_; refine ZL.nil ?_; refine ZP.then ?_; refine ZC.ret ?_; refine ZP.blockR ?_; refine ZP.thenR ?_; refine ZP.thenR ?_; refine ZP.blockR ?_; refine ZP.thenR ?_
        refine ZP.ret1 rfl rfl ⟨?_, zs.take kk, hpz, ?_, ?_, ?_⟩
        · refine (E3.trans U4.extX (fun _ h => h) (fun _ _ h => h)).mono fun b hb => ?_
          simp [Value.ownBlock, hb]
        · intro y
          rw [hmz, List.take_of_length_le (by omega)]
        · have hlk : (zs.take kk).length = kk := by simp; omega
          rw [hlk]
          refine ⟨by rw [flatP_length, hlk], .inr ⟨g, cap, cur4, rfl, U4.at', by omega, h2, by rw [hs4]; exact h33, ?_⟩⟩
          rw [ht4 _ (Nat.le_refl _), flatP_take, ← h34, List.take_take, Nat.min_eq_left (by omega)]
        · intro b hb; simpa [Value.ownBlock] using hb
    · have hk : k = n := by omega
      refine ZC.exit ?_; refine ZP.thenX ?_; refine ZP.thenX ?_; refine ZP.blockE ?_; refine ZP.then ?_; refine ZC.seq ?_; refine ZC.region ?_; refine ZL.val (r_move rfl) rfl ?_; refine ZL.val (r_assign rfl) rfl ?_; refine ZL.nil ?_; refine ZP.then ?_; refine ZC.ret ?_
      rw [List.take_of_length_le (by omega)] at hp
      refine ZP.ret1 rfl rfl ⟨E1.toX, xs, hp, fun _ => Iff.rfl, ?_, fun _ h => h⟩
      rw [hl]
      exact ⟨hO.1, .inr ⟨g, cap, cur, rfl, E1.at hg (fun h => h), h1, h2, h3, h4⟩⟩
end Go.Proofs.YtibobcjfjnoclaaGreatDoor.Z
end
section
/- An own slice that may begin anywhere in its block: append, and cutting its head off. -/
set_option linter.unusedVariables false
set_option linter.unusedSimpArgs false
set_option linter.unusedSectionVars false
namespace Go.Proofs.YtibobcjfjnoclaaGreatDoor.Z
open Go Go.RowKit

section
variable {w w' : World} {X : Nat → Prop} {s n m : Nat} {v u : Value} {xs ys : List Value} {e : Nat}
theorem OwnAt.slc (h : OwnAt w e s v n xs) (hx : ∀ g, v.ownBlock = some g → ¬ X g) : SlC w X s v n xs := by
  refine ⟨h.1, ?_⟩
  rcases h.2 with hn | ⟨g, o, c, cs, rfl, hh, h1, h2, h3, h4⟩
  · exact .inl hn
  · refine .inr ⟨g, o, c, cs, e, (0, 0), rfl, hx g rfl, hh, h1, h2, fun i u hu => ?_⟩
    rw [← h4, List.getElem?_take] at hu
    split at hu
    · simpa using hu
    · cases hu
theorem OwnAt.shape (h : OwnAt w e s v n xs) : ∃ p c, v = .slice p n c := by
  rcases h.2 with ⟨rfl, rfl⟩ | ⟨g, o, cap, cur, rfl, _⟩
  · exact ⟨_, _, rfl⟩
  · exact ⟨_, _, rfl⟩
theorem OwnAt.nil (w : World) (e s : Nat) : OwnAt w e s (.slice none 0 0) 0 [] := ⟨by simp, .inl ⟨rfl, rfl⟩⟩
theorem run_append_roomO {P : Program} (t ty e : TypeId) (i : TypeInfo) (ht : P.underlying t = some (.slice e)) (hi : P.info? e = some i)
    (g o sLen sCap : Nat) (cur : Array Value) (hg : w.heap[g]? = some (.cells cur e (0, 0)))
    (a : Addr) (m c : Nat) (news : List Value) (hl : news.length = m * i.size) (hnews : ∀ j u, news[j]? = some u → w.cell? (a.add j) = some u) (h1 : ∀ u ∈ news, u.oneCell' = true)
    (hroom : sLen + m ≤ sCap) (hfit : o + sLen * i.size + news.length ≤ cur.size) :
    (Builtin.append_ #[t, t] ty #[.slice (some ⟨g, o, none⟩) sLen sCap, .slice (some a) m c]).run P w =
      .ok (.slice (some ⟨g, o, none⟩) (sLen + m) sCap) (w.setRow g (cur.toList.take (o + sLen * i.size) ++ news ++ cur.toList.drop (o + sLen * i.size + news.length)).toArray) := by
  have hf := run_firstCells_some (P := P) w i.size m a m c news hl hnews
  have hst := run_storeCells_at P g (o + sLen * i.size) e news 0 cur w hg (by simpa using hfit) h1
  simp only [Nat.add_zero] at hst
  simp [Builtin.append_, run_underlying ht, sizeOf, typeInfo, hi, Builtin.lenOf, hroom, hf, Addr.add_lit, hst]

theorem run_appendAt {P : Program} {t ty bytes : Nat} {z : Value} [TU P t (.slice e)] [te : TE P e s bytes z]
    (hown : OwnAt w e s v n xs) (hu : SlC w X s u m ys) (h1 : ∀ x ∈ ys, x.oneCell' = true) (h63 : n + m ≤ maxLen) (hb : (n + m) * bytes ≤ 140737488355328) :
    ∃ v' w', (Builtin.append_ #[t, t] ty #[v, u]).run P w = .ok v' w' ∧ OwnAt w' e s v' (n + m) (xs ++ ys) ∧ ExtX w (fun b => v.ownBlock = some b) w' ∧ (∀ g, v'.ownBlock = some g → v.ownBlock = some g ∨ w.heap.size ≤ g) := by
  rcases hown.2 with ⟨rfl, rfl⟩ | ⟨g, o, cap, cur, rfl, hg, hnc, hcm, hcs, htake⟩
  · obtain rfl : xs = [] := List.eq_nil_of_length_eq_zero (by simpa using hown.1)
    obtain ⟨v', w', h1, h2, h3, h4⟩ := run_append (P := P) (t := t) (ty := ty) (OwnR.nil w e s) hu h1 h63 hb
    exact ⟨v', w', h1, h2.toAt, h3, h4⟩
  have ht := TU.h (P := P) (t := t)
  have hi0 := te.ti.h
  have hz0 := te.tz.h
  have hzs := te.hz
  have hs := te.pos
  obtain ⟨i, hi⟩ : ∃ i, P.info? e = some i := by
    cases hq : P.info? e with
    | none => simp [hq] at hi0
    | some x => exact ⟨x, rfl⟩
  simp only [hi, Option.map_some, Option.some.injEq, Prod.mk.injEq] at hi0 hz0
  obtain ⟨his, hib⟩ := hi0
  have hyl := hu.1
  rcases hu.news with ⟨rfl, rfl, rfl⟩ | ⟨a, c, rfl, hnews⟩
  · refine ⟨.slice (some ⟨g, o, none⟩) n cap, w, ?_, by simpa using hown, .refl _ _, fun g hg => .inl hg⟩
    simp [Builtin.append_, run_underlying ht, sizeOf, typeInfo, hi, Builtin.lenOf, Builtin.firstCells, hnc, storeCells]
  · have hnl : ys.length = m * i.size := by rw [his]; exact hyl
    have hlen : (xs ++ ys).length = (n + m) * s := by rw [List.length_append, hown.1, hyl, Nat.add_mul]
    by_cases hroom : n + m ≤ cap
    · have hfit : o + n * i.size + ys.length ≤ cur.size := by
        have h9 : (n + m) * s ≤ cap * s := Nat.mul_le_mul_right _ hroom
        rw [Nat.add_mul] at h9
        rw [hnl, his]; omega
      have hr := run_append_roomO (P := P) t ty e i ht hi g o n cap cur hg a m c ys hnl hnews h1 hroom hfit
      refine ⟨_, _, hr, ⟨hlen, .inr ⟨g, o, cap, _, rfl, setRow_heap w g cur _ e _ hg, hroom, hcm, ?_, ?_⟩⟩, ⟨rfl, rfl, rfl, by simp, fun k _ hk => setRow_other w g k _ (fun e => hk (by simp [Value.ownBlock, e]))⟩, fun g' hg' => .inl (by simpa [Value.ownBlock] using hg')⟩
      · simp only [List.size_toArray, List.length_append, List.length_take, List.length_drop, Array.length_toList]
        have := hfit
        omega
      · have hle : o + n * s ≤ cur.size := by rw [← his]; omega
        rw [his] at hfit ⊢
        simp only [List.append_assoc]
        rw [List.drop_append_of_le_length (by simp; omega), List.drop_take, show o + n * s - o = n * s by omega, htake, ← List.append_assoc, ← hlen]
        exact List.take_left
    · have holds : ∀ j u, xs[j]? = some u → w.cell? ((⟨g, o, none⟩ : Addr).add j) = some u := by
        intro j u hj
        rw [add_at]
        rw [← htake, List.getElem?_take] at hj
        split at hj
        · exact cell_of hg (by simpa using hj)
        · cases hj
      have hr := run_append_grow (P := P) w t ty e i z ht hi hz0 ⟨g, o, none⟩ n cap xs (by rw [his]; exact hown.1) holds a m c ys hnl hnews (by omega) (by simp only [maxLen] at h63; omega) (growslice_fits (by simp only [maxLen] at h63; omega) (by rw [hib]; exact hb))
      have hge := grownCap_ge w (n + m) cap e
      have hcm' : grownCap w (n + m) cap e ≤ maxLen := grownCap_le_maxLen w (n + m) cap e h63
      refine ⟨_, _, hr, ⟨hlen, .inr ⟨w.heap.size, 0, _, _, rfl, heap_alloc_new w.drew _, hge, hcm', ?_, ?_⟩⟩, ?_, fun g hg => .inr (by simp [Value.ownBlock] at hg; omega)⟩
      · simp only [Array.size_append, List.size_toArray, size_zeroCells, hzs, hown.1, hyl, ← Nat.add_mul, Nat.zero_add]
        refine Nat.mul_le_mul_right _ (by omega)
      · simp only [Array.toList_append, List.append_assoc, List.drop_zero]
        rw [← List.append_assoc, ← hlen]
        exact List.take_left
      · exact Ext.toX ⟨rfl, rfl, rfl, by simp, fun k hk _ => Below.heap_alloc w.drew _ k hk⟩
/-- The head's elements are cut off. -/
theorem OwnAt.cutHead {c k : Nat} {p : Option Addr} (h : OwnAt w e s (.slice p n c) n xs) (hk : k ≤ n) :
    OwnAt w e s (.slice (cutAt p c k s) (n - k) (c - k)) (n - k) (xs.drop (k * s)) ∧ (Value.slice (cutAt p c k s) (n - k) (c - k)).ownBlock = (Value.slice p n c).ownBlock := by
  have hl : (xs.drop (k * s)).length = (n - k) * s := by rw [List.length_drop, h.1, Nat.sub_mul]
  rcases h.2 with ⟨hv, rfl⟩ | ⟨g, o, cap, cur, hv, hg, h1, h2, h3, h4⟩
  · simp only [Value.slice.injEq] at hv
    obtain ⟨rfl, -, rfl⟩ := hv
    obtain rfl : k = 0 := by omega
    exact ⟨⟨hl, .inl ⟨by simp [cutAt], rfl⟩⟩, by simp [cutAt]⟩
  · simp only [Value.slice.injEq] at hv
    obtain ⟨rfl, -, rfl⟩ := hv
    by_cases hc : c = k
    · subst hc
      obtain rfl : n = c := by omega
      refine ⟨⟨hl, .inr ⟨g, o, n - n, cur, by simp [cutAt], hg, by omega, by omega, ?_, ?_⟩⟩, by simp [cutAt, Value.ownBlock]⟩
      · have := (show o + n * s ≤ cur.size from h3); simp; omega
      · simp [List.length_eq_zero_iff.1 (show (xs.drop (n * s)).length = 0 by rw [hl]; simp)]
    · refine ⟨⟨hl, .inr ⟨g, o + k * s, c - k, cur, by simp [cutAt, hc, add_at], hg, by omega, by omega, ?_, ?_⟩⟩, by simp [cutAt, hc, Value.ownBlock, add_at]⟩
      · have : (c - k) * s + k * s = c * s := by rw [← Nat.add_mul]; congr 1; omega
        omega
      · rw [← h4, List.drop_take, List.drop_drop, ← Nat.sub_mul]
end

section
variable {P : Program} {n : Nat} {ops : Array Oper} {Q : Post} {rest : List Oper} {σ : Env} {w w0 : World} {X Y : Nat → Prop} {A B : List Chunk}
variable {d : Nat} {ty : TypeId} {pos : String} {after : Array Edge} {x y : Operand}
/-- append(v, u...), v the call's own, wherever it begins. -/
theorem ZL.appendAt {t e s k m bytes : Nat} {v u z : Value} {xs ys : List Value} [TU P t (.slice e)] [TE P e s bytes z] (hM : Mem w0 X (A ++ .sub v e s k xs :: B) w) (hx : ev σ x = some v) (hy : ev σ y = some u)
    (hu : SlC w Y s u m ys) (h1 : ∀ x ∈ ys, x.oneCell' = true) (h63 : k + m ≤ maxLen) (hb : (k + m) * bytes ≤ 140737488355328) (hd : Nat.blt d n = true)
    (h : ∀ v' w', Mem w0 X (A ++ .sub v' e s (k + m) (xs ++ ys) :: B) w' → ZL P n ops Q rest ((d, v') :: σ) w') :
    ZL P n ops Q (⟨some d, .call ⟨.builtin .append, #[x, y], #[t, t]⟩, ty, pos, after, none⟩ :: rest) σ w := by
  have hown : OwnAt w e s v k xs := hM.ok (.sub v e s k xs) (by simp)
  obtain ⟨v', w', hr, h2, h3, h4⟩ := run_appendAt (P := P) (t := t) (ty := ty) hown hu h1 h63 hb
  refine ⟨fun a ha => ?_⟩
  refine wpList_plain rfl (fun K hK => ?_)
  unfold Oper.wp
  rw [exec_builtin (P := P) rfl (r := .ok (.value v') w') (fun cs => by simp [ha.ag _ _ hx, ha.ag _ _ hy, builtin, hr])]
  refine hK _ _ ((h v' w' ?_).h _ (ha.put hd))
  exact hM.turn (c' := .sub v' e s (k + m) (xs ++ ys)) h3 h2 h4
end
end Go.Proofs.YtibobcjfjnoclaaGreatDoor.Z
end
