/- Whether a transaction may be: the program's, and the document's. -/
import Derived.Test.YthcgmdmdgpljmaaDoorTx
set_option linter.unusedVariables false
set_option linter.unusedSimpArgs false
set_option linter.unusedSectionVars false
set_option maxRecDepth 100000
set_option maxHeartbeats 4000000
namespace Go.Proofs.YthcgmdmdgpljmaaDoor.Z
open Go Go.RowKit

def longB (b : List UInt8) : Bool := decide (500 < b.length)
theorem SlC.le {w : World} {X : Nat → Prop} {s n c : Nat} {p : Option Addr} {xs : List Value} (h : SlC w X s (.slice p n c) n xs) : n ≤ c ∧ c ≤ 9223372036854775807 := by
  rcases h.2 with ⟨hv, rfl⟩ | ⟨g, o, c', cs, e, fz, hv, _, _, h1, h2, _⟩
  · simp only [Value.slice.injEq] at hv; omega
  · simp only [Value.slice.injEq, maxLen] at hv h2; omega
theorem ListR.le {α : Type} {E : World → (Nat → Prop) → List Value → α → Prop} {s : Nat} {w : World} {X : Nat → Prop} {p : Option Addr} {n c : Nat} {l : List α} (h : ListR E s w X (.slice p n c) l) : n = l.length ∧ l.length ≤ c ∧ c ≤ 9223372036854775807 := by
  obtain ⟨rows, _, _, h3, _⟩ := h
  obtain ⟨p', c', hv⟩ := h3.shape
  simp only [Value.slice.injEq] at hv
  obtain ⟨rfl, rfl, rfl⟩ := hv
  exact ⟨rfl, h3.le⟩

theorem long_ok (v : Value) (l : List UInt8) (w : World) (X : Nat → Prop) (h : BytesR w X v l) :
    Ret P 80 #[v] w (fun r w' => w = w' ∧ r = .bool (longB l)) := by
  obtain ⟨p, c, rfl⟩ := h.shape
  refine Ret.enter1 Tryd.func80 rfl Tryd.ntmps80 rfl ?_
  refine ZC.seq ?_; refine ZC.region ?_; refine ZL.val (r_assign rfl) rfl ?_; refine ZL.nil ?_; refine ZP.then ?_; refine ZC.seq ?_; refine ZC.region ?_; refine ZL.val (r_move rfl) rfl ?_; refine ZL.val (r_lenSlice rfl) rfl ?_; refine ZL.val (r_gtr rfl rfl) rfl ?_; refine ZL.val (r_assign rfl) rfl ?_; refine ZL.nil ?_; refine ZP.then ?_; refine ZC.ret ?_
  refine ZP.ret1 rfl rfl ⟨rfl, ?_⟩
  simp only [longB, Value.bool.injEq]
  exact decide_eq_decide.2 (by omega)

theorem indexFunc_ok (v : Value) (ls : List (List UInt8)) (w : World) (X : Nat → Prop) (h : ListR BytesE 1 w X v ls) :
    Ret P 89 #[v, .func (.func 80) #[] #[]] w (fun r w' => w = w' ∧ ∃ z : Int, r = .int .i64 z ∧ (0 ≤ z ↔ ls.any longB = true)) := by
  obtain ⟨p, c, rfl⟩ := h.shape
  obtain ⟨-, h1, h2⟩ := h.le
  refine Ret.enter2 Tryd.func89 rfl Tryd.ntmps89 rfl ?_
  refine ZC.seq ?_; refine ZC.region ?_; refine ZL.val (r_assign rfl) rfl ?_; refine ZL.nil ?_; refine ZP.then ?_; refine ZC.seq ?_; refine ZC.seq ?_; refine ZC.region ?_; refine ZL.val (r_move rfl) rfl ?_; refine ZL.val (r_lenSlice rfl) rfl ?_; refine ZL.val (r_move rfl) rfl ?_; refine ZL.nil ?_; refine ZP.then ?_; refine ZC.block ?_
  refine ZC.loop (X := Nat) (fun k => [(8, .int .i64 k), (7, .int .i64 ls.length), (0, .slice p ls.length c), (1, .func (.func 80) #[] #[])])
    (fun k w' => w' = w ∧ k ≤ ls.length ∧ (ls.take k).any longB = false) (fun k => ls.length - k) 0 ⟨rfl, rfl, rfl, rfl, trivial⟩ ⟨rfl, by omega, by simp⟩ ?_
  rintro k w' ⟨rfl, hk, hno⟩
  refine ZC.seq ?_; refine ZC.region ?_; refine ZL.val (r_lss rfl rfl) rfl ?_; refine ZL.nil ?_; refine ZP.then ?_; refine ZC.seq ?_
  refine ZC.condD rfl (fun hc => ?_) (fun hc => ?_)
  · have hk' : k < ls.length := by omega
    obtain ⟨g, o, cs, e, fz, r, rfl, hh, hx, hlen, ⟨u, rfl, hu⟩, hcell, -, -⟩ := h.elem (by decide) hk'
    refine ZC.skip ?_; refine ZP.then ?_; refine ZC.seq ?_; refine ZC.block ?_; refine ZC.seq ?_; refine ZC.region ?_; refine ZL.val (r_move rfl) rfl ?_; refine ZL.val (r_assign rfl) rfl ?_; refine ZL.nil ?_; refine ZP.then ?_; refine ZC.seq ?_; refine ZC.region ?_; refine ZL.val (r_move rfl) rfl ?_; refine ZL.val (r_move rfl) rfl ?_; refine ZL.val (r_move rfl) rfl ?_
    refine ZL.val (r_indexAddrSlice rfl rfl hk') rfl ?_
    refine ZL.val (r_load1 rfl hh (hcell 0 u rfl)) rfl ?_
    refine ZL.call (r_callv (cs := []) rfl rfl) rfl (long_ok u ls[k] w' X hu) (fun v1 w1 hv => ?_)
    obtain ⟨rfl, rfl⟩ := hv
    refine ZL.nil ?_; refine ZP.then ?_
    refine ZC.cond rfl (fun ht => ?_) (fun hf => ?_)
    · refine ZC.seq ?_; refine ZC.region ?_; refine ZL.val (r_move rfl) rfl ?_; refine ZL.val (r_assign rfl) rfl ?_; refine ZL.nil ?_; refine ZP.then ?_; refine ZC.ret ?_; refine ZP.blockR ?_; refine ZP.thenR ?_; refine ZP.thenR ?_; refine ZP.blockR ?_; refine ZP.thenR ?_
      refine ZP.ret1 rfl rfl ⟨rfl, _, rfl, ?_⟩
      have : ls.any longB = true := List.any_eq_true.2 ⟨ls[k], List.getElem_mem hk', ht⟩
      simp only [this, iff_true]; omega
    · refine ZC.skip ?_; refine ZP.blockN ?_; refine ZP.then ?_; refine ZC.region ?_; refine ZL.val (r_add rfl rfl (wrap_i64 (by omega) (by omega))) rfl ?_; refine ZL.val (r_move rfl) rfl ?_; refine ZL.nil ?_
      refine ZP.round (k + 1) ⟨rfl, rfl, rfl, rfl, trivial⟩ ⟨rfl, by omega, ?_⟩ (by omega)
      rw [List.take_succ_eq_append_getElem hk', List.any_append, hno]
      simp [hf]
  · have hk' : k = ls.length := by omega
    subst hk'
    refine ZC.exit ?_; refine ZP.thenX ?_; refine ZP.thenX ?_; refine ZP.blockE ?_; refine ZP.then ?_; refine ZC.seq ?_; refine ZC.region ?_; refine ZL.val (r_assign rfl) rfl ?_; refine ZL.nil ?_; refine ZP.then ?_; refine ZC.ret ?_
    refine ZP.ret1 rfl rfl ⟨rfl, _, rfl, ?_⟩
    rw [List.take_length] at hno
    simp [hno]

theorem containsFunc_ok (v : Value) (ls : List (List UInt8)) (w : World) (X : Nat → Prop) (h : ListR BytesE 1 w X v ls) :
    Ret P 81 #[v, .func (.func 80) #[] #[]] w (fun r w' => w = w' ∧ r = .bool (ls.any longB)) := by
  refine Ret.enter2 Tryd.func81 rfl Tryd.ntmps81 rfl ?_
  refine ZC.seq ?_; refine ZC.region ?_; refine ZL.val (r_assign rfl) rfl ?_; refine ZL.nil ?_; refine ZP.then ?_; refine ZC.seq ?_; refine ZC.region ?_; refine ZL.val (r_move rfl) rfl ?_; refine ZL.val (r_move rfl) rfl ?_
  refine ZL.call (r_call rfl) rfl (indexFunc_ok v ls w X h) (fun v1 w1 hv => ?_)
  obtain ⟨rfl, z, rfl, hz⟩ := hv
  refine ZL.val (r_geq rfl rfl) rfl ?_; refine ZL.val (r_assign rfl) rfl ?_; refine ZL.nil ?_; refine ZP.then ?_; refine ZC.ret ?_
  refine ZP.ret1 rfl rfl ⟨rfl, ?_⟩
  simp only [Value.bool.injEq]
  rw [Bool.eq_iff_iff]; simpa using hz

/-! ### May -/
def TIn.bad (x : TIn) : Bool := longB x.script || decide (10 < x.wit.length) || x.wit.any longB
def TOut.bad (x : TOut) : Bool := longB x.script
def TTx.may (t : TTx) : Bool := !t.ins.any TIn.bad && !t.outs.any TOut.bad && decide (1 ≤ t.ins.length) && decide (t.ins.length ≤ 50) && decide (1 ≤ t.outs.length) && decide (t.outs.length ≤ 50)

theorem InE.cells {w : World} {X : Nat → Prop} {i : TIn} {sv wv : Value} : (i.prev.cells ++ [u32 i.vout, sv, u32 i.seq, wv])[32]? = some (u32 i.vout) ∧ (i.prev.cells ++ [u32 i.vout, sv, u32 i.seq, wv])[33]? = some sv ∧
    (i.prev.cells ++ [u32 i.vout, sv, u32 i.seq, wv])[34]? = some (u32 i.seq) ∧ (i.prev.cells ++ [u32 i.vout, sv, u32 i.seq, wv])[35]? = some wv := by
  have h := i.prev.length
  refine ⟨?_, ?_, ?_, ?_⟩ <;> rw [List.getElem?_append_right (by omega), h] <;> rfl

/-- The cells of an input, and of an output, as a variable holds them. -/
def InC (i : TIn) (sv wv : Value) : Array Value := (i.prev.cells ++ [u32 i.vout, sv, u32 i.seq, wv]).toArray
theorem InC.size (i : TIn) (sv wv : Value) : (InC i sv wv).size = 36 := by simp [InC, B32.length]
theorem InC.n32 (i : TIn) (sv wv : Value) : nth (InC i sv wv) 32 = some (u32 i.vout) := by rw [nth_eq]; simpa [InC] using (InE.cells (i := i) (sv := sv) (wv := wv) (w := default) (X := No)).1
theorem InC.n33 (i : TIn) (sv wv : Value) : nth (InC i sv wv) 33 = some sv := by rw [nth_eq]; simpa [InC] using (InE.cells (i := i) (sv := sv) (wv := wv) (w := default) (X := No)).2.1
theorem InC.n34 (i : TIn) (sv wv : Value) : nth (InC i sv wv) 34 = some (u32 i.seq) := by rw [nth_eq]; simpa [InC] using (InE.cells (i := i) (sv := sv) (wv := wv) (w := default) (X := No)).2.2.1
theorem InC.n35 (i : TIn) (sv wv : Value) : nth (InC i sv wv) 35 = some wv := by rw [nth_eq]; simpa [InC] using (InE.cells (i := i) (sv := sv) (wv := wv) (w := default) (X := No)).2.2.2
theorem SlC.one {w : World} {X : Nat → Prop} {s n : Nat} {v : Value} {xs : List Value} (h : SlC w X s v n xs) : v.oneCell' = true := by
  obtain ⟨p, c, rfl⟩ := h.shape; rfl
theorem ListR.one {α : Type} {E : World → (Nat → Prop) → List Value → α → Prop} {s : Nat} {w : World} {X : Nat → Prop} {v : Value} {l : List α} (h : ListR E s w X v l) : v.oneCell' = true := by
  obtain ⟨p, c, rfl⟩ := h.shape; rfl
theorem b32_one (x : B32) : ∀ v ∈ x.cells, v.oneCell' = true := u8_one _
theorem InC.one {i : TIn} {sv wv : Value} (h1 : sv.oneCell' = true) (h2 : wv.oneCell' = true) : (InC i sv wv).toList.all Value.oneCell' = true := by
  simp only [InC, List.all_append, List.all_cons, List.all_nil, Bool.and_true, Bool.and_eq_true, List.all_eq_true]
  exact ⟨b32_one _, rfl, h1, rfl, h2⟩

theorem may_ok (v : Value) (t : TTx) (w : World) (X : Nat → Prop) (h : TxR w X v t) :
    Ret P 69 #[v] w (fun r w' => Ext w w' ∧ r = .bool t.may) := by
  obtain ⟨r, rfl, iv, ov, rfl, hi, ho⟩ := h
  obtain ⟨ip, ic, rfl⟩ := hi.shape
  obtain ⟨op, oc, rfl⟩ := ho.shape
  obtain ⟨-, hi1, hi2⟩ := hi.le
  obtain ⟨-, ho1, ho2⟩ := ho.le
  have mX : ∀ {L : List Chunk} {w' : World}, Mem w No L w' → Ext w w' := fun h => h.ext
  refine Ret.enter1 Tryd.func69 rfl Tryd.ntmps69 rfl ?_
  refine ZC.seq ?_; refine ZC.region ?_
  refine ZL.box (Mem.start w No) rfl rfl rfl (fun b w1 M => ?_)
  refine ZL.val (r_assign rfl) rfl ?_; refine ZL.nil ?_; refine ZP.then ?_; refine ZC.seq ?_; refine ZC.seq ?_; refine ZC.region ?_; refine ZL.val (r_fieldAddr rfl) rfl ?_
  refine ZL.val (r_ld M rfl (by rfl)) rfl ?_
  refine ZL.val (r_lenSlice rfl) rfl ?_; refine ZL.val (r_move rfl) rfl ?_; refine ZL.nil ?_; refine ZP.then ?_; refine ZC.block ?_
  refine ZC.loop (X := Nat) (fun k => [(10, .int .i64 k), (9, .int .i64 t.ins.length), (8, .slice ip t.ins.length ic), (1, .pointer (some ⟨b, 0, none⟩))])
    (fun k w' => Mem w No [.blk b (.cells #[u32 t.version, .slice ip t.ins.length ic, .slice op t.outs.length oc, u32 t.lock] 30)] w' ∧ k ≤ t.ins.length ∧ (t.ins.take k).any TIn.bad = false) (fun k => t.ins.length - k) 0 ⟨rfl, rfl, rfl, rfl, trivial⟩ ⟨M, by omega, by simp⟩ ?_
  rintro k w2 ⟨M2, hk, hno⟩
  refine ZC.seq ?_; refine ZC.region ?_; refine ZL.val (r_lss rfl rfl) rfl ?_; refine ZL.nil ?_; refine ZP.then ?_; refine ZC.seq ?_
  refine ZC.condD rfl (fun hc => ?_) (fun hc => ?_)
  · have hk' : k < t.ins.length := by omega
    obtain ⟨g, o, cs, e, fz, r, rfl, hh, hx, hlen, hE, hcell, hsz, hext⟩ := hi.elem (by decide) hk'
    obtain ⟨sv, wv, rfl, hs, hwit⟩ := hE
    obtain ⟨wp, wc, rfl⟩ := hwit.shape
    obtain ⟨-, hw1, hw2⟩ := hwit.le
    have bad : t.ins[k].bad = true → t.may = false := fun hb => by
      have : t.ins.any TIn.bad = true := List.any_eq_true.2 ⟨_, List.getElem_mem hk', hb⟩
      simp [TTx.may, this]
    change cs.extract _ _ = InC t.ins[k] sv (.slice wp t.ins[k].wit.length wc) at hext
    refine ZC.skip ?_; refine ZP.then ?_; refine ZC.seq ?_; refine ZC.block ?_; refine ZC.seq ?_; refine ZC.region ?_
    refine ZL.val (r_indexAddrSlice rfl rfl hk') rfl ?_
    refine ZL.val (r_loadN rfl (M2.ext.at hh id) hsz hext) rfl ?_
    refine ZL.alloc M2 rfl rfl (fun b3 w3 M3 => ?_)
    refine ZL.stW M3 rfl rfl rfl (by rfl) (InC.size _ _ _) (InC.one hs.one rfl) (fun w4 M4 => ?_)
    refine ZL.nil ?_; refine ZP.then ?_; refine ZC.seq ?_; refine ZC.region ?_; refine ZL.val (r_fieldAddr rfl) rfl ?_
    refine ZL.val (r_ld M4 rfl (InC.n33 _ _ _)) rfl ?_
    refine ZL.call (r_call rfl) rfl (long_ok sv _ w4 _ (hs.mv (Mv.mem (M4.weak X)))) (fun v5 w5 hv => ?_)
    obtain ⟨rfl, rfl⟩ := hv
    refine ZL.val (r_move rfl) rfl ?_
    have fin : ∀ {Q : Post} {σ : Env}, True := fun {_ _} => trivial
    refine ZL.split 17 rfl (fun ht => ?_) (fun hf => ?_)
    · refine ZL.skip rfl rfl rfl rfl ?_; refine ZL.skip rfl rfl rfl rfl ?_; refine ZL.skip rfl rfl rfl rfl ?_; refine ZL.skip rfl rfl rfl rfl ?_; refine ZL.val (r_pickT rfl rfl) rfl ?_; refine ZL.val (r_move rfl) rfl ?_; refine ZL.skip rfl rfl rfl rfl ?_; refine ZL.skip rfl rfl rfl rfl ?_; refine ZL.skip rfl rfl rfl rfl ?_; refine ZL.val (r_pickT rfl rfl) rfl ?_; refine ZL.nil ?_; refine ZP.then ?_
      refine ZC.condT rfl ?_
      refine ZC.seq ?_; refine ZC.region ?_; refine ZL.val (r_assign rfl) rfl ?_; refine ZL.nil ?_; refine ZP.then ?_; refine ZC.ret ?_; refine ZP.blockR ?_; refine ZP.thenR ?_; refine ZP.thenR ?_; refine ZP.blockR ?_; refine ZP.thenR ?_
      exact ZP.ret1 rfl rfl ⟨M4.ext, by rw [bad (by simp [TIn.bad, ht])]⟩
    · refine ZL.on rfl rfl rfl ?_; refine ZL.val (r_fieldAddr rfl) rfl ?_; refine ZL.on rfl rfl rfl ?_
      refine ZL.val (r_ld M4 rfl (InC.n35 _ _ _)) rfl ?_
      refine ZL.on rfl rfl rfl ?_; refine ZL.val (r_lenSlice rfl) rfl ?_; refine ZL.on rfl rfl rfl ?_; refine ZL.val (r_gtr rfl rfl) rfl ?_; refine ZL.val (r_pickF rfl rfl) rfl ?_; refine ZL.val (r_move rfl) rfl ?_
      refine ZL.splitD 23 rfl (fun ht => ?_) (fun hf2 => ?_)
      · refine ZL.skip rfl rfl rfl rfl ?_; refine ZL.skip rfl rfl rfl rfl ?_; refine ZL.skip rfl rfl rfl rfl ?_; refine ZL.val (r_pickT rfl rfl) rfl ?_; refine ZL.nil ?_; refine ZP.then ?_
        refine ZC.condT rfl ?_
        refine ZC.seq ?_; refine ZC.region ?_; refine ZL.val (r_assign rfl) rfl ?_; refine ZL.nil ?_; refine ZP.then ?_; refine ZC.ret ?_; refine ZP.blockR ?_; refine ZP.thenR ?_; refine ZP.thenR ?_; refine ZP.blockR ?_; refine ZP.thenR ?_
        exact ZP.ret1 rfl rfl ⟨M4.ext, by rw [bad (by simp [TIn.bad]; omega)]⟩
      · refine ZL.on rfl rfl rfl ?_; refine ZL.val (r_fieldAddr rfl) rfl ?_; refine ZL.on rfl rfl rfl ?_
        refine ZL.val (r_ld M4 rfl (InC.n35 _ _ _)) rfl ?_
        refine ZL.on rfl rfl rfl ?_
        refine ZL.call (r_call rfl) rfl (containsFunc_ok _ _ w4 _ (ListR.mv (fun _ _ h => BytesE.mv (Mv.mem (M4.weak X)) h) hwit (Mv.mem (M4.weak X)))) (fun v6 w6 hv => ?_)
        obtain ⟨rfl, rfl⟩ := hv
        refine ZL.val (r_pickF rfl rfl) rfl ?_; refine ZL.nil ?_; refine ZP.then ?_
        refine ZC.cond rfl (fun ht => ?_) (fun hf3 => ?_)
        · refine ZC.seq ?_; refine ZC.region ?_; refine ZL.val (r_assign rfl) rfl ?_; refine ZL.nil ?_; refine ZP.then ?_; refine ZC.ret ?_; refine ZP.blockR ?_; refine ZP.thenR ?_; refine ZP.thenR ?_; refine ZP.blockR ?_; refine ZP.thenR ?_
          exact ZP.ret1 rfl rfl ⟨M4.ext, by rw [bad (by simp [TIn.bad, ht])]⟩
        · refine ZC.skip ?_; refine ZP.blockN ?_; refine ZP.then ?_; refine ZC.region ?_; refine ZL.val (r_add rfl rfl (wrap_i64 (by omega) (by omega))) rfl ?_; refine ZL.val (r_move rfl) rfl ?_; refine ZL.nil ?_
          refine ZP.round (k + 1) ⟨rfl, rfl, rfl, rfl, trivial⟩ ⟨M4.drop, by omega, ?_⟩ (by omega)
          rw [List.take_succ_eq_append_getElem hk', List.any_append, hno]
          simp [TIn.bad, hf, hf3]; omega
  · have hk' : k = t.ins.length := by omega
    subst hk'
    rw [List.take_length] at hno
    refine ZC.exit ?_; refine ZP.thenX ?_; refine ZP.thenX ?_; refine ZP.blockE ?_; refine ZP.then ?_; refine ZC.seq ?_; refine ZC.seq ?_; refine ZC.region ?_; refine ZL.val (r_fieldAddr rfl) rfl ?_
    refine ZL.val (r_ld M2 rfl (by rfl)) rfl ?_
    refine ZL.val (r_lenSlice rfl) rfl ?_; refine ZL.val (r_move rfl) rfl ?_; refine ZL.nil ?_; refine ZP.then ?_; refine ZC.block ?_
    refine ZC.loop (X := Nat) (fun k => [(32, .int .i64 k), (31, .int .i64 t.outs.length), (30, .slice op t.outs.length oc), (1, .pointer (some ⟨b, 0, none⟩))])
      (fun k w' => Mem w No [.blk b (.cells #[u32 t.version, .slice ip t.ins.length ic, .slice op t.outs.length oc, u32 t.lock] 30)] w' ∧ k ≤ t.outs.length ∧ (t.outs.take k).any TOut.bad = false) (fun k => t.outs.length - k) 0 ⟨rfl, rfl, rfl, rfl, trivial⟩ ⟨M2, by omega, by simp⟩ ?_
    rintro k w2 ⟨M2, hk, hno2⟩
    refine ZC.seq ?_; refine ZC.region ?_; refine ZL.val (r_lss rfl rfl) rfl ?_; refine ZL.nil ?_; refine ZP.then ?_; refine ZC.seq ?_
    refine ZC.condD rfl (fun hc2 => ?_) (fun hc2 => ?_)
    · have hk' : k < t.outs.length := by omega
      obtain ⟨g, o, cs, e, fz, r, rfl, hh, hx, hlen, hE, hcell, hsz, hext⟩ := ho.elem (by decide) hk'
      obtain ⟨sv, rfl, hs⟩ := hE
      have bad : t.outs[k].bad = true → t.may = false := fun hb => by
        have : t.outs.any TOut.bad = true := List.any_eq_true.2 ⟨_, List.getElem_mem hk', hb⟩
        simp [TTx.may, this]
      refine ZC.skip ?_; refine ZP.then ?_; refine ZC.seq ?_; refine ZC.block ?_; refine ZC.seq ?_; refine ZC.region ?_
      refine ZL.val (r_indexAddrSlice rfl rfl hk') rfl ?_
      refine ZL.val (r_loadN rfl (M2.ext.at hh id) hsz hext) rfl ?_
      refine ZL.alloc M2 rfl rfl (fun b3 w3 M3 => ?_)
      refine ZL.stW M3 rfl rfl rfl (by rfl) (by rfl) (by simp only [List.all_cons, List.all_nil, hs.one]; rfl) (fun w4 M4 => ?_)
      refine ZL.nil ?_; refine ZP.then ?_; refine ZC.seq ?_; refine ZC.region ?_; refine ZL.val (r_fieldAddr rfl) rfl ?_
      refine ZL.val (r_ld M4 rfl (by rfl)) rfl ?_
      refine ZL.call (r_call rfl) rfl (long_ok sv _ w4 _ (hs.mv (Mv.mem (M4.weak X)))) (fun v5 w5 hv => ?_)
      obtain ⟨rfl, rfl⟩ := hv
      refine ZL.nil ?_; refine ZP.then ?_
      refine ZC.cond rfl (fun ht => ?_) (fun hf => ?_)
      · refine ZC.seq ?_; refine ZC.region ?_; refine ZL.val (r_assign rfl) rfl ?_; refine ZL.nil ?_; refine ZP.then ?_; refine ZC.ret ?_; refine ZP.blockR ?_; refine ZP.thenR ?_; refine ZP.thenR ?_; refine ZP.blockR ?_; refine ZP.thenR ?_
        exact ZP.ret1 rfl rfl ⟨M4.ext, by rw [bad (by simp [TOut.bad, ht])]⟩
      · refine ZC.skip ?_; refine ZP.blockN ?_; refine ZP.then ?_; refine ZC.region ?_; refine ZL.val (r_add rfl rfl (wrap_i64 (by omega) (by omega))) rfl ?_; refine ZL.val (r_move rfl) rfl ?_; refine ZL.nil ?_
        refine ZP.round (k + 1) ⟨rfl, rfl, rfl, rfl, trivial⟩ ⟨M4.drop, by omega, ?_⟩ (by omega)
        rw [List.take_succ_eq_append_getElem hk', List.any_append, hno2]
        simp [TOut.bad, hf]
    · have hk' : k = t.outs.length := by omega
      subst hk'
      rw [List.take_length] at hno2
      have hm : t.may = (decide (1 ≤ t.ins.length) && decide (t.ins.length ≤ 50) && decide (1 ≤ t.outs.length) && decide (t.outs.length ≤ 50)) := by simp [TTx.may, hno, hno2]
      refine ZC.exit ?_; refine ZP.thenX ?_; refine ZP.thenX ?_; refine ZP.blockE ?_; refine ZP.then ?_; refine ZC.seq ?_; refine ZC.region ?_; refine ZL.val (r_fieldAddr rfl) rfl ?_
      refine ZL.val (r_ld M2 rfl (by rfl)) rfl ?_
      refine ZL.val (r_lenSlice rfl) rfl ?_; refine ZL.val (r_geq rfl rfl) rfl ?_; refine ZL.val (r_move rfl) rfl ?_
      refine ZL.splitD 44 rfl (fun h1 => ?_) (fun h1 => ?_)
      · refine ZL.on rfl rfl rfl ?_; refine ZL.val (r_fieldAddr rfl) rfl ?_; refine ZL.on rfl rfl rfl ?_
        refine ZL.val (r_ld M2 rfl (by rfl)) rfl ?_
        refine ZL.on rfl rfl rfl ?_; refine ZL.val (r_lenSlice rfl) rfl ?_; refine ZL.on rfl rfl rfl ?_; refine ZL.val (r_leq rfl rfl) rfl ?_; refine ZL.val (r_pickT rfl rfl) rfl ?_; refine ZL.val (r_move rfl) rfl ?_
        refine ZL.splitD 50 rfl (fun h2 => ?_) (fun h2 => ?_)
        · refine ZL.on rfl rfl rfl ?_; refine ZL.val (r_fieldAddr rfl) rfl ?_; refine ZL.on rfl rfl rfl ?_
          refine ZL.val (r_ld M2 rfl (by rfl)) rfl ?_
          refine ZL.on rfl rfl rfl ?_; refine ZL.val (r_lenSlice rfl) rfl ?_; refine ZL.on rfl rfl rfl ?_; refine ZL.val (r_geq rfl rfl) rfl ?_; refine ZL.val (r_pickT rfl rfl) rfl ?_; refine ZL.val (r_move rfl) rfl ?_
          refine ZL.splitD 56 rfl (fun h3 => ?_) (fun h3 => ?_)
          · refine ZL.on rfl rfl rfl ?_; refine ZL.val (r_fieldAddr rfl) rfl ?_; refine ZL.on rfl rfl rfl ?_
            refine ZL.val (r_ld M2 rfl (by rfl)) rfl ?_
            refine ZL.on rfl rfl rfl ?_; refine ZL.val (r_lenSlice rfl) rfl ?_; refine ZL.on rfl rfl rfl ?_; refine ZL.val (r_leq rfl rfl) rfl ?_; refine ZL.val (r_pickT rfl rfl) rfl ?_; refine ZL.val (r_assign rfl) rfl ?_; refine ZL.nil ?_; refine ZP.then ?_; refine ZC.ret ?_
            refine ZP.ret1 rfl rfl ⟨M2.ext, ?_⟩
            rw [hm]; congr 1; rw [Bool.eq_iff_iff]; simp; omega
          · refine ZL.skip rfl rfl rfl rfl ?_; refine ZL.skip rfl rfl rfl rfl ?_; refine ZL.skip rfl rfl rfl rfl ?_; refine ZL.skip rfl rfl rfl rfl ?_; refine ZL.val (r_pickF rfl rfl) rfl ?_; refine ZL.val (r_assign rfl) rfl ?_; refine ZL.nil ?_; refine ZP.then ?_; refine ZC.ret ?_
            refine ZP.ret1 rfl rfl ⟨M2.ext, ?_⟩
            rw [hm]; congr 1; rw [Bool.eq_iff_iff]; simp; omega
        · refine ZL.skip rfl rfl rfl rfl ?_; refine ZL.skip rfl rfl rfl rfl ?_; refine ZL.skip rfl rfl rfl rfl ?_; refine ZL.skip rfl rfl rfl rfl ?_; refine ZL.val (r_pickF rfl rfl) rfl ?_; refine ZL.val (r_move rfl) rfl ?_; refine ZL.skip rfl rfl rfl rfl ?_; refine ZL.skip rfl rfl rfl rfl ?_; refine ZL.skip rfl rfl rfl rfl ?_; refine ZL.skip rfl rfl rfl rfl ?_; refine ZL.val (r_pickF rfl rfl) rfl ?_; refine ZL.val (r_assign rfl) rfl ?_; refine ZL.nil ?_; refine ZP.then ?_; refine ZC.ret ?_
          refine ZP.ret1 rfl rfl ⟨M2.ext, ?_⟩
          rw [hm]; congr 1; rw [Bool.eq_iff_iff]; simp; omega
      · refine ZL.skip rfl rfl rfl rfl ?_; refine ZL.skip rfl rfl rfl rfl ?_; refine ZL.skip rfl rfl rfl rfl ?_; refine ZL.skip rfl rfl rfl rfl ?_; refine ZL.val (r_pickF rfl rfl) rfl ?_; refine ZL.val (r_move rfl) rfl ?_; refine ZL.skip rfl rfl rfl rfl ?_; refine ZL.skip rfl rfl rfl rfl ?_; refine ZL.skip rfl rfl rfl rfl ?_; refine ZL.skip rfl rfl rfl rfl ?_; refine ZL.val (r_pickF rfl rfl) rfl ?_; refine ZL.val (r_move rfl) rfl ?_; refine ZL.skip rfl rfl rfl rfl ?_; refine ZL.skip rfl rfl rfl rfl ?_; refine ZL.skip rfl rfl rfl rfl ?_; refine ZL.skip rfl rfl rfl rfl ?_; refine ZL.val (r_pickF rfl rfl) rfl ?_; refine ZL.val (r_assign rfl) rfl ?_; refine ZL.nil ?_; refine ZP.then ?_; refine ZC.ret ?_
        refine ZP.ret1 rfl rfl ⟨M2.ext, ?_⟩
        rw [hm]; congr 1; rw [Bool.eq_iff_iff]; simp; omega

theorem refmay_ok (v : Value) (t : TTx) (w : World) (X : Nat → Prop) (h : TxR w X v t) :
    Ret P 41 #[v] w (fun r w' => Ext w w' ∧ r = .bool t.may) := by
  obtain ⟨r, rfl, iv, ov, rfl, hi, ho⟩ := h
  obtain ⟨ip, ic, rfl⟩ := hi.shape
  obtain ⟨op, oc, rfl⟩ := ho.shape
  obtain ⟨-, hi1, hi2⟩ := hi.le
  obtain ⟨-, ho1, ho2⟩ := ho.le
  refine Ret.enter1 Tryd.func41 rfl Tryd.ntmps41 rfl ?_
  refine ZC.seq ?_; refine ZC.region ?_
  refine ZL.box (Mem.start w No) rfl rfl rfl (fun b w1 M => ?_)
  refine ZL.val (r_assign rfl) rfl ?_; refine ZL.nil ?_; refine ZP.then ?_; refine ZC.seq ?_; refine ZC.seq ?_; refine ZC.region ?_; refine ZL.val (r_fieldAddr rfl) rfl ?_
  refine ZL.val (r_ld M rfl (by rfl)) rfl ?_
  refine ZL.val (r_lenSlice rfl) rfl ?_; refine ZL.val (r_lss rfl rfl) rfl ?_; refine ZL.val (r_move rfl) rfl ?_
  have no : t.may = true → 1 ≤ t.ins.length ∧ t.ins.length ≤ 50 ∧ 1 ≤ t.outs.length ∧ t.outs.length ≤ 50 := fun h => by simp [TTx.may] at h; omega
  have nof : ¬ (1 ≤ t.ins.length ∧ t.ins.length ≤ 50 ∧ 1 ≤ t.outs.length ∧ t.outs.length ≤ 50) → t.may = false := fun h => by
    cases hm : t.may with
    | false => rfl
    | true => exact absurd (no hm) h
  refine ZL.splitD 10 rfl (fun h1 => ?_) (fun h1 => ?_)
  · refine ZL.skip rfl rfl rfl rfl ?_; refine ZL.skip rfl rfl rfl rfl ?_; refine ZL.skip rfl rfl rfl rfl ?_; refine ZL.skip rfl rfl rfl rfl ?_; refine ZL.val (r_pickT rfl rfl) rfl ?_; refine ZL.val (r_move rfl) rfl ?_; refine ZL.skip rfl rfl rfl rfl ?_; refine ZL.skip rfl rfl rfl rfl ?_; refine ZL.skip rfl rfl rfl rfl ?_; refine ZL.skip rfl rfl rfl rfl ?_; refine ZL.val (r_pickT rfl rfl) rfl ?_; refine ZL.val (r_move rfl) rfl ?_; refine ZL.skip rfl rfl rfl rfl ?_; refine ZL.skip rfl rfl rfl rfl ?_; refine ZL.skip rfl rfl rfl rfl ?_; refine ZL.skip rfl rfl rfl rfl ?_; refine ZL.val (r_pickT rfl rfl) rfl ?_; refine ZL.nil ?_; refine ZP.then ?_
    refine ZC.condT rfl ?_
    refine ZC.seq ?_; refine ZC.region ?_; refine ZL.val (r_assign rfl) rfl ?_; refine ZL.nil ?_; refine ZP.then ?_; refine ZC.ret ?_; refine ZP.thenR ?_
    exact ZP.ret1 rfl rfl ⟨M.ext, by rw [nof (by omega)]⟩
  · refine ZL.on rfl rfl rfl ?_; refine ZL.val (r_fieldAddr rfl) rfl ?_; refine ZL.on rfl rfl rfl ?_
    refine ZL.val (r_ld M rfl (by rfl)) rfl ?_
    refine ZL.on rfl rfl rfl ?_; refine ZL.val (r_lenSlice rfl) rfl ?_; refine ZL.on rfl rfl rfl ?_; refine ZL.val (r_gtr rfl rfl) rfl ?_; refine ZL.val (r_pickF rfl rfl) rfl ?_; refine ZL.val (r_move rfl) rfl ?_
    refine ZL.splitD 16 rfl (fun h2 => ?_) (fun h2 => ?_)
    · refine ZL.skip rfl rfl rfl rfl ?_; refine ZL.skip rfl rfl rfl rfl ?_; refine ZL.skip rfl rfl rfl rfl ?_; refine ZL.skip rfl rfl rfl rfl ?_; refine ZL.val (r_pickT rfl rfl) rfl ?_; refine ZL.val (r_move rfl) rfl ?_; refine ZL.skip rfl rfl rfl rfl ?_; refine ZL.skip rfl rfl rfl rfl ?_; refine ZL.skip rfl rfl rfl rfl ?_; refine ZL.skip rfl rfl rfl rfl ?_; refine ZL.val (r_pickT rfl rfl) rfl ?_; refine ZL.nil ?_; refine ZP.then ?_
      refine ZC.condT rfl ?_
      refine ZC.seq ?_; refine ZC.region ?_; refine ZL.val (r_assign rfl) rfl ?_; refine ZL.nil ?_; refine ZP.then ?_; refine ZC.ret ?_; refine ZP.thenR ?_
      exact ZP.ret1 rfl rfl ⟨M.ext, by rw [nof (by omega)]⟩
    · refine ZL.on rfl rfl rfl ?_; refine ZL.val (r_fieldAddr rfl) rfl ?_; refine ZL.on rfl rfl rfl ?_
      refine ZL.val (r_ld M rfl (by rfl)) rfl ?_
      refine ZL.on rfl rfl rfl ?_; refine ZL.val (r_lenSlice rfl) rfl ?_; refine ZL.on rfl rfl rfl ?_; refine ZL.val (r_lss rfl rfl) rfl ?_; refine ZL.val (r_pickF rfl rfl) rfl ?_; refine ZL.val (r_move rfl) rfl ?_
      refine ZL.splitD 22 rfl (fun h3 => ?_) (fun h3 => ?_)
      · refine ZL.skip rfl rfl rfl rfl ?_; refine ZL.skip rfl rfl rfl rfl ?_; refine ZL.skip rfl rfl rfl rfl ?_; refine ZL.skip rfl rfl rfl rfl ?_; refine ZL.val (r_pickT rfl rfl) rfl ?_; refine ZL.nil ?_; refine ZP.then ?_
        refine ZC.condT rfl ?_
        refine ZC.seq ?_; refine ZC.region ?_; refine ZL.val (r_assign rfl) rfl ?_; refine ZL.nil ?_; refine ZP.then ?_; refine ZC.ret ?_; refine ZP.thenR ?_
        exact ZP.ret1 rfl rfl ⟨M.ext, by rw [nof (by omega)]⟩
      · refine ZL.on rfl rfl rfl ?_; refine ZL.val (r_fieldAddr rfl) rfl ?_; refine ZL.on rfl rfl rfl ?_
        refine ZL.val (r_ld M rfl (by rfl)) rfl ?_
        refine ZL.on rfl rfl rfl ?_; refine ZL.val (r_lenSlice rfl) rfl ?_; refine ZL.on rfl rfl rfl ?_; refine ZL.val (r_gtr rfl rfl) rfl ?_; refine ZL.val (r_pickF rfl rfl) rfl ?_; refine ZL.nil ?_; refine ZP.then ?_
        refine ZC.condD rfl (fun h4 => ?_) (fun h4 => ?_)
        · refine ZC.seq ?_; refine ZC.region ?_; refine ZL.val (r_assign rfl) rfl ?_; refine ZL.nil ?_; refine ZP.then ?_; refine ZC.ret ?_; refine ZP.thenR ?_
          exact ZP.ret1 rfl rfl ⟨M.ext, by rw [nof (by omega)]⟩
        · have hm : t.may = (!t.ins.any TIn.bad && !t.outs.any TOut.bad) := by
            have e : (decide (1 ≤ t.ins.length) && decide (t.ins.length ≤ 50) && decide (1 ≤ t.outs.length) && decide (t.outs.length ≤ 50)) = true := by simp; omega
            simp only [Bool.and_eq_true] at e
            simp only [TTx.may, e.1.1.1, e.1.1.2, e.1.2, e.2, Bool.and_true]
          refine ZC.skip ?_; refine ZP.then ?_; refine ZC.seq ?_; refine ZC.seq ?_; refine ZC.region ?_; refine ZL.val (r_assign rfl) rfl ?_; refine ZL.nil ?_; refine ZP.then ?_; refine ZC.block ?_
          refine ZC.loop (X := Nat) (fun k => [(3, .int .i64 k), (1, .pointer (some ⟨b, 0, none⟩))])
            (fun k w' => Mem w No [.blk b (.cells #[u32 t.version, .slice ip t.ins.length ic, .slice op t.outs.length oc, u32 t.lock] 30)] w' ∧ k ≤ t.ins.length ∧ (t.ins.take k).any TIn.bad = false) (fun k => t.ins.length - k) 0 ⟨rfl, rfl, trivial⟩ ⟨M, by omega, by simp⟩ ?_
          rintro k w2 ⟨M2, hk, hno⟩
          refine ZC.seq ?_; refine ZC.seq ?_; refine ZC.region ?_; refine ZL.val (r_move rfl) rfl ?_; refine ZL.val (r_fieldAddr rfl) rfl ?_
          refine ZL.val (r_ld M2 rfl (by rfl)) rfl ?_
          refine ZL.val (r_lenSlice rfl) rfl ?_; refine ZL.val (r_lss rfl rfl) rfl ?_; refine ZL.nil ?_; refine ZP.then ?_
          refine ZC.condD rfl (fun hc => ?_) (fun hc => ?_)
          · have hk' : k < t.ins.length := by omega
            obtain ⟨g, o, cs, e, fz, r, rfl, hh, hx, hlen, hE, hcell, hsz, hext⟩ := hi.elem (by decide) hk'
            obtain ⟨sv, wv, rfl, hs, hwit⟩ := hE
            obtain ⟨wp, wc, rfl⟩ := hwit.shape
            obtain ⟨-, hw1, hw2⟩ := hwit.le
            obtain ⟨sp, sc, rfl⟩ := hs.shape
            have bad : t.ins[k].bad = true → t.may = false := fun hb => by
              have : t.ins.any TIn.bad = true := List.any_eq_true.2 ⟨_, List.getElem_mem hk', hb⟩
              simp [TTx.may, this]
            have hcc := InE.cells (i := t.ins[k]) (sv := .slice sp t.ins[k].script.length sc) (wv := .slice wp t.ins[k].wit.length wc) (w := w) (X := X)
            refine ZC.skip ?_; refine ZP.then ?_; refine ZC.seq ?_; refine ZC.block ?_; refine ZC.seq ?_; refine ZC.seq ?_; refine ZC.region ?_; refine ZL.val (r_fieldAddr rfl) rfl ?_
            refine ZL.val (r_ld M2 rfl (by rfl)) rfl ?_
            refine ZL.val (r_move rfl) rfl ?_
            refine ZL.val (r_indexAddrSlice rfl rfl hk') rfl ?_
            refine ZL.val (r_fieldAddr rfl) rfl ?_
            refine ZL.val (r_load1 rfl (M2.ext.at hh id) (hcell 33 _ hcc.2.1)) rfl ?_
            refine ZL.val (r_lenSlice rfl) rfl ?_; refine ZL.val (r_gtr rfl rfl) rfl ?_; refine ZL.val (r_move rfl) rfl ?_
            refine ZL.splitD 43 rfl (fun h5 => ?_) (fun h5 => ?_)
            · refine ZL.skip rfl rfl rfl rfl ?_; refine ZL.skip rfl rfl rfl rfl ?_; refine ZL.skip rfl rfl rfl rfl ?_; refine ZL.skip rfl rfl rfl rfl ?_; refine ZL.skip rfl rfl rfl rfl ?_; refine ZL.skip rfl rfl rfl rfl ?_; refine ZL.skip rfl rfl rfl rfl ?_; refine ZL.skip rfl rfl rfl rfl ?_; refine ZL.val (r_pickT rfl rfl) rfl ?_; refine ZL.nil ?_; refine ZP.then ?_
              refine ZC.condT rfl ?_
              refine ZC.seq ?_; refine ZC.region ?_; refine ZL.val (r_assign rfl) rfl ?_; refine ZL.nil ?_; refine ZP.then ?_; refine ZC.ret ?_; refine ZP.thenR ?_; refine ZP.blockR ?_; refine ZP.thenR ?_; refine ZP.thenR ?_; refine ZP.blockR ?_; refine ZP.thenR ?_
              exact ZP.ret1 rfl rfl ⟨M2.ext, by rw [bad (by simp [TIn.bad, longB]; omega)]⟩
            · refine ZL.on rfl rfl rfl ?_; refine ZL.val (r_fieldAddr rfl) rfl ?_; refine ZL.on rfl rfl rfl ?_
              refine ZL.val (r_ld M2 rfl (by rfl)) rfl ?_
              refine ZL.on rfl rfl rfl ?_; refine ZL.val (r_move rfl) rfl ?_; refine ZL.on rfl rfl rfl ?_
              refine ZL.val (r_indexAddrSlice rfl rfl hk') rfl ?_
              refine ZL.on rfl rfl rfl ?_; refine ZL.val (r_fieldAddr rfl) rfl ?_; refine ZL.on rfl rfl rfl ?_
              refine ZL.val (r_load1 rfl (M2.ext.at hh id) (hcell 35 _ hcc.2.2.2)) rfl ?_
              refine ZL.on rfl rfl rfl ?_; refine ZL.val (r_lenSlice rfl) rfl ?_; refine ZL.on rfl rfl rfl ?_; refine ZL.val (r_gtr rfl rfl) rfl ?_; refine ZL.val (r_pickF rfl rfl) rfl ?_; refine ZL.nil ?_; refine ZP.then ?_
              refine ZC.condD rfl (fun h6 => ?_) (fun h6 => ?_)
              · refine ZC.seq ?_; refine ZC.region ?_; refine ZL.val (r_assign rfl) rfl ?_; refine ZL.nil ?_; refine ZP.then ?_; refine ZC.ret ?_; refine ZP.thenR ?_; refine ZP.blockR ?_; refine ZP.thenR ?_; refine ZP.thenR ?_; refine ZP.blockR ?_; refine ZP.thenR ?_
                exact ZP.ret1 rfl rfl ⟨M2.ext, by rw [bad (by simp [TIn.bad]; omega)]⟩
              · refine ZC.skip ?_; refine ZP.then ?_; refine ZC.seq ?_; refine ZC.region ?_; refine ZL.val (r_assign rfl) rfl ?_; refine ZL.nil ?_; refine ZP.then ?_; refine ZC.block ?_
                refine ZC.loop (X := Nat) (fun j => [(4, .int .i64 j), (3, .int .i64 k), (1, .pointer (some ⟨b, 0, none⟩))])
                  (fun j w' => Mem w No [.blk b (.cells #[u32 t.version, .slice (some ⟨g, o, none⟩) t.ins.length ic, .slice op t.outs.length oc, u32 t.lock] 30)] w' ∧ j ≤ t.ins[k].wit.length ∧ (t.ins[k].wit.take j).any longB = false) (fun j => t.ins[k].wit.length - j) 0 ⟨rfl, rfl, rfl, trivial⟩ ⟨M2, by omega, by simp⟩ ?_
                rintro j w3 ⟨M3, hj, hno3⟩
                refine ZC.seq ?_; refine ZC.seq ?_; refine ZC.region ?_; refine ZL.val (r_move rfl) rfl ?_; refine ZL.val (r_fieldAddr rfl) rfl ?_
                refine ZL.val (r_ld M3 rfl (by rfl)) rfl ?_
                refine ZL.val (r_move rfl) rfl ?_
                refine ZL.val (r_indexAddrSlice rfl rfl hk') rfl ?_
                refine ZL.val (r_fieldAddr rfl) rfl ?_
                refine ZL.val (r_load1 rfl (M3.ext.at hh id) (hcell 35 _ hcc.2.2.2)) rfl ?_
                refine ZL.val (r_lenSlice rfl) rfl ?_; refine ZL.val (r_lss rfl rfl) rfl ?_; refine ZL.nil ?_; refine ZP.then ?_
                refine ZC.condD rfl (fun hd => ?_) (fun hd => ?_)
                · have hj' : j < t.ins[k].wit.length := by omega
                  obtain ⟨g', o', cs', e', fz', r', rfl, hh', hx', -, ⟨bv, rfl, hbv⟩, hcell', -, -⟩ := hwit.elem (by decide) hj'
                  obtain ⟨bp, bc, rfl⟩ := hbv.shape
                  have hb' := hcell' 0 _ rfl
                  refine ZC.skip ?_; refine ZP.then ?_; refine ZC.seq ?_; refine ZC.block ?_; refine ZC.seq ?_; refine ZC.region ?_; refine ZL.val (r_fieldAddr rfl) rfl ?_
                  refine ZL.val (r_ld M3 rfl (by rfl)) rfl ?_
                  refine ZL.val (r_move rfl) rfl ?_
                  refine ZL.val (r_indexAddrSlice rfl rfl hk') rfl ?_
                  refine ZL.val (r_fieldAddr rfl) rfl ?_
                  refine ZL.val (r_load1 rfl (M3.ext.at hh id) (hcell 35 _ hcc.2.2.2)) rfl ?_
                  refine ZL.val (r_move rfl) rfl ?_
                  refine ZL.val (r_indexAddrSlice rfl rfl hj') rfl ?_
                  refine ZL.val (r_load1 rfl (M3.ext.at hh' id) hb') rfl ?_
                  refine ZL.val (r_lenSlice rfl) rfl ?_; refine ZL.val (r_gtr rfl rfl) rfl ?_; refine ZL.nil ?_; refine ZP.then ?_
                  refine ZC.condD rfl (fun h7 => ?_) (fun h7 => ?_)
                  · refine ZC.seq ?_; refine ZC.region ?_; refine ZL.val (r_assign rfl) rfl ?_; refine ZL.nil ?_; refine ZP.then ?_; refine ZC.ret ?_; refine ZP.blockR ?_; refine ZP.thenR ?_; refine ZP.thenR ?_; refine ZP.blockR ?_; refine ZP.blockR ?_; refine ZP.thenR ?_; refine ZP.thenR ?_; refine ZP.blockR ?_; refine ZP.thenR ?_
                    refine ZP.ret1 rfl rfl ⟨M3.ext, ?_⟩
                    rw [bad]
                    have : t.ins[k].wit.any longB = true := List.any_eq_true.2 ⟨_, List.getElem_mem hj', by simp [longB]; omega⟩
                    simp [TIn.bad, this]
                  · refine ZC.skip ?_; refine ZP.blockN ?_; refine ZP.then ?_; refine ZC.region ?_; refine ZL.val (r_move rfl) rfl ?_; refine ZL.val (r_add rfl rfl (wrap_i64 (by omega) (by omega))) rfl ?_; refine ZL.val (r_assign rfl) rfl ?_; refine ZL.nil ?_
                    refine ZP.round (j + 1) ⟨rfl, rfl, rfl, trivial⟩ ⟨M3, by omega, ?_⟩ (by omega)
                    rw [List.take_succ_eq_append_getElem hj', List.any_append, hno3]
                    simp [longB]; omega
                · have hj' : j = t.ins[k].wit.length := by omega
                  subst hj'
                  rw [List.take_length] at hno3
                  refine ZC.exit ?_; refine ZP.thenX ?_; refine ZP.thenX ?_; refine ZP.blockE ?_; refine ZP.blockN ?_; refine ZP.then ?_; refine ZC.region ?_; refine ZL.val (r_move rfl) rfl ?_; refine ZL.val (r_add rfl rfl (wrap_i64 (by omega) (by omega))) rfl ?_; refine ZL.val (r_assign rfl) rfl ?_; refine ZL.nil ?_
                  refine ZP.round (k + 1) ⟨rfl, rfl, trivial⟩ ⟨M3, by omega, ?_⟩ (by omega)
                  rw [List.take_succ_eq_append_getElem hk', List.any_append, hno]
                  simp [TIn.bad, longB, hno3]; omega
          · have hk' : k = t.ins.length := by omega
            subst hk'
            rw [List.take_length] at hno
            refine ZC.exit ?_; refine ZP.thenX ?_; refine ZP.thenX ?_; refine ZP.blockE ?_; refine ZP.then ?_; refine ZC.seq ?_; refine ZC.seq ?_; refine ZC.region ?_; refine ZL.val (r_assign rfl) rfl ?_; refine ZL.nil ?_; refine ZP.then ?_; refine ZC.block ?_
            refine ZC.loop (X := Nat) (fun k => [(5, .int .i64 k), (1, .pointer (some ⟨b, 0, none⟩))])
              (fun k w' => Mem w No [.blk b (.cells #[u32 t.version, .slice ip t.ins.length ic, .slice op t.outs.length oc, u32 t.lock] 30)] w' ∧ k ≤ t.outs.length ∧ (t.outs.take k).any TOut.bad = false) (fun k => t.outs.length - k) 0 ⟨rfl, rfl, trivial⟩ ⟨M2, by omega, by simp⟩ ?_
            rintro k w2 ⟨M2, hk, hno2⟩
            refine ZC.seq ?_; refine ZC.seq ?_; refine ZC.region ?_; refine ZL.val (r_move rfl) rfl ?_; refine ZL.val (r_fieldAddr rfl) rfl ?_
            refine ZL.val (r_ld M2 rfl (by rfl)) rfl ?_
            refine ZL.val (r_lenSlice rfl) rfl ?_; refine ZL.val (r_lss rfl rfl) rfl ?_; refine ZL.nil ?_; refine ZP.then ?_
            refine ZC.condD rfl (fun hc2 => ?_) (fun hc2 => ?_)
            · have hk' : k < t.outs.length := by omega
              obtain ⟨g, o, cs, e, fz, r, rfl, hh, hx, hlen, hE, hcell, hsz, hext⟩ := ho.elem (by decide) hk'
              obtain ⟨sv, rfl, hs⟩ := hE
              obtain ⟨sp, sc, rfl⟩ := hs.shape
              refine ZC.skip ?_; refine ZP.then ?_; refine ZC.seq ?_; refine ZC.block ?_; refine ZC.seq ?_; refine ZC.region ?_; refine ZL.val (r_fieldAddr rfl) rfl ?_
              refine ZL.val (r_ld M2 rfl (by rfl)) rfl ?_
              refine ZL.val (r_move rfl) rfl ?_
              refine ZL.val (r_indexAddrSlice rfl rfl hk') rfl ?_
              refine ZL.val (r_fieldAddr rfl) rfl ?_
              refine ZL.val (r_load1 rfl (M2.ext.at hh id) (hcell 1 _ rfl)) rfl ?_
              refine ZL.val (r_lenSlice rfl) rfl ?_; refine ZL.val (r_gtr rfl rfl) rfl ?_; refine ZL.nil ?_; refine ZP.then ?_
              refine ZC.condD rfl (fun h5 => ?_) (fun h5 => ?_)
              · refine ZC.seq ?_; refine ZC.region ?_; refine ZL.val (r_assign rfl) rfl ?_; refine ZL.nil ?_; refine ZP.then ?_; refine ZC.ret ?_; refine ZP.blockR ?_; refine ZP.thenR ?_; refine ZP.thenR ?_; refine ZP.blockR ?_; refine ZP.thenR ?_
                refine ZP.ret1 rfl rfl ⟨M2.ext, ?_⟩
                have : t.outs.any TOut.bad = true := List.any_eq_true.2 ⟨_, List.getElem_mem hk', by simp [TOut.bad, longB]; omega⟩
                rw [hm, this]; simp
              · refine ZC.skip ?_; refine ZP.blockN ?_; refine ZP.then ?_; refine ZC.region ?_; refine ZL.val (r_move rfl) rfl ?_; refine ZL.val (r_add rfl rfl (wrap_i64 (by omega) (by omega))) rfl ?_; refine ZL.val (r_assign rfl) rfl ?_; refine ZL.nil ?_
                refine ZP.round (k + 1) ⟨rfl, rfl, trivial⟩ ⟨M2, by omega, ?_⟩ (by omega)
                rw [List.take_succ_eq_append_getElem hk', List.any_append, hno2]
                simp [TOut.bad, longB]; omega
            · have hk' : k = t.outs.length := by omega
              subst hk'
              rw [List.take_length] at hno2
              refine ZC.exit ?_; refine ZP.thenX ?_; refine ZP.thenX ?_; refine ZP.blockE ?_; refine ZP.then ?_; refine ZC.seq ?_; refine ZC.region ?_; refine ZL.val (r_assign rfl) rfl ?_; refine ZL.nil ?_; refine ZP.then ?_; refine ZC.ret ?_
              refine ZP.ret1 rfl rfl ⟨M2.ext, ?_⟩
              rw [hm, hno, hno2]; rfl
end Go.Proofs.YthcgmdmdgpljmaaDoor.Z
