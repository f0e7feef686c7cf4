/- Which of two is ahead: bytes, numbers, points. -/
import Derived.Test.YthcgmdmdgpljmaaDoorColl
import Derived.Lib.Bytealg
set_option linter.unusedVariables false
set_option linter.unusedSimpArgs false
set_option linter.unusedSectionVars false
set_option maxRecDepth 100000
set_option maxHeartbeats 4000000
namespace Go.Proofs.YthcgmdmdgpljmaaDoor.Z
open Go Go.RowKit

theorem run_loadBytesE {P : Program} {w : World} : ∀ (l : List UInt8) (a : Addr) (acc : ByteArray), (∀ j x, l[j]? = some x → w.cell? (a.add j) = some (u8 x)) →
    (Extern.Bytes.loadBytes a l.length acc).run P w = .ok ⟨acc.data ++ l.toArray⟩ w
  | [], a, acc, _ => by simp [Extern.Bytes.loadBytes]
  | x :: l, a, acc, h => by
    have h0 : w.cell? a = some (.int .u8 x.toNat) := by
      have := h 0 x rfl
      simpa [Addr.add, u8] using this
    have ih := run_loadBytesE (P := P) l (a.add 1) (acc.push x) (fun j y hy => by
      have := h (j + 1) y (by simpa using hy)
      have e : (a.add 1).add j = a.add (j + 1) := by
        unfold Addr.add
        by_cases hj : j = 0
        · subst hj; simp
        · simp [hj]; omega
      rw [e]; exact this)
    have e2 : (x.toNat : Int).toNat.toUInt8 = x := by simp
    simp only [List.length_cons, Extern.Bytes.loadBytes, Sem.run_bind, run_load, h0, Result.andThen, e2]
    rw [ih]
    congr 1
    apply ByteArray.ext
    simp [ByteArray.push]
theorem run_bytesOf {P : Program} {w : World} {X : Nat → Prop} {v : Value} {l : List UInt8} (h : BytesR w X v l) : (Extern.Bytes.bytesOf v).run P w = .ok ⟨l.toArray⟩ w := by
  rcases SlC.news h with ⟨rfl, h0, hx⟩ | ⟨a, c, rfl, hn⟩
  · have : l = [] := List.eq_nil_of_length_eq_zero h0
    subst this
    simp [Extern.Bytes.bytesOf]
    rfl
  · have := run_loadBytesE (P := P) (w := w) l a .empty (fun j x hj => hn j (u8 x) (by simp [hj]))
    simpa [Extern.Bytes.bytesOf] using this

open Go.Lib in
theorem r_cmpBytes {P : Program} {σ : Env} {w : World} {X Y : Nat → Prop} {f : FuncId} {args : Array Operand} {ats : Array TypeId} {v u : Value} {l m : List UInt8} {fn : Func} (hf : P.funcs[f]? = some fn) (hb : fn.body.isNone = true) (h1 : (fn.name == "runtime.NumGoroutine") = false)
    (h2 : (Extern.findNext fn).isNone = true) (h3 : Extern.find fn = some Extern.BytealgCompare.compare)
    (ha : evs σ args.toList = some [v, u]) (hl : BytesR w X v l) (hm : BytesR w Y u m) : V P σ (.call ⟨.value (.func f), args, ats⟩) (.int .i64 (Go.Lib.compareBytes l m)) w := by
  refine ⟨fun ρ hag o ho => ?_⟩
  have e1 : args.map ρ = #[v, u] := by apply Array.ext'; simpa using evs_map ha hag
  have e2 : ρ (.func f) = .func (.func f) #[] #[] := hag (.func f) _ rfl
  have h2' : Extern.findNext fn = none := by simpa using h2
  have hc : (Extern.BytealgCompare.compare #[v, u]).run P w = .ok (.int .i64 (Go.Lib.compareBytes l m)) w := by
    change Sem.run P (do pure (goInt (Extern.BytealgCompare.cmp (← Extern.Bytes.bytesOf v) (← Extern.Bytes.bytesOf u)))) w = _
    simp only [Sem.run_bind, Sem.run_pure, run_bytesOf hl, run_bytesOf hm, Result.andThen]
    rw [Go.Lib.cmp_eq]
    rfl
  have h1' : fn.name ≠ "runtime.NumGoroutine" := by simpa using h1
  have hb' : fn.body = none := by simpa using hb
  simp [execOp, ho, resolve, e1, e2, Deferred.ofValue, invoke, callFunc, hf, hb', h1', h2', h3, hc]

theorem bytesCompare_ok (v u : Value) (l m : List UInt8) (w : World) (X Y : Nat → Prop) (hl : BytesR w X v l) (hm : BytesR w Y u m) :
    Ret P 48 #[v, u] w (fun r w' => w = w' ∧ r = .int .i64 (Go.Lib.compareBytes l m)) := by
  refine Ret.enter2 Tryd.func48 rfl Tryd.ntmps48 rfl ?_
  refine ZC.seq ?_; refine ZC.region ?_; refine ZL.val (r_assign rfl) rfl ?_; refine ZL.nil ?_; refine ZP.then ?_; refine ZC.seq ?_; refine ZC.region ?_; refine ZL.val (r_move rfl) rfl ?_; refine ZL.val (r_move rfl) rfl ?_
  refine ZL.val (r_cmpBytes Tryd.func67 rfl (by decide) (by rfl) (by rfl) rfl hl hm) rfl ?_
  refine ZL.val (r_assign rfl) rfl ?_; refine ZL.nil ?_; refine ZP.then ?_; refine ZC.ret ?_
  exact ZP.ret1 rfl rfl ⟨rfl, rfl⟩

theorem shasCompare_ok (a b : B32) (w : World) :
    Ret P 37 #[a.v, b.v] w (fun r w' => Ext w w' ∧ r = .int .i64 (Go.Lib.compareBytes a.val b.val)) := by
  refine Ret.enter2 Tryd.func37 rfl Tryd.ntmps37 rfl ?_
  refine ZC.seq ?_; refine ZC.region ?_
  refine ZL.box (Mem.start w No) rfl rfl rfl (fun b2 w1 M1 => ?_)
  refine ZL.box M1 rfl rfl rfl (fun b3 w2 M2 => ?_)
  refine ZL.val (r_assign rfl) rfl ?_; refine ZL.nil ?_; refine ZP.then ?_; refine ZC.seq ?_
  refine ZC.tail 2 (by kernel_rfl) rfl rfl (fun w3 E3 _ => ?_)
  have M3 := M2.ext' E3
  refine ZS.val (r_sliceArr rfl) rfl ?_; refine ZS.val (r_sliceArr rfl) rfl ?_; refine ZS.tail ?_
  refine ZL.call (r_call rfl) rfl (bytesCompare_ok _ _ a.val b.val w3 No No (M3.slArr (x := a) inferInstance id) (M3.slArr (x := b) inferInstance id)) (fun v4 w4 hv => ?_)
  obtain ⟨rfl, rfl⟩ := hv
  refine ZL.val (r_assign rfl) rfl ?_; refine ZL.nil ?_; refine ZP.then ?_; refine ZC.ret ?_
  exact ZP.ret1 rfl rfl ⟨M3.ext, rfl⟩

theorem isNaN_ok (a : UInt32) (w : World) : Ret P 49 #[u32 a] w (fun r w' => w = w' ∧ r = .bool false) := by
  refine Ret.enter1 Tryd.func49 rfl Tryd.ntmps49 rfl ?_
  refine ZC.seq ?_; refine ZC.region ?_; refine ZL.val (r_assign rfl) rfl ?_; refine ZL.nil ?_; refine ZP.then ?_; refine ZC.seq ?_; refine ZC.region ?_; refine ZL.val (r_move rfl) rfl ?_; refine ZL.val (r_move rfl) rfl ?_; refine ZL.val (r_neq rfl rfl) rfl ?_; refine ZL.val (r_assign rfl) rfl ?_; refine ZL.nil ?_; refine ZP.then ?_; refine ZC.ret ?_
  exact ZP.ret1 rfl rfl ⟨rfl, by simp⟩
def cmpU (a b : UInt32) : Int := if a < b then -1 else if b < a then 1 else 0
theorem cmpCompare_ok (a b : UInt32) (w : World) : Ret P 38 #[u32 a, u32 b] w (fun r w' => w = w' ∧ r = .int .i64 (cmpU a b)) := by
  have h1 : (a < b) = ((a.toNat : Int) < b.toNat) := by rw [UInt32.lt_iff_toNat_lt]; simp
  have h2 : (b < a) = ((b.toNat : Int) < a.toNat) := by rw [UInt32.lt_iff_toNat_lt]; simp
  refine Ret.enter2 Tryd.func38 rfl Tryd.ntmps38 rfl ?_
  refine ZC.seq ?_; refine ZC.region ?_; refine ZL.val (r_assign rfl) rfl ?_; refine ZL.nil ?_; refine ZP.then ?_; refine ZC.seq ?_; refine ZC.region ?_; refine ZL.val (r_move rfl) rfl ?_
  refine ZL.call (r_call rfl) rfl (isNaN_ok a w) (fun v1 w1 hv => ?_)
  obtain ⟨rfl, rfl⟩ := hv
  refine ZL.val (r_assign rfl) rfl ?_; refine ZL.nil ?_; refine ZP.then ?_; refine ZC.seq ?_; refine ZC.region ?_; refine ZL.val (r_move rfl) rfl ?_
  refine ZL.call (r_call rfl) rfl (isNaN_ok b w) (fun v1 w1 hv => ?_)
  obtain ⟨rfl, rfl⟩ := hv
  refine ZL.val (r_assign rfl) rfl ?_; refine ZL.nil ?_; refine ZP.then ?_; refine ZC.seq ?_; refine ZC.seq ?_; refine ZC.region ?_; refine ZL.val (r_move rfl) rfl ?_; refine ZL.nil ?_; refine ZP.then ?_
  refine ZC.condF rfl ?_
  refine ZC.skip ?_; refine ZP.then ?_; refine ZC.seq ?_; refine ZC.seq ?_; refine ZC.region ?_; refine ZL.val (r_move rfl) rfl ?_; refine ZL.nil ?_; refine ZP.then ?_
  refine ZC.condF rfl ?_
  refine ZC.skip ?_; refine ZP.then ?_; refine ZC.seq ?_; refine ZC.seq ?_; refine ZC.region ?_; refine ZL.val (r_move rfl) rfl ?_; refine ZL.val (r_move rfl) rfl ?_; refine ZL.val (r_lss rfl rfl) rfl ?_; refine ZL.nil ?_; refine ZP.then ?_
  refine ZC.condD rfl (fun hc => ?_) (fun hc => ?_)
  · refine ZC.seq ?_; refine ZC.region ?_; refine ZL.val (r_assign rfl) rfl ?_; refine ZL.nil ?_; refine ZP.then ?_; refine ZC.ret ?_; refine ZP.thenR ?_
    refine ZP.ret1 rfl rfl ⟨rfl, ?_⟩
    rw [cmpU, if_pos (by rw [h1]; exact hc)]
  · refine ZC.skip ?_; refine ZP.then ?_; refine ZC.seq ?_; refine ZC.seq ?_; refine ZC.region ?_; refine ZL.val (r_move rfl) rfl ?_; refine ZL.val (r_move rfl) rfl ?_; refine ZL.val (r_gtr rfl rfl) rfl ?_; refine ZL.nil ?_; refine ZP.then ?_
    refine ZC.condD rfl (fun hd => ?_) (fun hd => ?_)
    · refine ZC.seq ?_; refine ZC.region ?_; refine ZL.val (r_assign rfl) rfl ?_; refine ZL.nil ?_; refine ZP.then ?_; refine ZC.ret ?_; refine ZP.thenR ?_
      refine ZP.ret1 rfl rfl ⟨rfl, ?_⟩
      rw [cmpU, if_neg (by rw [h1]; exact hc), if_pos (by rw [h2]; exact hd)]
    · refine ZC.skip ?_; refine ZP.then ?_; refine ZC.seq ?_; refine ZC.region ?_; refine ZL.val (r_assign rfl) rfl ?_; refine ZL.nil ?_; refine ZP.then ?_; refine ZC.ret ?_
      refine ZP.ret1 rfl rfl ⟨rfl, ?_⟩
      rw [cmpU, if_neg (by rw [h1]; exact hc), if_neg (by rw [h2]; exact hd)]

def orI (a b : Int) : Int := if a ≠ 0 then a else b
theorem Or_ok (a b : Int) (v : Value) (w : World) (e n : Nat) (h : OwnR w e 1 v 2 [.int .i64 a, .int .i64 b]) : Ret P 36 #[v] w (fun r w' => w = w' ∧ r = .int .i64 (orI a b)) := by
  rcases h.2 with ⟨rfl, h0⟩ | ⟨g, cap, cur, rfl, hg, hnc, hcm, hcs, htake⟩
  · omega
  have h0 : cur[0]? = some (.int .i64 a) := by
    have := congrArg (fun l => l[0]?) htake
    simpa [List.getElem?_take] using this
  have h1 : cur[1]? = some (.int .i64 b) := by
    have := congrArg (fun l => l[1]?) htake
    simpa [List.getElem?_take] using this
  refine Ret.enter1 Tryd.func36 rfl Tryd.ntmps36 rfl ?_
  refine ZC.seq ?_; refine ZC.region ?_; refine ZL.val (r_assign rfl) rfl ?_; refine ZL.nil ?_; refine ZP.then ?_; refine ZC.seq ?_; refine ZC.region ?_; refine ZL.val (r_assign rfl) rfl ?_; refine ZL.nil ?_; refine ZP.then ?_; refine ZC.seq ?_; refine ZC.seq ?_; refine ZC.region ?_; refine ZL.val (r_move rfl) rfl ?_; refine ZL.val (r_lenSlice rfl) rfl ?_; refine ZL.val (r_move rfl) rfl ?_; refine ZL.nil ?_; refine ZP.then ?_; refine ZC.block ?_
  refine ZC.loop (X := Nat) (fun k => [(8, .int .i64 k), (7, .int .i64 2), (6, .slice (some ⟨g, 0, none⟩) 2 cap), (3, .int .i64 0), (2, .int .i64 0)])
    (fun k w' => w = w' ∧ k ≤ 2 ∧ (1 ≤ k → a = 0) ∧ (2 ≤ k → b = 0)) (fun k => 2 - k) 0 ⟨rfl, rfl, rfl, rfl, rfl, trivial⟩ ⟨rfl, by omega, by omega, by omega⟩ ?_
  rintro k w1 ⟨rfl, hk, ha, hb⟩
  refine ZC.seq ?_; refine ZC.region ?_; refine ZL.val (r_lss rfl rfl) rfl ?_; refine ZL.nil ?_; refine ZP.then ?_; refine ZC.seq ?_
  refine ZC.condD rfl (fun hc => ?_) (fun hc => ?_)
  · rcases (by omega : k = 0 ∨ k = 1) with rfl | rfl
    · refine ZC.skip ?_; refine ZP.then ?_; refine ZC.seq ?_; refine ZC.block ?_; refine ZC.seq ?_; refine ZC.region ?_
      refine ZL.val (r_idxS 0 rfl rfl rfl (by decide)) rfl ?_
      refine ZL.val (r_load1 rfl hg h0) rfl ?_
      refine ZL.val (r_assign rfl) rfl ?_; refine ZL.nil ?_; refine ZP.then ?_; refine ZC.seq ?_; refine ZC.region ?_; refine ZL.val (r_move rfl) rfl ?_; refine ZL.val (r_move rfl) rfl ?_; refine ZL.val (r_neq rfl rfl) rfl ?_; refine ZL.nil ?_; refine ZP.then ?_
      refine ZC.condD rfl (fun hd => ?_) (fun hd => ?_)
      · refine ZC.seq ?_; refine ZC.region ?_; refine ZL.val (r_move rfl) rfl ?_; refine ZL.val (r_assign rfl) rfl ?_; refine ZL.nil ?_; refine ZP.then ?_; refine ZC.ret ?_; refine ZP.blockR ?_; refine ZP.thenR ?_; refine ZP.thenR ?_; refine ZP.blockR ?_; refine ZP.thenR ?_
        exact ZP.ret1 rfl rfl ⟨rfl, by rw [orI, if_pos hd]⟩
      · refine ZC.skip ?_; refine ZP.blockN ?_; refine ZP.then ?_; refine ZC.region ?_; refine ZL.val (r_add rfl rfl (wrap_i64 (by omega) (by omega))) rfl ?_; refine ZL.val (r_move rfl) rfl ?_; refine ZL.nil ?_
        exact ZP.round 1 ⟨rfl, rfl, rfl, rfl, rfl, trivial⟩ ⟨rfl, by omega, fun _ => by omega, by omega⟩ (by omega)
    · refine ZC.skip ?_; refine ZP.then ?_; refine ZC.seq ?_; refine ZC.block ?_; refine ZC.seq ?_; refine ZC.region ?_
      refine ZL.val (r_idxS 1 rfl rfl rfl (by decide)) rfl ?_
      refine ZL.val (r_load1 rfl hg h1) rfl ?_
      refine ZL.val (r_assign rfl) rfl ?_; refine ZL.nil ?_; refine ZP.then ?_; refine ZC.seq ?_; refine ZC.region ?_; refine ZL.val (r_move rfl) rfl ?_; refine ZL.val (r_move rfl) rfl ?_; refine ZL.val (r_neq rfl rfl) rfl ?_; refine ZL.nil ?_; refine ZP.then ?_
      refine ZC.condD rfl (fun hd => ?_) (fun hd => ?_)
      · refine ZC.seq ?_; refine ZC.region ?_; refine ZL.val (r_move rfl) rfl ?_; refine ZL.val (r_assign rfl) rfl ?_; refine ZL.nil ?_; refine ZP.then ?_; refine ZC.ret ?_; refine ZP.blockR ?_; refine ZP.thenR ?_; refine ZP.thenR ?_; refine ZP.blockR ?_; refine ZP.thenR ?_
        exact ZP.ret1 rfl rfl ⟨rfl, by rw [orI, if_neg (by have := ha (by omega); omega)]⟩
      · refine ZC.skip ?_; refine ZP.blockN ?_; refine ZP.then ?_; refine ZC.region ?_; refine ZL.val (r_add rfl rfl (wrap_i64 (by omega) (by omega))) rfl ?_; refine ZL.val (r_move rfl) rfl ?_; refine ZL.nil ?_
        exact ZP.round 2 ⟨rfl, rfl, rfl, rfl, rfl, trivial⟩ ⟨rfl, by omega, fun _ => ha (by omega), fun _ => by omega⟩ (by omega)
  · refine ZC.exit ?_; refine ZP.thenX ?_; refine ZP.thenX ?_; refine ZP.blockE ?_; refine ZP.then ?_; refine ZC.seq ?_; refine ZC.region ?_; refine ZL.val (r_move rfl) rfl ?_; refine ZL.val (r_assign rfl) rfl ?_; refine ZL.nil ?_; refine ZP.then ?_; refine ZC.ret ?_
    refine ZP.ret1 rfl rfl ⟨rfl, ?_⟩
    have := ha (by omega); have := hb (by omega)
    subst a; subst b
    rfl
end Go.Proofs.YthcgmdmdgpljmaaDoor.Z
