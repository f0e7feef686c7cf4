/- The program's coins. -/
import Derived.Test.YthcgmdmdgpljmaaDoorTxid
set_option linter.unusedVariables false
set_option linter.unusedSimpArgs false
set_option linter.unusedSectionVars false
set_option maxRecDepth 100000
set_option maxHeartbeats 4000000
namespace Go.Proofs.YthcgmdmdgpljmaaDoor.Z
open Go Go.RowKit

structure Cn where
  value : Int
  height : Int
  time : Int
  base : Bool
  deriving DecidableEq
def Cn.cells (c : Cn) : Array Value := #[.int .u64 c.value, .int .i64 c.height, .int .i64 c.time, .bool c.base]
def Cn.v (c : Cn) : Value := .agg c.cells
def Cn.zero : Cn := ⟨0, 0, 0, false⟩
theorem Pt.size (p : Pt) : p.cells.toArray.size = 33 := by simp [p.length]
theorem Pt.one (p : Pt) : p.cells.toArray.toList.all Value.oneCell' = true := by simp [Pt.cells, B32.cells, u8, u32, Value.oneCell']

abbrev CMap := List (Pt × Cn)
abbrev CObj (m : CMap) (es : Array MapEntry) (clk : Nat) : Prop := MObj Pt.v Cn.v m es clk
abbrev setC (bm : Nat) : Array Value := #[.map (some bm)]

instance : TB P 59 [(0, 1)] := ⟨by kernel_rfl⟩

/-- A set in memory. -/
structure SetR (w : World) (bs bm : Nat) (m : CMap) : Prop where
  s : w.heap[bs]? = some (.cells (setC bm) 59 (0, 0))
  m : ∃ es clk, w.heap[bm]? = some (.map es clk) ∧ CObj m es clk

theorem ZP.retCT {P : Program} {n : Nat} {σ : Env} {w : World} {fn : Func} {R : Value → World → Prop} {t ty b s by' : Nat} {u : Tmp} {cs : Array Value} {v : Value} {e : TypeId} {fz : Nat × Nat} [TA P ty] [TI P ty s by'] (hr : fn.results = #[.cell t ty, .tmp u]) (hv : lk σ t = some (.pointer (some ⟨b, 0, none⟩)))
    (hm : w.heap[b]? = some (.cells cs e fz)) (hn : cs.size = s) (hu : lk σ u = some v) (hR : R (.tuple #[.agg cs, v]) w) : ZP n (RetPost P fn R) .ret σ w := by
  refine ⟨fun a ha => ⟨ha.defers, .tuple #[.agg cs, v], ?_, hR⟩⟩
  have h1 := ha.at' t _ hv
  have h2 := ha.at' u _ hu
  have hl := run_loadSeg (P := P) (w := w) (b' := b) (o' := 0) (n := s) hm (by omega)
  have he : cs.extract 0 (0 + s) = cs := by subst hn; simp
  rw [he] at hl
  simp [results, hr, h1, h2, asAddr, loadVar, TA.h, run_sizeOf' (t := ty), hl]

theorem New_ok (w : World) : Ret P 7 #[] w (fun r w' => ∃ bs bm, Mem w No [.blk bs (.cells (setC bm) 59), .blk bm (.map #[] 0)] w' ∧ r = .pointer (some ⟨bs, 0, none⟩)) := by
  refine Ret.enter0 Tryd.func7 rfl Tryd.ntmps7 rfl ?_
  refine ZC.seq ?_; refine ZC.region ?_; refine ZL.val (r_assign rfl) rfl ?_; refine ZL.nil ?_; refine ZP.then ?_; refine ZC.seq ?_; refine ZC.region ?_
  refine ZL.makeMap (Mem.start w No) rfl (fun bm w1 M1 => ?_)
  refine ZL.val (r_buildOne rfl rfl (cs := [.map (some bm)]) rfl) rfl ?_
  refine ZL.box M1 rfl rfl rfl (fun bs w2 M2 => ?_)
  refine ZL.val (r_assign rfl) rfl ?_; refine ZL.nil ?_; refine ZP.then ?_; refine ZC.ret ?_
  exact ZP.ret1 rfl rfl ⟨bs, bm, M2, rfl⟩

theorem mget_or (m : CMap) (k : Pt) : ((mget m k).map Cn.v).getD (.agg #[(Value.int .u64 0), (Value.int .i64 0), (Value.int .i64 0), (Value.bool false)]) = ((mget m k).getD Cn.zero).v := by
  cases mget m k <;> rfl
theorem Cn.one (c : Cn) : c.cells.toList.all Value.oneCell' = true := rfl

theorem Get_ok (bs bm : Nat) (m : CMap) (k : Pt) (w : World) (h : SetR w bs bm m) :
    Ret P 22 #[.pointer (some ⟨bs, 0, none⟩), k.v] w (fun r w' => Ext w w' ∧ r = .tuple #[((mget m k).getD Cn.zero).v, .bool (mget m k).isSome]) := by
  obtain ⟨hs, es, clk, hm, hO⟩ := h
  refine Ret.enter2 Tryd.func22 rfl Tryd.ntmps22 rfl ?_
  refine ZC.seq ?_; refine ZC.region ?_
  refine ZL.box (Mem.start w No) rfl rfl rfl (fun b3 w1 M1 => ?_)
  refine ZL.alloc M1 rfl rfl (fun b4 w2 M2 => ?_)
  refine ZL.val (r_assign rfl) rfl ?_; refine ZL.nil ?_; refine ZP.then ?_; refine ZC.seq ?_
  refine ZC.turning (fun w' => MemS w No [.blk b4 (.cells Cn.zero.cells 44), .blk b3 (.cells k.cells.toArray 41)] w') 11 rfl (by kernel_rfl) rfl rfl rfl (fun w3 E3 _ => ?_)
  have M3 := M2.ext' E3
  have S3 := MemS.of M3
  refine ZT.take 0 rfl rfl (fun w' hS' => by first | exact r_move rfl | exact r_assign rfl | exact r_fieldAddr rfl | exact r_add rfl rfl (wrap_i64 (by omega) (by omega)) | exact r_sub rfl rfl (wrap_i64 (by omega) (by omega)) | exact r_mul rfl rfl (wrap_i64 (by omega) (by omega)) | exact r_convInt rfl (wrap_u64 (by omega) (by omega)) | exact r_convInt rfl (wrap_i64 (by omega) (by omega)) | exact r_convInt rfl (wrap_u32 (by omega) (by omega)) | exact r_sliceArr rfl | exact r_nilCheck rfl | exact r_extract rfl rfl | exact r_lenSlice rfl | exact r_and rfl rfl rfl | exact r_shr rfl rfl (by omega) rfl | exact r_toB rfl | exact r_toU rfl | exact r_toQ rfl) (by kernel_rfl) rfl (by kernel_rfl) (by kernel_rfl) rfl rfl (fun _ _ _ _ h => h) S3 ?_; refine ZT.take 1 rfl rfl (fun w' hS' => by first | exact r_move rfl | exact r_assign rfl | exact r_fieldAddr rfl | exact r_add rfl rfl (wrap_i64 (by omega) (by omega)) | exact r_sub rfl rfl (wrap_i64 (by omega) (by omega)) | exact r_mul rfl rfl (wrap_i64 (by omega) (by omega)) | exact r_convInt rfl (wrap_u64 (by omega) (by omega)) | exact r_convInt rfl (wrap_i64 (by omega) (by omega)) | exact r_convInt rfl (wrap_u32 (by omega) (by omega)) | exact r_sliceArr rfl | exact r_nilCheck rfl | exact r_extract rfl rfl | exact r_lenSlice rfl | exact r_and rfl rfl rfl | exact r_shr rfl rfl (by omega) rfl | exact r_toB rfl | exact r_toU rfl | exact r_toQ rfl) (by kernel_rfl) rfl (by kernel_rfl) (by kernel_rfl) rfl rfl (fun _ _ _ _ h => h) S3 ?_; refine ZT.take 2 rfl rfl (fun w' hS' => by first | exact r_move rfl | exact r_assign rfl | exact r_fieldAddr rfl | exact r_add rfl rfl (wrap_i64 (by omega) (by omega)) | exact r_sub rfl rfl (wrap_i64 (by omega) (by omega)) | exact r_mul rfl rfl (wrap_i64 (by omega) (by omega)) | exact r_convInt rfl (wrap_u64 (by omega) (by omega)) | exact r_convInt rfl (wrap_i64 (by omega) (by omega)) | exact r_convInt rfl (wrap_u32 (by omega) (by omega)) | exact r_sliceArr rfl | exact r_nilCheck rfl | exact r_extract rfl rfl | exact r_lenSlice rfl | exact r_and rfl rfl rfl | exact r_shr rfl rfl (by omega) rfl | exact r_toB rfl | exact r_toU rfl | exact r_toQ rfl) (by kernel_rfl) rfl (by kernel_rfl) (by kernel_rfl) rfl rfl (fun _ _ _ _ h => h) S3 ?_
  refine ZT.take 3 rfl rfl (fun w' hS' => r_load1 rfl (hS'.ext.at hs id) rfl) (by kernel_rfl) rfl (by kernel_rfl) (by kernel_rfl) rfl rfl (fun _ _ _ _ h => h) S3 ?_
  refine ZT.take 4 rfl rfl (fun w' hS' => r_loadW rfl (hS'.get inferInstance) k.size) (by kernel_rfl) rfl (by kernel_rfl) (by kernel_rfl) rfl rfl (fun _ _ _ _ h => h) S3 ?_
  refine ZT.take 5 rfl rfl (fun w' hS' => r_lookup2 (k := k) rfl rfl (hS'.ext.at hm id) hO) (by kernel_rfl) rfl (by kernel_rfl) (by kernel_rfl) rfl rfl (fun _ _ _ _ h => h) S3 ?_
  refine ZT.take 6 rfl rfl (fun w' hS' => by first | exact r_move rfl | exact r_assign rfl | exact r_fieldAddr rfl | exact r_add rfl rfl (wrap_i64 (by omega) (by omega)) | exact r_sub rfl rfl (wrap_i64 (by omega) (by omega)) | exact r_mul rfl rfl (wrap_i64 (by omega) (by omega)) | exact r_convInt rfl (wrap_u64 (by omega) (by omega)) | exact r_convInt rfl (wrap_i64 (by omega) (by omega)) | exact r_convInt rfl (wrap_u32 (by omega) (by omega)) | exact r_sliceArr rfl | exact r_nilCheck rfl | exact r_extract rfl rfl | exact r_lenSlice rfl | exact r_and rfl rfl rfl | exact r_shr rfl rfl (by omega) rfl | exact r_toB rfl | exact r_toU rfl | exact r_toQ rfl) (by kernel_rfl) rfl (by kernel_rfl) (by kernel_rfl) rfl rfl (fun _ _ _ _ h => h) S3 ?_; refine ZT.take 7 rfl rfl (fun w' hS' => by first | exact r_move rfl | exact r_assign rfl | exact r_fieldAddr rfl | exact r_add rfl rfl (wrap_i64 (by omega) (by omega)) | exact r_sub rfl rfl (wrap_i64 (by omega) (by omega)) | exact r_mul rfl rfl (wrap_i64 (by omega) (by omega)) | exact r_convInt rfl (wrap_u64 (by omega) (by omega)) | exact r_convInt rfl (wrap_i64 (by omega) (by omega)) | exact r_convInt rfl (wrap_u32 (by omega) (by omega)) | exact r_sliceArr rfl | exact r_nilCheck rfl | exact r_extract rfl rfl | exact r_lenSlice rfl | exact r_and rfl rfl rfl | exact r_shr rfl rfl (by omega) rfl | exact r_toB rfl | exact r_toU rfl | exact r_toQ rfl) (by kernel_rfl) rfl (by kernel_rfl) (by kernel_rfl) rfl rfl (fun _ _ _ _ h => h) S3 ?_; refine ZT.take 8 rfl rfl (fun w' hS' => by first | exact r_move rfl | exact r_assign rfl | exact r_fieldAddr rfl | exact r_add rfl rfl (wrap_i64 (by omega) (by omega)) | exact r_sub rfl rfl (wrap_i64 (by omega) (by omega)) | exact r_mul rfl rfl (wrap_i64 (by omega) (by omega)) | exact r_convInt rfl (wrap_u64 (by omega) (by omega)) | exact r_convInt rfl (wrap_i64 (by omega) (by omega)) | exact r_convInt rfl (wrap_u32 (by omega) (by omega)) | exact r_sliceArr rfl | exact r_nilCheck rfl | exact r_extract rfl rfl | exact r_lenSlice rfl | exact r_and rfl rfl rfl | exact r_shr rfl rfl (by omega) rfl | exact r_toB rfl | exact r_toU rfl | exact r_toQ rfl) (by kernel_rfl) rfl (by kernel_rfl) (by kernel_rfl) rfl rfl (fun _ _ _ _ h => h) S3 ?_
  refine ZT.one 9 rfl (by kernel_rfl) rfl rfl rfl ?_
  refine ZL.alloc M3 rfl rfl (fun b6 w4 M4 => ?_)
  refine ZL.nil (ZP.turning ⟨[_], M4⟩ ?_)
  rw [mget_or]
  refine ZT.one 10 rfl (by kernel_rfl) rfl rfl rfl ?_
  refine ZL.stW M4 rfl rfl (cs' := ((mget m k).getD Cn.zero).cells) rfl (by rfl) (by rfl) (by rfl) (fun w5 M5 => ?_)
  refine ZL.nil (ZP.turning ⟨[_], M5⟩ ?_)
  refine ZT.done rfl (by kernel_rfl) ?_
  refine ZL.val (r_assign rfl) rfl ?_; refine ZL.nil ?_; refine ZP.then ?_; refine ZC.seq ?_; refine ZC.region ?_
  refine ZL.val (r_ldW M5 rfl (by rfl)) rfl ?_
  refine ZL.val (r_move rfl) rfl ?_
  refine ZL.stW M5 rfl rfl (cs' := ((mget m k).getD Cn.zero).cells) rfl (by rfl) (by rfl) (by rfl) (fun w6 M6 => ?_)
  refine ZL.val (r_assign rfl) rfl ?_; refine ZL.nil ?_; refine ZP.then ?_; refine ZC.ret ?_
  refine ZP.retCT rfl rfl (M6.get inferInstance) rfl rfl ⟨M6.ext, rfl⟩

/-! ### Maps among the chunks -/
class PutF (L : List Chunk) (b : Nat) (o : outParam Obj) (F : outParam (Obj → List Chunk)) : Prop where
  h : ∃ A B, L = A ++ .blk b o :: B ∧ ∀ o', F o' = A ++ .blk b o' :: B
instance (priority := 1100) PutF.head {L : List Chunk} {b : Nat} {o : Obj} : PutF (.blk b o :: L) b o (fun o' => .blk b o' :: L) := ⟨[], L, rfl, fun _ => rfl⟩
instance (priority := 900) PutF.tail {L : List Chunk} {b : Nat} {o : Obj} {c : Chunk} {F : Obj → List Chunk} [i : PutF L b o F] : PutF (c :: L) b o (fun o' => c :: F o') := ⟨by
  obtain ⟨A, B, h1, h2⟩ := i.h
  exact ⟨c :: A, B, by simp [h1], fun o' => by simp [h2]⟩⟩
theorem PutF.put {L : List Chunk} {b : Nat} {o o' : Obj} {F : Obj → List Chunk} (i : PutF L b o F) : Put L b o o' (F o') := ⟨by
  obtain ⟨A, B, h1, h2⟩ := i.h
  exact ⟨A, B, h1, h2 o'⟩⟩
theorem Mem.startB {w : World} {b : Nat} {o : Obj} (h : w.heap[b]? = some o) : Mem w (· = b) [.blk b o] w :=
  ⟨.refl _ _, by simpa [Chunk.ok] using h, by simp, by simp [Chunk.fp]⟩
/-- A call that turns one block. -/
theorem Mem.called {w0 w w' : World} {X : Nat → Prop} {L : List Chunk} {b : Nat} {o o' : Obj} {F : Obj → List Chunk} (h : Mem w0 X L w) (i : PutF L b o F) (he : ExtX w (· = b) w') (ho : w'.heap[b]? = some o') : Mem w0 X (F o') w' := by
  obtain ⟨A, B, rfl, h2⟩ := i.h
  rw [h2]
  exact h.turn (he.mono fun k hk => by subst hk; rfl) ho (fun g hg => .inl hg)
section
variable {P : Program} {n : Nat} {ops : Array Oper} {Q : Post} {rest : List Oper} {σ : Env} {w w0 : World} {X : Nat → Prop} {L : List Chunk} {F : Obj → List Chunk}
variable {d : Nat} {ty : TypeId} {pos : String} {after : Array Edge} {x y u : Operand} {K U : Type} [DecidableEq K] {ke : K → Value} {ve : U → Value} {m : List (K × U)} {es : Array MapEntry} {clk : Nat} {kt et t : TypeId} {b : Nat} {k : K} {v : U}
theorem ZL.mput [TU P t (.map kt et)] [kk : KeyT P kt ke] (hM : Mem w0 X L w) (hx : ev σ x = some (.map (some b))) (hy : ev σ y = some (ke k)) (hu : ev σ u = some (ve v)) [i : PutF L b (.map es clk) F] (hO : MObj ke ve m es clk)
    (h : ∀ es' clk' w', MObj ke ve (Z.mput m k v) es' clk' → Mem w0 X (F (.map es' clk')) w' → ZL P n ops Q rest σ w') : ZL P n ops Q (⟨none, .mapUpdate t x y u, ty, pos, after, none⟩ :: rest) σ w := by
  obtain ⟨es', clk', h1, h2⟩ := uw_mapUpdate (P := P) (σ := σ) (t := t) hx hy hu (hM.putGet (i.put (o' := .map es clk))) hO
  exact ZL.unit h1 (h es' clk' _ h2 (hM.upd i.put (Upd.putObj (Array.getElem?_eq_some_iff.1 (hM.putGet (i.put (o' := .map es clk)))).1)))
theorem ZL.mdel {ats : Array TypeId} [TU P t (.map kt et)] [kk : KeyT P kt ke] (hat : ats[0]? = some t) (hM : Mem w0 X L w) (hx : ev σ x = some (.map (some b))) (hy : ev σ y = some (ke k)) [i : PutF L b (.map es clk) F] (hO : MObj ke ve m es clk)
    (h : ∀ es' w', MObj ke ve (Z.mdel m k) es' clk → Mem w0 X (F (.map es' clk)) w' → ZL P n ops Q rest σ w') : ZL P n ops Q (⟨none, .call ⟨.builtin .delete, #[x, y], ats⟩, ty, pos, after, none⟩ :: rest) σ w := by
  obtain ⟨es', h1, h2⟩ := vw_delete (P := P) (σ := σ) (t := t) hat hx hy (hM.putGet (i.put (o' := .map es clk))) hO
  exact ZL.vw0 h1 (h es' _ h2 (hM.upd i.put (Upd.putObj (Array.getElem?_eq_some_iff.1 (hM.putGet (i.put (o' := .map es clk)))).1)))
end

/-- A call that turned a set. -/
structure SetU (w w' : World) (bs bm : Nat) (m : CMap) : Prop where
  ext : ExtX w (· = bm) w'
  r : SetR w' bs bm m
theorem SetR.ne {w : World} {bs bm : Nat} {m : CMap} (h : SetR w bs bm m) : bs ≠ bm := by
  intro e
  subst e
  obtain ⟨es, clk, hm, _⟩ := h.m
  rw [h.s] at hm
  cases hm
theorem SetR.turned {w w' : World} {bs bm : Nat} {m m' : CMap} (h : SetR w bs bm m) (he : ExtX w (· = bm) w') {es : Array MapEntry} {clk : Nat} (hm : w'.heap[bm]? = some (.map es clk)) (hO : CObj m' es clk) : SetU w w' bs bm m' :=
  ⟨he, he.at h.s h.ne, es, clk, hm, hO⟩
theorem SetR.ext {w w' : World} {bs bm : Nat} {m : CMap} (h : SetR w bs bm m) (he : Ext w w') : SetR w' bs bm m := by
  obtain ⟨es, clk, hm, hO⟩ := h.m
  exact ⟨he.at h.s id, es, clk, he.at hm id, hO⟩

def sput (m : CMap) (k : Pt) (c : Cn) : CMap := if (mget m k).isSome then m else mput m k c
theorem Put_ok (bs bm : Nat) (m : CMap) (k : Pt) (c : Cn) (w : World) (h : SetR w bs bm m) :
    Ret P 14 #[.pointer (some ⟨bs, 0, none⟩), k.v, c.v] w (fun r w' => SetU w w' bs bm (sput m k c) ∧ r = .bool (!(mget m k).isSome)) := by
  have h' := h
  obtain ⟨hs, es, clk, hm, hO⟩ := h'
  have hne := h.ne
  refine Ret.enter3 Tryd.func14 rfl Tryd.ntmps14 rfl ?_
  refine ZC.seq ?_; refine ZC.region ?_
  refine ZL.box (Mem.startB hm) rfl rfl rfl (fun b4 w1 M1 => ?_)
  refine ZL.box M1 rfl rfl rfl (fun b5 w2 M2 => ?_)
  refine ZL.val (r_assign rfl) rfl ?_; refine ZL.nil ?_; refine ZP.then ?_; refine ZC.seq ?_; refine ZC.seq ?_
  refine ZC.turning (MemS w (· = bm) [.blk b5 (.cells c.cells 44), .blk b4 (.cells k.cells.toArray 41), .blk bm (.map es clk)]) 11 rfl (by kernel_rfl) rfl rfl rfl (fun w3 E3 _ => ?_)
  have M3 := M2.ext' E3
  have S3 := MemS.of M3
  refine ZT.take 0 rfl rfl (fun w' hS' => by first | exact r_move rfl | exact r_assign rfl | exact r_fieldAddr rfl | exact r_add rfl rfl (wrap_i64 (by omega) (by omega)) | exact r_sub rfl rfl (wrap_i64 (by omega) (by omega)) | exact r_mul rfl rfl (wrap_i64 (by omega) (by omega)) | exact r_convInt rfl (wrap_u64 (by omega) (by omega)) | exact r_convInt rfl (wrap_i64 (by omega) (by omega)) | exact r_convInt rfl (wrap_u32 (by omega) (by omega)) | exact r_sliceArr rfl | exact r_nilCheck rfl | exact r_extract rfl rfl | exact r_lenSlice rfl | exact r_and rfl rfl rfl | exact r_shr rfl rfl (by omega) rfl | exact r_toB rfl | exact r_toU rfl | exact r_toQ rfl) (by kernel_rfl) rfl (by kernel_rfl) (by kernel_rfl) rfl rfl (fun _ _ _ _ h => h) S3 ?_; refine ZT.take 1 rfl rfl (fun w' hS' => by first | exact r_move rfl | exact r_assign rfl | exact r_fieldAddr rfl | exact r_add rfl rfl (wrap_i64 (by omega) (by omega)) | exact r_sub rfl rfl (wrap_i64 (by omega) (by omega)) | exact r_mul rfl rfl (wrap_i64 (by omega) (by omega)) | exact r_convInt rfl (wrap_u64 (by omega) (by omega)) | exact r_convInt rfl (wrap_i64 (by omega) (by omega)) | exact r_convInt rfl (wrap_u32 (by omega) (by omega)) | exact r_sliceArr rfl | exact r_nilCheck rfl | exact r_extract rfl rfl | exact r_lenSlice rfl | exact r_and rfl rfl rfl | exact r_shr rfl rfl (by omega) rfl | exact r_toB rfl | exact r_toU rfl | exact r_toQ rfl) (by kernel_rfl) rfl (by kernel_rfl) (by kernel_rfl) rfl rfl (fun _ _ _ _ h => h) S3 ?_; refine ZT.take 2 rfl rfl (fun w' hS' => by first | exact r_move rfl | exact r_assign rfl | exact r_fieldAddr rfl | exact r_add rfl rfl (wrap_i64 (by omega) (by omega)) | exact r_sub rfl rfl (wrap_i64 (by omega) (by omega)) | exact r_mul rfl rfl (wrap_i64 (by omega) (by omega)) | exact r_convInt rfl (wrap_u64 (by omega) (by omega)) | exact r_convInt rfl (wrap_i64 (by omega) (by omega)) | exact r_convInt rfl (wrap_u32 (by omega) (by omega)) | exact r_sliceArr rfl | exact r_nilCheck rfl | exact r_extract rfl rfl | exact r_lenSlice rfl | exact r_and rfl rfl rfl | exact r_shr rfl rfl (by omega) rfl | exact r_toB rfl | exact r_toU rfl | exact r_toQ rfl) (by kernel_rfl) rfl (by kernel_rfl) (by kernel_rfl) rfl rfl (fun _ _ _ _ h => h) S3 ?_
  refine ZT.take 3 rfl rfl (fun w' hS' => r_load1 rfl (hS'.ext.at hs hne) rfl) (by kernel_rfl) rfl (by kernel_rfl) (by kernel_rfl) rfl rfl (fun _ _ _ _ h => h) S3 ?_
  refine ZT.take 4 rfl rfl (fun w' hS' => r_loadW rfl (hS'.get inferInstance) k.size) (by kernel_rfl) rfl (by kernel_rfl) (by kernel_rfl) rfl rfl (fun _ _ _ _ h => h) S3 ?_
  refine ZT.take 5 rfl rfl (fun w' hS' => r_lookup2 (k := k) rfl rfl (hS'.get inferInstance) hO) (by kernel_rfl) rfl (by kernel_rfl) (by kernel_rfl) rfl rfl (fun _ _ _ _ h => h) S3 ?_
  refine ZT.take 6 rfl rfl (fun w' hS' => by first | exact r_move rfl | exact r_assign rfl | exact r_fieldAddr rfl | exact r_add rfl rfl (wrap_i64 (by omega) (by omega)) | exact r_sub rfl rfl (wrap_i64 (by omega) (by omega)) | exact r_mul rfl rfl (wrap_i64 (by omega) (by omega)) | exact r_convInt rfl (wrap_u64 (by omega) (by omega)) | exact r_convInt rfl (wrap_i64 (by omega) (by omega)) | exact r_convInt rfl (wrap_u32 (by omega) (by omega)) | exact r_sliceArr rfl | exact r_nilCheck rfl | exact r_extract rfl rfl | exact r_lenSlice rfl | exact r_and rfl rfl rfl | exact r_shr rfl rfl (by omega) rfl | exact r_toB rfl | exact r_toU rfl | exact r_toQ rfl) (by kernel_rfl) rfl (by kernel_rfl) (by kernel_rfl) rfl rfl (fun _ _ _ _ h => h) S3 ?_; refine ZT.take 7 rfl rfl (fun w' hS' => by first | exact r_move rfl | exact r_assign rfl | exact r_fieldAddr rfl | exact r_add rfl rfl (wrap_i64 (by omega) (by omega)) | exact r_sub rfl rfl (wrap_i64 (by omega) (by omega)) | exact r_mul rfl rfl (wrap_i64 (by omega) (by omega)) | exact r_convInt rfl (wrap_u64 (by omega) (by omega)) | exact r_convInt rfl (wrap_i64 (by omega) (by omega)) | exact r_convInt rfl (wrap_u32 (by omega) (by omega)) | exact r_sliceArr rfl | exact r_nilCheck rfl | exact r_extract rfl rfl | exact r_lenSlice rfl | exact r_and rfl rfl rfl | exact r_shr rfl rfl (by omega) rfl | exact r_toB rfl | exact r_toU rfl | exact r_toQ rfl) (by kernel_rfl) rfl (by kernel_rfl) (by kernel_rfl) rfl rfl (fun _ _ _ _ h => h) S3 ?_; refine ZT.take 8 rfl rfl (fun w' hS' => by first | exact r_move rfl | exact r_assign rfl | exact r_fieldAddr rfl | exact r_add rfl rfl (wrap_i64 (by omega) (by omega)) | exact r_sub rfl rfl (wrap_i64 (by omega) (by omega)) | exact r_mul rfl rfl (wrap_i64 (by omega) (by omega)) | exact r_convInt rfl (wrap_u64 (by omega) (by omega)) | exact r_convInt rfl (wrap_i64 (by omega) (by omega)) | exact r_convInt rfl (wrap_u32 (by omega) (by omega)) | exact r_sliceArr rfl | exact r_nilCheck rfl | exact r_extract rfl rfl | exact r_lenSlice rfl | exact r_and rfl rfl rfl | exact r_shr rfl rfl (by omega) rfl | exact r_toB rfl | exact r_toU rfl | exact r_toQ rfl) (by kernel_rfl) rfl (by kernel_rfl) (by kernel_rfl) rfl rfl (fun _ _ _ _ h => h) S3 ?_
  refine ZT.one 9 rfl (by kernel_rfl) rfl rfl rfl ?_
  refine ZL.alloc M3 rfl rfl (fun b6 w4 M4 => ?_)
  refine ZL.nil (ZP.turning ⟨[_], M4⟩ ?_)
  rw [mget_or]
  refine ZT.one 10 rfl (by kernel_rfl) rfl rfl rfl ?_
  refine ZL.stW M4 rfl rfl (cs' := ((mget m k).getD Cn.zero).cells) rfl (by rfl) (by rfl) (by rfl) (fun w5 M5 => ?_)
  refine ZL.nil (ZP.turning ⟨[_], M5⟩ ?_)
  refine ZT.done rfl (by kernel_rfl) ?_
  refine ZL.val (r_assign rfl) rfl ?_; refine ZL.nil ?_; refine ZP.then ?_; refine ZC.seq ?_; refine ZC.region ?_; refine ZL.val (r_move rfl) rfl ?_; refine ZL.nil ?_; refine ZP.then ?_
  cases hk : (mget m k).isSome with
  | true =>
    refine ZC.cond rfl (fun _ => ?_) (fun hh => by cases hh)
    refine ZC.seq ?_; refine ZC.region ?_; refine ZL.val (r_assign rfl) rfl ?_; refine ZL.nil ?_; refine ZP.then ?_; refine ZC.ret ?_; refine ZP.thenR ?_
    refine ZP.ret1 rfl rfl ⟨?_, rfl⟩
    rw [sput, hk, if_pos rfl]
    exact h.turned M5.ext (M5.get inferInstance) hO
  | false =>
    refine ZC.cond rfl (fun hh => by cases hh) (fun _ => ?_)
    refine ZC.skip ?_; refine ZP.then ?_; refine ZC.seq ?_
    refine ZC.tail 6 (by kernel_rfl) rfl rfl (fun w6 E6 _ => ?_)
    have M6 := M5.ext' E6
    refine ZS.val (r_move rfl) rfl ?_; refine ZS.val (r_nilCheck rfl) rfl ?_; refine ZS.val (r_fieldAddr rfl) rfl ?_
    refine ZS.val (r_load1 rfl (M6.ext.at hs hne) rfl) rfl ?_
    refine ZS.val (r_ldW M6 rfl k.size) rfl ?_
    refine ZS.val (r_ldW M6 rfl rfl) rfl ?_
    refine ZS.tail ?_
    refine ZL.mput (k := k) (v := c) M6 rfl rfl rfl hO (fun es' clk' w7 hO' M7 => ?_)
    refine ZL.nil ?_; refine ZP.then ?_; refine ZC.seq ?_; refine ZC.region ?_; refine ZL.val (r_assign rfl) rfl ?_; refine ZL.nil ?_; refine ZP.then ?_; refine ZC.ret ?_
    refine ZP.ret1 rfl rfl ⟨?_, rfl⟩
    rw [sput, hk, if_neg (by decide)]
    exact h.turned M7.ext (M7.get inferInstance) hO'

theorem Take_ok (bs bm : Nat) (m : CMap) (k : Pt) (w : World) (h : SetR w bs bm m) :
    Ret P 13 #[.pointer (some ⟨bs, 0, none⟩), k.v] w (fun r w' => SetU w w' bs bm (mdel m k) ∧ r = .tuple #[((mget m k).getD Cn.zero).v, .bool (mget m k).isSome]) := by
  have h' := h
  obtain ⟨hs, es, clk, hm, hO⟩ := h'
  have hne := h.ne
  refine Ret.enter2 Tryd.func13 rfl Tryd.ntmps13 rfl ?_
  refine ZC.seq ?_; refine ZC.region ?_
  refine ZL.box (Mem.startB hm) rfl rfl rfl (fun b3 w1 M1 => ?_)
  refine ZL.alloc M1 rfl rfl (fun b4 w2 M2 => ?_)
  refine ZL.val (r_assign rfl) rfl ?_; refine ZL.nil ?_; refine ZP.then ?_; refine ZC.seq ?_
  refine ZC.turning (MemS w (· = bm) [.blk b4 (.cells Cn.zero.cells 44), .blk b3 (.cells k.cells.toArray 41), .blk bm (.map es clk)]) 11 rfl (by kernel_rfl) rfl rfl rfl (fun w3 E3 _ => ?_)
  have M3 := M2.ext' E3
  have S3 := MemS.of M3
  refine ZT.take 0 rfl rfl (fun w' hS' => by first | exact r_move rfl | exact r_assign rfl | exact r_fieldAddr rfl | exact r_add rfl rfl (wrap_i64 (by omega) (by omega)) | exact r_sub rfl rfl (wrap_i64 (by omega) (by omega)) | exact r_mul rfl rfl (wrap_i64 (by omega) (by omega)) | exact r_convInt rfl (wrap_u64 (by omega) (by omega)) | exact r_convInt rfl (wrap_i64 (by omega) (by omega)) | exact r_convInt rfl (wrap_u32 (by omega) (by omega)) | exact r_sliceArr rfl | exact r_nilCheck rfl | exact r_extract rfl rfl | exact r_lenSlice rfl | exact r_and rfl rfl rfl | exact r_shr rfl rfl (by omega) rfl | exact r_toB rfl | exact r_toU rfl | exact r_toQ rfl) (by kernel_rfl) rfl (by kernel_rfl) (by kernel_rfl) rfl rfl (fun _ _ _ _ h => h) S3 ?_; refine ZT.take 1 rfl rfl (fun w' hS' => by first | exact r_move rfl | exact r_assign rfl | exact r_fieldAddr rfl | exact r_add rfl rfl (wrap_i64 (by omega) (by omega)) | exact r_sub rfl rfl (wrap_i64 (by omega) (by omega)) | exact r_mul rfl rfl (wrap_i64 (by omega) (by omega)) | exact r_convInt rfl (wrap_u64 (by omega) (by omega)) | exact r_convInt rfl (wrap_i64 (by omega) (by omega)) | exact r_convInt rfl (wrap_u32 (by omega) (by omega)) | exact r_sliceArr rfl | exact r_nilCheck rfl | exact r_extract rfl rfl | exact r_lenSlice rfl | exact r_and rfl rfl rfl | exact r_shr rfl rfl (by omega) rfl | exact r_toB rfl | exact r_toU rfl | exact r_toQ rfl) (by kernel_rfl) rfl (by kernel_rfl) (by kernel_rfl) rfl rfl (fun _ _ _ _ h => h) S3 ?_; refine ZT.take 2 rfl rfl (fun w' hS' => by first | exact r_move rfl | exact r_assign rfl | exact r_fieldAddr rfl | exact r_add rfl rfl (wrap_i64 (by omega) (by omega)) | exact r_sub rfl rfl (wrap_i64 (by omega) (by omega)) | exact r_mul rfl rfl (wrap_i64 (by omega) (by omega)) | exact r_convInt rfl (wrap_u64 (by omega) (by omega)) | exact r_convInt rfl (wrap_i64 (by omega) (by omega)) | exact r_convInt rfl (wrap_u32 (by omega) (by omega)) | exact r_sliceArr rfl | exact r_nilCheck rfl | exact r_extract rfl rfl | exact r_lenSlice rfl | exact r_and rfl rfl rfl | exact r_shr rfl rfl (by omega) rfl | exact r_toB rfl | exact r_toU rfl | exact r_toQ rfl) (by kernel_rfl) rfl (by kernel_rfl) (by kernel_rfl) rfl rfl (fun _ _ _ _ h => h) S3 ?_
  refine ZT.take 3 rfl rfl (fun w' hS' => r_load1 rfl (hS'.ext.at hs hne) rfl) (by kernel_rfl) rfl (by kernel_rfl) (by kernel_rfl) rfl rfl (fun _ _ _ _ h => h) S3 ?_
  refine ZT.take 4 rfl rfl (fun w' hS' => r_loadW rfl (hS'.get inferInstance) k.size) (by kernel_rfl) rfl (by kernel_rfl) (by kernel_rfl) rfl rfl (fun _ _ _ _ h => h) S3 ?_
  refine ZT.take 5 rfl rfl (fun w' hS' => r_lookup2 (k := k) rfl rfl (hS'.get inferInstance) hO) (by kernel_rfl) rfl (by kernel_rfl) (by kernel_rfl) rfl rfl (fun _ _ _ _ h => h) S3 ?_
  refine ZT.take 6 rfl rfl (fun w' hS' => by first | exact r_move rfl | exact r_assign rfl | exact r_fieldAddr rfl | exact r_add rfl rfl (wrap_i64 (by omega) (by omega)) | exact r_sub rfl rfl (wrap_i64 (by omega) (by omega)) | exact r_mul rfl rfl (wrap_i64 (by omega) (by omega)) | exact r_convInt rfl (wrap_u64 (by omega) (by omega)) | exact r_convInt rfl (wrap_i64 (by omega) (by omega)) | exact r_convInt rfl (wrap_u32 (by omega) (by omega)) | exact r_sliceArr rfl | exact r_nilCheck rfl | exact r_extract rfl rfl | exact r_lenSlice rfl | exact r_and rfl rfl rfl | exact r_shr rfl rfl (by omega) rfl | exact r_toB rfl | exact r_toU rfl | exact r_toQ rfl) (by kernel_rfl) rfl (by kernel_rfl) (by kernel_rfl) rfl rfl (fun _ _ _ _ h => h) S3 ?_; refine ZT.take 7 rfl rfl (fun w' hS' => by first | exact r_move rfl | exact r_assign rfl | exact r_fieldAddr rfl | exact r_add rfl rfl (wrap_i64 (by omega) (by omega)) | exact r_sub rfl rfl (wrap_i64 (by omega) (by omega)) | exact r_mul rfl rfl (wrap_i64 (by omega) (by omega)) | exact r_convInt rfl (wrap_u64 (by omega) (by omega)) | exact r_convInt rfl (wrap_i64 (by omega) (by omega)) | exact r_convInt rfl (wrap_u32 (by omega) (by omega)) | exact r_sliceArr rfl | exact r_nilCheck rfl | exact r_extract rfl rfl | exact r_lenSlice rfl | exact r_and rfl rfl rfl | exact r_shr rfl rfl (by omega) rfl | exact r_toB rfl | exact r_toU rfl | exact r_toQ rfl) (by kernel_rfl) rfl (by kernel_rfl) (by kernel_rfl) rfl rfl (fun _ _ _ _ h => h) S3 ?_; refine ZT.take 8 rfl rfl (fun w' hS' => by first | exact r_move rfl | exact r_assign rfl | exact r_fieldAddr rfl | exact r_add rfl rfl (wrap_i64 (by omega) (by omega)) | exact r_sub rfl rfl (wrap_i64 (by omega) (by omega)) | exact r_mul rfl rfl (wrap_i64 (by omega) (by omega)) | exact r_convInt rfl (wrap_u64 (by omega) (by omega)) | exact r_convInt rfl (wrap_i64 (by omega) (by omega)) | exact r_convInt rfl (wrap_u32 (by omega) (by omega)) | exact r_sliceArr rfl | exact r_nilCheck rfl | exact r_extract rfl rfl | exact r_lenSlice rfl | exact r_and rfl rfl rfl | exact r_shr rfl rfl (by omega) rfl | exact r_toB rfl | exact r_toU rfl | exact r_toQ rfl) (by kernel_rfl) rfl (by kernel_rfl) (by kernel_rfl) rfl rfl (fun _ _ _ _ h => h) S3 ?_
  refine ZT.one 9 rfl (by kernel_rfl) rfl rfl rfl ?_
  refine ZL.alloc M3 rfl rfl (fun b6 w4 M4 => ?_)
  refine ZL.nil (ZP.turning ⟨[_], M4⟩ ?_)
  rw [mget_or]
  refine ZT.one 10 rfl (by kernel_rfl) rfl rfl rfl ?_
  refine ZL.stW M4 rfl rfl (cs' := ((mget m k).getD Cn.zero).cells) rfl (by rfl) (by rfl) (by rfl) (fun w5 M5 => ?_)
  refine ZL.nil (ZP.turning ⟨[_], M5⟩ ?_)
  refine ZT.done rfl (by kernel_rfl) ?_
  refine ZL.val (r_assign rfl) rfl ?_; refine ZL.nil ?_; refine ZP.then ?_; refine ZC.seq ?_
  refine ZC.tail 5 (by kernel_rfl) rfl rfl (fun w6 E6 _ => ?_)
  have M6 := M5.ext' E6
  refine ZS.val (r_move rfl) rfl ?_; refine ZS.val (r_nilCheck rfl) rfl ?_; refine ZS.val (r_fieldAddr rfl) rfl ?_
  refine ZS.val (r_load1 rfl (M6.ext.at hs hne) rfl) rfl ?_
  refine ZS.val (r_ldW M6 rfl k.size) rfl ?_
  refine ZS.tail ?_
  refine ZL.mdel (k := k) (t := 57) rfl M6 rfl rfl hO (fun es' w7 hO' M7 => ?_)
  refine ZL.nil ?_; refine ZP.then ?_; refine ZC.seq ?_; refine ZC.region ?_
  refine ZL.val (r_ldW M7 rfl (by rfl)) rfl ?_
  refine ZL.val (r_move rfl) rfl ?_
  refine ZL.stW M7 rfl rfl (cs' := ((mget m k).getD Cn.zero).cells) rfl (by rfl) (by rfl) (by rfl) (fun w8 M8 => ?_)
  refine ZL.val (r_assign rfl) rfl ?_; refine ZL.nil ?_; refine ZP.then ?_; refine ZC.ret ?_
  exact ZP.retCT rfl rfl (M8.get inferInstance) rfl rfl ⟨h.turned M8.ext (M8.get inferInstance) hO', rfl⟩
end Go.Proofs.YthcgmdmdgpljmaaDoor.Z
