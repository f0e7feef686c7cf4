/- ref1.Less; equality of names and points. -/
import Derived.Test.YthcgmdmdgpljmaaDoorOrd
import Derived.Laws.IdiomStrings
import Derived.Laws.Strings
import Derived.Laws.StructEq
set_option linter.unusedVariables false
set_option linter.unusedSimpArgs false
set_option linter.unusedSectionVars false
set_option maxRecDepth 100000
set_option maxHeartbeats 4000000
namespace Go.Proofs.YthcgmdmdgpljmaaDoor.Z
open Go Go.RowKit Go.Lib

section
variable {P : Program} {σ : Env} {w : World} {x y : Operand} {t t' : TypeId}
theorem r_toStr {s d e : TypeId} {X : Nat → Prop} {v : Value} {l : List UInt8} [ts : TU P s (.slice e)] [te : TU P e (.int .u8)] [td : TU P d .string] (hx : ev σ x = some v) (h : BytesR w X v l) (hl : l ≠ []) : V P σ (.convert s d x) (.string ⟨l.toArray⟩) w := by
  refine ⟨fun ρ ha o ho => ?_⟩
  rcases SlC.news h with ⟨rfl, h0, _⟩ | ⟨a, c, rfl, hn⟩
  · exact absurd (List.eq_nil_of_length_eq_zero h0) hl
  · have := run_convert_bytes_back (P := P) w s d e a c l ts.h te.h td.h (fun j hj => hn j (u8 l[j]) (by simp [hj]))
    simp [execOp, ho, ha _ _ hx, this]
theorem r_lssS {a b : ByteArray} (hx : ev σ x = some (.string a)) (hy : ev σ y = some (.string b)) : V P σ (.binOp .lss t x y t') (.bool (Op.bytesLess a.toList b.toList)) w := by
  refine ⟨fun ρ ha o ho => ?_⟩; simp [execOp, ho, ha _ _ hx, ha _ _ hy, eqGuard, binOp_string_lss]
/-- Equality of an aggregate type is plain. -/
class TG (P : Program) (t : TypeId) : Prop where
  h : P.eqGuardType P.depth t = false
theorem r_eqlA {t2 : TypeId} {xs ys : Array Value} {bb : Bool} [g : TG P t2] (hx : ev σ x = some (.agg xs)) (hy : ev σ y = some (.agg ys)) (he : (Op.equalIn 10000 t (.agg xs) (.agg ys)).run P w = .ok bb w) (h2 : t2 = t) : V P σ (.binOp .eql t x y t') (.bool bb) w := by
  subst h2
  refine ⟨fun ρ ha o ho => ?_⟩; simp [execOp, ho, ha _ _ hx, ha _ _ hy, run_eqGuard_agg _ _ _ _ _ _ _ g.h, run_eql_struct, he]
theorem r_eqlB32 {e b : Nat} [TU P t (.array 32 e)] [TU P e (.int .u8)] [TI P e 1 b] [TS P e] [TG P t] {p q : B32} (hx : ev σ x = some p.v) (hy : ev σ y = some q.v) : V P σ (.binOp .eql t x y t') (.bool (decide (p = q))) w :=
  r_eqlA (t2 := t) hx hy (run_equal_b32 (P := P) (t := t) p q 9998) rfl
theorem r_neqA {t2 : TypeId} {xs ys : Array Value} {bb : Bool} [g : TG P t2] (hx : ev σ x = some (.agg xs)) (hy : ev σ y = some (.agg ys)) (he : (Op.equalIn 10000 t (.agg xs) (.agg ys)).run P w = .ok bb w) (h2 : t2 = t) : V P σ (.binOp .neq t x y t') (.bool (!bb)) w := by
  subst h2
  refine ⟨fun ρ ha o ho => ?_⟩; simp [execOp, ho, ha _ _ hx, ha _ _ hy, run_eqGuard_agg _ _ _ _ _ _ _ g.h, run_neq_struct, he]
theorem r_neqB32 {e b : Nat} [TU P t (.array 32 e)] [TU P e (.int .u8)] [TI P e 1 b] [TS P e] [TG P t] {p q : B32} (hx : ev σ x = some p.v) (hy : ev σ y = some q.v) : V P σ (.binOp .neq t x y t') (.bool (!decide (p = q))) w :=
  r_neqA (t2 := t) hx hy (run_equal_b32 (P := P) (t := t) p q 9998) rfl
theorem r_neqPt {ti tv te : TypeId} [pt : PtT P t ti tv te] {p q : Pt} (hx : ev σ x = some p.v) (hy : ev σ y = some q.v) : V P σ (.binOp .neq t x y t') (.bool (!decide (p = q))) w :=
  have : TG P t := ⟨pt.a9⟩
  r_neqA (t2 := t) hx hy (run_equal_pt (P := P) (t := t) p q 9997) rfl
theorem r_eqlPt {ti tv te : TypeId} [pt : PtT P t ti tv te] {p q : Pt} (hx : ev σ x = some p.v) (hy : ev σ y = some q.v) : V P σ (.binOp .eql t x y t') (.bool (decide (p = q))) w :=
  have : TG P t := ⟨pt.a9⟩
  r_eqlA (t2 := t) hx hy (run_equal_pt (P := P) (t := t) p q 9997) rfl
end
section
variable {P : Program} {n : Nat} {ops : Array Oper} {Q : Post} {rest : List Oper} {σ : Env} {w : World}
/-- A guard that itself was not reached lets nothing through. -/
theorem ZL.skipU {d : Nat} {op : Op} {ty : TypeId} {pos : String} {after : Array Edge} {j : Nat} {want : Bool} {g : Nat}
    (hg : ((ops[j]?).bind (·.dst)) = some g) (hb : lk σ g = some undef) (hd : Nat.blt d n = true)
    (h : ZL P n ops Q rest ((d, undef) :: σ) w) : ZL P n ops Q (⟨some d, op, ty, pos, after, some (j, want)⟩ :: rest) σ w := by
  refine ⟨fun a ha => ?_⟩
  have hy : yielded ops a.tmps j = none := by simp [yielded, hg, ha.at' g _ hb, undef]
  have hwant : Region.wanted ⟨some d, op, ty, pos, after, some (j, want)⟩ (yielded ops a.tmps) = false := by simp [Region.wanted, hy]
  unfold wpList
  rw [if_neg (by rw [hwant]; simp)]
  exact h.h _ (ha.put hd)
end
instance : TG P 39 := ⟨by kernel_rfl⟩

theorem bytesLess_cb : ∀ a b : List UInt8, Op.bytesLess a b = decide (compareBytes a b < 0)
  | [], [] => by simp [Op.bytesLess, compareBytes]
  | _ :: _, [] => by simp [Op.bytesLess, compareBytes]
  | [], _ :: _ => by simp [Op.bytesLess, compareBytes]
  | a :: x, b :: y => by
    rw [Op.bytesLess, bytesLess_cb x y]
    simp only [compareBytes]
    by_cases h1 : a < b
    · simp [h1]
    · by_cases h2 : b < a
      · have : a ≠ b := fun e => by subst e; exact absurd h2 h1
        simp [h1, h2, this]
      · have : a = b := UInt8.le_antisymm (UInt8.not_lt.1 h2) (UInt8.not_lt.1 h1)
        simp [h1, h2, this]

theorem refLess_ok (a b : B32) (w : World) : Ret P 16 #[a.v, b.v] w (fun r w' => Ext w w' ∧ r = .bool (decide (compareBytes a.val b.val < 0))) := by
  refine Ret.enter2 Tryd.func16 rfl Tryd.ntmps16 rfl ?_
  repeat (first | (first | refine ZC.seq ?_ | refine ZC.region ?_ | refine ZC.skip ?_ | refine ZC.ret ?_ | refine ZC.exit ?_ | refine ZC.block ?_ | refine ZL.nil ?_ | refine ZP.thenX ?_ | refine ZP.thenR ?_ | refine ZP.blockN ?_ | refine ZP.blockR ?_ | refine ZP.blockE ?_ | refine ZP.blockX rfl ?_ | refine ZP.then ?_) | (first | refine ZL.val (r_move rfl) rfl ?_ | refine ZL.val (r_assign rfl) rfl ?_ | refine ZL.val (r_fieldAddr rfl) rfl ?_ | refine ZL.val (r_add rfl rfl (wrap_i64 (by omega) (by omega))) rfl ?_ | refine ZL.val (r_sub rfl rfl (wrap_i64 (by omega) (by omega))) rfl ?_ | refine ZL.val (r_mul rfl rfl (wrap_i64 (by omega) (by omega))) rfl ?_  | refine ZL.val (r_lss rfl rfl) rfl ?_ | refine ZL.val (r_leq rfl rfl) rfl ?_ | refine ZL.val (r_gtr rfl rfl) rfl ?_ | refine ZL.val (r_geq rfl rfl) rfl ?_ | refine ZL.val (r_eql rfl rfl) rfl ?_ | refine ZL.val (r_neq rfl rfl) rfl ?_ | refine ZL.val (r_not rfl) rfl ?_  | refine ZL.val (r_lenSlice rfl) rfl ?_ | refine ZL.val (r_lenString rfl) rfl ?_ | refine ZL.val (r_extract rfl rfl) rfl ?_ | refine ZL.val (r_nilCheck rfl) rfl ?_ | refine ZL.val (r_makeFunc rfl rfl) rfl ?_ | refine ZL.val (r_eqlPtrNil rfl rfl) rfl ?_ | refine ZL.val (r_pickT rfl rfl) rfl ?_ | refine ZL.val (r_pickF rfl rfl) rfl ?_  | refine ZL.val (r_eqlSliceNil rfl rfl) rfl ?_ | refine ZL.val (r_max rfl rfl (Int.max_eq_left (by omega))) rfl ?_ | refine ZL.val (r_max rfl rfl (Int.max_eq_right (by omega))) rfl ?_ | refine ZL.val (r_min rfl rfl (Int.min_eq_left (by omega))) rfl ?_ | refine ZL.val (r_min rfl rfl (Int.min_eq_right (by omega))) rfl ?_  | refine ZL.skip rfl rfl rfl rfl ?_ | refine ZL.on rfl rfl rfl ?_  | refine ZL.val (r_convInt rfl (wrap_i64 (by omega) (by omega))) rfl ?_ | refine ZL.val (r_convInt rfl (wrap_u64 (by omega) (by omega))) rfl ?_ | refine ZL.val (r_convInt rfl (wrap_u32 (by omega) (by omega))) rfl ?_ | refine ZL.val (r_convInt rfl (wrap_u8 (by omega) (by omega))) rfl ?_))
  refine ZL.box (Mem.start w No) rfl rfl rfl (fun b2 w1 M1 => ?_)
  refine ZL.box M1 rfl rfl rfl (fun b3 w2 M2 => ?_)
  repeat (first | (first | refine ZC.seq ?_ | refine ZC.region ?_ | refine ZC.skip ?_ | refine ZC.ret ?_ | refine ZC.exit ?_ | refine ZC.block ?_ | refine ZL.nil ?_ | refine ZP.thenX ?_ | refine ZP.thenR ?_ | refine ZP.blockN ?_ | refine ZP.blockR ?_ | refine ZP.blockE ?_ | refine ZP.blockX rfl ?_ | refine ZP.then ?_) | (first | refine ZL.val (r_move rfl) rfl ?_ | refine ZL.val (r_assign rfl) rfl ?_ | refine ZL.val (r_fieldAddr rfl) rfl ?_ | refine ZL.val (r_add rfl rfl (wrap_i64 (by omega) (by omega))) rfl ?_ | refine ZL.val (r_sub rfl rfl (wrap_i64 (by omega) (by omega))) rfl ?_ | refine ZL.val (r_mul rfl rfl (wrap_i64 (by omega) (by omega))) rfl ?_  | refine ZL.val (r_lss rfl rfl) rfl ?_ | refine ZL.val (r_leq rfl rfl) rfl ?_ | refine ZL.val (r_gtr rfl rfl) rfl ?_ | refine ZL.val (r_geq rfl rfl) rfl ?_ | refine ZL.val (r_eql rfl rfl) rfl ?_ | refine ZL.val (r_neq rfl rfl) rfl ?_ | refine ZL.val (r_not rfl) rfl ?_  | refine ZL.val (r_lenSlice rfl) rfl ?_ | refine ZL.val (r_lenString rfl) rfl ?_ | refine ZL.val (r_extract rfl rfl) rfl ?_ | refine ZL.val (r_nilCheck rfl) rfl ?_ | refine ZL.val (r_makeFunc rfl rfl) rfl ?_ | refine ZL.val (r_eqlPtrNil rfl rfl) rfl ?_ | refine ZL.val (r_pickT rfl rfl) rfl ?_ | refine ZL.val (r_pickF rfl rfl) rfl ?_  | refine ZL.val (r_eqlSliceNil rfl rfl) rfl ?_ | refine ZL.val (r_max rfl rfl (Int.max_eq_left (by omega))) rfl ?_ | refine ZL.val (r_max rfl rfl (Int.max_eq_right (by omega))) rfl ?_ | refine ZL.val (r_min rfl rfl (Int.min_eq_left (by omega))) rfl ?_ | refine ZL.val (r_min rfl rfl (Int.min_eq_right (by omega))) rfl ?_  | refine ZL.skip rfl rfl rfl rfl ?_ | refine ZL.on rfl rfl rfl ?_  | refine ZL.val (r_convInt rfl (wrap_i64 (by omega) (by omega))) rfl ?_ | refine ZL.val (r_convInt rfl (wrap_u64 (by omega) (by omega))) rfl ?_ | refine ZL.val (r_convInt rfl (wrap_u32 (by omega) (by omega))) rfl ?_ | refine ZL.val (r_convInt rfl (wrap_u8 (by omega) (by omega))) rfl ?_))
  refine ZC.still (by kernel_rfl) (fun w3 E3 _ => ?_)
  have M3 := M2.ext' E3
  repeat (first | (first | refine ZS.val (r_move rfl) rfl ?_ | refine ZS.val (r_assign rfl) rfl ?_ | refine ZS.val (r_fieldAddr rfl) rfl ?_ | refine ZS.val (r_add rfl rfl (wrap_i64 (by omega) (by omega))) rfl ?_ | refine ZS.val (r_sub rfl rfl (wrap_i64 (by omega) (by omega))) rfl ?_ | refine ZS.val (r_mul rfl rfl (wrap_i64 (by omega) (by omega))) rfl ?_ | refine ZS.val (r_lss rfl rfl) rfl ?_ | refine ZS.val (r_leq rfl rfl) rfl ?_ | refine ZS.val (r_gtr rfl rfl) rfl ?_ | refine ZS.val (r_geq rfl rfl) rfl ?_ | refine ZS.val (r_eql rfl rfl) rfl ?_ | refine ZS.val (r_neq rfl rfl) rfl ?_ | refine ZS.val (r_not rfl) rfl ?_ | refine ZS.val (r_lenSlice rfl) rfl ?_ | refine ZS.val (r_lenString rfl) rfl ?_ | refine ZS.val (r_extract rfl rfl) rfl ?_ | refine ZS.val (r_nilCheck rfl) rfl ?_ | refine ZS.val (r_makeFunc rfl rfl) rfl ?_ | refine ZS.val (r_eqlPtrNil rfl rfl) rfl ?_ | refine ZS.val (r_pickT rfl rfl) rfl ?_ | refine ZS.val (r_pickF rfl rfl) rfl ?_ | refine ZS.val (r_eqlSliceNil rfl rfl) rfl ?_ | refine ZS.val (r_max rfl rfl (Int.max_eq_left (by omega))) rfl ?_ | refine ZS.val (r_max rfl rfl (Int.max_eq_right (by omega))) rfl ?_ | refine ZS.val (r_min rfl rfl (Int.min_eq_left (by omega))) rfl ?_ | refine ZS.val (r_min rfl rfl (Int.min_eq_right (by omega))) rfl ?_ | refine ZS.val (r_convInt rfl (wrap_i64 (by omega) (by omega))) rfl ?_ | refine ZS.val (r_convInt rfl (wrap_u64 (by omega) (by omega))) rfl ?_ | refine ZS.val (r_convInt rfl (wrap_u32 (by omega) (by omega))) rfl ?_ | refine ZS.val (r_convInt rfl (wrap_u8 (by omega) (by omega))) rfl ?_) | refine ZS.val (r_addU rfl rfl) rfl ?_ | refine ZS.val (r_xorU rfl rfl) rfl ?_ | refine ZS.val (r_orU rfl rfl) rfl ?_ | refine ZS.val (r_andU rfl rfl) rfl ?_ | refine ZS.val (r_complU rfl) rfl ?_ | refine ZS.val (r_convU rfl) rfl ?_ | refine ZS.val (r_convB rfl) rfl ?_ | refine ZS.val (r_sliceArr rfl) rfl ?_ | refine ZS.nil ?_ | refine ZS.tail ?_)
  refine ZS.val (r_toStr rfl (M3.slArr (x := a) (Y := No) inferInstance id) (by intro h; have := a.property; rw [h] at this; cases this)) rfl ?_
  repeat (first | (first | refine ZS.val (r_move rfl) rfl ?_ | refine ZS.val (r_assign rfl) rfl ?_ | refine ZS.val (r_fieldAddr rfl) rfl ?_ | refine ZS.val (r_add rfl rfl (wrap_i64 (by omega) (by omega))) rfl ?_ | refine ZS.val (r_sub rfl rfl (wrap_i64 (by omega) (by omega))) rfl ?_ | refine ZS.val (r_mul rfl rfl (wrap_i64 (by omega) (by omega))) rfl ?_ | refine ZS.val (r_lss rfl rfl) rfl ?_ | refine ZS.val (r_leq rfl rfl) rfl ?_ | refine ZS.val (r_gtr rfl rfl) rfl ?_ | refine ZS.val (r_geq rfl rfl) rfl ?_ | refine ZS.val (r_eql rfl rfl) rfl ?_ | refine ZS.val (r_neq rfl rfl) rfl ?_ | refine ZS.val (r_not rfl) rfl ?_ | refine ZS.val (r_lenSlice rfl) rfl ?_ | refine ZS.val (r_lenString rfl) rfl ?_ | refine ZS.val (r_extract rfl rfl) rfl ?_ | refine ZS.val (r_nilCheck rfl) rfl ?_ | refine ZS.val (r_makeFunc rfl rfl) rfl ?_ | refine ZS.val (r_eqlPtrNil rfl rfl) rfl ?_ | refine ZS.val (r_pickT rfl rfl) rfl ?_ | refine ZS.val (r_pickF rfl rfl) rfl ?_ | refine ZS.val (r_eqlSliceNil rfl rfl) rfl ?_ | refine ZS.val (r_max rfl rfl (Int.max_eq_left (by omega))) rfl ?_ | refine ZS.val (r_max rfl rfl (Int.max_eq_right (by omega))) rfl ?_ | refine ZS.val (r_min rfl rfl (Int.min_eq_left (by omega))) rfl ?_ | refine ZS.val (r_min rfl rfl (Int.min_eq_right (by omega))) rfl ?_ | refine ZS.val (r_convInt rfl (wrap_i64 (by omega) (by omega))) rfl ?_ | refine ZS.val (r_convInt rfl (wrap_u64 (by omega) (by omega))) rfl ?_ | refine ZS.val (r_convInt rfl (wrap_u32 (by omega) (by omega))) rfl ?_ | refine ZS.val (r_convInt rfl (wrap_u8 (by omega) (by omega))) rfl ?_) | refine ZS.val (r_addU rfl rfl) rfl ?_ | refine ZS.val (r_xorU rfl rfl) rfl ?_ | refine ZS.val (r_orU rfl rfl) rfl ?_ | refine ZS.val (r_andU rfl rfl) rfl ?_ | refine ZS.val (r_complU rfl) rfl ?_ | refine ZS.val (r_convU rfl) rfl ?_ | refine ZS.val (r_convB rfl) rfl ?_ | refine ZS.val (r_sliceArr rfl) rfl ?_ | refine ZS.nil ?_ | refine ZS.tail ?_)
  refine ZS.val (r_toStr rfl (M3.slArr (x := b) (Y := No) inferInstance id) (by intro h; have := b.property; rw [h] at this; cases this)) rfl ?_
  refine ZS.val (r_lssS rfl rfl) rfl ?_
  repeat (first | (first | refine ZS.val (r_move rfl) rfl ?_ | refine ZS.val (r_assign rfl) rfl ?_ | refine ZS.val (r_fieldAddr rfl) rfl ?_ | refine ZS.val (r_add rfl rfl (wrap_i64 (by omega) (by omega))) rfl ?_ | refine ZS.val (r_sub rfl rfl (wrap_i64 (by omega) (by omega))) rfl ?_ | refine ZS.val (r_mul rfl rfl (wrap_i64 (by omega) (by omega))) rfl ?_ | refine ZS.val (r_lss rfl rfl) rfl ?_ | refine ZS.val (r_leq rfl rfl) rfl ?_ | refine ZS.val (r_gtr rfl rfl) rfl ?_ | refine ZS.val (r_geq rfl rfl) rfl ?_ | refine ZS.val (r_eql rfl rfl) rfl ?_ | refine ZS.val (r_neq rfl rfl) rfl ?_ | refine ZS.val (r_not rfl) rfl ?_ | refine ZS.val (r_lenSlice rfl) rfl ?_ | refine ZS.val (r_lenString rfl) rfl ?_ | refine ZS.val (r_extract rfl rfl) rfl ?_ | refine ZS.val (r_nilCheck rfl) rfl ?_ | refine ZS.val (r_makeFunc rfl rfl) rfl ?_ | refine ZS.val (r_eqlPtrNil rfl rfl) rfl ?_ | refine ZS.val (r_pickT rfl rfl) rfl ?_ | refine ZS.val (r_pickF rfl rfl) rfl ?_ | refine ZS.val (r_eqlSliceNil rfl rfl) rfl ?_ | refine ZS.val (r_max rfl rfl (Int.max_eq_left (by omega))) rfl ?_ | refine ZS.val (r_max rfl rfl (Int.max_eq_right (by omega))) rfl ?_ | refine ZS.val (r_min rfl rfl (Int.min_eq_left (by omega))) rfl ?_ | refine ZS.val (r_min rfl rfl (Int.min_eq_right (by omega))) rfl ?_ | refine ZS.val (r_convInt rfl (wrap_i64 (by omega) (by omega))) rfl ?_ | refine ZS.val (r_convInt rfl (wrap_u64 (by omega) (by omega))) rfl ?_ | refine ZS.val (r_convInt rfl (wrap_u32 (by omega) (by omega))) rfl ?_ | refine ZS.val (r_convInt rfl (wrap_u8 (by omega) (by omega))) rfl ?_) | refine ZS.val (r_addU rfl rfl) rfl ?_ | refine ZS.val (r_xorU rfl rfl) rfl ?_ | refine ZS.val (r_orU rfl rfl) rfl ?_ | refine ZS.val (r_andU rfl rfl) rfl ?_ | refine ZS.val (r_complU rfl) rfl ?_ | refine ZS.val (r_convU rfl) rfl ?_ | refine ZS.val (r_convB rfl) rfl ?_ | refine ZS.val (r_sliceArr rfl) rfl ?_ | refine ZS.nil ?_ | refine ZS.tail ?_)
  simp only [ByteArray.toList_eq, bytesLess_cb]
  repeat (first | (first | refine ZC.seq ?_ | refine ZC.region ?_ | refine ZC.skip ?_ | refine ZC.ret ?_ | refine ZC.exit ?_ | refine ZC.block ?_ | refine ZL.nil ?_ | refine ZP.thenX ?_ | refine ZP.thenR ?_ | refine ZP.blockN ?_ | refine ZP.blockR ?_ | refine ZP.blockE ?_ | refine ZP.blockX rfl ?_ | refine ZP.then ?_) | (first | refine ZL.val (r_move rfl) rfl ?_ | refine ZL.val (r_assign rfl) rfl ?_ | refine ZL.val (r_fieldAddr rfl) rfl ?_ | refine ZL.val (r_add rfl rfl (wrap_i64 (by omega) (by omega))) rfl ?_ | refine ZL.val (r_sub rfl rfl (wrap_i64 (by omega) (by omega))) rfl ?_ | refine ZL.val (r_mul rfl rfl (wrap_i64 (by omega) (by omega))) rfl ?_  | refine ZL.val (r_lss rfl rfl) rfl ?_ | refine ZL.val (r_leq rfl rfl) rfl ?_ | refine ZL.val (r_gtr rfl rfl) rfl ?_ | refine ZL.val (r_geq rfl rfl) rfl ?_ | refine ZL.val (r_eql rfl rfl) rfl ?_ | refine ZL.val (r_neq rfl rfl) rfl ?_ | refine ZL.val (r_not rfl) rfl ?_  | refine ZL.val (r_lenSlice rfl) rfl ?_ | refine ZL.val (r_lenString rfl) rfl ?_ | refine ZL.val (r_extract rfl rfl) rfl ?_ | refine ZL.val (r_nilCheck rfl) rfl ?_ | refine ZL.val (r_makeFunc rfl rfl) rfl ?_ | refine ZL.val (r_eqlPtrNil rfl rfl) rfl ?_ | refine ZL.val (r_pickT rfl rfl) rfl ?_ | refine ZL.val (r_pickF rfl rfl) rfl ?_  | refine ZL.val (r_eqlSliceNil rfl rfl) rfl ?_ | refine ZL.val (r_max rfl rfl (Int.max_eq_left (by omega))) rfl ?_ | refine ZL.val (r_max rfl rfl (Int.max_eq_right (by omega))) rfl ?_ | refine ZL.val (r_min rfl rfl (Int.min_eq_left (by omega))) rfl ?_ | refine ZL.val (r_min rfl rfl (Int.min_eq_right (by omega))) rfl ?_  | refine ZL.skip rfl rfl rfl rfl ?_ | refine ZL.on rfl rfl rfl ?_  | refine ZL.val (r_convInt rfl (wrap_i64 (by omega) (by omega))) rfl ?_ | refine ZL.val (r_convInt rfl (wrap_u64 (by omega) (by omega))) rfl ?_ | refine ZL.val (r_convInt rfl (wrap_u32 (by omega) (by omega))) rfl ?_ | refine ZL.val (r_convInt rfl (wrap_u8 (by omega) (by omega))) rfl ?_))
  exact ZP.ret1 rfl rfl ⟨M3.ext, rfl⟩
end Go.Proofs.YthcgmdmdgpljmaaDoor.Z
