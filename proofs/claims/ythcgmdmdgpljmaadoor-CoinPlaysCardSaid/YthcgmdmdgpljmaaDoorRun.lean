/- What each operation of the model does, one lemma an operation: values, memory, the type table's facts as instances. -/
import Derived.Test.YthcgmdmdgpljmaaDoorZ
set_option linter.unusedVariables false
set_option linter.unusedSimpArgs false
namespace Go.Proofs.YthcgmdmdgpljmaaDoor.Z
open Go

/-! ### The type table's facts -/
class TU (P : Program) (t : TypeId) (d : outParam TypeDesc) : Prop where
  h : P.underlying t = some d
class TI (P : Program) (t : TypeId) (size bytes : outParam Nat) : Prop where
  h : (P.info? t).map (fun i => (i.size, i.bytes)) = some (size, bytes)
class TZ (P : Program) (t : TypeId) (z : outParam Value) : Prop where
  h : (P.info? t).map (·.zero) = some (some z)
/-- A slice's element: its cells, its bytes, its zero value. -/
class TE (P : Program) (t : TypeId) (size bytes : outParam Nat) (z : outParam Value) : Prop where
  ti : TI P t size bytes
  tz : TZ P t z
  hz : z.cells.size = size
  pos : 0 < size
/-- A type of one cell. -/
class TS (P : Program) (t : TypeId) : Prop where
  h : ∀ w, (isAgg t).run P w = .ok false w
/-- A struct or an array. -/
class TA (P : Program) (t : TypeId) : Prop where
  h : ∀ w, (isAgg t).run P w = .ok true w
class TF (P : Program) (s : TypeId) (f : Nat) (off : outParam Nat) : Prop where
  h : ∀ b o w, (Instr.fieldAt s (.pointer (some ⟨b, o, none⟩)) f).run P w = .ok (.pointer (some ⟨b, o + off, none⟩)) w
class FN (P : Program) (f : FuncId) : Prop where
  h : ∀ args w, (callFunc f args).run P w = .ok (.enter f args) w

section
variable {P : Program} {σ : Env} {w : World}

theorem run_sizeOf' {t s b : Nat} [i : TI P t s b] (w : World) : (sizeOf t).run P w = .ok s w := by
  have h := i.h
  cases hq : P.info? t with
  | none => simp [hq] at h
  | some x => simp [hq] at h; simp [sizeOf, typeInfo, hq, h.1]
theorem run_zero' {t : Nat} {z : Value} [i : TZ P t z] (w : World) : (zeroValue t).run P w = .ok z w := by
  have h := i.h
  cases hq : P.info? t with
  | none => simp [hq] at h
  | some x => simp [hq] at h; simp [zeroValue, typeInfo, hq, h]
theorem run_under' {t : Nat} {d : TypeDesc} [i : TU P t d] (w : World) : (underlying t).run P w = .ok d w := run_underlying i.h w
theorem run_bytes' {t s b : Nat} [i : TI P t s b] (w : World) : ∃ x, (typeInfo t).run P w = .ok x w ∧ x.size = s ∧ x.bytes = b := by
  have h := i.h
  cases hq : P.info? t with
  | none => simp [hq] at h
  | some x => simp [hq] at h; exact ⟨x, by simp [typeInfo, hq], h.1, h.2⟩

theorem evs_map {l : List Operand} {vs : List Value} (h : evs σ l = some vs) {ρ : Operand → Value} (ha : Ag ρ σ) : l.map ρ = vs := by
  induction l generalizing vs with
  | nil => simp [evs] at h; simp [← h]
  | cons x r ih =>
    simp only [evs] at h
    cases hx : ev σ x with
    | none => simp [hx] at h
    | some v =>
      rw [hx] at h
      cases hr : evs σ r with
      | none => simp [hr] at h
      | some us => simp [hr] at h; subst h; simp [ha _ _ hx, ih hr]

/-! ### Plain values -/
theorem r_move {x : Operand} {v : Value} (h : ev σ x = some v) : V P σ (.move x) v w := by
  refine ⟨fun ρ ha o ho => ?_⟩; simp [execOp, ho, ha _ _ h]
theorem r_assign {x : Operand} {v : Value} (h : ev σ x = some v) : V P σ (.assign x) v w := by
  refine ⟨fun ρ ha o ho => ?_⟩; simp [execOp, ho, ha _ _ h]
theorem r_pickT {c a b : Operand} {v : Value} (hc : ev σ c = some (.bool true)) (h : ev σ a = some v) : V P σ (.pick c a b) v w := by
  refine ⟨fun ρ ha o ho => ?_⟩; simp [execOp, ho, ha _ _ hc, ha _ _ h, asBool]
theorem r_pickF {c a b : Operand} {v : Value} (hc : ev σ c = some (.bool false)) (h : ev σ b = some v) : V P σ (.pick c a b) v w := by
  refine ⟨fun ρ ha o ho => ?_⟩; simp [execOp, ho, ha _ _ hc, ha _ _ h, asBool]
theorem r_nilCheck {x : Operand} {a : Addr} (h : ev σ x = some (.pointer (some a))) : V P σ (.nilCheck x) (.pointer (some a)) w := by
  refine ⟨fun ρ ha o ho => ?_⟩; simp [execOp, ho, ha _ _ h]
theorem r_extract {x : Operand} {i : Nat} {vs : Array Value} {v : Value} (h : ev σ x = some (.tuple vs)) (hv : vs[i]? = some v) : V P σ (.extract x i) v w := by
  refine ⟨fun ρ ha o ho => ?_⟩; simp [execOp, ho, ha _ _ h, Instr.extract, hv]
theorem r_makeFunc {fn : Fn} {first captured : Array Operand} {fs cs : List Value} (h1 : evs σ first.toList = some fs) (h2 : evs σ captured.toList = some cs) :
    V P σ (.makeFunc fn first captured) (.func fn fs.toArray cs.toArray) w := by
  refine ⟨fun ρ ha o ho => ?_⟩
  have e1 := evs_map h1 ha
  have e2 := evs_map h2 ha
  have f1 : first.map ρ = fs.toArray := by apply Array.ext'; simpa using e1
  have f2 : captured.map ρ = cs.toArray := by apply Array.ext'; simpa using e2
  simp [execOp, ho, Instr.makeFunc, f1, f2]

/-! ### Integers -/
theorem eqGuard_int {op : BinOp} {t : TypeId} {x y : Operand} {k k' : IntKind} {a b : Int} (w : World) : (eqGuard op t x y (.int k a) (.int k' b)).run P w = .ok () w := by
  unfold eqGuard; cases op <;> simp
theorem eqGuard_bool {op : BinOp} {t : TypeId} {x y : Operand} {a b : Bool} (w : World) : (eqGuard op t x y (.bool a) (.bool b)).run P w = .ok () w := by
  unfold eqGuard; cases op <;> simp

theorem wrap_u64 {n : Int} (h0 : 0 ≤ n) (h1 : n < 18446744073709551616) : IntKind.u64.wrap n = n := by
  simp only [IntKind.wrap, IntKind.bits, IntKind.signed]; simp; omega
theorem wrap_u32 {n : Int} (h0 : 0 ≤ n) (h1 : n < 4294967296) : IntKind.u32.wrap n = n := by
  simp only [IntKind.wrap, IntKind.bits, IntKind.signed]; simp; omega
theorem wrap_u8 {n : Int} (h0 : 0 ≤ n) (h1 : n < 256) : IntKind.u8.wrap n = n := by
  simp only [IntKind.wrap, IntKind.bits, IntKind.signed]; simp; omega
theorem wrap_i64 {n : Int} (h0 : -9223372036854775808 ≤ n) (h1 : n < 9223372036854775808) : IntKind.i64.wrap n = n := by
  simp only [IntKind.wrap, IntKind.bits, IntKind.signed]; simp; omega


/-! The results of the operations on bits, under names -/
def iand (k : IntKind) (a b : Int) : Int := k.wrap ((BitVec.ofInt k.bits a &&& BitVec.ofInt k.bits b).toNat : Int)
def ior (k : IntKind) (a b : Int) : Int := k.wrap ((BitVec.ofInt k.bits a ||| BitVec.ofInt k.bits b).toNat : Int)
def ixor (k : IntKind) (a b : Int) : Int := k.wrap ((BitVec.ofInt k.bits a ^^^ BitVec.ofInt k.bits b).toNat : Int)

theorem beq_dec (a b : Int) : (a == b) = decide (a = b) := by
  by_cases h : a = b <;> simp [h]
theorem bne_dec (a b : Int) : (a != b) = decide (a ≠ b) := by
  by_cases h : a = b <;> simp [h]

variable {t t' : TypeId} {x y : Operand} {k k' : IntKind} {a b r : Int}
theorem r_add (hx : ev σ x = some (.int k a)) (hy : ev σ y = some (.int k b)) (hr : k.wrap (a + b) = r) : V P σ (.binOp .add t x y t') (.int k r) w := by
  refine ⟨fun ρ ha o ho => ?_⟩; simp [execOp, ho, ha _ _ hx, ha _ _ hy, eqGuard, binOp, Op.intArith, hr]
theorem r_sub (hx : ev σ x = some (.int k a)) (hy : ev σ y = some (.int k b)) (hr : k.wrap (a - b) = r) : V P σ (.binOp .sub t x y t') (.int k r) w := by
  refine ⟨fun ρ ha o ho => ?_⟩; simp [execOp, ho, ha _ _ hx, ha _ _ hy, eqGuard, binOp, Op.intArith, hr]
theorem r_mul (hx : ev σ x = some (.int k a)) (hy : ev σ y = some (.int k b)) (hr : k.wrap (a * b) = r) : V P σ (.binOp .mul t x y t') (.int k r) w := by
  refine ⟨fun ρ ha o ho => ?_⟩; simp [execOp, ho, ha _ _ hx, ha _ _ hy, eqGuard, binOp, Op.intArith, hr]
theorem r_quo (hx : ev σ x = some (.int k a)) (hy : ev σ y = some (.int k b)) (hb : b ≠ 0) (hr : k.wrap (a.tdiv b) = r) : V P σ (.binOp .quo t x y t') (.int k r) w := by
  refine ⟨fun ρ ha o ho => ?_⟩; simp [execOp, ho, ha _ _ hx, ha _ _ hy, eqGuard, binOp, Op.intDiv, hb, hr]
theorem r_rem (hx : ev σ x = some (.int k a)) (hy : ev σ y = some (.int k b)) (hb : b ≠ 0) (hr : a.tmod b = r) : V P σ (.binOp .rem t x y t') (.int k r) w := by
  refine ⟨fun ρ ha o ho => ?_⟩; simp [execOp, ho, ha _ _ hx, ha _ _ hy, eqGuard, binOp, Op.intDiv, hb, hr]
theorem r_and (hx : ev σ x = some (.int k a)) (hy : ev σ y = some (.int k b)) (hr : iand k a b = r) : V P σ (.binOp .and t x y t') (.int k r) w := by
  refine ⟨fun ρ ha o ho => ?_⟩; subst hr; simp [execOp, ho, ha _ _ hx, ha _ _ hy, eqGuard, binOp, Op.intBits, iand]
theorem r_or (hx : ev σ x = some (.int k a)) (hy : ev σ y = some (.int k b)) (hr : ior k a b = r) : V P σ (.binOp .or t x y t') (.int k r) w := by
  refine ⟨fun ρ ha o ho => ?_⟩; subst hr; simp [execOp, ho, ha _ _ hx, ha _ _ hy, eqGuard, binOp, Op.intBits, ior]
theorem r_xor (hx : ev σ x = some (.int k a)) (hy : ev σ y = some (.int k b)) (hr : ixor k a b = r) : V P σ (.binOp .xor t x y t') (.int k r) w := by
  refine ⟨fun ρ ha o ho => ?_⟩; subst hr; simp [execOp, ho, ha _ _ hx, ha _ _ hy, eqGuard, binOp, Op.intBits, ixor]
theorem r_shl (hx : ev σ x = some (.int k a)) (hy : ev σ y = some (.int k' b)) (hb : 0 ≤ b) (hr : k.wrap (a * 2 ^ (min b.toNat k.bits)) = r) : V P σ (.binOp .shl t x y t') (.int k r) w := by
  refine ⟨fun ρ ha o ho => ?_⟩
  have : ¬ b < 0 := by omega
  simp [execOp, ho, ha _ _ hx, ha _ _ hy, eqGuard, binOp, Op.shift, this, hr]
theorem r_shr (hx : ev σ x = some (.int k a)) (hy : ev σ y = some (.int k' b)) (hb : 0 ≤ b) (hr : a / 2 ^ (min b.toNat k.bits) = r) : V P σ (.binOp .shr t x y t') (.int k r) w := by
  refine ⟨fun ρ ha o ho => ?_⟩
  have : ¬ b < 0 := by omega
  have h2 : (0 : Int) ≤ 2 ^ (min b.toNat k.bits) := Int.pow_nonneg (by decide)
  simp [execOp, ho, ha _ _ hx, ha _ _ hy, eqGuard, binOp, Op.shift, this, Int.fdiv_eq_ediv_of_nonneg _ h2, hr]
theorem r_lss (hx : ev σ x = some (.int k a)) (hy : ev σ y = some (.int k b)) : V P σ (.binOp .lss t x y t') (.bool (decide (a < b))) w := by
  refine ⟨fun ρ ha o ho => ?_⟩; simp [execOp, ho, ha _ _ hx, ha _ _ hy, eqGuard, binOp, Op.intCmp]
theorem r_leq (hx : ev σ x = some (.int k a)) (hy : ev σ y = some (.int k b)) : V P σ (.binOp .leq t x y t') (.bool (decide (a ≤ b))) w := by
  refine ⟨fun ρ ha o ho => ?_⟩; simp [execOp, ho, ha _ _ hx, ha _ _ hy, eqGuard, binOp, Op.intCmp]
theorem r_gtr (hx : ev σ x = some (.int k a)) (hy : ev σ y = some (.int k b)) : V P σ (.binOp .gtr t x y t') (.bool (decide (b < a))) w := by
  refine ⟨fun ρ ha o ho => ?_⟩; simp [execOp, ho, ha _ _ hx, ha _ _ hy, eqGuard, binOp, Op.intCmp]
theorem r_geq (hx : ev σ x = some (.int k a)) (hy : ev σ y = some (.int k b)) : V P σ (.binOp .geq t x y t') (.bool (decide (b ≤ a))) w := by
  refine ⟨fun ρ ha o ho => ?_⟩; simp [execOp, ho, ha _ _ hx, ha _ _ hy, eqGuard, binOp, Op.intCmp]
theorem r_eql (hx : ev σ x = some (.int k a)) (hy : ev σ y = some (.int k b)) : V P σ (.binOp .eql t x y t') (.bool (decide (a = b))) w := by
  refine ⟨fun ρ ha o ho => ?_⟩; rw [← beq_dec]; simp [execOp, ho, ha _ _ hx, ha _ _ hy, eqGuard_int, binOp, Op.intCmp]
theorem r_neq (hx : ev σ x = some (.int k a)) (hy : ev σ y = some (.int k b)) : V P σ (.binOp .neq t x y t') (.bool (decide (a ≠ b))) w := by
  refine ⟨fun ρ ha o ho => ?_⟩; rw [← bne_dec]; simp [execOp, ho, ha _ _ hx, ha _ _ hy, eqGuard_int, binOp, Op.intCmp]
theorem r_convInt {s d : TypeId} {ds : TypeDesc} [is : TU P s ds] [id : TU P d (.int k)] (hx : ev σ x = some (.int k' a)) (hr : k.wrap a = r) : V P σ (.convert s d x) (.int k r) w := by
  refine ⟨fun ρ ha o ho => ?_⟩
  simp [execOp, ho, ha _ _ hx, convert, run_under' (t := s), run_under' (t := d)]
  cases ds <;> simp [Conv.intToInt, hr]
theorem r_not {b : Bool} (hx : ev σ x = some (.bool b)) : V P σ (.unOp .not t x) (.bool (!b)) w := by
  refine ⟨fun ρ ha o ho => ?_⟩; simp [execOp, ho, ha _ _ hx, Op.unary]
theorem r_neg (hx : ev σ x = some (.int k a)) (hr : k.wrap (0 - a) = r) : V P σ (.unOp .neg t x) (.int k r) w := by
  refine ⟨fun ρ ha o ho => ?_⟩; simp [execOp, ho, ha _ _ hx, Op.unary, Op.intArith]; simpa using hr
theorem r_compl (hx : ev σ x = some (.int k a)) (hr : ixor k (if k.signed then -1 else k.max) a = r) : V P σ (.unOp .xor t x) (.int k r) w := by
  refine ⟨fun ρ ha o ho => ?_⟩; subst hr; simp [execOp, ho, ha _ _ hx, Op.unary, Op.intBits, ixor]

/-! ### Pointers, bools, nil -/
theorem equal_of {t : TypeId} {u v : Value} {r : Bool} {w : World} (h : ∀ d, (Op.equalIn (d + 1) t u v).run P w = .ok r w) : (Op.equal t u v).run P w = .ok r w := h 9999
theorem eqGuard_ptr {op : BinOp} {t : TypeId} {x y : Operand} {p q : Option Addr} (w : World) : (eqGuard op t x y (.pointer p) (.pointer q)).run P w = .ok () w := by
  unfold eqGuard; cases op <;> simp
theorem eqGuard_slice {op : BinOp} {t : TypeId} {x y : Operand} {p q : Option Addr} {n m c d : Nat} (w : World) : (eqGuard op t x y (.slice p n c) (.slice q m d)).run P w = .ok () w := by
  unfold eqGuard; cases op <;> simp
theorem r_eqlPtrNil {e : TypeId} {p : Addr} [it : TU P t (.pointer e)] (hx : ev σ x = some (.pointer (some p))) (hy : ev σ y = some (.pointer none)) : V P σ (.binOp .eql t x y t') (.bool false) w := by
  refine ⟨fun ρ ha o ho => ?_⟩
  have h : (Op.equal t (.pointer (some p)) (.pointer none)).run P w = .ok false w := equal_of fun d => by simp [Op.equalIn, run_under' (t := t)]
  simp [execOp, ho, ha _ _ hx, ha _ _ hy, eqGuard_ptr, binOp, h]
theorem r_eqlBool {b1 b2 : Bool} [it : TU P t .bool] (hx : ev σ x = some (.bool b1)) (hy : ev σ y = some (.bool b2)) : V P σ (.binOp .eql t x y t') (.bool (b1 == b2)) w := by
  refine ⟨fun ρ ha o ho => ?_⟩
  have h : (Op.equal t (.bool b1) (.bool b2)).run P w = .ok (b1 == b2) w := equal_of fun d => by simp [Op.equalIn, run_under' (t := t)]
  simp [execOp, ho, ha _ _ hx, ha _ _ hy, eqGuard_bool, binOp, h]
theorem r_neqBool {b1 b2 : Bool} [it : TU P t .bool] (hx : ev σ x = some (.bool b1)) (hy : ev σ y = some (.bool b2)) : V P σ (.binOp .neq t x y t') (.bool (b1 != b2)) w := by
  refine ⟨fun ρ ha o ho => ?_⟩
  have h : (Op.equal t (.bool b1) (.bool b2)).run P w = .ok (b1 == b2) w := equal_of fun d => by simp [Op.equalIn, run_under' (t := t)]
  simp [execOp, ho, ha _ _ hx, ha _ _ hy, eqGuard_bool, binOp, h]; cases b1 <;> cases b2 <;> rfl
theorem run_equalSliceNil {e : TypeId} {p : Option Addr} {n c m c' : Nat} [it : TU P t (.slice e)] : (Op.equal t (.slice p n c) (.slice none m c')).run P w = .ok p.isNone w :=
  equal_of fun d => by cases p <;> simp [Op.equalIn, run_under' (t := t)]
theorem r_eqlSliceNil {e : TypeId} {p : Option Addr} {n c m c' : Nat} [it : TU P t (.slice e)] (hx : ev σ x = some (.slice p n c)) (hy : ev σ y = some (.slice none m c')) : V P σ (.binOp .eql t x y t') (.bool p.isNone) w := by
  refine ⟨fun ρ ha o ho => ?_⟩
  simp [execOp, ho, ha _ _ hx, ha _ _ hy, eqGuard_slice, binOp, run_equalSliceNil (e := e)]
theorem r_neqSliceNil {e : TypeId} {p : Option Addr} {n c m c' : Nat} [it : TU P t (.slice e)] (hx : ev σ x = some (.slice p n c)) (hy : ev σ y = some (.slice none m c')) : V P σ (.binOp .neq t x y t') (.bool p.isSome) w := by
  refine ⟨fun ρ ha o ho => ?_⟩
  simp [execOp, ho, ha _ _ hx, ha _ _ hy, eqGuard_slice, binOp, run_equalSliceNil (e := e)]

/-! ### len, min, max -/
theorem resolve_builtin {ρ : Operand → Value} {bi : Builtin} {args : Array Operand} {ats : Array TypeId} {ty : TypeId} (w : World) :
    ∃ cs, (resolve ρ ⟨.builtin bi, args, ats⟩ ty).run P w = .ok { target := .builtin bi ats ty cs, args := args.map ρ } w := ⟨_, rfl⟩
/-- A builtin without a word on constants: its own equation is all that is wanted. -/
theorem exec_builtin {ρ : Operand → Value} {bi : Builtin} {args : Array Operand} {ats : Array TypeId} {o : Oper} {r : Result Next} (ho : o.op = .call ⟨.builtin bi, args, ats⟩)
    (h : ∀ cs, (builtin bi ats o.type cs (args.map ρ)).run P w = r) : (execOp ρ o).run P w = r := by
  obtain ⟨cs, hc⟩ := resolve_builtin (P := P) (ρ := ρ) (bi := bi) (args := args) (ats := ats) (ty := o.type) w
  simp only [execOp, ho, Sem.run_bind, hc, Result.andThen_ok, invoke]
  exact h cs
theorem r_lenSlice {e at' : TypeId} {p : Option Addr} {n c : Nat} [it : TU P at' (.slice e)] (hx : ev σ x = some (.slice p n c)) :
    V P σ (.call ⟨.builtin .len, #[x], #[at']⟩) (.int .i64 n) w := by
  refine ⟨fun ρ ha o ho => ?_⟩; exact exec_builtin ho fun cs => by simp [ha _ _ hx, builtin, Builtin.len_, run_under' (t := at'), goInt]
theorem r_lenString {at' : TypeId} {s : ByteArray} [it : TU P at' .string] (hx : ev σ x = some (.string s)) :
    V P σ (.call ⟨.builtin .len, #[x], #[at']⟩) (.int .i64 s.size) w := by
  refine ⟨fun ρ ha o ho => ?_⟩; exact exec_builtin ho fun cs => by simp [ha _ _ hx, builtin, Builtin.len_, run_under' (t := at'), goInt]
theorem r_lenMap {kt e at' : TypeId} {m : Nat} {es : Array MapEntry} {cl : Nat} [it : TU P at' (.map kt e)] (hx : ev σ x = some (.map (some m))) (hm : w.heap[m]? = some (.map es cl)) :
    V P σ (.call ⟨.builtin .len, #[x], #[at']⟩) (.int .i64 es.size) w := by
  refine ⟨fun ρ ha o ho => ?_⟩; exact exec_builtin ho fun cs => by simp [ha _ _ hx, builtin, Builtin.len_, run_under' (t := at'), goInt, getObj, Sem.run, hm]
theorem r_min {ats : Array TypeId} (hx : ev σ x = some (.int k a)) (hy : ev σ y = some (.int k' b)) (hr : min a b = r) :
    V P σ (.call ⟨.builtin .min, #[x, y], ats⟩) (.int k r) w := by
  refine ⟨fun ρ ha o ho => ?_⟩; subst hr
  refine exec_builtin ho fun cs => ?_
  simp [ha _ _ hx, ha _ _ hy, builtin, Builtin.min_, Builtin.min2]
  split <;> omega
theorem r_max {ats : Array TypeId} (hx : ev σ x = some (.int k a)) (hy : ev σ y = some (.int k' b)) (hr : max a b = r) :
    V P σ (.call ⟨.builtin .max, #[x, y], ats⟩) (.int k r) w := by
  refine ⟨fun ρ ha o ho => ?_⟩; subst hr
  refine exec_builtin ho fun cs => ?_
  simp [ha _ _ hx, ha _ _ hy, builtin, Builtin.max_, Builtin.max2]
  split <;> omega

/-! ### Calls -/
theorem r_call {f : FuncId} {args : Array Operand} {ats : Array TypeId} {vs : List Value} [FN P f] (h : evs σ args.toList = some vs) :
    EN P σ (.call ⟨.value (.func f), args, ats⟩) f vs.toArray w := by
  refine ⟨fun ρ ha o ho => ?_⟩
  have e1 : args.map ρ = vs.toArray := by apply Array.ext'; simpa using evs_map h ha
  have e2 : ρ (.func f) = .func (.func f) #[] #[] := ha (.func f) _ rfl
  simp [execOp, ho, resolve, e1, e2, Deferred.ofValue, invoke, FN.h]
/-- A function value is called. -/
theorem r_callv {f : FuncId} {x : Operand} {args : Array Operand} {ats : Array TypeId} {vs cs : List Value} [FN P f] (hx : ev σ x = some (.func (.func f) #[] cs.toArray)) (h : evs σ args.toList = some vs) :
    EN P σ (.call ⟨.value x, args, ats⟩) f (vs ++ cs).toArray w := by
  refine ⟨fun ρ ha o ho => ?_⟩
  have e1 : args.map ρ = vs.toArray := by apply Array.ext'; simpa using evs_map h ha
  simp [execOp, ho, resolve, e1, ha _ _ hx, Deferred.ofValue, invoke, FN.h]

/-! ### Memory: addresses -/
theorem r_fieldAddr {s : TypeId} {f off b' o' : Nat} [TF P s f off] (hx : ev σ x = some (.pointer (some ⟨b', o', none⟩))) : V P σ (.fieldAddr s x f) (.pointer (some ⟨b', o' + off, none⟩)) w := by
  refine ⟨fun ρ ha o ho => ?_⟩; simp [execOp, ho, ha _ _ hx, TF.h]
theorem add_at (b' o' n : Nat) : (⟨b', o', none⟩ : Addr).add n = ⟨b', o' + n, none⟩ := by
  unfold Addr.add; split <;> simp_all
theorem r_indexAddrSlice {t e : TypeId} {s by' b' o' n c : Nat} {i : Nat} [TU P t (.slice e)] [TI P e s by'] (hx : ev σ x = some (.slice (some ⟨b', o', none⟩) n c)) (hy : ev σ y = some (.int k i)) (hi : i < n) :
    V P σ (.indexAddr t x y) (.pointer (some ⟨b', o' + i * s, none⟩)) w := by
  refine ⟨fun ρ ha o ho => ?_⟩
  simp [execOp, ho, ha _ _ hx, ha _ _ hy, Instr.indexAt, asIntOf, run_under' (t := t), hi, run_sizeOf' (t := e), add_at]
theorem r_indexAddrArray {t e : TypeId} {s by' b' o' n : Nat} {i : Nat} [TU P t (.array n e)] [TI P e s by'] (hx : ev σ x = some (.pointer (some ⟨b', o', none⟩))) (hy : ev σ y = some (.int k i)) (hi : i < n) :
    V P σ (.indexAddr t x y) (.pointer (some ⟨b', o' + i * s, none⟩)) w := by
  refine ⟨fun ρ ha o ho => ?_⟩
  simp [execOp, ho, ha _ _ hx, ha _ _ hy, Instr.indexAt, Instr.sureAddr, asIntOf, run_under' (t := t), hi, run_sizeOf' (t := e), add_at]

/-! ### Memory: reading -/
theorem cell_of {b' o' : Nat} {cs : Array Value} {e : TypeId} {fz : Nat × Nat} {v : Value} (h : w.heap[b']? = some (.cells cs e fz)) (hv : cs[o']? = some v) : w.cell? ⟨b', o', none⟩ = some v := by
  simp [World.cell?, h, hv]
theorem r_load1 {t : TypeId} {b' o' : Nat} {cs : Array Value} {e : TypeId} {fz : Nat × Nat} {v : Value} [TS P t] (hx : ev σ x = some (.pointer (some ⟨b', o', none⟩))) (hm : w.heap[b']? = some (.cells cs e fz)) (hv : cs[o']? = some v) :
    V P σ (.load t x) v w := by
  refine ⟨fun ρ ha o ho => ?_⟩; simp [execOp, ho, ha _ _ hx, Instr.loadAt, Instr.sureAddr, loadVar, TS.h, cell_of hm hv]
theorem run_loadSeg {b' o' n : Nat} {cs : Array Value} {e : TypeId} {fz : Nat × Nat} (hm : w.heap[b']? = some (.cells cs e fz)) (hn : o' + n ≤ cs.size) :
    (loadCells ⟨b', o', none⟩ n).run P w = .ok (cs.extract o' (o' + n)) w := by
  have h := run_loadCells_list (P := P) w ⟨b', o', none⟩ (cs.extract o' (o' + n)).toList (by
    intro j v hj
    rw [add_at]
    refine cell_of hm ?_
    rw [Array.getElem?_toList, Array.getElem?_extract] at hj
    split at hj
    · exact hj
    · cases hj)
  have e1 : (cs.extract o' (o' + n)).toList.length = n := by simp; omega
  rw [e1] at h
  rw [h]
theorem r_loadN {t : TypeId} {b' o' s by' : Nat} {cs : Array Value} {e : TypeId} {fz : Nat × Nat} {vs : Array Value} [TA P t] [TI P t s by'] (hx : ev σ x = some (.pointer (some ⟨b', o', none⟩))) (hm : w.heap[b']? = some (.cells cs e fz))
    (hn : o' + s ≤ cs.size) (hv : cs.extract o' (o' + s) = vs) : V P σ (.load t x) (.agg vs) w := by
  refine ⟨fun ρ ha o ho => ?_⟩; simp [execOp, ho, ha _ _ hx, Instr.loadAt, Instr.sureAddr, loadVar, TA.h, run_sizeOf' (t := t), run_loadSeg hm hn, hv]
/-- A whole variable is read. -/
theorem r_loadW {t : TypeId} {b' s by' : Nat} {cs : Array Value} {e : TypeId} {fz : Nat × Nat} [TA P t] [TI P t s by'] (hx : ev σ x = some (.pointer (some ⟨b', 0, none⟩))) (hm : w.heap[b']? = some (.cells cs e fz))
    (hn : cs.size = s) : V P σ (.load t x) (.agg cs) w :=
  r_loadN hx hm (by omega) (by simp [← hn])

/-! ### Memory: what turns -/
/-- w' is w but for block b, which is o. -/
structure Upd (w w' : World) (b : Nat) (o : Obj) : Prop where
  os : w'.os = w.os
  tape : w'.tape = w.tape
  output : w'.output = w.output
  size : w.heap.size ≤ w'.heap.size
  at' : w'.heap[b]? = some o
  other : ∀ k, k ≠ b → w'.heap[k]? = w.heap[k]?

theorem Upd.alloc (w : World) (o : Obj) : Upd w (w.alloc o) w.heap.size o :=
  ⟨rfl, rfl, rfl, by simp, heap_alloc_new w o, fun k hk => by
    show (w.heap.push o)[k]? = _
    rw [Array.getElem?_push, if_neg hk]⟩
theorem Upd.setRow {w : World} {g : Nat} {old cs : Array Value} {t : TypeId} {fr : Nat × Nat} (hg : w.heap[g]? = some (.cells old t fr)) : Upd w (w.setRow g cs) g (.cells cs t fr) :=
  ⟨rfl, rfl, rfl, by simp, setRow_heap w g old cs t fr hg, fun k hk => setRow_other w g k cs hk⟩
def World.putObj (w : World) (g : Nat) (o : Obj) : World := { w with heap := w.heap.setIfInBounds g o }
theorem Upd.putObj {w : World} {g : Nat} {o : Obj} (hg : g < w.heap.size) : Upd w (World.putObj w g o) g o :=
  ⟨rfl, rfl, rfl, by simp [World.putObj], by simp [World.putObj, hg], fun k hk => by simp [World.putObj, Array.getElem?_setIfInBounds_ne (Ne.symm hk)]⟩

theorem vw_alloc {t : TypeId} {z : Value} [TZ P t z] : VW P σ (.alloc t) (.pointer (some ⟨w.heap.size, 0, none⟩)) w (w.alloc (.cells z.cells t)) := by
  refine ⟨fun ρ ha o ho => ?_⟩; simp [execOp, ho, Instr.alloc, run_zero' (t := t), newVar, newRow]
theorem vw_box {t : TypeId} {v : Value} (hx : ev σ x = some v) : VW P σ (.box t x) (.pointer (some ⟨w.heap.size, 0, none⟩)) w (w.alloc (.cells v.cells t)) := by
  refine ⟨fun ρ ha o ho => ?_⟩; simp [execOp, ho, ha _ _ hx, Instr.box, newVar, newRow]
theorem vw_makeMap {t : TypeId} : VW P σ (.makeMap t none) (.map (some w.heap.size)) w (w.alloc (.map #[] 0)) := by
  refine ⟨fun ρ ha o ho => ?_⟩; simp [execOp, ho, Instr.makeMap]

/-- Cells written over a row from a place on. -/
def splice (cur : Array Value) (o : Nat) (vs : Array Value) : Array Value := (cur.toList.take o ++ vs.toList ++ cur.toList.drop (o + vs.size)).toArray
theorem uw_store {t : TypeId} {b' o' s by' : Nat} {cs : Array Value} {e : TypeId} {v : Value} [TI P t s by'] (hx : ev σ x = some (.pointer (some ⟨b', o', none⟩))) (hy : ev σ y = some v)
    (hm : w.heap[b']? = some (.cells cs e (0, 0))) (hs : v.cells.size = s) (hn : o' + s ≤ cs.size) (h1 : v.cells.toList.all Value.oneCell' = true) : UW P σ (.store t x y) w (w.setRow b' (splice cs o' v.cells)) := by
  refine ⟨fun ρ ha o ho => ?_⟩
  have hst := run_storeCells_at P b' o' e v.cells.toList 0 cs w hm (by simp [hs]; omega) (by rw [List.all_eq_true] at h1; exact h1)
  simp [execOp, ho, ha _ _ hx, ha _ _ hy, Instr.storeAt, Instr.sureAddr, storeVar, run_sizeOf' (t := t), hs]
  rw [hst]
  simp [splice, hs]
theorem uw_store1 {t : TypeId} {b' o' by' : Nat} {cs : Array Value} {e : TypeId} {v : Value} [TI P t 1 by'] (hx : ev σ x = some (.pointer (some ⟨b', o', none⟩))) (hy : ev σ y = some v)
    (hm : w.heap[b']? = some (.cells cs e (0, 0))) (hn : o' < cs.size) (h1 : v.oneCell' = true) : UW P σ (.store t x y) w (w.setRow b' (cs.setIfInBounds o' v)) := by
  have hv : v.cells = #[v] := by cases v <;> simp_all [Value.cells, Value.oneCell']
  have h := uw_store (P := P) (σ := σ) (t := t) hx hy hm (by rw [hv]; rfl) (by omega) (by rw [hv]; simp [h1])
  have e2 : splice cs o' v.cells = cs.setIfInBounds o' v := by
    rw [hv]
    unfold splice
    apply Array.ext'
    simp only [Array.toList_setIfInBounds]
    apply List.ext_getElem?
    intro j
    simp only [List.append_assoc, List.getElem?_append, List.length_take, Array.length_toList, List.getElem?_take, List.getElem?_set, List.getElem?_drop]
    simp
    have hm' : min o' cs.size = o' := by omega
    simp only [hm']
    by_cases h1 : j < o'
    · simp [h1]; intro h; omega
    · by_cases h2 : j = o'
      · subst h2; simp; omega
      · have h3 : ¬ o' = j := by omega
        simp only [h1, if_false, h3]
        rw [show j - o' = (j - o' - 1) + 1 by omega]
        simp
        congr 1; omega
  rwa [e2] at h
end
end Go.Proofs.YthcgmdmdgpljmaaDoor.Z
