/- Arrays of bytes, and structs, held against each other; maps with such keys. -/
import Derived.Test.YthcgmdmdgpljmaaDoorDraw
import Derived.Test.YthcgmdmdgpljmaaDoorBytes
set_option linter.unusedVariables false
set_option linter.unusedSimpArgs false
set_option maxRecDepth 100000
set_option maxHeartbeats 4000000
namespace Go.Proofs.YthcgmdmdgpljmaaDoor.Z
open Go Go.RowKit

/-- 32 bytes. -/
abbrev B32 := { l : List UInt8 // l.length = 32 }
def B32.cells (x : B32) : List Value := x.val.map u8
def B32.v (x : B32) : Value := .agg x.cells.toArray
theorem B32.length (x : B32) : x.cells.length = 32 := by simp [B32.cells, x.property]

theorem u8_inj {a b : UInt8} (h : u8 a = u8 b) : a = b := by
  simp only [u8, Value.int.injEq, true_and] at h
  exact UInt8.toNat_inj.1 (by omega)

/-- A loop over a range of numbers that stops at the first that says no. -/
theorem run_forIn_all {P : Program} {w : World} (f : Nat → Sem Bool) (g : Nat → Bool) : ∀ (l : List Nat), (∀ i ∈ l, (f i).run P w = .ok (g i) w) →
    (forIn (m := Sem) l (none, PUnit.unit) (fun i (_ : Option Bool × PUnit) => do
      if (!(← f i)) = true then pure (ForInStep.done (some false, PUnit.unit)) else pure (ForInStep.yield (none, PUnit.unit)))).run P w = .ok ((if l.all g then none else some false), PUnit.unit) w
  | [], _ => by simp
  | i :: r, h => by
    have h1 := h i (by simp)
    have ih := run_forIn_all f g r (fun j hj => h j (by simp [hj]))
    simp only [List.forIn_cons, Sem.run_bind, h1, Result.andThen_ok]
    cases hg : g i
    · simp [hg]
    · simp only [hg, Bool.not_true, Bool.false_eq_true, if_false, Sem.run_pure, Result.andThen_ok, ih, List.all_cons, Bool.true_and]

theorem run_part1 {P : Program} {w : World} {t o : Nat} {cs : Array Value} {v : Value} [TS P t] (h : cs[o]? = some v) : (part t cs o).run P w = .ok v w := by
  simp [part, TS.h, h]
theorem run_partN {P : Program} {w : World} {t o s b : Nat} {cs vs : Array Value} [TA P t] [TI P t s b] (h : cs.extract o (o + s) = vs) : (part t cs o).run P w = .ok (.agg vs) w := by
  simp [part, TA.h, run_sizeOf' (t := t), h]

section
variable {P : Program} {w : World}

theorem run_equal_arr {t e n : Nat} {k : IntKind} {b : Nat} [TU P t (.array n e)] [TU P e (.int k)] [TI P e 1 b] [TS P e] (xs ys : List Int) (hx : xs.length = n) (hy : ys.length = n) (d : Nat) :
    (Op.equalIn (d + 1 + 1) t (.agg (xs.map (Value.int k)).toArray) (.agg (ys.map (Value.int k)).toArray)).run P w = .ok (decide (xs = ys)) w := by
  have hcell : ∀ (zs : List Int), zs.length = n → ∀ i, i < n → ((zs.map (Value.int k)).toArray)[i * 1]? = some (.int k (zs.getD i 0)) := by
    intro zs hz i hi
    simp [List.getD, hz, hi]
  have step : ∀ i ∈ List.range' 0 n 1, ((do
      let a ← part e (xs.map (Value.int k)).toArray (i * 1)
      let b ← part e (ys.map (Value.int k)).toArray (i * 1)
      Op.equalIn (d + 1) e a b : Sem Bool)).run P w = .ok (xs.getD i 0 == ys.getD i 0) w := by
    intro i hi
    have hi' : i < n := by simp at hi; omega
    simp only [Sem.run_bind, run_part1 (t := e) (hcell xs hx i hi'), run_part1 (t := e) (hcell ys hy i hi'), Result.andThen_ok]
    simp [Op.equalIn, run_under' (t := e)]
  have hall := run_forIn_all _ _ _ step
  rw [Op.equalIn]
  simp only [Sem.run_bind, run_under' (t := t), Result.andThen_ok, run_sizeOf' (t := e)]
  simp only [Std.Legacy.Range.forIn_eq_forIn_range', Std.Legacy.Range.size, Nat.sub_zero, Nat.add_sub_cancel, Nat.div_one]
  simp only [bind_assoc] at hall
  rw [hall]
  have hiff : ((List.range' 0 n).all fun i => xs.getD i 0 == ys.getD i 0) = decide (xs = ys) := by
    rw [Bool.eq_iff_iff, List.all_eq_true, decide_eq_true_eq]
    constructor
    · intro h
      apply List.ext_getElem (by omega)
      intro i h1 h2
      have := h i (by simp; omega)
      simpa [List.getD, h1, h2] using this
    · rintro rfl i _; simp
  rw [hiff]
  by_cases h : xs = ys <;> simp [h]

theorem B32.ints (x : B32) : x.cells = (x.val.map fun b => (b.toNat : Int)).map (Value.int .u8) := by simp [B32.cells, u8, Function.comp_def]
theorem map_toNat_inj {x y : List UInt8} : (x.map fun b => (b.toNat : Int)) = (y.map fun b => (b.toNat : Int)) ↔ x = y := by
  constructor
  · intro h
    refine (List.map_inj_right (f := fun b : UInt8 => (b.toNat : Int)) ?_).1 h
    intro a b hab
    exact UInt8.toNat_inj.1 (by omega)
  · rintro rfl; rfl
theorem run_equal_b32 {t e : Nat} {b : Nat} [TU P t (.array 32 e)] [TU P e (.int .u8)] [TI P e 1 b] [TS P e] (x y : B32) (d : Nat) :
    (Op.equalIn (d + 1 + 1) t x.v y.v).run P w = .ok (decide (x = y)) w := by
  have h := run_equal_arr (P := P) (w := w) (t := t) (e := e) (k := .u8) (n := 32) (x.val.map fun b => (b.toNat : Int)) (y.val.map fun b => (b.toNat : Int)) (by simp [x.property]) (by simp [y.property]) d
  rw [← B32.ints, ← B32.ints] at h
  rw [B32.v, B32.v, h]
  congr 1
  exact decide_eq_decide.2 (map_toNat_inj.trans ⟨fun h => Subtype.ext h, fun h => h ▸ rfl⟩)
end

/-! ### Points -/
structure Pt where
  id : B32
  vout : UInt32
  deriving DecidableEq
def u32 (x : UInt32) : Value := .int .u32 x.toNat
def u64 (x : UInt64) : Value := .int .u64 x.toNat
def Pt.cells (p : Pt) : List Value := p.id.cells ++ [u32 p.vout]
def Pt.v (p : Pt) : Value := .agg p.cells.toArray
theorem Pt.length (p : Pt) : p.cells.length = 33 := by simp [Pt.cells, B32.length]
theorem Pt.id_extract (p : Pt) : p.cells.toArray.extract 0 (0 + 32) = p.id.cells.toArray := by
  simp [Pt.cells, ← p.id.length]
theorem Pt.vout_at (p : Pt) : p.cells.toArray[32]? = some (u32 p.vout) := by
  simp [Pt.cells]; rw [List.getElem?_append_right (by simp [B32.length])]; simp [B32.length]

theorem u32_eq (a b : UInt32) : decide (a = b) = ((a.toNat : Int) == (b.toNat : Int)) := by
  rw [Bool.eq_iff_iff]; simp
  constructor
  · intro h; rw [h]
  · intro h; exact UInt32.toNat_inj.1 (by omega)

/-- The type of points. -/
class PtT (P : Program) (t : TypeId) (ti tv te : outParam TypeId) : Prop where
  hf : P.underlying t = some (.struct (P.fieldsOf t))
  hs : P.stoodInHeld t = false
  hl : (P.fieldsOf t).toList = [⟨ "ID", ti, 0, false, "", "", 0⟩, ⟨ "Vout", tv, 32, false, "", "", 32⟩]
  a1 : TU P ti (.array 32 te)
  a2 : TU P te (.int .u8)
  a3 : TI P te 1 1
  a4 : TS P te
  a5 : TA P ti
  a6 : TI P ti 32 32
  a7 : TU P tv (.int .u32)
  a8 : TS P tv
  a9 : P.eqGuardType P.depth t = false

theorem run_equal_pt {P : Program} {t ti tv te : TypeId} [pt : PtT P t ti tv te] {w : World} (p q : Pt) (d : Nat) : (Op.equalIn (d + 1 + 1 + 1) t p.v q.v).run P w = .ok (decide (p = q)) w := by
  have := pt.a1; have := pt.a2; have := pt.a3; have := pt.a4; have := pt.a5; have := pt.a6; have := pt.a7; have := pt.a8
  have e1 := run_partN (P := P) (w := w) (t := ti) p.id_extract
  have e2 := run_partN (P := P) (w := w) (t := ti) q.id_extract
  have e3 := run_part1 (P := P) (w := w) (t := tv) p.vout_at
  have e4 := run_part1 (P := P) (w := w) (t := tv) q.vout_at
  have e5 : (Op.equalIn (d + 1 + 1) ti (.agg p.id.cells.toArray) (.agg q.id.cells.toArray)).run P w = .ok (decide (p.id = q.id)) w := run_equal_b32 (P := P) (w := w) (t := ti) p.id q.id d
  have e6 : (Op.equalIn (d + 1 + 1) tv (u32 p.vout) (u32 q.vout)).run P w = .ok (decide (p.vout = q.vout)) w := by
    rw [show decide (p.vout = q.vout) = ((p.vout.toNat : Int) == (q.vout.toNat : Int)) from u32_eq _ _]
    exact run_equalIn_int w (d + 1) _ _ _ _ _ (TU.h (P := P) (t := tv))
  have hne : "Vout" ≠ "_" := by decide
  have hne' : "ID" ≠ "_" := by decide
  unfold Pt.v
  rw [run_equalIn_struct w (d + 1 + 1) _ _ _ pt.hf pt.hs, pt.hl]
  simp only [Op.eqFields, if_pos hne, if_pos hne', Sem.run_bind, Sem.run_ite, e1, e2, e3, e4, e5, e6, Result.andThen_ok, Sem.run_pure]
  obtain ⟨a, b⟩ := p
  obtain ⟨a', b'⟩ := q
  rw [show decide ((⟨a, b⟩ : Pt) = ⟨a', b'⟩) = (decide (a = a') && decide (b = b')) by rw [Bool.eq_iff_iff]; simp]
  simp only
  cases decide (a = a')
  · simp
  · cases decide (b = b') <;> simp

instance : FO P := ⟨by kernel_rfl⟩
instance : PtT P 41 39 26 5 :=
  ⟨by kernel_rfl, by kernel_rfl, by kernel_rfl, inferInstance, inferInstance, inferInstance, inferInstance, inferInstance, inferInstance, inferInstance, inferInstance, by kernel_rfl⟩
end Go.Proofs.YthcgmdmdgpljmaaDoor.Z
