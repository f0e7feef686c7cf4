/- Literals of structs and of arrays. -/
import Derived.Test.YthcgmdmdgpljmaaDoorPar
import Derived.Laws.Tables
set_option linter.unusedVariables false
set_option linter.unusedSimpArgs false
namespace Go.Proofs.YthcgmdmdgpljmaaDoor.Z
open Go Go.RowKit

/-- A struct's fields: where each lies, and how many cells it has. -/
class TB (P : Program) (t : TypeId) (pl : outParam (List (Nat × Nat))) : Prop where
  h : (match P.underlying t with | some (.struct fs) => fs.toList.mapM (fun f => (P.info? f.type).map fun i => (f.offset, i.size)) | _ => none) = some pl

def evp (σ : Env) : List (Nat × Operand) → Option (List (Nat × Value))
  | [] => some []
  | (i, x) :: r => match ev σ x with
    | none => none
    | some v => match evp σ r with
      | none => none
      | some vs => some ((i, v) :: vs)
theorem evp_map {σ : Env} {l : List (Nat × Operand)} {vs : List (Nat × Value)} (h : evp σ l = some vs) {ρ : Operand → Value} (ha : Ag ρ σ) : l.map (fun (i, x) => (i, ρ x)) = vs := by
  induction l generalizing vs with
  | nil => simp [evp] at h; simp [← h]
  | cons q r ih =>
    obtain ⟨i, x⟩ := q
    simp only [evp] at h
    cases hx : ev σ x with
    | none => simp [hx] at h
    | some v =>
      rw [hx] at h
      cases hr : evp σ r with
      | none => simp [hr] at h
      | some r' =>
        rw [hr] at h
        simp at h
        simp [← h, ha _ _ hx, ← ih hr]

def oneL : Value → Option Value
  | .agg _ => none
  | v => some v
theorem oneL_eq {v u : Value} (h : oneL v = some u) : u = v ∧ v.cells = #[v] := by
  cases v <;> simp [oneL] at h <;> simp [Value.cells, ← h]
/-- Parts of one cell each, laid into their places. -/
def fillL (place : Nat → Option Nat) : List Value → List (Nat × Value) → Option (List Value)
  | cs, [] => some cs
  | cs, (i, v) :: r => match place i with
    | none => none
    | some o => match oneL v with
      | none => none
      | some u => match setL cs o u with
        | none => none
        | some cs' => fillL place cs' r
theorem fillL_eq {place : Nat → Option Nat} {place' : Nat → Option (Nat × Nat)} (hp : ∀ i o, place i = some o → place' i = some (o, 1)) : ∀ (ps : List (Nat × Value)) (cs cs' : List Value), fillL place cs ps = some cs' → Instr.fill place' cs.toArray ps = some cs'.toArray
  | [], cs, cs', h => by simp [fillL] at h; simp [Instr.fill, h]
  | (i, v) :: r, cs, cs', h => by
    simp only [fillL] at h
    cases h1 : place i with
    | none => simp [h1] at h
    | some o =>
      rw [h1] at h
      cases h2 : oneL v with
      | none => simp [h2] at h
      | some u =>
        rw [h2] at h
        obtain ⟨rfl, hc⟩ := oneL_eq h2
        simp only [] at h
        cases h3 : setL cs o u with
        | none => simp [h3] at h
        | some cs2 =>
          rw [h3] at h
          obtain ⟨h4, rfl⟩ := setL_eq _ _ _ _ h3
          have ih := fillL_eq hp r _ _ h
          simp only [Instr.fill, hp i o h1, hc]
          have e : ¬ (o + 1 > cs.length) := by omega
          simpa [e] using ih

section
variable {P : Program} {σ : Env} {w : World}
theorem r_buildArr {t e : TypeId} {n by' : Nat} {z : Value} {zs : Array Value} {cs : List Value} {parts : Array (Nat × Operand)} {ps : List (Nat × Value)} [TU P t (.array n e)] [TI P e 1 by'] [TZ P t z] (hp : evp σ parts.toList = some ps)
    (hz : vcells z = some zs) (h : fillL (fun i => some i) zs.toList ps = some cs) : V P σ (.build t parts) (.agg cs.toArray) w := by
  refine ⟨fun ρ ha o ho => ?_⟩
  have e1 := evp_map hp ha
  have hb : P.built t (parts.map fun (i, x) => (i, ρ x)).toList = some cs.toArray := by
    have hi := TI.h (P := P) (t := e)
    have hzz := TZ.h (P := P) (t := t)
    unfold Program.built
    rw [TU.h (P := P) (t := t)]
    cases hit : P.info? t with
    | none => simp [hit] at hzz
    | some it =>
      cases hie : P.info? e with
      | none => simp [hie] at hi
      | some ie =>
        simp only [hit, Option.map_some, Option.some.injEq] at hzz
        simp only [hie, Option.map_some, Option.some.injEq, Prod.mk.injEq] at hi
        simp only [hzz, hie, hi.1]
        have := fillL_eq (place := fun i => some i) (place' := fun i => some (i * 1, 1)) (fun i o h => by simp at h; simp [h]) ps zs.toList cs h
        rw [show (parts.map fun (i, x) => (i, ρ x)).toList = ps by simpa using e1, vcells_eq hz]
        simpa using this
  simp [execOp, ho, run_build w t _ _ hb]
theorem r_buildOne {t : TypeId} {pl : List (Nat × Nat)} {z : Value} {zs : Array Value} {cs : List Value} {parts : Array (Nat × Operand)} {ps : List (Nat × Value)} [TB P t pl] [TZ P t z] (hp : evp σ parts.toList = some ps)
    (hz : vcells z = some zs) (h : fillL (fun i => match pl[i]? with | some (o, 1) => some o | _ => none) zs.toList ps = some cs) : V P σ (.build t parts) (.agg cs.toArray) w := by
  refine ⟨fun ρ ha o ho => ?_⟩
  have e1 := evp_map hp ha
  have hb : P.built t (parts.map fun (i, x) => (i, ρ x)).toList = some cs.toArray := by
    have hi := TB.h (P := P) (t := t)
    have hzz := TZ.h (P := P) (t := t)
    unfold Program.built
    cases hit : P.info? t with
    | none => simp [hit] at hzz
    | some it =>
      cases hu : P.underlying t with
      | none => simp [hu] at hi
      | some d =>
        rw [hu] at hi
        cases d <;> simp only [reduceCtorEq] at hi
        simp only [hit, Option.map_some, Option.some.injEq] at hzz
        simp only [hzz, hi]
        have := fillL_eq (place := fun i => match pl[i]? with | some (o, 1) => some o | _ => none) (place' := (pl.toArray[·]?)) (fun i o h => by
          split at h
          · rename_i o' hh; simp at h; subst h; simpa using hh
          · cases h) ps zs.toList cs h
        rw [show (parts.map fun (i, x) => (i, ρ x)).toList = ps by simpa using e1, vcells_eq hz]
        simpa using this
  simp [execOp, ho, run_build w t _ _ hb]
end
end Go.Proofs.YthcgmdmdgpljmaaDoor.Z
