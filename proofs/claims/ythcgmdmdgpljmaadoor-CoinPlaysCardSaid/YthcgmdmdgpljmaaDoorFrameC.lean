/- What a card asks of a walk: the frame of every law of this seat. -/
import Derived.Test.YthcgmdmdgpljmaaDoorRows
import Derived.Test.YthcgmdmdgpljmaaDoorAwake
import Derived.WalkKit
import Derived.ProofKit
import Derived.OpenShut
import Derived.Deep.DeepHandedRow
import Derived.Lib.LaidTab
set_option linter.unusedVariables false
set_option linter.unusedSimpArgs false
set_option linter.unusedSectionVars false
set_option maxRecDepth 100000
namespace Go.Proofs.YthcgmdmdgpljmaaDoor.Z
open Go Go.RowKit Go.ChangeShapes Go.WideShapes Go.ChangeAt

theorem own : ownKnob Tryd.prog.godebug = none := by kernel_rfl
theorem keptBut_of_ext {w w' : World} (h : Ext w w') (may : MemPlace → Prop) : w.keptBut w' may := by
  refine ⟨h.os, h.output, fun i hi => ?_⟩
  rw [h.keep i hi id]
  cases w.heap[i]? with
  | none => rfl
  | some o => cases o <;> first | exact ⟨rfl, rfl, rfl, fun _ _ => rfl⟩ | exact .inr ⟨rfl, rfl⟩ | rfl
theorem postE {H : Type} {enc : TypeId × Value → H} {P : Program} {f : Func} {s : ChangeSpec} {apart fresh handsOn : Bool} {W W' : World} {args : Array Value} {v : Value} {ds gs : List (DataW H)} {before pa pv : List MemPlace}
    (hW : DataW.Whole enc P f.params.toList s.vars apart W args.toList ds gs before)
    (hres : ∀ (b : Nat) (sp : Nat → Bool) (hd : Bool), DataW.TrodAll enc P W' b sp hd f.resultTypes.toList (v.resultList f.resultTypes.size) (s.fn H (ds ++ gs)).results [])
    (hargs : ∀ sp : Nat → Bool, (∀ p ∈ before, sp p.block = true) → DataW.TrodAll enc P W' 0 sp true f.params.toList args.toList (s.fn H (ds ++ gs)).args pa)
    (hvars : ∀ sp : Nat → Bool, (∀ p ∈ before, sp p.block = true) → DataW.TrodVars enc P W' sp s.vars (s.fn H (ds ++ gs)).vars pv)
    (hps : before = pa ++ pv) (hE : Ext W W') : s.post enc P f apart fresh handsOn false W args v W' := by
  have hold : ∀ p ∈ before, (fun b => decide (b < W.heap.size)) p.block = true := fun p hp => by simpa using hW.lt p hp
  exact ⟨ds, gs, before, [], pa, pv, hW, hres _ _ _, hargs _ hold, hvars _ hold, keptBut_of_ext hE _, fun h => by cases h⟩

def laidC : List Int := cubes.map fun x => (x.toNat : Int)
def laidS : List Int := squares.map fun x => (x.toNat : Int)
def laid2 {H : Type} : List (String × DataW H) := [("lighterage/shas.cubes", Rows.laid_lighterage_shas_cubes), ("lighterage/shas.squares", Rows.laid_lighterage_shas_squares)]
theorem laid_c {H : Type} : (Rows.laid_lighterage_shas_cubes : DataW H) = Lib.tabData .u32 laidC := rfl
theorem laid_s {H : Type} : (Rows.laid_lighterage_shas_squares : DataW H) = Lib.tabData .u32 laidS := rfl
theorem cells_c : (laidC.map fun z => Value.int .u32 z).toArray = wcells 64 kc := by kernel_rfl
theorem cells_s : (laidS.map fun z => Value.int .u32 z).toArray = wcells 8 sq := by kernel_rfl
theorem u93 : Tryd.prog.underlying 93 = some (.array 64 26) := by kernel_rfl
theorem u95 : Tryd.prog.underlying 95 = some (.array 8 26) := by kernel_rfl
theorem u26 : Tryd.prog.underlying 26 = some (.int .u32) := by kernel_rfl
theorem c26 : Tryd.prog.cellsOf 26 = 1 := by kernel_rfl
theorem c93 : Tryd.prog.cellsOf 93 = 64 := by kernel_rfl
theorem c95 : Tryd.prog.cellsOf 95 = 8 := by kernel_rfl
theorem gC : Tryd.prog.globalNamed "lighterage/shas.cubes" = some 2 := by kernel_rfl
theorem gS : Tryd.prog.globalNamed "lighterage/shas.squares" = some 1 := by kernel_rfl
theorem tC : (Tryd.prog.globals[2]?).map (·.type) = some 93 := by kernel_rfl
theorem tS : (Tryd.prog.globals[1]?).map (·.type) = some 95 := by kernel_rfl

theorem var_heap {P : Program} {W : World} {name : String} {g : Nat} {cs : Array Value} (hg : P.globalNamed name = some g) (h : W.var? P name = some cs) : ∃ e fz, W.heap[g]? = some (.cells cs e fz) := by
  simp only [World.var?, hg, Option.bind_some] at h
  split at h
  · rename_i c e fz hh
    simp only [Option.some.injEq] at h
    subst h
    exact ⟨e, fz, hh⟩
  · cases h
theorem gw_of_laid {W : World} (h : laidMetH Tryd.prog laid2 W) : GW W := by
  have h' : laidMet Tryd.prog laid2 W := h
  obtain ⟨ps, ⟨g1, t1, cs1, fuel1, p1, q1, hg1, ht1, hv1, hd1, ⟨g2, t2, cs2, fuel2, p2, q2, hg2, ht2, hv2, hd2, _, _⟩, _⟩, _⟩ := h'
  obtain rfl := Option.some.inj (tC.symm.trans (by rw [← Option.some.inj (hg1.symm.trans gC)]; exact ht1))
  obtain rfl := Option.some.inj (tS.symm.trans (by rw [← Option.some.inj (hg2.symm.trans gS)]; exact ht2))
  rw [laid_c] at hd1
  rw [laid_s] at hd2
  have e1 := Lib.cells_of_tab u93 u26 c26 c93 hd1
  have e2 := Lib.cells_of_tab u95 u26 c26 c95 hd2
  have f1 : cs1 = wcells 64 kc := by rw [← cells_c, ← e1]
  have f2 : cs2 = wcells 8 sq := by rw [← cells_s, ← e2]
  subst f1 f2
  exact ⟨var_heap gC hv1, var_heap gS hv2⟩

def putCs (cs : Array Value) : Obj → Obj
  | .cells _ t frozen => .cells cs t frozen
  | o => o
/-- A world for the witness: the settled one, both tables holding what their initialisers lay. -/
noncomputable def laidWorld (os : Os) : World :=
  let w := World.holding Tryd.prog os ⟨#[], #[], []⟩
  { w with heap := (w.heap.modify 2 (putCs (wcells 64 kc))).modify 1 (putCs (wcells 8 sq)) }
theorem u4 : Tryd.prog.underlying 4 = some .bool := by kernel_rfl
theorem u3 : Tryd.prog.underlying 3 = some (.int .i64) := by kernel_rfl
end Go.Proofs.YthcgmdmdgpljmaaDoor.Z
