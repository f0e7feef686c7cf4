/- The steps that touch memory, over the list of chunks. -/
import Derived.Test.YthcgmdmdgpljmaaDoorMem
import Derived.OwnWalk
set_option linter.unusedVariables false
set_option linter.unusedSimpArgs false
namespace Go.Proofs.YthcgmdmdgpljmaaDoor.Z
open Go Go.RowKit

def nthL : List Value → Nat → Option Value
  | [], _ => none
  | v :: _, 0 => some v
  | _ :: r, i + 1 => nthL r i
def nth (cs : Array Value) (o : Nat) : Option Value := nthL cs.toList o
theorem nthL_eq : ∀ (l : List Value) (o : Nat), nthL l o = l[o]?
  | [], _ => by simp [nthL]
  | _ :: _, 0 => by simp [nthL]
  | _ :: r, i + 1 => by simp [nthL, nthL_eq r i]
theorem nth_eq (cs : Array Value) (o : Nat) : nth cs o = cs[o]? := by simp [nth, nthL_eq]

def setL : List Value → Nat → Value → Option (List Value)
  | [], _, _ => none
  | _ :: r, 0, v => some (v :: r)
  | a :: r, i + 1, v => match setL r i v with
    | none => none
    | some r' => some (a :: r')
def setA (cs : Array Value) (o : Nat) (v : Value) : Option (Array Value) := match setL cs.toList o v with
  | none => none
  | some l => some l.toArray
theorem setL_eq : ∀ (l : List Value) (o : Nat) (v : Value) (l' : List Value), setL l o v = some l' → o < l.length ∧ l' = l.set o v
  | [], _, _, _, h => by simp [setL] at h
  | _ :: _, 0, _, _, h => by simp [setL] at h; simp [← h]
  | a :: r, i + 1, v, l', h => by
    simp only [setL] at h
    cases hr : setL r i v with
    | none => simp [hr] at h
    | some r' =>
      rw [hr] at h
      obtain ⟨h1, h2⟩ := setL_eq r i v r' hr
      simp at h
      subst h; subst h2
      exact ⟨by simp; omega, by simp⟩
theorem setA_eq {cs : Array Value} {o : Nat} {v : Value} {cs' : Array Value} (h : setA cs o v = some cs') : o < cs.size ∧ cs' = cs.setIfInBounds o v := by
  unfold setA at h
  cases hr : setL cs.toList o v with
  | none => simp [hr] at h
  | some l =>
    rw [hr] at h
    obtain ⟨h1, h2⟩ := setL_eq _ _ _ _ hr
    simp at h
    subst h; subst h2
    exact ⟨by simpa using h1, by apply Array.ext'; simp⟩

def vcells : Value → Option (Array Value)
  | .agg cs => some cs
  | v => some #[v]
theorem vcells_eq {v : Value} {cs : Array Value} (h : vcells v = some cs) : v.cells = cs := by
  cases v <;> simp [vcells] at h <;> simp [Value.cells, h]

section
variable {P : Program} {n : Nat} {ops : Array Oper} {Q : Post} {rest : List Oper} {σ : Env} {w w0 : World} {X : Nat → Prop} {L L' : List Chunk}
variable {d : Nat} {ty : TypeId} {pos : String} {after : Array Edge} {x y : Operand}

theorem ZL.alloc {t : TypeId} {z : Value} {cs : Array Value} [TZ P t z] (hM : Mem w0 X L w) (hz : vcells z = some cs) (hd : Nat.blt d n = true)
    (h : ∀ b w', Mem w0 X (.blk b (.cells cs t) :: L) w' → ZL P n ops Q rest ((d, .pointer (some ⟨b, 0, none⟩)) :: σ) w') : ZL P n ops Q (⟨some d, .alloc t, ty, pos, after, none⟩ :: rest) σ w := by
  refine ZL.vw vw_alloc hd (h _ _ ?_)
  rw [vcells_eq hz]
  exact hM.push (Upd.alloc w _) rfl
theorem ZL.box {t : TypeId} {v : Value} {cs : Array Value} (hM : Mem w0 X L w) (hx : ev σ x = some v) (hz : vcells v = some cs) (hd : Nat.blt d n = true)
    (h : ∀ b w', Mem w0 X (.blk b (.cells cs t) :: L) w' → ZL P n ops Q rest ((d, .pointer (some ⟨b, 0, none⟩)) :: σ) w') : ZL P n ops Q (⟨some d, .box t x, ty, pos, after, none⟩ :: rest) σ w := by
  refine ZL.vw (vw_box hx) hd (h _ _ ?_)
  rw [vcells_eq hz]
  exact hM.push (Upd.alloc w _) rfl
theorem ZL.makeMap {t : TypeId} (hM : Mem w0 X L w) (hd : Nat.blt d n = true)
    (h : ∀ b w', Mem w0 X (.blk b (.map #[] 0) :: L) w' → ZL P n ops Q rest ((d, .map (some b)) :: σ) w') : ZL P n ops Q (⟨some d, .makeMap t none, ty, pos, after, none⟩ :: rest) σ w :=
  ZL.vw vw_makeMap hd (h _ _ (hM.push (Upd.alloc w _) rfl))

theorem r_ld {t : TypeId} {b o : Nat} {cs : Array Value} {e : TypeId} {fz : Nat × Nat} {v : Value} [TS P t] (hM : Mem w0 X L w) (hx : ev σ x = some (.pointer (some ⟨b, o, none⟩))) [i : In L b (.cells cs e fz)] (hv : nth cs o = some v) :
    V P σ (.load t x) v w := r_load1 hx (hM.get i) (by rw [← nth_eq]; exact hv)
theorem r_ldW {t : TypeId} {b s by' : Nat} {cs : Array Value} {e : TypeId} {fz : Nat × Nat} [TA P t] [TI P t s by'] (hM : Mem w0 X L w) (hx : ev σ x = some (.pointer (some ⟨b, 0, none⟩))) [i : In L b (.cells cs e fz)] (hn : cs.size = s) :
    V P σ (.load t x) (.agg cs) w := r_loadW hx (hM.get i) hn

theorem ZL.st {t : TypeId} {b o by' : Nat} {cs cs' : Array Value} {e : TypeId} {v : Value} [TI P t 1 by'] (hM : Mem w0 X L w) (hx : ev σ x = some (.pointer (some ⟨b, o, none⟩))) (hy : ev σ y = some v) [i : Put L b (.cells cs e (0, 0)) (.cells cs' e (0, 0)) L']
    (hs : setA cs o v = some cs') (h1 : v.oneCell' = true) (h : ∀ w', Mem w0 X L' w' → ZL P n ops Q rest σ w') : ZL P n ops Q (⟨none, .store t x y, ty, pos, after, none⟩ :: rest) σ w := by
  obtain ⟨hlt, he⟩ := setA_eq hs
  refine ZL.unit (uw_store1 hx hy (hM.putGet i) hlt h1) (h _ ?_)
  rw [← he]
  exact hM.upd i (Upd.setRow (hM.putGet i))
/-- A whole variable is written. -/
theorem ZL.stW {t : TypeId} {b s by' : Nat} {cs cs' : Array Value} {e : TypeId} {v : Value} [TI P t s by'] (hM : Mem w0 X L w) (hx : ev σ x = some (.pointer (some ⟨b, 0, none⟩))) (hy : ev σ y = some v) (hz : vcells v = some cs') [i : Put L b (.cells cs e (0, 0)) (.cells cs' e (0, 0)) L']
    (hs : cs.size = s) (hs' : cs'.size = s) (h1 : cs'.toList.all Value.oneCell' = true) (h : ∀ w', Mem w0 X L' w' → ZL P n ops Q rest σ w') : ZL P n ops Q (⟨none, .store t x y, ty, pos, after, none⟩ :: rest) σ w := by
  have hz' := vcells_eq hz
  refine ZL.unit (uw_store hx hy (hM.putGet i) (by rw [hz']; exact hs') (by omega) (by rw [hz']; exact h1)) (h _ ?_)
  have e2 : splice cs 0 v.cells = cs' := by
    rw [hz']; unfold splice; apply Array.ext'
    simp; omega
  rw [e2]
  exact hM.upd i (Upd.setRow (hM.putGet i))
end
end Go.Proofs.YthcgmdmdgpljmaaDoor.Z
