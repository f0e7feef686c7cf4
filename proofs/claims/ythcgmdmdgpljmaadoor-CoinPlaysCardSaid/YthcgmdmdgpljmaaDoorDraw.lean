/- A region that draws its order: what looks at memory that stays may be taken first; what turns memory comes up alone, or each way is walked. -/
import Derived.Test.YthcgmdmdgpljmaaDoorSlice
import Derived.StillTail
set_option linter.unusedVariables false
set_option linter.unusedSimpArgs false
namespace Go.Proofs.YthcgmdmdgpljmaaDoor.Z
open Go Go.RowKit

class FO (P : Program) : Prop where
  h : P.follows .mixedOrders = true

/-- These blocks hold these objects. -/
def Holds : List (Nat × Obj) → World → Prop
  | [], _ => True
  | (b, o) :: r, w => w.heap[b]? = some o ∧ Holds r w
class InH (H : List (Nat × Obj)) (b : Nat) (o : outParam Obj) : Prop where
  h : (b, o) ∈ H
instance (priority := 1100) InH.head {H : List (Nat × Obj)} {b : Nat} {o : Obj} : InH ((b, o) :: H) b o := ⟨by simp⟩
instance (priority := 900) InH.tail {H : List (Nat × Obj)} {b : Nat} {o : Obj} {q : Nat × Obj} [i : InH H b o] : InH (q :: H) b o := ⟨List.mem_cons_of_mem _ i.h⟩
theorem Holds.mem {H : List (Nat × Obj)} {w : World} (h : Holds H w) {b : Nat} {o : Obj} (hm : (b, o) ∈ H) : w.heap[b]? = some o := by
  induction H with
  | nil => cases hm
  | cons q r ih =>
    obtain ⟨c, u⟩ := q
    rcases List.mem_cons.1 hm with e | hm
    · cases e; exact h.1
    · exact ih h.2 hm
theorem Holds.get {H : List (Nat × Obj)} {w : World} (h : Holds H w) {b : Nat} {o : Obj} (i : InH H b o) : w.heap[b]? = some o := h.mem i.h

theorem r_ldS {P : Program} {σ : Env} {w : World} {H : List (Nat × Obj)} {x : Operand} {t b o : Nat} {cs : Array Value} {e : TypeId} {fz : Nat × Nat} {v : Value} [TS P t] (hS : Holds H w) (hx : ev σ x = some (.pointer (some ⟨b, o, none⟩))) [i : InH H b (.cells cs e fz)] (hv : nth cs o = some v) :
    V P σ (.load t x) v w := r_load1 hx (hS.get i) (by rw [← nth_eq]; exact hv)
theorem r_ldSW {P : Program} {σ : Env} {w : World} {H : List (Nat × Obj)} {x : Operand} {t b s by' : Nat} {cs : Array Value} {e : TypeId} {fz : Nat × Nat} [TA P t] [TI P t s by'] (hS : Holds H w) (hx : ev σ x = some (.pointer (some ⟨b, 0, none⟩))) [i : InH H b (.cells cs e fz)] (hn : cs.size = s) :
    V P σ (.load t x) (.agg cs) w := r_loadW hx (hS.get i) hn

structure ZA (P : Program) (n : Nat) (ops : Array Oper) (Q : Post) (S : World → Prop) (fuel : Nat) (listed : Array Bool) (σ : Env) (w : World) : Prop where
  h : ∀ a, FR n σ a → wpAnyH P .any ops Q S fuel listed a w

section
variable {P : Program} {n : Nat} {ops : Array Oper} {Q : Post} {S : World → Prop} {fuel : Nat} {listed listed' : Array Bool} {σ : Env} {w : World}

theorem ZC.draw {id : Nat} {l : List Oper} [FO P] (S : World → Prop) {m : Nat} {ls : Array Bool} (hm : l.length = m) (hls : Array.replicate m false = ls)
    (h : ∀ w', Ext w w' → w'.heap = w.heap → ZA P n l.toArray Q S m ls σ w') : ZC P n Q (.region id l.toArray true) σ w := by
  subst hm; subst hls
  exact ⟨fun a ha => wp_region_held (S := S) FO.h (by
    have := (h { w with drawn := w.drawn + 1 } (drew_ext w _) rfl).h a ha
    simpa using this)⟩

theorem ZA.take (i : Nat) {d : Nat} {op : Op} {ty : TypeId} {pos : String} {after : Array Edge} {v : Value}
    (hi : ops[i]? = some ⟨some d, op, ty, pos, after, none⟩) (hy : ∀ w', S w' → V P σ op v w') (hs : Region.noSelect ops = true) (hf : Region.free .any ops listed i = true)
    (hr : (Region.ready .any ops listed).contains i = true) (hl : listed.setIfInBounds i true = listed') (hd : Nat.blt d n = true) (hQ : ∀ c a a' w, Q (.panic c) a w → Q (.panic c) a' w) (hS : S w)
    (h : ZA P n ops Q S fuel listed' ((d, v) :: σ) w) : ZA P n ops Q S (fuel + 1) listed σ w := by
  subst hl
  refine ⟨fun a ha => wpAnyH_take hi hs hf hr (fun c a w hq => hQ c _ _ w hq) (.inl ⟨by simp [Region.wanted], fun w' hw' => (hy w' hw').h a.eval ha.ag _ rfl⟩) hS (h.h _ (ha.put hd))⟩

theorem ZA.one (i : Nat) {o : Oper} (hr : Region.ready .any ops listed = [i]) (hi : ops[i]? = some o) (hl : listed.setIfInBounds i true = listed')
    (h : ZL P n ops (Exit.then (fun a w => S w ∧ wpAnyH P .any ops Q S fuel listed' a w) Q) [o] σ w) : ZA P n ops Q S (fuel + 1) listed σ w := by
  subst hl
  refine ⟨fun a ha => wpAnyH_all hr (by simp) fun j hj => ?_⟩
  simp only [List.mem_singleton] at hj
  subst hj
  have h1 := h.h a ha
  unfold wpOp
  simp only [hi]
  simpa [wpList, Exit.then, LetsOut, Oper.wp, Oper.upon] using h1
theorem ZA.two (i j : Nat) {o o' : Oper} {l1 l2 : Array Bool} (hr : Region.ready .any ops listed = [i, j]) (hi : ops[i]? = some o) (hj : ops[j]? = some o') (hl : listed.setIfInBounds i true = l1) (hl' : listed.setIfInBounds j true = l2)
    (h : ZL P n ops (Exit.then (fun a w => S w ∧ wpAnyH P .any ops Q S fuel l1 a w) Q) [o] σ w)
    (h' : ZL P n ops (Exit.then (fun a w => S w ∧ wpAnyH P .any ops Q S fuel l2 a w) Q) [o'] σ w) : ZA P n ops Q S (fuel + 1) listed σ w := by
  subst hl; subst hl'
  refine ⟨fun a ha => wpAnyH_all hr (by simp) fun k hk => ?_⟩
  simp only [List.mem_cons, List.not_mem_nil, or_false] at hk
  unfold wpOp
  rcases hk with rfl | rfl
  · have h1 := h.h a ha
    simp only [hi]
    simpa [wpList, Exit.then, LetsOut, Oper.wp, Oper.upon] using h1
  · have h1 := h'.h a ha
    simp only [hj]
    simpa [wpList, Exit.then, LetsOut, Oper.wp, Oper.upon] using h1
theorem ZP.any (hS : S w) (h : ZA P n ops Q S fuel listed σ w) : ZP n (Exit.then (fun a w => S w ∧ wpAnyH P .any ops Q S fuel listed a w) Q) .normal σ w := ⟨fun a ha => ⟨hS, h.h a ha⟩⟩
theorem ZA.done (hr : Region.ready .any ops listed = []) (h : ZP n Q .normal σ w) : ZA P n ops Q S fuel listed σ w := ⟨fun a ha => wpAnyH_done hr (h.h a ha) fuel⟩
end
/-! ### A region that draws, in which all that is drawn leaves the world alone: in the order of the text -/
structure ZS (P : Program) (n : Nat) (ops : Array Oper) (K : Act → Prop) (l : List Oper) (σ : Env) (w : World) : Prop where
  h : ∀ a, FR n σ a → wpStill P ops w K l a
section
variable {P : Program} {n : Nat} {ops : Array Oper} {Q : Post} {K : Act → Prop} {rest : List Oper} {σ : Env} {w : World}
theorem ZS.val {d : Nat} {op : Op} {ty : TypeId} {pos : String} {after : Array Edge} {v : Value} (hv : V P σ op v w) (hd : Nat.blt d n = true)
    (h : ZS P n ops K rest ((d, v) :: σ) w) : ZS P n ops K (⟨some d, op, ty, pos, after, none⟩ :: rest) σ w := by
  refine ⟨fun a ha => ?_⟩
  have h1 := h.h _ (ha.put hd)
  refine wpStill_step (fun K hK => ?_)
  simp only [Region.wanted, if_true]
  unfold Oper.still
  rw [hv.h a.eval ha.ag _ rfl, Oper.stillUpon_value]
  exact hK _ h1
theorem ZS.call {d : Nat} {op : Op} {ty : TypeId} {pos : String} {after : Array Edge} {f : FuncId} {args : Array Value} {v : Value}
    (hv : EN P σ op f args w) (hd : Nat.blt d n = true) (hc : Ret P f args w (fun r w' => w = w' ∧ r = v))
    (h : ZS P n ops K rest ((d, v) :: σ) w) : ZS P n ops K (⟨some d, op, ty, pos, after, none⟩ :: rest) σ w := by
  refine ⟨fun a ha => ?_⟩
  have h1 := h.h _ (ha.put hd)
  refine wpStill_step (fun K hK => ?_)
  simp only [Region.wanted, if_true]
  unfold Oper.still
  rw [hv.h a.eval ha.ag _ rfl]
  refine ⟨rfl, v, Calls.mono hc.h ?_, hK _ h1⟩
  rintro e w' ⟨v', rfl, rfl, rfl⟩
  exact ⟨rfl, rfl⟩
theorem ZS.nil (h : ZP n Q .normal σ w) : ZS P n ops (fun a => Q .normal a w) [] σ w := ⟨fun a ha => h.h a ha⟩
theorem ZS.tail {l : List Oper} (h : ZL P n ops Q l σ w) : ZS P n ops (fun a => wpList P ops Q l a w) [] σ w := ⟨fun a ha => h.h a ha⟩
theorem ZC.still {id : Nat} {l : List Oper} [FO P] (hB : Region.lexB .any l.toArray = true)
    (h : ∀ w', Ext w w' → w'.heap = w.heap → ZS P n l.toArray (fun a => Q .normal a w') l σ w') : ZC P n Q (.region id l.toArray true) σ w :=
  ⟨fun a ha => wp_region_still_lit FO.h hB ((h { w with drawn := w.drawn + 1 } (drew_ext w _) rfl).h a ha)⟩
theorem ZC.tail {id : Nat} {l l1 l2 : List Oper} [FO P] (k : Nat) (hB : Region.lexTailB .any l.toArray k = true) (h1 : l.take k = l1) (h2 : l.drop k = l2)
    (h : ∀ w', Ext w w' → w'.heap = w.heap → ZS P n l.toArray (fun a => wpList P l.toArray Q l2 a w') l1 σ w') : ZC P n Q (.region id l.toArray true) σ w := by
  subst h1; subst h2
  exact ⟨fun a ha => wp_region_still_tail k FO.h hB ((h { w with drawn := w.drawn + 1 } (drew_ext w _) rfl).h a ha)⟩
end
section
variable {P : Program} {σ : Env} {w : World} {x y : Operand} {k : IntKind}
theorem r_idxS {t e : TypeId} {s by' b' o' n c : Nat} (i : Nat) {j : Int} [TU P t (.slice e)] [TI P e s by'] (hx : ev σ x = some (.slice (some ⟨b', o', none⟩) n c)) (hy : ev σ y = some (.int k j)) (hj : j = i) (hi : i < n) :
    V P σ (.indexAddr t x y) (.pointer (some ⟨b', o' + i * s, none⟩)) w := by
  subst hj; exact r_indexAddrSlice hx hy hi
theorem r_idxA {t e : TypeId} {s by' b' o' n : Nat} (i : Nat) {j : Int} [TU P t (.array n e)] [TI P e s by'] (hx : ev σ x = some (.pointer (some ⟨b', o', none⟩))) (hy : ev σ y = some (.int k j)) (hj : j = i) (hi : i < n) :
    V P σ (.indexAddr t x y) (.pointer (some ⟨b', o' + i * s, none⟩)) w := by
  subst hj; exact r_indexAddrArray hx hy hi
end
end Go.Proofs.YthcgmdmdgpljmaaDoor.Z
