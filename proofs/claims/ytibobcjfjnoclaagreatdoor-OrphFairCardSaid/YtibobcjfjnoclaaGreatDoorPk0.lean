/- Parts of one proof, laid one behind the other: Z, Run, Mem, Step, Slice, Draw, Par, Build, Inst. -/
import Derived.WalkKit
import Derived.OrdersHeld
import Derived.KernelRfl
import Derived.OwnWalk
import Derived.StillTail
import Derived.Laws.Tables
import Derived.Test.YtibobcjfjnoclaaGreatDoorProg
section
/- The stepping calculus: one lemma for each operation of the model, over an environment that is a list of slots and values. -/
set_option linter.unusedVariables false
namespace Go.Proofs.YtibobcjfjnoclaaGreatDoor.Z
open Go

/-! ### Environments -/
abbrev Env := List (Nat × Value)

def lk : Env → Nat → Option Value
  | [], _ => none
  | (j, v) :: r, i => match Nat.beq i j with
    | true => some v
    | false => lk r i

def ev (σ : Env) : Operand → Option Value
  | .tmp t => lk σ t
  | .const v => some v
  | .global g => some (.pointer (some ⟨g, 0, none⟩))
  | .func f => some (.func (.func f) #[] #[])

def evs (σ : Env) : List Operand → Option (List Value)
  | [] => some []
  | x :: r => match ev σ x with
    | none => none
    | some v => match evs σ r with
      | none => none
      | some vs => some (v :: vs)

/-- The frame bears what the environment says. -/
structure FR (n : Nat) (σ : Env) (a : Act) : Prop where
  size : a.tmps.size = n
  defers : a.defers = []
  at' : ∀ i v, lk σ i = some v → a.tmps[i]? = some v

def Ag (ρ : Operand → Value) (σ : Env) : Prop := ∀ x v, ev σ x = some v → ρ x = v

theorem FR.ag {n : Nat} {σ : Env} {a : Act} (h : FR n σ a) : Ag a.eval σ := by
  intro x v hx
  cases x with
  | tmp t => simp only [ev] at hx; have := h.at' t v hx; simp [Act.eval, this]
  | const c => simp only [ev, Option.some.injEq] at hx; simp [Act.eval, hx]
  | global g => simp only [ev, Option.some.injEq] at hx; simp [Act.eval, hx]
  | func f => simp only [ev, Option.some.injEq] at hx; simp [Act.eval, hx]

theorem FR.put {n d : Nat} {σ : Env} {a : Act} {v : Value} (h : FR n σ a) (hd : Nat.blt d n = true) : FR n ((d, v) :: σ) (a.put (some d) v) := by
  have hd' : d < n := by simpa [Nat.blt_eq] using hd
  refine ⟨by simp [Act.put, h.size], by simp [Act.put, h.defers], ?_⟩
  intro i u hi
  simp only [lk] at hi
  cases hb : Nat.beq i d with
  | true =>
    have : i = d := Nat.eq_of_beq_eq_true hb
    subst this
    rw [hb] at hi; simp at hi; subst hi
    simp [Act.put, h.size, hd']
  | false =>
    rw [hb] at hi
    have hne : d ≠ i := fun e => by subst e; simp at hb
    simp only [Act.put]
    rw [Array.getElem?_setIfInBounds_ne hne]
    exact h.at' i u hi

/-- Sub σ' σ: all that σ' says σ says. -/
def Sub : Env → Env → Prop
  | [], _ => True
  | (i, v) :: r, σ => lk σ i = some v ∧ Sub r σ

theorem Sub.lk {σ' σ : Env} (h : Sub σ' σ) : ∀ i v, lk σ' i = some v → lk σ i = some v := by
  induction σ' with
  | nil => intro i v hi; simp [Z.lk] at hi
  | cons p r ih =>
    obtain ⟨j, u⟩ := p
    intro i v hi
    simp only [Z.lk] at hi
    cases hb : Nat.beq i j with
    | true => rw [hb] at hi; simp at hi; subst hi; have : i = j := Nat.eq_of_beq_eq_true hb; subst this; exact h.1
    | false => rw [hb] at hi; exact ih h.2 i v hi

theorem FR.sub {n : Nat} {σ σ' : Env} {a : Act} (h : FR n σ a) (hs : Sub σ' σ) : FR n σ' a :=
  ⟨h.size, h.defers, fun i v hi => h.at' i v (hs.lk i v hi)⟩

/-! ### Judgements -/
abbrev Post := Exit → Act → World → Prop

structure ZL (P : Program) (n : Nat) (ops : Array Oper) (Q : Post) (l : List Oper) (σ : Env) (w : World) : Prop where
  h : ∀ a, FR n σ a → wpList P ops Q l a w
structure ZC (P : Program) (n : Nat) (Q : Post) (c : Code) (σ : Env) (w : World) : Prop where
  h : ∀ a, FR n σ a → c.wp P Q a w
structure ZP (n : Nat) (Q : Post) (e : Exit) (σ : Env) (w : World) : Prop where
  h : ∀ a, FR n σ a → Q e a w

/-- An operation that gives a value and leaves the world alone. -/
structure V (P : Program) (σ : Env) (op : Op) (v : Value) (w : World) : Prop where
  h : ∀ ρ, Ag ρ σ → ∀ o : Oper, o.op = op → (execOp ρ o).run P w = .ok (.value v) w
/-- An operation that gives a value and turns the world. -/
structure VW (P : Program) (σ : Env) (op : Op) (v : Value) (w w' : World) : Prop where
  h : ∀ ρ, Ag ρ σ → ∀ o : Oper, o.op = op → (execOp ρ o).run P w = .ok (.value v) w'
/-- An operation that gives none and turns the world. -/
structure UW (P : Program) (σ : Env) (op : Op) (w w' : World) : Prop where
  h : ∀ ρ, Ag ρ σ → ∀ o : Oper, o.op = op → (execOp ρ o).run P w = .ok .skip w'
/-- An operation that enters a function. -/
structure EN (P : Program) (σ : Env) (op : Op) (f : FuncId) (args : Array Value) (w : World) : Prop where
  h : ∀ ρ, Ag ρ σ → ∀ o : Oper, o.op = op → (execOp ρ o).run P w = .ok (.enter f args) w

theorem V.vw {P : Program} {σ : Env} {op : Op} {v : Value} {w : World} (h : V P σ op v w) : VW P σ op v w w := ⟨h.h⟩

section steps
variable {P : Program} {n : Nat} {ops : Array Oper} {Q : Post} {rest : List Oper} {σ : Env} {w : World}

theorem ZL.nil (h : ZP n Q .normal σ w) : ZL P n ops Q [] σ w := ⟨h.h⟩

theorem ZL.val {d : Nat} {op : Op} {ty : TypeId} {pos : String} {after : Array Edge} {v : Value} (hv : V P σ op v w) (hd : Nat.blt d n = true)
    (h : ZL P n ops Q rest ((d, v) :: σ) w) : ZL P n ops Q (⟨some d, op, ty, pos, after, none⟩ :: rest) σ w := by
  refine ⟨fun a ha => ?_⟩
  refine wpList_plain rfl (fun K hK => ?_)
  unfold Oper.wp
  rw [hv.h a.eval ha.ag _ rfl]
  exact hK _ _ (h.h _ (ha.put hd))

theorem ZL.vw {d : Nat} {op : Op} {ty : TypeId} {pos : String} {after : Array Edge} {v : Value} {w' : World} (hv : VW P σ op v w w') (hd : Nat.blt d n = true)
    (h : ZL P n ops Q rest ((d, v) :: σ) w') : ZL P n ops Q (⟨some d, op, ty, pos, after, none⟩ :: rest) σ w := by
  refine ⟨fun a ha => ?_⟩
  refine wpList_plain rfl (fun K hK => ?_)
  unfold Oper.wp
  rw [hv.h a.eval ha.ag _ rfl]
  exact hK _ _ (h.h _ (ha.put hd))

theorem ZL.vw0 {op : Op} {ty : TypeId} {pos : String} {after : Array Edge} {v : Value} {w' : World} (hv : VW P σ op v w w')
    (h : ZL P n ops Q rest σ w') : ZL P n ops Q (⟨none, op, ty, pos, after, none⟩ :: rest) σ w := by
  refine ⟨fun a ha => ?_⟩
  refine wpList_plain rfl (fun K hK => ?_)
  unfold Oper.wp
  rw [hv.h a.eval ha.ag _ rfl]
  exact hK _ _ (h.h _ ha)

theorem ZL.unit {op : Op} {ty : TypeId} {pos : String} {after : Array Edge} {w' : World} (hv : UW P σ op w w')
    (h : ZL P n ops Q rest σ w') : ZL P n ops Q (⟨none, op, ty, pos, after, none⟩ :: rest) σ w := by
  refine ⟨fun a ha => ?_⟩
  refine wpList_plain rfl (fun K hK => ?_)
  unfold Oper.wp
  rw [hv.h a.eval ha.ag _ rfl]
  exact hK _ _ (h.h _ ha)

/-- A contract: the call returns, and R holds of the value and the world. -/
structure Ret (P : Program) (f : FuncId) (args : Array Value) (w : World) (R : Value → World → Prop) : Prop where
  h : Calls P f args w fun e w' => ∃ v, e = .returned v ∧ R v w'

theorem Ret.mono {f : FuncId} {args : Array Value} {R R' : Value → World → Prop} (h : Ret P f args w R) (hr : ∀ v w', R v w' → R' v w') : Ret P f args w R' :=
  ⟨Calls.mono h.h fun e w' ⟨v, he, h⟩ => ⟨v, he, hr _ _ h⟩⟩

theorem ZL.call {d : Nat} {op : Op} {ty : TypeId} {pos : String} {after : Array Edge} {f : FuncId} {args : Array Value} {R : Value → World → Prop}
    (hv : EN P σ op f args w) (hd : Nat.blt d n = true) (hc : Ret P f args w R)
    (h : ∀ v w', R v w' → ZL P n ops Q rest ((d, v) :: σ) w') : ZL P n ops Q (⟨some d, op, ty, pos, after, none⟩ :: rest) σ w := by
  refine ⟨fun a ha => ?_⟩
  refine wpList_plain rfl (fun K hK => ?_)
  unfold Oper.wp
  rw [hv.h a.eval ha.ag _ rfl]
  refine Calls.mono hc.h ?_
  rintro e w' ⟨v, rfl, hr⟩
  exact hK _ _ ((h _ _ hr).h _ (ha.put hd))

theorem ZL.call0 {op : Op} {ty : TypeId} {pos : String} {after : Array Edge} {f : FuncId} {args : Array Value} {R : Value → World → Prop}
    (hv : EN P σ op f args w) (hc : Ret P f args w R)
    (h : ∀ v w', R v w' → ZL P n ops Q rest σ w') : ZL P n ops Q (⟨none, op, ty, pos, after, none⟩ :: rest) σ w := by
  refine ⟨fun a ha => ?_⟩
  refine wpList_plain rfl (fun K hK => ?_)
  unfold Oper.wp
  rw [hv.h a.eval ha.ag _ rfl]
  refine Calls.mono hc.h ?_
  rintro e w' ⟨v, rfl, hr⟩
  exact hK _ _ ((h _ _ hr).h _ ha)

/-- An operation whose guard says no is passed over. -/
theorem ZL.skip {d : Nat} {op : Op} {ty : TypeId} {pos : String} {after : Array Edge} {j : Nat} {want : Bool} {g : Nat} {b : Bool}
    (hg : ((ops[j]?).bind (·.dst)) = some g) (hb : lk σ g = some (.bool b)) (hne : (b == want) = false) (hd : Nat.blt d n = true)
    (h : ZL P n ops Q rest ((d, undef) :: σ) w) : ZL P n ops Q (⟨some d, op, ty, pos, after, some (j, want)⟩ :: rest) σ w := by
  refine ⟨fun a ha => ?_⟩
  have hy : yielded ops a.tmps j = some b := by simp [yielded, hg, ha.at' g _ hb]
  have hwant : Region.wanted ⟨some d, op, ty, pos, after, some (j, want)⟩ (yielded ops a.tmps) = false := by simp [Region.wanted, hy, hne]
  unfold wpList
  rw [if_neg (by rw [hwant]; simp)]
  exact h.h _ (ha.put hd)

/-- An operation whose guard says yes is carried out. -/
theorem ZL.gval {d : Nat} {op : Op} {ty : TypeId} {pos : String} {after : Array Edge} {j : Nat} {want : Bool} {g : Nat} {b : Bool} {v : Value}
    (hg : ((ops[j]?).bind (·.dst)) = some g) (hb : lk σ g = some (.bool b)) (hne : (b == want) = true) (hv : V P σ op v w) (hd : Nat.blt d n = true)
    (h : ZL P n ops Q rest ((d, v) :: σ) w) : ZL P n ops Q (⟨some d, op, ty, pos, after, some (j, want)⟩ :: rest) σ w := by
  refine ⟨fun a ha => ?_⟩
  have hy : yielded ops a.tmps j = some b := by simp [yielded, hg, ha.at' g _ hb]
  have hwant : Region.wanted ⟨some d, op, ty, pos, after, some (j, want)⟩ (yielded ops a.tmps) = true := by simp [Region.wanted, hy]; simpa using hne
  unfold wpList
  rw [if_pos hwant]
  refine .inl ?_
  unfold Oper.wp
  rw [hv.h a.eval ha.ag _ rfl]
  exact h.h _ (ha.put hd)

/-- A guard that says yes is struck. -/
theorem ZL.on {dst : Option Tmp} {op : Op} {ty : TypeId} {pos : String} {after : Array Edge} {j : Nat} {want : Bool} {g : Nat} {b : Bool}
    (hg : ((ops[j]?).bind (·.dst)) = some g) (hb : lk σ g = some (.bool b)) (hne : (b == want) = true)
    (h : ZL P n ops Q (⟨dst, op, ty, pos, after, none⟩ :: rest) σ w) : ZL P n ops Q (⟨dst, op, ty, pos, after, some (j, want)⟩ :: rest) σ w := by
  refine ⟨fun a ha => ?_⟩
  have hy : yielded ops a.tmps j = some b := by simp [yielded, hg, ha.at' g _ hb]
  have hwant : Region.wanted ⟨dst, op, ty, pos, after, some (j, want)⟩ (yielded ops a.tmps) = true := by simp [Region.wanted, hy]; simpa using hne
  have h1 := h.h a ha
  unfold wpList at h1 ⊢
  rw [if_pos hwant]
  rw [if_pos (by simp [Region.wanted])] at h1
  exact h1
/-- A bool is known from here on, on each way. -/
theorem ZL.split (g : Nat) {b : Bool} {l : List Oper} (hb : lk σ g = some (.bool b)) (ht : b = true → ZL P n ops Q l ((g, .bool true) :: σ) w) (hf : b = false → ZL P n ops Q l ((g, .bool false) :: σ) w) : ZL P n ops Q l σ w := by
  refine ⟨fun a ha => ?_⟩
  have key : ∀ c, b = c → FR n ((g, .bool c) :: σ) a := fun c hc => ⟨ha.size, ha.defers, fun i v hi => by
    simp only [lk] at hi
    cases hq : Nat.beq i g with
    | true => rw [hq] at hi; have : i = g := Nat.eq_of_beq_eq_true hq; subst this; simp at hi; subst hi; subst hc; exact ha.at' _ _ hb
    | false => rw [hq] at hi; exact ha.at' i v hi⟩
  cases hb' : b with
  | true => exact (ht hb').h a (key true hb')
  | false => exact (hf hb').h a (key false hb')
theorem ZL.splitD (g : Nat) {p : Prop} [Decidable p] {l : List Oper} (hb : lk σ g = some (.bool (decide p))) (ht : p → ZL P n ops Q l ((g, .bool true) :: σ) w) (hf : ¬ p → ZL P n ops Q l ((g, .bool false) :: σ) w) : ZL P n ops Q l σ w :=
  ZL.split g hb (fun h => ht (of_decide_eq_true h)) (fun h => hf (of_decide_eq_false h))

/-! ### Code -/
theorem ZC.region {id : Nat} {l : List Oper} (h : ZL P n l.toArray Q l σ w) : ZC P n Q (.region id l.toArray false) σ w :=
  ⟨fun a ha => wp_region_lit (h.h a ha)⟩

theorem ZC.seq {x y : Code} (h : ZC P n (Exit.then (y.wp P Q) Q) x σ w) : ZC P n Q (.seq x y) σ w := ⟨fun a ha => wp_seq (h.h a ha)⟩
theorem ZC.skip (h : ZP n Q .normal σ w) : ZC P n Q .skip σ w := ⟨fun a ha => wp_skip (h.h a ha)⟩
theorem ZC.ret (h : ZP n Q .ret σ w) : ZC P n Q .ret σ w := ⟨fun a ha => wp_ret (h.h a ha)⟩
theorem ZC.exit {id : Nat} (h : ZP n Q (.exit id) σ w) : ZC P n Q (.exit id) σ w := ⟨fun a ha => wp_exit (h.h a ha)⟩
theorem ZC.block {id : Nat} {c : Code} (h : ZC P n (Exit.inBlock id Q) c σ w) : ZC P n Q (.block id c) σ w := ⟨fun a ha => wp_block (h.h a ha)⟩

theorem ZC.cond {c : Operand} {x y : Code} {t : Bool} (hc : ev σ c = some (.bool t)) (ht : t = true → ZC P n Q x σ w) (hf : t = false → ZC P n Q y σ w) :
    ZC P n Q (.cond c x y) σ w := ⟨fun a ha => wp_cond_split (ha.ag c _ hc) (fun h => (ht h).h a ha) (fun h => (hf h).h a ha)⟩
theorem ZC.condD {c : Operand} {x y : Code} {p : Prop} [Decidable p] (hc : ev σ c = some (.bool (decide p))) (ht : p → ZC P n Q x σ w) (hf : ¬ p → ZC P n Q y σ w) :
    ZC P n Q (.cond c x y) σ w := ZC.cond hc (fun h => ht (of_decide_eq_true h)) (fun h => hf (of_decide_eq_false h))
theorem ZC.condT {c : Operand} {x y : Code} (hc : ev σ c = some (.bool true)) (ht : ZC P n Q x σ w) : ZC P n Q (.cond c x y) σ w := ZC.cond hc (fun _ => ht) (fun h => by cases h)
theorem ZC.condF {c : Operand} {x y : Code} (hc : ev σ c = some (.bool false)) (hf : ZC P n Q y σ w) : ZC P n Q (.cond c x y) σ w := ZC.cond hc (fun h => by cases h) (fun _ => hf)

/-- Forget: only what σ' says is known from here on. -/
theorem ZC.env {c : Code} (σ' : Env) (hs : Sub σ' σ) (h : ZC P n Q c σ' w) : ZC P n Q c σ w := ⟨fun a ha => h.h a (ha.sub hs)⟩
theorem ZL.env {l : List Oper} (σ' : Env) (hs : Sub σ' σ) (h : ZL P n ops Q l σ' w) : ZL P n ops Q l σ w := ⟨fun a ha => h.h a (ha.sub hs)⟩
theorem ZP.env {e : Exit} (σ' : Env) (hs : Sub σ' σ) (h : ZP n Q e σ' w) : ZP n Q e σ w := ⟨fun a ha => h.h a (ha.sub hs)⟩

theorem ZP.then {y : Code} (h : ZC P n Q y σ w) : ZP n (Exit.then (y.wp P Q) Q) .normal σ w := ⟨h.h⟩
theorem ZP.thenX {K : Act → World → Prop} {id : Nat} (h : ZP n Q (.exit id) σ w) : ZP n (Exit.then K Q) (.exit id) σ w := ⟨h.h⟩
theorem ZP.thenR {K : Act → World → Prop} (h : ZP n Q .ret σ w) : ZP n (Exit.then K Q) .ret σ w := ⟨h.h⟩
theorem ZP.blockN {id : Nat} (h : ZP n Q .normal σ w) : ZP n (Exit.inBlock id Q) .normal σ w := ⟨h.h⟩
theorem ZP.blockR {id : Nat} (h : ZP n Q .ret σ w) : ZP n (Exit.inBlock id Q) .ret σ w := ⟨h.h⟩
theorem ZP.blockE {id : Nat} (h : ZP n Q .normal σ w) : ZP n (Exit.inBlock id Q) (.exit id) σ w := ⟨fun a ha => by simp only [Exit.inBlock, if_true]; exact h.h a ha⟩
theorem ZP.blockX {id id' : Nat} (hne : Nat.beq id' id = false) (h : ZP n Q (.exit id') σ w) : ZP n (Exit.inBlock id Q) (.exit id') σ w := ⟨fun a ha => by
  have : id' ≠ id := fun e => by subst e; simp at hne
  simp only [Exit.inBlock, if_neg this]; exact h.h a ha⟩

/-- The head of a loop. -/
def Head {X : Type} (n : Nat) (vals : X → Env) (inv : X → World → Prop) (μ : X → Nat) (m : Nat) (a : Act) (w : World) : Prop :=
  ∃ x, FR n (vals x) a ∧ inv x w ∧ μ x < m

theorem ZC.loop {c : Code} {X : Type} (vals : X → Env) (inv : X → World → Prop) (μ : X → Nat) (x0 : X) (h0 : Sub (vals x0) σ) (hi : inv x0 w)
    (hr : ∀ x w, inv x w → ZC P n (Exit.then (Head n vals inv μ (μ x)) Q) c (vals x) w) : ZC P n Q (.loop c) σ w := by
  refine ⟨fun a ha => ?_⟩
  intro b k cs
  have key : ∀ m a w, (∃ x, FR n (vals x) a ∧ inv x w ∧ μ x < m) →
      ∃ e a' w', Q e a' w' ∧ Arrives P (lone (b.at a (.code c :: .inLoop c :: k)) cs w) b k cs e a' w' := by
    intro m
    induction m using Nat.strongRecOn with
    | _ m ih =>
      rintro a w ⟨x, hx, hI, hlt⟩
      obtain ⟨e, a₁, w₁, hq, harr⟩ := (hr x w hI).h a hx b (.inLoop c :: k) cs
      cases e with
      | normal =>
        obtain ⟨e₂, a₂, w₂, hq₂, harr₂⟩ := ih (μ x) hlt a₁ w₁ hq
        exact ⟨e₂, a₂, w₂, hq₂, .of_steps (Steps.trans harr (.one step_inLoop)) harr₂⟩
      | exit id => exact ⟨_, a₁, w₁, hq, .pass (x := .inLoop c) rfl (fun _ _ => .inl (by simp)) harr⟩
      | goto l => exact ⟨_, a₁, w₁, hq, .pass (x := .inLoop c) rfl (fun _ _ => .inl (by simp)) harr⟩
      | ret => exact ⟨_, a₁, w₁, hq, .pass (x := .inLoop c) rfl (fun _ _ => .inl (by simp)) harr⟩
      | panic ch => exact ⟨_, a₁, w₁, hq, .pass (x := .inLoop c) rfl (fun _ _ => .inl (by simp)) harr⟩
      | outgrown => exact ⟨_, a₁, w₁, hq, .pass (x := .inLoop c) rfl (fun _ _ => .inl (by simp)) harr⟩
  obtain ⟨e, a', w', hq, harr⟩ := key _ a w ⟨x0, ha.sub h0, hi, Nat.lt_succ_self _⟩
  exact ⟨e, a', w', hq, .of_steps (.one step_loop) harr⟩

theorem ZP.round {X : Type} {vals : X → Env} {inv : X → World → Prop} {μ : X → Nat} {m : Nat} (x : X) (hs : Sub (vals x) σ) (hi : inv x w) (hm : μ x < m) :
    ZP n (Exit.then (Head n vals inv μ m) Q) .normal σ w := ⟨fun a ha => ⟨x, ha.sub hs, hi, hm⟩⟩

/-- What a piece of code is asked for, said once, where its ways meet again. -/
theorem ZC.cut {c : Code} {Q' : Post} (h : ZC P n Q' c σ w) (hq : ∀ e a w, Q' e a w → Q e a w) : ZC P n Q c σ w := ⟨fun a ha => Code.wp_mono hq (h.h a ha)⟩

/-! ### The function's head and foot -/
def RetPost (P : Program) (fn : Func) (R : Value → World → Prop) : Post
  | .normal, a, w | .ret, a, w => a.defers = [] ∧ ∃ v, (results fn a.tmps).run P w = .ok v w ∧ R v w
  | _, _, _ => False

def envOf : Nat → List Value → Env
  | _, [] => []
  | k, v :: r => (k, v) :: envOf (k + 1) r

theorem lk_envOf (l : List Value) : ∀ k i v, lk (envOf k l) i = some v → k ≤ i ∧ l[i - k]? = some v := by
  induction l with
  | nil => intro k i v h; simp [envOf, lk] at h
  | cons u r ih =>
    intro k i v h
    simp only [envOf, lk] at h
    cases hb : Nat.beq i k with
    | true => rw [hb] at h; have : i = k := Nat.eq_of_beq_eq_true hb; subst this; simp at h; subst h; simp
    | false =>
      rw [hb] at h
      have hne : i ≠ k := fun e => by subst e; simp at hb
      obtain ⟨h1, h2⟩ := ih _ _ _ h
      refine ⟨by omega, ?_⟩
      rw [show i - k = (i - (k + 1)) + 1 by omega]
      simpa using h2

theorem Ret.enter {f : FuncId} {fn : Func} {c : Code} {args : Array Value} {R : Value → World → Prop} (hf : P.funcs[f]? = some fn) (hb : fn.body = some c)
    (hn : fn.ntmps = n) (hsz : Nat.ble args.size n = true) (σ0 : Env) (hs : Sub σ0 (envOf 0 args.toList)) (h : ZC P n (RetPost P fn R) c σ0 w) : Ret P f args w R := by
  refine ⟨calls_of_wp hf hb ?_⟩
  have hsz' : args.size ≤ n := Nat.le_of_ble_eq_true hsz
  refine Code.wp_mono ?_ (h.h _ ⟨by simp [hn]; omega, rfl, ?_⟩)
  · intro e a w hq
    cases e <;> simp only [RetPost] at hq <;> first | exact hq.elim | skip
    all_goals
      obtain ⟨hd, v, hr, hR⟩ := hq
      exact ⟨hd, v, hr, v, rfl, hR⟩
  · intro i v hi
    obtain ⟨_, h2⟩ := lk_envOf _ _ _ _ (hs.lk i v hi)
    simp only [Nat.sub_zero, Array.getElem?_toList] at h2
    have hlt : i < args.size := by
      rcases Nat.lt_or_ge i args.size with h | h
      · exact h
      · simp [Array.getElem?_eq_none h] at h2
    rw [Array.getElem?_append_left hlt]
    exact h2

theorem Ret.enter0 {f : FuncId} {fn : Func} {c : Code} {R : Value → World → Prop} (hf : P.funcs[f]? = some fn) (hb : fn.body = some c)
    (hn : fn.ntmps = n) (hsz : Nat.ble 0 n = true) (h : ZC P n (RetPost P fn R) c [] w) : Ret P f #[] w R := Ret.enter hf hb hn hsz [] trivial h
theorem Ret.enter1 {f : FuncId} {fn : Func} {c : Code} {a : Value} {R : Value → World → Prop} (hf : P.funcs[f]? = some fn) (hb : fn.body = some c)
    (hn : fn.ntmps = n) (hsz : Nat.ble 1 n = true) (h : ZC P n (RetPost P fn R) c [(0, a)] w) : Ret P f #[a] w R := Ret.enter hf hb hn hsz [(0, a)] ⟨rfl, trivial⟩ h
theorem Ret.enter2 {f : FuncId} {fn : Func} {c : Code} {a b : Value} {R : Value → World → Prop} (hf : P.funcs[f]? = some fn) (hb : fn.body = some c)
    (hn : fn.ntmps = n) (hsz : Nat.ble 2 n = true) (h : ZC P n (RetPost P fn R) c [(0, a), (1, b)] w) : Ret P f #[a, b] w R := Ret.enter hf hb hn hsz [(0, a), (1, b)] ⟨rfl, rfl, trivial⟩ h
theorem Ret.enter3 {f : FuncId} {fn : Func} {c : Code} {a b d : Value} {R : Value → World → Prop} (hf : P.funcs[f]? = some fn) (hb : fn.body = some c)
    (hn : fn.ntmps = n) (hsz : Nat.ble 3 n = true) (h : ZC P n (RetPost P fn R) c [(0, a), (1, b), (2, d)] w) : Ret P f #[a, b, d] w R := Ret.enter hf hb hn hsz [(0, a), (1, b), (2, d)] ⟨rfl, rfl, rfl, trivial⟩ h
theorem Ret.enter4 {f : FuncId} {fn : Func} {c : Code} {a b d e : Value} {R : Value → World → Prop} (hf : P.funcs[f]? = some fn) (hb : fn.body = some c)
    (hn : fn.ntmps = n) (hsz : Nat.ble 4 n = true) (h : ZC P n (RetPost P fn R) c [(0, a), (1, b), (2, d), (3, e)] w) : Ret P f #[a, b, d, e] w R := Ret.enter hf hb hn hsz [(0, a), (1, b), (2, d), (3, e)] ⟨rfl, rfl, rfl, rfl, trivial⟩ h
theorem Ret.enter5 {f : FuncId} {fn : Func} {c : Code} {a b d e g : Value} {R : Value → World → Prop} (hf : P.funcs[f]? = some fn) (hb : fn.body = some c)
    (hn : fn.ntmps = n) (hsz : Nat.ble 5 n = true) (h : ZC P n (RetPost P fn R) c [(0, a), (1, b), (2, d), (3, e), (4, g)] w) : Ret P f #[a, b, d, e, g] w R := Ret.enter hf hb hn hsz [(0, a), (1, b), (2, d), (3, e), (4, g)] ⟨rfl, rfl, rfl, rfl, rfl, trivial⟩ h

theorem ZP.ret1 {fn : Func} {R : Value → World → Prop} {t : Tmp} {v : Value} (hr : fn.results = #[.tmp t]) (hv : lk σ t = some v) (hR : R v w) :
    ZP n (RetPost P fn R) .ret σ w := ⟨fun a ha => ⟨ha.defers, v, by rw [results_tmp hr]; simp [ha.at' t v hv], hR⟩⟩
theorem ZP.end0 {fn : Func} {R : Value → World → Prop} (hr : fn.results = #[]) (hR : R (.tuple #[]) w) :
    ZP n (RetPost P fn R) .normal σ w := ⟨fun a ha => ⟨ha.defers, _, by rw [results_none hr], hR⟩⟩
theorem ZP.ret0 {fn : Func} {R : Value → World → Prop} (hr : fn.results = #[]) (hR : R (.tuple #[]) w) :
    ZP n (RetPost P fn R) .ret σ w := ⟨fun a ha => ⟨ha.defers, _, by rw [results_none hr], hR⟩⟩
theorem ZP.ret2 {fn : Func} {R : Value → World → Prop} {t u : Tmp} {v v' : Value} (hr : fn.results = #[.tmp t, .tmp u]) (hv : lk σ t = some v) (hv' : lk σ u = some v') (hR : R (.tuple #[v, v']) w) :
    ZP n (RetPost P fn R) .ret σ w := ⟨fun a ha => ⟨ha.defers, _, by rw [results_tmp2 hr]; simp [ha.at' t v hv, ha.at' u v' hv'], hR⟩⟩
end steps
end Go.Proofs.YtibobcjfjnoclaaGreatDoor.Z
end
section
/- What each operation of the model does, one lemma an operation: values, memory, the type table's facts as instances. -/
set_option linter.unusedVariables false
set_option linter.unusedSimpArgs false
namespace Go.Proofs.YtibobcjfjnoclaaGreatDoor.Z
open Go

/-! ### The type table's facts -/
class TU (P : Program) (t : TypeId) (d : outParam TypeDesc) : Prop where
  h : P.underlying t = some d
class TI (P : Program) (t : TypeId) (size bytes : outParam Nat) : Prop where
  h : (P.info? t).map (fun i => (i.size, i.bytes)) = some (size, bytes)
class TZ (P : Program) (t : TypeId) (z : outParam Value) : Prop where
  h : (P.info? t).map (·.zero) = some (some z)
/-- A slice's element: its cells, its bytes, its zero value. -/
class TE (P : Program) (t : TypeId) (size bytes : outParam Nat) (z : outParam Value) : Prop where
  ti : TI P t size bytes
  tz : TZ P t z
  hz : z.cells.size = size
  pos : 0 < size
/-- A type of one cell. -/
class TS (P : Program) (t : TypeId) : Prop where
  h : ∀ w, (isAgg t).run P w = .ok false w
/-- A struct or an array. -/
class TA (P : Program) (t : TypeId) : Prop where
  h : ∀ w, (isAgg t).run P w = .ok true w
class TF (P : Program) (s : TypeId) (f : Nat) (off : outParam Nat) : Prop where
  h : ∀ b o w, (Instr.fieldAt s (.pointer (some ⟨b, o, none⟩)) f).run P w = .ok (.pointer (some ⟨b, o + off, none⟩)) w
class FN (P : Program) (f : FuncId) : Prop where
  h : ∀ args w, (callFunc f args).run P w = .ok (.enter f args) w

section
variable {P : Program} {σ : Env} {w : World}

theorem run_sizeOf' {t s b : Nat} [i : TI P t s b] (w : World) : (sizeOf t).run P w = .ok s w := by
  have h := i.h
  cases hq : P.info? t with
  | none => simp [hq] at h
  | some x => simp [hq] at h; simp [sizeOf, typeInfo, hq, h.1]
theorem run_zero' {t : Nat} {z : Value} [i : TZ P t z] (w : World) : (zeroValue t).run P w = .ok z w := by
  have h := i.h
  cases hq : P.info? t with
  | none => simp [hq] at h
  | some x => simp [hq] at h; simp [zeroValue, typeInfo, hq, h]
theorem run_under' {t : Nat} {d : TypeDesc} [i : TU P t d] (w : World) : (underlying t).run P w = .ok d w := run_underlying i.h w
theorem run_bytes' {t s b : Nat} [i : TI P t s b] (w : World) : ∃ x, (typeInfo t).run P w = .ok x w ∧ x.size = s ∧ x.bytes = b := by
  have h := i.h
  cases hq : P.info? t with
  | none => simp [hq] at h
  | some x => simp [hq] at h; exact ⟨x, by simp [typeInfo, hq], h.1, h.2⟩

theorem evs_map {l : List Operand} {vs : List Value} (h : evs σ l = some vs) {ρ : Operand → Value} (ha : Ag ρ σ) : l.map ρ = vs := by
  induction l generalizing vs with
  | nil => simp [evs] at h; simp [← h]
  | cons x r ih =>
    simp only [evs] at h
    cases hx : ev σ x with
    | none => simp [hx] at h
    | some v =>
      rw [hx] at h
      cases hr : evs σ r with
      | none => simp [hr] at h
      | some us => simp [hr] at h; subst h; simp [ha _ _ hx, ih hr]

/-! ### Plain values -/
theorem r_move {x : Operand} {v : Value} (h : ev σ x = some v) : V P σ (.move x) v w := by
  refine ⟨fun ρ ha o ho => ?_⟩; simp [execOp, ho, ha _ _ h]
theorem r_assign {x : Operand} {v : Value} (h : ev σ x = some v) : V P σ (.assign x) v w := by
  refine ⟨fun ρ ha o ho => ?_⟩; simp [execOp, ho, ha _ _ h]
theorem r_pickT {c a b : Operand} {v : Value} (hc : ev σ c = some (.bool true)) (h : ev σ a = some v) : V P σ (.pick c a b) v w := by
  refine ⟨fun ρ ha o ho => ?_⟩; simp [execOp, ho, ha _ _ hc, ha _ _ h, asBool]
theorem r_pickF {c a b : Operand} {v : Value} (hc : ev σ c = some (.bool false)) (h : ev σ b = some v) : V P σ (.pick c a b) v w := by
  refine ⟨fun ρ ha o ho => ?_⟩; simp [execOp, ho, ha _ _ hc, ha _ _ h, asBool]
theorem r_nilCheck {x : Operand} {a : Addr} (h : ev σ x = some (.pointer (some a))) : V P σ (.nilCheck x) (.pointer (some a)) w := by
  refine ⟨fun ρ ha o ho => ?_⟩; simp [execOp, ho, ha _ _ h]
theorem r_extract {x : Operand} {i : Nat} {vs : Array Value} {v : Value} (h : ev σ x = some (.tuple vs)) (hv : vs[i]? = some v) : V P σ (.extract x i) v w := by
  refine ⟨fun ρ ha o ho => ?_⟩; simp [execOp, ho, ha _ _ h, Instr.extract, hv]
theorem r_makeFunc {fn : Fn} {first captured : Array Operand} {fs cs : List Value} (h1 : evs σ first.toList = some fs) (h2 : evs σ captured.toList = some cs) :
    V P σ (.makeFunc fn first captured) (.func fn fs.toArray cs.toArray) w := by
  refine ⟨fun ρ ha o ho => ?_⟩
  have e1 := evs_map h1 ha
  have e2 := evs_map h2 ha
  have f1 : first.map ρ = fs.toArray := by apply Array.ext'; simpa using e1
  have f2 : captured.map ρ = cs.toArray := by apply Array.ext'; simpa using e2
  simp [execOp, ho, Instr.makeFunc, f1, f2]

/-! ### Integers -/
theorem eqGuard_int {op : BinOp} {t : TypeId} {x y : Operand} {k k' : IntKind} {a b : Int} (w : World) : (eqGuard op t x y (.int k a) (.int k' b)).run P w = .ok () w := by
  unfold eqGuard; cases op <;> simp
theorem eqGuard_bool {op : BinOp} {t : TypeId} {x y : Operand} {a b : Bool} (w : World) : (eqGuard op t x y (.bool a) (.bool b)).run P w = .ok () w := by
  unfold eqGuard; cases op <;> simp

theorem wrap_u64 {n : Int} (h0 : 0 ≤ n) (h1 : n < 18446744073709551616) : IntKind.u64.wrap n = n := by
  simp only [IntKind.wrap, IntKind.bits, IntKind.signed]; simp; omega
theorem wrap_u32 {n : Int} (h0 : 0 ≤ n) (h1 : n < 4294967296) : IntKind.u32.wrap n = n := by
  simp only [IntKind.wrap, IntKind.bits, IntKind.signed]; simp; omega
theorem wrap_u8 {n : Int} (h0 : 0 ≤ n) (h1 : n < 256) : IntKind.u8.wrap n = n := by
  simp only [IntKind.wrap, IntKind.bits, IntKind.signed]; simp; omega
theorem wrap_i64 {n : Int} (h0 : -9223372036854775808 ≤ n) (h1 : n < 9223372036854775808) : IntKind.i64.wrap n = n := by
  simp only [IntKind.wrap, IntKind.bits, IntKind.signed]; simp; omega


/-! The results of the operations on bits, under names -/
def iand (k : IntKind) (a b : Int) : Int := k.wrap ((BitVec.ofInt k.bits a &&& BitVec.ofInt k.bits b).toNat : Int)
def ior (k : IntKind) (a b : Int) : Int := k.wrap ((BitVec.ofInt k.bits a ||| BitVec.ofInt k.bits b).toNat : Int)
def ixor (k : IntKind) (a b : Int) : Int := k.wrap ((BitVec.ofInt k.bits a ^^^ BitVec.ofInt k.bits b).toNat : Int)

theorem beq_dec (a b : Int) : (a == b) = decide (a = b) := by
  by_cases h : a = b <;> simp [h]
theorem bne_dec (a b : Int) : (a != b) = decide (a ≠ b) := by
  by_cases h : a = b <;> simp [h]

variable {t t' : TypeId} {x y : Operand} {k k' : IntKind} {a b r : Int}
theorem r_add (hx : ev σ x = some (.int k a)) (hy : ev σ y = some (.int k b)) (hr : k.wrap (a + b) = r) : V P σ (.binOp .add t x y t') (.int k r) w := by
  refine ⟨fun ρ ha o ho => ?_⟩; simp [execOp, ho, ha _ _ hx, ha _ _ hy, eqGuard, binOp, Op.intArith, hr]
theorem r_sub (hx : ev σ x = some (.int k a)) (hy : ev σ y = some (.int k b)) (hr : k.wrap (a - b) = r) : V P σ (.binOp .sub t x y t') (.int k r) w := by
  refine ⟨fun ρ ha o ho => ?_⟩; simp [execOp, ho, ha _ _ hx, ha _ _ hy, eqGuard, binOp, Op.intArith, hr]
theorem r_mul (hx : ev σ x = some (.int k a)) (hy : ev σ y = some (.int k b)) (hr : k.wrap (a * b) = r) : V P σ (.binOp .mul t x y t') (.int k r) w := by
  refine ⟨fun ρ ha o ho => ?_⟩; simp [execOp, ho, ha _ _ hx, ha _ _ hy, eqGuard, binOp, Op.intArith, hr]
theorem r_quo (hx : ev σ x = some (.int k a)) (hy : ev σ y = some (.int k b)) (hb : b ≠ 0) (hr : k.wrap (a.tdiv b) = r) : V P σ (.binOp .quo t x y t') (.int k r) w := by
  refine ⟨fun ρ ha o ho => ?_⟩; simp [execOp, ho, ha _ _ hx, ha _ _ hy, eqGuard, binOp, Op.intDiv, hb, hr]
theorem r_rem (hx : ev σ x = some (.int k a)) (hy : ev σ y = some (.int k b)) (hb : b ≠ 0) (hr : a.tmod b = r) : V P σ (.binOp .rem t x y t') (.int k r) w := by
  refine ⟨fun ρ ha o ho => ?_⟩; simp [execOp, ho, ha _ _ hx, ha _ _ hy, eqGuard, binOp, Op.intDiv, hb, hr]
theorem r_and (hx : ev σ x = some (.int k a)) (hy : ev σ y = some (.int k b)) (hr : iand k a b = r) : V P σ (.binOp .and t x y t') (.int k r) w := by
  refine ⟨fun ρ ha o ho => ?_⟩; subst hr; simp [execOp, ho, ha _ _ hx, ha _ _ hy, eqGuard, binOp, Op.intBits, iand]
theorem r_or (hx : ev σ x = some (.int k a)) (hy : ev σ y = some (.int k b)) (hr : ior k a b = r) : V P σ (.binOp .or t x y t') (.int k r) w := by
  refine ⟨fun ρ ha o ho => ?_⟩; subst hr; simp [execOp, ho, ha _ _ hx, ha _ _ hy, eqGuard, binOp, Op.intBits, ior]
theorem r_xor (hx : ev σ x = some (.int k a)) (hy : ev σ y = some (.int k b)) (hr : ixor k a b = r) : V P σ (.binOp .xor t x y t') (.int k r) w := by
  refine ⟨fun ρ ha o ho => ?_⟩; subst hr; simp [execOp, ho, ha _ _ hx, ha _ _ hy, eqGuard, binOp, Op.intBits, ixor]
theorem r_shl (hx : ev σ x = some (.int k a)) (hy : ev σ y = some (.int k' b)) (hb : 0 ≤ b) (hr : k.wrap (a * 2 ^ (min b.toNat k.bits)) = r) : V P σ (.binOp .shl t x y t') (.int k r) w := by
  refine ⟨fun ρ ha o ho => ?_⟩
  have : ¬ b < 0 := by omega
  simp [execOp, ho, ha _ _ hx, ha _ _ hy, eqGuard, binOp, Op.shift, this, hr]
theorem r_shr (hx : ev σ x = some (.int k a)) (hy : ev σ y = some (.int k' b)) (hb : 0 ≤ b) (hr : a / 2 ^ (min b.toNat k.bits) = r) : V P σ (.binOp .shr t x y t') (.int k r) w := by
  refine ⟨fun ρ ha o ho => ?_⟩
  have : ¬ b < 0 := by omega
  have h2 : (0 : Int) ≤ 2 ^ (min b.toNat k.bits) := Int.pow_nonneg (by decide)
  simp [execOp, ho, ha _ _ hx, ha _ _ hy, eqGuard, binOp, Op.shift, this, Int.fdiv_eq_ediv_of_nonneg _ h2, hr]
theorem r_lss (hx : ev σ x = some (.int k a)) (hy : ev σ y = some (.int k b)) : V P σ (.binOp .lss t x y t') (.bool (decide (a < b))) w := by
  refine ⟨fun ρ ha o ho => ?_⟩; simp [execOp, ho, ha _ _ hx, ha _ _ hy, eqGuard, binOp, Op.intCmp]
theorem r_leq (hx : ev σ x = some (.int k a)) (hy : ev σ y = some (.int k b)) : V P σ (.binOp .leq t x y t') (.bool (decide (a ≤ b))) w := by
  refine ⟨fun ρ ha o ho => ?_⟩; simp [execOp, ho, ha _ _ hx, ha _ _ hy, eqGuard, binOp, Op.intCmp]
theorem r_gtr (hx : ev σ x = some (.int k a)) (hy : ev σ y = some (.int k b)) : V P σ (.binOp .gtr t x y t') (.bool (decide (b < a))) w := by
  refine ⟨fun ρ ha o ho => ?_⟩; simp [execOp, ho, ha _ _ hx, ha _ _ hy, eqGuard, binOp, Op.intCmp]
theorem r_geq (hx : ev σ x = some (.int k a)) (hy : ev σ y = some (.int k b)) : V P σ (.binOp .geq t x y t') (.bool (decide (b ≤ a))) w := by
  refine ⟨fun ρ ha o ho => ?_⟩; simp [execOp, ho, ha _ _ hx, ha _ _ hy, eqGuard, binOp, Op.intCmp]
theorem r_eql (hx : ev σ x = some (.int k a)) (hy : ev σ y = some (.int k b)) : V P σ (.binOp .eql t x y t') (.bool (decide (a = b))) w := by
  refine ⟨fun ρ ha o ho => ?_⟩; rw [← beq_dec]; simp [execOp, ho, ha _ _ hx, ha _ _ hy, eqGuard_int, binOp, Op.intCmp]
theorem r_neq (hx : ev σ x = some (.int k a)) (hy : ev σ y = some (.int k b)) : V P σ (.binOp .neq t x y t') (.bool (decide (a ≠ b))) w := by
  refine ⟨fun ρ ha o ho => ?_⟩; rw [← bne_dec]; simp [execOp, ho, ha _ _ hx, ha _ _ hy, eqGuard_int, binOp, Op.intCmp]
theorem r_convInt {s d : TypeId} {ds : TypeDesc} [is : TU P s ds] [id : TU P d (.int k)] (hx : ev σ x = some (.int k' a)) (hr : k.wrap a = r) : V P σ (.convert s d x) (.int k r) w := by
  refine ⟨fun ρ ha o ho => ?_⟩
  simp [execOp, ho, ha _ _ hx, convert, run_under' (t := s), run_under' (t := d)]
  cases ds <;> simp [Conv.intToInt, hr]
theorem r_not {b : Bool} (hx : ev σ x = some (.bool b)) : V P σ (.unOp .not t x) (.bool (!b)) w := by
  refine ⟨fun ρ ha o ho => ?_⟩; simp [execOp, ho, ha _ _ hx, Op.unary]
theorem r_neg (hx : ev σ x = some (.int k a)) (hr : k.wrap (0 - a) = r) : V P σ (.unOp .neg t x) (.int k r) w := by
  refine ⟨fun ρ ha o ho => ?_⟩; simp [execOp, ho, ha _ _ hx, Op.unary, Op.intArith]; simpa using hr
theorem r_compl (hx : ev σ x = some (.int k a)) (hr : ixor k (if k.signed then -1 else k.max) a = r) : V P σ (.unOp .xor t x) (.int k r) w := by
  refine ⟨fun ρ ha o ho => ?_⟩; subst hr; simp [execOp, ho, ha _ _ hx, Op.unary, Op.intBits, ixor]

/-! ### Pointers, bools, nil -/
theorem equal_of {t : TypeId} {u v : Value} {r : Bool} {w : World} (h : ∀ d, (Op.equalIn (d + 1) t u v).run P w = .ok r w) : (Op.equal t u v).run P w = .ok r w := h 9999
theorem eqGuard_ptr {op : BinOp} {t : TypeId} {x y : Operand} {p q : Option Addr} (w : World) : (eqGuard op t x y (.pointer p) (.pointer q)).run P w = .ok () w := by
  unfold eqGuard; cases op <;> simp
theorem eqGuard_slice {op : BinOp} {t : TypeId} {x y : Operand} {p q : Option Addr} {n m c d : Nat} (w : World) : (eqGuard op t x y (.slice p n c) (.slice q m d)).run P w = .ok () w := by
  unfold eqGuard; cases op <;> simp
theorem r_eqlPtrNil {e : TypeId} {p : Addr} [it : TU P t (.pointer e)] (hx : ev σ x = some (.pointer (some p))) (hy : ev σ y = some (.pointer none)) : V P σ (.binOp .eql t x y t') (.bool false) w := by
  refine ⟨fun ρ ha o ho => ?_⟩
  have h : (Op.equal t (.pointer (some p)) (.pointer none)).run P w = .ok false w := equal_of fun d => by simp [Op.equalIn, run_under' (t := t)]
  simp [execOp, ho, ha _ _ hx, ha _ _ hy, eqGuard_ptr, binOp, h]
theorem r_eqlBool {b1 b2 : Bool} [it : TU P t .bool] (hx : ev σ x = some (.bool b1)) (hy : ev σ y = some (.bool b2)) : V P σ (.binOp .eql t x y t') (.bool (b1 == b2)) w := by
  refine ⟨fun ρ ha o ho => ?_⟩
  have h : (Op.equal t (.bool b1) (.bool b2)).run P w = .ok (b1 == b2) w := equal_of fun d => by simp [Op.equalIn, run_under' (t := t)]
  simp [execOp, ho, ha _ _ hx, ha _ _ hy, eqGuard_bool, binOp, h]
theorem r_neqBool {b1 b2 : Bool} [it : TU P t .bool] (hx : ev σ x = some (.bool b1)) (hy : ev σ y = some (.bool b2)) : V P σ (.binOp .neq t x y t') (.bool (b1 != b2)) w := by
  refine ⟨fun ρ ha o ho => ?_⟩
  have h : (Op.equal t (.bool b1) (.bool b2)).run P w = .ok (b1 == b2) w := equal_of fun d => by simp [Op.equalIn, run_under' (t := t)]
  simp [execOp, ho, ha _ _ hx, ha _ _ hy, eqGuard_bool, binOp, h]; cases b1 <;> cases b2 <;> rfl
theorem run_equalSliceNil {e : TypeId} {p : Option Addr} {n c m c' : Nat} [it : TU P t (.slice e)] : (Op.equal t (.slice p n c) (.slice none m c')).run P w = .ok p.isNone w :=
  equal_of fun d => by cases p <;> simp [Op.equalIn, run_under' (t := t)]
theorem r_eqlSliceNil {e : TypeId} {p : Option Addr} {n c m c' : Nat} [it : TU P t (.slice e)] (hx : ev σ x = some (.slice p n c)) (hy : ev σ y = some (.slice none m c')) : V P σ (.binOp .eql t x y t') (.bool p.isNone) w := by
  refine ⟨fun ρ ha o ho => ?_⟩
  simp [execOp, ho, ha _ _ hx, ha _ _ hy, eqGuard_slice, binOp, run_equalSliceNil (e := e)]
theorem r_neqSliceNil {e : TypeId} {p : Option Addr} {n c m c' : Nat} [it : TU P t (.slice e)] (hx : ev σ x = some (.slice p n c)) (hy : ev σ y = some (.slice none m c')) : V P σ (.binOp .neq t x y t') (.bool p.isSome) w := by
  refine ⟨fun ρ ha o ho => ?_⟩
  simp [execOp, ho, ha _ _ hx, ha _ _ hy, eqGuard_slice, binOp, run_equalSliceNil (e := e)]

/-! ### len, min, max -/
theorem resolve_builtin {ρ : Operand → Value} {bi : Builtin} {args : Array Operand} {ats : Array TypeId} {ty : TypeId} (w : World) :
    ∃ cs, (resolve ρ ⟨.builtin bi, args, ats⟩ ty).run P w = .ok { target := .builtin bi ats ty cs, args := args.map ρ } w := ⟨_, rfl⟩
/-- A builtin without a word on constants: its own equation is all that is wanted. -/
theorem exec_builtin {ρ : Operand → Value} {bi : Builtin} {args : Array Operand} {ats : Array TypeId} {o : Oper} {r : Result Next} (ho : o.op = .call ⟨.builtin bi, args, ats⟩)
    (h : ∀ cs, (builtin bi ats o.type cs (args.map ρ)).run P w = r) : (execOp ρ o).run P w = r := by
  obtain ⟨cs, hc⟩ := resolve_builtin (P := P) (ρ := ρ) (bi := bi) (args := args) (ats := ats) (ty := o.type) w
  simp only [execOp, ho, Sem.run_bind, hc, Result.andThen_ok, invoke]
  exact h cs
theorem r_lenSlice {e at' : TypeId} {p : Option Addr} {n c : Nat} [it : TU P at' (.slice e)] (hx : ev σ x = some (.slice p n c)) :
    V P σ (.call ⟨.builtin .len, #[x], #[at']⟩) (.int .i64 n) w := by
  refine ⟨fun ρ ha o ho => ?_⟩; exact exec_builtin ho fun cs => by simp [ha _ _ hx, builtin, Builtin.len_, run_under' (t := at'), goInt]
theorem r_lenString {at' : TypeId} {s : ByteArray} [it : TU P at' .string] (hx : ev σ x = some (.string s)) :
    V P σ (.call ⟨.builtin .len, #[x], #[at']⟩) (.int .i64 s.size) w := by
  refine ⟨fun ρ ha o ho => ?_⟩; exact exec_builtin ho fun cs => by simp [ha _ _ hx, builtin, Builtin.len_, run_under' (t := at'), goInt]
theorem r_lenMap {kt e at' : TypeId} {m : Nat} {es : Array MapEntry} {cl : Nat} [it : TU P at' (.map kt e)] (hx : ev σ x = some (.map (some m))) (hm : w.heap[m]? = some (.map es cl)) :
    V P σ (.call ⟨.builtin .len, #[x], #[at']⟩) (.int .i64 es.size) w := by
  refine ⟨fun ρ ha o ho => ?_⟩; exact exec_builtin ho fun cs => by simp [ha _ _ hx, builtin, Builtin.len_, run_under' (t := at'), goInt, getObj, Sem.run, hm]
theorem r_min {ats : Array TypeId} (hx : ev σ x = some (.int k a)) (hy : ev σ y = some (.int k' b)) (hr : min a b = r) :
    V P σ (.call ⟨.builtin .min, #[x, y], ats⟩) (.int k r) w := by
  refine ⟨fun ρ ha o ho => ?_⟩; subst hr
  refine exec_builtin ho fun cs => ?_
  simp [ha _ _ hx, ha _ _ hy, builtin, Builtin.min_, Builtin.min2]
  split <;> omega
theorem r_max {ats : Array TypeId} (hx : ev σ x = some (.int k a)) (hy : ev σ y = some (.int k' b)) (hr : max a b = r) :
    V P σ (.call ⟨.builtin .max, #[x, y], ats⟩) (.int k r) w := by
  refine ⟨fun ρ ha o ho => ?_⟩; subst hr
  refine exec_builtin ho fun cs => ?_
  simp [ha _ _ hx, ha _ _ hy, builtin, Builtin.max_, Builtin.max2]
  split <;> omega

/-! ### Calls -/
theorem r_call {f : FuncId} {args : Array Operand} {ats : Array TypeId} {vs : List Value} [FN P f] (h : evs σ args.toList = some vs) :
    EN P σ (.call ⟨.value (.func f), args, ats⟩) f vs.toArray w := by
  refine ⟨fun ρ ha o ho => ?_⟩
  have e1 : args.map ρ = vs.toArray := by apply Array.ext'; simpa using evs_map h ha
  have e2 : ρ (.func f) = .func (.func f) #[] #[] := ha (.func f) _ rfl
  simp [execOp, ho, resolve, e1, e2, Deferred.ofValue, invoke, FN.h]
/-- A function value is called. -/
theorem r_callv {f : FuncId} {x : Operand} {args : Array Operand} {ats : Array TypeId} {vs cs : List Value} [FN P f] (hx : ev σ x = some (.func (.func f) #[] cs.toArray)) (h : evs σ args.toList = some vs) :
    EN P σ (.call ⟨.value x, args, ats⟩) f (vs ++ cs).toArray w := by
  refine ⟨fun ρ ha o ho => ?_⟩
  have e1 : args.map ρ = vs.toArray := by apply Array.ext'; simpa using evs_map h ha
  simp [execOp, ho, resolve, e1, ha _ _ hx, Deferred.ofValue, invoke, FN.h]

/-! ### Memory: addresses -/
theorem r_fieldAddr {s : TypeId} {f off b' o' : Nat} [TF P s f off] (hx : ev σ x = some (.pointer (some ⟨b', o', none⟩))) : V P σ (.fieldAddr s x f) (.pointer (some ⟨b', o' + off, none⟩)) w := by
  refine ⟨fun ρ ha o ho => ?_⟩; simp [execOp, ho, ha _ _ hx, TF.h]
theorem add_at (b' o' n : Nat) : (⟨b', o', none⟩ : Addr).add n = ⟨b', o' + n, none⟩ := by
  unfold Addr.add; split <;> simp_all
theorem r_indexAddrSlice {t e : TypeId} {s by' b' o' n c : Nat} {i : Nat} [TU P t (.slice e)] [TI P e s by'] (hx : ev σ x = some (.slice (some ⟨b', o', none⟩) n c)) (hy : ev σ y = some (.int k i)) (hi : i < n) :
    V P σ (.indexAddr t x y) (.pointer (some ⟨b', o' + i * s, none⟩)) w := by
  refine ⟨fun ρ ha o ho => ?_⟩
  simp [execOp, ho, ha _ _ hx, ha _ _ hy, Instr.indexAt, asIntOf, run_under' (t := t), hi, run_sizeOf' (t := e), add_at]
theorem r_indexAddrArray {t e : TypeId} {s by' b' o' n : Nat} {i : Nat} [TU P t (.array n e)] [TI P e s by'] (hx : ev σ x = some (.pointer (some ⟨b', o', none⟩))) (hy : ev σ y = some (.int k i)) (hi : i < n) :
    V P σ (.indexAddr t x y) (.pointer (some ⟨b', o' + i * s, none⟩)) w := by
  refine ⟨fun ρ ha o ho => ?_⟩
  simp [execOp, ho, ha _ _ hx, ha _ _ hy, Instr.indexAt, Instr.sureAddr, asIntOf, run_under' (t := t), hi, run_sizeOf' (t := e), add_at]

/-! ### Memory: reading -/
theorem cell_of {b' o' : Nat} {cs : Array Value} {e : TypeId} {fz : Nat × Nat} {v : Value} (h : w.heap[b']? = some (.cells cs e fz)) (hv : cs[o']? = some v) : w.cell? ⟨b', o', none⟩ = some v := by
  simp [World.cell?, h, hv]
theorem r_load1 {t : TypeId} {b' o' : Nat} {cs : Array Value} {e : TypeId} {fz : Nat × Nat} {v : Value} [TS P t] (hx : ev σ x = some (.pointer (some ⟨b', o', none⟩))) (hm : w.heap[b']? = some (.cells cs e fz)) (hv : cs[o']? = some v) :
    V P σ (.load t x) v w := by
  refine ⟨fun ρ ha o ho => ?_⟩; simp [execOp, ho, ha _ _ hx, Instr.loadAt, Instr.sureAddr, loadVar, TS.h, cell_of hm hv]
theorem run_loadSeg {b' o' n : Nat} {cs : Array Value} {e : TypeId} {fz : Nat × Nat} (hm : w.heap[b']? = some (.cells cs e fz)) (hn : o' + n ≤ cs.size) :
    (loadCells ⟨b', o', none⟩ n).run P w = .ok (cs.extract o' (o' + n)) w := by
  have h := run_loadCells_list (P := P) w ⟨b', o', none⟩ (cs.extract o' (o' + n)).toList (by
    intro j v hj
    rw [add_at]
    refine cell_of hm ?_
    rw [Array.getElem?_toList, Array.getElem?_extract] at hj
    split at hj
    · exact hj
    · cases hj)
  have e1 : (cs.extract o' (o' + n)).toList.length = n := by simp; omega
  rw [e1] at h
  rw [h]
theorem r_loadN {t : TypeId} {b' o' s by' : Nat} {cs : Array Value} {e : TypeId} {fz : Nat × Nat} {vs : Array Value} [TA P t] [TI P t s by'] (hx : ev σ x = some (.pointer (some ⟨b', o', none⟩))) (hm : w.heap[b']? = some (.cells cs e fz))
    (hn : o' + s ≤ cs.size) (hv : cs.extract o' (o' + s) = vs) : V P σ (.load t x) (.agg vs) w := by
  refine ⟨fun ρ ha o ho => ?_⟩; simp [execOp, ho, ha _ _ hx, Instr.loadAt, Instr.sureAddr, loadVar, TA.h, run_sizeOf' (t := t), run_loadSeg hm hn, hv]
/-- A whole variable is read. -/
theorem r_loadW {t : TypeId} {b' s by' : Nat} {cs : Array Value} {e : TypeId} {fz : Nat × Nat} [TA P t] [TI P t s by'] (hx : ev σ x = some (.pointer (some ⟨b', 0, none⟩))) (hm : w.heap[b']? = some (.cells cs e fz))
    (hn : cs.size = s) : V P σ (.load t x) (.agg cs) w :=
  r_loadN hx hm (by omega) (by simp [← hn])

/-! ### Memory: what turns -/
/-- w' is w but for block b, which is o. -/
structure Upd (w w' : World) (b : Nat) (o : Obj) : Prop where
  os : w'.os = w.os
  tape : w'.tape = w.tape
  output : w'.output = w.output
  size : w.heap.size ≤ w'.heap.size
  at' : w'.heap[b]? = some o
  other : ∀ k, k ≠ b → w'.heap[k]? = w.heap[k]?

theorem Upd.alloc (w : World) (o : Obj) : Upd w (w.alloc o) w.heap.size o :=
  ⟨rfl, rfl, rfl, by simp, heap_alloc_new w o, fun k hk => by
    show (w.heap.push o)[k]? = _
    rw [Array.getElem?_push, if_neg hk]⟩
theorem Upd.setRow {w : World} {g : Nat} {old cs : Array Value} {t : TypeId} {fr : Nat × Nat} (hg : w.heap[g]? = some (.cells old t fr)) : Upd w (w.setRow g cs) g (.cells cs t fr) :=
  ⟨rfl, rfl, rfl, by simp, setRow_heap w g old cs t fr hg, fun k hk => setRow_other w g k cs hk⟩
def World.putObj (w : World) (g : Nat) (o : Obj) : World := { w with heap := w.heap.setIfInBounds g o }
theorem Upd.putObj {w : World} {g : Nat} {o : Obj} (hg : g < w.heap.size) : Upd w (World.putObj w g o) g o :=
  ⟨rfl, rfl, rfl, by simp [World.putObj], by simp [World.putObj, hg], fun k hk => by simp [World.putObj, Array.getElem?_setIfInBounds_ne (Ne.symm hk)]⟩

theorem vw_alloc {t : TypeId} {z : Value} [TZ P t z] : VW P σ (.alloc t) (.pointer (some ⟨w.heap.size, 0, none⟩)) w (w.alloc (.cells z.cells t)) := by
  refine ⟨fun ρ ha o ho => ?_⟩; simp [execOp, ho, Instr.alloc, run_zero' (t := t), newVar, newRow]
theorem vw_box {t : TypeId} {v : Value} (hx : ev σ x = some v) : VW P σ (.box t x) (.pointer (some ⟨w.heap.size, 0, none⟩)) w (w.alloc (.cells v.cells t)) := by
  refine ⟨fun ρ ha o ho => ?_⟩; simp [execOp, ho, ha _ _ hx, Instr.box, newVar, newRow]
theorem vw_makeMap {t : TypeId} : VW P σ (.makeMap t none) (.map (some w.heap.size)) w (w.alloc (.map #[] 0)) := by
  refine ⟨fun ρ ha o ho => ?_⟩; simp [execOp, ho, Instr.makeMap]

/-- Cells written over a row from a place on. -/
def splice (cur : Array Value) (o : Nat) (vs : Array Value) : Array Value := (cur.toList.take o ++ vs.toList ++ cur.toList.drop (o + vs.size)).toArray
theorem uw_store {t : TypeId} {b' o' s by' : Nat} {cs : Array Value} {e : TypeId} {v : Value} [TI P t s by'] (hx : ev σ x = some (.pointer (some ⟨b', o', none⟩))) (hy : ev σ y = some v)
    (hm : w.heap[b']? = some (.cells cs e (0, 0))) (hs : v.cells.size = s) (hn : o' + s ≤ cs.size) (h1 : v.cells.toList.all Value.oneCell' = true) : UW P σ (.store t x y) w (w.setRow b' (splice cs o' v.cells)) := by
  refine ⟨fun ρ ha o ho => ?_⟩
  have hst := run_storeCells_at P b' o' e v.cells.toList 0 cs w hm (by simp [hs]; omega) (by rw [List.all_eq_true] at h1; exact h1)
  simp [execOp, ho, ha _ _ hx, ha _ _ hy, Instr.storeAt, Instr.sureAddr, storeVar, run_sizeOf' (t := t), hs]
  rw [hst]
  simp [splice, hs]
theorem uw_store1 {t : TypeId} {b' o' by' : Nat} {cs : Array Value} {e : TypeId} {v : Value} [TI P t 1 by'] (hx : ev σ x = some (.pointer (some ⟨b', o', none⟩))) (hy : ev σ y = some v)
    (hm : w.heap[b']? = some (.cells cs e (0, 0))) (hn : o' < cs.size) (h1 : v.oneCell' = true) : UW P σ (.store t x y) w (w.setRow b' (cs.setIfInBounds o' v)) := by
  have hv : v.cells = #[v] := by cases v <;> simp_all [Value.cells, Value.oneCell']
  have h := uw_store (P := P) (σ := σ) (t := t) hx hy hm (by rw [hv]; rfl) (by omega) (by rw [hv]; simp [h1])
  have e2 : splice cs o' v.cells = cs.setIfInBounds o' v := by
    rw [hv]
    unfold splice
    apply Array.ext'
    simp only [Array.toList_setIfInBounds]
    apply List.ext_getElem?
    intro j
    simp only [List.append_assoc, List.getElem?_append, List.length_take, Array.length_toList, List.getElem?_take, List.getElem?_set, List.getElem?_drop]
    simp
    have hm' : min o' cs.size = o' := by omega
    simp only [hm']
    by_cases h1 : j < o'
    · simp [h1]; intro h; omega
    · by_cases h2 : j = o'
      · subst h2; simp; omega
      · have h3 : ¬ o' = j := by omega
        simp only [h1, if_false, h3]
        rw [show j - o' = (j - o' - 1) + 1 by omega]
        simp
        congr 1; omega
  rwa [e2] at h
end
end Go.Proofs.YtibobcjfjnoclaaGreatDoor.Z
end
section
/- Memory as a list of chunks beside what was there: what a function has made or may write, and what it leaves alone. -/
set_option linter.unusedVariables false
set_option linter.unusedSimpArgs false
namespace Go.Proofs.YtibobcjfjnoclaaGreatDoor.Z
open Go Go.RowKit

/-- Nothing that was there turned, but what X names. -/
structure ExtX (w : World) (X : Nat → Prop) (w' : World) : Prop where
  os : w'.os = w.os
  tape : w'.tape = w.tape
  output : w'.output = w.output
  size : w.heap.size ≤ w'.heap.size
  keep : ∀ b, b < w.heap.size → ¬ X b → w'.heap[b]? = w.heap[b]?

def No : Nat → Prop := fun _ => False
abbrev Ext (w w' : World) : Prop := ExtX w No w'

theorem ExtX.refl (w : World) (X : Nat → Prop) : ExtX w X w := ⟨rfl, rfl, rfl, Nat.le_refl _, fun _ _ _ => rfl⟩
theorem ExtX.trans {w w1 w2 : World} {X Y Z : Nat → Prop} (h : ExtX w X w1) (k : ExtX w1 Y w2) (hx : ∀ b, X b → Z b) (hy : ∀ b, b < w.heap.size → Y b → Z b) : ExtX w Z w2 :=
  ⟨k.os.trans h.os, k.tape.trans h.tape, k.output.trans h.output, Nat.le_trans h.size k.size,
   fun b hb hz => (k.keep b (Nat.lt_of_lt_of_le hb h.size) (fun y => hz (hy b hb y))).trans (h.keep b hb (fun x => hz (hx b x)))⟩
theorem ExtX.mono {w w' : World} {X Y : Nat → Prop} (h : ExtX w X w') (hx : ∀ b, X b → Y b) : ExtX w Y w' :=
  ⟨h.os, h.tape, h.output, h.size, fun b hb hy => h.keep b hb (fun x => hy (hx b x))⟩
theorem Ext.trans {w w1 w2 : World} (h : Ext w w1) (k : Ext w1 w2) : Ext w w2 := ExtX.trans h k (fun _ h => h) (fun _ _ h => h)
theorem Ext.toX {w w' : World} {X : Nat → Prop} (h : Ext w w') : ExtX w X w' := h.mono (fun _ h => h.elim)
theorem Ext.below {w w' : World} (h : Ext w w') : Below w.heap.size w w' := ⟨h.os, h.tape, h.output, h.size, fun k hk => h.keep k hk (fun h => h)⟩
theorem Ext.of_below {w w' : World} (h : Below w.heap.size w w') : Ext w w' := ⟨h.os, h.tape, h.output, h.size, fun k hk _ => h.block k hk⟩
theorem ExtX.at {w w' : World} {X : Nat → Prop} (h : ExtX w X w') {b : Nat} {o : Obj} (hb : w.heap[b]? = some o) (hx : ¬ X b) : w'.heap[b]? = some o :=
  (h.keep b (Array.getElem?_eq_some_iff.1 hb).1 hx).trans hb
theorem Upd.extX {w w' : World} {b : Nat} {o : Obj} (h : Upd w w' b o) : ExtX w (· = b) w' := ⟨h.os, h.tape, h.output, h.size, fun k _ hk => h.other k hk⟩
theorem drew_ext (w : World) (n : Nat) : Ext w { w with drawn := n } := ⟨rfl, rfl, rfl, Nat.le_refl _, fun _ _ _ => rfl⟩

/-! ### Chunks -/
/-- The slice v, of n elements of s cells each (of type e), is the call's own: nil, or at the head of a block that nobody else looks at; its cells are xs. -/
def OwnR (w : World) (e s : Nat) (v : Value) (n : Nat) (xs : List Value) : Prop :=
  xs.length = n * s ∧ ((v = .slice none 0 0 ∧ n = 0) ∨ ∃ g cap cur, v = .slice (some ⟨g, 0, none⟩) n cap ∧ w.heap[g]? = some (.cells cur e (0, 0)) ∧ n ≤ cap ∧ cap ≤ maxLen ∧ cap * s ≤ cur.size ∧ cur.toList.take (n * s) = xs)
theorem OwnR.lt {w : World} {e s : Nat} {v : Value} {n : Nat} {xs : List Value} (h : OwnR w e s v n xs) : ∀ k, v.ownBlock = some k → k < w.heap.size := by
  intro k hk
  rcases h.2 with ⟨rfl, _⟩ | ⟨g, cap, cur, rfl, hg, _⟩
  · simp [Value.ownBlock] at hk
  · simp [Value.ownBlock] at hk; subst hk; exact (Array.getElem?_eq_some_iff.1 hg).1
/-- The same, but that the slice may begin anywhere in its block. -/
def OwnAt (w : World) (e s : Nat) (v : Value) (n : Nat) (xs : List Value) : Prop :=
  xs.length = n * s ∧ ((v = .slice none 0 0 ∧ n = 0) ∨ ∃ g o cap cur, v = .slice (some ⟨g, o, none⟩) n cap ∧ w.heap[g]? = some (.cells cur e (0, 0)) ∧ n ≤ cap ∧ cap ≤ maxLen ∧ o + cap * s ≤ cur.size ∧ (cur.toList.drop o).take (n * s) = xs)
theorem OwnAt.lt {w : World} {e s : Nat} {v : Value} {n : Nat} {xs : List Value} (h : OwnAt w e s v n xs) : ∀ k, v.ownBlock = some k → k < w.heap.size := by
  intro k hk
  rcases h.2 with ⟨rfl, _⟩ | ⟨g, o, cap, cur, rfl, hg, _⟩
  · simp [Value.ownBlock] at hk
  · simp [Value.ownBlock] at hk; subst hk; exact (Array.getElem?_eq_some_iff.1 hg).1
theorem OwnR.toAt {w : World} {e s : Nat} {v : Value} {n : Nat} {xs : List Value} (h : OwnR w e s v n xs) : OwnAt w e s v n xs :=
  ⟨h.1, h.2.imp id fun ⟨g, cap, cur, h1, h2, h3, h4, h5, h6⟩ => ⟨g, 0, cap, cur, h1, h2, h3, h4, by omega, by simpa using h6⟩⟩
theorem OwnR.nil (w : World) (e s : Nat) : OwnR w e s (.slice none 0 0) 0 [] := ⟨by simp, .inl ⟨rfl, rfl⟩⟩
theorem OwnR.of_row {w : World} {base e s : Nat} {v : Value} {n : Nat} {xs : List Value} (h : w.ownsRow base e s v n xs) : OwnR w e s v n xs :=
  ⟨h.1, h.2.imp id fun ⟨g, cap, cur, h1, _, h3, h4, h5, h6, h7⟩ => ⟨g, cap, cur, h1, h3, h4, h5, Nat.le_of_eq h6.symm, h7⟩⟩

inductive Chunk where
  | blk (b : Nat) (o : Obj)
  | own (v : Value) (e s n : Nat) (xs : List Value)
  | sub (v : Value) (e s n : Nat) (xs : List Value)

def Chunk.fp : Chunk → Option Nat
  | .blk b _ => some b
  | .own v _ _ _ _ => v.ownBlock
  | .sub v _ _ _ _ => v.ownBlock
def Chunk.ok (w : World) : Chunk → Prop
  | .blk b o => w.heap[b]? = some o
  | .own v e s n xs => OwnR w e s v n xs
  | .sub v e s n xs => OwnAt w e s v n xs

theorem Chunk.lt {w : World} {c : Chunk} (h : c.ok w) : ∀ g, c.fp = some g → g < w.heap.size := by
  intro g hg
  cases c with
  | blk b o => simp only [fp, Option.some.injEq] at hg; subst hg; exact (Array.getElem?_eq_some_iff.1 h).1
  | own v e s n xs => exact OwnR.lt h g hg
  | sub v e s n xs => exact OwnAt.lt h g hg

theorem Chunk.stays {w w' : World} {c : Chunk} (h : c.ok w) (hk : ∀ g, c.fp = some g → w'.heap[g]? = w.heap[g]?) : c.ok w' := by
  cases c with
  | blk b o => exact (hk b rfl).trans h
  | own v e s n xs =>
    refine ⟨h.1, ?_⟩
    rcases h.2 with hn | ⟨g, cap, cur, rfl, hgg, rest⟩
    · exact .inl hn
    · exact .inr ⟨g, cap, cur, rfl, (hk g rfl).trans hgg, rest⟩
  | sub v e s n xs =>
    refine ⟨h.1, ?_⟩
    rcases h.2 with hn | ⟨g, o, cap, cur, rfl, hgg, rest⟩
    · exact .inl hn
    · exact .inr ⟨g, o, cap, cur, rfl, (hk g rfl).trans hgg, rest⟩

def apart (c d : Chunk) : Prop := ∀ g, c.fp = some g → d.fp ≠ some g

structure Mem (w0 : World) (X : Nat → Prop) (L : List Chunk) (w : World) : Prop where
  ext : ExtX w0 X w
  ok : ∀ c ∈ L, c.ok w
  ap : L.Pairwise apart
  mine : ∀ c ∈ L, ∀ g, c.fp = some g → X g ∨ w0.heap.size ≤ g

theorem Mem.start (w : World) (X : Nat → Prop) : Mem w X [] w := ⟨.refl _ _, by simp, .nil, by simp⟩

section
variable {w0 w w' : World} {X : Nat → Prop} {L : List Chunk}

/-- A change that leaves the chunks alone and what is not X's. -/
theorem Mem.step (h : Mem w0 X L w) {Y : Nat → Prop} (he : ExtX w Y w') (hy : ∀ b, b < w0.heap.size → Y b → X b) (hl : ∀ c ∈ L, ∀ g, c.fp = some g → ¬ Y g) : Mem w0 X L w' :=
  ⟨h.ext.trans he (fun _ h => h) hy, fun c hc => Chunk.stays (h.ok c hc) fun g hg => he.keep g (Chunk.lt (h.ok c hc) g hg) (hl c hc g hg), h.ap, h.mine⟩
theorem Mem.ext' (h : Mem w0 X L w) (he : Ext w w') : Mem w0 X L w' := h.step he (fun _ _ h => h.elim) (fun _ _ _ _ h => h)

theorem Mem.push (h : Mem w0 X L w) {b : Nat} {o : Obj} (hu : Upd w w' b o) (hb : b = w.heap.size) : Mem w0 X (.blk b o :: L) w' := by
  subst hb
  have hne : ∀ c ∈ L, ∀ g, c.fp = some g → g ≠ w.heap.size := fun c hc g hg => by have := Chunk.lt (h.ok c hc) g hg; omega
  refine ⟨h.ext.trans hu.extX (fun _ h => h) (fun b hb hy => ?_), ?_, ?_, ?_⟩
  · have := h.ext.size; have hy' : b = w.heap.size := hy; omega
  · intro c hc
    rcases List.mem_cons.1 hc with rfl | hc
    · exact hu.at'
    · exact Chunk.stays (h.ok c hc) fun g hg => hu.other g (hne c hc g hg)
  · refine List.pairwise_cons.2 ⟨fun c hc g hg hg' => ?_, h.ap⟩
    simp only [Chunk.fp, Option.some.injEq] at hg
    exact hne c hc g hg' hg.symm
  · intro c hc g hg
    rcases List.mem_cons.1 hc with rfl | hc
    · simp only [Chunk.fp, Option.some.injEq] at hg; subst hg; exact .inr h.ext.size
    · exact h.mine c hc g hg

/-- Something that a callee made, and that is handed over. -/
theorem Mem.add (h : Mem w0 X L w) {c : Chunk} (hc : c.ok w) (hfp : ∀ g, c.fp = some g → w0.heap.size ≤ g ∧ ∀ d ∈ L, d.fp ≠ some g) : Mem w0 X (c :: L) w := by
  refine ⟨h.ext, ?_, ?_, ?_⟩
  · intro d hd
    rcases List.mem_cons.1 hd with rfl | hd
    · exact hc
    · exact h.ok d hd
  · exact List.pairwise_cons.2 ⟨fun d hd g hg => (hfp g hg).2 d hd, h.ap⟩
  · intro d hd g hg
    rcases List.mem_cons.1 hd with rfl | hd
    · exact .inr (hfp g hg).1
    · exact h.mine d hd g hg

theorem Mem.nilOwn (h : Mem w0 X L w) (e s : Nat) : Mem w0 X (.own (.slice none 0 0) e s 0 [] :: L) w :=
  h.add (OwnR.nil w e s) (by intro g hg; simp [Chunk.fp, Value.ownBlock] at hg)

/-- A slice that a call made, in blocks that were not there. -/
structure NewO (w w' : World) (e s : Nat) (v : Value) (n : Nat) (xs : List Value) : Prop where
  own : OwnR w' e s v n xs
  new : ∀ g, v.ownBlock = some g → w.heap.size ≤ g
/-- What a callee made from the world w on is nobody's that was there. -/
theorem Mem.addNew (h : Mem w0 X L w) (he : Ext w w') {v : Value} {e s n : Nat} {xs : List Value} (hc : NewO w w' e s v n xs) : Mem w0 X (.own v e s n xs :: L) w' := by
  refine (h.ext' he).add hc.own fun g hg => ?_
  have hge := hc.new g hg
  refine ⟨Nat.le_trans h.ext.size hge, fun d hd hd' => ?_⟩
  have := Chunk.lt (h.ok d hd) g hd'
  omega

/-- What may be written may be said to be more. -/
theorem Mem.weak (h : Mem w0 No L w) (X : Nat → Prop) : Mem w0 X L w := ⟨Ext.toX h.ext, h.ok, h.ap, fun c hc g hg => .inr ((h.mine c hc g hg).resolve_left (fun h => h))⟩
theorem Mem.own {v : Value} {e s n : Nat} {xs : List Value} (h : Mem w0 X (.own v e s n xs :: L) w) : OwnR w e s v n xs := h.ok (.own v e s n xs) (by simp)
theorem Mem.drop {c : Chunk} (h : Mem w0 X (c :: L) w) : Mem w0 X L w :=
  ⟨h.ext, fun d hd => h.ok d (List.mem_cons_of_mem _ hd), (List.pairwise_cons.1 h.ap).2, fun d hd => h.mine d (List.mem_cons_of_mem _ hd)⟩

def picks (L : List Chunk) : List Nat → Option (List Chunk)
  | [] => some []
  | i :: r => match L[i]? with
    | none => none
    | some c => match picks L r with
      | none => none
      | some l => some (c :: l)
/-- Only these chunks are kept, in this order: the places rise. -/
def rising : List Nat → Bool
  | [] => true
  | [_] => true
  | a :: b :: r => Nat.blt a b && rising (b :: r)
theorem picks_sub : ∀ (is : List Nat) (L L' : List Chunk) (k : Nat), (∀ i ∈ is, k ≤ i) → rising is = true → picks L is = some L' → L'.Sublist (L.drop k) := by
  intro is
  induction is with
  | nil => intro L L' k _ _ h; simp [picks] at h; subst h; exact List.nil_sublist _
  | cons i r ih =>
    intro L L' k hk hr h
    simp only [picks] at h
    cases hc : L[i]? with
    | none => simp [hc] at h
    | some c =>
      rw [hc] at h
      cases hp : picks L r with
      | none => simp [hp] at h
      | some l =>
        rw [hp] at h
        simp at h; subst h
        have hi := hk i (by simp)
        have hlt := (List.getElem?_eq_some_iff.1 hc).1
        have hri : (∀ j ∈ r, i + 1 ≤ j) ∧ rising r = true := by
          cases r with
          | nil => simp [rising]
          | cons b t =>
            simp only [rising, Bool.and_eq_true, Nat.blt_eq] at hr
            refine ⟨?_, hr.2⟩
            have : ∀ (l : List Nat) (a : Nat), rising (a :: l) = true → ∀ j ∈ a :: l, a ≤ j := by
              intro l
              induction l with
              | nil => intro a _ j hj; simp at hj; omega
              | cons d e ihh =>
                intro a ha j hj
                simp only [rising, Bool.and_eq_true, Nat.blt_eq] at ha
                rcases List.mem_cons.1 hj with rfl | hj
                · omega
                · have := ihh d ha.2 j hj; omega
            intro j hj
            have := this t b hr.2 j hj
            omega
        have h1 := ih L l (i + 1) hri.1 hri.2 hp
        have h2 : L.drop i = c :: L.drop (i + 1) := by
          rw [List.drop_eq_getElem_cons hlt]
          congr 1
          exact (List.getElem?_eq_some_iff.1 hc).2
        have h3 : (L.drop i).Sublist (L.drop k) := by
          rw [show i = k + (i - k) by omega, ← List.drop_drop]
          exact List.drop_sublist _ _
        exact (h2 ▸ List.Sublist.cons_cons c h1).trans h3
theorem Mem.sub (h : Mem w0 X L w) (is : List Nat) {L' : List Chunk} (hp : picks L is = some L') (hr : rising is = true := by rfl) : Mem w0 X L' w := by
  have hs := picks_sub is L L' 0 (fun _ _ => Nat.zero_le _) hr hp
  rw [List.drop_zero] at hs
  exact ⟨h.ext, fun c hc => h.ok c (hs.subset hc), h.ap.sublist hs, fun c hc => h.mine c (hs.subset hc)⟩
/-- The first two chunks change places. -/
theorem Mem.swap {c d : Chunk} (h : Mem w0 X (c :: d :: L) w) : Mem w0 X (d :: c :: L) w := by
  have h1 := List.pairwise_cons.1 h.ap
  have h2 := List.pairwise_cons.1 h1.2
  refine ⟨h.ext, fun x hx => h.ok x (by simp at hx ⊢; rcases hx with h | h | h <;> simp [h]), ?_, fun x hx => h.mine x (by simp at hx ⊢; rcases hx with h | h | h <;> simp [h])⟩
  refine List.pairwise_cons.2 ⟨fun x hx => ?_, List.pairwise_cons.2 ⟨fun x hx => h1.1 x (by simp [hx]), h2.2⟩⟩
  rcases List.mem_cons.1 hx with rfl | hx
  · intro g hg hg'; exact h1.1 d (by simp) g hg' hg
  · exact h2.1 x hx
end

/-! ### Where a block stands in the list -/
class In (L : List Chunk) (b : Nat) (o : outParam Obj) : Prop where
  h : .blk b o ∈ L
instance (priority := 1100) In.head {L : List Chunk} {b : Nat} {o : Obj} : In (.blk b o :: L) b o := ⟨by simp⟩
instance (priority := 900) In.tail {L : List Chunk} {b : Nat} {o : Obj} {c : Chunk} [i : In L b o] : In (c :: L) b o := ⟨List.mem_cons_of_mem _ i.h⟩

/-- The list with one block's object turned. -/
class Put (L : List Chunk) (b : Nat) (o : outParam Obj) (o' : Obj) (L' : outParam (List Chunk)) : Prop where
  h : ∃ A B, L = A ++ .blk b o :: B ∧ L' = A ++ .blk b o' :: B
instance (priority := 1100) Put.head {L : List Chunk} {b : Nat} {o o' : Obj} : Put (.blk b o :: L) b o o' (.blk b o' :: L) := ⟨[], L, rfl, rfl⟩
instance (priority := 900) Put.tail {L L' : List Chunk} {b : Nat} {o o' : Obj} {c : Chunk} [i : Put L b o o' L'] : Put (c :: L) b o o' (c :: L') := ⟨by
  obtain ⟨A, B, h1, h2⟩ := i.h
  exact ⟨c :: A, B, by simp [h1], by simp [h2]⟩⟩

section
variable {w0 w w' : World} {X : Nat → Prop} {L : List Chunk}
theorem Mem.get (h : Mem w0 X L w) {b : Nat} {o : Obj} (i : In L b o) : w.heap[b]? = some o := h.ok _ i.h

/-- One chunk in the list turns, and the world with it. -/
theorem Mem.turn {A B : List Chunk} {c c' : Chunk} (h : Mem w0 X (A ++ c :: B) w) (he : ExtX w (fun b => c.fp = some b) w') (hc : c'.ok w') (hfp : ∀ g, c'.fp = some g → c.fp = some g ∨ w.heap.size ≤ g) :
    Mem w0 X (A ++ c' :: B) w' := by
  obtain ⟨hA, hcB, hAB⟩ := List.pairwise_append.1 h.ap
  obtain ⟨hcB1, hB⟩ := List.pairwise_cons.1 hcB
  have hmem : ∀ d ∈ A ++ B, d ∈ A ++ c :: B := fun d hd => by simp at hd ⊢; rcases hd with h | h <;> simp [h]
  have hne : ∀ d ∈ A ++ B, apart d c ∧ apart c d := fun d hd => by
    rcases List.mem_append.1 hd with hd | hd
    · exact ⟨hAB d hd c (by simp), fun g hg hg' => hAB d hd c (by simp) g hg' hg⟩
    · exact ⟨fun g hg hg' => hcB1 d hd g hg' hg, hcB1 d hd⟩
  have hold : ∀ d ∈ A ++ B, d.ok w' := fun d hd => Chunk.stays (h.ok d (hmem d hd)) fun g hg => he.keep g (Chunk.lt (h.ok d (hmem d hd)) g hg) (fun e => (hne d hd).1 g hg e)
  have hap : ∀ d ∈ A ++ B, apart c' d ∧ apart d c' := fun d hd => by
    have key : ∀ g, c'.fp = some g → d.fp ≠ some g := fun g hg hg' => by
      rcases hfp g hg with h1 | h1
      · exact (hne d hd).2 g h1 hg'
      · have := Chunk.lt (h.ok d (hmem d hd)) g hg'; omega
    exact ⟨key, fun g hg hg' => key g hg' hg⟩
  refine ⟨h.ext.trans he (fun _ h => h) (fun b hb hy => ?_), ?_, ?_, ?_⟩
  · rcases h.mine c (by simp) b hy with h1 | h1
    · exact h1
    · omega
  · intro d hd
    rcases List.mem_append.1 hd with hd | hd
    · exact hold d (by simp [hd])
    · rcases List.mem_cons.1 hd with rfl | hd
      · exact hc
      · exact hold d (by simp [hd])
  · refine List.pairwise_append.2 ⟨hA, List.pairwise_cons.2 ⟨fun d hd => (hap d (by simp [hd])).1, hB⟩, fun a ha d hd => ?_⟩
    rcases List.mem_cons.1 hd with rfl | hd
    · exact (hap a (by simp [ha])).2
    · exact hAB a ha d (by simp [hd])
  · intro d hd g hg
    rcases List.mem_append.1 hd with hd | hd
    · exact h.mine d (by simp [hd]) g hg
    · rcases List.mem_cons.1 hd with rfl | hd
      · rcases hfp g hg with h1 | h1
        · exact h.mine c (by simp) g h1
        · exact .inr (Nat.le_trans h.ext.size h1)
      · exact h.mine d (by simp [hd]) g hg

theorem Mem.upd {L' : List Chunk} {b : Nat} {o o' : Obj} (h : Mem w0 X L w) (i : Put L b o o' L') (hu : Upd w w' b o') : Mem w0 X L' w' := by
  obtain ⟨A, B, rfl, rfl⟩ := i.h
  refine h.turn (hu.extX.mono fun k hk => by subst hk; rfl) hu.at' (fun g hg => .inl hg)
theorem Mem.putGet {L' : List Chunk} {b : Nat} {o o' : Obj} (h : Mem w0 X L w) (i : Put L b o o' L') : w.heap[b]? = some o := by
  obtain ⟨A, B, rfl, rfl⟩ := i.h
  exact h.ok (.blk b o) (by simp)
end
end Go.Proofs.YtibobcjfjnoclaaGreatDoor.Z
end
section
/- The steps that touch memory, over the list of chunks. -/
set_option linter.unusedVariables false
set_option linter.unusedSimpArgs false
namespace Go.Proofs.YtibobcjfjnoclaaGreatDoor.Z
open Go Go.RowKit

def nthL : List Value → Nat → Option Value
  | [], _ => none
  | v :: _, 0 => some v
  | _ :: r, i + 1 => nthL r i
def nth (cs : Array Value) (o : Nat) : Option Value := nthL cs.toList o
theorem nthL_eq : ∀ (l : List Value) (o : Nat), nthL l o = l[o]?
  | [], _ => by simp [nthL]
  | _ :: _, 0 => by simp [nthL]
  | _ :: r, i + 1 => by simp [nthL, nthL_eq r i]
theorem nth_eq (cs : Array Value) (o : Nat) : nth cs o = cs[o]? := by simp [nth, nthL_eq]

def setL : List Value → Nat → Value → Option (List Value)
  | [], _, _ => none
  | _ :: r, 0, v => some (v :: r)
  | a :: r, i + 1, v => match setL r i v with
    | none => none
    | some r' => some (a :: r')
def setA (cs : Array Value) (o : Nat) (v : Value) : Option (Array Value) := match setL cs.toList o v with
  | none => none
  | some l => some l.toArray
theorem setL_eq : ∀ (l : List Value) (o : Nat) (v : Value) (l' : List Value), setL l o v = some l' → o < l.length ∧ l' = l.set o v
  | [], _, _, _, h => by simp [setL] at h
  | _ :: _, 0, _, _, h => by simp [setL] at h; simp [← h]
  | a :: r, i + 1, v, l', h => by
    simp only [setL] at h
    cases hr : setL r i v with
    | none => simp [hr] at h
    | some r' =>
      rw [hr] at h
      obtain ⟨h1, h2⟩ := setL_eq r i v r' hr
      simp at h
      subst h; subst h2
      exact ⟨by simp; omega, by simp⟩
theorem setA_eq {cs : Array Value} {o : Nat} {v : Value} {cs' : Array Value} (h : setA cs o v = some cs') : o < cs.size ∧ cs' = cs.setIfInBounds o v := by
  unfold setA at h
  cases hr : setL cs.toList o v with
  | none => simp [hr] at h
  | some l =>
    rw [hr] at h
    obtain ⟨h1, h2⟩ := setL_eq _ _ _ _ hr
    simp at h
    subst h; subst h2
    exact ⟨by simpa using h1, by apply Array.ext'; simp⟩

def vcells : Value → Option (Array Value)
  | .agg cs => some cs
  | v => some #[v]
theorem vcells_eq {v : Value} {cs : Array Value} (h : vcells v = some cs) : v.cells = cs := by
  cases v <;> simp [vcells] at h <;> simp [Value.cells, h]

section
variable {P : Program} {n : Nat} {ops : Array Oper} {Q : Post} {rest : List Oper} {σ : Env} {w w0 : World} {X : Nat → Prop} {L L' : List Chunk}
variable {d : Nat} {ty : TypeId} {pos : String} {after : Array Edge} {x y : Operand}

theorem ZL.alloc {t : TypeId} {z : Value} {cs : Array Value} [TZ P t z] (hM : Mem w0 X L w) (hz : vcells z = some cs) (hd : Nat.blt d n = true)
    (h : ∀ b w', Mem w0 X (.blk b (.cells cs t) :: L) w' → ZL P n ops Q rest ((d, .pointer (some ⟨b, 0, none⟩)) :: σ) w') : ZL P n ops Q (⟨some d, .alloc t, ty, pos, after, none⟩ :: rest) σ w := by
  refine ZL.vw vw_alloc hd (h _ _ ?_)
  rw [vcells_eq hz]
  exact hM.push (Upd.alloc w _) rfl
theorem ZL.box {t : TypeId} {v : Value} {cs : Array Value} (hM : Mem w0 X L w) (hx : ev σ x = some v) (hz : vcells v = some cs) (hd : Nat.blt d n = true)
    (h : ∀ b w', Mem w0 X (.blk b (.cells cs t) :: L) w' → ZL P n ops Q rest ((d, .pointer (some ⟨b, 0, none⟩)) :: σ) w') : ZL P n ops Q (⟨some d, .box t x, ty, pos, after, none⟩ :: rest) σ w := by
  refine ZL.vw (vw_box hx) hd (h _ _ ?_)
  rw [vcells_eq hz]
  exact hM.push (Upd.alloc w _) rfl
theorem ZL.makeMap {t : TypeId} (hM : Mem w0 X L w) (hd : Nat.blt d n = true)
    (h : ∀ b w', Mem w0 X (.blk b (.map #[] 0) :: L) w' → ZL P n ops Q rest ((d, .map (some b)) :: σ) w') : ZL P n ops Q (⟨some d, .makeMap t none, ty, pos, after, none⟩ :: rest) σ w :=
  ZL.vw vw_makeMap hd (h _ _ (hM.push (Upd.alloc w _) rfl))

theorem r_ld {t : TypeId} {b o : Nat} {cs : Array Value} {e : TypeId} {fz : Nat × Nat} {v : Value} [TS P t] (hM : Mem w0 X L w) (hx : ev σ x = some (.pointer (some ⟨b, o, none⟩))) [i : In L b (.cells cs e fz)] (hv : nth cs o = some v) :
    V P σ (.load t x) v w := r_load1 hx (hM.get i) (by rw [← nth_eq]; exact hv)
theorem r_ldW {t : TypeId} {b s by' : Nat} {cs : Array Value} {e : TypeId} {fz : Nat × Nat} [TA P t] [TI P t s by'] (hM : Mem w0 X L w) (hx : ev σ x = some (.pointer (some ⟨b, 0, none⟩))) [i : In L b (.cells cs e fz)] (hn : cs.size = s) :
    V P σ (.load t x) (.agg cs) w := r_loadW hx (hM.get i) hn

theorem ZL.st {t : TypeId} {b o by' : Nat} {cs cs' : Array Value} {e : TypeId} {v : Value} [TI P t 1 by'] (hM : Mem w0 X L w) (hx : ev σ x = some (.pointer (some ⟨b, o, none⟩))) (hy : ev σ y = some v) [i : Put L b (.cells cs e (0, 0)) (.cells cs' e (0, 0)) L']
    (hs : setA cs o v = some cs') (h1 : v.oneCell' = true) (h : ∀ w', Mem w0 X L' w' → ZL P n ops Q rest σ w') : ZL P n ops Q (⟨none, .store t x y, ty, pos, after, none⟩ :: rest) σ w := by
  obtain ⟨hlt, he⟩ := setA_eq hs
  refine ZL.unit (uw_store1 hx hy (hM.putGet i) hlt h1) (h _ ?_)
  rw [← he]
  exact hM.upd i (Upd.setRow (hM.putGet i))
/-- A whole variable is written. -/
theorem ZL.stW {t : TypeId} {b s by' : Nat} {cs cs' : Array Value} {e : TypeId} {v : Value} [TI P t s by'] (hM : Mem w0 X L w) (hx : ev σ x = some (.pointer (some ⟨b, 0, none⟩))) (hy : ev σ y = some v) (hz : vcells v = some cs') [i : Put L b (.cells cs e (0, 0)) (.cells cs' e (0, 0)) L']
    (hs : cs.size = s) (hs' : cs'.size = s) (h1 : cs'.toList.all Value.oneCell' = true) (h : ∀ w', Mem w0 X L' w' → ZL P n ops Q rest σ w') : ZL P n ops Q (⟨none, .store t x y, ty, pos, after, none⟩ :: rest) σ w := by
  have hz' := vcells_eq hz
  refine ZL.unit (uw_store hx hy (hM.putGet i) (by rw [hz']; exact hs') (by omega) (by rw [hz']; exact h1)) (h _ ?_)
  have e2 : splice cs 0 v.cells = cs' := by
    rw [hz']; unfold splice; apply Array.ext'
    simp; omega
  rw [e2]
  exact hM.upd i (Upd.setRow (hM.putGet i))
end
end Go.Proofs.YtibobcjfjnoclaaGreatDoor.Z
end
section
/- Slices: what a slice reads as; append, and cutting. -/
set_option linter.unusedVariables false
set_option linter.unusedSimpArgs false
namespace Go.Proofs.YtibobcjfjnoclaaGreatDoor.Z
open Go Go.RowKit

/-- v is a slice of n elements of s cells each, whose cells are xs, in a block that X does not name. -/
def SlC (w : World) (X : Nat → Prop) (s : Nat) (v : Value) (n : Nat) (xs : List Value) : Prop :=
  xs.length = n * s ∧ ((v = .slice none 0 0 ∧ n = 0) ∨
    ∃ g o c cs e fz, v = .slice (some ⟨g, o, none⟩) n c ∧ ¬ X g ∧ w.heap[g]? = some (.cells cs e fz) ∧ n ≤ c ∧ c ≤ maxLen ∧ ∀ i u, xs[i]? = some u → cs[o + i]? = some u)

section
variable {w w' : World} {X X' Y : Nat → Prop} {s n m : Nat} {v u : Value} {xs ys : List Value} {e : Nat}

theorem SlC.shape (h : SlC w X s v n xs) : ∃ p c, v = .slice p n c := by
  rcases h.2 with ⟨rfl, rfl⟩ | ⟨g, o, c, cs, e, fz, rfl, _⟩
  · exact ⟨_, _, rfl⟩
  · exact ⟨_, _, rfl⟩

theorem SlC.move (h : SlC w X s v n xs) (he : ExtX w Y w') (hy : ∀ b, b < w.heap.size → Y b → X b) (hx : ∀ b, b < w.heap.size → X' b → X b) : SlC w' X' s v n xs := by
  refine ⟨h.1, ?_⟩
  rcases h.2 with hn | ⟨g, o, c, cs, e, fz, hv, hg, hh, hr⟩
  · exact .inl hn
  · have hlt := (Array.getElem?_eq_some_iff.1 hh).1
    exact .inr ⟨g, o, c, cs, e, fz, hv, fun x => hg (hx g hlt x), he.at hh (fun y => hg (hy g hlt y)), hr⟩
theorem SlC.ext (h : SlC w X s v n xs) (he : Ext w w') : SlC w' X s v n xs := h.move he (fun _ _ h => h.elim) (fun _ _ h => h)
theorem SlC.free (h : SlC w X s v n xs) : SlC w No s v n xs := h.move (ExtX.refl w No) (fun _ _ h => h.elim) (fun _ _ h => h.elim)
theorem SlC.mem {w0 : World} {L : List Chunk} (h : SlC w0 X s v n xs) (hM : Mem w0 X L w) : SlC w (fun b => ∃ c ∈ L, c.fp = some b) s v n xs :=
  h.move hM.ext (fun _ _ h => h) (fun b hb ⟨c, hc, hf⟩ => by
    rcases hM.mine c hc b hf with h | h
    · exact h
    · omega)
theorem OwnR.slc (h : OwnR w e s v n xs) (hx : ∀ g, v.ownBlock = some g → ¬ X g) : SlC w X s v n xs := by
  refine ⟨h.1, ?_⟩
  rcases h.2 with hn | ⟨g, c, cs, rfl, hh, h1, h2, h3, h4⟩
  · exact .inl hn
  · refine .inr ⟨g, 0, c, cs, e, (0, 0), rfl, hx g rfl, hh, h1, h2, fun i u hu => ?_⟩
    rw [← h4, List.getElem?_take] at hu
    split at hu
    · simpa using hu
    · cases hu
/-- What is handed back, of the call's own. -/
theorem Mem.new {L : List Chunk} {n' : Nat} {xs' : List Value} (h : Mem w No (.own v e s n xs :: L) w') (hn : n = n') (hx : xs = xs') : Ext w w' ∧ NewO w w' e s v n' xs' := by
  subst hn; subst hx
  refine ⟨h.ext, h.ok (.own v e s n xs) (by simp), fun g hg => ?_⟩
  rcases h.mine (.own v e s n xs) (by simp) g hg with h | h
  · exact h.elim
  · exact h
theorem NewO.slc {w1 : World} (h : NewO w w1 e s v n xs) : SlC w1 (· < w.heap.size) s v n xs := h.own.slc fun g hg hlt => by have := h.new g hg; have hlt' : g < w.heap.size := hlt; omega

/-- Reading: the cell of element i, at place j in it. -/
theorem SlC.at {c : Nat} {p : Option Addr} (h : SlC w X s (.slice p n c) n xs) {i : Nat} (hi : i < n) : ∃ g o cs e fz, p = some ⟨g, o, none⟩ ∧ w.heap[g]? = some (.cells cs e fz) ∧ ¬ X g ∧ ∀ i u, xs[i]? = some u → cs[o + i]? = some u := by
  rcases h.2 with ⟨h1, rfl⟩ | ⟨g, o, c', cs, e, fz, hv, hg, hh, _, _, hr⟩
  · omega
  · simp only [Value.slice.injEq] at hv
    exact ⟨g, o, cs, e, fz, hv.1, hh, hg, hr⟩

/-- What can be appended from. -/
theorem SlC.news (h : SlC w X s v n xs) : v = .slice none 0 0 ∧ n = 0 ∧ xs = [] ∨ ∃ a c, v = .slice (some a) n c ∧ ∀ j u, xs[j]? = some u → w.cell? (a.add j) = some u := by
  rcases h.2 with ⟨rfl, rfl⟩ | ⟨g, o, c, cs, e, fz, rfl, _, hh, _, _, hr⟩
  · exact .inl ⟨rfl, rfl, List.eq_nil_of_length_eq_zero (by simpa using h.1)⟩
  · exact .inr ⟨_, c, rfl, fun j u hu => by rw [add_at]; exact cell_of hh (hr j u hu)⟩

theorem run_append {P : Program} {t ty bytes : Nat} {z : Value} [TU P t (.slice e)] [te : TE P e s bytes z]
    (hown : OwnR w e s v n xs) (hu : SlC w X s u m ys) (h1 : ∀ x ∈ ys, x.oneCell' = true) (h63 : n + m ≤ maxLen) (hb : (n + m) * bytes ≤ 140737488355328) :
    ∃ v' w', (Builtin.append_ #[t, t] ty #[v, u]).run P w = .ok v' w' ∧ OwnR w' e s v' (n + m) (xs ++ ys) ∧ ExtX w (fun b => v.ownBlock = some b) w' ∧ (∀ g, v'.ownBlock = some g → v.ownBlock = some g ∨ w.heap.size ≤ g) := by
  have ht := TU.h (P := P) (t := t)
  have hi0 := te.ti.h
  have hz0 := te.tz.h
  have hzs := te.hz
  have hs := te.pos
  obtain ⟨i, hi⟩ : ∃ i, P.info? e = some i := by
    cases hq : P.info? e with
    | none => simp [hq] at hi0
    | some x => exact ⟨x, rfl⟩
  simp only [hi, Option.map_some, Option.some.injEq, Prod.mk.injEq] at hi0 hz0
  obtain ⟨his, hib⟩ := hi0
  have hyl := hu.1
  rcases hu.news with ⟨rfl, rfl, rfl⟩ | ⟨a, c, rfl, hnews⟩
  · -- nothing is appended
    have hroom : ∀ k, n + 0 ≤ k → n ≤ k := fun k h => h
    refine ⟨v, w, ?_, by simpa using hown, .refl _ _, fun g hg => .inl hg⟩
    rcases hown.2 with ⟨rfl, rfl⟩ | ⟨g, cap, cur, rfl, hg, hc, _⟩
    · simp [Builtin.append_, run_underlying ht, sizeOf, typeInfo, hi, Builtin.lenOf, Builtin.firstCells]
    · simp [Builtin.append_, run_underlying ht, sizeOf, typeInfo, hi, Builtin.lenOf, Builtin.firstCells, hc, storeCells]
  · have hnl : ys.length = m * i.size := by rw [his]; exact hyl
    have hsmall : n + m ≤ 9223372036854775807 := by simp only [maxLen] at h63; omega
    have hlen : (xs ++ ys).length = (n + m) * s := by rw [List.length_append, hown.1, hyl, Nat.add_mul]
    have grown : ∀ (old : Nat), OwnR (w.drew.alloc (.cells (xs.toArray ++ ys.toArray ++ Builtin.zeroCells z.cells (grownCap w (n + m) old e - (n + m))) e)) e s
        (.slice (some ⟨w.heap.size, 0, none⟩) (n + m) (grownCap w (n + m) old e)) (n + m) (xs ++ ys) ∧
        Ext w (w.drew.alloc (.cells (xs.toArray ++ ys.toArray ++ Builtin.zeroCells z.cells (grownCap w (n + m) old e - (n + m))) e)) := by
      intro old
      have hge := grownCap_ge w (n + m) old e
      have hcm : grownCap w (n + m) old e ≤ maxLen := grownCap_le_maxLen w (n + m) old e h63
      refine ⟨⟨hlen, .inr ⟨w.heap.size, _, _, rfl, heap_alloc_new w.drew _, hge, hcm, ?_, ?_⟩⟩, ⟨rfl, rfl, rfl, by simp, fun k hk _ => Below.heap_alloc w.drew _ k hk⟩⟩
      · simp only [Array.size_append, List.size_toArray, size_zeroCells, hzs, hown.1, hyl, ← Nat.add_mul]
        refine Nat.mul_le_mul_right _ (by omega)
      · simp only [Array.toList_append, List.append_assoc]
        rw [← List.append_assoc, ← hlen]
        exact List.take_left
    rcases hown.2 with ⟨rfl, rfl⟩ | ⟨g, cap, cur, rfl, hg, hnc, hcm, hcs, htake⟩
    · have hx : xs = [] := List.eq_nil_of_length_eq_zero (by simpa using hown.1)
      subst hx
      by_cases hm : m = 0
      · subst hm
        have hn : ys = [] := List.eq_nil_of_length_eq_zero (by simpa using hyl)
        subst hn
        refine ⟨.slice none 0 0, w, ?_, OwnR.nil w e s, .refl _ _, fun g hg => .inl hg⟩
        simp [Builtin.append_, run_underlying ht, sizeOf, typeInfo, hi, Builtin.lenOf, Builtin.firstCells, loadCells, loadCellsFrom]
      · have hr := run_append_nil (P := P) w t ty e i z ht hi hz0 a m c ys hnl hnews (by omega) (by omega) (by rw [hib]; have hb := hb; simp only [Nat.zero_add] at hb; omega)
        have hgr := grown 0
        simp only [Nat.zero_add, List.nil_append, Array.empty_append] at hgr ⊢
        exact ⟨_, _, hr, hgr.1, hgr.2.toX, fun g hg => .inr (by simp [Value.ownBlock] at hg; omega)⟩
    · by_cases hroom : n + m ≤ cap
      · have hfit : n * i.size + ys.length ≤ cur.size := by rw [hnl, his, ← Nat.add_mul]; exact Nat.le_trans (Nat.mul_le_mul_right _ hroom) hcs
        have hr := run_append_room (P := P) w t ty e i ht hi g n cap cur hg a m c ys hnl hnews h1 hroom hfit
        refine ⟨_, _, hr, ⟨hlen, .inr ⟨g, cap, _, rfl, setRow_heap w g cur _ e _ hg, hroom, hcm, ?_, ?_⟩⟩, ⟨rfl, rfl, rfl, by simp, fun k _ hk => setRow_other w g k _ (fun e => hk (by simp [Value.ownBlock, e]))⟩, fun g' hg' => .inl (by simpa [Value.ownBlock] using hg')⟩
        · simp only [List.size_toArray, List.length_append, List.length_take, List.length_drop, Array.length_toList]
          have := hfit
          omega
        · rw [his, htake, ← hlen]
          exact List.take_left
      · have holds : ∀ j u, xs[j]? = some u → w.cell? ((⟨g, 0, none⟩ : Addr).add j) = some u := by
          intro j u hj
          rw [add_at, ← htake, List.getElem?_take] at *
          split at hj
          · exact cell_of hg (by simpa using hj)
          · cases hj
        have hr := run_append_grow (P := P) w t ty e i z ht hi hz0 ⟨g, 0, none⟩ n cap xs (by rw [his]; exact hown.1) holds a m c ys hnl hnews (by omega) (by omega) (growslice_fits (by omega) (by rw [hib]; exact hb))
        have hgr := grown cap
        exact ⟨_, _, hr, hgr.1, hgr.2.toX, fun g hg => .inr (by simp [Value.ownBlock] at hg; omega)⟩
end

/-! ### The own slices in the list -/
class OwnIn (L : List Chunk) (v : Value) (e s n : outParam Nat) (xs : outParam (List Value)) : Prop where
  h : .own v e s n xs ∈ L
instance (priority := 1100) OwnIn.head {L : List Chunk} {v : Value} {e s n : Nat} {xs : List Value} : OwnIn (.own v e s n xs :: L) v e s n xs := ⟨by simp⟩
instance (priority := 900) OwnIn.tail {L : List Chunk} {v : Value} {e s n : Nat} {xs : List Value} {c : Chunk} [i : OwnIn L v e s n xs] : OwnIn (c :: L) v e s n xs := ⟨List.mem_cons_of_mem _ i.h⟩

/-- The list as a function of one own slice in it. -/
class OwnPut (L : List Chunk) (v : Value) (e s n : outParam Nat) (xs : outParam (List Value)) (F : outParam (Chunk → List Chunk)) : Prop where
  h : ∃ A B, L = A ++ .own v e s n xs :: B ∧ ∀ c, F c = A ++ c :: B
instance (priority := 1100) OwnPut.head {L : List Chunk} {v : Value} {e s n : Nat} {xs : List Value} : OwnPut (.own v e s n xs :: L) v e s n xs (fun c => c :: L) := ⟨[], L, rfl, fun _ => rfl⟩
instance (priority := 900) OwnPut.tail {L : List Chunk} {v : Value} {e s n : Nat} {xs : List Value} {d : Chunk} {F : Chunk → List Chunk} [i : OwnPut L v e s n xs F] : OwnPut (d :: L) v e s n xs (fun c => d :: F c) := ⟨by
  obtain ⟨A, B, h1, h2⟩ := i.h
  exact ⟨d :: A, B, by simp [h1], fun c => by simp [h2]⟩⟩

section
variable {P : Program} {n : Nat} {ops : Array Oper} {Q : Post} {rest : List Oper} {σ : Env} {w w0 : World} {X Y : Nat → Prop} {L L' : List Chunk}
variable {d : Nat} {ty : TypeId} {pos : String} {after : Array Edge} {x y : Operand}

/-- append(v, u...), v the call's own. -/
theorem ZL.append {t e s k m bytes : Nat} {v u z : Value} {xs ys : List Value} {F : Chunk → List Chunk} [TU P t (.slice e)] [TE P e s bytes z] (hM : Mem w0 X L w) (hx : ev σ x = some v) (hy : ev σ y = some u)
    [i : OwnPut L v e s k xs F] (hu : SlC w Y s u m ys) (h1 : ∀ x ∈ ys, x.oneCell' = true) (h63 : k + m ≤ maxLen) (hb : (k + m) * bytes ≤ 140737488355328) (hd : Nat.blt d n = true)
    (h : ∀ v' w', Mem w0 X (F (.own v' e s (k + m) (xs ++ ys))) w' → ZL P n ops Q rest ((d, v') :: σ) w') :
    ZL P n ops Q (⟨some d, .call ⟨.builtin .append, #[x, y], #[t, t]⟩, ty, pos, after, none⟩ :: rest) σ w := by
  obtain ⟨A, B, rfl, hF⟩ := i.h
  have hown : OwnR w e s v k xs := hM.ok (.own v e s k xs) (by simp)
  obtain ⟨v', w', hr, h2, h3, h4⟩ := run_append (P := P) (t := t) (ty := ty) hown hu h1 h63 hb
  refine ⟨fun a ha => ?_⟩
  refine wpList_plain rfl (fun K hK => ?_)
  unfold Oper.wp
  rw [exec_builtin (P := P) rfl (r := .ok (.value v') w') (fun cs => by simp [ha.ag _ _ hx, ha.ag _ _ hy, builtin, hr])]
  refine hK _ _ ((h v' w' ?_).h _ (ha.put hd))
  rw [hF]
  exact hM.turn (c' := .own v' e s (k + m) (xs ++ ys)) h3 h2 h4

/-- A slice of the values that stand there. -/
theorem ZL.buildSlice {t e s len : Nat} {parts : Array (Nat × Operand)} {cs : List Value} (hM : Mem w0 X L w)
    (hb : ∀ ρ, Ag ρ σ → (Instr.buildSlice t len (parts.map fun (i, x) => (i, ρ x))).run P w = .ok (.slice (some ⟨w.heap.size, 0, none⟩) len len) (w.alloc (.cells cs.toArray e)))
    (hl : cs.length = len * s) (hm : len ≤ maxLen) (hd : Nat.blt d n = true)
    (h : ∀ g w', Mem w0 X (.own (.slice (some ⟨g, 0, none⟩) len len) e s len cs :: L) w' → ZL P n ops Q rest ((d, .slice (some ⟨g, 0, none⟩) len len) :: σ) w') :
    ZL P n ops Q (⟨some d, .buildSlice t len parts, ty, pos, after, none⟩ :: rest) σ w := by
  have hv : VW P σ (.buildSlice t len parts) (.slice (some ⟨w.heap.size, 0, none⟩) len len) w (w.alloc (.cells cs.toArray e)) := by
    refine ⟨fun ρ ha o ho => ?_⟩; simp [execOp, ho, hb ρ ha]
  refine ZL.vw hv hd (h _ _ ?_)
  have hpush := hM.push (Upd.alloc w (.cells cs.toArray e)) rfl
  refine Mem.add hpush.drop (c := .own (.slice (some ⟨w.heap.size, 0, none⟩) len len) e s len cs) ⟨hl, .inr ⟨_, len, cs.toArray, rfl, hpush.ok (.blk w.heap.size (.cells cs.toArray e)) (by simp), Nat.le_refl _, hm, by simp [hl], by rw [← hl]; simp⟩⟩ ?_
  intro g hg
  simp only [Chunk.fp, Value.ownBlock, Option.some.injEq] at hg
  subst hg
  refine ⟨hM.ext.size, fun c hc hf => ?_⟩
  have := Chunk.lt (hM.ok c hc) _ hf
  omega
end

/-! ### Cutting -/
def cutAt (p : Option Addr) (c l s : Nat) : Option Addr := if c = l then p else p.map (·.add (l * s))
theorem cutAt_zero (p : Option Addr) (c s : Nat) : cutAt p c 0 s = p := by
  unfold cutAt; split
  · rfl
  · cases p <;> simp [Addr.add]

section
variable {P : Program} {σ : Env} {w : World} {X : Nat → Prop} {t e s by' n c : Nat} {p : Option Addr} {x lo hi mx : Operand} {k k' k'' : IntKind} {l h m : Int} {xs : List Value}
/-- x[:h:m] -/
theorem r_slice3 [TU P t (.slice e)] [TI P e s by'] (hx : ev σ x = some (.slice p n c)) (hh : ev σ hi = some (.int k h)) (hm : ev σ mx = some (.int k' m)) (h0 : 0 ≤ h) (h1 : h ≤ m) (h2 : m ≤ c) :
    V P σ (.slice t x none (some hi) (some mx)) (.slice p h.toNat m.toNat) w := by
  refine ⟨fun ρ ha o ho => ?_⟩
  have e1 : (h.toNat : Int) = h := Int.toNat_of_nonneg h0
  have e2 : (m.toNat : Int) = m := Int.toNat_of_nonneg (by omega)
  have hz := cutAt_zero p m.toNat s
  unfold cutAt at hz
  have hc : 0 ≤ m ∧ m ≤ (c : Int) := ⟨by omega, h2⟩
  have hd : 0 ≤ h ∧ h ≤ (m.toNat : Int) := ⟨h0, by omega⟩
  simp [execOp, ho, Instr.sliceAt, run_under' (t := t), Instr.slice, ha _ _ hx, ha _ _ hh, ha _ _ hm, Instr.sliceBounds, Instr.sliceBound, asIntOf, run_sizeOf' (t := e), h0, h1, h2, e2, show 0 ≤ m by omega]
  cases p <;> simp [Addr.add]
/-- x[:h] -/
theorem r_sliceTo [TU P t (.slice e)] [TI P e s by'] (hx : ev σ x = some (.slice p n c)) (hh : ev σ hi = some (.int k h)) (h0 : 0 ≤ h) (h2 : h ≤ c) :
    V P σ (.slice t x none (some hi) none) (.slice p h.toNat c) w := by
  refine ⟨fun ρ ha o ho => ?_⟩
  simp [execOp, ho, Instr.sliceAt, run_under' (t := t), Instr.slice, ha _ _ hx, ha _ _ hh, Instr.sliceBounds, Instr.sliceBound, asIntOf, run_sizeOf' (t := e), h0, h2]
  cases p <;> simp [Addr.add]
/-- x[l:] -/
theorem r_sliceFrom [TU P t (.slice e)] [TI P e s by'] (hx : ev σ x = some (.slice p n c)) (hl : ev σ lo = some (.int k l)) (h0 : 0 ≤ l) (h2 : l ≤ n) :
    V P σ (.slice t x (some lo) none none) (.slice (cutAt p c l.toNat s) (n - l.toNat) (c - l.toNat)) w := by
  refine ⟨fun ρ ha o ho => ?_⟩
  simp [execOp, ho, Instr.sliceAt, run_under' (t := t), Instr.slice, ha _ _ hx, ha _ _ hl, Instr.sliceBounds, Instr.sliceBound, asIntOf, run_sizeOf' (t := e), h0, h2, cutAt]
/-- x[l:h] -/
theorem r_sliceLH [TU P t (.slice e)] [TI P e s by'] (hx : ev σ x = some (.slice p n c)) (hl : ev σ lo = some (.int k l)) (hh : ev σ hi = some (.int k' h)) (h0 : 0 ≤ l) (h1 : l ≤ h) (h2 : h ≤ c) :
    V P σ (.slice t x (some lo) (some hi) none) (.slice (cutAt p c l.toNat s) (h.toNat - l.toNat) (c - l.toNat)) w := by
  refine ⟨fun ρ ha o ho => ?_⟩
  have e1 : (h.toNat : Int) = h := Int.toNat_of_nonneg (by omega)
  simp [execOp, ho, Instr.sliceAt, run_under' (t := t), Instr.slice, ha _ _ hx, ha _ _ hl, ha _ _ hh, Instr.sliceBounds, Instr.sliceBound, asIntOf, run_sizeOf' (t := e), h0, h1, h2, cutAt, e1, show 0 ≤ h by omega]
/-- a[:] of an array -/
theorem r_sliceArr {b o : Nat} {N : Nat} [TU P t (.array N e)] [TI P e s by'] (hx : ev σ x = some (.pointer (some ⟨b, o, none⟩))) :
    V P σ (.slice t x none none none) (.slice (some ⟨b, o, none⟩) N N) w := by
  refine ⟨fun ρ ha o' ho => ?_⟩
  simp [execOp, ho, Instr.sliceAt, run_under' (t := t), ha _ _ hx, Instr.sureAddr, Instr.sliceBounds, run_sizeOf' (t := e), Addr.add]

theorem SlC.cut (hs : SlC w X s (.slice p n c) n xs) {l h : Nat} (h1 : l ≤ h) (h2 : h ≤ n) : SlC w X s (.slice (cutAt p c l s) (h - l) (c - l)) (h - l) ((xs.drop (l * s)).take ((h - l) * s)) := by
  have hlen := hs.1
  have hmul : (h - l) * s + l * s = h * s := by rw [← Nat.add_mul]; congr 1; omega
  have hle : h * s ≤ n * s := Nat.mul_le_mul_right _ h2
  refine ⟨by simp; omega, ?_⟩
  rcases hs.2 with ⟨hv, rfl⟩ | ⟨g, o, c', cs, e', fz, hv, hg, hh, hc, hm, hr⟩
  · simp only [Value.slice.injEq] at hv
    obtain ⟨rfl, _, rfl⟩ := hv
    obtain rfl : h = 0 := by omega
    obtain rfl : l = 0 := by omega
    exact .inl ⟨by simp [cutAt], rfl⟩
  · simp only [Value.slice.injEq] at hv
    obtain ⟨rfl, _, rfl⟩ := hv
    by_cases hcl : c = l
    · refine .inr ⟨g, o, c - l, cs, e', fz, by simp [cutAt, hcl], hg, hh, by omega, by omega, fun i u hu => ?_⟩
      have : h - l = 0 := by omega
      rw [this] at hu; simp at hu
    · refine .inr ⟨g, o + l * s, c - l, cs, e', fz, by simp [cutAt, hcl, add_at], hg, hh, by omega, by omega, fun i u hu => ?_⟩
      rw [List.getElem?_take] at hu
      split at hu
      · rw [List.getElem?_drop] at hu
        rw [Nat.add_assoc]; exact hr _ _ hu
      · cases hu
end

/-! ### A slice of the values that stand there, or of one -/
theorem foldl_set (vs : List Value) : ∀ (off k : Nat) (cs : Array Value), off + k + vs.length ≤ cs.size →
    ((vs.zipIdx k).foldl (fun cs (c, j) => cs.setIfInBounds (off + j) c) cs).toList = cs.toList.take (off + k) ++ vs ++ cs.toList.drop (off + k + vs.length) := by
  induction vs with
  | nil => intro off k cs _; simp
  | cons v r ih =>
    intro off k cs h
    simp only [List.zipIdx_cons, List.foldl_cons]
    rw [ih off (k + 1) _ (by simp at h ⊢; omega)]
    have e := list_seg_step cs.toList (off + k) v r (by simp at h ⊢; omega)
    simpa [Array.toList_setIfInBounds, Nat.add_assoc] using e

theorem fill_all (s : Nat) (vs : List Value) (hs : ∀ v ∈ vs, v.cells.size = s) : ∀ (k : Nat) (cs : Array Value), cs.size = (k + vs.length) * s →
    ∃ r, Instr.fill (fun i => some (i * s, s)) cs (vs.zipIdx k |>.map fun (v, i) => (i, v)) = some r ∧ r.toList = cs.toList.take (k * s) ++ (vs.map (·.cells.toList)).flatten := by
  induction vs with
  | nil => intro k cs h; exact ⟨cs, by simp [Instr.fill], by simp at h; simp [← h, ← Array.length_toList]⟩
  | cons v r ih =>
    intro k cs h
    have hv : v.cells.size = s := hs v (by simp)
    have hks : k * s + s ≤ cs.size := by rw [h, ← Nat.succ_mul]; exact Nat.mul_le_mul_right _ (by simp)
    have hf := foldl_set v.cells.toList (k * s) 0 cs (by simp [hv]; omega)
    obtain ⟨r', h1, h2⟩ := ih (fun u hu => hs u (by simp [hu])) (k + 1) ((v.cells.zipIdx.foldl (fun cs (c, j) => cs.setIfInBounds (k * s + j) c) cs)) (by
      rw [← Array.length_toList, ← Array.foldl_toList, Array.toList_zipIdx, hf]
      have h3 : (k + 1 + r.length) * s = cs.size := by rw [h]; congr 1; simp; omega
      simp only [List.length_append, List.length_take, List.length_drop, Array.length_toList, hv, h3]
      omega)
    refine ⟨r', ?_, ?_⟩
    · simp only [List.zipIdx_cons, List.map_cons, Instr.fill]
      rw [if_neg (by simp [hv]; omega)]
      exact h1
    · rw [h2, ← Array.foldl_toList, Array.toList_zipIdx, hf]
      have e1 : (cs.toList.take (k * s + 0) ++ v.cells.toList).length = (k + 1) * s := by simp [hv, Nat.succ_mul]; omega
      rw [← e1, List.take_left]
      simp

theorem run_buildSlice {P : Program} {σ : Env} {w : World} {t e s by' len : Nat} {z : Value} {parts : Array (Nat × Operand)} {vs : List Value} [TU P t (.slice e)] [TI P e s by'] [TZ P e z] (hz : z.cells.size = s) (hs0 : 0 < s)
    (hi : parts.toList.map (·.1) = List.range len) (hv : evs σ (parts.toList.map (·.2)) = some vs) (hs : ∀ v ∈ vs, v.cells.size = s) (hb : len * s ≤ 16777216) :
    ∀ ρ, Ag ρ σ → (Instr.buildSlice t len (parts.map fun (i, x) => (i, ρ x))).run P w = .ok (.slice (some ⟨w.heap.size, 0, none⟩) len len) (w.alloc (.cells (vs.map (·.cells.toList)).flatten.toArray e)) := by
  intro ρ ha
  have hvs := evs_map hv ha
  have hlen : vs.length = len := by
    have h1 := congrArg List.length hvs
    have h2 := congrArg List.length hi
    simp at h1 h2; omega
  have hparts : (parts.map fun (i, x) => (i, ρ x)).toList = (vs.zipIdx 0).map fun (v, i) => (i, v) := by
    apply List.ext_getElem?
    intro j
    have h1 : (parts.toList.map (·.1))[j]? = (List.range len)[j]? := by rw [hi]
    have h2 : ((parts.toList.map (·.2)).map ρ)[j]? = vs[j]? := by rw [hvs]
    simp only [Array.toList_map, List.getElem?_map, List.getElem?_zipIdx] at *
    cases hp : parts.toList[j]? with
    | none => rw [hp] at h2; simp only [Option.map_none] at h2 ⊢; simp [← h2]
    | some q =>
      rw [hp] at h1 h2
      obtain ⟨a, b⟩ := q
      have hj : j < len := by
        rcases Nat.lt_or_ge j len with h | h
        · exact h
        · rw [List.getElem?_eq_none (by simpa using h)] at h1; simp at h1
      rw [List.getElem?_range hj] at h1
      simp at h1 h2
      simp [← h2, h1]
  have hnot : ¬ (16777216 < len * s) := by omega
  have hnot' : ¬ (len * s > 2 ^ 24) := by simpa using hnot
  have key : ∀ zc : Array Value, zc.size = len * s → Instr.fill (fun i => some (i * s, s)) zc (parts.map fun (i, x) => (i, ρ x)).toList = some (vs.map (·.cells.toList)).flatten.toArray := by
    intro zc hzc
    obtain ⟨r, h1, h2⟩ := fill_all s vs hs 0 zc (by rw [hzc, hlen]; simp)
    have hr : r = (vs.map (·.cells.toList)).flatten.toArray := by apply Array.ext'; simpa using h2
    rw [hparts, h1, hr]
  unfold Instr.buildSlice
  by_cases h0 : len * s = 0
  · have k0 := key ((Array.range (len * s)).map ((#[] : Array Value)[· % (#[] : Array Value).size]!)) (by simp)
    simp only [Sem.run_bind, run_under' (t := t), Result.andThen_ok, run_sizeOf' (t := e), if_neg hnot', Sem.run_pure, k0, if_pos h0, newRow, run_newObj, World.alloc_eq]
  · have k0 := key ((Array.range (len * s)).map (z.cells[· % z.cells.size]!)) (by simp)
    simp only [Sem.run_bind, run_under' (t := t), Result.andThen_ok, run_sizeOf' (t := e), if_neg hnot', Sem.run_pure, k0, if_neg h0, newRow, run_newObj, World.alloc_eq, run_zero' (t := e)]

def flat : List Value → Option (List Value)
  | [] => some []
  | [.agg cs] => some cs.toList
  | .agg cs :: r => match flat r with
    | none => none
    | some l => some (cs.toList ++ l)
  | v :: r => match flat r with
    | none => none
    | some l => some (v :: l)
theorem flat_eq : ∀ (vs xs : List Value), flat vs = some xs → (vs.map (·.cells.toList)).flatten = xs := by
  intro vs
  induction vs with
  | nil => intro xs h; simp only [flat, Option.some.injEq] at h; subst h; rfl
  | cons v r ih =>
    intro xs h
    cases r with
    | nil => cases v <;> simp [flat] at h <;> subst h <;> simp [Value.cells]
    | cons u t =>
      cases hr : flat (u :: t) with
      | none => cases v <;> simp [flat, hr] at h
      | some l =>
        have := ih _ hr
        simp only [List.map_cons, List.flatten_cons] at this ⊢
        rw [this]
        cases v <;> simp [flat, hr] at h <;> subst h <;> simp [Value.cells]
theorem ZL.bslice {P : Program} {n : Nat} {ops : Array Oper} {Q : Post} {rest : List Oper} {σ : Env} {w w0 : World} {X : Nat → Prop} {L : List Chunk} {d : Nat} {ty : TypeId} {pos : String} {after : Array Edge}
    {t e s by' len : Nat} {z : Value} {parts : Array (Nat × Operand)} {vs : List Value} {xs : List Value} [TU P t (.slice e)] [te : TE P e s by' z] (hM : Mem w0 X L w)
    (hi : parts.toList.map (·.1) = List.range len) (hv : evs σ (parts.toList.map (·.2)) = some vs) (hxs : flat vs = some xs) (hs : ∀ v ∈ vs, v.cells.size = s) (hb : len * s ≤ 16777216) (hd : Nat.blt d n = true)
    (h : ∀ g w', Mem w0 X (.own (.slice (some ⟨g, 0, none⟩) len len) e s len xs :: L) w' → ZL P n ops Q rest ((d, .slice (some ⟨g, 0, none⟩) len len) :: σ) w') :
    ZL P n ops Q (⟨some d, .buildSlice t len parts, ty, pos, after, none⟩ :: rest) σ w := by
  have hlen : vs.length = len := by
    have h2 := congrArg List.length hi
    have : ∀ (l : List Operand) (us : List Value), evs σ l = some us → us.length = l.length := by
      intro l
      induction l with
      | nil => intro us h; simp [evs] at h; simp [← h]
      | cons a r ih =>
        intro us h
        simp only [evs] at h
        cases ha : ev σ a with
        | none => simp [ha] at h
        | some v =>
          rw [ha] at h
          cases hr : evs σ r with
          | none => simp [hr] at h
          | some ws => simp [hr] at h; subst h; simp [ih _ hr]
    have := this _ _ hv
    simp at this h2; omega
  have hfl : ∀ (l : List Value), (∀ v ∈ l, v.cells.size = s) → ((l.map (·.cells.toList)).flatten).length = l.length * s := by
    intro l
    induction l with
    | nil => intro _; simp
    | cons a r ih => intro h; simp only [List.map_cons, List.flatten_cons, List.length_append, Array.length_toList, List.length_cons, Nat.succ_mul]; rw [ih (fun v hv => h v (by simp [hv])), h a (by simp)]; omega
  have hz := te.hz
  have hs0 := te.pos
  have i1 := te.ti
  have i2 := te.tz
  have hrb := run_buildSlice (P := P) (w := w) (t := t) (e := e) hz hs0 hi hv hs hb
  have hle : (vs.map (·.cells.toList)).flatten.length = len * s := by rw [hfl _ hs, hlen]
  rw [flat_eq _ _ hxs] at hrb hle
  refine ZL.buildSlice hM hrb hle ?_ hd h
  have : len ≤ len * s := Nat.le_mul_of_pos_right _ hs0
  simp only [maxLen]; omega
end Go.Proofs.YtibobcjfjnoclaaGreatDoor.Z
end
section
/- A region that draws its order: what looks at memory that stays may be taken first; what turns memory comes up alone, or each way is walked. -/
set_option linter.unusedVariables false
set_option linter.unusedSimpArgs false
namespace Go.Proofs.YtibobcjfjnoclaaGreatDoor.Z
open Go Go.RowKit

class FO (P : Program) : Prop where
  h : P.follows .mixedOrders = true

/-- These blocks hold these objects. -/
def Holds : List (Nat × Obj) → World → Prop
  | [], _ => True
  | (b, o) :: r, w => w.heap[b]? = some o ∧ Holds r w
class InH (H : List (Nat × Obj)) (b : Nat) (o : outParam Obj) : Prop where
  h : (b, o) ∈ H
instance (priority := 1100) InH.head {H : List (Nat × Obj)} {b : Nat} {o : Obj} : InH ((b, o) :: H) b o := ⟨by simp⟩
instance (priority := 900) InH.tail {H : List (Nat × Obj)} {b : Nat} {o : Obj} {q : Nat × Obj} [i : InH H b o] : InH (q :: H) b o := ⟨List.mem_cons_of_mem _ i.h⟩
theorem Holds.mem {H : List (Nat × Obj)} {w : World} (h : Holds H w) {b : Nat} {o : Obj} (hm : (b, o) ∈ H) : w.heap[b]? = some o := by
  induction H with
  | nil => cases hm
  | cons q r ih =>
    obtain ⟨c, u⟩ := q
    rcases List.mem_cons.1 hm with e | hm
    · cases e; exact h.1
    · exact ih h.2 hm
theorem Holds.get {H : List (Nat × Obj)} {w : World} (h : Holds H w) {b : Nat} {o : Obj} (i : InH H b o) : w.heap[b]? = some o := h.mem i.h

theorem r_ldS {P : Program} {σ : Env} {w : World} {H : List (Nat × Obj)} {x : Operand} {t b o : Nat} {cs : Array Value} {e : TypeId} {fz : Nat × Nat} {v : Value} [TS P t] (hS : Holds H w) (hx : ev σ x = some (.pointer (some ⟨b, o, none⟩))) [i : InH H b (.cells cs e fz)] (hv : nth cs o = some v) :
    V P σ (.load t x) v w := r_load1 hx (hS.get i) (by rw [← nth_eq]; exact hv)
theorem r_ldSW {P : Program} {σ : Env} {w : World} {H : List (Nat × Obj)} {x : Operand} {t b s by' : Nat} {cs : Array Value} {e : TypeId} {fz : Nat × Nat} [TA P t] [TI P t s by'] (hS : Holds H w) (hx : ev σ x = some (.pointer (some ⟨b, 0, none⟩))) [i : InH H b (.cells cs e fz)] (hn : cs.size = s) :
    V P σ (.load t x) (.agg cs) w := r_loadW hx (hS.get i) hn

structure ZA (P : Program) (n : Nat) (ops : Array Oper) (Q : Post) (S : World → Prop) (fuel : Nat) (listed : Array Bool) (σ : Env) (w : World) : Prop where
  h : ∀ a, FR n σ a → wpAnyH P .any ops Q S fuel listed a w

section
variable {P : Program} {n : Nat} {ops : Array Oper} {Q : Post} {S : World → Prop} {fuel : Nat} {listed listed' : Array Bool} {σ : Env} {w : World}

theorem ZC.draw {id : Nat} {l : List Oper} [FO P] (S : World → Prop) {m : Nat} {ls : Array Bool} (hm : l.length = m) (hls : Array.replicate m false = ls)
    (h : ∀ w', Ext w w' → w'.heap = w.heap → ZA P n l.toArray Q S m ls σ w') : ZC P n Q (.region id l.toArray true) σ w := by
  subst hm; subst hls
  exact ⟨fun a ha => wp_region_held (S := S) FO.h (by
    have := (h { w with drawn := w.drawn + 1 } (drew_ext w _) rfl).h a ha
    simpa using this)⟩

theorem ZA.take (i : Nat) {d : Nat} {op : Op} {ty : TypeId} {pos : String} {after : Array Edge} {v : Value}
    (hi : ops[i]? = some ⟨some d, op, ty, pos, after, none⟩) (hy : ∀ w', S w' → V P σ op v w') (hs : Region.noSelect ops = true) (hf : Region.free .any ops listed i = true)
    (hr : (Region.ready .any ops listed).contains i = true) (hl : listed.setIfInBounds i true = listed') (hd : Nat.blt d n = true) (hQ : ∀ c a a' w, Q (.panic c) a w → Q (.panic c) a' w) (hS : S w)
    (h : ZA P n ops Q S fuel listed' ((d, v) :: σ) w) : ZA P n ops Q S (fuel + 1) listed σ w := by
  subst hl
  refine ⟨fun a ha => wpAnyH_take hi hs hf hr (fun c a w hq => hQ c _ _ w hq) (.inl ⟨by simp [Region.wanted], fun w' hw' => (hy w' hw').h a.eval ha.ag _ rfl⟩) hS (h.h _ (ha.put hd))⟩

theorem ZA.one (i : Nat) {o : Oper} (hr : Region.ready .any ops listed = [i]) (hi : ops[i]? = some o) (hl : listed.setIfInBounds i true = listed')
    (h : ZL P n ops (Exit.then (fun a w => S w ∧ wpAnyH P .any ops Q S fuel listed' a w) Q) [o] σ w) : ZA P n ops Q S (fuel + 1) listed σ w := by
  subst hl
  refine ⟨fun a ha => wpAnyH_all hr (by simp) fun j hj => ?_⟩
  simp only [List.mem_singleton] at hj
  subst hj
  have h1 := h.h a ha
  unfold wpOp
  simp only [hi]
  simpa [wpList, Exit.then, LetsOut, Oper.wp, Oper.upon] using h1
theorem ZA.two (i j : Nat) {o o' : Oper} {l1 l2 : Array Bool} (hr : Region.ready .any ops listed = [i, j]) (hi : ops[i]? = some o) (hj : ops[j]? = some o') (hl : listed.setIfInBounds i true = l1) (hl' : listed.setIfInBounds j true = l2)
    (h : ZL P n ops (Exit.then (fun a w => S w ∧ wpAnyH P .any ops Q S fuel l1 a w) Q) [o] σ w)
    (h' : ZL P n ops (Exit.then (fun a w => S w ∧ wpAnyH P .any ops Q S fuel l2 a w) Q) [o'] σ w) : ZA P n ops Q S (fuel + 1) listed σ w := by
  subst hl; subst hl'
  refine ⟨fun a ha => wpAnyH_all hr (by simp) fun k hk => ?_⟩
  simp only [List.mem_cons, List.not_mem_nil, or_false] at hk
  unfold wpOp
  rcases hk with rfl | rfl
  · have h1 := h.h a ha
    simp only [hi]
    simpa [wpList, Exit.then, LetsOut, Oper.wp, Oper.upon] using h1
  · have h1 := h'.h a ha
    simp only [hj]
    simpa [wpList, Exit.then, LetsOut, Oper.wp, Oper.upon] using h1
theorem ZP.any (hS : S w) (h : ZA P n ops Q S fuel listed σ w) : ZP n (Exit.then (fun a w => S w ∧ wpAnyH P .any ops Q S fuel listed a w) Q) .normal σ w := ⟨fun a ha => ⟨hS, h.h a ha⟩⟩
theorem ZA.done (hr : Region.ready .any ops listed = []) (h : ZP n Q .normal σ w) : ZA P n ops Q S fuel listed σ w := ⟨fun a ha => wpAnyH_done hr (h.h a ha) fuel⟩
end
/-! ### A region that draws, in which all that is drawn leaves the world alone: in the order of the text -/
structure ZS (P : Program) (n : Nat) (ops : Array Oper) (K : Act → Prop) (l : List Oper) (σ : Env) (w : World) : Prop where
  h : ∀ a, FR n σ a → wpStill P ops w K l a
section
variable {P : Program} {n : Nat} {ops : Array Oper} {Q : Post} {K : Act → Prop} {rest : List Oper} {σ : Env} {w : World}
theorem ZS.val {d : Nat} {op : Op} {ty : TypeId} {pos : String} {after : Array Edge} {v : Value} (hv : V P σ op v w) (hd : Nat.blt d n = true)
    (h : ZS P n ops K rest ((d, v) :: σ) w) : ZS P n ops K (⟨some d, op, ty, pos, after, none⟩ :: rest) σ w := by
  refine ⟨fun a ha => ?_⟩
  have h1 := h.h _ (ha.put hd)
  refine wpStill_step (fun K hK => ?_)
  simp only [Region.wanted, if_true]
  unfold Oper.still
  rw [hv.h a.eval ha.ag _ rfl, Oper.stillUpon_value]
  exact hK _ h1
theorem ZS.call {d : Nat} {op : Op} {ty : TypeId} {pos : String} {after : Array Edge} {f : FuncId} {args : Array Value} {v : Value}
    (hv : EN P σ op f args w) (hd : Nat.blt d n = true) (hc : Ret P f args w (fun r w' => w = w' ∧ r = v))
    (h : ZS P n ops K rest ((d, v) :: σ) w) : ZS P n ops K (⟨some d, op, ty, pos, after, none⟩ :: rest) σ w := by
  refine ⟨fun a ha => ?_⟩
  have h1 := h.h _ (ha.put hd)
  refine wpStill_step (fun K hK => ?_)
  simp only [Region.wanted, if_true]
  unfold Oper.still
  rw [hv.h a.eval ha.ag _ rfl]
  refine ⟨rfl, v, Calls.mono hc.h ?_, hK _ h1⟩
  rintro e w' ⟨v', rfl, rfl, rfl⟩
  exact ⟨rfl, rfl⟩
theorem ZS.nil (h : ZP n Q .normal σ w) : ZS P n ops (fun a => Q .normal a w) [] σ w := ⟨fun a ha => h.h a ha⟩
theorem ZS.tail {l : List Oper} (h : ZL P n ops Q l σ w) : ZS P n ops (fun a => wpList P ops Q l a w) [] σ w := ⟨fun a ha => h.h a ha⟩
theorem ZC.still {id : Nat} {l : List Oper} [FO P] (hB : Region.lexB .any l.toArray = true)
    (h : ∀ w', Ext w w' → w'.heap = w.heap → ZS P n l.toArray (fun a => Q .normal a w') l σ w') : ZC P n Q (.region id l.toArray true) σ w :=
  ⟨fun a ha => wp_region_still_lit FO.h hB ((h { w with drawn := w.drawn + 1 } (drew_ext w _) rfl).h a ha)⟩
theorem ZC.tail {id : Nat} {l l1 l2 : List Oper} [FO P] (k : Nat) (hB : Region.lexTailB .any l.toArray k = true) (h1 : l.take k = l1) (h2 : l.drop k = l2)
    (h : ∀ w', Ext w w' → w'.heap = w.heap → ZS P n l.toArray (fun a => wpList P l.toArray Q l2 a w') l1 σ w') : ZC P n Q (.region id l.toArray true) σ w := by
  subst h1; subst h2
  exact ⟨fun a ha => wp_region_still_tail k FO.h hB ((h { w with drawn := w.drawn + 1 } (drew_ext w _) rfl).h a ha)⟩
end
section
variable {P : Program} {σ : Env} {w : World} {x y : Operand} {k : IntKind}
theorem r_idxS {t e : TypeId} {s by' b' o' n c : Nat} (i : Nat) {j : Int} [TU P t (.slice e)] [TI P e s by'] (hx : ev σ x = some (.slice (some ⟨b', o', none⟩) n c)) (hy : ev σ y = some (.int k j)) (hj : j = i) (hi : i < n) :
    V P σ (.indexAddr t x y) (.pointer (some ⟨b', o' + i * s, none⟩)) w := by
  subst hj; exact r_indexAddrSlice hx hy hi
theorem r_idxA {t e : TypeId} {s by' b' o' n : Nat} (i : Nat) {j : Int} [TU P t (.array n e)] [TI P e s by'] (hx : ev σ x = some (.pointer (some ⟨b', o', none⟩))) (hy : ev σ y = some (.int k j)) (hj : j = i) (hi : i < n) :
    V P σ (.indexAddr t x y) (.pointer (some ⟨b', o' + i * s, none⟩)) w := by
  subst hj; exact r_indexAddrArray hx hy hi
end
end Go.Proofs.YtibobcjfjnoclaaGreatDoor.Z
end
section
/- A region that draws: two or three that turn memory, each by what it makes anew, in whichever order. -/
set_option linter.unusedVariables false
set_option linter.unusedSimpArgs false
namespace Go.Proofs.YtibobcjfjnoclaaGreatDoor.Z
open Go Go.RowKit

theorem apart_symm {c d : Chunk} (h : apart c d) : apart d c := fun g hg hg' => h g hg' hg
theorem Mem.perm {w0 w : World} {X : Nat → Prop} {L L' : List Chunk} (h : Mem w0 X L w) (hp : L.Perm L') : Mem w0 X L' w :=
  ⟨h.ext, fun c hc => h.ok c (hp.mem_iff.2 hc), (hp.pairwise_iff (fun h => apart_symm h)).1 h.ap, fun c hc => h.mine c (hp.mem_iff.2 hc)⟩

/-- The world holds these chunks, and others beside them. -/
def MemS (w0 : World) (X : Nat → Prop) (L : List Chunk) (w : World) : Prop := ∃ cs, Mem w0 X (cs ++ L) w
theorem MemS.of {w0 w : World} {X : Nat → Prop} {L : List Chunk} (h : Mem w0 X L w) : MemS w0 X L w := ⟨[], h⟩
theorem MemS.get {w0 w : World} {X : Nat → Prop} {L : List Chunk} (h : MemS w0 X L w) {b : Nat} {o : Obj} (i : In L b o) : w.heap[b]? = some o := by
  obtain ⟨cs, h⟩ := h
  exact h.ok _ (List.mem_append_right _ i.h)
theorem MemS.ext {w0 w : World} {X : Nat → Prop} {L : List Chunk} (h : MemS w0 X L w) : ExtX w0 X w := by obtain ⟨cs, h⟩ := h; exact h.ext

theorem FR.put' {n d : Nat} {σ : Env} {a : Act} {v : Value} (h : FR n σ a) (hd : Nat.blt d n = true) (hn : lk σ d = none) : FR n σ (a.put (some d) v) := by
  refine ⟨(h.put hd (v := v)).size, (h.put hd (v := v)).defers, fun i u hi => (h.put hd (v := v)).at' i u ?_⟩
  simp only [lk]
  cases hb : Nat.beq i d with
  | true =>
    have : i = d := Nat.eq_of_beq_eq_true hb
    subst this
    rw [hn] at hi; cases hi
  | false => exact hi

/-- An operation that turns the world by what it makes anew. -/
structure Turn (P : Program) (n : Nat) (σ : Env) (op : Op) (w0 : World) (X : Nat → Prop) (L : List Chunk) (R : Value → List Chunk → Prop) : Prop where
  h : ∀ a, FR n σ a → ∀ o : Oper, o.op = op → ∀ cs w, Mem w0 X (cs ++ L) w → ∀ (K : Act → World → Prop) (Q : Post), (∀ v c w', R v c → Mem w0 X (c ++ (cs ++ L)) w' → K (a.put o.dst v) w') → o.wp P a w K Q

section
variable {P : Program} {n : Nat} {ops : Array Oper} {Q : Post} {σ : Env} {w w0 : World} {X : Nat → Prop} {L : List Chunk} {fuel : Nat}

theorem Turn.alloc {t : TypeId} {z : Value} {cs : Array Value} [TZ P t z] (hz : vcells z = some cs) :
    Turn P n σ (.alloc t) w0 X L (fun v c => ∃ b, v = .pointer (some ⟨b, 0, none⟩) ∧ c = [.blk b (.cells cs t)]) := by
  refine ⟨fun a ha o ho cs' w hM K Q h => ?_⟩
  unfold Oper.wp
  rw [(vw_alloc (P := P) (σ := σ) (w := w) (t := t) (z := z)).h a.eval ha.ag o ho]
  refine h _ _ _ ⟨_, rfl, rfl⟩ ?_
  rw [vcells_eq hz]
  exact hM.push (Upd.alloc w _) rfl
theorem Turn.box {t : TypeId} {v : Value} {cs : Array Value} {x : Operand} (hx : ev σ x = some v) (hz : vcells v = some cs) :
    Turn P n σ (.box t x) w0 X L (fun v c => ∃ b, v = .pointer (some ⟨b, 0, none⟩) ∧ c = [.blk b (.cells cs t)]) := by
  refine ⟨fun a ha o ho cs' w hM K Q h => ?_⟩
  unfold Oper.wp
  rw [(vw_box (P := P) (w := w) (t := t) hx).h a.eval ha.ag o ho]
  refine h _ _ _ ⟨_, rfl, rfl⟩ ?_
  rw [vcells_eq hz]
  exact hM.push (Upd.alloc w _) rfl
theorem Turn.makeMap {t : TypeId} :
    Turn P n σ (.makeMap t none) w0 X L (fun v c => ∃ b, v = .map (some b) ∧ c = [.blk b (.map #[] 0)]) := by
  refine ⟨fun a ha o ho cs' w hM K Q h => ?_⟩
  unfold Oper.wp
  rw [(vw_makeMap (P := P) (σ := σ) (w := w) (t := t)).h a.eval ha.ag o ho]
  exact h _ _ _ ⟨_, rfl, rfl⟩ (hM.push (Upd.alloc w _) rfl)
theorem Turn.call {op : Op} {f : FuncId} {args : Array Value} {R : Value → List Chunk → Prop} (hv : ∀ w, EN P σ op f args w)
    (hc : ∀ cs w, Mem w0 X (cs ++ L) w → Ret P f args w (fun v w' => ∃ c, R v c ∧ Mem w0 X (c ++ (cs ++ L)) w')) : Turn P n σ op w0 X L R := by
  refine ⟨fun a ha o ho cs w hM K Q h => ?_⟩
  unfold Oper.wp
  rw [(hv w).h a.eval ha.ag o ho]
  refine Calls.mono (hc cs w hM).h ?_
  rintro e w' ⟨v, rfl, c, hR, hM'⟩
  exact h _ _ _ hR hM'

theorem wpOp_turn {o : Oper} {i : Nat} {a : Act} {K : Act → World → Prop} (hi : ops[i]? = some o) (hg : o.guard = none) (h : o.wp P a w K Q) : wpOp P ops Q i K a w := by
  unfold wpOp
  simp only [hi, Region.wanted, hg, if_true]
  exact Or.inl h

variable {i j k di dj dk : Nat} {opi opj opk : Op} {ti tj tk : TypeId} {pi pj pk : String} {ei ej ek : Array Edge} {Ri Rj Rk : Value → List Chunk → Prop} {listed li lj lk' lij lik ljk lijk : Array Bool}

theorem ZA.turn1 (i : Nat) (hr : Region.ready .any ops listed = [i]) (hi : ops[i]? = some ⟨some di, opi, ti, pi, ei, none⟩) (hl : listed.setIfInBounds i true = li) (hd : Nat.blt di n = true)
    (h1 : Turn P n σ opi w0 X L Ri) {cs : List Chunk} (hM : Mem w0 X (cs ++ L) w)
    (h : ∀ v c w', Ri v c → Mem w0 X (c ++ (cs ++ L)) w' → ZA P n ops Q (MemS w0 X L) fuel li ((di, v) :: σ) w') : ZA P n ops Q (MemS w0 X L) (fuel + 1) listed σ w := by
  subst hl
  refine ⟨fun a ha => wpAnyH_all hr (by simp) fun q hq => ?_⟩
  simp only [List.mem_singleton] at hq; subst hq
  refine wpOp_turn hi rfl (h1.h a ha _ rfl cs w hM _ _ fun v c w' hR hM' => ⟨⟨c ++ cs, by rw [List.append_assoc]; exact hM'⟩, ?_⟩)
  exact (h v c w' hR hM').h _ (ha.put hd)

theorem wpAnyH_par2 (hr : Region.ready .any ops listed = [i, j]) (hri : Region.ready .any ops li = [j]) (hrj : Region.ready .any ops lj = [i])
    (hi : ops[i]? = some ⟨some di, opi, ti, pi, ei, none⟩) (hj : ops[j]? = some ⟨some dj, opj, tj, pj, ej, none⟩)
    (hli : listed.setIfInBounds i true = li) (hlj : listed.setIfInBounds j true = lj) (hlij : li.setIfInBounds j true = lij) (hlji : lj.setIfInBounds i true = lij)
    (hdi : Nat.blt di n = true) (hdj : Nat.blt dj n = true) (hni : lk σ di = none) (hnj : lk σ dj = none) (hne : Nat.beq di dj = false)
    (h1 : Turn P n σ opi w0 X L Ri) (h2 : Turn P n σ opj w0 X L Rj) {cs : List Chunk} (hM : Mem w0 X (cs ++ L) w) {a : Act} (ha : FR n σ a)
    (h : ∀ v c v' c' w', Ri v c → Rj v' c' → Mem w0 X (c' ++ (c ++ (cs ++ L))) w' → wpAnyH P .any ops Q (MemS w0 X L) fuel lij ((a.put (some di) v).put (some dj) v') w') : wpAnyH P .any ops Q (MemS w0 X L) (fuel + 2) listed a w := by
  have hne' : di ≠ dj := fun e => by subst e; simp at hne
  refine wpAnyH_all hr (by simp) fun q hq => ?_
  simp only [List.mem_cons, List.not_mem_nil, or_false] at hq
  rcases hq with rfl | rfl
  · refine wpOp_turn hi rfl (h1.h a ha _ rfl cs w hM _ _ fun v c w' hR hM' => ⟨⟨c ++ cs, by rw [List.append_assoc]; exact hM'⟩, ?_⟩)
    rw [hli]
    refine wpAnyH_all hri (by simp) fun r hr => ?_
    simp only [List.mem_singleton] at hr; subst hr
    rw [← List.append_assoc] at hM'
    refine wpOp_turn hj rfl (h2.h _ (ha.put' hdi hni) _ rfl _ w' hM' _ _ fun v' c' w'' hR' hM'' => ?_)
    rw [List.append_assoc c cs L] at hM''
    refine ⟨⟨c' ++ (c ++ cs), by simpa using hM''⟩, ?_⟩
    rw [hlij]
    exact h v c v' c' w'' hR hR' hM''
  · refine wpOp_turn hj rfl (h2.h a ha _ rfl cs w hM _ _ fun v' c' w' hR' hM' => ⟨⟨c' ++ cs, by rw [List.append_assoc]; exact hM'⟩, ?_⟩)
    rw [hlj]
    refine wpAnyH_all hrj (by simp) fun r hr => ?_
    simp only [List.mem_singleton] at hr; subst hr
    rw [← List.append_assoc] at hM'
    refine wpOp_turn hi rfl (h1.h _ (ha.put' hdj hnj) _ rfl _ w' hM' _ _ fun v c w'' hR hM'' => ?_)
    rw [List.append_assoc c' cs L] at hM''
    refine ⟨⟨c ++ (c' ++ cs), by simpa using hM''⟩, ?_⟩
    rw [hlji]
    have e : (a.put (some dj) v').put (some di) v = (a.put (some di) v).put (some dj) v' := by
      simp only [Act.put]
      rw [Array.setIfInBounds_comm _ _ (Ne.symm hne')]
    rw [e]
    refine h v c v' c' w'' hR hR' (hM''.perm ?_)
    simp only [← List.append_assoc]
    exact List.Perm.append_right _ (List.Perm.append_right _ List.perm_append_comm)

theorem ZA.par2 (i j : Nat) (hr : Region.ready .any ops listed = [i, j]) (hri : Region.ready .any ops li = [j]) (hrj : Region.ready .any ops lj = [i])
    (hi : ops[i]? = some ⟨some di, opi, ti, pi, ei, none⟩) (hj : ops[j]? = some ⟨some dj, opj, tj, pj, ej, none⟩)
    (hli : listed.setIfInBounds i true = li) (hlj : listed.setIfInBounds j true = lj) (hlij : li.setIfInBounds j true = lij) (hlji : lj.setIfInBounds i true = lij)
    (hdi : Nat.blt di n = true) (hdj : Nat.blt dj n = true) (hni : lk σ di = none) (hnj : lk σ dj = none) (hne : Nat.beq di dj = false)
    (h1 : Turn P n σ opi w0 X L Ri) (h2 : Turn P n σ opj w0 X L Rj) {cs : List Chunk} (hM : Mem w0 X (cs ++ L) w)
    (h : ∀ v c v' c' w', Ri v c → Rj v' c' → Mem w0 X (c' ++ (c ++ (cs ++ L))) w' → ZA P n ops Q (MemS w0 X L) fuel lij ((dj, v') :: (di, v) :: σ) w') : ZA P n ops Q (MemS w0 X L) (fuel + 2) listed σ w :=
  ⟨fun a ha => wpAnyH_par2 hr hri hrj hi hj hli hlj hlij hlji hdi hdj hni hnj hne h1 h2 hM ha fun v c v' c' w' hR hR' hM' => (h v c v' c' w' hR hR' hM').h _ ((ha.put hdi).put hdj)⟩

theorem ZA.par3 (i j k : Nat) (hr : Region.ready .any ops listed = [i, j, k])
    (hri : Region.ready .any ops li = [j, k]) (hrj : Region.ready .any ops lj = [i, k]) (hrk : Region.ready .any ops lk' = [i, j])
    (hrij : Region.ready .any ops lij = [k]) (hrik : Region.ready .any ops lik = [j]) (hrjk : Region.ready .any ops ljk = [i])
    (hi : ops[i]? = some ⟨some di, opi, ti, pi, ei, none⟩) (hj : ops[j]? = some ⟨some dj, opj, tj, pj, ej, none⟩) (hk : ops[k]? = some ⟨some dk, opk, tk, pk, ek, none⟩)
    (hli : listed.setIfInBounds i true = li) (hlj : listed.setIfInBounds j true = lj) (hlk : listed.setIfInBounds k true = lk')
    (hlij : li.setIfInBounds j true = lij) (hlik : li.setIfInBounds k true = lik) (hlji : lj.setIfInBounds i true = lij) (hljk : lj.setIfInBounds k true = ljk) (hlki : lk'.setIfInBounds i true = lik) (hlkj : lk'.setIfInBounds j true = ljk)
    (hlijk : lij.setIfInBounds k true = lijk) (hlikj : lik.setIfInBounds j true = lijk) (hljki : ljk.setIfInBounds i true = lijk)
    (hdi : Nat.blt di n = true) (hdj : Nat.blt dj n = true) (hdk : Nat.blt dk n = true) (hni : lk σ di = none) (hnj : lk σ dj = none) (hnk : lk σ dk = none) (hne : Nat.beq di dj = false) (hne2 : Nat.beq di dk = false) (hne3 : Nat.beq dj dk = false)
    (h1 : Turn P n σ opi w0 X L Ri) (h2 : Turn P n σ opj w0 X L Rj) (h3 : Turn P n σ opk w0 X L Rk) {cs : List Chunk} (hM : Mem w0 X (cs ++ L) w)
    (h : ∀ v c v' c' v'' c'' w', Ri v c → Rj v' c' → Rk v'' c'' → Mem w0 X (c'' ++ (c' ++ (c ++ (cs ++ L)))) w' → ZA P n ops Q (MemS w0 X L) fuel lijk ((dk, v'') :: (dj, v') :: (di, v) :: σ) w') : ZA P n ops Q (MemS w0 X L) (fuel + 3) listed σ w := by
  have e1 : di ≠ dj := fun e => by subst e; simp at hne
  have e2 : di ≠ dk := fun e => by subst e; simp at hne2
  have e3 : dj ≠ dk := fun e => by subst e; simp at hne3
  refine ⟨fun a ha => wpAnyH_all hr (by simp) fun q hq => ?_⟩
  have fin : ∀ v c v' c' v'' c'' w' a' L', Ri v c → Rj v' c' → Rk v'' c'' → a' = ((a.put (some di) v).put (some dj) v').put (some dk) v'' → Mem w0 X L' w' → L'.Perm (c'' ++ (c' ++ (c ++ (cs ++ L)))) → wpAnyH P .any ops Q (MemS w0 X L) fuel lijk a' w' := by
    intro v c v' c' v'' c'' w' a' L' r1 r2 r3 ea hL hp
    subst ea
    exact (h v c v' c' v'' c'' w' r1 r2 r3 (hL.perm hp)).h _ (((ha.put hdi).put hdj).put hdk)
  simp only [List.mem_cons, List.not_mem_nil, or_false] at hq
  rcases hq with rfl | rfl | rfl
  · refine wpOp_turn hi rfl (h1.h a ha _ rfl cs w hM _ _ fun v c w' hR hM' => ⟨⟨c ++ cs, by rw [List.append_assoc]; exact hM'⟩, ?_⟩)
    rw [hli]
    rw [← List.append_assoc] at hM'
    refine wpAnyH_par2 hri hrij hrik hj hk hlij hlik hlijk hlikj hdj hdk hnj hnk hne3 h2 h3 hM' (ha.put' hdi hni) fun v' c' v'' c'' w'' hR' hR'' hM'' => ?_
    exact fin v c v' c' v'' c'' w'' _ _ hR hR' hR'' rfl hM'' (by simp)
  · refine wpOp_turn hj rfl (h2.h a ha _ rfl cs w hM _ _ fun v' c' w' hR' hM' => ⟨⟨c' ++ cs, by rw [List.append_assoc]; exact hM'⟩, ?_⟩)
    rw [hlj]
    rw [← List.append_assoc] at hM'
    refine wpAnyH_par2 hrj hrij hrjk hi hk hlji hljk hlijk hljki hdi hdk hni hnk hne2 h1 h3 hM' (ha.put' hdj hnj) fun v c v'' c'' w'' hR hR'' hM'' => ?_
    refine fin v c v' c' v'' c'' w'' _ _ hR hR' hR'' ?_ hM'' ?_
    · simp only [Act.put]
      rw [Array.setIfInBounds_comm _ _ (Ne.symm e1)]
    · refine List.Perm.append_left _ ?_
      simp only [← List.append_assoc]
      exact List.Perm.append_right _ (List.Perm.append_right _ List.perm_append_comm)
  · refine wpOp_turn hk rfl (h3.h a ha _ rfl cs w hM _ _ fun v'' c'' w' hR'' hM' => ⟨⟨c'' ++ cs, by rw [List.append_assoc]; exact hM'⟩, ?_⟩)
    rw [hlk]
    rw [← List.append_assoc] at hM'
    refine wpAnyH_par2 hrk hrik hrjk hi hj hlki hlkj hlikj hljki hdi hdj hni hnj hne h1 h2 hM' (ha.put' hdk hnk) fun v c v' c' w'' hR hR' hM'' => ?_
    refine fin v c v' c' v'' c'' w'' _ _ hR hR' hR'' ?_ hM'' ?_
    · simp only [Act.put]
      rw [Array.setIfInBounds_comm _ _ (Ne.symm e2), Array.setIfInBounds_comm _ _ (Ne.symm e3)]
    · simp only [← List.append_assoc]
      refine List.Perm.append_right _ (List.Perm.append_right _ ?_)
      refine List.Perm.trans List.perm_append_comm ?_
      simp only [← List.append_assoc]
      exact List.Perm.refl _
end
end Go.Proofs.YtibobcjfjnoclaaGreatDoor.Z
end
section
/- Literals of structs and of arrays. -/
set_option linter.unusedVariables false
set_option linter.unusedSimpArgs false
namespace Go.Proofs.YtibobcjfjnoclaaGreatDoor.Z
open Go Go.RowKit

/-- A struct's fields: where each lies, and how many cells it has. -/
class TB (P : Program) (t : TypeId) (pl : outParam (List (Nat × Nat))) : Prop where
  h : (match P.underlying t with | some (.struct fs) => fs.toList.mapM (fun f => (P.info? f.type).map fun i => (f.offset, i.size)) | _ => none) = some pl

def evp (σ : Env) : List (Nat × Operand) → Option (List (Nat × Value))
  | [] => some []
  | (i, x) :: r => match ev σ x with
    | none => none
    | some v => match evp σ r with
      | none => none
      | some vs => some ((i, v) :: vs)
theorem evp_map {σ : Env} {l : List (Nat × Operand)} {vs : List (Nat × Value)} (h : evp σ l = some vs) {ρ : Operand → Value} (ha : Ag ρ σ) : l.map (fun (i, x) => (i, ρ x)) = vs := by
  induction l generalizing vs with
  | nil => simp [evp] at h; simp [← h]
  | cons q r ih =>
    obtain ⟨i, x⟩ := q
    simp only [evp] at h
    cases hx : ev σ x with
    | none => simp [hx] at h
    | some v =>
      rw [hx] at h
      cases hr : evp σ r with
      | none => simp [hr] at h
      | some r' =>
        rw [hr] at h
        simp at h
        simp [← h, ha _ _ hx, ← ih hr]

def oneL : Value → Option Value
  | .agg _ => none
  | v => some v
theorem oneL_eq {v u : Value} (h : oneL v = some u) : u = v ∧ v.cells = #[v] := by
  cases v <;> simp [oneL] at h <;> simp [Value.cells, ← h]
/-- Parts of one cell each, laid into their places. -/
def fillL (place : Nat → Option Nat) : List Value → List (Nat × Value) → Option (List Value)
  | cs, [] => some cs
  | cs, (i, v) :: r => match place i with
    | none => none
    | some o => match oneL v with
      | none => none
      | some u => match setL cs o u with
        | none => none
        | some cs' => fillL place cs' r
theorem fillL_eq {place : Nat → Option Nat} {place' : Nat → Option (Nat × Nat)} (hp : ∀ i o, place i = some o → place' i = some (o, 1)) : ∀ (ps : List (Nat × Value)) (cs cs' : List Value), fillL place cs ps = some cs' → Instr.fill place' cs.toArray ps = some cs'.toArray
  | [], cs, cs', h => by simp [fillL] at h; simp [Instr.fill, h]
  | (i, v) :: r, cs, cs', h => by
    simp only [fillL] at h
    cases h1 : place i with
    | none => simp [h1] at h
    | some o =>
      rw [h1] at h
      cases h2 : oneL v with
      | none => simp [h2] at h
      | some u =>
        rw [h2] at h
        obtain ⟨rfl, hc⟩ := oneL_eq h2
        simp only [] at h
        cases h3 : setL cs o u with
        | none => simp [h3] at h
        | some cs2 =>
          rw [h3] at h
          obtain ⟨h4, rfl⟩ := setL_eq _ _ _ _ h3
          have ih := fillL_eq hp r _ _ h
          simp only [Instr.fill, hp i o h1, hc]
          have e : ¬ (o + 1 > cs.length) := by omega
          simpa [e] using ih

section
variable {P : Program} {σ : Env} {w : World}
theorem r_buildArr {t e : TypeId} {n by' : Nat} {z : Value} {zs : Array Value} {cs : List Value} {parts : Array (Nat × Operand)} {ps : List (Nat × Value)} [TU P t (.array n e)] [TI P e 1 by'] [TZ P t z] (hp : evp σ parts.toList = some ps)
    (hz : vcells z = some zs) (h : fillL (fun i => some i) zs.toList ps = some cs) : V P σ (.build t parts) (.agg cs.toArray) w := by
  refine ⟨fun ρ ha o ho => ?_⟩
  have e1 := evp_map hp ha
  have hb : P.built t (parts.map fun (i, x) => (i, ρ x)).toList = some cs.toArray := by
    have hi := TI.h (P := P) (t := e)
    have hzz := TZ.h (P := P) (t := t)
    unfold Program.built
    rw [TU.h (P := P) (t := t)]
    cases hit : P.info? t with
    | none => simp [hit] at hzz
    | some it =>
      cases hie : P.info? e with
      | none => simp [hie] at hi
      | some ie =>
        simp only [hit, Option.map_some, Option.some.injEq] at hzz
        simp only [hie, Option.map_some, Option.some.injEq, Prod.mk.injEq] at hi
        simp only [hzz, hie, hi.1]
        have := fillL_eq (place := fun i => some i) (place' := fun i => some (i * 1, 1)) (fun i o h => by simp at h; simp [h]) ps zs.toList cs h
        rw [show (parts.map fun (i, x) => (i, ρ x)).toList = ps by simpa using e1, vcells_eq hz]
        simpa using this
  simp [execOp, ho, run_build w t _ _ hb]
theorem r_buildOne {t : TypeId} {pl : List (Nat × Nat)} {z : Value} {zs : Array Value} {cs : List Value} {parts : Array (Nat × Operand)} {ps : List (Nat × Value)} [TB P t pl] [TZ P t z] (hp : evp σ parts.toList = some ps)
    (hz : vcells z = some zs) (h : fillL (fun i => match pl[i]? with | some (o, 1) => some o | _ => none) zs.toList ps = some cs) : V P σ (.build t parts) (.agg cs.toArray) w := by
  refine ⟨fun ρ ha o ho => ?_⟩
  have e1 := evp_map hp ha
  have hb : P.built t (parts.map fun (i, x) => (i, ρ x)).toList = some cs.toArray := by
    have hi := TB.h (P := P) (t := t)
    have hzz := TZ.h (P := P) (t := t)
    unfold Program.built
    cases hit : P.info? t with
    | none => simp [hit] at hzz
    | some it =>
      cases hu : P.underlying t with
      | none => simp [hu] at hi
      | some d =>
        rw [hu] at hi
        cases d <;> simp only [reduceCtorEq] at hi
        simp only [hit, Option.map_some, Option.some.injEq] at hzz
        simp only [hzz, hi]
        have := fillL_eq (place := fun i => match pl[i]? with | some (o, 1) => some o | _ => none) (place' := (pl.toArray[·]?)) (fun i o h => by
          split at h
          · rename_i o' hh; simp at h; subst h; simpa using hh
          · cases h) ps zs.toList cs h
        rw [show (parts.map fun (i, x) => (i, ρ x)).toList = ps by simpa using e1, vcells_eq hz]
        simpa using this
  simp [execOp, ho, run_build w t _ _ hb]
end
end Go.Proofs.YtibobcjfjnoclaaGreatDoor.Z
end
section
/- The type table's facts, and the functions', by the kernel each. Written by gen_inst.py. -/
set_option linter.unusedVariables false
set_option maxRecDepth 100000
namespace Go.Proofs.YtibobcjfjnoclaaGreatDoor.Z
open Go
noncomputable abbrev P : Program := Tryz.prog
instance : TI P 1 1 8 := ⟨by kernel_rfl⟩
instance : TZ P 1 Value.nilFunc := ⟨by kernel_rfl⟩
instance : TE P 1 1 8 Value.nilFunc := ⟨inferInstance, inferInstance, by kernel_rfl, by decide⟩
instance : TS P 1 := ⟨fun _ => by kernel_rfl⟩
instance : TU P 2 (.int .i64) := ⟨by kernel_rfl⟩
instance : TI P 2 1 8 := ⟨by kernel_rfl⟩
instance : TZ P 2 (Value.int .i64 0) := ⟨by kernel_rfl⟩
instance : TE P 2 1 8 (Value.int .i64 0) := ⟨inferInstance, inferInstance, by kernel_rfl, by decide⟩
instance : TS P 2 := ⟨fun _ => by kernel_rfl⟩
instance : TU P 3 (.int .i64) := ⟨by kernel_rfl⟩
instance : TI P 3 1 8 := ⟨by kernel_rfl⟩
instance : TZ P 3 (Value.int .i64 0) := ⟨by kernel_rfl⟩
instance : TE P 3 1 8 (Value.int .i64 0) := ⟨inferInstance, inferInstance, by kernel_rfl, by decide⟩
instance : TS P 3 := ⟨fun _ => by kernel_rfl⟩
instance : TU P 4 .bool := ⟨by kernel_rfl⟩
instance : TI P 4 1 1 := ⟨by kernel_rfl⟩
instance : TZ P 4 (Value.bool false) := ⟨by kernel_rfl⟩
instance : TE P 4 1 1 (Value.bool false) := ⟨inferInstance, inferInstance, by kernel_rfl, by decide⟩
instance : TS P 4 := ⟨fun _ => by kernel_rfl⟩
instance : TU P 5 (.int .u8) := ⟨by kernel_rfl⟩
instance : TI P 5 1 1 := ⟨by kernel_rfl⟩
instance : TZ P 5 (Value.int .u8 0) := ⟨by kernel_rfl⟩
instance : TE P 5 1 1 (Value.int .u8 0) := ⟨inferInstance, inferInstance, by kernel_rfl, by decide⟩
instance : TS P 5 := ⟨fun _ => by kernel_rfl⟩
instance : TU P 9 .string := ⟨by kernel_rfl⟩
instance : TI P 9 1 16 := ⟨by kernel_rfl⟩
instance : TZ P 9 (Value.string .empty) := ⟨by kernel_rfl⟩
instance : TE P 9 1 16 (Value.string .empty) := ⟨inferInstance, inferInstance, by kernel_rfl, by decide⟩
instance : TS P 9 := ⟨fun _ => by kernel_rfl⟩
instance : TU P 12 (.int .u64) := ⟨by kernel_rfl⟩
instance : TI P 12 1 8 := ⟨by kernel_rfl⟩
instance : TZ P 12 (Value.int .u64 0) := ⟨by kernel_rfl⟩
instance : TE P 12 1 8 (Value.int .u64 0) := ⟨inferInstance, inferInstance, by kernel_rfl, by decide⟩
instance : TS P 12 := ⟨fun _ => by kernel_rfl⟩
instance : TI P 13 2 24 := ⟨by kernel_rfl⟩
instance : TZ P 13 (.agg #[(Value.string .empty), (Value.int .u64 0)]) := ⟨by kernel_rfl⟩
instance : TE P 13 2 24 (.agg #[(Value.string .empty), (Value.int .u64 0)]) := ⟨inferInstance, inferInstance, by kernel_rfl, by decide⟩
instance : TA P 13 := ⟨fun _ => by kernel_rfl⟩
instance : TF P 13 0 0 := ⟨fun _ _ _ => by kernel_rfl⟩
instance : TF P 13 1 1 := ⟨fun _ _ _ => by kernel_rfl⟩
instance : TU P 15 (.pointer 147) := ⟨by kernel_rfl⟩
instance : TI P 15 1 8 := ⟨by kernel_rfl⟩
instance : TZ P 15 (Value.pointer none) := ⟨by kernel_rfl⟩
instance : TE P 15 1 8 (Value.pointer none) := ⟨inferInstance, inferInstance, by kernel_rfl, by decide⟩
instance : TS P 15 := ⟨fun _ => by kernel_rfl⟩
instance : TU P 16 (.pointer 150) := ⟨by kernel_rfl⟩
instance : TI P 16 1 8 := ⟨by kernel_rfl⟩
instance : TZ P 16 (Value.pointer none) := ⟨by kernel_rfl⟩
instance : TE P 16 1 8 (Value.pointer none) := ⟨inferInstance, inferInstance, by kernel_rfl, by decide⟩
instance : TS P 16 := ⟨fun _ => by kernel_rfl⟩
instance : TU P 17 (.pointer 159) := ⟨by kernel_rfl⟩
instance : TI P 17 1 8 := ⟨by kernel_rfl⟩
instance : TZ P 17 (Value.pointer none) := ⟨by kernel_rfl⟩
instance : TE P 17 1 8 (Value.pointer none) := ⟨inferInstance, inferInstance, by kernel_rfl, by decide⟩
instance : TS P 17 := ⟨fun _ => by kernel_rfl⟩
instance : TI P 19 1 8 := ⟨by kernel_rfl⟩
instance : TZ P 19 (.agg #[(Value.pointer none)]) := ⟨by kernel_rfl⟩
instance : TE P 19 1 8 (.agg #[(Value.pointer none)]) := ⟨inferInstance, inferInstance, by kernel_rfl, by decide⟩
instance : TA P 19 := ⟨fun _ => by kernel_rfl⟩
instance : TF P 19 0 0 := ⟨fun _ _ _ => by kernel_rfl⟩
instance : TU P 21 (.int .i32) := ⟨by kernel_rfl⟩
instance : TI P 21 1 4 := ⟨by kernel_rfl⟩
instance : TZ P 21 (Value.int .i32 0) := ⟨by kernel_rfl⟩
instance : TE P 21 1 4 (Value.int .i32 0) := ⟨inferInstance, inferInstance, by kernel_rfl, by decide⟩
instance : TS P 21 := ⟨fun _ => by kernel_rfl⟩
instance : TU P 22 (.slice 3) := ⟨by kernel_rfl⟩
instance : TI P 22 1 24 := ⟨by kernel_rfl⟩
instance : TZ P 22 (Value.slice none 0 0) := ⟨by kernel_rfl⟩
instance : TE P 22 1 24 (Value.slice none 0 0) := ⟨inferInstance, inferInstance, by kernel_rfl, by decide⟩
instance : TS P 22 := ⟨fun _ => by kernel_rfl⟩
instance : TU P 23 (.pointer 56) := ⟨by kernel_rfl⟩
instance : TI P 23 1 8 := ⟨by kernel_rfl⟩
instance : TZ P 23 (Value.pointer none) := ⟨by kernel_rfl⟩
instance : TE P 23 1 8 (Value.pointer none) := ⟨inferInstance, inferInstance, by kernel_rfl, by decide⟩
instance : TS P 23 := ⟨fun _ => by kernel_rfl⟩
instance : TI P 24 1 8 := ⟨by kernel_rfl⟩
instance : TZ P 24 Value.nilFunc := ⟨by kernel_rfl⟩
instance : TE P 24 1 8 Value.nilFunc := ⟨inferInstance, inferInstance, by kernel_rfl, by decide⟩
instance : TS P 24 := ⟨fun _ => by kernel_rfl⟩
instance : TU P 25 (.slice 33) := ⟨by kernel_rfl⟩
instance : TI P 25 1 24 := ⟨by kernel_rfl⟩
instance : TZ P 25 (Value.slice none 0 0) := ⟨by kernel_rfl⟩
instance : TE P 25 1 24 (Value.slice none 0 0) := ⟨inferInstance, inferInstance, by kernel_rfl, by decide⟩
instance : TS P 25 := ⟨fun _ => by kernel_rfl⟩
instance : TI P 26 1 8 := ⟨by kernel_rfl⟩
instance : TZ P 26 Value.nilFunc := ⟨by kernel_rfl⟩
instance : TE P 26 1 8 Value.nilFunc := ⟨inferInstance, inferInstance, by kernel_rfl, by decide⟩
instance : TS P 26 := ⟨fun _ => by kernel_rfl⟩
instance : TU P 27 (.array 32 5) := ⟨by kernel_rfl⟩
instance : TI P 27 32 32 := ⟨by kernel_rfl⟩
instance : TZ P 27 (.agg (List.replicate 32 (Value.int .u8 0)).toArray) := ⟨by kernel_rfl⟩
instance : TE P 27 32 32 (.agg (List.replicate 32 (Value.int .u8 0)).toArray) := ⟨inferInstance, inferInstance, by kernel_rfl, by decide⟩
instance : TA P 27 := ⟨fun _ => by kernel_rfl⟩
instance : TI P 28 1 8 := ⟨by kernel_rfl⟩
instance : TZ P 28 Value.nilFunc := ⟨by kernel_rfl⟩
instance : TE P 28 1 8 Value.nilFunc := ⟨inferInstance, inferInstance, by kernel_rfl, by decide⟩
instance : TS P 28 := ⟨fun _ => by kernel_rfl⟩
instance : TU P 29 (.int .u32) := ⟨by kernel_rfl⟩
instance : TI P 29 1 4 := ⟨by kernel_rfl⟩
instance : TZ P 29 (Value.int .u32 0) := ⟨by kernel_rfl⟩
instance : TE P 29 1 4 (Value.int .u32 0) := ⟨inferInstance, inferInstance, by kernel_rfl, by decide⟩
instance : TS P 29 := ⟨fun _ => by kernel_rfl⟩
instance : TU P 30 (.slice 60) := ⟨by kernel_rfl⟩
instance : TI P 30 1 24 := ⟨by kernel_rfl⟩
instance : TZ P 30 (Value.slice none 0 0) := ⟨by kernel_rfl⟩
instance : TE P 30 1 24 (Value.slice none 0 0) := ⟨inferInstance, inferInstance, by kernel_rfl, by decide⟩
instance : TS P 30 := ⟨fun _ => by kernel_rfl⟩
instance : TU P 31 (.slice 64) := ⟨by kernel_rfl⟩
instance : TI P 31 1 24 := ⟨by kernel_rfl⟩
instance : TZ P 31 (Value.slice none 0 0) := ⟨by kernel_rfl⟩
instance : TE P 31 1 24 (Value.slice none 0 0) := ⟨inferInstance, inferInstance, by kernel_rfl, by decide⟩
instance : TS P 31 := ⟨fun _ => by kernel_rfl⟩
instance : TI P 32 4 64 := ⟨by kernel_rfl⟩
instance : TZ P 32 (.agg #[(Value.int .u32 0), (Value.slice none 0 0), (Value.slice none 0 0), (Value.int .u32 0)]) := ⟨by kernel_rfl⟩
instance : TE P 32 4 64 (.agg #[(Value.int .u32 0), (Value.slice none 0 0), (Value.slice none 0 0), (Value.int .u32 0)]) := ⟨inferInstance, inferInstance, by kernel_rfl, by decide⟩
instance : TA P 32 := ⟨fun _ => by kernel_rfl⟩
instance : TF P 32 0 0 := ⟨fun _ _ _ => by kernel_rfl⟩
instance : TF P 32 1 1 := ⟨fun _ _ _ => by kernel_rfl⟩
instance : TF P 32 2 2 := ⟨fun _ _ _ => by kernel_rfl⟩
instance : TF P 32 3 3 := ⟨fun _ _ _ => by kernel_rfl⟩
instance : TI P 33 4 64 := ⟨by kernel_rfl⟩
instance : TZ P 33 (.agg #[(Value.int .u32 0), (Value.slice none 0 0), (Value.slice none 0 0), (Value.int .u32 0)]) := ⟨by kernel_rfl⟩
instance : TE P 33 4 64 (.agg #[(Value.int .u32 0), (Value.slice none 0 0), (Value.slice none 0 0), (Value.int .u32 0)]) := ⟨inferInstance, inferInstance, by kernel_rfl, by decide⟩
instance : TA P 33 := ⟨fun _ => by kernel_rfl⟩
instance : TF P 33 0 0 := ⟨fun _ _ _ => by kernel_rfl⟩
instance : TF P 33 1 1 := ⟨fun _ _ _ => by kernel_rfl⟩
instance : TF P 33 2 2 := ⟨fun _ _ _ => by kernel_rfl⟩
instance : TF P 33 3 3 := ⟨fun _ _ _ => by kernel_rfl⟩
instance : TU P 34 (.map 3 4) := ⟨by kernel_rfl⟩
instance : TI P 34 1 8 := ⟨by kernel_rfl⟩
instance : TZ P 34 (Value.map none) := ⟨by kernel_rfl⟩
instance : TE P 34 1 8 (Value.map none) := ⟨inferInstance, inferInstance, by kernel_rfl, by decide⟩
instance : TS P 34 := ⟨fun _ => by kernel_rfl⟩
instance : TU P 35 (.slice 27) := ⟨by kernel_rfl⟩
instance : TI P 35 1 24 := ⟨by kernel_rfl⟩
instance : TZ P 35 (Value.slice none 0 0) := ⟨by kernel_rfl⟩
instance : TE P 35 1 24 (Value.slice none 0 0) := ⟨inferInstance, inferInstance, by kernel_rfl, by decide⟩
instance : TS P 35 := ⟨fun _ => by kernel_rfl⟩
instance : TI P 37 1 8 := ⟨by kernel_rfl⟩
instance : TZ P 37 Value.nilFunc := ⟨by kernel_rfl⟩
instance : TE P 37 1 8 Value.nilFunc := ⟨inferInstance, inferInstance, by kernel_rfl, by decide⟩
instance : TS P 37 := ⟨fun _ => by kernel_rfl⟩
instance : TI P 39 1 8 := ⟨by kernel_rfl⟩
instance : TZ P 39 Value.nilFunc := ⟨by kernel_rfl⟩
instance : TE P 39 1 8 Value.nilFunc := ⟨inferInstance, inferInstance, by kernel_rfl, by decide⟩
instance : TS P 39 := ⟨fun _ => by kernel_rfl⟩
instance : TI P 40 1 8 := ⟨by kernel_rfl⟩
instance : TZ P 40 Value.nilFunc := ⟨by kernel_rfl⟩
instance : TE P 40 1 8 Value.nilFunc := ⟨inferInstance, inferInstance, by kernel_rfl, by decide⟩
instance : TS P 40 := ⟨fun _ => by kernel_rfl⟩
instance : TI P 41 1 8 := ⟨by kernel_rfl⟩
instance : TZ P 41 Value.nilFunc := ⟨by kernel_rfl⟩
instance : TE P 41 1 8 Value.nilFunc := ⟨inferInstance, inferInstance, by kernel_rfl, by decide⟩
instance : TS P 41 := ⟨fun _ => by kernel_rfl⟩
instance : TI P 42 1 8 := ⟨by kernel_rfl⟩
instance : TZ P 42 Value.nilFunc := ⟨by kernel_rfl⟩
instance : TE P 42 1 8 Value.nilFunc := ⟨inferInstance, inferInstance, by kernel_rfl, by decide⟩
instance : TS P 42 := ⟨fun _ => by kernel_rfl⟩
instance : TI P 43 1 8 := ⟨by kernel_rfl⟩
instance : TZ P 43 Value.nilFunc := ⟨by kernel_rfl⟩
instance : TE P 43 1 8 Value.nilFunc := ⟨inferInstance, inferInstance, by kernel_rfl, by decide⟩
instance : TS P 43 := ⟨fun _ => by kernel_rfl⟩
instance : TI P 44 1 8 := ⟨by kernel_rfl⟩
instance : TZ P 44 Value.nilFunc := ⟨by kernel_rfl⟩
instance : TE P 44 1 8 Value.nilFunc := ⟨inferInstance, inferInstance, by kernel_rfl, by decide⟩
instance : TS P 44 := ⟨fun _ => by kernel_rfl⟩
instance : TI P 45 1 8 := ⟨by kernel_rfl⟩
instance : TZ P 45 Value.nilFunc := ⟨by kernel_rfl⟩
instance : TE P 45 1 8 Value.nilFunc := ⟨inferInstance, inferInstance, by kernel_rfl, by decide⟩
instance : TS P 45 := ⟨fun _ => by kernel_rfl⟩
instance : TI P 46 1 8 := ⟨by kernel_rfl⟩
instance : TZ P 46 Value.nilFunc := ⟨by kernel_rfl⟩
instance : TE P 46 1 8 Value.nilFunc := ⟨inferInstance, inferInstance, by kernel_rfl, by decide⟩
instance : TS P 46 := ⟨fun _ => by kernel_rfl⟩
instance : TU P 47 (.int .u64) := ⟨by kernel_rfl⟩
instance : TI P 47 1 8 := ⟨by kernel_rfl⟩
instance : TZ P 47 (Value.int .u64 0) := ⟨by kernel_rfl⟩
instance : TE P 47 1 8 (Value.int .u64 0) := ⟨inferInstance, inferInstance, by kernel_rfl, by decide⟩
instance : TS P 47 := ⟨fun _ => by kernel_rfl⟩
instance : TI P 48 1 8 := ⟨by kernel_rfl⟩
instance : TZ P 48 Value.nilFunc := ⟨by kernel_rfl⟩
instance : TE P 48 1 8 Value.nilFunc := ⟨inferInstance, inferInstance, by kernel_rfl, by decide⟩
instance : TS P 48 := ⟨fun _ => by kernel_rfl⟩
instance : TI P 49 1 8 := ⟨by kernel_rfl⟩
instance : TZ P 49 Value.nilFunc := ⟨by kernel_rfl⟩
instance : TE P 49 1 8 Value.nilFunc := ⟨inferInstance, inferInstance, by kernel_rfl, by decide⟩
instance : TS P 49 := ⟨fun _ => by kernel_rfl⟩
instance : TI P 51 1 8 := ⟨by kernel_rfl⟩
instance : TZ P 51 Value.nilFunc := ⟨by kernel_rfl⟩
instance : TE P 51 1 8 Value.nilFunc := ⟨inferInstance, inferInstance, by kernel_rfl, by decide⟩
instance : TS P 51 := ⟨fun _ => by kernel_rfl⟩
instance : TI P 52 1 8 := ⟨by kernel_rfl⟩
instance : TZ P 52 Value.nilFunc := ⟨by kernel_rfl⟩
instance : TE P 52 1 8 Value.nilFunc := ⟨inferInstance, inferInstance, by kernel_rfl, by decide⟩
instance : TS P 52 := ⟨fun _ => by kernel_rfl⟩
instance : TU P 53 (.map 27 33) := ⟨by kernel_rfl⟩
instance : TI P 53 1 8 := ⟨by kernel_rfl⟩
instance : TZ P 53 (Value.map none) := ⟨by kernel_rfl⟩
instance : TE P 53 1 8 (Value.map none) := ⟨inferInstance, inferInstance, by kernel_rfl, by decide⟩
instance : TS P 53 := ⟨fun _ => by kernel_rfl⟩
instance : TU P 54 (.map 3 69) := ⟨by kernel_rfl⟩
instance : TI P 54 1 8 := ⟨by kernel_rfl⟩
instance : TZ P 54 (Value.map none) := ⟨by kernel_rfl⟩
instance : TE P 54 1 8 (Value.map none) := ⟨inferInstance, inferInstance, by kernel_rfl, by decide⟩
instance : TS P 54 := ⟨fun _ => by kernel_rfl⟩
instance : TI P 55 3 24 := ⟨by kernel_rfl⟩
instance : TZ P 55 (.agg #[(Value.map none), (Value.map none), (Value.int .i64 0)]) := ⟨by kernel_rfl⟩
instance : TE P 55 3 24 (.agg #[(Value.map none), (Value.map none), (Value.int .i64 0)]) := ⟨inferInstance, inferInstance, by kernel_rfl, by decide⟩
instance : TA P 55 := ⟨fun _ => by kernel_rfl⟩
instance : TF P 55 0 0 := ⟨fun _ _ _ => by kernel_rfl⟩
instance : TF P 55 1 1 := ⟨fun _ _ _ => by kernel_rfl⟩
instance : TF P 55 2 2 := ⟨fun _ _ _ => by kernel_rfl⟩
instance : TI P 56 3 24 := ⟨by kernel_rfl⟩
instance : TZ P 56 (.agg #[(Value.map none), (Value.map none), (Value.int .i64 0)]) := ⟨by kernel_rfl⟩
instance : TE P 56 3 24 (.agg #[(Value.map none), (Value.map none), (Value.int .i64 0)]) := ⟨inferInstance, inferInstance, by kernel_rfl, by decide⟩
instance : TA P 56 := ⟨fun _ => by kernel_rfl⟩
instance : TF P 56 0 0 := ⟨fun _ _ _ => by kernel_rfl⟩
instance : TF P 56 1 1 := ⟨fun _ _ _ => by kernel_rfl⟩
instance : TF P 56 2 2 := ⟨fun _ _ _ => by kernel_rfl⟩
instance : TU P 57 (.slice 5) := ⟨by kernel_rfl⟩
instance : TI P 57 1 24 := ⟨by kernel_rfl⟩
instance : TZ P 57 (Value.slice none 0 0) := ⟨by kernel_rfl⟩
instance : TE P 57 1 24 (Value.slice none 0 0) := ⟨inferInstance, inferInstance, by kernel_rfl, by decide⟩
instance : TS P 57 := ⟨fun _ => by kernel_rfl⟩
instance : TU P 58 (.slice 57) := ⟨by kernel_rfl⟩
instance : TI P 58 1 24 := ⟨by kernel_rfl⟩
instance : TZ P 58 (Value.slice none 0 0) := ⟨by kernel_rfl⟩
instance : TE P 58 1 24 (Value.slice none 0 0) := ⟨inferInstance, inferInstance, by kernel_rfl, by decide⟩
instance : TS P 58 := ⟨fun _ => by kernel_rfl⟩
instance : TI P 59 36 96 := ⟨by kernel_rfl⟩
instance : TZ P 59 (.agg (List.replicate 32 (Value.int .u8 0) ++ [(Value.int .u32 0)] ++ [(Value.slice none 0 0)] ++ [(Value.int .u32 0)] ++ [(Value.slice none 0 0)]).toArray) := ⟨by kernel_rfl⟩
instance : TE P 59 36 96 (.agg (List.replicate 32 (Value.int .u8 0) ++ [(Value.int .u32 0)] ++ [(Value.slice none 0 0)] ++ [(Value.int .u32 0)] ++ [(Value.slice none 0 0)]).toArray) := ⟨inferInstance, inferInstance, by kernel_rfl, by decide⟩
instance : TA P 59 := ⟨fun _ => by kernel_rfl⟩
instance : TF P 59 0 0 := ⟨fun _ _ _ => by kernel_rfl⟩
instance : TF P 59 1 32 := ⟨fun _ _ _ => by kernel_rfl⟩
instance : TF P 59 2 33 := ⟨fun _ _ _ => by kernel_rfl⟩
instance : TF P 59 3 34 := ⟨fun _ _ _ => by kernel_rfl⟩
instance : TF P 59 4 35 := ⟨fun _ _ _ => by kernel_rfl⟩
instance : TI P 60 36 96 := ⟨by kernel_rfl⟩
instance : TZ P 60 (.agg (List.replicate 32 (Value.int .u8 0) ++ [(Value.int .u32 0)] ++ [(Value.slice none 0 0)] ++ [(Value.int .u32 0)] ++ [(Value.slice none 0 0)]).toArray) := ⟨by kernel_rfl⟩
instance : TE P 60 36 96 (.agg (List.replicate 32 (Value.int .u8 0) ++ [(Value.int .u32 0)] ++ [(Value.slice none 0 0)] ++ [(Value.int .u32 0)] ++ [(Value.slice none 0 0)]).toArray) := ⟨inferInstance, inferInstance, by kernel_rfl, by decide⟩
instance : TA P 60 := ⟨fun _ => by kernel_rfl⟩
instance : TF P 60 0 0 := ⟨fun _ _ _ => by kernel_rfl⟩
instance : TF P 60 1 32 := ⟨fun _ _ _ => by kernel_rfl⟩
instance : TF P 60 2 33 := ⟨fun _ _ _ => by kernel_rfl⟩
instance : TF P 60 3 34 := ⟨fun _ _ _ => by kernel_rfl⟩
instance : TF P 60 4 35 := ⟨fun _ _ _ => by kernel_rfl⟩
instance : TU P 61 (.int .u64) := ⟨by kernel_rfl⟩
instance : TI P 61 1 8 := ⟨by kernel_rfl⟩
instance : TZ P 61 (Value.int .u64 0) := ⟨by kernel_rfl⟩
instance : TE P 61 1 8 (Value.int .u64 0) := ⟨inferInstance, inferInstance, by kernel_rfl, by decide⟩
instance : TS P 61 := ⟨fun _ => by kernel_rfl⟩
instance : TI P 62 1 8 := ⟨by kernel_rfl⟩
instance : TZ P 62 Value.nilFunc := ⟨by kernel_rfl⟩
instance : TE P 62 1 8 Value.nilFunc := ⟨inferInstance, inferInstance, by kernel_rfl, by decide⟩
instance : TS P 62 := ⟨fun _ => by kernel_rfl⟩
instance : TI P 63 2 32 := ⟨by kernel_rfl⟩
instance : TZ P 63 (.agg #[(Value.int .u64 0), (Value.slice none 0 0)]) := ⟨by kernel_rfl⟩
instance : TE P 63 2 32 (.agg #[(Value.int .u64 0), (Value.slice none 0 0)]) := ⟨inferInstance, inferInstance, by kernel_rfl, by decide⟩
instance : TA P 63 := ⟨fun _ => by kernel_rfl⟩
instance : TF P 63 0 0 := ⟨fun _ _ _ => by kernel_rfl⟩
instance : TF P 63 1 1 := ⟨fun _ _ _ => by kernel_rfl⟩
instance : TI P 64 2 32 := ⟨by kernel_rfl⟩
instance : TZ P 64 (.agg #[(Value.int .u64 0), (Value.slice none 0 0)]) := ⟨by kernel_rfl⟩
instance : TE P 64 2 32 (.agg #[(Value.int .u64 0), (Value.slice none 0 0)]) := ⟨inferInstance, inferInstance, by kernel_rfl, by decide⟩
instance : TA P 64 := ⟨fun _ => by kernel_rfl⟩
instance : TF P 64 0 0 := ⟨fun _ _ _ => by kernel_rfl⟩
instance : TF P 64 1 1 := ⟨fun _ _ _ => by kernel_rfl⟩
instance : TI P 65 1 8 := ⟨by kernel_rfl⟩
instance : TZ P 65 Value.nilFunc := ⟨by kernel_rfl⟩
instance : TE P 65 1 8 Value.nilFunc := ⟨inferInstance, inferInstance, by kernel_rfl, by decide⟩
instance : TS P 65 := ⟨fun _ => by kernel_rfl⟩
instance : TI P 66 1 8 := ⟨by kernel_rfl⟩
instance : TZ P 66 Value.nilFunc := ⟨by kernel_rfl⟩
instance : TE P 66 1 8 Value.nilFunc := ⟨inferInstance, inferInstance, by kernel_rfl, by decide⟩
instance : TS P 66 := ⟨fun _ => by kernel_rfl⟩
instance : TI P 67 1 8 := ⟨by kernel_rfl⟩
instance : TZ P 67 Value.nilFunc := ⟨by kernel_rfl⟩
instance : TE P 67 1 8 Value.nilFunc := ⟨inferInstance, inferInstance, by kernel_rfl, by decide⟩
instance : TS P 67 := ⟨fun _ => by kernel_rfl⟩
instance : TI P 68 1 8 := ⟨by kernel_rfl⟩
instance : TZ P 68 Value.nilFunc := ⟨by kernel_rfl⟩
instance : TE P 68 1 8 Value.nilFunc := ⟨inferInstance, inferInstance, by kernel_rfl, by decide⟩
instance : TS P 68 := ⟨fun _ => by kernel_rfl⟩
instance : TU P 69 (.slice 71) := ⟨by kernel_rfl⟩
instance : TI P 69 1 24 := ⟨by kernel_rfl⟩
instance : TZ P 69 (Value.slice none 0 0) := ⟨by kernel_rfl⟩
instance : TE P 69 1 24 (Value.slice none 0 0) := ⟨inferInstance, inferInstance, by kernel_rfl, by decide⟩
instance : TS P 69 := ⟨fun _ => by kernel_rfl⟩
instance : TI P 70 34 48 := ⟨by kernel_rfl⟩
instance : TZ P 70 (.agg (List.replicate 32 (Value.int .u8 0) ++ [(Value.int .i64 0), (Value.int .i64 0)]).toArray) := ⟨by kernel_rfl⟩
instance : TE P 70 34 48 (.agg (List.replicate 32 (Value.int .u8 0) ++ [(Value.int .i64 0), (Value.int .i64 0)]).toArray) := ⟨inferInstance, inferInstance, by kernel_rfl, by decide⟩
instance : TA P 70 := ⟨fun _ => by kernel_rfl⟩
instance : TF P 70 0 0 := ⟨fun _ _ _ => by kernel_rfl⟩
instance : TF P 70 1 32 := ⟨fun _ _ _ => by kernel_rfl⟩
instance : TF P 70 2 33 := ⟨fun _ _ _ => by kernel_rfl⟩
instance : TI P 71 34 48 := ⟨by kernel_rfl⟩
instance : TZ P 71 (.agg (List.replicate 32 (Value.int .u8 0) ++ [(Value.int .i64 0), (Value.int .i64 0)]).toArray) := ⟨by kernel_rfl⟩
instance : TE P 71 34 48 (.agg (List.replicate 32 (Value.int .u8 0) ++ [(Value.int .i64 0), (Value.int .i64 0)]).toArray) := ⟨inferInstance, inferInstance, by kernel_rfl, by decide⟩
instance : TA P 71 := ⟨fun _ => by kernel_rfl⟩
instance : TF P 71 0 0 := ⟨fun _ _ _ => by kernel_rfl⟩
instance : TF P 71 1 32 := ⟨fun _ _ _ => by kernel_rfl⟩
instance : TF P 71 2 33 := ⟨fun _ _ _ => by kernel_rfl⟩
instance : TI P 72 1 8 := ⟨by kernel_rfl⟩
instance : TZ P 72 Value.nilFunc := ⟨by kernel_rfl⟩
instance : TE P 72 1 8 Value.nilFunc := ⟨inferInstance, inferInstance, by kernel_rfl, by decide⟩
instance : TS P 72 := ⟨fun _ => by kernel_rfl⟩
instance : TI P 73 1 8 := ⟨by kernel_rfl⟩
instance : TZ P 73 Value.nilFunc := ⟨by kernel_rfl⟩
instance : TE P 73 1 8 Value.nilFunc := ⟨inferInstance, inferInstance, by kernel_rfl, by decide⟩
instance : TS P 73 := ⟨fun _ => by kernel_rfl⟩
instance : TI P 74 1 8 := ⟨by kernel_rfl⟩
instance : TZ P 74 Value.nilFunc := ⟨by kernel_rfl⟩
instance : TE P 74 1 8 Value.nilFunc := ⟨inferInstance, inferInstance, by kernel_rfl, by decide⟩
instance : TS P 74 := ⟨fun _ => by kernel_rfl⟩
instance : TI P 75 1 8 := ⟨by kernel_rfl⟩
instance : TZ P 75 Value.nilFunc := ⟨by kernel_rfl⟩
instance : TE P 75 1 8 Value.nilFunc := ⟨inferInstance, inferInstance, by kernel_rfl, by decide⟩
instance : TS P 75 := ⟨fun _ => by kernel_rfl⟩
instance : TI P 76 1 8 := ⟨by kernel_rfl⟩
instance : TZ P 76 Value.nilFunc := ⟨by kernel_rfl⟩
instance : TE P 76 1 8 Value.nilFunc := ⟨inferInstance, inferInstance, by kernel_rfl, by decide⟩
instance : TS P 76 := ⟨fun _ => by kernel_rfl⟩
instance : TI P 77 1 8 := ⟨by kernel_rfl⟩
instance : TZ P 77 Value.nilFunc := ⟨by kernel_rfl⟩
instance : TE P 77 1 8 Value.nilFunc := ⟨inferInstance, inferInstance, by kernel_rfl, by decide⟩
instance : TS P 77 := ⟨fun _ => by kernel_rfl⟩
instance : TI P 78 1 8 := ⟨by kernel_rfl⟩
instance : TZ P 78 Value.nilFunc := ⟨by kernel_rfl⟩
instance : TE P 78 1 8 Value.nilFunc := ⟨inferInstance, inferInstance, by kernel_rfl, by decide⟩
instance : TS P 78 := ⟨fun _ => by kernel_rfl⟩
instance : TI P 79 1 8 := ⟨by kernel_rfl⟩
instance : TZ P 79 Value.nilFunc := ⟨by kernel_rfl⟩
instance : TE P 79 1 8 Value.nilFunc := ⟨inferInstance, inferInstance, by kernel_rfl, by decide⟩
instance : TS P 79 := ⟨fun _ => by kernel_rfl⟩
instance : TI P 80 1 8 := ⟨by kernel_rfl⟩
instance : TZ P 80 Value.nilFunc := ⟨by kernel_rfl⟩
instance : TE P 80 1 8 Value.nilFunc := ⟨inferInstance, inferInstance, by kernel_rfl, by decide⟩
instance : TS P 80 := ⟨fun _ => by kernel_rfl⟩
instance : TI P 81 1 8 := ⟨by kernel_rfl⟩
instance : TZ P 81 Value.nilFunc := ⟨by kernel_rfl⟩
instance : TE P 81 1 8 Value.nilFunc := ⟨inferInstance, inferInstance, by kernel_rfl, by decide⟩
instance : TS P 81 := ⟨fun _ => by kernel_rfl⟩
instance : TI P 82 1 8 := ⟨by kernel_rfl⟩
instance : TZ P 82 Value.nilFunc := ⟨by kernel_rfl⟩
instance : TE P 82 1 8 Value.nilFunc := ⟨inferInstance, inferInstance, by kernel_rfl, by decide⟩
instance : TS P 82 := ⟨fun _ => by kernel_rfl⟩
instance : TI P 83 1 8 := ⟨by kernel_rfl⟩
instance : TZ P 83 Value.nilFunc := ⟨by kernel_rfl⟩
instance : TE P 83 1 8 Value.nilFunc := ⟨inferInstance, inferInstance, by kernel_rfl, by decide⟩
instance : TS P 83 := ⟨fun _ => by kernel_rfl⟩
instance : TI P 84 1 8 := ⟨by kernel_rfl⟩
instance : TZ P 84 Value.nilFunc := ⟨by kernel_rfl⟩
instance : TE P 84 1 8 Value.nilFunc := ⟨inferInstance, inferInstance, by kernel_rfl, by decide⟩
instance : TS P 84 := ⟨fun _ => by kernel_rfl⟩
instance : TI P 85 1 8 := ⟨by kernel_rfl⟩
instance : TZ P 85 Value.nilFunc := ⟨by kernel_rfl⟩
instance : TE P 85 1 8 Value.nilFunc := ⟨inferInstance, inferInstance, by kernel_rfl, by decide⟩
instance : TS P 85 := ⟨fun _ => by kernel_rfl⟩
instance : TI P 86 1 8 := ⟨by kernel_rfl⟩
instance : TZ P 86 Value.nilFunc := ⟨by kernel_rfl⟩
instance : TE P 86 1 8 Value.nilFunc := ⟨inferInstance, inferInstance, by kernel_rfl, by decide⟩
instance : TS P 86 := ⟨fun _ => by kernel_rfl⟩
instance : TI P 87 1 8 := ⟨by kernel_rfl⟩
instance : TZ P 87 Value.nilFunc := ⟨by kernel_rfl⟩
instance : TE P 87 1 8 Value.nilFunc := ⟨inferInstance, inferInstance, by kernel_rfl, by decide⟩
instance : TS P 87 := ⟨fun _ => by kernel_rfl⟩
instance : TI P 88 1 8 := ⟨by kernel_rfl⟩
instance : TZ P 88 Value.nilFunc := ⟨by kernel_rfl⟩
instance : TE P 88 1 8 Value.nilFunc := ⟨inferInstance, inferInstance, by kernel_rfl, by decide⟩
instance : TS P 88 := ⟨fun _ => by kernel_rfl⟩
instance : TI P 89 1 8 := ⟨by kernel_rfl⟩
instance : TZ P 89 Value.nilFunc := ⟨by kernel_rfl⟩
instance : TE P 89 1 8 Value.nilFunc := ⟨inferInstance, inferInstance, by kernel_rfl, by decide⟩
instance : TS P 89 := ⟨fun _ => by kernel_rfl⟩
instance : TI P 90 1 8 := ⟨by kernel_rfl⟩
instance : TZ P 90 Value.nilFunc := ⟨by kernel_rfl⟩
instance : TE P 90 1 8 Value.nilFunc := ⟨inferInstance, inferInstance, by kernel_rfl, by decide⟩
instance : TS P 90 := ⟨fun _ => by kernel_rfl⟩
instance : TI P 91 1 8 := ⟨by kernel_rfl⟩
instance : TZ P 91 Value.nilFunc := ⟨by kernel_rfl⟩
instance : TE P 91 1 8 Value.nilFunc := ⟨inferInstance, inferInstance, by kernel_rfl, by decide⟩
instance : TS P 91 := ⟨fun _ => by kernel_rfl⟩
instance : TI P 92 1 8 := ⟨by kernel_rfl⟩
instance : TZ P 92 Value.nilFunc := ⟨by kernel_rfl⟩
instance : TE P 92 1 8 Value.nilFunc := ⟨inferInstance, inferInstance, by kernel_rfl, by decide⟩
instance : TS P 92 := ⟨fun _ => by kernel_rfl⟩
instance : TI P 93 1 8 := ⟨by kernel_rfl⟩
instance : TZ P 93 Value.nilFunc := ⟨by kernel_rfl⟩
instance : TE P 93 1 8 Value.nilFunc := ⟨inferInstance, inferInstance, by kernel_rfl, by decide⟩
instance : TS P 93 := ⟨fun _ => by kernel_rfl⟩
instance : TI P 94 1 8 := ⟨by kernel_rfl⟩
instance : TZ P 94 Value.nilFunc := ⟨by kernel_rfl⟩
instance : TE P 94 1 8 Value.nilFunc := ⟨inferInstance, inferInstance, by kernel_rfl, by decide⟩
instance : TS P 94 := ⟨fun _ => by kernel_rfl⟩
instance : TI P 95 1 8 := ⟨by kernel_rfl⟩
instance : TZ P 95 Value.nilFunc := ⟨by kernel_rfl⟩
instance : TE P 95 1 8 Value.nilFunc := ⟨inferInstance, inferInstance, by kernel_rfl, by decide⟩
instance : TS P 95 := ⟨fun _ => by kernel_rfl⟩
instance : TI P 96 1 8 := ⟨by kernel_rfl⟩
instance : TZ P 96 Value.nilFunc := ⟨by kernel_rfl⟩
instance : TE P 96 1 8 Value.nilFunc := ⟨inferInstance, inferInstance, by kernel_rfl, by decide⟩
instance : TS P 96 := ⟨fun _ => by kernel_rfl⟩
instance : TI P 97 1 8 := ⟨by kernel_rfl⟩
instance : TZ P 97 Value.nilFunc := ⟨by kernel_rfl⟩
instance : TE P 97 1 8 Value.nilFunc := ⟨inferInstance, inferInstance, by kernel_rfl, by decide⟩
instance : TS P 97 := ⟨fun _ => by kernel_rfl⟩
instance : TI P 98 1 8 := ⟨by kernel_rfl⟩
instance : TZ P 98 Value.nilFunc := ⟨by kernel_rfl⟩
instance : TE P 98 1 8 Value.nilFunc := ⟨inferInstance, inferInstance, by kernel_rfl, by decide⟩
instance : TS P 98 := ⟨fun _ => by kernel_rfl⟩
instance : TI P 99 1 8 := ⟨by kernel_rfl⟩
instance : TZ P 99 Value.nilFunc := ⟨by kernel_rfl⟩
instance : TE P 99 1 8 Value.nilFunc := ⟨inferInstance, inferInstance, by kernel_rfl, by decide⟩
instance : TS P 99 := ⟨fun _ => by kernel_rfl⟩
instance : TI P 100 1 8 := ⟨by kernel_rfl⟩
instance : TZ P 100 Value.nilFunc := ⟨by kernel_rfl⟩
instance : TE P 100 1 8 Value.nilFunc := ⟨inferInstance, inferInstance, by kernel_rfl, by decide⟩
instance : TS P 100 := ⟨fun _ => by kernel_rfl⟩
instance : TU P 101 (.array 64 29) := ⟨by kernel_rfl⟩
instance : TI P 101 64 256 := ⟨by kernel_rfl⟩
instance : TZ P 101 (.agg (List.replicate 64 (Value.int .u32 0)).toArray) := ⟨by kernel_rfl⟩
instance : TE P 101 64 256 (.agg (List.replicate 64 (Value.int .u32 0)).toArray) := ⟨inferInstance, inferInstance, by kernel_rfl, by decide⟩
instance : TA P 101 := ⟨fun _ => by kernel_rfl⟩
instance : TI P 102 1 8 := ⟨by kernel_rfl⟩
instance : TZ P 102 Value.nilFunc := ⟨by kernel_rfl⟩
instance : TE P 102 1 8 Value.nilFunc := ⟨inferInstance, inferInstance, by kernel_rfl, by decide⟩
instance : TS P 102 := ⟨fun _ => by kernel_rfl⟩
instance : TU P 103 (.array 8 29) := ⟨by kernel_rfl⟩
instance : TI P 103 8 32 := ⟨by kernel_rfl⟩
instance : TZ P 103 (.agg (List.replicate 8 (Value.int .u32 0)).toArray) := ⟨by kernel_rfl⟩
instance : TE P 103 8 32 (.agg (List.replicate 8 (Value.int .u32 0)).toArray) := ⟨inferInstance, inferInstance, by kernel_rfl, by decide⟩
instance : TA P 103 := ⟨fun _ => by kernel_rfl⟩
instance : TI P 104 1 8 := ⟨by kernel_rfl⟩
instance : TZ P 104 Value.nilFunc := ⟨by kernel_rfl⟩
instance : TE P 104 1 8 Value.nilFunc := ⟨inferInstance, inferInstance, by kernel_rfl, by decide⟩
instance : TS P 104 := ⟨fun _ => by kernel_rfl⟩
instance : TI P 105 1 8 := ⟨by kernel_rfl⟩
instance : TZ P 105 Value.nilFunc := ⟨by kernel_rfl⟩
instance : TE P 105 1 8 Value.nilFunc := ⟨inferInstance, inferInstance, by kernel_rfl, by decide⟩
instance : TS P 105 := ⟨fun _ => by kernel_rfl⟩
instance : TI P 106 1 8 := ⟨by kernel_rfl⟩
instance : TZ P 106 Value.nilFunc := ⟨by kernel_rfl⟩
instance : TE P 106 1 8 Value.nilFunc := ⟨inferInstance, inferInstance, by kernel_rfl, by decide⟩
instance : TS P 106 := ⟨fun _ => by kernel_rfl⟩
instance : TI P 107 1 8 := ⟨by kernel_rfl⟩
instance : TZ P 107 Value.nilFunc := ⟨by kernel_rfl⟩
instance : TE P 107 1 8 Value.nilFunc := ⟨inferInstance, inferInstance, by kernel_rfl, by decide⟩
instance : TS P 107 := ⟨fun _ => by kernel_rfl⟩
instance : TU P 108 (.int .i64) := ⟨by kernel_rfl⟩
instance : TI P 108 1 8 := ⟨by kernel_rfl⟩
instance : TZ P 108 (Value.int .i64 0) := ⟨by kernel_rfl⟩
instance : TE P 108 1 8 (Value.int .i64 0) := ⟨inferInstance, inferInstance, by kernel_rfl, by decide⟩
instance : TS P 108 := ⟨fun _ => by kernel_rfl⟩
instance : TI P 110 1 8 := ⟨by kernel_rfl⟩
instance : TZ P 110 Value.nilFunc := ⟨by kernel_rfl⟩
instance : TE P 110 1 8 Value.nilFunc := ⟨inferInstance, inferInstance, by kernel_rfl, by decide⟩
instance : TS P 110 := ⟨fun _ => by kernel_rfl⟩
instance : TI P 111 1 8 := ⟨by kernel_rfl⟩
instance : TZ P 111 Value.nilFunc := ⟨by kernel_rfl⟩
instance : TE P 111 1 8 Value.nilFunc := ⟨inferInstance, inferInstance, by kernel_rfl, by decide⟩
instance : TS P 111 := ⟨fun _ => by kernel_rfl⟩
instance : TI P 112 1 8 := ⟨by kernel_rfl⟩
instance : TZ P 112 Value.nilFunc := ⟨by kernel_rfl⟩
instance : TE P 112 1 8 Value.nilFunc := ⟨inferInstance, inferInstance, by kernel_rfl, by decide⟩
instance : TS P 112 := ⟨fun _ => by kernel_rfl⟩
instance : TI P 113 1 8 := ⟨by kernel_rfl⟩
instance : TZ P 113 Value.nilFunc := ⟨by kernel_rfl⟩
instance : TE P 113 1 8 Value.nilFunc := ⟨inferInstance, inferInstance, by kernel_rfl, by decide⟩
instance : TS P 113 := ⟨fun _ => by kernel_rfl⟩
instance : TI P 115 1 8 := ⟨by kernel_rfl⟩
instance : TZ P 115 Value.nilFunc := ⟨by kernel_rfl⟩
instance : TE P 115 1 8 Value.nilFunc := ⟨inferInstance, inferInstance, by kernel_rfl, by decide⟩
instance : TS P 115 := ⟨fun _ => by kernel_rfl⟩
instance : TI P 116 1 8 := ⟨by kernel_rfl⟩
instance : TZ P 116 Value.nilFunc := ⟨by kernel_rfl⟩
instance : TE P 116 1 8 Value.nilFunc := ⟨inferInstance, inferInstance, by kernel_rfl, by decide⟩
instance : TS P 116 := ⟨fun _ => by kernel_rfl⟩
instance : TI P 117 1 8 := ⟨by kernel_rfl⟩
instance : TZ P 117 Value.nilFunc := ⟨by kernel_rfl⟩
instance : TE P 117 1 8 Value.nilFunc := ⟨inferInstance, inferInstance, by kernel_rfl, by decide⟩
instance : TS P 117 := ⟨fun _ => by kernel_rfl⟩
instance : TI P 118 1 8 := ⟨by kernel_rfl⟩
instance : TZ P 118 Value.nilFunc := ⟨by kernel_rfl⟩
instance : TE P 118 1 8 Value.nilFunc := ⟨inferInstance, inferInstance, by kernel_rfl, by decide⟩
instance : TS P 118 := ⟨fun _ => by kernel_rfl⟩
instance : TI P 119 1 8 := ⟨by kernel_rfl⟩
instance : TZ P 119 Value.nilFunc := ⟨by kernel_rfl⟩
instance : TE P 119 1 8 Value.nilFunc := ⟨inferInstance, inferInstance, by kernel_rfl, by decide⟩
instance : TS P 119 := ⟨fun _ => by kernel_rfl⟩
instance : TI P 120 1 8 := ⟨by kernel_rfl⟩
instance : TZ P 120 Value.nilFunc := ⟨by kernel_rfl⟩
instance : TE P 120 1 8 Value.nilFunc := ⟨inferInstance, inferInstance, by kernel_rfl, by decide⟩
instance : TS P 120 := ⟨fun _ => by kernel_rfl⟩
instance : TI P 121 1 8 := ⟨by kernel_rfl⟩
instance : TZ P 121 Value.nilFunc := ⟨by kernel_rfl⟩
instance : TE P 121 1 8 Value.nilFunc := ⟨inferInstance, inferInstance, by kernel_rfl, by decide⟩
instance : TS P 121 := ⟨fun _ => by kernel_rfl⟩
instance : TI P 122 1 8 := ⟨by kernel_rfl⟩
instance : TZ P 122 Value.nilFunc := ⟨by kernel_rfl⟩
instance : TE P 122 1 8 Value.nilFunc := ⟨inferInstance, inferInstance, by kernel_rfl, by decide⟩
instance : TS P 122 := ⟨fun _ => by kernel_rfl⟩
instance : TI P 123 1 8 := ⟨by kernel_rfl⟩
instance : TZ P 123 Value.nilFunc := ⟨by kernel_rfl⟩
instance : TE P 123 1 8 Value.nilFunc := ⟨inferInstance, inferInstance, by kernel_rfl, by decide⟩
instance : TS P 123 := ⟨fun _ => by kernel_rfl⟩
instance : TI P 124 1 8 := ⟨by kernel_rfl⟩
instance : TZ P 124 Value.nilFunc := ⟨by kernel_rfl⟩
instance : TE P 124 1 8 Value.nilFunc := ⟨inferInstance, inferInstance, by kernel_rfl, by decide⟩
instance : TS P 124 := ⟨fun _ => by kernel_rfl⟩
instance : TU P 125 (.int .u64) := ⟨by kernel_rfl⟩
instance : TI P 125 1 8 := ⟨by kernel_rfl⟩
instance : TZ P 125 (Value.int .u64 0) := ⟨by kernel_rfl⟩
instance : TE P 125 1 8 (Value.int .u64 0) := ⟨inferInstance, inferInstance, by kernel_rfl, by decide⟩
instance : TS P 125 := ⟨fun _ => by kernel_rfl⟩
instance : TI P 126 1 8 := ⟨by kernel_rfl⟩
instance : TZ P 126 Value.nilFunc := ⟨by kernel_rfl⟩
instance : TE P 126 1 8 Value.nilFunc := ⟨inferInstance, inferInstance, by kernel_rfl, by decide⟩
instance : TS P 126 := ⟨fun _ => by kernel_rfl⟩
instance : TI P 127 1 8 := ⟨by kernel_rfl⟩
instance : TZ P 127 Value.nilFunc := ⟨by kernel_rfl⟩
instance : TE P 127 1 8 Value.nilFunc := ⟨inferInstance, inferInstance, by kernel_rfl, by decide⟩
instance : TS P 127 := ⟨fun _ => by kernel_rfl⟩
instance : TI P 128 1 8 := ⟨by kernel_rfl⟩
instance : TZ P 128 Value.nilFunc := ⟨by kernel_rfl⟩
instance : TE P 128 1 8 Value.nilFunc := ⟨inferInstance, inferInstance, by kernel_rfl, by decide⟩
instance : TS P 128 := ⟨fun _ => by kernel_rfl⟩
instance : TU P 129 (.pointer 3) := ⟨by kernel_rfl⟩
instance : TI P 129 1 8 := ⟨by kernel_rfl⟩
instance : TZ P 129 (Value.pointer none) := ⟨by kernel_rfl⟩
instance : TE P 129 1 8 (Value.pointer none) := ⟨inferInstance, inferInstance, by kernel_rfl, by decide⟩
instance : TS P 129 := ⟨fun _ => by kernel_rfl⟩
instance : TI P 130 1 8 := ⟨by kernel_rfl⟩
instance : TZ P 130 Value.nilFunc := ⟨by kernel_rfl⟩
instance : TE P 130 1 8 Value.nilFunc := ⟨inferInstance, inferInstance, by kernel_rfl, by decide⟩
instance : TS P 130 := ⟨fun _ => by kernel_rfl⟩
instance : TI P 131 1 8 := ⟨by kernel_rfl⟩
instance : TZ P 131 Value.nilFunc := ⟨by kernel_rfl⟩
instance : TE P 131 1 8 Value.nilFunc := ⟨inferInstance, inferInstance, by kernel_rfl, by decide⟩
instance : TS P 131 := ⟨fun _ => by kernel_rfl⟩
instance : TI P 132 1 8 := ⟨by kernel_rfl⟩
instance : TZ P 132 Value.nilFunc := ⟨by kernel_rfl⟩
instance : TE P 132 1 8 Value.nilFunc := ⟨inferInstance, inferInstance, by kernel_rfl, by decide⟩
instance : TS P 132 := ⟨fun _ => by kernel_rfl⟩
instance : TI P 133 1 8 := ⟨by kernel_rfl⟩
instance : TZ P 133 Value.nilFunc := ⟨by kernel_rfl⟩
instance : TE P 133 1 8 Value.nilFunc := ⟨inferInstance, inferInstance, by kernel_rfl, by decide⟩
instance : TS P 133 := ⟨fun _ => by kernel_rfl⟩
instance : TI P 134 1 8 := ⟨by kernel_rfl⟩
instance : TZ P 134 Value.nilFunc := ⟨by kernel_rfl⟩
instance : TE P 134 1 8 Value.nilFunc := ⟨inferInstance, inferInstance, by kernel_rfl, by decide⟩
instance : TS P 134 := ⟨fun _ => by kernel_rfl⟩
instance : TI P 135 1 8 := ⟨by kernel_rfl⟩
instance : TZ P 135 Value.nilFunc := ⟨by kernel_rfl⟩
instance : TE P 135 1 8 Value.nilFunc := ⟨inferInstance, inferInstance, by kernel_rfl, by decide⟩
instance : TS P 135 := ⟨fun _ => by kernel_rfl⟩
instance : TI P 136 1 8 := ⟨by kernel_rfl⟩
instance : TZ P 136 Value.nilFunc := ⟨by kernel_rfl⟩
instance : TE P 136 1 8 Value.nilFunc := ⟨inferInstance, inferInstance, by kernel_rfl, by decide⟩
instance : TS P 136 := ⟨fun _ => by kernel_rfl⟩
instance : TI P 137 1 8 := ⟨by kernel_rfl⟩
instance : TZ P 137 Value.nilFunc := ⟨by kernel_rfl⟩
instance : TE P 137 1 8 Value.nilFunc := ⟨inferInstance, inferInstance, by kernel_rfl, by decide⟩
instance : TS P 137 := ⟨fun _ => by kernel_rfl⟩
instance : TI P 138 1 8 := ⟨by kernel_rfl⟩
instance : TZ P 138 Value.nilFunc := ⟨by kernel_rfl⟩
instance : TE P 138 1 8 Value.nilFunc := ⟨inferInstance, inferInstance, by kernel_rfl, by decide⟩
instance : TS P 138 := ⟨fun _ => by kernel_rfl⟩
instance : TI P 139 1 8 := ⟨by kernel_rfl⟩
instance : TZ P 139 Value.nilFunc := ⟨by kernel_rfl⟩
instance : TE P 139 1 8 Value.nilFunc := ⟨inferInstance, inferInstance, by kernel_rfl, by decide⟩
instance : TS P 139 := ⟨fun _ => by kernel_rfl⟩
instance : TU P 140 (.pointer 125) := ⟨by kernel_rfl⟩
instance : TI P 140 1 8 := ⟨by kernel_rfl⟩
instance : TZ P 140 (Value.pointer none) := ⟨by kernel_rfl⟩
instance : TE P 140 1 8 (Value.pointer none) := ⟨inferInstance, inferInstance, by kernel_rfl, by decide⟩
instance : TS P 140 := ⟨fun _ => by kernel_rfl⟩
instance : TI P 141 1 8 := ⟨by kernel_rfl⟩
instance : TZ P 141 Value.nilFunc := ⟨by kernel_rfl⟩
instance : TE P 141 1 8 Value.nilFunc := ⟨inferInstance, inferInstance, by kernel_rfl, by decide⟩
instance : TS P 141 := ⟨fun _ => by kernel_rfl⟩
instance : TI P 142 1 8 := ⟨by kernel_rfl⟩
instance : TZ P 142 Value.nilFunc := ⟨by kernel_rfl⟩
instance : TE P 142 1 8 Value.nilFunc := ⟨inferInstance, inferInstance, by kernel_rfl, by decide⟩
instance : TS P 142 := ⟨fun _ => by kernel_rfl⟩
instance : TI P 143 1 8 := ⟨by kernel_rfl⟩
instance : TZ P 143 Value.nilFunc := ⟨by kernel_rfl⟩
instance : TE P 143 1 8 Value.nilFunc := ⟨inferInstance, inferInstance, by kernel_rfl, by decide⟩
instance : TS P 143 := ⟨fun _ => by kernel_rfl⟩
instance : TI P 144 1 8 := ⟨by kernel_rfl⟩
instance : TZ P 144 Value.nilFunc := ⟨by kernel_rfl⟩
instance : TE P 144 1 8 Value.nilFunc := ⟨inferInstance, inferInstance, by kernel_rfl, by decide⟩
instance : TS P 144 := ⟨fun _ => by kernel_rfl⟩
instance : TI P 145 1 8 := ⟨by kernel_rfl⟩
instance : TZ P 145 Value.nilFunc := ⟨by kernel_rfl⟩
instance : TE P 145 1 8 Value.nilFunc := ⟨inferInstance, inferInstance, by kernel_rfl, by decide⟩
instance : TS P 145 := ⟨fun _ => by kernel_rfl⟩
instance : TI P 151 1 8 := ⟨by kernel_rfl⟩
instance : TZ P 151 Value.nilFunc := ⟨by kernel_rfl⟩
instance : TE P 151 1 8 Value.nilFunc := ⟨inferInstance, inferInstance, by kernel_rfl, by decide⟩
instance : TS P 151 := ⟨fun _ => by kernel_rfl⟩
instance : TI P 154 1 8 := ⟨by kernel_rfl⟩
instance : TZ P 154 Value.nilFunc := ⟨by kernel_rfl⟩
instance : TE P 154 1 8 Value.nilFunc := ⟨inferInstance, inferInstance, by kernel_rfl, by decide⟩
instance : TS P 154 := ⟨fun _ => by kernel_rfl⟩
instance : TU P 155 (.pointer 5) := ⟨by kernel_rfl⟩
instance : TI P 155 1 8 := ⟨by kernel_rfl⟩
instance : TZ P 155 (Value.pointer none) := ⟨by kernel_rfl⟩
instance : TE P 155 1 8 (Value.pointer none) := ⟨inferInstance, inferInstance, by kernel_rfl, by decide⟩
instance : TS P 155 := ⟨fun _ => by kernel_rfl⟩
instance : TI P 160 1 8 := ⟨by kernel_rfl⟩
instance : TZ P 160 (Value.pointer none) := ⟨by kernel_rfl⟩
instance : TE P 160 1 8 (Value.pointer none) := ⟨inferInstance, inferInstance, by kernel_rfl, by decide⟩
instance : TS P 160 := ⟨fun _ => by kernel_rfl⟩
instance : FN P 3 := ⟨fun _ _ => by kernel_rfl⟩  -- lighterage/lighteragelaw25.OrphAgain
instance : FN P 4 := ⟨fun _ _ => by kernel_rfl⟩  -- lighterage/lighteragelaw25.OrphFair
instance : FN P 5 := ⟨fun _ _ => by kernel_rfl⟩  -- lighterage/orph.New
instance : FN P 6 := ⟨fun _ _ => by kernel_rfl⟩  -- lighterage/lighteragelaw13.Linked
instance : FN P 7 := ⟨fun _ _ => by kernel_rfl⟩  -- lighterage/lighterageref1.Wtxid
instance : FN P 8 := ⟨fun _ _ => by kernel_rfl⟩  -- (*lighterage/orph.Home).Add
instance : FN P 9 := ⟨fun _ _ => by kernel_rfl⟩  -- (*lighterage/orph.Home).Used
instance : FN P 10 := ⟨fun _ _ => by kernel_rfl⟩  -- (*lighterage/orph.Home).Peers
instance : FN P 11 := ⟨fun _ _ => by kernel_rfl⟩  -- (*lighterage/orph.Home).All
instance : FN P 12 := ⟨fun _ _ => by kernel_rfl⟩  -- lighterage/lighterageref1.Weight
instance : FN P 13 := ⟨fun _ _ => by kernel_rfl⟩  -- lighterage/lighteragelaw25.awake
instance : FN P 14 := ⟨fun _ _ => by kernel_rfl⟩  -- (*lighterage/orph.Home).Drop
instance : FN P 15 := ⟨fun _ _ => by kernel_rfl⟩  -- lighterage/lighterageref1.With
instance : FN P 16 := ⟨fun _ _ => by kernel_rfl⟩  -- lighterage/lighteragelaw25.Odd
instance : FN P 17 := ⟨fun _ _ => by kernel_rfl⟩  -- (*lighterage/orph.Home).Gone
instance : FN P 18 := ⟨fun _ _ => by kernel_rfl⟩  -- lighterage/lighterageref1.Has
instance : FN P 19 := ⟨fun _ _ => by kernel_rfl⟩  -- (*lighterage/orph.Home).Get
instance : FN P 20 := ⟨fun _ _ => by kernel_rfl⟩  -- lighterage/lighterageref1.Txid
instance : FN P 21 := ⟨fun _ _ => by kernel_rfl⟩  -- lighterage/lighteragelaw3.Script
instance : FN P 22 := ⟨fun _ _ => by kernel_rfl⟩  -- lighterage/lighterageref1.Twice
instance : FN P 23 := ⟨fun _ _ => by kernel_rfl⟩  -- lighterage/lighterageref1.Bytes
instance : FN P 24 := ⟨fun _ _ => by kernel_rfl⟩  -- lighterage/idsx.Weight
instance : FN P 25 := ⟨fun _ _ => by kernel_rfl⟩  -- lighterage/idsx.Wtxid
instance : FN P 26 := ⟨fun _ _ => by kernel_rfl⟩  -- (*lighterage/orph.Home).has
instance : FN P 27 := ⟨fun _ _ => by kernel_rfl⟩  -- lighterage/txns.Still
instance : FN P 28 := ⟨fun _ _ => by kernel_rfl⟩  -- (*lighterage/orph.Home).nobody
instance : FN P 29 := ⟨fun _ _ => by kernel_rfl⟩  -- slices.Sort[[]int,int]
instance : FN P 30 := ⟨fun _ _ => by kernel_rfl⟩  -- slices.Clip[[]int,int]
instance : FN P 31 := ⟨fun _ _ => by kernel_rfl⟩  -- lighterage/shas.Rising
instance : FN P 32 := ⟨fun _ _ => by kernel_rfl⟩  -- slices.Collect[[32]byte]
instance : FN P 33 := ⟨fun _ _ => by kernel_rfl⟩  -- maps.Keys[map[[32]byte]lighterage/api.Tx,[32]byte,lighterage/api.Tx]
instance : FN P 34 := ⟨fun _ _ => by kernel_rfl⟩  -- lighterage/lighterageref1.Base
instance : FN P 35 := ⟨fun _ _ => by kernel_rfl⟩  -- (*lighterage/orph.Home).Wants
instance : FN P 36 := ⟨fun _ _ => by kernel_rfl⟩  -- (*lighterage/orph.Home).without
instance : FN P 37 := ⟨fun _ _ => by kernel_rfl⟩  -- (*lighterage/orph.Home).Drop$1
instance : FN P 38 := ⟨fun _ _ => by kernel_rfl⟩  -- lighterage/lighterageref1.Less
instance : FN P 39 := ⟨fun _ _ => by kernel_rfl⟩  -- (*lighterage/orph.Home).Gone$1
instance : FN P 40 := ⟨fun _ _ => by kernel_rfl⟩  -- lighterage/lighterageref1.Sum
instance : FN P 41 := ⟨fun _ _ => by kernel_rfl⟩  -- lighterage/lighterageref1.May
instance : FN P 42 := ⟨fun _ _ => by kernel_rfl⟩  -- lighterage/lighterageref1.witness
instance : FN P 43 := ⟨fun _ _ => by kernel_rfl⟩  -- lighterage/lighterageref1.body
instance : FN P 44 := ⟨fun _ _ => by kernel_rfl⟩  -- lighterage/lighterageref1.Small
instance : FN P 45 := ⟨fun _ _ => by kernel_rfl⟩  -- lighterage/lighterageref1.Count
instance : FN P 46 := ⟨fun _ _ => by kernel_rfl⟩  -- lighterage/lighterageref1.bytes
instance : FN P 47 := ⟨fun _ _ => by kernel_rfl⟩  -- lighterage/txns.Base
instance : FN P 48 := ⟨fun _ _ => by kernel_rfl⟩  -- lighterage/txns.Bytes
instance : FN P 49 := ⟨fun _ _ => by kernel_rfl⟩  -- lighterage/shas.Twice
instance : FN P 50 := ⟨fun _ _ => by kernel_rfl⟩  -- slices.ContainsFunc[[]lighterage/orph.told,lighterage/orph.told]
instance : FN P 51 := ⟨fun _ _ => by kernel_rfl⟩  -- (*lighterage/orph.Home).has$1
instance : FN P 52 := ⟨fun _ _ => by kernel_rfl⟩  -- slices.Clone[[]byte,byte]
instance : FN P 53 := ⟨fun _ _ => by kernel_rfl⟩  -- slices.Clip[[][]byte,[]byte]
instance : FN P 54 := ⟨fun _ _ => by kernel_rfl⟩  -- slices.Clip[[]lighterage/api.In,lighterage/api.In]
instance : FN P 55 := ⟨fun _ _ => by kernel_rfl⟩  -- slices.Clip[[]lighterage/api.Out,lighterage/api.Out]
instance : FN P 56 := ⟨fun _ _ => by kernel_rfl⟩  -- slices.pdqsortOrdered[int]
instance : FN P 57 := ⟨fun _ _ => by kernel_rfl⟩  -- math/bits.Len
instance : FN P 58 := ⟨fun _ _ => by kernel_rfl⟩  -- slices.Clone[[][32]byte,[32]byte]
instance : FN P 59 := ⟨fun _ _ => by kernel_rfl⟩  -- slices.SortFunc[[][32]byte,[32]byte]
instance : FN P 60 := ⟨fun _ _ => by kernel_rfl⟩  -- lighterage/shas.Compare
instance : FN P 61 := ⟨fun _ _ => by kernel_rfl⟩  -- slices.Clip[[][32]byte,[32]byte]
instance : FN P 62 := ⟨fun _ _ => by kernel_rfl⟩  -- slices.Compact[[][32]byte,[32]byte]
instance : FN P 63 := ⟨fun _ _ => by kernel_rfl⟩  -- slices.AppendSeq[[][32]byte,[32]byte]
instance : FN P 64 := ⟨fun _ _ => by kernel_rfl⟩  -- maps.Keys[map[[32]byte]lighterage/api.Tx,[32]byte,lighterage/api.Tx]$1
instance : FN P 65 := ⟨fun _ _ => by kernel_rfl⟩  -- slices.ContainsFunc[[]lighterage/api.In,lighterage/api.In]
instance : FN P 66 := ⟨fun _ _ => by kernel_rfl⟩  -- (*lighterage/orph.Home).Wants$1
instance : FN P 67 := ⟨fun _ _ => by kernel_rfl⟩  -- lighterage/lighterageref1.numbers
instance : FN P 68 := ⟨fun _ _ => by kernel_rfl⟩  -- lighterage/lighterageref1.turned
instance : FN P 69 := ⟨fun _ _ => by kernel_rfl⟩  -- lighterage/lighterageref1.Big
instance : FN P 70 := ⟨fun _ _ => by kernel_rfl⟩  -- lighterage/txns.May
instance : FN P 71 := ⟨fun _ _ => by kernel_rfl⟩  -- lighterage/wire.Small
instance : FN P 72 := ⟨fun _ _ => by kernel_rfl⟩  -- lighterage/txns.body
instance : FN P 73 := ⟨fun _ _ => by kernel_rfl⟩  -- lighterage/txns.witnessed
instance : FN P 74 := ⟨fun _ _ => by kernel_rfl⟩  -- lighterage/wire.Count
instance : FN P 75 := ⟨fun _ _ => by kernel_rfl⟩  -- lighterage/txns.counted
instance : FN P 76 := ⟨fun _ _ => by kernel_rfl⟩  -- lighterage/shas.Sum
instance : FN P 77 := ⟨fun _ _ => by kernel_rfl⟩  -- slices.IndexFunc[[]lighterage/orph.told,lighterage/orph.told]
instance : FN P 78 := ⟨fun _ _ => by kernel_rfl⟩  -- slices.insertionSortOrdered[int]
instance : FN P 79 := ⟨fun _ _ => by kernel_rfl⟩  -- slices.heapSortOrdered[int]
instance : FN P 80 := ⟨fun _ _ => by kernel_rfl⟩  -- slices.breakPatternsOrdered[int]
instance : FN P 81 := ⟨fun _ _ => by kernel_rfl⟩  -- slices.choosePivotOrdered[int]
instance : FN P 82 := ⟨fun _ _ => by kernel_rfl⟩  -- slices.reverseRangeOrdered[int]
instance : FN P 83 := ⟨fun _ _ => by kernel_rfl⟩  -- slices.partialInsertionSortOrdered[int]
instance : FN P 84 := ⟨fun _ _ => by kernel_rfl⟩  -- cmp.Less[int]
instance : FN P 85 := ⟨fun _ _ => by kernel_rfl⟩  -- slices.partitionEqualOrdered[int]
instance : FN P 86 := ⟨fun _ _ => by kernel_rfl⟩  -- slices.partitionOrdered[int]
instance : FN P 87 := ⟨fun _ _ => by kernel_rfl⟩  -- math/bits.Len32
instance : FN P 88 := ⟨fun _ _ => by kernel_rfl⟩  -- math/bits.Len64
instance : FN P 89 := ⟨fun _ _ => by kernel_rfl⟩  -- slices.pdqsortCmpFunc[[32]byte]
instance : FN P 90 := ⟨fun _ _ => by kernel_rfl⟩  -- bytes.Compare
instance : FN P 91 := ⟨fun _ _ => by kernel_rfl⟩  -- slices.IndexFunc[[]lighterage/api.In,lighterage/api.In]
instance : FN P 92 := ⟨fun _ _ => by kernel_rfl⟩  -- lighterage/txns.long
instance : FN P 93 := ⟨fun _ _ => by kernel_rfl⟩  -- slices.ContainsFunc[[][]byte,[]byte]
instance : FN P 94 := ⟨fun _ _ => by kernel_rfl⟩  -- lighterage/wire.low
instance : FN P 95 := ⟨fun _ _ => by kernel_rfl⟩  -- lighterage/wire.Big
instance : FN P 96 := ⟨fun _ _ => by kernel_rfl⟩  -- lighterage/txns.witnessed$1
instance : FN P 97 := ⟨fun _ _ => by kernel_rfl⟩  -- slices.Clip[[]byte,byte]
instance : FN P 98 := ⟨fun _ _ => by kernel_rfl⟩  -- lighterage/shas.mix
instance : FN P 99 := ⟨fun _ _ => by kernel_rfl⟩  -- slices.siftDownOrdered[int]
instance : FN P 100 := ⟨fun _ _ => by kernel_rfl⟩  -- slices.nextPowerOfTwo
instance : FN P 101 := ⟨fun _ _ => by kernel_rfl⟩  -- (*slices.xorshift).Next
instance : FN P 102 := ⟨fun _ _ => by kernel_rfl⟩  -- slices.medianAdjacentOrdered[int]
instance : FN P 103 := ⟨fun _ _ => by kernel_rfl⟩  -- slices.medianOrdered[int]
instance : FN P 104 := ⟨fun _ _ => by kernel_rfl⟩  -- cmp.isNaN[int]
instance : FN P 105 := ⟨fun _ _ => by kernel_rfl⟩  -- slices.insertionSortCmpFunc[[32]byte]
instance : FN P 106 := ⟨fun _ _ => by kernel_rfl⟩  -- slices.heapSortCmpFunc[[32]byte]
instance : FN P 107 := ⟨fun _ _ => by kernel_rfl⟩  -- slices.breakPatternsCmpFunc[[32]byte]
instance : FN P 108 := ⟨fun _ _ => by kernel_rfl⟩  -- slices.choosePivotCmpFunc[[32]byte]
instance : FN P 109 := ⟨fun _ _ => by kernel_rfl⟩  -- slices.reverseRangeCmpFunc[[32]byte]
instance : FN P 110 := ⟨fun _ _ => by kernel_rfl⟩  -- slices.partialInsertionSortCmpFunc[[32]byte]
instance : FN P 111 := ⟨fun _ _ => by kernel_rfl⟩  -- slices.partitionEqualCmpFunc[[32]byte]
instance : FN P 112 := ⟨fun _ _ => by kernel_rfl⟩  -- slices.partitionCmpFunc[[32]byte]
instance : FN P 114 := ⟨fun _ _ => by kernel_rfl⟩  -- slices.IndexFunc[[][]byte,[]byte]
instance : FN P 115 := ⟨fun _ _ => by kernel_rfl⟩  -- lighterage/shas.spread
instance : FN P 116 := ⟨fun _ _ => by kernel_rfl⟩  -- lighterage/shas.turned
instance : FN P 117 := ⟨fun _ _ => by kernel_rfl⟩  -- slices.order2Ordered[int]
instance : FN P 118 := ⟨fun _ _ => by kernel_rfl⟩  -- slices.siftDownCmpFunc[[32]byte]
instance : FN P 119 := ⟨fun _ _ => by kernel_rfl⟩  -- slices.medianAdjacentCmpFunc[[32]byte]
instance : FN P 120 := ⟨fun _ _ => by kernel_rfl⟩  -- slices.medianCmpFunc[[32]byte]
instance : FN P 121 := ⟨fun _ _ => by kernel_rfl⟩  -- math/bits.RotateLeft32
instance : FN P 122 := ⟨fun _ _ => by kernel_rfl⟩  -- slices.order2CmpFunc[[32]byte]
end Go.Proofs.YtibobcjfjnoclaaGreatDoor.Z
end
