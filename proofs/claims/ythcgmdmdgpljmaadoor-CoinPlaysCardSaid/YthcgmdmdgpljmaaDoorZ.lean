/- The stepping calculus: one lemma for each operation of the model, over an environment that is a list of slots and values. -/
import Derived.WalkKit
import Derived.OrdersHeld
import Derived.KernelRfl
set_option linter.unusedVariables false
namespace Go.Proofs.YthcgmdmdgpljmaaDoor.Z
open Go

/-! ### Environments -/
abbrev Env := List (Nat × Value)

def lk : Env → Nat → Option Value
  | [], _ => none
  | (j, v) :: r, i => match Nat.beq i j with
    | true => some v
    | false => lk r i

def ev (σ : Env) : Operand → Option Value
  | .tmp t => lk σ t
  | .const v => some v
  | .global g => some (.pointer (some ⟨g, 0, none⟩))
  | .func f => some (.func (.func f) #[] #[])

def evs (σ : Env) : List Operand → Option (List Value)
  | [] => some []
  | x :: r => match ev σ x with
    | none => none
    | some v => match evs σ r with
      | none => none
      | some vs => some (v :: vs)

/-- The frame bears what the environment says. -/
structure FR (n : Nat) (σ : Env) (a : Act) : Prop where
  size : a.tmps.size = n
  defers : a.defers = []
  at' : ∀ i v, lk σ i = some v → a.tmps[i]? = some v

def Ag (ρ : Operand → Value) (σ : Env) : Prop := ∀ x v, ev σ x = some v → ρ x = v

theorem FR.ag {n : Nat} {σ : Env} {a : Act} (h : FR n σ a) : Ag a.eval σ := by
  intro x v hx
  cases x with
  | tmp t => simp only [ev] at hx; have := h.at' t v hx; simp [Act.eval, this]
  | const c => simp only [ev, Option.some.injEq] at hx; simp [Act.eval, hx]
  | global g => simp only [ev, Option.some.injEq] at hx; simp [Act.eval, hx]
  | func f => simp only [ev, Option.some.injEq] at hx; simp [Act.eval, hx]

theorem FR.put {n d : Nat} {σ : Env} {a : Act} {v : Value} (h : FR n σ a) (hd : Nat.blt d n = true) : FR n ((d, v) :: σ) (a.put (some d) v) := by
  have hd' : d < n := by simpa [Nat.blt_eq] using hd
  refine ⟨by simp [Act.put, h.size], by simp [Act.put, h.defers], ?_⟩
  intro i u hi
  simp only [lk] at hi
  cases hb : Nat.beq i d with
  | true =>
    have : i = d := Nat.eq_of_beq_eq_true hb
    subst this
    rw [hb] at hi; simp at hi; subst hi
    simp [Act.put, h.size, hd']
  | false =>
    rw [hb] at hi
    have hne : d ≠ i := fun e => by subst e; simp at hb
    simp only [Act.put]
    rw [Array.getElem?_setIfInBounds_ne hne]
    exact h.at' i u hi

/-- Sub σ' σ: all that σ' says σ says. -/
def Sub : Env → Env → Prop
  | [], _ => True
  | (i, v) :: r, σ => lk σ i = some v ∧ Sub r σ

theorem Sub.lk {σ' σ : Env} (h : Sub σ' σ) : ∀ i v, lk σ' i = some v → lk σ i = some v := by
  induction σ' with
  | nil => intro i v hi; simp [Z.lk] at hi
  | cons p r ih =>
    obtain ⟨j, u⟩ := p
    intro i v hi
    simp only [Z.lk] at hi
    cases hb : Nat.beq i j with
    | true => rw [hb] at hi; simp at hi; subst hi; have : i = j := Nat.eq_of_beq_eq_true hb; subst this; exact h.1
    | false => rw [hb] at hi; exact ih h.2 i v hi

theorem FR.sub {n : Nat} {σ σ' : Env} {a : Act} (h : FR n σ a) (hs : Sub σ' σ) : FR n σ' a :=
  ⟨h.size, h.defers, fun i v hi => h.at' i v (hs.lk i v hi)⟩

/-! ### Judgements -/
abbrev Post := Exit → Act → World → Prop

structure ZL (P : Program) (n : Nat) (ops : Array Oper) (Q : Post) (l : List Oper) (σ : Env) (w : World) : Prop where
  h : ∀ a, FR n σ a → wpList P ops Q l a w
structure ZC (P : Program) (n : Nat) (Q : Post) (c : Code) (σ : Env) (w : World) : Prop where
  h : ∀ a, FR n σ a → c.wp P Q a w
structure ZP (n : Nat) (Q : Post) (e : Exit) (σ : Env) (w : World) : Prop where
  h : ∀ a, FR n σ a → Q e a w

/-- An operation that gives a value and leaves the world alone. -/
structure V (P : Program) (σ : Env) (op : Op) (v : Value) (w : World) : Prop where
  h : ∀ ρ, Ag ρ σ → ∀ o : Oper, o.op = op → (execOp ρ o).run P w = .ok (.value v) w
/-- An operation that gives a value and turns the world. -/
structure VW (P : Program) (σ : Env) (op : Op) (v : Value) (w w' : World) : Prop where
  h : ∀ ρ, Ag ρ σ → ∀ o : Oper, o.op = op → (execOp ρ o).run P w = .ok (.value v) w'
/-- An operation that gives none and turns the world. -/
structure UW (P : Program) (σ : Env) (op : Op) (w w' : World) : Prop where
  h : ∀ ρ, Ag ρ σ → ∀ o : Oper, o.op = op → (execOp ρ o).run P w = .ok .skip w'
/-- An operation that enters a function. -/
structure EN (P : Program) (σ : Env) (op : Op) (f : FuncId) (args : Array Value) (w : World) : Prop where
  h : ∀ ρ, Ag ρ σ → ∀ o : Oper, o.op = op → (execOp ρ o).run P w = .ok (.enter f args) w

theorem V.vw {P : Program} {σ : Env} {op : Op} {v : Value} {w : World} (h : V P σ op v w) : VW P σ op v w w := ⟨h.h⟩

section steps
variable {P : Program} {n : Nat} {ops : Array Oper} {Q : Post} {rest : List Oper} {σ : Env} {w : World}

theorem ZL.nil (h : ZP n Q .normal σ w) : ZL P n ops Q [] σ w := ⟨h.h⟩

theorem ZL.val {d : Nat} {op : Op} {ty : TypeId} {pos : String} {after : Array Edge} {v : Value} (hv : V P σ op v w) (hd : Nat.blt d n = true)
    (h : ZL P n ops Q rest ((d, v) :: σ) w) : ZL P n ops Q (⟨some d, op, ty, pos, after, none⟩ :: rest) σ w := by
  refine ⟨fun a ha => ?_⟩
  refine wpList_plain rfl (fun K hK => ?_)
  unfold Oper.wp
  rw [hv.h a.eval ha.ag _ rfl]
  exact hK _ _ (h.h _ (ha.put hd))

theorem ZL.vw {d : Nat} {op : Op} {ty : TypeId} {pos : String} {after : Array Edge} {v : Value} {w' : World} (hv : VW P σ op v w w') (hd : Nat.blt d n = true)
    (h : ZL P n ops Q rest ((d, v) :: σ) w') : ZL P n ops Q (⟨some d, op, ty, pos, after, none⟩ :: rest) σ w := by
  refine ⟨fun a ha => ?_⟩
  refine wpList_plain rfl (fun K hK => ?_)
  unfold Oper.wp
  rw [hv.h a.eval ha.ag _ rfl]
  exact hK _ _ (h.h _ (ha.put hd))

theorem ZL.vw0 {op : Op} {ty : TypeId} {pos : String} {after : Array Edge} {v : Value} {w' : World} (hv : VW P σ op v w w')
    (h : ZL P n ops Q rest σ w') : ZL P n ops Q (⟨none, op, ty, pos, after, none⟩ :: rest) σ w := by
  refine ⟨fun a ha => ?_⟩
  refine wpList_plain rfl (fun K hK => ?_)
  unfold Oper.wp
  rw [hv.h a.eval ha.ag _ rfl]
  exact hK _ _ (h.h _ ha)

theorem ZL.unit {op : Op} {ty : TypeId} {pos : String} {after : Array Edge} {w' : World} (hv : UW P σ op w w')
    (h : ZL P n ops Q rest σ w') : ZL P n ops Q (⟨none, op, ty, pos, after, none⟩ :: rest) σ w := by
  refine ⟨fun a ha => ?_⟩
  refine wpList_plain rfl (fun K hK => ?_)
  unfold Oper.wp
  rw [hv.h a.eval ha.ag _ rfl]
  exact hK _ _ (h.h _ ha)

/-- A contract: the call returns, and R holds of the value and the world. -/
structure Ret (P : Program) (f : FuncId) (args : Array Value) (w : World) (R : Value → World → Prop) : Prop where
  h : Calls P f args w fun e w' => ∃ v, e = .returned v ∧ R v w'

theorem Ret.mono {f : FuncId} {args : Array Value} {R R' : Value → World → Prop} (h : Ret P f args w R) (hr : ∀ v w', R v w' → R' v w') : Ret P f args w R' :=
  ⟨Calls.mono h.h fun e w' ⟨v, he, h⟩ => ⟨v, he, hr _ _ h⟩⟩

theorem ZL.call {d : Nat} {op : Op} {ty : TypeId} {pos : String} {after : Array Edge} {f : FuncId} {args : Array Value} {R : Value → World → Prop}
    (hv : EN P σ op f args w) (hd : Nat.blt d n = true) (hc : Ret P f args w R)
    (h : ∀ v w', R v w' → ZL P n ops Q rest ((d, v) :: σ) w') : ZL P n ops Q (⟨some d, op, ty, pos, after, none⟩ :: rest) σ w := by
  refine ⟨fun a ha => ?_⟩
  refine wpList_plain rfl (fun K hK => ?_)
  unfold Oper.wp
  rw [hv.h a.eval ha.ag _ rfl]
  refine Calls.mono hc.h ?_
  rintro e w' ⟨v, rfl, hr⟩
  exact hK _ _ ((h _ _ hr).h _ (ha.put hd))

theorem ZL.call0 {op : Op} {ty : TypeId} {pos : String} {after : Array Edge} {f : FuncId} {args : Array Value} {R : Value → World → Prop}
    (hv : EN P σ op f args w) (hc : Ret P f args w R)
    (h : ∀ v w', R v w' → ZL P n ops Q rest σ w') : ZL P n ops Q (⟨none, op, ty, pos, after, none⟩ :: rest) σ w := by
  refine ⟨fun a ha => ?_⟩
  refine wpList_plain rfl (fun K hK => ?_)
  unfold Oper.wp
  rw [hv.h a.eval ha.ag _ rfl]
  refine Calls.mono hc.h ?_
  rintro e w' ⟨v, rfl, hr⟩
  exact hK _ _ ((h _ _ hr).h _ ha)

/-- An operation whose guard says no is passed over. -/
theorem ZL.skip {d : Nat} {op : Op} {ty : TypeId} {pos : String} {after : Array Edge} {j : Nat} {want : Bool} {g : Nat} {b : Bool}
    (hg : ((ops[j]?).bind (·.dst)) = some g) (hb : lk σ g = some (.bool b)) (hne : (b == want) = false) (hd : Nat.blt d n = true)
    (h : ZL P n ops Q rest ((d, undef) :: σ) w) : ZL P n ops Q (⟨some d, op, ty, pos, after, some (j, want)⟩ :: rest) σ w := by
  refine ⟨fun a ha => ?_⟩
  have hy : yielded ops a.tmps j = some b := by simp [yielded, hg, ha.at' g _ hb]
  have hwant : Region.wanted ⟨some d, op, ty, pos, after, some (j, want)⟩ (yielded ops a.tmps) = false := by simp [Region.wanted, hy, hne]
  unfold wpList
  rw [if_neg (by rw [hwant]; simp)]
  exact h.h _ (ha.put hd)

/-- An operation whose guard says yes is carried out. -/
theorem ZL.gval {d : Nat} {op : Op} {ty : TypeId} {pos : String} {after : Array Edge} {j : Nat} {want : Bool} {g : Nat} {b : Bool} {v : Value}
    (hg : ((ops[j]?).bind (·.dst)) = some g) (hb : lk σ g = some (.bool b)) (hne : (b == want) = true) (hv : V P σ op v w) (hd : Nat.blt d n = true)
    (h : ZL P n ops Q rest ((d, v) :: σ) w) : ZL P n ops Q (⟨some d, op, ty, pos, after, some (j, want)⟩ :: rest) σ w := by
  refine ⟨fun a ha => ?_⟩
  have hy : yielded ops a.tmps j = some b := by simp [yielded, hg, ha.at' g _ hb]
  have hwant : Region.wanted ⟨some d, op, ty, pos, after, some (j, want)⟩ (yielded ops a.tmps) = true := by simp [Region.wanted, hy]; simpa using hne
  unfold wpList
  rw [if_pos hwant]
  refine .inl ?_
  unfold Oper.wp
  rw [hv.h a.eval ha.ag _ rfl]
  exact h.h _ (ha.put hd)

/-- A guard that says yes is struck. -/
theorem ZL.on {dst : Option Tmp} {op : Op} {ty : TypeId} {pos : String} {after : Array Edge} {j : Nat} {want : Bool} {g : Nat} {b : Bool}
    (hg : ((ops[j]?).bind (·.dst)) = some g) (hb : lk σ g = some (.bool b)) (hne : (b == want) = true)
    (h : ZL P n ops Q (⟨dst, op, ty, pos, after, none⟩ :: rest) σ w) : ZL P n ops Q (⟨dst, op, ty, pos, after, some (j, want)⟩ :: rest) σ w := by
  refine ⟨fun a ha => ?_⟩
  have hy : yielded ops a.tmps j = some b := by simp [yielded, hg, ha.at' g _ hb]
  have hwant : Region.wanted ⟨dst, op, ty, pos, after, some (j, want)⟩ (yielded ops a.tmps) = true := by simp [Region.wanted, hy]; simpa using hne
  have h1 := h.h a ha
  unfold wpList at h1 ⊢
  rw [if_pos hwant]
  rw [if_pos (by simp [Region.wanted])] at h1
  exact h1
/-- A bool is known from here on, on each way. -/
theorem ZL.split (g : Nat) {b : Bool} {l : List Oper} (hb : lk σ g = some (.bool b)) (ht : b = true → ZL P n ops Q l ((g, .bool true) :: σ) w) (hf : b = false → ZL P n ops Q l ((g, .bool false) :: σ) w) : ZL P n ops Q l σ w := by
  refine ⟨fun a ha => ?_⟩
  have key : ∀ c, b = c → FR n ((g, .bool c) :: σ) a := fun c hc => ⟨ha.size, ha.defers, fun i v hi => by
    simp only [lk] at hi
    cases hq : Nat.beq i g with
    | true => rw [hq] at hi; have : i = g := Nat.eq_of_beq_eq_true hq; subst this; simp at hi; subst hi; subst hc; exact ha.at' _ _ hb
    | false => rw [hq] at hi; exact ha.at' i v hi⟩
  cases hb' : b with
  | true => exact (ht hb').h a (key true hb')
  | false => exact (hf hb').h a (key false hb')
theorem ZL.splitD (g : Nat) {p : Prop} [Decidable p] {l : List Oper} (hb : lk σ g = some (.bool (decide p))) (ht : p → ZL P n ops Q l ((g, .bool true) :: σ) w) (hf : ¬ p → ZL P n ops Q l ((g, .bool false) :: σ) w) : ZL P n ops Q l σ w :=
  ZL.split g hb (fun h => ht (of_decide_eq_true h)) (fun h => hf (of_decide_eq_false h))

/-! ### Code -/
theorem ZC.region {id : Nat} {l : List Oper} (h : ZL P n l.toArray Q l σ w) : ZC P n Q (.region id l.toArray false) σ w :=
  ⟨fun a ha => wp_region_lit (h.h a ha)⟩

theorem ZC.seq {x y : Code} (h : ZC P n (Exit.then (y.wp P Q) Q) x σ w) : ZC P n Q (.seq x y) σ w := ⟨fun a ha => wp_seq (h.h a ha)⟩
theorem ZC.skip (h : ZP n Q .normal σ w) : ZC P n Q .skip σ w := ⟨fun a ha => wp_skip (h.h a ha)⟩
theorem ZC.ret (h : ZP n Q .ret σ w) : ZC P n Q .ret σ w := ⟨fun a ha => wp_ret (h.h a ha)⟩
theorem ZC.exit {id : Nat} (h : ZP n Q (.exit id) σ w) : ZC P n Q (.exit id) σ w := ⟨fun a ha => wp_exit (h.h a ha)⟩
theorem ZC.block {id : Nat} {c : Code} (h : ZC P n (Exit.inBlock id Q) c σ w) : ZC P n Q (.block id c) σ w := ⟨fun a ha => wp_block (h.h a ha)⟩

theorem ZC.cond {c : Operand} {x y : Code} {t : Bool} (hc : ev σ c = some (.bool t)) (ht : t = true → ZC P n Q x σ w) (hf : t = false → ZC P n Q y σ w) :
    ZC P n Q (.cond c x y) σ w := ⟨fun a ha => wp_cond_split (ha.ag c _ hc) (fun h => (ht h).h a ha) (fun h => (hf h).h a ha)⟩
theorem ZC.condD {c : Operand} {x y : Code} {p : Prop} [Decidable p] (hc : ev σ c = some (.bool (decide p))) (ht : p → ZC P n Q x σ w) (hf : ¬ p → ZC P n Q y σ w) :
    ZC P n Q (.cond c x y) σ w := ZC.cond hc (fun h => ht (of_decide_eq_true h)) (fun h => hf (of_decide_eq_false h))
theorem ZC.condT {c : Operand} {x y : Code} (hc : ev σ c = some (.bool true)) (ht : ZC P n Q x σ w) : ZC P n Q (.cond c x y) σ w := ZC.cond hc (fun _ => ht) (fun h => by cases h)
theorem ZC.condF {c : Operand} {x y : Code} (hc : ev σ c = some (.bool false)) (hf : ZC P n Q y σ w) : ZC P n Q (.cond c x y) σ w := ZC.cond hc (fun h => by cases h) (fun _ => hf)

/-- Forget: only what σ' says is known from here on. -/
theorem ZC.env {c : Code} (σ' : Env) (hs : Sub σ' σ) (h : ZC P n Q c σ' w) : ZC P n Q c σ w := ⟨fun a ha => h.h a (ha.sub hs)⟩
theorem ZL.env {l : List Oper} (σ' : Env) (hs : Sub σ' σ) (h : ZL P n ops Q l σ' w) : ZL P n ops Q l σ w := ⟨fun a ha => h.h a (ha.sub hs)⟩
theorem ZP.env {e : Exit} (σ' : Env) (hs : Sub σ' σ) (h : ZP n Q e σ' w) : ZP n Q e σ w := ⟨fun a ha => h.h a (ha.sub hs)⟩

theorem ZP.then {y : Code} (h : ZC P n Q y σ w) : ZP n (Exit.then (y.wp P Q) Q) .normal σ w := ⟨h.h⟩
theorem ZP.thenX {K : Act → World → Prop} {id : Nat} (h : ZP n Q (.exit id) σ w) : ZP n (Exit.then K Q) (.exit id) σ w := ⟨h.h⟩
theorem ZP.thenR {K : Act → World → Prop} (h : ZP n Q .ret σ w) : ZP n (Exit.then K Q) .ret σ w := ⟨h.h⟩
theorem ZP.blockN {id : Nat} (h : ZP n Q .normal σ w) : ZP n (Exit.inBlock id Q) .normal σ w := ⟨h.h⟩
theorem ZP.blockR {id : Nat} (h : ZP n Q .ret σ w) : ZP n (Exit.inBlock id Q) .ret σ w := ⟨h.h⟩
theorem ZP.blockE {id : Nat} (h : ZP n Q .normal σ w) : ZP n (Exit.inBlock id Q) (.exit id) σ w := ⟨fun a ha => by simp only [Exit.inBlock, if_true]; exact h.h a ha⟩
theorem ZP.blockX {id id' : Nat} (hne : Nat.beq id' id = false) (h : ZP n Q (.exit id') σ w) : ZP n (Exit.inBlock id Q) (.exit id') σ w := ⟨fun a ha => by
  have : id' ≠ id := fun e => by subst e; simp at hne
  simp only [Exit.inBlock, if_neg this]; exact h.h a ha⟩

/-- The head of a loop. -/
def Head {X : Type} (n : Nat) (vals : X → Env) (inv : X → World → Prop) (μ : X → Nat) (m : Nat) (a : Act) (w : World) : Prop :=
  ∃ x, FR n (vals x) a ∧ inv x w ∧ μ x < m

theorem ZC.loop {c : Code} {X : Type} (vals : X → Env) (inv : X → World → Prop) (μ : X → Nat) (x0 : X) (h0 : Sub (vals x0) σ) (hi : inv x0 w)
    (hr : ∀ x w, inv x w → ZC P n (Exit.then (Head n vals inv μ (μ x)) Q) c (vals x) w) : ZC P n Q (.loop c) σ w := by
  refine ⟨fun a ha => ?_⟩
  intro b k cs
  have key : ∀ m a w, (∃ x, FR n (vals x) a ∧ inv x w ∧ μ x < m) →
      ∃ e a' w', Q e a' w' ∧ Arrives P (lone (b.at a (.code c :: .inLoop c :: k)) cs w) b k cs e a' w' := by
    intro m
    induction m using Nat.strongRecOn with
    | _ m ih =>
      rintro a w ⟨x, hx, hI, hlt⟩
      obtain ⟨e, a₁, w₁, hq, harr⟩ := (hr x w hI).h a hx b (.inLoop c :: k) cs
      cases e with
      | normal =>
        obtain ⟨e₂, a₂, w₂, hq₂, harr₂⟩ := ih (μ x) hlt a₁ w₁ hq
        exact ⟨e₂, a₂, w₂, hq₂, .of_steps (Steps.trans harr (.one step_inLoop)) harr₂⟩
      | exit id => exact ⟨_, a₁, w₁, hq, .pass (x := .inLoop c) rfl (fun _ _ => .inl (by simp)) harr⟩
      | goto l => exact ⟨_, a₁, w₁, hq, .pass (x := .inLoop c) rfl (fun _ _ => .inl (by simp)) harr⟩
      | ret => exact ⟨_, a₁, w₁, hq, .pass (x := .inLoop c) rfl (fun _ _ => .inl (by simp)) harr⟩
      | panic ch => exact ⟨_, a₁, w₁, hq, .pass (x := .inLoop c) rfl (fun _ _ => .inl (by simp)) harr⟩
      | outgrown => exact ⟨_, a₁, w₁, hq, .pass (x := .inLoop c) rfl (fun _ _ => .inl (by simp)) harr⟩
  obtain ⟨e, a', w', hq, harr⟩ := key _ a w ⟨x0, ha.sub h0, hi, Nat.lt_succ_self _⟩
  exact ⟨e, a', w', hq, .of_steps (.one step_loop) harr⟩

theorem ZP.round {X : Type} {vals : X → Env} {inv : X → World → Prop} {μ : X → Nat} {m : Nat} (x : X) (hs : Sub (vals x) σ) (hi : inv x w) (hm : μ x < m) :
    ZP n (Exit.then (Head n vals inv μ m) Q) .normal σ w := ⟨fun a ha => ⟨x, ha.sub hs, hi, hm⟩⟩

/-- What a piece of code is asked for, said once, where its ways meet again. -/
theorem ZC.cut {c : Code} {Q' : Post} (h : ZC P n Q' c σ w) (hq : ∀ e a w, Q' e a w → Q e a w) : ZC P n Q c σ w := ⟨fun a ha => Code.wp_mono hq (h.h a ha)⟩

/-! ### The function's head and foot -/
def RetPost (P : Program) (fn : Func) (R : Value → World → Prop) : Post
  | .normal, a, w | .ret, a, w => a.defers = [] ∧ ∃ v, (results fn a.tmps).run P w = .ok v w ∧ R v w
  | _, _, _ => False

def envOf : Nat → List Value → Env
  | _, [] => []
  | k, v :: r => (k, v) :: envOf (k + 1) r

theorem lk_envOf (l : List Value) : ∀ k i v, lk (envOf k l) i = some v → k ≤ i ∧ l[i - k]? = some v := by
  induction l with
  | nil => intro k i v h; simp [envOf, lk] at h
  | cons u r ih =>
    intro k i v h
    simp only [envOf, lk] at h
    cases hb : Nat.beq i k with
    | true => rw [hb] at h; have : i = k := Nat.eq_of_beq_eq_true hb; subst this; simp at h; subst h; simp
    | false =>
      rw [hb] at h
      have hne : i ≠ k := fun e => by subst e; simp at hb
      obtain ⟨h1, h2⟩ := ih _ _ _ h
      refine ⟨by omega, ?_⟩
      rw [show i - k = (i - (k + 1)) + 1 by omega]
      simpa using h2

theorem Ret.enter {f : FuncId} {fn : Func} {c : Code} {args : Array Value} {R : Value → World → Prop} (hf : P.funcs[f]? = some fn) (hb : fn.body = some c)
    (hn : fn.ntmps = n) (hsz : Nat.ble args.size n = true) (σ0 : Env) (hs : Sub σ0 (envOf 0 args.toList)) (h : ZC P n (RetPost P fn R) c σ0 w) : Ret P f args w R := by
  refine ⟨calls_of_wp hf hb ?_⟩
  have hsz' : args.size ≤ n := Nat.le_of_ble_eq_true hsz
  refine Code.wp_mono ?_ (h.h _ ⟨by simp [hn]; omega, rfl, ?_⟩)
  · intro e a w hq
    cases e <;> simp only [RetPost] at hq <;> first | exact hq.elim | skip
    all_goals
      obtain ⟨hd, v, hr, hR⟩ := hq
      exact ⟨hd, v, hr, v, rfl, hR⟩
  · intro i v hi
    obtain ⟨_, h2⟩ := lk_envOf _ _ _ _ (hs.lk i v hi)
    simp only [Nat.sub_zero, Array.getElem?_toList] at h2
    have hlt : i < args.size := by
      rcases Nat.lt_or_ge i args.size with h | h
      · exact h
      · simp [Array.getElem?_eq_none h] at h2
    rw [Array.getElem?_append_left hlt]
    exact h2

theorem Ret.enter0 {f : FuncId} {fn : Func} {c : Code} {R : Value → World → Prop} (hf : P.funcs[f]? = some fn) (hb : fn.body = some c)
    (hn : fn.ntmps = n) (hsz : Nat.ble 0 n = true) (h : ZC P n (RetPost P fn R) c [] w) : Ret P f #[] w R := Ret.enter hf hb hn hsz [] trivial h
theorem Ret.enter1 {f : FuncId} {fn : Func} {c : Code} {a : Value} {R : Value → World → Prop} (hf : P.funcs[f]? = some fn) (hb : fn.body = some c)
    (hn : fn.ntmps = n) (hsz : Nat.ble 1 n = true) (h : ZC P n (RetPost P fn R) c [(0, a)] w) : Ret P f #[a] w R := Ret.enter hf hb hn hsz [(0, a)] ⟨rfl, trivial⟩ h
theorem Ret.enter2 {f : FuncId} {fn : Func} {c : Code} {a b : Value} {R : Value → World → Prop} (hf : P.funcs[f]? = some fn) (hb : fn.body = some c)
    (hn : fn.ntmps = n) (hsz : Nat.ble 2 n = true) (h : ZC P n (RetPost P fn R) c [(0, a), (1, b)] w) : Ret P f #[a, b] w R := Ret.enter hf hb hn hsz [(0, a), (1, b)] ⟨rfl, rfl, trivial⟩ h
theorem Ret.enter3 {f : FuncId} {fn : Func} {c : Code} {a b d : Value} {R : Value → World → Prop} (hf : P.funcs[f]? = some fn) (hb : fn.body = some c)
    (hn : fn.ntmps = n) (hsz : Nat.ble 3 n = true) (h : ZC P n (RetPost P fn R) c [(0, a), (1, b), (2, d)] w) : Ret P f #[a, b, d] w R := Ret.enter hf hb hn hsz [(0, a), (1, b), (2, d)] ⟨rfl, rfl, rfl, trivial⟩ h
theorem Ret.enter4 {f : FuncId} {fn : Func} {c : Code} {a b d e : Value} {R : Value → World → Prop} (hf : P.funcs[f]? = some fn) (hb : fn.body = some c)
    (hn : fn.ntmps = n) (hsz : Nat.ble 4 n = true) (h : ZC P n (RetPost P fn R) c [(0, a), (1, b), (2, d), (3, e)] w) : Ret P f #[a, b, d, e] w R := Ret.enter hf hb hn hsz [(0, a), (1, b), (2, d), (3, e)] ⟨rfl, rfl, rfl, rfl, trivial⟩ h
theorem Ret.enter5 {f : FuncId} {fn : Func} {c : Code} {a b d e g : Value} {R : Value → World → Prop} (hf : P.funcs[f]? = some fn) (hb : fn.body = some c)
    (hn : fn.ntmps = n) (hsz : Nat.ble 5 n = true) (h : ZC P n (RetPost P fn R) c [(0, a), (1, b), (2, d), (3, e), (4, g)] w) : Ret P f #[a, b, d, e, g] w R := Ret.enter hf hb hn hsz [(0, a), (1, b), (2, d), (3, e), (4, g)] ⟨rfl, rfl, rfl, rfl, rfl, trivial⟩ h

theorem ZP.ret1 {fn : Func} {R : Value → World → Prop} {t : Tmp} {v : Value} (hr : fn.results = #[.tmp t]) (hv : lk σ t = some v) (hR : R v w) :
    ZP n (RetPost P fn R) .ret σ w := ⟨fun a ha => ⟨ha.defers, v, by rw [results_tmp hr]; simp [ha.at' t v hv], hR⟩⟩
theorem ZP.end0 {fn : Func} {R : Value → World → Prop} (hr : fn.results = #[]) (hR : R (.tuple #[]) w) :
    ZP n (RetPost P fn R) .normal σ w := ⟨fun a ha => ⟨ha.defers, _, by rw [results_none hr], hR⟩⟩
theorem ZP.ret0 {fn : Func} {R : Value → World → Prop} (hr : fn.results = #[]) (hR : R (.tuple #[]) w) :
    ZP n (RetPost P fn R) .ret σ w := ⟨fun a ha => ⟨ha.defers, _, by rw [results_none hr], hR⟩⟩
theorem ZP.ret2 {fn : Func} {R : Value → World → Prop} {t u : Tmp} {v v' : Value} (hr : fn.results = #[.tmp t, .tmp u]) (hv : lk σ t = some v) (hv' : lk σ u = some v') (hR : R (.tuple #[v, v']) w) :
    ZP n (RetPost P fn R) .ret σ w := ⟨fun a ha => ⟨ha.defers, _, by rw [results_tmp2 hr]; simp [ha.at' t v hv, ha.at' u v' hv'], hR⟩⟩
end steps
end Go.Proofs.YthcgmdmdgpljmaaDoor.Z
