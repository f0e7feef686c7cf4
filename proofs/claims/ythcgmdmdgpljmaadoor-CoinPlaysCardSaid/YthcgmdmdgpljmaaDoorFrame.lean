/- Facts carried along a walk whose chunks go on; what is made along the way and stays. -/
import Derived.Test.YthcgmdmdgpljmaaDoorZeros
import Derived.Test.YthcgmdmdgpljmaaDoorRefSum
import Derived.Test.YthcgmdmdgpljmaaDoorBase2
set_option linter.unusedVariables false
set_option linter.unusedSimpArgs false
set_option linter.unusedSectionVars false
namespace Go.Proofs.YthcgmdmdgpljmaaDoor.Z
open Go Go.RowKit

section
variable {w0 w w' : World} {X : Nat → Prop} {L L' : List Chunk}
theorem Mem.rebase (h : Mem w0 X L w) : Mem w (fpIn L) L w := ⟨.refl _ _, h.ok, h.ap, fun c hc g hg => .inl ⟨c, hc, hg⟩⟩
theorem Mem.join (h : Mem w0 No L w) (h' : Mem w (fpIn L) L' w') : Mem w0 No L' w' := by
  have key : ∀ b, fpIn L b → w0.heap.size ≤ b := fun b ⟨c, hc, hg⟩ => (h.mine c hc b hg).resolve_left (fun h => h)
  refine ⟨h.ext.trans h'.ext (fun _ h => h) (fun b hb hf => ?_), h'.ok, h'.ap, fun c hc g hg => .inr ?_⟩
  · have := key b hf; omega
  · rcases h'.mine c hc g hg with h1 | h1
    · exact key g h1
    · exact Nat.le_trans h.ext.size h1
/-- What is neither older than w0 nor a chunk's. -/
def Out (w0 : World) (L : List Chunk) (b : Nat) : Prop := b < w0.heap.size ∨ fpIn L b
theorem Mv.frame {w0 : World} (h' : Mem w (fpIn L) L' w') : Mv w (Out w0 L) w' (Out w0 L') :=
  ⟨fun b hb hx => h'.ext.keep b hb (fun h => hx (.inr h)), fun b hb hx => by
    rcases hx with hx | ⟨c, hc, hg⟩
    · exact .inl hx
    · rcases h'.mine c hc b hg with h1 | h1
      · exact .inr h1
      · omega, h'.ext.size⟩
theorem Mem.out {v : Value} {e s n : Nat} {xs : List Value} (h : Mem w0 No (.own v e s n xs :: L) w) : Mem w0 No L w ∧ SlC w (Out w0 L) s v n xs := by
  refine ⟨h.drop, h.own.slc fun g hg hx => ?_⟩
  rcases hx with hx | ⟨c, hc, hc'⟩
  · have := (h.mine _ (List.mem_cons_self ..) g hg).resolve_left (fun h => h)
    omega
  · exact (List.pairwise_cons.1 h.ap).1 c hc g hg hc'
theorem Out.drop {c : Chunk} : ∀ b, Out w0 L b → Out w0 (c :: L) b := fun b h => h.imp id fun ⟨d, hd, hg⟩ => ⟨d, List.mem_cons_of_mem _ hd, hg⟩
theorem Mv.drop {c : Chunk} : Mv w (Out w0 (c :: L)) w (Out w0 L) := Mv.mono fun b _ h => Out.drop b h
theorem Mv.done : Mv w (Out w0 L) w (· < w0.heap.size) := Mv.mono fun b _ h => .inl h
/-- What a call made anew. -/
theorem Mv.fresh (h : Mem w0 No L w) {w1 : World} (hs : w.heap.size ≤ w1.heap.size) : Mv w1 (· < w.heap.size) w1 (Out w0 L) := Mv.mono fun b _ hx => by
  rcases hx with hx | ⟨c, hc, hg⟩
  · exact Nat.lt_of_lt_of_le hx h.ext.size
  · exact Chunk.lt (h.ok c hc) b hg
end

/-- What a piece of code is asked for where its ways meet; another exit is the whole's. -/
def Mid (Q : Post) (n : Nat) {X : Type} (vals : X → Env) (inv : X → World → Prop) : Post := fun e a w =>
  match e with
  | .normal => ∃ x, FR n (vals x) a ∧ inv x w
  | e => Q e a w
section
variable {P : Program} {n : Nat} {Q : Post} {σ : Env} {w : World} {X : Type} {vals : X → Env} {inv : X → World → Prop}
theorem ZC.mid {c1 c2 : Code} {X : Type} (vals : X → Env) (inv : X → World → Prop) (h1 : ZC P n (Mid Q n vals inv) c1 σ w) (h2 : ∀ x w', inv x w' → ZC P n Q c2 (vals x) w') : ZC P n Q (.seq c1 c2) σ w := by
  refine ZC.seq (ZC.cut h1 fun e a w' h => ?_)
  cases e <;> simp only [Mid] at h <;> simp only [Exit.then]
  · obtain ⟨x, hf, hi⟩ := h
    exact (h2 x w' hi).h a hf
  all_goals exact h
theorem ZP.mid (x : X) (hs : Sub (vals x) σ) (hi : inv x w) : ZP n (Mid Q n vals inv) .normal σ w := ⟨fun a ha => ⟨x, ha.sub hs, hi⟩⟩
theorem ZP.midR (h : ZP n Q .ret σ w) : ZP n (Mid Q n vals inv) .ret σ w := ⟨h.h⟩
theorem ZP.midX {id : Nat} (h : ZP n Q (.exit id) σ w) : ZP n (Mid Q n vals inv) (.exit id) σ w := ⟨h.h⟩
end
end Go.Proofs.YthcgmdmdgpljmaaDoor.Z
