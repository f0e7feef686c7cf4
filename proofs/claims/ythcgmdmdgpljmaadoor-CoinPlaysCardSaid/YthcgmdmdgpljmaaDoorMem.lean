/- Memory as a list of chunks beside what was there: what a function has made or may write, and what it leaves alone. -/
import Derived.Test.YthcgmdmdgpljmaaDoorRun
set_option linter.unusedVariables false
set_option linter.unusedSimpArgs false
namespace Go.Proofs.YthcgmdmdgpljmaaDoor.Z
open Go Go.RowKit

/-- Nothing that was there turned, but what X names. -/
structure ExtX (w : World) (X : Nat → Prop) (w' : World) : Prop where
  os : w'.os = w.os
  tape : w'.tape = w.tape
  output : w'.output = w.output
  size : w.heap.size ≤ w'.heap.size
  keep : ∀ b, b < w.heap.size → ¬ X b → w'.heap[b]? = w.heap[b]?

def No : Nat → Prop := fun _ => False
abbrev Ext (w w' : World) : Prop := ExtX w No w'

theorem ExtX.refl (w : World) (X : Nat → Prop) : ExtX w X w := ⟨rfl, rfl, rfl, Nat.le_refl _, fun _ _ _ => rfl⟩
theorem ExtX.trans {w w1 w2 : World} {X Y Z : Nat → Prop} (h : ExtX w X w1) (k : ExtX w1 Y w2) (hx : ∀ b, X b → Z b) (hy : ∀ b, b < w.heap.size → Y b → Z b) : ExtX w Z w2 :=
  ⟨k.os.trans h.os, k.tape.trans h.tape, k.output.trans h.output, Nat.le_trans h.size k.size,
   fun b hb hz => (k.keep b (Nat.lt_of_lt_of_le hb h.size) (fun y => hz (hy b hb y))).trans (h.keep b hb (fun x => hz (hx b x)))⟩
theorem ExtX.mono {w w' : World} {X Y : Nat → Prop} (h : ExtX w X w') (hx : ∀ b, X b → Y b) : ExtX w Y w' :=
  ⟨h.os, h.tape, h.output, h.size, fun b hb hy => h.keep b hb (fun x => hy (hx b x))⟩
theorem Ext.trans {w w1 w2 : World} (h : Ext w w1) (k : Ext w1 w2) : Ext w w2 := ExtX.trans h k (fun _ h => h) (fun _ _ h => h)
theorem Ext.toX {w w' : World} {X : Nat → Prop} (h : Ext w w') : ExtX w X w' := h.mono (fun _ h => h.elim)
theorem Ext.below {w w' : World} (h : Ext w w') : Below w.heap.size w w' := ⟨h.os, h.tape, h.output, h.size, fun k hk => h.keep k hk (fun h => h)⟩
theorem Ext.of_below {w w' : World} (h : Below w.heap.size w w') : Ext w w' := ⟨h.os, h.tape, h.output, h.size, fun k hk _ => h.block k hk⟩
theorem ExtX.at {w w' : World} {X : Nat → Prop} (h : ExtX w X w') {b : Nat} {o : Obj} (hb : w.heap[b]? = some o) (hx : ¬ X b) : w'.heap[b]? = some o :=
  (h.keep b (Array.getElem?_eq_some_iff.1 hb).1 hx).trans hb
theorem Upd.extX {w w' : World} {b : Nat} {o : Obj} (h : Upd w w' b o) : ExtX w (· = b) w' := ⟨h.os, h.tape, h.output, h.size, fun k _ hk => h.other k hk⟩
theorem drew_ext (w : World) (n : Nat) : Ext w { w with drawn := n } := ⟨rfl, rfl, rfl, Nat.le_refl _, fun _ _ _ => rfl⟩

/-! ### Chunks -/
/-- The slice v, of n elements of s cells each (of type e), is the call's own: nil, or at the head of a block that nobody else looks at; its cells are xs. -/
def OwnR (w : World) (e s : Nat) (v : Value) (n : Nat) (xs : List Value) : Prop :=
  xs.length = n * s ∧ ((v = .slice none 0 0 ∧ n = 0) ∨ ∃ g cap cur, v = .slice (some ⟨g, 0, none⟩) n cap ∧ w.heap[g]? = some (.cells cur e (0, 0)) ∧ n ≤ cap ∧ cap ≤ maxLen ∧ cap * s ≤ cur.size ∧ cur.toList.take (n * s) = xs)
theorem OwnR.lt {w : World} {e s : Nat} {v : Value} {n : Nat} {xs : List Value} (h : OwnR w e s v n xs) : ∀ k, v.ownBlock = some k → k < w.heap.size := by
  intro k hk
  rcases h.2 with ⟨rfl, _⟩ | ⟨g, cap, cur, rfl, hg, _⟩
  · simp [Value.ownBlock] at hk
  · simp [Value.ownBlock] at hk; subst hk; exact (Array.getElem?_eq_some_iff.1 hg).1
theorem OwnR.nil (w : World) (e s : Nat) : OwnR w e s (.slice none 0 0) 0 [] := ⟨by simp, .inl ⟨rfl, rfl⟩⟩
theorem OwnR.of_row {w : World} {base e s : Nat} {v : Value} {n : Nat} {xs : List Value} (h : w.ownsRow base e s v n xs) : OwnR w e s v n xs :=
  ⟨h.1, h.2.imp id fun ⟨g, cap, cur, h1, _, h3, h4, h5, h6, h7⟩ => ⟨g, cap, cur, h1, h3, h4, h5, Nat.le_of_eq h6.symm, h7⟩⟩

inductive Chunk where
  | blk (b : Nat) (o : Obj)
  | own (v : Value) (e s n : Nat) (xs : List Value)

def Chunk.fp : Chunk → Option Nat
  | .blk b _ => some b
  | .own v _ _ _ _ => v.ownBlock
def Chunk.ok (w : World) : Chunk → Prop
  | .blk b o => w.heap[b]? = some o
  | .own v e s n xs => OwnR w e s v n xs

theorem Chunk.lt {w : World} {c : Chunk} (h : c.ok w) : ∀ g, c.fp = some g → g < w.heap.size := by
  intro g hg
  cases c with
  | blk b o => simp only [fp, Option.some.injEq] at hg; subst hg; exact (Array.getElem?_eq_some_iff.1 h).1
  | own v e s n xs => exact OwnR.lt h g hg

theorem Chunk.stays {w w' : World} {c : Chunk} (h : c.ok w) (hk : ∀ g, c.fp = some g → w'.heap[g]? = w.heap[g]?) : c.ok w' := by
  cases c with
  | blk b o => exact (hk b rfl).trans h
  | own v e s n xs =>
    refine ⟨h.1, ?_⟩
    rcases h.2 with hn | ⟨g, cap, cur, rfl, hgg, rest⟩
    · exact .inl hn
    · exact .inr ⟨g, cap, cur, rfl, (hk g rfl).trans hgg, rest⟩

def apart (c d : Chunk) : Prop := ∀ g, c.fp = some g → d.fp ≠ some g

structure Mem (w0 : World) (X : Nat → Prop) (L : List Chunk) (w : World) : Prop where
  ext : ExtX w0 X w
  ok : ∀ c ∈ L, c.ok w
  ap : L.Pairwise apart
  mine : ∀ c ∈ L, ∀ g, c.fp = some g → X g ∨ w0.heap.size ≤ g

theorem Mem.start (w : World) (X : Nat → Prop) : Mem w X [] w := ⟨.refl _ _, by simp, .nil, by simp⟩

section
variable {w0 w w' : World} {X : Nat → Prop} {L : List Chunk}

/-- A change that leaves the chunks alone and what is not X's. -/
theorem Mem.step (h : Mem w0 X L w) {Y : Nat → Prop} (he : ExtX w Y w') (hy : ∀ b, b < w0.heap.size → Y b → X b) (hl : ∀ c ∈ L, ∀ g, c.fp = some g → ¬ Y g) : Mem w0 X L w' :=
  ⟨h.ext.trans he (fun _ h => h) hy, fun c hc => Chunk.stays (h.ok c hc) fun g hg => he.keep g (Chunk.lt (h.ok c hc) g hg) (hl c hc g hg), h.ap, h.mine⟩
theorem Mem.ext' (h : Mem w0 X L w) (he : Ext w w') : Mem w0 X L w' := h.step he (fun _ _ h => h.elim) (fun _ _ _ _ h => h)

theorem Mem.push (h : Mem w0 X L w) {b : Nat} {o : Obj} (hu : Upd w w' b o) (hb : b = w.heap.size) : Mem w0 X (.blk b o :: L) w' := by
  subst hb
  have hne : ∀ c ∈ L, ∀ g, c.fp = some g → g ≠ w.heap.size := fun c hc g hg => by have := Chunk.lt (h.ok c hc) g hg; omega
  refine ⟨h.ext.trans hu.extX (fun _ h => h) (fun b hb hy => ?_), ?_, ?_, ?_⟩
  · have := h.ext.size; have hy' : b = w.heap.size := hy; omega
  · intro c hc
    rcases List.mem_cons.1 hc with rfl | hc
    · exact hu.at'
    · exact Chunk.stays (h.ok c hc) fun g hg => hu.other g (hne c hc g hg)
  · refine List.pairwise_cons.2 ⟨fun c hc g hg hg' => ?_, h.ap⟩
    simp only [Chunk.fp, Option.some.injEq] at hg
    exact hne c hc g hg' hg.symm
  · intro c hc g hg
    rcases List.mem_cons.1 hc with rfl | hc
    · simp only [Chunk.fp, Option.some.injEq] at hg; subst hg; exact .inr h.ext.size
    · exact h.mine c hc g hg

/-- Something that a callee made, and that is handed over. -/
theorem Mem.add (h : Mem w0 X L w) {c : Chunk} (hc : c.ok w) (hfp : ∀ g, c.fp = some g → w0.heap.size ≤ g ∧ ∀ d ∈ L, d.fp ≠ some g) : Mem w0 X (c :: L) w := by
  refine ⟨h.ext, ?_, ?_, ?_⟩
  · intro d hd
    rcases List.mem_cons.1 hd with rfl | hd
    · exact hc
    · exact h.ok d hd
  · exact List.pairwise_cons.2 ⟨fun d hd g hg => (hfp g hg).2 d hd, h.ap⟩
  · intro d hd g hg
    rcases List.mem_cons.1 hd with rfl | hd
    · exact .inr (hfp g hg).1
    · exact h.mine d hd g hg

theorem Mem.nilOwn (h : Mem w0 X L w) (e s : Nat) : Mem w0 X (.own (.slice none 0 0) e s 0 [] :: L) w :=
  h.add (OwnR.nil w e s) (by intro g hg; simp [Chunk.fp, Value.ownBlock] at hg)

/-- A slice that a call made, in blocks that were not there. -/
structure NewO (w w' : World) (e s : Nat) (v : Value) (n : Nat) (xs : List Value) : Prop where
  own : OwnR w' e s v n xs
  new : ∀ g, v.ownBlock = some g → w.heap.size ≤ g
/-- What a callee made from the world w on is nobody's that was there. -/
theorem Mem.addNew (h : Mem w0 X L w) (he : Ext w w') {v : Value} {e s n : Nat} {xs : List Value} (hc : NewO w w' e s v n xs) : Mem w0 X (.own v e s n xs :: L) w' := by
  refine (h.ext' he).add hc.own fun g hg => ?_
  have hge := hc.new g hg
  refine ⟨Nat.le_trans h.ext.size hge, fun d hd hd' => ?_⟩
  have := Chunk.lt (h.ok d hd) g hd'
  omega

/-- What may be written may be said to be more. -/
theorem Mem.weak (h : Mem w0 No L w) (X : Nat → Prop) : Mem w0 X L w := ⟨Ext.toX h.ext, h.ok, h.ap, fun c hc g hg => .inr ((h.mine c hc g hg).resolve_left (fun h => h))⟩
theorem Mem.own {v : Value} {e s n : Nat} {xs : List Value} (h : Mem w0 X (.own v e s n xs :: L) w) : OwnR w e s v n xs := h.ok (.own v e s n xs) (by simp)
theorem Mem.drop {c : Chunk} (h : Mem w0 X (c :: L) w) : Mem w0 X L w :=
  ⟨h.ext, fun d hd => h.ok d (List.mem_cons_of_mem _ hd), (List.pairwise_cons.1 h.ap).2, fun d hd => h.mine d (List.mem_cons_of_mem _ hd)⟩

def picks (L : List Chunk) : List Nat → Option (List Chunk)
  | [] => some []
  | i :: r => match L[i]? with
    | none => none
    | some c => match picks L r with
      | none => none
      | some l => some (c :: l)
/-- Only these chunks are kept, in this order: the places rise. -/
def rising : List Nat → Bool
  | [] => true
  | [_] => true
  | a :: b :: r => Nat.blt a b && rising (b :: r)
theorem picks_sub : ∀ (is : List Nat) (L L' : List Chunk) (k : Nat), (∀ i ∈ is, k ≤ i) → rising is = true → picks L is = some L' → L'.Sublist (L.drop k) := by
  intro is
  induction is with
  | nil => intro L L' k _ _ h; simp [picks] at h; subst h; exact List.nil_sublist _
  | cons i r ih =>
    intro L L' k hk hr h
    simp only [picks] at h
    cases hc : L[i]? with
    | none => simp [hc] at h
    | some c =>
      rw [hc] at h
      cases hp : picks L r with
      | none => simp [hp] at h
      | some l =>
        rw [hp] at h
        simp at h; subst h
        have hi := hk i (by simp)
        have hlt := (List.getElem?_eq_some_iff.1 hc).1
        have hri : (∀ j ∈ r, i + 1 ≤ j) ∧ rising r = true := by
          cases r with
          | nil => simp [rising]
          | cons b t =>
            simp only [rising, Bool.and_eq_true, Nat.blt_eq] at hr
            refine ⟨?_, hr.2⟩
            have : ∀ (l : List Nat) (a : Nat), rising (a :: l) = true → ∀ j ∈ a :: l, a ≤ j := by
              intro l
              induction l with
              | nil => intro a _ j hj; simp at hj; omega
              | cons d e ihh =>
                intro a ha j hj
                simp only [rising, Bool.and_eq_true, Nat.blt_eq] at ha
                rcases List.mem_cons.1 hj with rfl | hj
                · omega
                · have := ihh d ha.2 j hj; omega
            intro j hj
            have := this t b hr.2 j hj
            omega
        have h1 := ih L l (i + 1) hri.1 hri.2 hp
        have h2 : L.drop i = c :: L.drop (i + 1) := by
          rw [List.drop_eq_getElem_cons hlt]
          congr 1
          exact (List.getElem?_eq_some_iff.1 hc).2
        have h3 : (L.drop i).Sublist (L.drop k) := by
          rw [show i = k + (i - k) by omega, ← List.drop_drop]
          exact List.drop_sublist _ _
        exact (h2 ▸ List.Sublist.cons_cons c h1).trans h3
theorem Mem.sub (h : Mem w0 X L w) (is : List Nat) {L' : List Chunk} (hp : picks L is = some L') (hr : rising is = true := by rfl) : Mem w0 X L' w := by
  have hs := picks_sub is L L' 0 (fun _ _ => Nat.zero_le _) hr hp
  rw [List.drop_zero] at hs
  exact ⟨h.ext, fun c hc => h.ok c (hs.subset hc), h.ap.sublist hs, fun c hc => h.mine c (hs.subset hc)⟩
/-- The first two chunks change places. -/
theorem Mem.swap {c d : Chunk} (h : Mem w0 X (c :: d :: L) w) : Mem w0 X (d :: c :: L) w := by
  have h1 := List.pairwise_cons.1 h.ap
  have h2 := List.pairwise_cons.1 h1.2
  refine ⟨h.ext, fun x hx => h.ok x (by simp at hx ⊢; rcases hx with h | h | h <;> simp [h]), ?_, fun x hx => h.mine x (by simp at hx ⊢; rcases hx with h | h | h <;> simp [h])⟩
  refine List.pairwise_cons.2 ⟨fun x hx => ?_, List.pairwise_cons.2 ⟨fun x hx => h1.1 x (by simp [hx]), h2.2⟩⟩
  rcases List.mem_cons.1 hx with rfl | hx
  · intro g hg hg'; exact h1.1 d (by simp) g hg' hg
  · exact h2.1 x hx
end

/-! ### Where a block stands in the list -/
class In (L : List Chunk) (b : Nat) (o : outParam Obj) : Prop where
  h : .blk b o ∈ L
instance (priority := 1100) In.head {L : List Chunk} {b : Nat} {o : Obj} : In (.blk b o :: L) b o := ⟨by simp⟩
instance (priority := 900) In.tail {L : List Chunk} {b : Nat} {o : Obj} {c : Chunk} [i : In L b o] : In (c :: L) b o := ⟨List.mem_cons_of_mem _ i.h⟩

/-- The list with one block's object turned. -/
class Put (L : List Chunk) (b : Nat) (o : outParam Obj) (o' : Obj) (L' : outParam (List Chunk)) : Prop where
  h : ∃ A B, L = A ++ .blk b o :: B ∧ L' = A ++ .blk b o' :: B
instance (priority := 1100) Put.head {L : List Chunk} {b : Nat} {o o' : Obj} : Put (.blk b o :: L) b o o' (.blk b o' :: L) := ⟨[], L, rfl, rfl⟩
instance (priority := 900) Put.tail {L L' : List Chunk} {b : Nat} {o o' : Obj} {c : Chunk} [i : Put L b o o' L'] : Put (c :: L) b o o' (c :: L') := ⟨by
  obtain ⟨A, B, h1, h2⟩ := i.h
  exact ⟨c :: A, B, by simp [h1], by simp [h2]⟩⟩

section
variable {w0 w w' : World} {X : Nat → Prop} {L : List Chunk}
theorem Mem.get (h : Mem w0 X L w) {b : Nat} {o : Obj} (i : In L b o) : w.heap[b]? = some o := h.ok _ i.h

/-- One chunk in the list turns, and the world with it. -/
theorem Mem.turn {A B : List Chunk} {c c' : Chunk} (h : Mem w0 X (A ++ c :: B) w) (he : ExtX w (fun b => c.fp = some b) w') (hc : c'.ok w') (hfp : ∀ g, c'.fp = some g → c.fp = some g ∨ w.heap.size ≤ g) :
    Mem w0 X (A ++ c' :: B) w' := by
  obtain ⟨hA, hcB, hAB⟩ := List.pairwise_append.1 h.ap
  obtain ⟨hcB1, hB⟩ := List.pairwise_cons.1 hcB
  have hmem : ∀ d ∈ A ++ B, d ∈ A ++ c :: B := fun d hd => by simp at hd ⊢; rcases hd with h | h <;> simp [h]
  have hne : ∀ d ∈ A ++ B, apart d c ∧ apart c d := fun d hd => by
    rcases List.mem_append.1 hd with hd | hd
    · exact ⟨hAB d hd c (by simp), fun g hg hg' => hAB d hd c (by simp) g hg' hg⟩
    · exact ⟨fun g hg hg' => hcB1 d hd g hg' hg, hcB1 d hd⟩
  have hold : ∀ d ∈ A ++ B, d.ok w' := fun d hd => Chunk.stays (h.ok d (hmem d hd)) fun g hg => he.keep g (Chunk.lt (h.ok d (hmem d hd)) g hg) (fun e => (hne d hd).1 g hg e)
  have hap : ∀ d ∈ A ++ B, apart c' d ∧ apart d c' := fun d hd => by
    have key : ∀ g, c'.fp = some g → d.fp ≠ some g := fun g hg hg' => by
      rcases hfp g hg with h1 | h1
      · exact (hne d hd).2 g h1 hg'
      · have := Chunk.lt (h.ok d (hmem d hd)) g hg'; omega
    exact ⟨key, fun g hg hg' => key g hg' hg⟩
  refine ⟨h.ext.trans he (fun _ h => h) (fun b hb hy => ?_), ?_, ?_, ?_⟩
  · rcases h.mine c (by simp) b hy with h1 | h1
    · exact h1
    · omega
  · intro d hd
    rcases List.mem_append.1 hd with hd | hd
    · exact hold d (by simp [hd])
    · rcases List.mem_cons.1 hd with rfl | hd
      · exact hc
      · exact hold d (by simp [hd])
  · refine List.pairwise_append.2 ⟨hA, List.pairwise_cons.2 ⟨fun d hd => (hap d (by simp [hd])).1, hB⟩, fun a ha d hd => ?_⟩
    rcases List.mem_cons.1 hd with rfl | hd
    · exact (hap a (by simp [ha])).2
    · exact hAB a ha d (by simp [hd])
  · intro d hd g hg
    rcases List.mem_append.1 hd with hd | hd
    · exact h.mine d (by simp [hd]) g hg
    · rcases List.mem_cons.1 hd with rfl | hd
      · rcases hfp g hg with h1 | h1
        · exact h.mine c (by simp) g h1
        · exact .inr (Nat.le_trans h.ext.size h1)
      · exact h.mine d (by simp [hd]) g hg

theorem Mem.upd {L' : List Chunk} {b : Nat} {o o' : Obj} (h : Mem w0 X L w) (i : Put L b o o' L') (hu : Upd w w' b o') : Mem w0 X L' w' := by
  obtain ⟨A, B, rfl, rfl⟩ := i.h
  refine h.turn (hu.extX.mono fun k hk => by subst hk; rfl) hu.at' (fun g hg => .inl hg)
theorem Mem.putGet {L' : List Chunk} {b : Nat} {o o' : Obj} (h : Mem w0 X L w) (i : Put L b o o' L') : w.heap[b]? = some o := by
  obtain ⟨A, B, rfl, rfl⟩ := i.h
  exact h.ok (.blk b o) (by simp)
end
end Go.Proofs.YthcgmdmdgpljmaaDoor.Z
