/- A region that draws, in which the last operations are a chain behind all others: what reads may be taken first, in the worlds that the first part passes. -/
import Derived.Test.YthcgmdmdgpljmaaDoorFrame
import Derived.OrdersHeld
set_option linter.unusedVariables false
set_option linter.unusedSimpArgs false
set_option linter.unusedSectionVars false
namespace Go.Proofs.YthcgmdmdgpljmaaDoor.Z
open Go Go.RowKit

section
variable {P : Program} {ops : Array Oper} {Q : Exit → Act → World → Prop} {md : Region.Mode} {S : World → Prop}

def wpAnyT (P : Program) (md : Region.Mode) (ops : Array Oper) (Q : Exit → Act → World → Prop) (S : World → Prop) (n : Nat) (L : Array Bool → Act → World → Prop) : Nat → Array Bool → Act → World → Prop
  | 0, listed, a, w => L listed a w
  | f + 1, listed, a, w =>
    Region.ready md ops listed ≠ [] ∧ ∀ i ∈ Region.ready md ops listed, i < n ∧ wpOp P ops Q i (fun a' w' => S w' ∧ wpAnyT P md ops Q S n L f (listed.setIfInBounds i true) a' w') a w

theorem wpAny_of_T {n g : Nat} {L : Array Bool → Act → World → Prop} (hL : ∀ listed a w, L listed a w → wpAny P md ops Q g listed a w) :
    ∀ (f : Nat) (listed : Array Bool) (a : Act) (w : World), wpAnyT P md ops Q S n L f listed a w → wpAny P md ops Q (f + g) listed a w
  | 0, listed, a, w, h => by rw [Nat.zero_add]; exact hL _ _ _ h
  | f + 1, listed, a, w, h => by
    rw [show f + 1 + g = (f + g) + 1 by omega]
    exact ⟨fun h0 => absurd h0 h.1, fun i hi => wpOp_mono (fun a' w' h' => wpAny_of_T hL f _ a' w' h'.2) (h.2 i hi).2⟩

theorem wpAnyT_first {n i : Nat} {oi : Oper} {v : Value} {L : Array Bool → Act → World → Prop} (hi : ops[i]? = some oi) (hsel : ∀ (j : Nat) (o : Oper) cs b, ops[j]? = some o → o.op ≠ .select cs b)
    (hs : Region.sinkB md ops n = true) (hc : Region.chainB md ops n = true) (hn : n < ops.size) (hin : i < n) (hQ : ∀ c a w, Q (.panic c) (a.put oi.dst v) w → Q (.panic c) a w)
    (hdone : ∀ listed a w, L listed a w → ∀ j ∈ Region.ready md ops listed, n ≤ j) :
    ∀ (f : Nat) (listed : Array Bool) (a : Act) (w : World), HeadInv md ops n listed →
      (∀ j oj, ops[j]? = some oj → j ≠ i → listed.getD j true = false → (∀ e ∈ oj.after, Region.binds md e = true → e.on ≠ i) → oi.apart ops oj = true) →
      i ∈ Region.ready md ops listed → YieldsIf P ops S oi v a → S w →
      wpAnyT P md ops Q S n L f (listed.setIfInBounds i true) (a.put oi.dst v) w → wpAnyT P md ops Q S n L (f + 1) listed a w := by
  intro f
  induction f with
  | zero =>
    intro listed a w inv _ hr hy hS H
    have hun := (mem_ready.1 hr).1
    refine ⟨fun h => (by rw [h] at hr; cases hr), fun j hj => ?_⟩
    have hjn : j < n := by
      rcases Nat.lt_or_ge j n with h | h
      · exact h
      · exact absurd hj (tail_waits hs hc hn inv _ i rfl hin hun j h)
    refine ⟨hjn, ?_⟩
    by_cases hji : j = i
    · subst hji; exact hy.wpOp hi hS ⟨hS, H⟩
    · have := hdone _ _ _ H j (ready_mono hj hji)
      omega
  | succ f ih =>
    intro listed a w inv hfree hr hy hS H
    have hun := (mem_ready.1 hr).1
    refine ⟨fun h => (by rw [h] at hr; cases hr), fun j hj => ?_⟩
    have hjn : j < n := by
      rcases Nat.lt_or_ge j n with h | h
      · exact h
      · exact absurd hj (tail_waits hs hc hn inv _ i rfl hin hun j h)
    refine ⟨hjn, ?_⟩
    by_cases hji : j = i
    · subst hji; exact hy.wpOp hi hS ⟨hS, H⟩
    · have h1 := (H.2 j (ready_mono hj hji)).2
      obtain ⟨hjun, oj, hoj, hall⟩ := mem_ready.1 hj
      have hnot : ∀ e ∈ oj.after, Region.binds md e = true → e.on ≠ i := fun e he hb heq => by
        have h1 := hall e he hb
        rw [heq, getD_both hun] at h1
        cases h1
      have h2 := wpOp_putIf (S := S) hoj (hfree j oj hoj hji hjun hnot) (fun cs b => hsel i oi cs b hi) (fun cs b => hsel j oj cs b hoj) hQ hy h1
      have hfree' : ∀ k ok, ops[k]? = some ok → k ≠ i → (listed.setIfInBounds j true).getD k true = false →
          (∀ e ∈ ok.after, Region.binds md e = true → e.on ≠ i) → oi.apart ops ok = true := fun k ok hk hki hun hno => by
        refine hfree k ok hk hki ?_ hno
        by_cases hjk : j = k
        · subst hjk; exact hjun
        · rw [getD_set_ne true hjk] at hun; exact hun
      refine wpOp_mono (fun a' w' h3 => ⟨h3.2.1, ih (listed.setIfInBounds j true) a' w' (inv.set hj hjn) hfree' (ready_mono hr (Ne.symm hji)) h3.1 h3.2.1 ?_⟩) h2
      rw [Array.setIfInBounds_comm _ _ hji]
      exact h3.2.2
end

/-- Where the chain at the end begins. -/
def TailK (P : Program) (ops : Array Oper) (Q : Post) (k g : Nat) (l2 : List Oper) (listed : Array Bool) (a : Act) (w : World) : Prop := Region.seqB .any ops g k listed = true ∧ wpList P ops Q l2 a w
structure ZT (P : Program) (n : Nat) (ops : Array Oper) (Q : Post) (S : World → Prop) (k g : Nat) (l2 : List Oper) (fuel : Nat) (listed : Array Bool) (σ : Env) (w : World) : Prop where
  h : ∀ a, FR n σ a → HeadInv .any ops k listed → wpAnyT P .any ops Q S k (TailK P ops Q k g l2) fuel listed a w

section
variable {P : Program} {n : Nat} {ops : Array Oper} {Q : Post} {S : World → Prop} {k g fuel : Nat} {l2 : List Oper} {listed listed' : Array Bool} {σ : Env} {w : World}
def tailB (ops : Array Oper) (k : Nat) : Bool := Region.noSelect ops && Nat.blt k ops.size && Region.sinkB .any ops k && Region.chainB .any ops k

theorem ZC.turning {id : Nat} {l : List Oper} [FO P] (S : World → Prop) (k : Nat) {m : Nat} {ls : Array Bool} (hm : l.length = m) (hB : tailB l.toArray k = true) (h2 : l.drop k = l2) (hg : m - k = g) (hls : Array.replicate m false = ls)
    (h : ∀ w', Ext w w' → w'.heap = w.heap → ZT P n l.toArray Q S k g l2 k ls σ w') : ZC P n Q (.region id l.toArray true) σ w := by
  subst hm; subst hls; subst h2; subst hg
  simp only [tailB, Bool.and_eq_true] at hB
  obtain ⟨⟨⟨hsel, hn⟩, hs⟩, hc⟩ := hB
  have hn' : k < l.length := by simpa [Nat.blt_eq] using hn
  refine ⟨fun a ha => ?_⟩
  have inv0 : HeadInv .any l.toArray k (Array.replicate l.length false) :=
    ⟨by simp, fun j oj _ hl => (by rw [getD_replicate_false] at hl; cases hl), fun t _ ht => getD_in (by simpa using ht) (getD_replicate_false _ _)⟩
  have H := (h { w with drawn := w.drawn + 1 } (drew_ext w _) rfl).h a ha inv0
  refine wp_region_any FO.h ?_
  have := wpAny_of_T (P := P) (md := .any) (Q := Q) (g := l.length - k) (fun listed a' w' hL => by
    have := wpAny_of_seq (md := .any) (Q' := Q) (l.drop k) k listed a' w' (fun j => by simp [List.getElem?_drop]) (by rw [List.length_drop]; exact hL.1) hL.2
    rwa [List.length_drop] at this) _ _ _ _ H
  rw [show k + (l.length - k) = l.length by omega] at this
  simpa using this

theorem seqB_le : ∀ {listed : Array Bool}, Region.seqB .any ops g k listed = true → ∀ j ∈ Region.ready .any ops listed, k ≤ j := fun h => seqB_ready h

theorem ZT.take (i : Nat) {d : Nat} {op : Op} {ty : TypeId} {pos : String} {after : Array Edge} {v : Value} {fuel' : Nat} (hf1 : fuel = fuel' + 1)
    (hi : ops[i]? = some ⟨some d, op, ty, pos, after, none⟩) (hy : ∀ w', S w' → V P σ op v w') (hB : tailB ops k = true) (hik : Nat.blt i k = true) (hf : Region.free .any ops listed i = true)
    (hr : (Region.ready .any ops listed).contains i = true) (hl : listed.setIfInBounds i true = listed') (hd : Nat.blt d n = true) (hQ : ∀ c a a' w, Q (.panic c) a w → Q (.panic c) a' w) (hS : S w)
    (h : ZT P n ops Q S k g l2 fuel' listed' ((d, v) :: σ) w) : ZT P n ops Q S k g l2 fuel listed σ w := by
  subst hl; subst hf1
  simp only [tailB, Bool.and_eq_true] at hB
  obtain ⟨⟨⟨hsel, hn⟩, hs⟩, hc⟩ := hB
  have hik' : i < k := by simpa [Nat.blt_eq] using hik
  have hr' : i ∈ Region.ready .any ops listed := by simpa using hr
  refine ⟨fun a ha inv => ?_⟩
  exact wpAnyT_first hi (Region.noSelect_spec hsel) hs hc (by simpa [Nat.blt_eq] using hn) hik' (fun c a w hq => hQ c _ _ w hq) (fun listed a w hL => seqB_ready hL.1) fuel' listed a w inv (Region.free_spec hi hf) hr'
    (.inl ⟨by simp [Region.wanted], fun w' hw' => (hy w' hw').h a.eval ha.ag _ rfl⟩) hS (h.h _ (ha.put hd) (inv.set hr' hik'))

theorem ZT.one (i : Nat) {o : Oper} {fuel' : Nat} (hf1 : fuel = fuel' + 1) (hr : Region.ready .any ops listed = [i]) (hik : Nat.blt i k = true) (hi : ops[i]? = some o) (hl : listed.setIfInBounds i true = listed')
    (h : ZL P n ops (Exit.then (fun a w => S w ∧ (HeadInv .any ops k listed' → wpAnyT P .any ops Q S k (TailK P ops Q k g l2) fuel' listed' a w)) Q) [o] σ w) : ZT P n ops Q S k g l2 fuel listed σ w := by
  subst hl; subst hf1
  have hik' : i < k := by simpa [Nat.blt_eq] using hik
  refine ⟨fun a ha inv => ⟨by rw [hr]; simp, fun j hj => ?_⟩⟩
  have hr' : i ∈ Region.ready .any ops listed := by rw [hr]; simp
  rw [hr] at hj
  simp only [List.mem_singleton] at hj
  subst hj
  refine ⟨hik', ?_⟩
  have h1 := h.h a ha
  have inv' := inv.set hr' hik'
  have h2 : wpOp P ops (Exit.then (fun a w => S w ∧ (HeadInv .any ops k (listed.setIfInBounds j true) → wpAnyT P .any ops Q S k (TailK P ops Q k g l2) fuel' (listed.setIfInBounds j true) a w)) Q) j (fun a w => S w ∧ (HeadInv .any ops k (listed.setIfInBounds j true) → wpAnyT P .any ops Q S k (TailK P ops Q k g l2) fuel' (listed.setIfInBounds j true) a w)) a w := by
    unfold wpOp
    simp only [hi]
    simpa [wpList, Exit.then] using h1
  have h3 := wpOp_mono (K' := fun a w => S w ∧ wpAnyT P .any ops Q S k (TailK P ops Q k g l2) fuel' (listed.setIfInBounds j true) a w) (fun a' w' h => ⟨h.1, h.2 inv'⟩) h2
  unfold wpOp at h3 ⊢
  simp only [hi] at h3 ⊢
  simpa [Exit.then, LetsOut, Oper.wp, Oper.upon] using h3
theorem ZP.turning {Q' : Post} (hS : S w) (h : ZT P n ops Q S k g l2 fuel listed σ w) : ZP n (Exit.then (fun a w => S w ∧ (HeadInv .any ops k listed → wpAnyT P .any ops Q S k (TailK P ops Q k g l2) fuel listed a w)) Q') .normal σ w := ⟨fun a ha => ⟨hS, fun inv => h.h a ha inv⟩⟩
theorem ZT.done (hf : fuel = 0) (hB : Region.seqB .any ops g k listed = true) (h : ZL P n ops Q l2 σ w) : ZT P n ops Q S k g l2 fuel listed σ w := by
  subst hf; exact ⟨fun a ha _ => ⟨hB, h.h a ha⟩⟩
end
end Go.Proofs.YthcgmdmdgpljmaaDoor.Z
