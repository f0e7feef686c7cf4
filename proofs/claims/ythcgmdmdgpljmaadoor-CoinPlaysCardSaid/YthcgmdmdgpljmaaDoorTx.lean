/- Transactions: what a value in memory reads as. -/
import Derived.Test.YthcgmdmdgpljmaaDoorMap
set_option linter.unusedVariables false
set_option linter.unusedSimpArgs false
set_option linter.unusedSectionVars false
set_option maxRecDepth 100000
set_option maxHeartbeats 4000000
namespace Go.Proofs.YthcgmdmdgpljmaaDoor.Z
open Go Go.RowKit

/-- What a reading is carried over. -/
structure Mv (w : World) (X : Nat → Prop) (w' : World) (X' : Nat → Prop) : Prop where
  keep : ∀ b, b < w.heap.size → ¬ X b → w'.heap[b]? = w.heap[b]?
  sub : ∀ b, b < w.heap.size → X' b → X b
  size : w.heap.size ≤ w'.heap.size
theorem Mv.ext {w w' : World} {X : Nat → Prop} (h : Ext w w') : Mv w X w' X := ⟨fun b hb _ => h.keep b hb (fun h => h), fun _ _ h => h, h.size⟩
theorem Mv.extX {w w' : World} {X Y : Nat → Prop} (h : ExtX w Y w') (hy : ∀ b, b < w.heap.size → Y b → X b) : Mv w X w' X := ⟨fun b hb hx => h.keep b hb (fun y => hx (hy b hb y)), fun _ _ h => h, h.size⟩
theorem Mv.free {w : World} {X : Nat → Prop} : Mv w X w No := ⟨fun _ _ _ => rfl, fun _ _ h => h.elim, Nat.le_refl _⟩
theorem Mv.mono {w : World} {X Y : Nat → Prop} (h : ∀ b, b < w.heap.size → Y b → X b) : Mv w X w Y := ⟨fun _ _ _ => rfl, h, Nat.le_refl _⟩
theorem Mv.mem {w0 w : World} {X : Nat → Prop} {L : List Chunk} (hM : Mem w0 X L w) : Mv w0 X w (fun b => ∃ c ∈ L, c.fp = some b) :=
  ⟨hM.ext.keep, fun b hb ⟨c, hc, hf⟩ => by
    rcases hM.mine c hc b hf with h | h
    · exact h
    · omega, hM.ext.size⟩
theorem Mv.trans {w w1 w2 : World} {X X1 X2 : Nat → Prop} (h : Mv w X w1 X1) (k : Mv w1 X1 w2 X2) : Mv w X w2 X2 :=
  ⟨fun b hb hx => (k.keep b (Nat.lt_of_lt_of_le hb h.size) (fun h1 => hx (h.sub b hb h1))).trans (h.keep b hb hx), fun b hb h2 => h.sub b hb (k.sub b (Nat.lt_of_lt_of_le hb h.size) h2), Nat.le_trans h.size k.size⟩

theorem SlC.mv {w w' : World} {X X' : Nat → Prop} {s n : Nat} {v : Value} {xs : List Value} (h : SlC w X s v n xs) (m : Mv w X w' X') : SlC w' X' s v n xs := by
  refine ⟨h.1, ?_⟩
  rcases h.2 with hn | ⟨g, o, c, cs, e, fz, hv, hg, hh, hr⟩
  · exact .inl hn
  · have hlt := (Array.getElem?_eq_some_iff.1 hh).1
    exact .inr ⟨g, o, c, cs, e, fz, hv, fun x => hg (m.sub g hlt x), (m.keep g hlt hg).trans hh, hr⟩

section list
variable {α : Type}
/-- v is a slice whose elements, of s cells each, read as l. -/
def ListR (E : World → (Nat → Prop) → List Value → α → Prop) (s : Nat) (w : World) (X : Nat → Prop) (v : Value) (l : List α) : Prop :=
  ∃ rows : List (List Value), rows.length = l.length ∧ (∀ r ∈ rows, r.length = s) ∧ SlC w X s v l.length rows.flatten ∧ ∀ (i : Nat) (r : List Value) (a : α), rows[i]? = some r → l[i]? = some a → E w X r a
variable {E : World → (Nat → Prop) → List Value → α → Prop} {s : Nat} {w w' : World} {X X' : Nat → Prop} {v : Value} {l : List α}
theorem ListR.mv (hE : ∀ r a, E w X r a → E w' X' r a) (h : ListR E s w X v l) (m : Mv w X w' X') : ListR E s w' X' v l := by
  obtain ⟨rows, h1, h2, h3, h4⟩ := h
  exact ⟨rows, h1, h2, h3.mv m, fun i r a hr ha => hE _ _ (h4 i r a hr ha)⟩
theorem ListR.shape (h : ListR E s w X v l) : ∃ p c, v = .slice p l.length c := by
  obtain ⟨rows, _, _, h3, _⟩ := h
  exact h3.shape
theorem flatten_at {s : Nat} : ∀ (rows : List (List Value)) (i : Nat) (r : List Value), (∀ r ∈ rows, r.length = s) → rows[i]? = some r → ∀ j u, r[j]? = some u → rows.flatten[i * s + j]? = some u
  | [], i, r, _, h, _, _, _ => by simp at h
  | a :: t, 0, r, hs, h, j, u, hj => by
    simp at h; subst h
    simp only [List.flatten_cons, Nat.zero_mul, Nat.zero_add]
    rw [List.getElem?_append_left]
    · exact hj
    · exact (List.getElem?_eq_some_iff.1 hj).1
  | a :: t, i + 1, r, hs, h, j, u, hj => by
    simp only [List.getElem?_cons_succ] at h
    simp only [List.flatten_cons]
    have ha : a.length = s := hs a (by simp)
    rw [List.getElem?_append_right (by rw [ha, Nat.succ_mul]; omega)]
    have := flatten_at t i r (fun r hr => hs r (by simp [hr])) h j u hj
    rw [ha, show (i + 1) * s + j - s = i * s + j by rw [Nat.succ_mul]; omega]
    exact this
theorem ListR.elem {p : Option Addr} {n c : Nat} (hs0 : 0 < s) (h : ListR E s w X (.slice p n c) l) {i : Nat} (hi : i < l.length) :
    ∃ g o cs e fz r, p = some ⟨g, o, none⟩ ∧ w.heap[g]? = some (.cells cs e fz) ∧ ¬ X g ∧ r.length = s ∧ E w X r l[i] ∧ (∀ j u, r[j]? = some u → cs[o + i * s + j]? = some u) ∧ o + i * s + s ≤ cs.size ∧ cs.extract (o + i * s) (o + i * s + s) = r.toArray := by
  obtain ⟨rows, h1, h2, h3, h4⟩ := h
  obtain ⟨p', c', hv⟩ := h3.shape
  simp only [Value.slice.injEq] at hv
  obtain ⟨rfl, rfl, rfl⟩ := hv
  obtain ⟨g, o, cs, e, fz, rfl, hh, hx, hr⟩ := h3.at hi
  have hi' : i < rows.length := by omega
  have hrow : rows[i]? = some rows[i] := List.getElem?_eq_getElem hi'
  have hlen : rows[i].length = s := h2 _ (List.getElem_mem hi')
  have hcell : ∀ j u, rows[i][j]? = some u → cs[o + i * s + j]? = some u := fun j u hj => by
    rw [Nat.add_assoc]; exact hr _ _ (flatten_at rows i _ h2 hrow j u hj)
  have hsz : o + i * s + s ≤ cs.size := by
    have := hcell (s - 1) _ (List.getElem?_eq_getElem (show s - 1 < rows[i].length by omega))
    have := (Array.getElem?_eq_some_iff.1 this).1
    omega
  refine ⟨g, o, cs, e, fz, rows[i], rfl, hh, hx, hlen, h4 i _ _ hrow (List.getElem?_eq_getElem hi), hcell, ?_, ?_⟩
  · exact hsz
  · apply Array.ext'
    apply List.ext_getElem?
    intro j
    rw [Array.getElem?_toList, Array.getElem?_extract]
    by_cases hj : j < s
    · have hju := hcell j _ (List.getElem?_eq_getElem (show j < rows[i].length by omega))
      have hlt := (Array.getElem?_eq_some_iff.1 hju).1
      rw [if_pos (by omega), hju]
      simp [hlen, hj]
    · rw [if_neg (by omega)]
      rw [List.getElem?_eq_none (by simp [hlen]; omega)]
end list

structure TIn where
  prev : B32
  vout : UInt32
  script : List UInt8
  seq : UInt32
  wit : List (List UInt8)
structure TOut where
  value : UInt64
  script : List UInt8
structure TTx where
  version : UInt32
  ins : List TIn
  outs : List TOut
  lock : UInt32

def BytesE (w : World) (X : Nat → Prop) (r : List Value) (b : List UInt8) : Prop := ∃ u, r = [u] ∧ BytesR w X u b
def InE (w : World) (X : Nat → Prop) (r : List Value) (i : TIn) : Prop := ∃ sv wv, r = i.prev.cells ++ [u32 i.vout, sv, u32 i.seq, wv] ∧ BytesR w X sv i.script ∧ ListR BytesE 1 w X wv i.wit
def OutE (w : World) (X : Nat → Prop) (r : List Value) (o : TOut) : Prop := ∃ sv, r = [u64 o.value, sv] ∧ BytesR w X sv o.script
def TxE (w : World) (X : Nat → Prop) (r : List Value) (t : TTx) : Prop := ∃ iv ov, r = [u32 t.version, iv, ov, u32 t.lock] ∧ ListR InE 36 w X iv t.ins ∧ ListR OutE 2 w X ov t.outs
def TxR (w : World) (X : Nat → Prop) (v : Value) (t : TTx) : Prop := ∃ r, v = .agg r.toArray ∧ TxE w X r t

section
variable {w w' : World} {X X' : Nat → Prop}
theorem BytesE.mv (m : Mv w X w' X') {r : List Value} {b : List UInt8} (h : BytesE w X r b) : BytesE w' X' r b := by obtain ⟨u, h1, h2⟩ := h; exact ⟨u, h1, h2.mv m⟩
theorem InE.mv (m : Mv w X w' X') {r : List Value} {i : TIn} (h : InE w X r i) : InE w' X' r i := by
  obtain ⟨sv, wv, h1, h2, h3⟩ := h; exact ⟨sv, wv, h1, h2.mv m, ListR.mv (fun _ _ h => BytesE.mv m h) h3 m⟩
theorem OutE.mv (m : Mv w X w' X') {r : List Value} {i : TOut} (h : OutE w X r i) : OutE w' X' r i := by obtain ⟨sv, h1, h2⟩ := h; exact ⟨sv, h1, h2.mv m⟩
theorem TxE.mv (m : Mv w X w' X') {r : List Value} {t : TTx} (h : TxE w X r t) : TxE w' X' r t := by
  obtain ⟨iv, ov, h1, h2, h3⟩ := h; exact ⟨iv, ov, h1, ListR.mv (fun _ _ h => InE.mv m h) h2 m, ListR.mv (fun _ _ h => OutE.mv m h) h3 m⟩
theorem TxR.mv (m : Mv w X w' X') {v : Value} {t : TTx} (h : TxR w X v t) : TxR w' X' v t := by obtain ⟨r, h1, h2⟩ := h; exact ⟨r, h1, TxE.mv m h2⟩
end
end Go.Proofs.YthcgmdmdgpljmaaDoor.Z
