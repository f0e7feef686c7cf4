/- Slices: what a slice reads as; append, and cutting. -/
import Derived.Test.YthcgmdmdgpljmaaDoorStep
set_option linter.unusedVariables false
set_option linter.unusedSimpArgs false
namespace Go.Proofs.YthcgmdmdgpljmaaDoor.Z
open Go Go.RowKit

/-- v is a slice of n elements of s cells each, whose cells are xs, in a block that X does not name. -/
def SlC (w : World) (X : Nat → Prop) (s : Nat) (v : Value) (n : Nat) (xs : List Value) : Prop :=
  xs.length = n * s ∧ ((v = .slice none 0 0 ∧ n = 0) ∨
    ∃ g o c cs e fz, v = .slice (some ⟨g, o, none⟩) n c ∧ ¬ X g ∧ w.heap[g]? = some (.cells cs e fz) ∧ n ≤ c ∧ c ≤ maxLen ∧ ∀ i u, xs[i]? = some u → cs[o + i]? = some u)

section
variable {w w' : World} {X X' Y : Nat → Prop} {s n m : Nat} {v u : Value} {xs ys : List Value} {e : Nat}

theorem SlC.shape (h : SlC w X s v n xs) : ∃ p c, v = .slice p n c := by
  rcases h.2 with ⟨rfl, rfl⟩ | ⟨g, o, c, cs, e, fz, rfl, _⟩
  · exact ⟨_, _, rfl⟩
  · exact ⟨_, _, rfl⟩

theorem SlC.move (h : SlC w X s v n xs) (he : ExtX w Y w') (hy : ∀ b, b < w.heap.size → Y b → X b) (hx : ∀ b, b < w.heap.size → X' b → X b) : SlC w' X' s v n xs := by
  refine ⟨h.1, ?_⟩
  rcases h.2 with hn | ⟨g, o, c, cs, e, fz, hv, hg, hh, hr⟩
  · exact .inl hn
  · have hlt := (Array.getElem?_eq_some_iff.1 hh).1
    exact .inr ⟨g, o, c, cs, e, fz, hv, fun x => hg (hx g hlt x), he.at hh (fun y => hg (hy g hlt y)), hr⟩
theorem SlC.ext (h : SlC w X s v n xs) (he : Ext w w') : SlC w' X s v n xs := h.move he (fun _ _ h => h.elim) (fun _ _ h => h)
theorem SlC.free (h : SlC w X s v n xs) : SlC w No s v n xs := h.move (ExtX.refl w No) (fun _ _ h => h.elim) (fun _ _ h => h.elim)
theorem SlC.mem {w0 : World} {L : List Chunk} (h : SlC w0 X s v n xs) (hM : Mem w0 X L w) : SlC w (fun b => ∃ c ∈ L, c.fp = some b) s v n xs :=
  h.move hM.ext (fun _ _ h => h) (fun b hb ⟨c, hc, hf⟩ => by
    rcases hM.mine c hc b hf with h | h
    · exact h
    · omega)
theorem OwnR.slc (h : OwnR w e s v n xs) (hx : ∀ g, v.ownBlock = some g → ¬ X g) : SlC w X s v n xs := by
  refine ⟨h.1, ?_⟩
  rcases h.2 with hn | ⟨g, c, cs, rfl, hh, h1, h2, h3, h4⟩
  · exact .inl hn
  · refine .inr ⟨g, 0, c, cs, e, (0, 0), rfl, hx g rfl, hh, h1, h2, fun i u hu => ?_⟩
    rw [← h4, List.getElem?_take] at hu
    split at hu
    · simpa using hu
    · cases hu
/-- What is handed back, of the call's own. -/
theorem Mem.new {L : List Chunk} {n' : Nat} {xs' : List Value} (h : Mem w No (.own v e s n xs :: L) w') (hn : n = n') (hx : xs = xs') : Ext w w' ∧ NewO w w' e s v n' xs' := by
  subst hn; subst hx
  refine ⟨h.ext, h.ok (.own v e s n xs) (by simp), fun g hg => ?_⟩
  rcases h.mine (.own v e s n xs) (by simp) g hg with h | h
  · exact h.elim
  · exact h
theorem NewO.slc {w1 : World} (h : NewO w w1 e s v n xs) : SlC w1 (· < w.heap.size) s v n xs := h.own.slc fun g hg hlt => by have := h.new g hg; have hlt' : g < w.heap.size := hlt; omega

/-- Reading: the cell of element i, at place j in it. -/
theorem SlC.at {c : Nat} {p : Option Addr} (h : SlC w X s (.slice p n c) n xs) {i : Nat} (hi : i < n) : ∃ g o cs e fz, p = some ⟨g, o, none⟩ ∧ w.heap[g]? = some (.cells cs e fz) ∧ ¬ X g ∧ ∀ i u, xs[i]? = some u → cs[o + i]? = some u := by
  rcases h.2 with ⟨h1, rfl⟩ | ⟨g, o, c', cs, e, fz, hv, hg, hh, _, _, hr⟩
  · omega
  · simp only [Value.slice.injEq] at hv
    exact ⟨g, o, cs, e, fz, hv.1, hh, hg, hr⟩

/-- What can be appended from. -/
theorem SlC.news (h : SlC w X s v n xs) : v = .slice none 0 0 ∧ n = 0 ∧ xs = [] ∨ ∃ a c, v = .slice (some a) n c ∧ ∀ j u, xs[j]? = some u → w.cell? (a.add j) = some u := by
  rcases h.2 with ⟨rfl, rfl⟩ | ⟨g, o, c, cs, e, fz, rfl, _, hh, _, _, hr⟩
  · exact .inl ⟨rfl, rfl, List.eq_nil_of_length_eq_zero (by simpa using h.1)⟩
  · exact .inr ⟨_, c, rfl, fun j u hu => by rw [add_at]; exact cell_of hh (hr j u hu)⟩

theorem run_append {P : Program} {t ty bytes : Nat} {z : Value} [TU P t (.slice e)] [te : TE P e s bytes z]
    (hown : OwnR w e s v n xs) (hu : SlC w X s u m ys) (h1 : ∀ x ∈ ys, x.oneCell' = true) (h63 : n + m ≤ maxLen) (hb : (n + m) * bytes ≤ 140737488355328) :
    ∃ v' w', (Builtin.append_ #[t, t] ty #[v, u]).run P w = .ok v' w' ∧ OwnR w' e s v' (n + m) (xs ++ ys) ∧ ExtX w (fun b => v.ownBlock = some b) w' ∧ (∀ g, v'.ownBlock = some g → v.ownBlock = some g ∨ w.heap.size ≤ g) := by
  have ht := TU.h (P := P) (t := t)
  have hi0 := te.ti.h
  have hz0 := te.tz.h
  have hzs := te.hz
  have hs := te.pos
  obtain ⟨i, hi⟩ : ∃ i, P.info? e = some i := by
    cases hq : P.info? e with
    | none => simp [hq] at hi0
    | some x => exact ⟨x, rfl⟩
  simp only [hi, Option.map_some, Option.some.injEq, Prod.mk.injEq] at hi0 hz0
  obtain ⟨his, hib⟩ := hi0
  have hyl := hu.1
  rcases hu.news with ⟨rfl, rfl, rfl⟩ | ⟨a, c, rfl, hnews⟩
  · -- nothing is appended
    have hroom : ∀ k, n + 0 ≤ k → n ≤ k := fun k h => h
    refine ⟨v, w, ?_, by simpa using hown, .refl _ _, fun g hg => .inl hg⟩
    rcases hown.2 with ⟨rfl, rfl⟩ | ⟨g, cap, cur, rfl, hg, hc, _⟩
    · simp [Builtin.append_, run_underlying ht, sizeOf, typeInfo, hi, Builtin.lenOf, Builtin.firstCells]
    · simp [Builtin.append_, run_underlying ht, sizeOf, typeInfo, hi, Builtin.lenOf, Builtin.firstCells, hc, storeCells]
  · have hnl : ys.length = m * i.size := by rw [his]; exact hyl
    have hsmall : n + m ≤ 9223372036854775807 := by simp only [maxLen] at h63; omega
    have hlen : (xs ++ ys).length = (n + m) * s := by rw [List.length_append, hown.1, hyl, Nat.add_mul]
    have grown : ∀ (old : Nat), OwnR (w.drew.alloc (.cells (xs.toArray ++ ys.toArray ++ Builtin.zeroCells z.cells (grownCap w (n + m) old e - (n + m))) e)) e s
        (.slice (some ⟨w.heap.size, 0, none⟩) (n + m) (grownCap w (n + m) old e)) (n + m) (xs ++ ys) ∧
        Ext w (w.drew.alloc (.cells (xs.toArray ++ ys.toArray ++ Builtin.zeroCells z.cells (grownCap w (n + m) old e - (n + m))) e)) := by
      intro old
      have hge := grownCap_ge w (n + m) old e
      have hcm : grownCap w (n + m) old e ≤ maxLen := grownCap_le_maxLen w (n + m) old e h63
      refine ⟨⟨hlen, .inr ⟨w.heap.size, _, _, rfl, heap_alloc_new w.drew _, hge, hcm, ?_, ?_⟩⟩, ⟨rfl, rfl, rfl, by simp, fun k hk _ => Below.heap_alloc w.drew _ k hk⟩⟩
      · simp only [Array.size_append, List.size_toArray, size_zeroCells, hzs, hown.1, hyl, ← Nat.add_mul]
        refine Nat.mul_le_mul_right _ (by omega)
      · simp only [Array.toList_append, List.append_assoc]
        rw [← List.append_assoc, ← hlen]
        exact List.take_left
    rcases hown.2 with ⟨rfl, rfl⟩ | ⟨g, cap, cur, rfl, hg, hnc, hcm, hcs, htake⟩
    · have hx : xs = [] := List.eq_nil_of_length_eq_zero (by simpa using hown.1)
      subst hx
      by_cases hm : m = 0
      · subst hm
        have hn : ys = [] := List.eq_nil_of_length_eq_zero (by simpa using hyl)
        subst hn
        refine ⟨.slice none 0 0, w, ?_, OwnR.nil w e s, .refl _ _, fun g hg => .inl hg⟩
        simp [Builtin.append_, run_underlying ht, sizeOf, typeInfo, hi, Builtin.lenOf, Builtin.firstCells, loadCells, loadCellsFrom]
      · have hr := run_append_nil (P := P) w t ty e i z ht hi hz0 a m c ys hnl hnews (by omega) (by omega) (by rw [hib]; have hb := hb; simp only [Nat.zero_add] at hb; omega)
        have hgr := grown 0
        simp only [Nat.zero_add, List.nil_append, Array.empty_append] at hgr ⊢
        exact ⟨_, _, hr, hgr.1, hgr.2.toX, fun g hg => .inr (by simp [Value.ownBlock] at hg; omega)⟩
    · by_cases hroom : n + m ≤ cap
      · have hfit : n * i.size + ys.length ≤ cur.size := by rw [hnl, his, ← Nat.add_mul]; exact Nat.le_trans (Nat.mul_le_mul_right _ hroom) hcs
        have hr := run_append_room (P := P) w t ty e i ht hi g n cap cur hg a m c ys hnl hnews h1 hroom hfit
        refine ⟨_, _, hr, ⟨hlen, .inr ⟨g, cap, _, rfl, setRow_heap w g cur _ e _ hg, hroom, hcm, ?_, ?_⟩⟩, ⟨rfl, rfl, rfl, by simp, fun k _ hk => setRow_other w g k _ (fun e => hk (by simp [Value.ownBlock, e]))⟩, fun g' hg' => .inl (by simpa [Value.ownBlock] using hg')⟩
        · simp only [List.size_toArray, List.length_append, List.length_take, List.length_drop, Array.length_toList]
          have := hfit
          omega
        · rw [his, htake, ← hlen]
          exact List.take_left
      · have holds : ∀ j u, xs[j]? = some u → w.cell? ((⟨g, 0, none⟩ : Addr).add j) = some u := by
          intro j u hj
          rw [add_at, ← htake, List.getElem?_take] at *
          split at hj
          · exact cell_of hg (by simpa using hj)
          · cases hj
        have hr := run_append_grow (P := P) w t ty e i z ht hi hz0 ⟨g, 0, none⟩ n cap xs (by rw [his]; exact hown.1) holds a m c ys hnl hnews (by omega) (by omega) (growslice_fits (by omega) (by rw [hib]; exact hb))
        have hgr := grown cap
        exact ⟨_, _, hr, hgr.1, hgr.2.toX, fun g hg => .inr (by simp [Value.ownBlock] at hg; omega)⟩
end

/-! ### The own slices in the list -/
class OwnIn (L : List Chunk) (v : Value) (e s n : outParam Nat) (xs : outParam (List Value)) : Prop where
  h : .own v e s n xs ∈ L
instance (priority := 1100) OwnIn.head {L : List Chunk} {v : Value} {e s n : Nat} {xs : List Value} : OwnIn (.own v e s n xs :: L) v e s n xs := ⟨by simp⟩
instance (priority := 900) OwnIn.tail {L : List Chunk} {v : Value} {e s n : Nat} {xs : List Value} {c : Chunk} [i : OwnIn L v e s n xs] : OwnIn (c :: L) v e s n xs := ⟨List.mem_cons_of_mem _ i.h⟩

/-- The list as a function of one own slice in it. -/
class OwnPut (L : List Chunk) (v : Value) (e s n : outParam Nat) (xs : outParam (List Value)) (F : outParam (Chunk → List Chunk)) : Prop where
  h : ∃ A B, L = A ++ .own v e s n xs :: B ∧ ∀ c, F c = A ++ c :: B
instance (priority := 1100) OwnPut.head {L : List Chunk} {v : Value} {e s n : Nat} {xs : List Value} : OwnPut (.own v e s n xs :: L) v e s n xs (fun c => c :: L) := ⟨[], L, rfl, fun _ => rfl⟩
instance (priority := 900) OwnPut.tail {L : List Chunk} {v : Value} {e s n : Nat} {xs : List Value} {d : Chunk} {F : Chunk → List Chunk} [i : OwnPut L v e s n xs F] : OwnPut (d :: L) v e s n xs (fun c => d :: F c) := ⟨by
  obtain ⟨A, B, h1, h2⟩ := i.h
  exact ⟨d :: A, B, by simp [h1], fun c => by simp [h2]⟩⟩

section
variable {P : Program} {n : Nat} {ops : Array Oper} {Q : Post} {rest : List Oper} {σ : Env} {w w0 : World} {X Y : Nat → Prop} {L L' : List Chunk}
variable {d : Nat} {ty : TypeId} {pos : String} {after : Array Edge} {x y : Operand}

/-- append(v, u...), v the call's own. -/
theorem ZL.append {t e s k m bytes : Nat} {v u z : Value} {xs ys : List Value} {F : Chunk → List Chunk} [TU P t (.slice e)] [TE P e s bytes z] (hM : Mem w0 X L w) (hx : ev σ x = some v) (hy : ev σ y = some u)
    [i : OwnPut L v e s k xs F] (hu : SlC w Y s u m ys) (h1 : ∀ x ∈ ys, x.oneCell' = true) (h63 : k + m ≤ maxLen) (hb : (k + m) * bytes ≤ 140737488355328) (hd : Nat.blt d n = true)
    (h : ∀ v' w', Mem w0 X (F (.own v' e s (k + m) (xs ++ ys))) w' → ZL P n ops Q rest ((d, v') :: σ) w') :
    ZL P n ops Q (⟨some d, .call ⟨.builtin .append, #[x, y], #[t, t]⟩, ty, pos, after, none⟩ :: rest) σ w := by
  obtain ⟨A, B, rfl, hF⟩ := i.h
  have hown : OwnR w e s v k xs := hM.ok (.own v e s k xs) (by simp)
  obtain ⟨v', w', hr, h2, h3, h4⟩ := run_append (P := P) (t := t) (ty := ty) hown hu h1 h63 hb
  refine ⟨fun a ha => ?_⟩
  refine wpList_plain rfl (fun K hK => ?_)
  unfold Oper.wp
  rw [exec_builtin (P := P) rfl (r := .ok (.value v') w') (fun cs => by simp [ha.ag _ _ hx, ha.ag _ _ hy, builtin, hr])]
  refine hK _ _ ((h v' w' ?_).h _ (ha.put hd))
  rw [hF]
  exact hM.turn (c' := .own v' e s (k + m) (xs ++ ys)) h3 h2 h4

/-- A slice of the values that stand there. -/
theorem ZL.buildSlice {t e s len : Nat} {parts : Array (Nat × Operand)} {cs : List Value} (hM : Mem w0 X L w)
    (hb : ∀ ρ, Ag ρ σ → (Instr.buildSlice t len (parts.map fun (i, x) => (i, ρ x))).run P w = .ok (.slice (some ⟨w.heap.size, 0, none⟩) len len) (w.alloc (.cells cs.toArray e)))
    (hl : cs.length = len * s) (hm : len ≤ maxLen) (hd : Nat.blt d n = true)
    (h : ∀ g w', Mem w0 X (.own (.slice (some ⟨g, 0, none⟩) len len) e s len cs :: L) w' → ZL P n ops Q rest ((d, .slice (some ⟨g, 0, none⟩) len len) :: σ) w') :
    ZL P n ops Q (⟨some d, .buildSlice t len parts, ty, pos, after, none⟩ :: rest) σ w := by
  have hv : VW P σ (.buildSlice t len parts) (.slice (some ⟨w.heap.size, 0, none⟩) len len) w (w.alloc (.cells cs.toArray e)) := by
    refine ⟨fun ρ ha o ho => ?_⟩; simp [execOp, ho, hb ρ ha]
  refine ZL.vw hv hd (h _ _ ?_)
  have hpush := hM.push (Upd.alloc w (.cells cs.toArray e)) rfl
  refine Mem.add hpush.drop (c := .own (.slice (some ⟨w.heap.size, 0, none⟩) len len) e s len cs) ⟨hl, .inr ⟨_, len, cs.toArray, rfl, hpush.ok (.blk w.heap.size (.cells cs.toArray e)) (by simp), Nat.le_refl _, hm, by simp [hl], by rw [← hl]; simp⟩⟩ ?_
  intro g hg
  simp only [Chunk.fp, Value.ownBlock, Option.some.injEq] at hg
  subst hg
  refine ⟨hM.ext.size, fun c hc hf => ?_⟩
  have := Chunk.lt (hM.ok c hc) _ hf
  omega
end

/-! ### Cutting -/
def cutAt (p : Option Addr) (c l s : Nat) : Option Addr := if c = l then p else p.map (·.add (l * s))
theorem cutAt_zero (p : Option Addr) (c s : Nat) : cutAt p c 0 s = p := by
  unfold cutAt; split
  · rfl
  · cases p <;> simp [Addr.add]

section
variable {P : Program} {σ : Env} {w : World} {X : Nat → Prop} {t e s by' n c : Nat} {p : Option Addr} {x lo hi mx : Operand} {k k' k'' : IntKind} {l h m : Int} {xs : List Value}
/-- x[:h:m] -/
theorem r_slice3 [TU P t (.slice e)] [TI P e s by'] (hx : ev σ x = some (.slice p n c)) (hh : ev σ hi = some (.int k h)) (hm : ev σ mx = some (.int k' m)) (h0 : 0 ≤ h) (h1 : h ≤ m) (h2 : m ≤ c) :
    V P σ (.slice t x none (some hi) (some mx)) (.slice p h.toNat m.toNat) w := by
  refine ⟨fun ρ ha o ho => ?_⟩
  have e1 : (h.toNat : Int) = h := Int.toNat_of_nonneg h0
  have e2 : (m.toNat : Int) = m := Int.toNat_of_nonneg (by omega)
  have hz := cutAt_zero p m.toNat s
  unfold cutAt at hz
  have hc : 0 ≤ m ∧ m ≤ (c : Int) := ⟨by omega, h2⟩
  have hd : 0 ≤ h ∧ h ≤ (m.toNat : Int) := ⟨h0, by omega⟩
  simp [execOp, ho, Instr.sliceAt, run_under' (t := t), Instr.slice, ha _ _ hx, ha _ _ hh, ha _ _ hm, Instr.sliceBounds, Instr.sliceBound, asIntOf, run_sizeOf' (t := e), h0, h1, h2, e2, show 0 ≤ m by omega]
  cases p <;> simp [Addr.add]
/-- x[:h] -/
theorem r_sliceTo [TU P t (.slice e)] [TI P e s by'] (hx : ev σ x = some (.slice p n c)) (hh : ev σ hi = some (.int k h)) (h0 : 0 ≤ h) (h2 : h ≤ c) :
    V P σ (.slice t x none (some hi) none) (.slice p h.toNat c) w := by
  refine ⟨fun ρ ha o ho => ?_⟩
  simp [execOp, ho, Instr.sliceAt, run_under' (t := t), Instr.slice, ha _ _ hx, ha _ _ hh, Instr.sliceBounds, Instr.sliceBound, asIntOf, run_sizeOf' (t := e), h0, h2]
  cases p <;> simp [Addr.add]
/-- x[l:] -/
theorem r_sliceFrom [TU P t (.slice e)] [TI P e s by'] (hx : ev σ x = some (.slice p n c)) (hl : ev σ lo = some (.int k l)) (h0 : 0 ≤ l) (h2 : l ≤ n) :
    V P σ (.slice t x (some lo) none none) (.slice (cutAt p c l.toNat s) (n - l.toNat) (c - l.toNat)) w := by
  refine ⟨fun ρ ha o ho => ?_⟩
  simp [execOp, ho, Instr.sliceAt, run_under' (t := t), Instr.slice, ha _ _ hx, ha _ _ hl, Instr.sliceBounds, Instr.sliceBound, asIntOf, run_sizeOf' (t := e), h0, h2, cutAt]
/-- x[l:h] -/
theorem r_sliceLH [TU P t (.slice e)] [TI P e s by'] (hx : ev σ x = some (.slice p n c)) (hl : ev σ lo = some (.int k l)) (hh : ev σ hi = some (.int k' h)) (h0 : 0 ≤ l) (h1 : l ≤ h) (h2 : h ≤ c) :
    V P σ (.slice t x (some lo) (some hi) none) (.slice (cutAt p c l.toNat s) (h.toNat - l.toNat) (c - l.toNat)) w := by
  refine ⟨fun ρ ha o ho => ?_⟩
  have e1 : (h.toNat : Int) = h := Int.toNat_of_nonneg (by omega)
  simp [execOp, ho, Instr.sliceAt, run_under' (t := t), Instr.slice, ha _ _ hx, ha _ _ hl, ha _ _ hh, Instr.sliceBounds, Instr.sliceBound, asIntOf, run_sizeOf' (t := e), h0, h1, h2, cutAt, e1, show 0 ≤ h by omega]
/-- a[:] of an array -/
theorem r_sliceArr {b o : Nat} {N : Nat} [TU P t (.array N e)] [TI P e s by'] (hx : ev σ x = some (.pointer (some ⟨b, o, none⟩))) :
    V P σ (.slice t x none none none) (.slice (some ⟨b, o, none⟩) N N) w := by
  refine ⟨fun ρ ha o' ho => ?_⟩
  simp [execOp, ho, Instr.sliceAt, run_under' (t := t), ha _ _ hx, Instr.sureAddr, Instr.sliceBounds, run_sizeOf' (t := e), Addr.add]

theorem SlC.cut (hs : SlC w X s (.slice p n c) n xs) {l h : Nat} (h1 : l ≤ h) (h2 : h ≤ n) : SlC w X s (.slice (cutAt p c l s) (h - l) (c - l)) (h - l) ((xs.drop (l * s)).take ((h - l) * s)) := by
  have hlen := hs.1
  have hmul : (h - l) * s + l * s = h * s := by rw [← Nat.add_mul]; congr 1; omega
  have hle : h * s ≤ n * s := Nat.mul_le_mul_right _ h2
  refine ⟨by simp; omega, ?_⟩
  rcases hs.2 with ⟨hv, rfl⟩ | ⟨g, o, c', cs, e', fz, hv, hg, hh, hc, hm, hr⟩
  · simp only [Value.slice.injEq] at hv
    obtain ⟨rfl, _, rfl⟩ := hv
    obtain rfl : h = 0 := by omega
    obtain rfl : l = 0 := by omega
    exact .inl ⟨by simp [cutAt], rfl⟩
  · simp only [Value.slice.injEq] at hv
    obtain ⟨rfl, _, rfl⟩ := hv
    by_cases hcl : c = l
    · refine .inr ⟨g, o, c - l, cs, e', fz, by simp [cutAt, hcl], hg, hh, by omega, by omega, fun i u hu => ?_⟩
      have : h - l = 0 := by omega
      rw [this] at hu; simp at hu
    · refine .inr ⟨g, o + l * s, c - l, cs, e', fz, by simp [cutAt, hcl, add_at], hg, hh, by omega, by omega, fun i u hu => ?_⟩
      rw [List.getElem?_take] at hu
      split at hu
      · rw [List.getElem?_drop] at hu
        rw [Nat.add_assoc]; exact hr _ _ hu
      · cases hu
end

/-! ### A slice of the values that stand there, or of one -/
theorem foldl_set (vs : List Value) : ∀ (off k : Nat) (cs : Array Value), off + k + vs.length ≤ cs.size →
    ((vs.zipIdx k).foldl (fun cs (c, j) => cs.setIfInBounds (off + j) c) cs).toList = cs.toList.take (off + k) ++ vs ++ cs.toList.drop (off + k + vs.length) := by
  induction vs with
  | nil => intro off k cs _; simp
  | cons v r ih =>
    intro off k cs h
    simp only [List.zipIdx_cons, List.foldl_cons]
    rw [ih off (k + 1) _ (by simp at h ⊢; omega)]
    have e := list_seg_step cs.toList (off + k) v r (by simp at h ⊢; omega)
    simpa [Array.toList_setIfInBounds, Nat.add_assoc] using e

theorem fill_all (s : Nat) (vs : List Value) (hs : ∀ v ∈ vs, v.cells.size = s) : ∀ (k : Nat) (cs : Array Value), cs.size = (k + vs.length) * s →
    ∃ r, Instr.fill (fun i => some (i * s, s)) cs (vs.zipIdx k |>.map fun (v, i) => (i, v)) = some r ∧ r.toList = cs.toList.take (k * s) ++ (vs.map (·.cells.toList)).flatten := by
  induction vs with
  | nil => intro k cs h; exact ⟨cs, by simp [Instr.fill], by simp at h; simp [← h, ← Array.length_toList]⟩
  | cons v r ih =>
    intro k cs h
    have hv : v.cells.size = s := hs v (by simp)
    have hks : k * s + s ≤ cs.size := by rw [h, ← Nat.succ_mul]; exact Nat.mul_le_mul_right _ (by simp)
    have hf := foldl_set v.cells.toList (k * s) 0 cs (by simp [hv]; omega)
    obtain ⟨r', h1, h2⟩ := ih (fun u hu => hs u (by simp [hu])) (k + 1) ((v.cells.zipIdx.foldl (fun cs (c, j) => cs.setIfInBounds (k * s + j) c) cs)) (by
      rw [← Array.length_toList, ← Array.foldl_toList, Array.toList_zipIdx, hf]
      have h3 : (k + 1 + r.length) * s = cs.size := by rw [h]; congr 1; simp; omega
      simp only [List.length_append, List.length_take, List.length_drop, Array.length_toList, hv, h3]
      omega)
    refine ⟨r', ?_, ?_⟩
    · simp only [List.zipIdx_cons, List.map_cons, Instr.fill]
      rw [if_neg (by simp [hv]; omega)]
      exact h1
    · rw [h2, ← Array.foldl_toList, Array.toList_zipIdx, hf]
      have e1 : (cs.toList.take (k * s + 0) ++ v.cells.toList).length = (k + 1) * s := by simp [hv, Nat.succ_mul]; omega
      rw [← e1, List.take_left]
      simp

theorem run_buildSlice {P : Program} {σ : Env} {w : World} {t e s by' len : Nat} {z : Value} {parts : Array (Nat × Operand)} {vs : List Value} [TU P t (.slice e)] [TI P e s by'] [TZ P e z] (hz : z.cells.size = s) (hs0 : 0 < s)
    (hi : parts.toList.map (·.1) = List.range len) (hv : evs σ (parts.toList.map (·.2)) = some vs) (hs : ∀ v ∈ vs, v.cells.size = s) (hb : len * s ≤ 16777216) :
    ∀ ρ, Ag ρ σ → (Instr.buildSlice t len (parts.map fun (i, x) => (i, ρ x))).run P w = .ok (.slice (some ⟨w.heap.size, 0, none⟩) len len) (w.alloc (.cells (vs.map (·.cells.toList)).flatten.toArray e)) := by
  intro ρ ha
  have hvs := evs_map hv ha
  have hlen : vs.length = len := by
    have h1 := congrArg List.length hvs
    have h2 := congrArg List.length hi
    simp at h1 h2; omega
  have hparts : (parts.map fun (i, x) => (i, ρ x)).toList = (vs.zipIdx 0).map fun (v, i) => (i, v) := by
    apply List.ext_getElem?
    intro j
    have h1 : (parts.toList.map (·.1))[j]? = (List.range len)[j]? := by rw [hi]
    have h2 : ((parts.toList.map (·.2)).map ρ)[j]? = vs[j]? := by rw [hvs]
    simp only [Array.toList_map, List.getElem?_map, List.getElem?_zipIdx] at *
    cases hp : parts.toList[j]? with
    | none => rw [hp] at h2; simp only [Option.map_none] at h2 ⊢; simp [← h2]
    | some q =>
      rw [hp] at h1 h2
      obtain ⟨a, b⟩ := q
      have hj : j < len := by
        rcases Nat.lt_or_ge j len with h | h
        · exact h
        · rw [List.getElem?_eq_none (by simpa using h)] at h1; simp at h1
      rw [List.getElem?_range hj] at h1
      simp at h1 h2
      simp [← h2, h1]
  have hnot : ¬ (16777216 < len * s) := by omega
  have hnot' : ¬ (len * s > 2 ^ 24) := by simpa using hnot
  have key : ∀ zc : Array Value, zc.size = len * s → Instr.fill (fun i => some (i * s, s)) zc (parts.map fun (i, x) => (i, ρ x)).toList = some (vs.map (·.cells.toList)).flatten.toArray := by
    intro zc hzc
    obtain ⟨r, h1, h2⟩ := fill_all s vs hs 0 zc (by rw [hzc, hlen]; simp)
    have hr : r = (vs.map (·.cells.toList)).flatten.toArray := by apply Array.ext'; simpa using h2
    rw [hparts, h1, hr]
  unfold Instr.buildSlice
  by_cases h0 : len * s = 0
  · have k0 := key ((Array.range (len * s)).map ((#[] : Array Value)[· % (#[] : Array Value).size]!)) (by simp)
    simp only [Sem.run_bind, run_under' (t := t), Result.andThen_ok, run_sizeOf' (t := e), if_neg hnot', Sem.run_pure, k0, if_pos h0, newRow, run_newObj, World.alloc_eq]
  · have k0 := key ((Array.range (len * s)).map (z.cells[· % z.cells.size]!)) (by simp)
    simp only [Sem.run_bind, run_under' (t := t), Result.andThen_ok, run_sizeOf' (t := e), if_neg hnot', Sem.run_pure, k0, if_neg h0, newRow, run_newObj, World.alloc_eq, run_zero' (t := e)]

def flat : List Value → Option (List Value)
  | [] => some []
  | [.agg cs] => some cs.toList
  | .agg cs :: r => match flat r with
    | none => none
    | some l => some (cs.toList ++ l)
  | v :: r => match flat r with
    | none => none
    | some l => some (v :: l)
theorem flat_eq : ∀ (vs xs : List Value), flat vs = some xs → (vs.map (·.cells.toList)).flatten = xs := by
  intro vs
  induction vs with
  | nil => intro xs h; simp only [flat, Option.some.injEq] at h; subst h; rfl
  | cons v r ih =>
    intro xs h
    cases r with
    | nil => cases v <;> simp [flat] at h <;> subst h <;> simp [Value.cells]
    | cons u t =>
      cases hr : flat (u :: t) with
      | none => cases v <;> simp [flat, hr] at h
      | some l =>
        have := ih _ hr
        simp only [List.map_cons, List.flatten_cons] at this ⊢
        rw [this]
        cases v <;> simp [flat, hr] at h <;> subst h <;> simp [Value.cells]
theorem ZL.bslice {P : Program} {n : Nat} {ops : Array Oper} {Q : Post} {rest : List Oper} {σ : Env} {w w0 : World} {X : Nat → Prop} {L : List Chunk} {d : Nat} {ty : TypeId} {pos : String} {after : Array Edge}
    {t e s by' len : Nat} {z : Value} {parts : Array (Nat × Operand)} {vs : List Value} {xs : List Value} [TU P t (.slice e)] [te : TE P e s by' z] (hM : Mem w0 X L w)
    (hi : parts.toList.map (·.1) = List.range len) (hv : evs σ (parts.toList.map (·.2)) = some vs) (hxs : flat vs = some xs) (hs : ∀ v ∈ vs, v.cells.size = s) (hb : len * s ≤ 16777216) (hd : Nat.blt d n = true)
    (h : ∀ g w', Mem w0 X (.own (.slice (some ⟨g, 0, none⟩) len len) e s len xs :: L) w' → ZL P n ops Q rest ((d, .slice (some ⟨g, 0, none⟩) len len) :: σ) w') :
    ZL P n ops Q (⟨some d, .buildSlice t len parts, ty, pos, after, none⟩ :: rest) σ w := by
  have hlen : vs.length = len := by
    have h2 := congrArg List.length hi
    have : ∀ (l : List Operand) (us : List Value), evs σ l = some us → us.length = l.length := by
      intro l
      induction l with
      | nil => intro us h; simp [evs] at h; simp [← h]
      | cons a r ih =>
        intro us h
        simp only [evs] at h
        cases ha : ev σ a with
        | none => simp [ha] at h
        | some v =>
          rw [ha] at h
          cases hr : evs σ r with
          | none => simp [hr] at h
          | some ws => simp [hr] at h; subst h; simp [ih _ hr]
    have := this _ _ hv
    simp at this h2; omega
  have hfl : ∀ (l : List Value), (∀ v ∈ l, v.cells.size = s) → ((l.map (·.cells.toList)).flatten).length = l.length * s := by
    intro l
    induction l with
    | nil => intro _; simp
    | cons a r ih => intro h; simp only [List.map_cons, List.flatten_cons, List.length_append, Array.length_toList, List.length_cons, Nat.succ_mul]; rw [ih (fun v hv => h v (by simp [hv])), h a (by simp)]; omega
  have hz := te.hz
  have hs0 := te.pos
  have i1 := te.ti
  have i2 := te.tz
  have hrb := run_buildSlice (P := P) (w := w) (t := t) (e := e) hz hs0 hi hv hs hb
  have hle : (vs.map (·.cells.toList)).flatten.length = len * s := by rw [hfl _ hs, hlen]
  rw [flat_eq _ _ hxs] at hrb hle
  refine ZL.buildSlice hM hrb hle ?_ hd h
  have : len ≤ len * s := Nat.le_mul_of_pos_right _ hs0
  simp only [maxLen]; omega
end Go.Proofs.YthcgmdmdgpljmaaDoor.Z
