/- Maps whose keys are a type of ours: what a map reads as, and look-up, store, delete, length. -/
import Derived.Test.YthcgmdmdgpljmaaDoorKey
set_option linter.unusedVariables false
set_option linter.unusedSimpArgs false
set_option linter.unusedSectionVars false
namespace Go.Proofs.YthcgmdmdgpljmaaDoor.Z
open Go Go.RowKit

section plain
variable {K U : Type} [DecidableEq K]
def mget (m : List (K × U)) (k : K) : Option U := (m.find? (fun p => decide (p.1 = k))).map (·.2)
def mput (m : List (K × U)) (k : K) (v : U) : List (K × U) := if (mget m k).isSome then m.map (fun p => if p.1 = k then (p.1, v) else p) else m ++ [(k, v)]
def mdel (m : List (K × U)) (k : K) : List (K × U) := m.filter (fun p => decide (p.1 ≠ k))
end plain

/-- Keys of type kt are written ke. -/
class KeyT (P : Program) (kt : TypeId) {K : Type} [DecidableEq K] (ke : K → Value) : Prop where
  eq : ∀ a b w, (Op.equal kt (ke a) (ke b)).run P w = .ok (decide (a = b)) w
  chk : ∀ e a w, (Instr.checkKey e 10000 kt (ke a)).run P w = .ok () w
  now : ∀ w, ∃ d, (underlying kt).run P w = .ok d w ∧ (∀ a b, Instr.sameNow d (ke a) (ke b) = none)
  bits : ∀ a, Instr.sameBits 10000 (ke a) (ke a) = true

/-- What a map's entries say. -/
structure MObj {K U : Type} (ke : K → Value) (ve : U → Value) (m : List (K × U)) (es : Array MapEntry) (clk : Nat) : Prop where
  kv : es.toList.map (fun e => (e.key, e.val)) = m.map (fun p => (ke p.1, ve p.2))
  nod : (m.map (·.1)).Nodup
  born : (es.toList.map (·.born)).Nodup
  lt : ∀ e ∈ es.toList, e.born < clk

section
variable {P : Program} {σ : Env} {w : World} {K U : Type} [DecidableEq K] {ke : K → Value} {ve : U → Value} {m : List (K × U)} {es : Array MapEntry} {clk : Nat} {kt : TypeId}

theorem MObj.empty (ke : K → Value) (ve : U → Value) : MObj ke ve [] #[] 0 := ⟨rfl, by simp, by simp, by simp⟩
theorem MObj.size (h : MObj ke ve m es clk) : es.size = m.length := by have := congrArg List.length h.kv; simpa using this

/-- Where a key stands. -/
def idxOf (m : List (K × U)) (k : K) (i : Nat) : Option (Nat × U) := match m with
  | [] => none
  | p :: r => if p.1 = k then some (i, p.2) else idxOf r k (i + 1)
theorem idxOf_get (m : List (K × U)) (k : K) : ∀ i, (idxOf m k i).map (·.2) = mget m k := by
  induction m with
  | nil => intro i; simp [idxOf, mget]
  | cons p r ih =>
    intro i
    simp only [idxOf, mget, List.find?_cons]
    by_cases h : p.1 = k
    · simp [h]
    · simp [h]; rw [ih]; rfl

theorem run_findAsking [kk : KeyT P kt ke] (k : K) : ∀ (m : List (K × U)) (l : List MapEntry) (i : Nat), l.map (fun e => (e.key, e.val)) = m.map (fun p => (ke p.1, ve p.2)) →
    (Instr.findAsking kt (ke k) l i).run P w = .ok ((idxOf m k i).map fun x => (x.1, ve x.2)) w := by
  intro m
  induction m with
  | nil => intro l i h; simp at h; subst h; simp [Instr.findAsking, idxOf]
  | cons p r ih =>
    intro l i h
    cases l with
    | nil => simp at h
    | cons e t =>
      simp only [List.map_cons, List.cons.injEq, Prod.mk.injEq] at h
      obtain ⟨⟨h1, h2⟩, h3⟩ := h
      simp only [Instr.findAsking, Sem.run_bind, h1, kk.eq, Result.andThen_ok, idxOf, Sem.run_ite, decide_eq_true_eq]
      by_cases hk : k = p.1
      · rw [if_pos hk, if_pos hk.symm]; simp [h2]
      · rw [if_neg hk, if_neg (Ne.symm hk)]; exact ih t (i + 1) h3

theorem run_findKey [kk : KeyT P kt ke] (h : MObj ke ve m es clk) (k : K) : (Instr.findKey kt (ke k) es.toList).run P w = .ok ((idxOf m k 0).map fun x => (x.1, ve x.2)) w := by
  obtain ⟨d, hd, hn⟩ := kk.now w
  have hkv := h.kv
  simp only [Instr.findKey, Sem.run_bind, hd, Result.andThen_ok]
  cases hl : es.toList with
  | nil =>
    rw [hl] at hkv
    cases m with
    | nil => simp [Instr.findNow, idxOf]
    | cons p r => simp at hkv
  | cons e t =>
    have hfn : Instr.findNow d (ke k) (e :: t) 0 = none := by
      rw [hl] at hkv
      cases m with
      | nil => simp at hkv
      | cons p r =>
        simp only [List.map_cons, List.cons.injEq, Prod.mk.injEq] at hkv
        simp [Instr.findNow, hkv.1.1, hn]
    rw [hfn, ← hl]
    exact run_findAsking k m _ 0 hkv

theorem run_getObj_map' {b : Nat} (hm : w.heap[b]? = some (.map es clk)) : (getObj b).run P w = .ok (.map es clk) w := by
  simp [getObj, Sem.run, hm]
theorem run_setObj_map' {b : Nat} {o : Obj} (hm : w.heap[b]? = some (.map es clk)) : (setObj b o).run P w = .ok () (World.putObj w b o) := by
  simp [setObj, Sem.run, hm, World.putObj]

/-- v, ok := m[k] -/
theorem r_lookup2 {t et : TypeId} {x y : Operand} {b : Nat} {k : K} {z : Value} [TU P t (.map kt et)] [TZ P et z] [kk : KeyT P kt ke] (hx : ev σ x = some (.map (some b))) (hy : ev σ y = some (ke k)) (hm : w.heap[b]? = some (.map es clk)) (h : MObj ke ve m es clk) :
    V P σ (.lookup t x y true) (.tuple #[((mget m k).map ve).getD z, .bool (mget m k).isSome]) w := by
  refine ⟨fun ρ ha o ho => ?_⟩
  have hf := run_findKey (P := P) (w := w) (kt := kt) h k
  rw [← idxOf_get m k 0]
  simp [execOp, ho, ha _ _ hx, ha _ _ hy, Instr.lookup, run_under' (t := t), run_getObj_map' hm, kk.chk, hf]
  cases idxOf m k 0 <;> simp [run_zero' (t := et)]
theorem r_lookup1 {t et : TypeId} {x y : Operand} {b : Nat} {k : K} {z : Value} [TU P t (.map kt et)] [TZ P et z] [kk : KeyT P kt ke] (hx : ev σ x = some (.map (some b))) (hy : ev σ y = some (ke k)) (hm : w.heap[b]? = some (.map es clk)) (h : MObj ke ve m es clk) :
    V P σ (.lookup t x y false) (((mget m k).map ve).getD z) w := by
  refine ⟨fun ρ ha o ho => ?_⟩
  have hf := run_findKey (P := P) (w := w) (kt := kt) h k
  rw [← idxOf_get m k 0]
  simp [execOp, ho, ha _ _ hx, ha _ _ hy, Instr.lookup, run_under' (t := t), run_getObj_map' hm, kk.chk, hf]
  cases idxOf m k 0 <;> simp [run_zero' (t := et)]

theorem idxOf_none {m : List (K × U)} {k : K} : ∀ {i}, idxOf m k i = none → ∀ p ∈ m, p.1 ≠ k := by
  induction m with
  | nil => intro i _ p hp; cases hp
  | cons q r ih =>
    intro i h p hp
    simp only [idxOf] at h
    split at h
    · cases h
    · rcases List.mem_cons.1 hp with rfl | hp
      · assumption
      · exact ih h p hp
theorem idxOf_some {m : List (K × U)} {k : K} {v : U} : ∀ {i j}, idxOf m k i = some (j, v) → i ≤ j ∧ m[j - i]? = some (k, v) := by
  induction m with
  | nil => intro i j h; simp [idxOf] at h
  | cons q r ih =>
    intro i j h
    simp only [idxOf] at h
    split at h
    · rename_i hq
      simp at h; obtain ⟨rfl, rfl⟩ := h; simp [← hq]
    · obtain ⟨h1, h2⟩ := ih h
      refine ⟨by omega, ?_⟩
      rw [show j - i = (j - (i + 1)) + 1 by omega]; simpa using h2

theorem map_set_at {m : List (K × U)} {k : K} {v u : U} (hn : (m.map (·.1)).Nodup) : ∀ {j : Nat}, m[j]? = some (k, u) → m.map (fun p => if p.1 = k then (p.1, v) else p) = m.set j (k, v) := by
  induction m with
  | nil => intro j h; simp at h
  | cons q r ih =>
    intro j h
    simp only [List.map_cons, List.nodup_cons] at hn
    cases j with
    | zero =>
      simp at h; subst h
      simp only [List.map_cons, if_true, List.set_cons_zero, List.cons.injEq, true_and]
      conv => rhs; rw [← List.map_id r]
      refine List.map_congr_left fun p hp => ?_
      rw [if_neg]; rfl
      intro e; exact hn.1 (List.mem_map.2 ⟨p, hp, e⟩)
    | succ j =>
      simp at h
      have hq : q.1 ≠ k := fun e => hn.1 (List.mem_map.2 ⟨(k, u), List.mem_of_getElem? h, e.symm⟩)
      simp only [List.map_cons, if_neg hq, List.set_cons_succ, List.cons.injEq, true_and]
      exact ih hn.2 h
theorem filter_erase_at {m : List (K × U)} {k : K} {u : U} (hn : (m.map (·.1)).Nodup) : ∀ {j : Nat}, m[j]? = some (k, u) → mdel m k = m.eraseIdx j := by
  induction m with
  | nil => intro j h; simp at h
  | cons q r ih =>
    intro j h
    simp only [List.map_cons, List.nodup_cons] at hn
    cases j with
    | zero =>
      simp at h; subst h
      simp only [mdel, List.filter_cons, ne_eq, not_true_eq_false, decide_false, Bool.false_eq_true, if_false, List.eraseIdx_zero, List.tail_cons]
      refine List.filter_eq_self.2 fun p hp => ?_
      simp only [decide_eq_true_eq]
      intro e; exact hn.1 (List.mem_map.2 ⟨p, hp, e⟩)
    | succ j =>
      simp at h
      have hq : q.1 ≠ k := fun e => hn.1 (List.mem_map.2 ⟨(k, u), List.mem_of_getElem? h, e.symm⟩)
      have := ih hn.2 h
      simp only [mdel, ne_eq, decide_not] at this ⊢
      simp [List.filter_cons, hq, this]

theorem map_eraseIdx {α β : Type} (f : α → β) : ∀ (l : List α) (i : Nat), (l.eraseIdx i).map f = (l.map f).eraseIdx i
  | [], _ => by simp
  | a :: r, 0 => by simp
  | a :: r, i + 1 => by simp [map_eraseIdx f r i]
/-- The world behind a store into a map. -/
theorem uw_mapUpdate {t et : TypeId} {x y u : Operand} {b : Nat} {k : K} {v : U} [TU P t (.map kt et)] [kk : KeyT P kt ke] (hx : ev σ x = some (.map (some b))) (hy : ev σ y = some (ke k)) (hu : ev σ u = some (ve v)) (hm : w.heap[b]? = some (.map es clk)) (h : MObj ke ve m es clk) :
    ∃ es' clk', UW P σ (.mapUpdate t x y u) w (World.putObj w b (.map es' clk')) ∧ MObj ke ve (mput m k v) es' clk' := by
  have hf := run_findKey (P := P) (w := w) (kt := kt) h k
  have hg := idxOf_get m k 0
  have hlen := h.size
  cases hi : idxOf m k 0 with
  | none =>
    rw [hi] at hf hg
    simp at hf hg
    refine ⟨es.push ⟨ke k, ve v, clk⟩, clk + 1, ⟨fun ρ ha o ho => ?_⟩, ?_⟩
    · simp [execOp, ho, ha _ _ hx, ha _ _ hy, ha _ _ hu, Instr.mapUpdate, run_under' (t := t), run_getObj_map' hm, kk.chk, hf, run_setObj_map' hm]
    · have hm' : mput m k v = m ++ [(k, v)] := by simp [mput, ← hg]
      rw [hm']
      refine ⟨by simp [h.kv], ?_, ?_, ?_⟩
      · simp only [List.map_append, List.map_cons, List.map_nil]
        refine List.nodup_append.2 ⟨h.nod, by simp, ?_⟩
        intro a ha c hc
        simp at hc; subst hc
        obtain ⟨p, hp, rfl⟩ := List.mem_map.1 ha
        exact idxOf_none hi p hp
      · simp only [Array.toList_push, List.map_append, List.map_cons, List.map_nil]
        refine List.nodup_append.2 ⟨h.born, by simp, ?_⟩
        intro a ha c hc
        simp at hc; subst hc
        obtain ⟨p, hp, rfl⟩ := List.mem_map.1 ha
        have := h.lt p hp; omega
      · intro e he
        simp at he
        rcases he with he | rfl
        · have := h.lt e (by simpa using he); omega
        · simp
  | some q =>
    obtain ⟨j, u'⟩ := q
    rw [hi] at hf hg
    simp at hf hg
    obtain ⟨_, hj⟩ := idxOf_some hi
    simp only [Nat.sub_zero] at hj
    have hjl : j < m.length := by
      rcases Nat.lt_or_ge j m.length with h | h
      · exact h
      · simp [List.getElem?_eq_none h] at hj
    have hkey : ((es[j]?).map (·.key)).getD (ke k) = ke k := by
      have := congrArg (fun l => l[j]?) h.kv
      simp only [List.getElem?_map, hj, Option.map_some, Array.getElem?_toList] at this
      cases he : es[j]? with
      | none => simp
      | some e => rw [he] at this; simp at this; simp [this.1]
    refine ⟨es.modify j fun e => { e with key := ke k, val := ve v }, clk, ⟨fun ρ ha o ho => ?_⟩, ?_⟩
    · simp [execOp, ho, ha _ _ hx, ha _ _ hy, ha _ _ hu, Instr.mapUpdate, run_under' (t := t), run_getObj_map' hm, kk.chk, hf, hkey, Instr.keyThatStays, kk.bits, run_setObj_map' hm]
    · have hm' : mput m k v = m.set j (k, v) := by
        simp only [mput, ← hg, Option.isSome_some, if_true]
        exact map_set_at h.nod hj
      rw [hm']
      have hborn : ((es.modify j fun e => { e with key := ke k, val := ve v }).toList.map (·.born)) = es.toList.map (·.born) := by
        apply List.ext_getElem?
        intro i
        simp only [List.getElem?_map, Array.getElem?_toList, Array.getElem?_modify]
        split
        · cases es[i]? <;> simp
        · rfl
      refine ⟨?_, ?_, ?_, ?_⟩
      · apply List.ext_getElem?
        intro i
        have hk := congrArg (fun l => l[i]?) h.kv
        simp only [List.getElem?_map, Array.getElem?_toList, Array.getElem?_modify, List.getElem?_set] at hk ⊢
        by_cases hij : j = i
        · subst hij
          have hes : j < es.size := by omega
          simp [hes, hjl]
        · simp only [hij, if_false]; exact hk
      · rw [List.map_set]
        have : (m.map (·.1)).set j k = m.map (·.1) := by
          apply List.ext_getElem?
          intro i
          rw [List.getElem?_set]
          split
          · rename_i e; subst e; have h9 := (List.getElem?_eq_some_iff.1 hj).2; simp [hjl, h9]
          · rfl
        rw [this]; exact h.nod
      · rw [hborn]; exact h.born
      · intro e he
        have : e.born ∈ es.toList.map (·.born) := by rw [← hborn]; exact List.mem_map.2 ⟨e, he, rfl⟩
        obtain ⟨e', he', h1⟩ := List.mem_map.1 this
        rw [← h1]; exact h.lt e' he'

theorem vw_delete {t et : TypeId} {x y : Operand} {ats : Array TypeId} {b : Nat} {k : K} [TU P t (.map kt et)] [kk : KeyT P kt ke] (hat : ats[0]? = some t) (hx : ev σ x = some (.map (some b))) (hy : ev σ y = some (ke k)) (hm : w.heap[b]? = some (.map es clk)) (h : MObj ke ve m es clk) :
    ∃ es', VW P σ (.call ⟨.builtin .delete, #[x, y], ats⟩) (.tuple #[]) w (World.putObj w b (.map es' clk)) ∧ MObj ke ve (mdel m k) es' clk := by
  have hf := run_findKey (P := P) (w := w) (kt := kt) h k
  have hlen := h.size
  cases hi : idxOf m k 0 with
  | none =>
    rw [hi] at hf
    simp at hf
    refine ⟨es, ⟨fun ρ ha o ho => exec_builtin ho fun cs => ?_⟩, ?_⟩
    · simp [ha _ _ hx, ha _ _ hy, builtin, Builtin.delete_, hat, run_under' (t := t), run_getObj_map' hm, kk.chk, hf, run_setObj_map' hm]
    · have : mdel m k = m := List.filter_eq_self.2 fun p hp => by simpa using idxOf_none hi p hp
      rw [this]; exact h
  | some q =>
    obtain ⟨j, u'⟩ := q
    rw [hi] at hf
    simp at hf
    obtain ⟨_, hj⟩ := idxOf_some hi
    simp only [Nat.sub_zero] at hj
    refine ⟨es.eraseIdxIfInBounds j, ⟨fun ρ ha o ho => exec_builtin ho fun cs => ?_⟩, ?_⟩
    · simp [ha _ _ hx, ha _ _ hy, builtin, Builtin.delete_, hat, run_under' (t := t), run_getObj_map' hm, kk.chk, hf, run_setObj_map' hm]
    · rw [filter_erase_at h.nod hj]
      have hl : (es.eraseIdxIfInBounds j).toList = es.toList.eraseIdx j := by simp
      refine ⟨?_, ?_, ?_, ?_⟩
      · rw [hl, map_eraseIdx, h.kv, map_eraseIdx]
      · rw [map_eraseIdx]; exact h.nod.sublist (List.eraseIdx_sublist _ _)
      · rw [hl, map_eraseIdx]; exact h.born.sublist (List.eraseIdx_sublist _ _)
      · rw [hl]; exact fun e he => h.lt e (List.mem_of_mem_eraseIdx he)
end

/-! ### Points as keys -/
theorem run_forIn_unit {P : Program} {w : World} (f : Nat → Sem Unit) : ∀ (l : List Nat), (∀ i ∈ l, (f i).run P w = .ok () w) →
    (forIn (m := Sem) l PUnit.unit (fun i (_ : PUnit) => do f i; pure (ForInStep.yield PUnit.unit))).run P w = .ok PUnit.unit w
  | [], _ => by simp
  | i :: r, h => by
    have h1 := h i (by simp)
    have ih := run_forIn_unit f r (fun j hj => h j (by simp [hj]))
    simp only [List.forIn_cons, Sem.run_bind, h1, Result.andThen_ok, Sem.run_pure, ih]

section
variable {P : Program} {w : World}
theorem chk_int {t : TypeId} {k k' : IntKind} {a : Int} [TU P t (.int k)] (e : Bool) (d : Nat) : (Instr.checkKey e (d + 1) t (.int k' a)).run P w = .ok () w := by
  simp [Instr.checkKey, run_under' (t := t)]
theorem chk_b32 {t te : TypeId} [TU P t (.array 32 te)] [TU P te (.int .u8)] [TI P te 1 1] [TS P te] (e : Bool) (x : B32) (d : Nat) : (Instr.checkKey e (d + 1 + 1) t x.v).run P w = .ok () w := by
  have step : ∀ i ∈ List.range' 0 32 1, ((do
      let s ← sizeOf te
      let a ← part te x.cells.toArray (i * s)
      Instr.checkKey e (d + 1) te a : Sem Unit)).run P w = .ok () w := by
    intro i hi
    have hi' : i < 32 := by simp at hi; omega
    have hc : x.cells.toArray[i * 1]? = some (u8 (x.val.getD i 0)) := by
      simp [B32.cells, List.getD, x.property, hi']
    simp only [Sem.run_bind, run_sizeOf' (t := te), run_part1 (t := te) hc, Result.andThen_ok]
    exact chk_int e d
  have hall := run_forIn_unit _ _ step
  simp only [bind_assoc] at hall
  rw [B32.v, Instr.checkKey]
  simp only [Sem.run_bind, run_under' (t := t), Result.andThen_ok, run_sizeOf' (t := te)]
  simp only [Std.Legacy.Range.forIn_eq_forIn_range', Std.Legacy.Range.size, Nat.sub_zero, Nat.add_sub_cancel, Nat.div_one, bind_assoc]
  have e2 : (PUnit.unit : PUnit) = () := rfl
  rw [hall]
  rfl
theorem chk_pt {t ti tv te : TypeId} [pt : PtT P t ti tv te] (e : Bool) (p : Pt) (d : Nat) : (Instr.checkKey e (d + 1 + 1 + 1) t p.v).run P w = .ok () w := by
  have := pt.a1; have := pt.a2; have := pt.a3; have := pt.a4; have := pt.a5; have := pt.a6; have := pt.a7; have := pt.a8
  have e1 := run_partN (P := P) (w := w) (t := ti) p.id_extract
  have e3 := run_part1 (P := P) (w := w) (t := tv) p.vout_at
  have e5 : (Instr.checkKey e (d + 1 + 1) ti (.agg p.id.cells.toArray)).run P w = .ok () w := chk_b32 e p.id d
  have e6 : (Instr.checkKey e (d + 1 + 1) tv (u32 p.vout)).run P w = .ok () w := chk_int e (d + 1)
  have hne : "Vout" ≠ "_" := by decide
  have hne' : "ID" ≠ "_" := by decide
  unfold Pt.v
  rw [Instr.checkKey]
  simp only [Sem.run_bind, run_underlying pt.hf, Result.andThen_ok]
  rw [← Array.forIn_toList, pt.hl]
  simp only [List.forIn_cons, List.forIn_nil, Sem.run_bind, Sem.run_ite, if_pos hne, if_pos hne', e1, e3, e5, e6, Result.andThen_ok, Sem.run_pure]

theorem bits_ints (d : Nat) : ∀ (l : List Value), (∀ v ∈ l, ∃ k n, v = .int k n) → ((l.zip l).all fun (x, y) => Instr.sameBits d x y) = true := by
  intro l
  induction l with
  | nil => intro _; rfl
  | cons a r ih =>
    intro h
    obtain ⟨k, n, rfl⟩ := h a (by simp)
    simp only [List.zip_cons_cons, List.all_cons, ih (fun v hv => h v (by simp [hv])), Bool.and_true]
    cases d <;> simp [Instr.sameBits]
theorem bits_agg (d : Nat) (l : List Value) (h : ∀ v ∈ l, ∃ k n, v = .int k n) : Instr.sameBits (d + 1) (.agg l.toArray) (.agg l.toArray) = true := by
  simp only [Instr.sameBits, beq_self_eq_true, Bool.true_and]
  exact bits_ints d l h
theorem u8_ints (l : List UInt8) : ∀ v ∈ l.map u8, ∃ k n, v = Value.int k n := by
  intro v hv; obtain ⟨b, _, rfl⟩ := List.mem_map.1 hv; exact ⟨_, _, rfl⟩
theorem Pt.ints (p : Pt) : ∀ v ∈ p.cells, ∃ k n, v = Value.int k n := by
  intro v hv
  rcases List.mem_append.1 hv with h | h
  · exact u8_ints _ v h
  · simp at h; subst h; exact ⟨_, _, rfl⟩

instance {t ti tv te : TypeId} [pt : PtT P t ti tv te] : KeyT P t Pt.v where
  eq a b w := run_equal_pt (P := P) (t := t) (w := w) a b 9997
  chk e a w := chk_pt (P := P) (t := t) e a 9997
  now w := ⟨_, run_underlying pt.hf w, fun _ _ => rfl⟩
  bits a := bits_agg 9999 _ a.ints
end
end Go.Proofs.YthcgmdmdgpljmaaDoor.Z
