/- A range over a map: each entry once, in some order. -/
import Derived.Test.YthcgmdmdgpljmaaDoorIn
set_option linter.unusedVariables false
set_option linter.unusedSimpArgs false
set_option linter.unusedSectionVars false
namespace Go.Proofs.YthcgmdmdgpljmaaDoor.Z
open Go Go.RowKit

section
variable {P : Program} {σ : Env} {w : World} {K U : Type} [DecidableEq K] {ke : K → Value} {ve : U → Value} {m : List (K × U)} {es : Array MapEntry} {clk : Nat}

theorem vw_range {t kt et : TypeId} {x : Operand} {b : Nat} [TU P t (.map kt et)] (hx : ev σ x = some (.map (some b))) (hm : w.heap[b]? = some (.map es clk)) :
    VW P σ (.range t x) (.pointer (some ⟨w.heap.size, 0, none⟩)) w (w.alloc (.mapIter (some b) clk #[] clk)) := by
  refine ⟨fun ρ ha o ho => ?_⟩
  simp [execOp, ho, ha _ _ hx, Instr.range, run_under' (t := t), run_getObj_map' hm, newObj, Sem.run]

/-- What has come, and what is left. -/
structure Came (es : Array MapEntry) (clk : Nat) (pe : List MapEntry) : Prop where
  sub : ∀ e ∈ pe, e ∈ es.toList
  nod : (pe.map (·.born)).Nodup
  lt : ∀ e ∈ es.toList, e.born < clk
  born : (es.toList.map (·.born)).Nodup

theorem vw_next {x : Operand} {b r : Nat} {pe : List MapEntry} (hC : Came es clk pe) (hx : ev σ x = some (.pointer (some ⟨r, 0, none⟩))) (hr : w.heap[r]? = some (.mapIter (some b) clk (pe.map (·.born)).toArray clk)) (hm : w.heap[b]? = some (.map es clk)) :
    (VW P σ (.next x false) (.tuple #[.bool false]) w w ∧ ∀ e ∈ es.toList, e.born ∈ pe.map (·.born)) ∨
    ∃ e w', e ∈ es.toList ∧ e.born ∉ pe.map (·.born) ∧ VW P σ (.next x false) (.tuple #[.bool true, e.key, e.val]) w w' ∧ w.grownBy w' (some r) ∧ w'.heap.size = w.heap.size ∧ w'.heap[r]? = some (.mapIter (some b) clk ((pe ++ [e]).map (·.born)).toArray clk) := by
  have hg : (getObj r).run P w = .ok (.mapIter (some b) clk (pe.map (·.born)).toArray clk) w := by simp [getObj, Sem.run, hr]
  have hlt : ∀ i (h : i < es.size), es[i].born < clk := fun i h => hC.lt _ (by simp)
  have h1 : (!(pe.map (·.born)).toArray.isEmpty && !es.isEmpty && es.all (fun e => decide (e.born ≥ clk))) = false := by
    cases hz : es.isEmpty with
    | true => simp
    | false =>
      have h0 : 0 < es.size := by
        rcases Nat.eq_zero_or_pos es.size with h | h
        · simp [Array.isEmpty, h] at hz
        · exact h
      have : es.all (fun e => decide (e.born ≥ clk)) = false := by
        rw [Array.all_eq_false]
        exact ⟨0, h0, by have := hlt 0 h0; simp; omega⟩
      rw [this]; simp
  obtain ⟨left, hleft⟩ : ∃ left, es.filter (fun e => !(pe.map (·.born)).toArray.contains e.born) = left := ⟨_, rfl⟩
  have hold : left.filter (fun e => decide (e.born < clk)) = left := by
    rw [Array.filter_eq_self]
    intro e he
    rw [← hleft] at he
    have := (Array.mem_filter.1 he).1
    simpa using hC.lt e (by simpa using this)
  have hnew : left.filter (fun e => decide (e.born ≥ clk)) = #[] := by
    rw [Array.filter_eq_empty_iff]
    intro e he
    rw [← hleft] at he
    have := (Array.mem_filter.1 he).1
    have := hC.lt e (by simpa using this)
    simp; omega
  have hall : ∀ e ∈ left, e ∈ es ∧ (!(pe.map (·.born)).toArray.contains e.born) = true := fun e he => by
    rw [← hleft] at he
    exact Array.mem_filter.1 he
  have hrlt := (Array.getElem?_eq_some_iff.1 hr).1
  by_cases hz : left = #[]
  · refine .inl ⟨⟨fun ρ ha o ho => ?_⟩, fun e he => ?_⟩
    · simp only [execOp, ho, ha _ _ hx, Instr.next, Sem.run_bind, hg, run_getObj_map' hm, Result.andThen_ok, h1, hleft, hold, hnew]
      subst hz
      simp [Question.forced]
    · have : e ∉ left := by rw [hz]; simp
      rw [← hleft] at this
      have h2 : ¬ (e ∈ es ∧ (!(pe.map (·.born)).toArray.contains e.born) = true) := fun h => this (Array.mem_filter.2 h)
      have h3 : e ∈ es := by simpa using he
      by_cases h4 : e.born ∈ pe.map (·.born)
      · exact h4
      · exact absurd ⟨h3, by simpa using h4⟩ h2
  · have hsz : 0 < left.size := by
      rcases Nat.eq_zero_or_pos left.size with h | h
      · exact absurd (Array.eq_empty_of_size_eq_zero h) hz
      · exact h
    have hne : left.isEmpty = false := by simp [Array.isEmpty]; omega
    have fin : ∀ (i : Nat) (w1 : World) (hi : i < left.size), w1.heap = w.heap → w1.os = w.os → w1.tape = w.tape → w1.output = w.output →
        ((choose (.mapNext left.size)).run P w = .ok i w1) → ∃ e w', e ∈ es.toList ∧ e.born ∉ pe.map (·.born) ∧ VW P σ (.next x false) (.tuple #[.bool true, e.key, e.val]) w w' ∧ w.grownBy w' (some r) ∧ w'.heap.size = w.heap.size ∧ w'.heap[r]? = some (.mapIter (some b) clk ((pe ++ [e]).map (·.born)).toArray clk) := by
      intro i w1 hi hh h2 h3 h4 hch
      have he : left[i] ∈ left := by simp
      obtain ⟨hm1, hm2⟩ := hall _ he
      refine ⟨left[i], World.putObj w1 r (.mapIter (some b) clk ((pe.map (·.born)).toArray.push left[i].born) clk), by simpa using hm1, by simpa using hm2, ⟨fun ρ ha o ho => ?_⟩, ⟨h2, h3, h4, by simp [World.putObj, hh], fun k hk hkr => ?_⟩, by simp [World.putObj, hh], ?_⟩
      · have hso : (setObj r (.mapIter (some b) clk ((pe.map (·.born)).toArray.push left[i].born) clk)).run P w1 = .ok () (World.putObj w1 r (.mapIter (some b) clk ((pe.map (·.born)).toArray.push left[i].born) clk)) := by
          simp [setObj, Sem.run, World.putObj, hh, hr]
        simp only [execOp, ho, ha _ _ hx, Instr.next, Sem.run_bind, hg, run_getObj_map' hm, Result.andThen_ok, h1, hleft, hold, hnew, hne]
        simp only [Bool.false_eq_true, if_false, Array.append_empty, Array.empty_append, Array.size_map, Sem.run_bind, Sem.run_pure, Result.andThen_ok, hch, Array.getElem?_map, Array.getElem?_eq_getElem hi, Option.map_some, hso]
      · have : k ≠ r := fun e => hkr (by rw [e])
        simp [World.putObj, hh, Array.getElem?_setIfInBounds_ne (Ne.symm this)]
      · simp [World.putObj, hh, hrlt]
    by_cases hf : left.size ≤ 1
    · refine .inr (fin 0 w hsz rfl rfl rfl rfl ?_)
      simp [Question.forced, hf]
    · refine .inr (fin ((Question.mapNext left.size).cut (w.tape w.drawn (.mapNext left.size))) w.drew (Nat.mod_lt _ hsz) rfl rfl rfl rfl ?_)
      simp [Question.forced, hf]
theorem r_entry {x : Operand} {b r : Nat} {pe : List MapEntry} {e : MapEntry} (hC : Came es clk (pe ++ [e])) (hx : ev σ x = some (.pointer (some ⟨r, 0, none⟩))) (hr : w.heap[r]? = some (.mapIter (some b) clk ((pe ++ [e]).map (·.born)).toArray clk)) (hm : w.heap[b]? = some (.map es clk)) :
    V P σ (.entry x) (.tuple #[e.key, e.val]) w := by
  refine ⟨fun ρ ha o ho => ?_⟩
  have hf : es.find? (fun x => x.born == e.born) = some e := by
    have he := hC.sub e (by simp)
    rw [← Array.find?_toList]
    have : ∀ (l : List MapEntry), (l.map (·.born)).Nodup → e ∈ l → l.find? (fun x => x.born == e.born) = some e := by
      intro l
      induction l with
      | nil => intro _ h; cases h
      | cons a t ih =>
        intro hn hm
        rw [List.find?_cons]
        by_cases hb : a.born = e.born
        · rcases List.mem_cons.1 hm with rfl | hm
          · simp
          · have := (List.nodup_cons.1 hn).1
            exact absurd (List.mem_map_of_mem (f := (·.born)) hm) (by rw [← hb]; exact this)
        · have : (a.born == e.born) = false := by simpa using hb
          rw [this]
          rcases List.mem_cons.1 hm with rfl | hm
          · exact absurd rfl hb
          · exact ih (List.nodup_cons.1 hn).2 hm
    exact this _ hC.born he
  have hg : (getObj r).run P w = .ok (.mapIter (some b) clk ((pe ++ [e]).map (·.born)).toArray clk) w := by simp [getObj, Sem.run, hr]
  have hback : ((pe ++ [e]).map (·.born)).toArray.back? = some e.born := by simp
  simp [execOp, ho, ha _ _ hx, Instr.entry, hg, run_getObj_map' hm, hf]
end
end Go.Proofs.YthcgmdmdgpljmaaDoor.Z
