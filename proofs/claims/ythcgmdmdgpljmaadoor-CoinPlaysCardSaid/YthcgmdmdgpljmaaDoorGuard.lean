/- A region that draws: operations that a guard lets through; a call and an own cell's laying, in either order. -/
import Derived.Test.YthcgmdmdgpljmaaDoorMake
set_option linter.unusedVariables false
set_option linter.unusedSimpArgs false
set_option linter.unusedSectionVars false
namespace Go.Proofs.YthcgmdmdgpljmaaDoor.Z
open Go Go.RowKit

section
variable {P : Program} {n : Nat} {ops : Array Oper} {Q : Post} {S : World → Prop} {k g fuel : Nat} {l2 : List Oper} {listed listed' : Array Bool} {σ : Env} {w : World}
theorem ZT.takeOn (i : Nat) {d : Nat} {op : Op} {ty : TypeId} {pos : String} {after : Array Edge} {j gs : Nat} {want b : Bool} {v : Value} {fuel' : Nat} (hf1 : fuel = fuel' + 1)
    (hi : ops[i]? = some ⟨some d, op, ty, pos, after, some (j, want)⟩) (hg : ((ops[j]?).bind (·.dst)) = some gs) (hb : lk σ gs = some (.bool b)) (hne : (b == want) = true) (hy : ∀ w', S w' → V P σ op v w') (hB : tailB ops k = true) (hik : Nat.blt i k = true) (hf : Region.free .any ops listed i = true)
    (hr : (Region.ready .any ops listed).contains i = true) (hl : listed.setIfInBounds i true = listed') (hd : Nat.blt d n = true) (hQ : ∀ c a a' w, Q (.panic c) a w → Q (.panic c) a' w) (hS : S w)
    (h : ZT P n ops Q S k g l2 fuel' listed' ((d, v) :: σ) w) : ZT P n ops Q S k g l2 fuel listed σ w := by
  subst hl; subst hf1
  simp only [tailB, Bool.and_eq_true] at hB
  obtain ⟨⟨⟨hsel, hn⟩, hs⟩, hc⟩ := hB
  have hik' : i < k := by simpa [Nat.blt_eq] using hik
  have hr' : i ∈ Region.ready .any ops listed := by simpa using hr
  refine ⟨fun a ha inv => ?_⟩
  have hyd : yielded ops a.tmps j = some b := by simp [yielded, hg, ha.at' gs _ hb]
  have hwant : Region.wanted ⟨some d, op, ty, pos, after, some (j, want)⟩ (yielded ops a.tmps) = true := by simp [Region.wanted, hyd]; simpa using hne
  exact wpAnyT_first hi (Region.noSelect_spec hsel) hs hc (by simpa [Nat.blt_eq] using hn) hik' (fun c a w hq => hQ c _ _ w hq) (fun listed a w hL => seqB_ready hL.1) fuel' listed a w inv (Region.free_spec hi hf) hr'
    (.inl ⟨hwant, fun w' hw' => (hy w' hw').h a.eval ha.ag _ rfl⟩) hS (h.h _ (ha.put hd) (inv.set hr' hik'))
theorem ZT.takeOff (i : Nat) {d : Nat} {op : Op} {ty : TypeId} {pos : String} {after : Array Edge} {j gs : Nat} {want b : Bool} {fuel' : Nat} (hf1 : fuel = fuel' + 1)
    (hi : ops[i]? = some ⟨some d, op, ty, pos, after, some (j, want)⟩) (hg : ((ops[j]?).bind (·.dst)) = some gs) (hb : lk σ gs = some (.bool b)) (hne : (b == want) = false) (hB : tailB ops k = true) (hik : Nat.blt i k = true) (hf : Region.free .any ops listed i = true)
    (hr : (Region.ready .any ops listed).contains i = true) (hl : listed.setIfInBounds i true = listed') (hd : Nat.blt d n = true) (hQ : ∀ c a a' w, Q (.panic c) a w → Q (.panic c) a' w) (hS : S w)
    (h : ZT P n ops Q S k g l2 fuel' listed' ((d, undef) :: σ) w) : ZT P n ops Q S k g l2 fuel listed σ w := by
  subst hl; subst hf1
  simp only [tailB, Bool.and_eq_true] at hB
  obtain ⟨⟨⟨hsel, hn⟩, hs⟩, hc⟩ := hB
  have hik' : i < k := by simpa [Nat.blt_eq] using hik
  have hr' : i ∈ Region.ready .any ops listed := by simpa using hr
  refine ⟨fun a ha inv => ?_⟩
  have hyd : yielded ops a.tmps j = some b := by simp [yielded, hg, ha.at' gs _ hb]
  have hwant : Region.wanted ⟨some d, op, ty, pos, after, some (j, want)⟩ (yielded ops a.tmps) = false := by simp [Region.wanted, hyd, hne]
  exact wpAnyT_first hi (Region.noSelect_spec hsel) hs hc (by simpa [Nat.blt_eq] using hn) hik' (fun c a w hq => hQ c _ _ w hq) (fun listed a w hL => seqB_ready hL.1) fuel' listed a w inv (Region.free_spec hi hf) hr'
    (.inr ⟨hwant, rfl⟩) hS (h.h _ (ha.put hd) (inv.set hr' hik'))
end

section
variable {P : Program} {n : Nat} {ops : Array Oper} {Q : Post} {σ : Env} {w w0 : World} {X : Nat → Prop} {L : List Chunk} {fuel : Nat}
variable {i j di dj : Nat} {opi opj : Op} {ti tj : TypeId} {pi pj : String} {ei ej : Array Edge} {listed li lj lij : Array Bool}
theorem Ext.allocU (w : World) (o : Obj) : Ext w (w.alloc o) := have h := Upd.alloc w o; ⟨h.os, h.tape, h.output, h.size, fun k hk _ => h.other k (Nat.ne_of_lt hk)⟩
/-- A call that makes things anew, and an own cell that is laid, in either order. -/
theorem ZA.callAlloc (i j : Nat) {f : FuncId} {args : Array Value} {t : TypeId} {z : Value} {zs : Array Value} {R : (Nat → Prop) → Value → World → Prop} (hr : Region.ready .any ops listed = [i, j]) (hri : Region.ready .any ops li = [j]) (hrj : Region.ready .any ops lj = [i])
    (hi : ops[i]? = some ⟨some di, opi, ti, pi, ei, none⟩) (hj : ops[j]? = some ⟨some dj, .alloc t, tj, pj, ej, none⟩)
    (hli : listed.setIfInBounds i true = li) (hlj : listed.setIfInBounds j true = lj) (hlij : li.setIfInBounds j true = lij) (hlji : lj.setIfInBounds i true = lij)
    (hdi : Nat.blt di n = true) (hdj : Nat.blt dj n = true) (hni : lk σ di = none) (hnj : lk σ dj = none) (hne : Nat.beq di dj = false)
    (hv : ∀ w, EN P σ opi f args w) (hc : ∀ w, MemS w0 X L w → Ret P f args w (fun v w' => Ext w w' ∧ R (· < w.heap.size) v w')) (hR : ∀ {w w' X X' v}, R X v w → Mv w X w' X' → R X' v w')
    [TZ P t z] (hz : vcells z = some zs) (hM : Mem w0 X L w)
    (h : ∀ v b w', Ext w w' → w.heap.size ≤ b → Mem w0 X (.blk b (.cells zs t) :: L) w' → R (fun g => g < w.heap.size ∨ fpIn (.blk b (.cells zs t) :: L) g) v w' → ZA P n ops Q (MemS w0 X L) fuel lij ((dj, .pointer (some ⟨b, 0, none⟩)) :: (di, v) :: σ) w') : ZA P n ops Q (MemS w0 X L) (fuel + 2) listed σ w := by
  have hne' : di ≠ dj := fun e => by subst e; simp at hne
  refine ⟨fun a ha => wpAnyH_all hr (by simp) fun q hq => ?_⟩
  simp only [List.mem_cons, List.not_mem_nil, or_false] at hq
  rcases hq with rfl | rfl
  · refine wpOp_turn hi rfl ?_
    unfold Oper.wp
    rw [(hv w).h a.eval ha.ag _ rfl]
    refine Calls.mono (hc w (MemS.of hM)).h ?_
    rintro e w1 ⟨v, rfl, hE, hRv⟩
    have hM1 := hM.ext' hE
    refine ⟨MemS.of hM1, ?_⟩
    rw [hli]
    refine wpAnyH_all hri (by simp) fun r hr => ?_
    simp only [List.mem_singleton] at hr; subst hr
    refine wpOp_turn hj rfl ?_
    unfold Oper.wp
    rw [(vw_alloc (P := P) (σ := σ) (w := w1) (t := t) (z := z)).h _ (ha.put' hdi hni (v := v)).ag _ rfl]
    have hp := hM1.push (Upd.alloc w1 (.cells z.cells t)) rfl
    rw [vcells_eq hz] at hp
    rw [vcells_eq hz]
    refine ⟨⟨[_], hp⟩, ?_⟩
    rw [hlij]
    refine (h v _ _ (ExtX.trans hE (Ext.allocU w1 (.cells zs t)) (fun _ h => h) (fun _ _ h => h)) hE.size hp (hR hRv ⟨fun b hb _ => (Upd.alloc w1 (.cells zs t)).other b (by omega), fun b hb hf => ?_, ?_⟩)).h _ ((ha.put hdi).put hdj)
    · rcases hf with hf | hf
      · exact hf
      obtain ⟨c, hc', hg⟩ := hf
      rcases List.mem_cons.1 hc' with rfl | hc'
      · simp only [Chunk.fp, Option.some.injEq] at hg; omega
      · exact Chunk.lt (hM.ok c hc') b hg
    · exact (Upd.alloc w1 (.cells zs t)).extX.size
  · refine wpOp_turn hj rfl ?_
    unfold Oper.wp
    rw [(vw_alloc (P := P) (σ := σ) (w := w) (t := t) (z := z)).h a.eval ha.ag _ rfl]
    have hp := hM.push (Upd.alloc w (.cells z.cells t)) rfl
    rw [vcells_eq hz] at hp
    rw [vcells_eq hz]
    refine ⟨⟨[_], hp⟩, ?_⟩
    rw [hlj]
    refine wpAnyH_all hrj (by simp) fun r hr => ?_
    simp only [List.mem_singleton] at hr; subst hr
    refine wpOp_turn hi rfl ?_
    unfold Oper.wp
    rw [(hv _).h _ (ha.put' hdj hnj (v := .pointer (some ⟨w.heap.size, 0, none⟩))).ag _ rfl]
    refine Calls.mono (hc _ ⟨[_], hp⟩).h ?_
    rintro e w2 ⟨v, rfl, hE, hRv⟩
    have hM2 := hp.ext' hE
    refine ⟨⟨[_], hM2⟩, ?_⟩
    rw [hlji]
    have e : (a.put (some dj) (.pointer (some ⟨w.heap.size, 0, none⟩))).put (some di) v = (a.put (some di) v).put (some dj) (.pointer (some ⟨w.heap.size, 0, none⟩)) := by
      simp only [Act.put]
      rw [Array.setIfInBounds_comm _ _ (Ne.symm hne')]
    show wpAnyH P .any ops Q (MemS w0 X L) fuel lij ((a.put (some dj) (.pointer (some ⟨w.heap.size, 0, none⟩))).put (some di) v) w2
    rw [e]
    refine (h v _ w2 (ExtX.trans (Ext.allocU w (.cells zs t)) hE (fun _ h => h) (fun _ _ h => h)) (Nat.le_refl _) hM2 (hR hRv (Mv.mono fun g _ hg => ?_))).h _ ((ha.put hdi).put hdj)
    have hsz : w.heap.size < (w.alloc (.cells zs t)).heap.size := Chunk.lt (hp.ok _ (List.mem_cons_self ..)) _ rfl
    rcases hg with hg | ⟨c, hc', hg⟩
    · exact Nat.lt_trans hg hsz
    · exact Chunk.lt (hp.ok c hc') g hg

theorem Mv.pushed {w w' w0 w1 : World} {X : Nat → Prop} {L : List Chunk} {b : Nat} {o : Obj} (hM : Mem w1 X (.blk b o :: L) w') (hE : Ext w w') (hb : w.heap.size ≤ b) : Mv w (Out w0 L) w' (Out w0 (.blk b o :: L)) :=
  ⟨fun k hk _ => hE.keep k hk id, fun k hk hx => by
    rcases hx with hx | ⟨c, hc, hg⟩
    · exact .inl hx
    · rcases List.mem_cons.1 hc with rfl | hc
      · simp only [Chunk.fp, Option.some.injEq] at hg; omega
      · exact .inr ⟨c, hc, hg⟩, hE.size⟩
end
end Go.Proofs.YthcgmdmdgpljmaaDoor.Z
