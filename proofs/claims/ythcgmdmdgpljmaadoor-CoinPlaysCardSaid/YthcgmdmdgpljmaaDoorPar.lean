/- A region that draws: two or three that turn memory, each by what it makes anew, in whichever order. -/
import Derived.Test.YthcgmdmdgpljmaaDoorDraw
set_option linter.unusedVariables false
set_option linter.unusedSimpArgs false
namespace Go.Proofs.YthcgmdmdgpljmaaDoor.Z
open Go Go.RowKit

theorem apart_symm {c d : Chunk} (h : apart c d) : apart d c := fun g hg hg' => h g hg' hg
theorem Mem.perm {w0 w : World} {X : Nat → Prop} {L L' : List Chunk} (h : Mem w0 X L w) (hp : L.Perm L') : Mem w0 X L' w :=
  ⟨h.ext, fun c hc => h.ok c (hp.mem_iff.2 hc), (hp.pairwise_iff (fun h => apart_symm h)).1 h.ap, fun c hc => h.mine c (hp.mem_iff.2 hc)⟩

/-- The world holds these chunks, and others beside them. -/
def MemS (w0 : World) (X : Nat → Prop) (L : List Chunk) (w : World) : Prop := ∃ cs, Mem w0 X (cs ++ L) w
theorem MemS.of {w0 w : World} {X : Nat → Prop} {L : List Chunk} (h : Mem w0 X L w) : MemS w0 X L w := ⟨[], h⟩
theorem MemS.get {w0 w : World} {X : Nat → Prop} {L : List Chunk} (h : MemS w0 X L w) {b : Nat} {o : Obj} (i : In L b o) : w.heap[b]? = some o := by
  obtain ⟨cs, h⟩ := h
  exact h.ok _ (List.mem_append_right _ i.h)
theorem MemS.ext {w0 w : World} {X : Nat → Prop} {L : List Chunk} (h : MemS w0 X L w) : ExtX w0 X w := by obtain ⟨cs, h⟩ := h; exact h.ext

theorem FR.put' {n d : Nat} {σ : Env} {a : Act} {v : Value} (h : FR n σ a) (hd : Nat.blt d n = true) (hn : lk σ d = none) : FR n σ (a.put (some d) v) := by
  refine ⟨(h.put hd (v := v)).size, (h.put hd (v := v)).defers, fun i u hi => (h.put hd (v := v)).at' i u ?_⟩
  simp only [lk]
  cases hb : Nat.beq i d with
  | true =>
    have : i = d := Nat.eq_of_beq_eq_true hb
    subst this
    rw [hn] at hi; cases hi
  | false => exact hi

/-- An operation that turns the world by what it makes anew. -/
structure Turn (P : Program) (n : Nat) (σ : Env) (op : Op) (w0 : World) (X : Nat → Prop) (L : List Chunk) (R : Value → List Chunk → Prop) : Prop where
  h : ∀ a, FR n σ a → ∀ o : Oper, o.op = op → ∀ cs w, Mem w0 X (cs ++ L) w → ∀ (K : Act → World → Prop) (Q : Post), (∀ v c w', R v c → Mem w0 X (c ++ (cs ++ L)) w' → K (a.put o.dst v) w') → o.wp P a w K Q

section
variable {P : Program} {n : Nat} {ops : Array Oper} {Q : Post} {σ : Env} {w w0 : World} {X : Nat → Prop} {L : List Chunk} {fuel : Nat}

theorem Turn.alloc {t : TypeId} {z : Value} {cs : Array Value} [TZ P t z] (hz : vcells z = some cs) :
    Turn P n σ (.alloc t) w0 X L (fun v c => ∃ b, v = .pointer (some ⟨b, 0, none⟩) ∧ c = [.blk b (.cells cs t)]) := by
  refine ⟨fun a ha o ho cs' w hM K Q h => ?_⟩
  unfold Oper.wp
  rw [(vw_alloc (P := P) (σ := σ) (w := w) (t := t) (z := z)).h a.eval ha.ag o ho]
  refine h _ _ _ ⟨_, rfl, rfl⟩ ?_
  rw [vcells_eq hz]
  exact hM.push (Upd.alloc w _) rfl
theorem Turn.box {t : TypeId} {v : Value} {cs : Array Value} {x : Operand} (hx : ev σ x = some v) (hz : vcells v = some cs) :
    Turn P n σ (.box t x) w0 X L (fun v c => ∃ b, v = .pointer (some ⟨b, 0, none⟩) ∧ c = [.blk b (.cells cs t)]) := by
  refine ⟨fun a ha o ho cs' w hM K Q h => ?_⟩
  unfold Oper.wp
  rw [(vw_box (P := P) (w := w) (t := t) hx).h a.eval ha.ag o ho]
  refine h _ _ _ ⟨_, rfl, rfl⟩ ?_
  rw [vcells_eq hz]
  exact hM.push (Upd.alloc w _) rfl
theorem Turn.makeMap {t : TypeId} :
    Turn P n σ (.makeMap t none) w0 X L (fun v c => ∃ b, v = .map (some b) ∧ c = [.blk b (.map #[] 0)]) := by
  refine ⟨fun a ha o ho cs' w hM K Q h => ?_⟩
  unfold Oper.wp
  rw [(vw_makeMap (P := P) (σ := σ) (w := w) (t := t)).h a.eval ha.ag o ho]
  exact h _ _ _ ⟨_, rfl, rfl⟩ (hM.push (Upd.alloc w _) rfl)
theorem Turn.call {op : Op} {f : FuncId} {args : Array Value} {R : Value → List Chunk → Prop} (hv : ∀ w, EN P σ op f args w)
    (hc : ∀ cs w, Mem w0 X (cs ++ L) w → Ret P f args w (fun v w' => ∃ c, R v c ∧ Mem w0 X (c ++ (cs ++ L)) w')) : Turn P n σ op w0 X L R := by
  refine ⟨fun a ha o ho cs w hM K Q h => ?_⟩
  unfold Oper.wp
  rw [(hv w).h a.eval ha.ag o ho]
  refine Calls.mono (hc cs w hM).h ?_
  rintro e w' ⟨v, rfl, c, hR, hM'⟩
  exact h _ _ _ hR hM'

theorem wpOp_turn {o : Oper} {i : Nat} {a : Act} {K : Act → World → Prop} (hi : ops[i]? = some o) (hg : o.guard = none) (h : o.wp P a w K Q) : wpOp P ops Q i K a w := by
  unfold wpOp
  simp only [hi, Region.wanted, hg, if_true]
  exact Or.inl h

variable {i j k di dj dk : Nat} {opi opj opk : Op} {ti tj tk : TypeId} {pi pj pk : String} {ei ej ek : Array Edge} {Ri Rj Rk : Value → List Chunk → Prop} {listed li lj lk' lij lik ljk lijk : Array Bool}

theorem ZA.turn1 (i : Nat) (hr : Region.ready .any ops listed = [i]) (hi : ops[i]? = some ⟨some di, opi, ti, pi, ei, none⟩) (hl : listed.setIfInBounds i true = li) (hd : Nat.blt di n = true)
    (h1 : Turn P n σ opi w0 X L Ri) {cs : List Chunk} (hM : Mem w0 X (cs ++ L) w)
    (h : ∀ v c w', Ri v c → Mem w0 X (c ++ (cs ++ L)) w' → ZA P n ops Q (MemS w0 X L) fuel li ((di, v) :: σ) w') : ZA P n ops Q (MemS w0 X L) (fuel + 1) listed σ w := by
  subst hl
  refine ⟨fun a ha => wpAnyH_all hr (by simp) fun q hq => ?_⟩
  simp only [List.mem_singleton] at hq; subst hq
  refine wpOp_turn hi rfl (h1.h a ha _ rfl cs w hM _ _ fun v c w' hR hM' => ⟨⟨c ++ cs, by rw [List.append_assoc]; exact hM'⟩, ?_⟩)
  exact (h v c w' hR hM').h _ (ha.put hd)

theorem wpAnyH_par2 (hr : Region.ready .any ops listed = [i, j]) (hri : Region.ready .any ops li = [j]) (hrj : Region.ready .any ops lj = [i])
    (hi : ops[i]? = some ⟨some di, opi, ti, pi, ei, none⟩) (hj : ops[j]? = some ⟨some dj, opj, tj, pj, ej, none⟩)
    (hli : listed.setIfInBounds i true = li) (hlj : listed.setIfInBounds j true = lj) (hlij : li.setIfInBounds j true = lij) (hlji : lj.setIfInBounds i true = lij)
    (hdi : Nat.blt di n = true) (hdj : Nat.blt dj n = true) (hni : lk σ di = none) (hnj : lk σ dj = none) (hne : Nat.beq di dj = false)
    (h1 : Turn P n σ opi w0 X L Ri) (h2 : Turn P n σ opj w0 X L Rj) {cs : List Chunk} (hM : Mem w0 X (cs ++ L) w) {a : Act} (ha : FR n σ a)
    (h : ∀ v c v' c' w', Ri v c → Rj v' c' → Mem w0 X (c' ++ (c ++ (cs ++ L))) w' → wpAnyH P .any ops Q (MemS w0 X L) fuel lij ((a.put (some di) v).put (some dj) v') w') : wpAnyH P .any ops Q (MemS w0 X L) (fuel + 2) listed a w := by
  have hne' : di ≠ dj := fun e => by subst e; simp at hne
  refine wpAnyH_all hr (by simp) fun q hq => ?_
  simp only [List.mem_cons, List.not_mem_nil, or_false] at hq
  rcases hq with rfl | rfl
  · refine wpOp_turn hi rfl (h1.h a ha _ rfl cs w hM _ _ fun v c w' hR hM' => ⟨⟨c ++ cs, by rw [List.append_assoc]; exact hM'⟩, ?_⟩)
    rw [hli]
    refine wpAnyH_all hri (by simp) fun r hr => ?_
    simp only [List.mem_singleton] at hr; subst hr
    rw [← List.append_assoc] at hM'
    refine wpOp_turn hj rfl (h2.h _ (ha.put' hdi hni) _ rfl _ w' hM' _ _ fun v' c' w'' hR' hM'' => ?_)
    rw [List.append_assoc c cs L] at hM''
    refine ⟨⟨c' ++ (c ++ cs), by simpa using hM''⟩, ?_⟩
    rw [hlij]
    exact h v c v' c' w'' hR hR' hM''
  · refine wpOp_turn hj rfl (h2.h a ha _ rfl cs w hM _ _ fun v' c' w' hR' hM' => ⟨⟨c' ++ cs, by rw [List.append_assoc]; exact hM'⟩, ?_⟩)
    rw [hlj]
    refine wpAnyH_all hrj (by simp) fun r hr => ?_
    simp only [List.mem_singleton] at hr; subst hr
    rw [← List.append_assoc] at hM'
    refine wpOp_turn hi rfl (h1.h _ (ha.put' hdj hnj) _ rfl _ w' hM' _ _ fun v c w'' hR hM'' => ?_)
    rw [List.append_assoc c' cs L] at hM''
    refine ⟨⟨c ++ (c' ++ cs), by simpa using hM''⟩, ?_⟩
    rw [hlji]
    have e : (a.put (some dj) v').put (some di) v = (a.put (some di) v).put (some dj) v' := by
      simp only [Act.put]
      rw [Array.setIfInBounds_comm _ _ (Ne.symm hne')]
    rw [e]
    refine h v c v' c' w'' hR hR' (hM''.perm ?_)
    simp only [← List.append_assoc]
    exact List.Perm.append_right _ (List.Perm.append_right _ List.perm_append_comm)

theorem ZA.par2 (i j : Nat) (hr : Region.ready .any ops listed = [i, j]) (hri : Region.ready .any ops li = [j]) (hrj : Region.ready .any ops lj = [i])
    (hi : ops[i]? = some ⟨some di, opi, ti, pi, ei, none⟩) (hj : ops[j]? = some ⟨some dj, opj, tj, pj, ej, none⟩)
    (hli : listed.setIfInBounds i true = li) (hlj : listed.setIfInBounds j true = lj) (hlij : li.setIfInBounds j true = lij) (hlji : lj.setIfInBounds i true = lij)
    (hdi : Nat.blt di n = true) (hdj : Nat.blt dj n = true) (hni : lk σ di = none) (hnj : lk σ dj = none) (hne : Nat.beq di dj = false)
    (h1 : Turn P n σ opi w0 X L Ri) (h2 : Turn P n σ opj w0 X L Rj) {cs : List Chunk} (hM : Mem w0 X (cs ++ L) w)
    (h : ∀ v c v' c' w', Ri v c → Rj v' c' → Mem w0 X (c' ++ (c ++ (cs ++ L))) w' → ZA P n ops Q (MemS w0 X L) fuel lij ((dj, v') :: (di, v) :: σ) w') : ZA P n ops Q (MemS w0 X L) (fuel + 2) listed σ w :=
  ⟨fun a ha => wpAnyH_par2 hr hri hrj hi hj hli hlj hlij hlji hdi hdj hni hnj hne h1 h2 hM ha fun v c v' c' w' hR hR' hM' => (h v c v' c' w' hR hR' hM').h _ ((ha.put hdi).put hdj)⟩

theorem ZA.par3 (i j k : Nat) (hr : Region.ready .any ops listed = [i, j, k])
    (hri : Region.ready .any ops li = [j, k]) (hrj : Region.ready .any ops lj = [i, k]) (hrk : Region.ready .any ops lk' = [i, j])
    (hrij : Region.ready .any ops lij = [k]) (hrik : Region.ready .any ops lik = [j]) (hrjk : Region.ready .any ops ljk = [i])
    (hi : ops[i]? = some ⟨some di, opi, ti, pi, ei, none⟩) (hj : ops[j]? = some ⟨some dj, opj, tj, pj, ej, none⟩) (hk : ops[k]? = some ⟨some dk, opk, tk, pk, ek, none⟩)
    (hli : listed.setIfInBounds i true = li) (hlj : listed.setIfInBounds j true = lj) (hlk : listed.setIfInBounds k true = lk')
    (hlij : li.setIfInBounds j true = lij) (hlik : li.setIfInBounds k true = lik) (hlji : lj.setIfInBounds i true = lij) (hljk : lj.setIfInBounds k true = ljk) (hlki : lk'.setIfInBounds i true = lik) (hlkj : lk'.setIfInBounds j true = ljk)
    (hlijk : lij.setIfInBounds k true = lijk) (hlikj : lik.setIfInBounds j true = lijk) (hljki : ljk.setIfInBounds i true = lijk)
    (hdi : Nat.blt di n = true) (hdj : Nat.blt dj n = true) (hdk : Nat.blt dk n = true) (hni : lk σ di = none) (hnj : lk σ dj = none) (hnk : lk σ dk = none) (hne : Nat.beq di dj = false) (hne2 : Nat.beq di dk = false) (hne3 : Nat.beq dj dk = false)
    (h1 : Turn P n σ opi w0 X L Ri) (h2 : Turn P n σ opj w0 X L Rj) (h3 : Turn P n σ opk w0 X L Rk) {cs : List Chunk} (hM : Mem w0 X (cs ++ L) w)
    (h : ∀ v c v' c' v'' c'' w', Ri v c → Rj v' c' → Rk v'' c'' → Mem w0 X (c'' ++ (c' ++ (c ++ (cs ++ L)))) w' → ZA P n ops Q (MemS w0 X L) fuel lijk ((dk, v'') :: (dj, v') :: (di, v) :: σ) w') : ZA P n ops Q (MemS w0 X L) (fuel + 3) listed σ w := by
  have e1 : di ≠ dj := fun e => by subst e; simp at hne
  have e2 : di ≠ dk := fun e => by subst e; simp at hne2
  have e3 : dj ≠ dk := fun e => by subst e; simp at hne3
  refine ⟨fun a ha => wpAnyH_all hr (by simp) fun q hq => ?_⟩
  have fin : ∀ v c v' c' v'' c'' w' a' L', Ri v c → Rj v' c' → Rk v'' c'' → a' = ((a.put (some di) v).put (some dj) v').put (some dk) v'' → Mem w0 X L' w' → L'.Perm (c'' ++ (c' ++ (c ++ (cs ++ L)))) → wpAnyH P .any ops Q (MemS w0 X L) fuel lijk a' w' := by
    intro v c v' c' v'' c'' w' a' L' r1 r2 r3 ea hL hp
    subst ea
    exact (h v c v' c' v'' c'' w' r1 r2 r3 (hL.perm hp)).h _ (((ha.put hdi).put hdj).put hdk)
  simp only [List.mem_cons, List.not_mem_nil, or_false] at hq
  rcases hq with rfl | rfl | rfl
  · refine wpOp_turn hi rfl (h1.h a ha _ rfl cs w hM _ _ fun v c w' hR hM' => ⟨⟨c ++ cs, by rw [List.append_assoc]; exact hM'⟩, ?_⟩)
    rw [hli]
    rw [← List.append_assoc] at hM'
    refine wpAnyH_par2 hri hrij hrik hj hk hlij hlik hlijk hlikj hdj hdk hnj hnk hne3 h2 h3 hM' (ha.put' hdi hni) fun v' c' v'' c'' w'' hR' hR'' hM'' => ?_
    exact fin v c v' c' v'' c'' w'' _ _ hR hR' hR'' rfl hM'' (by simp)
  · refine wpOp_turn hj rfl (h2.h a ha _ rfl cs w hM _ _ fun v' c' w' hR' hM' => ⟨⟨c' ++ cs, by rw [List.append_assoc]; exact hM'⟩, ?_⟩)
    rw [hlj]
    rw [← List.append_assoc] at hM'
    refine wpAnyH_par2 hrj hrij hrjk hi hk hlji hljk hlijk hljki hdi hdk hni hnk hne2 h1 h3 hM' (ha.put' hdj hnj) fun v c v'' c'' w'' hR hR'' hM'' => ?_
    refine fin v c v' c' v'' c'' w'' _ _ hR hR' hR'' ?_ hM'' ?_
    · simp only [Act.put]
      rw [Array.setIfInBounds_comm _ _ (Ne.symm e1)]
    · refine List.Perm.append_left _ ?_
      simp only [← List.append_assoc]
      exact List.Perm.append_right _ (List.Perm.append_right _ List.perm_append_comm)
  · refine wpOp_turn hk rfl (h3.h a ha _ rfl cs w hM _ _ fun v'' c'' w' hR'' hM' => ⟨⟨c'' ++ cs, by rw [List.append_assoc]; exact hM'⟩, ?_⟩)
    rw [hlk]
    rw [← List.append_assoc] at hM'
    refine wpAnyH_par2 hrk hrik hrjk hi hj hlki hlkj hlikj hljki hdi hdj hni hnj hne h1 h2 hM' (ha.put' hdk hnk) fun v c v' c' w'' hR hR' hM'' => ?_
    refine fin v c v' c' v'' c'' w'' _ _ hR hR' hR'' ?_ hM'' ?_
    · simp only [Act.put]
      rw [Array.setIfInBounds_comm _ _ (Ne.symm e2), Array.setIfInBounds_comm _ _ (Ne.symm e3)]
    · simp only [← List.append_assoc]
      refine List.Perm.append_right _ (List.Perm.append_right _ ?_)
      refine List.Perm.trans List.perm_append_comm ?_
      simp only [← List.append_assoc]
      exact List.Perm.refl _
end
end Go.Proofs.YthcgmdmdgpljmaaDoor.Z
