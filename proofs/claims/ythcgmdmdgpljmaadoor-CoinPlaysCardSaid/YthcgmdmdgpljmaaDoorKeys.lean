/- maps.Keys: each key once, in some order. -/
import Derived.Test.YthcgmdmdgpljmaaDoorIter
set_option linter.unusedVariables false
set_option linter.unusedSimpArgs false
set_option linter.unusedSectionVars false
set_option maxRecDepth 100000
set_option maxHeartbeats 4000000
namespace Go.Proofs.YthcgmdmdgpljmaaDoor.Z
open Go Go.RowKit

section
variable {F : Fence} [WF F] {m : Nat} {P : Program} {n : Nat} {ops : Array Oper} {Q : Post} {rest : List Oper} {σ : Env} {w : World}
theorem YC.loop {c : Code} {X : Type} (vals : X → Env) (inv : X → World → Prop) (μ : X → Nat) (x0 : X) (h0 : Sub (vals x0) σ) (hi : inv x0 w)
    (hr : ∀ x w, inv x w → YC F m P n (Exit.then (Head n vals inv μ (μ x)) Q) c (vals x) w) : YC F m P n Q (.loop c) σ w := by
  refine ⟨fun a ha => ?_⟩
  intro b k cs hro hb hroom
  have key : ∀ j a w, (∃ x, FR n (vals x) a ∧ inv x w ∧ μ x < j) →
      ∃ e a' w', Q e a' w' ∧ ArrivesIn (Machine.fenced P F) P (lone (b.atR a (.code c :: .inLoop c :: k)) cs w) b k cs e a' w' := by
    intro j
    induction j using Nat.strongRecOn with
    | _ j ih =>
      rintro a w ⟨x, hx, hI, hlt⟩
      obtain ⟨e, a₁, w₁, hq, harr⟩ := (hr x w hI).h a hx b (.inLoop c :: k) cs hro hb hroom
      cases e with
      | normal =>
        obtain ⟨e₂, a₂, w₂, hq₂, harr₂⟩ := ih (μ x) hlt a₁ w₁ hq
        exact ⟨e₂, a₂, w₂, hq₂, .of_steps (StepsIn.trans harr (.one (fenced_calm hb hroom rfl) stepR_inLoop)) harr₂⟩
      | exit id => exact ⟨_, a₁, w₁, hq, .pass (x := .inLoop c) rfl (fun _ _ => .inl (by simp)) harr⟩
      | goto l => exact ⟨_, a₁, w₁, hq, .pass (x := .inLoop c) rfl (fun _ _ => .inl (by simp)) harr⟩
      | ret => exact ⟨_, a₁, w₁, hq, .pass (x := .inLoop c) rfl (fun _ _ => .inl (by simp)) harr⟩
      | panic ch => exact ⟨_, a₁, w₁, hq, .pass (x := .inLoop c) rfl (fun _ _ => .inl (by simp)) harr⟩
      | outgrown => exact ⟨_, a₁, w₁, hq, .pass (x := .inLoop c) rfl (fun _ _ => .inl (by simp)) harr⟩
  obtain ⟨e, a', w', hq, harr⟩ := key _ a w ⟨x0, ha.sub h0, hi, Nat.lt_succ_self _⟩
  exact ⟨e, a', w', hq, .of_steps (.one (fenced_calm hb hroom rfl) stepR_loop) harr⟩

theorem YC.enter {f : FuncId} {fn : Func} {c : Code} {args : Array Value} {R : Ending → World → Prop} (hf : P.funcs[f]? = some fn) (hb : fn.body = some c)
    (hn : fn.ntmps = n) (hsz : Nat.ble args.size n = true) (σ0 : Env) (hs : Sub σ0 (envOf 0 args.toList)) (h : YC Fence.wide m P n (bodyPost P fn R) c σ0 w) : CallsIn Fence.wide m P f args w R := by
  refine callsIn_of_wp hf hb trivial ?_
  have hsz' : args.size ≤ n := Nat.le_of_ble_eq_true hsz
  refine h.h _ ⟨by simp [hn]; omega, rfl, ?_⟩
  intro i v hi
  obtain ⟨_, h2⟩ := lk_envOf _ _ _ _ (hs.lk i v hi)
  simp only [Nat.sub_zero, Array.getElem?_toList] at h2
  have hlt : i < args.size := by
    rcases Nat.lt_or_ge i args.size with h | h
    · exact h
    · simp [Array.getElem?_eq_none h] at h2
  rw [Array.getElem?_append_left hlt]
  exact h2
theorem ZP.body0 {fn : Func} {R : Ending → World → Prop} {e : Exit} (hr : fn.results = #[]) (he : e = .ret ∨ e = .normal) (hR : R (.returned (.tuple #[])) w) : ZP n (bodyPost P fn R) e σ w :=
  ⟨fun a ha => by rcases he with rfl | rfl <;> exact ⟨ha.defers, _, results_none hr _ _ _, hR⟩⟩
end

theorem Came.perm {es : Array MapEntry} {clk : Nat} {pe : List MapEntry} (h : Came es clk pe) (hall : ∀ e ∈ es.toList, e.born ∈ pe.map (·.born)) : pe.Perm es.toList := by
  have inj : ∀ (l : List MapEntry), (l.map (·.born)).Nodup → ∀ a ∈ l, ∀ b ∈ l, a.born = b.born → a = b := by
    intro l
    induction l with
    | nil => intro _ a ha; cases ha
    | cons c t ih =>
      intro hn a ha b hb hab
      obtain ⟨h1, h2⟩ := List.nodup_cons.1 hn
      rcases List.mem_cons.1 ha with ha' | ha' <;> rcases List.mem_cons.1 hb with hb' | hb'
      · rw [ha', hb']
      · exact absurd (show c.born ∈ t.map (·.born) by rw [← ha', hab]; exact List.mem_map_of_mem (f := (·.born)) hb') h1
      · exact absurd (show c.born ∈ t.map (·.born) by rw [← hb', ← hab]; exact List.mem_map_of_mem (f := (·.born)) ha') h1
      · exact ih h2 a ha' b hb' hab
  have nodup : ∀ (l : List MapEntry), (l.map (·.born)).Nodup → l.Nodup := fun l h => (List.pairwise_map.1 h).imp fun hne e => hne (by rw [e])
  rw [List.perm_ext_iff_of_nodup (nodup _ h.nod) (nodup _ h.born)]
  intro e
  refine ⟨h.sub e, fun he => ?_⟩
  obtain ⟨e', he', hb⟩ := List.mem_map.1 (hall e he)
  rw [← inj _ h.born e' (h.sub e' he') e he hb]
  exact he'

section
variable {F : Fence} [WF F] {m : Nat} {P : Program} {n : Nat} {ops : Array Oper} {Q : Post} {rest : List Oper} {σ : Env} {w : World}
theorem run_yieldv {x : Operand} {args : Array Operand} {ats : Array TypeId} {l : Nat} {vs : List Value} (hx : ev σ x = some (.func (.yield l) #[] #[])) (h : evs σ args.toList = some vs) :
    ∀ ρ, Ag ρ σ → ∀ o : Oper, o.op = .call ⟨.value x, args, ats⟩ → (execOp ρ o).run P w = (Instr.yield l vs.toArray).run P w := by
  intro ρ ha o ho
  have e1 : args.map ρ = vs.toArray := by apply Array.ext'; simpa using evs_map h ha
  simp [execOp, ho, resolve, e1, ha _ _ hx, Deferred.ofValue, invoke]
theorem splice_all {cs vs : Array Value} (h : vs.size = cs.size) : splice cs 0 vs = vs := by
  unfold splice; apply Array.ext'
  simp; omega
end

theorem nodup_len : ∀ {l1 l2 : List MapEntry}, l1.Nodup → (∀ e ∈ l1, e ∈ l2) → l1.length ≤ l2.length
  | [], l2, _, _ => by simp
  | a :: t, l2, hn, hs => by
    obtain ⟨s, u, hsu⟩ := List.append_of_mem (hs a (by simp))
    subst hsu
    obtain ⟨h1, h2⟩ := List.nodup_cons.1 hn
    have := nodup_len (l1 := t) (l2 := s ++ u) h2 fun e he => by
      have := hs e (List.mem_cons_of_mem _ he)
      simp only [List.mem_append, List.mem_cons] at this ⊢
      rcases this with h | rfl | h
      · exact .inl h
      · exact absurd he h1
      · exact .inr h
    simp only [List.length_append, List.length_cons] at this ⊢
    omega
theorem Pt.v_inj {p q : Pt} (h : p.v = q.v) : p = q := by
  have kk : KeyT P 41 Pt.v := inferInstance
  have h1 := kk.eq p q default
  have h2 := kk.eq p p default
  rw [← h, h2] at h1
  simpa using h1
theorem perm_of_v {l l' : List Pt} (h : (l.map Pt.v).Perm (l'.map Pt.v)) : l.Perm l' := by
  classical
  let g : Value → Pt := fun v => if hv : ∃ p : Pt, v = p.v then hv.choose else ⟨⟨List.replicate 32 0, by simp⟩, 0⟩
  have hg : ∀ p : Pt, g p.v = p := fun p => by
    have hv : ∃ q : Pt, p.v = q.v := ⟨p, rfl⟩
    simp only [g, dif_pos hv]
    exact (Pt.v_inj hv.choose_spec).symm
  have h1 := h.map g
  simpa [Function.comp_def, hg] using h1

theorem grown_box {w : World} {t : TypeId} {cs cs' : Array Value} : w.grownBy ((w.alloc (.cells cs t)).setRow w.heap.size cs') none :=
  ⟨rfl, rfl, rfl, by simp, fun k hk _ => by
    rw [setRow_other _ _ _ _ (by omega)]
    exact Below.heap_alloc w _ k hk⟩

abbrev KF : FuncId := 35

theorem keys1_stops (q : Nat) (Bm b : Nat) (m : CMap) (es : Array MapEntry) (clk : Nat) (fz : Nat × Nat) (w : World) (hBm : w.heap[Bm]? = some (.cells #[.map (some b)] 57 fz)) (hm : w.heap[b]? = some (.map es clk)) (hO : CObj m es clk) :
    SeqStopsK Fence.wide q P KF #[.pointer (some ⟨Bm, 0, none⟩)] (fun p : Pt => #[p.v]) KeepsWalks (fun xs => xs.Perm (m.map (·.1))) (fun _ => True) m.length w := by
  intro l J Jx W hW hJ hJx hY h0
  have hBmW := (hW.block Bm (Array.getElem?_eq_some_iff.1 hBm).1).trans hBm
  have hmW := (hW.block b (Array.getElem?_eq_some_iff.1 hm).1).trans hm
  have hsz := hO.size
  show CallsIn Fence.wide q P KF #[.func (.yield l) #[] #[], .pointer (some ⟨Bm, 0, none⟩)] W _
  refine YC.enter Tryd.func35 rfl Tryd.ntmps35 rfl [(0, .func (.yield l) #[] #[]), (1, .pointer (some ⟨Bm, 0, none⟩))] ⟨rfl, rfl, trivial⟩ ?_
  refine YC.seq ?_; refine YC.region ?_
  refine YL.val (r_load1 rfl hBmW rfl) rfl ?_
  refine YL.vw (vw_range rfl hmW) rfl ?_
  refine YL.nil ?_; refine YP.then ?_; refine YC.block ?_
  refine YC.loop (X := List MapEntry × List Pt) (fun x => [(5, .pointer (some ⟨W.heap.size, 0, none⟩)), (0, .func (.yield l) #[] #[]), (1, .pointer (some ⟨Bm, 0, none⟩))])
    (fun x wr => Came es clk x.1 ∧ x.2.map Pt.v = x.1.map (·.key) ∧ J x.2 wr ∧ wr.heap[W.heap.size]? = some (.mapIter (some b) clk (x.1.map (·.born)).toArray clk) ∧ wr.heap[b]? = some (.map es clk)) (fun x => es.size - x.1.length) ([], []) ⟨rfl, rfl, rfl, trivial⟩
    ⟨⟨by simp, by simp, hO.lt, hO.born⟩, rfl, hJ [] W _ none h0 (World.grownBy_alloc W _ none) (fun r e => by cases e), heap_alloc_new W _, (Below.heap_alloc W _ b (Array.getElem?_eq_some_iff.1 hmW).1).trans hmW⟩ ?_
  rintro ⟨pe, pre⟩ wr ⟨hC, hpre, hJr, hr, hmr⟩
  simp only at hC hpre hJr hr hmr ⊢
  have hlen : pre.length = pe.length := by simpa using congrArg List.length hpre
  refine YC.seq ?_; refine YC.region ?_
  rcases vw_next (P := P) (σ := [(5, .pointer (some ⟨W.heap.size, 0, none⟩)), (0, .func (.yield l) #[] #[]), (1, .pointer (some ⟨Bm, 0, none⟩))]) (x := .tmp 5) hC rfl hr hmr with ⟨hv, hall⟩ | ⟨e, w2, he, hne, hv, hg2, hs2, hr2⟩
  · refine YL.vw hv rfl ?_
    refine YL.val (r_extract rfl rfl) rfl ?_; refine YL.nil ?_; refine YP.then ?_; refine YC.seq ?_
    refine YC.cond rfl (fun hh => by cases hh) (fun _ => ?_)
    refine YC.exit ?_; refine ZP.thenX ?_; refine ZP.thenX ?_; refine ZP.blockE ?_
    refine ZP.body0 rfl (.inr rfl) ⟨⟨_, rfl⟩, .inl ⟨pre, ?_, hJr⟩⟩
    have hp := hC.perm hall
    have h1 : (pre.map Pt.v).Perm (es.toList.map (·.key)) := by rw [hpre]; exact hp.map _
    have h2 : es.toList.map (·.key) = (m.map (·.1)).map Pt.v := by
      have := congrArg (List.map Prod.fst) hO.kv
      simpa [Function.comp_def] using this
    rw [h2] at h1
    exact perm_of_v h1
  · refine YL.vw hv rfl ?_
    refine YL.val (r_extract rfl rfl) rfl ?_; refine YL.nil ?_; refine YP.then ?_; refine YC.seq ?_
    refine YC.cond rfl (fun _ => ?_) (fun hh => by cases hh)
    refine YC.skip ?_; refine YP.then ?_; refine YC.block ?_; refine YC.seq ?_; refine YC.region ?_
    have hC2 : Came es clk (pe ++ [e]) := ⟨fun x hx => by rcases List.mem_append.1 hx with h | h; exact hC.sub x h; simp at h; rw [h]; exact he, by
      rw [List.map_append, List.nodup_append]
      exact ⟨hC.nod, by simp, fun a ha c hc hac => by simp at hc; subst hc; subst hac; exact hne ha⟩, hC.lt, hC.born⟩
    have hm2 : w2.heap[b]? = some (.map es clk) := by
      refine (hg2.block b (Array.getElem?_eq_some_iff.1 hmr).1 (fun hh => ?_)).trans hmr
      simp only [Option.some.injEq] at hh
      rw [hh, hr] at hmr
      cases hmr
    have hJ2 : J pre w2 := hJ pre wr w2 (some W.heap.size) hJr hg2 (fun r hh => by cases hh; exact ⟨Nat.le_refl _, _, hr, rfl⟩)
    obtain ⟨p, hp⟩ : ∃ p : Pt, e.key = p.v := by
      have h1 : (e.key, e.val) ∈ es.toList.map (fun e => (e.key, e.val)) := List.mem_map_of_mem (f := fun e => (e.key, e.val)) he
      rw [hO.kv] at h1
      obtain ⟨pc, _, h2⟩ := List.mem_map.1 h1
      exact ⟨pc.1, (Prod.mk.inj h2).1.symm⟩
    refine YL.val (v := .tuple #[p.v, e.val]) (by rw [← hp]; exact r_entry hC2 rfl hr2 hm2) rfl ?_
    refine YL.val (v := p.v) (r_extract rfl rfl) rfl ?_
    refine YL.vw vw_alloc rfl ?_
    have hnew := heap_alloc_new w2 (.cells (Value.agg (List.replicate 32 (Value.int .u8 0) ++ [(Value.int .u32 0)]).toArray).cells 41)
    refine YL.unit (uw_store (v := p.v) rfl rfl hnew p.size (by decide) p.one) ?_
    rw [splice_all (by rw [show (p.v).cells = p.cells.toArray from rfl, p.size]; rfl)]
    have hg3 := grown_box (w := w2) (t := 41) (cs := (Value.agg (List.replicate 32 (Value.int .u8 0) ++ [(Value.int .u32 0)]).toArray).cells) (cs' := p.v.cells)
    have hb3 := setRow_heap _ _ _ p.v.cells _ _ hnew
    generalize hw3 : (w2.alloc (.cells (Value.agg (List.replicate 32 (Value.int .u8 0) ++ [(Value.int .u32 0)]).toArray).cells 41)).setRow w2.heap.size p.v.cells = w3 at hg3 hb3
    have hJ3 : J pre w3 := hJ pre w2 w3 none hJ2 hg3 (fun r hh => by cases hh)
    have hr3 := (hg3.block _ (Array.getElem?_eq_some_iff.1 hr2).1 (by simp)).trans hr2
    have hm3 := (hg3.block _ (Array.getElem?_eq_some_iff.1 hm2).1 (by simp)).trans hm2
    refine YL.nil ?_; refine YP.then ?_; refine YC.seq ?_; refine YC.region ?_; refine YL.val (r_move rfl) rfl ?_
    refine YL.val (r_loadW rfl hb3 p.size) rfl ?_
    have hlt : pre.length < m.length := by
      have h1 : (pe ++ [e]).length ≤ es.toList.length := by
        exact nodup_len ((List.pairwise_map.1 hC2.nod).imp fun hne e => hne (by rw [e])) hC2.sub
      simp at h1
      omega
    refine YL.yield (hY pre p w3 hJ3 hlt) rfl (run_yieldv rfl rfl) (fun e4 w4 h4 => ?_)
    rcases h4 with ⟨rfl, hJ4, hk4⟩ | ⟨rfl, hJx4⟩
    · refine ⟨_, rfl, ?_⟩
      refine YL.val (r_not rfl) rfl ?_; refine YL.nil ?_; refine YP.then ?_
      refine YC.cond rfl (fun hh => by cases hh) (fun _ => ?_)
      refine YC.skip ?_; refine ZP.blockN ?_
      refine ZP.round (pe ++ [e], pre ++ [p]) ⟨rfl, rfl, rfl, trivial⟩ ⟨hC2, by simp [hpre, hp], hJ4, hk4.same _ _ hr3 rfl, hk4.same _ _ hm3 rfl⟩ (by simp only [List.length_append, List.length_cons, List.length_nil]; omega)
    · refine ⟨_, rfl, ?_⟩
      refine YL.val (r_not rfl) rfl ?_; refine YL.nil ?_; refine YP.then ?_
      refine YC.cond rfl (fun _ => ?_) (fun hh => by cases hh)
      refine YC.ret ?_; refine ZP.blockR ?_; refine ZP.thenR ?_; refine ZP.blockR ?_
      exact ZP.body0 rfl (.inl rfl) ⟨⟨_, rfl⟩, .inr ⟨_, trivial, hJx4⟩⟩
end Go.Proofs.YthcgmdmdgpljmaaDoor.Z
