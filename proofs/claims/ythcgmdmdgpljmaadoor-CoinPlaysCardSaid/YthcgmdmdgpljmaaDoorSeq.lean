/- slices.AppendSeq over maps.Keys. -/
import Derived.Test.YthcgmdmdgpljmaaDoorKeys
set_option linter.unusedVariables false
set_option linter.unusedSimpArgs false
set_option linter.unusedSectionVars false
set_option maxRecDepth 100000
set_option maxHeartbeats 4000000
namespace Go.Proofs.YthcgmdmdgpljmaaDoor.Z
open Go Go.RowKit

section
variable {m : Nat} {P : Program} {n : Nat} {w : World}
theorem YC.enterM {f : FuncId} {fn : Func} {c : Code} {args : Array Value} {R : Ending → World → Prop} (hf : P.funcs[f]? = some fn) (hb : fn.body = some c)
    (hn : fn.ntmps = n) (hsz : Nat.ble args.size n = true) (σ0 : Env) (hs : Sub σ0 (envOf 0 args.toList)) (h : YC Fence.wide m P n (bodyPostM Fence.wide m P fn R) c σ0 w) : CallsIn Fence.wide m P f args w R := by
  refine callsIn_of_wp_marks hf hb trivial ?_
  have hsz' : args.size ≤ n := Nat.le_of_ble_eq_true hsz
  refine h.h _ ⟨by simp [hn]; omega, rfl, ?_⟩
  intro i v hi
  obtain ⟨_, h2⟩ := lk_envOf _ _ _ _ (hs.lk i v hi)
  simp only [Nat.sub_zero, Array.getElem?_toList] at h2
  have hlt : i < args.size := by
    rcases Nat.lt_or_ge i args.size with h | h
    · exact h
    · simp [Array.getElem?_eq_none h] at h2
  rw [Array.getElem?_append_left hlt]
  exact h2
end

section
variable {F : Fence} [WF F] {q : Nat} {P : Program} {n : Nat} {ops : Array Oper} {Q : Post} {rest : List Oper} {σ : Env} {w w0 : World} {X Y : Nat → Prop} {L L' : List Chunk}
variable {d : Nat} {ty : TypeId} {pos : String} {after : Array Edge} {x y : Operand}
theorem YL.buildSlice {t e s len : Nat} {parts : Array (Nat × Operand)} {cs : List Value} (hM : Mem w0 X L w)
    (hb : ∀ ρ, Ag ρ σ → (Instr.buildSlice t len (parts.map fun (i, x) => (i, ρ x))).run P w = .ok (.slice (some ⟨w.heap.size, 0, none⟩) len len) (w.alloc (.cells cs.toArray e)))
    (hl : cs.length = len * s) (hm : len ≤ maxLen) (hd : Nat.blt d n = true)
    (h : ∀ g w', Mem w0 X (.own (.slice (some ⟨g, 0, none⟩) len len) e s len cs :: L) w' → YL F q P n ops Q rest ((d, .slice (some ⟨g, 0, none⟩) len len) :: σ) w') :
    YL F q P n ops Q (⟨some d, .buildSlice t len parts, ty, pos, after, none⟩ :: rest) σ w := by
  have hv : VW P σ (.buildSlice t len parts) (.slice (some ⟨w.heap.size, 0, none⟩) len len) w (w.alloc (.cells cs.toArray e)) := by
    refine ⟨fun ρ ha o ho => ?_⟩; simp [execOp, ho, hb ρ ha]
  refine YL.vw hv hd (h _ _ ?_)
  have hpush := hM.push (Upd.alloc w (.cells cs.toArray e)) rfl
  refine Mem.add hpush.drop (c := .own (.slice (some ⟨w.heap.size, 0, none⟩) len len) e s len cs) ⟨hl, .inr ⟨_, len, cs.toArray, rfl, hpush.ok (.blk w.heap.size (.cells cs.toArray e)) (by simp), Nat.le_refl _, hm, by simp [hl], by rw [← hl]; simp⟩⟩ ?_
  intro g hg
  simp only [Chunk.fp, Value.ownBlock, Option.some.injEq] at hg
  subst hg
  refine ⟨hM.ext.size, fun c hc hf => ?_⟩
  have := Chunk.lt (hM.ok c hc) _ hf
  omega
theorem YL.append {t e s k m bytes : Nat} {v u z : Value} {xs ys : List Value} {G : Chunk → List Chunk} [TU P t (.slice e)] [TE P e s bytes z] (hM : Mem w0 X L w) (hx : ev σ x = some v) (hy : ev σ y = some u)
    [i : OwnPut L v e s k xs G] (hu : SlC w Y s u m ys) (h1 : ∀ x ∈ ys, x.oneCell' = true) (h63 : k + m ≤ maxLen) (hb : (k + m) * bytes ≤ 140737488355328) (hd : Nat.blt d n = true)
    (h : ∀ v' w', ExtX w (fun b => v.ownBlock = some b) w' → Mem w0 X (G (.own v' e s (k + m) (xs ++ ys))) w' → YL F q P n ops Q rest ((d, v') :: σ) w') :
    YL F q P n ops Q (⟨some d, .call ⟨.builtin .append, #[x, y], #[t, t]⟩, ty, pos, after, none⟩ :: rest) σ w := by
  obtain ⟨A, B, rfl, hF⟩ := i.h
  have hown : OwnR w e s v k xs := hM.ok (.own v e s k xs) (by simp)
  obtain ⟨v', w', hr, h2, h3, h4⟩ := run_append (P := P) (t := t) (ty := ty) hown hu h1 h63 hb
  refine ⟨fun a ha => wpListIn_plain rfl fun K hK => ?_⟩
  unfold Oper.wpIn
  refine ⟨fun f _ => WF.fn f, ?_⟩
  rw [Oper.semAt_plain F _ _ (noDefer_spec rfl), exec_builtin (P := P) rfl (r := .ok (.value v') w') (fun cs => by simp [ha.ag _ _ hx, ha.ag _ _ hy, builtin, hr])]
  refine hK _ _ ((h v' w' h3 ?_).h _ (ha.put hd))
  rw [hF]
  exact hM.turn (c' := .own v' e s (k + m) (xs ++ ys)) h3 h2 h4
end
theorem YL.bslice {F : Fence} [WF F] {q : Nat} {P : Program} {n : Nat} {ops : Array Oper} {Q : Post} {rest : List Oper} {σ : Env} {w w0 : World} {X : Nat → Prop} {L : List Chunk} {d : Nat} {ty : TypeId} {pos : String} {after : Array Edge}
    {t e s by' len : Nat} {z : Value} {parts : Array (Nat × Operand)} {vs : List Value} {xs : List Value} [TU P t (.slice e)] [te : TE P e s by' z] (hM : Mem w0 X L w)
    (hi : parts.toList.map (·.1) = List.range len) (hv : evs σ (parts.toList.map (·.2)) = some vs) (hxs : flat vs = some xs) (hs : ∀ v ∈ vs, v.cells.size = s) (hb : len * s ≤ 16777216) (hd : Nat.blt d n = true)
    (h : ∀ g w', Mem w0 X (.own (.slice (some ⟨g, 0, none⟩) len len) e s len xs :: L) w' → YL F q P n ops Q rest ((d, .slice (some ⟨g, 0, none⟩) len len) :: σ) w') :
    YL F q P n ops Q (⟨some d, .buildSlice t len parts, ty, pos, after, none⟩ :: rest) σ w := by
  have hlen : vs.length = len := by
    have h2 := congrArg List.length hi
    have : ∀ (l : List Operand) (us : List Value), evs σ l = some us → us.length = l.length := by
      intro l
      induction l with
      | nil => intro us h; simp [evs] at h; simp [← h]
      | cons a r ih =>
        intro us h
        simp only [evs] at h
        cases ha : ev σ a with
        | none => simp [ha] at h
        | some v =>
          rw [ha] at h
          cases hr : evs σ r with
          | none => simp [hr] at h
          | some ws => simp [hr] at h; subst h; simp [ih _ hr]
    have := this _ _ hv
    simp at this h2; omega
  have hfl : ∀ (l : List Value), (∀ v ∈ l, v.cells.size = s) → ((l.map (·.cells.toList)).flatten).length = l.length * s := by
    intro l
    induction l with
    | nil => intro _; simp
    | cons a r ih => intro h; simp only [List.map_cons, List.flatten_cons, List.length_append, Array.length_toList, List.length_cons, Nat.succ_mul]; rw [ih (fun v hv => h v (by simp [hv])), h a (by simp)]; omega
  have hz := te.hz
  have hs0 := te.pos
  have i1 := te.ti
  have i2 := te.tz
  have hrb := run_buildSlice (P := P) (w := w) (t := t) (e := e) hz hs0 hi hv hs hb
  have hle : (vs.map (·.cells.toList)).flatten.length = len * s := by rw [hfl _ hs, hlen]
  rw [flat_eq _ _ hxs] at hrb hle
  refine YL.buildSlice hM hrb hle ?_ hd h
  have : len ≤ len * s := Nat.le_mul_of_pos_right _ hs0
  simp only [maxLen]; omega

/-- Chunks of cells abide what turns no cells. -/
theorem Mem.grown {w0 w w' : World} {L : List Chunk} {row : Option Nat} (h : Mem w0 No L w) (hg : w.grownBy w' row) (hr : ∀ r, row = some r → w0.heap.size ≤ r ∧ ∀ c ∈ L, c.fp ≠ some r) : Mem w0 No L w' := by
  have he : ExtX w (fun k => some k = row) w' := ⟨hg.os, hg.tape, hg.output, hg.size, fun k hk hx => hg.block k hk hx⟩
  refine ⟨h.ext.trans he (fun _ h => h) (fun b hb hx => ?_), fun c hc => Chunk.stays (h.ok c hc) fun g hgf => hg.block g (Chunk.lt (h.ok c hc) g hgf) (fun e => (hr g e.symm).2 c hc hgf), h.ap, h.mine⟩
  have := (hr b hx.symm).1
  omega

abbrev SeqI (w : World) (Bs : Nat) (pre : List Pt) (W : World) : Prop := ∃ sv, Mem w No [.blk Bs (.cells #[sv] 33), .own sv 41 33 pre.length ((pre.map Pt.cells).flatten)] W
theorem seqM_own {w W W' : World} {Bs : Nat} {sv : Value} {k : Nat} {xs : List Value} {row : Option Nat} (hM : Mem w No [.blk Bs (.cells #[sv] 33), .own sv 41 33 k xs] W) (hg : W.grownBy W' row)
    (hr : ∀ r, row = some r → w.heap.size ≤ r ∧ ∃ o : Obj, W.heap[r]? = some o ∧ o.isCells = false) : Mem w No [.blk Bs (.cells #[sv] 33), .own sv 41 33 k xs] W' := hM.grown hg fun r e => by
  obtain ⟨h1, o, ho, hc⟩ := hr r e
  refine ⟨h1, fun c hcm hfp => ?_⟩
  have hok := hM.ok c hcm
  simp only [List.mem_cons, List.not_mem_nil, or_false] at hcm
  rcases hcm with rfl | rfl
  · simp only [Chunk.fp, Option.some.injEq] at hfp
    subst hfp
    rw [show W.heap[Bs]? = _ from hok] at ho
    cases ho; cases hc
  · rcases hok.2 with ⟨rfl, _⟩ | ⟨g, cap, cur, rfl, hg', _⟩
    · simp [Chunk.fp, Value.ownBlock] at hfp
    · simp [Chunk.fp, Value.ownBlock] at hfp
      subst hfp
      rw [hg'] at ho
      cases ho; cases hc
theorem seqI_own (w : World) (Bs B : Nat) (hB : w.heap.size ≤ B) : OwnFrom B (SeqI w Bs) := fun pre W W' row ⟨sv, hM⟩ hg hr => ⟨sv, seqM_own hM hg fun r e => ⟨Nat.le_trans hB (hr r e).1, (hr r e).2⟩⟩

theorem keeps_of {w W W' : World} {Bs : Nat} {sv : Value} {k : Nat} {xs : List Value} (hM : Mem w No [.blk Bs (.cells #[sv] 33), .own sv 41 33 k xs] W) (he : ExtX W (fpIn [.blk Bs (.cells #[sv] 33), .own sv 41 33 k xs]) W') : KeepsOthers W W' := by
  refine ⟨he.size, fun j o hj ho => (he.keep j (Array.getElem?_eq_some_iff.1 hj).1 fun ⟨c, hc, hf⟩ => ?_).trans hj⟩
  have hok := hM.ok c hc
  simp only [List.mem_cons, List.not_mem_nil, or_false] at hc
  rcases hc with rfl | rfl
  · simp only [Chunk.fp, Option.some.injEq] at hf
    subst hf
    rw [show W.heap[Bs]? = _ from hok] at hj
    cases hj; cases ho
  · rcases hok.2 with ⟨rfl, _⟩ | ⟨g, cap, cur, rfl, hg', _⟩
    · simp [Chunk.fp, Value.ownBlock] at hf
    · simp [Chunk.fp, Value.ownBlock] at hf
      subst hf
      rw [hg'] at hj
      cases hj; cases ho

theorem AppendSeq_ok (Bm b : Nat) (m : CMap) (es : Array MapEntry) (clk : Nat) (fz : Nat × Nat) (w : World) (hBm : w.heap[Bm]? = some (.cells #[.map (some b)] 57 fz)) (hm : w.heap[b]? = some (.map es clk)) (hO : CObj m es clk) (hn : m.length ≤ 100000) :
    Ret P 45 #[.slice none 0 0, .func (.func KF) #[] #[.pointer (some ⟨Bm, 0, none⟩)]] w (fun r w' => Ext w w' ∧ ∃ xs : List Pt, xs.Perm (m.map (·.1)) ∧ NewO w w' 41 33 r xs.length ((xs.map Pt.cells).flatten)) := by
  refine ⟨(callsIn_wide (n := 100)).1 ?_⟩
  refine YC.enterM Tryd.func45 rfl Tryd.ntmps45 rfl [(0, .slice none 0 0), (1, .func (.func KF) #[] #[.pointer (some ⟨Bm, 0, none⟩)])] ⟨rfl, rfl, trivial⟩ ?_
  refine YC.seq ?_
  refine YC.region ?_
  refine YL.vw (vw_box rfl) rfl ?_
  refine YL.val (r_assign rfl) rfl ?_; refine YL.nil ?_; refine YP.then ?_; refine YC.seq ?_; refine YC.seq ?_; refine YC.region ?_; refine YL.val (r_move rfl) rfl ?_; refine YL.nil ?_; refine YP.then ?_; refine YC.block ?_
  obtain ⟨w1, hw1⟩ : ∃ w1, w.alloc (.cells (Value.slice none 0 0).cells 33) = w1 := ⟨_, rfl⟩
  have M1 : Mem w No [.blk w.heap.size (.cells #[.slice none 0 0] 33)] w1 := by rw [← hw1]; exact (Mem.start w No).push (Upd.alloc w _) rfl
  have M2 : SeqI w w.heap.size [] w1 := ⟨_, (M1.nilOwn _ _).swap⟩
  rw [hw1]
  refine ⟨fun a ha => ?_⟩
  have hBm1 := M1.ext.at hBm id
  have hm1 := M1.ext.at hm id
  refine wpIn_rangeFunc_ownH rfl (by decide) (gf := KF) (lb := #[.pointer (some ⟨Bm, 0, none⟩)]) (ha.ag _ _ rfl) trivial (fun args w => FN.h args w) (keys1_stops 99 Bm b m es clk fz w1 hBm1 hm1 hO) walksK_t walksK_b (Below.refl _ _) (fun _ => rfl)
    (SeqI w w.heap.size) (fun _ _ _ => False) (seqI_own w _ _ M1.ext.size) (fun _ _ _ _ _ hs _ _ => hs) M2
    (fun x a' W => ∃ b5, W.heap[b5]? = some (.cells x.cells.toArray 41 (0, 0)) ∧ FR 13 [(5, .pointer (some ⟨b5, 0, none⟩)), (2, .pointer (some ⟨w.heap.size, 0, none⟩))] a') ?_ ?assign ?body ?done ?stop
  · intro x a' _ W W' row ⟨b5, h5, hF⟩ hg hr
    refine ⟨b5, (hg.block b5 (Array.getElem?_eq_some_iff.1 h5).1 (fun e => ?_)).trans h5, hF⟩
    obtain ⟨_, o, ho, hc⟩ := hr b5 e.symm
    rw [h5] at ho
    cases ho; cases hc
  case assign =>
    intro l pre x W K hI hK
    obtain ⟨sv, hM⟩ := hI
    have hF : FR 13 ((7, x.v) :: _) (a.put (some 7) x.v) := ha.put rfl
    have e1 : ({ tmps := (#[7].zip #[x.v]).foldl (fun t (p, v) => t.setIfInBounds p v) a.tmps, defers := [] } : Act) = a.put (some 7) x.v := by
      simp [Act.put, ha.defers]
    rw [e1]
    refine YC.h (σ := _) ?_ _ hF
    refine YC.region ?_
    refine YL.vw vw_alloc rfl ?_
    have hnew := heap_alloc_new W (.cells (Value.agg (List.replicate 32 (Value.int .u8 0) ++ [(Value.int .u32 0)]).toArray).cells 41)
    refine YL.unit (uw_store (v := x.v) rfl rfl hnew x.size (by decide) x.one) ?_
    rw [splice_all (by rw [show (x.v).cells = x.cells.toArray from rfl, x.size]; rfl)]
    have hg3 := grown_box (w := W) (t := 41) (cs := (Value.agg (List.replicate 32 (Value.int .u8 0) ++ [(Value.int .u32 0)]).toArray).cells) (cs' := x.v.cells)
    have hb3 := setRow_heap _ _ _ x.v.cells _ _ hnew
    refine YL.nil ⟨fun a3 ha3 => ?_⟩
    refine hK a3 _ (KeepsFrom.of_grownBy hg3 (fun j e => by cases e)) ⟨hg3.size, fun k o hk ho => (hg3.block k (Array.getElem?_eq_some_iff.1 hk).1 (by simp)).trans hk⟩ ⟨sv, hM.grown hg3 (fun r e => by cases e)⟩ ⟨_, hb3, ha3.sub ⟨rfl, rfl, trivial⟩⟩
  case stop =>
    intro D c pre W _ _ h _
    exact h.elim
  case body =>
    rintro l pre x a' W hl ⟨rl, hrl⟩ ⟨sv, hM⟩ ⟨b5, h5, hF⟩ hlt
    refine YC.h (σ := _) ?_ _ hF
    refine YC.block ?_
    refine YC.region ?_
    refine YL.val (v := sv) (r_load1 rfl (hM.get (b := w.heap.size) inferInstance) rfl) rfl ?_
    refine YL.val (r_loadW rfl h5 x.size) rfl ?_
    have hM' := hM.rebase
    refine YL.bslice hM' rfl rfl rfl (by simp [Value.cells, Pt.length]) (by decide) rfl (fun g w6 M6 => ?_)
    refine YL.append M6 rfl rfl (M6.own.slc (X := No) (fun _ _ h => h)) (by have := pts_one [x]; simpa using this) (by simp only [maxLen]; omega) (by omega) rfl (fun v7 w7 E7 M7 => ?_)
    obtain ⟨pv, cv, hv7⟩ := (M7.sub [2] rfl).own.shape
    refine YL.unit (uw_store1 (v := v7) rfl rfl (M7.get (b := w.heap.size) inferInstance) (by simp) (by rw [hv7]; rfl)) ?_
    have M8 := M7.upd (b := w.heap.size) (o' := .cells #[v7] 33) inferInstance (Upd.setRow (M7.get (b := w.heap.size) inferInstance))
    refine YL.nil ⟨fun a3 ha3 => ?_⟩
    have hko := keeps_of hM M8.ext
    have M9 := hM.join M8
    refine ⟨hko.from _, ⟨hko.size, fun k o hk ho => hko.same k o hk (by cases o <;> first | rfl | cases ho)⟩, v7, ?_⟩
    have M10 := M9.drop
    simpa using M10
  case done =>
    intro D xs W hD hS hI hK
    obtain ⟨sv, hM⟩ := hI
    have hM2 := seqM_own hM (grownBy_putObj' W D (.deferred none)) (fun r e => by cases e; exact ⟨Nat.le_trans M1.ext.size hD, _, hK, rfl⟩)
    obtain ⟨ps, cs, hsv⟩ := (hM.sub [1] rfl).own.shape
    refine (show Code.wpIn _ _ _ _ _ _ _ from ?_)
    refine wpIn_seq (wpIn_region_lit ?_)
    have h1 : FR 13 _ (a.put (some 12) sv) := ha.put rfl
    have hag : Ag (Act.eval { tmps := a.tmps, defers := { target := .collected D, args := #[] } :: a.defers }) _ := ha.ag
    have hag1 : Ag (Act.eval (Act.put { tmps := a.tmps, defers := { target := .collected D, args := #[] } :: a.defers } (some 12) sv)) _ := h1.ag
    have h2 : FR 13 _ ((a.put (some 12) sv).put (some 4) sv) := h1.put rfl
    refine wpListIn_plain rfl fun K hK1 => ?_
    unfold Oper.wpIn
    refine ⟨fun f _ => trivial, ?_⟩
    rw [Oper.semAt_plain Fence.wide _ _ (noDefer_spec rfl), (r_load1 (P := P) (v := sv) rfl (hM.get (b := w.heap.size) inferInstance) rfl).h _ hag _ rfl]
    refine hK1 _ _ ?_
    refine wpListIn_plain rfl fun K hK2 => ?_
    unfold Oper.wpIn
    refine ⟨fun f _ => trivial, ?_⟩
    rw [Oper.semAt_plain Fence.wide _ _ (noDefer_spec rfl), (r_assign (P := P) (v := sv) rfl).h _ hag1 _ rfl]
    refine hK2 _ _ ?_
    refine wpListIn_nil ?_
    refine (show Code.wpIn _ _ _ _ _ _ _ from ?_)
    refine wpIn_ret ?_
    refine ⟨by simp, .inl ⟨_, _, rfl, run_takeDeferred hK, ?_⟩⟩
    rw [ha.defers]
    refine ⟨sv, ?_, sv, rfl, hM2.ext, xs, hS, ⟨hM2.drop.own, fun g hg => ?_⟩⟩
    · have h4 := h2.at' 4 sv rfl
      rw [results_tmp rfl]
      have h5 : ((({ tmps := a.tmps, defers := { target := .collected D, args := #[] } :: a.defers } : Act).put (some 12) sv).put (some 4) sv).tmps[4]? = some sv := h4
      rw [Array.getD_eq_getD_getElem?]
      exact congrArg (fun o => Result.ok (o.getD undef) _) h5
    · exact (hM2.mine _ (List.mem_cons_of_mem _ (List.mem_cons_self ..)) g hg).resolve_left (fun h => h)
end Go.Proofs.YthcgmdmdgpljmaaDoor.Z
