/- A call that only lays new blocks and draws: its world, exactly. -/
import Derived.Test.YthcgmdmdgpljmaaDoorPtCmp
import Derived.Sort.Grow
import Derived.Deep.Draws
set_option linter.unusedVariables false
set_option linter.unusedSimpArgs false
set_option linter.unusedSectionVars false
set_option maxRecDepth 100000
set_option maxHeartbeats 4000000
namespace Go.Proofs.YthcgmdmdgpljmaaDoor.Z
open Go Go.RowKit Go.Sort

def Grow (w w' : World) : Prop := ∃ q os, w' = grow (w.drewN q) os
theorem Grow.refl (w : World) : Grow w w := ⟨0, #[], by simp [World.drewN]⟩
theorem Grow.alloc {w w' : World} (h : Grow w w') (o : Obj) : Grow w (w'.alloc o) := by
  obtain ⟨q, os, rfl⟩ := h
  refine ⟨q, os ++ #[o], ?_⟩
  rw [alloc_eq_grow, grow_grow]
theorem Grow.drew {w w' : World} (h : Grow w w') : Grow w { w' with drawn := w'.drawn + 1 } := by
  obtain ⟨q, os, rfl⟩ := h
  exact ⟨q + 1, os, by simp [grow, World.drewN, Nat.add_assoc]⟩
theorem Grow.trans {w w1 w2 : World} (h : Grow w w1) (k : Grow w1 w2) : Grow w w2 := by
  obtain ⟨q, os, rfl⟩ := h
  obtain ⟨q', os', rfl⟩ := k
  exact ⟨q + q', os ++ os', by simp [grow, World.drewN, Nat.add_assoc, Array.append_assoc]⟩

section
variable {P : Program} {n : Nat} {ops : Array Oper} {Q : Post} {rest : List Oper} {σ : Env} {w w0 : World} {X : Nat → Prop} {L L' : List Chunk}
variable {d : Nat} {ty : TypeId} {pos : String} {after : Array Edge} {x y : Operand}
theorem ZL.boxE {t : TypeId} {v : Value} {cs : Array Value} (hM : Mem w0 X L w) (hG : Grow w0 w) (hx : ev σ x = some v) (hz : vcells v = some cs) (hd : Nat.blt d n = true)
    (h : ∀ b w', Mem w0 X (.blk b (.cells cs t) :: L) w' → Grow w0 w' → ZL P n ops Q rest ((d, .pointer (some ⟨b, 0, none⟩)) :: σ) w') : ZL P n ops Q (⟨some d, .box t x, ty, pos, after, none⟩ :: rest) σ w := by
  refine ZL.vw (vw_box hx) hd (h _ _ ?_ (hG.alloc _))
  rw [vcells_eq hz]
  exact hM.push (Upd.alloc w _) rfl
end

section
variable {P : Program} {n : Nat} {ops : Array Oper} {Q : Post} {S : World → Prop} {k g fuel : Nat} {l2 : List Oper} {listed listed' : Array Bool} {σ : Env} {w : World}
theorem ZC.turningG {id : Nat} {l : List Oper} [FO P] (S : World → Prop) (k : Nat) {m : Nat} {ls : Array Bool} (hm : l.length = m) (hB : tailB l.toArray k = true) (h2 : l.drop k = l2) (hg : m - k = g) (hls : Array.replicate m false = ls)
    (h : ∀ w', Ext w w' → w'.heap = w.heap → (∀ w0, Grow w0 w → Grow w0 w') → ZT P n l.toArray Q S k g l2 k ls σ w') : ZC P n Q (.region id l.toArray true) σ w := by
  subst hm; subst hls; subst h2; subst hg
  simp only [tailB, Bool.and_eq_true] at hB
  obtain ⟨⟨⟨hsel, hn⟩, hs⟩, hc⟩ := hB
  have hn' : k < l.length := by simpa [Nat.blt_eq] using hn
  refine ⟨fun a ha => ?_⟩
  have inv0 : HeadInv .any l.toArray k (Array.replicate l.length false) :=
    ⟨by simp, fun j oj _ hl => (by rw [getD_replicate_false] at hl; cases hl), fun t _ ht => getD_in (by simpa using ht) (getD_replicate_false _ _)⟩
  have H := (h { w with drawn := w.drawn + 1 } (drew_ext w _) rfl (fun w0 hG => hG.drew)).h a ha inv0
  refine wp_region_any FO.h ?_
  have := wpAny_of_T (P := P) (md := .any) (Q := Q) (g := l.length - k) (fun listed a' w' hL => by
    have := wpAny_of_seq (md := .any) (Q' := Q) (l.drop k) k listed a' w' (fun j => by simp [List.getElem?_drop]) (by rw [List.length_drop]; exact hL.1) hL.2
    rwa [List.length_drop] at this) _ _ _ _ H
  rw [show k + (l.length - k) = l.length by omega] at this
  simpa using this

theorem ZC.tailG {id : Nat} {l l1 l2 : List Oper} [FO P] (k : Nat) (hB : Region.lexTailB .any l.toArray k = true) (h1 : l.take k = l1) (h2 : l.drop k = l2)
    (h : ∀ w', Ext w w' → w'.heap = w.heap → (∀ w0, Grow w0 w → Grow w0 w') → ZS P n l.toArray (fun a => wpList P l.toArray Q l2 a w') l1 σ w') : ZC P n Q (.region id l.toArray true) σ w := by
  subst h1; subst h2
  exact ⟨fun a ha => wp_region_still_tail k FO.h hB ((h { w with drawn := w.drawn + 1 } (drew_ext w _) rfl (fun w0 hG => hG.drew)).h a ha)⟩
end

theorem shasCompareG (a b : B32) (w : World) :
    Ret P 37 #[a.v, b.v] w (fun r w' => Ext w w' ∧ Grow w w' ∧ r = .int .i64 (Go.Lib.compareBytes a.val b.val)) := by
  refine Ret.enter2 Tryd.func37 rfl Tryd.ntmps37 rfl ?_
  repeat (first | (first | refine ZC.seq ?_ | refine ZC.region ?_ | refine ZC.skip ?_ | refine ZC.ret ?_ | refine ZC.exit ?_ | refine ZC.block ?_ | refine ZL.nil ?_ | refine ZP.thenX ?_ | refine ZP.thenR ?_ | refine ZP.blockN ?_ | refine ZP.blockR ?_ | refine ZP.blockE ?_ | refine ZP.blockX rfl ?_ | refine ZP.then ?_) | (first | refine ZL.val (r_move rfl) rfl ?_ | refine ZL.val (r_assign rfl) rfl ?_ | refine ZL.val (r_fieldAddr rfl) rfl ?_ | refine ZL.val (r_add rfl rfl (wrap_i64 (by omega) (by omega))) rfl ?_ | refine ZL.val (r_sub rfl rfl (wrap_i64 (by omega) (by omega))) rfl ?_ | refine ZL.val (r_mul rfl rfl (wrap_i64 (by omega) (by omega))) rfl ?_  | refine ZL.val (r_lss rfl rfl) rfl ?_ | refine ZL.val (r_leq rfl rfl) rfl ?_ | refine ZL.val (r_gtr rfl rfl) rfl ?_ | refine ZL.val (r_geq rfl rfl) rfl ?_ | refine ZL.val (r_eql rfl rfl) rfl ?_ | refine ZL.val (r_neq rfl rfl) rfl ?_ | refine ZL.val (r_not rfl) rfl ?_  | refine ZL.val (r_lenSlice rfl) rfl ?_ | refine ZL.val (r_lenString rfl) rfl ?_ | refine ZL.val (r_extract rfl rfl) rfl ?_ | refine ZL.val (r_nilCheck rfl) rfl ?_ | refine ZL.val (r_makeFunc rfl rfl) rfl ?_ | refine ZL.val (r_eqlPtrNil rfl rfl) rfl ?_ | refine ZL.val (r_pickT rfl rfl) rfl ?_ | refine ZL.val (r_pickF rfl rfl) rfl ?_  | refine ZL.val (r_eqlSliceNil rfl rfl) rfl ?_ | refine ZL.val (r_max rfl rfl (Int.max_eq_left (by omega))) rfl ?_ | refine ZL.val (r_max rfl rfl (Int.max_eq_right (by omega))) rfl ?_ | refine ZL.val (r_min rfl rfl (Int.min_eq_left (by omega))) rfl ?_ | refine ZL.val (r_min rfl rfl (Int.min_eq_right (by omega))) rfl ?_  | refine ZL.skip rfl rfl rfl rfl ?_ | refine ZL.on rfl rfl rfl ?_  | refine ZL.val (r_convInt rfl (wrap_i64 (by omega) (by omega))) rfl ?_ | refine ZL.val (r_convInt rfl (wrap_u64 (by omega) (by omega))) rfl ?_ | refine ZL.val (r_convInt rfl (wrap_u32 (by omega) (by omega))) rfl ?_ | refine ZL.val (r_convInt rfl (wrap_u8 (by omega) (by omega))) rfl ?_))
  refine ZL.boxE (Mem.start w No) (Grow.refl w) rfl rfl rfl (fun b2 w1 M1 G1 => ?_)
  refine ZL.boxE M1 G1 rfl rfl rfl (fun b3 w2 M2 G2 => ?_)
  repeat (first | (first | refine ZC.seq ?_ | refine ZC.region ?_ | refine ZC.skip ?_ | refine ZC.ret ?_ | refine ZC.exit ?_ | refine ZC.block ?_ | refine ZL.nil ?_ | refine ZP.thenX ?_ | refine ZP.thenR ?_ | refine ZP.blockN ?_ | refine ZP.blockR ?_ | refine ZP.blockE ?_ | refine ZP.blockX rfl ?_ | refine ZP.then ?_) | (first | refine ZL.val (r_move rfl) rfl ?_ | refine ZL.val (r_assign rfl) rfl ?_ | refine ZL.val (r_fieldAddr rfl) rfl ?_ | refine ZL.val (r_add rfl rfl (wrap_i64 (by omega) (by omega))) rfl ?_ | refine ZL.val (r_sub rfl rfl (wrap_i64 (by omega) (by omega))) rfl ?_ | refine ZL.val (r_mul rfl rfl (wrap_i64 (by omega) (by omega))) rfl ?_  | refine ZL.val (r_lss rfl rfl) rfl ?_ | refine ZL.val (r_leq rfl rfl) rfl ?_ | refine ZL.val (r_gtr rfl rfl) rfl ?_ | refine ZL.val (r_geq rfl rfl) rfl ?_ | refine ZL.val (r_eql rfl rfl) rfl ?_ | refine ZL.val (r_neq rfl rfl) rfl ?_ | refine ZL.val (r_not rfl) rfl ?_  | refine ZL.val (r_lenSlice rfl) rfl ?_ | refine ZL.val (r_lenString rfl) rfl ?_ | refine ZL.val (r_extract rfl rfl) rfl ?_ | refine ZL.val (r_nilCheck rfl) rfl ?_ | refine ZL.val (r_makeFunc rfl rfl) rfl ?_ | refine ZL.val (r_eqlPtrNil rfl rfl) rfl ?_ | refine ZL.val (r_pickT rfl rfl) rfl ?_ | refine ZL.val (r_pickF rfl rfl) rfl ?_  | refine ZL.val (r_eqlSliceNil rfl rfl) rfl ?_ | refine ZL.val (r_max rfl rfl (Int.max_eq_left (by omega))) rfl ?_ | refine ZL.val (r_max rfl rfl (Int.max_eq_right (by omega))) rfl ?_ | refine ZL.val (r_min rfl rfl (Int.min_eq_left (by omega))) rfl ?_ | refine ZL.val (r_min rfl rfl (Int.min_eq_right (by omega))) rfl ?_  | refine ZL.skip rfl rfl rfl rfl ?_ | refine ZL.on rfl rfl rfl ?_  | refine ZL.val (r_convInt rfl (wrap_i64 (by omega) (by omega))) rfl ?_ | refine ZL.val (r_convInt rfl (wrap_u64 (by omega) (by omega))) rfl ?_ | refine ZL.val (r_convInt rfl (wrap_u32 (by omega) (by omega))) rfl ?_ | refine ZL.val (r_convInt rfl (wrap_u8 (by omega) (by omega))) rfl ?_))
  refine ZC.tailG 2 (by kernel_rfl) rfl rfl (fun w3 E3 _ hG => ?_)
  have M3 := M2.ext' E3
  have G3 := hG _ G2
  repeat (first | (first | refine ZS.val (r_move rfl) rfl ?_ | refine ZS.val (r_assign rfl) rfl ?_ | refine ZS.val (r_fieldAddr rfl) rfl ?_ | refine ZS.val (r_add rfl rfl (wrap_i64 (by omega) (by omega))) rfl ?_ | refine ZS.val (r_sub rfl rfl (wrap_i64 (by omega) (by omega))) rfl ?_ | refine ZS.val (r_mul rfl rfl (wrap_i64 (by omega) (by omega))) rfl ?_ | refine ZS.val (r_lss rfl rfl) rfl ?_ | refine ZS.val (r_leq rfl rfl) rfl ?_ | refine ZS.val (r_gtr rfl rfl) rfl ?_ | refine ZS.val (r_geq rfl rfl) rfl ?_ | refine ZS.val (r_eql rfl rfl) rfl ?_ | refine ZS.val (r_neq rfl rfl) rfl ?_ | refine ZS.val (r_not rfl) rfl ?_ | refine ZS.val (r_lenSlice rfl) rfl ?_ | refine ZS.val (r_lenString rfl) rfl ?_ | refine ZS.val (r_extract rfl rfl) rfl ?_ | refine ZS.val (r_nilCheck rfl) rfl ?_ | refine ZS.val (r_makeFunc rfl rfl) rfl ?_ | refine ZS.val (r_eqlPtrNil rfl rfl) rfl ?_ | refine ZS.val (r_pickT rfl rfl) rfl ?_ | refine ZS.val (r_pickF rfl rfl) rfl ?_ | refine ZS.val (r_eqlSliceNil rfl rfl) rfl ?_ | refine ZS.val (r_max rfl rfl (Int.max_eq_left (by omega))) rfl ?_ | refine ZS.val (r_max rfl rfl (Int.max_eq_right (by omega))) rfl ?_ | refine ZS.val (r_min rfl rfl (Int.min_eq_left (by omega))) rfl ?_ | refine ZS.val (r_min rfl rfl (Int.min_eq_right (by omega))) rfl ?_ | refine ZS.val (r_convInt rfl (wrap_i64 (by omega) (by omega))) rfl ?_ | refine ZS.val (r_convInt rfl (wrap_u64 (by omega) (by omega))) rfl ?_ | refine ZS.val (r_convInt rfl (wrap_u32 (by omega) (by omega))) rfl ?_ | refine ZS.val (r_convInt rfl (wrap_u8 (by omega) (by omega))) rfl ?_) | refine ZS.val (r_addU rfl rfl) rfl ?_ | refine ZS.val (r_xorU rfl rfl) rfl ?_ | refine ZS.val (r_orU rfl rfl) rfl ?_ | refine ZS.val (r_andU rfl rfl) rfl ?_ | refine ZS.val (r_complU rfl) rfl ?_ | refine ZS.val (r_convU rfl) rfl ?_ | refine ZS.val (r_convB rfl) rfl ?_ | refine ZS.val (r_sliceArr rfl) rfl ?_ | refine ZS.nil ?_ | refine ZS.tail ?_)
  refine ZL.call (r_call rfl) rfl (bytesCompare_ok _ _ a.val b.val w3 No No (M3.slArr (x := a) inferInstance id) (M3.slArr (x := b) inferInstance id)) (fun v4 w4 hv => ?_)
  obtain ⟨rfl, rfl⟩ := hv
  repeat (first | (first | refine ZC.seq ?_ | refine ZC.region ?_ | refine ZC.skip ?_ | refine ZC.ret ?_ | refine ZC.exit ?_ | refine ZC.block ?_ | refine ZL.nil ?_ | refine ZP.thenX ?_ | refine ZP.thenR ?_ | refine ZP.blockN ?_ | refine ZP.blockR ?_ | refine ZP.blockE ?_ | refine ZP.blockX rfl ?_ | refine ZP.then ?_) | (first | refine ZL.val (r_move rfl) rfl ?_ | refine ZL.val (r_assign rfl) rfl ?_ | refine ZL.val (r_fieldAddr rfl) rfl ?_ | refine ZL.val (r_add rfl rfl (wrap_i64 (by omega) (by omega))) rfl ?_ | refine ZL.val (r_sub rfl rfl (wrap_i64 (by omega) (by omega))) rfl ?_ | refine ZL.val (r_mul rfl rfl (wrap_i64 (by omega) (by omega))) rfl ?_  | refine ZL.val (r_lss rfl rfl) rfl ?_ | refine ZL.val (r_leq rfl rfl) rfl ?_ | refine ZL.val (r_gtr rfl rfl) rfl ?_ | refine ZL.val (r_geq rfl rfl) rfl ?_ | refine ZL.val (r_eql rfl rfl) rfl ?_ | refine ZL.val (r_neq rfl rfl) rfl ?_ | refine ZL.val (r_not rfl) rfl ?_  | refine ZL.val (r_lenSlice rfl) rfl ?_ | refine ZL.val (r_lenString rfl) rfl ?_ | refine ZL.val (r_extract rfl rfl) rfl ?_ | refine ZL.val (r_nilCheck rfl) rfl ?_ | refine ZL.val (r_makeFunc rfl rfl) rfl ?_ | refine ZL.val (r_eqlPtrNil rfl rfl) rfl ?_ | refine ZL.val (r_pickT rfl rfl) rfl ?_ | refine ZL.val (r_pickF rfl rfl) rfl ?_  | refine ZL.val (r_eqlSliceNil rfl rfl) rfl ?_ | refine ZL.val (r_max rfl rfl (Int.max_eq_left (by omega))) rfl ?_ | refine ZL.val (r_max rfl rfl (Int.max_eq_right (by omega))) rfl ?_ | refine ZL.val (r_min rfl rfl (Int.min_eq_left (by omega))) rfl ?_ | refine ZL.val (r_min rfl rfl (Int.min_eq_right (by omega))) rfl ?_  | refine ZL.skip rfl rfl rfl rfl ?_ | refine ZL.on rfl rfl rfl ?_  | refine ZL.val (r_convInt rfl (wrap_i64 (by omega) (by omega))) rfl ?_ | refine ZL.val (r_convInt rfl (wrap_u64 (by omega) (by omega))) rfl ?_ | refine ZL.val (r_convInt rfl (wrap_u32 (by omega) (by omega))) rfl ?_ | refine ZL.val (r_convInt rfl (wrap_u8 (by omega) (by omega))) rfl ?_))
  exact ZP.ret1 rfl rfl ⟨M3.ext, G3, rfl⟩

section
variable {P : Program} {n : Nat} {ops : Array Oper} {Q : Post} {rest : List Oper} {σ : Env} {w w0 : World} {X : Nat → Prop} {L L' : List Chunk}
variable {d : Nat} {ty : TypeId} {pos : String} {after : Array Edge} {x y : Operand}
theorem ZL.buildSliceE {t e s len : Nat} {parts : Array (Nat × Operand)} {cs : List Value} (hM : Mem w0 X L w) (hG : Grow w0 w)
    (hb : ∀ ρ, Ag ρ σ → (Instr.buildSlice t len (parts.map fun (i, x) => (i, ρ x))).run P w = .ok (.slice (some ⟨w.heap.size, 0, none⟩) len len) (w.alloc (.cells cs.toArray e)))
    (hl : cs.length = len * s) (hm : len ≤ maxLen) (hd : Nat.blt d n = true)
    (h : ∀ g w', Mem w0 X (.own (.slice (some ⟨g, 0, none⟩) len len) e s len cs :: L) w' → Grow w0 w' → ZL P n ops Q rest ((d, .slice (some ⟨g, 0, none⟩) len len) :: σ) w') :
    ZL P n ops Q (⟨some d, .buildSlice t len parts, ty, pos, after, none⟩ :: rest) σ w := by
  have hv : VW P σ (.buildSlice t len parts) (.slice (some ⟨w.heap.size, 0, none⟩) len len) w (w.alloc (.cells cs.toArray e)) := by
    refine ⟨fun ρ ha o ho => ?_⟩; simp [execOp, ho, hb ρ ha]
  refine ZL.vw hv hd (h _ _ ?_ (hG.alloc _))
  have hpush := hM.push (Upd.alloc w (.cells cs.toArray e)) rfl
  refine Mem.add hpush.drop (c := .own (.slice (some ⟨w.heap.size, 0, none⟩) len len) e s len cs) ⟨hl, .inr ⟨_, len, cs.toArray, rfl, hpush.ok (.blk w.heap.size (.cells cs.toArray e)) (by simp), Nat.le_refl _, hm, by simp [hl], by rw [← hl]; simp⟩⟩ ?_
  intro g hg
  simp only [Chunk.fp, Value.ownBlock, Option.some.injEq] at hg
  subst hg
  refine ⟨hM.ext.size, fun c hc hf => ?_⟩
  have := Chunk.lt (hM.ok c hc) _ hf
  omega
end
theorem ZL.bsliceE {P : Program} {n : Nat} {ops : Array Oper} {Q : Post} {rest : List Oper} {σ : Env} {w w0 : World} {X : Nat → Prop} {L : List Chunk} {d : Nat} {ty : TypeId} {pos : String} {after : Array Edge}
    {t e s by' len : Nat} {z : Value} {parts : Array (Nat × Operand)} {vs : List Value} {xs : List Value} [TU P t (.slice e)] [te : TE P e s by' z] (hM : Mem w0 X L w) (hG : Grow w0 w)
    (hi : parts.toList.map (·.1) = List.range len) (hv : evs σ (parts.toList.map (·.2)) = some vs) (hxs : flat vs = some xs) (hs : ∀ v ∈ vs, v.cells.size = s) (hb : len * s ≤ 16777216) (hd : Nat.blt d n = true)
    (h : ∀ g w', Mem w0 X (.own (.slice (some ⟨g, 0, none⟩) len len) e s len xs :: L) w' → Grow w0 w' → ZL P n ops Q rest ((d, .slice (some ⟨g, 0, none⟩) len len) :: σ) w') :
    ZL P n ops Q (⟨some d, .buildSlice t len parts, ty, pos, after, none⟩ :: rest) σ w := by
  have hlen : vs.length = len := by
    have h2 := congrArg List.length hi
    have : ∀ (l : List Operand) (us : List Value), evs σ l = some us → us.length = l.length := by
      intro l
      induction l with
      | nil => intro us h; simp [evs] at h; simp [← h]
      | cons a r ih =>
        intro us h
        simp only [evs] at h
        cases ha : ev σ a with
        | none => simp [ha] at h
        | some v =>
          rw [ha] at h
          cases hr : evs σ r with
          | none => simp [hr] at h
          | some ws => simp [hr] at h; subst h; simp [ih _ hr]
    have := this _ _ hv
    simp at this h2; omega
  have hfl : ∀ (l : List Value), (∀ v ∈ l, v.cells.size = s) → ((l.map (·.cells.toList)).flatten).length = l.length * s := by
    intro l
    induction l with
    | nil => intro _; simp
    | cons a r ih => intro h; simp only [List.map_cons, List.flatten_cons, List.length_append, Array.length_toList, List.length_cons, Nat.succ_mul]; rw [ih (fun v hv => h v (by simp [hv])), h a (by simp)]; omega
  have hz := te.hz
  have hs0 := te.pos
  have i1 := te.ti
  have i2 := te.tz
  have hrb := run_buildSlice (P := P) (w := w) (t := t) (e := e) hz hs0 hi hv hs hb
  have hle : (vs.map (·.cells.toList)).flatten.length = len * s := by rw [hfl _ hs, hlen]
  rw [flat_eq _ _ hxs] at hrb hle
  refine ZL.buildSliceE hM hG hrb hle ?_ hd h
  have : len ≤ len * s := Nat.le_mul_of_pos_right _ hs0
  simp only [maxLen]; omega

theorem coinCompareG (p q : Pt) (w : World) : Ret P 28 #[p.v, q.v] w (fun r w' => Ext w w' ∧ Grow w w' ∧ r = .int .i64 (cmpP p q)) := by
  refine Ret.enter2 Tryd.func28 rfl Tryd.ntmps28 rfl ?_
  repeat (first | (first | refine ZC.seq ?_ | refine ZC.region ?_ | refine ZC.skip ?_ | refine ZC.ret ?_ | refine ZC.exit ?_ | refine ZC.block ?_ | refine ZL.nil ?_ | refine ZP.thenX ?_ | refine ZP.thenR ?_ | refine ZP.blockN ?_ | refine ZP.blockR ?_ | refine ZP.blockE ?_ | refine ZP.blockX rfl ?_ | refine ZP.then ?_) | (first | refine ZL.val (r_move rfl) rfl ?_ | refine ZL.val (r_assign rfl) rfl ?_ | refine ZL.val (r_fieldAddr rfl) rfl ?_ | refine ZL.val (r_add rfl rfl (wrap_i64 (by omega) (by omega))) rfl ?_ | refine ZL.val (r_sub rfl rfl (wrap_i64 (by omega) (by omega))) rfl ?_ | refine ZL.val (r_mul rfl rfl (wrap_i64 (by omega) (by omega))) rfl ?_  | refine ZL.val (r_lss rfl rfl) rfl ?_ | refine ZL.val (r_leq rfl rfl) rfl ?_ | refine ZL.val (r_gtr rfl rfl) rfl ?_ | refine ZL.val (r_geq rfl rfl) rfl ?_ | refine ZL.val (r_eql rfl rfl) rfl ?_ | refine ZL.val (r_neq rfl rfl) rfl ?_ | refine ZL.val (r_not rfl) rfl ?_  | refine ZL.val (r_lenSlice rfl) rfl ?_ | refine ZL.val (r_lenString rfl) rfl ?_ | refine ZL.val (r_extract rfl rfl) rfl ?_ | refine ZL.val (r_nilCheck rfl) rfl ?_ | refine ZL.val (r_makeFunc rfl rfl) rfl ?_ | refine ZL.val (r_eqlPtrNil rfl rfl) rfl ?_ | refine ZL.val (r_pickT rfl rfl) rfl ?_ | refine ZL.val (r_pickF rfl rfl) rfl ?_  | refine ZL.val (r_eqlSliceNil rfl rfl) rfl ?_ | refine ZL.val (r_max rfl rfl (Int.max_eq_left (by omega))) rfl ?_ | refine ZL.val (r_max rfl rfl (Int.max_eq_right (by omega))) rfl ?_ | refine ZL.val (r_min rfl rfl (Int.min_eq_left (by omega))) rfl ?_ | refine ZL.val (r_min rfl rfl (Int.min_eq_right (by omega))) rfl ?_  | refine ZL.skip rfl rfl rfl rfl ?_ | refine ZL.on rfl rfl rfl ?_  | refine ZL.val (r_convInt rfl (wrap_i64 (by omega) (by omega))) rfl ?_ | refine ZL.val (r_convInt rfl (wrap_u64 (by omega) (by omega))) rfl ?_ | refine ZL.val (r_convInt rfl (wrap_u32 (by omega) (by omega))) rfl ?_ | refine ZL.val (r_convInt rfl (wrap_u8 (by omega) (by omega))) rfl ?_))
  refine ZL.boxE (Mem.start w No) (Grow.refl w) rfl rfl rfl (fun b2 w1 M1 G1 => ?_)
  refine ZL.boxE M1 G1 rfl rfl rfl (fun b3 w2 M2 G2 => ?_)
  repeat (first | (first | refine ZC.seq ?_ | refine ZC.region ?_ | refine ZC.skip ?_ | refine ZC.ret ?_ | refine ZC.exit ?_ | refine ZC.block ?_ | refine ZL.nil ?_ | refine ZP.thenX ?_ | refine ZP.thenR ?_ | refine ZP.blockN ?_ | refine ZP.blockR ?_ | refine ZP.blockE ?_ | refine ZP.blockX rfl ?_ | refine ZP.then ?_) | (first | refine ZL.val (r_move rfl) rfl ?_ | refine ZL.val (r_assign rfl) rfl ?_ | refine ZL.val (r_fieldAddr rfl) rfl ?_ | refine ZL.val (r_add rfl rfl (wrap_i64 (by omega) (by omega))) rfl ?_ | refine ZL.val (r_sub rfl rfl (wrap_i64 (by omega) (by omega))) rfl ?_ | refine ZL.val (r_mul rfl rfl (wrap_i64 (by omega) (by omega))) rfl ?_  | refine ZL.val (r_lss rfl rfl) rfl ?_ | refine ZL.val (r_leq rfl rfl) rfl ?_ | refine ZL.val (r_gtr rfl rfl) rfl ?_ | refine ZL.val (r_geq rfl rfl) rfl ?_ | refine ZL.val (r_eql rfl rfl) rfl ?_ | refine ZL.val (r_neq rfl rfl) rfl ?_ | refine ZL.val (r_not rfl) rfl ?_  | refine ZL.val (r_lenSlice rfl) rfl ?_ | refine ZL.val (r_lenString rfl) rfl ?_ | refine ZL.val (r_extract rfl rfl) rfl ?_ | refine ZL.val (r_nilCheck rfl) rfl ?_ | refine ZL.val (r_makeFunc rfl rfl) rfl ?_ | refine ZL.val (r_eqlPtrNil rfl rfl) rfl ?_ | refine ZL.val (r_pickT rfl rfl) rfl ?_ | refine ZL.val (r_pickF rfl rfl) rfl ?_  | refine ZL.val (r_eqlSliceNil rfl rfl) rfl ?_ | refine ZL.val (r_max rfl rfl (Int.max_eq_left (by omega))) rfl ?_ | refine ZL.val (r_max rfl rfl (Int.max_eq_right (by omega))) rfl ?_ | refine ZL.val (r_min rfl rfl (Int.min_eq_left (by omega))) rfl ?_ | refine ZL.val (r_min rfl rfl (Int.min_eq_right (by omega))) rfl ?_  | refine ZL.skip rfl rfl rfl rfl ?_ | refine ZL.on rfl rfl rfl ?_  | refine ZL.val (r_convInt rfl (wrap_i64 (by omega) (by omega))) rfl ?_ | refine ZL.val (r_convInt rfl (wrap_u64 (by omega) (by omega))) rfl ?_ | refine ZL.val (r_convInt rfl (wrap_u32 (by omega) (by omega))) rfl ?_ | refine ZL.val (r_convInt rfl (wrap_u8 (by omega) (by omega))) rfl ?_))
  refine ZC.turningG (MemS w No [.blk b3 (.cells q.cells.toArray 41), .blk b2 (.cells p.cells.toArray 41)]) 11 rfl (by kernel_rfl) rfl rfl rfl (fun w3 E3 _ hG => ?_)
  have M3 := M2.ext' E3
  have G3 := hG _ G2
  have S3 := MemS.of M3
  refine ZT.take 0 rfl rfl (fun w' hS' => by first | exact r_move rfl | exact r_assign rfl | exact r_fieldAddr rfl | exact r_add rfl rfl (wrap_i64 (by omega) (by omega)) | exact r_sub rfl rfl (wrap_i64 (by omega) (by omega)) | exact r_mul rfl rfl (wrap_i64 (by omega) (by omega)) | exact r_convInt rfl (wrap_u64 (by omega) (by omega)) | exact r_convInt rfl (wrap_i64 (by omega) (by omega)) | exact r_convInt rfl (wrap_u32 (by omega) (by omega)) | exact r_sliceArr rfl | exact r_nilCheck rfl | exact r_extract rfl rfl | exact r_lenSlice rfl | exact r_and rfl rfl rfl | exact r_shr rfl rfl (by omega) rfl | exact r_toB rfl | exact r_toU rfl | exact r_toQ rfl) (by kernel_rfl) rfl (by kernel_rfl) (by kernel_rfl) rfl rfl (fun _ _ _ _ h => h) S3 ?_
  refine ZT.take 1 rfl rfl (fun w' hS' => r_loadN rfl (hS'.get (b := b2) inferInstance) (by rw [p.size]; decide) p.id_extract) (by kernel_rfl) rfl (by kernel_rfl) (by kernel_rfl) rfl rfl (fun _ _ _ _ h => h) S3 ?_
  refine ZT.take 2 rfl rfl (fun w' hS' => by first | exact r_move rfl | exact r_assign rfl | exact r_fieldAddr rfl | exact r_add rfl rfl (wrap_i64 (by omega) (by omega)) | exact r_sub rfl rfl (wrap_i64 (by omega) (by omega)) | exact r_mul rfl rfl (wrap_i64 (by omega) (by omega)) | exact r_convInt rfl (wrap_u64 (by omega) (by omega)) | exact r_convInt rfl (wrap_i64 (by omega) (by omega)) | exact r_convInt rfl (wrap_u32 (by omega) (by omega)) | exact r_sliceArr rfl | exact r_nilCheck rfl | exact r_extract rfl rfl | exact r_lenSlice rfl | exact r_and rfl rfl rfl | exact r_shr rfl rfl (by omega) rfl | exact r_toB rfl | exact r_toU rfl | exact r_toQ rfl) (by kernel_rfl) rfl (by kernel_rfl) (by kernel_rfl) rfl rfl (fun _ _ _ _ h => h) S3 ?_
  refine ZT.take 3 rfl rfl (fun w' hS' => r_loadN rfl (hS'.get (b := b3) inferInstance) (by rw [q.size]; decide) q.id_extract) (by kernel_rfl) rfl (by kernel_rfl) (by kernel_rfl) rfl rfl (fun _ _ _ _ h => h) S3 ?_
  refine ZT.take 5 rfl rfl (fun w' hS' => by first | exact r_move rfl | exact r_assign rfl | exact r_fieldAddr rfl | exact r_add rfl rfl (wrap_i64 (by omega) (by omega)) | exact r_sub rfl rfl (wrap_i64 (by omega) (by omega)) | exact r_mul rfl rfl (wrap_i64 (by omega) (by omega)) | exact r_convInt rfl (wrap_u64 (by omega) (by omega)) | exact r_convInt rfl (wrap_i64 (by omega) (by omega)) | exact r_convInt rfl (wrap_u32 (by omega) (by omega)) | exact r_sliceArr rfl | exact r_nilCheck rfl | exact r_extract rfl rfl | exact r_lenSlice rfl | exact r_and rfl rfl rfl | exact r_shr rfl rfl (by omega) rfl | exact r_toB rfl | exact r_toU rfl | exact r_toQ rfl) (by kernel_rfl) rfl (by kernel_rfl) (by kernel_rfl) rfl rfl (fun _ _ _ _ h => h) S3 ?_
  refine ZT.take 6 rfl rfl (fun w' hS' => r_load1 rfl (hS'.get (b := b2) inferInstance) p.vout_at) (by kernel_rfl) rfl (by kernel_rfl) (by kernel_rfl) rfl rfl (fun _ _ _ _ h => h) S3 ?_
  refine ZT.take 7 rfl rfl (fun w' hS' => by first | exact r_move rfl | exact r_assign rfl | exact r_fieldAddr rfl | exact r_add rfl rfl (wrap_i64 (by omega) (by omega)) | exact r_sub rfl rfl (wrap_i64 (by omega) (by omega)) | exact r_mul rfl rfl (wrap_i64 (by omega) (by omega)) | exact r_convInt rfl (wrap_u64 (by omega) (by omega)) | exact r_convInt rfl (wrap_i64 (by omega) (by omega)) | exact r_convInt rfl (wrap_u32 (by omega) (by omega)) | exact r_sliceArr rfl | exact r_nilCheck rfl | exact r_extract rfl rfl | exact r_lenSlice rfl | exact r_and rfl rfl rfl | exact r_shr rfl rfl (by omega) rfl | exact r_toB rfl | exact r_toU rfl | exact r_toQ rfl) (by kernel_rfl) rfl (by kernel_rfl) (by kernel_rfl) rfl rfl (fun _ _ _ _ h => h) S3 ?_
  refine ZT.take 8 rfl rfl (fun w' hS' => r_load1 rfl (hS'.get (b := b3) inferInstance) q.vout_at) (by kernel_rfl) rfl (by kernel_rfl) (by kernel_rfl) rfl rfl (fun _ _ _ _ h => h) S3 ?_
  refine ZT.one 4 rfl (by kernel_rfl) rfl rfl rfl ?_
  refine ZL.call (r_call rfl) rfl (shasCompareG p.id q.id w3) (fun v4 w4 ⟨E4, hG4, hv⟩ => ?_)
  subst hv
  have M4 := M3.ext' E4
  have G4 := G3.trans hG4
  refine ZL.nil (ZP.turning (MemS.of M4) ?_)
  refine ZT.one 9 rfl (by kernel_rfl) rfl rfl rfl ?_
  refine ZL.call (r_call rfl) rfl (cmpCompare_ok p.vout q.vout w4) (fun v5 w5 hv => ?_)
  obtain ⟨rfl, rfl⟩ := hv
  refine ZL.nil (ZP.turning (MemS.of M4) ?_)
  refine ZT.one 10 rfl (by kernel_rfl) rfl rfl rfl ?_
  refine ZL.bsliceE M4 G4 rfl rfl rfl (by simp [Value.cells]) (by decide) rfl (fun g w6 M6 G6 => ?_)
  refine ZL.nil (ZP.turning ⟨[_], M6⟩ ?_)
  refine ZT.done rfl (by kernel_rfl) ?_
  refine ZL.call (r_call rfl) rfl (Or_ok _ _ _ w6 _ 2 M6.own) (fun v7 w7 hv => ?_)
  obtain ⟨rfl, rfl⟩ := hv
  repeat (first | (first | refine ZC.seq ?_ | refine ZC.region ?_ | refine ZC.skip ?_ | refine ZC.ret ?_ | refine ZC.exit ?_ | refine ZC.block ?_ | refine ZL.nil ?_ | refine ZP.thenX ?_ | refine ZP.thenR ?_ | refine ZP.blockN ?_ | refine ZP.blockR ?_ | refine ZP.blockE ?_ | refine ZP.blockX rfl ?_ | refine ZP.then ?_) | (first | refine ZL.val (r_move rfl) rfl ?_ | refine ZL.val (r_assign rfl) rfl ?_ | refine ZL.val (r_fieldAddr rfl) rfl ?_ | refine ZL.val (r_add rfl rfl (wrap_i64 (by omega) (by omega))) rfl ?_ | refine ZL.val (r_sub rfl rfl (wrap_i64 (by omega) (by omega))) rfl ?_ | refine ZL.val (r_mul rfl rfl (wrap_i64 (by omega) (by omega))) rfl ?_  | refine ZL.val (r_lss rfl rfl) rfl ?_ | refine ZL.val (r_leq rfl rfl) rfl ?_ | refine ZL.val (r_gtr rfl rfl) rfl ?_ | refine ZL.val (r_geq rfl rfl) rfl ?_ | refine ZL.val (r_eql rfl rfl) rfl ?_ | refine ZL.val (r_neq rfl rfl) rfl ?_ | refine ZL.val (r_not rfl) rfl ?_  | refine ZL.val (r_lenSlice rfl) rfl ?_ | refine ZL.val (r_lenString rfl) rfl ?_ | refine ZL.val (r_extract rfl rfl) rfl ?_ | refine ZL.val (r_nilCheck rfl) rfl ?_ | refine ZL.val (r_makeFunc rfl rfl) rfl ?_ | refine ZL.val (r_eqlPtrNil rfl rfl) rfl ?_ | refine ZL.val (r_pickT rfl rfl) rfl ?_ | refine ZL.val (r_pickF rfl rfl) rfl ?_  | refine ZL.val (r_eqlSliceNil rfl rfl) rfl ?_ | refine ZL.val (r_max rfl rfl (Int.max_eq_left (by omega))) rfl ?_ | refine ZL.val (r_max rfl rfl (Int.max_eq_right (by omega))) rfl ?_ | refine ZL.val (r_min rfl rfl (Int.min_eq_left (by omega))) rfl ?_ | refine ZL.val (r_min rfl rfl (Int.min_eq_right (by omega))) rfl ?_  | refine ZL.skip rfl rfl rfl rfl ?_ | refine ZL.on rfl rfl rfl ?_  | refine ZL.val (r_convInt rfl (wrap_i64 (by omega) (by omega))) rfl ?_ | refine ZL.val (r_convInt rfl (wrap_u64 (by omega) (by omega))) rfl ?_ | refine ZL.val (r_convInt rfl (wrap_u32 (by omega) (by omega))) rfl ?_ | refine ZL.val (r_convInt rfl (wrap_u8 (by omega) (by omega))) rfl ?_))
  exact ZP.ret1 rfl rfl ⟨M6.ext, G6, rfl⟩
end Go.Proofs.YthcgmdmdgpljmaaDoor.Z
