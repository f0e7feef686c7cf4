/- OrphFair's card: for every three slices of integers the law answers true and leaves the slices as they were. Conditions: none beyond the row's own (the two tables of shas hold what the program's text lays). -/
import Derived.Test.YtibobcjfjnoclaaGreatDoorPk4
import Derived.Test.YtibobcjfjnoclaaGreatDoorCards
import Derived.Test.YtibobcjfjnoclaaGreatDoorTie
section
/- ref1.Less, With, Has: names that rise, each once. -/
set_option linter.unusedVariables false
set_option linter.unusedSimpArgs false
set_option linter.unusedSectionVars false
set_option maxRecDepth 100000
set_option maxHeartbeats 4000000
namespace Go.Proofs.YtibobcjfjnoclaaGreatDoor.Z
open Go Go.RowKit Go.Lib

theorem bytesLess_cb : ∀ a b : List UInt8, Op.bytesLess a b = decide (compareBytes a b < 0)
  | [], [] => by simp [Op.bytesLess, compareBytes]
  | _ :: _, [] => by simp [Op.bytesLess, compareBytes]
  | [], _ :: _ => by simp [Op.bytesLess, compareBytes]
  | a :: x, b :: y => by
    rw [Op.bytesLess, bytesLess_cb x y]
    simp only [compareBytes]
    by_cases h1 : a < b
    · simp [h1]
    · by_cases h2 : b < a
      · have : a ≠ b := fun e => by subst e; exact absurd h2 h1
        simp [h1, h2, this]
      · have : a = b := UInt8.le_antisymm (UInt8.not_lt.1 h2) (UInt8.not_lt.1 h1)
        simp [h1, h2, this]
noncomputable instance (a b : B32) : Decidable (ltP a b) := Classical.propDecidable _
theorem refLess_ok (a b : B32) (w : World) : Ret P 38 #[a.v, b.v] w (fun r w' => Ext w w' ∧ r = .bool (decide (ltP a b))) := by
  refine Ret.enter2 Tryz.func38 rfl Tryz.ntmps38 rfl ?_
  refine ZC.seq ?_; refine ZC.region ?_
  refine ZL.box (Mem.start w No) rfl rfl rfl (fun b2 w1 M1 => ?_)
  refine ZL.box M1 rfl rfl rfl (fun b3 w2 M2 => ?_)
  refine ZL.val (r_assign rfl) rfl ?_; refine ZL.nil ?_; refine ZP.then ?_; refine ZC.seq ?_
  refine ZC.still (by kernel_rfl) (fun w3 E3 _ => ?_)
  have M3 := M2.ext' E3
  refine ZS.val (r_sliceArr rfl) rfl ?_
  refine ZS.val (r_toStr rfl (M3.slArr (x := a) (Y := No) inferInstance id) (by intro h; have := a.property; rw [h] at this; cases this)) rfl ?_
  refine ZS.val (r_sliceArr rfl) rfl ?_
  refine ZS.val (r_toStr rfl (M3.slArr (x := b) (Y := No) inferInstance id) (by intro h; have := b.property; rw [h] at this; cases this)) rfl ?_
  refine ZS.val (r_lssS rfl rfl) rfl ?_
  refine ZS.val (r_assign rfl) rfl ?_; refine ZS.nil ?_
  simp only [ByteArray.toList_eq, bytesLess_cb]
  refine ZP.then ?_; refine ZC.ret ?_
  refine ZP.ret1 rfl rfl ⟨M3.ext, ?_⟩
  simp only [Value.bool.injEq]
  exact decide_eq_decide.2 Iff.rfl

theorem Has_ok (v : Value) (l : List B32) (x : B32) (w : World) (X : Nat → Prop) (h : SlC w X 32 v l.length (flatP l)) (hl : l.length ≤ 100000) : Ret P 18 #[v, x.v] w (fun r w' => Ext w w' ∧ r = .bool (decide (x ∈ l))) := by
  obtain ⟨p, c, rfl⟩ := h.shape
  refine Ret.enter2 Tryz.func18 rfl Tryz.ntmps18 rfl ?_
  refine ZC.seq ?_; refine ZC.region ?_
  refine ZL.box (Mem.start w No) rfl rfl rfl (fun b3 w1 M1 => ?_)
  refine ZL.val (r_assign rfl) rfl ?_; refine ZL.nil ?_; refine ZP.then ?_; refine ZC.seq ?_; refine ZC.seq ?_; refine ZC.region ?_; refine ZL.val (r_assign rfl) rfl ?_; refine ZL.nil ?_; refine ZP.then ?_; refine ZC.block ?_
  refine ZC.loop (X := Nat) (fun k => [(5, .int .i64 k), (0, .slice p l.length c), (3, .pointer (some ⟨b3, 0, none⟩))]) (fun k w' => Mem w No [.blk b3 (.cells x.cells.toArray 27)] w' ∧ k ≤ l.length ∧ x ∉ l.take k) (fun k => l.length - k) 0 ⟨rfl, rfl, rfl, trivial⟩ ⟨M1, by omega, by simp⟩ ?_
  rintro k w2 ⟨M2, hk, hno⟩
  refine ZC.seq ?_; refine ZC.seq ?_; refine ZC.region ?_; refine ZL.val (r_move rfl) rfl ?_; refine ZL.val (r_move rfl) rfl ?_; refine ZL.val (r_lenSlice rfl) rfl ?_; refine ZL.val (r_lss rfl rfl) rfl ?_; refine ZL.nil ?_; refine ZP.then ?_
  refine ZC.condD rfl (fun hc => ?_) (fun hc => ?_)
  · have hk' : k < l.length := by omega
    obtain ⟨g, o, cs, e, fz, r, rfl, hh, hx, hlen, hE, hcell, hsz, hext⟩ := ListR.elem (by decide) (ids_list (h.mv (Mv.ext M2.ext)) rfl) hk'
    rw [show r = l[k].cells from hE] at hext
    refine ZC.skip ?_; refine ZP.then ?_; refine ZC.seq ?_; refine ZC.block ?_; refine ZC.seq ?_
    refine ZC.still (by kernel_rfl) (fun w3 E3 _ => ?_)
    have M3 := M2.ext' E3
    refine ZS.val (r_move rfl) rfl ?_; refine ZS.val (r_move rfl) rfl ?_
    refine ZS.val (r_idxS k rfl rfl rfl hk') rfl ?_
    refine ZS.val (r_loadN rfl (E3.at hh (fun h => h)) hsz hext) rfl ?_
    refine ZS.val (r_ldW M3 rfl (B32.size _)) rfl ?_
    refine ZS.val (r_eqlB32 rfl rfl) rfl ?_
    refine ZS.nil ?_
    refine ZP.then ?_
    refine ZC.condD rfl (fun hd => ?_) (fun hd => ?_)
    · refine ZC.seq ?_; refine ZC.region ?_; refine ZL.val (r_assign rfl) rfl ?_; refine ZL.nil ?_; refine ZP.then ?_; refine ZC.ret ?_; refine ZP.blockR ?_; refine ZP.thenR ?_; refine ZP.thenR ?_; refine ZP.blockR ?_; refine ZP.thenR ?_
      refine ZP.ret1 rfl rfl ⟨M3.ext, ?_⟩
      have : x ∈ l := hd ▸ List.getElem_mem hk'
      simp [this]
    · refine ZC.skip ?_; refine ZP.blockN ?_; refine ZP.then ?_; refine ZC.region ?_; refine ZL.val (r_move rfl) rfl ?_; refine ZL.val (r_add rfl rfl (wrap_i64 (by omega) (by omega))) rfl ?_; refine ZL.val (r_assign rfl) rfl ?_; refine ZL.nil ?_
      refine ZP.round (k + 1) ⟨rfl, rfl, rfl, trivial⟩ ⟨M3, by omega, ?_⟩ (by omega)
      rw [List.take_succ_eq_append_getElem hk', List.mem_append, List.mem_singleton, not_or]
      exact ⟨hno, fun e => hd e.symm⟩
  · have hk' : k = l.length := by omega
    subst hk'
    rw [List.take_length] at hno
    refine ZC.exit ?_; refine ZP.thenX ?_; refine ZP.thenX ?_; refine ZP.blockE ?_; refine ZP.then ?_; refine ZC.seq ?_; refine ZC.region ?_; refine ZL.val (r_assign rfl) rfl ?_; refine ZL.nil ?_; refine ZP.then ?_; refine ZC.ret ?_
    exact ZP.ret1 rfl rfl ⟨M2.ext, by simp [hno]⟩

theorem flatP_drop (l : List B32) (k : Nat) : flatP (l.drop k) = (flatP l).drop (k * 32) := by
  have h1 := flatP_take l k
  by_cases hk : k ≤ l.length
  · have h2 : flatP (l.take k) ++ flatP (l.drop k) = flatP l := by
      unfold flatP; rw [← List.flatten_append, ← List.map_append, List.take_append_drop]
    have h3 : (flatP (l.take k)).length = k * 32 := by
      rw [flatP_length]; simp; omega
    rw [← h2, ← h3, List.drop_left]
  · rw [List.drop_eq_nil_of_le (by omega), List.drop_eq_nil_of_le (by rw [flatP_length]; omega)]; rfl
theorem With_ok (v : Value) (l : List B32) (x : B32) (w : World) (h : SlC w No 32 v l.length (flatP l)) (hs : l.Pairwise ltP) (hl : l.length ≤ 1000) : Ret P 15 #[v, x.v] w (fun r w' => Ext w w' ∧ ∃ ys : List B32, ys.Pairwise ltP ∧ (∀ y, y ∈ ys ↔ y = x ∨ y ∈ l) ∧ ((r = v ∧ ys = l) ∨ NewO w w' 27 32 r ys.length (flatP ys))) := by
  obtain ⟨p, c, rfl⟩ := h.shape
  obtain ⟨hlc, -⟩ := h.le
  refine Ret.enter2 Tryz.func15 rfl Tryz.ntmps15 rfl ?_
  refine ZC.seq ?_; refine ZC.region ?_
  refine ZL.box (Mem.start w No) rfl rfl rfl (fun b3 w1 M1 => ?_)
  refine ZL.val (r_assign rfl) rfl ?_; refine ZL.nil ?_; refine ZP.then ?_; refine ZC.seq ?_; refine ZC.region ?_; refine ZL.val (r_assign rfl) rfl ?_; refine ZL.nil ?_; refine ZP.then ?_
  refine ZC.mid (X := Nat) (fun k => [(5, .int .i64 k), (0, .slice p l.length c), (3, .pointer (some ⟨b3, 0, none⟩))]) (fun k w' => Mem w No [.blk b3 (.cells x.cells.toArray 27)] w' ∧ k ≤ l.length ∧ (∀ y ∈ l.take k, ltP y x) ∧ (∀ h : k < l.length, ¬ ltP l[k] x)) ?_ ?_
  · refine ZC.block ?_
    refine ZC.loop (X := Nat) (fun k => [(5, .int .i64 k), (0, .slice p l.length c), (3, .pointer (some ⟨b3, 0, none⟩))]) (fun k w' => Mem w No [.blk b3 (.cells x.cells.toArray 27)] w' ∧ k ≤ l.length ∧ (∀ y ∈ l.take k, ltP y x)) (fun k => l.length - k) 0 ⟨rfl, rfl, rfl, trivial⟩ ⟨M1, by omega, by simp⟩ ?_
    rintro k w2 ⟨M2, hk, hlow⟩
    refine ZC.seq ?_; refine ZC.seq ?_
    by_cases hc : k < l.length
    · obtain ⟨g, o, cs, e, fz, r, rfl, hh, hx, hlen, hE, hcell, hsz, hext⟩ := ListR.elem (by decide) (ids_list (h.mv (Mv.ext M2.ext)) rfl) hc
      rw [show r = l[k].cells from hE] at hext
      refine ZC.turning (fun w' => Mem w No [.blk b3 (.cells x.cells.toArray 27)] w' ∧ w'.heap[g]? = some (.cells cs e fz)) 11 rfl (by kernel_rfl) rfl rfl rfl (fun w3 E3 _ => ?_)
      have S3 : Mem w No [.blk b3 (.cells x.cells.toArray 27)] w3 ∧ w3.heap[g]? = some (.cells cs e fz) := ⟨M2.ext' E3, E3.at hh (fun h => h)⟩
      refine ZT.take 0 rfl rfl (fun w' hS' => r_move rfl) (by kernel_rfl) rfl (by kernel_rfl) (by kernel_rfl) rfl rfl (fun _ _ _ _ h => h) S3 ?_
      refine ZT.take 1 rfl rfl (fun w' hS' => r_move rfl) (by kernel_rfl) rfl (by kernel_rfl) (by kernel_rfl) rfl rfl (fun _ _ _ _ h => h) S3 ?_
      refine ZT.take 2 rfl rfl (fun w' hS' => r_lenSlice rfl) (by kernel_rfl) rfl (by kernel_rfl) (by kernel_rfl) rfl rfl (fun _ _ _ _ h => h) S3 ?_
      refine ZT.take 3 rfl rfl (fun w' hS' => (r_lss rfl rfl).eq (v' := .bool true) (by simp; omega)) (by kernel_rfl) rfl (by kernel_rfl) (by kernel_rfl) rfl rfl (fun _ _ _ _ h => h) S3 ?_
      refine ZT.take 4 rfl rfl (fun w' hS' => r_move rfl) (by kernel_rfl) rfl (by kernel_rfl) (by kernel_rfl) rfl rfl (fun _ _ _ _ h => h) S3 ?_
      refine ZT.takeOn 5 rfl rfl rfl rfl rfl (fun w' hS' => r_move rfl) (by kernel_rfl) rfl (by kernel_rfl) (by kernel_rfl) rfl rfl (fun _ _ _ _ h => h) S3 ?_
      refine ZT.takeOn 6 rfl rfl rfl rfl rfl (fun w' hS' => r_move rfl) (by kernel_rfl) rfl (by kernel_rfl) (by kernel_rfl) rfl rfl (fun _ _ _ _ h => h) S3 ?_
      refine ZT.takeOn 7 rfl rfl rfl rfl rfl (fun w' hS' => r_idxS k rfl rfl rfl hc) (by kernel_rfl) rfl (by kernel_rfl) (by kernel_rfl) rfl rfl (fun _ _ _ _ h => h) S3 ?_
      refine ZT.takeOn 8 rfl rfl rfl rfl rfl (fun w' hS' => r_loadN rfl hS'.2 hsz hext) (by kernel_rfl) rfl (by kernel_rfl) (by kernel_rfl) rfl rfl (fun _ _ _ _ h => h) S3 ?_
      refine ZT.takeOn 9 rfl rfl rfl rfl rfl (fun w' hS' => r_ldW hS'.1 rfl (B32.size _)) (by kernel_rfl) rfl (by kernel_rfl) (by kernel_rfl) rfl rfl (fun _ _ _ _ h => h) S3 ?_
      refine ZT.one 10 rfl (by kernel_rfl) rfl rfl rfl ?_
      refine ZL.on rfl rfl rfl ?_
      refine ZL.call (r_call rfl) rfl (refLess_ok l[k] x w3) (fun v4 w4 ⟨E4, hv⟩ => ?_)
      subst hv
      have S4 : Mem w No [.blk b3 (.cells x.cells.toArray 27)] w4 ∧ w4.heap[g]? = some (.cells cs e fz) := ⟨S3.1.ext' E4, E4.at S3.2 (fun h => h)⟩
      refine ZL.nil (ZP.turning S4 ?_)
      refine ZT.done rfl (by kernel_rfl) ?_
      refine ZL.val (r_pickT rfl rfl) rfl ?_; refine ZL.nil ?_; refine ZP.then ?_
      refine ZC.condD rfl (fun hd => ?_) (fun hd => ?_)
      · refine ZC.skip ?_; refine ZP.then ?_; refine ZC.block ?_; refine ZC.region ?_; refine ZL.val (r_move rfl) rfl ?_; refine ZL.val (r_add rfl rfl (wrap_i64 (by omega) (by omega))) rfl ?_; refine ZL.val (r_assign rfl) rfl ?_; refine ZL.nil ?_; refine ZP.blockN ?_
        refine ZP.round (k + 1) ⟨rfl, rfl, rfl, trivial⟩ ⟨S4.1, by omega, fun y hy => ?_⟩ (by omega)
        rw [List.take_succ_eq_append_getElem hc, List.mem_append, List.mem_singleton] at hy
        rcases hy with hy | rfl
        · exact hlow y hy
        · exact hd
      · refine ZC.exit ?_; refine ZP.thenX ?_; refine ZP.thenX ?_; refine ZP.blockE ?_
        exact ZP.mid k ⟨rfl, rfl, rfl, trivial⟩ ⟨S4.1, hk, hlow, fun _ => hd⟩
    · refine ZC.still (by kernel_rfl) (fun w3 E3 _ => ?_)
      have M3 := M2.ext' E3
      refine ZS.val (r_move rfl) rfl ?_
      refine ZS.val (r_move rfl) rfl ?_
      refine ZS.val (r_lenSlice rfl) rfl ?_
      refine ZS.val ((r_lss rfl rfl).eq (v' := .bool false) (by simp; omega)) rfl ?_
      repeat (first | (first | refine ZS.val (r_move rfl) rfl ?_ | refine ZS.val (r_assign rfl) rfl ?_ | refine ZS.val (r_fieldAddr rfl) rfl ?_ | refine ZS.val (r_add rfl rfl (wrap_i64 (by omega) (by omega))) rfl ?_ | refine ZS.val (r_sub rfl rfl (wrap_i64 (by omega) (by omega))) rfl ?_ | refine ZS.val (r_mul rfl rfl (wrap_i64 (by omega) (by omega))) rfl ?_ | refine ZS.val (r_lss rfl rfl) rfl ?_ | refine ZS.val (r_leq rfl rfl) rfl ?_ | refine ZS.val (r_gtr rfl rfl) rfl ?_ | refine ZS.val (r_geq rfl rfl) rfl ?_ | refine ZS.val (r_eql rfl rfl) rfl ?_ | refine ZS.val (r_neq rfl rfl) rfl ?_ | refine ZS.val (r_not rfl) rfl ?_ | refine ZS.val (r_lenSlice rfl) rfl ?_ | refine ZS.val (r_lenString rfl) rfl ?_ | refine ZS.val (r_extract rfl rfl) rfl ?_ | refine ZS.val (r_nilCheck rfl) rfl ?_ | refine ZS.val (r_makeFunc rfl rfl) rfl ?_ | refine ZS.val (r_eqlPtrNil rfl rfl) rfl ?_ | refine ZS.val (r_pickT rfl rfl) rfl ?_ | refine ZS.val (r_pickF rfl rfl) rfl ?_ | refine ZS.val (r_eqlSliceNil rfl rfl) rfl ?_ | refine ZS.val (r_max rfl rfl (Int.max_eq_left (by omega))) rfl ?_ | refine ZS.val (r_max rfl rfl (Int.max_eq_right (by omega))) rfl ?_ | refine ZS.val (r_min rfl rfl (Int.min_eq_left (by omega))) rfl ?_ | refine ZS.val (r_min rfl rfl (Int.min_eq_right (by omega))) rfl ?_ | refine ZS.val (r_convInt rfl (wrap_i64 (by omega) (by omega))) rfl ?_ | refine ZS.val (r_convInt rfl (wrap_u64 (by omega) (by omega))) rfl ?_ | refine ZS.val (r_convInt rfl (wrap_u32 (by omega) (by omega))) rfl ?_ | refine ZS.val (r_convInt rfl (wrap_u8 (by omega) (by omega))) rfl ?_) | refine ZS.on rfl rfl rfl ?_ | refine ZS.skip rfl rfl rfl rfl ?_ | refine ZS.nil ?_)
      refine ZP.then ?_; refine ZC.condF rfl ?_; refine ZC.exit ?_; refine ZP.thenX ?_; refine ZP.thenX ?_; refine ZP.blockE ?_
      exact ZP.mid k ⟨rfl, rfl, rfl, trivial⟩ ⟨M3, hk, hlow, fun h => absurd h hc⟩
  rintro k w2 ⟨M2, hk, hlow, hhigh⟩
  have hL2 := h.mv (Mv.ext M2.ext)
  by_cases hfound : ∃ hc : k < l.length, l[k] = x
  · obtain ⟨hc, hxk⟩ := hfound
    obtain ⟨g, o, cs, e, fz, r, rfl, hh, hx, hlen, hE, hcell, hsz, hext⟩ := ListR.elem (by decide) (ids_list hL2 rfl) hc
    rw [show r = l[k].cells from hE] at hext
    refine ZC.seq ?_; refine ZC.seq ?_
    refine ZC.still (by kernel_rfl) (fun w3 E3 _ => ?_)
    have M3 := M2.ext' E3
    refine ZS.val (r_move rfl) rfl ?_
    refine ZS.val (r_move rfl) rfl ?_
    refine ZS.val (r_lenSlice rfl) rfl ?_
    refine ZS.val ((r_lss rfl rfl).eq (v' := .bool true) (by simp; omega)) rfl ?_
    repeat (first | (first | refine ZS.val (r_move rfl) rfl ?_ | refine ZS.val (r_assign rfl) rfl ?_ | refine ZS.val (r_fieldAddr rfl) rfl ?_ | refine ZS.val (r_add rfl rfl (wrap_i64 (by omega) (by omega))) rfl ?_ | refine ZS.val (r_sub rfl rfl (wrap_i64 (by omega) (by omega))) rfl ?_ | refine ZS.val (r_mul rfl rfl (wrap_i64 (by omega) (by omega))) rfl ?_ | refine ZS.val (r_lss rfl rfl) rfl ?_ | refine ZS.val (r_leq rfl rfl) rfl ?_ | refine ZS.val (r_gtr rfl rfl) rfl ?_ | refine ZS.val (r_geq rfl rfl) rfl ?_ | refine ZS.val (r_eql rfl rfl) rfl ?_ | refine ZS.val (r_neq rfl rfl) rfl ?_ | refine ZS.val (r_not rfl) rfl ?_ | refine ZS.val (r_lenSlice rfl) rfl ?_ | refine ZS.val (r_lenString rfl) rfl ?_ | refine ZS.val (r_extract rfl rfl) rfl ?_ | refine ZS.val (r_nilCheck rfl) rfl ?_ | refine ZS.val (r_makeFunc rfl rfl) rfl ?_ | refine ZS.val (r_eqlPtrNil rfl rfl) rfl ?_ | refine ZS.val (r_pickT rfl rfl) rfl ?_ | refine ZS.val (r_pickF rfl rfl) rfl ?_ | refine ZS.val (r_eqlSliceNil rfl rfl) rfl ?_ | refine ZS.val (r_max rfl rfl (Int.max_eq_left (by omega))) rfl ?_ | refine ZS.val (r_max rfl rfl (Int.max_eq_right (by omega))) rfl ?_ | refine ZS.val (r_min rfl rfl (Int.min_eq_left (by omega))) rfl ?_ | refine ZS.val (r_min rfl rfl (Int.min_eq_right (by omega))) rfl ?_ | refine ZS.val (r_convInt rfl (wrap_i64 (by omega) (by omega))) rfl ?_ | refine ZS.val (r_convInt rfl (wrap_u64 (by omega) (by omega))) rfl ?_ | refine ZS.val (r_convInt rfl (wrap_u32 (by omega) (by omega))) rfl ?_ | refine ZS.val (r_convInt rfl (wrap_u8 (by omega) (by omega))) rfl ?_) | refine ZS.on rfl rfl rfl ?_ | refine ZS.skip rfl rfl rfl rfl ?_ | refine ZS.nil ?_)
    refine ZS.val (r_idxS k rfl rfl rfl hc) rfl ?_
    repeat (first | (first | refine ZS.val (r_move rfl) rfl ?_ | refine ZS.val (r_assign rfl) rfl ?_ | refine ZS.val (r_fieldAddr rfl) rfl ?_ | refine ZS.val (r_add rfl rfl (wrap_i64 (by omega) (by omega))) rfl ?_ | refine ZS.val (r_sub rfl rfl (wrap_i64 (by omega) (by omega))) rfl ?_ | refine ZS.val (r_mul rfl rfl (wrap_i64 (by omega) (by omega))) rfl ?_ | refine ZS.val (r_lss rfl rfl) rfl ?_ | refine ZS.val (r_leq rfl rfl) rfl ?_ | refine ZS.val (r_gtr rfl rfl) rfl ?_ | refine ZS.val (r_geq rfl rfl) rfl ?_ | refine ZS.val (r_eql rfl rfl) rfl ?_ | refine ZS.val (r_neq rfl rfl) rfl ?_ | refine ZS.val (r_not rfl) rfl ?_ | refine ZS.val (r_lenSlice rfl) rfl ?_ | refine ZS.val (r_lenString rfl) rfl ?_ | refine ZS.val (r_extract rfl rfl) rfl ?_ | refine ZS.val (r_nilCheck rfl) rfl ?_ | refine ZS.val (r_makeFunc rfl rfl) rfl ?_ | refine ZS.val (r_eqlPtrNil rfl rfl) rfl ?_ | refine ZS.val (r_pickT rfl rfl) rfl ?_ | refine ZS.val (r_pickF rfl rfl) rfl ?_ | refine ZS.val (r_eqlSliceNil rfl rfl) rfl ?_ | refine ZS.val (r_max rfl rfl (Int.max_eq_left (by omega))) rfl ?_ | refine ZS.val (r_max rfl rfl (Int.max_eq_right (by omega))) rfl ?_ | refine ZS.val (r_min rfl rfl (Int.min_eq_left (by omega))) rfl ?_ | refine ZS.val (r_min rfl rfl (Int.min_eq_right (by omega))) rfl ?_ | refine ZS.val (r_convInt rfl (wrap_i64 (by omega) (by omega))) rfl ?_ | refine ZS.val (r_convInt rfl (wrap_u64 (by omega) (by omega))) rfl ?_ | refine ZS.val (r_convInt rfl (wrap_u32 (by omega) (by omega))) rfl ?_ | refine ZS.val (r_convInt rfl (wrap_u8 (by omega) (by omega))) rfl ?_) | refine ZS.on rfl rfl rfl ?_ | refine ZS.skip rfl rfl rfl rfl ?_ | refine ZS.nil ?_)
    refine ZS.val (r_loadN rfl (E3.at hh (fun h => h)) hsz hext) rfl ?_
    repeat (first | (first | refine ZS.val (r_move rfl) rfl ?_ | refine ZS.val (r_assign rfl) rfl ?_ | refine ZS.val (r_fieldAddr rfl) rfl ?_ | refine ZS.val (r_add rfl rfl (wrap_i64 (by omega) (by omega))) rfl ?_ | refine ZS.val (r_sub rfl rfl (wrap_i64 (by omega) (by omega))) rfl ?_ | refine ZS.val (r_mul rfl rfl (wrap_i64 (by omega) (by omega))) rfl ?_ | refine ZS.val (r_lss rfl rfl) rfl ?_ | refine ZS.val (r_leq rfl rfl) rfl ?_ | refine ZS.val (r_gtr rfl rfl) rfl ?_ | refine ZS.val (r_geq rfl rfl) rfl ?_ | refine ZS.val (r_eql rfl rfl) rfl ?_ | refine ZS.val (r_neq rfl rfl) rfl ?_ | refine ZS.val (r_not rfl) rfl ?_ | refine ZS.val (r_lenSlice rfl) rfl ?_ | refine ZS.val (r_lenString rfl) rfl ?_ | refine ZS.val (r_extract rfl rfl) rfl ?_ | refine ZS.val (r_nilCheck rfl) rfl ?_ | refine ZS.val (r_makeFunc rfl rfl) rfl ?_ | refine ZS.val (r_eqlPtrNil rfl rfl) rfl ?_ | refine ZS.val (r_pickT rfl rfl) rfl ?_ | refine ZS.val (r_pickF rfl rfl) rfl ?_ | refine ZS.val (r_eqlSliceNil rfl rfl) rfl ?_ | refine ZS.val (r_max rfl rfl (Int.max_eq_left (by omega))) rfl ?_ | refine ZS.val (r_max rfl rfl (Int.max_eq_right (by omega))) rfl ?_ | refine ZS.val (r_min rfl rfl (Int.min_eq_left (by omega))) rfl ?_ | refine ZS.val (r_min rfl rfl (Int.min_eq_right (by omega))) rfl ?_ | refine ZS.val (r_convInt rfl (wrap_i64 (by omega) (by omega))) rfl ?_ | refine ZS.val (r_convInt rfl (wrap_u64 (by omega) (by omega))) rfl ?_ | refine ZS.val (r_convInt rfl (wrap_u32 (by omega) (by omega))) rfl ?_ | refine ZS.val (r_convInt rfl (wrap_u8 (by omega) (by omega))) rfl ?_) | refine ZS.on rfl rfl rfl ?_ | refine ZS.skip rfl rfl rfl rfl ?_ | refine ZS.nil ?_)
    refine ZS.val (r_ldW M3 rfl (B32.size _)) rfl ?_
    repeat (first | (first | refine ZS.val (r_move rfl) rfl ?_ | refine ZS.val (r_assign rfl) rfl ?_ | refine ZS.val (r_fieldAddr rfl) rfl ?_ | refine ZS.val (r_add rfl rfl (wrap_i64 (by omega) (by omega))) rfl ?_ | refine ZS.val (r_sub rfl rfl (wrap_i64 (by omega) (by omega))) rfl ?_ | refine ZS.val (r_mul rfl rfl (wrap_i64 (by omega) (by omega))) rfl ?_ | refine ZS.val (r_lss rfl rfl) rfl ?_ | refine ZS.val (r_leq rfl rfl) rfl ?_ | refine ZS.val (r_gtr rfl rfl) rfl ?_ | refine ZS.val (r_geq rfl rfl) rfl ?_ | refine ZS.val (r_eql rfl rfl) rfl ?_ | refine ZS.val (r_neq rfl rfl) rfl ?_ | refine ZS.val (r_not rfl) rfl ?_ | refine ZS.val (r_lenSlice rfl) rfl ?_ | refine ZS.val (r_lenString rfl) rfl ?_ | refine ZS.val (r_extract rfl rfl) rfl ?_ | refine ZS.val (r_nilCheck rfl) rfl ?_ | refine ZS.val (r_makeFunc rfl rfl) rfl ?_ | refine ZS.val (r_eqlPtrNil rfl rfl) rfl ?_ | refine ZS.val (r_pickT rfl rfl) rfl ?_ | refine ZS.val (r_pickF rfl rfl) rfl ?_ | refine ZS.val (r_eqlSliceNil rfl rfl) rfl ?_ | refine ZS.val (r_max rfl rfl (Int.max_eq_left (by omega))) rfl ?_ | refine ZS.val (r_max rfl rfl (Int.max_eq_right (by omega))) rfl ?_ | refine ZS.val (r_min rfl rfl (Int.min_eq_left (by omega))) rfl ?_ | refine ZS.val (r_min rfl rfl (Int.min_eq_right (by omega))) rfl ?_ | refine ZS.val (r_convInt rfl (wrap_i64 (by omega) (by omega))) rfl ?_ | refine ZS.val (r_convInt rfl (wrap_u64 (by omega) (by omega))) rfl ?_ | refine ZS.val (r_convInt rfl (wrap_u32 (by omega) (by omega))) rfl ?_ | refine ZS.val (r_convInt rfl (wrap_u8 (by omega) (by omega))) rfl ?_) | refine ZS.on rfl rfl rfl ?_ | refine ZS.skip rfl rfl rfl rfl ?_ | refine ZS.nil ?_)
    refine ZS.val ((r_eqlB32 rfl rfl).eq (v' := .bool true) (by simp [hxk])) rfl ?_
    repeat (first | (first | refine ZS.val (r_move rfl) rfl ?_ | refine ZS.val (r_assign rfl) rfl ?_ | refine ZS.val (r_fieldAddr rfl) rfl ?_ | refine ZS.val (r_add rfl rfl (wrap_i64 (by omega) (by omega))) rfl ?_ | refine ZS.val (r_sub rfl rfl (wrap_i64 (by omega) (by omega))) rfl ?_ | refine ZS.val (r_mul rfl rfl (wrap_i64 (by omega) (by omega))) rfl ?_ | refine ZS.val (r_lss rfl rfl) rfl ?_ | refine ZS.val (r_leq rfl rfl) rfl ?_ | refine ZS.val (r_gtr rfl rfl) rfl ?_ | refine ZS.val (r_geq rfl rfl) rfl ?_ | refine ZS.val (r_eql rfl rfl) rfl ?_ | refine ZS.val (r_neq rfl rfl) rfl ?_ | refine ZS.val (r_not rfl) rfl ?_ | refine ZS.val (r_lenSlice rfl) rfl ?_ | refine ZS.val (r_lenString rfl) rfl ?_ | refine ZS.val (r_extract rfl rfl) rfl ?_ | refine ZS.val (r_nilCheck rfl) rfl ?_ | refine ZS.val (r_makeFunc rfl rfl) rfl ?_ | refine ZS.val (r_eqlPtrNil rfl rfl) rfl ?_ | refine ZS.val (r_pickT rfl rfl) rfl ?_ | refine ZS.val (r_pickF rfl rfl) rfl ?_ | refine ZS.val (r_eqlSliceNil rfl rfl) rfl ?_ | refine ZS.val (r_max rfl rfl (Int.max_eq_left (by omega))) rfl ?_ | refine ZS.val (r_max rfl rfl (Int.max_eq_right (by omega))) rfl ?_ | refine ZS.val (r_min rfl rfl (Int.min_eq_left (by omega))) rfl ?_ | refine ZS.val (r_min rfl rfl (Int.min_eq_right (by omega))) rfl ?_ | refine ZS.val (r_convInt rfl (wrap_i64 (by omega) (by omega))) rfl ?_ | refine ZS.val (r_convInt rfl (wrap_u64 (by omega) (by omega))) rfl ?_ | refine ZS.val (r_convInt rfl (wrap_u32 (by omega) (by omega))) rfl ?_ | refine ZS.val (r_convInt rfl (wrap_u8 (by omega) (by omega))) rfl ?_) | refine ZS.on rfl rfl rfl ?_ | refine ZS.skip rfl rfl rfl rfl ?_ | refine ZS.nil ?_)
    refine ZP.then ?_; refine ZC.condT rfl ?_; refine ZC.seq ?_; refine ZC.region ?_; refine ZL.val (r_move rfl) rfl ?_; refine ZL.val (r_assign rfl) rfl ?_; refine ZL.nil ?_; refine ZP.then ?_; refine ZC.ret ?_; refine ZP.thenR ?_
    exact ZP.ret1 rfl rfl ⟨M3.ext, l, hs, fun y => ⟨.inr, fun hy => hy.elim (fun e => by rw [e, ← hxk]; exact List.getElem_mem hc) id⟩, .inl ⟨rfl, rfl⟩⟩
  have hys : (l.take k ++ x :: l.drop k).Pairwise ltP := by
    rw [List.pairwise_append]
    refine ⟨hs.sublist (List.take_sublist _ _), List.pairwise_cons.2 ⟨fun y hy => ?_, hs.sublist (List.drop_sublist _ _)⟩, fun a ha b hb => ?_⟩
    all_goals
      have hdrop : ∀ y ∈ l.drop k, ltP x y := fun y hy => by
        have hc : k < l.length := by
          rcases Nat.lt_or_ge k l.length with h | h
          · exact h
          · rw [List.drop_eq_nil_of_le h] at hy; cases hy
        have h1 : ltP x l[k] := by
          rcases ltP_total x l[k] with h1 | h1 | h1
          · exact h1
          · exact absurd ⟨hc, h1.symm⟩ hfound
          · exact absurd h1 (hhigh hc)
        rw [List.drop_eq_getElem_cons hc] at hy
        rcases List.mem_cons.1 hy with rfl | hy
        · exact h1
        · have h2 := hs.sublist (List.drop_sublist k l)
          rw [List.drop_eq_getElem_cons hc] at h2
          exact ltP_trans h1 ((List.pairwise_cons.1 h2).1 y hy)
    · exact hdrop y hy
    · rcases List.mem_cons.1 hb with rfl | hb
      · exact hlow a ha
      · exact ltP_trans (hlow a ha) (hdrop b hb)
  have hmem : ∀ y, y ∈ l.take k ++ x :: l.drop k ↔ y = x ∨ y ∈ l := fun y => by
    rw [List.mem_append, List.mem_cons]
    constructor
    · rintro (h1 | h1 | h1)
      · exact .inr (List.mem_of_mem_take h1)
      · exact .inl h1
      · exact .inr (List.mem_of_mem_drop h1)
    · rintro (h1 | h1)
      · exact .inr (.inl h1)
      · rw [← List.take_append_drop k l, List.mem_append] at h1
        rcases h1 with h1 | h1
        · exact .inl h1
        · exact .inr (.inr h1)
  have hnot : ∀ hc : k < l.length, l[k] ≠ x := fun hc he => hfound ⟨hc, he⟩
  refine ZC.mid (X := Unit) (fun _ => [(5, .int .i64 k), (0, .slice p l.length c), (3, .pointer (some ⟨b3, 0, none⟩))]) (fun _ w' => Mem w No [.blk b3 (.cells x.cells.toArray 27)] w') ?_ ?_
  · by_cases hc : k < l.length
    · obtain ⟨g, o, cs, e, fz, r, rfl, hh, hx, hlen, hE, hcell, hsz, hext⟩ := ListR.elem (by decide) (ids_list hL2 rfl) hc
      rw [show r = l[k].cells from hE] at hext
      refine ZC.seq ?_
      refine ZC.still (by kernel_rfl) (fun w3 E3 _ => ?_)
      have M3 := M2.ext' E3
      refine ZS.val (r_move rfl) rfl ?_
      refine ZS.val (r_move rfl) rfl ?_
      refine ZS.val (r_lenSlice rfl) rfl ?_
      refine ZS.val ((r_lss rfl rfl).eq (v' := .bool true) (by simp; omega)) rfl ?_
      repeat (first | (first | refine ZS.val (r_move rfl) rfl ?_ | refine ZS.val (r_assign rfl) rfl ?_ | refine ZS.val (r_fieldAddr rfl) rfl ?_ | refine ZS.val (r_add rfl rfl (wrap_i64 (by omega) (by omega))) rfl ?_ | refine ZS.val (r_sub rfl rfl (wrap_i64 (by omega) (by omega))) rfl ?_ | refine ZS.val (r_mul rfl rfl (wrap_i64 (by omega) (by omega))) rfl ?_ | refine ZS.val (r_lss rfl rfl) rfl ?_ | refine ZS.val (r_leq rfl rfl) rfl ?_ | refine ZS.val (r_gtr rfl rfl) rfl ?_ | refine ZS.val (r_geq rfl rfl) rfl ?_ | refine ZS.val (r_eql rfl rfl) rfl ?_ | refine ZS.val (r_neq rfl rfl) rfl ?_ | refine ZS.val (r_not rfl) rfl ?_ | refine ZS.val (r_lenSlice rfl) rfl ?_ | refine ZS.val (r_lenString rfl) rfl ?_ | refine ZS.val (r_extract rfl rfl) rfl ?_ | refine ZS.val (r_nilCheck rfl) rfl ?_ | refine ZS.val (r_makeFunc rfl rfl) rfl ?_ | refine ZS.val (r_eqlPtrNil rfl rfl) rfl ?_ | refine ZS.val (r_pickT rfl rfl) rfl ?_ | refine ZS.val (r_pickF rfl rfl) rfl ?_ | refine ZS.val (r_eqlSliceNil rfl rfl) rfl ?_ | refine ZS.val (r_max rfl rfl (Int.max_eq_left (by omega))) rfl ?_ | refine ZS.val (r_max rfl rfl (Int.max_eq_right (by omega))) rfl ?_ | refine ZS.val (r_min rfl rfl (Int.min_eq_left (by omega))) rfl ?_ | refine ZS.val (r_min rfl rfl (Int.min_eq_right (by omega))) rfl ?_ | refine ZS.val (r_convInt rfl (wrap_i64 (by omega) (by omega))) rfl ?_ | refine ZS.val (r_convInt rfl (wrap_u64 (by omega) (by omega))) rfl ?_ | refine ZS.val (r_convInt rfl (wrap_u32 (by omega) (by omega))) rfl ?_ | refine ZS.val (r_convInt rfl (wrap_u8 (by omega) (by omega))) rfl ?_) | refine ZS.on rfl rfl rfl ?_ | refine ZS.skip rfl rfl rfl rfl ?_ | refine ZS.nil ?_)
      refine ZS.val (r_idxS k rfl rfl rfl hc) rfl ?_
      repeat (first | (first | refine ZS.val (r_move rfl) rfl ?_ | refine ZS.val (r_assign rfl) rfl ?_ | refine ZS.val (r_fieldAddr rfl) rfl ?_ | refine ZS.val (r_add rfl rfl (wrap_i64 (by omega) (by omega))) rfl ?_ | refine ZS.val (r_sub rfl rfl (wrap_i64 (by omega) (by omega))) rfl ?_ | refine ZS.val (r_mul rfl rfl (wrap_i64 (by omega) (by omega))) rfl ?_ | refine ZS.val (r_lss rfl rfl) rfl ?_ | refine ZS.val (r_leq rfl rfl) rfl ?_ | refine ZS.val (r_gtr rfl rfl) rfl ?_ | refine ZS.val (r_geq rfl rfl) rfl ?_ | refine ZS.val (r_eql rfl rfl) rfl ?_ | refine ZS.val (r_neq rfl rfl) rfl ?_ | refine ZS.val (r_not rfl) rfl ?_ | refine ZS.val (r_lenSlice rfl) rfl ?_ | refine ZS.val (r_lenString rfl) rfl ?_ | refine ZS.val (r_extract rfl rfl) rfl ?_ | refine ZS.val (r_nilCheck rfl) rfl ?_ | refine ZS.val (r_makeFunc rfl rfl) rfl ?_ | refine ZS.val (r_eqlPtrNil rfl rfl) rfl ?_ | refine ZS.val (r_pickT rfl rfl) rfl ?_ | refine ZS.val (r_pickF rfl rfl) rfl ?_ | refine ZS.val (r_eqlSliceNil rfl rfl) rfl ?_ | refine ZS.val (r_max rfl rfl (Int.max_eq_left (by omega))) rfl ?_ | refine ZS.val (r_max rfl rfl (Int.max_eq_right (by omega))) rfl ?_ | refine ZS.val (r_min rfl rfl (Int.min_eq_left (by omega))) rfl ?_ | refine ZS.val (r_min rfl rfl (Int.min_eq_right (by omega))) rfl ?_ | refine ZS.val (r_convInt rfl (wrap_i64 (by omega) (by omega))) rfl ?_ | refine ZS.val (r_convInt rfl (wrap_u64 (by omega) (by omega))) rfl ?_ | refine ZS.val (r_convInt rfl (wrap_u32 (by omega) (by omega))) rfl ?_ | refine ZS.val (r_convInt rfl (wrap_u8 (by omega) (by omega))) rfl ?_) | refine ZS.on rfl rfl rfl ?_ | refine ZS.skip rfl rfl rfl rfl ?_ | refine ZS.nil ?_)
      refine ZS.val (r_loadN rfl (E3.at hh (fun h => h)) hsz hext) rfl ?_
      repeat (first | (first | refine ZS.val (r_move rfl) rfl ?_ | refine ZS.val (r_assign rfl) rfl ?_ | refine ZS.val (r_fieldAddr rfl) rfl ?_ | refine ZS.val (r_add rfl rfl (wrap_i64 (by omega) (by omega))) rfl ?_ | refine ZS.val (r_sub rfl rfl (wrap_i64 (by omega) (by omega))) rfl ?_ | refine ZS.val (r_mul rfl rfl (wrap_i64 (by omega) (by omega))) rfl ?_ | refine ZS.val (r_lss rfl rfl) rfl ?_ | refine ZS.val (r_leq rfl rfl) rfl ?_ | refine ZS.val (r_gtr rfl rfl) rfl ?_ | refine ZS.val (r_geq rfl rfl) rfl ?_ | refine ZS.val (r_eql rfl rfl) rfl ?_ | refine ZS.val (r_neq rfl rfl) rfl ?_ | refine ZS.val (r_not rfl) rfl ?_ | refine ZS.val (r_lenSlice rfl) rfl ?_ | refine ZS.val (r_lenString rfl) rfl ?_ | refine ZS.val (r_extract rfl rfl) rfl ?_ | refine ZS.val (r_nilCheck rfl) rfl ?_ | refine ZS.val (r_makeFunc rfl rfl) rfl ?_ | refine ZS.val (r_eqlPtrNil rfl rfl) rfl ?_ | refine ZS.val (r_pickT rfl rfl) rfl ?_ | refine ZS.val (r_pickF rfl rfl) rfl ?_ | refine ZS.val (r_eqlSliceNil rfl rfl) rfl ?_ | refine ZS.val (r_max rfl rfl (Int.max_eq_left (by omega))) rfl ?_ | refine ZS.val (r_max rfl rfl (Int.max_eq_right (by omega))) rfl ?_ | refine ZS.val (r_min rfl rfl (Int.min_eq_left (by omega))) rfl ?_ | refine ZS.val (r_min rfl rfl (Int.min_eq_right (by omega))) rfl ?_ | refine ZS.val (r_convInt rfl (wrap_i64 (by omega) (by omega))) rfl ?_ | refine ZS.val (r_convInt rfl (wrap_u64 (by omega) (by omega))) rfl ?_ | refine ZS.val (r_convInt rfl (wrap_u32 (by omega) (by omega))) rfl ?_ | refine ZS.val (r_convInt rfl (wrap_u8 (by omega) (by omega))) rfl ?_) | refine ZS.on rfl rfl rfl ?_ | refine ZS.skip rfl rfl rfl rfl ?_ | refine ZS.nil ?_)
      refine ZS.val (r_ldW M3 rfl (B32.size _)) rfl ?_
      repeat (first | (first | refine ZS.val (r_move rfl) rfl ?_ | refine ZS.val (r_assign rfl) rfl ?_ | refine ZS.val (r_fieldAddr rfl) rfl ?_ | refine ZS.val (r_add rfl rfl (wrap_i64 (by omega) (by omega))) rfl ?_ | refine ZS.val (r_sub rfl rfl (wrap_i64 (by omega) (by omega))) rfl ?_ | refine ZS.val (r_mul rfl rfl (wrap_i64 (by omega) (by omega))) rfl ?_ | refine ZS.val (r_lss rfl rfl) rfl ?_ | refine ZS.val (r_leq rfl rfl) rfl ?_ | refine ZS.val (r_gtr rfl rfl) rfl ?_ | refine ZS.val (r_geq rfl rfl) rfl ?_ | refine ZS.val (r_eql rfl rfl) rfl ?_ | refine ZS.val (r_neq rfl rfl) rfl ?_ | refine ZS.val (r_not rfl) rfl ?_ | refine ZS.val (r_lenSlice rfl) rfl ?_ | refine ZS.val (r_lenString rfl) rfl ?_ | refine ZS.val (r_extract rfl rfl) rfl ?_ | refine ZS.val (r_nilCheck rfl) rfl ?_ | refine ZS.val (r_makeFunc rfl rfl) rfl ?_ | refine ZS.val (r_eqlPtrNil rfl rfl) rfl ?_ | refine ZS.val (r_pickT rfl rfl) rfl ?_ | refine ZS.val (r_pickF rfl rfl) rfl ?_ | refine ZS.val (r_eqlSliceNil rfl rfl) rfl ?_ | refine ZS.val (r_max rfl rfl (Int.max_eq_left (by omega))) rfl ?_ | refine ZS.val (r_max rfl rfl (Int.max_eq_right (by omega))) rfl ?_ | refine ZS.val (r_min rfl rfl (Int.min_eq_left (by omega))) rfl ?_ | refine ZS.val (r_min rfl rfl (Int.min_eq_right (by omega))) rfl ?_ | refine ZS.val (r_convInt rfl (wrap_i64 (by omega) (by omega))) rfl ?_ | refine ZS.val (r_convInt rfl (wrap_u64 (by omega) (by omega))) rfl ?_ | refine ZS.val (r_convInt rfl (wrap_u32 (by omega) (by omega))) rfl ?_ | refine ZS.val (r_convInt rfl (wrap_u8 (by omega) (by omega))) rfl ?_) | refine ZS.on rfl rfl rfl ?_ | refine ZS.skip rfl rfl rfl rfl ?_ | refine ZS.nil ?_)
      refine ZS.val ((r_eqlB32 rfl rfl).eq (v' := .bool false) (by simp [hnot hc])) rfl ?_
      repeat (first | (first | refine ZS.val (r_move rfl) rfl ?_ | refine ZS.val (r_assign rfl) rfl ?_ | refine ZS.val (r_fieldAddr rfl) rfl ?_ | refine ZS.val (r_add rfl rfl (wrap_i64 (by omega) (by omega))) rfl ?_ | refine ZS.val (r_sub rfl rfl (wrap_i64 (by omega) (by omega))) rfl ?_ | refine ZS.val (r_mul rfl rfl (wrap_i64 (by omega) (by omega))) rfl ?_ | refine ZS.val (r_lss rfl rfl) rfl ?_ | refine ZS.val (r_leq rfl rfl) rfl ?_ | refine ZS.val (r_gtr rfl rfl) rfl ?_ | refine ZS.val (r_geq rfl rfl) rfl ?_ | refine ZS.val (r_eql rfl rfl) rfl ?_ | refine ZS.val (r_neq rfl rfl) rfl ?_ | refine ZS.val (r_not rfl) rfl ?_ | refine ZS.val (r_lenSlice rfl) rfl ?_ | refine ZS.val (r_lenString rfl) rfl ?_ | refine ZS.val (r_extract rfl rfl) rfl ?_ | refine ZS.val (r_nilCheck rfl) rfl ?_ | refine ZS.val (r_makeFunc rfl rfl) rfl ?_ | refine ZS.val (r_eqlPtrNil rfl rfl) rfl ?_ | refine ZS.val (r_pickT rfl rfl) rfl ?_ | refine ZS.val (r_pickF rfl rfl) rfl ?_ | refine ZS.val (r_eqlSliceNil rfl rfl) rfl ?_ | refine ZS.val (r_max rfl rfl (Int.max_eq_left (by omega))) rfl ?_ | refine ZS.val (r_max rfl rfl (Int.max_eq_right (by omega))) rfl ?_ | refine ZS.val (r_min rfl rfl (Int.min_eq_left (by omega))) rfl ?_ | refine ZS.val (r_min rfl rfl (Int.min_eq_right (by omega))) rfl ?_ | refine ZS.val (r_convInt rfl (wrap_i64 (by omega) (by omega))) rfl ?_ | refine ZS.val (r_convInt rfl (wrap_u64 (by omega) (by omega))) rfl ?_ | refine ZS.val (r_convInt rfl (wrap_u32 (by omega) (by omega))) rfl ?_ | refine ZS.val (r_convInt rfl (wrap_u8 (by omega) (by omega))) rfl ?_) | refine ZS.on rfl rfl rfl ?_ | refine ZS.skip rfl rfl rfl rfl ?_ | refine ZS.nil ?_)
      refine ZP.then ?_; refine ZC.condF rfl ?_; refine ZC.skip ?_
      exact ZP.mid () ⟨rfl, rfl, rfl, trivial⟩ M3
    · refine ZC.seq ?_
      refine ZC.still (by kernel_rfl) (fun w3 E3 _ => ?_)
      have M3 := M2.ext' E3
      refine ZS.val (r_move rfl) rfl ?_
      refine ZS.val (r_move rfl) rfl ?_
      refine ZS.val (r_lenSlice rfl) rfl ?_
      refine ZS.val ((r_lss rfl rfl).eq (v' := .bool false) (by simp; omega)) rfl ?_
      repeat (first | (first | refine ZS.val (r_move rfl) rfl ?_ | refine ZS.val (r_assign rfl) rfl ?_ | refine ZS.val (r_fieldAddr rfl) rfl ?_ | refine ZS.val (r_add rfl rfl (wrap_i64 (by omega) (by omega))) rfl ?_ | refine ZS.val (r_sub rfl rfl (wrap_i64 (by omega) (by omega))) rfl ?_ | refine ZS.val (r_mul rfl rfl (wrap_i64 (by omega) (by omega))) rfl ?_ | refine ZS.val (r_lss rfl rfl) rfl ?_ | refine ZS.val (r_leq rfl rfl) rfl ?_ | refine ZS.val (r_gtr rfl rfl) rfl ?_ | refine ZS.val (r_geq rfl rfl) rfl ?_ | refine ZS.val (r_eql rfl rfl) rfl ?_ | refine ZS.val (r_neq rfl rfl) rfl ?_ | refine ZS.val (r_not rfl) rfl ?_ | refine ZS.val (r_lenSlice rfl) rfl ?_ | refine ZS.val (r_lenString rfl) rfl ?_ | refine ZS.val (r_extract rfl rfl) rfl ?_ | refine ZS.val (r_nilCheck rfl) rfl ?_ | refine ZS.val (r_makeFunc rfl rfl) rfl ?_ | refine ZS.val (r_eqlPtrNil rfl rfl) rfl ?_ | refine ZS.val (r_pickT rfl rfl) rfl ?_ | refine ZS.val (r_pickF rfl rfl) rfl ?_ | refine ZS.val (r_eqlSliceNil rfl rfl) rfl ?_ | refine ZS.val (r_max rfl rfl (Int.max_eq_left (by omega))) rfl ?_ | refine ZS.val (r_max rfl rfl (Int.max_eq_right (by omega))) rfl ?_ | refine ZS.val (r_min rfl rfl (Int.min_eq_left (by omega))) rfl ?_ | refine ZS.val (r_min rfl rfl (Int.min_eq_right (by omega))) rfl ?_ | refine ZS.val (r_convInt rfl (wrap_i64 (by omega) (by omega))) rfl ?_ | refine ZS.val (r_convInt rfl (wrap_u64 (by omega) (by omega))) rfl ?_ | refine ZS.val (r_convInt rfl (wrap_u32 (by omega) (by omega))) rfl ?_ | refine ZS.val (r_convInt rfl (wrap_u8 (by omega) (by omega))) rfl ?_) | refine ZS.on rfl rfl rfl ?_ | refine ZS.skip rfl rfl rfl rfl ?_ | refine ZS.nil ?_)
      refine ZP.then ?_; refine ZC.condF rfl ?_; refine ZC.skip ?_
      exact ZP.mid () ⟨rfl, rfl, rfl, trivial⟩ M3
  clear M2
  rintro ⟨⟩ w3 M3
  have hlowl : (l.take k).length = k := by rw [List.length_take]; omega
  refine ZC.seq ?_
  refine ZC.turning (Holds [(b3, .cells x.cells.toArray 27 (0, 0))]) 12 rfl (by kernel_rfl) rfl rfl rfl (fun w4 E4 _ => ?_)
  have M4 := M3.ext' E4
  have S4 : Holds [(b3, .cells x.cells.toArray 27 (0, 0))] w4 := ⟨M4.get inferInstance, trivial⟩
  have hS : ∀ {w' : World}, Ext w4 w' → Holds [(b3, .cells x.cells.toArray 27 (0, 0))] w' := fun {w'} hE => ⟨hE.at S4.1 id, trivial⟩
  have hL4 := h.mv (Mv.ext M4.ext)
  have hlo : SlC w4 No 32 (.slice p k c) k (flatP (l.take k)) := by
    have := hL4.cut (l := 0) (h := k) (Nat.zero_le _) hk
    simpa [cutAt_zero, flatP_take] using this
  have hhi : SlC w4 No 32 (.slice (cutAt p c k 32) (l.length - k) (c - k)) (l.length - k) (flatP (l.drop k)) := by
    have := hL4.cut (l := k) (h := l.length) hk (Nat.le_refl _)
    rw [flatP_drop]
    rwa [List.take_of_length_le (by rw [List.length_drop, flatP_length, ← Nat.sub_mul]; exact Nat.le_refl _)] at this
  refine ZT.take 1 rfl rfl (fun w' hS' => r_move rfl) (by kernel_rfl) rfl (by kernel_rfl) (by kernel_rfl) rfl rfl (fun _ _ _ _ h => h) S4 ?_
  refine ZT.take 2 rfl rfl (fun w' hS' => r_move rfl) (by kernel_rfl) rfl (by kernel_rfl) (by kernel_rfl) rfl rfl (fun _ _ _ _ h => h) S4 ?_
  refine ZT.take 3 rfl rfl (fun w' hS' => (r_sliceTo rfl rfl (by omega) (by omega)).eq (v' := .slice p k c) (by simp)) (by kernel_rfl) rfl (by kernel_rfl) (by kernel_rfl) rfl rfl (fun _ _ _ _ h => h) S4 ?_
  refine ZT.take 5 rfl rfl (fun w' hS' => r_loadW rfl hS'.1 (B32.size _)) (by kernel_rfl) rfl (by kernel_rfl) (by kernel_rfl) rfl rfl (fun _ _ _ _ h => h) S4 ?_
  refine ZT.take 8 rfl rfl (fun w' hS' => r_move rfl) (by kernel_rfl) rfl (by kernel_rfl) (by kernel_rfl) rfl rfl (fun _ _ _ _ h => h) S4 ?_
  refine ZT.take 9 rfl rfl (fun w' hS' => r_move rfl) (by kernel_rfl) rfl (by kernel_rfl) (by kernel_rfl) rfl rfl (fun _ _ _ _ h => h) S4 ?_
  refine ZT.take 10 rfl rfl (fun w' hS' => (r_sliceFrom rfl rfl (by omega) (by omega)).eq (v' := .slice (cutAt p c k 32) (l.length - k) (c - k)) (by simp)) (by kernel_rfl) rfl (by kernel_rfl) (by kernel_rfl) rfl rfl (fun _ _ _ _ h => h) S4 ?_
  refine ZT.via (X := Value × Nat) #[true, true, true, true, true, true, true, false, true, true, true, false, false] 2
    (fun y => [(39, .slice (some ⟨y.2, 0, none⟩) 1 1), (37, y.1), (43, .slice (cutAt p c k 32) (l.length - k) (c - k))])
    (fun y w' => Mem w4 No [.own (.slice (some ⟨y.2, 0, none⟩) 1 1) 27 32 1 x.cells, .own y.1 27 32 k (flatP (l.take k))] w') (fun join => ?_) ?_
  · refine ZT.two 0 6 rfl (by kernel_rfl) rfl rfl rfl rfl rfl rfl ?_ ?_
    · refine ZL.bslice (Mem.start w4 No) rfl rfl rfl (by simp) (by decide) rfl (fun g5 w5 N5 => ?_)
      refine ZL.nil (ZP.turning (hS N5.ext) ?_)
      refine ZT.two 4 6 rfl (by kernel_rfl) rfl rfl rfl rfl rfl rfl ?_ ?_
      · refine ZL.append N5 rfl rfl (hlo.mv (Mv.ext N5.ext)) (flatP_one _) (by simp only [maxLen]; omega) (by omega) rfl (fun v6 w6 N6 => ?_)
        simp only [Nat.zero_add, List.nil_append] at N6
        refine ZL.nil (ZP.turning (hS N6.ext) ?_)
        refine ZT.one 6 rfl (by kernel_rfl) rfl rfl rfl ?_
        refine ZL.bslice N6 rfl rfl rfl (by simp [Value.cells, B32.len]) (by decide) rfl (fun g7 w7 N7 => ?_)
        refine ZL.nil (ZP.turning (hS N7.ext) ?_)
        exact join _ _ _ _ (by kernel_rfl) rfl ⟨(v6, g7), ⟨rfl, rfl, rfl, trivial⟩, by simpa using N7⟩
      · refine ZL.bslice N5 rfl rfl rfl (by simp [Value.cells, B32.len]) (by decide) rfl (fun g6 w6 N6 => ?_)
        refine ZL.nil (ZP.turning (hS N6.ext) ?_)
        refine ZT.one 4 rfl (by kernel_rfl) rfl rfl rfl ?_
        refine ZL.append N6 rfl rfl (hlo.mv (Mv.ext N6.ext)) (flatP_one _) (by simp only [maxLen]; omega) (by omega) rfl (fun v7 w7 N7 => ?_)
        simp only [Nat.zero_add, List.nil_append] at N7
        refine ZL.nil (ZP.turning (hS N7.ext) ?_)
        exact join _ _ _ _ (by kernel_rfl) rfl ⟨(v7, g6), ⟨rfl, rfl, rfl, trivial⟩, by simpa using N7⟩
    · refine ZL.bslice (Mem.start w4 No) rfl rfl rfl (by simp [Value.cells, B32.len]) (by decide) rfl (fun g5 w5 N5 => ?_)
      refine ZL.nil (ZP.turning (hS N5.ext) ?_)
      refine ZT.one 0 rfl (by kernel_rfl) rfl rfl rfl ?_
      refine ZL.bslice N5 rfl rfl rfl (by simp) (by decide) rfl (fun g6 w6 N6 => ?_)
      refine ZL.nil (ZP.turning (hS N6.ext) ?_)
      refine ZT.one 4 rfl (by kernel_rfl) rfl rfl rfl ?_
      refine ZL.append N6 rfl rfl (hlo.mv (Mv.ext N6.ext)) (flatP_one _) (by simp only [maxLen]; omega) (by omega) rfl (fun v7 w7 N7 => ?_)
      simp only [Nat.zero_add, List.nil_append] at N7
      refine ZL.nil (ZP.turning (hS N7.ext) ?_)
      exact join _ _ _ _ (by kernel_rfl) rfl ⟨(v7, g5), ⟨rfl, rfl, rfl, trivial⟩, by simpa using N7.swap⟩
  · rintro ⟨v24, g28⟩ w7 N7
    simp only at N7 ⊢
    refine ZT.one 7 rfl (by kernel_rfl) rfl rfl rfl ?_
    refine ZL.append N7 rfl rfl (N7.own.slc (X := No) (fun _ _ h => h)) (B32.oneL x) (by simp only [maxLen]; omega) (by omega) rfl (fun v8 w8 N8 => ?_)
    refine ZL.nil (ZP.turning (hS N8.ext) ?_)
    refine ZT.one 11 rfl (by kernel_rfl) rfl rfl rfl ?_
    refine ZL.append N8 rfl rfl (hhi.mv (Mv.ext N8.ext)) (flatP_one _) (by simp only [maxLen]; omega) (by omega) rfl (fun v9 w9 N9 => ?_)
    refine ZL.nil (ZP.turning (hS N9.ext) ?_)
    refine ZT.done rfl (by kernel_rfl) ?_
    refine ZL.val (r_assign rfl) rfl ?_; refine ZL.nil ?_; refine ZP.then ?_; refine ZC.ret ?_
    have N10 := N9.drop
    have hnew := N10.new (n' := (l.take k ++ x :: l.drop k).length) (xs' := flatP (l.take k ++ x :: l.drop k)) (by simp; omega) (by simp [flatP])
    exact ZP.ret1 rfl rfl ⟨ExtX.trans M4.ext hnew.1 (fun _ h => h) (fun _ _ h => h), _, hys, hmem, .inr ⟨hnew.2.own, fun g hg => Nat.le_trans M4.ext.size (hnew.2.new g hg)⟩⟩
end Go.Proofs.YtibobcjfjnoclaaGreatDoor.Z
end
section
/- The laws' odd transactions: some with many outputs, some with a witness. -/
set_option linter.unusedVariables false
set_option linter.unusedSimpArgs false
set_option linter.unusedSectionVars false
set_option maxRecDepth 100000
set_option maxHeartbeats 4000000
namespace Go.Proofs.YtibobcjfjnoclaaGreatDoor.Z
open Go Go.RowKit

section
variable {P : Program} {n : Nat} {ops : Array Oper} {Q : Post} {rest : List Oper} {σ : Env} {w w0 : World} {X : Nat → Prop} {L A B : List Chunk}
variable {d : Nat} {ty : TypeId} {pos : String} {after : Array Edge} {x y : Operand}
theorem madeCells_one (z : Value) (m : Nat) : madeCells #[z] m = (List.replicate m z).toArray := by
  apply Array.ext'
  have h : ∀ i, ([z][i % 1]?).getD default = z := fun i => by rw [Nat.mod_one]; rfl
  simp [madeCells, h, List.map_const']
/-- make([]T, m) -/
theorem ZL.makeSl {t e bytes m : Nat} {kl kc : IntKind} {z : Value} [TU P t (.slice e)] [te : TE P e 1 bytes z] (hM : Mem w0 X L w) (hx : ev σ x = some (.int kl m)) (hy : ev σ y = some (.int kc m)) (hz1 : z.cells = #[z]) (hb : bytes * m ≤ 281474976710656) (hm : m ≤ maxLen) (hd : Nat.blt d n = true)
    (h : ∀ g w', Mem w0 X (.own (.slice (some ⟨g, 0, none⟩) m m) e 1 m (List.replicate m z) :: L) w' → ZL P n ops Q rest ((d, .slice (some ⟨g, 0, none⟩) m m) :: σ) w') : ZL P n ops Q (⟨some d, .makeSlice t x y, ty, pos, after, none⟩ :: rest) σ w := by
  have ht := TU.h (P := P) (t := t)
  have hi0 := te.ti.h
  have hz0 := te.tz.h
  obtain ⟨i, hi⟩ : ∃ i, P.info? e = some i := by
    cases hq : P.info? e with
    | none => simp [hq] at hi0
    | some x => exact ⟨x, rfl⟩
  simp only [hi, Option.map_some, Option.some.injEq, Prod.mk.injEq] at hi0 hz0
  obtain ⟨his, hib⟩ := hi0
  have h63 : (m : Int) ≤ 9223372036854775807 := by have := hm; simp [maxLen] at this; omega
  have hb' : (i.bytes : Int) * (m : Int) ≤ 281474976710656 := by
    rw [hib, ← Int.natCast_mul]; omega
  have hr := run_make (P := P) w t e i z ht hi hz0 kl kc m m (by omega) (Int.le_refl _) hb' h63
  simp only [Int.toNat_natCast, his, Nat.mul_one, hz1, madeCells_one] at hr
  have hv : VW P σ (.makeSlice t x y) (.slice (some ⟨w.heap.size, 0, none⟩) m m) w (w.alloc (.cells (List.replicate m z).toArray e)) := by
    refine ⟨fun ρ ha o ho => ?_⟩; simp [execOp, ho, ha _ _ hx, ha _ _ hy, hr]
  refine ZL.vw hv hd (h _ _ ?_)
  have hpush := hM.push (Upd.alloc w (.cells (List.replicate m z).toArray e)) rfl
  refine Mem.add hpush.drop (c := .own (.slice (some ⟨w.heap.size, 0, none⟩) m m) e 1 m (List.replicate m z)) ⟨by simp, .inr ⟨_, m, (List.replicate m z).toArray, rfl, hpush.ok (.blk w.heap.size (.cells (List.replicate m z).toArray e)) (by simp), Nat.le_refl _, hm, by simp, by simp⟩⟩ ?_
  intro g hg
  simp only [Chunk.fp, Value.ownBlock, Option.some.injEq] at hg
  subst hg
  refine ⟨hM.ext.size, fun c hc hf => ?_⟩
  have := Chunk.lt (hM.ok c hc) _ hf
  omega
/-- A cell of an own slice is written. -/
theorem ZL.stOwn {t e s m g cap j by' : Nat} {xs : List Value} {v : Value} [TI P t 1 by'] (hM : Mem w0 X (A ++ .own (.slice (some ⟨g, 0, none⟩) m cap) e s m xs :: B) w) (hx : ev σ x = some (.pointer (some ⟨g, j, none⟩))) (hy : ev σ y = some v) (hj : j < m * s) (h1 : v.oneCell' = true)
    (h : ∀ w', Mem w0 X (A ++ .own (.slice (some ⟨g, 0, none⟩) m cap) e s m (xs.set j v) :: B) w' → ZL P n ops Q rest σ w') : ZL P n ops Q (⟨none, .store t x y, ty, pos, after, none⟩ :: rest) σ w := by
  have hO : OwnR w e s (.slice (some ⟨g, 0, none⟩) m cap) m xs := hM.ok (.own (.slice (some ⟨g, 0, none⟩) m cap) e s m xs) (by simp)
  rcases hO.2 with ⟨hv, _⟩ | ⟨g', cap', cur, hv, hg, h3, h4, h5, h6⟩
  · cases hv
  simp only [Value.slice.injEq, Option.some.injEq, Addr.mk.injEq, and_true, true_and] at hv
  obtain ⟨rfl, rfl⟩ := hv
  have hle : m * s ≤ cap * s := Nat.mul_le_mul_right _ h3
  refine ZL.unit (uw_store1 hx hy hg (by omega) h1) (h _ ?_)
  have hU := Upd.setRow (cs := cur.setIfInBounds j v) hg
  refine hM.turn (c' := .own (.slice (some ⟨g, 0, none⟩) m cap) e s m (xs.set j v)) (hU.extX.mono fun b hb => by subst hb; rfl) ⟨by simp [hO.1], .inr ⟨g, cap, _, rfl, hU.at', h3, h4, by simpa using h5, ?_⟩⟩ (fun b hb => .inl hb)
  rw [Array.toList_setIfInBounds, List.take_set, h6]
end
theorem OwnR.cell {w : World} {e s m g cap : Nat} {xs : List Value} (h : OwnR w e s (.slice (some ⟨g, 0, none⟩) m cap) m xs) {j : Nat} {u : Value} (hj : xs[j]? = some u) : ∃ cur, w.heap[g]? = some (.cells cur e (0, 0)) ∧ cur[j]? = some u := by
  rcases h.2 with ⟨hv, _⟩ | ⟨g', cap', cur, hv, hg, h3, h4, h5, h6⟩
  · cases hv
  simp only [Value.slice.injEq, Option.some.injEq, Addr.mk.injEq, and_true, true_and] at hv
  obtain ⟨rfl, rfl⟩ := hv
  refine ⟨cur, hg, ?_⟩
  rw [← h6, List.getElem?_take] at hj
  split at hj
  · simpa using hj
  · cases hj
theorem OwnR.some {w : World} {e s m : Nat} {v : Value} {xs : List Value} (h : OwnR w e s v m xs) (hm : 0 < m) : ∃ g cap, v = .slice (some ⟨g, 0, none⟩) m cap := by
  rcases h.2 with ⟨_, h0⟩ | ⟨g, cap, cur, rfl, _⟩
  · omega
  · exact ⟨g, cap, rfl⟩
theorem flatten_set {s : Nat} : ∀ (A : List (List Value)) (row : List Value) (B : List (List Value)) (j : Nat) (v : Value), (∀ r ∈ A, r.length = s) → j < row.length → (A ++ row :: B).flatten.set (A.length * s + j) v = (A ++ row.set j v :: B).flatten
  | [], row, B, j, v, _, hj => by
    simp only [List.nil_append, List.flatten_cons, List.length_nil, Nat.zero_mul, Nat.zero_add]
    rw [List.set_append_left _ _ hj]
  | a :: A, row, B, j, v, h, hj => by
    have ha : a.length = s := h a (by simp)
    simp only [List.cons_append, List.flatten_cons, List.length_cons]
    rw [List.set_append_right _ _ (by rw [ha, Nat.succ_mul]; omega), ha, show (A.length + 1) * s + j - s = A.length * s + j by rw [Nat.succ_mul]; omega, flatten_set A row B j v (fun r hr => h r (List.mem_cons_of_mem _ hr)) hj]

theorem bytesZ {w : World} {X : Nat → Prop} {v : Value} {m : Nat} (h : SlC w X 1 v m (List.replicate m (.int .u8 0))) : BytesR w X v (List.replicate m 0) := by
  unfold BytesR
  rw [List.length_replicate, List.map_replicate]
  exact h
def ochs (rs : List LRec) : List Chunk := rs.flatMap fun r => [r.ci, r.co]
theorem lchs_perm : ∀ recs : List LRec, (lchs recs).Perm (ochs recs.reverse)
  | [] => List.Perm.refl _
  | r :: l => by
    have ih := lchs_perm l
    simp only [lchs, List.reverse_cons, ochs, List.flatMap_append, List.flatMap_cons, List.flatMap_nil, List.append_nil] at ih ⊢
    have : (r.ci :: r.co :: lchs l).Perm (lchs l ++ [r.ci, r.co]) := by
      have := (List.perm_append_comm (l₁ := [r.ci, r.co]) (l₂ := lchs l))
      exact this
    exact this.trans (ih.append_right _)
/-- A transaction that some may have turned odd. -/
structure OOk (w0 : World) (L : List Chunk) (w : World) (r : LRec) : Prop where
  ins : ∀ row ∈ r.irows, row.length = 36 ∧ ∃ i, InE w (Out w0 L) row i ∧ i.script = [] ∧ i.wit.length ≤ 1 ∧ ∀ b ∈ i.wit, b.length ≤ 300
  outs : ∀ row ∈ r.orows, row.length = 2 ∧ ∃ o, OutE w (Out w0 L) row o ∧ o.script.length ≤ 200
  i1 : 1 ≤ r.irows.length
  i2 : r.irows.length ≤ 2
  o1 : 1 ≤ r.orows.length
def OF (w0 : World) (L : List Chunk) (w : World) (rs : List LRec) : Prop := ∀ r ∈ rs, OOk w0 L w r
theorem OF.mv {w0 w w' : World} {L L' : List Chunk} {rs : List LRec} (h : OF w0 L w rs) (m : Mv w (Out w0 L) w' (Out w0 L')) : OF w0 L' w' rs := fun r hr => by
  obtain ⟨a, b, c, d, e⟩ := h r hr
  exact ⟨fun row h => by obtain ⟨h1, i, h2, h3⟩ := a row h; exact ⟨h1, i, h2.mv m, h3⟩, fun row h => by obtain ⟨h1, i, h2, h3⟩ := b row h; exact ⟨h1, i, h2.mv m, h3⟩, c, d, e⟩
theorem LOk.odd {w0 w : World} {L : List Chunk} {r : LRec} (h : LOk w0 L w r) : OOk w0 L w r :=
  ⟨fun row hr => by obtain ⟨h1, i, h2, h3, h4⟩ := h.ins row hr; exact ⟨h1, i, h2, h3, by simp [h4], by simp [h4]⟩, fun row hr => by obtain ⟨h1, i, h2, h3⟩ := h.outs row hr; exact ⟨h1, i, h2, by omega⟩, h.i1, h.i2, h.o1⟩
abbrev oddK (g cap N : Nat) (A : List LRec) (r : LRec) (B : List LRec) : List Chunk :=
  .own r.ov 64 2 r.orows.length r.orows.flatten :: .own r.iv 60 36 r.irows.length r.irows.flatten :: .own (.slice (some ⟨g, 0, none⟩) N cap) 33 4 N ((A ++ r :: B).map LRec.row).flatten :: (ochs A ++ ochs B)
theorem odd_perm (g cap N : Nat) (A : List LRec) (r : LRec) (B : List LRec) : (.own (.slice (some ⟨g, 0, none⟩) N cap) 33 4 N ((A ++ r :: B).map LRec.row).flatten :: ochs (A ++ r :: B)).Perm (oddK g cap N A r B) := by
  have e : ochs (A ++ r :: B) = ochs A ++ (r.ci :: r.co :: ochs B) := by simp [ochs]
  rw [e]
  unfold oddK
  have h1 : (ochs A ++ (r.ci :: r.co :: ochs B)).Perm (r.ci :: r.co :: (ochs A ++ ochs B)) := by
    refine List.perm_middle.trans (List.Perm.cons _ List.perm_middle)
  refine (List.Perm.cons _ h1).trans ?_
  refine (List.Perm.swap _ _ _).trans ?_
  refine (List.Perm.cons _ (List.Perm.swap _ _ _)).trans ?_
  exact List.Perm.swap _ _ _
theorem Mv.permO {w0 w : World} {L L' : List Chunk} (h : L.Perm L') : Mv w (Out w0 L) w (Out w0 L') := Mv.mono fun b _ hb => hb.imp id fun ⟨c, hc, hg⟩ => ⟨c, h.mem_iff.2 hc, hg⟩
theorem Odd_ok (v : Value) (l : List Int) (w : World) (hv : IntsA w v l) : Ret P 16 #[v] w (fun r w' =>
    ∃ rs : List LRec, Mem w No (.own r 33 4 rs.length (rs.map LRec.row).flatten :: ochs rs) w' ∧ OF w (.own r 33 4 rs.length (rs.map LRec.row).flatten :: ochs rs) w' rs ∧ (∀ r ∈ rs, r.orows.length ≤ 100) ∧ rs.length ≤ 14) := by
  have hv0 := hv
  obtain ⟨p, c, rfl, -⟩ := hv0
  refine Ret.enter1 Tryz.func16 rfl Tryz.ntmps16 rfl ?_
  refine ZC.seq ?_; refine ZC.region ?_; refine ZL.val (r_assign rfl) rfl ?_; refine ZL.nil ?_; refine ZP.then ?_; refine ZC.seq ?_; refine ZC.region ?_; refine ZL.val (r_move rfl) rfl ?_
  refine ZL.call (r_call rfl) rfl (Linked_ok _ l w hv) (fun rv w1 ⟨recs, M1, F1, hn⟩ => ?_)
  have hrv : lrows recs = recs.reverse.map LRec.row := by unfold lrows; rw [List.map_reverse]
  have hln : recs.length = recs.reverse.length := by simp
  have M1' : Mem w No (.own rv 33 4 recs.reverse.length (recs.reverse.map LRec.row).flatten :: ochs recs.reverse) w1 := by
    rw [← hrv, ← hln]; exact M1.perm (List.Perm.cons _ (lchs_perm recs))
  have F1' : OF w (.own rv 33 4 recs.reverse.length (recs.reverse.map LRec.row).flatten :: ochs recs.reverse) w1 recs.reverse := by
    refine OF.mv (fun r hr => (F1 r (List.mem_reverse.1 hr)).odd) (Mv.mono fun b _ hb => hb.imp id fun ⟨c, hc, hg⟩ => ⟨c, ?_, hg⟩)
    rw [← hrv, ← hln] at hc
    exact (List.Perm.cons _ (lchs_perm recs)).mem_iff.2 hc
  have O1 : ∀ r ∈ recs.reverse, r.orows.length ≤ 4 := fun r hr => (F1 r (List.mem_reverse.1 hr)).o2
  have hn' : recs.reverse.length ≤ 14 := by rw [← hln]; omega
  clear M1 F1 hrv hn hln
  generalize recs.reverse = rs0 at M1' F1' O1 hn'
  clear recs
  generalize hN : rs0.length = N at M1' F1' hn'
  obtain ⟨pv, cv, hshape⟩ := M1'.own.shape
  subst hshape
  refine ZL.val (r_assign rfl) rfl ?_; refine ZL.nil ?_; refine ZP.then ?_; refine ZC.seq ?_; refine ZC.seq ?_; refine ZC.region ?_; refine ZL.val (r_move rfl) rfl ?_; refine ZL.val (r_lenSlice rfl) rfl ?_; refine ZL.val (r_move rfl) rfl ?_; refine ZL.nil ?_; refine ZP.then ?_; refine ZC.block ?_
  refine ZC.loop (X := Nat × List LRec) (fun x => [(10, .int .i64 x.1), (9, .int .i64 (N : Int)), (3, .slice pv N cv), (0, .slice p l.length c)])
    (fun x w' => Mem w No (.own (.slice pv N cv) 33 4 N (x.2.map LRec.row).flatten :: ochs x.2) w' ∧ OF w (.own (.slice pv N cv) 33 4 N (x.2.map LRec.row).flatten :: ochs x.2) w' x.2 ∧ (∀ r ∈ x.2, r.orows.length ≤ 100) ∧ (∀ j (h : j < x.2.length), x.1 ≤ j → x.2[j].orows.length ≤ 4) ∧ x.2.length = N ∧ x.1 ≤ N)
    (fun x => N - x.1) (0, rs0) ⟨rfl, rfl, rfl, rfl, trivial⟩ ⟨M1', F1', fun r hr => by have := O1 r hr; omega, fun j h _ => O1 _ (List.getElem_mem h), hN, Nat.zero_le _⟩ ?_
  clear M1' F1' O1 hN
  rintro ⟨i, rs⟩ w1 ⟨M1, F1, O1, U1, hN, hi⟩
  simp only at M1 F1 O1 U1 hN hi ⊢
  refine ZC.seq ?_; refine ZC.region ?_; refine ZL.val (r_lss rfl rfl) rfl ?_; refine ZL.nil ?_; refine ZP.then ?_; refine ZC.seq ?_
  refine ZC.condD rfl (fun hc => ?_) (fun hc => ?_)
  rotate_left
  · refine ZC.exit ?_; refine ZP.thenX ?_; refine ZP.thenX ?_; refine ZP.blockE ?_; refine ZP.then ?_; refine ZC.seq ?_; refine ZC.region ?_; refine ZL.val (r_move rfl) rfl ?_; refine ZL.val (r_assign rfl) rfl ?_; refine ZL.nil ?_; refine ZP.then ?_; refine ZC.ret ?_
    subst hN
    exact ZP.ret1 rfl rfl ⟨rs, M1, F1, O1, hn'⟩
  have hiN : i < N := by omega
  have hirs : i < rs.length := by omega
  obtain ⟨g, cap, hvs⟩ := M1.own.some (by omega)
  simp only [Value.slice.injEq, true_and] at hvs
  obtain ⟨rfl, rfl⟩ := hvs
  obtain ⟨A, r0, B, hrs, hAl⟩ : ∃ A r0 B, rs = A ++ r0 :: B ∧ A.length = i := ⟨rs.take i, rs[i], rs.drop (i + 1), by simp, by rw [List.length_take]; omega⟩
  subst hrs
  subst hAl
  have hU0 : r0.orows.length ≤ 4 := by have := U1 A.length hirs (Nat.le_refl _); simpa using this
  have hAr : ∀ r ∈ A.map LRec.row, r.length = 4 := fun r hr => by obtain ⟨a, -, rfl⟩ := List.mem_map.1 hr; rfl
  have hcell : ∀ (r : LRec) (j : Nat) (u : Value), r.row[j]? = some u → ((A ++ r :: B).map LRec.row).flatten[A.length * 4 + j]? = some u := fun r j u hu => by
    refine flatten_at (s := 4) _ A.length r.row (fun q hq => by obtain ⟨a, -, rfl⟩ := List.mem_map.1 hq; rfl) ?_ j u hu
    simp
  refine ZC.skip ?_; refine ZP.then ?_; refine ZC.seq ?_; refine ZC.block ?_; refine ZC.seq ?_; refine ZC.region ?_; refine ZL.val (r_move rfl) rfl ?_; refine ZL.val (r_assign rfl) rfl ?_; refine ZL.nil ?_; refine ZP.then ?_; refine ZC.seq ?_; refine ZC.region ?_; refine ZL.val (r_move rfl) rfl ?_; refine ZL.val (r_move rfl) rfl ?_; refine ZL.val (r_lenSlice rfl) rfl ?_; refine ZL.val (r_lss rfl rfl) rfl ?_; refine ZL.nil ?_; refine ZP.then ?_
  refine ZC.condD rfl (fun hc2 => ?_) (fun hc2 => ?_)
  rotate_left
  · refine ZC.skip ?_; refine ZP.blockN ?_; refine ZP.then ?_; refine ZC.region ?_; refine ZL.val (r_add rfl rfl (wrap_i64 (by omega) (by omega))) rfl ?_; refine ZL.val (r_move rfl) rfl ?_; refine ZL.nil ?_
    refine ZP.round (A.length + 1, A ++ r0 :: B) ⟨rfl, rfl, rfl, rfl, trivial⟩ ⟨M1, F1, O1, fun j h hj => U1 j h (by omega), hN, by omega⟩ (by simp only; omega)
  have hil : A.length < l.length := by omega
  obtain ⟨-, bl, ol, csl, el, fzl, rfl, hhl, hcl⟩ := (hv.ext M1.ext).elem hil
  have M2 := M1.perm (odd_perm g cv N A r0 B)
  have F2 := F1.mv (Mv.permO (odd_perm g cv N A r0 B))
  have hN' : ∀ r : LRec, (A ++ r :: B).length = N := fun r => by rw [← hN]; simp
  have O2 : ∀ q ∈ A ++ B, q.orows.length ≤ 100 := fun q hq => O1 q (by simp only [List.mem_append, List.mem_cons] at hq ⊢; rcases hq with h | h <;> simp [h])
  have UB : ∀ (r : LRec) (j : Nat) (h : j < (A ++ r :: B).length), A.length + 1 ≤ j → (A ++ r :: B)[j].orows.length ≤ 4 := fun r j h hj => by
    have h1 := U1 j (by rw [hN' r] at h; rw [hN]; exact h) (by omega)
    rw [List.getElem_append_right (by omega)] at h1 ⊢
    rw [List.getElem_cons, dif_neg (by omega)] at h1 ⊢
    exact h1
  clear M1 F1 O1 U1
  refine ZC.mid (X := LRec) (fun _ => [(4, .int .i64 A.length), (10, .int .i64 A.length), (9, .int .i64 (N : Int)), (3, .slice (some ⟨g, 0, none⟩) N cv), (0, .slice (some ⟨bl, ol, none⟩) l.length c)])
    (fun r w' => Mem w No (oddK g cv N A r B) w' ∧ OF w (oddK g cv N A r B) w' (A ++ r :: B) ∧ r.orows.length ≤ 100) ?_ ?_
  · refine ZC.seq ?_; refine ZC.region ?_; refine ZL.val (r_assign rfl) rfl ?_; refine ZL.nil ?_; refine ZP.then ?_; refine ZC.block ?_
    refine ZC.loop (X := Nat × LRec) (fun x => [(5, .int .i64 x.1), (4, .int .i64 A.length), (10, .int .i64 A.length), (9, .int .i64 (N : Int)), (3, .slice (some ⟨g, 0, none⟩) N cv), (0, .slice (some ⟨bl, ol, none⟩) l.length c)])
      (fun x w' => Mem w No (oddK g cv N A x.2 B) w' ∧ OF w (oddK g cv N A x.2 B) w' (A ++ x.2 :: B) ∧ x.2.orows.length ≤ 4 + x.1 ∧ x.1 ≤ 21) (fun x => 21 - x.1) (0, r0) ⟨rfl, rfl, rfl, rfl, rfl, rfl, trivial⟩ ⟨M2, F2, by simpa using hU0, by omega⟩ ?_
    clear M2 F2 hU0 hhl hcl
    rintro ⟨k, r⟩ w2 ⟨M2, F2, hro, hk⟩
    simp only at M2 F2 hro hk ⊢
    obtain ⟨-, bl', ol', csl, el, fzl, hpl, hhl, hcl⟩ := (hv.ext M2.ext).elem hil
    simp only [Option.some.injEq, Addr.mk.injEq, and_true] at hpl
    obtain ⟨rfl, rfl⟩ := hpl
    generalize hln : l[A.length] = ln at hcl
    obtain ⟨q, hq, hqe⟩ := iand_mask (ln / 2 ^ (min ((7 : Int).toNat) IntKind.i64.bits)) 7 (by decide)
    refine ZC.seq ?_; refine ZC.seq ?_; refine ZC.region ?_; refine ZL.val (r_move rfl) rfl ?_; refine ZL.val (r_move rfl) rfl ?_; refine ZL.val (r_move rfl) rfl ?_
    refine ZL.val (r_idxS A.length rfl rfl rfl hil) rfl ?_
    rw [Nat.mul_one]
    refine ZL.val (r_load1 rfl hhl hcl) rfl ?_
    refine ZL.val (r_shr rfl rfl (by omega) rfl) rfl ?_
    refine ZL.val (r_and rfl rfl hqe) rfl ?_
    refine ZL.val (r_mul rfl rfl (wrap_i64 (by omega) (by omega))) rfl ?_
    refine ZL.val (r_lss rfl rfl) rfl ?_; refine ZL.nil ?_; refine ZP.then ?_
    refine ZC.condD rfl (fun hd => ?_) (fun hd => ?_)
    rotate_left
    · refine ZC.exit ?_; refine ZP.thenX ?_; refine ZP.thenX ?_; refine ZP.blockE ?_
      exact ZP.mid r ⟨rfl, rfl, rfl, rfl, rfl, trivial⟩ ⟨M2, F2, by omega⟩
    have hk21 : k < 21 := by omega
    refine ZC.skip ?_; refine ZP.then ?_; refine ZC.seq ?_; refine ZC.block ?_
    have hSo : ∀ {w0' w' : World} {X' : Nat → Prop} {L' : List Chunk}, Mem w0' X' L' w' → .own (.slice (some ⟨g, 0, none⟩) N cv) 33 4 N ((A ++ r :: B).map LRec.row).flatten ∈ L' → ∃ cur, w'.heap[g]? = some (.cells cur 33 (0, 0)) ∧ cur[0 + A.length * 4 + 2]? = some r.ov := fun {w0' w' X' L'} M hm => by
      have hO : OwnR w' 33 4 (.slice (some ⟨g, 0, none⟩) N cv) N ((A ++ r :: B).map LRec.row).flatten := M.ok _ hm
      have := hO.cell (hcell r 2 r.ov rfl)
      simpa using this
    refine ZC.turning (fun w' => ∃ cur, w'.heap[g]? = some (.cells cur 33 (0, 0)) ∧ cur[0 + A.length * 4 + 2]? = some r.ov) 11 rfl (by kernel_rfl) rfl rfl rfl (fun w3 E3 _ => ?_)
    have M3 := M2.ext' E3
    have F3 := F2.mv (Mv.ext E3)
    have S3 := hSo M3 (by simp)
    refine ZT.take 0 rfl rfl (fun w' hS' => r_move rfl) (by kernel_rfl) rfl (by kernel_rfl) (by kernel_rfl) rfl rfl (fun _ _ _ _ h => h) S3 ?_
    refine ZT.take 1 rfl rfl (fun w' hS' => r_move rfl) (by kernel_rfl) rfl (by kernel_rfl) (by kernel_rfl) rfl rfl (fun _ _ _ _ h => h) S3 ?_
    refine ZT.take 2 rfl rfl (fun w' hS' => r_move rfl) (by kernel_rfl) rfl (by kernel_rfl) (by kernel_rfl) rfl rfl (fun _ _ _ _ h => h) S3 ?_
    refine ZT.take 3 rfl rfl (fun w' hS' => r_move rfl) (by kernel_rfl) rfl (by kernel_rfl) (by kernel_rfl) rfl rfl (fun _ _ _ _ h => h) S3 ?_
    refine ZT.take 4 rfl rfl (fun w' hS' => r_idxS A.length rfl rfl rfl hiN) (by kernel_rfl) rfl (by kernel_rfl) (by kernel_rfl) rfl rfl (fun _ _ _ _ h => h) S3 ?_
    refine ZT.take 5 rfl rfl (fun w' hS' => r_fieldAddr rfl) (by kernel_rfl) rfl (by kernel_rfl) (by kernel_rfl) rfl rfl (fun _ _ _ _ h => h) S3 ?_
    refine ZT.take 6 rfl rfl (fun w' hS' => r_load1 rfl hS'.choose_spec.1 hS'.choose_spec.2) (by kernel_rfl) rfl (by kernel_rfl) (by kernel_rfl) rfl rfl (fun _ _ _ _ h => h) S3 ?_
    refine ZT.one 7 rfl (by kernel_rfl) rfl rfl rfl ?_
    refine ZL.makeSl (m := 200) M3.rebase rfl rfl rfl (by omega) (by simp [maxLen]) rfl (fun g5 w5 R5 => ?_)
    have S5 := hSo R5 (by simp)
    refine ZL.nil (ZP.turning S5 ?_)
    refine ZT.take 8 rfl rfl (fun w' hS' => r_buildOne rfl rfl (cs := [.int .u64 9000, .slice (some ⟨g5, 0, none⟩) 200 200]) rfl) (by kernel_rfl) rfl (by kernel_rfl) (by kernel_rfl) rfl rfl (fun _ _ _ _ h => h) S5 ?_
    refine ZT.one 9 rfl (by kernel_rfl) rfl rfl rfl ?_
    refine ZL.bslice R5 rfl rfl rfl (by simp [Value.cells]) (by decide) rfl (fun g6 w6 R6 => ?_)
    have S6 := hSo R6 (by simp)
    refine ZL.nil (ZP.turning S6 ?_)
    refine ZT.one 10 rfl (by kernel_rfl) rfl rfl rfl ?_
    refine ZL.append R6 rfl rfl (R6.own.slc (X := No) (fun _ _ h => h)) (by intro x hx; simp only [List.append_nil, List.mem_cons, List.not_mem_nil, or_false] at hx; rcases hx with rfl | rfl <;> rfl) (by simp only [maxLen]; omega) (by omega) rfl (fun ov' w7 R7 => ?_)
    have S7 := hSo R7 (by simp)
    refine ZL.nil (ZP.turning S7 ?_)
    refine ZT.done rfl (by kernel_rfl) ?_
    refine ZL.val (r_idxS A.length rfl rfl rfl hiN) rfl ?_
    refine ZL.val (r_fieldAddr rfl) rfl ?_
    obtain ⟨po, co, hov⟩ := OwnR.shape (R7.ok (.own ov' 64 2 (r.orows.length + 1) (r.orows.flatten ++ [.int .u64 9000, .slice (some ⟨g5, 0, none⟩) 200 200])) (by simp))
    refine ZL.stOwn (A := [_, _, _, _]) R7 rfl rfl (by omega) (by rw [hov]; rfl) (fun w8 R8 => ?_)
    simp only [List.cons_append, List.nil_append] at R8
    have R9 := R8.drop
    have mv9 := (Mv.frame (w0 := w) R9).trans Mv.drop
    obtain ⟨M10, Smk⟩ := (M3.join R9).out
    have F10 := F3.mv mv9
    clear R5 R6 R7 R8 R9 M2 F2 M3 F3 mv9 S3 S5 S6 S7 hSo
    obtain ⟨r', hr'⟩ : ∃ r' : LRec, r' = { r with ov := ov', orows := r.orows ++ [[.int .u64 9000, .slice (some ⟨g5, 0, none⟩) 200 200]] } := ⟨_, rfl⟩
    have e1 : ((A ++ r :: B).map LRec.row).flatten.set (0 + A.length * 4 + 2) ov' = ((A ++ r' :: B).map LRec.row).flatten := by
      have := flatten_set (s := 4) (A.map LRec.row) r.row (B.map LRec.row) 2 ov' hAr (by simp [LRec.row])
      rw [List.length_map] at this
      rw [Nat.zero_add, List.map_append, List.map_cons, this, List.map_append, List.map_cons, hr']
      rfl
    rw [e1] at M10 F10 Smk
    have e2 : ∀ xs : List Value, xs = r'.orows.flatten → Chunk.own ov' 64 2 (r.orows.length + 1) xs = .own r'.ov 64 2 r'.orows.length r'.orows.flatten := fun xs hx => by subst hx; rw [hr']; simp
    rw [e2 _ (by rw [hr']; simp)] at M10 F10 Smk
    have e3 : Chunk.own r.iv 60 36 r.irows.length r.irows.flatten = .own r'.iv 60 36 r'.irows.length r'.irows.flatten := by rw [hr']
    rw [e3] at M10 F10 Smk
    have FF : OF w (oddK g cv N A r' B) w8 (A ++ r' :: B) := fun q hq => by
      rcases List.mem_append.1 hq with hq | hq
      · exact F10 q (by simp [hq])
      · rcases List.mem_cons.1 hq with h9 | hq
        · rw [h9]
          obtain ⟨a, b, c', d, e⟩ := F10 r (by simp)
          have hi' : r'.irows = r.irows := by rw [hr']
          have ho' : r'.orows = r.orows ++ [[.int .u64 9000, .slice (some ⟨g5, 0, none⟩) 200 200]] := by rw [hr']
          refine ⟨by rw [hi']; exact a, fun row hrow => ?_, by rw [hi']; exact c', by rw [hi']; exact d, by rw [ho']; simp⟩
          rw [ho'] at hrow
          rcases List.mem_append.1 hrow with hrow | hrow
          · exact b row hrow
          · simp only [List.mem_singleton] at hrow
            subst hrow
            exact ⟨rfl, ⟨9000, List.replicate 200 0⟩, ⟨_, rfl, bytesZ Smk⟩, by simp⟩
        · exact F10 q (by simp [hq])
    have hro' : r'.orows.length ≤ 4 + (k + 1) := by rw [hr']; simp; omega
    clear F10 Smk e1 e2 e3 hr'
    refine ZL.nil ?_; refine ZP.blockN ?_; refine ZP.then ?_; refine ZC.region ?_; refine ZL.val (r_move rfl) rfl ?_; refine ZL.val (r_add rfl rfl (wrap_i64 (by omega) (by omega))) rfl ?_; refine ZL.val (r_assign rfl) rfl ?_; refine ZL.nil ?_
    exact ZP.round (k + 1, r') ⟨rfl, rfl, rfl, rfl, rfl, rfl, trivial⟩ ⟨M10, FF, hro', by omega⟩ (by simp only; omega)
  clear M2 F2 hU0 hhl hcl
  rintro r w2 ⟨M2, F2, hro⟩
  obtain ⟨-, bl', ol', csl, el, fzl, hpl, hhl, hcl⟩ := (hv.ext M2.ext).elem hil
  simp only [Option.some.injEq, Addr.mk.injEq, and_true] at hpl
  obtain ⟨rfl, rfl⟩ := hpl
  generalize hln : l[A.length] = ln at hcl
  obtain ⟨q, hq, hqe⟩ := iand_mask (ln / 2 ^ (min ((10 : Int).toNat) IntKind.i64.bits)) 7 (by decide)
  obtain ⟨z, hz, hze⟩ := iand_mask (ln / 2 ^ (min ((13 : Int).toNat) IntKind.i64.bits)) 255 (by decide)
  have fin : ∀ (r' : LRec) (w' : World), Mem w No (oddK g cv N A r' B) w' → OF w (oddK g cv N A r' B) w' (A ++ r' :: B) → r'.orows.length ≤ 100 →
      Mem w No (.own (.slice (some ⟨g, 0, none⟩) N cv) 33 4 N ((A ++ r' :: B).map LRec.row).flatten :: ochs (A ++ r' :: B)) w' ∧ OF w (.own (.slice (some ⟨g, 0, none⟩) N cv) 33 4 N ((A ++ r' :: B).map LRec.row).flatten :: ochs (A ++ r' :: B)) w' (A ++ r' :: B) ∧ (∀ q ∈ A ++ r' :: B, q.orows.length ≤ 100) ∧ (∀ j (h : j < (A ++ r' :: B).length), A.length + 1 ≤ j → (A ++ r' :: B)[j].orows.length ≤ 4) ∧ (A ++ r' :: B).length = N ∧ A.length + 1 ≤ N := fun r' w' M F h => by
    refine ⟨M.perm (odd_perm g cv N A r' B).symm, F.mv (Mv.permO (odd_perm g cv N A r' B).symm), fun q hq => ?_, UB r', hN' r', by omega⟩
    rcases List.mem_append.1 hq with hq | hq
    · exact O2 q (by simp [hq])
    · rcases List.mem_cons.1 hq with rfl | hq
      · exact h
      · exact O2 q (by simp [hq])
  refine ZC.seq ?_; refine ZC.region ?_; refine ZL.val (r_move rfl) rfl ?_; refine ZL.val (r_move rfl) rfl ?_
  refine ZL.val (r_idxS A.length rfl rfl rfl hil) rfl ?_
  rw [Nat.mul_one]
  refine ZL.val (r_load1 rfl hhl hcl) rfl ?_
  refine ZL.val (r_shr rfl rfl (by omega) rfl) rfl ?_
  refine ZL.val (r_and rfl rfl hqe) rfl ?_
  refine ZL.val (r_eql rfl rfl) rfl ?_; refine ZL.nil ?_; refine ZP.then ?_
  refine ZC.condD rfl (fun hd => ?_) (fun hd => ?_)
  rotate_left
  · refine ZC.skip ?_; refine ZP.blockN ?_; refine ZP.then ?_; refine ZC.region ?_; refine ZL.val (r_add rfl rfl (wrap_i64 (by omega) (by omega))) rfl ?_; refine ZL.val (r_move rfl) rfl ?_; refine ZL.nil ?_
    exact ZP.round (A.length + 1, A ++ r :: B) ⟨rfl, rfl, rfl, rfl, trivial⟩ (fin r _ M2 F2 hro) (by simp only; omega)
  have hi1 : 0 < r.irows.length := (F2 r (by simp)).i1
  obtain ⟨gi, capi, hiv⟩ := OwnR.some (M2.ok (.own r.iv 60 36 r.irows.length r.irows.flatten) (by simp)) hi1
  obtain ⟨row0, tl, hirow⟩ : ∃ row0 tl, r.irows = row0 :: tl := by
    cases h : r.irows with
    | nil => rw [h] at hi1; simp at hi1
    | cons a b => exact ⟨a, b, rfl⟩
  skip
  have hSo : ∀ {w0' w' : World} {X' : Nat → Prop} {L' : List Chunk}, Mem w0' X' L' w' → .own (.slice (some ⟨g, 0, none⟩) N cv) 33 4 N ((A ++ r :: B).map LRec.row).flatten ∈ L' → w'.heap[bl]? = some (.cells csl el fzl) → (∃ cur, w'.heap[g]? = some (.cells cur 33 (0, 0)) ∧ cur[0 + A.length * 4 + 1]? = some (.slice (some ⟨gi, 0, none⟩) r.irows.length capi)) ∧ w'.heap[bl]? = some (.cells csl el fzl) := fun {w0' w' X' L'} M hm hb => by
    have hO : OwnR w' 33 4 (.slice (some ⟨g, 0, none⟩) N cv) N ((A ++ r :: B).map LRec.row).flatten := M.ok _ hm
    have := hO.cell (hcell r 1 r.iv rfl)
    rw [hiv] at this
    exact ⟨by simpa using this, hb⟩
  refine ZC.turning (fun w' => (∃ cur, w'.heap[g]? = some (.cells cur 33 (0, 0)) ∧ cur[0 + A.length * 4 + 1]? = some (.slice (some ⟨gi, 0, none⟩) r.irows.length capi)) ∧ w'.heap[bl]? = some (.cells csl el fzl)) 13 rfl (by kernel_rfl) rfl rfl rfl (fun w3 E3 _ => ?_)
  have M3 := M2.ext' E3
  have F3 := F2.mv (Mv.ext E3)
  have S3 := hSo M3 (by simp) (E3.at hhl (fun h => h))
  refine ZT.take 0 rfl rfl (fun w' hS' => r_move rfl) (by kernel_rfl) rfl (by kernel_rfl) (by kernel_rfl) rfl rfl (fun _ _ _ _ h => h) S3 ?_
  refine ZT.take 1 rfl rfl (fun w' hS' => r_move rfl) (by kernel_rfl) rfl (by kernel_rfl) (by kernel_rfl) rfl rfl (fun _ _ _ _ h => h) S3 ?_
  refine ZT.take 2 rfl rfl (fun w' hS' => r_idxS A.length rfl rfl rfl hiN) (by kernel_rfl) rfl (by kernel_rfl) (by kernel_rfl) rfl rfl (fun _ _ _ _ h => h) S3 ?_
  refine ZT.take 3 rfl rfl (fun w' hS' => r_fieldAddr rfl) (by kernel_rfl) rfl (by kernel_rfl) (by kernel_rfl) rfl rfl (fun _ _ _ _ h => h) S3 ?_
  refine ZT.take 4 rfl rfl (fun w' hS' => r_load1 rfl hS'.1.choose_spec.1 hS'.1.choose_spec.2) (by kernel_rfl) rfl (by kernel_rfl) (by kernel_rfl) rfl rfl (fun _ _ _ _ h => h) S3 ?_
  refine ZT.take 5 rfl rfl (fun w' hS' => r_move rfl) (by kernel_rfl) rfl (by kernel_rfl) (by kernel_rfl) rfl rfl (fun _ _ _ _ h => h) S3 ?_
  refine ZT.take 6 rfl rfl (fun w' hS' => r_move rfl) (by kernel_rfl) rfl (by kernel_rfl) (by kernel_rfl) rfl rfl (fun _ _ _ _ h => h) S3 ?_
  refine ZT.take 7 rfl rfl (fun w' hS' => (r_idxS A.length rfl rfl rfl hil).eq (v' := .pointer (some ⟨bl, ol + A.length, none⟩)) (by rw [Nat.mul_one])) (by kernel_rfl) rfl (by kernel_rfl) (by kernel_rfl) rfl rfl (fun _ _ _ _ h => h) S3 ?_
  refine ZT.take 8 rfl rfl (fun w' hS' => r_load1 rfl hS'.2 hcl) (by kernel_rfl) rfl (by kernel_rfl) (by kernel_rfl) rfl rfl (fun _ _ _ _ h => h) S3 ?_
  refine ZT.take 9 rfl rfl (fun w' hS' => r_shr rfl rfl (by omega) rfl) (by kernel_rfl) rfl (by kernel_rfl) (by kernel_rfl) rfl rfl (fun _ _ _ _ h => h) S3 ?_
  refine ZT.take 10 rfl rfl (fun w' hS' => r_and rfl rfl hze) (by kernel_rfl) rfl (by kernel_rfl) (by kernel_rfl) rfl rfl (fun _ _ _ _ h => h) S3 ?_
  refine ZT.one 11 rfl (by kernel_rfl) rfl rfl rfl ?_
  have hmine : ∀ {L' : List Chunk} {w' : World}, Mem w3 (fpIn (oddK g cv N A r B)) L' w' → w'.heap[bl]? = some (.cells csl el fzl) := fun {L' w'} M => M.ext.at (E3.at hhl (fun h => h)) fun ⟨c, hc, hg⟩ => by
    have h1 := (M3.mine c hc bl hg).resolve_left (fun h => h)
    obtain ⟨p0, c0, hp0, hh0⟩ := hv
    simp only [Value.slice.injEq] at hp0
    obtain ⟨rfl, -, -⟩ := hp0
    obtain ⟨b, o, cs, e, fz, he, hb, -⟩ := hh0 (by intro e; rw [e] at hil; simp at hil)
    simp only [Option.some.injEq, Addr.mk.injEq, and_true] at he
    obtain ⟨rfl, rfl⟩ := he
    have := (Array.getElem?_eq_some_iff.1 hb).1
    omega
  refine ZL.makeSl (m := z) M3.rebase rfl rfl rfl (by omega) (by simp only [maxLen]; omega) rfl (fun g5 w5 R5 => ?_)
  have S5 := hSo R5 (by simp) (hmine R5)
  refine ZL.nil (ZP.turning S5 ?_)
  refine ZT.one 12 rfl (by kernel_rfl) rfl rfl rfl ?_
  refine ZL.bslice R5 rfl rfl rfl (by simp [Value.cells]) (by decide) rfl (fun g6 w6 R6 => ?_)
  have S6 := hSo R6 (by simp) (hmine R6)
  refine ZL.nil (ZP.turning S6 ?_)
  refine ZT.done rfl (by kernel_rfl) ?_
  have hiv2 : (.own r.iv 60 36 r.irows.length r.irows.flatten : Chunk) = .own (.slice (some ⟨gi, 0, none⟩) r.irows.length capi) 60 36 r.irows.length r.irows.flatten := by rw [hiv]
  have R6' : Mem w3 (fpIn (oddK g cv N A r B)) (.own (.slice (some ⟨g6, 0, none⟩) 1 1) 57 1 1 [.slice (some ⟨g5, 0, none⟩) z z] :: .own (.slice (some ⟨g5, 0, none⟩) z z) 5 1 z (List.replicate z (.int .u8 0)) :: .own r.ov 64 2 r.orows.length r.orows.flatten :: .own (.slice (some ⟨gi, 0, none⟩) r.irows.length capi) 60 36 r.irows.length r.irows.flatten :: .own (.slice (some ⟨g, 0, none⟩) N cv) 33 4 N ((A ++ r :: B).map LRec.row).flatten :: (ochs A ++ ochs B)) w6 := by
    rw [← hiv2]; exact R6
  refine ZL.val (r_idxS 0 rfl rfl rfl hi1) rfl ?_
  refine ZL.val (r_fieldAddr rfl) rfl ?_
  refine ZL.stOwn (A := [_, _, _]) R6' rfl rfl (by omega) rfl (fun w8 R8 => ?_)
  simp only [List.cons_append, List.nil_append] at R8
  have mv9 := ((Mv.frame (w0 := w) R8).trans Mv.drop).trans Mv.drop
  obtain ⟨M9, Ssl⟩ := (M3.join R8).out
  obtain ⟨M10, Smk⟩ := M9.out
  have Ssl' := Ssl.mv (Mv.drop (w0 := w))
  have F10 := F3.mv mv9
  clear R5 R6 R6' R8 M9 Ssl M2 F2 M3 F3 mv9 S3 S5 S6 hSo hmine
  obtain ⟨r', hr'⟩ : ∃ r' : LRec, r' = { r with irows := row0.set 35 (.slice (some ⟨g6, 0, none⟩) 1 1) :: tl } := ⟨_, rfl⟩
  have hl0 : row0.length = 36 := ((F10 r (by simp)).ins row0 (by rw [hirow]; simp)).1
  have e1 : Chunk.own (.slice (some ⟨gi, 0, none⟩) r.irows.length capi) 60 36 r.irows.length (r.irows.flatten.set (0 + 0 * 36 + 35) (.slice (some ⟨g6, 0, none⟩) 1 1)) = .own r'.iv 60 36 r'.irows.length r'.irows.flatten := by
    have := flatten_set (s := 36) [] row0 tl 35 (.slice (some ⟨g6, 0, none⟩) 1 1) (fun r hr => by cases hr) (by omega)
    rw [hr', ← hiv, hirow]
    simp only [List.nil_append, List.length_nil] at this
    simp only [Nat.zero_add, Nat.zero_mul] at this ⊢
    rw [this]; rfl
  have e2 : ((A ++ r :: B).map LRec.row).flatten = ((A ++ r' :: B).map LRec.row).flatten := by rw [hr', List.map_append, List.map_append]; rfl
  have e3 : Chunk.own r.ov 64 2 r.orows.length r.orows.flatten = .own r'.ov 64 2 r'.orows.length r'.orows.flatten := by rw [hr']
  rw [e1, e2, e3] at M10 F10 Smk Ssl'
  have FF : OF w (oddK g cv N A r' B) w8 (A ++ r' :: B) := fun q hq => by
    rcases List.mem_append.1 hq with hq | hq
    · exact F10 q (by simp [hq])
    · rcases List.mem_cons.1 hq with h9 | hq
      · rw [h9]
        obtain ⟨a, b, c', d, e⟩ := F10 r (by simp)
        have hi' : r'.irows = row0.set 35 (.slice (some ⟨g6, 0, none⟩) 1 1) :: tl := by rw [hr']
        have ho' : r'.orows = r.orows := by rw [hr']
        refine ⟨fun row hrow => ?_, by rw [ho']; exact b, by rw [hi']; simp, by rw [hi']; rw [hirow] at d; simpa using d, by rw [ho']; exact e⟩
        rw [hi'] at hrow
        rcases List.mem_cons.1 hrow with rfl | hrow
        · obtain ⟨-, i, ⟨sv, wv, hrow0, hs, -⟩, hsc, -, -⟩ := a row0 (by rw [hirow]; simp)
          refine ⟨by simpa using hl0, ⟨i.prev, i.vout, i.script, i.seq, [List.replicate z 0]⟩, ⟨sv, .slice (some ⟨g6, 0, none⟩) 1 1, ?_, hs, ?_⟩, hsc, by simp, fun b hb => ?_⟩
          · rw [hrow0, List.set_append_right _ _ (by simp [B32.len])]
            simp [B32.len]
          · refine ⟨[[.slice (some ⟨g5, 0, none⟩) z z]], rfl, by simp, Ssl', fun j r2 a2 hr2 ha2 => ?_⟩
            cases j with
            | zero =>
              simp only [List.getElem?_cons_zero, Option.some.injEq] at hr2 ha2
              subst hr2; subst ha2
              exact ⟨_, rfl, bytesZ Smk⟩
            | succ j => simp at hr2
          · simp only [List.mem_singleton] at hb
            subst hb
            simp; omega
        · exact a row (by rw [hirow]; simp [hrow])
      · exact F10 q (by simp [hq])
  have hro' : r'.orows.length ≤ 100 := by rw [hr']; exact hro
  refine ZL.nil ?_; refine ZP.blockN ?_; refine ZP.then ?_; refine ZC.region ?_; refine ZL.val (r_add rfl rfl (wrap_i64 (by omega) (by omega))) rfl ?_; refine ZL.val (r_move rfl) rfl ?_; refine ZL.nil ?_
  exact ZP.round (A.length + 1, A ++ r' :: B) ⟨rfl, rfl, rfl, rfl, trivial⟩ (fin r' _ M10 FF hro') (by simp only; omega)
end Go.Proofs.YtibobcjfjnoclaaGreatDoor.Z
end
section
/- What taking one transaction away leaves; the awake of chapter 25. -/
set_option linter.unusedVariables false
set_option linter.unusedSimpArgs false
set_option linter.unusedSectionVars false
set_option maxRecDepth 100000
set_option maxHeartbeats 4000000
namespace Go.Proofs.YtibobcjfjnoclaaGreatDoor.Z
open Go Go.RowKit

theorem single {ys : List B32} {a : B32} (h : ys.Pairwise ltP) (hm : ∀ x, x ∈ ys ↔ x = a) : ys = [a] := by
  match ys, h, hm with
  | [], _, hm => exact absurd ((hm a).2 rfl) (by simp)
  | [b], _, hm => rw [(hm b).1 (by simp)]
  | b :: c :: r, h, hm =>
    have h1 := (hm b).1 (by simp)
    have h2 := (hm c).1 (by simp)
    have := (List.pairwise_cons.1 h).1 c (by simp)
    rw [h1, h2] at this
    exact absurd this (ltP_irrefl a)
theorem WithoutR.at {H H' : HM} {pred : Int → Told → Bool} {ys : List B32} (R : WithoutR H pred H' ys) : (∀ x ∈ H.p, ∃ v, (x.1, (v, x.2.2.filter fun a => !pred x.1 a)) ∈ H'.p) ∧ ∀ y ∈ H'.p, ∃ v l, (y.1, (v, l)) ∈ H.p ∧ y.2.2 = l.filter fun a => !pred y.1 a := by
  constructor
  · intro x hx
    have : (x.1, x.2.2.filter fun a => !pred x.1 a) ∈ H'.p.map (fun x => (x.1, x.2.2)) := by rw [R.p]; exact List.mem_map.2 ⟨x, hx, rfl⟩
    obtain ⟨y, hy, he⟩ := List.mem_map.1 this
    simp only [Prod.mk.injEq] at he
    exact ⟨y.2.1, by rw [← he.2, ← he.1]; exact hy⟩
  · intro y hy
    have : (y.1, y.2.2) ∈ H.p.map (fun x => (x.1, x.2.2.filter fun a => !pred x.1 a)) := by rw [← R.p]; exact List.mem_map.2 ⟨y, hy, rfl⟩
    obtain ⟨x, hx, he⟩ := List.mem_map.1 this
    simp only [Prod.mk.injEq] at he
    exact ⟨x.2.1, x.2.2, by rw [← he.1]; exact hx, by rw [← he.1]; exact he.2.symm⟩
theorem WithoutR.keys {H H' : HM} {pred : Int → Told → Bool} {ys : List B32} (R : WithoutR H pred H' ys) : H'.p.map (·.1) = H.p.map (·.1) := by
  have := congrArg (List.map Prod.fst) R.p
  rw [List.map_map, List.map_map] at this
  exact this
section
variable {T : TTx} {ks : List Int} {H H' H'' : HM} {i : Nat} {k : Int} {ys : List B32}
/-- A peer goes. -/
theorem AG.gone (h : AG T ks H i) (hok : H.ok) (R : WithoutR H (fun q _ => decide (q = k)) H' ys) (hp : H''.p = mdel H'.p k) (hl : H''.l = H'.l) (hs : H''.seq = H'.seq) :
    AG T (ks.filter fun q => decide (q ≠ k)) H'' i ∧ ys = if k ∈ ks ∧ (ks.filter fun q => decide (q ≠ k)) = [] then [T.wid] else [] := by
  obtain ⟨hA, hB⟩ := R.at
  have hks : H'.p.map (·.1) = ks := R.keys.trans h.keys
  have hone : ∀ y ∈ H'.p, y.1 ≠ k → ∃ a : Told, y.2.2 = [a] ∧ a.id = T.wid := fun y hy hne => by
    obtain ⟨v, l, hm, hl⟩ := hB y hy
    obtain ⟨a, ha, hid⟩ := h.one _ hm
    simp only at ha
    exact ⟨a, by rw [hl, ha]; simp [hne], hid⟩
  have hnil : ∀ y ∈ H'.p, y.1 = k → y.2.2 = [] := fun y hy he => by
    obtain ⟨v, l, hm, hl⟩ := hB y hy
    rw [hl]; simp [he]
  have hmem : ∀ x, x ∈ ys ↔ x = T.wid ∧ k ∈ ks ∧ (ks.filter fun q => decide (q ≠ k)) = [] := fun x => by
    rw [R.mem]
    constructor
    · rintro ⟨⟨q, hq, a, ha, hqk, hax⟩, hn⟩
      obtain ⟨b, hb, hid⟩ := h.one q hq
      rw [hb] at ha
      simp only [List.mem_singleton] at ha
      subst ha
      have hxT : x = T.wid := by rw [← hax, hid]
      have hqk' : q.1 = k := by simpa using hqk
      refine ⟨hxT, by rw [← h.keys, ← hqk']; exact List.mem_map_of_mem (f := (·.1)) hq, ?_⟩
      rw [List.filter_eq_nil_iff]
      intro c hc hck
      rw [← hks] at hc
      obtain ⟨y, hy, rfl⟩ := List.mem_map.1 hc
      obtain ⟨a', h1, h2⟩ := hone y hy (by simpa using hck)
      have := hn y hy
      rw [h1] at this
      simp [h2, hxT] at this
    · rintro ⟨rfl, hk, hf⟩
      rw [← h.keys] at hk
      obtain ⟨q, hq, rfl⟩ := List.mem_map.1 hk
      obtain ⟨b, hb, hid⟩ := h.one q hq
      refine ⟨⟨q, hq, b, by rw [hb]; simp, by simp, hid⟩, fun y hy => ?_⟩
      have : y.1 = q.1 := by
        rw [List.filter_eq_nil_iff] at hf
        have := hf y.1 (by rw [← hks]; exact List.mem_map_of_mem (f := (·.1)) hy)
        simpa using this
      rw [hnil y hy this]; rfl
  have hys : ys = if k ∈ ks ∧ (ks.filter fun q => decide (q ≠ k)) = [] then [T.wid] else [] := by
    split
    · rename_i hc
      exact single R.sorted fun x => by rw [hmem]; exact ⟨fun h => h.1, fun h => ⟨h, hc⟩⟩
    · rename_i hc
      exact List.eq_nil_iff_forall_not_mem.2 fun x hx => hc ((hmem x).1 hx).2
  refine ⟨⟨?_, ?_, ?_, ?_, by rw [hs, R.seq]; exact h.seq0, by rw [hs, R.seq]; exact h.seq⟩, hys⟩
  · rw [hp, ← hks]; unfold mdel; rw [List.filter_map]; rfl
  · intro x hx
    rw [hp] at hx
    obtain ⟨h1, h2⟩ := List.mem_filter.1 hx
    exact hone x h1 (by simpa using h2)
  · intro hf
    rw [hl, R.l]
    by_cases hk : ks = []
    · rw [h.nol hk]; rfl
    · obtain ⟨v, hl⟩ := h.l hk
      have hkk : k ∈ ks := by
        rw [List.filter_eq_nil_iff] at hf
        obtain ⟨c, hc⟩ := List.exists_mem_of_ne_nil _ hk
        have := hf c hc
        simp only [ne_eq, decide_not, Bool.not_eq_true', decide_eq_false_iff_not, Classical.not_not] at this
        rw [← this]; exact hc
      rw [hl, hys, if_pos ⟨hkk, hf⟩]; simp
  · intro hf
    rw [hl, R.l]
    have hk : ks ≠ [] := fun e => hf (by rw [e]; rfl)
    obtain ⟨v, hl⟩ := h.l hk
    exact ⟨v, by rw [hl, hys, if_neg (fun hc => hf hc.2)]; simp⟩
/-- Nobody tells anything. -/
structure AD (ks : List Int) (H : HM) : Prop where
  keys : H.p.map (·.1) = ks
  none : ∀ x ∈ H.p, x.2.2 = []
  l : H.l = []
theorem AG.drop (h : AG T ks H i) (hne : ks ≠ []) (R : WithoutR H (fun _ a => decide (a.id = T.wid)) H' ys) : ys = [T.wid] ∧ AD ks H' := by
  obtain ⟨hA, hB⟩ := R.at
  have hnil : ∀ y ∈ H'.p, y.2.2 = [] := fun y hy => by
    obtain ⟨v, l, hm, hl⟩ := hB y hy
    obtain ⟨a, ha, hid⟩ := h.one _ hm
    simp only at ha
    rw [hl, ha]; simp [hid]
  have hys : ys = [T.wid] := single R.sorted fun x => by
    rw [R.mem]
    constructor
    · rintro ⟨⟨q, hq, a, ha, hqk, hax⟩, -⟩
      rw [← hax]; simpa using hqk
    · rintro rfl
      obtain ⟨c, hc⟩ := List.exists_mem_of_ne_nil _ hne
      rw [← h.keys] at hc
      obtain ⟨q, hq, -⟩ := List.mem_map.1 hc
      obtain ⟨b, hb, hid⟩ := h.one q hq
      exact ⟨⟨q, hq, b, by rw [hb]; simp, by simpa using hid, hid⟩, fun y hy => by rw [hnil y hy]; rfl⟩
  refine ⟨hys, R.keys.trans h.keys, hnil, ?_⟩
  obtain ⟨v, hl⟩ := h.l hne
  rw [R.l, hl, hys]; simp
theorem AD.drop {id : B32} (h : AD ks H) (R : WithoutR H (fun _ a => decide (a.id = id)) H' ys) : ys = [] ∧ AD ks H' := by
  obtain ⟨hA, hB⟩ := R.at
  refine ⟨List.eq_nil_iff_forall_not_mem.2 fun x hx => ?_, R.keys.trans h.keys, fun y hy => ?_, by rw [R.l, h.l]; rfl⟩
  · obtain ⟨⟨q, hq, a, ha, -⟩, -⟩ := (R.mem x).1 hx
    rw [h.none q hq] at ha; cases ha
  · obtain ⟨v, l, hm, hl⟩ := hB y hy
    have := h.none _ hm
    simp only at this
    rw [hl, this]; rfl
theorem AD.tellers (h : AD ks H) (hok : H.ok) (id : B32) : H.tellers id = [] := by
  unfold HM.tellers
  rw [List.filter_eq_nil_iff]
  intro k hk
  obtain ⟨x, hx, rfl⟩ := List.mem_map.1 hk
  rw [HM.hasB_eq hok hx, h.none x hx]
  simp
end
theorem AG.init (T : TTx) (bl bp : Nat) : AG T [] ⟨bl, bp, #[], 0, #[], 0, [], [], 0⟩ 0 := ⟨rfl, (fun x hx => by cases hx), fun _ => rfl, fun h => absurd rfl h, Int.le_refl _, Int.le_refl _⟩
theorem home0_ok (bl bp : Nat) : HM.ok ⟨bl, bp, #[], 0, #[], 0, [], [], 0⟩ := ⟨MObj.empty _ _, MObj.empty _ _, (fun x hx => by cases hx), (fun x hx => by cases hx)⟩
theorem HS.init {w w' : World} {bh bl bp : Nat} (M : Mem w No (HM.chs ⟨bl, bp, #[], 0, #[], 0, [], [], 0⟩ bh) w') : HS w No bh ⟨bl, bp, #[], 0, #[], 0, [], [], 0⟩ [] w' :=
  ⟨by rw [List.append_nil]; exact M, home0_ok bl bp, fun x hx => by cases hx⟩
end Go.Proofs.YtibobcjfjnoclaaGreatDoor.Z
end
section
/- The awake of chapter 25. -/
set_option linter.unusedVariables false
set_option linter.unusedSimpArgs false
set_option linter.unusedSectionVars false
set_option maxRecDepth 100000
set_option maxHeartbeats 4000000
namespace Go.Proofs.YtibobcjfjnoclaaGreatDoor.Z
open Go Go.RowKit

abbrev ownI (v : Value) (l : List B32) : Chunk := .own v 27 32 l.length (flatP l)
theorem sorted13 {ys : List Int} (hp : ys.Perm [3, 1]) (hs : ys.Pairwise (fun a b => a ≤ b)) : ys = [1, 3] := by
  have h1 : ys.length = 2 := hp.length_eq
  match ys, h1, hp, hs with
  | [a, b], _, hp, hs =>
    have hm : ∀ x, x ∈ [a, b] ↔ x ∈ [(3 : Int), 1] := fun x => hp.mem_iff
    have h3 := (hm 3).2 (by simp)
    have h4 := (hm 1).2 (by simp)
    have h5 := (List.pairwise_cons.1 hs).1 b (by simp)
    simp only [List.mem_cons, List.not_mem_nil, or_false] at h3 h4
    have h6 : a = 1 ∧ b = 3 := by omega
    rw [h6.1, h6.2]
/-- What stands beside the home is told by what the home's calls leave alone. -/
theorem HS.mv {w0 w w' : World} {X : Nat → Prop} {bh : Nat} {H H' : HM} {L L' : List Chunk} (h' : HS w (fpIn (H.chs bh ++ L)) bh H' L' w') : Mv w (fpIn (H.chs bh ++ L)) w' (fpIn (H'.chs bh ++ L')) := Mv.fpf h'.M

theorem Mv.besideH {w w' : World} {A N L : List Chunk} (h' : Mem w No N w') : Mv w (fpIn (A ++ L)) w' (fpIn (A ++ (N ++ L))) := Mv.beside h' fun c hc => by
  simp only [List.mem_append] at hc ⊢; rcases hc with h | h | h
  · exact .inl (.inl h)
  · exact .inr h
  · exact .inl (.inr h)
theorem B32.extr {cs : Array Value} {q : Nat} {a : B32} {tl : List Value} (h : ∀ j u, (a.cells ++ tl)[j]? = some u → cs[q + j]? = some u) : q + 32 ≤ cs.size ∧ cs.extract q (q + 32) = a.cells.toArray := by
  have hl : a.cells.length = 32 := a.len
  have hc : ∀ j, j < 32 → ∃ u, a.cells[j]? = some u ∧ cs[q + j]? = some u := fun j hj => by
    refine ⟨a.cells[j], List.getElem?_eq_getElem (by omega), h j _ ?_⟩
    rw [List.getElem?_append_left (by omega)]
    exact List.getElem?_eq_getElem (by omega)
  have hsz : q + 32 ≤ cs.size := by
    obtain ⟨u, -, h2⟩ := hc 31 (by omega)
    have := (Array.getElem?_eq_some_iff.1 h2).1
    omega
  refine ⟨hsz, ?_⟩
  apply Array.ext'
  apply List.ext_getElem?
  intro j
  rw [Array.getElem?_toList, Array.getElem?_extract]
  by_cases hj : j < 32
  · obtain ⟨u, h1, h2⟩ := hc j hj
    rw [if_pos (by omega), h2]
    exact h1.symm
  · rw [if_neg (by omega)]
    rw [List.getElem?_eq_none (by simp [B32.len]; omega)]
theorem awake_ok (w : World) (hG : GW w) : Ret P 13 #[] w (fun r w' => Ext w w' ∧ r = .bool true) := by
  refine Ret.enter0 Tryz.func13 rfl Tryz.ntmps13 rfl ?_
  refine ZC.seq ?_; refine ZC.region ?_; refine ZL.val (r_assign rfl) rfl ?_; refine ZL.nil ?_; refine ZP.then ?_; refine ZC.seq ?_; refine ZC.region ?_
  refine ZL.call (r_call rfl) rfl (New_ok w) (fun v1 w1 ⟨bh, bl, bp, hv, M1⟩ => ?_)
  subst hv
  have S1 := HS.init M1
  refine ZL.val (r_assign rfl) rfl ?_; refine ZL.nil ?_; refine ZP.then ?_; refine ZC.seq ?_; refine ZC.seq ?_; refine ZC.region ?_; refine ZL.val (r_move rfl) rfl ?_; refine ZL.val (r_eqlPtrNil rfl rfl) rfl ?_; refine ZL.nil ?_; refine ZP.then ?_; refine ZC.condF rfl ?_; refine ZC.skip ?_; refine ZP.then ?_; refine ZC.seq ?_; refine ZC.region ?_
  refine ZL.bslice (Mem.start w1 No) rfl rfl rfl (by simp [Value.cells]) (by decide) rfl (fun g w2 M2 => ?_)
  skip
  refine ZL.call (r_call rfl) rfl (Linked_txs _ [8, 2048, 4096, 6144] w2 (IntsA.of_own M2.own)) (fun v3 w3 ⟨E3, Ts, hTl, hpl, hL3⟩ => ?_)
  have S3 := (S1.ext M2.ext).ext E3
  obtain ⟨T, T1, T2, T3, rfl⟩ : ∃ T T1 T2 T3, Ts = [T, T1, T2, T3] := by
    match Ts, hTl with
    | [a, b, c, d], _ => exact ⟨a, b, c, d, rfl⟩
  have hpT := hpl T (by simp)
  have L3 := hL3.tx (Mv.newer (S1.ext M2.ext).M E3.size)
  have A0 := AG.init T bl bp
  generalize (⟨bl, bp, #[], 0, #[], 0, [], [], 0⟩ : HM) = H0 at S1 S3 L3 A0
  obtain ⟨p3, c3, hv3⟩ := L3.shape
  simp only [List.length_cons, List.length_nil] at hv3
  subst hv3
  clear M1 M2 hL3 S1
  have hTx : ∀ {w' : World} {X : Nat → Prop}, ListR TxE 4 w' X (.slice p3 (0 + 1 + 1 + 1 + 1) c3) [T, T1, T2, T3] → ∃ g o cs e fz r, p3 = some ⟨g, o, none⟩ ∧ w'.heap[g]? = some (.cells cs e fz) ∧ TxE w' X r T ∧ o + 0 * 4 + 4 ≤ cs.size ∧ cs.extract (o + 0 * 4) (o + 0 * 4 + 4) = r.toArray ∧ (∀ j u, r[j]? = some u → cs[o + 0 * 4 + j]? = some u) := fun {w' X} h => by
    obtain ⟨g, o, cs, e, fz, r, hp, hh, -, -, hE, hcell, hsz, hext⟩ := ListR.elem (by decide) h (i := 0) (by simp)
    exact ⟨g, o, cs, e, fz, r, hp, hh, hE, hsz, hext, hcell⟩
  refine ZL.val (r_assign rfl) rfl ?_; refine ZL.nil ?_; refine ZP.then ?_; refine ZC.seq ?_; refine ZC.seq ?_; refine ZC.region ?_; refine ZL.val (r_move rfl) rfl ?_; refine ZL.val (r_lenSlice rfl) rfl ?_; refine ZL.val (r_lss rfl rfl) rfl ?_; refine ZL.nil ?_; refine ZP.then ?_; refine ZC.condF rfl ?_; refine ZC.skip ?_; refine ZP.then ?_; refine ZC.seq ?_; refine ZC.region ?_; refine ZL.val (r_move rfl) rfl ?_; refine ZL.val (r_move rfl) rfl ?_
  obtain ⟨gt, ot, cs4, e4, fz4, r4, rfl, hh4, hE4, hz4, hx4, -⟩ := hTx L3
  refine ZL.val (r_idxS 0 rfl rfl rfl (by decide)) rfl ?_
  refine ZL.val (r_loadN rfl hh4 hz4 hx4) rfl ?_
  skip
  refine ZL.call (r_call rfl) rfl (Add_ok bh H0 _ T 3 5 [] w3 (hG.ext S3.M.ext) S3.rebase ⟨r4, rfl, hE4⟩ hpT.fits A0.seq0 (by have := A0.seq; omega) ?_) (fun v5 w5 ⟨H5, gv5, gone5, ok5, hv, Q5, hA5⟩ => ?_)
  · unfold HM.told; rw [A0.no (by simp)]; simp
  obtain ⟨rfl, rfl, A5⟩ := A0.add S3.ok hpT.weight hA5
  simp only [List.not_mem_nil, if_false, List.nil_append] at A5
  subst hv
  have L5 := L3.tx (Mv.fpf Q5.M)
  have S5 := S3.join Q5
  obtain ⟨pg5, cg5, hg5⟩ := (HS.front (N := [_]) S5).1.own.shape
  simp only [List.length_nil] at hg5
  subst hg5
  clear hA5 Q5 L3 S3 hE4 hx4 hz4 hh4
  refine ZL.val (r_move rfl) rfl ?_; refine ZL.val (r_extract rfl rfl) rfl ?_; refine ZL.val (r_extract rfl rfl) rfl ?_; refine ZL.val (r_assign rfl) rfl ?_; refine ZL.val (r_assign rfl) rfl ?_; refine ZL.nil ?_; refine ZP.then ?_; refine ZC.seq ?_; refine ZC.region ?_; refine ZL.val (r_move rfl) rfl ?_; refine ZL.val (r_move rfl) rfl ?_
  obtain ⟨gt', ot', cs6, e6, fz6, r6, hp6, hh6, hE6, hz6, hx6, -⟩ := hTx L5
  simp only [Option.some.injEq, Addr.mk.injEq, and_true] at hp6
  obtain ⟨rfl, rfl⟩ := hp6
  refine ZL.val (r_idxS 0 rfl rfl rfl (by decide)) rfl ?_
  refine ZL.val (r_loadN rfl hh6 hz6 hx6) rfl ?_
  skip
  refine ZL.call (r_call rfl) rfl (Add_ok bh H5 _ T 1 6 _ w5 (hG.ext S5.M.ext) S5.rebase ⟨r6, rfl, hE6⟩ hpT.fits A5.seq0 (by have := A5.seq; omega) ?_) (fun v7 w7 ⟨H7, gv7, gone7, ok7, hv, Q7, hA7⟩ => ?_)
  · unfold HM.told; rw [A5.no (by simp)]; simp
  obtain ⟨rfl, rfl, A7⟩ := A5.add S5.ok hpT.weight hA7
  rw [if_neg (by simp)] at A7
  simp only [List.cons_append, List.nil_append] at A7
  subst hv
  have L7 := L5.tx (Mv.fpf Q7.M)
  have S7 := S5.join Q7
  obtain ⟨pg7, cg7, hg7⟩ := (HS.front (N := [_]) S7).1.own.shape
  simp only [List.length_nil] at hg7
  subst hg7
  clear hA7 Q7 L5 S5 hE6 hx6 hz6 hh6
  refine ZL.val (r_move rfl) rfl ?_; refine ZL.val (r_extract rfl rfl) rfl ?_; refine ZL.val (r_extract rfl rfl) rfl ?_; refine ZL.val (r_assign rfl) rfl ?_; refine ZL.val (r_assign rfl) rfl ?_; refine ZL.nil ?_; refine ZP.then ?_; refine ZC.seq ?_; refine ZC.region ?_; refine ZL.val (r_move rfl) rfl ?_
  have hU := Used_ok bh H7 3 w7 S7.home
  rw [(A7.used S7.ok (by simp)).1, (A7.used S7.ok (by simp)).2] at hU
  refine ZL.call (r_call rfl) rfl hU (fun v8 w8 ⟨E8, hv⟩ => ?_)
  subst hv
  have S8 := S7.ext E8
  have L8 := L7.tx (Mv.ext E8)
  clear hU S7 L7
  refine ZL.val (r_move rfl) rfl ?_; refine ZL.val (r_extract rfl rfl) rfl ?_; refine ZL.val (r_extract rfl rfl) rfl ?_; refine ZL.val (r_assign rfl) rfl ?_; refine ZL.val (r_assign rfl) rfl ?_; refine ZL.nil ?_; refine ZP.then ?_; refine ZC.seq ?_; refine ZC.region ?_; refine ZL.val (r_move rfl) rfl ?_
  obtain ⟨gt', ot', cs6, e6, fz6, r6, hp6, hh6, hE6, hz6, hx6, -⟩ := hTx L8
  simp only [Option.some.injEq, Addr.mk.injEq, and_true] at hp6
  obtain ⟨rfl, rfl⟩ := hp6
  refine ZL.val (r_idxS 0 rfl rfl rfl (by decide)) rfl ?_
  refine ZL.val (r_loadN rfl hh6 hz6 hx6) rfl ?_
  refine ZL.call (r_call rfl) rfl (refWtxid_ok _ T w8 _ ⟨r6, rfl, hE6⟩) (fun v9 w9 ⟨E9, hv⟩ => ?_)
  subst hv
  refine ZL.alloc (Mem.start w9 No) rfl rfl (fun b9 w10 M10 => ?_)
  refine ZL.stW M10 rfl rfl (cs' := T.wid.cells.toArray) rfl (by simp) (B32.size _) (B32.one _) (fun w11 M11 => ?_)
  have L9 := L8.tx (Mv.ext E9)
  have S9 := S8.ext E9
  have S11 := S9.ext M11.ext
  clear S8 L8 hE6 hx6 hz6 hh6
  refine ZL.nil ?_; refine ZP.then ?_; refine ZC.seq ?_; refine ZC.region ?_; refine ZL.val (r_move rfl) rfl ?_
  refine ZL.val (r_ldW M11 rfl (B32.size _)) rfl ?_
  refine ZL.call (r_call rfl) rfl (Peers_ok bh H7 T.wid w11 S11.home (by have := congrArg List.length A7.keys; simp only [List.length_map, List.length_cons, List.length_nil] at this; omega)) (fun v12 w12 ⟨E12, ys, hp, hs, N12⟩ => ?_)
  rw [A7.tellers S11.ok] at hp
  obtain rfl := sorted13 hp hs
  have K12 : Mem w9 No [.own v12 3 1 2 [Value.int .i64 1, Value.int .i64 3], .blk b9 (.cells T.wid.cells.toArray 27)] w12 := M11.addNew E12 N12
  have S12 := S9.beside K12
  have L12 := L9.tx (Mv.besideH K12)
  clear N12 M11 M10 hp hs L9 S9 S11
  refine ZL.val (r_assign rfl) rfl ?_; refine ZL.nil ?_; refine ZP.then ?_; refine ZC.seq ?_; refine ZC.region ?_; refine ZL.val (r_move rfl) rfl ?_; refine ZL.val (r_move rfl) rfl ?_
  obtain ⟨gt', ot', cs6, e6, fz6, r6, hp6, hh6, hE6, hz6, hx6, hc6⟩ := hTx L12
  simp only [Option.some.injEq, Addr.mk.injEq, and_true] at hp6
  obtain ⟨rfl, rfl⟩ := hp6
  obtain ⟨iv, ov, rfl, hI, -⟩ := hE6
  obtain ⟨pi, ci, rfl⟩ := hI.shape
  have hi1 : 0 < T.ins.length := hpT.i1
  obtain ⟨gi, oi, csi, ei, fzi, ri, rfl, hhi, -, -, hEi, hcelli, -, -⟩ := ListR.elem (by decide) hI hi1
  obtain ⟨svi, wvi, rfl, -, -⟩ := hEi
  obtain ⟨hpr1, hpr2⟩ := B32.extr (q := oi + 0 * 36 + 0) (by simpa using hcelli)
  refine ZL.val (r_idxS 0 rfl rfl rfl (by decide)) rfl ?_
  refine ZL.val (r_fieldAddr rfl) rfl ?_
  refine ZL.val (r_load1 rfl hh6 (hc6 1 _ rfl)) rfl ?_
  refine ZL.val (r_idxS 0 rfl rfl rfl hi1) rfl ?_
  refine ZL.val (r_fieldAddr rfl) rfl ?_
  refine ZL.val (r_loadN rfl hhi hpr1 hpr2) rfl ?_
  generalize hprev : T.ins[0].prev = prev
  obtain ⟨vT, hl7⟩ := A7.l (by simp)
  refine ZL.call (r_call rfl) rfl (Wants_ok bh H7 prev w12 S12.home (by rw [hl7]; simp)) (fun v13 w13 ⟨E13, ys, hys, hm13, N13⟩ => ?_)
  have hys1 : ys = [T.wid] := single hys fun x => by
    rw [hm13, hl7]
    constructor
    · rintro ⟨e, he, -, hx⟩
      simp only [List.mem_singleton] at he
      rw [← hx, he]
    · rintro rfl
      exact ⟨(T.wid, (vT, T)), by simp, List.any_eq_true.2 ⟨T.ins[0], List.getElem_mem hi1, by simpa using hprev⟩, rfl⟩
  subst hys1
  have K13 := (Mem.start w12 No).addNew E13 N13
  have S13 := S12.beside K13
  have L13 := L12.tx (Mv.besideH K13)
  clear K13 S12 L12 hm13 hys hI hcelli hpr1 hpr2 hc6 hx6
  refine ZL.val (r_assign rfl) rfl ?_; refine ZL.nil ?_; refine ZP.then ?_; refine ZC.seq ?_; refine ZC.region ?_; refine ZL.val (r_move rfl) rfl ?_
  have hk7 : H7.p.length ≤ 90 := by have := congrArg List.length A7.keys; simp only [List.length_map, List.length_cons, List.length_nil] at this; omega
  refine ZL.call (r_call rfl) rfl (Gone_ok bh H7 3 _ w13 _ S13.rebase hk7) (fun v14 w14 ⟨H14, H14', ys14, Q14, R14, hp14, hl14, hs14⟩ => ?_)
  obtain ⟨A14, hy14⟩ := A7.gone S13.ok R14 hp14 hl14 hs14
  have e14 : ([3, 1] : List Int).filter (fun q => decide (q ≠ 3)) = [1] := by decide
  rw [e14] at A14 hy14
  rw [if_neg (by simp)] at hy14
  subst hy14
  have S14 := S13.join Q14
  have L14 := L13.tx (Mv.fpf Q14.M)
  clear L13 S13 Q14 R14 hp14 hl14 hs14
  refine ZL.val (r_assign rfl) rfl ?_; refine ZL.nil ?_; refine ZP.then ?_; refine ZC.seq ?_; refine ZC.region ?_; refine ZL.val (r_move rfl) rfl ?_
  have hk14 : H14'.p.length ≤ 90 := by have := congrArg List.length A14.keys; simp only [List.length_map, List.length_cons, List.length_nil] at this; omega
  refine ZL.call (r_call rfl) rfl (Gone_ok bh H14' 1 _ w14 _ S14.rebase hk14) (fun v15 w15 ⟨H15, H15', ys15, Q15, R15, hp15, hl15, hs15⟩ => ?_)
  obtain ⟨A15, hy15⟩ := A14.gone S14.ok R15 hp15 hl15 hs15
  have e15 : ([1] : List Int).filter (fun q => decide (q ≠ 1)) = [] := by decide
  rw [e15] at A15 hy15
  rw [if_pos (by simp)] at hy15
  subst hy15
  have S15 := S14.join Q15
  have L15 := L14.tx (Mv.fpf Q15.M)
  clear L14 S14 Q15 R15 hp15 hl15 hs15
  have M15 := (HS.front (N := [_, _, _, _, _]) S15).1
  simp only [List.cons_append, List.nil_append] at M15
  have O15 : OwnR w15 27 32 v15 1 (flatP [T.wid]) := M15.ok (.own v15 27 32 1 (flatP [T.wid])) (by simp)
  have O14 : OwnR w15 27 32 v14 0 (flatP []) := M15.ok (.own v14 27 32 0 (flatP [])) (by simp)
  have O13 : OwnR w15 27 32 v13 1 (flatP [T.wid]) := M15.ok (.own v13 27 32 1 (flatP [T.wid])) (by simp)
  have O12 : OwnR w15 3 1 v12 2 [Value.int .i64 1, Value.int .i64 3] := M15.ok (.own v12 3 1 2 [Value.int .i64 1, Value.int .i64 3]) (by simp)
  obtain ⟨p15, c15, rfl⟩ := O15.shape
  obtain ⟨p14, c14, rfl⟩ := O14.shape
  obtain ⟨p13, c13, rfl⟩ := O13.shape
  obtain ⟨p12, c12, rfl⟩ := O12.shape
  obtain ⟨gt', ot', cs6, e6, fz6, r6, hp6, hh6, hE6, hz6, hx6, -⟩ := hTx L15
  simp only [Option.some.injEq, Addr.mk.injEq, and_true] at hp6
  obtain ⟨rfl, rfl⟩ := hp6
  have F12 := O12.slc (X := No) (fun _ _ h => h)
  obtain ⟨g12, o12, cs12, e12, fz12, rfl, hh12, -, hc12, -⟩ := F12.at1 (i := 0) rfl
  obtain ⟨g12', o12', cs12', e12', fz12', hp12, hh12', -, hc12', -⟩ := F12.at1 (i := 1) rfl
  simp only [Option.some.injEq, Addr.mk.injEq, and_true] at hp12
  obtain ⟨rfl, rfl⟩ := hp12
  obtain ⟨g13, o13, cs13, e13, fz13, r13, rfl, hh13, -, -, hE13, -, hsz13, hext13⟩ := ListR.elem (by decide) (ids_list (O13.slc (X := No) (fun _ _ h => h)) rfl) (i := 0) (by simp)
  rw [show r13 = T.wid.cells from hE13] at hext13
  obtain ⟨g15, o15, cs15, e15, fz15, r15, rfl, hh15, -, -, hE15, -, hsz15, hext15⟩ := ListR.elem (by decide) (ids_list (O15.slc (X := No) (fun _ _ h => h)) rfl) (i := 0) (by simp)
  rw [show r15 = T.wid.cells from hE15] at hext15
  have hb15 : w15.heap[b9]? = some (.cells T.wid.cells.toArray 27 (0, 0)) := M15.ok (.blk b9 (.cells T.wid.cells.toArray 27)) (by simp)
  refine ZL.val (r_assign rfl) rfl ?_; refine ZL.nil ?_; refine ZP.then ?_; refine ZC.seq ?_
  refine ZC.turning (fun w' => Ext w15 w') 78 rfl (by kernel_rfl) rfl rfl rfl (fun w16 E16 _ => ?_)
  refine ZT.take 0 rfl rfl (fun w' hS' => r_move rfl) (by kernel_rfl) rfl (by kernel_rfl) (by kernel_rfl) rfl rfl (fun _ _ _ _ h => h) E16 ?_
  refine ZT.take 1 rfl rfl (fun w' hS' => r_lenSlice rfl) (by kernel_rfl) rfl (by kernel_rfl) (by kernel_rfl) rfl rfl (fun _ _ _ _ h => h) E16 ?_
  refine ZT.take 2 rfl rfl (fun w' hS' => (r_eql rfl rfl).eq (v' := .bool true) (by simp)) (by kernel_rfl) rfl (by kernel_rfl) (by kernel_rfl) rfl rfl (fun _ _ _ _ h => h) E16 ?_
  refine ZT.take 3 rfl rfl (fun w' hS' => r_move rfl) (by kernel_rfl) rfl (by kernel_rfl) (by kernel_rfl) rfl rfl (fun _ _ _ _ h => h) E16 ?_
  refine ZT.takeOn 4 rfl rfl rfl rfl rfl (fun w' hS' => r_move rfl) (by kernel_rfl) rfl (by kernel_rfl) (by kernel_rfl) rfl rfl (fun _ _ _ _ h => h) E16 ?_
  refine ZT.take 5 rfl rfl (fun w' hS' => r_pickT rfl rfl) (by kernel_rfl) rfl (by kernel_rfl) (by kernel_rfl) rfl rfl (fun _ _ _ _ h => h) E16 ?_
  refine ZT.take 6 rfl rfl (fun w' hS' => r_move rfl) (by kernel_rfl) rfl (by kernel_rfl) (by kernel_rfl) rfl rfl (fun _ _ _ _ h => h) E16 ?_
  refine ZT.takeOn 7 rfl rfl rfl rfl rfl (fun w' hS' => r_move rfl) (by kernel_rfl) rfl (by kernel_rfl) (by kernel_rfl) rfl rfl (fun _ _ _ _ h => h) E16 ?_
  refine ZT.takeOn 8 rfl rfl rfl rfl rfl (fun w' hS' => r_lenSlice rfl) (by kernel_rfl) rfl (by kernel_rfl) (by kernel_rfl) rfl rfl (fun _ _ _ _ h => h) E16 ?_
  refine ZT.takeOn 9 rfl rfl rfl rfl rfl (fun w' hS' => (r_eql rfl rfl).eq (v' := .bool true) (by simp)) (by kernel_rfl) rfl (by kernel_rfl) (by kernel_rfl) rfl rfl (fun _ _ _ _ h => h) E16 ?_
  refine ZT.take 10 rfl rfl (fun w' hS' => r_pickT rfl rfl) (by kernel_rfl) rfl (by kernel_rfl) (by kernel_rfl) rfl rfl (fun _ _ _ _ h => h) E16 ?_
  refine ZT.take 11 rfl rfl (fun w' hS' => r_move rfl) (by kernel_rfl) rfl (by kernel_rfl) (by kernel_rfl) rfl rfl (fun _ _ _ _ h => h) E16 ?_
  refine ZT.takeOn 12 rfl rfl rfl rfl rfl (fun w' hS' => r_move rfl) (by kernel_rfl) rfl (by kernel_rfl) (by kernel_rfl) rfl rfl (fun _ _ _ _ h => h) E16 ?_
  refine ZT.take 13 rfl rfl (fun w' hS' => r_pickT rfl rfl) (by kernel_rfl) rfl (by kernel_rfl) (by kernel_rfl) rfl rfl (fun _ _ _ _ h => h) E16 ?_
  refine ZT.take 14 rfl rfl (fun w' hS' => r_move rfl) (by kernel_rfl) rfl (by kernel_rfl) (by kernel_rfl) rfl rfl (fun _ _ _ _ h => h) E16 ?_
  refine ZT.takeOn 15 rfl rfl rfl rfl rfl (fun w' hS' => r_move rfl) (by kernel_rfl) rfl (by kernel_rfl) (by kernel_rfl) rfl rfl (fun _ _ _ _ h => h) E16 ?_
  refine ZT.takeOn 16 rfl rfl rfl rfl rfl (fun w' hS' => (r_eql rfl rfl).eq (v' := .bool true) (by simp)) (by kernel_rfl) rfl (by kernel_rfl) (by kernel_rfl) rfl rfl (fun _ _ _ _ h => h) E16 ?_
  refine ZT.take 17 rfl rfl (fun w' hS' => r_pickT rfl rfl) (by kernel_rfl) rfl (by kernel_rfl) (by kernel_rfl) rfl rfl (fun _ _ _ _ h => h) E16 ?_
  refine ZT.take 18 rfl rfl (fun w' hS' => r_move rfl) (by kernel_rfl) rfl (by kernel_rfl) (by kernel_rfl) rfl rfl (fun _ _ _ _ h => h) E16 ?_
  refine ZT.takeOn 19 rfl rfl rfl rfl rfl (fun w' hS' => r_move rfl) (by kernel_rfl) rfl (by kernel_rfl) (by kernel_rfl) rfl rfl (fun _ _ _ _ h => h) E16 ?_
  refine ZT.takeOn 20 rfl rfl rfl rfl rfl (fun w' hS' => r_move rfl) (by kernel_rfl) rfl (by kernel_rfl) (by kernel_rfl) rfl rfl (fun _ _ _ _ h => h) E16 ?_
  refine ZT.takeOn 21 rfl rfl rfl rfl rfl (fun w' hS' => r_idxS 0 rfl rfl rfl (by decide)) (by kernel_rfl) rfl (by kernel_rfl) (by kernel_rfl) rfl rfl (fun _ _ _ _ h => h) E16 ?_
  refine ZT.takeOn 22 rfl rfl rfl rfl rfl (fun w' hS' => r_loadN rfl (ExtX.at hS' hh6 (fun h => h)) hz6 hx6) (by kernel_rfl) rfl (by kernel_rfl) (by kernel_rfl) rfl rfl (fun _ _ _ _ h => h) E16 ?_
  refine ZT.one 23 rfl (by kernel_rfl) rfl rfl rfl ?_
  refine ZL.on rfl rfl rfl ?_
  refine ZL.call (r_call rfl) rfl (refWeight_ok _ T w16 _ (TxR.mv (Mv.ext E16) ⟨r6, rfl, hE6⟩)) (fun v17 w17 ⟨E17', hv⟩ => ?_)
  subst hv
  have E17 : Ext w15 w17 := ExtX.trans E16 E17' (fun _ h => h) (fun _ _ h => h)
  refine ZL.nil (ZP.turning E17 ?_)
  refine ZT.takeOn 24 rfl rfl rfl rfl rfl (fun w' hS' => (r_eql rfl rfl).eq (v' := .bool true) (by simp)) (by kernel_rfl) rfl (by kernel_rfl) (by kernel_rfl) rfl rfl (fun _ _ _ _ h => h) E17 ?_
  refine ZT.take 25 rfl rfl (fun w' hS' => r_pickT rfl rfl) (by kernel_rfl) rfl (by kernel_rfl) (by kernel_rfl) rfl rfl (fun _ _ _ _ h => h) E17 ?_
  refine ZT.take 26 rfl rfl (fun w' hS' => r_move rfl) (by kernel_rfl) rfl (by kernel_rfl) (by kernel_rfl) rfl rfl (fun _ _ _ _ h => h) E17 ?_
  refine ZT.takeOn 27 rfl rfl rfl rfl rfl (fun w' hS' => r_move rfl) (by kernel_rfl) rfl (by kernel_rfl) (by kernel_rfl) rfl rfl (fun _ _ _ _ h => h) E17 ?_
  refine ZT.takeOn 28 rfl rfl rfl rfl rfl (fun w' hS' => r_lenSlice rfl) (by kernel_rfl) rfl (by kernel_rfl) (by kernel_rfl) rfl rfl (fun _ _ _ _ h => h) E17 ?_
  refine ZT.takeOn 29 rfl rfl rfl rfl rfl (fun w' hS' => (r_eql rfl rfl).eq (v' := .bool true) (by simp)) (by kernel_rfl) rfl (by kernel_rfl) (by kernel_rfl) rfl rfl (fun _ _ _ _ h => h) E17 ?_
  refine ZT.take 30 rfl rfl (fun w' hS' => r_pickT rfl rfl) (by kernel_rfl) rfl (by kernel_rfl) (by kernel_rfl) rfl rfl (fun _ _ _ _ h => h) E17 ?_
  refine ZT.take 31 rfl rfl (fun w' hS' => r_move rfl) (by kernel_rfl) rfl (by kernel_rfl) (by kernel_rfl) rfl rfl (fun _ _ _ _ h => h) E17 ?_
  refine ZT.takeOn 32 rfl rfl rfl rfl rfl (fun w' hS' => r_move rfl) (by kernel_rfl) rfl (by kernel_rfl) (by kernel_rfl) rfl rfl (fun _ _ _ _ h => h) E17 ?_
  refine ZT.takeOn 33 rfl rfl rfl rfl rfl (fun w' hS' => r_idxS 0 rfl rfl rfl (by decide)) (by kernel_rfl) rfl (by kernel_rfl) (by kernel_rfl) rfl rfl (fun _ _ _ _ h => h) E17 ?_
  refine ZT.takeOn 34 rfl rfl rfl rfl rfl (fun w' hS' => r_load1 rfl (ExtX.at hS' hh12 (fun h => h)) hc12) (by kernel_rfl) rfl (by kernel_rfl) (by kernel_rfl) rfl rfl (fun _ _ _ _ h => h) E17 ?_
  refine ZT.takeOn 35 rfl rfl rfl rfl rfl (fun w' hS' => (r_eql rfl rfl).eq (v' := .bool true) (by simp)) (by kernel_rfl) rfl (by kernel_rfl) (by kernel_rfl) rfl rfl (fun _ _ _ _ h => h) E17 ?_
  refine ZT.take 36 rfl rfl (fun w' hS' => r_pickT rfl rfl) (by kernel_rfl) rfl (by kernel_rfl) (by kernel_rfl) rfl rfl (fun _ _ _ _ h => h) E17 ?_
  refine ZT.take 37 rfl rfl (fun w' hS' => r_move rfl) (by kernel_rfl) rfl (by kernel_rfl) (by kernel_rfl) rfl rfl (fun _ _ _ _ h => h) E17 ?_
  refine ZT.takeOn 38 rfl rfl rfl rfl rfl (fun w' hS' => r_move rfl) (by kernel_rfl) rfl (by kernel_rfl) (by kernel_rfl) rfl rfl (fun _ _ _ _ h => h) E17 ?_
  refine ZT.takeOn 39 rfl rfl rfl rfl rfl (fun w' hS' => r_idxS 1 rfl rfl rfl (by decide)) (by kernel_rfl) rfl (by kernel_rfl) (by kernel_rfl) rfl rfl (fun _ _ _ _ h => h) E17 ?_
  refine ZT.takeOn 40 rfl rfl rfl rfl rfl (fun w' hS' => r_load1 rfl (ExtX.at hS' hh12' (fun h => h)) hc12') (by kernel_rfl) rfl (by kernel_rfl) (by kernel_rfl) rfl rfl (fun _ _ _ _ h => h) E17 ?_
  refine ZT.takeOn 41 rfl rfl rfl rfl rfl (fun w' hS' => (r_eql rfl rfl).eq (v' := .bool true) (by simp)) (by kernel_rfl) rfl (by kernel_rfl) (by kernel_rfl) rfl rfl (fun _ _ _ _ h => h) E17 ?_
  refine ZT.take 42 rfl rfl (fun w' hS' => r_pickT rfl rfl) (by kernel_rfl) rfl (by kernel_rfl) (by kernel_rfl) rfl rfl (fun _ _ _ _ h => h) E17 ?_
  refine ZT.take 43 rfl rfl (fun w' hS' => r_move rfl) (by kernel_rfl) rfl (by kernel_rfl) (by kernel_rfl) rfl rfl (fun _ _ _ _ h => h) E17 ?_
  refine ZT.takeOn 44 rfl rfl rfl rfl rfl (fun w' hS' => r_move rfl) (by kernel_rfl) rfl (by kernel_rfl) (by kernel_rfl) rfl rfl (fun _ _ _ _ h => h) E17 ?_
  refine ZT.takeOn 45 rfl rfl rfl rfl rfl (fun w' hS' => r_lenSlice rfl) (by kernel_rfl) rfl (by kernel_rfl) (by kernel_rfl) rfl rfl (fun _ _ _ _ h => h) E17 ?_
  refine ZT.takeOn 46 rfl rfl rfl rfl rfl (fun w' hS' => (r_eql rfl rfl).eq (v' := .bool true) (by simp)) (by kernel_rfl) rfl (by kernel_rfl) (by kernel_rfl) rfl rfl (fun _ _ _ _ h => h) E17 ?_
  refine ZT.take 47 rfl rfl (fun w' hS' => r_pickT rfl rfl) (by kernel_rfl) rfl (by kernel_rfl) (by kernel_rfl) rfl rfl (fun _ _ _ _ h => h) E17 ?_
  refine ZT.take 48 rfl rfl (fun w' hS' => r_move rfl) (by kernel_rfl) rfl (by kernel_rfl) (by kernel_rfl) rfl rfl (fun _ _ _ _ h => h) E17 ?_
  refine ZT.takeOn 49 rfl rfl rfl rfl rfl (fun w' hS' => r_move rfl) (by kernel_rfl) rfl (by kernel_rfl) (by kernel_rfl) rfl rfl (fun _ _ _ _ h => h) E17 ?_
  refine ZT.takeOn 50 rfl rfl rfl rfl rfl (fun w' hS' => r_idxS 0 rfl rfl rfl (by decide)) (by kernel_rfl) rfl (by kernel_rfl) (by kernel_rfl) rfl rfl (fun _ _ _ _ h => h) E17 ?_
  refine ZT.takeOn 51 rfl rfl rfl rfl rfl (fun w' hS' => r_loadN rfl (ExtX.at hS' hh13 (fun h => h)) hsz13 hext13) (by kernel_rfl) rfl (by kernel_rfl) (by kernel_rfl) rfl rfl (fun _ _ _ _ h => h) E17 ?_
  refine ZT.takeOn 52 rfl rfl rfl rfl rfl (fun w' hS' => r_loadW rfl (ExtX.at hS' hb15 (fun h => h)) (B32.size _)) (by kernel_rfl) rfl (by kernel_rfl) (by kernel_rfl) rfl rfl (fun _ _ _ _ h => h) E17 ?_
  refine ZT.takeOn 53 rfl rfl rfl rfl rfl (fun w' hS' => (r_eqlB32 rfl rfl).eq (v' := .bool true) (by simp)) (by kernel_rfl) rfl (by kernel_rfl) (by kernel_rfl) rfl rfl (fun _ _ _ _ h => h) E17 ?_
  refine ZT.take 54 rfl rfl (fun w' hS' => r_pickT rfl rfl) (by kernel_rfl) rfl (by kernel_rfl) (by kernel_rfl) rfl rfl (fun _ _ _ _ h => h) E17 ?_
  refine ZT.take 55 rfl rfl (fun w' hS' => r_move rfl) (by kernel_rfl) rfl (by kernel_rfl) (by kernel_rfl) rfl rfl (fun _ _ _ _ h => h) E17 ?_
  refine ZT.takeOn 56 rfl rfl rfl rfl rfl (fun w' hS' => r_move rfl) (by kernel_rfl) rfl (by kernel_rfl) (by kernel_rfl) rfl rfl (fun _ _ _ _ h => h) E17 ?_
  refine ZT.takeOn 57 rfl rfl rfl rfl rfl (fun w' hS' => r_lenSlice rfl) (by kernel_rfl) rfl (by kernel_rfl) (by kernel_rfl) rfl rfl (fun _ _ _ _ h => h) E17 ?_
  refine ZT.takeOn 58 rfl rfl rfl rfl rfl (fun w' hS' => (r_eql rfl rfl).eq (v' := .bool true) (by simp)) (by kernel_rfl) rfl (by kernel_rfl) (by kernel_rfl) rfl rfl (fun _ _ _ _ h => h) E17 ?_
  refine ZT.take 59 rfl rfl (fun w' hS' => r_pickT rfl rfl) (by kernel_rfl) rfl (by kernel_rfl) (by kernel_rfl) rfl rfl (fun _ _ _ _ h => h) E17 ?_
  refine ZT.take 60 rfl rfl (fun w' hS' => r_move rfl) (by kernel_rfl) rfl (by kernel_rfl) (by kernel_rfl) rfl rfl (fun _ _ _ _ h => h) E17 ?_
  refine ZT.takeOn 61 rfl rfl rfl rfl rfl (fun w' hS' => r_move rfl) (by kernel_rfl) rfl (by kernel_rfl) (by kernel_rfl) rfl rfl (fun _ _ _ _ h => h) E17 ?_
  refine ZT.takeOn 62 rfl rfl rfl rfl rfl (fun w' hS' => r_lenSlice rfl) (by kernel_rfl) rfl (by kernel_rfl) (by kernel_rfl) rfl rfl (fun _ _ _ _ h => h) E17 ?_
  refine ZT.takeOn 63 rfl rfl rfl rfl rfl (fun w' hS' => (r_eql rfl rfl).eq (v' := .bool true) (by simp)) (by kernel_rfl) rfl (by kernel_rfl) (by kernel_rfl) rfl rfl (fun _ _ _ _ h => h) E17 ?_
  refine ZT.take 64 rfl rfl (fun w' hS' => r_pickT rfl rfl) (by kernel_rfl) rfl (by kernel_rfl) (by kernel_rfl) rfl rfl (fun _ _ _ _ h => h) E17 ?_
  refine ZT.take 65 rfl rfl (fun w' hS' => r_move rfl) (by kernel_rfl) rfl (by kernel_rfl) (by kernel_rfl) rfl rfl (fun _ _ _ _ h => h) E17 ?_
  refine ZT.takeOn 66 rfl rfl rfl rfl rfl (fun w' hS' => r_move rfl) (by kernel_rfl) rfl (by kernel_rfl) (by kernel_rfl) rfl rfl (fun _ _ _ _ h => h) E17 ?_
  refine ZT.takeOn 67 rfl rfl rfl rfl rfl (fun w' hS' => r_idxS 0 rfl rfl rfl (by decide)) (by kernel_rfl) rfl (by kernel_rfl) (by kernel_rfl) rfl rfl (fun _ _ _ _ h => h) E17 ?_
  refine ZT.takeOn 68 rfl rfl rfl rfl rfl (fun w' hS' => r_loadN rfl (ExtX.at hS' hh15 (fun h => h)) hsz15 hext15) (by kernel_rfl) rfl (by kernel_rfl) (by kernel_rfl) rfl rfl (fun _ _ _ _ h => h) E17 ?_
  refine ZT.takeOn 69 rfl rfl rfl rfl rfl (fun w' hS' => r_loadW rfl (ExtX.at hS' hb15 (fun h => h)) (B32.size _)) (by kernel_rfl) rfl (by kernel_rfl) (by kernel_rfl) rfl rfl (fun _ _ _ _ h => h) E17 ?_
  refine ZT.takeOn 70 rfl rfl rfl rfl rfl (fun w' hS' => (r_eqlB32 rfl rfl).eq (v' := .bool true) (by simp)) (by kernel_rfl) rfl (by kernel_rfl) (by kernel_rfl) rfl rfl (fun _ _ _ _ h => h) E17 ?_
  refine ZT.take 71 rfl rfl (fun w' hS' => r_pickT rfl rfl) (by kernel_rfl) rfl (by kernel_rfl) (by kernel_rfl) rfl rfl (fun _ _ _ _ h => h) E17 ?_
  refine ZT.take 72 rfl rfl (fun w' hS' => r_move rfl) (by kernel_rfl) rfl (by kernel_rfl) (by kernel_rfl) rfl rfl (fun _ _ _ _ h => h) E17 ?_
  refine ZT.takeOn 73 rfl rfl rfl rfl rfl (fun w' hS' => r_move rfl) (by kernel_rfl) rfl (by kernel_rfl) (by kernel_rfl) rfl rfl (fun _ _ _ _ h => h) E17 ?_
  refine ZT.one 74 rfl (by kernel_rfl) rfl rfl rfl ?_
  refine ZL.on rfl rfl rfl ?_
  have S17 := S15.ext E17
  refine ZL.call (r_call rfl) rfl (All_ok bh H15' w17 S17.home (by rw [A15.nol rfl]; simp)) (fun v18 w18 ⟨E18', ys18, hp18, _, N18⟩ => ?_)
  have E18 : Ext w15 w18 := ExtX.trans E17 E18' (fun _ h => h) (fun _ _ h => h)
  rw [A15.nol rfl] at hp18
  obtain rfl := List.perm_nil.1 hp18
  obtain ⟨p18, c18, rfl⟩ := N18.own.shape
  refine ZL.nil (ZP.turning E18 ?_)
  refine ZT.takeOn 75 rfl rfl rfl rfl rfl (fun w' hS' => r_lenSlice rfl) (by kernel_rfl) rfl (by kernel_rfl) (by kernel_rfl) rfl rfl (fun _ _ _ _ h => h) E18 ?_
  refine ZT.takeOn 76 rfl rfl rfl rfl rfl (fun w' hS' => (r_eql rfl rfl).eq (v' := .bool true) (by simp)) (by kernel_rfl) rfl (by kernel_rfl) (by kernel_rfl) rfl rfl (fun _ _ _ _ h => h) E18 ?_
  refine ZT.take 77 rfl rfl (fun w' hS' => r_pickT rfl rfl) (by kernel_rfl) rfl (by kernel_rfl) (by kernel_rfl) rfl rfl (fun _ _ _ _ h => h) E18 ?_
  refine ZT.done rfl (by kernel_rfl) ?_
  refine ZL.val (r_assign rfl) rfl ?_; refine ZL.nil ?_; refine ZP.then ?_; refine ZC.ret ?_
  exact ZP.ret1 rfl rfl ⟨ExtX.trans S15.M.ext E18 (fun _ h => h) (fun _ _ h => h), rfl⟩
end Go.Proofs.YtibobcjfjnoclaaGreatDoor.Z
end
section
/- What one peer told, whatever the others tell: in plain Lean. -/
set_option linter.unusedVariables false
set_option linter.unusedSimpArgs false
set_option linter.unusedSectionVars false
set_option maxRecDepth 100000
set_option maxHeartbeats 4000000
namespace Go.Proofs.YtibobcjfjnoclaaGreatDoor.Z
open Go Go.RowKit

theorem mget_map2 {p : List (Int × PE)} (g : Int → List Told → List Told) (k : Int) : mget (p.map fun x => (x.1, g x.1 x.2.2)) k = (mget p k).map fun u => g k u.2 := by
  induction p with
  | nil => rfl
  | cons x r ih =>
    by_cases hx : x.1 = k
    · simp [mget, hx]
    · simpa [mget, hx] using ih
theorem WithoutR.told {H H' : HM} {pred : Int → Told → Bool} {ys : List B32} (R : WithoutR H pred H' ys) (k : Int) : (H'.told k).2 = (H.told k).2.filter fun a => !pred k a := by
  have h1 := congrArg (fun l => mget l k) R.p
  have h2 := mget_map2 (p := H'.p) (fun _ l => l) k
  have h3 := mget_map2 (p := H.p) (fun q l => l.filter fun a => !pred q a) k
  simp only [h2, h3] at h1
  unfold HM.told
  cases ha : mget H'.p k with
  | none =>
    rw [ha] at h1
    cases hb : mget H.p k with
    | none => rfl
    | some u => rw [hb] at h1; cases h1
  | some u =>
    rw [ha] at h1
    cases hb : mget H.p k with
    | none => rw [hb] at h1; cases h1
    | some u' => rw [hb] at h1; simpa using h1
/-- A list of transactions that nothing but its own head may be written to. -/
theorem Mem.slcOut {w0 w : World} {L : List Chunk} {d : Chunk} {v : Value} {e s n : Nat} {xs : List Value} (M : Mem w0 No (d :: L) w) (hc : Chunk.own v e s n xs ∈ L) : SlC w (Out w0 [d]) s v n xs :=
  OwnR.slc (M.ok _ (List.mem_cons_of_mem _ hc)) fun g hg hx => by
    rcases hx with hx | ⟨c, hcm, hcg⟩
    · have := (M.mine _ (List.mem_cons_of_mem _ hc) g hg).resolve_left (fun h => h)
      omega
    · simp only [List.mem_singleton] at hcm
      subst hcm
      exact (List.pairwise_cons.1 M.ap).1 _ hc g hcg hg
theorem ochs_mem {r : LRec} {rs : List LRec} (h : r ∈ rs) : r.ci ∈ ochs rs ∧ r.co ∈ ochs rs := by
  unfold ochs
  simp only [List.mem_flatMap]
  exact ⟨⟨r, h, by simp⟩, ⟨r, h, by simp⟩⟩
theorem Odd_txs (v : Value) (l : List Int) (w : World) (hv : IntsA w v l) : Ret P 16 #[v] w (fun r w' =>
    ∃ (rows : List (List Value)) (Ts : List TTx), Mem w No [.own r 33 4 rows.length rows.flatten] w' ∧ Ts.length = rows.length ∧ rows.length ≤ 14 ∧ (∀ T ∈ Ts, T.fits) ∧ (∀ row ∈ rows, row.length = 4) ∧
      ∀ (i : Nat) (row : List Value) (T : TTx), rows[i]? = some row → Ts[i]? = some T → TxE w' (Out w [.own r 33 4 rows.length rows.flatten]) row T) := by
  refine (Odd_ok v l w hv).mono fun r w' ⟨rs, M, F, hO, hl⟩ => ?_
  have hlen : (rs.map LRec.row).length = rs.length := by simp
  have M1 : Mem w No (.own r 33 4 (rs.map LRec.row).length (rs.map LRec.row).flatten :: ochs rs) w' := by rw [hlen]; exact M
  have F1 : OF w (.own r 33 4 (rs.map LRec.row).length (rs.map LRec.row).flatten :: ochs rs) w' rs := by rw [hlen]; exact F
  clear M F
  have key : ∀ row ∈ rs.map LRec.row, row.length = 4 ∧ ∃ T : TTx, TxE w' (Out w [.own r 33 4 (rs.map LRec.row).length (rs.map LRec.row).flatten]) row T ∧ T.fits := fun row hrow => by
    obtain ⟨q, hq, rfl⟩ := List.mem_map.1 hrow
    refine ⟨rfl, ?_⟩
    obtain ⟨a, b, c, d, e⟩ := F1 q hq
    have mv : Mv w' (Out w (.own r 33 4 (rs.map LRec.row).length (rs.map LRec.row).flatten :: ochs rs)) w' (Out w [.own r 33 4 (rs.map LRec.row).length (rs.map LRec.row).flatten]) := Mv.mono fun b _ hb => hb.imp id fun ⟨c, hc, hg⟩ => ⟨c, by simp only [List.mem_singleton] at hc; rw [hc]; simp, hg⟩
    obtain ⟨li, hli, hpi, hli2⟩ := rows_list (Pr := fun i : TIn => i.script = [] ∧ i.wit.length ≤ 1 ∧ ∀ b ∈ i.wit, b.length ≤ 300) a
    obtain ⟨lo, hlo, hpo, hlo2⟩ := rows_list (Pr := fun o : TOut => o.script.length ≤ 200) b
    have hob := hO q hq
    refine ⟨⟨q.ver, li, lo, 0⟩, ⟨q.iv, q.ov, rfl, ⟨q.irows, hli.symm, fun x hx => (a x hx).1, ?_, fun i x y hx hy => (hli2 i x y hx hy).mv mv⟩, ⟨q.orows, hlo.symm, fun x hx => (b x hx).1, ?_, fun i x y hx hy => (hlo2 i x y hx hy).mv mv⟩⟩, ⟨?_, ?_, ?_, ?_⟩⟩
    · simp only; rw [hli]; exact M1.slcOut (ochs_mem hq).1
    · simp only; rw [hlo]; exact M1.slcOut (ochs_mem hq).2
    all_goals simp only
    · rw [hli]; omega
    · rw [hlo]; omega
    · intro x hx
      obtain ⟨h1, h2, h3⟩ := hpi x hx
      exact ⟨by rw [h1]; simp, by omega, fun b hb => by have := h3 b hb; omega⟩
    · intro x hx
      have := hpo x hx; omega
  obtain ⟨Ts, h1, h2, h3⟩ := rows_list (Pr := TTx.fits) key
  exact ⟨_, Ts, M1.sub [0] rfl, h1, by rw [hlen]; exact hl, h2, fun row hr => (key row hr).1, h3⟩

/-- The first peer alone has told. -/
structure FA (H : HM) (mine : List B32) (i : Nat) : Prop where
  sorted : mine.Pairwise ltP
  nod : ((H.told 7).2.map Told.id).Nodup
  ids : ∀ x, x ∈ (H.told 7).2.map Told.id ↔ x ∈ mine
  keys : ∀ x ∈ H.p, x.1 = 7
  l : ∀ x ∈ mine, (mget H.l x).isSome = true
  small : ∀ e ∈ H.l, e.2.2.weight ≤ 4000
  len : (H.told 7).2.length ≤ i
  seq0 : 0 ≤ H.seq
  seq : H.seq ≤ i
/-- Others tell, too. -/
structure FB (H : HM) (mine : List B32) (i : Nat) : Prop where
  has : ∀ x ∈ mine, H.hasB 7 x = true
  n : (H.told 7).2.length = mine.length
  l : ∀ x ∈ mine, (mget H.l x).isSome = true
  few : ∀ q, (H.told q).2.length ≤ 5
  plen : H.p.length ≤ i
  seq0 : 0 ≤ H.seq
  seq : H.seq ≤ i
theorem mget_isSome_mem {K U : Type} [DecidableEq K] {m : List (K × U)} {k : K} {v : U} (h : (k, v) ∈ m) : (mget m k).isSome = true := by
  cases hm : mget m k with
  | some u => rfl
  | none => exact absurd rfl (mget_none hm (k, v) h)
theorem HM.weigh_bound {H : HM} (h : ∀ e ∈ H.l, e.2.2.weight ≤ 4000) (l : List Told) : H.weigh l ≤ 4000 * l.length := by
  induction l with
  | nil => simp [HM.weigh]
  | cons a r ih =>
    have : (H.tx a.id).2.weight ≤ 4000 := by
      unfold HM.tx
      cases hm : mget H.l a.id with
      | none =>
        have hm0 : nilTx.2.may = false := by simp [nilTx, TTx.may]
        show TTx.weight nilTx.2 ≤ 4000
        simp [TTx.weight, TTx.bytes, TTx.base, hm0]
      | some u => exact h _ (mget_mem hm)
    simp only [HM.weigh, List.map_cons, List.sum_cons, List.length_cons] at *
    omega
section
variable {H H' : HM} {mine ys : List B32} {i : Nat} {T : TTx} {now k : Int} {gone : List B32} {ok : Bool}
theorem FA.fine (h : FA H mine i) (hok : H.ok) (hi : i < 5) (hT : T.weight ≤ 4000) (A : AddR H 7 T now H' gone ok) : ok = true ∧ gone = [] := by
  cases A with
  | heavy h1 => omega
  | known h1 hb => exact ⟨rfl, rfl⟩
  | added h1 hb H1 _ _ n v pv e1 e2 e3 hE h5 =>
    have ht1 : H1.told 7 = (pv, (H.told 7).2 ++ [⟨T.wid, now, H.seq⟩]) := HM.told_put e2
    have hsm : ∀ e ∈ H1.l, e.2.2.weight ≤ 4000 := fun e he => by
      rw [e1] at he
      have h9 := mget_of (mput_nodup hok.ol.nod) (k := e.1) (v := e.2) he
      by_cases hk : e.1 = T.wid
      · rw [hk, mget_put] at h9; rw [← Option.some.inj h9]; exact hT
      · rw [mget_put_ne hk] at h9; exact h.small _ (mget_mem h9)
    have hlen := h.len
    have hn : n = 0 := hE.fit (by rw [ht1]; simp; omega) (by
      have := HM.weigh_bound hsm (H1.told 7).2
      rw [ht1] at this ⊢
      simp only [List.length_append, List.length_cons, List.length_nil] at this ⊢
      omega)
    exact ⟨rfl, (hE.zero hn).1⟩
theorem FA.add (h : FA H mine i) (hok : H.ok) (hi : i < 5) (hT : T.weight ≤ 4000) (A : AddR H 7 T now H' gone ok) (hs : ys.Pairwise ltP) (hm : ∀ y, y ∈ ys ↔ y = T.wid ∨ y ∈ mine) : ok = true ∧ gone = [] ∧ FA H' ys (i + 1) := by
  cases A with
  | heavy h1 => omega
  | known h1 hb =>
    have hin : T.wid ∈ mine := by
      unfold HM.hasB at hb
      obtain ⟨a, ha, hae⟩ := List.any_eq_true.1 hb
      rw [← h.ids]
      exact List.mem_map.2 ⟨a, ha, by simpa using hae⟩
    have hiff : ∀ y, y ∈ ys ↔ y ∈ mine := fun y => by rw [hm]; exact ⟨fun h => h.elim (fun e => e ▸ hin) id, .inr⟩
    exact ⟨rfl, rfl, hs, h.nod, fun x => (h.ids x).trans (hiff x).symm, h.keys, fun x hx => h.l x ((hiff x).1 hx), h.small, by have := h.len; omega, h.seq0, by have := h.seq; omega⟩
  | added h1 hb H1 _ _ n v pv e1 e2 e3 hE h5 =>
    have ht1 : H1.told 7 = (pv, (H.told 7).2 ++ [⟨T.wid, now, H.seq⟩]) := HM.told_put e2
    have hsm : ∀ e ∈ H1.l, e.2.2.weight ≤ 4000 := fun e he => by
      rw [e1] at he
      have h9 := mget_of (mput_nodup hok.ol.nod) (k := e.1) (v := e.2) he
      by_cases hk : e.1 = T.wid
      · rw [hk, mget_put] at h9; rw [← Option.some.inj h9]; exact hT
      · rw [mget_put_ne hk] at h9; exact h.small _ (mget_mem h9)
    have hlen := h.len
    have hn : n = 0 := hE.fit (by rw [ht1]; simp; omega) (by
      have := HM.weigh_bound hsm (H1.told 7).2
      rw [ht1] at this ⊢
      simp only [List.length_append, List.length_cons, List.length_nil] at this ⊢
      omega)
    obtain ⟨hg, hl'⟩ := hE.zero hn
    obtain ⟨v2, hp⟩ := hE.p
    rw [hn, List.drop_zero] at hp
    have ht' : (H'.told 7).2 = (H.told 7).2 ++ [⟨T.wid, now, H.seq⟩] := by
      rw [HM.told_put hp]; simp only; rw [ht1]
    have hni : T.wid ∉ mine := fun hin => by
      rw [← h.ids] at hin
      obtain ⟨a, ha, hae⟩ := List.mem_map.1 hin
      have : H.hasB 7 T.wid = true := List.any_eq_true.2 ⟨a, ha, by simpa using hae⟩
      rw [hb] at this; cases this
    refine ⟨rfl, hg, hs, ?_, ?_, ?_, ?_, ?_, ?_, ?_, ?_⟩
    · rw [ht', List.map_append, List.nodup_append]
      refine ⟨h.nod, by simp, fun a ha b hb => ?_⟩
      simp at hb; subst hb
      intro e; subst e
      exact hni ((h.ids _).1 ha)
    · intro x
      rw [ht', List.map_append, List.mem_append, h.ids, hm]
      simp only [List.map_cons, List.map_nil, List.mem_singleton]
      exact or_comm
    · intro x hx
      rw [hp, e2, mput_put] at hx
      by_cases hk : x.1 = 7
      · exact hk
      · have h9 := mget_of (mput_nodup hok.op.nod) (k := x.1) (v := x.2) hx
        rw [mget_put_ne hk] at h9
        exact h.keys _ (mget_mem h9)
    · intro x hx
      rw [hl', e1]
      by_cases hk : x = T.wid
      · rw [hk, mget_put]; rfl
      · rw [mget_put_ne hk]; exact h.l x (((hm x).1 hx).resolve_left hk)
    · rw [hl']; exact hsm
    · rw [ht']; simp; omega
    · rw [hE.seq, e3]; have := h.seq0; omega
    · rw [hE.seq, e3]; have := h.seq; omega
theorem FA.b (h : FA H mine i) (hok : H.ok) (hi : i ≤ 5) : FB H mine 5 := by
  refine ⟨fun x hx => ?_, ?_, h.l, fun q => ?_, ?_, h.seq0, by have := h.seq; omega⟩
  · rw [← h.ids] at hx
    obtain ⟨a, ha, hae⟩ := List.mem_map.1 hx
    exact List.any_eq_true.2 ⟨a, ha, by simpa using hae⟩
  · have hp : ((H.told 7).2.map Told.id).Perm mine := (List.perm_ext_iff_of_nodup h.nod (ltP_nodup h.sorted)).2 h.ids
    simpa using hp.length_eq
  · by_cases hq : q = 7
    · subst hq; have := h.len; omega
    · unfold HM.told
      cases hm : mget H.p q with
      | none => simp
      | some u => exact absurd (h.keys _ (mget_mem hm)) hq
  · have : H.p.map (·.1) = List.replicate H.p.length 7 := by
      apply List.ext_getElem (by simp)
      intro j h1 h2
      simp only [List.getElem_map, List.getElem_replicate]
      exact h.keys _ (List.getElem_mem _)
    have hn := hok.op.nod
    rw [this] at hn
    match hl : H.p.length, hn with
    | 0, _ => omega
    | 1, _ => omega
    | m + 2, hn => simp [List.replicate_succ] at hn
theorem FB.add (h : FB H mine i) (hok : H.ok) (hk : k ≠ 7) (A : AddR H k T now H' gone ok) : FB H' mine (i + 1) ∧ ∀ x ∈ gone, x ∉ mine := by
  cases A with
  | heavy h1 => exact ⟨⟨h.has, h.n, h.l, h.few, by have := h.plen; omega, h.seq0, by have := h.seq; omega⟩, by simp⟩
  | known h1 hb => exact ⟨⟨h.has, h.n, h.l, h.few, by have := h.plen; omega, h.seq0, by have := h.seq; omega⟩, by simp⟩
  | added h1 hb H1 _ _ n v pv e1 e2 e3 hE h5 =>
    obtain ⟨v2, hp⟩ := hE.p
    rw [e2, mput_put] at hp
    have ht7 : H'.told 7 = H.told 7 := HM.told_put_ne hp (Ne.symm hk)
    have hne : ∀ x ∈ gone, x ∉ mine := fun x hx hxm => by
      have h1 := h.has x hxm
      unfold HM.hasB HM.told at h1
      cases hm : mget H.p 7 with
      | none => rw [hm] at h1; simp at h1
      | some u =>
        rw [hm] at h1
        have h2 : mget H'.p 7 = some u := by rw [hp, mget_put_ne (Ne.symm hk)]; exact hm
        have := hE.out x hx _ (mget_mem h2)
        simp only [Option.getD_some] at h1
        rw [h1] at this; cases this
    refine ⟨⟨fun x hx => ?_, ?_, fun x hx => ?_, fun q => ?_, ?_, ?_, ?_⟩, hne⟩
    · unfold HM.hasB; rw [ht7]; exact h.has x hx
    · rw [ht7]; exact h.n
    · rw [hE.l x (fun hg => hne x hg hx), e1]
      by_cases hk : x = T.wid
      · rw [hk, mget_put]; rfl
      · rw [mget_put_ne hk]; exact h.l x hx
    · by_cases hq : q = k
      · subst hq; rw [HM.told_put hp]; exact h5
      · rw [HM.told_put_ne hp hq]; exact h.few q
    · rw [hp]; have := mput_len (m := H.p) (k := k) (v := (v2, (H1.told k).2.drop n)); have := h.plen; omega
    · rw [hE.seq, e3]; have := h.seq0; omega
    · rw [hE.seq, e3]; have := h.seq; omega
theorem FB.goes {H'' : HM} (h : FB H mine i) (hok : H.ok) (hk : k ≠ 7) (R : WithoutR H (fun q _ => decide (q = k)) H' ys) (hp : H''.p = mdel H'.p k) (hl : H''.l = H'.l) (hs : H''.seq = H'.seq) : FB H'' mine (i + 1) := by
  have htold : ∀ q, q ≠ k → (H''.told q).2 = (H.told q).2 := fun q hq => by
    have h1 := R.told q
    have h2 : H''.told q = H'.told q := by unfold HM.told; rw [hp, mget_del, if_neg hq]
    rw [h2, h1]
    exact List.filter_eq_self.2 fun a _ => by simp [hq]
  have hhas : ∀ x, H''.hasB 7 x = H.hasB 7 x := fun x => by unfold HM.hasB; rw [htold 7 (Ne.symm hk)]
  have hni : ∀ x ∈ mine, x ∉ ys := fun x hx hxy => by
    have h1 := h.has x hx
    have h2 := ((R.mem x).1 hxy).2
    have h3 : H'.hasB 7 x = true := by
      unfold HM.hasB
      rw [R.told 7, show ((H.told 7).2.filter fun a => !(decide ((7 : Int) = k))) = (H.told 7).2 from List.filter_eq_self.2 fun a _ => by simp [Ne.symm hk]]
      exact h1
    unfold HM.hasB HM.told at h3
    cases hm : mget H'.p 7 with
    | none => rw [hm] at h3; simp at h3
    | some u =>
      rw [hm] at h3
      have := h2 _ (mget_mem hm)
      simp only [Option.getD_some] at h3
      rw [h3] at this; cases this
  refine ⟨fun x hx => by rw [hhas]; exact h.has x hx, by rw [htold 7 (Ne.symm hk)]; exact h.n, fun x hx => ?_, fun q => ?_, ?_, by rw [hs, R.seq]; exact h.seq0, by rw [hs, R.seq]; have := h.seq; omega⟩
  · have h1 := h.l x hx
    cases hm : mget H.l x with
    | none => rw [hm] at h1; cases h1
    | some u =>
      rw [hl, R.l]
      exact mget_isSome_mem (v := u) (List.mem_filter.2 ⟨mget_mem hm, by simpa using hni x hx⟩)
  · by_cases hq : q = k
    · have : H''.told q = (.slice none 0 0, []) := by unfold HM.told; rw [hp, mget_del, if_pos hq]; rfl
      rw [this]; simp
    · rw [htold q hq]; exact h.few q
  · have h1 := congrArg List.length R.keys
    simp only [List.length_map] at h1
    rw [hp]
    have h2 : (mdel H'.p k).length ≤ H'.p.length := List.length_filter_le _ _
    have := h.plen
    omega
end
end Go.Proofs.YtibobcjfjnoclaaGreatDoor.Z
end
section
/- OrphFair. -/
set_option linter.unusedVariables false
set_option linter.unusedSimpArgs false
set_option linter.unusedSectionVars false
set_option maxRecDepth 100000
set_option maxHeartbeats 4000000
namespace Go.Proofs.YtibobcjfjnoclaaGreatDoor.Z
open Go Go.RowKit

/-- A transaction read out of a slice of them. -/
theorem ListR.txAt {w : World} {X : Nat → Prop} {p : Option Addr} {n c : Nat} {Ts : List TTx} (h : ListR TxE 4 w X (.slice p n c) Ts) {i : Nat} (hi : i < Ts.length) :
    ∃ g o cs e fz iv ov, p = some ⟨g, o, none⟩ ∧ w.heap[g]? = some (.cells cs e fz) ∧ o + i * 4 + 4 ≤ cs.size ∧ cs.extract (o + i * 4) (o + i * 4 + 4) = #[u32 Ts[i].version, iv, ov, u32 Ts[i].lock] ∧ TxR w X (.agg #[u32 Ts[i].version, iv, ov, u32 Ts[i].lock]) Ts[i] ∧ iv.oneCell' = true ∧ ov.oneCell' = true := by
  obtain ⟨g, o, cs, e, fz, r, hp, hh, -, -, hE, hcell, hsz, hext⟩ := ListR.elem (by decide) h hi
  obtain ⟨iv, ov, rfl, h1, h2⟩ := hE
  exact ⟨g, o, cs, e, fz, iv, ov, hp, hh, hsz, hext, ⟨_, rfl, iv, ov, rfl, h1, h2⟩, h1.one, h2.one⟩
theorem fpIn.same {bh : Nat} {H : HM} {L L' : List Chunk} {w : World} (hs : ∀ c ∈ L', c ∈ L) : Mv w (fpIn (H.chs bh ++ L)) w (fpIn (H.chs bh ++ L')) := Mv.mono fun b _ ⟨c, hc, hg⟩ => ⟨c, by
  rcases List.mem_append.1 hc with h | h
  · exact List.mem_append_left _ h
  · exact List.mem_append_right _ (hs c h), hg⟩

theorem Mem.subl {w0 w : World} {X : Nat → Prop} {L L' : List Chunk} (h : Mem w0 X L w) (hs : L'.Sublist L) : Mem w0 X L' w := ⟨h.ext, fun c hc => h.ok c (hs.subset hc), h.ap.sublist hs, fun c hc => h.mine c (hs.subset hc)⟩
theorem HS.keep {w0 w : World} {X : Nat → Prop} {bh : Nat} {H : HM} {N L : List Chunk} (h : HS w0 X bh H (N ++ L) w) : HS w0 X bh H N w :=
  h.rest (h.M.subl (List.Sublist.append_left (List.sublist_append_left _ _) _)) fun c hc => List.mem_append_left _ hc

theorem OrphFair_ok (v0 : Value) (l : List Int) (v1 : Value) (more : List Int) (v2 : Value) (acts : List Int) (w : World) (hG : GW w) (hA0 : IntsA w v0 l) (hA1 : IntsA w v1 more) (hA2 : IntsA w v2 acts) :
    Ret P 4 #[v0, v1, v2] w (fun r w' => Ext w w' ∧ r = .bool true) := by
  have hA0' := hA0
  have hA1' := hA1
  have hA2' := hA2
  obtain ⟨p0, c0, rfl, -⟩ := hA0'
  obtain ⟨p1, c1, rfl, -⟩ := hA1'
  obtain ⟨p2, c2, rfl, -⟩ := hA2'
  refine Ret.enter3 Tryz.func4 rfl Tryz.ntmps4 rfl ?_
  refine ZC.seq ?_; refine ZC.region ?_; refine ZL.val (r_assign rfl) rfl ?_; refine ZL.nil ?_; refine ZP.then ?_; refine ZC.seq ?_; refine ZC.region ?_
  refine ZL.call (r_call rfl) rfl (New_ok w) (fun v1 w1 ⟨bh, bl, bp, hv, M1⟩ => ?_)
  subst hv
  have S1 := HS.init M1
  have A0 : FA ⟨bl, bp, #[], 0, #[], 0, [], [], 0⟩ [] 0 := ⟨List.Pairwise.nil, by simp [HM.told, mget], by simp [HM.told, mget], (fun x hx => by cases hx), (fun x hx => by cases hx), (fun x hx => by cases hx), by simp [HM.told, mget], Int.le_refl _, Int.le_refl _⟩
  generalize (⟨bl, bp, #[], 0, #[], 0, [], [], 0⟩ : HM) = H0 at S1 A0
  have S1 := S1.nilOwn 27 32
  clear M1
  refine ZL.val (r_assign rfl) rfl ?_; refine ZL.nil ?_; refine ZP.then ?_; refine ZC.seq ?_; refine ZC.seq ?_; refine ZC.region ?_; refine ZL.val (r_move rfl) rfl ?_; refine ZL.val (r_eqlPtrNil rfl rfl) rfl ?_; refine ZL.nil ?_; refine ZP.then ?_; refine ZC.condF rfl ?_; refine ZC.skip ?_; refine ZP.then ?_; refine ZC.seq ?_; refine ZC.region ?_; refine ZL.val (r_assign rfl) rfl ?_; refine ZL.nil ?_; refine ZP.then ?_
  refine ZC.mid (X := HM × Value × List B32) (fun x => [(8, x.2.1), (7, .pointer (some ⟨bh, 0, none⟩)), (0, .slice p0 l.length c0), (1, .slice p1 more.length c1), (2, .slice p2 acts.length c2)])
    (fun x w' => HS w No bh x.1 [.own x.2.1 27 32 x.2.2.length (flatP x.2.2)] w' ∧ FB x.1 x.2.2 5 ∧ x.2.2.length ≤ 5) ?_ ?_
  · refine ZC.seq ?_; refine ZC.region ?_; refine ZL.val (r_move rfl) rfl ?_
    refine ZL.call (r_call rfl) rfl (Linked_txs _ l w1 (hA0.ext S1.M.ext)) (fun v3 w3 ⟨E3, Ts, hTl, hpl, hL3⟩ => ?_)
    have S3 := S1.ext E3
    have L3 := hL3.tx (Mv.newer S1.M E3.size)
    obtain ⟨p3, c3, hv3⟩ := L3.shape
    subst hv3
    clear hL3 S1
    have hTl14 : Ts.length ≤ 14 := by omega
    refine ZL.val (r_lenSlice rfl) rfl ?_; refine ZL.val (r_move rfl) rfl ?_; refine ZL.nil ?_; refine ZP.then ?_; refine ZC.block ?_
    refine ZC.loop (X := Nat × HM × Value × List B32) (fun x => [(32, .int .i64 x.1), (31, .int .i64 (Ts.length : Int)), (30, .slice p3 Ts.length c3), (8, x.2.2.1), (7, .pointer (some ⟨bh, 0, none⟩)), (0, .slice p0 l.length c0), (1, .slice p1 more.length c1), (2, .slice p2 acts.length c2)])
      (fun x w' => HS w No bh x.2.1 [.own x.2.2.1 27 32 x.2.2.2.length (flatP x.2.2.2)] w' ∧ FA x.2.1 x.2.2.2 (min x.1 5) ∧ ListR TxE 4 w' (fpIn (x.2.1.chs bh ++ [.own x.2.2.1 27 32 x.2.2.2.length (flatP x.2.2.2)])) (.slice p3 Ts.length c3) Ts ∧ x.1 ≤ Ts.length)
      (fun x => Ts.length - x.1) (0, H0, .slice none 0 0, []) ⟨rfl, rfl, rfl, rfl, rfl, rfl, rfl, rfl, trivial⟩ ⟨S3, A0, L3, Nat.zero_le _⟩ ?_
    clear S3 A0 L3
    rintro ⟨i, H, mv, mine⟩ w2 ⟨S2, A2, L2, hi⟩
    simp only at S2 A2 L2 hi ⊢
    have hml : mine.length ≤ min i 5 := by
      have hp : ((H.told 7).2.map Told.id).Perm mine := (List.perm_ext_iff_of_nodup A2.nod (ltP_nodup A2.sorted)).2 A2.ids
      have h1 := hp.length_eq
      rw [List.length_map] at h1
      rw [← h1]; exact A2.len
    refine ZC.seq ?_; refine ZC.region ?_; refine ZL.val (r_lss rfl rfl) rfl ?_; refine ZL.nil ?_; refine ZP.then ?_; refine ZC.seq ?_
    refine ZC.condD rfl (fun hc => ?_) (fun hc => ?_)
    rotate_left
    · refine ZC.exit ?_; refine ZP.thenX ?_; refine ZP.thenX ?_; refine ZP.blockE ?_
      exact ZP.mid (H, mv, mine) ⟨rfl, rfl, rfl, rfl, rfl, trivial⟩ ⟨S2, A2.b S2.ok (by omega), by simp only; omega⟩
    have hi' : i < Ts.length := by omega
    obtain ⟨g, o, cs, e, fz, iv, ov, rfl, hh, hsz, hext, hT, h1v, h2v⟩ := L2.txAt hi'
    have hpT := hpl Ts[i] (List.getElem_mem hi')
    generalize hTi : Ts[i] = T at hpT hT hext
    refine ZC.skip ?_; refine ZP.then ?_; refine ZC.seq ?_; refine ZC.block ?_; refine ZC.seq ?_; refine ZC.region ?_; refine ZL.val (r_move rfl) rfl ?_
    refine ZL.val (r_idxS i rfl rfl rfl hi') rfl ?_
    refine ZL.val (r_loadN rfl hh hsz hext) rfl ?_
    refine ZL.alloc (Mem.start w2 No) rfl rfl (fun b10 w3 M3 => ?_)
    refine ZL.val (r_assign rfl) rfl ?_
    refine ZL.stW M3 rfl rfl (cs' := #[u32 T.version, iv, ov, u32 T.lock]) rfl (by rfl) (by rfl) (by simp only [List.all_cons, List.all_nil, h1v, h2v]; rfl) (fun w4 M4 => ?_)
    have S4 := S2.beside M4
    have L4 := L2.tx (Mv.besideH M4)
    have hT4 := hT.mv (Mv.besideH (A := H.chs bh) (L := [.own mv 27 32 mine.length (flatP mine)]) M4)
    clear M3 S2 L2 hT hh hsz hext
    refine ZL.nil ?_; refine ZP.then ?_; refine ZC.seq ?_; refine ZC.region ?_; refine ZL.val (r_move rfl) rfl ?_; refine ZL.val (r_lss rfl rfl) rfl ?_; refine ZL.nil ?_; refine ZP.then ?_
    refine ZC.condD rfl (fun hc5 => ?_) (fun hc5 => ?_)
    rotate_left
    · refine ZC.skip ?_; refine ZP.blockN ?_; refine ZP.then ?_; refine ZC.region ?_; refine ZL.val (r_add rfl rfl (wrap_i64 (by omega) (by omega))) rfl ?_; refine ZL.val (r_move rfl) rfl ?_; refine ZL.nil ?_
      refine ZP.round (i + 1, H, mv, mine) ⟨rfl, rfl, rfl, rfl, rfl, rfl, rfl, rfl, trivial⟩ ⟨HS.drop (N := [_]) S4, ?_, L4.tx (fpIn.same fun c hc => by simp at hc ⊢; simp [hc]), by omega⟩ (by simp only; omega)
      have : min (i + 1) 5 = min i 5 := by omega
      rw [this]; exact A2
    have hi5 : i < 5 := by omega
    rw [show min i 5 = i by omega] at A2 hml
    have hb4 : w4.heap[b10]? = some (.cells #[u32 T.version, iv, ov, u32 T.lock] 33 (0, 0)) := M4.get inferInstance
    refine ZC.seq ?_; refine ZC.seq ?_; refine ZC.region ?_; refine ZL.val (r_move rfl) rfl ?_
    refine ZL.val (r_loadW rfl hb4 rfl) rfl ?_
    refine ZL.call (r_call rfl) rfl (Add_ok bh H _ T 7 10 _ w4 (hG.ext S4.M.ext) S4.rebase hT4 hpT.fits A2.seq0 (by have := A2.seq; omega) (by have := A2.len; omega)) (fun v5 w5 ⟨H5, gv5, gone5, ok5, hv, Q5, hA5⟩ => ?_)
    have hok2 := S4.ok
    obtain ⟨rfl, rfl⟩ := A2.fine hok2 hi5 hpT.weight hA5
    subst hv
    have L5 := L4.tx (Mv.fpf Q5.M)
    have hT5 := hT4.mv (Mv.fpf Q5.M)
    have S5 := S4.join Q5
    clear S4 L4 hT4 Q5 M4 hb4
    have M5 := (HS.front (N := [_, _, _]) S5).1
    simp only [List.cons_append, List.nil_append] at M5
    have hb5 : w5.heap[b10]? = some (.cells #[u32 T.version, iv, ov, u32 T.lock] 33 (0, 0)) := M5.ok (.blk b10 (.cells #[u32 T.version, iv, ov, u32 T.lock] 33)) (by simp)
    have hO5 : OwnR w5 27 32 mv mine.length (flatP mine) := M5.ok (.own mv 27 32 mine.length (flatP mine)) (by simp)
    refine ZL.val (r_move rfl) rfl ?_; refine ZL.val (r_extract rfl rfl) rfl ?_; refine ZL.val (r_extract rfl rfl) rfl ?_; refine ZL.val (r_assign rfl) rfl ?_; refine ZL.val (r_assign rfl) rfl ?_; refine ZL.nil ?_; refine ZP.then ?_; refine ZC.seq ?_; refine ZC.region ?_; refine ZL.val (r_move rfl) rfl ?_; refine ZL.val (r_not rfl) rfl ?_; refine ZL.nil ?_; refine ZP.then ?_; refine ZC.condF rfl ?_; refine ZC.skip ?_; refine ZP.then ?_; refine ZC.region ?_; refine ZL.val (r_move rfl) rfl ?_
    refine ZL.val (r_loadW rfl hb5 rfl) rfl ?_
    refine ZL.call (r_call rfl) rfl (refWtxid_ok _ T w5 _ hT5) (fun v6 w6 ⟨E6, hv⟩ => ?_)
    subst hv
    refine ZL.call (r_call rfl) rfl (With_ok mv mine T.wid w6 ((hO5.slc (X := No) (fun _ _ h => h)).mv (Mv.ext E6)) A2.sorted (by omega)) (fun v7 w7 ⟨E7, ys, hys, hym, hcase⟩ => ?_)
    obtain ⟨-, -, A7⟩ := A2.add hok2 hi5 hpT.weight hA5 hys hym
    have A7' : FA H5 ys (min (i + 1) 5) := by rw [show min (i + 1) 5 = i + 1 by omega]; exact A7
    have S6 := S5.ext E6
    have S7 := S6.ext E7
    have L6 := L5.tx (Mv.ext E6)
    have L7 := L6.tx (Mv.ext E7)
    refine ZL.val (r_assign rfl) rfl ?_; refine ZL.nil ?_; refine ZP.blockN ?_; refine ZP.then ?_; refine ZC.region ?_; refine ZL.val (r_add rfl rfl (wrap_i64 (by omega) (by omega))) rfl ?_; refine ZL.val (r_move rfl) rfl ?_; refine ZL.nil ?_
    rcases hcase with ⟨rfl, rfl⟩ | N7
    · refine ZP.round (i + 1, H5, v7, ys) ⟨rfl, rfl, rfl, rfl, rfl, rfl, rfl, rfl, trivial⟩ ⟨HS.drop (N := [_, _]) S7, A7', L7.tx (fpIn.same fun c hc => by simp at hc ⊢; simp [hc]), by omega⟩ (by simp only; omega)
    · have K7 := (Mem.start w6 No).addNew E7 N7
      have S8 := HS.drop (N := [_, _]) S6 |>.beside K7
      have L8 := (L6.tx (fpIn.same (L' := [.own mv 27 32 mine.length (flatP mine)]) fun c hc => by simp at hc ⊢; simp [hc])).tx (Mv.besideH K7)
      exact ZP.round (i + 1, H5, v7, ys) ⟨rfl, rfl, rfl, rfl, rfl, rfl, rfl, rfl, trivial⟩ ⟨HS.keep S8, A7', L8.tx (fpIn.same fun c hc => by simp at hc ⊢; simp [hc]), by omega⟩ (by simp only; omega)
  clear S1 A0
  rintro ⟨H1, mv, mine⟩ w1 ⟨S1, B1, hm5⟩
  simp only at S1 B1 hm5 ⊢
  refine ZC.seq ?_; refine ZC.region ?_; refine ZL.val (r_move rfl) rfl ?_
  refine ZL.call (r_call rfl) rfl (Odd_txs _ more w1 (hA1.ext S1.M.ext)) (fun v2 w2 ⟨rows, Ts1, N2, hT1, hr14, hf1, hr4, hE1⟩ => ?_)
  refine ZL.val (r_move rfl) rfl ?_
  refine ZL.call (r_call rfl) rfl (Linked_txs _ l w2 (hA0.ext (ExtX.trans S1.M.ext N2.ext (fun _ h => h) (fun _ _ h => h)))) (fun v3 w3 ⟨E3, Ts2, hT2, hp2, hL3⟩ => ?_)
  have hL3' := hL3.tx (Mv.fresh N2 E3.size)
  obtain ⟨rows2, hrl2, hrs2, hsl2, hE2⟩ := hL3'
  have N3 := N2.ext' E3
  skip
  refine ZL.append N3.rebase rfl rfl hsl2 (by
    intro x hx
    obtain ⟨row, hrow, hx⟩ := List.mem_flatten.1 hx
    obtain ⟨i, hi, rfl⟩ := List.getElem_of_mem hrow
    obtain ⟨iv, ov, he, h1, h2⟩ := hE2 i rows2[i] (Ts2[i]'(by omega)) (List.getElem?_eq_getElem hi) (List.getElem?_eq_getElem (by omega))
    rw [he] at hx
    simp only [List.mem_cons, List.not_mem_nil, or_false] at hx
    rcases hx with rfl | rfl | rfl | rfl
    · rfl
    · exact h1.one
    · exact h2.one
    · rfl) (by simp only [maxLen]; omega) (by omega) rfl (fun tv w4 R4 => ?_)
  have N4 := N3.join R4
  have hfl : rows.flatten ++ rows2.flatten = (rows ++ rows2).flatten := by simp
  have hll : rows.length + Ts2.length = (Ts1 ++ Ts2).length := by simp; omega
  have L4 : ListR TxE 4 w4 (fpIn (H1.chs bh ++ [.own mv 27 32 mine.length (flatP mine)])) tv (Ts1 ++ Ts2) := by
    have mv4 := (Mv.frame (w0 := w1) R4).trans (Mv.drop (w0 := w1))
    have Sl := N4.out.2
    rw [hfl, hll] at Sl
    have hL : ListR TxE 4 w4 (Out w1 []) tv (Ts1 ++ Ts2) := by
      refine ⟨rows ++ rows2, by simp; omega, fun r hr => ?_, Sl, fun i r T hr hT => ?_⟩
      · rcases List.mem_append.1 hr with hr | hr
        · exact hr4 r hr
        · exact hrs2 r hr
      · by_cases hi : i < rows.length
        · rw [List.getElem?_append_left hi] at hr
          rw [List.getElem?_append_left (by omega)] at hT
          exact TxE.mv ((Mv.ext E3).trans mv4) (hE1 i r T hr hT)
        · rw [List.getElem?_append_right (by omega)] at hr
          rw [List.getElem?_append_right (by omega), hT1] at hT
          exact TxE.mv mv4 (hE2 _ r T hr hT)
    exact hL.tx (Mv.mono fun b _ ⟨c, hc, hg⟩ => .inl (Chunk.lt (S1.M.ok c hc) b hg))
  have hfits : ∀ T ∈ Ts1 ++ Ts2, T.fits := fun T hT => by
    rcases List.mem_append.1 hT with h | h
    · exact hf1 T h
    · exact (hp2 T h).fits
  have hTs : (Ts1 ++ Ts2).length ≤ 28 := by rw [← hll]; omega
  generalize (Ts1 ++ Ts2) = Ts at L4 hfits hTs
  have S4 : HS w No bh H1 [.own mv 27 32 mine.length (flatP mine)] w4 := HS.drop (N := [_]) (S1.beside N4)
  clear hL3 hsl2 hE2 hE1 N2 N3 N4 R4 S1 hfl hll
  refine ZL.val (r_assign rfl) rfl ?_; refine ZL.nil ?_; refine ZP.then ?_
  obtain ⟨tp, tc, rfl⟩ := L4.shape
  refine ZC.mid (X := HM) (fun _ => [(8, mv), (7, .pointer (some ⟨bh, 0, none⟩))]) (fun H w' => HS w No bh H [.own mv 27 32 mine.length (flatP mine)] w' ∧ FB H mine 70) ?_ ?_
  · refine ZC.seq ?_; refine ZC.region ?_; refine ZL.val (r_assign rfl) rfl ?_; refine ZL.nil ?_; refine ZP.then ?_; refine ZC.block ?_
    refine ZC.loop (X := Nat × HM) (fun x => [(14, .int .i64 x.1), (13, .slice tp Ts.length tc), (8, mv), (7, .pointer (some ⟨bh, 0, none⟩)), (2, .slice p2 acts.length c2)])
      (fun x w' => HS w No bh x.2 [.own mv 27 32 mine.length (flatP mine)] w' ∧ FB x.2 mine (5 + x.1) ∧ ListR TxE 4 w' (fpIn (x.2.chs bh ++ [.own mv 27 32 mine.length (flatP mine)])) (.slice tp Ts.length tc) Ts ∧ x.1 ≤ 60) (fun x => 60 - x.1) (0, H1) ⟨rfl, rfl, rfl, rfl, rfl, trivial⟩ ⟨S4, B1, L4, by omega⟩ ?_
    clear S4 B1 L4
    rintro ⟨i, H⟩ w2 ⟨S2, B2, L2, hi⟩
    simp only at S2 B2 L2 hi ⊢
    have out : ∀ (w' : World), w' = w2 → HS w No bh H [.own mv 27 32 mine.length (flatP mine)] w' ∧ FB H mine 70 := fun w' e => by
      subst e
      exact ⟨S2, B2.has, B2.n, B2.l, B2.few, by have := B2.plen; omega, B2.seq0, by have := B2.seq; omega⟩
    refine ZC.seq ?_; refine ZC.seq ?_; refine ZC.region ?_; refine ZL.val (r_move rfl) rfl ?_; refine ZL.val (r_move rfl) rfl ?_; refine ZL.val (r_lenSlice rfl) rfl ?_; refine ZL.val (r_lss rfl rfl) rfl ?_; refine ZL.val (r_move rfl) rfl ?_
    refine ZL.splitD 61 rfl (fun h1 => ?_) (fun h1 => ?_)
    rotate_left
    · refine ZL.skip rfl rfl rfl rfl ?_; refine ZL.skip rfl rfl rfl rfl ?_; refine ZL.val (r_pickF rfl rfl) rfl ?_; refine ZL.val (r_move rfl) rfl ?_; refine ZL.skip rfl rfl rfl rfl ?_; refine ZL.skip rfl rfl rfl rfl ?_; refine ZL.skip rfl rfl rfl rfl ?_; refine ZL.val (r_pickF rfl rfl) rfl ?_; refine ZL.nil ?_; refine ZP.then ?_; refine ZC.condF rfl ?_; refine ZC.exit ?_; refine ZP.thenX ?_; refine ZP.thenX ?_; refine ZP.blockE ?_
      exact ZP.mid H ⟨rfl, rfl, trivial⟩ (out _ rfl)
    refine ZL.on rfl rfl rfl ?_; refine ZL.val (r_move rfl) rfl ?_; refine ZL.on rfl rfl rfl ?_; refine ZL.val (r_lss rfl rfl) rfl ?_; refine ZL.val (r_pickT rfl rfl) rfl ?_; refine ZL.val (r_move rfl) rfl ?_
    refine ZL.splitD 65 rfl (fun h2 => ?_) (fun h2 => ?_)
    rotate_left
    · refine ZL.skip rfl rfl rfl rfl ?_; refine ZL.skip rfl rfl rfl rfl ?_; refine ZL.skip rfl rfl rfl rfl ?_; refine ZL.val (r_pickF rfl rfl) rfl ?_; refine ZL.nil ?_; refine ZP.then ?_; refine ZC.condF rfl ?_; refine ZC.exit ?_; refine ZP.thenX ?_; refine ZP.thenX ?_; refine ZP.blockE ?_
      exact ZP.mid H ⟨rfl, rfl, trivial⟩ (out _ rfl)
    refine ZL.on rfl rfl rfl ?_; refine ZL.val (r_move rfl) rfl ?_; refine ZL.on rfl rfl rfl ?_; refine ZL.val (r_lenSlice rfl) rfl ?_; refine ZL.on rfl rfl rfl ?_; refine ZL.val (r_gtr rfl rfl) rfl ?_; refine ZL.val (r_pickT rfl rfl) rfl ?_; refine ZL.nil ?_; refine ZP.then ?_
    refine ZC.condD rfl (fun h3 => ?_) (fun h3 => ?_)
    rotate_left
    · refine ZC.exit ?_; refine ZP.thenX ?_; refine ZP.thenX ?_; refine ZP.blockE ?_
      exact ZP.mid H ⟨rfl, rfl, trivial⟩ (out _ rfl)
    clear out
    have hia : i < acts.length := by omega
    have hi60 : i < 60 := by omega
    have hTpos : 0 < Ts.length := by omega
    obtain ⟨-, ba, oa, csa, ea, fza, rfl, hha0, hca⟩ := hA2.elem hia
    have hha := S2.M.ext.at hha0 (fun h => h)
    generalize hn : acts[i] = n at hca
    obtain ⟨q3, hq3, hq3e⟩ := iand_mask (n / 2 ^ (min ((3 : Int).toNat) IntKind.i64.bits)) 255 (by decide)
    obtain ⟨q7, hq7, hq7e⟩ := iand_mask n 7 (by decide)
    obtain ⟨qp, hqp, hqpe⟩ := iand_mask (n / 2 ^ (min ((11 : Int).toNat) IntKind.i64.bits)) 3 (by decide)
    have hrem : ((q3 : Int)).tmod ((Ts.length : Nat) : Int) = ((q3 % Ts.length : Nat) : Int) := by
      rw [Int.tmod_eq_emod_of_nonneg (by omega)]
      rfl
    have hji : q3 % Ts.length < Ts.length := Nat.mod_lt _ hTpos
    obtain ⟨g, o, cs, e, fz, iv, ov, rfl, hh, hsz, hext, hT, h1v, h2v⟩ := L2.txAt hji
    have hfT := hfits _ (List.getElem_mem hji)
    generalize hTi : Ts[q3 % Ts.length] = T at hT hext hfT
    refine ZC.skip ?_; refine ZP.then ?_; refine ZC.seq ?_; refine ZC.block ?_; refine ZC.seq ?_; refine ZC.region ?_; refine ZL.val (r_move rfl) rfl ?_; refine ZL.val (r_move rfl) rfl ?_; refine ZL.val (r_move rfl) rfl ?_
    refine ZL.val (r_idxS i rfl rfl rfl hia) rfl ?_
    rw [Nat.mul_one]
    refine ZL.val (r_load1 rfl hha hca) rfl ?_
    refine ZL.val (r_shr rfl rfl (by omega) rfl) rfl ?_
    refine ZL.val (r_and rfl rfl hq3e) rfl ?_
    refine ZL.val (r_move rfl) rfl ?_; refine ZL.val (r_lenSlice rfl) rfl ?_
    refine ZL.val (r_rem rfl rfl (by omega) hrem) rfl ?_
    refine ZL.val (r_idxS (q3 % Ts.length) rfl rfl rfl hji) rfl ?_
    refine ZL.val (r_loadN rfl hh hsz hext) rfl ?_
    refine ZL.alloc (Mem.start w2 No) rfl rfl (fun b15 w3 M3 => ?_)
    refine ZL.stW M3 rfl rfl (cs' := #[u32 T.version, iv, ov, u32 T.lock]) rfl (by rfl) (by rfl) (by simp only [List.all_cons, List.all_nil, h1v, h2v]; rfl) (fun w4 M4 => ?_)
    have S4 := S2.beside M4
    have L4 := L2.tx (Mv.besideH M4)
    have hT4 := hT.mv (Mv.besideH (A := H.chs bh) (L := [.own mv 27 32 mine.length (flatP mine)]) M4)
    have hha4 := M4.ext.at hha (fun h => h)
    clear M3 S2 L2 hT hh hsz hext hha
    refine ZL.nil ?_; refine ZP.then ?_; refine ZC.seq ?_; refine ZC.seq ?_; refine ZC.region ?_; refine ZL.val (r_move rfl) rfl ?_; refine ZL.val (r_move rfl) rfl ?_
    refine ZL.val (r_idxS i rfl rfl rfl hia) rfl ?_
    rw [Nat.mul_one]
    refine ZL.val (r_load1 rfl hha4 hca) rfl ?_
    refine ZL.val (r_and rfl rfl hq7e) rfl ?_
    refine ZL.val (r_eql rfl rfl) rfl ?_; refine ZL.nil ?_; refine ZP.then ?_
    refine ZC.condD rfl (fun hz => ?_) (fun hz => ?_)
    · refine ZC.seq ?_; refine ZC.region ?_; refine ZL.val (r_move rfl) rfl ?_; refine ZL.val (r_move rfl) rfl ?_; refine ZL.val (r_move rfl) rfl ?_
      refine ZL.val (r_idxS i rfl rfl rfl hia) rfl ?_
      rw [Nat.mul_one]
      refine ZL.val (r_load1 rfl hha4 hca) rfl ?_
      refine ZL.val (r_shr rfl rfl (by omega) rfl) rfl ?_
      refine ZL.val (r_and rfl rfl hqpe) rfl ?_
      refine ZL.call (r_call rfl) rfl (Gone_ok bh H qp _ w4 _ S4.rebase (by have := B2.plen; omega)) (fun v5 w5 ⟨H5, H5', ys5, Q5, R5, hp5, hl5, hs5⟩ => ?_)
      have B5 := B2.goes S4.ok (by omega) R5 hp5 hl5 hs5
      have L5 := L4.tx (Mv.fpf Q5.M)
      have S5 := S4.join Q5
      refine ZL.nil ?_; refine ZP.then ?_; refine ZC.exit ?_; refine ZP.thenX ?_; refine ZP.blockE ?_; refine ZP.then ?_; refine ZC.region ?_; refine ZL.val (r_move rfl) rfl ?_; refine ZL.val (r_add rfl rfl (wrap_i64 (by omega) (by omega))) rfl ?_; refine ZL.val (r_assign rfl) rfl ?_; refine ZL.nil ?_
      exact ZP.round (i + 1, H5') ⟨rfl, rfl, rfl, rfl, rfl, trivial⟩ ⟨HS.drop (N := [_, _]) S5, B5, L5.tx (fpIn.same fun c hc => by simp at hc ⊢; simp [hc]), by omega⟩ (by simp only; omega)
    refine ZC.skip ?_; refine ZP.then ?_; refine ZC.seq ?_
    have hb4 : w4.heap[b15]? = some (.cells #[u32 T.version, iv, ov, u32 T.lock] 33 (0, 0)) := M4.get inferInstance
    refine ZC.draw (fun w' => w'.heap[b15]? = some (.cells #[u32 T.version, iv, ov, u32 T.lock] 33 (0, 0)) ∧ w'.heap[ba]? = some (.cells csa ea fza)) rfl rfl (fun w5 E5 _ => ?_)
    have S5 := S4.ext E5
    have L5 := L4.tx (Mv.ext E5)
    have hT5 := hT4.mv (Mv.ext E5)
    have Z5 : w5.heap[b15]? = some (.cells #[u32 T.version, iv, ov, u32 T.lock] 33 (0, 0)) ∧ w5.heap[ba]? = some (.cells csa ea fza) := ⟨E5.at hb4 (fun h => h), E5.at hha4 (fun h => h)⟩
    refine ZA.take 0 rfl (fun w' hS' => by first | exact r_move rfl | exact r_assign rfl | exact r_fieldAddr rfl | exact r_sliceArr rfl | exact r_addU rfl rfl | exact r_xorU rfl rfl | exact r_orU rfl rfl | exact r_andU rfl rfl | exact r_complU rfl | exact r_convU rfl | exact r_ldS hS' rfl (by rfl) | exact r_nilCheck rfl | exact r_extract rfl rfl | exact r_lenSlice rfl) (by kernel_rfl) (by kernel_rfl) (by kernel_rfl) rfl rfl (fun _ _ _ _ h => h) Z5 ?_
    refine ZA.take 1 rfl (fun w' hS' => r_loadW rfl hS'.1 rfl) (by kernel_rfl) (by kernel_rfl) (by kernel_rfl) rfl rfl (fun _ _ _ _ h => h) Z5 ?_
    refine ZA.take 2 rfl (fun w' hS' => by first | exact r_move rfl | exact r_assign rfl | exact r_fieldAddr rfl | exact r_sliceArr rfl | exact r_addU rfl rfl | exact r_xorU rfl rfl | exact r_orU rfl rfl | exact r_andU rfl rfl | exact r_complU rfl | exact r_convU rfl | exact r_ldS hS' rfl (by rfl) | exact r_nilCheck rfl | exact r_extract rfl rfl | exact r_lenSlice rfl) (by kernel_rfl) (by kernel_rfl) (by kernel_rfl) rfl rfl (fun _ _ _ _ h => h) Z5 ?_
    refine ZA.take 3 rfl (fun w' hS' => by first | exact r_move rfl | exact r_assign rfl | exact r_fieldAddr rfl | exact r_sliceArr rfl | exact r_addU rfl rfl | exact r_xorU rfl rfl | exact r_orU rfl rfl | exact r_andU rfl rfl | exact r_complU rfl | exact r_convU rfl | exact r_ldS hS' rfl (by rfl) | exact r_nilCheck rfl | exact r_extract rfl rfl | exact r_lenSlice rfl) (by kernel_rfl) (by kernel_rfl) (by kernel_rfl) rfl rfl (fun _ _ _ _ h => h) Z5 ?_
    refine ZA.take 4 rfl (fun w' hS' => (r_idxS i rfl rfl rfl hia).eq (v' := .pointer (some ⟨ba, oa + i, none⟩)) (by rw [Nat.mul_one])) (by kernel_rfl) (by kernel_rfl) (by kernel_rfl) rfl rfl (fun _ _ _ _ h => h) Z5 ?_
    refine ZA.take 5 rfl (fun w' hS' => r_load1 rfl hS'.2 hca) (by kernel_rfl) (by kernel_rfl) (by kernel_rfl) rfl rfl (fun _ _ _ _ h => h) Z5 ?_
    refine ZA.take 6 rfl (fun w' hS' => r_shr rfl rfl (by omega) rfl) (by kernel_rfl) (by kernel_rfl) (by kernel_rfl) rfl rfl (fun _ _ _ _ h => h) Z5 ?_
    refine ZA.take 7 rfl (fun w' hS' => r_and rfl rfl hqpe) (by kernel_rfl) (by kernel_rfl) (by kernel_rfl) rfl rfl (fun _ _ _ _ h => h) Z5 ?_
    refine ZA.take 8 rfl (fun w' hS' => by first | exact r_move rfl | exact r_assign rfl | exact r_fieldAddr rfl | exact r_sliceArr rfl | exact r_addU rfl rfl | exact r_xorU rfl rfl | exact r_orU rfl rfl | exact r_andU rfl rfl | exact r_complU rfl | exact r_convU rfl | exact r_ldS hS' rfl (by rfl) | exact r_nilCheck rfl | exact r_extract rfl rfl | exact r_lenSlice rfl) (by kernel_rfl) (by kernel_rfl) (by kernel_rfl) rfl rfl (fun _ _ _ _ h => h) Z5 ?_
    refine ZA.take 9 rfl (fun w' hS' => r_add rfl rfl (wrap_i64 (by omega) (by omega))) (by kernel_rfl) (by kernel_rfl) (by kernel_rfl) rfl rfl (fun _ _ _ _ h => h) Z5 ?_
    refine ZA.one 10 (by kernel_rfl) rfl rfl ?_
    refine ZL.call (r_call rfl) rfl (Add_ok bh H _ T qp _ _ w5 (hG.ext S5.M.ext) S5.rebase hT5 hfT B2.seq0 (by have := B2.seq; omega) (by have := B2.few qp; omega)) (fun v6 w6 ⟨H6, gv6, gone6, ok6, hv, Q6, hA6⟩ => ?_)
    subst hv
    obtain ⟨B6, hgn⟩ := B2.add S5.ok (by omega) hA6
    have L6 := L5.tx (Mv.fpf Q6.M)
    have S6 := S5.join Q6
    have Z6 : w6.heap[b15]? = some (.cells #[u32 T.version, iv, ov, u32 T.lock] 33 (0, 0)) ∧ w6.heap[ba]? = some (.cells csa ea fza) := ⟨S6.M.ok (.blk b15 (.cells #[u32 T.version, iv, ov, u32 T.lock] 33)) (by simp), S6.M.ext.at hha0 (fun h => h)⟩
    have O6 := (HS.front (N := [_]) S6).1.own
    obtain ⟨pg, cg, rfl⟩ := O6.shape
    clear S4 L4 S5 L5 Z5 hT4 hT5 M4 hb4 hha4 Q6 hA6
    refine ZL.nil (ZP.any Z6 ?_)
    refine ZA.take 11 rfl (fun w' hS' => by first | exact r_move rfl | exact r_assign rfl | exact r_fieldAddr rfl | exact r_sliceArr rfl | exact r_addU rfl rfl | exact r_xorU rfl rfl | exact r_orU rfl rfl | exact r_andU rfl rfl | exact r_complU rfl | exact r_convU rfl | exact r_ldS hS' rfl (by rfl) | exact r_nilCheck rfl | exact r_extract rfl rfl | exact r_lenSlice rfl) (by kernel_rfl) (by kernel_rfl) (by kernel_rfl) rfl rfl (fun _ _ _ _ h => h) Z6 ?_
    refine ZA.take 12 rfl (fun w' hS' => by first | exact r_move rfl | exact r_assign rfl | exact r_fieldAddr rfl | exact r_sliceArr rfl | exact r_addU rfl rfl | exact r_xorU rfl rfl | exact r_orU rfl rfl | exact r_andU rfl rfl | exact r_complU rfl | exact r_convU rfl | exact r_ldS hS' rfl (by rfl) | exact r_nilCheck rfl | exact r_extract rfl rfl | exact r_lenSlice rfl) (by kernel_rfl) (by kernel_rfl) (by kernel_rfl) rfl rfl (fun _ _ _ _ h => h) Z6 ?_
    refine ZA.take 14 rfl (fun w' hS' => by first | exact r_move rfl | exact r_assign rfl | exact r_fieldAddr rfl | exact r_sliceArr rfl | exact r_addU rfl rfl | exact r_xorU rfl rfl | exact r_orU rfl rfl | exact r_andU rfl rfl | exact r_complU rfl | exact r_convU rfl | exact r_ldS hS' rfl (by rfl) | exact r_nilCheck rfl | exact r_extract rfl rfl | exact r_lenSlice rfl) (by kernel_rfl) (by kernel_rfl) (by kernel_rfl) rfl rfl (fun _ _ _ _ h => h) Z6 ?_
    refine ZA.take 13 rfl (fun w' hS' => by first | exact r_move rfl | exact r_assign rfl | exact r_fieldAddr rfl | exact r_sliceArr rfl | exact r_addU rfl rfl | exact r_xorU rfl rfl | exact r_orU rfl rfl | exact r_andU rfl rfl | exact r_complU rfl | exact r_convU rfl | exact r_ldS hS' rfl (by rfl) | exact r_nilCheck rfl | exact r_extract rfl rfl | exact r_lenSlice rfl) (by kernel_rfl) (by kernel_rfl) (by kernel_rfl) rfl rfl (fun _ _ _ _ h => h) Z6 ?_
    refine ZA.take 15 rfl (fun w' hS' => by first | exact r_move rfl | exact r_assign rfl | exact r_fieldAddr rfl | exact r_sliceArr rfl | exact r_addU rfl rfl | exact r_xorU rfl rfl | exact r_orU rfl rfl | exact r_andU rfl rfl | exact r_complU rfl | exact r_convU rfl | exact r_ldS hS' rfl (by rfl) | exact r_nilCheck rfl | exact r_extract rfl rfl | exact r_lenSlice rfl) (by kernel_rfl) (by kernel_rfl) (by kernel_rfl) rfl rfl (fun _ _ _ _ h => h) Z6 ?_
    refine ZA.done (by kernel_rfl) ?_
    refine ZP.then ?_; refine ZC.seq ?_; refine ZC.region ?_; refine ZL.val (r_move rfl) rfl ?_; refine ZL.val (r_lenSlice rfl) rfl ?_; refine ZL.val (r_move rfl) rfl ?_; refine ZL.nil ?_; refine ZP.then ?_; refine ZC.block ?_
    have hgc := (O6.slc (X := No) (fun _ _ h => h)).le
    refine ZC.loop (X := Nat) (fun k => [(114, .int .i64 k), (113, .int .i64 (gone6.length : Int)), (112, .slice pg gone6.length cg), (14, .int .i64 i), (13, .slice (some ⟨g, o, none⟩) Ts.length tc), (8, mv), (7, .pointer (some ⟨bh, 0, none⟩)), (2, .slice (some ⟨ba, oa, none⟩) acts.length c2)])
      (fun k w' => Ext w6 w' ∧ k ≤ gone6.length) (fun k => gone6.length - k) 0 ⟨rfl, rfl, rfl, rfl, rfl, rfl, rfl, rfl, trivial⟩ ⟨ExtX.refl _ _, Nat.zero_le _⟩ ?_
    rintro k w7 ⟨E7, hk⟩
    refine ZC.seq ?_; refine ZC.region ?_; refine ZL.val (r_lss rfl rfl) rfl ?_; refine ZL.nil ?_; refine ZP.then ?_; refine ZC.seq ?_
    refine ZC.condD rfl (fun hc => ?_) (fun hc => ?_)
    · have hk' : k < gone6.length := by omega
      have S7 := S6.ext E7
      have M7 := (HS.front (N := [_, _, _]) S7).1
      simp only [List.cons_append, List.nil_append] at M7
      have O7 := M7.own
      have OM : OwnR w7 27 32 mv mine.length (flatP mine) := M7.ok (.own mv 27 32 mine.length (flatP mine)) (by simp)
      obtain ⟨g7, o7, cs7, e7, fz7, r7, rfl, hh7, -, -, hE7, -, hsz7, hext7⟩ := ListR.elem (by decide) (ids_list (O7.slc (X := No) (fun _ _ h => h)) rfl) hk'
      rw [show r7 = gone6[k].cells from hE7] at hext7
      refine ZC.skip ?_; refine ZP.then ?_; refine ZC.seq ?_; refine ZC.block ?_; refine ZC.seq ?_; refine ZC.region ?_
      refine ZL.val (r_idxS k rfl rfl rfl hk') rfl ?_
      refine ZL.val (r_loadN rfl hh7 hsz7 hext7) rfl ?_
      refine ZL.alloc (Mem.start w7 No) rfl rfl (fun b19 w8 M8 => ?_)
      refine ZL.stW M8 rfl rfl (cs' := gone6[k].cells.toArray) rfl (by simp) (B32.size _) (B32.one _) (fun w9 M9 => ?_)
      refine ZL.nil ?_; refine ZP.then ?_; refine ZC.seq ?_; refine ZC.region ?_; refine ZL.val (r_move rfl) rfl ?_
      refine ZL.val (r_ldW M9 rfl (B32.size _)) rfl ?_
      refine ZL.call (r_call rfl) rfl (Has_ok mv mine gone6[k] w9 No ((OM.slc (X := No) (fun _ _ h => h)).mv (Mv.ext M9.ext)) (by omega)) (fun v10 w10 ⟨E10, hv⟩ => ?_)
      subst hv
      refine ZL.nil ?_; refine ZP.then ?_
      refine ZC.condD rfl (fun hd => absurd hd (hgn _ (List.getElem_mem hk'))) (fun hd => ?_)
      refine ZC.skip ?_; refine ZP.blockN ?_; refine ZP.then ?_; refine ZC.region ?_; refine ZL.val (r_add rfl rfl (wrap_i64 (by omega) (by omega))) rfl ?_; refine ZL.val (r_move rfl) rfl ?_; refine ZL.nil ?_
      exact ZP.round (k + 1) ⟨rfl, rfl, rfl, rfl, rfl, rfl, rfl, rfl, trivial⟩ ⟨ExtX.trans (ExtX.trans E7 M9.ext (fun _ h => h) (fun _ _ h => h)) E10 (fun _ h => h) (fun _ _ h => h), by omega⟩ (by omega)
    · refine ZC.exit ?_; refine ZP.thenX ?_; refine ZP.thenX ?_; refine ZP.blockE ?_; refine ZP.blockN ?_; refine ZP.then ?_; refine ZC.region ?_; refine ZL.val (r_move rfl) rfl ?_; refine ZL.val (r_add rfl rfl (wrap_i64 (by omega) (by omega))) rfl ?_; refine ZL.val (r_assign rfl) rfl ?_; refine ZL.nil ?_
      exact ZP.round (i + 1, H6) ⟨rfl, rfl, rfl, rfl, rfl, trivial⟩ ⟨HS.drop (N := [_, _]) (S6.ext E7), B6, (L6.tx (Mv.ext E7)).tx (fpIn.same fun c hc => by simp at hc ⊢; simp [hc]), by omega⟩ (by simp only; omega)
  clear S4 L4 B1 hfits
  rintro H w1 ⟨S1, B1⟩
  have O1 : OwnR w1 27 32 mv mine.length (flatP mine) := S1.M.ok (.own mv 27 32 mine.length (flatP mine)) (by simp)
  obtain ⟨pm, cm, rfl⟩ := O1.shape
  refine ZC.seq ?_; refine ZC.seq ?_; refine ZC.region ?_; refine ZL.val (r_move rfl) rfl ?_; refine ZL.val (r_lenSlice rfl) rfl ?_; refine ZL.val (r_move rfl) rfl ?_; refine ZL.nil ?_; refine ZP.then ?_; refine ZC.block ?_
  refine ZC.loop (X := Nat) (fun k => [(124, .int .i64 k), (123, .int .i64 (mine.length : Int)), (122, .slice pm mine.length cm), (8, .slice pm mine.length cm), (7, .pointer (some ⟨bh, 0, none⟩))])
    (fun k w' => Ext w1 w' ∧ k ≤ mine.length) (fun k => mine.length - k) 0 ⟨rfl, rfl, rfl, rfl, rfl, trivial⟩ ⟨ExtX.refl _ _, Nat.zero_le _⟩ ?_
  rintro k w2 ⟨E2, hk⟩
  have S2 := S1.ext E2
  refine ZC.seq ?_; refine ZC.region ?_; refine ZL.val (r_lss rfl rfl) rfl ?_; refine ZL.nil ?_; refine ZP.then ?_; refine ZC.seq ?_
  refine ZC.condD rfl (fun hc => ?_) (fun hc => ?_)
  · have hk' : k < mine.length := by omega
    have O2 : OwnR w2 27 32 (.slice pm mine.length cm) mine.length (flatP mine) := S2.M.ok (.own (.slice pm mine.length cm) 27 32 mine.length (flatP mine)) (by simp)
    obtain ⟨g7, o7, cs7, e7, fz7, r7, rfl, hh7, -, -, hE7, -, hsz7, hext7⟩ := ListR.elem (by decide) (ids_list (O2.slc (X := No) (fun _ _ h => h)) rfl) hk'
    rw [show r7 = mine[k].cells from hE7] at hext7
    refine ZC.skip ?_; refine ZP.then ?_; refine ZC.seq ?_; refine ZC.block ?_; refine ZC.seq ?_; refine ZC.region ?_
    refine ZL.val (r_idxS k rfl rfl rfl hk') rfl ?_
    refine ZL.val (r_loadN rfl hh7 hsz7 hext7) rfl ?_
    refine ZL.alloc (Mem.start w2 No) rfl rfl (fun b21 w3 M3 => ?_)
    refine ZL.stW M3 rfl rfl (cs' := mine[k].cells.toArray) rfl (by simp) (B32.size _) (B32.one _) (fun w4 M4 => ?_)
    refine ZL.nil ?_; refine ZP.then ?_; refine ZC.seq ?_; refine ZC.region ?_; refine ZL.val (r_move rfl) rfl ?_
    refine ZL.val (r_ldW M4 rfl (B32.size _)) rfl ?_
    have hGet := Get_ok bh H mine[k] w4 (S2.ext M4.ext).home
    rw [B1.l _ (List.getElem_mem hk')] at hGet
    refine ZL.call (r_call rfl) rfl hGet (fun v5 w5 ⟨E5, tv, hv, hT5⟩ => ?_)
    subst hv
    obtain ⟨iv5, ov5, rfl, h15, h25⟩ := hT5.v
    have M5 := M4.ext' E5
    refine ZL.val (r_move rfl) rfl ?_; refine ZL.val (r_extract rfl rfl) rfl ?_; refine ZL.val (r_extract rfl rfl) rfl ?_
    refine ZL.alloc M5 rfl rfl (fun b22 w6 M6 => ?_)
    refine ZL.stW M6 rfl rfl (cs' := #[u32 (H.tx mine[k]).2.version, iv5, ov5, u32 (H.tx mine[k]).2.lock]) rfl (by rfl) (by rfl) (by simp only [List.all_cons, List.all_nil, h15, h25]; rfl) (fun w7 M7 => ?_)
    refine ZL.val (r_assign rfl) rfl ?_; refine ZL.nil ?_; refine ZP.then ?_; refine ZC.seq ?_; refine ZC.region ?_; refine ZL.val (r_move rfl) rfl ?_; refine ZL.val (r_not rfl) rfl ?_; refine ZL.nil ?_; refine ZP.then ?_; refine ZC.condF rfl ?_; refine ZC.skip ?_; refine ZP.blockN ?_; refine ZP.then ?_; refine ZC.region ?_; refine ZL.val (r_add rfl rfl (wrap_i64 (by omega) (by omega))) rfl ?_; refine ZL.val (r_move rfl) rfl ?_; refine ZL.nil ?_
    exact ZP.round (k + 1) ⟨rfl, rfl, rfl, rfl, rfl, trivial⟩ ⟨ExtX.trans E2 M7.ext (fun _ h => h) (fun _ _ h => h), by omega⟩ (by omega)
  · refine ZC.exit ?_; refine ZP.thenX ?_; refine ZP.thenX ?_; refine ZP.blockE ?_; refine ZP.then ?_; refine ZC.seq ?_; refine ZC.region ?_; refine ZL.val (r_move rfl) rfl ?_
    have hU := Used_ok bh H 7 w2 S2.home
    rw [B1.n] at hU
    refine ZL.call (r_call rfl) rfl hU (fun v3 w3 ⟨E3, hv⟩ => ?_)
    subst hv
    have S3 := S2.ext E3
    refine ZL.val (r_move rfl) rfl ?_; refine ZL.val (r_extract rfl rfl) rfl ?_; refine ZL.val (r_extract rfl rfl) rfl ?_; refine ZL.val (r_assign rfl) rfl ?_; refine ZL.val (r_assign rfl) rfl ?_; refine ZL.nil ?_; refine ZP.then ?_; refine ZC.seq ?_; refine ZC.region ?_; refine ZL.val (r_move rfl) rfl ?_; refine ZL.val (r_move rfl) rfl ?_; refine ZL.val (r_lenSlice rfl) rfl ?_; refine ZL.val (r_eql rfl rfl) rfl ?_; refine ZL.val (r_move rfl) rfl ?_
    refine ZL.splitD 146 rfl (fun _ => ?_) (fun h => absurd rfl h)
    refine ZL.on rfl rfl rfl ?_
    refine ZL.call (r_call rfl) rfl (awake_ok w3 (hG.ext S3.M.ext)) (fun v4 w4 ⟨E4, hv⟩ => ?_)
    subst hv
    refine ZL.val (r_pickT rfl rfl) rfl ?_; refine ZL.val (r_assign rfl) rfl ?_; refine ZL.nil ?_; refine ZP.then ?_; refine ZC.ret ?_
    exact ZP.ret1 rfl rfl ⟨ExtX.trans S3.M.ext E4 (fun _ h => h) (fun _ _ h => h), rfl⟩
end Go.Proofs.YtibobcjfjnoclaaGreatDoor.Z
end
section
/- OrphFair's card: for every three slices of integers the law answers true and leaves the slices as they were. Conditions: none beyond the row's own (the two tables of shas hold what the program's text lays). -/
set_option linter.unusedVariables false
set_option linter.unusedSimpArgs false
set_option maxRecDepth 100000
namespace Go.Proofs.YtibobcjfjnoclaaGreatDoor.orphFair
open Go Go.RowKit Go.ChangeShapes Go.WideShapes Go.ChangeAt Go.Proofs.YtibobcjfjnoclaaGreatDoor.Z

theorem contract (H : Type) (enc : TypeId × Value → H) (W : World) (base : Nat) (args : Array Value) (ds gs : List (DataW H)) (before : List MemPlace)
    (hval : ∀ (j : Nat) t v, Tryz.f4.params[j]? = some t → args[j]? = some v → Value.okWide Tryz.prog W .any base t v)
    (hW : DataW.Whole enc Tryz.prog Tryz.f4.params.toList Rows.orphFairSpec.vars false W args.toList ds gs before) (hL : laidMetH Tryz.prog Rows.orphFairRow.laid W) :
    Calls Tryz.prog 4 args W fun e W' => ∃ v, e = .returned v ∧ Rows.orphFairSpec.post enc Tryz.prog Tryz.f4 false true false false W args v W' := by
  have hW' := hW
  obtain ⟨p, q, hA0, hV, rfl, hfz, hnd⟩ := hW
  have hA : DataW.TrodAll enc Tryz.prog W 0 (fun _ => true) true Tryz.f4.params.toList args.toList ds p := hA0
  rw [Tryz.params4] at hA hval
  obtain ⟨v0, vs0, d0, ds0, p0, q0, hargs, rfl, rfl, h0, r0⟩ := trodAll_cons hA
  obtain ⟨v1, vs1, d1, ds1, p1, q1, rfl, rfl, rfl, h1, r1⟩ := trodAll_cons r0
  obtain ⟨v2, vs2, d2, ds2, p2, q2, rfl, rfl, rfl, h2, r2⟩ := trodAll_cons r1
  obtain ⟨rfl, rfl, rfl⟩ := trodAll_nil r2
  obtain rfl : args = #[v0, v1, v2] := by cases args; simp_all
  obtain ⟨rfl, rfl⟩ := trodVars_none hV
  obtain ⟨l0, hI0, hback0⟩ := argInts (hval 0 22 v0 rfl rfl) h0
  obtain ⟨l1, hI1, hback1⟩ := argInts (hval 1 22 v1 rfl rfl) h1
  obtain ⟨l2, hI2, hback2⟩ := argInts (hval 2 22 v2 rfl rfl) h2
  clear hA0
  simp only [List.append_nil, List.nil_append] at hW'
  refine (OrphFair_ok v0 l0 v1 l1 v2 l2 W (gw_of_laid hL) hI0 hI1 hI2).h.mono fun e W' ⟨v, he, hE, hv⟩ => ?_
  subst he hv
  exact ⟨_, rfl, postE (pa := p0 ++ (p1 ++ (p2))) (pv := []) hW' (fun _ _ _ => trodAll_cons_mk (shut_bool u4 _) trodAll_mk0) (fun sp hsp => by have := trodAll_cons_mk (hback0 W' hE sp (fun q hq => hsp q (by simp [hq]))) (trodAll_cons_mk (hback1 W' hE sp (fun q hq => hsp q (by simp [hq]))) (trodAll_cons_mk (hback2 W' hE sp (fun q hq => hsp q (by simp [hq]))) trodAll_mk0)); simp only [List.append_nil, List.nil_append] at this; exact this) (fun _ _ => rfl) (by simp) hE⟩

theorem laid_met (os : Os) : laidMet Tryz.prog Rows.orphFairRow.laid ((laidWorld os).forCall (fun _ _ => 0) ⟨#[], #[.slice none 0 0, .slice none 0 0, .slice none 0 0], []⟩).memory :=
  laidMet_of_run' 8 (by kernel_rfl) (by kernel_rfl)
theorem reads (os : Os) {H : Type} (enc : TypeId × Value → H) : ∃ places, DataW.whole enc Tryz.prog ((laidWorld os).forCall (fun _ _ => 0) ⟨#[], #[.slice none 0 0, .slice none 0 0, .slice none 0 0], []⟩).memory Tryz.f4.params.toList Rows.orphFairSpec.vars false #[Value.slice none 0 0, .slice none 0 0, .slice none 0 0].toList 8 = some ([.nil, .nil, .nil], [], places) :=
  ⟨[], by kernel_rfl⟩

theorem lifted (os : Os) (started : os.Started) (H : Type) (enc : TypeId × Value → H) (F : Stop.Interp) :
    ReturnsInHanded {} Tryz.checked os 4 .any ((OpenSpec.ofChange Rows.orphFairSpec).preRow enc Tryz.prog Tryz.f4 Rows.orphFairRow.domain false Rows.orphFairRow.laid) (((OpenSpec.ofChange Rows.orphFairSpec).at F).post enc Tryz.prog Tryz.f4 false true false false) := by
  obtain ⟨places, hx⟩ := reads os enc
  refine returnsInHanded_of_row (C := Tryz.checked) (s := OpenSpec.ofChange Rows.orphFairSpec) own started (by kernel_rfl) Tryz.func4
    (witness_row_at (enc := enc) (C := Tryz.checked) false (laidWorld os) #[.slice none 0 0, .slice none 0 0, .slice none 0 0] rfl (by kernel_rfl) (by kernel_rfl) (by kernel_rfl)
      (OpenSpec.preRow_of_cond 8 hx (by kernel_rfl) (fun k hk => by cases hk) (by kernel_rfl) (laid_met os))) ?_
  intro W base args ds gs before hval hW _ _ _ hL _ _
  exact contract H enc W base args ds gs before hval hW hL

theorem said : Rows.OrphFairSaid :=
  OpenClaim.holds_of_cond 4 Tryz.f4 rfl rfl rfl rfl rfl rfl rfl ⟨rfl, rfl, rfl, rfl, rfl⟩ rfl rfl rfl rfl rfl (by kernel_rfl) Tryz.func4 (by kernel_rfl)
    (of_decide_eq_true (by kernel_rfl)) (by unfold Func.isWrapper; first | (rw [if_pos (by decide +kernel)]; kernel_rfl) | (rw [if_neg (by decide +kernel)]; exact ⟨rfl, rfl⟩))
    (fun os started H enc _ F => by rw [OpenClaim.pre_eq_preRow]; exact lifted os started H enc F)

theorem plain (f : FuncId) (fn : Func) (hf : Tryz.pinned.checked.prog.funcNamed "lighterage/lighteragelaw25.OrphFair" = some f) (hfn : Tryz.pinned.checked.prog.funcs[f]? = some fn) :
    false = Tryz.pinned.checked.prog.looks [] ∧ ∀ (j : Nat) t, fn.params[j]? = some t → Tryz.pinned.checked.prog.wantsStandIn t = false := by
  obtain rfl : f = 4 := Option.some.inj ((show Tryz.prog.funcNamed "lighterage/lighteragelaw25.OrphFair" = some 4 by kernel_rfl).symm.trans hf) |>.symm
  obtain rfl : fn = Tryz.f4 := (Option.some.inj (Tryz.func4.symm.trans hfn)).symm
  refine ⟨by kernel_rfl, fun j t ht => ?_⟩
  rw [Tryz.params4] at ht
  obtain rfl : t = 22 := by have := Array.mem_of_getElem? ht; simpa using this
  exact (show Tryz.prog.wantsStandIn 22 = false by kernel_rfl)

theorem card : Rows.OrphFairCardSaid :=
  Claim7.holds_tied_plain_at .later [] _ _ _ _ said (fun _ h => by cases h) (by kernel_rfl) (fun _ h => by cases h) orphFair_row_tie rfl ⟨rfl, rfl⟩ (by kernel_rfl) rfl plain (by kernel_rfl)
#print axioms card
end Go.Proofs.YtibobcjfjnoclaaGreatDoor.orphFair
end
