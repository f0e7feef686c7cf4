/- Parts of one proof, laid one behind the other: Bytes, Key, Map, Tx, Zeros, May. -/
import Derived.Test.YtibobcjfjnoclaaGreatDoorPk0
section
/- Bytes: what a slice of bytes reads as; the package wire's small words; the slices' Clip and Clone. -/
set_option linter.unusedVariables false
set_option linter.unusedSimpArgs false
set_option maxRecDepth 100000
set_option maxHeartbeats 4000000
namespace Go.Proofs.YtibobcjfjnoclaaGreatDoor.Z
open Go Go.RowKit

def u8 (b : UInt8) : Value := .int .u8 b.toNat
abbrev BytesR (w : World) (X : Nat → Prop) (v : Value) (l : List UInt8) : Prop := SlC w X 1 v l.length (l.map u8)
abbrev BytesO (w w' : World) (v : Value) (l : List UInt8) : Prop := NewO w w' 5 1 v l.length (l.map u8)

theorem u8_one (l : List UInt8) : ∀ x ∈ l.map u8, x.oneCell' = true := by
  intro x hx; obtain ⟨b, _, rfl⟩ := List.mem_map.1 hx; rfl

theorem OwnR.bytes {w : World} {e n : Nat} {v : Value} {xs : List Value} {l : List UInt8} (h : OwnR w e 1 v n xs) (hn : n = l.length) (hx : xs = l.map u8) : BytesR w No v l := by
  subst hn; subst hx; exact h.slc (fun _ _ h => h)
theorem Mem.og {w0 w : World} {X : Nat → Prop} {L : List Chunk} {v : Value} {e s n : Nat} {xs : List Value} (h : Mem w0 X L w) (i : OwnIn L v e s n xs) : OwnR w e s v n xs := h.ok _ i.h
theorem OwnR.shape {w : World} {e s n : Nat} {v : Value} {xs : List Value} (h : OwnR w e s v n xs) : ∃ p c, v = .slice p n c := by
  rcases h.2 with ⟨rfl, rfl⟩ | ⟨g, cap, cur, rfl, _⟩ <;> exact ⟨_, _, rfl⟩
/-- A slice that is cut to its length. -/
theorem OwnR.clip {w : World} {e s n c : Nat} {p : Option Addr} {xs : List Value} (h : OwnR w e s (.slice p n c) n xs) : OwnR w e s (.slice p n n) n xs ∧ n ≤ c := by
  obtain ⟨h1, h2⟩ := h
  rcases h2 with ⟨hv, rfl⟩ | ⟨g, cap, cur, hv, hg, hc, hm, hs, ht⟩
  · simp only [Value.slice.injEq] at hv; obtain ⟨rfl, _, rfl⟩ := hv; exact ⟨⟨h1, .inl ⟨rfl, rfl⟩⟩, Nat.le_refl _⟩
  · simp only [Value.slice.injEq] at hv
    obtain ⟨rfl, _, rfl⟩ := hv
    exact ⟨⟨h1, .inr ⟨g, n, cur, rfl, hg, Nat.le_refl _, by omega, Nat.le_trans (Nat.mul_le_mul_right _ hc) hs, ht⟩⟩, hc⟩

theorem clip_ok (v : Value) (e s n : Nat) (xs : List Value) (w : World) (h : OwnR w e s v n xs) :
    Ret P 97 #[v] w (fun r w' => w = w' ∧ OwnR w e s r n xs ∧ r.ownBlock = v.ownBlock) := by
  obtain ⟨p, c, rfl⟩ := h.shape
  obtain ⟨h1, h2⟩ := h.clip
  refine Ret.enter1 Tryz.func97 rfl Tryz.ntmps97 rfl ?_
  repeat (first | (first | refine ZC.seq ?_ | refine ZC.region ?_ | refine ZC.skip ?_ | refine ZC.ret ?_ | refine ZC.exit ?_ | refine ZC.block ?_ | refine ZL.nil ?_ | refine ZP.thenX ?_ | refine ZP.thenR ?_ | refine ZP.blockN ?_ | refine ZP.blockR ?_ | refine ZP.blockE ?_ | refine ZP.blockX rfl ?_ | refine ZP.then ?_) | (first | refine ZL.val (r_move rfl) rfl ?_ | refine ZL.val (r_assign rfl) rfl ?_ | refine ZL.val (r_fieldAddr rfl) rfl ?_ | refine ZL.val (r_add rfl rfl (wrap_i64 (by omega) (by omega))) rfl ?_ | refine ZL.val (r_sub rfl rfl (wrap_i64 (by omega) (by omega))) rfl ?_ | refine ZL.val (r_mul rfl rfl (wrap_i64 (by omega) (by omega))) rfl ?_  | refine ZL.val (r_lss rfl rfl) rfl ?_ | refine ZL.val (r_leq rfl rfl) rfl ?_ | refine ZL.val (r_gtr rfl rfl) rfl ?_ | refine ZL.val (r_geq rfl rfl) rfl ?_ | refine ZL.val (r_eql rfl rfl) rfl ?_ | refine ZL.val (r_neq rfl rfl) rfl ?_ | refine ZL.val (r_not rfl) rfl ?_  | refine ZL.val (r_lenSlice rfl) rfl ?_ | refine ZL.val (r_lenString rfl) rfl ?_ | refine ZL.val (r_extract rfl rfl) rfl ?_ | refine ZL.val (r_nilCheck rfl) rfl ?_ | refine ZL.val (r_makeFunc rfl rfl) rfl ?_ | refine ZL.val (r_eqlPtrNil rfl rfl) rfl ?_ | refine ZL.val (r_pickT rfl rfl) rfl ?_ | refine ZL.val (r_pickF rfl rfl) rfl ?_  | refine ZL.val (r_eqlSliceNil rfl rfl) rfl ?_ | refine ZL.val (r_max rfl rfl (Int.max_eq_left (by omega))) rfl ?_ | refine ZL.val (r_max rfl rfl (Int.max_eq_right (by omega))) rfl ?_ | refine ZL.val (r_min rfl rfl (Int.min_eq_left (by omega))) rfl ?_ | refine ZL.val (r_min rfl rfl (Int.min_eq_right (by omega))) rfl ?_  | refine ZL.skip rfl rfl rfl rfl ?_ | refine ZL.on rfl rfl rfl ?_  | refine ZL.val (r_convInt rfl (wrap_i64 (by omega) (by omega))) rfl ?_ | refine ZL.val (r_convInt rfl (wrap_u64 (by omega) (by omega))) rfl ?_ | refine ZL.val (r_convInt rfl (wrap_u32 (by omega) (by omega))) rfl ?_ | refine ZL.val (r_convInt rfl (wrap_u8 (by omega) (by omega))) rfl ?_))
  refine ZL.val (r_slice3 rfl rfl rfl (by omega) (by omega) (by omega)) rfl ?_
  repeat (first | (first | refine ZC.seq ?_ | refine ZC.region ?_ | refine ZC.skip ?_ | refine ZC.ret ?_ | refine ZC.exit ?_ | refine ZC.block ?_ | refine ZL.nil ?_ | refine ZP.thenX ?_ | refine ZP.thenR ?_ | refine ZP.blockN ?_ | refine ZP.blockR ?_ | refine ZP.blockE ?_ | refine ZP.blockX rfl ?_ | refine ZP.then ?_) | (first | refine ZL.val (r_move rfl) rfl ?_ | refine ZL.val (r_assign rfl) rfl ?_ | refine ZL.val (r_fieldAddr rfl) rfl ?_ | refine ZL.val (r_add rfl rfl (wrap_i64 (by omega) (by omega))) rfl ?_ | refine ZL.val (r_sub rfl rfl (wrap_i64 (by omega) (by omega))) rfl ?_ | refine ZL.val (r_mul rfl rfl (wrap_i64 (by omega) (by omega))) rfl ?_  | refine ZL.val (r_lss rfl rfl) rfl ?_ | refine ZL.val (r_leq rfl rfl) rfl ?_ | refine ZL.val (r_gtr rfl rfl) rfl ?_ | refine ZL.val (r_geq rfl rfl) rfl ?_ | refine ZL.val (r_eql rfl rfl) rfl ?_ | refine ZL.val (r_neq rfl rfl) rfl ?_ | refine ZL.val (r_not rfl) rfl ?_  | refine ZL.val (r_lenSlice rfl) rfl ?_ | refine ZL.val (r_lenString rfl) rfl ?_ | refine ZL.val (r_extract rfl rfl) rfl ?_ | refine ZL.val (r_nilCheck rfl) rfl ?_ | refine ZL.val (r_makeFunc rfl rfl) rfl ?_ | refine ZL.val (r_eqlPtrNil rfl rfl) rfl ?_ | refine ZL.val (r_pickT rfl rfl) rfl ?_ | refine ZL.val (r_pickF rfl rfl) rfl ?_  | refine ZL.val (r_eqlSliceNil rfl rfl) rfl ?_ | refine ZL.val (r_max rfl rfl (Int.max_eq_left (by omega))) rfl ?_ | refine ZL.val (r_max rfl rfl (Int.max_eq_right (by omega))) rfl ?_ | refine ZL.val (r_min rfl rfl (Int.min_eq_left (by omega))) rfl ?_ | refine ZL.val (r_min rfl rfl (Int.min_eq_right (by omega))) rfl ?_  | refine ZL.skip rfl rfl rfl rfl ?_ | refine ZL.on rfl rfl rfl ?_  | refine ZL.val (r_convInt rfl (wrap_i64 (by omega) (by omega))) rfl ?_ | refine ZL.val (r_convInt rfl (wrap_u64 (by omega) (by omega))) rfl ?_ | refine ZL.val (r_convInt rfl (wrap_u32 (by omega) (by omega))) rfl ?_ | refine ZL.val (r_convInt rfl (wrap_u8 (by omega) (by omega))) rfl ?_))
  refine ZP.ret1 rfl rfl ⟨rfl, h1, ?_⟩
  cases p <;> rfl

theorem clone_ok (v : Value) (l : List UInt8) (w : World) (X : Nat → Prop) (h : BytesR w X v l) (hl : l.length ≤ 1000000) :
    Ret P 52 #[v] w (fun r w' => Ext w w' ∧ BytesO w w' r l) := by
  obtain ⟨p, c, rfl⟩ := h.shape
  refine Ret.enter1 Tryz.func52 rfl Tryz.ntmps52 rfl ?_
  repeat (first | (first | refine ZC.seq ?_ | refine ZC.region ?_ | refine ZC.skip ?_ | refine ZC.ret ?_ | refine ZC.exit ?_ | refine ZC.block ?_ | refine ZL.nil ?_ | refine ZP.thenX ?_ | refine ZP.thenR ?_ | refine ZP.blockN ?_ | refine ZP.blockR ?_ | refine ZP.blockE ?_ | refine ZP.blockX rfl ?_ | refine ZP.then ?_) | (first | refine ZL.val (r_move rfl) rfl ?_ | refine ZL.val (r_assign rfl) rfl ?_ | refine ZL.val (r_fieldAddr rfl) rfl ?_ | refine ZL.val (r_add rfl rfl (wrap_i64 (by omega) (by omega))) rfl ?_ | refine ZL.val (r_sub rfl rfl (wrap_i64 (by omega) (by omega))) rfl ?_ | refine ZL.val (r_mul rfl rfl (wrap_i64 (by omega) (by omega))) rfl ?_  | refine ZL.val (r_lss rfl rfl) rfl ?_ | refine ZL.val (r_leq rfl rfl) rfl ?_ | refine ZL.val (r_gtr rfl rfl) rfl ?_ | refine ZL.val (r_geq rfl rfl) rfl ?_ | refine ZL.val (r_eql rfl rfl) rfl ?_ | refine ZL.val (r_neq rfl rfl) rfl ?_ | refine ZL.val (r_not rfl) rfl ?_  | refine ZL.val (r_lenSlice rfl) rfl ?_ | refine ZL.val (r_lenString rfl) rfl ?_ | refine ZL.val (r_extract rfl rfl) rfl ?_ | refine ZL.val (r_nilCheck rfl) rfl ?_ | refine ZL.val (r_makeFunc rfl rfl) rfl ?_ | refine ZL.val (r_eqlPtrNil rfl rfl) rfl ?_ | refine ZL.val (r_pickT rfl rfl) rfl ?_ | refine ZL.val (r_pickF rfl rfl) rfl ?_  | refine ZL.val (r_eqlSliceNil rfl rfl) rfl ?_ | refine ZL.val (r_max rfl rfl (Int.max_eq_left (by omega))) rfl ?_ | refine ZL.val (r_max rfl rfl (Int.max_eq_right (by omega))) rfl ?_ | refine ZL.val (r_min rfl rfl (Int.min_eq_left (by omega))) rfl ?_ | refine ZL.val (r_min rfl rfl (Int.min_eq_right (by omega))) rfl ?_  | refine ZL.skip rfl rfl rfl rfl ?_ | refine ZL.on rfl rfl rfl ?_  | refine ZL.val (r_convInt rfl (wrap_i64 (by omega) (by omega))) rfl ?_ | refine ZL.val (r_convInt rfl (wrap_u64 (by omega) (by omega))) rfl ?_ | refine ZL.val (r_convInt rfl (wrap_u32 (by omega) (by omega))) rfl ?_ | refine ZL.val (r_convInt rfl (wrap_u8 (by omega) (by omega))) rfl ?_))
  refine ZC.cond rfl (fun hc => ?_) (fun hc => ?_)
  · repeat (first | (first | refine ZC.seq ?_ | refine ZC.region ?_ | refine ZC.skip ?_ | refine ZC.ret ?_ | refine ZC.exit ?_ | refine ZC.block ?_ | refine ZL.nil ?_ | refine ZP.thenX ?_ | refine ZP.thenR ?_ | refine ZP.blockN ?_ | refine ZP.blockR ?_ | refine ZP.blockE ?_ | refine ZP.blockX rfl ?_ | refine ZP.then ?_) | (first | refine ZL.val (r_move rfl) rfl ?_ | refine ZL.val (r_assign rfl) rfl ?_ | refine ZL.val (r_fieldAddr rfl) rfl ?_ | refine ZL.val (r_add rfl rfl (wrap_i64 (by omega) (by omega))) rfl ?_ | refine ZL.val (r_sub rfl rfl (wrap_i64 (by omega) (by omega))) rfl ?_ | refine ZL.val (r_mul rfl rfl (wrap_i64 (by omega) (by omega))) rfl ?_  | refine ZL.val (r_lss rfl rfl) rfl ?_ | refine ZL.val (r_leq rfl rfl) rfl ?_ | refine ZL.val (r_gtr rfl rfl) rfl ?_ | refine ZL.val (r_geq rfl rfl) rfl ?_ | refine ZL.val (r_eql rfl rfl) rfl ?_ | refine ZL.val (r_neq rfl rfl) rfl ?_ | refine ZL.val (r_not rfl) rfl ?_  | refine ZL.val (r_lenSlice rfl) rfl ?_ | refine ZL.val (r_lenString rfl) rfl ?_ | refine ZL.val (r_extract rfl rfl) rfl ?_ | refine ZL.val (r_nilCheck rfl) rfl ?_ | refine ZL.val (r_makeFunc rfl rfl) rfl ?_ | refine ZL.val (r_eqlPtrNil rfl rfl) rfl ?_ | refine ZL.val (r_pickT rfl rfl) rfl ?_ | refine ZL.val (r_pickF rfl rfl) rfl ?_  | refine ZL.val (r_eqlSliceNil rfl rfl) rfl ?_ | refine ZL.val (r_max rfl rfl (Int.max_eq_left (by omega))) rfl ?_ | refine ZL.val (r_max rfl rfl (Int.max_eq_right (by omega))) rfl ?_ | refine ZL.val (r_min rfl rfl (Int.min_eq_left (by omega))) rfl ?_ | refine ZL.val (r_min rfl rfl (Int.min_eq_right (by omega))) rfl ?_  | refine ZL.skip rfl rfl rfl rfl ?_ | refine ZL.on rfl rfl rfl ?_  | refine ZL.val (r_convInt rfl (wrap_i64 (by omega) (by omega))) rfl ?_ | refine ZL.val (r_convInt rfl (wrap_u64 (by omega) (by omega))) rfl ?_ | refine ZL.val (r_convInt rfl (wrap_u32 (by omega) (by omega))) rfl ?_ | refine ZL.val (r_convInt rfl (wrap_u8 (by omega) (by omega))) rfl ?_))
    refine ZP.ret1 rfl rfl ⟨.refl _ _, ?_, ?_⟩
    · rcases h.2 with ⟨hv, h0⟩ | ⟨g, o, c', cs, e, fz, hv, _⟩
      · obtain rfl : l = [] := List.eq_nil_of_length_eq_zero h0
        exact OwnR.nil _ _ _
      · simp only [Value.slice.injEq] at hv; obtain ⟨rfl, _⟩ := hv; simp at hc
    · intro g hg; simp [Value.ownBlock] at hg
  · repeat (first | (first | refine ZC.seq ?_ | refine ZC.region ?_ | refine ZC.skip ?_ | refine ZC.ret ?_ | refine ZC.exit ?_ | refine ZC.block ?_ | refine ZL.nil ?_ | refine ZP.thenX ?_ | refine ZP.thenR ?_ | refine ZP.blockN ?_ | refine ZP.blockR ?_ | refine ZP.blockE ?_ | refine ZP.blockX rfl ?_ | refine ZP.then ?_) | (first | refine ZL.val (r_move rfl) rfl ?_ | refine ZL.val (r_assign rfl) rfl ?_ | refine ZL.val (r_fieldAddr rfl) rfl ?_ | refine ZL.val (r_add rfl rfl (wrap_i64 (by omega) (by omega))) rfl ?_ | refine ZL.val (r_sub rfl rfl (wrap_i64 (by omega) (by omega))) rfl ?_ | refine ZL.val (r_mul rfl rfl (wrap_i64 (by omega) (by omega))) rfl ?_  | refine ZL.val (r_lss rfl rfl) rfl ?_ | refine ZL.val (r_leq rfl rfl) rfl ?_ | refine ZL.val (r_gtr rfl rfl) rfl ?_ | refine ZL.val (r_geq rfl rfl) rfl ?_ | refine ZL.val (r_eql rfl rfl) rfl ?_ | refine ZL.val (r_neq rfl rfl) rfl ?_ | refine ZL.val (r_not rfl) rfl ?_  | refine ZL.val (r_lenSlice rfl) rfl ?_ | refine ZL.val (r_lenString rfl) rfl ?_ | refine ZL.val (r_extract rfl rfl) rfl ?_ | refine ZL.val (r_nilCheck rfl) rfl ?_ | refine ZL.val (r_makeFunc rfl rfl) rfl ?_ | refine ZL.val (r_eqlPtrNil rfl rfl) rfl ?_ | refine ZL.val (r_pickT rfl rfl) rfl ?_ | refine ZL.val (r_pickF rfl rfl) rfl ?_  | refine ZL.val (r_eqlSliceNil rfl rfl) rfl ?_ | refine ZL.val (r_max rfl rfl (Int.max_eq_left (by omega))) rfl ?_ | refine ZL.val (r_max rfl rfl (Int.max_eq_right (by omega))) rfl ?_ | refine ZL.val (r_min rfl rfl (Int.min_eq_left (by omega))) rfl ?_ | refine ZL.val (r_min rfl rfl (Int.min_eq_right (by omega))) rfl ?_  | refine ZL.skip rfl rfl rfl rfl ?_ | refine ZL.on rfl rfl rfl ?_  | refine ZL.val (r_convInt rfl (wrap_i64 (by omega) (by omega))) rfl ?_ | refine ZL.val (r_convInt rfl (wrap_u64 (by omega) (by omega))) rfl ?_ | refine ZL.val (r_convInt rfl (wrap_u32 (by omega) (by omega))) rfl ?_ | refine ZL.val (r_convInt rfl (wrap_u8 (by omega) (by omega))) rfl ?_))
    refine ZL.bslice (Mem.start w No) rfl rfl rfl (by simp) (by decide) rfl (fun g w1 M => ?_)
    repeat (first | (first | refine ZC.seq ?_ | refine ZC.region ?_ | refine ZC.skip ?_ | refine ZC.ret ?_ | refine ZC.exit ?_ | refine ZC.block ?_ | refine ZL.nil ?_ | refine ZP.thenX ?_ | refine ZP.thenR ?_ | refine ZP.blockN ?_ | refine ZP.blockR ?_ | refine ZP.blockE ?_ | refine ZP.blockX rfl ?_ | refine ZP.then ?_) | (first | refine ZL.val (r_move rfl) rfl ?_ | refine ZL.val (r_assign rfl) rfl ?_ | refine ZL.val (r_fieldAddr rfl) rfl ?_ | refine ZL.val (r_add rfl rfl (wrap_i64 (by omega) (by omega))) rfl ?_ | refine ZL.val (r_sub rfl rfl (wrap_i64 (by omega) (by omega))) rfl ?_ | refine ZL.val (r_mul rfl rfl (wrap_i64 (by omega) (by omega))) rfl ?_  | refine ZL.val (r_lss rfl rfl) rfl ?_ | refine ZL.val (r_leq rfl rfl) rfl ?_ | refine ZL.val (r_gtr rfl rfl) rfl ?_ | refine ZL.val (r_geq rfl rfl) rfl ?_ | refine ZL.val (r_eql rfl rfl) rfl ?_ | refine ZL.val (r_neq rfl rfl) rfl ?_ | refine ZL.val (r_not rfl) rfl ?_  | refine ZL.val (r_lenSlice rfl) rfl ?_ | refine ZL.val (r_lenString rfl) rfl ?_ | refine ZL.val (r_extract rfl rfl) rfl ?_ | refine ZL.val (r_nilCheck rfl) rfl ?_ | refine ZL.val (r_makeFunc rfl rfl) rfl ?_ | refine ZL.val (r_eqlPtrNil rfl rfl) rfl ?_ | refine ZL.val (r_pickT rfl rfl) rfl ?_ | refine ZL.val (r_pickF rfl rfl) rfl ?_  | refine ZL.val (r_eqlSliceNil rfl rfl) rfl ?_ | refine ZL.val (r_max rfl rfl (Int.max_eq_left (by omega))) rfl ?_ | refine ZL.val (r_max rfl rfl (Int.max_eq_right (by omega))) rfl ?_ | refine ZL.val (r_min rfl rfl (Int.min_eq_left (by omega))) rfl ?_ | refine ZL.val (r_min rfl rfl (Int.min_eq_right (by omega))) rfl ?_  | refine ZL.skip rfl rfl rfl rfl ?_ | refine ZL.on rfl rfl rfl ?_  | refine ZL.val (r_convInt rfl (wrap_i64 (by omega) (by omega))) rfl ?_ | refine ZL.val (r_convInt rfl (wrap_u64 (by omega) (by omega))) rfl ?_ | refine ZL.val (r_convInt rfl (wrap_u32 (by omega) (by omega))) rfl ?_ | refine ZL.val (r_convInt rfl (wrap_u8 (by omega) (by omega))) rfl ?_))
    refine ZL.append M rfl rfl (h.ext M.ext) (u8_one l) (by simp only [maxLen]; omega) (by omega) rfl (fun v' w2 M2 => ?_)
    repeat (first | (first | refine ZC.seq ?_ | refine ZC.region ?_ | refine ZC.skip ?_ | refine ZC.ret ?_ | refine ZC.exit ?_ | refine ZC.block ?_ | refine ZL.nil ?_ | refine ZP.thenX ?_ | refine ZP.thenR ?_ | refine ZP.blockN ?_ | refine ZP.blockR ?_ | refine ZP.blockE ?_ | refine ZP.blockX rfl ?_ | refine ZP.then ?_) | (first | refine ZL.val (r_move rfl) rfl ?_ | refine ZL.val (r_assign rfl) rfl ?_ | refine ZL.val (r_fieldAddr rfl) rfl ?_ | refine ZL.val (r_add rfl rfl (wrap_i64 (by omega) (by omega))) rfl ?_ | refine ZL.val (r_sub rfl rfl (wrap_i64 (by omega) (by omega))) rfl ?_ | refine ZL.val (r_mul rfl rfl (wrap_i64 (by omega) (by omega))) rfl ?_  | refine ZL.val (r_lss rfl rfl) rfl ?_ | refine ZL.val (r_leq rfl rfl) rfl ?_ | refine ZL.val (r_gtr rfl rfl) rfl ?_ | refine ZL.val (r_geq rfl rfl) rfl ?_ | refine ZL.val (r_eql rfl rfl) rfl ?_ | refine ZL.val (r_neq rfl rfl) rfl ?_ | refine ZL.val (r_not rfl) rfl ?_  | refine ZL.val (r_lenSlice rfl) rfl ?_ | refine ZL.val (r_lenString rfl) rfl ?_ | refine ZL.val (r_extract rfl rfl) rfl ?_ | refine ZL.val (r_nilCheck rfl) rfl ?_ | refine ZL.val (r_makeFunc rfl rfl) rfl ?_ | refine ZL.val (r_eqlPtrNil rfl rfl) rfl ?_ | refine ZL.val (r_pickT rfl rfl) rfl ?_ | refine ZL.val (r_pickF rfl rfl) rfl ?_  | refine ZL.val (r_eqlSliceNil rfl rfl) rfl ?_ | refine ZL.val (r_max rfl rfl (Int.max_eq_left (by omega))) rfl ?_ | refine ZL.val (r_max rfl rfl (Int.max_eq_right (by omega))) rfl ?_ | refine ZL.val (r_min rfl rfl (Int.min_eq_left (by omega))) rfl ?_ | refine ZL.val (r_min rfl rfl (Int.min_eq_right (by omega))) rfl ?_  | refine ZL.skip rfl rfl rfl rfl ?_ | refine ZL.on rfl rfl rfl ?_  | refine ZL.val (r_convInt rfl (wrap_i64 (by omega) (by omega))) rfl ?_ | refine ZL.val (r_convInt rfl (wrap_u64 (by omega) (by omega))) rfl ?_ | refine ZL.val (r_convInt rfl (wrap_u32 (by omega) (by omega))) rfl ?_ | refine ZL.val (r_convInt rfl (wrap_u8 (by omega) (by omega))) rfl ?_))
    exact ZP.ret1 rfl rfl (M2.new (by simp) rfl)

/-- The lowest bytes of a number. -/
def le (n wide : Nat) : List UInt8 := (List.range wide).map fun k => UInt8.ofNat (n / 2 ^ (8 * k))
theorem le_length (n wide : Nat) : (le n wide).length = wide := by simp [le]
theorem le_succ (n k : Nat) : le n (k + 1) = le n k ++ [UInt8.ofNat (n / 2 ^ (8 * k))] := by simp [le, List.range_succ]
theorem wrap_u8_nat (m : Nat) : IntKind.u8.wrap (m : Int) = ((UInt8.ofNat m).toNat : Int) := by
  simp only [IntKind.wrap, IntKind.bits, IntKind.signed]; simp
theorem shr_nat (n k b : Nat) (hk : k ≤ b) : ((n : Int) / 2 ^ (min ((k : Int).toNat) b)) = ((n / 2 ^ k : Nat) : Int) := by
  rw [Int.toNat_natCast, Nat.min_eq_left hk]; simp

theorem low_ok (v : Value) (l : List UInt8) (n wide : Nat) (w : World) (X : Nat → Prop) (h : BytesR w X v l) (hl : l.length ≤ 1000000) (hn : n < 2 ^ 64) (hw : wide ≤ 8) :
    Ret P 94 #[v, .int .u64 n, .int .i64 wide] w (fun r w' => Ext w w' ∧ BytesO w w' r (l ++ le n wide)) := by
  refine Ret.enter3 Tryz.func94 rfl Tryz.ntmps94 rfl ?_
  repeat (first | (first | refine ZC.seq ?_ | refine ZC.region ?_ | refine ZC.skip ?_ | refine ZC.ret ?_ | refine ZC.exit ?_ | refine ZC.block ?_ | refine ZL.nil ?_ | refine ZP.thenX ?_ | refine ZP.thenR ?_ | refine ZP.blockN ?_ | refine ZP.blockR ?_ | refine ZP.blockE ?_ | refine ZP.blockX rfl ?_ | refine ZP.then ?_) | (first | refine ZL.val (r_move rfl) rfl ?_ | refine ZL.val (r_assign rfl) rfl ?_ | refine ZL.val (r_fieldAddr rfl) rfl ?_ | refine ZL.val (r_add rfl rfl (wrap_i64 (by omega) (by omega))) rfl ?_ | refine ZL.val (r_sub rfl rfl (wrap_i64 (by omega) (by omega))) rfl ?_ | refine ZL.val (r_mul rfl rfl (wrap_i64 (by omega) (by omega))) rfl ?_  | refine ZL.val (r_lss rfl rfl) rfl ?_ | refine ZL.val (r_leq rfl rfl) rfl ?_ | refine ZL.val (r_gtr rfl rfl) rfl ?_ | refine ZL.val (r_geq rfl rfl) rfl ?_ | refine ZL.val (r_eql rfl rfl) rfl ?_ | refine ZL.val (r_neq rfl rfl) rfl ?_ | refine ZL.val (r_not rfl) rfl ?_  | refine ZL.val (r_lenSlice rfl) rfl ?_ | refine ZL.val (r_lenString rfl) rfl ?_ | refine ZL.val (r_extract rfl rfl) rfl ?_ | refine ZL.val (r_nilCheck rfl) rfl ?_ | refine ZL.val (r_makeFunc rfl rfl) rfl ?_ | refine ZL.val (r_eqlPtrNil rfl rfl) rfl ?_ | refine ZL.val (r_pickT rfl rfl) rfl ?_ | refine ZL.val (r_pickF rfl rfl) rfl ?_  | refine ZL.val (r_eqlSliceNil rfl rfl) rfl ?_ | refine ZL.val (r_max rfl rfl (Int.max_eq_left (by omega))) rfl ?_ | refine ZL.val (r_max rfl rfl (Int.max_eq_right (by omega))) rfl ?_ | refine ZL.val (r_min rfl rfl (Int.min_eq_left (by omega))) rfl ?_ | refine ZL.val (r_min rfl rfl (Int.min_eq_right (by omega))) rfl ?_  | refine ZL.skip rfl rfl rfl rfl ?_ | refine ZL.on rfl rfl rfl ?_  | refine ZL.val (r_convInt rfl (wrap_i64 (by omega) (by omega))) rfl ?_ | refine ZL.val (r_convInt rfl (wrap_u64 (by omega) (by omega))) rfl ?_ | refine ZL.val (r_convInt rfl (wrap_u32 (by omega) (by omega))) rfl ?_ | refine ZL.val (r_convInt rfl (wrap_u8 (by omega) (by omega))) rfl ?_))
  refine ZL.call (r_call rfl) rfl (clone_ok v l w X h (by omega)) (fun v1 w1 ⟨E1, O1⟩ => ?_)
  refine ZL.call (r_call rfl) rfl (clip_ok v1 _ _ _ _ w1 O1.own) (fun v2 w2 hv2 => ?_)
  obtain ⟨rfl, O2, hb2⟩ := hv2
  have N2 : BytesO w w1 v2 l := ⟨O2, fun g hg => O1.new g (hb2 ▸ hg)⟩
  have M := (Mem.start w No).addNew E1 N2
  repeat (first | (first | refine ZC.seq ?_ | refine ZC.region ?_ | refine ZC.skip ?_ | refine ZC.ret ?_ | refine ZC.exit ?_ | refine ZC.block ?_ | refine ZL.nil ?_ | refine ZP.thenX ?_ | refine ZP.thenR ?_ | refine ZP.blockN ?_ | refine ZP.blockR ?_ | refine ZP.blockE ?_ | refine ZP.blockX rfl ?_ | refine ZP.then ?_) | (first | refine ZL.val (r_move rfl) rfl ?_ | refine ZL.val (r_assign rfl) rfl ?_ | refine ZL.val (r_fieldAddr rfl) rfl ?_ | refine ZL.val (r_add rfl rfl (wrap_i64 (by omega) (by omega))) rfl ?_ | refine ZL.val (r_sub rfl rfl (wrap_i64 (by omega) (by omega))) rfl ?_ | refine ZL.val (r_mul rfl rfl (wrap_i64 (by omega) (by omega))) rfl ?_  | refine ZL.val (r_lss rfl rfl) rfl ?_ | refine ZL.val (r_leq rfl rfl) rfl ?_ | refine ZL.val (r_gtr rfl rfl) rfl ?_ | refine ZL.val (r_geq rfl rfl) rfl ?_ | refine ZL.val (r_eql rfl rfl) rfl ?_ | refine ZL.val (r_neq rfl rfl) rfl ?_ | refine ZL.val (r_not rfl) rfl ?_  | refine ZL.val (r_lenSlice rfl) rfl ?_ | refine ZL.val (r_lenString rfl) rfl ?_ | refine ZL.val (r_extract rfl rfl) rfl ?_ | refine ZL.val (r_nilCheck rfl) rfl ?_ | refine ZL.val (r_makeFunc rfl rfl) rfl ?_ | refine ZL.val (r_eqlPtrNil rfl rfl) rfl ?_ | refine ZL.val (r_pickT rfl rfl) rfl ?_ | refine ZL.val (r_pickF rfl rfl) rfl ?_  | refine ZL.val (r_eqlSliceNil rfl rfl) rfl ?_ | refine ZL.val (r_max rfl rfl (Int.max_eq_left (by omega))) rfl ?_ | refine ZL.val (r_max rfl rfl (Int.max_eq_right (by omega))) rfl ?_ | refine ZL.val (r_min rfl rfl (Int.min_eq_left (by omega))) rfl ?_ | refine ZL.val (r_min rfl rfl (Int.min_eq_right (by omega))) rfl ?_  | refine ZL.skip rfl rfl rfl rfl ?_ | refine ZL.on rfl rfl rfl ?_  | refine ZL.val (r_convInt rfl (wrap_i64 (by omega) (by omega))) rfl ?_ | refine ZL.val (r_convInt rfl (wrap_u64 (by omega) (by omega))) rfl ?_ | refine ZL.val (r_convInt rfl (wrap_u32 (by omega) (by omega))) rfl ?_ | refine ZL.val (r_convInt rfl (wrap_u8 (by omega) (by omega))) rfl ?_))
  refine ZC.loop (X := Nat × Value) (fun x => [(13, .int .i64 x.1), (7, x.2), (12, .int .i64 wide), (1, .int .u64 n)])
    (fun x w' => x.1 ≤ wide ∧ Mem w No [.own x.2 5 1 (l ++ le n x.1).length ((l ++ le n x.1).map u8)] w') (fun x => wide - x.1) (0, v2) ⟨rfl, rfl, rfl, rfl, trivial⟩ ⟨by omega, by simpa [le] using M⟩ ?_
  rintro ⟨k, out⟩ w3 ⟨hk, M3⟩
  simp only at hk M3 ⊢
  repeat (first | (first | refine ZC.seq ?_ | refine ZC.region ?_ | refine ZC.skip ?_ | refine ZC.ret ?_ | refine ZC.exit ?_ | refine ZC.block ?_ | refine ZL.nil ?_ | refine ZP.thenX ?_ | refine ZP.thenR ?_ | refine ZP.blockN ?_ | refine ZP.blockR ?_ | refine ZP.blockE ?_ | refine ZP.blockX rfl ?_ | refine ZP.then ?_) | (first | refine ZL.val (r_move rfl) rfl ?_ | refine ZL.val (r_assign rfl) rfl ?_ | refine ZL.val (r_fieldAddr rfl) rfl ?_ | refine ZL.val (r_add rfl rfl (wrap_i64 (by omega) (by omega))) rfl ?_ | refine ZL.val (r_sub rfl rfl (wrap_i64 (by omega) (by omega))) rfl ?_ | refine ZL.val (r_mul rfl rfl (wrap_i64 (by omega) (by omega))) rfl ?_  | refine ZL.val (r_lss rfl rfl) rfl ?_ | refine ZL.val (r_leq rfl rfl) rfl ?_ | refine ZL.val (r_gtr rfl rfl) rfl ?_ | refine ZL.val (r_geq rfl rfl) rfl ?_ | refine ZL.val (r_eql rfl rfl) rfl ?_ | refine ZL.val (r_neq rfl rfl) rfl ?_ | refine ZL.val (r_not rfl) rfl ?_  | refine ZL.val (r_lenSlice rfl) rfl ?_ | refine ZL.val (r_lenString rfl) rfl ?_ | refine ZL.val (r_extract rfl rfl) rfl ?_ | refine ZL.val (r_nilCheck rfl) rfl ?_ | refine ZL.val (r_makeFunc rfl rfl) rfl ?_ | refine ZL.val (r_eqlPtrNil rfl rfl) rfl ?_ | refine ZL.val (r_pickT rfl rfl) rfl ?_ | refine ZL.val (r_pickF rfl rfl) rfl ?_  | refine ZL.val (r_eqlSliceNil rfl rfl) rfl ?_ | refine ZL.val (r_max rfl rfl (Int.max_eq_left (by omega))) rfl ?_ | refine ZL.val (r_max rfl rfl (Int.max_eq_right (by omega))) rfl ?_ | refine ZL.val (r_min rfl rfl (Int.min_eq_left (by omega))) rfl ?_ | refine ZL.val (r_min rfl rfl (Int.min_eq_right (by omega))) rfl ?_  | refine ZL.skip rfl rfl rfl rfl ?_ | refine ZL.on rfl rfl rfl ?_  | refine ZL.val (r_convInt rfl (wrap_i64 (by omega) (by omega))) rfl ?_ | refine ZL.val (r_convInt rfl (wrap_u64 (by omega) (by omega))) rfl ?_ | refine ZL.val (r_convInt rfl (wrap_u32 (by omega) (by omega))) rfl ?_ | refine ZL.val (r_convInt rfl (wrap_u8 (by omega) (by omega))) rfl ?_))
  refine ZC.condD rfl (fun hc => ?_) (fun hc => ?_)
  · repeat (first | (first | refine ZC.seq ?_ | refine ZC.region ?_ | refine ZC.skip ?_ | refine ZC.ret ?_ | refine ZC.exit ?_ | refine ZC.block ?_ | refine ZL.nil ?_ | refine ZP.thenX ?_ | refine ZP.thenR ?_ | refine ZP.blockN ?_ | refine ZP.blockR ?_ | refine ZP.blockE ?_ | refine ZP.blockX rfl ?_ | refine ZP.then ?_) | (first | refine ZL.val (r_move rfl) rfl ?_ | refine ZL.val (r_assign rfl) rfl ?_ | refine ZL.val (r_fieldAddr rfl) rfl ?_ | refine ZL.val (r_add rfl rfl (wrap_i64 (by omega) (by omega))) rfl ?_ | refine ZL.val (r_sub rfl rfl (wrap_i64 (by omega) (by omega))) rfl ?_ | refine ZL.val (r_mul rfl rfl (wrap_i64 (by omega) (by omega))) rfl ?_  | refine ZL.val (r_lss rfl rfl) rfl ?_ | refine ZL.val (r_leq rfl rfl) rfl ?_ | refine ZL.val (r_gtr rfl rfl) rfl ?_ | refine ZL.val (r_geq rfl rfl) rfl ?_ | refine ZL.val (r_eql rfl rfl) rfl ?_ | refine ZL.val (r_neq rfl rfl) rfl ?_ | refine ZL.val (r_not rfl) rfl ?_  | refine ZL.val (r_lenSlice rfl) rfl ?_ | refine ZL.val (r_lenString rfl) rfl ?_ | refine ZL.val (r_extract rfl rfl) rfl ?_ | refine ZL.val (r_nilCheck rfl) rfl ?_ | refine ZL.val (r_makeFunc rfl rfl) rfl ?_ | refine ZL.val (r_eqlPtrNil rfl rfl) rfl ?_ | refine ZL.val (r_pickT rfl rfl) rfl ?_ | refine ZL.val (r_pickF rfl rfl) rfl ?_  | refine ZL.val (r_eqlSliceNil rfl rfl) rfl ?_ | refine ZL.val (r_max rfl rfl (Int.max_eq_left (by omega))) rfl ?_ | refine ZL.val (r_max rfl rfl (Int.max_eq_right (by omega))) rfl ?_ | refine ZL.val (r_min rfl rfl (Int.min_eq_left (by omega))) rfl ?_ | refine ZL.val (r_min rfl rfl (Int.min_eq_right (by omega))) rfl ?_  | refine ZL.skip rfl rfl rfl rfl ?_ | refine ZL.on rfl rfl rfl ?_  | refine ZL.val (r_convInt rfl (wrap_i64 (by omega) (by omega))) rfl ?_ | refine ZL.val (r_convInt rfl (wrap_u64 (by omega) (by omega))) rfl ?_ | refine ZL.val (r_convInt rfl (wrap_u32 (by omega) (by omega))) rfl ?_ | refine ZL.val (r_convInt rfl (wrap_u8 (by omega) (by omega))) rfl ?_))
    refine ZL.val (r_shr rfl rfl (by omega) (shr_nat n (8 * k) 64 (by omega))) rfl ?_
    refine ZL.val (r_convInt rfl (wrap_u8_nat _)) rfl ?_
    refine ZL.bslice M3 rfl rfl rfl (by simp [Value.cells]) (by decide) rfl (fun g w4 M4 => ?_)
    refine ZL.append M4 rfl rfl (M4.own.slc (X := No) (fun _ _ h => h)) (by simp [Value.oneCell']) (by simp [maxLen, le_length]; omega) (by simp [le_length]; omega) rfl (fun v' w5 M5 => ?_)
    repeat (first | (first | refine ZC.seq ?_ | refine ZC.region ?_ | refine ZC.skip ?_ | refine ZC.ret ?_ | refine ZC.exit ?_ | refine ZC.block ?_ | refine ZL.nil ?_ | refine ZP.thenX ?_ | refine ZP.thenR ?_ | refine ZP.blockN ?_ | refine ZP.blockR ?_ | refine ZP.blockE ?_ | refine ZP.blockX rfl ?_ | refine ZP.then ?_) | (first | refine ZL.val (r_move rfl) rfl ?_ | refine ZL.val (r_assign rfl) rfl ?_ | refine ZL.val (r_fieldAddr rfl) rfl ?_ | refine ZL.val (r_add rfl rfl (wrap_i64 (by omega) (by omega))) rfl ?_ | refine ZL.val (r_sub rfl rfl (wrap_i64 (by omega) (by omega))) rfl ?_ | refine ZL.val (r_mul rfl rfl (wrap_i64 (by omega) (by omega))) rfl ?_  | refine ZL.val (r_lss rfl rfl) rfl ?_ | refine ZL.val (r_leq rfl rfl) rfl ?_ | refine ZL.val (r_gtr rfl rfl) rfl ?_ | refine ZL.val (r_geq rfl rfl) rfl ?_ | refine ZL.val (r_eql rfl rfl) rfl ?_ | refine ZL.val (r_neq rfl rfl) rfl ?_ | refine ZL.val (r_not rfl) rfl ?_  | refine ZL.val (r_lenSlice rfl) rfl ?_ | refine ZL.val (r_lenString rfl) rfl ?_ | refine ZL.val (r_extract rfl rfl) rfl ?_ | refine ZL.val (r_nilCheck rfl) rfl ?_ | refine ZL.val (r_makeFunc rfl rfl) rfl ?_ | refine ZL.val (r_eqlPtrNil rfl rfl) rfl ?_ | refine ZL.val (r_pickT rfl rfl) rfl ?_ | refine ZL.val (r_pickF rfl rfl) rfl ?_  | refine ZL.val (r_eqlSliceNil rfl rfl) rfl ?_ | refine ZL.val (r_max rfl rfl (Int.max_eq_left (by omega))) rfl ?_ | refine ZL.val (r_max rfl rfl (Int.max_eq_right (by omega))) rfl ?_ | refine ZL.val (r_min rfl rfl (Int.min_eq_left (by omega))) rfl ?_ | refine ZL.val (r_min rfl rfl (Int.min_eq_right (by omega))) rfl ?_  | refine ZL.skip rfl rfl rfl rfl ?_ | refine ZL.on rfl rfl rfl ?_  | refine ZL.val (r_convInt rfl (wrap_i64 (by omega) (by omega))) rfl ?_ | refine ZL.val (r_convInt rfl (wrap_u64 (by omega) (by omega))) rfl ?_ | refine ZL.val (r_convInt rfl (wrap_u32 (by omega) (by omega))) rfl ?_ | refine ZL.val (r_convInt rfl (wrap_u8 (by omega) (by omega))) rfl ?_))
    refine ZP.round (k + 1, v') ⟨rfl, rfl, rfl, rfl, trivial⟩ ⟨by omega, ?_⟩ (by simp only; omega)
    have M6 := M5.drop
    simpa [le_succ, u8, Nat.add_assoc] using M6
  · repeat (first | (first | refine ZC.seq ?_ | refine ZC.region ?_ | refine ZC.skip ?_ | refine ZC.ret ?_ | refine ZC.exit ?_ | refine ZC.block ?_ | refine ZL.nil ?_ | refine ZP.thenX ?_ | refine ZP.thenR ?_ | refine ZP.blockN ?_ | refine ZP.blockR ?_ | refine ZP.blockE ?_ | refine ZP.blockX rfl ?_ | refine ZP.then ?_) | (first | refine ZL.val (r_move rfl) rfl ?_ | refine ZL.val (r_assign rfl) rfl ?_ | refine ZL.val (r_fieldAddr rfl) rfl ?_ | refine ZL.val (r_add rfl rfl (wrap_i64 (by omega) (by omega))) rfl ?_ | refine ZL.val (r_sub rfl rfl (wrap_i64 (by omega) (by omega))) rfl ?_ | refine ZL.val (r_mul rfl rfl (wrap_i64 (by omega) (by omega))) rfl ?_  | refine ZL.val (r_lss rfl rfl) rfl ?_ | refine ZL.val (r_leq rfl rfl) rfl ?_ | refine ZL.val (r_gtr rfl rfl) rfl ?_ | refine ZL.val (r_geq rfl rfl) rfl ?_ | refine ZL.val (r_eql rfl rfl) rfl ?_ | refine ZL.val (r_neq rfl rfl) rfl ?_ | refine ZL.val (r_not rfl) rfl ?_  | refine ZL.val (r_lenSlice rfl) rfl ?_ | refine ZL.val (r_lenString rfl) rfl ?_ | refine ZL.val (r_extract rfl rfl) rfl ?_ | refine ZL.val (r_nilCheck rfl) rfl ?_ | refine ZL.val (r_makeFunc rfl rfl) rfl ?_ | refine ZL.val (r_eqlPtrNil rfl rfl) rfl ?_ | refine ZL.val (r_pickT rfl rfl) rfl ?_ | refine ZL.val (r_pickF rfl rfl) rfl ?_  | refine ZL.val (r_eqlSliceNil rfl rfl) rfl ?_ | refine ZL.val (r_max rfl rfl (Int.max_eq_left (by omega))) rfl ?_ | refine ZL.val (r_max rfl rfl (Int.max_eq_right (by omega))) rfl ?_ | refine ZL.val (r_min rfl rfl (Int.min_eq_left (by omega))) rfl ?_ | refine ZL.val (r_min rfl rfl (Int.min_eq_right (by omega))) rfl ?_  | refine ZL.skip rfl rfl rfl rfl ?_ | refine ZL.on rfl rfl rfl ?_  | refine ZL.val (r_convInt rfl (wrap_i64 (by omega) (by omega))) rfl ?_ | refine ZL.val (r_convInt rfl (wrap_u64 (by omega) (by omega))) rfl ?_ | refine ZL.val (r_convInt rfl (wrap_u32 (by omega) (by omega))) rfl ?_ | refine ZL.val (r_convInt rfl (wrap_u8 (by omega) (by omega))) rfl ?_))
    obtain rfl : k = wide := by omega
    exact ZP.ret1 rfl rfl (M3.new rfl rfl)

theorem Small_ok (v : Value) (l : List UInt8) (n : Nat) (w : World) (X : Nat → Prop) (h : BytesR w X v l) (hl : l.length ≤ 1000000) (hn : n < 2 ^ 32) :
    Ret P 71 #[v, .int .u32 n] w (fun r w' => Ext w w' ∧ BytesO w w' r (l ++ le n 4)) := by
  refine Ret.enter2 Tryz.func71 rfl Tryz.ntmps71 rfl ?_
  repeat (first | (first | refine ZC.seq ?_ | refine ZC.region ?_ | refine ZC.skip ?_ | refine ZC.ret ?_ | refine ZC.exit ?_ | refine ZC.block ?_ | refine ZL.nil ?_ | refine ZP.thenX ?_ | refine ZP.thenR ?_ | refine ZP.blockN ?_ | refine ZP.blockR ?_ | refine ZP.blockE ?_ | refine ZP.blockX rfl ?_ | refine ZP.then ?_) | (first | refine ZL.val (r_move rfl) rfl ?_ | refine ZL.val (r_assign rfl) rfl ?_ | refine ZL.val (r_fieldAddr rfl) rfl ?_ | refine ZL.val (r_add rfl rfl (wrap_i64 (by omega) (by omega))) rfl ?_ | refine ZL.val (r_sub rfl rfl (wrap_i64 (by omega) (by omega))) rfl ?_ | refine ZL.val (r_mul rfl rfl (wrap_i64 (by omega) (by omega))) rfl ?_  | refine ZL.val (r_lss rfl rfl) rfl ?_ | refine ZL.val (r_leq rfl rfl) rfl ?_ | refine ZL.val (r_gtr rfl rfl) rfl ?_ | refine ZL.val (r_geq rfl rfl) rfl ?_ | refine ZL.val (r_eql rfl rfl) rfl ?_ | refine ZL.val (r_neq rfl rfl) rfl ?_ | refine ZL.val (r_not rfl) rfl ?_  | refine ZL.val (r_lenSlice rfl) rfl ?_ | refine ZL.val (r_lenString rfl) rfl ?_ | refine ZL.val (r_extract rfl rfl) rfl ?_ | refine ZL.val (r_nilCheck rfl) rfl ?_ | refine ZL.val (r_makeFunc rfl rfl) rfl ?_ | refine ZL.val (r_eqlPtrNil rfl rfl) rfl ?_ | refine ZL.val (r_pickT rfl rfl) rfl ?_ | refine ZL.val (r_pickF rfl rfl) rfl ?_  | refine ZL.val (r_eqlSliceNil rfl rfl) rfl ?_ | refine ZL.val (r_max rfl rfl (Int.max_eq_left (by omega))) rfl ?_ | refine ZL.val (r_max rfl rfl (Int.max_eq_right (by omega))) rfl ?_ | refine ZL.val (r_min rfl rfl (Int.min_eq_left (by omega))) rfl ?_ | refine ZL.val (r_min rfl rfl (Int.min_eq_right (by omega))) rfl ?_  | refine ZL.skip rfl rfl rfl rfl ?_ | refine ZL.on rfl rfl rfl ?_  | refine ZL.val (r_convInt rfl (wrap_i64 (by omega) (by omega))) rfl ?_ | refine ZL.val (r_convInt rfl (wrap_u64 (by omega) (by omega))) rfl ?_ | refine ZL.val (r_convInt rfl (wrap_u32 (by omega) (by omega))) rfl ?_ | refine ZL.val (r_convInt rfl (wrap_u8 (by omega) (by omega))) rfl ?_))
  refine ZL.call (r_call rfl) rfl (low_ok v l n 4 w X h hl (by omega) (by omega)) (fun v1 w1 h1 => ?_)
  repeat (first | (first | refine ZC.seq ?_ | refine ZC.region ?_ | refine ZC.skip ?_ | refine ZC.ret ?_ | refine ZC.exit ?_ | refine ZC.block ?_ | refine ZL.nil ?_ | refine ZP.thenX ?_ | refine ZP.thenR ?_ | refine ZP.blockN ?_ | refine ZP.blockR ?_ | refine ZP.blockE ?_ | refine ZP.blockX rfl ?_ | refine ZP.then ?_) | (first | refine ZL.val (r_move rfl) rfl ?_ | refine ZL.val (r_assign rfl) rfl ?_ | refine ZL.val (r_fieldAddr rfl) rfl ?_ | refine ZL.val (r_add rfl rfl (wrap_i64 (by omega) (by omega))) rfl ?_ | refine ZL.val (r_sub rfl rfl (wrap_i64 (by omega) (by omega))) rfl ?_ | refine ZL.val (r_mul rfl rfl (wrap_i64 (by omega) (by omega))) rfl ?_  | refine ZL.val (r_lss rfl rfl) rfl ?_ | refine ZL.val (r_leq rfl rfl) rfl ?_ | refine ZL.val (r_gtr rfl rfl) rfl ?_ | refine ZL.val (r_geq rfl rfl) rfl ?_ | refine ZL.val (r_eql rfl rfl) rfl ?_ | refine ZL.val (r_neq rfl rfl) rfl ?_ | refine ZL.val (r_not rfl) rfl ?_  | refine ZL.val (r_lenSlice rfl) rfl ?_ | refine ZL.val (r_lenString rfl) rfl ?_ | refine ZL.val (r_extract rfl rfl) rfl ?_ | refine ZL.val (r_nilCheck rfl) rfl ?_ | refine ZL.val (r_makeFunc rfl rfl) rfl ?_ | refine ZL.val (r_eqlPtrNil rfl rfl) rfl ?_ | refine ZL.val (r_pickT rfl rfl) rfl ?_ | refine ZL.val (r_pickF rfl rfl) rfl ?_  | refine ZL.val (r_eqlSliceNil rfl rfl) rfl ?_ | refine ZL.val (r_max rfl rfl (Int.max_eq_left (by omega))) rfl ?_ | refine ZL.val (r_max rfl rfl (Int.max_eq_right (by omega))) rfl ?_ | refine ZL.val (r_min rfl rfl (Int.min_eq_left (by omega))) rfl ?_ | refine ZL.val (r_min rfl rfl (Int.min_eq_right (by omega))) rfl ?_  | refine ZL.skip rfl rfl rfl rfl ?_ | refine ZL.on rfl rfl rfl ?_  | refine ZL.val (r_convInt rfl (wrap_i64 (by omega) (by omega))) rfl ?_ | refine ZL.val (r_convInt rfl (wrap_u64 (by omega) (by omega))) rfl ?_ | refine ZL.val (r_convInt rfl (wrap_u32 (by omega) (by omega))) rfl ?_ | refine ZL.val (r_convInt rfl (wrap_u8 (by omega) (by omega))) rfl ?_))
  exact ZP.ret1 rfl rfl h1

theorem Big_ok (v : Value) (l : List UInt8) (n : Nat) (w : World) (X : Nat → Prop) (h : BytesR w X v l) (hl : l.length ≤ 1000000) (hn : n < 2 ^ 64) :
    Ret P 95 #[v, .int .u64 n] w (fun r w' => Ext w w' ∧ BytesO w w' r (l ++ le n 8)) := by
  refine Ret.enter2 Tryz.func95 rfl Tryz.ntmps95 rfl ?_
  repeat (first | (first | refine ZC.seq ?_ | refine ZC.region ?_ | refine ZC.skip ?_ | refine ZC.ret ?_ | refine ZC.exit ?_ | refine ZC.block ?_ | refine ZL.nil ?_ | refine ZP.thenX ?_ | refine ZP.thenR ?_ | refine ZP.blockN ?_ | refine ZP.blockR ?_ | refine ZP.blockE ?_ | refine ZP.blockX rfl ?_ | refine ZP.then ?_) | (first | refine ZL.val (r_move rfl) rfl ?_ | refine ZL.val (r_assign rfl) rfl ?_ | refine ZL.val (r_fieldAddr rfl) rfl ?_ | refine ZL.val (r_add rfl rfl (wrap_i64 (by omega) (by omega))) rfl ?_ | refine ZL.val (r_sub rfl rfl (wrap_i64 (by omega) (by omega))) rfl ?_ | refine ZL.val (r_mul rfl rfl (wrap_i64 (by omega) (by omega))) rfl ?_  | refine ZL.val (r_lss rfl rfl) rfl ?_ | refine ZL.val (r_leq rfl rfl) rfl ?_ | refine ZL.val (r_gtr rfl rfl) rfl ?_ | refine ZL.val (r_geq rfl rfl) rfl ?_ | refine ZL.val (r_eql rfl rfl) rfl ?_ | refine ZL.val (r_neq rfl rfl) rfl ?_ | refine ZL.val (r_not rfl) rfl ?_  | refine ZL.val (r_lenSlice rfl) rfl ?_ | refine ZL.val (r_lenString rfl) rfl ?_ | refine ZL.val (r_extract rfl rfl) rfl ?_ | refine ZL.val (r_nilCheck rfl) rfl ?_ | refine ZL.val (r_makeFunc rfl rfl) rfl ?_ | refine ZL.val (r_eqlPtrNil rfl rfl) rfl ?_ | refine ZL.val (r_pickT rfl rfl) rfl ?_ | refine ZL.val (r_pickF rfl rfl) rfl ?_  | refine ZL.val (r_eqlSliceNil rfl rfl) rfl ?_ | refine ZL.val (r_max rfl rfl (Int.max_eq_left (by omega))) rfl ?_ | refine ZL.val (r_max rfl rfl (Int.max_eq_right (by omega))) rfl ?_ | refine ZL.val (r_min rfl rfl (Int.min_eq_left (by omega))) rfl ?_ | refine ZL.val (r_min rfl rfl (Int.min_eq_right (by omega))) rfl ?_  | refine ZL.skip rfl rfl rfl rfl ?_ | refine ZL.on rfl rfl rfl ?_  | refine ZL.val (r_convInt rfl (wrap_i64 (by omega) (by omega))) rfl ?_ | refine ZL.val (r_convInt rfl (wrap_u64 (by omega) (by omega))) rfl ?_ | refine ZL.val (r_convInt rfl (wrap_u32 (by omega) (by omega))) rfl ?_ | refine ZL.val (r_convInt rfl (wrap_u8 (by omega) (by omega))) rfl ?_))
  refine ZL.call (r_call rfl) rfl (low_ok v l n 8 w X h hl (by omega) (by omega)) (fun v1 w1 h1 => ?_)
  repeat (first | (first | refine ZC.seq ?_ | refine ZC.region ?_ | refine ZC.skip ?_ | refine ZC.ret ?_ | refine ZC.exit ?_ | refine ZC.block ?_ | refine ZL.nil ?_ | refine ZP.thenX ?_ | refine ZP.thenR ?_ | refine ZP.blockN ?_ | refine ZP.blockR ?_ | refine ZP.blockE ?_ | refine ZP.blockX rfl ?_ | refine ZP.then ?_) | (first | refine ZL.val (r_move rfl) rfl ?_ | refine ZL.val (r_assign rfl) rfl ?_ | refine ZL.val (r_fieldAddr rfl) rfl ?_ | refine ZL.val (r_add rfl rfl (wrap_i64 (by omega) (by omega))) rfl ?_ | refine ZL.val (r_sub rfl rfl (wrap_i64 (by omega) (by omega))) rfl ?_ | refine ZL.val (r_mul rfl rfl (wrap_i64 (by omega) (by omega))) rfl ?_  | refine ZL.val (r_lss rfl rfl) rfl ?_ | refine ZL.val (r_leq rfl rfl) rfl ?_ | refine ZL.val (r_gtr rfl rfl) rfl ?_ | refine ZL.val (r_geq rfl rfl) rfl ?_ | refine ZL.val (r_eql rfl rfl) rfl ?_ | refine ZL.val (r_neq rfl rfl) rfl ?_ | refine ZL.val (r_not rfl) rfl ?_  | refine ZL.val (r_lenSlice rfl) rfl ?_ | refine ZL.val (r_lenString rfl) rfl ?_ | refine ZL.val (r_extract rfl rfl) rfl ?_ | refine ZL.val (r_nilCheck rfl) rfl ?_ | refine ZL.val (r_makeFunc rfl rfl) rfl ?_ | refine ZL.val (r_eqlPtrNil rfl rfl) rfl ?_ | refine ZL.val (r_pickT rfl rfl) rfl ?_ | refine ZL.val (r_pickF rfl rfl) rfl ?_  | refine ZL.val (r_eqlSliceNil rfl rfl) rfl ?_ | refine ZL.val (r_max rfl rfl (Int.max_eq_left (by omega))) rfl ?_ | refine ZL.val (r_max rfl rfl (Int.max_eq_right (by omega))) rfl ?_ | refine ZL.val (r_min rfl rfl (Int.min_eq_left (by omega))) rfl ?_ | refine ZL.val (r_min rfl rfl (Int.min_eq_right (by omega))) rfl ?_  | refine ZL.skip rfl rfl rfl rfl ?_ | refine ZL.on rfl rfl rfl ?_  | refine ZL.val (r_convInt rfl (wrap_i64 (by omega) (by omega))) rfl ?_ | refine ZL.val (r_convInt rfl (wrap_u64 (by omega) (by omega))) rfl ?_ | refine ZL.val (r_convInt rfl (wrap_u32 (by omega) (by omega))) rfl ?_ | refine ZL.val (r_convInt rfl (wrap_u8 (by omega) (by omega))) rfl ?_))
  exact ZP.ret1 rfl rfl h1

/-- A count's bytes. -/
def cnt (n : Nat) : List UInt8 := if n < 253 then le n 1 else if n < 65536 then le 253 1 ++ le n 2 else le 254 1 ++ le n 4

theorem BytesO.r {w w' : World} {v : Value} {l : List UInt8} (h : BytesO w w' v l) : BytesR w' (· < w.heap.size) v l := h.slc

theorem cnt_length (n : Nat) : (cnt n).length ≤ 5 := by unfold cnt; split <;> (try split) <;> simp [le_length]
theorem NewO.older {w w1 w2 : World} {e s n : Nat} {v : Value} {xs : List Value} (h : NewO w1 w2 e s v n xs) (he : Ext w w1) : NewO w w2 e s v n xs :=
  ⟨h.own, fun g hg => Nat.le_trans he.size (h.new g hg)⟩

theorem Count_ok (v : Value) (l : List UInt8) (n : Nat) (w : World) (X : Nat → Prop) (h : BytesR w X v l) (hl : l.length ≤ 900000) (hn : n < 100000) :
    Ret P 74 #[v, .int .i64 n] w (fun r w' => Ext w w' ∧ BytesO w w' r (l ++ cnt n)) := by
  unfold cnt
  refine Ret.enter2 Tryz.func74 rfl Tryz.ntmps74 rfl ?_
  repeat (first | (first | refine ZC.seq ?_ | refine ZC.region ?_ | refine ZC.skip ?_ | refine ZC.ret ?_ | refine ZC.exit ?_ | refine ZC.block ?_ | refine ZL.nil ?_ | refine ZP.thenX ?_ | refine ZP.thenR ?_ | refine ZP.blockN ?_ | refine ZP.blockR ?_ | refine ZP.blockE ?_ | refine ZP.blockX rfl ?_ | refine ZP.then ?_) | (first | refine ZL.val (r_move rfl) rfl ?_ | refine ZL.val (r_assign rfl) rfl ?_ | refine ZL.val (r_fieldAddr rfl) rfl ?_ | refine ZL.val (r_add rfl rfl (wrap_i64 (by omega) (by omega))) rfl ?_ | refine ZL.val (r_sub rfl rfl (wrap_i64 (by omega) (by omega))) rfl ?_ | refine ZL.val (r_mul rfl rfl (wrap_i64 (by omega) (by omega))) rfl ?_  | refine ZL.val (r_lss rfl rfl) rfl ?_ | refine ZL.val (r_leq rfl rfl) rfl ?_ | refine ZL.val (r_gtr rfl rfl) rfl ?_ | refine ZL.val (r_geq rfl rfl) rfl ?_ | refine ZL.val (r_eql rfl rfl) rfl ?_ | refine ZL.val (r_neq rfl rfl) rfl ?_ | refine ZL.val (r_not rfl) rfl ?_  | refine ZL.val (r_lenSlice rfl) rfl ?_ | refine ZL.val (r_lenString rfl) rfl ?_ | refine ZL.val (r_extract rfl rfl) rfl ?_ | refine ZL.val (r_nilCheck rfl) rfl ?_ | refine ZL.val (r_makeFunc rfl rfl) rfl ?_ | refine ZL.val (r_eqlPtrNil rfl rfl) rfl ?_ | refine ZL.val (r_pickT rfl rfl) rfl ?_ | refine ZL.val (r_pickF rfl rfl) rfl ?_  | refine ZL.val (r_eqlSliceNil rfl rfl) rfl ?_ | refine ZL.val (r_max rfl rfl (Int.max_eq_left (by omega))) rfl ?_ | refine ZL.val (r_max rfl rfl (Int.max_eq_right (by omega))) rfl ?_ | refine ZL.val (r_min rfl rfl (Int.min_eq_left (by omega))) rfl ?_ | refine ZL.val (r_min rfl rfl (Int.min_eq_right (by omega))) rfl ?_  | refine ZL.skip rfl rfl rfl rfl ?_ | refine ZL.on rfl rfl rfl ?_  | refine ZL.val (r_convInt rfl (wrap_i64 (by omega) (by omega))) rfl ?_ | refine ZL.val (r_convInt rfl (wrap_u64 (by omega) (by omega))) rfl ?_ | refine ZL.val (r_convInt rfl (wrap_u32 (by omega) (by omega))) rfl ?_ | refine ZL.val (r_convInt rfl (wrap_u8 (by omega) (by omega))) rfl ?_))
  refine ZC.condD rfl (fun hc => ?_) (fun hc => ?_)
  · rw [if_pos (by omega)]
    repeat (first | (first | refine ZC.seq ?_ | refine ZC.region ?_ | refine ZC.skip ?_ | refine ZC.ret ?_ | refine ZC.exit ?_ | refine ZC.block ?_ | refine ZL.nil ?_ | refine ZP.thenX ?_ | refine ZP.thenR ?_ | refine ZP.blockN ?_ | refine ZP.blockR ?_ | refine ZP.blockE ?_ | refine ZP.blockX rfl ?_ | refine ZP.then ?_) | (first | refine ZL.val (r_move rfl) rfl ?_ | refine ZL.val (r_assign rfl) rfl ?_ | refine ZL.val (r_fieldAddr rfl) rfl ?_ | refine ZL.val (r_add rfl rfl (wrap_i64 (by omega) (by omega))) rfl ?_ | refine ZL.val (r_sub rfl rfl (wrap_i64 (by omega) (by omega))) rfl ?_ | refine ZL.val (r_mul rfl rfl (wrap_i64 (by omega) (by omega))) rfl ?_  | refine ZL.val (r_lss rfl rfl) rfl ?_ | refine ZL.val (r_leq rfl rfl) rfl ?_ | refine ZL.val (r_gtr rfl rfl) rfl ?_ | refine ZL.val (r_geq rfl rfl) rfl ?_ | refine ZL.val (r_eql rfl rfl) rfl ?_ | refine ZL.val (r_neq rfl rfl) rfl ?_ | refine ZL.val (r_not rfl) rfl ?_  | refine ZL.val (r_lenSlice rfl) rfl ?_ | refine ZL.val (r_lenString rfl) rfl ?_ | refine ZL.val (r_extract rfl rfl) rfl ?_ | refine ZL.val (r_nilCheck rfl) rfl ?_ | refine ZL.val (r_makeFunc rfl rfl) rfl ?_ | refine ZL.val (r_eqlPtrNil rfl rfl) rfl ?_ | refine ZL.val (r_pickT rfl rfl) rfl ?_ | refine ZL.val (r_pickF rfl rfl) rfl ?_  | refine ZL.val (r_eqlSliceNil rfl rfl) rfl ?_ | refine ZL.val (r_max rfl rfl (Int.max_eq_left (by omega))) rfl ?_ | refine ZL.val (r_max rfl rfl (Int.max_eq_right (by omega))) rfl ?_ | refine ZL.val (r_min rfl rfl (Int.min_eq_left (by omega))) rfl ?_ | refine ZL.val (r_min rfl rfl (Int.min_eq_right (by omega))) rfl ?_  | refine ZL.skip rfl rfl rfl rfl ?_ | refine ZL.on rfl rfl rfl ?_  | refine ZL.val (r_convInt rfl (wrap_i64 (by omega) (by omega))) rfl ?_ | refine ZL.val (r_convInt rfl (wrap_u64 (by omega) (by omega))) rfl ?_ | refine ZL.val (r_convInt rfl (wrap_u32 (by omega) (by omega))) rfl ?_ | refine ZL.val (r_convInt rfl (wrap_u8 (by omega) (by omega))) rfl ?_))
    refine ZL.call (r_call rfl) rfl (low_ok v l n 1 w X h (by omega) (by omega) (by omega)) (fun v1 w1 h1 => ?_)
    repeat (first | (first | refine ZC.seq ?_ | refine ZC.region ?_ | refine ZC.skip ?_ | refine ZC.ret ?_ | refine ZC.exit ?_ | refine ZC.block ?_ | refine ZL.nil ?_ | refine ZP.thenX ?_ | refine ZP.thenR ?_ | refine ZP.blockN ?_ | refine ZP.blockR ?_ | refine ZP.blockE ?_ | refine ZP.blockX rfl ?_ | refine ZP.then ?_) | (first | refine ZL.val (r_move rfl) rfl ?_ | refine ZL.val (r_assign rfl) rfl ?_ | refine ZL.val (r_fieldAddr rfl) rfl ?_ | refine ZL.val (r_add rfl rfl (wrap_i64 (by omega) (by omega))) rfl ?_ | refine ZL.val (r_sub rfl rfl (wrap_i64 (by omega) (by omega))) rfl ?_ | refine ZL.val (r_mul rfl rfl (wrap_i64 (by omega) (by omega))) rfl ?_  | refine ZL.val (r_lss rfl rfl) rfl ?_ | refine ZL.val (r_leq rfl rfl) rfl ?_ | refine ZL.val (r_gtr rfl rfl) rfl ?_ | refine ZL.val (r_geq rfl rfl) rfl ?_ | refine ZL.val (r_eql rfl rfl) rfl ?_ | refine ZL.val (r_neq rfl rfl) rfl ?_ | refine ZL.val (r_not rfl) rfl ?_  | refine ZL.val (r_lenSlice rfl) rfl ?_ | refine ZL.val (r_lenString rfl) rfl ?_ | refine ZL.val (r_extract rfl rfl) rfl ?_ | refine ZL.val (r_nilCheck rfl) rfl ?_ | refine ZL.val (r_makeFunc rfl rfl) rfl ?_ | refine ZL.val (r_eqlPtrNil rfl rfl) rfl ?_ | refine ZL.val (r_pickT rfl rfl) rfl ?_ | refine ZL.val (r_pickF rfl rfl) rfl ?_  | refine ZL.val (r_eqlSliceNil rfl rfl) rfl ?_ | refine ZL.val (r_max rfl rfl (Int.max_eq_left (by omega))) rfl ?_ | refine ZL.val (r_max rfl rfl (Int.max_eq_right (by omega))) rfl ?_ | refine ZL.val (r_min rfl rfl (Int.min_eq_left (by omega))) rfl ?_ | refine ZL.val (r_min rfl rfl (Int.min_eq_right (by omega))) rfl ?_  | refine ZL.skip rfl rfl rfl rfl ?_ | refine ZL.on rfl rfl rfl ?_  | refine ZL.val (r_convInt rfl (wrap_i64 (by omega) (by omega))) rfl ?_ | refine ZL.val (r_convInt rfl (wrap_u64 (by omega) (by omega))) rfl ?_ | refine ZL.val (r_convInt rfl (wrap_u32 (by omega) (by omega))) rfl ?_ | refine ZL.val (r_convInt rfl (wrap_u8 (by omega) (by omega))) rfl ?_))
    exact ZP.ret1 rfl rfl h1
  · rw [if_neg (by omega)]
    repeat (first | (first | refine ZC.seq ?_ | refine ZC.region ?_ | refine ZC.skip ?_ | refine ZC.ret ?_ | refine ZC.exit ?_ | refine ZC.block ?_ | refine ZL.nil ?_ | refine ZP.thenX ?_ | refine ZP.thenR ?_ | refine ZP.blockN ?_ | refine ZP.blockR ?_ | refine ZP.blockE ?_ | refine ZP.blockX rfl ?_ | refine ZP.then ?_) | (first | refine ZL.val (r_move rfl) rfl ?_ | refine ZL.val (r_assign rfl) rfl ?_ | refine ZL.val (r_fieldAddr rfl) rfl ?_ | refine ZL.val (r_add rfl rfl (wrap_i64 (by omega) (by omega))) rfl ?_ | refine ZL.val (r_sub rfl rfl (wrap_i64 (by omega) (by omega))) rfl ?_ | refine ZL.val (r_mul rfl rfl (wrap_i64 (by omega) (by omega))) rfl ?_  | refine ZL.val (r_lss rfl rfl) rfl ?_ | refine ZL.val (r_leq rfl rfl) rfl ?_ | refine ZL.val (r_gtr rfl rfl) rfl ?_ | refine ZL.val (r_geq rfl rfl) rfl ?_ | refine ZL.val (r_eql rfl rfl) rfl ?_ | refine ZL.val (r_neq rfl rfl) rfl ?_ | refine ZL.val (r_not rfl) rfl ?_  | refine ZL.val (r_lenSlice rfl) rfl ?_ | refine ZL.val (r_lenString rfl) rfl ?_ | refine ZL.val (r_extract rfl rfl) rfl ?_ | refine ZL.val (r_nilCheck rfl) rfl ?_ | refine ZL.val (r_makeFunc rfl rfl) rfl ?_ | refine ZL.val (r_eqlPtrNil rfl rfl) rfl ?_ | refine ZL.val (r_pickT rfl rfl) rfl ?_ | refine ZL.val (r_pickF rfl rfl) rfl ?_  | refine ZL.val (r_eqlSliceNil rfl rfl) rfl ?_ | refine ZL.val (r_max rfl rfl (Int.max_eq_left (by omega))) rfl ?_ | refine ZL.val (r_max rfl rfl (Int.max_eq_right (by omega))) rfl ?_ | refine ZL.val (r_min rfl rfl (Int.min_eq_left (by omega))) rfl ?_ | refine ZL.val (r_min rfl rfl (Int.min_eq_right (by omega))) rfl ?_  | refine ZL.skip rfl rfl rfl rfl ?_ | refine ZL.on rfl rfl rfl ?_  | refine ZL.val (r_convInt rfl (wrap_i64 (by omega) (by omega))) rfl ?_ | refine ZL.val (r_convInt rfl (wrap_u64 (by omega) (by omega))) rfl ?_ | refine ZL.val (r_convInt rfl (wrap_u32 (by omega) (by omega))) rfl ?_ | refine ZL.val (r_convInt rfl (wrap_u8 (by omega) (by omega))) rfl ?_))
    refine ZC.condD rfl (fun hd => ?_) (fun hd => ?_)
    · rw [if_pos (by omega)]
      repeat (first | (first | refine ZC.seq ?_ | refine ZC.region ?_ | refine ZC.skip ?_ | refine ZC.ret ?_ | refine ZC.exit ?_ | refine ZC.block ?_ | refine ZL.nil ?_ | refine ZP.thenX ?_ | refine ZP.thenR ?_ | refine ZP.blockN ?_ | refine ZP.blockR ?_ | refine ZP.blockE ?_ | refine ZP.blockX rfl ?_ | refine ZP.then ?_) | (first | refine ZL.val (r_move rfl) rfl ?_ | refine ZL.val (r_assign rfl) rfl ?_ | refine ZL.val (r_fieldAddr rfl) rfl ?_ | refine ZL.val (r_add rfl rfl (wrap_i64 (by omega) (by omega))) rfl ?_ | refine ZL.val (r_sub rfl rfl (wrap_i64 (by omega) (by omega))) rfl ?_ | refine ZL.val (r_mul rfl rfl (wrap_i64 (by omega) (by omega))) rfl ?_  | refine ZL.val (r_lss rfl rfl) rfl ?_ | refine ZL.val (r_leq rfl rfl) rfl ?_ | refine ZL.val (r_gtr rfl rfl) rfl ?_ | refine ZL.val (r_geq rfl rfl) rfl ?_ | refine ZL.val (r_eql rfl rfl) rfl ?_ | refine ZL.val (r_neq rfl rfl) rfl ?_ | refine ZL.val (r_not rfl) rfl ?_  | refine ZL.val (r_lenSlice rfl) rfl ?_ | refine ZL.val (r_lenString rfl) rfl ?_ | refine ZL.val (r_extract rfl rfl) rfl ?_ | refine ZL.val (r_nilCheck rfl) rfl ?_ | refine ZL.val (r_makeFunc rfl rfl) rfl ?_ | refine ZL.val (r_eqlPtrNil rfl rfl) rfl ?_ | refine ZL.val (r_pickT rfl rfl) rfl ?_ | refine ZL.val (r_pickF rfl rfl) rfl ?_  | refine ZL.val (r_eqlSliceNil rfl rfl) rfl ?_ | refine ZL.val (r_max rfl rfl (Int.max_eq_left (by omega))) rfl ?_ | refine ZL.val (r_max rfl rfl (Int.max_eq_right (by omega))) rfl ?_ | refine ZL.val (r_min rfl rfl (Int.min_eq_left (by omega))) rfl ?_ | refine ZL.val (r_min rfl rfl (Int.min_eq_right (by omega))) rfl ?_  | refine ZL.skip rfl rfl rfl rfl ?_ | refine ZL.on rfl rfl rfl ?_  | refine ZL.val (r_convInt rfl (wrap_i64 (by omega) (by omega))) rfl ?_ | refine ZL.val (r_convInt rfl (wrap_u64 (by omega) (by omega))) rfl ?_ | refine ZL.val (r_convInt rfl (wrap_u32 (by omega) (by omega))) rfl ?_ | refine ZL.val (r_convInt rfl (wrap_u8 (by omega) (by omega))) rfl ?_))
      refine ZL.call (r_call rfl) rfl (low_ok v l 253 1 w X h (by omega) (by omega) (by omega)) (fun v1 w1 ⟨E1, O1⟩ => ?_)
      repeat (first | (first | refine ZC.seq ?_ | refine ZC.region ?_ | refine ZC.skip ?_ | refine ZC.ret ?_ | refine ZC.exit ?_ | refine ZC.block ?_ | refine ZL.nil ?_ | refine ZP.thenX ?_ | refine ZP.thenR ?_ | refine ZP.blockN ?_ | refine ZP.blockR ?_ | refine ZP.blockE ?_ | refine ZP.blockX rfl ?_ | refine ZP.then ?_) | (first | refine ZL.val (r_move rfl) rfl ?_ | refine ZL.val (r_assign rfl) rfl ?_ | refine ZL.val (r_fieldAddr rfl) rfl ?_ | refine ZL.val (r_add rfl rfl (wrap_i64 (by omega) (by omega))) rfl ?_ | refine ZL.val (r_sub rfl rfl (wrap_i64 (by omega) (by omega))) rfl ?_ | refine ZL.val (r_mul rfl rfl (wrap_i64 (by omega) (by omega))) rfl ?_  | refine ZL.val (r_lss rfl rfl) rfl ?_ | refine ZL.val (r_leq rfl rfl) rfl ?_ | refine ZL.val (r_gtr rfl rfl) rfl ?_ | refine ZL.val (r_geq rfl rfl) rfl ?_ | refine ZL.val (r_eql rfl rfl) rfl ?_ | refine ZL.val (r_neq rfl rfl) rfl ?_ | refine ZL.val (r_not rfl) rfl ?_  | refine ZL.val (r_lenSlice rfl) rfl ?_ | refine ZL.val (r_lenString rfl) rfl ?_ | refine ZL.val (r_extract rfl rfl) rfl ?_ | refine ZL.val (r_nilCheck rfl) rfl ?_ | refine ZL.val (r_makeFunc rfl rfl) rfl ?_ | refine ZL.val (r_eqlPtrNil rfl rfl) rfl ?_ | refine ZL.val (r_pickT rfl rfl) rfl ?_ | refine ZL.val (r_pickF rfl rfl) rfl ?_  | refine ZL.val (r_eqlSliceNil rfl rfl) rfl ?_ | refine ZL.val (r_max rfl rfl (Int.max_eq_left (by omega))) rfl ?_ | refine ZL.val (r_max rfl rfl (Int.max_eq_right (by omega))) rfl ?_ | refine ZL.val (r_min rfl rfl (Int.min_eq_left (by omega))) rfl ?_ | refine ZL.val (r_min rfl rfl (Int.min_eq_right (by omega))) rfl ?_  | refine ZL.skip rfl rfl rfl rfl ?_ | refine ZL.on rfl rfl rfl ?_  | refine ZL.val (r_convInt rfl (wrap_i64 (by omega) (by omega))) rfl ?_ | refine ZL.val (r_convInt rfl (wrap_u64 (by omega) (by omega))) rfl ?_ | refine ZL.val (r_convInt rfl (wrap_u32 (by omega) (by omega))) rfl ?_ | refine ZL.val (r_convInt rfl (wrap_u8 (by omega) (by omega))) rfl ?_))
      refine ZL.call (r_call rfl) rfl (low_ok v1 _ n 2 w1 _ O1.r (by simp [le_length]; omega) (by omega) (by omega)) (fun v2 w2 ⟨E2, O2⟩ => ?_)
      repeat (first | (first | refine ZC.seq ?_ | refine ZC.region ?_ | refine ZC.skip ?_ | refine ZC.ret ?_ | refine ZC.exit ?_ | refine ZC.block ?_ | refine ZL.nil ?_ | refine ZP.thenX ?_ | refine ZP.thenR ?_ | refine ZP.blockN ?_ | refine ZP.blockR ?_ | refine ZP.blockE ?_ | refine ZP.blockX rfl ?_ | refine ZP.then ?_) | (first | refine ZL.val (r_move rfl) rfl ?_ | refine ZL.val (r_assign rfl) rfl ?_ | refine ZL.val (r_fieldAddr rfl) rfl ?_ | refine ZL.val (r_add rfl rfl (wrap_i64 (by omega) (by omega))) rfl ?_ | refine ZL.val (r_sub rfl rfl (wrap_i64 (by omega) (by omega))) rfl ?_ | refine ZL.val (r_mul rfl rfl (wrap_i64 (by omega) (by omega))) rfl ?_  | refine ZL.val (r_lss rfl rfl) rfl ?_ | refine ZL.val (r_leq rfl rfl) rfl ?_ | refine ZL.val (r_gtr rfl rfl) rfl ?_ | refine ZL.val (r_geq rfl rfl) rfl ?_ | refine ZL.val (r_eql rfl rfl) rfl ?_ | refine ZL.val (r_neq rfl rfl) rfl ?_ | refine ZL.val (r_not rfl) rfl ?_  | refine ZL.val (r_lenSlice rfl) rfl ?_ | refine ZL.val (r_lenString rfl) rfl ?_ | refine ZL.val (r_extract rfl rfl) rfl ?_ | refine ZL.val (r_nilCheck rfl) rfl ?_ | refine ZL.val (r_makeFunc rfl rfl) rfl ?_ | refine ZL.val (r_eqlPtrNil rfl rfl) rfl ?_ | refine ZL.val (r_pickT rfl rfl) rfl ?_ | refine ZL.val (r_pickF rfl rfl) rfl ?_  | refine ZL.val (r_eqlSliceNil rfl rfl) rfl ?_ | refine ZL.val (r_max rfl rfl (Int.max_eq_left (by omega))) rfl ?_ | refine ZL.val (r_max rfl rfl (Int.max_eq_right (by omega))) rfl ?_ | refine ZL.val (r_min rfl rfl (Int.min_eq_left (by omega))) rfl ?_ | refine ZL.val (r_min rfl rfl (Int.min_eq_right (by omega))) rfl ?_  | refine ZL.skip rfl rfl rfl rfl ?_ | refine ZL.on rfl rfl rfl ?_  | refine ZL.val (r_convInt rfl (wrap_i64 (by omega) (by omega))) rfl ?_ | refine ZL.val (r_convInt rfl (wrap_u64 (by omega) (by omega))) rfl ?_ | refine ZL.val (r_convInt rfl (wrap_u32 (by omega) (by omega))) rfl ?_ | refine ZL.val (r_convInt rfl (wrap_u8 (by omega) (by omega))) rfl ?_))
      exact ZP.ret1 rfl rfl ⟨E1.trans E2, by rw [← List.append_assoc]; exact O2.older E1⟩
    · rw [if_neg (by omega)]
      repeat (first | (first | refine ZC.seq ?_ | refine ZC.region ?_ | refine ZC.skip ?_ | refine ZC.ret ?_ | refine ZC.exit ?_ | refine ZC.block ?_ | refine ZL.nil ?_ | refine ZP.thenX ?_ | refine ZP.thenR ?_ | refine ZP.blockN ?_ | refine ZP.blockR ?_ | refine ZP.blockE ?_ | refine ZP.blockX rfl ?_ | refine ZP.then ?_) | (first | refine ZL.val (r_move rfl) rfl ?_ | refine ZL.val (r_assign rfl) rfl ?_ | refine ZL.val (r_fieldAddr rfl) rfl ?_ | refine ZL.val (r_add rfl rfl (wrap_i64 (by omega) (by omega))) rfl ?_ | refine ZL.val (r_sub rfl rfl (wrap_i64 (by omega) (by omega))) rfl ?_ | refine ZL.val (r_mul rfl rfl (wrap_i64 (by omega) (by omega))) rfl ?_  | refine ZL.val (r_lss rfl rfl) rfl ?_ | refine ZL.val (r_leq rfl rfl) rfl ?_ | refine ZL.val (r_gtr rfl rfl) rfl ?_ | refine ZL.val (r_geq rfl rfl) rfl ?_ | refine ZL.val (r_eql rfl rfl) rfl ?_ | refine ZL.val (r_neq rfl rfl) rfl ?_ | refine ZL.val (r_not rfl) rfl ?_  | refine ZL.val (r_lenSlice rfl) rfl ?_ | refine ZL.val (r_lenString rfl) rfl ?_ | refine ZL.val (r_extract rfl rfl) rfl ?_ | refine ZL.val (r_nilCheck rfl) rfl ?_ | refine ZL.val (r_makeFunc rfl rfl) rfl ?_ | refine ZL.val (r_eqlPtrNil rfl rfl) rfl ?_ | refine ZL.val (r_pickT rfl rfl) rfl ?_ | refine ZL.val (r_pickF rfl rfl) rfl ?_  | refine ZL.val (r_eqlSliceNil rfl rfl) rfl ?_ | refine ZL.val (r_max rfl rfl (Int.max_eq_left (by omega))) rfl ?_ | refine ZL.val (r_max rfl rfl (Int.max_eq_right (by omega))) rfl ?_ | refine ZL.val (r_min rfl rfl (Int.min_eq_left (by omega))) rfl ?_ | refine ZL.val (r_min rfl rfl (Int.min_eq_right (by omega))) rfl ?_  | refine ZL.skip rfl rfl rfl rfl ?_ | refine ZL.on rfl rfl rfl ?_  | refine ZL.val (r_convInt rfl (wrap_i64 (by omega) (by omega))) rfl ?_ | refine ZL.val (r_convInt rfl (wrap_u64 (by omega) (by omega))) rfl ?_ | refine ZL.val (r_convInt rfl (wrap_u32 (by omega) (by omega))) rfl ?_ | refine ZL.val (r_convInt rfl (wrap_u8 (by omega) (by omega))) rfl ?_))
      refine ZL.call (r_call rfl) rfl (low_ok v l 254 1 w X h (by omega) (by omega) (by omega)) (fun v1 w1 ⟨E1, O1⟩ => ?_)
      repeat (first | (first | refine ZC.seq ?_ | refine ZC.region ?_ | refine ZC.skip ?_ | refine ZC.ret ?_ | refine ZC.exit ?_ | refine ZC.block ?_ | refine ZL.nil ?_ | refine ZP.thenX ?_ | refine ZP.thenR ?_ | refine ZP.blockN ?_ | refine ZP.blockR ?_ | refine ZP.blockE ?_ | refine ZP.blockX rfl ?_ | refine ZP.then ?_) | (first | refine ZL.val (r_move rfl) rfl ?_ | refine ZL.val (r_assign rfl) rfl ?_ | refine ZL.val (r_fieldAddr rfl) rfl ?_ | refine ZL.val (r_add rfl rfl (wrap_i64 (by omega) (by omega))) rfl ?_ | refine ZL.val (r_sub rfl rfl (wrap_i64 (by omega) (by omega))) rfl ?_ | refine ZL.val (r_mul rfl rfl (wrap_i64 (by omega) (by omega))) rfl ?_  | refine ZL.val (r_lss rfl rfl) rfl ?_ | refine ZL.val (r_leq rfl rfl) rfl ?_ | refine ZL.val (r_gtr rfl rfl) rfl ?_ | refine ZL.val (r_geq rfl rfl) rfl ?_ | refine ZL.val (r_eql rfl rfl) rfl ?_ | refine ZL.val (r_neq rfl rfl) rfl ?_ | refine ZL.val (r_not rfl) rfl ?_  | refine ZL.val (r_lenSlice rfl) rfl ?_ | refine ZL.val (r_lenString rfl) rfl ?_ | refine ZL.val (r_extract rfl rfl) rfl ?_ | refine ZL.val (r_nilCheck rfl) rfl ?_ | refine ZL.val (r_makeFunc rfl rfl) rfl ?_ | refine ZL.val (r_eqlPtrNil rfl rfl) rfl ?_ | refine ZL.val (r_pickT rfl rfl) rfl ?_ | refine ZL.val (r_pickF rfl rfl) rfl ?_  | refine ZL.val (r_eqlSliceNil rfl rfl) rfl ?_ | refine ZL.val (r_max rfl rfl (Int.max_eq_left (by omega))) rfl ?_ | refine ZL.val (r_max rfl rfl (Int.max_eq_right (by omega))) rfl ?_ | refine ZL.val (r_min rfl rfl (Int.min_eq_left (by omega))) rfl ?_ | refine ZL.val (r_min rfl rfl (Int.min_eq_right (by omega))) rfl ?_  | refine ZL.skip rfl rfl rfl rfl ?_ | refine ZL.on rfl rfl rfl ?_  | refine ZL.val (r_convInt rfl (wrap_i64 (by omega) (by omega))) rfl ?_ | refine ZL.val (r_convInt rfl (wrap_u64 (by omega) (by omega))) rfl ?_ | refine ZL.val (r_convInt rfl (wrap_u32 (by omega) (by omega))) rfl ?_ | refine ZL.val (r_convInt rfl (wrap_u8 (by omega) (by omega))) rfl ?_))
      refine ZL.call (r_call rfl) rfl (low_ok v1 _ n 4 w1 _ O1.r (by simp [le_length]; omega) (by omega) (by omega)) (fun v2 w2 ⟨E2, O2⟩ => ?_)
      repeat (first | (first | refine ZC.seq ?_ | refine ZC.region ?_ | refine ZC.skip ?_ | refine ZC.ret ?_ | refine ZC.exit ?_ | refine ZC.block ?_ | refine ZL.nil ?_ | refine ZP.thenX ?_ | refine ZP.thenR ?_ | refine ZP.blockN ?_ | refine ZP.blockR ?_ | refine ZP.blockE ?_ | refine ZP.blockX rfl ?_ | refine ZP.then ?_) | (first | refine ZL.val (r_move rfl) rfl ?_ | refine ZL.val (r_assign rfl) rfl ?_ | refine ZL.val (r_fieldAddr rfl) rfl ?_ | refine ZL.val (r_add rfl rfl (wrap_i64 (by omega) (by omega))) rfl ?_ | refine ZL.val (r_sub rfl rfl (wrap_i64 (by omega) (by omega))) rfl ?_ | refine ZL.val (r_mul rfl rfl (wrap_i64 (by omega) (by omega))) rfl ?_  | refine ZL.val (r_lss rfl rfl) rfl ?_ | refine ZL.val (r_leq rfl rfl) rfl ?_ | refine ZL.val (r_gtr rfl rfl) rfl ?_ | refine ZL.val (r_geq rfl rfl) rfl ?_ | refine ZL.val (r_eql rfl rfl) rfl ?_ | refine ZL.val (r_neq rfl rfl) rfl ?_ | refine ZL.val (r_not rfl) rfl ?_  | refine ZL.val (r_lenSlice rfl) rfl ?_ | refine ZL.val (r_lenString rfl) rfl ?_ | refine ZL.val (r_extract rfl rfl) rfl ?_ | refine ZL.val (r_nilCheck rfl) rfl ?_ | refine ZL.val (r_makeFunc rfl rfl) rfl ?_ | refine ZL.val (r_eqlPtrNil rfl rfl) rfl ?_ | refine ZL.val (r_pickT rfl rfl) rfl ?_ | refine ZL.val (r_pickF rfl rfl) rfl ?_  | refine ZL.val (r_eqlSliceNil rfl rfl) rfl ?_ | refine ZL.val (r_max rfl rfl (Int.max_eq_left (by omega))) rfl ?_ | refine ZL.val (r_max rfl rfl (Int.max_eq_right (by omega))) rfl ?_ | refine ZL.val (r_min rfl rfl (Int.min_eq_left (by omega))) rfl ?_ | refine ZL.val (r_min rfl rfl (Int.min_eq_right (by omega))) rfl ?_  | refine ZL.skip rfl rfl rfl rfl ?_ | refine ZL.on rfl rfl rfl ?_  | refine ZL.val (r_convInt rfl (wrap_i64 (by omega) (by omega))) rfl ?_ | refine ZL.val (r_convInt rfl (wrap_u64 (by omega) (by omega))) rfl ?_ | refine ZL.val (r_convInt rfl (wrap_u32 (by omega) (by omega))) rfl ?_ | refine ZL.val (r_convInt rfl (wrap_u8 (by omega) (by omega))) rfl ?_))
      exact ZP.ret1 rfl rfl ⟨E1.trans E2, by rw [← List.append_assoc]; exact O2.older E1⟩

/-- append(b, x..) of bytes: b is the call's own. -/
theorem le1 (n : Nat) : le n 1 = [UInt8.ofNat n] := by simp [le, List.range_succ]
theorem le2 (n : Nat) : le n 2 = [UInt8.ofNat n, UInt8.ofNat (n / 256)] := by simp [le, List.range_succ]
theorem le4 (n : Nat) : le n 4 = [UInt8.ofNat n, UInt8.ofNat (n / 256), UInt8.ofNat (n / 65536), UInt8.ofNat (n / 16777216)] := by simp [le, List.range_succ]

theorem refSmall_ok (v : Value) (l : List UInt8) (n : Nat) (w : World) (X : Nat → Prop) (h : BytesR w X v l) (hl : l.length ≤ 1000000) (hn : n < 2 ^ 32) :
    Ret P 44 #[v, .int .u32 n] w (fun r w' => Ext w w' ∧ BytesO w w' r (l ++ le n 4)) := by
  refine Ret.enter2 Tryz.func44 rfl Tryz.ntmps44 rfl ?_
  repeat (first | (first | refine ZC.seq ?_ | refine ZC.region ?_ | refine ZC.skip ?_ | refine ZC.ret ?_ | refine ZC.exit ?_ | refine ZC.block ?_ | refine ZL.nil ?_ | refine ZP.thenX ?_ | refine ZP.thenR ?_ | refine ZP.blockN ?_ | refine ZP.blockR ?_ | refine ZP.blockE ?_ | refine ZP.blockX rfl ?_ | refine ZP.then ?_) | (first | refine ZL.val (r_move rfl) rfl ?_ | refine ZL.val (r_assign rfl) rfl ?_ | refine ZL.val (r_fieldAddr rfl) rfl ?_ | refine ZL.val (r_add rfl rfl (wrap_i64 (by omega) (by omega))) rfl ?_ | refine ZL.val (r_sub rfl rfl (wrap_i64 (by omega) (by omega))) rfl ?_ | refine ZL.val (r_mul rfl rfl (wrap_i64 (by omega) (by omega))) rfl ?_  | refine ZL.val (r_lss rfl rfl) rfl ?_ | refine ZL.val (r_leq rfl rfl) rfl ?_ | refine ZL.val (r_gtr rfl rfl) rfl ?_ | refine ZL.val (r_geq rfl rfl) rfl ?_ | refine ZL.val (r_eql rfl rfl) rfl ?_ | refine ZL.val (r_neq rfl rfl) rfl ?_ | refine ZL.val (r_not rfl) rfl ?_  | refine ZL.val (r_lenSlice rfl) rfl ?_ | refine ZL.val (r_lenString rfl) rfl ?_ | refine ZL.val (r_extract rfl rfl) rfl ?_ | refine ZL.val (r_nilCheck rfl) rfl ?_ | refine ZL.val (r_makeFunc rfl rfl) rfl ?_ | refine ZL.val (r_eqlPtrNil rfl rfl) rfl ?_ | refine ZL.val (r_pickT rfl rfl) rfl ?_ | refine ZL.val (r_pickF rfl rfl) rfl ?_  | refine ZL.val (r_eqlSliceNil rfl rfl) rfl ?_ | refine ZL.val (r_max rfl rfl (Int.max_eq_left (by omega))) rfl ?_ | refine ZL.val (r_max rfl rfl (Int.max_eq_right (by omega))) rfl ?_ | refine ZL.val (r_min rfl rfl (Int.min_eq_left (by omega))) rfl ?_ | refine ZL.val (r_min rfl rfl (Int.min_eq_right (by omega))) rfl ?_  | refine ZL.skip rfl rfl rfl rfl ?_ | refine ZL.on rfl rfl rfl ?_  | refine ZL.val (r_convInt rfl (wrap_i64 (by omega) (by omega))) rfl ?_ | refine ZL.val (r_convInt rfl (wrap_u64 (by omega) (by omega))) rfl ?_ | refine ZL.val (r_convInt rfl (wrap_u32 (by omega) (by omega))) rfl ?_ | refine ZL.val (r_convInt rfl (wrap_u8 (by omega) (by omega))) rfl ?_))
  refine ZL.bslice (Mem.start w No) rfl rfl rfl (by simp) (by decide) rfl (fun g w1 M => ?_)
  repeat (first | (first | refine ZC.seq ?_ | refine ZC.region ?_ | refine ZC.skip ?_ | refine ZC.ret ?_ | refine ZC.exit ?_ | refine ZC.block ?_ | refine ZL.nil ?_ | refine ZP.thenX ?_ | refine ZP.thenR ?_ | refine ZP.blockN ?_ | refine ZP.blockR ?_ | refine ZP.blockE ?_ | refine ZP.blockX rfl ?_ | refine ZP.then ?_) | (first | refine ZL.val (r_move rfl) rfl ?_ | refine ZL.val (r_assign rfl) rfl ?_ | refine ZL.val (r_fieldAddr rfl) rfl ?_ | refine ZL.val (r_add rfl rfl (wrap_i64 (by omega) (by omega))) rfl ?_ | refine ZL.val (r_sub rfl rfl (wrap_i64 (by omega) (by omega))) rfl ?_ | refine ZL.val (r_mul rfl rfl (wrap_i64 (by omega) (by omega))) rfl ?_  | refine ZL.val (r_lss rfl rfl) rfl ?_ | refine ZL.val (r_leq rfl rfl) rfl ?_ | refine ZL.val (r_gtr rfl rfl) rfl ?_ | refine ZL.val (r_geq rfl rfl) rfl ?_ | refine ZL.val (r_eql rfl rfl) rfl ?_ | refine ZL.val (r_neq rfl rfl) rfl ?_ | refine ZL.val (r_not rfl) rfl ?_  | refine ZL.val (r_lenSlice rfl) rfl ?_ | refine ZL.val (r_lenString rfl) rfl ?_ | refine ZL.val (r_extract rfl rfl) rfl ?_ | refine ZL.val (r_nilCheck rfl) rfl ?_ | refine ZL.val (r_makeFunc rfl rfl) rfl ?_ | refine ZL.val (r_eqlPtrNil rfl rfl) rfl ?_ | refine ZL.val (r_pickT rfl rfl) rfl ?_ | refine ZL.val (r_pickF rfl rfl) rfl ?_  | refine ZL.val (r_eqlSliceNil rfl rfl) rfl ?_ | refine ZL.val (r_max rfl rfl (Int.max_eq_left (by omega))) rfl ?_ | refine ZL.val (r_max rfl rfl (Int.max_eq_right (by omega))) rfl ?_ | refine ZL.val (r_min rfl rfl (Int.min_eq_left (by omega))) rfl ?_ | refine ZL.val (r_min rfl rfl (Int.min_eq_right (by omega))) rfl ?_  | refine ZL.skip rfl rfl rfl rfl ?_ | refine ZL.on rfl rfl rfl ?_  | refine ZL.val (r_convInt rfl (wrap_i64 (by omega) (by omega))) rfl ?_ | refine ZL.val (r_convInt rfl (wrap_u64 (by omega) (by omega))) rfl ?_ | refine ZL.val (r_convInt rfl (wrap_u32 (by omega) (by omega))) rfl ?_ | refine ZL.val (r_convInt rfl (wrap_u8 (by omega) (by omega))) rfl ?_))
  refine ZL.append M rfl rfl (h.ext M.ext) (u8_one l) (by simp only [maxLen]; omega) (by omega) rfl (fun v1 w2 M2 => ?_)
  repeat (first | (first | refine ZC.seq ?_ | refine ZC.region ?_ | refine ZC.skip ?_ | refine ZC.ret ?_ | refine ZC.exit ?_ | refine ZC.block ?_ | refine ZL.nil ?_ | refine ZP.thenX ?_ | refine ZP.thenR ?_ | refine ZP.blockN ?_ | refine ZP.blockR ?_ | refine ZP.blockE ?_ | refine ZP.blockX rfl ?_ | refine ZP.then ?_) | (first | refine ZL.val (r_move rfl) rfl ?_ | refine ZL.val (r_assign rfl) rfl ?_ | refine ZL.val (r_fieldAddr rfl) rfl ?_ | refine ZL.val (r_add rfl rfl (wrap_i64 (by omega) (by omega))) rfl ?_ | refine ZL.val (r_sub rfl rfl (wrap_i64 (by omega) (by omega))) rfl ?_ | refine ZL.val (r_mul rfl rfl (wrap_i64 (by omega) (by omega))) rfl ?_  | refine ZL.val (r_lss rfl rfl) rfl ?_ | refine ZL.val (r_leq rfl rfl) rfl ?_ | refine ZL.val (r_gtr rfl rfl) rfl ?_ | refine ZL.val (r_geq rfl rfl) rfl ?_ | refine ZL.val (r_eql rfl rfl) rfl ?_ | refine ZL.val (r_neq rfl rfl) rfl ?_ | refine ZL.val (r_not rfl) rfl ?_  | refine ZL.val (r_lenSlice rfl) rfl ?_ | refine ZL.val (r_lenString rfl) rfl ?_ | refine ZL.val (r_extract rfl rfl) rfl ?_ | refine ZL.val (r_nilCheck rfl) rfl ?_ | refine ZL.val (r_makeFunc rfl rfl) rfl ?_ | refine ZL.val (r_eqlPtrNil rfl rfl) rfl ?_ | refine ZL.val (r_pickT rfl rfl) rfl ?_ | refine ZL.val (r_pickF rfl rfl) rfl ?_  | refine ZL.val (r_eqlSliceNil rfl rfl) rfl ?_ | refine ZL.val (r_max rfl rfl (Int.max_eq_left (by omega))) rfl ?_ | refine ZL.val (r_max rfl rfl (Int.max_eq_right (by omega))) rfl ?_ | refine ZL.val (r_min rfl rfl (Int.min_eq_left (by omega))) rfl ?_ | refine ZL.val (r_min rfl rfl (Int.min_eq_right (by omega))) rfl ?_  | refine ZL.skip rfl rfl rfl rfl ?_ | refine ZL.on rfl rfl rfl ?_  | refine ZL.val (r_convInt rfl (wrap_i64 (by omega) (by omega))) rfl ?_ | refine ZL.val (r_convInt rfl (wrap_u64 (by omega) (by omega))) rfl ?_ | refine ZL.val (r_convInt rfl (wrap_u32 (by omega) (by omega))) rfl ?_ | refine ZL.val (r_convInt rfl (wrap_u8 (by omega) (by omega))) rfl ?_))
  refine ZL.val (r_convInt rfl (wrap_u8_nat _)) rfl ?_
  repeat (first | (first | refine ZC.seq ?_ | refine ZC.region ?_ | refine ZC.skip ?_ | refine ZC.ret ?_ | refine ZC.exit ?_ | refine ZC.block ?_ | refine ZL.nil ?_ | refine ZP.thenX ?_ | refine ZP.thenR ?_ | refine ZP.blockN ?_ | refine ZP.blockR ?_ | refine ZP.blockE ?_ | refine ZP.blockX rfl ?_ | refine ZP.then ?_) | (first | refine ZL.val (r_move rfl) rfl ?_ | refine ZL.val (r_assign rfl) rfl ?_ | refine ZL.val (r_fieldAddr rfl) rfl ?_ | refine ZL.val (r_add rfl rfl (wrap_i64 (by omega) (by omega))) rfl ?_ | refine ZL.val (r_sub rfl rfl (wrap_i64 (by omega) (by omega))) rfl ?_ | refine ZL.val (r_mul rfl rfl (wrap_i64 (by omega) (by omega))) rfl ?_  | refine ZL.val (r_lss rfl rfl) rfl ?_ | refine ZL.val (r_leq rfl rfl) rfl ?_ | refine ZL.val (r_gtr rfl rfl) rfl ?_ | refine ZL.val (r_geq rfl rfl) rfl ?_ | refine ZL.val (r_eql rfl rfl) rfl ?_ | refine ZL.val (r_neq rfl rfl) rfl ?_ | refine ZL.val (r_not rfl) rfl ?_  | refine ZL.val (r_lenSlice rfl) rfl ?_ | refine ZL.val (r_lenString rfl) rfl ?_ | refine ZL.val (r_extract rfl rfl) rfl ?_ | refine ZL.val (r_nilCheck rfl) rfl ?_ | refine ZL.val (r_makeFunc rfl rfl) rfl ?_ | refine ZL.val (r_eqlPtrNil rfl rfl) rfl ?_ | refine ZL.val (r_pickT rfl rfl) rfl ?_ | refine ZL.val (r_pickF rfl rfl) rfl ?_  | refine ZL.val (r_eqlSliceNil rfl rfl) rfl ?_ | refine ZL.val (r_max rfl rfl (Int.max_eq_left (by omega))) rfl ?_ | refine ZL.val (r_max rfl rfl (Int.max_eq_right (by omega))) rfl ?_ | refine ZL.val (r_min rfl rfl (Int.min_eq_left (by omega))) rfl ?_ | refine ZL.val (r_min rfl rfl (Int.min_eq_right (by omega))) rfl ?_  | refine ZL.skip rfl rfl rfl rfl ?_ | refine ZL.on rfl rfl rfl ?_  | refine ZL.val (r_convInt rfl (wrap_i64 (by omega) (by omega))) rfl ?_ | refine ZL.val (r_convInt rfl (wrap_u64 (by omega) (by omega))) rfl ?_ | refine ZL.val (r_convInt rfl (wrap_u32 (by omega) (by omega))) rfl ?_ | refine ZL.val (r_convInt rfl (wrap_u8 (by omega) (by omega))) rfl ?_))
  refine ZL.val (r_shr rfl rfl (by omega) (shr_nat (n) (8) 32 (by omega))) rfl ?_
  refine ZL.val (r_convInt rfl (wrap_u8_nat _)) rfl ?_
  repeat (first | (first | refine ZC.seq ?_ | refine ZC.region ?_ | refine ZC.skip ?_ | refine ZC.ret ?_ | refine ZC.exit ?_ | refine ZC.block ?_ | refine ZL.nil ?_ | refine ZP.thenX ?_ | refine ZP.thenR ?_ | refine ZP.blockN ?_ | refine ZP.blockR ?_ | refine ZP.blockE ?_ | refine ZP.blockX rfl ?_ | refine ZP.then ?_) | (first | refine ZL.val (r_move rfl) rfl ?_ | refine ZL.val (r_assign rfl) rfl ?_ | refine ZL.val (r_fieldAddr rfl) rfl ?_ | refine ZL.val (r_add rfl rfl (wrap_i64 (by omega) (by omega))) rfl ?_ | refine ZL.val (r_sub rfl rfl (wrap_i64 (by omega) (by omega))) rfl ?_ | refine ZL.val (r_mul rfl rfl (wrap_i64 (by omega) (by omega))) rfl ?_  | refine ZL.val (r_lss rfl rfl) rfl ?_ | refine ZL.val (r_leq rfl rfl) rfl ?_ | refine ZL.val (r_gtr rfl rfl) rfl ?_ | refine ZL.val (r_geq rfl rfl) rfl ?_ | refine ZL.val (r_eql rfl rfl) rfl ?_ | refine ZL.val (r_neq rfl rfl) rfl ?_ | refine ZL.val (r_not rfl) rfl ?_  | refine ZL.val (r_lenSlice rfl) rfl ?_ | refine ZL.val (r_lenString rfl) rfl ?_ | refine ZL.val (r_extract rfl rfl) rfl ?_ | refine ZL.val (r_nilCheck rfl) rfl ?_ | refine ZL.val (r_makeFunc rfl rfl) rfl ?_ | refine ZL.val (r_eqlPtrNil rfl rfl) rfl ?_ | refine ZL.val (r_pickT rfl rfl) rfl ?_ | refine ZL.val (r_pickF rfl rfl) rfl ?_  | refine ZL.val (r_eqlSliceNil rfl rfl) rfl ?_ | refine ZL.val (r_max rfl rfl (Int.max_eq_left (by omega))) rfl ?_ | refine ZL.val (r_max rfl rfl (Int.max_eq_right (by omega))) rfl ?_ | refine ZL.val (r_min rfl rfl (Int.min_eq_left (by omega))) rfl ?_ | refine ZL.val (r_min rfl rfl (Int.min_eq_right (by omega))) rfl ?_  | refine ZL.skip rfl rfl rfl rfl ?_ | refine ZL.on rfl rfl rfl ?_  | refine ZL.val (r_convInt rfl (wrap_i64 (by omega) (by omega))) rfl ?_ | refine ZL.val (r_convInt rfl (wrap_u64 (by omega) (by omega))) rfl ?_ | refine ZL.val (r_convInt rfl (wrap_u32 (by omega) (by omega))) rfl ?_ | refine ZL.val (r_convInt rfl (wrap_u8 (by omega) (by omega))) rfl ?_))
  refine ZL.val (r_shr rfl rfl (by omega) (shr_nat (n) (16) 32 (by omega))) rfl ?_
  refine ZL.val (r_convInt rfl (wrap_u8_nat _)) rfl ?_
  repeat (first | (first | refine ZC.seq ?_ | refine ZC.region ?_ | refine ZC.skip ?_ | refine ZC.ret ?_ | refine ZC.exit ?_ | refine ZC.block ?_ | refine ZL.nil ?_ | refine ZP.thenX ?_ | refine ZP.thenR ?_ | refine ZP.blockN ?_ | refine ZP.blockR ?_ | refine ZP.blockE ?_ | refine ZP.blockX rfl ?_ | refine ZP.then ?_) | (first | refine ZL.val (r_move rfl) rfl ?_ | refine ZL.val (r_assign rfl) rfl ?_ | refine ZL.val (r_fieldAddr rfl) rfl ?_ | refine ZL.val (r_add rfl rfl (wrap_i64 (by omega) (by omega))) rfl ?_ | refine ZL.val (r_sub rfl rfl (wrap_i64 (by omega) (by omega))) rfl ?_ | refine ZL.val (r_mul rfl rfl (wrap_i64 (by omega) (by omega))) rfl ?_  | refine ZL.val (r_lss rfl rfl) rfl ?_ | refine ZL.val (r_leq rfl rfl) rfl ?_ | refine ZL.val (r_gtr rfl rfl) rfl ?_ | refine ZL.val (r_geq rfl rfl) rfl ?_ | refine ZL.val (r_eql rfl rfl) rfl ?_ | refine ZL.val (r_neq rfl rfl) rfl ?_ | refine ZL.val (r_not rfl) rfl ?_  | refine ZL.val (r_lenSlice rfl) rfl ?_ | refine ZL.val (r_lenString rfl) rfl ?_ | refine ZL.val (r_extract rfl rfl) rfl ?_ | refine ZL.val (r_nilCheck rfl) rfl ?_ | refine ZL.val (r_makeFunc rfl rfl) rfl ?_ | refine ZL.val (r_eqlPtrNil rfl rfl) rfl ?_ | refine ZL.val (r_pickT rfl rfl) rfl ?_ | refine ZL.val (r_pickF rfl rfl) rfl ?_  | refine ZL.val (r_eqlSliceNil rfl rfl) rfl ?_ | refine ZL.val (r_max rfl rfl (Int.max_eq_left (by omega))) rfl ?_ | refine ZL.val (r_max rfl rfl (Int.max_eq_right (by omega))) rfl ?_ | refine ZL.val (r_min rfl rfl (Int.min_eq_left (by omega))) rfl ?_ | refine ZL.val (r_min rfl rfl (Int.min_eq_right (by omega))) rfl ?_  | refine ZL.skip rfl rfl rfl rfl ?_ | refine ZL.on rfl rfl rfl ?_  | refine ZL.val (r_convInt rfl (wrap_i64 (by omega) (by omega))) rfl ?_ | refine ZL.val (r_convInt rfl (wrap_u64 (by omega) (by omega))) rfl ?_ | refine ZL.val (r_convInt rfl (wrap_u32 (by omega) (by omega))) rfl ?_ | refine ZL.val (r_convInt rfl (wrap_u8 (by omega) (by omega))) rfl ?_))
  refine ZL.val (r_shr rfl rfl (by omega) (shr_nat (n) (24) 32 (by omega))) rfl ?_
  refine ZL.val (r_convInt rfl (wrap_u8_nat _)) rfl ?_
  refine ZL.bslice M2 rfl rfl rfl (by simp [Value.cells]) (by decide) rfl (fun g w3 M3 => ?_)
  refine ZL.append M3 rfl rfl (M3.own.slc (X := No) (fun _ _ h => h)) (by simp [Value.oneCell']) (by simp only [maxLen]; omega) (by omega) rfl (fun v2 w4 M4 => ?_)
  repeat (first | (first | refine ZC.seq ?_ | refine ZC.region ?_ | refine ZC.skip ?_ | refine ZC.ret ?_ | refine ZC.exit ?_ | refine ZC.block ?_ | refine ZL.nil ?_ | refine ZP.thenX ?_ | refine ZP.thenR ?_ | refine ZP.blockN ?_ | refine ZP.blockR ?_ | refine ZP.blockE ?_ | refine ZP.blockX rfl ?_ | refine ZP.then ?_) | (first | refine ZL.val (r_move rfl) rfl ?_ | refine ZL.val (r_assign rfl) rfl ?_ | refine ZL.val (r_fieldAddr rfl) rfl ?_ | refine ZL.val (r_add rfl rfl (wrap_i64 (by omega) (by omega))) rfl ?_ | refine ZL.val (r_sub rfl rfl (wrap_i64 (by omega) (by omega))) rfl ?_ | refine ZL.val (r_mul rfl rfl (wrap_i64 (by omega) (by omega))) rfl ?_  | refine ZL.val (r_lss rfl rfl) rfl ?_ | refine ZL.val (r_leq rfl rfl) rfl ?_ | refine ZL.val (r_gtr rfl rfl) rfl ?_ | refine ZL.val (r_geq rfl rfl) rfl ?_ | refine ZL.val (r_eql rfl rfl) rfl ?_ | refine ZL.val (r_neq rfl rfl) rfl ?_ | refine ZL.val (r_not rfl) rfl ?_  | refine ZL.val (r_lenSlice rfl) rfl ?_ | refine ZL.val (r_lenString rfl) rfl ?_ | refine ZL.val (r_extract rfl rfl) rfl ?_ | refine ZL.val (r_nilCheck rfl) rfl ?_ | refine ZL.val (r_makeFunc rfl rfl) rfl ?_ | refine ZL.val (r_eqlPtrNil rfl rfl) rfl ?_ | refine ZL.val (r_pickT rfl rfl) rfl ?_ | refine ZL.val (r_pickF rfl rfl) rfl ?_  | refine ZL.val (r_eqlSliceNil rfl rfl) rfl ?_ | refine ZL.val (r_max rfl rfl (Int.max_eq_left (by omega))) rfl ?_ | refine ZL.val (r_max rfl rfl (Int.max_eq_right (by omega))) rfl ?_ | refine ZL.val (r_min rfl rfl (Int.min_eq_left (by omega))) rfl ?_ | refine ZL.val (r_min rfl rfl (Int.min_eq_right (by omega))) rfl ?_  | refine ZL.skip rfl rfl rfl rfl ?_ | refine ZL.on rfl rfl rfl ?_  | refine ZL.val (r_convInt rfl (wrap_i64 (by omega) (by omega))) rfl ?_ | refine ZL.val (r_convInt rfl (wrap_u64 (by omega) (by omega))) rfl ?_ | refine ZL.val (r_convInt rfl (wrap_u32 (by omega) (by omega))) rfl ?_ | refine ZL.val (r_convInt rfl (wrap_u8 (by omega) (by omega))) rfl ?_))
  exact ZP.ret1 rfl rfl (M4.drop.new (by simp [le_length]) (by simp [le4, u8]))

theorem wrap_u32_nat (m : Nat) : IntKind.u32.wrap (m : Int) = ((m % 4294967296 : Nat) : Int) := by
  simp only [IntKind.wrap, IntKind.bits, IntKind.signed]; simp
theorem le8 (n : Nat) : le n 8 = le (n % 4294967296) 4 ++ le (n / 2 ^ 32 % 4294967296) 4 := by
  have e : ∀ a b : Nat, a % 256 = b % 256 → UInt8.ofNat a = UInt8.ofNat b := fun a b h => by
    apply UInt8.toNat_inj.1; simpa using h
  simp only [le4]
  simp only [le, List.range_succ, List.range_zero, List.nil_append, List.map_append, List.map_cons, List.map_nil, List.cons_append, List.cons.injEq, and_true]
  refine ⟨e _ _ ?_, e _ _ ?_, e _ _ ?_, e _ _ ?_, e _ _ ?_, e _ _ ?_, e _ _ ?_, e _ _ ?_⟩ <;> simp only [Nat.reducePow, Nat.reduceMul] <;> omega

theorem refBig_ok (v : Value) (l : List UInt8) (n : Nat) (w : World) (X : Nat → Prop) (h : BytesR w X v l) (hl : l.length ≤ 900000) (hn : n < 2 ^ 64) :
    Ret P 69 #[v, .int .u64 n] w (fun r w' => Ext w w' ∧ BytesO w w' r (l ++ le n 8)) := by
  refine Ret.enter2 Tryz.func69 rfl Tryz.ntmps69 rfl ?_
  repeat (first | (first | refine ZC.seq ?_ | refine ZC.region ?_ | refine ZC.skip ?_ | refine ZC.ret ?_ | refine ZC.exit ?_ | refine ZC.block ?_ | refine ZL.nil ?_ | refine ZP.thenX ?_ | refine ZP.thenR ?_ | refine ZP.blockN ?_ | refine ZP.blockR ?_ | refine ZP.blockE ?_ | refine ZP.blockX rfl ?_ | refine ZP.then ?_) | (first | refine ZL.val (r_move rfl) rfl ?_ | refine ZL.val (r_assign rfl) rfl ?_ | refine ZL.val (r_fieldAddr rfl) rfl ?_ | refine ZL.val (r_add rfl rfl (wrap_i64 (by omega) (by omega))) rfl ?_ | refine ZL.val (r_sub rfl rfl (wrap_i64 (by omega) (by omega))) rfl ?_ | refine ZL.val (r_mul rfl rfl (wrap_i64 (by omega) (by omega))) rfl ?_  | refine ZL.val (r_lss rfl rfl) rfl ?_ | refine ZL.val (r_leq rfl rfl) rfl ?_ | refine ZL.val (r_gtr rfl rfl) rfl ?_ | refine ZL.val (r_geq rfl rfl) rfl ?_ | refine ZL.val (r_eql rfl rfl) rfl ?_ | refine ZL.val (r_neq rfl rfl) rfl ?_ | refine ZL.val (r_not rfl) rfl ?_  | refine ZL.val (r_lenSlice rfl) rfl ?_ | refine ZL.val (r_lenString rfl) rfl ?_ | refine ZL.val (r_extract rfl rfl) rfl ?_ | refine ZL.val (r_nilCheck rfl) rfl ?_ | refine ZL.val (r_makeFunc rfl rfl) rfl ?_ | refine ZL.val (r_eqlPtrNil rfl rfl) rfl ?_ | refine ZL.val (r_pickT rfl rfl) rfl ?_ | refine ZL.val (r_pickF rfl rfl) rfl ?_  | refine ZL.val (r_eqlSliceNil rfl rfl) rfl ?_ | refine ZL.val (r_max rfl rfl (Int.max_eq_left (by omega))) rfl ?_ | refine ZL.val (r_max rfl rfl (Int.max_eq_right (by omega))) rfl ?_ | refine ZL.val (r_min rfl rfl (Int.min_eq_left (by omega))) rfl ?_ | refine ZL.val (r_min rfl rfl (Int.min_eq_right (by omega))) rfl ?_  | refine ZL.skip rfl rfl rfl rfl ?_ | refine ZL.on rfl rfl rfl ?_  | refine ZL.val (r_convInt rfl (wrap_i64 (by omega) (by omega))) rfl ?_ | refine ZL.val (r_convInt rfl (wrap_u64 (by omega) (by omega))) rfl ?_ | refine ZL.val (r_convInt rfl (wrap_u32 (by omega) (by omega))) rfl ?_ | refine ZL.val (r_convInt rfl (wrap_u8 (by omega) (by omega))) rfl ?_))
  refine ZL.val (r_convInt rfl (wrap_u32_nat _)) rfl ?_
  refine ZL.call (r_call rfl) rfl (refSmall_ok v l (n % 4294967296) w X h (by omega) (by omega)) (fun v1 w1 ⟨E1, O1⟩ => ?_)
  repeat (first | (first | refine ZC.seq ?_ | refine ZC.region ?_ | refine ZC.skip ?_ | refine ZC.ret ?_ | refine ZC.exit ?_ | refine ZC.block ?_ | refine ZL.nil ?_ | refine ZP.thenX ?_ | refine ZP.thenR ?_ | refine ZP.blockN ?_ | refine ZP.blockR ?_ | refine ZP.blockE ?_ | refine ZP.blockX rfl ?_ | refine ZP.then ?_) | (first | refine ZL.val (r_move rfl) rfl ?_ | refine ZL.val (r_assign rfl) rfl ?_ | refine ZL.val (r_fieldAddr rfl) rfl ?_ | refine ZL.val (r_add rfl rfl (wrap_i64 (by omega) (by omega))) rfl ?_ | refine ZL.val (r_sub rfl rfl (wrap_i64 (by omega) (by omega))) rfl ?_ | refine ZL.val (r_mul rfl rfl (wrap_i64 (by omega) (by omega))) rfl ?_  | refine ZL.val (r_lss rfl rfl) rfl ?_ | refine ZL.val (r_leq rfl rfl) rfl ?_ | refine ZL.val (r_gtr rfl rfl) rfl ?_ | refine ZL.val (r_geq rfl rfl) rfl ?_ | refine ZL.val (r_eql rfl rfl) rfl ?_ | refine ZL.val (r_neq rfl rfl) rfl ?_ | refine ZL.val (r_not rfl) rfl ?_  | refine ZL.val (r_lenSlice rfl) rfl ?_ | refine ZL.val (r_lenString rfl) rfl ?_ | refine ZL.val (r_extract rfl rfl) rfl ?_ | refine ZL.val (r_nilCheck rfl) rfl ?_ | refine ZL.val (r_makeFunc rfl rfl) rfl ?_ | refine ZL.val (r_eqlPtrNil rfl rfl) rfl ?_ | refine ZL.val (r_pickT rfl rfl) rfl ?_ | refine ZL.val (r_pickF rfl rfl) rfl ?_  | refine ZL.val (r_eqlSliceNil rfl rfl) rfl ?_ | refine ZL.val (r_max rfl rfl (Int.max_eq_left (by omega))) rfl ?_ | refine ZL.val (r_max rfl rfl (Int.max_eq_right (by omega))) rfl ?_ | refine ZL.val (r_min rfl rfl (Int.min_eq_left (by omega))) rfl ?_ | refine ZL.val (r_min rfl rfl (Int.min_eq_right (by omega))) rfl ?_  | refine ZL.skip rfl rfl rfl rfl ?_ | refine ZL.on rfl rfl rfl ?_  | refine ZL.val (r_convInt rfl (wrap_i64 (by omega) (by omega))) rfl ?_ | refine ZL.val (r_convInt rfl (wrap_u64 (by omega) (by omega))) rfl ?_ | refine ZL.val (r_convInt rfl (wrap_u32 (by omega) (by omega))) rfl ?_ | refine ZL.val (r_convInt rfl (wrap_u8 (by omega) (by omega))) rfl ?_))
  refine ZL.val (r_shr rfl rfl (by omega) (shr_nat (n) (32) 64 (by omega))) rfl ?_
  refine ZL.val (r_convInt rfl (wrap_u32_nat _)) rfl ?_
  refine ZL.call (r_call rfl) rfl (refSmall_ok v1 _ (n / 2 ^ 32 % 4294967296) w1 _ O1.r (by simp [le_length]; omega) (by omega)) (fun v2 w2 ⟨E2, O2⟩ => ?_)
  repeat (first | (first | refine ZC.seq ?_ | refine ZC.region ?_ | refine ZC.skip ?_ | refine ZC.ret ?_ | refine ZC.exit ?_ | refine ZC.block ?_ | refine ZL.nil ?_ | refine ZP.thenX ?_ | refine ZP.thenR ?_ | refine ZP.blockN ?_ | refine ZP.blockR ?_ | refine ZP.blockE ?_ | refine ZP.blockX rfl ?_ | refine ZP.then ?_) | (first | refine ZL.val (r_move rfl) rfl ?_ | refine ZL.val (r_assign rfl) rfl ?_ | refine ZL.val (r_fieldAddr rfl) rfl ?_ | refine ZL.val (r_add rfl rfl (wrap_i64 (by omega) (by omega))) rfl ?_ | refine ZL.val (r_sub rfl rfl (wrap_i64 (by omega) (by omega))) rfl ?_ | refine ZL.val (r_mul rfl rfl (wrap_i64 (by omega) (by omega))) rfl ?_  | refine ZL.val (r_lss rfl rfl) rfl ?_ | refine ZL.val (r_leq rfl rfl) rfl ?_ | refine ZL.val (r_gtr rfl rfl) rfl ?_ | refine ZL.val (r_geq rfl rfl) rfl ?_ | refine ZL.val (r_eql rfl rfl) rfl ?_ | refine ZL.val (r_neq rfl rfl) rfl ?_ | refine ZL.val (r_not rfl) rfl ?_  | refine ZL.val (r_lenSlice rfl) rfl ?_ | refine ZL.val (r_lenString rfl) rfl ?_ | refine ZL.val (r_extract rfl rfl) rfl ?_ | refine ZL.val (r_nilCheck rfl) rfl ?_ | refine ZL.val (r_makeFunc rfl rfl) rfl ?_ | refine ZL.val (r_eqlPtrNil rfl rfl) rfl ?_ | refine ZL.val (r_pickT rfl rfl) rfl ?_ | refine ZL.val (r_pickF rfl rfl) rfl ?_  | refine ZL.val (r_eqlSliceNil rfl rfl) rfl ?_ | refine ZL.val (r_max rfl rfl (Int.max_eq_left (by omega))) rfl ?_ | refine ZL.val (r_max rfl rfl (Int.max_eq_right (by omega))) rfl ?_ | refine ZL.val (r_min rfl rfl (Int.min_eq_left (by omega))) rfl ?_ | refine ZL.val (r_min rfl rfl (Int.min_eq_right (by omega))) rfl ?_  | refine ZL.skip rfl rfl rfl rfl ?_ | refine ZL.on rfl rfl rfl ?_  | refine ZL.val (r_convInt rfl (wrap_i64 (by omega) (by omega))) rfl ?_ | refine ZL.val (r_convInt rfl (wrap_u64 (by omega) (by omega))) rfl ?_ | refine ZL.val (r_convInt rfl (wrap_u32 (by omega) (by omega))) rfl ?_ | refine ZL.val (r_convInt rfl (wrap_u8 (by omega) (by omega))) rfl ?_))
  refine ZP.ret1 rfl rfl ⟨E1.trans E2, ?_⟩
  rw [le8, ← List.append_assoc]; exact O2.older E1

theorem refCount_ok (v : Value) (l : List UInt8) (n : Nat) (w : World) (X : Nat → Prop) (h : BytesR w X v l) (hl : l.length ≤ 900000) (hn : n < 100000) :
    Ret P 45 #[v, .int .i64 n] w (fun r w' => Ext w w' ∧ BytesO w w' r (l ++ cnt n)) := by
  unfold cnt
  refine Ret.enter2 Tryz.func45 rfl Tryz.ntmps45 rfl ?_
  repeat (first | (first | refine ZC.seq ?_ | refine ZC.region ?_ | refine ZC.skip ?_ | refine ZC.ret ?_ | refine ZC.exit ?_ | refine ZC.block ?_ | refine ZL.nil ?_ | refine ZP.thenX ?_ | refine ZP.thenR ?_ | refine ZP.blockN ?_ | refine ZP.blockR ?_ | refine ZP.blockE ?_ | refine ZP.blockX rfl ?_ | refine ZP.then ?_) | (first | refine ZL.val (r_move rfl) rfl ?_ | refine ZL.val (r_assign rfl) rfl ?_ | refine ZL.val (r_fieldAddr rfl) rfl ?_ | refine ZL.val (r_add rfl rfl (wrap_i64 (by omega) (by omega))) rfl ?_ | refine ZL.val (r_sub rfl rfl (wrap_i64 (by omega) (by omega))) rfl ?_ | refine ZL.val (r_mul rfl rfl (wrap_i64 (by omega) (by omega))) rfl ?_  | refine ZL.val (r_lss rfl rfl) rfl ?_ | refine ZL.val (r_leq rfl rfl) rfl ?_ | refine ZL.val (r_gtr rfl rfl) rfl ?_ | refine ZL.val (r_geq rfl rfl) rfl ?_ | refine ZL.val (r_eql rfl rfl) rfl ?_ | refine ZL.val (r_neq rfl rfl) rfl ?_ | refine ZL.val (r_not rfl) rfl ?_  | refine ZL.val (r_lenSlice rfl) rfl ?_ | refine ZL.val (r_lenString rfl) rfl ?_ | refine ZL.val (r_extract rfl rfl) rfl ?_ | refine ZL.val (r_nilCheck rfl) rfl ?_ | refine ZL.val (r_makeFunc rfl rfl) rfl ?_ | refine ZL.val (r_eqlPtrNil rfl rfl) rfl ?_ | refine ZL.val (r_pickT rfl rfl) rfl ?_ | refine ZL.val (r_pickF rfl rfl) rfl ?_  | refine ZL.val (r_eqlSliceNil rfl rfl) rfl ?_ | refine ZL.val (r_max rfl rfl (Int.max_eq_left (by omega))) rfl ?_ | refine ZL.val (r_max rfl rfl (Int.max_eq_right (by omega))) rfl ?_ | refine ZL.val (r_min rfl rfl (Int.min_eq_left (by omega))) rfl ?_ | refine ZL.val (r_min rfl rfl (Int.min_eq_right (by omega))) rfl ?_  | refine ZL.skip rfl rfl rfl rfl ?_ | refine ZL.on rfl rfl rfl ?_  | refine ZL.val (r_convInt rfl (wrap_i64 (by omega) (by omega))) rfl ?_ | refine ZL.val (r_convInt rfl (wrap_u64 (by omega) (by omega))) rfl ?_ | refine ZL.val (r_convInt rfl (wrap_u32 (by omega) (by omega))) rfl ?_ | refine ZL.val (r_convInt rfl (wrap_u8 (by omega) (by omega))) rfl ?_))
  refine ZL.bslice (Mem.start w No) rfl rfl rfl (by simp) (by decide) rfl (fun g w1 M => ?_)
  repeat (first | (first | refine ZC.seq ?_ | refine ZC.region ?_ | refine ZC.skip ?_ | refine ZC.ret ?_ | refine ZC.exit ?_ | refine ZC.block ?_ | refine ZL.nil ?_ | refine ZP.thenX ?_ | refine ZP.thenR ?_ | refine ZP.blockN ?_ | refine ZP.blockR ?_ | refine ZP.blockE ?_ | refine ZP.blockX rfl ?_ | refine ZP.then ?_) | (first | refine ZL.val (r_move rfl) rfl ?_ | refine ZL.val (r_assign rfl) rfl ?_ | refine ZL.val (r_fieldAddr rfl) rfl ?_ | refine ZL.val (r_add rfl rfl (wrap_i64 (by omega) (by omega))) rfl ?_ | refine ZL.val (r_sub rfl rfl (wrap_i64 (by omega) (by omega))) rfl ?_ | refine ZL.val (r_mul rfl rfl (wrap_i64 (by omega) (by omega))) rfl ?_  | refine ZL.val (r_lss rfl rfl) rfl ?_ | refine ZL.val (r_leq rfl rfl) rfl ?_ | refine ZL.val (r_gtr rfl rfl) rfl ?_ | refine ZL.val (r_geq rfl rfl) rfl ?_ | refine ZL.val (r_eql rfl rfl) rfl ?_ | refine ZL.val (r_neq rfl rfl) rfl ?_ | refine ZL.val (r_not rfl) rfl ?_  | refine ZL.val (r_lenSlice rfl) rfl ?_ | refine ZL.val (r_lenString rfl) rfl ?_ | refine ZL.val (r_extract rfl rfl) rfl ?_ | refine ZL.val (r_nilCheck rfl) rfl ?_ | refine ZL.val (r_makeFunc rfl rfl) rfl ?_ | refine ZL.val (r_eqlPtrNil rfl rfl) rfl ?_ | refine ZL.val (r_pickT rfl rfl) rfl ?_ | refine ZL.val (r_pickF rfl rfl) rfl ?_  | refine ZL.val (r_eqlSliceNil rfl rfl) rfl ?_ | refine ZL.val (r_max rfl rfl (Int.max_eq_left (by omega))) rfl ?_ | refine ZL.val (r_max rfl rfl (Int.max_eq_right (by omega))) rfl ?_ | refine ZL.val (r_min rfl rfl (Int.min_eq_left (by omega))) rfl ?_ | refine ZL.val (r_min rfl rfl (Int.min_eq_right (by omega))) rfl ?_  | refine ZL.skip rfl rfl rfl rfl ?_ | refine ZL.on rfl rfl rfl ?_  | refine ZL.val (r_convInt rfl (wrap_i64 (by omega) (by omega))) rfl ?_ | refine ZL.val (r_convInt rfl (wrap_u64 (by omega) (by omega))) rfl ?_ | refine ZL.val (r_convInt rfl (wrap_u32 (by omega) (by omega))) rfl ?_ | refine ZL.val (r_convInt rfl (wrap_u8 (by omega) (by omega))) rfl ?_))
  refine ZL.append M rfl rfl (h.ext M.ext) (u8_one l) (by simp only [maxLen]; omega) (by omega) rfl (fun v1 w2 M2 => ?_)
  repeat (first | (first | refine ZC.seq ?_ | refine ZC.region ?_ | refine ZC.skip ?_ | refine ZC.ret ?_ | refine ZC.exit ?_ | refine ZC.block ?_ | refine ZL.nil ?_ | refine ZP.thenX ?_ | refine ZP.thenR ?_ | refine ZP.blockN ?_ | refine ZP.blockR ?_ | refine ZP.blockE ?_ | refine ZP.blockX rfl ?_ | refine ZP.then ?_) | (first | refine ZL.val (r_move rfl) rfl ?_ | refine ZL.val (r_assign rfl) rfl ?_ | refine ZL.val (r_fieldAddr rfl) rfl ?_ | refine ZL.val (r_add rfl rfl (wrap_i64 (by omega) (by omega))) rfl ?_ | refine ZL.val (r_sub rfl rfl (wrap_i64 (by omega) (by omega))) rfl ?_ | refine ZL.val (r_mul rfl rfl (wrap_i64 (by omega) (by omega))) rfl ?_  | refine ZL.val (r_lss rfl rfl) rfl ?_ | refine ZL.val (r_leq rfl rfl) rfl ?_ | refine ZL.val (r_gtr rfl rfl) rfl ?_ | refine ZL.val (r_geq rfl rfl) rfl ?_ | refine ZL.val (r_eql rfl rfl) rfl ?_ | refine ZL.val (r_neq rfl rfl) rfl ?_ | refine ZL.val (r_not rfl) rfl ?_  | refine ZL.val (r_lenSlice rfl) rfl ?_ | refine ZL.val (r_lenString rfl) rfl ?_ | refine ZL.val (r_extract rfl rfl) rfl ?_ | refine ZL.val (r_nilCheck rfl) rfl ?_ | refine ZL.val (r_makeFunc rfl rfl) rfl ?_ | refine ZL.val (r_eqlPtrNil rfl rfl) rfl ?_ | refine ZL.val (r_pickT rfl rfl) rfl ?_ | refine ZL.val (r_pickF rfl rfl) rfl ?_  | refine ZL.val (r_eqlSliceNil rfl rfl) rfl ?_ | refine ZL.val (r_max rfl rfl (Int.max_eq_left (by omega))) rfl ?_ | refine ZL.val (r_max rfl rfl (Int.max_eq_right (by omega))) rfl ?_ | refine ZL.val (r_min rfl rfl (Int.min_eq_left (by omega))) rfl ?_ | refine ZL.val (r_min rfl rfl (Int.min_eq_right (by omega))) rfl ?_  | refine ZL.skip rfl rfl rfl rfl ?_ | refine ZL.on rfl rfl rfl ?_  | refine ZL.val (r_convInt rfl (wrap_i64 (by omega) (by omega))) rfl ?_ | refine ZL.val (r_convInt rfl (wrap_u64 (by omega) (by omega))) rfl ?_ | refine ZL.val (r_convInt rfl (wrap_u32 (by omega) (by omega))) rfl ?_ | refine ZL.val (r_convInt rfl (wrap_u8 (by omega) (by omega))) rfl ?_))
  refine ZC.condD rfl (fun hc => ?_) (fun hc => ?_)
  · rw [if_pos (by omega)]
    repeat (first | (first | refine ZC.seq ?_ | refine ZC.region ?_ | refine ZC.skip ?_ | refine ZC.ret ?_ | refine ZC.exit ?_ | refine ZC.block ?_ | refine ZL.nil ?_ | refine ZP.thenX ?_ | refine ZP.thenR ?_ | refine ZP.blockN ?_ | refine ZP.blockR ?_ | refine ZP.blockE ?_ | refine ZP.blockX rfl ?_ | refine ZP.then ?_) | (first | refine ZL.val (r_move rfl) rfl ?_ | refine ZL.val (r_assign rfl) rfl ?_ | refine ZL.val (r_fieldAddr rfl) rfl ?_ | refine ZL.val (r_add rfl rfl (wrap_i64 (by omega) (by omega))) rfl ?_ | refine ZL.val (r_sub rfl rfl (wrap_i64 (by omega) (by omega))) rfl ?_ | refine ZL.val (r_mul rfl rfl (wrap_i64 (by omega) (by omega))) rfl ?_  | refine ZL.val (r_lss rfl rfl) rfl ?_ | refine ZL.val (r_leq rfl rfl) rfl ?_ | refine ZL.val (r_gtr rfl rfl) rfl ?_ | refine ZL.val (r_geq rfl rfl) rfl ?_ | refine ZL.val (r_eql rfl rfl) rfl ?_ | refine ZL.val (r_neq rfl rfl) rfl ?_ | refine ZL.val (r_not rfl) rfl ?_  | refine ZL.val (r_lenSlice rfl) rfl ?_ | refine ZL.val (r_lenString rfl) rfl ?_ | refine ZL.val (r_extract rfl rfl) rfl ?_ | refine ZL.val (r_nilCheck rfl) rfl ?_ | refine ZL.val (r_makeFunc rfl rfl) rfl ?_ | refine ZL.val (r_eqlPtrNil rfl rfl) rfl ?_ | refine ZL.val (r_pickT rfl rfl) rfl ?_ | refine ZL.val (r_pickF rfl rfl) rfl ?_  | refine ZL.val (r_eqlSliceNil rfl rfl) rfl ?_ | refine ZL.val (r_max rfl rfl (Int.max_eq_left (by omega))) rfl ?_ | refine ZL.val (r_max rfl rfl (Int.max_eq_right (by omega))) rfl ?_ | refine ZL.val (r_min rfl rfl (Int.min_eq_left (by omega))) rfl ?_ | refine ZL.val (r_min rfl rfl (Int.min_eq_right (by omega))) rfl ?_  | refine ZL.skip rfl rfl rfl rfl ?_ | refine ZL.on rfl rfl rfl ?_  | refine ZL.val (r_convInt rfl (wrap_i64 (by omega) (by omega))) rfl ?_ | refine ZL.val (r_convInt rfl (wrap_u64 (by omega) (by omega))) rfl ?_ | refine ZL.val (r_convInt rfl (wrap_u32 (by omega) (by omega))) rfl ?_ | refine ZL.val (r_convInt rfl (wrap_u8 (by omega) (by omega))) rfl ?_))
    refine ZL.bslice M2 rfl rfl rfl (by simp [Value.cells]) (by decide) rfl (fun g w3 M3 => ?_)
    refine ZL.append M3 rfl rfl (M3.own.slc (X := No) (fun _ _ h => h)) (by simp [Value.oneCell']) (by simp only [maxLen]; omega) (by omega) rfl (fun v2 w4 M4 => ?_)
    repeat (first | (first | refine ZC.seq ?_ | refine ZC.region ?_ | refine ZC.skip ?_ | refine ZC.ret ?_ | refine ZC.exit ?_ | refine ZC.block ?_ | refine ZL.nil ?_ | refine ZP.thenX ?_ | refine ZP.thenR ?_ | refine ZP.blockN ?_ | refine ZP.blockR ?_ | refine ZP.blockE ?_ | refine ZP.blockX rfl ?_ | refine ZP.then ?_) | (first | refine ZL.val (r_move rfl) rfl ?_ | refine ZL.val (r_assign rfl) rfl ?_ | refine ZL.val (r_fieldAddr rfl) rfl ?_ | refine ZL.val (r_add rfl rfl (wrap_i64 (by omega) (by omega))) rfl ?_ | refine ZL.val (r_sub rfl rfl (wrap_i64 (by omega) (by omega))) rfl ?_ | refine ZL.val (r_mul rfl rfl (wrap_i64 (by omega) (by omega))) rfl ?_  | refine ZL.val (r_lss rfl rfl) rfl ?_ | refine ZL.val (r_leq rfl rfl) rfl ?_ | refine ZL.val (r_gtr rfl rfl) rfl ?_ | refine ZL.val (r_geq rfl rfl) rfl ?_ | refine ZL.val (r_eql rfl rfl) rfl ?_ | refine ZL.val (r_neq rfl rfl) rfl ?_ | refine ZL.val (r_not rfl) rfl ?_  | refine ZL.val (r_lenSlice rfl) rfl ?_ | refine ZL.val (r_lenString rfl) rfl ?_ | refine ZL.val (r_extract rfl rfl) rfl ?_ | refine ZL.val (r_nilCheck rfl) rfl ?_ | refine ZL.val (r_makeFunc rfl rfl) rfl ?_ | refine ZL.val (r_eqlPtrNil rfl rfl) rfl ?_ | refine ZL.val (r_pickT rfl rfl) rfl ?_ | refine ZL.val (r_pickF rfl rfl) rfl ?_  | refine ZL.val (r_eqlSliceNil rfl rfl) rfl ?_ | refine ZL.val (r_max rfl rfl (Int.max_eq_left (by omega))) rfl ?_ | refine ZL.val (r_max rfl rfl (Int.max_eq_right (by omega))) rfl ?_ | refine ZL.val (r_min rfl rfl (Int.min_eq_left (by omega))) rfl ?_ | refine ZL.val (r_min rfl rfl (Int.min_eq_right (by omega))) rfl ?_  | refine ZL.skip rfl rfl rfl rfl ?_ | refine ZL.on rfl rfl rfl ?_  | refine ZL.val (r_convInt rfl (wrap_i64 (by omega) (by omega))) rfl ?_ | refine ZL.val (r_convInt rfl (wrap_u64 (by omega) (by omega))) rfl ?_ | refine ZL.val (r_convInt rfl (wrap_u32 (by omega) (by omega))) rfl ?_ | refine ZL.val (r_convInt rfl (wrap_u8 (by omega) (by omega))) rfl ?_))
    exact ZP.ret1 rfl rfl (M4.drop.new (by simp [le_length]) (by simp [le1, u8]; omega))
  · rw [if_neg (by omega)]
    repeat (first | (first | refine ZC.seq ?_ | refine ZC.region ?_ | refine ZC.skip ?_ | refine ZC.ret ?_ | refine ZC.exit ?_ | refine ZC.block ?_ | refine ZL.nil ?_ | refine ZP.thenX ?_ | refine ZP.thenR ?_ | refine ZP.blockN ?_ | refine ZP.blockR ?_ | refine ZP.blockE ?_ | refine ZP.blockX rfl ?_ | refine ZP.then ?_) | (first | refine ZL.val (r_move rfl) rfl ?_ | refine ZL.val (r_assign rfl) rfl ?_ | refine ZL.val (r_fieldAddr rfl) rfl ?_ | refine ZL.val (r_add rfl rfl (wrap_i64 (by omega) (by omega))) rfl ?_ | refine ZL.val (r_sub rfl rfl (wrap_i64 (by omega) (by omega))) rfl ?_ | refine ZL.val (r_mul rfl rfl (wrap_i64 (by omega) (by omega))) rfl ?_  | refine ZL.val (r_lss rfl rfl) rfl ?_ | refine ZL.val (r_leq rfl rfl) rfl ?_ | refine ZL.val (r_gtr rfl rfl) rfl ?_ | refine ZL.val (r_geq rfl rfl) rfl ?_ | refine ZL.val (r_eql rfl rfl) rfl ?_ | refine ZL.val (r_neq rfl rfl) rfl ?_ | refine ZL.val (r_not rfl) rfl ?_  | refine ZL.val (r_lenSlice rfl) rfl ?_ | refine ZL.val (r_lenString rfl) rfl ?_ | refine ZL.val (r_extract rfl rfl) rfl ?_ | refine ZL.val (r_nilCheck rfl) rfl ?_ | refine ZL.val (r_makeFunc rfl rfl) rfl ?_ | refine ZL.val (r_eqlPtrNil rfl rfl) rfl ?_ | refine ZL.val (r_pickT rfl rfl) rfl ?_ | refine ZL.val (r_pickF rfl rfl) rfl ?_  | refine ZL.val (r_eqlSliceNil rfl rfl) rfl ?_ | refine ZL.val (r_max rfl rfl (Int.max_eq_left (by omega))) rfl ?_ | refine ZL.val (r_max rfl rfl (Int.max_eq_right (by omega))) rfl ?_ | refine ZL.val (r_min rfl rfl (Int.min_eq_left (by omega))) rfl ?_ | refine ZL.val (r_min rfl rfl (Int.min_eq_right (by omega))) rfl ?_  | refine ZL.skip rfl rfl rfl rfl ?_ | refine ZL.on rfl rfl rfl ?_  | refine ZL.val (r_convInt rfl (wrap_i64 (by omega) (by omega))) rfl ?_ | refine ZL.val (r_convInt rfl (wrap_u64 (by omega) (by omega))) rfl ?_ | refine ZL.val (r_convInt rfl (wrap_u32 (by omega) (by omega))) rfl ?_ | refine ZL.val (r_convInt rfl (wrap_u8 (by omega) (by omega))) rfl ?_))
    refine ZC.condD rfl (fun hd => ?_) (fun hd => ?_)
    · rw [if_pos (by omega)]
      repeat (first | (first | refine ZC.seq ?_ | refine ZC.region ?_ | refine ZC.skip ?_ | refine ZC.ret ?_ | refine ZC.exit ?_ | refine ZC.block ?_ | refine ZL.nil ?_ | refine ZP.thenX ?_ | refine ZP.thenR ?_ | refine ZP.blockN ?_ | refine ZP.blockR ?_ | refine ZP.blockE ?_ | refine ZP.blockX rfl ?_ | refine ZP.then ?_) | (first | refine ZL.val (r_move rfl) rfl ?_ | refine ZL.val (r_assign rfl) rfl ?_ | refine ZL.val (r_fieldAddr rfl) rfl ?_ | refine ZL.val (r_add rfl rfl (wrap_i64 (by omega) (by omega))) rfl ?_ | refine ZL.val (r_sub rfl rfl (wrap_i64 (by omega) (by omega))) rfl ?_ | refine ZL.val (r_mul rfl rfl (wrap_i64 (by omega) (by omega))) rfl ?_  | refine ZL.val (r_lss rfl rfl) rfl ?_ | refine ZL.val (r_leq rfl rfl) rfl ?_ | refine ZL.val (r_gtr rfl rfl) rfl ?_ | refine ZL.val (r_geq rfl rfl) rfl ?_ | refine ZL.val (r_eql rfl rfl) rfl ?_ | refine ZL.val (r_neq rfl rfl) rfl ?_ | refine ZL.val (r_not rfl) rfl ?_  | refine ZL.val (r_lenSlice rfl) rfl ?_ | refine ZL.val (r_lenString rfl) rfl ?_ | refine ZL.val (r_extract rfl rfl) rfl ?_ | refine ZL.val (r_nilCheck rfl) rfl ?_ | refine ZL.val (r_makeFunc rfl rfl) rfl ?_ | refine ZL.val (r_eqlPtrNil rfl rfl) rfl ?_ | refine ZL.val (r_pickT rfl rfl) rfl ?_ | refine ZL.val (r_pickF rfl rfl) rfl ?_  | refine ZL.val (r_eqlSliceNil rfl rfl) rfl ?_ | refine ZL.val (r_max rfl rfl (Int.max_eq_left (by omega))) rfl ?_ | refine ZL.val (r_max rfl rfl (Int.max_eq_right (by omega))) rfl ?_ | refine ZL.val (r_min rfl rfl (Int.min_eq_left (by omega))) rfl ?_ | refine ZL.val (r_min rfl rfl (Int.min_eq_right (by omega))) rfl ?_  | refine ZL.skip rfl rfl rfl rfl ?_ | refine ZL.on rfl rfl rfl ?_  | refine ZL.val (r_convInt rfl (wrap_i64 (by omega) (by omega))) rfl ?_ | refine ZL.val (r_convInt rfl (wrap_u64 (by omega) (by omega))) rfl ?_ | refine ZL.val (r_convInt rfl (wrap_u32 (by omega) (by omega))) rfl ?_ | refine ZL.val (r_convInt rfl (wrap_u8 (by omega) (by omega))) rfl ?_))
      refine ZL.val (r_convInt rfl (wrap_u8_nat _)) rfl ?_
      repeat (first | (first | refine ZC.seq ?_ | refine ZC.region ?_ | refine ZC.skip ?_ | refine ZC.ret ?_ | refine ZC.exit ?_ | refine ZC.block ?_ | refine ZL.nil ?_ | refine ZP.thenX ?_ | refine ZP.thenR ?_ | refine ZP.blockN ?_ | refine ZP.blockR ?_ | refine ZP.blockE ?_ | refine ZP.blockX rfl ?_ | refine ZP.then ?_) | (first | refine ZL.val (r_move rfl) rfl ?_ | refine ZL.val (r_assign rfl) rfl ?_ | refine ZL.val (r_fieldAddr rfl) rfl ?_ | refine ZL.val (r_add rfl rfl (wrap_i64 (by omega) (by omega))) rfl ?_ | refine ZL.val (r_sub rfl rfl (wrap_i64 (by omega) (by omega))) rfl ?_ | refine ZL.val (r_mul rfl rfl (wrap_i64 (by omega) (by omega))) rfl ?_  | refine ZL.val (r_lss rfl rfl) rfl ?_ | refine ZL.val (r_leq rfl rfl) rfl ?_ | refine ZL.val (r_gtr rfl rfl) rfl ?_ | refine ZL.val (r_geq rfl rfl) rfl ?_ | refine ZL.val (r_eql rfl rfl) rfl ?_ | refine ZL.val (r_neq rfl rfl) rfl ?_ | refine ZL.val (r_not rfl) rfl ?_  | refine ZL.val (r_lenSlice rfl) rfl ?_ | refine ZL.val (r_lenString rfl) rfl ?_ | refine ZL.val (r_extract rfl rfl) rfl ?_ | refine ZL.val (r_nilCheck rfl) rfl ?_ | refine ZL.val (r_makeFunc rfl rfl) rfl ?_ | refine ZL.val (r_eqlPtrNil rfl rfl) rfl ?_ | refine ZL.val (r_pickT rfl rfl) rfl ?_ | refine ZL.val (r_pickF rfl rfl) rfl ?_  | refine ZL.val (r_eqlSliceNil rfl rfl) rfl ?_ | refine ZL.val (r_max rfl rfl (Int.max_eq_left (by omega))) rfl ?_ | refine ZL.val (r_max rfl rfl (Int.max_eq_right (by omega))) rfl ?_ | refine ZL.val (r_min rfl rfl (Int.min_eq_left (by omega))) rfl ?_ | refine ZL.val (r_min rfl rfl (Int.min_eq_right (by omega))) rfl ?_  | refine ZL.skip rfl rfl rfl rfl ?_ | refine ZL.on rfl rfl rfl ?_  | refine ZL.val (r_convInt rfl (wrap_i64 (by omega) (by omega))) rfl ?_ | refine ZL.val (r_convInt rfl (wrap_u64 (by omega) (by omega))) rfl ?_ | refine ZL.val (r_convInt rfl (wrap_u32 (by omega) (by omega))) rfl ?_ | refine ZL.val (r_convInt rfl (wrap_u8 (by omega) (by omega))) rfl ?_))
      refine ZL.val (r_shr rfl rfl (by omega) (shr_nat (n) (8) 64 (by omega))) rfl ?_
      refine ZL.val (r_convInt rfl (wrap_u8_nat _)) rfl ?_
      refine ZL.bslice M2 rfl rfl rfl (by simp [Value.cells]) (by decide) rfl (fun g w3 M3 => ?_)
      refine ZL.append M3 rfl rfl (M3.own.slc (X := No) (fun _ _ h => h)) (by simp [Value.oneCell']) (by simp only [maxLen]; omega) (by omega) rfl (fun v2 w4 M4 => ?_)
      repeat (first | (first | refine ZC.seq ?_ | refine ZC.region ?_ | refine ZC.skip ?_ | refine ZC.ret ?_ | refine ZC.exit ?_ | refine ZC.block ?_ | refine ZL.nil ?_ | refine ZP.thenX ?_ | refine ZP.thenR ?_ | refine ZP.blockN ?_ | refine ZP.blockR ?_ | refine ZP.blockE ?_ | refine ZP.blockX rfl ?_ | refine ZP.then ?_) | (first | refine ZL.val (r_move rfl) rfl ?_ | refine ZL.val (r_assign rfl) rfl ?_ | refine ZL.val (r_fieldAddr rfl) rfl ?_ | refine ZL.val (r_add rfl rfl (wrap_i64 (by omega) (by omega))) rfl ?_ | refine ZL.val (r_sub rfl rfl (wrap_i64 (by omega) (by omega))) rfl ?_ | refine ZL.val (r_mul rfl rfl (wrap_i64 (by omega) (by omega))) rfl ?_  | refine ZL.val (r_lss rfl rfl) rfl ?_ | refine ZL.val (r_leq rfl rfl) rfl ?_ | refine ZL.val (r_gtr rfl rfl) rfl ?_ | refine ZL.val (r_geq rfl rfl) rfl ?_ | refine ZL.val (r_eql rfl rfl) rfl ?_ | refine ZL.val (r_neq rfl rfl) rfl ?_ | refine ZL.val (r_not rfl) rfl ?_  | refine ZL.val (r_lenSlice rfl) rfl ?_ | refine ZL.val (r_lenString rfl) rfl ?_ | refine ZL.val (r_extract rfl rfl) rfl ?_ | refine ZL.val (r_nilCheck rfl) rfl ?_ | refine ZL.val (r_makeFunc rfl rfl) rfl ?_ | refine ZL.val (r_eqlPtrNil rfl rfl) rfl ?_ | refine ZL.val (r_pickT rfl rfl) rfl ?_ | refine ZL.val (r_pickF rfl rfl) rfl ?_  | refine ZL.val (r_eqlSliceNil rfl rfl) rfl ?_ | refine ZL.val (r_max rfl rfl (Int.max_eq_left (by omega))) rfl ?_ | refine ZL.val (r_max rfl rfl (Int.max_eq_right (by omega))) rfl ?_ | refine ZL.val (r_min rfl rfl (Int.min_eq_left (by omega))) rfl ?_ | refine ZL.val (r_min rfl rfl (Int.min_eq_right (by omega))) rfl ?_  | refine ZL.skip rfl rfl rfl rfl ?_ | refine ZL.on rfl rfl rfl ?_  | refine ZL.val (r_convInt rfl (wrap_i64 (by omega) (by omega))) rfl ?_ | refine ZL.val (r_convInt rfl (wrap_u64 (by omega) (by omega))) rfl ?_ | refine ZL.val (r_convInt rfl (wrap_u32 (by omega) (by omega))) rfl ?_ | refine ZL.val (r_convInt rfl (wrap_u8 (by omega) (by omega))) rfl ?_))
      exact ZP.ret1 rfl rfl (M4.drop.new (by simp [le_length]) (by simp [le1, le2, u8]))
    · rw [if_neg (by omega)]
      repeat (first | (first | refine ZC.seq ?_ | refine ZC.region ?_ | refine ZC.skip ?_ | refine ZC.ret ?_ | refine ZC.exit ?_ | refine ZC.block ?_ | refine ZL.nil ?_ | refine ZP.thenX ?_ | refine ZP.thenR ?_ | refine ZP.blockN ?_ | refine ZP.blockR ?_ | refine ZP.blockE ?_ | refine ZP.blockX rfl ?_ | refine ZP.then ?_) | (first | refine ZL.val (r_move rfl) rfl ?_ | refine ZL.val (r_assign rfl) rfl ?_ | refine ZL.val (r_fieldAddr rfl) rfl ?_ | refine ZL.val (r_add rfl rfl (wrap_i64 (by omega) (by omega))) rfl ?_ | refine ZL.val (r_sub rfl rfl (wrap_i64 (by omega) (by omega))) rfl ?_ | refine ZL.val (r_mul rfl rfl (wrap_i64 (by omega) (by omega))) rfl ?_  | refine ZL.val (r_lss rfl rfl) rfl ?_ | refine ZL.val (r_leq rfl rfl) rfl ?_ | refine ZL.val (r_gtr rfl rfl) rfl ?_ | refine ZL.val (r_geq rfl rfl) rfl ?_ | refine ZL.val (r_eql rfl rfl) rfl ?_ | refine ZL.val (r_neq rfl rfl) rfl ?_ | refine ZL.val (r_not rfl) rfl ?_  | refine ZL.val (r_lenSlice rfl) rfl ?_ | refine ZL.val (r_lenString rfl) rfl ?_ | refine ZL.val (r_extract rfl rfl) rfl ?_ | refine ZL.val (r_nilCheck rfl) rfl ?_ | refine ZL.val (r_makeFunc rfl rfl) rfl ?_ | refine ZL.val (r_eqlPtrNil rfl rfl) rfl ?_ | refine ZL.val (r_pickT rfl rfl) rfl ?_ | refine ZL.val (r_pickF rfl rfl) rfl ?_  | refine ZL.val (r_eqlSliceNil rfl rfl) rfl ?_ | refine ZL.val (r_max rfl rfl (Int.max_eq_left (by omega))) rfl ?_ | refine ZL.val (r_max rfl rfl (Int.max_eq_right (by omega))) rfl ?_ | refine ZL.val (r_min rfl rfl (Int.min_eq_left (by omega))) rfl ?_ | refine ZL.val (r_min rfl rfl (Int.min_eq_right (by omega))) rfl ?_  | refine ZL.skip rfl rfl rfl rfl ?_ | refine ZL.on rfl rfl rfl ?_  | refine ZL.val (r_convInt rfl (wrap_i64 (by omega) (by omega))) rfl ?_ | refine ZL.val (r_convInt rfl (wrap_u64 (by omega) (by omega))) rfl ?_ | refine ZL.val (r_convInt rfl (wrap_u32 (by omega) (by omega))) rfl ?_ | refine ZL.val (r_convInt rfl (wrap_u8 (by omega) (by omega))) rfl ?_))
      refine ZL.bslice M2 rfl rfl rfl (by simp [Value.cells]) (by decide) rfl (fun g w3 M3 => ?_)
      refine ZL.append M3 rfl rfl (M3.own.slc (X := No) (fun _ _ h => h)) (by simp [Value.oneCell']) (by simp only [maxLen]; omega) (by omega) rfl (fun v2 w4 M4 => ?_)
      repeat (first | (first | refine ZC.seq ?_ | refine ZC.region ?_ | refine ZC.skip ?_ | refine ZC.ret ?_ | refine ZC.exit ?_ | refine ZC.block ?_ | refine ZL.nil ?_ | refine ZP.thenX ?_ | refine ZP.thenR ?_ | refine ZP.blockN ?_ | refine ZP.blockR ?_ | refine ZP.blockE ?_ | refine ZP.blockX rfl ?_ | refine ZP.then ?_) | (first | refine ZL.val (r_move rfl) rfl ?_ | refine ZL.val (r_assign rfl) rfl ?_ | refine ZL.val (r_fieldAddr rfl) rfl ?_ | refine ZL.val (r_add rfl rfl (wrap_i64 (by omega) (by omega))) rfl ?_ | refine ZL.val (r_sub rfl rfl (wrap_i64 (by omega) (by omega))) rfl ?_ | refine ZL.val (r_mul rfl rfl (wrap_i64 (by omega) (by omega))) rfl ?_  | refine ZL.val (r_lss rfl rfl) rfl ?_ | refine ZL.val (r_leq rfl rfl) rfl ?_ | refine ZL.val (r_gtr rfl rfl) rfl ?_ | refine ZL.val (r_geq rfl rfl) rfl ?_ | refine ZL.val (r_eql rfl rfl) rfl ?_ | refine ZL.val (r_neq rfl rfl) rfl ?_ | refine ZL.val (r_not rfl) rfl ?_  | refine ZL.val (r_lenSlice rfl) rfl ?_ | refine ZL.val (r_lenString rfl) rfl ?_ | refine ZL.val (r_extract rfl rfl) rfl ?_ | refine ZL.val (r_nilCheck rfl) rfl ?_ | refine ZL.val (r_makeFunc rfl rfl) rfl ?_ | refine ZL.val (r_eqlPtrNil rfl rfl) rfl ?_ | refine ZL.val (r_pickT rfl rfl) rfl ?_ | refine ZL.val (r_pickF rfl rfl) rfl ?_  | refine ZL.val (r_eqlSliceNil rfl rfl) rfl ?_ | refine ZL.val (r_max rfl rfl (Int.max_eq_left (by omega))) rfl ?_ | refine ZL.val (r_max rfl rfl (Int.max_eq_right (by omega))) rfl ?_ | refine ZL.val (r_min rfl rfl (Int.min_eq_left (by omega))) rfl ?_ | refine ZL.val (r_min rfl rfl (Int.min_eq_right (by omega))) rfl ?_  | refine ZL.skip rfl rfl rfl rfl ?_ | refine ZL.on rfl rfl rfl ?_  | refine ZL.val (r_convInt rfl (wrap_i64 (by omega) (by omega))) rfl ?_ | refine ZL.val (r_convInt rfl (wrap_u64 (by omega) (by omega))) rfl ?_ | refine ZL.val (r_convInt rfl (wrap_u32 (by omega) (by omega))) rfl ?_ | refine ZL.val (r_convInt rfl (wrap_u8 (by omega) (by omega))) rfl ?_))
      obtain ⟨E4, O4⟩ := M4.drop.new (n' := (l ++ le 254 1).length) (xs' := (l ++ le 254 1).map u8) (by simp [le_length]) (by simp [le1, u8])
      refine ZL.call (r_call rfl) rfl (refSmall_ok v2 (l ++ le 254 1) n w4 _ O4.slc (by simp [le_length]; omega) (by omega)) (fun v3 w5 ⟨E5, O5⟩ => ?_)
      repeat (first | (first | refine ZC.seq ?_ | refine ZC.region ?_ | refine ZC.skip ?_ | refine ZC.ret ?_ | refine ZC.exit ?_ | refine ZC.block ?_ | refine ZL.nil ?_ | refine ZP.thenX ?_ | refine ZP.thenR ?_ | refine ZP.blockN ?_ | refine ZP.blockR ?_ | refine ZP.blockE ?_ | refine ZP.blockX rfl ?_ | refine ZP.then ?_) | (first | refine ZL.val (r_move rfl) rfl ?_ | refine ZL.val (r_assign rfl) rfl ?_ | refine ZL.val (r_fieldAddr rfl) rfl ?_ | refine ZL.val (r_add rfl rfl (wrap_i64 (by omega) (by omega))) rfl ?_ | refine ZL.val (r_sub rfl rfl (wrap_i64 (by omega) (by omega))) rfl ?_ | refine ZL.val (r_mul rfl rfl (wrap_i64 (by omega) (by omega))) rfl ?_  | refine ZL.val (r_lss rfl rfl) rfl ?_ | refine ZL.val (r_leq rfl rfl) rfl ?_ | refine ZL.val (r_gtr rfl rfl) rfl ?_ | refine ZL.val (r_geq rfl rfl) rfl ?_ | refine ZL.val (r_eql rfl rfl) rfl ?_ | refine ZL.val (r_neq rfl rfl) rfl ?_ | refine ZL.val (r_not rfl) rfl ?_  | refine ZL.val (r_lenSlice rfl) rfl ?_ | refine ZL.val (r_lenString rfl) rfl ?_ | refine ZL.val (r_extract rfl rfl) rfl ?_ | refine ZL.val (r_nilCheck rfl) rfl ?_ | refine ZL.val (r_makeFunc rfl rfl) rfl ?_ | refine ZL.val (r_eqlPtrNil rfl rfl) rfl ?_ | refine ZL.val (r_pickT rfl rfl) rfl ?_ | refine ZL.val (r_pickF rfl rfl) rfl ?_  | refine ZL.val (r_eqlSliceNil rfl rfl) rfl ?_ | refine ZL.val (r_max rfl rfl (Int.max_eq_left (by omega))) rfl ?_ | refine ZL.val (r_max rfl rfl (Int.max_eq_right (by omega))) rfl ?_ | refine ZL.val (r_min rfl rfl (Int.min_eq_left (by omega))) rfl ?_ | refine ZL.val (r_min rfl rfl (Int.min_eq_right (by omega))) rfl ?_  | refine ZL.skip rfl rfl rfl rfl ?_ | refine ZL.on rfl rfl rfl ?_  | refine ZL.val (r_convInt rfl (wrap_i64 (by omega) (by omega))) rfl ?_ | refine ZL.val (r_convInt rfl (wrap_u64 (by omega) (by omega))) rfl ?_ | refine ZL.val (r_convInt rfl (wrap_u32 (by omega) (by omega))) rfl ?_ | refine ZL.val (r_convInt rfl (wrap_u8 (by omega) (by omega))) rfl ?_))
      refine ZP.ret1 rfl rfl ⟨E4.trans E5, ?_⟩
      rw [← List.append_assoc]; exact O5.older E4

theorem counted_ok (v u : Value) (l m : List UInt8) (w : World) (X Y : Nat → Prop) (h : BytesR w X v l) (k : BytesR w Y u m) (hl : l.length ≤ 900000) (hm : m.length ≤ 1000) :
    Ret P 75 #[v, u] w (fun r w' => Ext w w' ∧ BytesO w w' r (l ++ cnt m.length ++ m)) := by
  obtain ⟨p, c, rfl⟩ := k.shape
  refine Ret.enter2 Tryz.func75 rfl Tryz.ntmps75 rfl ?_
  repeat (first | (first | refine ZC.seq ?_ | refine ZC.region ?_ | refine ZC.skip ?_ | refine ZC.ret ?_ | refine ZC.exit ?_ | refine ZC.block ?_ | refine ZL.nil ?_ | refine ZP.thenX ?_ | refine ZP.thenR ?_ | refine ZP.blockN ?_ | refine ZP.blockR ?_ | refine ZP.blockE ?_ | refine ZP.blockX rfl ?_ | refine ZP.then ?_) | (first | refine ZL.val (r_move rfl) rfl ?_ | refine ZL.val (r_assign rfl) rfl ?_ | refine ZL.val (r_fieldAddr rfl) rfl ?_ | refine ZL.val (r_add rfl rfl (wrap_i64 (by omega) (by omega))) rfl ?_ | refine ZL.val (r_sub rfl rfl (wrap_i64 (by omega) (by omega))) rfl ?_ | refine ZL.val (r_mul rfl rfl (wrap_i64 (by omega) (by omega))) rfl ?_  | refine ZL.val (r_lss rfl rfl) rfl ?_ | refine ZL.val (r_leq rfl rfl) rfl ?_ | refine ZL.val (r_gtr rfl rfl) rfl ?_ | refine ZL.val (r_geq rfl rfl) rfl ?_ | refine ZL.val (r_eql rfl rfl) rfl ?_ | refine ZL.val (r_neq rfl rfl) rfl ?_ | refine ZL.val (r_not rfl) rfl ?_  | refine ZL.val (r_lenSlice rfl) rfl ?_ | refine ZL.val (r_lenString rfl) rfl ?_ | refine ZL.val (r_extract rfl rfl) rfl ?_ | refine ZL.val (r_nilCheck rfl) rfl ?_ | refine ZL.val (r_makeFunc rfl rfl) rfl ?_ | refine ZL.val (r_eqlPtrNil rfl rfl) rfl ?_ | refine ZL.val (r_pickT rfl rfl) rfl ?_ | refine ZL.val (r_pickF rfl rfl) rfl ?_  | refine ZL.val (r_eqlSliceNil rfl rfl) rfl ?_ | refine ZL.val (r_max rfl rfl (Int.max_eq_left (by omega))) rfl ?_ | refine ZL.val (r_max rfl rfl (Int.max_eq_right (by omega))) rfl ?_ | refine ZL.val (r_min rfl rfl (Int.min_eq_left (by omega))) rfl ?_ | refine ZL.val (r_min rfl rfl (Int.min_eq_right (by omega))) rfl ?_  | refine ZL.skip rfl rfl rfl rfl ?_ | refine ZL.on rfl rfl rfl ?_  | refine ZL.val (r_convInt rfl (wrap_i64 (by omega) (by omega))) rfl ?_ | refine ZL.val (r_convInt rfl (wrap_u64 (by omega) (by omega))) rfl ?_ | refine ZL.val (r_convInt rfl (wrap_u32 (by omega) (by omega))) rfl ?_ | refine ZL.val (r_convInt rfl (wrap_u8 (by omega) (by omega))) rfl ?_))
  refine ZL.call (r_call rfl) rfl (Count_ok v l m.length w X h hl (by omega)) (fun v1 w1 ⟨E1, O1⟩ => ?_)
  have M := (Mem.start w No).addNew E1 O1
  repeat (first | (first | refine ZC.seq ?_ | refine ZC.region ?_ | refine ZC.skip ?_ | refine ZC.ret ?_ | refine ZC.exit ?_ | refine ZC.block ?_ | refine ZL.nil ?_ | refine ZP.thenX ?_ | refine ZP.thenR ?_ | refine ZP.blockN ?_ | refine ZP.blockR ?_ | refine ZP.blockE ?_ | refine ZP.blockX rfl ?_ | refine ZP.then ?_) | (first | refine ZL.val (r_move rfl) rfl ?_ | refine ZL.val (r_assign rfl) rfl ?_ | refine ZL.val (r_fieldAddr rfl) rfl ?_ | refine ZL.val (r_add rfl rfl (wrap_i64 (by omega) (by omega))) rfl ?_ | refine ZL.val (r_sub rfl rfl (wrap_i64 (by omega) (by omega))) rfl ?_ | refine ZL.val (r_mul rfl rfl (wrap_i64 (by omega) (by omega))) rfl ?_  | refine ZL.val (r_lss rfl rfl) rfl ?_ | refine ZL.val (r_leq rfl rfl) rfl ?_ | refine ZL.val (r_gtr rfl rfl) rfl ?_ | refine ZL.val (r_geq rfl rfl) rfl ?_ | refine ZL.val (r_eql rfl rfl) rfl ?_ | refine ZL.val (r_neq rfl rfl) rfl ?_ | refine ZL.val (r_not rfl) rfl ?_  | refine ZL.val (r_lenSlice rfl) rfl ?_ | refine ZL.val (r_lenString rfl) rfl ?_ | refine ZL.val (r_extract rfl rfl) rfl ?_ | refine ZL.val (r_nilCheck rfl) rfl ?_ | refine ZL.val (r_makeFunc rfl rfl) rfl ?_ | refine ZL.val (r_eqlPtrNil rfl rfl) rfl ?_ | refine ZL.val (r_pickT rfl rfl) rfl ?_ | refine ZL.val (r_pickF rfl rfl) rfl ?_  | refine ZL.val (r_eqlSliceNil rfl rfl) rfl ?_ | refine ZL.val (r_max rfl rfl (Int.max_eq_left (by omega))) rfl ?_ | refine ZL.val (r_max rfl rfl (Int.max_eq_right (by omega))) rfl ?_ | refine ZL.val (r_min rfl rfl (Int.min_eq_left (by omega))) rfl ?_ | refine ZL.val (r_min rfl rfl (Int.min_eq_right (by omega))) rfl ?_  | refine ZL.skip rfl rfl rfl rfl ?_ | refine ZL.on rfl rfl rfl ?_  | refine ZL.val (r_convInt rfl (wrap_i64 (by omega) (by omega))) rfl ?_ | refine ZL.val (r_convInt rfl (wrap_u64 (by omega) (by omega))) rfl ?_ | refine ZL.val (r_convInt rfl (wrap_u32 (by omega) (by omega))) rfl ?_ | refine ZL.val (r_convInt rfl (wrap_u8 (by omega) (by omega))) rfl ?_))
  have hcnt := cnt_length m.length
  refine ZL.append M rfl rfl (k.ext E1) (u8_one m) (by simp only [maxLen, List.length_append]; omega) (by simp only [List.length_append]; omega) rfl (fun v2 w2 M2 => ?_)
  repeat (first | (first | refine ZC.seq ?_ | refine ZC.region ?_ | refine ZC.skip ?_ | refine ZC.ret ?_ | refine ZC.exit ?_ | refine ZC.block ?_ | refine ZL.nil ?_ | refine ZP.thenX ?_ | refine ZP.thenR ?_ | refine ZP.blockN ?_ | refine ZP.blockR ?_ | refine ZP.blockE ?_ | refine ZP.blockX rfl ?_ | refine ZP.then ?_) | (first | refine ZL.val (r_move rfl) rfl ?_ | refine ZL.val (r_assign rfl) rfl ?_ | refine ZL.val (r_fieldAddr rfl) rfl ?_ | refine ZL.val (r_add rfl rfl (wrap_i64 (by omega) (by omega))) rfl ?_ | refine ZL.val (r_sub rfl rfl (wrap_i64 (by omega) (by omega))) rfl ?_ | refine ZL.val (r_mul rfl rfl (wrap_i64 (by omega) (by omega))) rfl ?_  | refine ZL.val (r_lss rfl rfl) rfl ?_ | refine ZL.val (r_leq rfl rfl) rfl ?_ | refine ZL.val (r_gtr rfl rfl) rfl ?_ | refine ZL.val (r_geq rfl rfl) rfl ?_ | refine ZL.val (r_eql rfl rfl) rfl ?_ | refine ZL.val (r_neq rfl rfl) rfl ?_ | refine ZL.val (r_not rfl) rfl ?_  | refine ZL.val (r_lenSlice rfl) rfl ?_ | refine ZL.val (r_lenString rfl) rfl ?_ | refine ZL.val (r_extract rfl rfl) rfl ?_ | refine ZL.val (r_nilCheck rfl) rfl ?_ | refine ZL.val (r_makeFunc rfl rfl) rfl ?_ | refine ZL.val (r_eqlPtrNil rfl rfl) rfl ?_ | refine ZL.val (r_pickT rfl rfl) rfl ?_ | refine ZL.val (r_pickF rfl rfl) rfl ?_  | refine ZL.val (r_eqlSliceNil rfl rfl) rfl ?_ | refine ZL.val (r_max rfl rfl (Int.max_eq_left (by omega))) rfl ?_ | refine ZL.val (r_max rfl rfl (Int.max_eq_right (by omega))) rfl ?_ | refine ZL.val (r_min rfl rfl (Int.min_eq_left (by omega))) rfl ?_ | refine ZL.val (r_min rfl rfl (Int.min_eq_right (by omega))) rfl ?_  | refine ZL.skip rfl rfl rfl rfl ?_ | refine ZL.on rfl rfl rfl ?_  | refine ZL.val (r_convInt rfl (wrap_i64 (by omega) (by omega))) rfl ?_ | refine ZL.val (r_convInt rfl (wrap_u64 (by omega) (by omega))) rfl ?_ | refine ZL.val (r_convInt rfl (wrap_u32 (by omega) (by omega))) rfl ?_ | refine ZL.val (r_convInt rfl (wrap_u8 (by omega) (by omega))) rfl ?_))
  exact ZP.ret1 rfl rfl (M2.new (by simp; omega) (by simp))

theorem refbytes_ok (v u : Value) (l m : List UInt8) (w : World) (X Y : Nat → Prop) (h : BytesR w X v l) (k : BytesR w Y u m) (hl : l.length ≤ 900000) (hm : m.length ≤ 1000) :
    Ret P 46 #[v, u] w (fun r w' => Ext w w' ∧ BytesO w w' r (l ++ cnt m.length ++ m)) := by
  obtain ⟨p, c, rfl⟩ := k.shape
  refine Ret.enter2 Tryz.func46 rfl Tryz.ntmps46 rfl ?_
  repeat (first | (first | refine ZC.seq ?_ | refine ZC.region ?_ | refine ZC.skip ?_ | refine ZC.ret ?_ | refine ZC.exit ?_ | refine ZC.block ?_ | refine ZL.nil ?_ | refine ZP.thenX ?_ | refine ZP.thenR ?_ | refine ZP.blockN ?_ | refine ZP.blockR ?_ | refine ZP.blockE ?_ | refine ZP.blockX rfl ?_ | refine ZP.then ?_) | (first | refine ZL.val (r_move rfl) rfl ?_ | refine ZL.val (r_assign rfl) rfl ?_ | refine ZL.val (r_fieldAddr rfl) rfl ?_ | refine ZL.val (r_add rfl rfl (wrap_i64 (by omega) (by omega))) rfl ?_ | refine ZL.val (r_sub rfl rfl (wrap_i64 (by omega) (by omega))) rfl ?_ | refine ZL.val (r_mul rfl rfl (wrap_i64 (by omega) (by omega))) rfl ?_  | refine ZL.val (r_lss rfl rfl) rfl ?_ | refine ZL.val (r_leq rfl rfl) rfl ?_ | refine ZL.val (r_gtr rfl rfl) rfl ?_ | refine ZL.val (r_geq rfl rfl) rfl ?_ | refine ZL.val (r_eql rfl rfl) rfl ?_ | refine ZL.val (r_neq rfl rfl) rfl ?_ | refine ZL.val (r_not rfl) rfl ?_  | refine ZL.val (r_lenSlice rfl) rfl ?_ | refine ZL.val (r_lenString rfl) rfl ?_ | refine ZL.val (r_extract rfl rfl) rfl ?_ | refine ZL.val (r_nilCheck rfl) rfl ?_ | refine ZL.val (r_makeFunc rfl rfl) rfl ?_ | refine ZL.val (r_eqlPtrNil rfl rfl) rfl ?_ | refine ZL.val (r_pickT rfl rfl) rfl ?_ | refine ZL.val (r_pickF rfl rfl) rfl ?_  | refine ZL.val (r_eqlSliceNil rfl rfl) rfl ?_ | refine ZL.val (r_max rfl rfl (Int.max_eq_left (by omega))) rfl ?_ | refine ZL.val (r_max rfl rfl (Int.max_eq_right (by omega))) rfl ?_ | refine ZL.val (r_min rfl rfl (Int.min_eq_left (by omega))) rfl ?_ | refine ZL.val (r_min rfl rfl (Int.min_eq_right (by omega))) rfl ?_  | refine ZL.skip rfl rfl rfl rfl ?_ | refine ZL.on rfl rfl rfl ?_  | refine ZL.val (r_convInt rfl (wrap_i64 (by omega) (by omega))) rfl ?_ | refine ZL.val (r_convInt rfl (wrap_u64 (by omega) (by omega))) rfl ?_ | refine ZL.val (r_convInt rfl (wrap_u32 (by omega) (by omega))) rfl ?_ | refine ZL.val (r_convInt rfl (wrap_u8 (by omega) (by omega))) rfl ?_))
  refine ZL.call (r_call rfl) rfl (refCount_ok v l m.length w X h hl (by omega)) (fun v1 w1 ⟨E1, O1⟩ => ?_)
  have M := (Mem.start w No).addNew E1 O1
  repeat (first | (first | refine ZC.seq ?_ | refine ZC.region ?_ | refine ZC.skip ?_ | refine ZC.ret ?_ | refine ZC.exit ?_ | refine ZC.block ?_ | refine ZL.nil ?_ | refine ZP.thenX ?_ | refine ZP.thenR ?_ | refine ZP.blockN ?_ | refine ZP.blockR ?_ | refine ZP.blockE ?_ | refine ZP.blockX rfl ?_ | refine ZP.then ?_) | (first | refine ZL.val (r_move rfl) rfl ?_ | refine ZL.val (r_assign rfl) rfl ?_ | refine ZL.val (r_fieldAddr rfl) rfl ?_ | refine ZL.val (r_add rfl rfl (wrap_i64 (by omega) (by omega))) rfl ?_ | refine ZL.val (r_sub rfl rfl (wrap_i64 (by omega) (by omega))) rfl ?_ | refine ZL.val (r_mul rfl rfl (wrap_i64 (by omega) (by omega))) rfl ?_  | refine ZL.val (r_lss rfl rfl) rfl ?_ | refine ZL.val (r_leq rfl rfl) rfl ?_ | refine ZL.val (r_gtr rfl rfl) rfl ?_ | refine ZL.val (r_geq rfl rfl) rfl ?_ | refine ZL.val (r_eql rfl rfl) rfl ?_ | refine ZL.val (r_neq rfl rfl) rfl ?_ | refine ZL.val (r_not rfl) rfl ?_  | refine ZL.val (r_lenSlice rfl) rfl ?_ | refine ZL.val (r_lenString rfl) rfl ?_ | refine ZL.val (r_extract rfl rfl) rfl ?_ | refine ZL.val (r_nilCheck rfl) rfl ?_ | refine ZL.val (r_makeFunc rfl rfl) rfl ?_ | refine ZL.val (r_eqlPtrNil rfl rfl) rfl ?_ | refine ZL.val (r_pickT rfl rfl) rfl ?_ | refine ZL.val (r_pickF rfl rfl) rfl ?_  | refine ZL.val (r_eqlSliceNil rfl rfl) rfl ?_ | refine ZL.val (r_max rfl rfl (Int.max_eq_left (by omega))) rfl ?_ | refine ZL.val (r_max rfl rfl (Int.max_eq_right (by omega))) rfl ?_ | refine ZL.val (r_min rfl rfl (Int.min_eq_left (by omega))) rfl ?_ | refine ZL.val (r_min rfl rfl (Int.min_eq_right (by omega))) rfl ?_  | refine ZL.skip rfl rfl rfl rfl ?_ | refine ZL.on rfl rfl rfl ?_  | refine ZL.val (r_convInt rfl (wrap_i64 (by omega) (by omega))) rfl ?_ | refine ZL.val (r_convInt rfl (wrap_u64 (by omega) (by omega))) rfl ?_ | refine ZL.val (r_convInt rfl (wrap_u32 (by omega) (by omega))) rfl ?_ | refine ZL.val (r_convInt rfl (wrap_u8 (by omega) (by omega))) rfl ?_))
  have hcnt := cnt_length m.length
  refine ZL.append M rfl rfl (k.ext E1) (u8_one m) (by simp only [maxLen, List.length_append]; omega) (by simp only [List.length_append]; omega) rfl (fun v2 w2 M2 => ?_)
  repeat (first | (first | refine ZC.seq ?_ | refine ZC.region ?_ | refine ZC.skip ?_ | refine ZC.ret ?_ | refine ZC.exit ?_ | refine ZC.block ?_ | refine ZL.nil ?_ | refine ZP.thenX ?_ | refine ZP.thenR ?_ | refine ZP.blockN ?_ | refine ZP.blockR ?_ | refine ZP.blockE ?_ | refine ZP.blockX rfl ?_ | refine ZP.then ?_) | (first | refine ZL.val (r_move rfl) rfl ?_ | refine ZL.val (r_assign rfl) rfl ?_ | refine ZL.val (r_fieldAddr rfl) rfl ?_ | refine ZL.val (r_add rfl rfl (wrap_i64 (by omega) (by omega))) rfl ?_ | refine ZL.val (r_sub rfl rfl (wrap_i64 (by omega) (by omega))) rfl ?_ | refine ZL.val (r_mul rfl rfl (wrap_i64 (by omega) (by omega))) rfl ?_  | refine ZL.val (r_lss rfl rfl) rfl ?_ | refine ZL.val (r_leq rfl rfl) rfl ?_ | refine ZL.val (r_gtr rfl rfl) rfl ?_ | refine ZL.val (r_geq rfl rfl) rfl ?_ | refine ZL.val (r_eql rfl rfl) rfl ?_ | refine ZL.val (r_neq rfl rfl) rfl ?_ | refine ZL.val (r_not rfl) rfl ?_  | refine ZL.val (r_lenSlice rfl) rfl ?_ | refine ZL.val (r_lenString rfl) rfl ?_ | refine ZL.val (r_extract rfl rfl) rfl ?_ | refine ZL.val (r_nilCheck rfl) rfl ?_ | refine ZL.val (r_makeFunc rfl rfl) rfl ?_ | refine ZL.val (r_eqlPtrNil rfl rfl) rfl ?_ | refine ZL.val (r_pickT rfl rfl) rfl ?_ | refine ZL.val (r_pickF rfl rfl) rfl ?_  | refine ZL.val (r_eqlSliceNil rfl rfl) rfl ?_ | refine ZL.val (r_max rfl rfl (Int.max_eq_left (by omega))) rfl ?_ | refine ZL.val (r_max rfl rfl (Int.max_eq_right (by omega))) rfl ?_ | refine ZL.val (r_min rfl rfl (Int.min_eq_left (by omega))) rfl ?_ | refine ZL.val (r_min rfl rfl (Int.min_eq_right (by omega))) rfl ?_  | refine ZL.skip rfl rfl rfl rfl ?_ | refine ZL.on rfl rfl rfl ?_  | refine ZL.val (r_convInt rfl (wrap_i64 (by omega) (by omega))) rfl ?_ | refine ZL.val (r_convInt rfl (wrap_u64 (by omega) (by omega))) rfl ?_ | refine ZL.val (r_convInt rfl (wrap_u32 (by omega) (by omega))) rfl ?_ | refine ZL.val (r_convInt rfl (wrap_u8 (by omega) (by omega))) rfl ?_))
  exact ZP.ret1 rfl rfl (M2.new (by simp; omega) (by simp))
end Go.Proofs.YtibobcjfjnoclaaGreatDoor.Z
end
section
/- Arrays of bytes, and structs, held against each other; maps with such keys. -/
set_option linter.unusedVariables false
set_option linter.unusedSimpArgs false
set_option maxRecDepth 100000
set_option maxHeartbeats 4000000
namespace Go.Proofs.YtibobcjfjnoclaaGreatDoor.Z
open Go Go.RowKit

/-- 32 bytes. -/
abbrev B32 := { l : List UInt8 // l.length = 32 }
def B32.cells (x : B32) : List Value := x.val.map u8
def B32.v (x : B32) : Value := .agg x.cells.toArray
theorem B32.length (x : B32) : x.cells.length = 32 := by simp [B32.cells, x.property]

theorem u8_inj {a b : UInt8} (h : u8 a = u8 b) : a = b := by
  simp only [u8, Value.int.injEq, true_and] at h
  exact UInt8.toNat_inj.1 (by omega)

/-- A loop over a range of numbers that stops at the first that says no. -/
theorem run_forIn_all {P : Program} {w : World} (f : Nat → Sem Bool) (g : Nat → Bool) : ∀ (l : List Nat), (∀ i ∈ l, (f i).run P w = .ok (g i) w) →
    (forIn (m := Sem) l (none, PUnit.unit) (fun i (_ : Option Bool × PUnit) => do
      if (!(← f i)) = true then pure (ForInStep.done (some false, PUnit.unit)) else pure (ForInStep.yield (none, PUnit.unit)))).run P w = .ok ((if l.all g then none else some false), PUnit.unit) w
  | [], _ => by simp
  | i :: r, h => by
    have h1 := h i (by simp)
    have ih := run_forIn_all f g r (fun j hj => h j (by simp [hj]))
    simp only [List.forIn_cons, Sem.run_bind, h1, Result.andThen_ok]
    cases hg : g i
    · simp [hg]
    · simp only [hg, Bool.not_true, Bool.false_eq_true, if_false, Sem.run_pure, Result.andThen_ok, ih, List.all_cons, Bool.true_and]

theorem run_part1 {P : Program} {w : World} {t o : Nat} {cs : Array Value} {v : Value} [TS P t] (h : cs[o]? = some v) : (part t cs o).run P w = .ok v w := by
  simp [part, TS.h, h]
theorem run_partN {P : Program} {w : World} {t o s b : Nat} {cs vs : Array Value} [TA P t] [TI P t s b] (h : cs.extract o (o + s) = vs) : (part t cs o).run P w = .ok (.agg vs) w := by
  simp [part, TA.h, run_sizeOf' (t := t), h]

section
variable {P : Program} {w : World}

theorem run_equal_arr {t e n : Nat} {k : IntKind} {b : Nat} [TU P t (.array n e)] [TU P e (.int k)] [TI P e 1 b] [TS P e] (xs ys : List Int) (hx : xs.length = n) (hy : ys.length = n) (d : Nat) :
    (Op.equalIn (d + 1 + 1) t (.agg (xs.map (Value.int k)).toArray) (.agg (ys.map (Value.int k)).toArray)).run P w = .ok (decide (xs = ys)) w := by
  have hcell : ∀ (zs : List Int), zs.length = n → ∀ i, i < n → ((zs.map (Value.int k)).toArray)[i * 1]? = some (.int k (zs.getD i 0)) := by
    intro zs hz i hi
    simp [List.getD, hz, hi]
  have step : ∀ i ∈ List.range' 0 n 1, ((do
      let a ← part e (xs.map (Value.int k)).toArray (i * 1)
      let b ← part e (ys.map (Value.int k)).toArray (i * 1)
      Op.equalIn (d + 1) e a b : Sem Bool)).run P w = .ok (xs.getD i 0 == ys.getD i 0) w := by
    intro i hi
    have hi' : i < n := by simp at hi; omega
    simp only [Sem.run_bind, run_part1 (t := e) (hcell xs hx i hi'), run_part1 (t := e) (hcell ys hy i hi'), Result.andThen_ok]
    simp [Op.equalIn, run_under' (t := e)]
  have hall := run_forIn_all _ _ _ step
  rw [Op.equalIn]
  simp only [Sem.run_bind, run_under' (t := t), Result.andThen_ok, run_sizeOf' (t := e)]
  simp only [Std.Legacy.Range.forIn_eq_forIn_range', Std.Legacy.Range.size, Nat.sub_zero, Nat.add_sub_cancel, Nat.div_one]
  simp only [bind_assoc] at hall
  rw [hall]
  have hiff : ((List.range' 0 n).all fun i => xs.getD i 0 == ys.getD i 0) = decide (xs = ys) := by
    rw [Bool.eq_iff_iff, List.all_eq_true, decide_eq_true_eq]
    constructor
    · intro h
      apply List.ext_getElem (by omega)
      intro i h1 h2
      have := h i (by simp; omega)
      simpa [List.getD, h1, h2] using this
    · rintro rfl i _; simp
  rw [hiff]
  by_cases h : xs = ys <;> simp [h]

theorem B32.ints (x : B32) : x.cells = (x.val.map fun b => (b.toNat : Int)).map (Value.int .u8) := by simp [B32.cells, u8, Function.comp_def]
theorem map_toNat_inj {x y : List UInt8} : (x.map fun b => (b.toNat : Int)) = (y.map fun b => (b.toNat : Int)) ↔ x = y := by
  constructor
  · intro h
    refine (List.map_inj_right (f := fun b : UInt8 => (b.toNat : Int)) ?_).1 h
    intro a b hab
    exact UInt8.toNat_inj.1 (by omega)
  · rintro rfl; rfl
theorem run_equal_b32 {t e : Nat} {b : Nat} [TU P t (.array 32 e)] [TU P e (.int .u8)] [TI P e 1 b] [TS P e] (x y : B32) (d : Nat) :
    (Op.equalIn (d + 1 + 1) t x.v y.v).run P w = .ok (decide (x = y)) w := by
  have h := run_equal_arr (P := P) (w := w) (t := t) (e := e) (k := .u8) (n := 32) (x.val.map fun b => (b.toNat : Int)) (y.val.map fun b => (b.toNat : Int)) (by simp [x.property]) (by simp [y.property]) d
  rw [← B32.ints, ← B32.ints] at h
  rw [B32.v, B32.v, h]
  congr 1
  exact decide_eq_decide.2 (map_toNat_inj.trans ⟨fun h => Subtype.ext h, fun h => h ▸ rfl⟩)
end

/-! ### Points -/
structure Pt where
  id : B32
  vout : UInt32
  deriving DecidableEq
def u32 (x : UInt32) : Value := .int .u32 x.toNat
def u64 (x : UInt64) : Value := .int .u64 x.toNat
def Pt.cells (p : Pt) : List Value := p.id.cells ++ [u32 p.vout]
def Pt.v (p : Pt) : Value := .agg p.cells.toArray
theorem Pt.length (p : Pt) : p.cells.length = 33 := by simp [Pt.cells, B32.length]
theorem Pt.id_extract (p : Pt) : p.cells.toArray.extract 0 (0 + 32) = p.id.cells.toArray := by
  simp [Pt.cells, ← p.id.length]
theorem Pt.vout_at (p : Pt) : p.cells.toArray[32]? = some (u32 p.vout) := by
  simp [Pt.cells]; rw [List.getElem?_append_right (by simp [B32.length])]; simp [B32.length]

theorem u32_eq (a b : UInt32) : decide (a = b) = ((a.toNat : Int) == (b.toNat : Int)) := by
  rw [Bool.eq_iff_iff]; simp
  constructor
  · intro h; rw [h]
  · intro h; exact UInt32.toNat_inj.1 (by omega)

/-- The type of points. -/
class PtT (P : Program) (t : TypeId) (ti tv te : outParam TypeId) : Prop where
  hf : P.underlying t = some (.struct (P.fieldsOf t))
  hs : P.stoodInHeld t = false
  hl : (P.fieldsOf t).toList = [⟨ "ID", ti, 0, false, "", "", 0⟩, ⟨ "Vout", tv, 32, false, "", "", 32⟩]
  a1 : TU P ti (.array 32 te)
  a2 : TU P te (.int .u8)
  a3 : TI P te 1 1
  a4 : TS P te
  a5 : TA P ti
  a6 : TI P ti 32 32
  a7 : TU P tv (.int .u32)
  a8 : TS P tv
  a9 : P.eqGuardType P.depth t = false

theorem run_equal_pt {P : Program} {t ti tv te : TypeId} [pt : PtT P t ti tv te] {w : World} (p q : Pt) (d : Nat) : (Op.equalIn (d + 1 + 1 + 1) t p.v q.v).run P w = .ok (decide (p = q)) w := by
  have := pt.a1; have := pt.a2; have := pt.a3; have := pt.a4; have := pt.a5; have := pt.a6; have := pt.a7; have := pt.a8
  have e1 := run_partN (P := P) (w := w) (t := ti) p.id_extract
  have e2 := run_partN (P := P) (w := w) (t := ti) q.id_extract
  have e3 := run_part1 (P := P) (w := w) (t := tv) p.vout_at
  have e4 := run_part1 (P := P) (w := w) (t := tv) q.vout_at
  have e5 : (Op.equalIn (d + 1 + 1) ti (.agg p.id.cells.toArray) (.agg q.id.cells.toArray)).run P w = .ok (decide (p.id = q.id)) w := run_equal_b32 (P := P) (w := w) (t := ti) p.id q.id d
  have e6 : (Op.equalIn (d + 1 + 1) tv (u32 p.vout) (u32 q.vout)).run P w = .ok (decide (p.vout = q.vout)) w := by
    rw [show decide (p.vout = q.vout) = ((p.vout.toNat : Int) == (q.vout.toNat : Int)) from u32_eq _ _]
    exact run_equalIn_int w (d + 1) _ _ _ _ _ (TU.h (P := P) (t := tv))
  have hne : "Vout" ≠ "_" := by decide
  have hne' : "ID" ≠ "_" := by decide
  unfold Pt.v
  rw [run_equalIn_struct w (d + 1 + 1) _ _ _ pt.hf pt.hs, pt.hl]
  simp only [Op.eqFields, if_pos hne, if_pos hne', Sem.run_bind, Sem.run_ite, e1, e2, e3, e4, e5, e6, Result.andThen_ok, Sem.run_pure]
  obtain ⟨a, b⟩ := p
  obtain ⟨a', b'⟩ := q
  rw [show decide ((⟨a, b⟩ : Pt) = ⟨a', b'⟩) = (decide (a = a') && decide (b = b')) by rw [Bool.eq_iff_iff]; simp]
  simp only
  cases decide (a = a')
  · simp
  · cases decide (b = b') <;> simp

instance : FO P := ⟨by kernel_rfl⟩
end Go.Proofs.YtibobcjfjnoclaaGreatDoor.Z
end
section
/- Maps whose keys are a type of ours: what a map reads as, and look-up, store, delete, length. -/
set_option linter.unusedVariables false
set_option linter.unusedSimpArgs false
set_option linter.unusedSectionVars false
namespace Go.Proofs.YtibobcjfjnoclaaGreatDoor.Z
open Go Go.RowKit

section plain
variable {K U : Type} [DecidableEq K]
def mget (m : List (K × U)) (k : K) : Option U := (m.find? (fun p => decide (p.1 = k))).map (·.2)
def mput (m : List (K × U)) (k : K) (v : U) : List (K × U) := if (mget m k).isSome then m.map (fun p => if p.1 = k then (p.1, v) else p) else m ++ [(k, v)]
def mdel (m : List (K × U)) (k : K) : List (K × U) := m.filter (fun p => decide (p.1 ≠ k))
end plain

/-- Keys of type kt are written ke. -/
class KeyT (P : Program) (kt : TypeId) {K : Type} [DecidableEq K] (ke : K → Value) : Prop where
  eq : ∀ a b w, (Op.equal kt (ke a) (ke b)).run P w = .ok (decide (a = b)) w
  chk : ∀ e a w, (Instr.checkKey e 10000 kt (ke a)).run P w = .ok () w
  now : ∀ w, ∃ d, (underlying kt).run P w = .ok d w ∧ ((∀ a b, Instr.sameNow d (ke a) (ke b) = none) ∨ (∀ a b, Instr.sameNow d (ke a) (ke b) = some (decide (a = b))))
  bits : ∀ a, Instr.sameBits 10000 (ke a) (ke a) = true

/-- What a map's entries say. -/
structure MObj {K U : Type} (ke : K → Value) (ve : U → Value) (m : List (K × U)) (es : Array MapEntry) (clk : Nat) : Prop where
  kv : es.toList.map (fun e => (e.key, e.val)) = m.map (fun p => (ke p.1, ve p.2))
  nod : (m.map (·.1)).Nodup
  born : (es.toList.map (·.born)).Nodup
  lt : ∀ e ∈ es.toList, e.born < clk

section
variable {P : Program} {σ : Env} {w : World} {K U : Type} [DecidableEq K] {ke : K → Value} {ve : U → Value} {m : List (K × U)} {es : Array MapEntry} {clk : Nat} {kt : TypeId}

theorem MObj.empty (ke : K → Value) (ve : U → Value) : MObj ke ve [] #[] 0 := ⟨rfl, by simp, by simp, by simp⟩
theorem MObj.size (h : MObj ke ve m es clk) : es.size = m.length := by have := congrArg List.length h.kv; simpa using this

/-- Where a key stands. -/
def idxOf (m : List (K × U)) (k : K) (i : Nat) : Option (Nat × U) := match m with
  | [] => none
  | p :: r => if p.1 = k then some (i, p.2) else idxOf r k (i + 1)
theorem idxOf_get (m : List (K × U)) (k : K) : ∀ i, (idxOf m k i).map (·.2) = mget m k := by
  induction m with
  | nil => intro i; simp [idxOf, mget]
  | cons p r ih =>
    intro i
    simp only [idxOf, mget, List.find?_cons]
    by_cases h : p.1 = k
    · simp [h]
    · simp [h]; rw [ih]; rfl

theorem run_findAsking [kk : KeyT P kt ke] (k : K) : ∀ (m : List (K × U)) (l : List MapEntry) (i : Nat), l.map (fun e => (e.key, e.val)) = m.map (fun p => (ke p.1, ve p.2)) →
    (Instr.findAsking kt (ke k) l i).run P w = .ok ((idxOf m k i).map fun x => (x.1, ve x.2)) w := by
  intro m
  induction m with
  | nil => intro l i h; simp at h; subst h; simp [Instr.findAsking, idxOf]
  | cons p r ih =>
    intro l i h
    cases l with
    | nil => simp at h
    | cons e t =>
      simp only [List.map_cons, List.cons.injEq, Prod.mk.injEq] at h
      obtain ⟨⟨h1, h2⟩, h3⟩ := h
      simp only [Instr.findAsking, Sem.run_bind, h1, kk.eq, Result.andThen_ok, idxOf, Sem.run_ite, decide_eq_true_eq]
      by_cases hk : k = p.1
      · rw [if_pos hk, if_pos hk.symm]; simp [h2]
      · rw [if_neg hk, if_neg (Ne.symm hk)]; exact ih t (i + 1) h3

theorem findNow_eq {d : TypeDesc} (hd : ∀ a b, Instr.sameNow d (ke a) (ke b) = some (decide (a = b))) (k : K) : ∀ (m : List (K × U)) (l : List MapEntry) (i : Nat), l.map (fun e => (e.key, e.val)) = m.map (fun p => (ke p.1, ve p.2)) →
    Instr.findNow d (ke k) l i = some ((idxOf m k i).map fun x => (x.1, ve x.2)) := by
  intro m
  induction m with
  | nil => intro l i h; simp at h; subst h; simp [Instr.findNow, idxOf]
  | cons p r ih =>
    intro l i h
    cases l with
    | nil => simp at h
    | cons e t =>
      simp only [List.map_cons, List.cons.injEq, Prod.mk.injEq] at h
      obtain ⟨⟨h1, h2⟩, h3⟩ := h
      simp only [Instr.findNow, h1, hd, idxOf]
      by_cases hk : k = p.1
      · rw [if_pos hk.symm]; simp [hk, h2]
      · rw [if_neg (Ne.symm hk)]; simp only [decide_eq_false hk]; exact ih t (i + 1) h3
theorem run_findKey [kk : KeyT P kt ke] (h : MObj ke ve m es clk) (k : K) : (Instr.findKey kt (ke k) es.toList).run P w = .ok ((idxOf m k 0).map fun x => (x.1, ve x.2)) w := by
  obtain ⟨d, hd, hn | hn⟩ := kk.now w
  rotate_left
  · simp only [Instr.findKey, Sem.run_bind, hd, Result.andThen_ok, findNow_eq hn k m _ 0 h.kv, Sem.run_pure]
  have hkv := h.kv
  simp only [Instr.findKey, Sem.run_bind, hd, Result.andThen_ok]
  cases hl : es.toList with
  | nil =>
    rw [hl] at hkv
    cases m with
    | nil => simp [Instr.findNow, idxOf]
    | cons p r => simp at hkv
  | cons e t =>
    have hfn : Instr.findNow d (ke k) (e :: t) 0 = none := by
      rw [hl] at hkv
      cases m with
      | nil => simp at hkv
      | cons p r =>
        simp only [List.map_cons, List.cons.injEq, Prod.mk.injEq] at hkv
        simp [Instr.findNow, hkv.1.1, hn]
    rw [hfn, ← hl]
    exact run_findAsking k m _ 0 hkv

theorem run_getObj_map' {b : Nat} (hm : w.heap[b]? = some (.map es clk)) : (getObj b).run P w = .ok (.map es clk) w := by
  simp [getObj, Sem.run, hm]
theorem run_setObj_map' {b : Nat} {o : Obj} (hm : w.heap[b]? = some (.map es clk)) : (setObj b o).run P w = .ok () (World.putObj w b o) := by
  simp [setObj, Sem.run, hm, World.putObj]

/-- v, ok := m[k] -/
theorem r_lookup2 {t et : TypeId} {x y : Operand} {b : Nat} {k : K} {z : Value} [TU P t (.map kt et)] [TZ P et z] [kk : KeyT P kt ke] (hx : ev σ x = some (.map (some b))) (hy : ev σ y = some (ke k)) (hm : w.heap[b]? = some (.map es clk)) (h : MObj ke ve m es clk) :
    V P σ (.lookup t x y true) (.tuple #[((mget m k).map ve).getD z, .bool (mget m k).isSome]) w := by
  refine ⟨fun ρ ha o ho => ?_⟩
  have hf := run_findKey (P := P) (w := w) (kt := kt) h k
  rw [← idxOf_get m k 0]
  simp [execOp, ho, ha _ _ hx, ha _ _ hy, Instr.lookup, run_under' (t := t), run_getObj_map' hm, kk.chk, hf]
  cases idxOf m k 0 <;> simp [run_zero' (t := et)]
theorem r_lookup1 {t et : TypeId} {x y : Operand} {b : Nat} {k : K} {z : Value} [TU P t (.map kt et)] [TZ P et z] [kk : KeyT P kt ke] (hx : ev σ x = some (.map (some b))) (hy : ev σ y = some (ke k)) (hm : w.heap[b]? = some (.map es clk)) (h : MObj ke ve m es clk) :
    V P σ (.lookup t x y false) (((mget m k).map ve).getD z) w := by
  refine ⟨fun ρ ha o ho => ?_⟩
  have hf := run_findKey (P := P) (w := w) (kt := kt) h k
  rw [← idxOf_get m k 0]
  simp [execOp, ho, ha _ _ hx, ha _ _ hy, Instr.lookup, run_under' (t := t), run_getObj_map' hm, kk.chk, hf]
  cases idxOf m k 0 <;> simp [run_zero' (t := et)]

theorem idxOf_none {m : List (K × U)} {k : K} : ∀ {i}, idxOf m k i = none → ∀ p ∈ m, p.1 ≠ k := by
  induction m with
  | nil => intro i _ p hp; cases hp
  | cons q r ih =>
    intro i h p hp
    simp only [idxOf] at h
    split at h
    · cases h
    · rcases List.mem_cons.1 hp with rfl | hp
      · assumption
      · exact ih h p hp
theorem idxOf_some {m : List (K × U)} {k : K} {v : U} : ∀ {i j}, idxOf m k i = some (j, v) → i ≤ j ∧ m[j - i]? = some (k, v) := by
  induction m with
  | nil => intro i j h; simp [idxOf] at h
  | cons q r ih =>
    intro i j h
    simp only [idxOf] at h
    split at h
    · rename_i hq
      simp at h; obtain ⟨rfl, rfl⟩ := h; simp [← hq]
    · obtain ⟨h1, h2⟩ := ih h
      refine ⟨by omega, ?_⟩
      rw [show j - i = (j - (i + 1)) + 1 by omega]; simpa using h2

theorem map_set_at {m : List (K × U)} {k : K} {v u : U} (hn : (m.map (·.1)).Nodup) : ∀ {j : Nat}, m[j]? = some (k, u) → m.map (fun p => if p.1 = k then (p.1, v) else p) = m.set j (k, v) := by
  induction m with
  | nil => intro j h; simp at h
  | cons q r ih =>
    intro j h
    simp only [List.map_cons, List.nodup_cons] at hn
    cases j with
    | zero =>
      simp at h; subst h
      simp only [List.map_cons, if_true, List.set_cons_zero, List.cons.injEq, true_and]
      conv => rhs; rw [← List.map_id r]
      refine List.map_congr_left fun p hp => ?_
      rw [if_neg]; rfl
      intro e; exact hn.1 (List.mem_map.2 ⟨p, hp, e⟩)
    | succ j =>
      simp at h
      have hq : q.1 ≠ k := fun e => hn.1 (List.mem_map.2 ⟨(k, u), List.mem_of_getElem? h, e.symm⟩)
      simp only [List.map_cons, if_neg hq, List.set_cons_succ, List.cons.injEq, true_and]
      exact ih hn.2 h
theorem filter_erase_at {m : List (K × U)} {k : K} {u : U} (hn : (m.map (·.1)).Nodup) : ∀ {j : Nat}, m[j]? = some (k, u) → mdel m k = m.eraseIdx j := by
  induction m with
  | nil => intro j h; simp at h
  | cons q r ih =>
    intro j h
    simp only [List.map_cons, List.nodup_cons] at hn
    cases j with
    | zero =>
      simp at h; subst h
      simp only [mdel, List.filter_cons, ne_eq, not_true_eq_false, decide_false, Bool.false_eq_true, if_false, List.eraseIdx_zero, List.tail_cons]
      refine List.filter_eq_self.2 fun p hp => ?_
      simp only [decide_eq_true_eq]
      intro e; exact hn.1 (List.mem_map.2 ⟨p, hp, e⟩)
    | succ j =>
      simp at h
      have hq : q.1 ≠ k := fun e => hn.1 (List.mem_map.2 ⟨(k, u), List.mem_of_getElem? h, e.symm⟩)
      have := ih hn.2 h
      simp only [mdel, ne_eq, decide_not] at this ⊢
      simp [List.filter_cons, hq, this]

theorem map_eraseIdx {α β : Type} (f : α → β) : ∀ (l : List α) (i : Nat), (l.eraseIdx i).map f = (l.map f).eraseIdx i
  | [], _ => by simp
  | a :: r, 0 => by simp
  | a :: r, i + 1 => by simp [map_eraseIdx f r i]
/-- The world behind a store into a map. -/
theorem uw_mapUpdate {t et : TypeId} {x y u : Operand} {b : Nat} {k : K} {v : U} [TU P t (.map kt et)] [kk : KeyT P kt ke] (hx : ev σ x = some (.map (some b))) (hy : ev σ y = some (ke k)) (hu : ev σ u = some (ve v)) (hm : w.heap[b]? = some (.map es clk)) (h : MObj ke ve m es clk) :
    ∃ es' clk', UW P σ (.mapUpdate t x y u) w (World.putObj w b (.map es' clk')) ∧ MObj ke ve (mput m k v) es' clk' := by
  have hf := run_findKey (P := P) (w := w) (kt := kt) h k
  have hg := idxOf_get m k 0
  have hlen := h.size
  cases hi : idxOf m k 0 with
  | none =>
    rw [hi] at hf hg
    simp at hf hg
    refine ⟨es.push ⟨ke k, ve v, clk⟩, clk + 1, ⟨fun ρ ha o ho => ?_⟩, ?_⟩
    · simp [execOp, ho, ha _ _ hx, ha _ _ hy, ha _ _ hu, Instr.mapUpdate, run_under' (t := t), run_getObj_map' hm, kk.chk, hf, run_setObj_map' hm]
    · have hm' : mput m k v = m ++ [(k, v)] := by simp [mput, ← hg]
      rw [hm']
      refine ⟨by simp [h.kv], ?_, ?_, ?_⟩
      · simp only [List.map_append, List.map_cons, List.map_nil]
        refine List.nodup_append.2 ⟨h.nod, by simp, ?_⟩
        intro a ha c hc
        simp at hc; subst hc
        obtain ⟨p, hp, rfl⟩ := List.mem_map.1 ha
        exact idxOf_none hi p hp
      · simp only [Array.toList_push, List.map_append, List.map_cons, List.map_nil]
        refine List.nodup_append.2 ⟨h.born, by simp, ?_⟩
        intro a ha c hc
        simp at hc; subst hc
        obtain ⟨p, hp, rfl⟩ := List.mem_map.1 ha
        have := h.lt p hp; omega
      · intro e he
        simp at he
        rcases he with he | rfl
        · have := h.lt e (by simpa using he); omega
        · simp
  | some q =>
    obtain ⟨j, u'⟩ := q
    rw [hi] at hf hg
    simp at hf hg
    obtain ⟨_, hj⟩ := idxOf_some hi
    simp only [Nat.sub_zero] at hj
    have hjl : j < m.length := by
      rcases Nat.lt_or_ge j m.length with h | h
      · exact h
      · simp [List.getElem?_eq_none h] at hj
    have hkey : ((es[j]?).map (·.key)).getD (ke k) = ke k := by
      have := congrArg (fun l => l[j]?) h.kv
      simp only [List.getElem?_map, hj, Option.map_some, Array.getElem?_toList] at this
      cases he : es[j]? with
      | none => simp
      | some e => rw [he] at this; simp at this; simp [this.1]
    refine ⟨es.modify j fun e => { e with key := ke k, val := ve v }, clk, ⟨fun ρ ha o ho => ?_⟩, ?_⟩
    · simp [execOp, ho, ha _ _ hx, ha _ _ hy, ha _ _ hu, Instr.mapUpdate, run_under' (t := t), run_getObj_map' hm, kk.chk, hf, hkey, Instr.keyThatStays, kk.bits, run_setObj_map' hm]
    · have hm' : mput m k v = m.set j (k, v) := by
        simp only [mput, ← hg, Option.isSome_some, if_true]
        exact map_set_at h.nod hj
      rw [hm']
      have hborn : ((es.modify j fun e => { e with key := ke k, val := ve v }).toList.map (·.born)) = es.toList.map (·.born) := by
        apply List.ext_getElem?
        intro i
        simp only [List.getElem?_map, Array.getElem?_toList, Array.getElem?_modify]
        split
        · cases es[i]? <;> simp
        · rfl
      refine ⟨?_, ?_, ?_, ?_⟩
      · apply List.ext_getElem?
        intro i
        have hk := congrArg (fun l => l[i]?) h.kv
        simp only [List.getElem?_map, Array.getElem?_toList, Array.getElem?_modify, List.getElem?_set] at hk ⊢
        by_cases hij : j = i
        · subst hij
          have hes : j < es.size := by omega
          simp [hes, hjl]
        · simp only [hij, if_false]; exact hk
      · rw [List.map_set]
        have : (m.map (·.1)).set j k = m.map (·.1) := by
          apply List.ext_getElem?
          intro i
          rw [List.getElem?_set]
          split
          · rename_i e; subst e; have h9 := (List.getElem?_eq_some_iff.1 hj).2; simp [hjl, h9]
          · rfl
        rw [this]; exact h.nod
      · rw [hborn]; exact h.born
      · intro e he
        have : e.born ∈ es.toList.map (·.born) := by rw [← hborn]; exact List.mem_map.2 ⟨e, he, rfl⟩
        obtain ⟨e', he', h1⟩ := List.mem_map.1 this
        rw [← h1]; exact h.lt e' he'

theorem vw_delete {t et : TypeId} {x y : Operand} {ats : Array TypeId} {b : Nat} {k : K} [TU P t (.map kt et)] [kk : KeyT P kt ke] (hat : ats[0]? = some t) (hx : ev σ x = some (.map (some b))) (hy : ev σ y = some (ke k)) (hm : w.heap[b]? = some (.map es clk)) (h : MObj ke ve m es clk) :
    ∃ es', VW P σ (.call ⟨.builtin .delete, #[x, y], ats⟩) (.tuple #[]) w (World.putObj w b (.map es' clk)) ∧ MObj ke ve (mdel m k) es' clk := by
  have hf := run_findKey (P := P) (w := w) (kt := kt) h k
  have hlen := h.size
  cases hi : idxOf m k 0 with
  | none =>
    rw [hi] at hf
    simp at hf
    refine ⟨es, ⟨fun ρ ha o ho => exec_builtin ho fun cs => ?_⟩, ?_⟩
    · simp [ha _ _ hx, ha _ _ hy, builtin, Builtin.delete_, hat, run_under' (t := t), run_getObj_map' hm, kk.chk, hf, run_setObj_map' hm]
    · have : mdel m k = m := List.filter_eq_self.2 fun p hp => by simpa using idxOf_none hi p hp
      rw [this]; exact h
  | some q =>
    obtain ⟨j, u'⟩ := q
    rw [hi] at hf
    simp at hf
    obtain ⟨_, hj⟩ := idxOf_some hi
    simp only [Nat.sub_zero] at hj
    refine ⟨es.eraseIdxIfInBounds j, ⟨fun ρ ha o ho => exec_builtin ho fun cs => ?_⟩, ?_⟩
    · simp [ha _ _ hx, ha _ _ hy, builtin, Builtin.delete_, hat, run_under' (t := t), run_getObj_map' hm, kk.chk, hf, run_setObj_map' hm]
    · rw [filter_erase_at h.nod hj]
      have hl : (es.eraseIdxIfInBounds j).toList = es.toList.eraseIdx j := by simp
      refine ⟨?_, ?_, ?_, ?_⟩
      · rw [hl, map_eraseIdx, h.kv, map_eraseIdx]
      · rw [map_eraseIdx]; exact h.nod.sublist (List.eraseIdx_sublist _ _)
      · rw [hl, map_eraseIdx]; exact h.born.sublist (List.eraseIdx_sublist _ _)
      · rw [hl]; exact fun e he => h.lt e (List.mem_of_mem_eraseIdx he)
end

/-! ### Points as keys -/
theorem run_forIn_unit {P : Program} {w : World} (f : Nat → Sem Unit) : ∀ (l : List Nat), (∀ i ∈ l, (f i).run P w = .ok () w) →
    (forIn (m := Sem) l PUnit.unit (fun i (_ : PUnit) => do f i; pure (ForInStep.yield PUnit.unit))).run P w = .ok PUnit.unit w
  | [], _ => by simp
  | i :: r, h => by
    have h1 := h i (by simp)
    have ih := run_forIn_unit f r (fun j hj => h j (by simp [hj]))
    simp only [List.forIn_cons, Sem.run_bind, h1, Result.andThen_ok, Sem.run_pure, ih]

section
variable {P : Program} {w : World}
theorem chk_int {t : TypeId} {k k' : IntKind} {a : Int} [TU P t (.int k)] (e : Bool) (d : Nat) : (Instr.checkKey e (d + 1) t (.int k' a)).run P w = .ok () w := by
  simp [Instr.checkKey, run_under' (t := t)]
theorem chk_b32 {t te : TypeId} [TU P t (.array 32 te)] [TU P te (.int .u8)] [TI P te 1 1] [TS P te] (e : Bool) (x : B32) (d : Nat) : (Instr.checkKey e (d + 1 + 1) t x.v).run P w = .ok () w := by
  have step : ∀ i ∈ List.range' 0 32 1, ((do
      let s ← sizeOf te
      let a ← part te x.cells.toArray (i * s)
      Instr.checkKey e (d + 1) te a : Sem Unit)).run P w = .ok () w := by
    intro i hi
    have hi' : i < 32 := by simp at hi; omega
    have hc : x.cells.toArray[i * 1]? = some (u8 (x.val.getD i 0)) := by
      simp [B32.cells, List.getD, x.property, hi']
    simp only [Sem.run_bind, run_sizeOf' (t := te), run_part1 (t := te) hc, Result.andThen_ok]
    exact chk_int e d
  have hall := run_forIn_unit _ _ step
  simp only [bind_assoc] at hall
  rw [B32.v, Instr.checkKey]
  simp only [Sem.run_bind, run_under' (t := t), Result.andThen_ok, run_sizeOf' (t := te)]
  simp only [Std.Legacy.Range.forIn_eq_forIn_range', Std.Legacy.Range.size, Nat.sub_zero, Nat.add_sub_cancel, Nat.div_one, bind_assoc]
  have e2 : (PUnit.unit : PUnit) = () := rfl
  rw [hall]
  rfl
theorem chk_pt {t ti tv te : TypeId} [pt : PtT P t ti tv te] (e : Bool) (p : Pt) (d : Nat) : (Instr.checkKey e (d + 1 + 1 + 1) t p.v).run P w = .ok () w := by
  have := pt.a1; have := pt.a2; have := pt.a3; have := pt.a4; have := pt.a5; have := pt.a6; have := pt.a7; have := pt.a8
  have e1 := run_partN (P := P) (w := w) (t := ti) p.id_extract
  have e3 := run_part1 (P := P) (w := w) (t := tv) p.vout_at
  have e5 : (Instr.checkKey e (d + 1 + 1) ti (.agg p.id.cells.toArray)).run P w = .ok () w := chk_b32 e p.id d
  have e6 : (Instr.checkKey e (d + 1 + 1) tv (u32 p.vout)).run P w = .ok () w := chk_int e (d + 1)
  have hne : "Vout" ≠ "_" := by decide
  have hne' : "ID" ≠ "_" := by decide
  unfold Pt.v
  rw [Instr.checkKey]
  simp only [Sem.run_bind, run_underlying pt.hf, Result.andThen_ok]
  rw [← Array.forIn_toList, pt.hl]
  simp only [List.forIn_cons, List.forIn_nil, Sem.run_bind, Sem.run_ite, if_pos hne, if_pos hne', e1, e3, e5, e6, Result.andThen_ok, Sem.run_pure]

theorem bits_ints (d : Nat) : ∀ (l : List Value), (∀ v ∈ l, ∃ k n, v = .int k n) → ((l.zip l).all fun (x, y) => Instr.sameBits d x y) = true := by
  intro l
  induction l with
  | nil => intro _; rfl
  | cons a r ih =>
    intro h
    obtain ⟨k, n, rfl⟩ := h a (by simp)
    simp only [List.zip_cons_cons, List.all_cons, ih (fun v hv => h v (by simp [hv])), Bool.and_true]
    cases d <;> simp [Instr.sameBits]
theorem bits_agg (d : Nat) (l : List Value) (h : ∀ v ∈ l, ∃ k n, v = .int k n) : Instr.sameBits (d + 1) (.agg l.toArray) (.agg l.toArray) = true := by
  simp only [Instr.sameBits, beq_self_eq_true, Bool.true_and]
  exact bits_ints d l h
theorem u8_ints (l : List UInt8) : ∀ v ∈ l.map u8, ∃ k n, v = Value.int k n := by
  intro v hv; obtain ⟨b, _, rfl⟩ := List.mem_map.1 hv; exact ⟨_, _, rfl⟩
theorem Pt.ints (p : Pt) : ∀ v ∈ p.cells, ∃ k n, v = Value.int k n := by
  intro v hv
  rcases List.mem_append.1 hv with h | h
  · exact u8_ints _ v h
  · simp at h; subst h; exact ⟨_, _, rfl⟩

instance {t ti tv te : TypeId} [pt : PtT P t ti tv te] : KeyT P t Pt.v where
  eq a b w := run_equal_pt (P := P) (t := t) (w := w) a b 9997
  chk e a w := chk_pt (P := P) (t := t) e a 9997
  now w := ⟨_, run_underlying pt.hf w, .inl fun _ _ => rfl⟩
  bits a := bits_agg 9999 _ a.ints
instance {t te : TypeId} [TU P t (.array 32 te)] [TU P te (.int .u8)] [TI P te 1 1] [TS P te] : KeyT P t B32.v where
  eq a b w := run_equal_b32 (P := P) (t := t) (w := w) a b 9998
  chk e a w := chk_b32 (P := P) (t := t) e a 9998
  now w := ⟨_, run_under' (t := t) w, .inl fun _ _ => rfl⟩
  bits a := bits_agg 9999 _ (u8_ints _)
instance {t : TypeId} {ik : IntKind} [TU P t (.int ik)] : KeyT P t (Value.int ik) where
  eq a b w := equal_of fun d => by simp [Op.equalIn, run_under' (t := t), beq_dec]
  chk e a w := chk_int (P := P) (t := t) e 9999
  now w := ⟨_, run_under' (t := t) w, .inr fun a b => by simp [Instr.sameNow, beq_dec]⟩
  bits a := by simp [Instr.sameBits]
end
end Go.Proofs.YtibobcjfjnoclaaGreatDoor.Z
end
section
/- Transactions: what a value in memory reads as. -/
set_option linter.unusedVariables false
set_option linter.unusedSimpArgs false
set_option linter.unusedSectionVars false
set_option maxRecDepth 100000
set_option maxHeartbeats 4000000
namespace Go.Proofs.YtibobcjfjnoclaaGreatDoor.Z
open Go Go.RowKit

/-- What a reading is carried over. -/
structure Mv (w : World) (X : Nat → Prop) (w' : World) (X' : Nat → Prop) : Prop where
  keep : ∀ b, b < w.heap.size → ¬ X b → w'.heap[b]? = w.heap[b]?
  sub : ∀ b, b < w.heap.size → X' b → X b
  size : w.heap.size ≤ w'.heap.size
theorem Mv.ext {w w' : World} {X : Nat → Prop} (h : Ext w w') : Mv w X w' X := ⟨fun b hb _ => h.keep b hb (fun h => h), fun _ _ h => h, h.size⟩
theorem Mv.extX {w w' : World} {X Y : Nat → Prop} (h : ExtX w Y w') (hy : ∀ b, b < w.heap.size → Y b → X b) : Mv w X w' X := ⟨fun b hb hx => h.keep b hb (fun y => hx (hy b hb y)), fun _ _ h => h, h.size⟩
theorem Mv.free {w : World} {X : Nat → Prop} : Mv w X w No := ⟨fun _ _ _ => rfl, fun _ _ h => h.elim, Nat.le_refl _⟩
theorem Mv.mono {w : World} {X Y : Nat → Prop} (h : ∀ b, b < w.heap.size → Y b → X b) : Mv w X w Y := ⟨fun _ _ _ => rfl, h, Nat.le_refl _⟩
theorem Mv.mem {w0 w : World} {X : Nat → Prop} {L : List Chunk} (hM : Mem w0 X L w) : Mv w0 X w (fun b => ∃ c ∈ L, c.fp = some b) :=
  ⟨hM.ext.keep, fun b hb ⟨c, hc, hf⟩ => by
    rcases hM.mine c hc b hf with h | h
    · exact h
    · omega, hM.ext.size⟩
theorem Mv.trans {w w1 w2 : World} {X X1 X2 : Nat → Prop} (h : Mv w X w1 X1) (k : Mv w1 X1 w2 X2) : Mv w X w2 X2 :=
  ⟨fun b hb hx => (k.keep b (Nat.lt_of_lt_of_le hb h.size) (fun h1 => hx (h.sub b hb h1))).trans (h.keep b hb hx), fun b hb h2 => h.sub b hb (k.sub b (Nat.lt_of_lt_of_le hb h.size) h2), Nat.le_trans h.size k.size⟩

theorem SlC.mv {w w' : World} {X X' : Nat → Prop} {s n : Nat} {v : Value} {xs : List Value} (h : SlC w X s v n xs) (m : Mv w X w' X') : SlC w' X' s v n xs := by
  refine ⟨h.1, ?_⟩
  rcases h.2 with hn | ⟨g, o, c, cs, e, fz, hv, hg, hh, hr⟩
  · exact .inl hn
  · have hlt := (Array.getElem?_eq_some_iff.1 hh).1
    exact .inr ⟨g, o, c, cs, e, fz, hv, fun x => hg (m.sub g hlt x), (m.keep g hlt hg).trans hh, hr⟩

section list
variable {α : Type}
/-- v is a slice whose elements, of s cells each, read as l. -/
def ListR (E : World → (Nat → Prop) → List Value → α → Prop) (s : Nat) (w : World) (X : Nat → Prop) (v : Value) (l : List α) : Prop :=
  ∃ rows : List (List Value), rows.length = l.length ∧ (∀ r ∈ rows, r.length = s) ∧ SlC w X s v l.length rows.flatten ∧ ∀ (i : Nat) (r : List Value) (a : α), rows[i]? = some r → l[i]? = some a → E w X r a
variable {E : World → (Nat → Prop) → List Value → α → Prop} {s : Nat} {w w' : World} {X X' : Nat → Prop} {v : Value} {l : List α}
theorem ListR.mv (hE : ∀ r a, E w X r a → E w' X' r a) (h : ListR E s w X v l) (m : Mv w X w' X') : ListR E s w' X' v l := by
  obtain ⟨rows, h1, h2, h3, h4⟩ := h
  exact ⟨rows, h1, h2, h3.mv m, fun i r a hr ha => hE _ _ (h4 i r a hr ha)⟩
theorem ListR.shape (h : ListR E s w X v l) : ∃ p c, v = .slice p l.length c := by
  obtain ⟨rows, _, _, h3, _⟩ := h
  exact h3.shape
theorem flatten_at {s : Nat} : ∀ (rows : List (List Value)) (i : Nat) (r : List Value), (∀ r ∈ rows, r.length = s) → rows[i]? = some r → ∀ j u, r[j]? = some u → rows.flatten[i * s + j]? = some u
  | [], i, r, _, h, _, _, _ => by simp at h
  | a :: t, 0, r, hs, h, j, u, hj => by
    simp at h; subst h
    simp only [List.flatten_cons, Nat.zero_mul, Nat.zero_add]
    rw [List.getElem?_append_left]
    · exact hj
    · exact (List.getElem?_eq_some_iff.1 hj).1
  | a :: t, i + 1, r, hs, h, j, u, hj => by
    simp only [List.getElem?_cons_succ] at h
    simp only [List.flatten_cons]
    have ha : a.length = s := hs a (by simp)
    rw [List.getElem?_append_right (by rw [ha, Nat.succ_mul]; omega)]
    have := flatten_at t i r (fun r hr => hs r (by simp [hr])) h j u hj
    rw [ha, show (i + 1) * s + j - s = i * s + j by rw [Nat.succ_mul]; omega]
    exact this
theorem ListR.elem {p : Option Addr} {n c : Nat} (hs0 : 0 < s) (h : ListR E s w X (.slice p n c) l) {i : Nat} (hi : i < l.length) :
    ∃ g o cs e fz r, p = some ⟨g, o, none⟩ ∧ w.heap[g]? = some (.cells cs e fz) ∧ ¬ X g ∧ r.length = s ∧ E w X r l[i] ∧ (∀ j u, r[j]? = some u → cs[o + i * s + j]? = some u) ∧ o + i * s + s ≤ cs.size ∧ cs.extract (o + i * s) (o + i * s + s) = r.toArray := by
  obtain ⟨rows, h1, h2, h3, h4⟩ := h
  obtain ⟨p', c', hv⟩ := h3.shape
  simp only [Value.slice.injEq] at hv
  obtain ⟨rfl, rfl, rfl⟩ := hv
  obtain ⟨g, o, cs, e, fz, rfl, hh, hx, hr⟩ := h3.at hi
  have hi' : i < rows.length := by omega
  have hrow : rows[i]? = some rows[i] := List.getElem?_eq_getElem hi'
  have hlen : rows[i].length = s := h2 _ (List.getElem_mem hi')
  have hcell : ∀ j u, rows[i][j]? = some u → cs[o + i * s + j]? = some u := fun j u hj => by
    rw [Nat.add_assoc]; exact hr _ _ (flatten_at rows i _ h2 hrow j u hj)
  have hsz : o + i * s + s ≤ cs.size := by
    have := hcell (s - 1) _ (List.getElem?_eq_getElem (show s - 1 < rows[i].length by omega))
    have := (Array.getElem?_eq_some_iff.1 this).1
    omega
  refine ⟨g, o, cs, e, fz, rows[i], rfl, hh, hx, hlen, h4 i _ _ hrow (List.getElem?_eq_getElem hi), hcell, ?_, ?_⟩
  · exact hsz
  · apply Array.ext'
    apply List.ext_getElem?
    intro j
    rw [Array.getElem?_toList, Array.getElem?_extract]
    by_cases hj : j < s
    · have hju := hcell j _ (List.getElem?_eq_getElem (show j < rows[i].length by omega))
      have hlt := (Array.getElem?_eq_some_iff.1 hju).1
      rw [if_pos (by omega), hju]
      simp [hlen, hj]
    · rw [if_neg (by omega)]
      rw [List.getElem?_eq_none (by simp [hlen]; omega)]
end list

structure TIn where
  prev : B32
  vout : UInt32
  script : List UInt8
  seq : UInt32
  wit : List (List UInt8)
structure TOut where
  value : UInt64
  script : List UInt8
structure TTx where
  version : UInt32
  ins : List TIn
  outs : List TOut
  lock : UInt32

def BytesE (w : World) (X : Nat → Prop) (r : List Value) (b : List UInt8) : Prop := ∃ u, r = [u] ∧ BytesR w X u b
def InE (w : World) (X : Nat → Prop) (r : List Value) (i : TIn) : Prop := ∃ sv wv, r = i.prev.cells ++ [u32 i.vout, sv, u32 i.seq, wv] ∧ BytesR w X sv i.script ∧ ListR BytesE 1 w X wv i.wit
def OutE (w : World) (X : Nat → Prop) (r : List Value) (o : TOut) : Prop := ∃ sv, r = [u64 o.value, sv] ∧ BytesR w X sv o.script
def TxE (w : World) (X : Nat → Prop) (r : List Value) (t : TTx) : Prop := ∃ iv ov, r = [u32 t.version, iv, ov, u32 t.lock] ∧ ListR InE 36 w X iv t.ins ∧ ListR OutE 2 w X ov t.outs
def TxR (w : World) (X : Nat → Prop) (v : Value) (t : TTx) : Prop := ∃ r, v = .agg r.toArray ∧ TxE w X r t

section
variable {w w' : World} {X X' : Nat → Prop}
theorem BytesE.mv (m : Mv w X w' X') {r : List Value} {b : List UInt8} (h : BytesE w X r b) : BytesE w' X' r b := by obtain ⟨u, h1, h2⟩ := h; exact ⟨u, h1, h2.mv m⟩
theorem InE.mv (m : Mv w X w' X') {r : List Value} {i : TIn} (h : InE w X r i) : InE w' X' r i := by
  obtain ⟨sv, wv, h1, h2, h3⟩ := h; exact ⟨sv, wv, h1, h2.mv m, ListR.mv (fun _ _ h => BytesE.mv m h) h3 m⟩
theorem OutE.mv (m : Mv w X w' X') {r : List Value} {i : TOut} (h : OutE w X r i) : OutE w' X' r i := by obtain ⟨sv, h1, h2⟩ := h; exact ⟨sv, h1, h2.mv m⟩
theorem TxE.mv (m : Mv w X w' X') {r : List Value} {t : TTx} (h : TxE w X r t) : TxE w' X' r t := by
  obtain ⟨iv, ov, h1, h2, h3⟩ := h; exact ⟨iv, ov, h1, ListR.mv (fun _ _ h => InE.mv m h) h2 m, ListR.mv (fun _ _ h => OutE.mv m h) h3 m⟩
theorem TxR.mv (m : Mv w X w' X') {v : Value} {t : TTx} (h : TxR w X v t) : TxR w' X' v t := by obtain ⟨r, h1, h2⟩ := h; exact ⟨r, h1, TxE.mv m h2⟩
end
end Go.Proofs.YtibobcjfjnoclaaGreatDoor.Z
end
section
/- append(x, make([]T, n)...): so many zeros more. -/
set_option linter.unusedVariables false
set_option linter.unusedSimpArgs false
set_option maxRecDepth 100000
set_option maxHeartbeats 4000000
namespace Go.Proofs.YtibobcjfjnoclaaGreatDoor.Z
open Go Go.RowKit

theorem zeroCells_one (z : Value) (m : Nat) : Builtin.zeroCells #[z] m = (List.replicate m z).toArray := by
  apply Array.ext'
  have h : ∀ i, ([z][i % 1]?).getD default = z := fun i => by rw [Nat.mod_one]; rfl
  simp [Builtin.zeroCells, h, List.map_const']

theorem run_appendZ {P : Program} {w : World} {t tx ty e n bytes m : Nat} {k k' : IntKind} {v z : Value} {xs : List Value} [TU P t (.slice e)] [TU P tx (.int k)] [te : TE P e 1 bytes z]
    (hown : OwnR w e 1 v n xs) (hn0 : 0 < n) (hz1 : z.cells = #[z]) (ho : z.oneCell' = true) (h63 : n + m ≤ maxLen) (hb : (n + m) * bytes ≤ 140737488355328) (hmm : m < 9223372036854775808) :
    ∃ v' w', (Builtin.append_ #[t, tx] ty #[v, .int k' m]).run P w = .ok v' w' ∧ OwnR w' e 1 v' (n + m) (xs ++ List.replicate m z) ∧ ExtX w (fun b => v.ownBlock = some b) w' ∧ (∀ g, v'.ownBlock = some g → v.ownBlock = some g ∨ w.heap.size ≤ g) := by
  have ht := TU.h (P := P) (t := t)
  have htx := TU.h (P := P) (t := tx)
  have hi0 := te.ti.h
  have hz0 := te.tz.h
  obtain ⟨i, hi⟩ : ∃ i, P.info? e = some i := by
    cases hq : P.info? e with
    | none => simp [hq] at hi0
    | some x => exact ⟨x, rfl⟩
  simp only [hi, Option.map_some, Option.some.injEq, Prod.mk.injEq] at hi0 hz0
  obtain ⟨his, hib⟩ := hi0
  have hsmall : n + m ≤ 9223372036854775807 := by simp only [maxLen] at h63; omega
  have hw : IntKind.i64.wrap (m : Int) = (m : Int) := wrap_i64 (by omega) (by omega)
  have hlen : (xs ++ List.replicate m z).length = (n + m) * 1 := by rw [List.length_append, hown.1]; simp
  have hmb : ¬ ((m : Int) * (i.bytes : Int) > 281474976710656) := by
    rw [hib]
    have : m * bytes ≤ (n + m) * bytes := Nat.mul_le_mul_right _ (by omega)
    have h2 : ((m * bytes : Nat) : Int) = (m : Int) * (bytes : Int) := by simp
    omega
  have hneg : ¬ ((m : Int) < 0) := by omega
  rcases hown.2 with ⟨rfl, rfl⟩ | ⟨g, cap, cur, rfl, hg, hnc, hcm, hcs, htake⟩
  · omega
  · have hap : ∀ w', (if m * i.size = 0 then Sem.pure #[] else do pure (Builtin.zeroCells (← zeroValue e).cells m) : Sem (Array Value)).run P w' = .ok (List.replicate m z).toArray w' := by
      intro w'
      by_cases hm : m = 0
      · subst hm; simp
      · have : ¬ (m * i.size = 0) := by rw [his]; omega
        simp [this, zeroValue, typeInfo, hi, hz0, hz1, zeroCells_one]
    by_cases hroom : n + m ≤ cap
    · have hfit : n * i.size + (List.replicate m z).length ≤ cur.size := by rw [his]; simp; omega
      have hst := run_storeCells_at P g (n * i.size) e (List.replicate m z) 0 cur w hg (by simpa using hfit) (by intro u hu; rw [List.mem_replicate] at hu; rw [hu.2]; exact ho)
      simp only [Nat.add_zero] at hst
      have hr : (Builtin.append_ #[t, tx] ty #[.slice (some ⟨g, 0, none⟩) n cap, .int k' m]).run P w = .ok (.slice (some ⟨g, 0, none⟩) (n + m) cap) (w.setRow g (cur.toList.take (n * i.size) ++ List.replicate m z ++ cur.toList.drop (n * i.size + (List.replicate m z).length)).toArray) := by
        by_cases hm : m = 0
        · subst hm
          simp [Builtin.append_, run_underlying ht, run_underlying htx, sizeOf, typeInfo, hi, asInt, asIntOf, hnc, storeCells, show IntKind.i64.wrap 0 = 0 by decide] at hst ⊢
          exact hst
        · have hms : ¬ (m * i.size = 0) := by rw [his]; omega
          simp only [List.length_replicate] at hst ⊢
          simp [Builtin.append_, run_underlying ht, run_underlying htx, sizeOf, typeInfo, hi, asInt, asIntOf, hw, hneg, hmb, hroom, hms, zeroValue, hz0, hz1, zeroCells_one, Addr.add_lit, hst]
      refine ⟨_, _, hr, ⟨hlen, .inr ⟨g, cap, _, rfl, setRow_heap w g cur _ e _ hg, hroom, hcm, ?_, ?_⟩⟩, ⟨rfl, rfl, rfl, by simp, fun k _ hk => setRow_other w g k _ (fun e => hk (by simp [Value.ownBlock, e]))⟩, fun g' hg' => .inl (by simpa [Value.ownBlock] using hg')⟩
      · simp only [List.size_toArray, List.length_append, List.length_take, List.length_drop, Array.length_toList]
        have := hfit
        omega
      · rw [his, htake, ← hlen]
        exact List.take_left
    · have hge := grownCap_ge w (n + m) cap e
      have hcm2 : grownCap w (n + m) cap e ≤ maxLen := grownCap_le_maxLen w (n + m) cap e h63
      have hnr : ¬ (n + m ≤ cap) := hroom
      have h63' : ¬ (9223372036854775807 < ((n : Int) + (m : Int))) := by omega
      have hfits := growslice_fits (bytes := i.bytes) (by omega : cap < n + m) (by rw [hib]; exact hb)
      have h48' : ¬ (281474976710656 < Builtin.nextslicecap (n + m) cap * i.bytes) := by omega
      have holds : ∀ j u, xs[j]? = some u → w.drew.cell? ((⟨g, 0, none⟩ : Addr).add j) = some u := by
        intro j u hj
        rw [add_at, ← htake, List.getElem?_take] at *
        split at hj
        · exact cell_of hg (by simpa using hj)
        · cases hj
      have hfo := run_firstCells_some (P := P) w.drew i.size n ⟨g, 0, none⟩ n cap xs (by rw [his]; exact hown.1) holds
      have hm : m ≠ 0 := by omega
      have hms : ¬ (m * i.size = 0) := by rw [his]; omega
      have hr : (Builtin.append_ #[t, tx] ty #[.slice (some ⟨g, 0, none⟩) n cap, .int k' m]).run P w =
          .ok (.slice (some ⟨w.heap.size, 0, none⟩) (n + m) (grownCap w (n + m) cap e)) (w.drew.alloc (.cells (xs.toArray ++ (List.replicate m z).toArray ++ Builtin.zeroCells z.cells (grownCap w (n + m) cap e - (n + m))) e)) := by
        simp [Builtin.append_, run_underlying ht, run_underlying htx, sizeOf, typeInfo, hi, asInt, asIntOf, hw, hneg, hmb, hnr, hms, zeroValue, hz0, hz1, zeroCells_one, h63', h48', Question.forced, hfo, newRow, grownCap]
        try congr 2
        try (apply Array.ext'; simp)
      refine ⟨_, _, hr, ⟨hlen, .inr ⟨w.heap.size, _, _, rfl, heap_alloc_new w.drew _, hge, hcm2, ?_, ?_⟩⟩, ⟨rfl, rfl, rfl, by simp, fun k hk _ => Below.heap_alloc w.drew _ k hk⟩, fun g hg => .inr (by simp [Value.ownBlock] at hg; omega)⟩
      · simp only [Array.size_append, List.size_toArray, size_zeroCells, hz1, hown.1, List.length_replicate]
        simp; omega
      · simp only [Array.toList_append, List.append_assoc]
        rw [← List.append_assoc, ← hlen]
        exact List.take_left

section
variable {P : Program} {n : Nat} {ops : Array Oper} {Q : Post} {rest : List Oper} {σ : Env} {w w0 : World} {X Y : Nat → Prop} {L L' : List Chunk}
variable {d : Nat} {ty : TypeId} {pos : String} {after : Array Edge} {x y : Operand}
/-- append(v, make([]T, m)...), v the call's own. -/
theorem ZL.appendZ {t tx e j bytes : Nat} {k k' : IntKind} {a : Int} {v z : Value} {xs : List Value} {F : Chunk → List Chunk} (m : Nat) [TU P t (.slice e)] [TU P tx (.int k)] [TE P e 1 bytes z] (hM : Mem w0 X L w) (hx : ev σ x = some v) (hy : ev σ y = some (.int k' a)) (ha : a = m)
    [i : OwnPut L v e 1 j xs F] (hn0 : 0 < j) (hz1 : z.cells = #[z]) (ho : z.oneCell' = true) (h63 : j + m ≤ maxLen) (hb : (j + m) * bytes ≤ 140737488355328) (hmm : m < 9223372036854775808) (hd : Nat.blt d n = true)
    (h : ∀ v' w', Mem w0 X (F (.own v' e 1 (j + m) (xs ++ List.replicate m z))) w' → ZL P n ops Q rest ((d, v') :: σ) w') :
    ZL P n ops Q (⟨some d, .call ⟨.builtin .append, #[x, y], #[t, tx]⟩, ty, pos, after, none⟩ :: rest) σ w := by
  subst ha
  obtain ⟨A, B, rfl, hF⟩ := i.h
  have hown : OwnR w e 1 v j xs := hM.ok (.own v e 1 j xs) (by simp)
  obtain ⟨v', w', hr, h2, h3, h4⟩ := run_appendZ (P := P) (t := t) (tx := tx) (ty := ty) (k' := k') hown hn0 hz1 ho h63 hb hmm
  refine ⟨fun a ha => ?_⟩
  refine wpList_plain rfl (fun K hK => ?_)
  unfold Oper.wp
  rw [exec_builtin (P := P) rfl (r := .ok (.value v') w') (fun cs => by simp [ha.ag _ _ hx, ha.ag _ _ hy, builtin, hr])]
  refine hK _ _ ((h v' w' ?_).h _ (ha.put hd))
  rw [hF]
  exact hM.turn (c' := .own v' e 1 (j + m) (xs ++ List.replicate m z)) h3 h2 h4
end

/-! ### Numbers cut to a width, whatever they are -/
def u8of (x : Int) : UInt8 := UInt8.ofNat (IntKind.u8.wrap x).toNat
def u32of (x : Int) : UInt32 := UInt32.ofNat (IntKind.u32.wrap x).toNat
def u64of (x : Int) : UInt64 := UInt64.ofNat (IntKind.u64.wrap x).toNat
theorem wrap_u8of (x : Int) : IntKind.u8.wrap x = ((u8of x).toNat : Int) := by
  have h : 0 ≤ IntKind.u8.wrap x ∧ IntKind.u8.wrap x < 256 := by simp [IntKind.wrap, IntKind.bits, IntKind.signed]; omega
  simp [u8of, UInt8.toNat_ofNat']; omega
theorem wrap_u32of (x : Int) : IntKind.u32.wrap x = ((u32of x).toNat : Int) := by
  have h : 0 ≤ IntKind.u32.wrap x ∧ IntKind.u32.wrap x < 4294967296 := by simp [IntKind.wrap, IntKind.bits, IntKind.signed]; omega
  simp [u32of, UInt32.toNat_ofNat']; omega
theorem wrap_u64of (x : Int) : IntKind.u64.wrap x = ((u64of x).toNat : Int) := by
  have h : 0 ≤ IntKind.u64.wrap x ∧ IntKind.u64.wrap x < 18446744073709551616 := by simp [IntKind.wrap, IntKind.bits, IntKind.signed]; omega
  simp [u64of, UInt64.toNat_ofNat']; omega
theorem iand_mask (x : Int) (m : Nat) (hm : m < 9223372036854775808) : ∃ q : Nat, q ≤ m ∧ iand .i64 x m = (q : Int) := by
  refine ⟨((BitVec.ofInt 64 x) &&& (BitVec.ofInt 64 (m : Int))).toNat, ?_, ?_⟩
  · rw [BitVec.toNat_and]
    refine Nat.le_trans Nat.and_le_right ?_
    simp [BitVec.toNat_ofInt]; omega
  · unfold iand
    have h1 : ((BitVec.ofInt 64 x) &&& (BitVec.ofInt 64 (m : Int))).toNat ≤ m := by
      rw [BitVec.toNat_and]
      refine Nat.le_trans Nat.and_le_right ?_
      simp [BitVec.toNat_ofInt]; omega
    show IntKind.i64.wrap (((BitVec.ofInt 64 x) &&& (BitVec.ofInt 64 (m : Int))).toNat : Int) = _
    rw [wrap_i64 (by omega) (by omega)]
section
variable {P : Program} {σ : Env} {w : World} {t t' : TypeId} {x y : Operand} {k : IntKind} {a : Int}
theorem r_toB {s d : TypeId} {ds : TypeDesc} [TU P s ds] [TU P d (.int .u8)] (hx : ev σ x = some (.int k a)) : V P σ (.convert s d x) (u8 (u8of a)) w := r_convInt hx (wrap_u8of a)
theorem r_toU {s d : TypeId} {ds : TypeDesc} [TU P s ds] [TU P d (.int .u32)] (hx : ev σ x = some (.int k a)) : V P σ (.convert s d x) (u32 (u32of a)) w := r_convInt hx (wrap_u32of a)
theorem r_toQ {s d : TypeId} {ds : TypeDesc} [TU P s ds] [TU P d (.int .u64)] (hx : ev σ x = some (.int k a)) : V P σ (.convert s d x) (u64 (u64of a)) w := r_convInt hx (wrap_u64of a)
end

section
variable {P : Program} {n : Nat} {ops : Array Oper} {Q : Post} {rest : List Oper} {σ : Env} {w w0 : World} {X : Nat → Prop} {L : List Chunk}
variable {d : Nat} {ty : TypeId} {pos : String} {after : Array Edge} {x y : Operand}
/-- A constant string's bytes: the row is marked. -/
theorem ZL.mark {t e m c : Nat} {g : Nat} {xs : List Value} [TU P t (.slice e)] [TU P e (.int .u8)] (hM : Mem w0 X (.own (.slice (some ⟨g, 0, none⟩) m c) e 1 m xs :: L) w) (hx : ev σ x = some (.slice (some ⟨g, 0, none⟩) m c)) (hd : Nat.blt d n = true)
    (h : ∀ cur fz w', m ≤ c → c ≤ cur.size → (∀ (i : Nat) u, xs[i]? = some u → cur[i]? = some u) → Mem w0 X (.blk g (.cells cur e fz) :: L) w' → ZL P n ops Q rest ((d, .slice (some ⟨g, 0, none⟩) m c) :: σ) w') :
    ZL P n ops Q (⟨some d, .convert t t x, ty, pos, after, none⟩ :: rest) σ w := by
  have hown := hM.own
  rcases hown.2 with ⟨hv, _⟩ | ⟨g', cap, cur, hv, hg, hnc, hcm, hcs, htake⟩
  · cases hv
  · simp only [Value.slice.injEq, Option.some.injEq, Addr.mk.injEq, and_true, true_and] at hv
    obtain ⟨rfl, rfl⟩ := hv
    have hlt := (Array.getElem?_eq_some_iff.1 hg).1
    have hgv : w.heap[g] = .cells cur e (0, 0) := (Array.getElem?_eq_some_iff.1 hg).2
    let w' : World := w.freeze ⟨g, cur.size, none⟩ 1
    have hh : w'.heap[g]? = some (.cells cur e (cur.size, cur.size + 1)) := by
      simp only [w', World.freeze]
      rw [if_neg (by decide)]
      simp only
      rw [Array.getElem?_eq_getElem (by simpa using hlt), Array.getElem_modify]
      simp [hgv]
    have hu : Upd w w' g (.cells cur e (cur.size, cur.size + 1)) := by
      refine ⟨?_, ?_, ?_, ?_, hh, fun k hk => ?_⟩
      · simp [w', World.freeze]
      · simp [w', World.freeze]
      · simp [w', World.freeze]
      · simp [w', World.freeze]
      · simp [w', World.freeze, Array.getElem?_modify, Ne.symm hk]
    have hv : VW P σ (.convert t t x) (.slice (some ⟨g, 0, none⟩) m c) w w' := by
      refine ⟨fun ρ ha o ho => ?_⟩
      simp [execOp, ho, ha _ _ hx, convert, run_under' (t := t), run_under' (t := e), markStringish, World.shape?, hg]
      rfl
    refine ZL.vw hv hd (h cur (cur.size, cur.size + 1) w' hnc (by omega) (fun i u hi => ?_) ?_)
    · rw [← htake, List.getElem?_take] at hi
      split at hi
      · simpa using hi
      · cases hi
    · refine hM.turn (A := []) (c' := .blk g _) (hu.extX.mono fun k hk => by subst hk; rfl) hu.at' (fun k hk => .inl ?_)
      simp only [Chunk.fp] at hk ⊢
      simpa [Value.ownBlock] using hk
end

theorem Script_ok (n : Int) (w : World) : Ret P 21 #[.int .i64 n] w (fun r w' => Ext w w' ∧ ∃ l, l.length ≤ 40 ∧ BytesR w' (· < w.heap.size) r l) := by
  obtain ⟨q, hq, hqe⟩ := iand_mask n 7 (by decide)
  obtain ⟨z, hz, hze⟩ := iand_mask (n / 2 ^ (min ((3 : Int).toNat) IntKind.i64.bits)) 31 (by decide)
  refine Ret.enter1 Tryz.func21 rfl Tryz.ntmps21 rfl ?_
  refine ZC.seq ?_; refine ZC.region ?_; refine ZL.val (r_assign rfl) rfl ?_; refine ZL.nil ?_; refine ZP.then ?_; refine ZC.seq ?_; refine ZC.seq ?_; refine ZC.region ?_; refine ZL.val (r_move rfl) rfl ?_
  refine ZL.val (r_and rfl rfl hqe) rfl ?_
  refine ZL.nil ?_; refine ZP.then ?_; refine ZC.block ?_; refine ZC.seq ?_; refine ZC.region ?_; refine ZL.val (r_eql rfl rfl) rfl ?_; refine ZL.val (r_assign rfl) rfl ?_; refine ZL.nil ?_; refine ZP.then ?_
  have fin : ∀ (bs : List UInt8) (k : Nat) (v : Value) (w' : World), Mem w No [.own v 5 1 (bs.length + k) (bs.map u8 ++ List.replicate k (u8 0))] w' → bs.length + k ≤ 40 → (Ext w w' ∧ ∃ l, l.length ≤ 40 ∧ BytesR w' (· < w.heap.size) v l) := by
    intro bs k v w' M h40
    refine ⟨M.ext, bs ++ List.replicate k 0, by simpa using h40, BytesO.r (Mem.new M (by simp) (by simp)).2⟩
  refine ZC.condD rfl (fun h0 => ?_) (fun h0 => ?_)
  · refine ZC.seq ?_; refine ZC.region ?_
    refine ZL.bslice (Mem.start w No) rfl rfl rfl (by simp [Value.cells, u8]) (by decide) rfl (fun g w1 M1 => ?_)
    refine ZL.mark M1 rfl rfl (fun cur fz w2 hc1 hc2 hr M2 => ?_)
    refine ZL.val (r_assign rfl) rfl ?_; refine ZL.nil ?_; refine ZP.then ?_; refine ZC.ret ?_; refine ZP.blockR ?_; refine ZP.thenR ?_
    refine ZP.ret1 rfl rfl ⟨M2.ext, [81, 2, 78, 115], by decide, ?_⟩
    have hg2 := (M2.mine _ (List.mem_cons_self ..) g rfl).resolve_left (fun h => h)
    refine ⟨rfl, .inr ⟨g, 0, 4, cur, 5, fz, rfl, fun hlt => ?_, M2.get inferInstance, hc1, by decide, fun i u hi => ?_⟩⟩
    · have : g < w.heap.size := hlt
      omega
    · rw [Nat.zero_add]; exact hr i u hi
  · refine ZC.seq ?_; refine ZC.seq ?_; refine ZC.region ?_; refine ZL.val (r_eql rfl rfl) rfl ?_; refine ZL.val (r_assign rfl) rfl ?_; refine ZL.nil ?_; refine ZP.then ?_
    refine ZC.condD rfl (fun h1 => ?_) (fun h1 => ?_)
    · refine ZC.skip ?_; refine ZP.then ?_
      refine ZC.condD rfl (fun _ => ?_) (fun hh => absurd (by omega) hh)
      refine ZC.seq ?_; refine ZC.region ?_
      refine ZL.bslice (Mem.start w No) rfl rfl rfl (by simp [Value.cells, u8]) (by decide) rfl (fun g w1 M1 => ?_)
      refine ZL.appendZ 20 M1 rfl rfl rfl (by decide) rfl rfl (by simp only [maxLen]; omega) (by omega) (by omega) rfl (fun v2 w2 M2 => ?_)
      refine ZL.val (r_assign rfl) rfl ?_; refine ZL.nil ?_; refine ZP.then ?_; refine ZC.ret ?_; refine ZP.blockR ?_; refine ZP.thenR ?_
      exact ZP.ret1 rfl rfl (fin [0, 20] 20 _ _ M2 (by decide))
    · refine ZC.region ?_; refine ZL.val (r_eql rfl rfl) rfl ?_; refine ZL.val (r_assign rfl) rfl ?_; refine ZL.nil ?_; refine ZP.then ?_
      refine ZC.condD rfl (fun h2 => ?_) (fun h2 => ?_)
      · refine ZC.seq ?_; refine ZC.region ?_
        refine ZL.bslice (Mem.start w No) rfl rfl rfl (by simp [Value.cells, u8]) (by decide) rfl (fun g w1 M1 => ?_)
        refine ZL.appendZ 20 M1 rfl rfl rfl (by decide) rfl rfl (by simp only [maxLen]; omega) (by omega) (by omega) rfl (fun v2 w2 M2 => ?_)
        refine ZL.val (r_assign rfl) rfl ?_; refine ZL.nil ?_; refine ZP.then ?_; refine ZC.ret ?_; refine ZP.blockR ?_; refine ZP.thenR ?_
        exact ZP.ret1 rfl rfl (fin [0, 20] 20 _ _ M2 (by decide))
      · refine ZC.seq ?_; refine ZC.region ?_; refine ZL.val (r_eql rfl rfl) rfl ?_; refine ZL.val (r_assign rfl) rfl ?_; refine ZL.nil ?_; refine ZP.then ?_
        refine ZC.condD rfl (fun h3 => ?_) (fun h3 => ?_)
        · refine ZC.seq ?_; refine ZC.region ?_
          refine ZL.bslice (Mem.start w No) rfl rfl rfl (by simp [Value.cells, u8]) (by decide) rfl (fun g w1 M1 => ?_)
          refine ZL.appendZ 32 M1 rfl rfl rfl (by decide) rfl rfl (by simp only [maxLen]; omega) (by omega) (by omega) rfl (fun v2 w2 M2 => ?_)
          refine ZL.val (r_assign rfl) rfl ?_; refine ZL.nil ?_; refine ZP.then ?_; refine ZC.ret ?_; refine ZP.blockR ?_; refine ZP.thenR ?_
          exact ZP.ret1 rfl rfl (fin [0, 32] 32 _ _ M2 (by decide))
        · refine ZC.seq ?_; refine ZC.seq ?_; refine ZC.region ?_; refine ZL.val (r_eql rfl rfl) rfl ?_; refine ZL.val (r_assign rfl) rfl ?_; refine ZL.nil ?_; refine ZP.then ?_
          refine ZC.condD rfl (fun h4 => ?_) (fun h4 => ?_)
          · refine ZC.skip ?_; refine ZP.then ?_
            refine ZC.condD rfl (fun _ => ?_) (fun hh => absurd (by omega) hh)
            refine ZC.seq ?_; refine ZC.region ?_; refine ZL.val (r_move rfl) rfl ?_
            refine ZL.val (r_shr rfl rfl (by decide) rfl) rfl ?_
            refine ZL.val (r_toB rfl) rfl ?_
            refine ZL.bslice (Mem.start w No) rfl rfl rfl (by simp [Value.cells, u8]) (by decide) rfl (fun g w1 M1 => ?_)
            refine ZL.appendZ 31 M1 rfl rfl rfl (by decide) rfl rfl (by simp only [maxLen]; omega) (by omega) (by omega) rfl (fun v2 w2 M2 => ?_)
            refine ZL.val (r_assign rfl) rfl ?_; refine ZL.nil ?_; refine ZP.then ?_; refine ZC.ret ?_; refine ZP.blockR ?_; refine ZP.thenR ?_
            exact ZP.ret1 rfl rfl (fin [81, 32, u8of (n / 2 ^ (min ((3 : Int).toNat) IntKind.i64.bits))] 31 _ _ M2 (by simp))
          · refine ZC.region ?_; refine ZL.val (r_eql rfl rfl) rfl ?_; refine ZL.val (r_assign rfl) rfl ?_; refine ZL.nil ?_; refine ZP.then ?_
            refine ZC.condD rfl (fun h5 => ?_) (fun h5 => ?_)
            · refine ZC.seq ?_; refine ZC.region ?_; refine ZL.val (r_move rfl) rfl ?_
              refine ZL.val (r_shr rfl rfl (by decide) rfl) rfl ?_
              refine ZL.val (r_toB rfl) rfl ?_
              refine ZL.bslice (Mem.start w No) rfl rfl rfl (by simp [Value.cells, u8]) (by decide) rfl (fun g w1 M1 => ?_)
              refine ZL.appendZ 31 M1 rfl rfl rfl (by decide) rfl rfl (by simp only [maxLen]; omega) (by omega) (by omega) rfl (fun v2 w2 M2 => ?_)
              refine ZL.val (r_assign rfl) rfl ?_; refine ZL.nil ?_; refine ZP.then ?_; refine ZC.ret ?_; refine ZP.blockR ?_; refine ZP.thenR ?_
              exact ZP.ret1 rfl rfl (fin [81, 32, u8of (n / 2 ^ (min ((3 : Int).toNat) IntKind.i64.bits))] 31 _ _ M2 (by simp))
            · refine ZC.seq ?_; refine ZC.region ?_; refine ZL.val (r_eql rfl rfl) rfl ?_; refine ZL.val (r_assign rfl) rfl ?_; refine ZL.nil ?_; refine ZP.then ?_
              refine ZC.condD rfl (fun h6 => ?_) (fun h6 => ?_)
              · refine ZC.seq ?_; refine ZC.region ?_
                refine ZL.bslice (Mem.start w No) rfl rfl rfl (by simp [Value.cells, u8]) (by decide) rfl (fun g w1 M1 => ?_)
                refine ZL.val (r_move rfl) rfl ?_
                refine ZL.val (r_shr rfl rfl (by decide) rfl) rfl ?_
                refine ZL.val (r_and rfl rfl hze) rfl ?_
                refine ZL.appendZ z M1 rfl rfl rfl (by decide) rfl rfl (by simp only [maxLen]; omega) (by omega) (by omega) rfl (fun v2 w2 M2 => ?_)
                refine ZL.val (r_assign rfl) rfl ?_; refine ZL.nil ?_; refine ZP.then ?_; refine ZC.ret ?_; refine ZP.blockR ?_; refine ZP.thenR ?_
                exact ZP.ret1 rfl rfl (fin [106] z _ _ M2 (by simp; omega))
              · refine ZC.skip ?_; refine ZP.blockN ?_; refine ZP.then ?_; refine ZC.seq ?_; refine ZC.region ?_; refine ZL.val (r_move rfl) rfl ?_
                refine ZL.val (r_shr rfl rfl (by decide) rfl) rfl ?_
                refine ZL.val (r_toB rfl) rfl ?_
                refine ZL.bslice (Mem.start w No) rfl rfl rfl (by simp [Value.cells, u8]) (by decide) rfl (fun g w1 M1 => ?_)
                refine ZL.val (r_assign rfl) rfl ?_; refine ZL.nil ?_; refine ZP.then ?_; refine ZC.ret ?_
                exact ZP.ret1 rfl rfl (fin [u8of (n / 2 ^ (min ((3 : Int).toNat) IntKind.i64.bits))] 0 _ _ M1 (by simp))
end Go.Proofs.YtibobcjfjnoclaaGreatDoor.Z
end
section
/- Whether a transaction may be: the program's, and the document's. -/
set_option linter.unusedVariables false
set_option linter.unusedSimpArgs false
set_option linter.unusedSectionVars false
set_option maxRecDepth 100000
set_option maxHeartbeats 4000000
namespace Go.Proofs.YtibobcjfjnoclaaGreatDoor.Z
open Go Go.RowKit

def longB (b : List UInt8) : Bool := decide (500 < b.length)
theorem SlC.le {w : World} {X : Nat → Prop} {s n c : Nat} {p : Option Addr} {xs : List Value} (h : SlC w X s (.slice p n c) n xs) : n ≤ c ∧ c ≤ 9223372036854775807 := by
  rcases h.2 with ⟨hv, rfl⟩ | ⟨g, o, c', cs, e, fz, hv, _, _, h1, h2, _⟩
  · simp only [Value.slice.injEq] at hv; omega
  · simp only [Value.slice.injEq, maxLen] at hv h2; omega
theorem ListR.le {α : Type} {E : World → (Nat → Prop) → List Value → α → Prop} {s : Nat} {w : World} {X : Nat → Prop} {p : Option Addr} {n c : Nat} {l : List α} (h : ListR E s w X (.slice p n c) l) : n = l.length ∧ l.length ≤ c ∧ c ≤ 9223372036854775807 := by
  obtain ⟨rows, _, _, h3, _⟩ := h
  obtain ⟨p', c', hv⟩ := h3.shape
  simp only [Value.slice.injEq] at hv
  obtain ⟨rfl, rfl, rfl⟩ := hv
  exact ⟨rfl, h3.le⟩

theorem long_ok (v : Value) (l : List UInt8) (w : World) (X : Nat → Prop) (h : BytesR w X v l) :
    Ret P 92 #[v] w (fun r w' => w = w' ∧ r = .bool (longB l)) := by
  obtain ⟨p, c, rfl⟩ := h.shape
  refine Ret.enter1 Tryz.func92 rfl Tryz.ntmps92 rfl ?_
  refine ZC.seq ?_; refine ZC.region ?_; refine ZL.val (r_assign rfl) rfl ?_; refine ZL.nil ?_; refine ZP.then ?_; refine ZC.seq ?_; refine ZC.region ?_; refine ZL.val (r_move rfl) rfl ?_; refine ZL.val (r_lenSlice rfl) rfl ?_; refine ZL.val (r_gtr rfl rfl) rfl ?_; refine ZL.val (r_assign rfl) rfl ?_; refine ZL.nil ?_; refine ZP.then ?_; refine ZC.ret ?_
  refine ZP.ret1 rfl rfl ⟨rfl, ?_⟩
  simp only [longB, Value.bool.injEq]
  exact decide_eq_decide.2 (by omega)

theorem indexFunc_ok (v : Value) (ls : List (List UInt8)) (w : World) (X : Nat → Prop) (h : ListR BytesE 1 w X v ls) :
    Ret P 114 #[v, .func (.func 92) #[] #[]] w (fun r w' => w = w' ∧ ∃ z : Int, r = .int .i64 z ∧ (0 ≤ z ↔ ls.any longB = true)) := by
  obtain ⟨p, c, rfl⟩ := h.shape
  obtain ⟨-, h1, h2⟩ := h.le
  refine Ret.enter2 Tryz.func114 rfl Tryz.ntmps114 rfl ?_
  refine ZC.seq ?_; refine ZC.region ?_; refine ZL.val (r_assign rfl) rfl ?_; refine ZL.nil ?_; refine ZP.then ?_; refine ZC.seq ?_; refine ZC.seq ?_; refine ZC.region ?_; refine ZL.val (r_move rfl) rfl ?_; refine ZL.val (r_lenSlice rfl) rfl ?_; refine ZL.val (r_move rfl) rfl ?_; refine ZL.nil ?_; refine ZP.then ?_; refine ZC.block ?_
  refine ZC.loop (X := Nat) (fun k => [(8, .int .i64 k), (7, .int .i64 ls.length), (0, .slice p ls.length c), (1, .func (.func 92) #[] #[])])
    (fun k w' => w' = w ∧ k ≤ ls.length ∧ (ls.take k).any longB = false) (fun k => ls.length - k) 0 ⟨rfl, rfl, rfl, rfl, trivial⟩ ⟨rfl, by omega, by simp⟩ ?_
  rintro k w' ⟨rfl, hk, hno⟩
  refine ZC.seq ?_; refine ZC.region ?_; refine ZL.val (r_lss rfl rfl) rfl ?_; refine ZL.nil ?_; refine ZP.then ?_; refine ZC.seq ?_
  refine ZC.condD rfl (fun hc => ?_) (fun hc => ?_)
  · have hk' : k < ls.length := by omega
    obtain ⟨g, o, cs, e, fz, r, rfl, hh, hx, hlen, ⟨u, rfl, hu⟩, hcell, -, -⟩ := h.elem (by decide) hk'
    refine ZC.skip ?_; refine ZP.then ?_; refine ZC.seq ?_; refine ZC.block ?_; refine ZC.seq ?_; refine ZC.region ?_; refine ZL.val (r_move rfl) rfl ?_; refine ZL.val (r_assign rfl) rfl ?_; refine ZL.nil ?_; refine ZP.then ?_; refine ZC.seq ?_; refine ZC.region ?_; refine ZL.val (r_move rfl) rfl ?_; refine ZL.val (r_move rfl) rfl ?_; refine ZL.val (r_move rfl) rfl ?_
    refine ZL.val (r_indexAddrSlice rfl rfl hk') rfl ?_
    refine ZL.val (r_load1 rfl hh (hcell 0 u rfl)) rfl ?_
    refine ZL.call (r_callv (cs := []) rfl rfl) rfl (long_ok u ls[k] w' X hu) (fun v1 w1 hv => ?_)
    obtain ⟨rfl, rfl⟩ := hv
    refine ZL.nil ?_; refine ZP.then ?_
    refine ZC.cond rfl (fun ht => ?_) (fun hf => ?_)
    · refine ZC.seq ?_; refine ZC.region ?_; refine ZL.val (r_move rfl) rfl ?_; refine ZL.val (r_assign rfl) rfl ?_; refine ZL.nil ?_; refine ZP.then ?_; refine ZC.ret ?_; refine ZP.blockR ?_; refine ZP.thenR ?_; refine ZP.thenR ?_; refine ZP.blockR ?_; refine ZP.thenR ?_
      refine ZP.ret1 rfl rfl ⟨rfl, _, rfl, ?_⟩
      have : ls.any longB = true := List.any_eq_true.2 ⟨ls[k], List.getElem_mem hk', ht⟩
      simp only [this, iff_true]; omega
    · refine ZC.skip ?_; refine ZP.blockN ?_; refine ZP.then ?_; refine ZC.region ?_; refine ZL.val (r_add rfl rfl (wrap_i64 (by omega) (by omega))) rfl ?_; refine ZL.val (r_move rfl) rfl ?_; refine ZL.nil ?_
      refine ZP.round (k + 1) ⟨rfl, rfl, rfl, rfl, trivial⟩ ⟨rfl, by omega, ?_⟩ (by omega)
      rw [List.take_succ_eq_append_getElem hk', List.any_append, hno]
      simp [hf]
  · have hk' : k = ls.length := by omega
    subst hk'
    refine ZC.exit ?_; refine ZP.thenX ?_; refine ZP.thenX ?_; refine ZP.blockE ?_; refine ZP.then ?_; refine ZC.seq ?_; refine ZC.region ?_; refine ZL.val (r_assign rfl) rfl ?_; refine ZL.nil ?_; refine ZP.then ?_; refine ZC.ret ?_
    refine ZP.ret1 rfl rfl ⟨rfl, _, rfl, ?_⟩
    rw [List.take_length] at hno
    simp [hno]

theorem containsFunc_ok (v : Value) (ls : List (List UInt8)) (w : World) (X : Nat → Prop) (h : ListR BytesE 1 w X v ls) :
    Ret P 93 #[v, .func (.func 92) #[] #[]] w (fun r w' => w = w' ∧ r = .bool (ls.any longB)) := by
  refine Ret.enter2 Tryz.func93 rfl Tryz.ntmps93 rfl ?_
  refine ZC.seq ?_; refine ZC.region ?_; refine ZL.val (r_assign rfl) rfl ?_; refine ZL.nil ?_; refine ZP.then ?_; refine ZC.seq ?_; refine ZC.region ?_; refine ZL.val (r_move rfl) rfl ?_; refine ZL.val (r_move rfl) rfl ?_
  refine ZL.call (r_call rfl) rfl (indexFunc_ok v ls w X h) (fun v1 w1 hv => ?_)
  obtain ⟨rfl, z, rfl, hz⟩ := hv
  refine ZL.val (r_geq rfl rfl) rfl ?_; refine ZL.val (r_assign rfl) rfl ?_; refine ZL.nil ?_; refine ZP.then ?_; refine ZC.ret ?_
  refine ZP.ret1 rfl rfl ⟨rfl, ?_⟩
  simp only [Value.bool.injEq]
  rw [Bool.eq_iff_iff]; simpa using hz

/-! ### May -/
def TIn.bad (x : TIn) : Bool := longB x.script || decide (10 < x.wit.length) || x.wit.any longB
def TOut.bad (x : TOut) : Bool := longB x.script
def TTx.may (t : TTx) : Bool := !t.ins.any TIn.bad && !t.outs.any TOut.bad && decide (1 ≤ t.ins.length) && decide (t.ins.length ≤ 50) && decide (1 ≤ t.outs.length) && decide (t.outs.length ≤ 50)

theorem InE.cells {w : World} {X : Nat → Prop} {i : TIn} {sv wv : Value} : (i.prev.cells ++ [u32 i.vout, sv, u32 i.seq, wv])[32]? = some (u32 i.vout) ∧ (i.prev.cells ++ [u32 i.vout, sv, u32 i.seq, wv])[33]? = some sv ∧
    (i.prev.cells ++ [u32 i.vout, sv, u32 i.seq, wv])[34]? = some (u32 i.seq) ∧ (i.prev.cells ++ [u32 i.vout, sv, u32 i.seq, wv])[35]? = some wv := by
  have h := i.prev.length
  refine ⟨?_, ?_, ?_, ?_⟩ <;> rw [List.getElem?_append_right (by omega), h] <;> rfl

/-- The cells of an input, and of an output, as a variable holds them. -/
def InC (i : TIn) (sv wv : Value) : Array Value := (i.prev.cells ++ [u32 i.vout, sv, u32 i.seq, wv]).toArray
theorem InC.size (i : TIn) (sv wv : Value) : (InC i sv wv).size = 36 := by simp [InC, B32.length]
theorem InC.n32 (i : TIn) (sv wv : Value) : nth (InC i sv wv) 32 = some (u32 i.vout) := by rw [nth_eq]; simpa [InC] using (InE.cells (i := i) (sv := sv) (wv := wv) (w := default) (X := No)).1
theorem InC.n33 (i : TIn) (sv wv : Value) : nth (InC i sv wv) 33 = some sv := by rw [nth_eq]; simpa [InC] using (InE.cells (i := i) (sv := sv) (wv := wv) (w := default) (X := No)).2.1
theorem InC.n34 (i : TIn) (sv wv : Value) : nth (InC i sv wv) 34 = some (u32 i.seq) := by rw [nth_eq]; simpa [InC] using (InE.cells (i := i) (sv := sv) (wv := wv) (w := default) (X := No)).2.2.1
theorem InC.n35 (i : TIn) (sv wv : Value) : nth (InC i sv wv) 35 = some wv := by rw [nth_eq]; simpa [InC] using (InE.cells (i := i) (sv := sv) (wv := wv) (w := default) (X := No)).2.2.2
theorem SlC.one {w : World} {X : Nat → Prop} {s n : Nat} {v : Value} {xs : List Value} (h : SlC w X s v n xs) : v.oneCell' = true := by
  obtain ⟨p, c, rfl⟩ := h.shape; rfl
theorem ListR.one {α : Type} {E : World → (Nat → Prop) → List Value → α → Prop} {s : Nat} {w : World} {X : Nat → Prop} {v : Value} {l : List α} (h : ListR E s w X v l) : v.oneCell' = true := by
  obtain ⟨p, c, rfl⟩ := h.shape; rfl
theorem b32_one (x : B32) : ∀ v ∈ x.cells, v.oneCell' = true := u8_one _
theorem InC.one {i : TIn} {sv wv : Value} (h1 : sv.oneCell' = true) (h2 : wv.oneCell' = true) : (InC i sv wv).toList.all Value.oneCell' = true := by
  simp only [InC, List.all_append, List.all_cons, List.all_nil, Bool.and_true, Bool.and_eq_true, List.all_eq_true]
  exact ⟨b32_one _, rfl, h1, rfl, h2⟩

theorem may_ok (v : Value) (t : TTx) (w : World) (X : Nat → Prop) (h : TxR w X v t) :
    Ret P 70 #[v] w (fun r w' => Ext w w' ∧ r = .bool t.may) := by
  obtain ⟨r, rfl, iv, ov, rfl, hi, ho⟩ := h
  obtain ⟨ip, ic, rfl⟩ := hi.shape
  obtain ⟨op, oc, rfl⟩ := ho.shape
  obtain ⟨-, hi1, hi2⟩ := hi.le
  obtain ⟨-, ho1, ho2⟩ := ho.le
  have mX : ∀ {L : List Chunk} {w' : World}, Mem w No L w' → Ext w w' := fun h => h.ext
  refine Ret.enter1 Tryz.func70 rfl Tryz.ntmps70 rfl ?_
  refine ZC.seq ?_; refine ZC.region ?_
  refine ZL.box (Mem.start w No) rfl rfl rfl (fun b w1 M => ?_)
  refine ZL.val (r_assign rfl) rfl ?_; refine ZL.nil ?_; refine ZP.then ?_; refine ZC.seq ?_; refine ZC.seq ?_; refine ZC.region ?_; refine ZL.val (r_fieldAddr rfl) rfl ?_
  refine ZL.val (r_ld M rfl (by rfl)) rfl ?_
  refine ZL.val (r_lenSlice rfl) rfl ?_; refine ZL.val (r_move rfl) rfl ?_; refine ZL.nil ?_; refine ZP.then ?_; refine ZC.block ?_
  refine ZC.loop (X := Nat) (fun k => [(10, .int .i64 k), (9, .int .i64 t.ins.length), (8, .slice ip t.ins.length ic), (1, .pointer (some ⟨b, 0, none⟩))])
    (fun k w' => Mem w No [.blk b (.cells #[u32 t.version, .slice ip t.ins.length ic, .slice op t.outs.length oc, u32 t.lock] 33)] w' ∧ k ≤ t.ins.length ∧ (t.ins.take k).any TIn.bad = false) (fun k => t.ins.length - k) 0 ⟨rfl, rfl, rfl, rfl, trivial⟩ ⟨M, by omega, by simp⟩ ?_
  rintro k w2 ⟨M2, hk, hno⟩
  refine ZC.seq ?_; refine ZC.region ?_; refine ZL.val (r_lss rfl rfl) rfl ?_; refine ZL.nil ?_; refine ZP.then ?_; refine ZC.seq ?_
  refine ZC.condD rfl (fun hc => ?_) (fun hc => ?_)
  · have hk' : k < t.ins.length := by omega
    obtain ⟨g, o, cs, e, fz, r, rfl, hh, hx, hlen, hE, hcell, hsz, hext⟩ := hi.elem (by decide) hk'
    obtain ⟨sv, wv, rfl, hs, hwit⟩ := hE
    obtain ⟨wp, wc, rfl⟩ := hwit.shape
    obtain ⟨-, hw1, hw2⟩ := hwit.le
    have bad : t.ins[k].bad = true → t.may = false := fun hb => by
      have : t.ins.any TIn.bad = true := List.any_eq_true.2 ⟨_, List.getElem_mem hk', hb⟩
      simp [TTx.may, this]
    change cs.extract _ _ = InC t.ins[k] sv (.slice wp t.ins[k].wit.length wc) at hext
    refine ZC.skip ?_; refine ZP.then ?_; refine ZC.seq ?_; refine ZC.block ?_; refine ZC.seq ?_; refine ZC.region ?_
    refine ZL.val (r_indexAddrSlice rfl rfl hk') rfl ?_
    refine ZL.val (r_loadN rfl (M2.ext.at hh id) hsz hext) rfl ?_
    refine ZL.alloc M2 rfl rfl (fun b3 w3 M3 => ?_)
    refine ZL.stW M3 rfl rfl rfl (by rfl) (InC.size _ _ _) (InC.one hs.one rfl) (fun w4 M4 => ?_)
    refine ZL.nil ?_; refine ZP.then ?_; refine ZC.seq ?_; refine ZC.region ?_; refine ZL.val (r_fieldAddr rfl) rfl ?_
    refine ZL.val (r_ld M4 rfl (InC.n33 _ _ _)) rfl ?_
    refine ZL.call (r_call rfl) rfl (long_ok sv _ w4 _ (hs.mv (Mv.mem (M4.weak X)))) (fun v5 w5 hv => ?_)
    obtain ⟨rfl, rfl⟩ := hv
    refine ZL.val (r_move rfl) rfl ?_
    have fin : ∀ {Q : Post} {σ : Env}, True := fun {_ _} => trivial
    refine ZL.split 17 rfl (fun ht => ?_) (fun hf => ?_)
    · refine ZL.skip rfl rfl rfl rfl ?_; refine ZL.skip rfl rfl rfl rfl ?_; refine ZL.skip rfl rfl rfl rfl ?_; refine ZL.skip rfl rfl rfl rfl ?_; refine ZL.val (r_pickT rfl rfl) rfl ?_; refine ZL.val (r_move rfl) rfl ?_; refine ZL.skip rfl rfl rfl rfl ?_; refine ZL.skip rfl rfl rfl rfl ?_; refine ZL.skip rfl rfl rfl rfl ?_; refine ZL.val (r_pickT rfl rfl) rfl ?_; refine ZL.nil ?_; refine ZP.then ?_
      refine ZC.condT rfl ?_
      refine ZC.seq ?_; refine ZC.region ?_; refine ZL.val (r_assign rfl) rfl ?_; refine ZL.nil ?_; refine ZP.then ?_; refine ZC.ret ?_; refine ZP.blockR ?_; refine ZP.thenR ?_; refine ZP.thenR ?_; refine ZP.blockR ?_; refine ZP.thenR ?_
      exact ZP.ret1 rfl rfl ⟨M4.ext, by rw [bad (by simp [TIn.bad, ht])]⟩
    · refine ZL.on rfl rfl rfl ?_; refine ZL.val (r_fieldAddr rfl) rfl ?_; refine ZL.on rfl rfl rfl ?_
      refine ZL.val (r_ld M4 rfl (InC.n35 _ _ _)) rfl ?_
      refine ZL.on rfl rfl rfl ?_; refine ZL.val (r_lenSlice rfl) rfl ?_; refine ZL.on rfl rfl rfl ?_; refine ZL.val (r_gtr rfl rfl) rfl ?_; refine ZL.val (r_pickF rfl rfl) rfl ?_; refine ZL.val (r_move rfl) rfl ?_
      refine ZL.splitD 23 rfl (fun ht => ?_) (fun hf2 => ?_)
      · refine ZL.skip rfl rfl rfl rfl ?_; refine ZL.skip rfl rfl rfl rfl ?_; refine ZL.skip rfl rfl rfl rfl ?_; refine ZL.val (r_pickT rfl rfl) rfl ?_; refine ZL.nil ?_; refine ZP.then ?_
        refine ZC.condT rfl ?_
        refine ZC.seq ?_; refine ZC.region ?_; refine ZL.val (r_assign rfl) rfl ?_; refine ZL.nil ?_; refine ZP.then ?_; refine ZC.ret ?_; refine ZP.blockR ?_; refine ZP.thenR ?_; refine ZP.thenR ?_; refine ZP.blockR ?_; refine ZP.thenR ?_
        exact ZP.ret1 rfl rfl ⟨M4.ext, by rw [bad (by simp [TIn.bad]; omega)]⟩
      · refine ZL.on rfl rfl rfl ?_; refine ZL.val (r_fieldAddr rfl) rfl ?_; refine ZL.on rfl rfl rfl ?_
        refine ZL.val (r_ld M4 rfl (InC.n35 _ _ _)) rfl ?_
        refine ZL.on rfl rfl rfl ?_
        refine ZL.call (r_call rfl) rfl (containsFunc_ok _ _ w4 _ (ListR.mv (fun _ _ h => BytesE.mv (Mv.mem (M4.weak X)) h) hwit (Mv.mem (M4.weak X)))) (fun v6 w6 hv => ?_)
        obtain ⟨rfl, rfl⟩ := hv
        refine ZL.val (r_pickF rfl rfl) rfl ?_; refine ZL.nil ?_; refine ZP.then ?_
        refine ZC.cond rfl (fun ht => ?_) (fun hf3 => ?_)
        · refine ZC.seq ?_; refine ZC.region ?_; refine ZL.val (r_assign rfl) rfl ?_; refine ZL.nil ?_; refine ZP.then ?_; refine ZC.ret ?_; refine ZP.blockR ?_; refine ZP.thenR ?_; refine ZP.thenR ?_; refine ZP.blockR ?_; refine ZP.thenR ?_
          exact ZP.ret1 rfl rfl ⟨M4.ext, by rw [bad (by simp [TIn.bad, ht])]⟩
        · refine ZC.skip ?_; refine ZP.blockN ?_; refine ZP.then ?_; refine ZC.region ?_; refine ZL.val (r_add rfl rfl (wrap_i64 (by omega) (by omega))) rfl ?_; refine ZL.val (r_move rfl) rfl ?_; refine ZL.nil ?_
          refine ZP.round (k + 1) ⟨rfl, rfl, rfl, rfl, trivial⟩ ⟨M4.drop, by omega, ?_⟩ (by omega)
          rw [List.take_succ_eq_append_getElem hk', List.any_append, hno]
          simp [TIn.bad, hf, hf3]; omega
  · have hk' : k = t.ins.length := by omega
    subst hk'
    rw [List.take_length] at hno
    refine ZC.exit ?_; refine ZP.thenX ?_; refine ZP.thenX ?_; refine ZP.blockE ?_; refine ZP.then ?_; refine ZC.seq ?_; refine ZC.seq ?_; refine ZC.region ?_; refine ZL.val (r_fieldAddr rfl) rfl ?_
    refine ZL.val (r_ld M2 rfl (by rfl)) rfl ?_
    refine ZL.val (r_lenSlice rfl) rfl ?_; refine ZL.val (r_move rfl) rfl ?_; refine ZL.nil ?_; refine ZP.then ?_; refine ZC.block ?_
    refine ZC.loop (X := Nat) (fun k => [(32, .int .i64 k), (31, .int .i64 t.outs.length), (30, .slice op t.outs.length oc), (1, .pointer (some ⟨b, 0, none⟩))])
      (fun k w' => Mem w No [.blk b (.cells #[u32 t.version, .slice ip t.ins.length ic, .slice op t.outs.length oc, u32 t.lock] 33)] w' ∧ k ≤ t.outs.length ∧ (t.outs.take k).any TOut.bad = false) (fun k => t.outs.length - k) 0 ⟨rfl, rfl, rfl, rfl, trivial⟩ ⟨M2, by omega, by simp⟩ ?_
    rintro k w2 ⟨M2, hk, hno2⟩
    refine ZC.seq ?_; refine ZC.region ?_; refine ZL.val (r_lss rfl rfl) rfl ?_; refine ZL.nil ?_; refine ZP.then ?_; refine ZC.seq ?_
    refine ZC.condD rfl (fun hc2 => ?_) (fun hc2 => ?_)
    · have hk' : k < t.outs.length := by omega
      obtain ⟨g, o, cs, e, fz, r, rfl, hh, hx, hlen, hE, hcell, hsz, hext⟩ := ho.elem (by decide) hk'
      obtain ⟨sv, rfl, hs⟩ := hE
      have bad : t.outs[k].bad = true → t.may = false := fun hb => by
        have : t.outs.any TOut.bad = true := List.any_eq_true.2 ⟨_, List.getElem_mem hk', hb⟩
        simp [TTx.may, this]
      refine ZC.skip ?_; refine ZP.then ?_; refine ZC.seq ?_; refine ZC.block ?_; refine ZC.seq ?_; refine ZC.region ?_
      refine ZL.val (r_indexAddrSlice rfl rfl hk') rfl ?_
      refine ZL.val (r_loadN rfl (M2.ext.at hh id) hsz hext) rfl ?_
      refine ZL.alloc M2 rfl rfl (fun b3 w3 M3 => ?_)
      refine ZL.stW M3 rfl rfl rfl (by rfl) (by rfl) (by simp only [List.all_cons, List.all_nil, hs.one]; rfl) (fun w4 M4 => ?_)
      refine ZL.nil ?_; refine ZP.then ?_; refine ZC.seq ?_; refine ZC.region ?_; refine ZL.val (r_fieldAddr rfl) rfl ?_
      refine ZL.val (r_ld M4 rfl (by rfl)) rfl ?_
      refine ZL.call (r_call rfl) rfl (long_ok sv _ w4 _ (hs.mv (Mv.mem (M4.weak X)))) (fun v5 w5 hv => ?_)
      obtain ⟨rfl, rfl⟩ := hv
      refine ZL.nil ?_; refine ZP.then ?_
      refine ZC.cond rfl (fun ht => ?_) (fun hf => ?_)
      · refine ZC.seq ?_; refine ZC.region ?_; refine ZL.val (r_assign rfl) rfl ?_; refine ZL.nil ?_; refine ZP.then ?_; refine ZC.ret ?_; refine ZP.blockR ?_; refine ZP.thenR ?_; refine ZP.thenR ?_; refine ZP.blockR ?_; refine ZP.thenR ?_
        exact ZP.ret1 rfl rfl ⟨M4.ext, by rw [bad (by simp [TOut.bad, ht])]⟩
      · refine ZC.skip ?_; refine ZP.blockN ?_; refine ZP.then ?_; refine ZC.region ?_; refine ZL.val (r_add rfl rfl (wrap_i64 (by omega) (by omega))) rfl ?_; refine ZL.val (r_move rfl) rfl ?_; refine ZL.nil ?_
        refine ZP.round (k + 1) ⟨rfl, rfl, rfl, rfl, trivial⟩ ⟨M4.drop, by omega, ?_⟩ (by omega)
        rw [List.take_succ_eq_append_getElem hk', List.any_append, hno2]
        simp [TOut.bad, hf]
    · have hk' : k = t.outs.length := by omega
      subst hk'
      rw [List.take_length] at hno2
      have hm : t.may = (decide (1 ≤ t.ins.length) && decide (t.ins.length ≤ 50) && decide (1 ≤ t.outs.length) && decide (t.outs.length ≤ 50)) := by simp [TTx.may, hno, hno2]
      refine ZC.exit ?_; refine ZP.thenX ?_; refine ZP.thenX ?_; refine ZP.blockE ?_; refine ZP.then ?_; refine ZC.seq ?_; refine ZC.region ?_; refine ZL.val (r_fieldAddr rfl) rfl ?_
      refine ZL.val (r_ld M2 rfl (by rfl)) rfl ?_
      refine ZL.val (r_lenSlice rfl) rfl ?_; refine ZL.val (r_geq rfl rfl) rfl ?_; refine ZL.val (r_move rfl) rfl ?_
      refine ZL.splitD 44 rfl (fun h1 => ?_) (fun h1 => ?_)
      · refine ZL.on rfl rfl rfl ?_; refine ZL.val (r_fieldAddr rfl) rfl ?_; refine ZL.on rfl rfl rfl ?_
        refine ZL.val (r_ld M2 rfl (by rfl)) rfl ?_
        refine ZL.on rfl rfl rfl ?_; refine ZL.val (r_lenSlice rfl) rfl ?_; refine ZL.on rfl rfl rfl ?_; refine ZL.val (r_leq rfl rfl) rfl ?_; refine ZL.val (r_pickT rfl rfl) rfl ?_; refine ZL.val (r_move rfl) rfl ?_
        refine ZL.splitD 50 rfl (fun h2 => ?_) (fun h2 => ?_)
        · refine ZL.on rfl rfl rfl ?_; refine ZL.val (r_fieldAddr rfl) rfl ?_; refine ZL.on rfl rfl rfl ?_
          refine ZL.val (r_ld M2 rfl (by rfl)) rfl ?_
          refine ZL.on rfl rfl rfl ?_; refine ZL.val (r_lenSlice rfl) rfl ?_; refine ZL.on rfl rfl rfl ?_; refine ZL.val (r_geq rfl rfl) rfl ?_; refine ZL.val (r_pickT rfl rfl) rfl ?_; refine ZL.val (r_move rfl) rfl ?_
          refine ZL.splitD 56 rfl (fun h3 => ?_) (fun h3 => ?_)
          · refine ZL.on rfl rfl rfl ?_; refine ZL.val (r_fieldAddr rfl) rfl ?_; refine ZL.on rfl rfl rfl ?_
            refine ZL.val (r_ld M2 rfl (by rfl)) rfl ?_
            refine ZL.on rfl rfl rfl ?_; refine ZL.val (r_lenSlice rfl) rfl ?_; refine ZL.on rfl rfl rfl ?_; refine ZL.val (r_leq rfl rfl) rfl ?_; refine ZL.val (r_pickT rfl rfl) rfl ?_; refine ZL.val (r_assign rfl) rfl ?_; refine ZL.nil ?_; refine ZP.then ?_; refine ZC.ret ?_
            refine ZP.ret1 rfl rfl ⟨M2.ext, ?_⟩
            rw [hm]; congr 1; rw [Bool.eq_iff_iff]; simp; omega
          · refine ZL.skip rfl rfl rfl rfl ?_; refine ZL.skip rfl rfl rfl rfl ?_; refine ZL.skip rfl rfl rfl rfl ?_; refine ZL.skip rfl rfl rfl rfl ?_; refine ZL.val (r_pickF rfl rfl) rfl ?_; refine ZL.val (r_assign rfl) rfl ?_; refine ZL.nil ?_; refine ZP.then ?_; refine ZC.ret ?_
            refine ZP.ret1 rfl rfl ⟨M2.ext, ?_⟩
            rw [hm]; congr 1; rw [Bool.eq_iff_iff]; simp; omega
        · refine ZL.skip rfl rfl rfl rfl ?_; refine ZL.skip rfl rfl rfl rfl ?_; refine ZL.skip rfl rfl rfl rfl ?_; refine ZL.skip rfl rfl rfl rfl ?_; refine ZL.val (r_pickF rfl rfl) rfl ?_; refine ZL.val (r_move rfl) rfl ?_; refine ZL.skip rfl rfl rfl rfl ?_; refine ZL.skip rfl rfl rfl rfl ?_; refine ZL.skip rfl rfl rfl rfl ?_; refine ZL.skip rfl rfl rfl rfl ?_; refine ZL.val (r_pickF rfl rfl) rfl ?_; refine ZL.val (r_assign rfl) rfl ?_; refine ZL.nil ?_; refine ZP.then ?_; refine ZC.ret ?_
          refine ZP.ret1 rfl rfl ⟨M2.ext, ?_⟩
          rw [hm]; congr 1; rw [Bool.eq_iff_iff]; simp; omega
      · refine ZL.skip rfl rfl rfl rfl ?_; refine ZL.skip rfl rfl rfl rfl ?_; refine ZL.skip rfl rfl rfl rfl ?_; refine ZL.skip rfl rfl rfl rfl ?_; refine ZL.val (r_pickF rfl rfl) rfl ?_; refine ZL.val (r_move rfl) rfl ?_; refine ZL.skip rfl rfl rfl rfl ?_; refine ZL.skip rfl rfl rfl rfl ?_; refine ZL.skip rfl rfl rfl rfl ?_; refine ZL.skip rfl rfl rfl rfl ?_; refine ZL.val (r_pickF rfl rfl) rfl ?_; refine ZL.val (r_move rfl) rfl ?_; refine ZL.skip rfl rfl rfl rfl ?_; refine ZL.skip rfl rfl rfl rfl ?_; refine ZL.skip rfl rfl rfl rfl ?_; refine ZL.skip rfl rfl rfl rfl ?_; refine ZL.val (r_pickF rfl rfl) rfl ?_; refine ZL.val (r_assign rfl) rfl ?_; refine ZL.nil ?_; refine ZP.then ?_; refine ZC.ret ?_
        refine ZP.ret1 rfl rfl ⟨M2.ext, ?_⟩
        rw [hm]; congr 1; rw [Bool.eq_iff_iff]; simp; omega

theorem refmay_ok (v : Value) (t : TTx) (w : World) (X : Nat → Prop) (h : TxR w X v t) :
    Ret P 41 #[v] w (fun r w' => Ext w w' ∧ r = .bool t.may) := by
  obtain ⟨r, rfl, iv, ov, rfl, hi, ho⟩ := h
  obtain ⟨ip, ic, rfl⟩ := hi.shape
  obtain ⟨op, oc, rfl⟩ := ho.shape
  obtain ⟨-, hi1, hi2⟩ := hi.le
  obtain ⟨-, ho1, ho2⟩ := ho.le
  refine Ret.enter1 Tryz.func41 rfl Tryz.ntmps41 rfl ?_
  refine ZC.seq ?_; refine ZC.region ?_
  refine ZL.box (Mem.start w No) rfl rfl rfl (fun b w1 M => ?_)
  refine ZL.val (r_assign rfl) rfl ?_; refine ZL.nil ?_; refine ZP.then ?_; refine ZC.seq ?_; refine ZC.seq ?_; refine ZC.region ?_; refine ZL.val (r_fieldAddr rfl) rfl ?_
  refine ZL.val (r_ld M rfl (by rfl)) rfl ?_
  refine ZL.val (r_lenSlice rfl) rfl ?_; refine ZL.val (r_lss rfl rfl) rfl ?_; refine ZL.val (r_move rfl) rfl ?_
  have no : t.may = true → 1 ≤ t.ins.length ∧ t.ins.length ≤ 50 ∧ 1 ≤ t.outs.length ∧ t.outs.length ≤ 50 := fun h => by simp [TTx.may] at h; omega
  have nof : ¬ (1 ≤ t.ins.length ∧ t.ins.length ≤ 50 ∧ 1 ≤ t.outs.length ∧ t.outs.length ≤ 50) → t.may = false := fun h => by
    cases hm : t.may with
    | false => rfl
    | true => exact absurd (no hm) h
  refine ZL.splitD 10 rfl (fun h1 => ?_) (fun h1 => ?_)
  · refine ZL.skip rfl rfl rfl rfl ?_; refine ZL.skip rfl rfl rfl rfl ?_; refine ZL.skip rfl rfl rfl rfl ?_; refine ZL.skip rfl rfl rfl rfl ?_; refine ZL.val (r_pickT rfl rfl) rfl ?_; refine ZL.val (r_move rfl) rfl ?_; refine ZL.skip rfl rfl rfl rfl ?_; refine ZL.skip rfl rfl rfl rfl ?_; refine ZL.skip rfl rfl rfl rfl ?_; refine ZL.skip rfl rfl rfl rfl ?_; refine ZL.val (r_pickT rfl rfl) rfl ?_; refine ZL.val (r_move rfl) rfl ?_; refine ZL.skip rfl rfl rfl rfl ?_; refine ZL.skip rfl rfl rfl rfl ?_; refine ZL.skip rfl rfl rfl rfl ?_; refine ZL.skip rfl rfl rfl rfl ?_; refine ZL.val (r_pickT rfl rfl) rfl ?_; refine ZL.nil ?_; refine ZP.then ?_
    refine ZC.condT rfl ?_
    refine ZC.seq ?_; refine ZC.region ?_; refine ZL.val (r_assign rfl) rfl ?_; refine ZL.nil ?_; refine ZP.then ?_; refine ZC.ret ?_; refine ZP.thenR ?_
    exact ZP.ret1 rfl rfl ⟨M.ext, by rw [nof (by omega)]⟩
  · refine ZL.on rfl rfl rfl ?_; refine ZL.val (r_fieldAddr rfl) rfl ?_; refine ZL.on rfl rfl rfl ?_
    refine ZL.val (r_ld M rfl (by rfl)) rfl ?_
    refine ZL.on rfl rfl rfl ?_; refine ZL.val (r_lenSlice rfl) rfl ?_; refine ZL.on rfl rfl rfl ?_; refine ZL.val (r_gtr rfl rfl) rfl ?_; refine ZL.val (r_pickF rfl rfl) rfl ?_; refine ZL.val (r_move rfl) rfl ?_
    refine ZL.splitD 16 rfl (fun h2 => ?_) (fun h2 => ?_)
    · refine ZL.skip rfl rfl rfl rfl ?_; refine ZL.skip rfl rfl rfl rfl ?_; refine ZL.skip rfl rfl rfl rfl ?_; refine ZL.skip rfl rfl rfl rfl ?_; refine ZL.val (r_pickT rfl rfl) rfl ?_; refine ZL.val (r_move rfl) rfl ?_; refine ZL.skip rfl rfl rfl rfl ?_; refine ZL.skip rfl rfl rfl rfl ?_; refine ZL.skip rfl rfl rfl rfl ?_; refine ZL.skip rfl rfl rfl rfl ?_; refine ZL.val (r_pickT rfl rfl) rfl ?_; refine ZL.nil ?_; refine ZP.then ?_
      refine ZC.condT rfl ?_
      refine ZC.seq ?_; refine ZC.region ?_; refine ZL.val (r_assign rfl) rfl ?_; refine ZL.nil ?_; refine ZP.then ?_; refine ZC.ret ?_; refine ZP.thenR ?_
      exact ZP.ret1 rfl rfl ⟨M.ext, by rw [nof (by omega)]⟩
    · refine ZL.on rfl rfl rfl ?_; refine ZL.val (r_fieldAddr rfl) rfl ?_; refine ZL.on rfl rfl rfl ?_
      refine ZL.val (r_ld M rfl (by rfl)) rfl ?_
      refine ZL.on rfl rfl rfl ?_; refine ZL.val (r_lenSlice rfl) rfl ?_; refine ZL.on rfl rfl rfl ?_; refine ZL.val (r_lss rfl rfl) rfl ?_; refine ZL.val (r_pickF rfl rfl) rfl ?_; refine ZL.val (r_move rfl) rfl ?_
      refine ZL.splitD 22 rfl (fun h3 => ?_) (fun h3 => ?_)
      · refine ZL.skip rfl rfl rfl rfl ?_; refine ZL.skip rfl rfl rfl rfl ?_; refine ZL.skip rfl rfl rfl rfl ?_; refine ZL.skip rfl rfl rfl rfl ?_; refine ZL.val (r_pickT rfl rfl) rfl ?_; refine ZL.nil ?_; refine ZP.then ?_
        refine ZC.condT rfl ?_
        refine ZC.seq ?_; refine ZC.region ?_; refine ZL.val (r_assign rfl) rfl ?_; refine ZL.nil ?_; refine ZP.then ?_; refine ZC.ret ?_; refine ZP.thenR ?_
        exact ZP.ret1 rfl rfl ⟨M.ext, by rw [nof (by omega)]⟩
      · refine ZL.on rfl rfl rfl ?_; refine ZL.val (r_fieldAddr rfl) rfl ?_; refine ZL.on rfl rfl rfl ?_
        refine ZL.val (r_ld M rfl (by rfl)) rfl ?_
        refine ZL.on rfl rfl rfl ?_; refine ZL.val (r_lenSlice rfl) rfl ?_; refine ZL.on rfl rfl rfl ?_; refine ZL.val (r_gtr rfl rfl) rfl ?_; refine ZL.val (r_pickF rfl rfl) rfl ?_; refine ZL.nil ?_; refine ZP.then ?_
        refine ZC.condD rfl (fun h4 => ?_) (fun h4 => ?_)
        · refine ZC.seq ?_; refine ZC.region ?_; refine ZL.val (r_assign rfl) rfl ?_; refine ZL.nil ?_; refine ZP.then ?_; refine ZC.ret ?_; refine ZP.thenR ?_
          exact ZP.ret1 rfl rfl ⟨M.ext, by rw [nof (by omega)]⟩
        · have hm : t.may = (!t.ins.any TIn.bad && !t.outs.any TOut.bad) := by
            have e : (decide (1 ≤ t.ins.length) && decide (t.ins.length ≤ 50) && decide (1 ≤ t.outs.length) && decide (t.outs.length ≤ 50)) = true := by simp; omega
            simp only [Bool.and_eq_true] at e
            simp only [TTx.may, e.1.1.1, e.1.1.2, e.1.2, e.2, Bool.and_true]
          refine ZC.skip ?_; refine ZP.then ?_; refine ZC.seq ?_; refine ZC.seq ?_; refine ZC.region ?_; refine ZL.val (r_assign rfl) rfl ?_; refine ZL.nil ?_; refine ZP.then ?_; refine ZC.block ?_
          refine ZC.loop (X := Nat) (fun k => [(3, .int .i64 k), (1, .pointer (some ⟨b, 0, none⟩))])
            (fun k w' => Mem w No [.blk b (.cells #[u32 t.version, .slice ip t.ins.length ic, .slice op t.outs.length oc, u32 t.lock] 33)] w' ∧ k ≤ t.ins.length ∧ (t.ins.take k).any TIn.bad = false) (fun k => t.ins.length - k) 0 ⟨rfl, rfl, trivial⟩ ⟨M, by omega, by simp⟩ ?_
          rintro k w2 ⟨M2, hk, hno⟩
          refine ZC.seq ?_; refine ZC.seq ?_; refine ZC.region ?_; refine ZL.val (r_move rfl) rfl ?_; refine ZL.val (r_fieldAddr rfl) rfl ?_
          refine ZL.val (r_ld M2 rfl (by rfl)) rfl ?_
          refine ZL.val (r_lenSlice rfl) rfl ?_; refine ZL.val (r_lss rfl rfl) rfl ?_; refine ZL.nil ?_; refine ZP.then ?_
          refine ZC.condD rfl (fun hc => ?_) (fun hc => ?_)
          · have hk' : k < t.ins.length := by omega
            obtain ⟨g, o, cs, e, fz, r, rfl, hh, hx, hlen, hE, hcell, hsz, hext⟩ := hi.elem (by decide) hk'
            obtain ⟨sv, wv, rfl, hs, hwit⟩ := hE
            obtain ⟨wp, wc, rfl⟩ := hwit.shape
            obtain ⟨-, hw1, hw2⟩ := hwit.le
            obtain ⟨sp, sc, rfl⟩ := hs.shape
            have bad : t.ins[k].bad = true → t.may = false := fun hb => by
              have : t.ins.any TIn.bad = true := List.any_eq_true.2 ⟨_, List.getElem_mem hk', hb⟩
              simp [TTx.may, this]
            have hcc := InE.cells (i := t.ins[k]) (sv := .slice sp t.ins[k].script.length sc) (wv := .slice wp t.ins[k].wit.length wc) (w := w) (X := X)
            refine ZC.skip ?_; refine ZP.then ?_; refine ZC.seq ?_; refine ZC.block ?_; refine ZC.seq ?_; refine ZC.seq ?_; refine ZC.region ?_; refine ZL.val (r_fieldAddr rfl) rfl ?_
            refine ZL.val (r_ld M2 rfl (by rfl)) rfl ?_
            refine ZL.val (r_move rfl) rfl ?_
            refine ZL.val (r_indexAddrSlice rfl rfl hk') rfl ?_
            refine ZL.val (r_fieldAddr rfl) rfl ?_
            refine ZL.val (r_load1 rfl (M2.ext.at hh id) (hcell 33 _ hcc.2.1)) rfl ?_
            refine ZL.val (r_lenSlice rfl) rfl ?_; refine ZL.val (r_gtr rfl rfl) rfl ?_; refine ZL.val (r_move rfl) rfl ?_
            refine ZL.splitD 43 rfl (fun h5 => ?_) (fun h5 => ?_)
            · refine ZL.skip rfl rfl rfl rfl ?_; refine ZL.skip rfl rfl rfl rfl ?_; refine ZL.skip rfl rfl rfl rfl ?_; refine ZL.skip rfl rfl rfl rfl ?_; refine ZL.skip rfl rfl rfl rfl ?_; refine ZL.skip rfl rfl rfl rfl ?_; refine ZL.skip rfl rfl rfl rfl ?_; refine ZL.skip rfl rfl rfl rfl ?_; refine ZL.val (r_pickT rfl rfl) rfl ?_; refine ZL.nil ?_; refine ZP.then ?_
              refine ZC.condT rfl ?_
              refine ZC.seq ?_; refine ZC.region ?_; refine ZL.val (r_assign rfl) rfl ?_; refine ZL.nil ?_; refine ZP.then ?_; refine ZC.ret ?_; refine ZP.thenR ?_; refine ZP.blockR ?_; refine ZP.thenR ?_; refine ZP.thenR ?_; refine ZP.blockR ?_; refine ZP.thenR ?_
              exact ZP.ret1 rfl rfl ⟨M2.ext, by rw [bad (by simp [TIn.bad, longB]; omega)]⟩
            · refine ZL.on rfl rfl rfl ?_; refine ZL.val (r_fieldAddr rfl) rfl ?_; refine ZL.on rfl rfl rfl ?_
              refine ZL.val (r_ld M2 rfl (by rfl)) rfl ?_
              refine ZL.on rfl rfl rfl ?_; refine ZL.val (r_move rfl) rfl ?_; refine ZL.on rfl rfl rfl ?_
              refine ZL.val (r_indexAddrSlice rfl rfl hk') rfl ?_
              refine ZL.on rfl rfl rfl ?_; refine ZL.val (r_fieldAddr rfl) rfl ?_; refine ZL.on rfl rfl rfl ?_
              refine ZL.val (r_load1 rfl (M2.ext.at hh id) (hcell 35 _ hcc.2.2.2)) rfl ?_
              refine ZL.on rfl rfl rfl ?_; refine ZL.val (r_lenSlice rfl) rfl ?_; refine ZL.on rfl rfl rfl ?_; refine ZL.val (r_gtr rfl rfl) rfl ?_; refine ZL.val (r_pickF rfl rfl) rfl ?_; refine ZL.nil ?_; refine ZP.then ?_
              refine ZC.condD rfl (fun h6 => ?_) (fun h6 => ?_)
              · refine ZC.seq ?_; refine ZC.region ?_; refine ZL.val (r_assign rfl) rfl ?_; refine ZL.nil ?_; refine ZP.then ?_; refine ZC.ret ?_; refine ZP.thenR ?_; refine ZP.blockR ?_; refine ZP.thenR ?_; refine ZP.thenR ?_; refine ZP.blockR ?_; refine ZP.thenR ?_
                exact ZP.ret1 rfl rfl ⟨M2.ext, by rw [bad (by simp [TIn.bad]; omega)]⟩
              · refine ZC.skip ?_; refine ZP.then ?_; refine ZC.seq ?_; refine ZC.region ?_; refine ZL.val (r_assign rfl) rfl ?_; refine ZL.nil ?_; refine ZP.then ?_; refine ZC.block ?_
                refine ZC.loop (X := Nat) (fun j => [(4, .int .i64 j), (3, .int .i64 k), (1, .pointer (some ⟨b, 0, none⟩))])
                  (fun j w' => Mem w No [.blk b (.cells #[u32 t.version, .slice (some ⟨g, o, none⟩) t.ins.length ic, .slice op t.outs.length oc, u32 t.lock] 33)] w' ∧ j ≤ t.ins[k].wit.length ∧ (t.ins[k].wit.take j).any longB = false) (fun j => t.ins[k].wit.length - j) 0 ⟨rfl, rfl, rfl, trivial⟩ ⟨M2, by omega, by simp⟩ ?_
                rintro j w3 ⟨M3, hj, hno3⟩
                refine ZC.seq ?_; refine ZC.seq ?_; refine ZC.region ?_; refine ZL.val (r_move rfl) rfl ?_; refine ZL.val (r_fieldAddr rfl) rfl ?_
                refine ZL.val (r_ld M3 rfl (by rfl)) rfl ?_
                refine ZL.val (r_move rfl) rfl ?_
                refine ZL.val (r_indexAddrSlice rfl rfl hk') rfl ?_
                refine ZL.val (r_fieldAddr rfl) rfl ?_
                refine ZL.val (r_load1 rfl (M3.ext.at hh id) (hcell 35 _ hcc.2.2.2)) rfl ?_
                refine ZL.val (r_lenSlice rfl) rfl ?_; refine ZL.val (r_lss rfl rfl) rfl ?_; refine ZL.nil ?_; refine ZP.then ?_
                refine ZC.condD rfl (fun hd => ?_) (fun hd => ?_)
                · have hj' : j < t.ins[k].wit.length := by omega
                  obtain ⟨g', o', cs', e', fz', r', rfl, hh', hx', -, ⟨bv, rfl, hbv⟩, hcell', -, -⟩ := hwit.elem (by decide) hj'
                  obtain ⟨bp, bc, rfl⟩ := hbv.shape
                  have hb' := hcell' 0 _ rfl
                  refine ZC.skip ?_; refine ZP.then ?_; refine ZC.seq ?_; refine ZC.block ?_; refine ZC.seq ?_; refine ZC.region ?_; refine ZL.val (r_fieldAddr rfl) rfl ?_
                  refine ZL.val (r_ld M3 rfl (by rfl)) rfl ?_
                  refine ZL.val (r_move rfl) rfl ?_
                  refine ZL.val (r_indexAddrSlice rfl rfl hk') rfl ?_
                  refine ZL.val (r_fieldAddr rfl) rfl ?_
                  refine ZL.val (r_load1 rfl (M3.ext.at hh id) (hcell 35 _ hcc.2.2.2)) rfl ?_
                  refine ZL.val (r_move rfl) rfl ?_
                  refine ZL.val (r_indexAddrSlice rfl rfl hj') rfl ?_
                  refine ZL.val (r_load1 rfl (M3.ext.at hh' id) hb') rfl ?_
                  refine ZL.val (r_lenSlice rfl) rfl ?_; refine ZL.val (r_gtr rfl rfl) rfl ?_; refine ZL.nil ?_; refine ZP.then ?_
                  refine ZC.condD rfl (fun h7 => ?_) (fun h7 => ?_)
                  · refine ZC.seq ?_; refine ZC.region ?_; refine ZL.val (r_assign rfl) rfl ?_; refine ZL.nil ?_; refine ZP.then ?_; refine ZC.ret ?_; refine ZP.blockR ?_; refine ZP.thenR ?_; refine ZP.thenR ?_; refine ZP.blockR ?_; refine ZP.blockR ?_; refine ZP.thenR ?_; refine ZP.thenR ?_; refine ZP.blockR ?_; refine ZP.thenR ?_
                    refine ZP.ret1 rfl rfl ⟨M3.ext, ?_⟩
                    rw [bad]
                    have : t.ins[k].wit.any longB = true := List.any_eq_true.2 ⟨_, List.getElem_mem hj', by simp [longB]; omega⟩
                    simp [TIn.bad, this]
                  · refine ZC.skip ?_; refine ZP.blockN ?_; refine ZP.then ?_; refine ZC.region ?_; refine ZL.val (r_move rfl) rfl ?_; refine ZL.val (r_add rfl rfl (wrap_i64 (by omega) (by omega))) rfl ?_; refine ZL.val (r_assign rfl) rfl ?_; refine ZL.nil ?_
                    refine ZP.round (j + 1) ⟨rfl, rfl, rfl, trivial⟩ ⟨M3, by omega, ?_⟩ (by omega)
                    rw [List.take_succ_eq_append_getElem hj', List.any_append, hno3]
                    simp [longB]; omega
                · have hj' : j = t.ins[k].wit.length := by omega
                  subst hj'
                  rw [List.take_length] at hno3
                  refine ZC.exit ?_; refine ZP.thenX ?_; refine ZP.thenX ?_; refine ZP.blockE ?_; refine ZP.blockN ?_; refine ZP.then ?_; refine ZC.region ?_; refine ZL.val (r_move rfl) rfl ?_; refine ZL.val (r_add rfl rfl (wrap_i64 (by omega) (by omega))) rfl ?_; refine ZL.val (r_assign rfl) rfl ?_; refine ZL.nil ?_
                  refine ZP.round (k + 1) ⟨rfl, rfl, trivial⟩ ⟨M3, by omega, ?_⟩ (by omega)
                  rw [List.take_succ_eq_append_getElem hk', List.any_append, hno]
                  simp [TIn.bad, longB, hno3]; omega
          · have hk' : k = t.ins.length := by omega
            subst hk'
            rw [List.take_length] at hno
            refine ZC.exit ?_; refine ZP.thenX ?_; refine ZP.thenX ?_; refine ZP.blockE ?_; refine ZP.then ?_; refine ZC.seq ?_; refine ZC.seq ?_; refine ZC.region ?_; refine ZL.val (r_assign rfl) rfl ?_; refine ZL.nil ?_; refine ZP.then ?_; refine ZC.block ?_
            refine ZC.loop (X := Nat) (fun k => [(5, .int .i64 k), (1, .pointer (some ⟨b, 0, none⟩))])
              (fun k w' => Mem w No [.blk b (.cells #[u32 t.version, .slice ip t.ins.length ic, .slice op t.outs.length oc, u32 t.lock] 33)] w' ∧ k ≤ t.outs.length ∧ (t.outs.take k).any TOut.bad = false) (fun k => t.outs.length - k) 0 ⟨rfl, rfl, trivial⟩ ⟨M2, by omega, by simp⟩ ?_
            rintro k w2 ⟨M2, hk, hno2⟩
            refine ZC.seq ?_; refine ZC.seq ?_; refine ZC.region ?_; refine ZL.val (r_move rfl) rfl ?_; refine ZL.val (r_fieldAddr rfl) rfl ?_
            refine ZL.val (r_ld M2 rfl (by rfl)) rfl ?_
            refine ZL.val (r_lenSlice rfl) rfl ?_; refine ZL.val (r_lss rfl rfl) rfl ?_; refine ZL.nil ?_; refine ZP.then ?_
            refine ZC.condD rfl (fun hc2 => ?_) (fun hc2 => ?_)
            · have hk' : k < t.outs.length := by omega
              obtain ⟨g, o, cs, e, fz, r, rfl, hh, hx, hlen, hE, hcell, hsz, hext⟩ := ho.elem (by decide) hk'
              obtain ⟨sv, rfl, hs⟩ := hE
              obtain ⟨sp, sc, rfl⟩ := hs.shape
              refine ZC.skip ?_; refine ZP.then ?_; refine ZC.seq ?_; refine ZC.block ?_; refine ZC.seq ?_; refine ZC.region ?_; refine ZL.val (r_fieldAddr rfl) rfl ?_
              refine ZL.val (r_ld M2 rfl (by rfl)) rfl ?_
              refine ZL.val (r_move rfl) rfl ?_
              refine ZL.val (r_indexAddrSlice rfl rfl hk') rfl ?_
              refine ZL.val (r_fieldAddr rfl) rfl ?_
              refine ZL.val (r_load1 rfl (M2.ext.at hh id) (hcell 1 _ rfl)) rfl ?_
              refine ZL.val (r_lenSlice rfl) rfl ?_; refine ZL.val (r_gtr rfl rfl) rfl ?_; refine ZL.nil ?_; refine ZP.then ?_
              refine ZC.condD rfl (fun h5 => ?_) (fun h5 => ?_)
              · refine ZC.seq ?_; refine ZC.region ?_; refine ZL.val (r_assign rfl) rfl ?_; refine ZL.nil ?_; refine ZP.then ?_; refine ZC.ret ?_; refine ZP.blockR ?_; refine ZP.thenR ?_; refine ZP.thenR ?_; refine ZP.blockR ?_; refine ZP.thenR ?_
                refine ZP.ret1 rfl rfl ⟨M2.ext, ?_⟩
                have : t.outs.any TOut.bad = true := List.any_eq_true.2 ⟨_, List.getElem_mem hk', by simp [TOut.bad, longB]; omega⟩
                rw [hm, this]; simp
              · refine ZC.skip ?_; refine ZP.blockN ?_; refine ZP.then ?_; refine ZC.region ?_; refine ZL.val (r_move rfl) rfl ?_; refine ZL.val (r_add rfl rfl (wrap_i64 (by omega) (by omega))) rfl ?_; refine ZL.val (r_assign rfl) rfl ?_; refine ZL.nil ?_
                refine ZP.round (k + 1) ⟨rfl, rfl, trivial⟩ ⟨M2, by omega, ?_⟩ (by omega)
                rw [List.take_succ_eq_append_getElem hk', List.any_append, hno2]
                simp [TOut.bad, longB]; omega
            · have hk' : k = t.outs.length := by omega
              subst hk'
              rw [List.take_length] at hno2
              refine ZC.exit ?_; refine ZP.thenX ?_; refine ZP.thenX ?_; refine ZP.blockE ?_; refine ZP.then ?_; refine ZC.seq ?_; refine ZC.region ?_; refine ZL.val (r_assign rfl) rfl ?_; refine ZL.nil ?_; refine ZP.then ?_; refine ZC.ret ?_
              refine ZP.ret1 rfl rfl ⟨M2.ext, ?_⟩
              rw [hm, hno, hno2]; rfl
end Go.Proofs.YtibobcjfjnoclaaGreatDoor.Z
end
