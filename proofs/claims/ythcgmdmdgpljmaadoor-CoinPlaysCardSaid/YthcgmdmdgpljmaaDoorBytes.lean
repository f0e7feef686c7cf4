/- Bytes: what a slice of bytes reads as; the package wire's small words; the slices' Clip and Clone. -/
import Derived.Test.YthcgmdmdgpljmaaDoorSlice
import Derived.Test.YthcgmdmdgpljmaaDoorInst
set_option linter.unusedVariables false
set_option linter.unusedSimpArgs false
set_option maxRecDepth 100000
set_option maxHeartbeats 4000000
namespace Go.Proofs.YthcgmdmdgpljmaaDoor.Z
open Go Go.RowKit

def u8 (b : UInt8) : Value := .int .u8 b.toNat
abbrev BytesR (w : World) (X : Nat → Prop) (v : Value) (l : List UInt8) : Prop := SlC w X 1 v l.length (l.map u8)
abbrev BytesO (w w' : World) (v : Value) (l : List UInt8) : Prop := NewO w w' 5 1 v l.length (l.map u8)

theorem u8_one (l : List UInt8) : ∀ x ∈ l.map u8, x.oneCell' = true := by
  intro x hx; obtain ⟨b, _, rfl⟩ := List.mem_map.1 hx; rfl

theorem OwnR.bytes {w : World} {e n : Nat} {v : Value} {xs : List Value} {l : List UInt8} (h : OwnR w e 1 v n xs) (hn : n = l.length) (hx : xs = l.map u8) : BytesR w No v l := by
  subst hn; subst hx; exact h.slc (fun _ _ h => h)
theorem Mem.og {w0 w : World} {X : Nat → Prop} {L : List Chunk} {v : Value} {e s n : Nat} {xs : List Value} (h : Mem w0 X L w) (i : OwnIn L v e s n xs) : OwnR w e s v n xs := h.ok _ i.h
theorem OwnR.shape {w : World} {e s n : Nat} {v : Value} {xs : List Value} (h : OwnR w e s v n xs) : ∃ p c, v = .slice p n c := by
  rcases h.2 with ⟨rfl, rfl⟩ | ⟨g, cap, cur, rfl, _⟩ <;> exact ⟨_, _, rfl⟩
/-- A slice that is cut to its length. -/
theorem OwnR.clip {w : World} {e s n c : Nat} {p : Option Addr} {xs : List Value} (h : OwnR w e s (.slice p n c) n xs) : OwnR w e s (.slice p n n) n xs ∧ n ≤ c := by
  obtain ⟨h1, h2⟩ := h
  rcases h2 with ⟨hv, rfl⟩ | ⟨g, cap, cur, hv, hg, hc, hm, hs, ht⟩
  · simp only [Value.slice.injEq] at hv; obtain ⟨rfl, _, rfl⟩ := hv; exact ⟨⟨h1, .inl ⟨rfl, rfl⟩⟩, Nat.le_refl _⟩
  · simp only [Value.slice.injEq] at hv
    obtain ⟨rfl, _, rfl⟩ := hv
    exact ⟨⟨h1, .inr ⟨g, n, cur, rfl, hg, Nat.le_refl _, by omega, Nat.le_trans (Nat.mul_le_mul_right _ hc) hs, ht⟩⟩, hc⟩

theorem clip_ok (v : Value) (e s n : Nat) (xs : List Value) (w : World) (h : OwnR w e s v n xs) :
    Ret P 77 #[v] w (fun r w' => w = w' ∧ OwnR w e s r n xs ∧ r.ownBlock = v.ownBlock) := by
  obtain ⟨p, c, rfl⟩ := h.shape
  obtain ⟨h1, h2⟩ := h.clip
  refine Ret.enter1 Tryd.func77 rfl Tryd.ntmps77 rfl ?_
  refine ZC.seq ?_; refine ZC.region ?_; refine ZL.val (r_assign rfl) rfl ?_; refine ZL.nil ?_; refine ZP.then ?_; refine ZC.seq ?_; refine ZC.region ?_; refine ZL.val (r_move rfl) rfl ?_; refine ZL.val (r_move rfl) rfl ?_; refine ZL.val (r_lenSlice rfl) rfl ?_; refine ZL.val (r_move rfl) rfl ?_; refine ZL.val (r_lenSlice rfl) rfl ?_
  refine ZL.val (r_slice3 rfl rfl rfl (by omega) (by omega) (by omega)) rfl ?_
  refine ZL.val (r_assign rfl) rfl ?_; refine ZL.nil ?_; refine ZP.then ?_; refine ZC.ret ?_
  refine ZP.ret1 rfl rfl ⟨rfl, h1, ?_⟩
  cases p <;> rfl

theorem clone_ok (v : Value) (l : List UInt8) (w : World) (X : Nat → Prop) (h : BytesR w X v l) (hl : l.length ≤ 1000000) :
    Ret P 78 #[v] w (fun r w' => Ext w w' ∧ BytesO w w' r l) := by
  obtain ⟨p, c, rfl⟩ := h.shape
  refine Ret.enter1 Tryd.func78 rfl Tryd.ntmps78 rfl ?_
  refine ZC.seq ?_; refine ZC.region ?_; refine ZL.val (r_assign rfl) rfl ?_; refine ZL.nil ?_; refine ZP.then ?_; refine ZC.seq ?_; refine ZC.seq ?_; refine ZC.region ?_; refine ZL.val (r_move rfl) rfl ?_; refine ZL.val (r_eqlSliceNil rfl rfl) rfl ?_; refine ZL.nil ?_; refine ZP.then ?_
  refine ZC.cond rfl (fun hc => ?_) (fun hc => ?_)
  · refine ZC.seq ?_; refine ZC.region ?_; refine ZL.val (r_assign rfl) rfl ?_; refine ZL.nil ?_; refine ZP.then ?_; refine ZC.ret ?_; refine ZP.thenR ?_
    refine ZP.ret1 rfl rfl ⟨.refl _ _, ?_, ?_⟩
    · rcases h.2 with ⟨hv, h0⟩ | ⟨g, o, c', cs, e, fz, hv, _⟩
      · obtain rfl : l = [] := List.eq_nil_of_length_eq_zero h0
        exact OwnR.nil _ _ _
      · simp only [Value.slice.injEq] at hv; obtain ⟨rfl, _⟩ := hv; simp at hc
    · intro g hg; simp [Value.ownBlock] at hg
  · refine ZC.skip ?_; refine ZP.then ?_; refine ZC.seq ?_; refine ZC.region ?_
    refine ZL.bslice (Mem.start w No) rfl rfl rfl (by simp) (by decide) rfl (fun g w1 M => ?_)
    refine ZL.val (r_move rfl) rfl ?_
    refine ZL.append M rfl rfl (h.ext M.ext) (u8_one l) (by simp only [maxLen]; omega) (by omega) rfl (fun v' w2 M2 => ?_)
    refine ZL.val (r_assign rfl) rfl ?_; refine ZL.nil ?_; refine ZP.then ?_; refine ZC.ret ?_
    exact ZP.ret1 rfl rfl (M2.new (by simp) rfl)

/-- The lowest bytes of a number. -/
def le (n wide : Nat) : List UInt8 := (List.range wide).map fun k => UInt8.ofNat (n / 2 ^ (8 * k))
theorem le_length (n wide : Nat) : (le n wide).length = wide := by simp [le]
theorem le_succ (n k : Nat) : le n (k + 1) = le n k ++ [UInt8.ofNat (n / 2 ^ (8 * k))] := by simp [le, List.range_succ]
theorem wrap_u8_nat (m : Nat) : IntKind.u8.wrap (m : Int) = ((UInt8.ofNat m).toNat : Int) := by
  simp only [IntKind.wrap, IntKind.bits, IntKind.signed]; simp
theorem shr_nat (n k b : Nat) (hk : k ≤ b) : ((n : Int) / 2 ^ (min ((k : Int).toNat) b)) = ((n / 2 ^ k : Nat) : Int) := by
  rw [Int.toNat_natCast, Nat.min_eq_left hk]; simp

theorem low_ok (v : Value) (l : List UInt8) (n wide : Nat) (w : World) (X : Nat → Prop) (h : BytesR w X v l) (hl : l.length ≤ 100000) (hn : n < 2 ^ 64) (hw : wide ≤ 8) :
    Ret P 82 #[v, .int .u64 n, .int .i64 wide] w (fun r w' => Ext w w' ∧ BytesO w w' r (l ++ le n wide)) := by
  refine Ret.enter3 Tryd.func82 rfl Tryd.ntmps82 rfl ?_
  refine ZC.seq ?_; refine ZC.region ?_; refine ZL.val (r_assign rfl) rfl ?_; refine ZL.nil ?_; refine ZP.then ?_; refine ZC.seq ?_; refine ZC.region ?_; refine ZL.val (r_move rfl) rfl ?_
  refine ZL.call (r_call rfl) rfl (clone_ok v l w X h (by omega)) (fun v1 w1 ⟨E1, O1⟩ => ?_)
  refine ZL.call (r_call rfl) rfl (clip_ok v1 _ _ _ _ w1 O1.own) (fun v2 w2 hv2 => ?_)
  obtain ⟨rfl, O2, hb2⟩ := hv2
  have N2 : BytesO w w1 v2 l := ⟨O2, fun g hg => O1.new g (hb2 ▸ hg)⟩
  have M := (Mem.start w No).addNew E1 N2
  refine ZL.val (r_assign rfl) rfl ?_; refine ZL.nil ?_; refine ZP.then ?_; refine ZC.seq ?_; refine ZC.seq ?_; refine ZC.region ?_; refine ZL.val (r_move rfl) rfl ?_; refine ZL.val (r_move rfl) rfl ?_; refine ZL.nil ?_; refine ZP.then ?_; refine ZC.block ?_
  refine ZC.loop (X := Nat × Value) (fun x => [(13, .int .i64 x.1), (7, x.2), (12, .int .i64 wide), (1, .int .u64 n)])
    (fun x w' => x.1 ≤ wide ∧ Mem w No [.own x.2 5 1 (l ++ le n x.1).length ((l ++ le n x.1).map u8)] w') (fun x => wide - x.1) (0, v2) ⟨rfl, rfl, rfl, rfl, trivial⟩ ⟨by omega, by simpa [le] using M⟩ ?_
  rintro ⟨k, out⟩ w3 ⟨hk, M3⟩
  simp only at hk M3 ⊢
  refine ZC.seq ?_; refine ZC.region ?_; refine ZL.val (r_lss rfl rfl) rfl ?_; refine ZL.nil ?_; refine ZP.then ?_; refine ZC.seq ?_
  refine ZC.condD rfl (fun hc => ?_) (fun hc => ?_)
  · refine ZC.skip ?_; refine ZP.then ?_; refine ZC.seq ?_; refine ZC.block ?_; refine ZC.seq ?_; refine ZC.region ?_; refine ZL.val (r_move rfl) rfl ?_; refine ZL.val (r_assign rfl) rfl ?_; refine ZL.nil ?_; refine ZP.then ?_; refine ZC.region ?_; refine ZL.val (r_move rfl) rfl ?_; refine ZL.val (r_move rfl) rfl ?_; refine ZL.val (r_move rfl) rfl ?_; refine ZL.val (r_mul rfl rfl (wrap_i64 (by omega) (by omega))) rfl ?_
    refine ZL.val (r_shr rfl rfl (by omega) (shr_nat n (8 * k) 64 (by omega))) rfl ?_
    refine ZL.val (r_convInt rfl (wrap_u8_nat _)) rfl ?_
    refine ZL.bslice M3 rfl rfl rfl (by simp [Value.cells]) (by decide) rfl (fun g w4 M4 => ?_)
    refine ZL.append M4 rfl rfl (M4.own.slc (X := No) (fun _ _ h => h)) (by simp [Value.oneCell']) (by simp [maxLen, le_length]; omega) (by simp [le_length]; omega) rfl (fun v' w5 M5 => ?_)
    refine ZL.val (r_assign rfl) rfl ?_; refine ZL.nil ?_; refine ZP.blockN ?_; refine ZP.then ?_; refine ZC.region ?_; refine ZL.val (r_add rfl rfl (wrap_i64 (by omega) (by omega))) rfl ?_; refine ZL.val (r_move rfl) rfl ?_; refine ZL.nil ?_
    refine ZP.round (k + 1, v') ⟨rfl, rfl, rfl, rfl, trivial⟩ ⟨by omega, ?_⟩ (by simp only; omega)
    have M6 := M5.drop
    simpa [le_succ, u8, Nat.add_assoc] using M6
  · refine ZC.exit ?_; refine ZP.thenX ?_; refine ZP.thenX ?_; refine ZP.blockE ?_; refine ZP.then ?_; refine ZC.seq ?_; refine ZC.region ?_; refine ZL.val (r_move rfl) rfl ?_; refine ZL.val (r_assign rfl) rfl ?_; refine ZL.nil ?_; refine ZP.then ?_; refine ZC.ret ?_
    obtain rfl : k = wide := by omega
    exact ZP.ret1 rfl rfl (M3.new rfl rfl)

theorem Small_ok (v : Value) (l : List UInt8) (n : Nat) (w : World) (X : Nat → Prop) (h : BytesR w X v l) (hl : l.length ≤ 100000) (hn : n < 2 ^ 32) :
    Ret P 70 #[v, .int .u32 n] w (fun r w' => Ext w w' ∧ BytesO w w' r (l ++ le n 4)) := by
  refine Ret.enter2 Tryd.func70 rfl Tryd.ntmps70 rfl ?_
  refine ZC.seq ?_; refine ZC.region ?_; refine ZL.val (r_assign rfl) rfl ?_; refine ZL.nil ?_; refine ZP.then ?_; refine ZC.seq ?_; refine ZC.region ?_; refine ZL.val (r_move rfl) rfl ?_; refine ZL.val (r_move rfl) rfl ?_; refine ZL.val (r_convInt rfl (wrap_u64 (by omega) (by omega))) rfl ?_
  refine ZL.call (r_call rfl) rfl (low_ok v l n 4 w X h hl (by omega) (by omega)) (fun v1 w1 h1 => ?_)
  refine ZL.val (r_assign rfl) rfl ?_; refine ZL.nil ?_; refine ZP.then ?_; refine ZC.ret ?_
  exact ZP.ret1 rfl rfl h1

theorem Big_ok (v : Value) (l : List UInt8) (n : Nat) (w : World) (X : Nat → Prop) (h : BytesR w X v l) (hl : l.length ≤ 100000) (hn : n < 2 ^ 64) :
    Ret P 85 #[v, .int .u64 n] w (fun r w' => Ext w w' ∧ BytesO w w' r (l ++ le n 8)) := by
  refine Ret.enter2 Tryd.func85 rfl Tryd.ntmps85 rfl ?_
  refine ZC.seq ?_; refine ZC.region ?_; refine ZL.val (r_assign rfl) rfl ?_; refine ZL.nil ?_; refine ZP.then ?_; refine ZC.seq ?_; refine ZC.region ?_; refine ZL.val (r_move rfl) rfl ?_; refine ZL.val (r_move rfl) rfl ?_
  refine ZL.call (r_call rfl) rfl (low_ok v l n 8 w X h hl (by omega) (by omega)) (fun v1 w1 h1 => ?_)
  refine ZL.val (r_assign rfl) rfl ?_; refine ZL.nil ?_; refine ZP.then ?_; refine ZC.ret ?_
  exact ZP.ret1 rfl rfl h1

/-- A count's bytes. -/
def cnt (n : Nat) : List UInt8 := if n < 253 then le n 1 else if n < 65536 then le 253 1 ++ le n 2 else le 254 1 ++ le n 4

theorem BytesO.r {w w' : World} {v : Value} {l : List UInt8} (h : BytesO w w' v l) : BytesR w' (· < w.heap.size) v l := h.slc

theorem cnt_length (n : Nat) : (cnt n).length ≤ 5 := by unfold cnt; split <;> (try split) <;> simp [le_length]
theorem NewO.older {w w1 w2 : World} {e s n : Nat} {v : Value} {xs : List Value} (h : NewO w1 w2 e s v n xs) (he : Ext w w1) : NewO w w2 e s v n xs :=
  ⟨h.own, fun g hg => Nat.le_trans he.size (h.new g hg)⟩

theorem Count_ok (v : Value) (l : List UInt8) (n : Nat) (w : World) (X : Nat → Prop) (h : BytesR w X v l) (hl : l.length ≤ 90000) (hn : n < 100000) :
    Ret P 83 #[v, .int .i64 n] w (fun r w' => Ext w w' ∧ BytesO w w' r (l ++ cnt n)) := by
  unfold cnt
  refine Ret.enter2 Tryd.func83 rfl Tryd.ntmps83 rfl ?_
  refine ZC.seq ?_; refine ZC.region ?_; refine ZL.val (r_assign rfl) rfl ?_; refine ZL.nil ?_; refine ZP.then ?_; refine ZC.seq ?_; refine ZC.region ?_; refine ZL.val (r_move rfl) rfl ?_; refine ZL.val (r_max rfl rfl (Int.max_eq_left (by omega))) rfl ?_; refine ZL.val (r_min rfl rfl (Int.min_eq_left (by omega))) rfl ?_; refine ZL.val (r_convInt rfl (wrap_u64 (by omega) (by omega))) rfl ?_; refine ZL.val (r_assign rfl) rfl ?_; refine ZL.nil ?_; refine ZP.then ?_; refine ZC.seq ?_; refine ZC.block ?_; refine ZC.seq ?_; refine ZC.region ?_; refine ZL.val (r_move rfl) rfl ?_; refine ZL.val (r_lss rfl rfl) rfl ?_; refine ZL.val (r_assign rfl) rfl ?_; refine ZL.nil ?_; refine ZP.then ?_
  refine ZC.condD rfl (fun hc => ?_) (fun hc => ?_)
  · rw [if_pos (by omega)]
    refine ZC.seq ?_; refine ZC.region ?_; refine ZL.val (r_move rfl) rfl ?_; refine ZL.val (r_move rfl) rfl ?_
    refine ZL.call (r_call rfl) rfl (low_ok v l n 1 w X h (by omega) (by omega) (by omega)) (fun v1 w1 h1 => ?_)
    refine ZL.val (r_assign rfl) rfl ?_; refine ZL.nil ?_; refine ZP.then ?_; refine ZC.ret ?_; refine ZP.blockR ?_; refine ZP.thenR ?_
    exact ZP.ret1 rfl rfl h1
  · rw [if_neg (by omega)]
    refine ZC.seq ?_; refine ZC.region ?_; refine ZL.val (r_move rfl) rfl ?_; refine ZL.val (r_lss rfl rfl) rfl ?_; refine ZL.val (r_assign rfl) rfl ?_; refine ZL.nil ?_; refine ZP.then ?_
    refine ZC.condD rfl (fun hd => ?_) (fun hd => ?_)
    · rw [if_pos (by omega)]
      refine ZC.seq ?_; refine ZC.region ?_; refine ZL.val (r_move rfl) rfl ?_
      refine ZL.call (r_call rfl) rfl (low_ok v l 253 1 w X h (by omega) (by omega) (by omega)) (fun v1 w1 ⟨E1, O1⟩ => ?_)
      refine ZL.val (r_move rfl) rfl ?_
      refine ZL.call (r_call rfl) rfl (low_ok v1 _ n 2 w1 _ O1.r (by simp [le_length]; omega) (by omega) (by omega)) (fun v2 w2 ⟨E2, O2⟩ => ?_)
      refine ZL.val (r_assign rfl) rfl ?_; refine ZL.nil ?_; refine ZP.then ?_; refine ZC.ret ?_; refine ZP.blockR ?_; refine ZP.thenR ?_
      exact ZP.ret1 rfl rfl ⟨E1.trans E2, by rw [← List.append_assoc]; exact O2.older E1⟩
    · rw [if_neg (by omega)]
      refine ZC.skip ?_; refine ZP.blockN ?_; refine ZP.then ?_; refine ZC.seq ?_; refine ZC.region ?_; refine ZL.val (r_move rfl) rfl ?_
      refine ZL.call (r_call rfl) rfl (low_ok v l 254 1 w X h (by omega) (by omega) (by omega)) (fun v1 w1 ⟨E1, O1⟩ => ?_)
      refine ZL.val (r_move rfl) rfl ?_
      refine ZL.call (r_call rfl) rfl (low_ok v1 _ n 4 w1 _ O1.r (by simp [le_length]; omega) (by omega) (by omega)) (fun v2 w2 ⟨E2, O2⟩ => ?_)
      refine ZL.val (r_assign rfl) rfl ?_; refine ZL.nil ?_; refine ZP.then ?_; refine ZC.ret ?_
      exact ZP.ret1 rfl rfl ⟨E1.trans E2, by rw [← List.append_assoc]; exact O2.older E1⟩

/-- append(b, x..) of bytes: b is the call's own. -/
theorem le1 (n : Nat) : le n 1 = [UInt8.ofNat n] := by simp [le, List.range_succ]
theorem le2 (n : Nat) : le n 2 = [UInt8.ofNat n, UInt8.ofNat (n / 256)] := by simp [le, List.range_succ]
theorem le4 (n : Nat) : le n 4 = [UInt8.ofNat n, UInt8.ofNat (n / 256), UInt8.ofNat (n / 65536), UInt8.ofNat (n / 16777216)] := by simp [le, List.range_succ]

theorem refSmall_ok (v : Value) (l : List UInt8) (n : Nat) (w : World) (X : Nat → Prop) (h : BytesR w X v l) (hl : l.length ≤ 100000) (hn : n < 2 ^ 32) :
    Ret P 42 #[v, .int .u32 n] w (fun r w' => Ext w w' ∧ BytesO w w' r (l ++ le n 4)) := by
  refine Ret.enter2 Tryd.func42 rfl Tryd.ntmps42 rfl ?_
  refine ZC.seq ?_; refine ZC.region ?_; refine ZL.val (r_assign rfl) rfl ?_; refine ZL.nil ?_; refine ZP.then ?_; refine ZC.seq ?_; refine ZC.region ?_
  refine ZL.bslice (Mem.start w No) rfl rfl rfl (by simp) (by decide) rfl (fun g w1 M => ?_)
  refine ZL.val (r_move rfl) rfl ?_
  refine ZL.append M rfl rfl (h.ext M.ext) (u8_one l) (by simp only [maxLen]; omega) (by omega) rfl (fun v1 w2 M2 => ?_)
  refine ZL.val (r_move rfl) rfl ?_
  refine ZL.val (r_convInt rfl (wrap_u8_nat _)) rfl ?_
  refine ZL.val (r_move rfl) rfl ?_
  refine ZL.val (r_shr rfl rfl (by omega) (shr_nat (n) (8) 32 (by omega))) rfl ?_
  refine ZL.val (r_convInt rfl (wrap_u8_nat _)) rfl ?_
  refine ZL.val (r_move rfl) rfl ?_
  refine ZL.val (r_shr rfl rfl (by omega) (shr_nat (n) (16) 32 (by omega))) rfl ?_
  refine ZL.val (r_convInt rfl (wrap_u8_nat _)) rfl ?_
  refine ZL.val (r_move rfl) rfl ?_
  refine ZL.val (r_shr rfl rfl (by omega) (shr_nat (n) (24) 32 (by omega))) rfl ?_
  refine ZL.val (r_convInt rfl (wrap_u8_nat _)) rfl ?_
  refine ZL.bslice M2 rfl rfl rfl (by simp [Value.cells]) (by decide) rfl (fun g w3 M3 => ?_)
  refine ZL.append M3 rfl rfl (M3.own.slc (X := No) (fun _ _ h => h)) (by simp [Value.oneCell']) (by simp only [maxLen]; omega) (by omega) rfl (fun v2 w4 M4 => ?_)
  refine ZL.val (r_assign rfl) rfl ?_; refine ZL.nil ?_; refine ZP.then ?_; refine ZC.ret ?_
  exact ZP.ret1 rfl rfl (M4.drop.new (by simp [le_length]) (by simp [le4, u8]))

theorem wrap_u32_nat (m : Nat) : IntKind.u32.wrap (m : Int) = ((m % 4294967296 : Nat) : Int) := by
  simp only [IntKind.wrap, IntKind.bits, IntKind.signed]; simp
theorem le8 (n : Nat) : le n 8 = le (n % 4294967296) 4 ++ le (n / 2 ^ 32 % 4294967296) 4 := by
  have e : ∀ a b : Nat, a % 256 = b % 256 → UInt8.ofNat a = UInt8.ofNat b := fun a b h => by
    apply UInt8.toNat_inj.1; simpa using h
  simp only [le4]
  simp only [le, List.range_succ, List.range_zero, List.nil_append, List.map_append, List.map_cons, List.map_nil, List.cons_append, List.cons.injEq, and_true]
  refine ⟨e _ _ ?_, e _ _ ?_, e _ _ ?_, e _ _ ?_, e _ _ ?_, e _ _ ?_, e _ _ ?_, e _ _ ?_⟩ <;> simp only [Nat.reducePow, Nat.reduceMul] <;> omega

theorem refBig_ok (v : Value) (l : List UInt8) (n : Nat) (w : World) (X : Nat → Prop) (h : BytesR w X v l) (hl : l.length ≤ 90000) (hn : n < 2 ^ 64) :
    Ret P 56 #[v, .int .u64 n] w (fun r w' => Ext w w' ∧ BytesO w w' r (l ++ le n 8)) := by
  refine Ret.enter2 Tryd.func56 rfl Tryd.ntmps56 rfl ?_
  refine ZC.seq ?_; refine ZC.region ?_; refine ZL.val (r_assign rfl) rfl ?_; refine ZL.nil ?_; refine ZP.then ?_; refine ZC.seq ?_; refine ZC.region ?_; refine ZL.val (r_move rfl) rfl ?_; refine ZL.val (r_move rfl) rfl ?_
  refine ZL.val (r_convInt rfl (wrap_u32_nat _)) rfl ?_
  refine ZL.call (r_call rfl) rfl (refSmall_ok v l (n % 4294967296) w X h (by omega) (by omega)) (fun v1 w1 ⟨E1, O1⟩ => ?_)
  refine ZL.val (r_move rfl) rfl ?_
  refine ZL.val (r_shr rfl rfl (by omega) (shr_nat (n) (32) 64 (by omega))) rfl ?_
  refine ZL.val (r_convInt rfl (wrap_u32_nat _)) rfl ?_
  refine ZL.call (r_call rfl) rfl (refSmall_ok v1 _ (n / 2 ^ 32 % 4294967296) w1 _ O1.r (by simp [le_length]; omega) (by omega)) (fun v2 w2 ⟨E2, O2⟩ => ?_)
  refine ZL.val (r_assign rfl) rfl ?_; refine ZL.nil ?_; refine ZP.then ?_; refine ZC.ret ?_
  refine ZP.ret1 rfl rfl ⟨E1.trans E2, ?_⟩
  rw [le8, ← List.append_assoc]; exact O2.older E1

theorem refCount_ok (v : Value) (l : List UInt8) (n : Nat) (w : World) (X : Nat → Prop) (h : BytesR w X v l) (hl : l.length ≤ 90000) (hn : n < 100000) :
    Ret P 54 #[v, .int .i64 n] w (fun r w' => Ext w w' ∧ BytesO w w' r (l ++ cnt n)) := by
  unfold cnt
  refine Ret.enter2 Tryd.func54 rfl Tryd.ntmps54 rfl ?_
  refine ZC.seq ?_; refine ZC.region ?_; refine ZL.val (r_assign rfl) rfl ?_; refine ZL.nil ?_; refine ZP.then ?_; refine ZC.seq ?_; refine ZC.region ?_; refine ZL.val (r_move rfl) rfl ?_; refine ZL.val (r_max rfl rfl (Int.max_eq_left (by omega))) rfl ?_; refine ZL.val (r_min rfl rfl (Int.min_eq_left (by omega))) rfl ?_; refine ZL.val (r_assign rfl) rfl ?_; refine ZL.nil ?_; refine ZP.then ?_; refine ZC.seq ?_; refine ZC.region ?_
  refine ZL.bslice (Mem.start w No) rfl rfl rfl (by simp) (by decide) rfl (fun g w1 M => ?_)
  refine ZL.val (r_move rfl) rfl ?_
  refine ZL.append M rfl rfl (h.ext M.ext) (u8_one l) (by simp only [maxLen]; omega) (by omega) rfl (fun v1 w2 M2 => ?_)
  refine ZL.val (r_assign rfl) rfl ?_; refine ZL.nil ?_; refine ZP.then ?_; refine ZC.seq ?_; refine ZC.block ?_; refine ZC.seq ?_; refine ZC.region ?_; refine ZL.val (r_move rfl) rfl ?_; refine ZL.val (r_lss rfl rfl) rfl ?_; refine ZL.val (r_assign rfl) rfl ?_; refine ZL.nil ?_; refine ZP.then ?_
  refine ZC.condD rfl (fun hc => ?_) (fun hc => ?_)
  · rw [if_pos (by omega)]
    refine ZC.seq ?_; refine ZC.region ?_; refine ZL.val (r_move rfl) rfl ?_; refine ZL.val (r_move rfl) rfl ?_; refine ZL.val (r_convInt rfl (wrap_u8 (by omega) (by omega))) rfl ?_
    refine ZL.bslice M2 rfl rfl rfl (by simp [Value.cells]) (by decide) rfl (fun g w3 M3 => ?_)
    refine ZL.append M3 rfl rfl (M3.own.slc (X := No) (fun _ _ h => h)) (by simp [Value.oneCell']) (by simp only [maxLen]; omega) (by omega) rfl (fun v2 w4 M4 => ?_)
    refine ZL.val (r_assign rfl) rfl ?_; refine ZL.nil ?_; refine ZP.then ?_; refine ZC.ret ?_; refine ZP.blockR ?_; refine ZP.thenR ?_
    exact ZP.ret1 rfl rfl (M4.drop.new (by simp [le_length]) (by simp [le1, u8]; omega))
  · rw [if_neg (by omega)]
    refine ZC.seq ?_; refine ZC.region ?_; refine ZL.val (r_move rfl) rfl ?_; refine ZL.val (r_leq rfl rfl) rfl ?_; refine ZL.val (r_assign rfl) rfl ?_; refine ZL.nil ?_; refine ZP.then ?_
    refine ZC.condD rfl (fun hd => ?_) (fun hd => ?_)
    · rw [if_pos (by omega)]
      refine ZC.seq ?_; refine ZC.region ?_; refine ZL.val (r_move rfl) rfl ?_; refine ZL.val (r_move rfl) rfl ?_
      refine ZL.val (r_convInt rfl (wrap_u8_nat _)) rfl ?_
      refine ZL.val (r_move rfl) rfl ?_
      refine ZL.val (r_shr rfl rfl (by omega) (shr_nat (n) (8) 64 (by omega))) rfl ?_
      refine ZL.val (r_convInt rfl (wrap_u8_nat _)) rfl ?_
      refine ZL.bslice M2 rfl rfl rfl (by simp [Value.cells]) (by decide) rfl (fun g w3 M3 => ?_)
      refine ZL.append M3 rfl rfl (M3.own.slc (X := No) (fun _ _ h => h)) (by simp [Value.oneCell']) (by simp only [maxLen]; omega) (by omega) rfl (fun v2 w4 M4 => ?_)
      refine ZL.val (r_assign rfl) rfl ?_; refine ZL.nil ?_; refine ZP.then ?_; refine ZC.ret ?_; refine ZP.blockR ?_; refine ZP.thenR ?_
      exact ZP.ret1 rfl rfl (M4.drop.new (by simp [le_length]) (by simp [le1, le2, u8]))
    · rw [if_neg (by omega)]
      refine ZC.skip ?_; refine ZP.blockN ?_; refine ZP.then ?_; refine ZC.seq ?_; refine ZC.region ?_; refine ZL.val (r_move rfl) rfl ?_
      refine ZL.bslice M2 rfl rfl rfl (by simp [Value.cells]) (by decide) rfl (fun g w3 M3 => ?_)
      refine ZL.append M3 rfl rfl (M3.own.slc (X := No) (fun _ _ h => h)) (by simp [Value.oneCell']) (by simp only [maxLen]; omega) (by omega) rfl (fun v2 w4 M4 => ?_)
      refine ZL.val (r_move rfl) rfl ?_; refine ZL.val (r_convInt rfl (wrap_u32 (by omega) (by omega))) rfl ?_
      obtain ⟨E4, O4⟩ := M4.drop.new (n' := (l ++ le 254 1).length) (xs' := (l ++ le 254 1).map u8) (by simp [le_length]) (by simp [le1, u8])
      refine ZL.call (r_call rfl) rfl (refSmall_ok v2 (l ++ le 254 1) n w4 _ O4.slc (by simp [le_length]; omega) (by omega)) (fun v3 w5 ⟨E5, O5⟩ => ?_)
      refine ZL.val (r_assign rfl) rfl ?_; refine ZL.nil ?_; refine ZP.then ?_; refine ZC.ret ?_
      refine ZP.ret1 rfl rfl ⟨E4.trans E5, ?_⟩
      rw [← List.append_assoc]; exact O5.older E4

theorem counted_ok (v u : Value) (l m : List UInt8) (w : World) (X Y : Nat → Prop) (h : BytesR w X v l) (k : BytesR w Y u m) (hl : l.length ≤ 90000) (hm : m.length ≤ 1000) :
    Ret P 84 #[v, u] w (fun r w' => Ext w w' ∧ BytesO w w' r (l ++ cnt m.length ++ m)) := by
  obtain ⟨p, c, rfl⟩ := k.shape
  refine Ret.enter2 Tryd.func84 rfl Tryd.ntmps84 rfl ?_
  refine ZC.seq ?_; refine ZC.region ?_; refine ZL.val (r_assign rfl) rfl ?_; refine ZL.nil ?_; refine ZP.then ?_; refine ZC.seq ?_; refine ZC.region ?_; refine ZL.val (r_move rfl) rfl ?_; refine ZL.val (r_move rfl) rfl ?_; refine ZL.val (r_lenSlice rfl) rfl ?_
  refine ZL.call (r_call rfl) rfl (Count_ok v l m.length w X h hl (by omega)) (fun v1 w1 ⟨E1, O1⟩ => ?_)
  have M := (Mem.start w No).addNew E1 O1
  refine ZL.val (r_move rfl) rfl ?_
  have hcnt := cnt_length m.length
  refine ZL.append M rfl rfl (k.ext E1) (u8_one m) (by simp only [maxLen, List.length_append]; omega) (by simp only [List.length_append]; omega) rfl (fun v2 w2 M2 => ?_)
  refine ZL.val (r_assign rfl) rfl ?_; refine ZL.nil ?_; refine ZP.then ?_; refine ZC.ret ?_
  exact ZP.ret1 rfl rfl (M2.new (by simp; omega) (by simp))

theorem refbytes_ok (v u : Value) (l m : List UInt8) (w : World) (X Y : Nat → Prop) (h : BytesR w X v l) (k : BytesR w Y u m) (hl : l.length ≤ 90000) (hm : m.length ≤ 1000) :
    Ret P 55 #[v, u] w (fun r w' => Ext w w' ∧ BytesO w w' r (l ++ cnt m.length ++ m)) := by
  obtain ⟨p, c, rfl⟩ := k.shape
  refine Ret.enter2 Tryd.func55 rfl Tryd.ntmps55 rfl ?_
  refine ZC.seq ?_; refine ZC.region ?_; refine ZL.val (r_assign rfl) rfl ?_; refine ZL.nil ?_; refine ZP.then ?_; refine ZC.seq ?_; refine ZC.region ?_; refine ZL.val (r_move rfl) rfl ?_; refine ZL.val (r_move rfl) rfl ?_; refine ZL.val (r_lenSlice rfl) rfl ?_
  refine ZL.call (r_call rfl) rfl (refCount_ok v l m.length w X h hl (by omega)) (fun v1 w1 ⟨E1, O1⟩ => ?_)
  have M := (Mem.start w No).addNew E1 O1
  refine ZL.val (r_move rfl) rfl ?_
  have hcnt := cnt_length m.length
  refine ZL.append M rfl rfl (k.ext E1) (u8_one m) (by simp only [maxLen, List.length_append]; omega) (by simp only [List.length_append]; omega) rfl (fun v2 w2 M2 => ?_)
  refine ZL.val (r_assign rfl) rfl ?_; refine ZL.nil ?_; refine ZP.then ?_; refine ZC.ret ?_
  exact ZP.ret1 rfl rfl (M2.new (by simp; omega) (by simp))
end Go.Proofs.YthcgmdmdgpljmaaDoor.Z
