/- The sum: the words of a block, and a block taken in. -/
import Derived.Test.YthcgmdmdgpljmaaDoorWord
set_option linter.unusedVariables false
set_option linter.unusedSimpArgs false
set_option linter.unusedSectionVars false
set_option maxRecDepth 100000
set_option maxHeartbeats 4000000
namespace Go.Proofs.YthcgmdmdgpljmaaDoor.Z
open Go Go.RowKit

theorem mulN (a b : Nat) (h : a * b < 9223372036854775808) : IntKind.i64.wrap ((a : Int) * (b : Int)) = ((a * b : Nat) : Int) := by
  rw [← Int.natCast_mul, wrap_i64 (by omega) (by omega)]
theorem addN (a b : Nat) (h : a + b < 9223372036854775808) : IntKind.i64.wrap ((a : Int) + (b : Int)) = ((a + b : Nat) : Int) := by
  rw [← Int.natCast_add, wrap_i64 (by omega) (by omega)]
theorem subN (a b : Nat) (h : b ≤ a) (h2 : a < 9223372036854775808) : IntKind.i64.wrap ((a : Int) - (b : Int)) = ((a - b : Nat) : Int) := by
  rw [wrap_i64 (by omega) (by omega)]; omega

def be32 (g : Nat → UInt8) (j : Nat) : UInt32 := (((g j).toUInt32 <<< UInt32.ofNat 24 ||| (g (j + 1)).toUInt32 <<< UInt32.ofNat 16) ||| (g (j + 2)).toUInt32 <<< UInt32.ofNat 8) ||| (g (j + 3)).toUInt32
def sg0 (x : UInt32) : UInt32 := (rotr x 7 ^^^ rotr x 18) ^^^ (x >>> UInt32.ofNat 3)
def sg1 (x : UInt32) : UInt32 := (rotr x 17 ^^^ rotr x 19) ^^^ (x >>> UInt32.ofNat 10)
def nxt (g : Nat → UInt8) (f : Nat → UInt32) (k : Nat) : UInt32 := if k < 16 then be32 g (4 * k) else ((f (k - 16) + sg0 (f (k - 15))) + f (k - 7)) + sg1 (f (k - 2))
def sched (g : Nat → UInt8) : Nat → Nat → UInt32
  | 0 => fun _ => 0
  | k + 1 => upd (sched g k) k (nxt g (sched g k) k)

/-- The bytes of a slice, as its cells say. -/
theorem bytesAt {w : World} {X : Nat → Prop} {p : Option Addr} {c : Nat} {l : List UInt8} (h : BytesR w X (.slice p l.length c) l) (h0 : 0 < l.length) :
    ∃ g o cs e fz, p = some ⟨g, o, none⟩ ∧ w.heap[g]? = some (.cells cs e fz) ∧ ¬ X g ∧ ∀ i, i < l.length → nth cs (o + i * 1) = some (u8 (l.getD i 0)) := by
  obtain ⟨g, o, cs, e, fz, rfl, hh, hx, hr⟩ := SlC.at h h0
  refine ⟨g, o, cs, e, fz, rfl, hh, hx, fun i hi => ?_⟩
  rw [nth_eq]
  refine hr (i * 1) _ ?_
  simp [List.getD, hi]

theorem spread_ok (v : Value) (l : List UInt8) (w : World) (X : Nat → Prop) (h : BytesR w X v l) (hl : l.length = 64) :
    Ret P 87 #[v] w (fun r w' => Ext w w' ∧ r = .agg (wcells 64 (sched (fun i => l.getD i 0) 64))) := by
  obtain ⟨p, c, rfl⟩ := h.shape
  obtain ⟨g, o, cs, e, fz, rfl, hh, hx, hb⟩ := bytesAt h (by omega)
  rw [hl] at hb
  generalize hgb : (fun i => l.getD i 0) = gb
  have hb' : ∀ i j, i < 64 → j = o + i * 1 → cs[j]? = some (u8 (gb i)) := fun i j hi hj => by rw [hj, ← nth_eq, hb i hi, ← hgb]
  refine Ret.enter1 Tryd.func87 rfl Tryd.ntmps87 rfl ?_
  refine ZC.seq ?_; refine ZC.region ?_
  refine ZL.alloc (Mem.start w No) rfl rfl (fun br w1 M1 => ?_)
  refine ZL.nil ?_; refine ZP.then ?_; refine ZC.seq ?_; refine ZC.region ?_
  refine ZL.alloc M1 rfl rfl (fun bw w2 M2 => ?_)
  refine ZL.nil ?_; refine ZP.then ?_; refine ZC.seq ?_; refine ZC.seq ?_; refine ZC.region ?_; refine ZL.val (r_move rfl) rfl ?_; refine ZL.nil ?_; refine ZP.then ?_; refine ZC.block ?_
  rw [wcells_zero, show wcells 64 (fun _ => 0) = wcells 64 (sched gb 0) from rfl] at M2
  refine ZC.loop (X := Nat) (fun k => [(10, .int .i64 k), (3, .pointer (some ⟨bw, 0, none⟩)), (2, .pointer (some ⟨br, 0, none⟩)), (0, .slice (some ⟨g, o, none⟩) l.length c)])
    (fun k w' => Mem w No [.blk bw (.cells (wcells 64 (sched gb k)) 93), .blk br (.cells (List.replicate 64 (Value.int .u32 0)).toArray 93)] w' ∧ k ≤ 16) (fun k => 16 - k) 0 ⟨rfl, rfl, rfl, rfl, trivial⟩ ⟨M2, by omega⟩ ?_
  rintro k w3 ⟨M3, hk⟩
  refine ZC.seq ?_; refine ZC.region ?_; refine ZL.val (r_lss rfl rfl) rfl ?_; refine ZL.nil ?_; refine ZP.then ?_; refine ZC.seq ?_
  refine ZC.condD rfl (fun hc => ?_) (fun hc => ?_)
  · have hk' : k < 16 := by omega
    refine ZC.skip ?_; refine ZP.then ?_; refine ZC.seq ?_; refine ZC.block ?_; refine ZC.seq ?_; refine ZC.region ?_; refine ZL.val (r_move rfl) rfl ?_; refine ZL.val (r_assign rfl) rfl ?_; refine ZL.nil ?_; refine ZP.then ?_
    refine ZC.tail 35 (by kernel_rfl) rfl rfl (fun w4 E4 _ => ?_)
    have M4 := M3.ext' E4
    have hg := M4.ext.at hh id
    refine ZS.val (r_move rfl) rfl ?_; refine ZS.val (r_move rfl) rfl ?_; refine ZS.val (r_move rfl) rfl ?_; refine ZS.val (r_mul rfl rfl (wrap_i64 (by omega) (by omega))) rfl ?_
    refine ZS.val (r_idxS (4 * k) rfl rfl (by omega) (by omega)) rfl ?_
    refine ZS.val (r_load1 rfl hg (hb' (4 * k) _ (by omega) (by omega))) rfl ?_
    refine ZS.val (r_convU rfl) rfl ?_
    refine ZS.val (r_shlU 24 rfl rfl (by decide)) rfl ?_
    refine ZS.val (r_move rfl) rfl ?_; refine ZS.val (r_move rfl) rfl ?_; refine ZS.val (r_mul rfl rfl (wrap_i64 (by omega) (by omega))) rfl ?_; refine ZS.val (r_add rfl rfl (wrap_i64 (by omega) (by omega))) rfl ?_
    refine ZS.val (r_idxS (4 * k + 1) rfl rfl (by omega) (by omega)) rfl ?_
    refine ZS.val (r_load1 rfl hg (hb' (4 * k + 1) _ (by omega) (by omega))) rfl ?_
    refine ZS.val (r_convU rfl) rfl ?_
    refine ZS.val (r_shlU 16 rfl rfl (by decide)) rfl ?_
    refine ZS.val (r_orU rfl rfl) rfl ?_; refine ZS.val (r_move rfl) rfl ?_; refine ZS.val (r_move rfl) rfl ?_; refine ZS.val (r_mul rfl rfl (wrap_i64 (by omega) (by omega))) rfl ?_; refine ZS.val (r_add rfl rfl (wrap_i64 (by omega) (by omega))) rfl ?_
    refine ZS.val (r_idxS (4 * k + 2) rfl rfl (by omega) (by omega)) rfl ?_
    refine ZS.val (r_load1 rfl hg (hb' (4 * k + 2) _ (by omega) (by omega))) rfl ?_
    refine ZS.val (r_convU rfl) rfl ?_
    refine ZS.val (r_shlU 8 rfl rfl (by decide)) rfl ?_
    refine ZS.val (r_orU rfl rfl) rfl ?_; refine ZS.val (r_move rfl) rfl ?_; refine ZS.val (r_move rfl) rfl ?_; refine ZS.val (r_mul rfl rfl (wrap_i64 (by omega) (by omega))) rfl ?_; refine ZS.val (r_add rfl rfl (wrap_i64 (by omega) (by omega))) rfl ?_
    refine ZS.val (r_idxS (4 * k + 3) rfl rfl (by omega) (by omega)) rfl ?_
    refine ZS.val (r_load1 rfl hg (hb' (4 * k + 3) _ (by omega) (by omega))) rfl ?_
    refine ZS.val (r_convU rfl) rfl ?_; refine ZS.val (r_orU rfl rfl) rfl ?_
    refine ZS.val (r_idxA k rfl rfl (by omega) (by omega)) rfl ?_
    refine ZS.tail ?_
    refine ZL.stU k M4 rfl rfl (by omega) (by omega) (fun w5 M5 => ?_)
    refine ZL.nil ?_; refine ZP.blockN ?_; refine ZP.then ?_; refine ZC.region ?_; refine ZL.val (r_add rfl rfl (wrap_i64 (by omega) (by omega))) rfl ?_; refine ZL.val (r_move rfl) rfl ?_; refine ZL.nil ?_
    refine ZP.round (k + 1) ⟨rfl, rfl, rfl, rfl, trivial⟩ ⟨?_, by omega⟩ (by omega)
    simp only [sched, nxt, if_pos hk', be32]
    exact M5
  · have hk' : k = 16 := by omega
    subst hk'
    refine ZC.exit ?_; refine ZP.thenX ?_; refine ZP.thenX ?_; refine ZP.blockE ?_; refine ZP.then ?_; refine ZC.seq ?_; refine ZC.seq ?_; refine ZC.region ?_; refine ZL.val (r_assign rfl) rfl ?_; refine ZL.nil ?_; refine ZP.then ?_; refine ZC.block ?_
    refine ZC.loop (X := Nat) (fun k => [(5, .int .i64 k), (3, .pointer (some ⟨bw, 0, none⟩)), (2, .pointer (some ⟨br, 0, none⟩))])
      (fun k w' => Mem w No [.blk bw (.cells (wcells 64 (sched gb k)) 93), .blk br (.cells (List.replicate 64 (Value.int .u32 0)).toArray 93)] w' ∧ 16 ≤ k ∧ k ≤ 64) (fun k => 64 - k) 16 ⟨rfl, rfl, rfl, trivial⟩ ⟨M3, by omega, by omega⟩ ?_
    rintro k w4 ⟨M4, hk1, hk2⟩
    refine ZC.seq ?_; refine ZC.seq ?_; refine ZC.region ?_; refine ZL.val (r_move rfl) rfl ?_; refine ZL.val (r_lss rfl rfl) rfl ?_; refine ZL.nil ?_; refine ZP.then ?_
    refine ZC.condD rfl (fun hd => ?_) (fun hd => ?_)
    · have hk' : k < 64 := by omega
      refine ZC.skip ?_; refine ZP.then ?_; refine ZC.seq ?_; refine ZC.block ?_; refine ZC.seq ?_
      refine ZC.still (by kernel_rfl) (fun w5 E5 _ => ?_)
      have M5 := M4.ext' E5
      refine ZS.val (r_move rfl) rfl ?_; refine ZS.val (r_sub rfl rfl (wrap_i64 (by omega) (by omega))) rfl ?_
      refine ZS.val (r_idxA (k - 15) rfl rfl (by omega) (by omega)) rfl ?_
      refine ZS.val (r_ld M5 rfl (nthW (i := k - 15) (by omega) (by omega))) rfl ?_
      refine ZS.val (r_move rfl) rfl ?_; refine ZS.val (r_sub rfl rfl (wrap_i64 (by omega) (by omega))) rfl ?_
      refine ZS.val (r_idxA (k - 2) rfl rfl (by omega) (by omega)) rfl ?_
      refine ZS.val (r_ld M5 rfl (nthW (i := k - 2) (by omega) (by omega))) rfl ?_
      refine ZS.val (r_assign rfl) rfl ?_; refine ZS.val (r_assign rfl) rfl ?_; refine ZS.nil ?_
      refine ZP.then ?_; refine ZC.seq ?_; refine ZC.region ?_; refine ZL.val (r_move rfl) rfl ?_
      refine ZL.call (r_call rfl) rfl (turned_ok (sched gb k (k - 15)) 7 w5 (by omega) (by omega)) (fun v6 w6 hv => ?_)
      obtain ⟨rfl, rfl⟩ := hv
      refine ZL.val (r_move rfl) rfl ?_
      refine ZL.call (r_call rfl) rfl (turned_ok (sched gb k (k - 15)) 18 w5 (by omega) (by omega)) (fun v6 w6 hv => ?_)
      obtain ⟨rfl, rfl⟩ := hv
      refine ZL.val (r_xorU rfl rfl) rfl ?_
      refine ZL.val (r_move rfl) rfl ?_
      refine ZL.val (r_shrU 3 rfl rfl (by decide)) rfl ?_
      refine ZL.val (r_xorU rfl rfl) rfl ?_
      refine ZL.val (r_assign rfl) rfl ?_; refine ZL.nil ?_; refine ZP.then ?_; refine ZC.seq ?_; refine ZC.region ?_; refine ZL.val (r_move rfl) rfl ?_
      refine ZL.call (r_call rfl) rfl (turned_ok (sched gb k (k - 2)) 17 w5 (by omega) (by omega)) (fun v6 w6 hv => ?_)
      obtain ⟨rfl, rfl⟩ := hv
      refine ZL.val (r_move rfl) rfl ?_
      refine ZL.call (r_call rfl) rfl (turned_ok (sched gb k (k - 2)) 19 w5 (by omega) (by omega)) (fun v6 w6 hv => ?_)
      obtain ⟨rfl, rfl⟩ := hv
      refine ZL.val (r_xorU rfl rfl) rfl ?_
      refine ZL.val (r_move rfl) rfl ?_
      refine ZL.val (r_shrU 10 rfl rfl (by decide)) rfl ?_
      refine ZL.val (r_xorU rfl rfl) rfl ?_
      refine ZL.val (r_assign rfl) rfl ?_; refine ZL.nil ?_; refine ZP.then ?_
      refine ZC.tail 15 (by kernel_rfl) rfl rfl (fun w7 E7 _ => ?_)
      have M7 := M5.ext' E7
      refine ZS.val (r_move rfl) rfl ?_; refine ZS.val (r_move rfl) rfl ?_; refine ZS.val (r_sub rfl rfl (wrap_i64 (by omega) (by omega))) rfl ?_
      refine ZS.val (r_idxA (k - 16) rfl rfl (by omega) (by omega)) rfl ?_
      refine ZS.val (r_ld M7 rfl (nthW (i := k - 16) (by omega) (by omega))) rfl ?_
      refine ZS.val (r_move rfl) rfl ?_; refine ZS.val (r_addU rfl rfl) rfl ?_; refine ZS.val (r_move rfl) rfl ?_; refine ZS.val (r_sub rfl rfl (wrap_i64 (by omega) (by omega))) rfl ?_
      refine ZS.val (r_idxA (k - 7) rfl rfl (by omega) (by omega)) rfl ?_
      refine ZS.val (r_ld M7 rfl (nthW (i := k - 7) (by omega) (by omega))) rfl ?_
      refine ZS.val (r_addU rfl rfl) rfl ?_; refine ZS.val (r_move rfl) rfl ?_; refine ZS.val (r_addU rfl rfl) rfl ?_
      refine ZS.val (r_idxA k rfl rfl (by omega) (by omega)) rfl ?_
      refine ZS.tail ?_
      refine ZL.stU k M7 rfl rfl (by omega) (by omega) (fun w8 M8 => ?_)
      refine ZL.nil ?_; refine ZP.blockN ?_; refine ZP.then ?_; refine ZC.region ?_; refine ZL.val (r_move rfl) rfl ?_; refine ZL.val (r_add rfl rfl (wrap_i64 (by omega) (by omega))) rfl ?_; refine ZL.val (r_assign rfl) rfl ?_; refine ZL.nil ?_
      refine ZP.round (k + 1) ⟨rfl, rfl, rfl, trivial⟩ ⟨?_, by omega, by omega⟩ (by omega)
      simp only [sched, nxt, if_neg (show ¬ k < 16 by omega), sg0, sg1]
      exact M8
    · have hk' : k = 64 := by omega
      subst hk'
      refine ZC.exit ?_; refine ZP.thenX ?_; refine ZP.thenX ?_; refine ZP.blockE ?_; refine ZP.then ?_; refine ZC.seq ?_; refine ZC.region ?_
      refine ZL.val (r_ldW M4 rfl (wcells_size _ _)) rfl ?_
      refine ZL.stW M4 rfl rfl (cs' := wcells 64 (sched gb 64)) rfl (by simp) (wcells_size _ _) (wcells_one _ _) (fun w5 M5 => ?_)
      refine ZL.nil ?_; refine ZP.then ?_; refine ZC.ret ?_
      exact ZP.retC rfl rfl (M5.get inferInstance) (wcells_size _ _) ⟨M5.ext, rfl⟩
end Go.Proofs.YthcgmdmdgpljmaaDoor.Z
