/- A block taken in. -/
import Derived.Test.YthcgmdmdgpljmaaDoorSha
import Derived.Test.YthcgmdmdgpljmaaDoorBuild
set_option linter.unusedVariables false
set_option linter.unusedSimpArgs false
set_option linter.unusedSectionVars false
set_option maxRecDepth 100000
set_option maxHeartbeats 4000000
namespace Go.Proofs.YthcgmdmdgpljmaaDoor.Z
open Go Go.RowKit

def cubes : List UInt32 := [0x428a2f98, 0x71374491, 0xb5c0fbcf, 0xe9b5dba5, 0x3956c25b, 0x59f111f1, 0x923f82a4, 0xab1c5ed5,
  0xd807aa98, 0x12835b01, 0x243185be, 0x550c7dc3, 0x72be5d74, 0x80deb1fe, 0x9bdc06a7, 0xc19bf174,
  0xe49b69c1, 0xefbe4786, 0x0fc19dc6, 0x240ca1cc, 0x2de92c6f, 0x4a7484aa, 0x5cb0a9dc, 0x76f988da,
  0x983e5152, 0xa831c66d, 0xb00327c8, 0xbf597fc7, 0xc6e00bf3, 0xd5a79147, 0x06ca6351, 0x14292967,
  0x27b70a85, 0x2e1b2138, 0x4d2c6dfc, 0x53380d13, 0x650a7354, 0x766a0abb, 0x81c2c92e, 0x92722c85,
  0xa2bfe8a1, 0xa81a664b, 0xc24b8b70, 0xc76c51a3, 0xd192e819, 0xd6990624, 0xf40e3585, 0x106aa070,
  0x19a4c116, 0x1e376c08, 0x2748774c, 0x34b0bcb5, 0x391c0cb3, 0x4ed8aa4a, 0x5b9cca4f, 0x682e6ff3,
  0x748f82ee, 0x78a5636f, 0x84c87814, 0x8cc70208, 0x90befffa, 0xa4506ceb, 0xbef9a3f7, 0xc67178f2]
def squares : List UInt32 := [0x6a09e667, 0xbb67ae85, 0x3c6ef372, 0xa54ff53a, 0x510e527f, 0x9b05688c, 0x1f83d9ab, 0x5be0cd19]
def kc (i : Nat) : UInt32 := cubes.getD i 0
def sq (i : Nat) : UInt32 := squares.getD i 0

/-- The rows of numbers stand where the program keeps them. -/
structure GW (w : World) : Prop where
  c : ∃ e fz, w.heap[2]? = some (.cells (wcells 64 kc) e fz)
  s : ∃ e fz, w.heap[1]? = some (.cells (wcells 8 sq) e fz)
theorem GW.ext {w w' : World} (h : GW w) (he : Ext w w') : GW w' := by
  obtain ⟨⟨e, fz, h1⟩, ⟨e', fz', h2⟩⟩ := h
  exact ⟨⟨e, fz, he.at h1 id⟩, ⟨e', fz', he.at h2 id⟩⟩

def sS1 (x : UInt32) : UInt32 := (rotr x 6 ^^^ rotr x 11) ^^^ rotr x 25
def sS0 (x : UInt32) : UInt32 := (rotr x 2 ^^^ rotr x 13) ^^^ rotr x 22
def pickW (v : Nat → UInt32) : UInt32 := (v 4 &&& v 5) ^^^ (~~~(v 4) &&& v 6)
def mostW (v : Nat → UInt32) : UInt32 := ((v 0 &&& v 1) ^^^ (v 0 &&& v 2)) ^^^ (v 1 &&& v 2)
def t1W (K W v : Nat → UInt32) (i : Nat) : UInt32 := (((v 7 + sS1 (v 4)) + pickW v) + K i) + W i
def rnd (K W v : Nat → UInt32) (i : Nat) : Nat → UInt32
  | 0 => (t1W K W v i + sS0 (v 0)) + mostW v
  | 1 => v 0
  | 2 => v 1
  | 3 => v 2
  | 4 => v 3 + t1W K W v i
  | 5 => v 4
  | 6 => v 5
  | _ => v 6
def rnds (K W v : Nat → UInt32) : Nat → Nat → UInt32
  | 0 => v
  | k + 1 => rnd K W (rnds K W v k) k
def comp (h : Nat → UInt32) (g : Nat → UInt8) (j : Nat) : UInt32 := rnds kc (sched g 64) h 64 j + h j
def sumTo (v h : Nat → UInt32) (k j : Nat) : UInt32 := if j < k then v j + h j else v j

theorem mix_ok (f : Nat → UInt32) (v : Value) (l : List UInt8) (w : World) (X : Nat → Prop) (hG : GW w) (h : BytesR w X v l) (hl : l.length = 64) :
    Ret P 79 #[.agg (wcells 8 f), v] w (fun r w' => Ext w w' ∧ r = .agg (wcells 8 (comp f (fun i => l.getD i 0)))) := by
  refine Ret.enter2 Tryd.func79 rfl Tryd.ntmps79 rfl ?_
  refine ZC.seq ?_; refine ZC.region ?_
  refine ZL.box (Mem.start w No) rfl rfl rfl (fun bh w1 M1 => ?_)
  refine ZL.alloc M1 rfl rfl (fun br w2 M2 => ?_)
  refine ZL.nil ?_; refine ZP.then ?_; refine ZC.seq ?_
  refine ZC.draw (MemS w No [.blk br (.cells (List.replicate 8 (Value.int .u32 0)).toArray 95), .blk bh (.cells (wcells 8 f) 95)]) rfl rfl (fun w3 E3 _ => ?_)
  have M3 := M2.ext' E3
  have S3 := MemS.of M3
  refine ZA.take 0 rfl (fun w' hS' => by first | exact r_move rfl | exact r_assign rfl | exact r_fieldAddr rfl | exact r_sliceArr rfl | exact r_addU rfl rfl | exact r_xorU rfl rfl | exact r_orU rfl rfl | exact r_andU rfl rfl | exact r_complU rfl | exact r_convU rfl | exact r_ldS hS' rfl (by rfl) | exact r_nilCheck rfl | exact r_extract rfl rfl | exact r_lenSlice rfl) (by kernel_rfl) (by kernel_rfl) (by kernel_rfl) rfl rfl (fun _ _ _ _ h => h) S3 ?_
  refine ZA.take 2 rfl (fun w' hS' => r_loadW rfl (hS'.get inferInstance) (wcells_size _ _)) (by kernel_rfl) (by kernel_rfl) (by kernel_rfl) rfl rfl (fun _ _ _ _ h => h) S3 ?_
  refine ZA.par3 1 3 4 (by kernel_rfl) (by kernel_rfl) (by kernel_rfl) (by kernel_rfl) (by kernel_rfl) (by kernel_rfl) (by kernel_rfl) rfl rfl rfl rfl rfl rfl rfl rfl rfl rfl rfl rfl rfl rfl rfl rfl rfl rfl rfl rfl rfl rfl rfl rfl (Turn.call (R := fun v c => v = .agg (wcells 64 (sched (fun i => l.getD i 0) 64)) ∧ c = []) (fun w => r_call rfl) (fun cs w' hM => (spread_ok v l w' X (h.ext hM.ext) hl).mono (fun r w'' hr => ⟨[], ⟨hr.2, rfl⟩, hM.ext' hr.1⟩))) (Turn.alloc rfl) (Turn.alloc rfl) (cs := []) M3 (?_)
  rintro v1 c1 v2 c2 v3 c3 w4 ⟨rfl, rfl⟩ ⟨bw, rfl, rfl⟩ ⟨bv, rfl, rfl⟩ M4
  simp only [List.nil_append, List.cons_append] at M4
  refine ZA.one 5 (by kernel_rfl) rfl rfl ?_
  refine ZL.stW M4 rfl rfl (cs' := wcells 64 (sched (fun i => l.getD i 0) 64)) rfl (by simp) (wcells_size _ _) (wcells_one _ _) (fun w5 M5 => ?_)
  have S5 := MemS.of M5
  refine ZL.nil (ZP.any ⟨[_, _], M5⟩ ?_)
  refine ZA.one 6 (by kernel_rfl) rfl rfl ?_
  refine ZL.stW M5 rfl rfl (cs' := wcells 8 f) rfl (by simp) (wcells_size _ _) (wcells_one _ _) (fun w6 M6 => ?_)
  refine ZL.nil (ZP.any ⟨[_, _], M6⟩ ?_)
  refine ZA.done (by kernel_rfl) ?_
  refine ZP.then ?_; refine ZC.seq ?_; refine ZC.seq ?_; refine ZC.region ?_; refine ZL.val (r_move rfl) rfl ?_; refine ZL.nil ?_; refine ZP.then ?_; refine ZC.block ?_
  generalize hW : sched (fun i => l.getD i 0) 64 = W at M6
  refine ZC.loop (X := Nat) (fun k => [(17, .int .i64 k), (6, .pointer (some ⟨bv, 0, none⟩)), (5, .pointer (some ⟨bw, 0, none⟩)), (4, .pointer (some ⟨br, 0, none⟩)), (2, .pointer (some ⟨bh, 0, none⟩))])
    (fun k w' => Mem w No [.blk bv (.cells (wcells 8 (rnds kc W f k)) 95), .blk bw (.cells (wcells 64 W) 93), .blk br (.cells (wcells 8 fun _ => 0) 95), .blk bh (.cells (wcells 8 f) 95)] w' ∧ k ≤ 64) (fun k => 64 - k) 0 ⟨rfl, rfl, rfl, rfl, rfl, trivial⟩ ⟨M6, by omega⟩ ?_
  rintro k w7 ⟨M7, hk⟩
  refine ZC.seq ?_; refine ZC.region ?_; refine ZL.val (r_lss rfl rfl) rfl ?_; refine ZL.nil ?_; refine ZP.then ?_; refine ZC.seq ?_
  refine ZC.condD rfl (fun hc => ?_) (fun hc => ?_)
  · have hk' : k < 64 := by omega
    generalize hV : rnds kc W f k = V at M7
    refine ZC.skip ?_; refine ZP.then ?_; refine ZC.seq ?_; refine ZC.block ?_; refine ZC.seq ?_; refine ZC.region ?_; refine ZL.val (r_move rfl) rfl ?_; refine ZL.val (r_assign rfl) rfl ?_; refine ZL.nil ?_; refine ZP.then ?_; refine ZC.seq ?_
    refine ZC.still (by kernel_rfl) (fun w8 E8 _ => ?_)
    have M8 := M7.ext' E8
    refine ZS.val (r_idxA 4 rfl rfl rfl (by decide)) rfl ?_; refine ZS.val (r_ld M8 rfl (nthW (i := 4) rfl (by decide))) rfl ?_
    refine ZS.call (r_call rfl) rfl (turned_ok _ 6 w8 (by omega) (by omega)) ?_
    refine ZS.val (r_idxA 4 rfl rfl rfl (by decide)) rfl ?_; refine ZS.val (r_ld M8 rfl (nthW (i := 4) rfl (by decide))) rfl ?_
    refine ZS.call (r_call rfl) rfl (turned_ok _ 11 w8 (by omega) (by omega)) ?_
    refine ZS.val (r_xorU rfl rfl) rfl ?_
    refine ZS.val (r_idxA 4 rfl rfl rfl (by decide)) rfl ?_; refine ZS.val (r_ld M8 rfl (nthW (i := 4) rfl (by decide))) rfl ?_
    refine ZS.call (r_call rfl) rfl (turned_ok _ 25 w8 (by omega) (by omega)) ?_
    refine ZS.val (r_xorU rfl rfl) rfl ?_; refine ZS.val (r_assign rfl) rfl ?_; refine ZS.nil ?_
    refine ZP.then ?_; refine ZC.seq ?_; refine ZC.region ?_
    refine ZL.val (r_idxA 4 rfl rfl rfl (by decide)) rfl ?_; refine ZL.val (r_ld M8 rfl (nthW (i := 4) rfl (by decide))) rfl ?_
    refine ZL.val (r_idxA 5 rfl rfl rfl (by decide)) rfl ?_; refine ZL.val (r_ld M8 rfl (nthW (i := 5) rfl (by decide))) rfl ?_
    refine ZL.val (r_andU rfl rfl) rfl ?_
    refine ZL.val (r_idxA 4 rfl rfl rfl (by decide)) rfl ?_; refine ZL.val (r_ld M8 rfl (nthW (i := 4) rfl (by decide))) rfl ?_
    refine ZL.val (r_complU rfl) rfl ?_
    refine ZL.val (r_idxA 6 rfl rfl rfl (by decide)) rfl ?_; refine ZL.val (r_ld M8 rfl (nthW (i := 6) rfl (by decide))) rfl ?_
    refine ZL.val (r_andU rfl rfl) rfl ?_; refine ZL.val (r_xorU rfl rfl) rfl ?_; refine ZL.val (r_assign rfl) rfl ?_
    refine ZL.nil ?_; refine ZP.then ?_; refine ZC.seq ?_
    refine ZC.still (by kernel_rfl) (fun w9 E9 _ => ?_)
    have M9 := M8.ext' E9
    obtain ⟨e, fz, hcu⟩ := hG.c
    refine ZS.val (r_idxA 7 rfl rfl rfl (by decide)) rfl ?_; refine ZS.val (r_ld M9 rfl (nthW (i := 7) rfl (by decide))) rfl ?_
    refine ZS.val (r_move rfl) rfl ?_; refine ZS.val (r_addU rfl rfl) rfl ?_; refine ZS.val (r_move rfl) rfl ?_; refine ZS.val (r_addU rfl rfl) rfl ?_; refine ZS.val (r_move rfl) rfl ?_
    refine ZS.val (r_idxA k rfl rfl rfl (by omega)) rfl ?_
    refine ZS.val (r_load1 rfl (M9.ext.at hcu id) ((nth_eq _ _).symm.trans (nthW (i := k) (by omega) (by omega)))) rfl ?_
    refine ZS.val (r_addU rfl rfl) rfl ?_; refine ZS.val (r_move rfl) rfl ?_
    refine ZS.val (r_idxA k rfl rfl rfl (by omega)) rfl ?_
    refine ZS.val (r_ld M9 rfl (nthW (i := k) (by omega) (by omega))) rfl ?_
    refine ZS.val (r_addU rfl rfl) rfl ?_; refine ZS.val (r_assign rfl) rfl ?_; refine ZS.nil ?_
    refine ZP.then ?_; refine ZC.seq ?_
    refine ZC.still (by kernel_rfl) (fun w10 E10 _ => ?_)
    have M10 := M9.ext' E10
    refine ZS.val (r_idxA 0 rfl rfl rfl (by decide)) rfl ?_; refine ZS.val (r_ld M10 rfl (nthW (i := 0) rfl (by decide))) rfl ?_
    refine ZS.call (r_call rfl) rfl (turned_ok _ 2 w10 (by omega) (by omega)) ?_
    refine ZS.val (r_idxA 0 rfl rfl rfl (by decide)) rfl ?_; refine ZS.val (r_ld M10 rfl (nthW (i := 0) rfl (by decide))) rfl ?_
    refine ZS.call (r_call rfl) rfl (turned_ok _ 13 w10 (by omega) (by omega)) ?_
    refine ZS.val (r_xorU rfl rfl) rfl ?_
    refine ZS.val (r_idxA 0 rfl rfl rfl (by decide)) rfl ?_; refine ZS.val (r_ld M10 rfl (nthW (i := 0) rfl (by decide))) rfl ?_
    refine ZS.call (r_call rfl) rfl (turned_ok _ 22 w10 (by omega) (by omega)) ?_
    refine ZS.val (r_xorU rfl rfl) rfl ?_; refine ZS.val (r_assign rfl) rfl ?_; refine ZS.nil ?_
    refine ZP.then ?_; refine ZC.seq ?_; refine ZC.region ?_
    refine ZL.val (r_idxA 0 rfl rfl rfl (by decide)) rfl ?_; refine ZL.val (r_ld M10 rfl (nthW (i := 0) rfl (by decide))) rfl ?_
    refine ZL.val (r_idxA 1 rfl rfl rfl (by decide)) rfl ?_; refine ZL.val (r_ld M10 rfl (nthW (i := 1) rfl (by decide))) rfl ?_
    refine ZL.val (r_andU rfl rfl) rfl ?_
    refine ZL.val (r_idxA 0 rfl rfl rfl (by decide)) rfl ?_; refine ZL.val (r_ld M10 rfl (nthW (i := 0) rfl (by decide))) rfl ?_
    refine ZL.val (r_idxA 2 rfl rfl rfl (by decide)) rfl ?_; refine ZL.val (r_ld M10 rfl (nthW (i := 2) rfl (by decide))) rfl ?_
    refine ZL.val (r_andU rfl rfl) rfl ?_; refine ZL.val (r_xorU rfl rfl) rfl ?_
    refine ZL.val (r_idxA 1 rfl rfl rfl (by decide)) rfl ?_; refine ZL.val (r_ld M10 rfl (nthW (i := 1) rfl (by decide))) rfl ?_
    refine ZL.val (r_idxA 2 rfl rfl rfl (by decide)) rfl ?_; refine ZL.val (r_ld M10 rfl (nthW (i := 2) rfl (by decide))) rfl ?_
    refine ZL.val (r_andU rfl rfl) rfl ?_; refine ZL.val (r_xorU rfl rfl) rfl ?_; refine ZL.val (r_assign rfl) rfl ?_
    refine ZL.nil ?_; refine ZP.then ?_; refine ZC.region ?_; refine ZL.val (r_move rfl) rfl ?_; refine ZL.val (r_move rfl) rfl ?_
    refine ZL.val (r_addU rfl rfl) rfl ?_; refine ZL.val (r_move rfl) rfl ?_; refine ZL.val (r_addU rfl rfl) rfl ?_
    refine ZL.val (r_idxA 0 rfl rfl rfl (by decide)) rfl ?_; refine ZL.val (r_ld M10 rfl (nthW (i := 0) rfl (by decide))) rfl ?_
    refine ZL.val (r_idxA 1 rfl rfl rfl (by decide)) rfl ?_; refine ZL.val (r_ld M10 rfl (nthW (i := 1) rfl (by decide))) rfl ?_
    refine ZL.val (r_idxA 2 rfl rfl rfl (by decide)) rfl ?_; refine ZL.val (r_ld M10 rfl (nthW (i := 2) rfl (by decide))) rfl ?_
    refine ZL.val (r_idxA 3 rfl rfl rfl (by decide)) rfl ?_; refine ZL.val (r_ld M10 rfl (nthW (i := 3) rfl (by decide))) rfl ?_
    refine ZL.val (r_move rfl) rfl ?_; refine ZL.val (r_addU rfl rfl) rfl ?_
    refine ZL.val (r_idxA 4 rfl rfl rfl (by decide)) rfl ?_; refine ZL.val (r_ld M10 rfl (nthW (i := 4) rfl (by decide))) rfl ?_
    refine ZL.val (r_idxA 5 rfl rfl rfl (by decide)) rfl ?_; refine ZL.val (r_ld M10 rfl (nthW (i := 5) rfl (by decide))) rfl ?_
    refine ZL.val (r_idxA 6 rfl rfl rfl (by decide)) rfl ?_; refine ZL.val (r_ld M10 rfl (nthW (i := 6) rfl (by decide))) rfl ?_
    refine ZL.val (r_buildArr rfl rfl (cs := (List.range 8).map fun i => u32 (rnd kc W V k i)) rfl) rfl ?_
    refine ZL.stW M10 rfl rfl (cs' := wcells 8 (rnd kc W V k)) rfl (by simp [wcells]) (wcells_size _ _) (wcells_one _ _) (fun w11 M11 => ?_)
    refine ZL.nil ?_; refine ZP.blockN ?_; refine ZP.then ?_; refine ZC.region ?_; refine ZL.val (r_add rfl rfl (wrap_i64 (by omega) (by omega))) rfl ?_; refine ZL.val (r_move rfl) rfl ?_; refine ZL.nil ?_
    refine ZP.round (k + 1) ⟨rfl, rfl, rfl, rfl, rfl, trivial⟩ ⟨?_, by omega⟩ (by omega)
    simp only [rnds, hV]
    exact M11
  · have hk' : k = 64 := by omega
    subst hk'
    generalize hV : rnds kc W f 64 = V at M7
    refine ZC.exit ?_; refine ZP.thenX ?_; refine ZP.thenX ?_; refine ZP.blockE ?_; refine ZP.then ?_; refine ZC.seq ?_; refine ZC.seq ?_; refine ZC.region ?_; refine ZL.val (r_move rfl) rfl ?_; refine ZL.nil ?_; refine ZP.then ?_; refine ZC.block ?_
    refine ZC.loop (X := Nat) (fun k => [(108, .int .i64 k), (6, .pointer (some ⟨bv, 0, none⟩)), (4, .pointer (some ⟨br, 0, none⟩)), (2, .pointer (some ⟨bh, 0, none⟩))])
      (fun k w' => Mem w No [.blk bv (.cells (wcells 8 (sumTo V f k)) 95), .blk bw (.cells (wcells 64 W) 93), .blk br (.cells (wcells 8 fun _ => 0) 95), .blk bh (.cells (wcells 8 f) 95)] w' ∧ k ≤ 8) (fun k => 8 - k) 0 ⟨rfl, rfl, rfl, rfl, trivial⟩ ⟨M7, by omega⟩ ?_
    rintro k w8 ⟨M8, hk⟩
    refine ZC.seq ?_; refine ZC.region ?_; refine ZL.val (r_lss rfl rfl) rfl ?_; refine ZL.nil ?_; refine ZP.then ?_; refine ZC.seq ?_
    refine ZC.condD rfl (fun hd => ?_) (fun hd => ?_)
    · have hk' : k < 8 := by omega
      refine ZC.skip ?_; refine ZP.then ?_; refine ZC.seq ?_; refine ZC.block ?_; refine ZC.seq ?_; refine ZC.region ?_; refine ZL.val (r_move rfl) rfl ?_; refine ZL.val (r_assign rfl) rfl ?_; refine ZL.nil ?_; refine ZP.then ?_
      refine ZC.tail 8 (by kernel_rfl) rfl rfl (fun w9 E9 _ => ?_)
      have M9 := M8.ext' E9
      refine ZS.val (r_move rfl) rfl ?_
      refine ZS.val (r_idxA k rfl rfl rfl (by omega)) rfl ?_
      refine ZS.val (r_ld M9 rfl (nthW (i := k) (by omega) (by omega))) rfl ?_
      refine ZS.val (r_move rfl) rfl ?_
      refine ZS.val (r_idxA k rfl rfl rfl (by omega)) rfl ?_
      refine ZS.val (r_ld M9 rfl (nthW (i := k) (by omega) (by omega))) rfl ?_
      refine ZS.val (r_addU rfl rfl) rfl ?_
      refine ZS.val (r_idxA k rfl rfl rfl (by omega)) rfl ?_
      refine ZS.tail ?_
      refine ZL.stU k M9 rfl rfl (by omega) (by omega) (fun w10 M10 => ?_)
      refine ZL.nil ?_; refine ZP.blockN ?_; refine ZP.then ?_; refine ZC.region ?_; refine ZL.val (r_add rfl rfl (wrap_i64 (by omega) (by omega))) rfl ?_; refine ZL.val (r_move rfl) rfl ?_; refine ZL.nil ?_
      refine ZP.round (k + 1) ⟨rfl, rfl, rfl, rfl, trivial⟩ ⟨?_, by omega⟩ (by omega)
      rwa [wcells_congr (g := sumTo V f (k + 1))] at M10
      intro i hi
      simp only [upd, sumTo]
      by_cases h1 : i = k
      · subst h1; simp
      · simp only [h1, if_false]
        by_cases h2 : i < k
        · simp [h2, show i < k + 1 by omega]
        · simp [h2, show ¬ i < k + 1 by omega]
    · have hk' : k = 8 := by omega
      subst hk'
      refine ZC.exit ?_; refine ZP.thenX ?_; refine ZP.thenX ?_; refine ZP.blockE ?_; refine ZP.then ?_; refine ZC.seq ?_; refine ZC.region ?_
      refine ZL.val (r_ldW M8 rfl (wcells_size _ _)) rfl ?_
      refine ZL.stW M8 rfl rfl (cs' := wcells 8 (sumTo V f 8)) rfl (by simp [wcells]) (wcells_size _ _) (wcells_one _ _) (fun w9 M9 => ?_)
      refine ZL.nil ?_; refine ZP.then ?_; refine ZC.ret ?_
      refine ZP.retC rfl rfl (M9.get inferInstance) (wcells_size _ _) ⟨M9.ext, ?_⟩
      rw [wcells_congr (g := comp f (fun i => l.getD i 0))]
      intro i hi
      simp only [sumTo, comp, if_pos hi, hW, hV]
end Go.Proofs.YthcgmdmdgpljmaaDoor.Z
