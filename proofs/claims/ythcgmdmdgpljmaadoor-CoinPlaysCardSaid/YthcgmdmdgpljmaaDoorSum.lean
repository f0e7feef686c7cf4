/- The sum of bytes. -/
import Derived.Test.YthcgmdmdgpljmaaDoorMix
import Derived.Test.YthcgmdmdgpljmaaDoorKey
set_option linter.unusedVariables false
set_option linter.unusedSimpArgs false
set_option linter.unusedSectionVars false
set_option maxRecDepth 100000
set_option maxHeartbeats 4000000
namespace Go.Proofs.YthcgmdmdgpljmaaDoor.Z
open Go Go.RowKit

def fpIn (L : List Chunk) (k : Nat) : Prop := ∃ c ∈ L, c.fp = some k
/-- What was made first stays; the others go on. -/
theorem Mem.freeze {w0 w : World} {X : Nat → Prop} {L : List Chunk} {v : Value} {e s n : Nat} {xs : List Value} (h : Mem w0 X (.own v e s n xs :: L) w) :
    Mem w (fpIn L) L w ∧ SlC w (fpIn L) s v n xs := by
  refine ⟨⟨.refl _ _, h.drop.ok, h.drop.ap, fun c hc g hg => .inl ⟨c, hc, hg⟩⟩, h.own.slc fun g hg ⟨c, hc, hc'⟩ => ?_⟩
  exact (List.pairwise_cons.1 h.ap).1 c hc g hg hc'
theorem Mem.back {w0 w w' : World} {L : List Chunk} (h : Mem w0 No L w) {L' : List Chunk} (hl : ∀ c ∈ L', c ∈ L) (he : ExtX w (fpIn L') w') : Ext w0 w' :=
  h.ext.trans he (fun _ h => h) fun b hb ⟨c, hc, hg⟩ => by
    rcases h.mine c (hl c hc) b hg with h | h
    · exact h
    · omega

/-! ### Rows of bytes -/
def bcells (n : Nat) (f : Nat → UInt8) : Array Value := ((List.range n).map fun i => u8 (f i)).toArray
theorem bcells_size (n : Nat) (f : Nat → UInt8) : (bcells n f).size = n := by simp [bcells]
def updB (f : Nat → UInt8) (i : Nat) (v : UInt8) : Nat → UInt8 := fun j => if j = i then v else f j
theorem bcells_set {n o i : Nat} {f : Nat → UInt8} {v : UInt8} (h : o = i) : (bcells n f).setIfInBounds o (u8 v) = bcells n (updB f i v) := by
  subst h
  apply Array.ext'
  apply List.ext_getElem?
  intro j
  simp only [bcells, updB, Array.toList_setIfInBounds, List.getElem?_set, List.getElem?_map, List.getElem?_range, List.length_map, List.length_range]
  by_cases hj : j < n
  · by_cases h2 : o = j
    · subst h2; simp [hj]
    · simp [h2, hj, Ne.symm h2]
  · simp [hj]
    intro h; omega
theorem bcells_one (n : Nat) (f : Nat → UInt8) : (bcells n f).toList.all Value.oneCell' = true := by
  simp [bcells, u8, Value.oneCell']
theorem bcells_congr {n : Nat} {f g : Nat → UInt8} (h : ∀ i, i < n → f i = g i) : bcells n f = bcells n g := by
  simp only [bcells]
  congr 1
  refine List.map_congr_left fun i hi => ?_
  rw [h i (by simpa using hi)]
theorem bcells_zero (n : Nat) : (List.replicate n (Value.int .u8 0)).toArray = bcells n (fun _ => 0) := by
  simp [bcells, u8, List.map_const']
section
variable {P : Program} {n : Nat} {ops : Array Oper} {Q : Post} {rest : List Oper} {σ : Env} {w w0 : World} {X : Nat → Prop} {L L' : List Chunk}
theorem ZL.stB {t b o m by' : Nat} {f : Nat → UInt8} {e : TypeId} {v : UInt8} {ty : TypeId} {pos : String} {after : Array Edge} {x y : Operand} (i : Nat) [TI P t 1 by'] (hM : Mem w0 X L w) (hx : ev σ x = some (.pointer (some ⟨b, o, none⟩))) (hy : ev σ y = some (u8 v))
    [ip : Put L b (.cells (bcells m f) e (0, 0)) (.cells (bcells m (updB f i v)) e (0, 0)) L'] (ho : o = i) (hi : i < m) (h : ∀ w', Mem w0 X L' w' → ZL P n ops Q rest σ w') : ZL P n ops Q (⟨none, .store t x y, ty, pos, after, none⟩ :: rest) σ w := by
  refine ZL.unit (uw_store1 hx hy (hM.putGet ip) (by rw [bcells_size]; omega) rfl) (h _ ?_)
  rw [bcells_set ho]
  exact hM.upd ip (Upd.setRow (hM.putGet ip))
end

theorem SlC.cap {w : World} {X : Nat → Prop} {s n c : Nat} {p : Option Addr} {xs : List Value} (h : SlC w X s (.slice p n c) n xs) : n ≤ c := by
  rcases h.2 with ⟨hv, rfl⟩ | ⟨g, o, c', cs, e', fz, hv, hg, hh, hc, hm, hr⟩
  · omega
  · simp only [Value.slice.injEq] at hv; omega
theorem BytesR.to {w : World} {X : Nat → Prop} {c : Nat} {p : Option Addr} {l : List UInt8} (h : BytesR w X (.slice p l.length c) l) {k : Nat} (hk : k ≤ l.length) : BytesR w X (.slice p k c) (l.take k) := by
  have h1 := SlC.cut h (l := 0) (h := k) (by omega) hk
  simp only [cutAt_zero, Nat.sub_zero, Nat.zero_mul, List.drop_zero, Nat.mul_one] at h1
  have e1 : (l.take k).length = k := by simp; omega
  show SlC w X 1 _ (l.take k).length ((l.take k).map u8)
  rw [e1, List.map_take]
  exact h1
theorem BytesR.from {w : World} {X : Nat → Prop} {c : Nat} {p : Option Addr} {l : List UInt8} (h : BytesR w X (.slice p l.length c) l) {k : Nat} (hk : k ≤ l.length) : BytesR w X (.slice (cutAt p c k 1) (l.length - k) (c - k)) (l.drop k) := by
  have h1 := SlC.cut h (l := k) (h := l.length) hk (Nat.le_refl _)
  simp only [Nat.mul_one] at h1
  have e1 : (l.drop k).length = l.length - k := by simp
  show SlC w X 1 _ (l.drop k).length ((l.drop k).map u8)
  rw [e1, List.map_drop]
  rwa [List.take_of_length_le (by simp)] at h1

/-! ### What the sum is -/
def be8 (m k : Nat) : List UInt8 := (List.range k).map fun i => UInt8.ofNat (m / 2 ^ (8 * (7 - i)))
theorem be8_length (m k : Nat) : (be8 m k).length = k := by simp [be8]
theorem be8_succ (m k : Nat) : be8 m (k + 1) = be8 m k ++ [UInt8.ofNat (m / 2 ^ (8 * (7 - k)))] := by simp [be8, List.range_succ]
def padz (n : Nat) : Nat := (119 - n % 64) % 64
def pad0 (l : List UInt8) (z : Nat) : List UInt8 := l ++ 128 :: List.replicate z 0
theorem pad0_length (l : List UInt8) (z : Nat) : (pad0 l z).length = l.length + 1 + z := by simp [pad0]; omega
theorem pad0_succ (l : List UInt8) (z : Nat) : pad0 l (z + 1) = pad0 l z ++ [0] := by simp [pad0, List.replicate_succ']
def pad (l : List UInt8) : List UInt8 := pad0 l (padz l.length) ++ be8 (8 * l.length) 8
theorem pad_length (l : List UInt8) : (pad l).length = l.length + 9 + padz l.length := by simp [pad, pad0_length, be8_length]; omega
theorem pad_mod (l : List UInt8) : (pad l).length % 64 = 0 := by rw [pad_length]; unfold padz; omega
def blkAt (m : List UInt8) (j i : Nat) : UInt8 := ((m.drop (64 * j)).take 64).getD i 0
def blk (m : List UInt8) (h : Nat → UInt32) : Nat → Nat → UInt32
  | 0 => h
  | j + 1 => comp (blk m h j) (blkAt m j)
def outB (h : Nat → UInt32) (i : Nat) : UInt8 := (h (i / 4) >>> UInt32.ofNat (24 - 8 * (i % 4))).toUInt8
def sumF (l : List UInt8) : Nat → UInt8 := outB (blk (pad l) sq ((pad l).length / 64))
def sumL (l : List UInt8) : B32 := ⟨(List.range 32).map (sumF l), by simp⟩
theorem sumL_v (l : List UInt8) : (sumL l).v = .agg (bcells 32 (sumF l)) := by simp [B32.v, B32.cells, sumL, bcells, Function.comp_def]

theorem r_shrI {P : Program} {σ : Env} {w : World} {t t' : TypeId} {x y : Operand} {a : UInt32} {k : IntKind} {b : Int} (s : Nat) (hx : ev σ x = some (u32 a)) (hy : ev σ y = some (.int k b)) (hb : b = s) (hs : s < 32) : V P σ (.binOp .shr t x y t') (u32 (a >>> UInt32.ofNat s)) w := by
  subst hb; exact r_shrU s hx hy hs
theorem padz_lt (n : Nat) : padz n < 64 := Nat.mod_lt _ (by decide)

theorem Sum_ok (v : Value) (l : List UInt8) (w : World) (X : Nat → Prop) (hG : GW w) (h : BytesR w X v l) (hl : l.length ≤ 500000) :
    Ret P 68 #[v] w (fun r w' => Ext w w' ∧ r = (sumL l).v) := by
  rw [sumL_v]
  obtain ⟨p, c, rfl⟩ := h.shape
  refine Ret.enter1 Tryd.func68 rfl Tryd.ntmps68 rfl ?_
  refine ZC.seq ?_; refine ZC.region ?_
  refine ZL.alloc (Mem.start w No) rfl rfl (fun br w1 M1 => ?_)
  rw [bcells_zero] at M1
  refine ZL.nil ?_; refine ZP.then ?_; refine ZC.seq ?_; refine ZC.region ?_; refine ZL.val (r_move rfl) rfl ?_; refine ZL.val (r_lenSlice rfl) rfl ?_; refine ZL.val (r_convInt rfl (wrap_u64 (by omega) (by omega))) rfl ?_
  refine ZL.val (r_mul rfl rfl (r := ((8 * l.length : Nat) : Int)) (by rw [wrap_u64 (by omega) (by omega)]; omega)) rfl ?_
  refine ZL.val (r_assign rfl) rfl ?_; refine ZL.nil ?_; refine ZP.then ?_; refine ZC.seq ?_; refine ZC.region ?_; refine ZL.val (r_move rfl) rfl ?_
  refine ZL.call (r_call rfl) rfl (clone_ok _ l w1 X (h.ext M1.ext) (by omega)) (fun v1 w2 ⟨E2, O2⟩ => ?_)
  refine ZL.call (r_call rfl) rfl (clip_ok v1 _ _ _ _ w2 O2.own) (fun v2 w3 hv => ?_)
  obtain ⟨rfl, O3, hb3⟩ := hv
  have N3 : BytesO w1 w2 v2 l := ⟨O3, fun g hg => O2.new g (hb3 ▸ hg)⟩
  have M3 := M1.addNew E2 N3
  refine ZL.bslice M3 rfl rfl rfl (by simp [Value.cells]) (by decide) rfl (fun g w4 M4 => ?_)
  refine ZL.append M4 rfl rfl (M4.own.slc (X := No) (fun _ _ h => h)) (by simp [Value.oneCell']) (by simp [maxLen]; omega) (by simp; omega) rfl (fun v5 w5 M5 => ?_)
  refine ZL.val (r_assign rfl) rfl ?_; refine ZL.nil ?_; refine ZP.then ?_; refine ZC.seq ?_; refine ZC.block ?_
  have M6 := M5.drop
  refine ZC.loop (X := Nat × Value) (fun x => [(4, x.2), (3, .int .u64 ((8 * l.length : Nat) : Int)), (2, .pointer (some ⟨br, 0, none⟩))])
    (fun x w' => x.1 ≤ padz l.length ∧ Mem w No [.own x.2 5 1 (pad0 l x.1).length ((pad0 l x.1).map u8), .blk br (.cells (bcells 32 fun _ => 0) 39)] w') (fun x => padz l.length - x.1) (0, v5) ⟨rfl, rfl, rfl, trivial⟩ ⟨by omega, by simpa [pad0, u8] using M6⟩ ?_
  rintro ⟨z, x⟩ w7 ⟨hz, M7⟩
  simp only at hz M7 ⊢
  have hz6 := padz_lt l.length
  obtain ⟨px, cx, rfl⟩ := M7.own.shape
  refine ZC.seq ?_; refine ZC.seq ?_; refine ZC.region ?_; refine ZL.val (r_move rfl) rfl ?_; refine ZL.val (r_lenSlice rfl) rfl ?_
  refine ZL.val (r_rem rfl rfl (by decide) (r := (((pad0 l z).length % 64 : Nat) : Int)) (by rw [Int.tmod_eq_emod_of_nonneg (by omega)]; omega)) rfl ?_
  refine ZL.val (r_neq rfl rfl) rfl ?_; refine ZL.nil ?_; refine ZP.then ?_
  refine ZC.condD rfl (fun hc => ?_) (fun hc => ?_)
  · have hz' : z < padz l.length := by
      rw [pad0_length] at hc
      unfold padz at hz ⊢
      omega
    refine ZC.skip ?_; refine ZP.then ?_; refine ZC.block ?_; refine ZC.region ?_; refine ZL.val (r_move rfl) rfl ?_
    refine ZL.bslice M7 rfl rfl rfl (by simp [Value.cells]) (by decide) rfl (fun g2 w8 M8 => ?_)
    refine ZL.append M8 rfl rfl (M8.own.slc (X := No) (fun _ _ h => h)) (by simp [Value.oneCell']) (by simp [maxLen, pad0_length]; omega) (by simp [pad0_length]; omega) rfl (fun v9 w9 M9 => ?_)
    refine ZL.val (r_assign rfl) rfl ?_; refine ZL.nil ?_; refine ZP.blockN ?_
    refine ZP.round (z + 1, v9) ⟨rfl, rfl, rfl, trivial⟩ ⟨by simp only; omega, ?_⟩ (by simp only; omega)
    have M10 := M9.drop
    simpa [pad0_succ, u8, pad0_length] using M10
  · have hz' : z = padz l.length := by
      rw [pad0_length] at hc
      unfold padz at hz ⊢
      omega
    subst hz'
    refine ZC.exit ?_; refine ZP.thenX ?_; refine ZP.thenX ?_; refine ZP.blockE ?_; refine ZP.then ?_; refine ZC.seq ?_; refine ZC.seq ?_; refine ZC.region ?_; refine ZL.val (r_assign rfl) rfl ?_; refine ZL.nil ?_; refine ZP.then ?_; refine ZC.block ?_
    refine ZC.loop (X := Nat × Value) (fun x => [(5, .int .i64 (7 - (x.1 : Int))), (4, x.2), (3, .int .u64 ((8 * l.length : Nat) : Int)), (2, .pointer (some ⟨br, 0, none⟩))])
      (fun x w' => x.1 ≤ 8 ∧ Mem w No [.own x.2 5 1 (pad0 l (padz l.length) ++ be8 (8 * l.length) x.1).length ((pad0 l (padz l.length) ++ be8 (8 * l.length) x.1).map u8), .blk br (.cells (bcells 32 fun _ => 0) 39)] w') (fun x => 8 - x.1) (0, .slice px (pad0 l (padz l.length)).length cx) ⟨rfl, rfl, rfl, rfl, trivial⟩ ⟨by omega, by simpa [be8] using M7⟩ ?_
    rintro ⟨k, x⟩ w8 ⟨hk, M8⟩
    simp only at hk M8 ⊢
    refine ZC.seq ?_; refine ZC.seq ?_; refine ZC.region ?_; refine ZL.val (r_move rfl) rfl ?_; refine ZL.val (r_geq rfl rfl) rfl ?_; refine ZL.nil ?_; refine ZP.then ?_
    refine ZC.condD rfl (fun hd => ?_) (fun hd => ?_)
    · have hk' : k < 8 := by omega
      refine ZC.skip ?_; refine ZP.then ?_; refine ZC.seq ?_; refine ZC.block ?_; refine ZC.region ?_; refine ZL.val (r_move rfl) rfl ?_; refine ZL.val (r_move rfl) rfl ?_; refine ZL.val (r_move rfl) rfl ?_; refine ZL.val (r_mul rfl rfl (wrap_i64 (by omega) (by omega))) rfl ?_
      refine ZL.val (r_shr rfl rfl (by omega) (r := ((8 * l.length / 2 ^ (8 * (7 - k)) : Nat) : Int)) (by
        have e : 8 * (7 - (k : Int)) = ((8 * (7 - k) : Nat) : Int) := by omega
        rw [e]
        exact shr_nat _ _ _ (by simp [IntKind.bits]; omega))) rfl ?_
      refine ZL.val (r_convInt rfl (wrap_u8_nat _)) rfl ?_
      refine ZL.bslice M8 rfl rfl rfl (by simp [Value.cells]) (by decide) rfl (fun g2 w9 M9 => ?_)
      refine ZL.append M9 rfl rfl (M9.own.slc (X := No) (fun _ _ h => h)) (by simp [Value.oneCell']) (by simp [maxLen, pad0_length, be8_length]; omega) (by simp [pad0_length, be8_length]; omega) rfl (fun v9 w10 M10 => ?_)
      refine ZL.val (r_assign rfl) rfl ?_; refine ZL.nil ?_; refine ZP.blockN ?_; refine ZP.then ?_; refine ZC.region ?_; refine ZL.val (r_move rfl) rfl ?_; refine ZL.val (r_sub rfl rfl (wrap_i64 (by omega) (by omega))) rfl ?_; refine ZL.val (r_assign rfl) rfl ?_; refine ZL.nil ?_
      refine ZP.round (k + 1, v9) ⟨?_, rfl, rfl, rfl, trivial⟩ ⟨by simp only; omega, ?_⟩ (by simp only; omega)
      · show some (Value.int .i64 (7 - (k : Int) - 1)) = some (Value.int .i64 (7 - ((k + 1 : Nat) : Int)))
        congr 2; omega
      · have M11 := M10.drop
        simpa [be8_succ, u8, Nat.add_assoc] using M11
    · have hk' : k = 8 := by omega
      subst hk'
      rw [show pad0 l (padz l.length) ++ be8 (8 * l.length) 8 = pad l from rfl] at M8
      have hpm := pad_mod l
      have hpl := pad_length l
      obtain ⟨px, cx, rfl⟩ := M8.own.shape
      have hG8 := hG.ext M8.ext
      obtain ⟨e, fz, hs⟩ := hG8.s
      refine ZC.exit ?_; refine ZP.thenX ?_; refine ZP.thenX ?_; refine ZP.blockE ?_; refine ZP.then ?_; refine ZC.seq ?_; refine ZC.region ?_
      refine ZL.val (r_loadW rfl hs (wcells_size _ _)) rfl ?_
      refine ZL.alloc M8 rfl rfl (fun bh w9 M9 => ?_)
      refine ZL.stW M9 rfl rfl (cs' := wcells 8 sq) rfl (by simp) (wcells_size _ _) (wcells_one _ _) (fun w10 M10 => ?_)
      have M11 := M10.swap.freeze
      obtain ⟨M11, SL⟩ := M11
      have hback := fun w' he => M10.swap.back (L' := [.blk bh (.cells (wcells 8 sq) 95), .blk br (.cells (bcells 32 fun _ => 0) 39)]) (w' := w') (fun c hc => List.mem_cons_of_mem _ hc) he
      have SL0 : BytesR w10 _ (.slice px (pad l).length cx) (pad l) := SL
      have hG10 : GW w10 := hG.ext M10.ext
      generalize fpIn [.blk bh (.cells (wcells 8 sq) 95), .blk br (.cells (bcells 32 fun _ => 0) 39)] = Y at M11 hback SL0
      refine ZL.nil ?_; refine ZP.then ?_; refine ZC.seq ?_; refine ZC.block ?_
      refine ZC.loop (X := Nat × Value) (fun x => [(4, x.2), (6, .pointer (some ⟨bh, 0, none⟩)), (2, .pointer (some ⟨br, 0, none⟩))])
        (fun x w' => BytesR w10 Y x.2 ((pad l).drop (64 * x.1)) ∧ 64 * x.1 ≤ (pad l).length ∧ Mem w10 Y [.blk bh (.cells (wcells 8 (blk (pad l) sq x.1)) 95), .blk br (.cells (bcells 32 fun _ => 0) 39)] w') (fun x => (pad l).length - 64 * x.1) (0, .slice px (pad l).length cx) ⟨rfl, rfl, rfl, trivial⟩ ⟨by simpa using SL0, by omega, M11⟩ ?_
      rintro ⟨j, x⟩ w12 ⟨hx, hj, M12⟩
      simp only at hx hj M12 ⊢
      obtain ⟨pj, cj, rfl⟩ := hx.shape
      have hcap := SlC.cap hx
      have hdl : ((pad l).drop (64 * j)).length = (pad l).length - 64 * j := by simp
      refine ZC.seq ?_; refine ZC.seq ?_; refine ZC.region ?_; refine ZL.val (r_move rfl) rfl ?_; refine ZL.val (r_lenSlice rfl) rfl ?_; refine ZL.val (r_gtr rfl rfl) rfl ?_; refine ZL.nil ?_; refine ZP.then ?_
      refine ZC.condD rfl (fun hd2 => ?_) (fun hd2 => ?_)
      · have hj' : 64 * (j + 1) ≤ (pad l).length := by omega
        refine ZC.skip ?_; refine ZP.then ?_; refine ZC.seq ?_; refine ZC.block ?_
        refine ZC.tail 3 (by kernel_rfl) rfl rfl (fun w13 E13 _ => ?_)
        have M13 := M12.ext' E13
        refine ZS.val (r_ldW M13 rfl (wcells_size _ _)) rfl ?_
        refine ZS.val (r_move rfl) rfl ?_
        refine ZS.val (r_sliceTo rfl rfl (by decide) (by omega)) rfl ?_
        refine ZS.tail ?_
        have hx64 := BytesR.to hx (k := 64) (by omega)
        refine ZL.call (r_call rfl) rfl (mix_ok (blk (pad l) sq j) _ (((pad l).drop (64 * j)).take 64) w13 Y (hG.ext (hback _ M13.ext)) (SlC.move hx64 M13.ext (fun _ _ h => h) (fun _ _ h => h)) (by simp; omega)) (fun v14 w14 ⟨E14, hv⟩ => ?_)
        subst hv
        have M14 := M13.ext' E14
        refine ZL.stW M14 rfl rfl (cs' := wcells 8 (blk (pad l) sq (j + 1))) rfl (wcells_size _ _) (wcells_size _ _) (wcells_one _ _) (fun w15 M15 => ?_)
        refine ZL.nil ?_; refine ZP.blockN ?_; refine ZP.then ?_; refine ZC.region ?_; refine ZL.val (r_move rfl) rfl ?_
        refine ZL.val (r_sliceFrom rfl rfl (by decide) (by omega)) rfl ?_
        refine ZL.val (r_assign rfl) rfl ?_; refine ZL.nil ?_
        have hx2 := BytesR.from hx (k := 64) (by omega)
        rw [List.drop_drop, show 64 * j + 64 = 64 * (j + 1) by omega] at hx2
        exact ZP.round (j + 1, _) ⟨rfl, rfl, rfl, trivial⟩ ⟨hx2, hj', M15⟩ (by simp only; omega)
      · have hj' : 64 * j = (pad l).length := by omega
        have hjd : j = (pad l).length / 64 := by omega
        subst hjd
        refine ZC.exit ?_; refine ZP.thenX ?_; refine ZP.thenX ?_; refine ZP.blockE ?_; refine ZP.then ?_; refine ZC.seq ?_; refine ZC.region ?_
        rw [← bcells_zero] at M12
        refine ZL.alloc M12 rfl rfl (fun bo w13 M13 => ?_)
        refine ZL.nil ?_; refine ZP.then ?_; refine ZC.seq ?_; refine ZC.seq ?_; refine ZC.region ?_; refine ZL.val (r_move rfl) rfl ?_; refine ZL.nil ?_; refine ZP.then ?_; refine ZC.block ?_
        generalize hH : blk (pad l) sq ((pad l).length / 64) = H at M13
        have hout : outB H = sumF l := by rw [← hH]; rfl
        rw [bcells_zero] at M13
        refine ZC.loop (X := Nat) (fun k => [(47, .int .i64 k), (7, .pointer (some ⟨bo, 0, none⟩)), (6, .pointer (some ⟨bh, 0, none⟩)), (2, .pointer (some ⟨br, 0, none⟩))])
          (fun k w' => k ≤ 32 ∧ Mem w10 Y [.blk bo (.cells (bcells 32 fun i => if i < k then outB H i else 0) 39), .blk bh (.cells (wcells 8 H) 95), .blk br (.cells (bcells 32 fun _ => 0) 39)] w') (fun k => 32 - k) 0 ⟨rfl, rfl, rfl, rfl, trivial⟩ ⟨by omega, by simpa using M13⟩ ?_
        rintro k w14 ⟨hk, M14⟩
        refine ZC.seq ?_; refine ZC.region ?_; refine ZL.val (r_lss rfl rfl) rfl ?_; refine ZL.nil ?_; refine ZP.then ?_; refine ZC.seq ?_
        refine ZC.condD rfl (fun he => ?_) (fun he => ?_)
        · have hk' : k < 32 := by omega
          refine ZC.skip ?_; refine ZP.then ?_; refine ZC.seq ?_; refine ZC.block ?_; refine ZC.seq ?_; refine ZC.region ?_; refine ZL.val (r_move rfl) rfl ?_; refine ZL.val (r_assign rfl) rfl ?_; refine ZL.nil ?_; refine ZP.then ?_; refine ZC.region ?_; refine ZL.val (r_move rfl) rfl ?_; refine ZL.val (r_move rfl) rfl ?_
          refine ZL.val (r_quo rfl rfl (by decide) (r := ((k / 4 : Nat) : Int)) (by rw [Int.tdiv_eq_ediv_of_nonneg (by omega), wrap_i64 (by omega) (by omega)]; omega)) rfl ?_
          refine ZL.val (r_idxA (k / 4) rfl rfl rfl (by omega)) rfl ?_
          refine ZL.val (r_ld M14 rfl (nthW (i := k / 4) (by omega) (by omega))) rfl ?_
          refine ZL.val (r_move rfl) rfl ?_
          refine ZL.val (r_rem rfl rfl (by decide) (r := ((k % 4 : Nat) : Int)) (by rw [Int.tmod_eq_emod_of_nonneg (by omega)]; omega)) rfl ?_
          refine ZL.val (r_mul rfl rfl (wrap_i64 (by omega) (by omega))) rfl ?_; refine ZL.val (r_sub rfl rfl (wrap_i64 (by omega) (by omega))) rfl ?_
          refine ZL.val (r_shrI (24 - 8 * (k % 4)) rfl rfl (by omega) (by omega)) rfl ?_
          refine ZL.val (r_convB rfl) rfl ?_
          refine ZL.val (r_idxA k rfl rfl rfl (by omega)) rfl ?_
          refine ZL.stB k M14 rfl rfl (by omega) (by omega) (fun w15 M15 => ?_)
          refine ZL.nil ?_; refine ZP.blockN ?_; refine ZP.then ?_; refine ZC.region ?_; refine ZL.val (r_add rfl rfl (wrap_i64 (by omega) (by omega))) rfl ?_; refine ZL.val (r_move rfl) rfl ?_; refine ZL.nil ?_
          refine ZP.round (k + 1) ⟨rfl, rfl, rfl, rfl, trivial⟩ ⟨by omega, ?_⟩ (by omega)
          rwa [bcells_congr (g := fun i => if i < k + 1 then outB H i else 0)] at M15
          intro i hi
          simp only [updB]
          by_cases h1 : i = k
          · subst h1; simp [outB]
          · simp only [h1, if_false]
            by_cases h2 : i < k
            · simp [h2, show i < k + 1 by omega]
            · simp [h2, show ¬ i < k + 1 by omega]
        · have hk' : k = 32 := by omega
          subst hk'
          rw [bcells_congr (g := sumF l) (fun i hi => by simp [hi, hout])] at M14
          refine ZC.exit ?_; refine ZP.thenX ?_; refine ZP.thenX ?_; refine ZP.blockE ?_; refine ZP.then ?_; refine ZC.seq ?_; refine ZC.region ?_
          refine ZL.val (r_ldW M14 rfl (bcells_size _ _)) rfl ?_
          refine ZL.stW M14 rfl rfl (cs' := bcells 32 (sumF l)) rfl (by simp [bcells]) (bcells_size _ _) (bcells_one _ _) (fun w15 M15 => ?_)
          refine ZL.nil ?_; refine ZP.then ?_; refine ZC.ret ?_
          exact ZP.retC rfl rfl (M15.get inferInstance) (bcells_size _ _) ⟨hback _ M15.ext, rfl⟩
end Go.Proofs.YthcgmdmdgpljmaaDoor.Z
