/- The document's sum. -/
import Derived.Test.YthcgmdmdgpljmaaDoorTwice
set_option linter.unusedVariables false
set_option linter.unusedSimpArgs false
set_option linter.unusedSectionVars false
set_option maxRecDepth 100000
set_option maxHeartbeats 8000000
namespace Go.Proofs.YthcgmdmdgpljmaaDoor.Z
open Go Go.RowKit

theorem numbers_ok (w : World) : Ret P 52 #[] w (fun r w' => Ext w w' ∧ r = .agg (wcells 64 kc)) := by
  refine Ret.enter0 Tryd.func52 rfl Tryd.ntmps52 rfl ?_
  refine ZC.seq ?_; refine ZC.region ?_
  refine ZL.alloc (Mem.start w No) rfl rfl (fun br w1 M1 => ?_)
  refine ZL.nil ?_; refine ZP.then ?_; refine ZC.seq ?_; refine ZC.region ?_
  refine ZL.val (r_buildArr rfl rfl (cs := (List.range 64).map fun i => u32 (kc i)) rfl) rfl ?_
  refine ZL.stW M1 rfl rfl (cs' := wcells 64 kc) rfl (by simp) (wcells_size _ _) (wcells_one _ _) (fun w2 M2 => ?_)
  refine ZL.nil ?_; refine ZP.then ?_; refine ZC.ret ?_
  exact ZP.retC rfl rfl (M2.get inferInstance) (wcells_size _ _) ⟨M2.ext, rfl⟩

theorem blkAt_get (m : List UInt8) (j i : Nat) (hi : i < 64) (hm : 64 * (j + 1) ≤ m.length) : m[64 * j + i]? = some (blkAt m j i) := by
  have h1 : 64 * j + i < m.length := by omega
  simp [blkAt, List.getD, List.getElem?_take, List.getElem?_drop, hi, h1]

theorem r_convU64 {P : Program} {σ : Env} {w : World} {s d : TypeId} {ds : TypeDesc} {k : IntKind} {x : Operand} {a : Int} (n : Nat) [TU P s ds] [TU P d (.int .u64)] (hx : ev σ x = some (.int k a)) (ha : a = n) (hn : n < 18446744073709551616) : V P σ (.convert s d x) (.int .u64 (n : Int)) w := by
  subst ha; exact r_convInt hx (wrap_u64 (by omega) (by omega))

theorem refSum_ok (v : Value) (l : List UInt8) (w : World) (X : Nat → Prop) (h : BytesR w X v l) (hl : l.length ≤ 500000) :
    Ret P 40 #[v] w (fun r w' => Ext w w' ∧ r = (sumL l).v) := by
  rw [sumL_v]
  obtain ⟨p, c, rfl⟩ := h.shape
  refine Ret.enter1 Tryd.func40 rfl Tryd.ntmps40 rfl ?_
  refine ZC.seq ?_; refine ZC.region ?_
  refine ZL.alloc (Mem.start w No) rfl rfl (fun br w1 M1 => ?_)
  rw [bcells_zero] at M1
  refine ZL.nil ?_; refine ZP.then ?_; refine ZC.seq ?_; refine ZC.region ?_
  refine ZL.bslice M1 rfl rfl rfl (by simp) (by decide) rfl (fun g0 w2 M2 => ?_)
  refine ZL.val (r_move rfl) rfl ?_
  refine ZL.append M2 rfl rfl (h.ext M2.ext) (u8_one l) (by simp only [maxLen]; omega) (by omega) rfl (fun v3 w3 M3 => ?_)
  refine ZL.bslice M3 rfl rfl rfl (by simp [Value.cells]) (by decide) rfl (fun g w4 M4 => ?_)
  refine ZL.append M4 rfl rfl (M4.own.slc (X := No) (fun _ _ h => h)) (by simp [Value.oneCell']) (by simp only [maxLen]; omega) (by omega) rfl (fun v5 w5 M5 => ?_)
  refine ZL.val (r_assign rfl) rfl ?_; refine ZL.nil ?_; refine ZP.then ?_; refine ZC.seq ?_; refine ZC.block ?_
  have M6 := M5.drop
  refine ZC.loop (X := Nat × Value) (fun x => [(3, x.2), (2, .pointer (some ⟨br, 0, none⟩)), (0, .slice p l.length c)])
    (fun x w' => x.1 ≤ padz l.length ∧ Mem w No [.own x.2 5 1 (pad0 l x.1).length ((pad0 l x.1).map u8), .blk br (.cells (bcells 32 fun _ => 0) 39)] w') (fun x => padz l.length - x.1) (0, v5) ⟨rfl, rfl, rfl, trivial⟩ ⟨by omega, by simpa [pad0, u8] using M6⟩ ?_
  rintro ⟨z, x⟩ w7 ⟨hz, M7⟩
  simp only at hz M7 ⊢
  have hz6 := padz_lt l.length
  obtain ⟨px, cx, rfl⟩ := M7.own.shape
  refine ZC.seq ?_; refine ZC.seq ?_; refine ZC.region ?_; refine ZL.val (r_move rfl) rfl ?_; refine ZL.val (r_lenSlice rfl) rfl ?_
  refine ZL.val (r_rem rfl rfl (by decide) (r := (((pad0 l z).length % 64 : Nat) : Int)) (by rw [Int.tmod_eq_emod_of_nonneg (by omega)]; omega)) rfl ?_
  refine ZL.val (r_neq rfl rfl) rfl ?_; refine ZL.nil ?_; refine ZP.then ?_
  refine ZC.condD rfl (fun hc => ?_) (fun hc => ?_)
  · have hz' : z < padz l.length := by
      rw [pad0_length] at hc
      unfold padz at hz ⊢
      omega
    refine ZC.skip ?_; refine ZP.then ?_; refine ZC.block ?_; refine ZC.region ?_; refine ZL.val (r_move rfl) rfl ?_
    refine ZL.bslice M7 rfl rfl rfl (by simp [Value.cells]) (by decide) rfl (fun g2 w8 M8 => ?_)
    refine ZL.append M8 rfl rfl (M8.own.slc (X := No) (fun _ _ h => h)) (by simp [Value.oneCell']) (by simp [maxLen, pad0_length]; omega) (by simp [pad0_length]; omega) rfl (fun v9 w9 M9 => ?_)
    refine ZL.val (r_assign rfl) rfl ?_; refine ZL.nil ?_; refine ZP.blockN ?_
    refine ZP.round (z + 1, v9) ⟨rfl, rfl, rfl, trivial⟩ ⟨by simp only; omega, ?_⟩ (by simp only; omega)
    have M10 := M9.drop
    simpa [pad0_succ, u8, pad0_length] using M10
  · have hz' : z = padz l.length := by
      rw [pad0_length] at hc
      unfold padz at hz ⊢
      omega
    subst hz'
    refine ZC.exit ?_; refine ZP.thenX ?_; refine ZP.thenX ?_; refine ZP.blockE ?_; refine ZP.then ?_; refine ZC.seq ?_; refine ZC.region ?_; refine ZL.val (r_move rfl) rfl ?_; refine ZL.val (r_lenSlice rfl) rfl ?_; refine ZL.val (r_convInt rfl (wrap_u64 (by omega) (by omega))) rfl ?_
    refine ZL.val (r_mul rfl rfl (r := ((8 * l.length : Nat) : Int)) (by rw [wrap_u64 (by omega) (by omega)]; omega)) rfl ?_
    refine ZL.val (r_assign rfl) rfl ?_; refine ZL.nil ?_; refine ZP.then ?_; refine ZC.seq ?_; refine ZC.seq ?_; refine ZC.region ?_; refine ZL.val (r_assign rfl) rfl ?_; refine ZL.nil ?_; refine ZP.then ?_; refine ZC.block ?_
    refine ZC.loop (X := Nat × Value) (fun x => [(5, .int .i64 (7 - (x.1 : Int))), (3, x.2), (4, .int .u64 ((8 * l.length : Nat) : Int)), (2, .pointer (some ⟨br, 0, none⟩))])
      (fun x w' => x.1 ≤ 8 ∧ Mem w No [.own x.2 5 1 (pad0 l (padz l.length) ++ be8 (8 * l.length) x.1).length ((pad0 l (padz l.length) ++ be8 (8 * l.length) x.1).map u8), .blk br (.cells (bcells 32 fun _ => 0) 39)] w') (fun x => 8 - x.1) (0, .slice px (pad0 l (padz l.length)).length cx) ⟨rfl, rfl, rfl, rfl, trivial⟩ ⟨by omega, by simpa [be8] using M7⟩ ?_
    rintro ⟨k, x⟩ w8 ⟨hk, M8⟩
    simp only at hk M8 ⊢
    refine ZC.seq ?_; refine ZC.seq ?_; refine ZC.region ?_; refine ZL.val (r_move rfl) rfl ?_; refine ZL.val (r_geq rfl rfl) rfl ?_; refine ZL.nil ?_; refine ZP.then ?_
    refine ZC.condD rfl (fun hd => ?_) (fun hd => ?_)
    · have hk' : k < 8 := by omega
      refine ZC.skip ?_; refine ZP.then ?_; refine ZC.seq ?_; refine ZC.block ?_; refine ZC.region ?_; refine ZL.val (r_move rfl) rfl ?_; refine ZL.val (r_move rfl) rfl ?_; refine ZL.val (r_move rfl) rfl ?_; refine ZL.val (r_mul rfl rfl (wrap_i64 (by omega) (by omega))) rfl ?_; refine ZL.val (r_convInt rfl (wrap_u64 (by omega) (by omega))) rfl ?_
      refine ZL.val (r_shr rfl rfl (by omega) (r := ((8 * l.length / 2 ^ (8 * (7 - k)) : Nat) : Int)) (by
        have e : 8 * (7 - (k : Int)) = ((8 * (7 - k) : Nat) : Int) := by omega
        rw [e]
        exact shr_nat _ _ _ (by simp [IntKind.bits]; omega))) rfl ?_
      refine ZL.val (r_convInt rfl (wrap_u8_nat _)) rfl ?_
      refine ZL.bslice M8 rfl rfl rfl (by simp [Value.cells]) (by decide) rfl (fun g2 w9 M9 => ?_)
      refine ZL.append M9 rfl rfl (M9.own.slc (X := No) (fun _ _ h => h)) (by simp [Value.oneCell']) (by simp [maxLen, pad0_length, be8_length]; omega) (by simp [pad0_length, be8_length]; omega) rfl (fun v9 w10 M10 => ?_)
      refine ZL.val (r_assign rfl) rfl ?_; refine ZL.nil ?_; refine ZP.blockN ?_; refine ZP.then ?_; refine ZC.region ?_; refine ZL.val (r_move rfl) rfl ?_; refine ZL.val (r_sub rfl rfl (wrap_i64 (by omega) (by omega))) rfl ?_; refine ZL.val (r_assign rfl) rfl ?_; refine ZL.nil ?_
      refine ZP.round (k + 1, v9) ⟨?_, rfl, rfl, rfl, trivial⟩ ⟨by simp only; omega, ?_⟩ (by simp only; omega)
      · show some (Value.int .i64 (7 - (k : Int) - 1)) = some (Value.int .i64 (7 - ((k + 1 : Nat) : Int)))
        congr 2; omega
      · have M11 := M10.drop
        simpa [be8_succ, u8, Nat.add_assoc] using M11
    · have hk' : k = 8 := by omega
      subst hk'
      rw [show pad0 l (padz l.length) ++ be8 (8 * l.length) 8 = pad l from rfl] at M8
      have hpm := pad_mod l
      have hpl := pad_length l
      obtain ⟨px, cx, rfl⟩ := M8.own.shape
      obtain ⟨M9, SL⟩ := M8.freeze
      have hback := fun w' he => M8.back (L' := [.blk br (.cells (bcells 32 fun _ => 0) 39)]) (w' := w') (fun c hc => List.mem_cons_of_mem _ hc) he
      have SL0 : BytesR w8 _ (.slice px (pad l).length cx) (pad l) := SL
      generalize fpIn [.blk br (.cells (bcells 32 fun _ => 0) 39)] = Y at M9 hback SL0
      obtain ⟨gm, om, cm, em, fm, rfl, hgm, hym, hbm⟩ := bytesAt SL0 (by omega)
      have hb' : ∀ i j, i < (pad l).length → j = om + i * 1 → cm[j]? = some (u8 ((pad l).getD i 0)) := fun i j hi hj => by rw [hj, ← nth_eq, hbm i hi]
      refine ZC.exit ?_; refine ZP.thenX ?_; refine ZP.thenX ?_; refine ZP.blockE ?_; refine ZP.then ?_; refine ZC.seq ?_; refine ZC.region ?_
      refine ZL.call (r_call rfl) rfl (numbers_ok w8) (fun v10 w10 ⟨E10, hv⟩ => ?_)
      subst hv
      have M10 := M9.ext' E10
      refine ZL.alloc M10 rfl rfl (fun bk w11 M11 => ?_)
      refine ZL.stW M11 rfl rfl (cs' := wcells 64 kc) rfl (by simp) (wcells_size _ _) (wcells_one _ _) (fun w12 M12 => ?_)
      refine ZL.nil ?_; refine ZP.then ?_; refine ZC.seq ?_; refine ZC.region ?_
      refine ZL.val (r_buildArr rfl rfl (cs := (List.range 8).map fun i => u32 (sq i)) rfl) rfl ?_
      refine ZL.alloc M12 rfl rfl (fun bh w13 M13 => ?_)
      refine ZL.stW M13 rfl rfl (cs' := wcells 8 sq) rfl (by simp) (wcells_size _ _) (wcells_one _ _) (fun w14 M14 => ?_)
      refine ZL.nil ?_; refine ZP.then ?_; refine ZC.seq ?_; refine ZC.seq ?_; refine ZC.region ?_; refine ZL.val (r_assign rfl) rfl ?_; refine ZL.nil ?_; refine ZP.then ?_; refine ZC.block ?_
      refine ZC.loop (X := Nat) (fun j => [(8, .int .i64 ((64 * j : Nat) : Int)), (3, .slice (some ⟨gm, om, none⟩) (pad l).length cx), (7, .pointer (some ⟨bh, 0, none⟩)), (6, .pointer (some ⟨bk, 0, none⟩)), (2, .pointer (some ⟨br, 0, none⟩))])
        (fun j w' => 64 * j ≤ (pad l).length ∧ Mem w8 Y [.blk bh (.cells (wcells 8 (blk (pad l) sq j)) 95), .blk bk (.cells (wcells 64 kc) 93), .blk br (.cells (bcells 32 fun _ => 0) 39)] w') (fun j => (pad l).length - 64 * j) 0 ⟨rfl, rfl, rfl, rfl, rfl, trivial⟩ ⟨by omega, M14⟩ ?_
      rintro j w15 ⟨hj, M15⟩
      refine ZC.seq ?_; refine ZC.seq ?_; refine ZC.region ?_; refine ZL.val (r_move rfl) rfl ?_; refine ZL.val (r_move rfl) rfl ?_; refine ZL.val (r_lenSlice rfl) rfl ?_; refine ZL.val (r_lss rfl rfl) rfl ?_; refine ZL.nil ?_; refine ZP.then ?_
      refine ZC.condD rfl (fun he => ?_) (fun he => ?_)
      · have hj' : 64 * (j + 1) ≤ (pad l).length := by omega
        generalize hH : blk (pad l) sq j = H at M15
        refine ZC.skip ?_; refine ZP.then ?_; refine ZC.seq ?_; refine ZC.block ?_; refine ZC.seq ?_; refine ZC.region ?_
        generalize hgb : blkAt (pad l) j = gb
        have hb : ∀ i q, i < 64 → q = om + (64 * j + i) * 1 → cm[q]? = some (u8 (gb i)) := fun i q hi hq => by
          rw [hb' (64 * j + i) q (by omega) hq, ← hgb, List.getD_eq_getElem?_getD, blkAt_get _ _ _ hi hj']; rfl
        refine ZL.alloc M15 rfl rfl (fun bw w16 M16 => ?_)
        rw [wcells_zero, show wcells 64 (fun _ => 0) = wcells 64 (sched gb 0) from rfl] at M16
        refine ZL.nil ?_; refine ZP.then ?_; refine ZC.seq ?_; refine ZC.seq ?_; refine ZC.region ?_; refine ZL.val (r_assign rfl) rfl ?_; refine ZL.nil ?_; refine ZP.then ?_; refine ZC.block ?_
        refine ZC.loop (X := Nat) (fun k => [(10, .int .i64 k), (9, .pointer (some ⟨bw, 0, none⟩)), (8, .int .i64 ((64 * j : Nat) : Int)), (3, .slice (some ⟨gm, om, none⟩) (pad l).length cx), (7, .pointer (some ⟨bh, 0, none⟩)), (6, .pointer (some ⟨bk, 0, none⟩)), (2, .pointer (some ⟨br, 0, none⟩))])
          (fun k w' => k ≤ 16 ∧ Mem w8 Y [.blk bw (.cells (wcells 64 (sched gb k)) 93), .blk bh (.cells (wcells 8 H) 95), .blk bk (.cells (wcells 64 kc) 93), .blk br (.cells (bcells 32 fun _ => 0) 39)] w') (fun k => 16 - k) 0 ⟨rfl, rfl, rfl, rfl, rfl, rfl, rfl, trivial⟩ ⟨by omega, M16⟩ ?_
        rintro k w17 ⟨hk, M17⟩
        refine ZC.seq ?_; refine ZC.seq ?_; refine ZC.region ?_; refine ZL.val (r_move rfl) rfl ?_; refine ZL.val (r_lss rfl rfl) rfl ?_; refine ZL.nil ?_; refine ZP.then ?_
        refine ZC.condD rfl (fun hf => ?_) (fun hf => ?_)
        · have hk' : k < 16 := by omega
          refine ZC.skip ?_; refine ZP.then ?_; refine ZC.seq ?_; refine ZC.block ?_; refine ZC.seq ?_; refine ZC.region ?_; refine ZL.val (r_move rfl) rfl ?_; refine ZL.val (r_move rfl) rfl ?_; refine ZL.val (r_mul rfl rfl (wrap_i64 (by omega) (by omega))) rfl ?_; refine ZL.val (r_add rfl rfl (wrap_i64 (by omega) (by omega))) rfl ?_; refine ZL.val (r_assign rfl) rfl ?_; refine ZL.nil ?_; refine ZP.then ?_
          refine ZC.tail 31 (by kernel_rfl) rfl rfl (fun w18 E18 _ => ?_)
          have M18 := M17.ext' E18
          have hg := M18.ext.at hgm hym
          refine ZS.val (r_move rfl) rfl ?_; refine ZS.val (r_move rfl) rfl ?_; refine ZS.val (r_move rfl) rfl ?_
          refine ZS.val (r_idxS (64 * j + 4 * k) rfl rfl (by omega) (by omega)) rfl ?_
          refine ZS.val (r_load1 rfl hg (hb (4 * k) _ (by omega) (by omega))) rfl ?_
          refine ZS.val (r_convU rfl) rfl ?_
          refine ZS.val (r_shlU 24 rfl rfl (by decide)) rfl ?_
          refine ZS.val (r_move rfl) rfl ?_; refine ZS.val (r_move rfl) rfl ?_; refine ZS.val (r_add rfl rfl (wrap_i64 (by omega) (by omega))) rfl ?_
          refine ZS.val (r_idxS (64 * j + (4 * k + 1)) rfl rfl (by omega) (by omega)) rfl ?_
          refine ZS.val (r_load1 rfl hg (hb (4 * k + 1) _ (by omega) (by omega))) rfl ?_
          refine ZS.val (r_convU rfl) rfl ?_
          refine ZS.val (r_shlU 16 rfl rfl (by decide)) rfl ?_
          refine ZS.val (r_orU rfl rfl) rfl ?_; refine ZS.val (r_move rfl) rfl ?_; refine ZS.val (r_move rfl) rfl ?_; refine ZS.val (r_add rfl rfl (wrap_i64 (by omega) (by omega))) rfl ?_
          refine ZS.val (r_idxS (64 * j + (4 * k + 2)) rfl rfl (by omega) (by omega)) rfl ?_
          refine ZS.val (r_load1 rfl hg (hb (4 * k + 2) _ (by omega) (by omega))) rfl ?_
          refine ZS.val (r_convU rfl) rfl ?_
          refine ZS.val (r_shlU 8 rfl rfl (by decide)) rfl ?_
          refine ZS.val (r_orU rfl rfl) rfl ?_; refine ZS.val (r_move rfl) rfl ?_; refine ZS.val (r_move rfl) rfl ?_; refine ZS.val (r_add rfl rfl (wrap_i64 (by omega) (by omega))) rfl ?_
          refine ZS.val (r_idxS (64 * j + (4 * k + 3)) rfl rfl (by omega) (by omega)) rfl ?_
          refine ZS.val (r_load1 rfl hg (hb (4 * k + 3) _ (by omega) (by omega))) rfl ?_
          refine ZS.val (r_convU rfl) rfl ?_; refine ZS.val (r_orU rfl rfl) rfl ?_
          refine ZS.val (r_idxA k rfl rfl (by omega) (by omega)) rfl ?_
          refine ZS.tail ?_
          refine ZL.stU k M18 rfl rfl (by omega) (by omega) (fun w19 M19 => ?_)
          refine ZL.nil ?_; refine ZP.blockN ?_; refine ZP.then ?_; refine ZC.region ?_; refine ZL.val (r_move rfl) rfl ?_; refine ZL.val (r_add rfl rfl (wrap_i64 (by omega) (by omega))) rfl ?_; refine ZL.val (r_assign rfl) rfl ?_; refine ZL.nil ?_
          refine ZP.round (k + 1) ⟨rfl, rfl, rfl, rfl, rfl, rfl, rfl, trivial⟩ ⟨by omega, ?_⟩ (by omega)
          simp only [sched, nxt, if_pos hk', be32]
          exact M19
        · have hk' : k = 16 := by omega
          subst hk'
          refine ZC.exit ?_; refine ZP.thenX ?_; refine ZP.thenX ?_; refine ZP.blockE ?_; refine ZP.then ?_; refine ZC.seq ?_; refine ZC.seq ?_; refine ZC.region ?_; refine ZL.val (r_assign rfl) rfl ?_; refine ZL.nil ?_; refine ZP.then ?_; refine ZC.block ?_
          refine ZC.loop (X := Nat) (fun k => [(12, .int .i64 k), (9, .pointer (some ⟨bw, 0, none⟩)), (8, .int .i64 ((64 * j : Nat) : Int)), (3, .slice (some ⟨gm, om, none⟩) (pad l).length cx), (7, .pointer (some ⟨bh, 0, none⟩)), (6, .pointer (some ⟨bk, 0, none⟩)), (2, .pointer (some ⟨br, 0, none⟩))])
            (fun k w' => 16 ≤ k ∧ k ≤ 64 ∧ Mem w8 Y [.blk bw (.cells (wcells 64 (sched gb k)) 93), .blk bh (.cells (wcells 8 H) 95), .blk bk (.cells (wcells 64 kc) 93), .blk br (.cells (bcells 32 fun _ => 0) 39)] w') (fun k => 64 - k) 16 ⟨rfl, rfl, rfl, rfl, rfl, rfl, rfl, trivial⟩ ⟨by omega, by omega, M17⟩ ?_
          rintro k w20 ⟨hk1, hk2, M20⟩
          refine ZC.seq ?_; refine ZC.seq ?_; refine ZC.region ?_; refine ZL.val (r_move rfl) rfl ?_; refine ZL.val (r_lss rfl rfl) rfl ?_; refine ZL.nil ?_; refine ZP.then ?_
          refine ZC.condD rfl (fun hh => ?_) (fun hh => ?_)
          · have hk' : k < 64 := by omega
            refine ZC.skip ?_; refine ZP.then ?_; refine ZC.seq ?_; refine ZC.block ?_; refine ZC.seq ?_
            refine ZC.still (by kernel_rfl) (fun w21 E21 _ => ?_)
            have M21 := M20.ext' E21
            refine ZS.val (r_move rfl) rfl ?_; refine ZS.val (r_sub rfl rfl (wrap_i64 (by omega) (by omega))) rfl ?_
            refine ZS.val (r_idxA (k - 15) rfl rfl (by omega) (by omega)) rfl ?_
            refine ZS.val (r_ld M21 rfl (nthW (i := k - 15) (by omega) (by omega))) rfl ?_
            refine ZS.val (r_move rfl) rfl ?_; refine ZS.val (r_sub rfl rfl (wrap_i64 (by omega) (by omega))) rfl ?_
            refine ZS.val (r_idxA (k - 2) rfl rfl (by omega) (by omega)) rfl ?_
            refine ZS.val (r_ld M21 rfl (nthW (i := k - 2) (by omega) (by omega))) rfl ?_
            refine ZS.val (r_assign rfl) rfl ?_; refine ZS.val (r_assign rfl) rfl ?_; refine ZS.nil ?_
            refine ZP.then ?_
            refine ZC.tail 29 (by kernel_rfl) rfl rfl (fun w22 E22 _ => ?_)
            have M22 := M21.ext' E22
            refine ZS.val (r_move rfl) rfl ?_; refine ZS.val (r_move rfl) rfl ?_; refine ZS.val (r_sub rfl rfl (wrap_i64 (by omega) (by omega))) rfl ?_
            refine ZS.val (r_idxA (k - 16) rfl rfl (by omega) (by omega)) rfl ?_
            refine ZS.val (r_ld M22 rfl (nthW (i := k - 16) (by omega) (by omega))) rfl ?_
            refine ZS.val (r_move rfl) rfl ?_
            refine ZS.call (r_call rfl) rfl (refturned_ok _ 7 w22 (by omega) (by omega)) ?_
            refine ZS.val (r_move rfl) rfl ?_
            refine ZS.call (r_call rfl) rfl (refturned_ok _ 18 w22 (by omega) (by omega)) ?_
            refine ZS.val (r_xorU rfl rfl) rfl ?_; refine ZS.val (r_move rfl) rfl ?_
            refine ZS.val (r_shrU 3 rfl rfl (by decide)) rfl ?_
            refine ZS.val (r_xorU rfl rfl) rfl ?_; refine ZS.val (r_addU rfl rfl) rfl ?_; refine ZS.val (r_move rfl) rfl ?_; refine ZS.val (r_sub rfl rfl (wrap_i64 (by omega) (by omega))) rfl ?_
            refine ZS.val (r_idxA (k - 7) rfl rfl (by omega) (by omega)) rfl ?_
            refine ZS.val (r_ld M22 rfl (nthW (i := k - 7) (by omega) (by omega))) rfl ?_
            refine ZS.val (r_addU rfl rfl) rfl ?_; refine ZS.val (r_move rfl) rfl ?_
            refine ZS.call (r_call rfl) rfl (refturned_ok _ 17 w22 (by omega) (by omega)) ?_
            refine ZS.val (r_move rfl) rfl ?_
            refine ZS.call (r_call rfl) rfl (refturned_ok _ 19 w22 (by omega) (by omega)) ?_
            refine ZS.val (r_xorU rfl rfl) rfl ?_; refine ZS.val (r_move rfl) rfl ?_
            refine ZS.val (r_shrU 10 rfl rfl (by decide)) rfl ?_
            refine ZS.val (r_xorU rfl rfl) rfl ?_; refine ZS.val (r_addU rfl rfl) rfl ?_
            refine ZS.val (r_idxA k rfl rfl (by omega) (by omega)) rfl ?_
            refine ZS.tail ?_
            refine ZL.stU k M22 rfl rfl (by omega) (by omega) (fun w23 M23 => ?_)
            refine ZL.nil ?_; refine ZP.blockN ?_; refine ZP.then ?_; refine ZC.region ?_; refine ZL.val (r_move rfl) rfl ?_; refine ZL.val (r_add rfl rfl (wrap_i64 (by omega) (by omega))) rfl ?_; refine ZL.val (r_assign rfl) rfl ?_; refine ZL.nil ?_
            refine ZP.round (k + 1) ⟨rfl, rfl, rfl, rfl, rfl, rfl, rfl, trivial⟩ ⟨by omega, by omega, ?_⟩ (by omega)
            simp only [sched, nxt, if_neg (show ¬ k < 16 by omega), sg0, sg1]
            exact M23
          · have hk' : k = 64 := by omega
            subst hk'
            refine ZC.exit ?_; refine ZP.thenX ?_; refine ZP.thenX ?_; refine ZP.blockE ?_; refine ZP.then ?_; refine ZC.seq ?_; refine ZC.region ?_
            generalize hW : sched gb 64 = W at M20
            refine ZL.val (r_ldW M20 rfl (wcells_size _ _)) rfl ?_
            refine ZL.alloc M20 rfl rfl (fun bs w21 M21 => ?_)
            refine ZL.stW M21 rfl rfl (cs' := wcells 8 H) rfl (by simp) (wcells_size _ _) (wcells_one _ _) (fun w22 M22 => ?_)
            refine ZL.nil ?_; refine ZP.then ?_; refine ZC.seq ?_; refine ZC.seq ?_; refine ZC.region ?_; refine ZL.val (r_assign rfl) rfl ?_; refine ZL.nil ?_; refine ZP.then ?_; refine ZC.block ?_
            refine ZC.loop (X := Nat) (fun k => [(16, .int .i64 k), (15, .pointer (some ⟨bs, 0, none⟩)), (9, .pointer (some ⟨bw, 0, none⟩)), (8, .int .i64 ((64 * j : Nat) : Int)), (3, .slice (some ⟨gm, om, none⟩) (pad l).length cx), (7, .pointer (some ⟨bh, 0, none⟩)), (6, .pointer (some ⟨bk, 0, none⟩)), (2, .pointer (some ⟨br, 0, none⟩))])
              (fun k w' => k ≤ 64 ∧ Mem w8 Y [.blk bs (.cells (wcells 8 (rnds kc W H k)) 95), .blk bw (.cells (wcells 64 W) 93), .blk bh (.cells (wcells 8 H) 95), .blk bk (.cells (wcells 64 kc) 93), .blk br (.cells (bcells 32 fun _ => 0) 39)] w') (fun k => 64 - k) 0 ⟨rfl, rfl, rfl, rfl, rfl, rfl, rfl, rfl, trivial⟩ ⟨by omega, M22⟩ ?_
            rintro k w23 ⟨hk, M23⟩
            refine ZC.seq ?_; refine ZC.seq ?_; refine ZC.region ?_; refine ZL.val (r_move rfl) rfl ?_; refine ZL.val (r_lss rfl rfl) rfl ?_; refine ZL.nil ?_; refine ZP.then ?_
            refine ZC.condD rfl (fun hi => ?_) (fun hi => ?_)
            · have hk' : k < 64 := by omega
              generalize hV : rnds kc W H k = V at M23
              refine ZC.skip ?_; refine ZP.then ?_; refine ZC.seq ?_; refine ZC.block ?_; refine ZC.seq ?_
              refine ZC.still (by kernel_rfl) (fun w24 E24 _ => ?_)
              have M24 := M23.ext' E24
              refine ZS.val (r_idxA 4 rfl rfl rfl (by decide)) rfl ?_; refine ZS.val (r_ld M24 rfl (nthW (i := 4) rfl (by decide))) rfl ?_
              refine ZS.val (r_idxA 0 rfl rfl rfl (by decide)) rfl ?_; refine ZS.val (r_ld M24 rfl (nthW (i := 0) rfl (by decide))) rfl ?_
              refine ZS.val (r_assign rfl) rfl ?_; refine ZS.val (r_assign rfl) rfl ?_; refine ZS.nil ?_
              refine ZP.then ?_; refine ZC.seq ?_
              refine ZC.still (by kernel_rfl) (fun w25 E25 _ => ?_)
              have M25 := M24.ext' E25
              refine ZS.val (r_idxA 7 rfl rfl rfl (by decide)) rfl ?_; refine ZS.val (r_ld M25 rfl (nthW (i := 7) rfl (by decide))) rfl ?_
              refine ZS.val (r_move rfl) rfl ?_
              refine ZS.call (r_call rfl) rfl (refturned_ok _ 6 w25 (by omega) (by omega)) ?_
              refine ZS.val (r_move rfl) rfl ?_
              refine ZS.call (r_call rfl) rfl (refturned_ok _ 11 w25 (by omega) (by omega)) ?_
              refine ZS.val (r_xorU rfl rfl) rfl ?_; refine ZS.val (r_move rfl) rfl ?_
              refine ZS.call (r_call rfl) rfl (refturned_ok _ 25 w25 (by omega) (by omega)) ?_
              refine ZS.val (r_xorU rfl rfl) rfl ?_; refine ZS.val (r_addU rfl rfl) rfl ?_; refine ZS.val (r_move rfl) rfl ?_
              refine ZS.val (r_idxA 5 rfl rfl rfl (by decide)) rfl ?_; refine ZS.val (r_ld M25 rfl (nthW (i := 5) rfl (by decide))) rfl ?_
              refine ZS.val (r_andU rfl rfl) rfl ?_; refine ZS.val (r_move rfl) rfl ?_; refine ZS.val (r_complU rfl) rfl ?_
              refine ZS.val (r_idxA 6 rfl rfl rfl (by decide)) rfl ?_; refine ZS.val (r_ld M25 rfl (nthW (i := 6) rfl (by decide))) rfl ?_
              refine ZS.val (r_andU rfl rfl) rfl ?_; refine ZS.val (r_xorU rfl rfl) rfl ?_; refine ZS.val (r_addU rfl rfl) rfl ?_; refine ZS.val (r_move rfl) rfl ?_
              refine ZS.val (r_idxA k rfl rfl rfl (by omega)) rfl ?_
              refine ZS.val (r_ld M25 rfl (nthW (i := k) (by omega) (by omega))) rfl ?_
              refine ZS.val (r_addU rfl rfl) rfl ?_; refine ZS.val (r_move rfl) rfl ?_
              refine ZS.val (r_idxA k rfl rfl rfl (by omega)) rfl ?_
              refine ZS.val (r_ld M25 rfl (nthW (i := k) (by omega) (by omega))) rfl ?_
              refine ZS.val (r_addU rfl rfl) rfl ?_; refine ZS.val (r_assign rfl) rfl ?_; refine ZS.nil ?_
              refine ZP.then ?_; refine ZC.seq ?_
              refine ZC.still (by kernel_rfl) (fun w26 E26 _ => ?_)
              have M26 := M25.ext' E26
              refine ZS.val (r_move rfl) rfl ?_
              refine ZS.call (r_call rfl) rfl (refturned_ok _ 2 w26 (by omega) (by omega)) ?_
              refine ZS.val (r_move rfl) rfl ?_
              refine ZS.call (r_call rfl) rfl (refturned_ok _ 13 w26 (by omega) (by omega)) ?_
              refine ZS.val (r_xorU rfl rfl) rfl ?_; refine ZS.val (r_move rfl) rfl ?_
              refine ZS.call (r_call rfl) rfl (refturned_ok _ 22 w26 (by omega) (by omega)) ?_
              refine ZS.val (r_xorU rfl rfl) rfl ?_; refine ZS.val (r_move rfl) rfl ?_
              refine ZS.val (r_idxA 1 rfl rfl rfl (by decide)) rfl ?_; refine ZS.val (r_ld M26 rfl (nthW (i := 1) rfl (by decide))) rfl ?_
              refine ZS.val (r_andU rfl rfl) rfl ?_; refine ZS.val (r_move rfl) rfl ?_
              refine ZS.val (r_idxA 2 rfl rfl rfl (by decide)) rfl ?_; refine ZS.val (r_ld M26 rfl (nthW (i := 2) rfl (by decide))) rfl ?_
              refine ZS.val (r_andU rfl rfl) rfl ?_; refine ZS.val (r_xorU rfl rfl) rfl ?_
              refine ZS.val (r_idxA 1 rfl rfl rfl (by decide)) rfl ?_; refine ZS.val (r_ld M26 rfl (nthW (i := 1) rfl (by decide))) rfl ?_
              refine ZS.val (r_idxA 2 rfl rfl rfl (by decide)) rfl ?_; refine ZS.val (r_ld M26 rfl (nthW (i := 2) rfl (by decide))) rfl ?_
              refine ZS.val (r_andU rfl rfl) rfl ?_; refine ZS.val (r_xorU rfl rfl) rfl ?_; refine ZS.val (r_addU rfl rfl) rfl ?_; refine ZS.val (r_assign rfl) rfl ?_; refine ZS.nil ?_
              refine ZP.then ?_; refine ZC.region ?_; refine ZL.val (r_move rfl) rfl ?_; refine ZL.val (r_move rfl) rfl ?_
              refine ZL.val (r_addU rfl rfl) rfl ?_
              refine ZL.val (r_idxA 0 rfl rfl rfl (by decide)) rfl ?_; refine ZL.val (r_ld M26 rfl (nthW (i := 0) rfl (by decide))) rfl ?_
              refine ZL.val (r_idxA 1 rfl rfl rfl (by decide)) rfl ?_; refine ZL.val (r_ld M26 rfl (nthW (i := 1) rfl (by decide))) rfl ?_
              refine ZL.val (r_idxA 2 rfl rfl rfl (by decide)) rfl ?_; refine ZL.val (r_ld M26 rfl (nthW (i := 2) rfl (by decide))) rfl ?_
              refine ZL.val (r_idxA 3 rfl rfl rfl (by decide)) rfl ?_; refine ZL.val (r_ld M26 rfl (nthW (i := 3) rfl (by decide))) rfl ?_
              refine ZL.val (r_move rfl) rfl ?_; refine ZL.val (r_addU rfl rfl) rfl ?_
              refine ZL.val (r_idxA 4 rfl rfl rfl (by decide)) rfl ?_; refine ZL.val (r_ld M26 rfl (nthW (i := 4) rfl (by decide))) rfl ?_
              refine ZL.val (r_idxA 5 rfl rfl rfl (by decide)) rfl ?_; refine ZL.val (r_ld M26 rfl (nthW (i := 5) rfl (by decide))) rfl ?_
              refine ZL.val (r_idxA 6 rfl rfl rfl (by decide)) rfl ?_; refine ZL.val (r_ld M26 rfl (nthW (i := 6) rfl (by decide))) rfl ?_
              refine ZL.val (r_buildArr rfl rfl (cs := [u32 (t1W kc W V k + (sS0 (V 0) + mostW V)), u32 (V 0), u32 (V 1), u32 (V 2), u32 (V 3 + t1W kc W V k), u32 (V 4), u32 (V 5), u32 (V 6)]) rfl) rfl ?_
              have hbuilt : [u32 (t1W kc W V k + (sS0 (V 0) + mostW V)), u32 (V 0), u32 (V 1), u32 (V 2), u32 (V 3 + t1W kc W V k), u32 (V 4), u32 (V 5), u32 (V 6)].toArray = wcells 8 (rnd kc W V k) := by
                rw [← UInt32.add_assoc]; rfl
              rw [hbuilt]
              refine ZL.stW M26 rfl rfl (cs' := wcells 8 (rnd kc W V k)) rfl (wcells_size _ _) (wcells_size _ _) (wcells_one _ _) (fun w27 M27 => ?_)
              refine ZL.nil ?_; refine ZP.blockN ?_; refine ZP.then ?_; refine ZC.region ?_; refine ZL.val (r_move rfl) rfl ?_; refine ZL.val (r_add rfl rfl (wrap_i64 (by omega) (by omega))) rfl ?_; refine ZL.val (r_assign rfl) rfl ?_; refine ZL.nil ?_
              refine ZP.round (k + 1) ⟨rfl, rfl, rfl, rfl, rfl, rfl, rfl, rfl, trivial⟩ ⟨by omega, ?_⟩ (by omega)
              simp only [rnds, hV]
              exact M27
            · have hk' : k = 64 := by omega
              subst hk'
              generalize hV : rnds kc W H 64 = V at M23
              refine ZC.exit ?_; refine ZP.thenX ?_; refine ZP.thenX ?_; refine ZP.blockE ?_; refine ZP.then ?_; refine ZC.seq ?_; refine ZC.region ?_; refine ZL.val (r_assign rfl) rfl ?_; refine ZL.nil ?_; refine ZP.then ?_; refine ZC.block ?_
              refine ZC.loop (X := Nat) (fun k => [(21, .int .i64 k), (15, .pointer (some ⟨bs, 0, none⟩)), (9, .pointer (some ⟨bw, 0, none⟩)), (8, .int .i64 ((64 * j : Nat) : Int)), (3, .slice (some ⟨gm, om, none⟩) (pad l).length cx), (7, .pointer (some ⟨bh, 0, none⟩)), (6, .pointer (some ⟨bk, 0, none⟩)), (2, .pointer (some ⟨br, 0, none⟩))])
                (fun k w' => k ≤ 8 ∧ Mem w8 Y [.blk bs (.cells (wcells 8 (V)) 95), .blk bw (.cells (wcells 64 W) 93), .blk bh (.cells (wcells 8 (sumTo H V k)) 95), .blk bk (.cells (wcells 64 kc) 93), .blk br (.cells (bcells 32 fun _ => 0) 39)] w') (fun k => 8 - k) 0 ⟨rfl, rfl, rfl, rfl, rfl, rfl, rfl, rfl, trivial⟩ ⟨by omega, M23⟩ ?_
              rintro k w28 ⟨hk, M28⟩
              refine ZC.seq ?_; refine ZC.seq ?_; refine ZC.region ?_; refine ZL.val (r_move rfl) rfl ?_; refine ZL.val (r_lss rfl rfl) rfl ?_; refine ZL.nil ?_; refine ZP.then ?_
              refine ZC.condD rfl (fun hi2 => ?_) (fun hi2 => ?_)
              · have hk' : k < 8 := by omega
                refine ZC.skip ?_; refine ZP.then ?_; refine ZC.seq ?_; refine ZC.block ?_
                refine ZC.tail 9 (by kernel_rfl) rfl rfl (fun w29 E29 _ => ?_)
                have M29 := M28.ext' E29
                refine ZS.val (r_move rfl) rfl ?_; refine ZS.val (r_move rfl) rfl ?_
                refine ZS.val (r_idxA k rfl rfl rfl (by omega)) rfl ?_
                refine ZS.val (r_ld M29 rfl (nthW (i := k) (by omega) (by omega))) rfl ?_
                refine ZS.val (r_move rfl) rfl ?_
                refine ZS.val (r_idxA k rfl rfl rfl (by omega)) rfl ?_
                refine ZS.val (r_ld M29 rfl (nthW (i := k) (by omega) (by omega))) rfl ?_
                refine ZS.val (r_addU rfl rfl) rfl ?_
                refine ZS.val (r_idxA k rfl rfl rfl (by omega)) rfl ?_
                refine ZS.tail ?_
                refine ZL.stU k M29 rfl rfl (by omega) (by omega) (fun w30 M30 => ?_)
                refine ZL.nil ?_; refine ZP.blockN ?_; refine ZP.then ?_; refine ZC.region ?_; refine ZL.val (r_move rfl) rfl ?_; refine ZL.val (r_add rfl rfl (wrap_i64 (by omega) (by omega))) rfl ?_; refine ZL.val (r_assign rfl) rfl ?_; refine ZL.nil ?_
                refine ZP.round (k + 1) ⟨rfl, rfl, rfl, rfl, rfl, rfl, rfl, rfl, trivial⟩ ⟨by omega, ?_⟩ (by omega)
                rwa [wcells_congr (f := upd (sumTo H V k) k (sumTo H V k k + V k)) (g := sumTo H V (k + 1))] at M30
                intro i hi
                simp only [upd, sumTo]
                by_cases h1 : i = k
                · subst h1; simp
                · simp only [h1, if_false]
                  by_cases h2 : i < k
                  · simp [h2, show i < k + 1 by omega]
                  · simp [h2, show ¬ i < k + 1 by omega]
              · have hk' : k = 8 := by omega
                subst hk'
                refine ZC.exit ?_; refine ZP.thenX ?_; refine ZP.thenX ?_; refine ZP.blockE ?_; refine ZP.blockN ?_; refine ZP.then ?_; refine ZC.region ?_; refine ZL.val (r_move rfl) rfl ?_; refine ZL.val (r_add rfl rfl (wrap_i64 (by omega) (by omega))) rfl ?_; refine ZL.val (r_assign rfl) rfl ?_; refine ZL.nil ?_
                have hnext : wcells 8 (sumTo H V 8) = wcells 8 (blk (pad l) sq (j + 1)) := by
                  refine wcells_congr fun i hi => ?_
                  simp only [sumTo, if_pos hi, blk, comp, hH, hgb, hW, hV]
                  rw [UInt32.add_comm]
                rw [hnext] at M28
                refine ZP.round (j + 1) ⟨?_, rfl, rfl, rfl, rfl, trivial⟩ ⟨hj', M28.sub [2, 3, 4] rfl⟩ (by omega)
                show some (Value.int .i64 (((64 * j : Nat) : Int) + 64)) = some (Value.int .i64 ((64 * (j + 1) : Nat) : Int))
                congr 2
      · have hj' : 64 * j = (pad l).length := by omega
        have hjd : j = (pad l).length / 64 := by omega
        subst hjd
        refine ZC.exit ?_; refine ZP.thenX ?_; refine ZP.thenX ?_; refine ZP.blockE ?_; refine ZP.then ?_; refine ZC.seq ?_; refine ZC.region ?_
        rw [← bcells_zero] at M15
        refine ZL.alloc M15 rfl rfl (fun bo w13 M13 => ?_)
        refine ZL.nil ?_; refine ZP.then ?_; refine ZC.seq ?_; refine ZC.seq ?_; refine ZC.region ?_; refine ZL.val (r_assign rfl) rfl ?_; refine ZL.nil ?_; refine ZP.then ?_; refine ZC.block ?_
        generalize hH : blk (pad l) sq ((pad l).length / 64) = H at M13
        have hout : outB H = sumF l := by rw [← hH]; rfl
        rw [bcells_zero] at M13
        refine ZC.loop (X := Nat) (fun k => [(23, .int .i64 k), (22, .pointer (some ⟨bo, 0, none⟩)), (7, .pointer (some ⟨bh, 0, none⟩)), (2, .pointer (some ⟨br, 0, none⟩))])
          (fun k w' => k ≤ 32 ∧ Mem w8 Y [.blk bo (.cells (bcells 32 fun i => if i < k then outB H i else 0) 39), .blk bh (.cells (wcells 8 H) 95), .blk bk (.cells (wcells 64 kc) 93), .blk br (.cells (bcells 32 fun _ => 0) 39)] w') (fun k => 32 - k) 0 ⟨rfl, rfl, rfl, rfl, trivial⟩ ⟨by omega, by simpa using M13⟩ ?_
        rintro k w14 ⟨hk, M14⟩
        refine ZC.seq ?_; refine ZC.seq ?_; refine ZC.region ?_; refine ZL.val (r_move rfl) rfl ?_; refine ZL.val (r_lss rfl rfl) rfl ?_; refine ZL.nil ?_; refine ZP.then ?_
        refine ZC.condD rfl (fun he => ?_) (fun he => ?_)
        · have hk' : k < 32 := by omega
          refine ZC.skip ?_; refine ZP.then ?_; refine ZC.seq ?_; refine ZC.block ?_; refine ZC.region ?_; refine ZL.val (r_move rfl) rfl ?_; refine ZL.val (r_move rfl) rfl ?_
          refine ZL.val (r_quo rfl rfl (by decide) (r := ((k / 4 : Nat) : Int)) (by rw [Int.tdiv_eq_ediv_of_nonneg (by omega), wrap_i64 (by omega) (by omega)]; omega)) rfl ?_
          refine ZL.val (r_idxA (k / 4) rfl rfl rfl (by omega)) rfl ?_
          refine ZL.val (r_ld M14 rfl (nthW (i := k / 4) (by omega) (by omega))) rfl ?_
          refine ZL.val (r_move rfl) rfl ?_
          refine ZL.val (r_rem rfl rfl (by decide) (r := ((k % 4 : Nat) : Int)) (by rw [Int.tmod_eq_emod_of_nonneg (by omega)]; omega)) rfl ?_
          refine ZL.val (r_mul rfl rfl (wrap_i64 (by omega) (by omega))) rfl ?_; refine ZL.val (r_sub rfl rfl (wrap_i64 (by omega) (by omega))) rfl ?_; refine ZL.val (r_convInt rfl (wrap_u64 (by omega) (by omega))) rfl ?_
          refine ZL.val (r_shrI (24 - 8 * (k % 4)) rfl rfl (by omega) (by omega)) rfl ?_
          refine ZL.val (r_convB rfl) rfl ?_
          refine ZL.val (r_idxA k rfl rfl rfl (by omega)) rfl ?_
          refine ZL.stB k M14 rfl rfl (by omega) (by omega) (fun w15 M15 => ?_)
          refine ZL.nil ?_; refine ZP.blockN ?_; refine ZP.then ?_; refine ZC.region ?_; refine ZL.val (r_move rfl) rfl ?_; refine ZL.val (r_add rfl rfl (wrap_i64 (by omega) (by omega))) rfl ?_; refine ZL.val (r_assign rfl) rfl ?_; refine ZL.nil ?_
          refine ZP.round (k + 1) ⟨rfl, rfl, rfl, rfl, trivial⟩ ⟨by omega, ?_⟩ (by omega)
          rwa [bcells_congr (g := fun i => if i < k + 1 then outB H i else 0)] at M15
          intro i hi
          simp only [updB]
          by_cases h1 : i = k
          · subst h1; simp [outB]
          · simp only [h1, if_false]
            by_cases h2 : i < k
            · simp [h2, show i < k + 1 by omega]
            · simp [h2, show ¬ i < k + 1 by omega]
        · have hk' : k = 32 := by omega
          subst hk'
          rw [bcells_congr (g := sumF l) (fun i hi => by simp [hi, hout])] at M14
          refine ZC.exit ?_; refine ZP.thenX ?_; refine ZP.thenX ?_; refine ZP.blockE ?_; refine ZP.then ?_; refine ZC.seq ?_; refine ZC.region ?_
          refine ZL.val (r_ldW M14 rfl (bcells_size _ _)) rfl ?_
          refine ZL.stW M14 rfl rfl (cs' := bcells 32 (sumF l)) rfl (by simp [bcells]) (bcells_size _ _) (bcells_one _ _) (fun w15 M15 => ?_)
          refine ZL.nil ?_; refine ZP.then ?_; refine ZC.ret ?_
          exact ZP.retC rfl rfl (M15.get inferInstance) (bcells_size _ _) ⟨hback _ M15.ext, rfl⟩

theorem refTwice_ok (v : Value) (l : List UInt8) (w : World) (X : Nat → Prop) (h : BytesR w X v l) (hl : l.length ≤ 500000) :
    Ret P 30 #[v] w (fun r w' => Ext w w' ∧ r = (twice l).v) := by
  refine Ret.enter1 Tryd.func30 rfl Tryd.ntmps30 rfl ?_
  refine ZC.seq ?_; refine ZC.region ?_
  refine ZL.alloc (Mem.start w No) rfl rfl (fun br w1 M1 => ?_)
  refine ZL.nil ?_; refine ZP.then ?_; refine ZC.seq ?_; refine ZC.region ?_; refine ZL.val (r_move rfl) rfl ?_
  refine ZL.call (r_call rfl) rfl (refSum_ok _ l w1 X (h.ext M1.ext) hl) (fun v2 w2 ⟨E2, hv⟩ => ?_)
  subst hv
  have M2 := M1.ext' E2
  refine ZL.alloc M2 rfl rfl (fun bx w3 M3 => ?_)
  refine ZL.stW M3 rfl rfl (cs' := (sumL l).cells.toArray) rfl (by simp) (B32.size _) (B32.one _) (fun w4 M4 => ?_)
  refine ZL.nil ?_; refine ZP.then ?_; refine ZC.seq ?_; refine ZC.region ?_
  refine ZL.val (r_sliceArr rfl) rfl ?_
  refine ZL.call (r_call rfl) rfl (refSum_ok _ (sumL l).val w4 No (M4.slArr (x := sumL l) inferInstance id) (by simp [(sumL l).property])) (fun v5 w5 ⟨E5, hv⟩ => ?_)
  subst hv
  have M5 := M4.ext' E5
  refine ZL.stW M5 rfl rfl (cs' := (twice l).cells.toArray) rfl (by simp) (B32.size _) (B32.one _) (fun w6 M6 => ?_)
  refine ZL.nil ?_; refine ZP.then ?_; refine ZC.ret ?_
  exact ZP.retC rfl rfl (M6.get inferInstance) (B32.size _) ⟨M6.ext, rfl⟩
end Go.Proofs.YthcgmdmdgpljmaaDoor.Z
