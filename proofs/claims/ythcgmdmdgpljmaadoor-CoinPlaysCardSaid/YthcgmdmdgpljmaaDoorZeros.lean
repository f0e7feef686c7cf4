/- append(x, make([]T, n)...): so many zeros more. -/
import Derived.Test.YthcgmdmdgpljmaaDoorBuild
import Derived.Test.YthcgmdmdgpljmaaDoorTx
set_option linter.unusedVariables false
set_option linter.unusedSimpArgs false
set_option maxRecDepth 100000
set_option maxHeartbeats 4000000
namespace Go.Proofs.YthcgmdmdgpljmaaDoor.Z
open Go Go.RowKit

theorem zeroCells_one (z : Value) (m : Nat) : Builtin.zeroCells #[z] m = (List.replicate m z).toArray := by
  apply Array.ext'
  have h : ∀ i, ([z][i % 1]?).getD default = z := fun i => by rw [Nat.mod_one]; rfl
  simp [Builtin.zeroCells, h, List.map_const']

theorem run_appendZ {P : Program} {w : World} {t tx ty e n bytes m : Nat} {k k' : IntKind} {v z : Value} {xs : List Value} [TU P t (.slice e)] [TU P tx (.int k)] [te : TE P e 1 bytes z]
    (hown : OwnR w e 1 v n xs) (hn0 : 0 < n) (hz1 : z.cells = #[z]) (ho : z.oneCell' = true) (h63 : n + m ≤ maxLen) (hb : (n + m) * bytes ≤ 140737488355328) (hmm : m < 9223372036854775808) :
    ∃ v' w', (Builtin.append_ #[t, tx] ty #[v, .int k' m]).run P w = .ok v' w' ∧ OwnR w' e 1 v' (n + m) (xs ++ List.replicate m z) ∧ ExtX w (fun b => v.ownBlock = some b) w' ∧ (∀ g, v'.ownBlock = some g → v.ownBlock = some g ∨ w.heap.size ≤ g) := by
  have ht := TU.h (P := P) (t := t)
  have htx := TU.h (P := P) (t := tx)
  have hi0 := te.ti.h
  have hz0 := te.tz.h
  obtain ⟨i, hi⟩ : ∃ i, P.info? e = some i := by
    cases hq : P.info? e with
    | none => simp [hq] at hi0
    | some x => exact ⟨x, rfl⟩
  simp only [hi, Option.map_some, Option.some.injEq, Prod.mk.injEq] at hi0 hz0
  obtain ⟨his, hib⟩ := hi0
  have hsmall : n + m ≤ 9223372036854775807 := by simp only [maxLen] at h63; omega
  have hw : IntKind.i64.wrap (m : Int) = (m : Int) := wrap_i64 (by omega) (by omega)
  have hlen : (xs ++ List.replicate m z).length = (n + m) * 1 := by rw [List.length_append, hown.1]; simp
  have hmb : ¬ ((m : Int) * (i.bytes : Int) > 281474976710656) := by
    rw [hib]
    have : m * bytes ≤ (n + m) * bytes := Nat.mul_le_mul_right _ (by omega)
    have h2 : ((m * bytes : Nat) : Int) = (m : Int) * (bytes : Int) := by simp
    omega
  have hneg : ¬ ((m : Int) < 0) := by omega
  rcases hown.2 with ⟨rfl, rfl⟩ | ⟨g, cap, cur, rfl, hg, hnc, hcm, hcs, htake⟩
  · omega
  · have hap : ∀ w', (if m * i.size = 0 then Sem.pure #[] else do pure (Builtin.zeroCells (← zeroValue e).cells m) : Sem (Array Value)).run P w' = .ok (List.replicate m z).toArray w' := by
      intro w'
      by_cases hm : m = 0
      · subst hm; simp
      · have : ¬ (m * i.size = 0) := by rw [his]; omega
        simp [this, zeroValue, typeInfo, hi, hz0, hz1, zeroCells_one]
    by_cases hroom : n + m ≤ cap
    · have hfit : n * i.size + (List.replicate m z).length ≤ cur.size := by rw [his]; simp; omega
      have hst := run_storeCells_at P g (n * i.size) e (List.replicate m z) 0 cur w hg (by simpa using hfit) (by intro u hu; rw [List.mem_replicate] at hu; rw [hu.2]; exact ho)
      simp only [Nat.add_zero] at hst
      have hr : (Builtin.append_ #[t, tx] ty #[.slice (some ⟨g, 0, none⟩) n cap, .int k' m]).run P w = .ok (.slice (some ⟨g, 0, none⟩) (n + m) cap) (w.setRow g (cur.toList.take (n * i.size) ++ List.replicate m z ++ cur.toList.drop (n * i.size + (List.replicate m z).length)).toArray) := by
        by_cases hm : m = 0
        · subst hm
          simp [Builtin.append_, run_underlying ht, run_underlying htx, sizeOf, typeInfo, hi, asInt, asIntOf, hnc, storeCells, show IntKind.i64.wrap 0 = 0 by decide] at hst ⊢
          exact hst
        · have hms : ¬ (m * i.size = 0) := by rw [his]; omega
          simp only [List.length_replicate] at hst ⊢
          simp [Builtin.append_, run_underlying ht, run_underlying htx, sizeOf, typeInfo, hi, asInt, asIntOf, hw, hneg, hmb, hroom, hms, zeroValue, hz0, hz1, zeroCells_one, Addr.add_lit, hst]
      refine ⟨_, _, hr, ⟨hlen, .inr ⟨g, cap, _, rfl, setRow_heap w g cur _ e _ hg, hroom, hcm, ?_, ?_⟩⟩, ⟨rfl, rfl, rfl, by simp, fun k _ hk => setRow_other w g k _ (fun e => hk (by simp [Value.ownBlock, e]))⟩, fun g' hg' => .inl (by simpa [Value.ownBlock] using hg')⟩
      · simp only [List.size_toArray, List.length_append, List.length_take, List.length_drop, Array.length_toList]
        have := hfit
        omega
      · rw [his, htake, ← hlen]
        exact List.take_left
    · have hge := grownCap_ge w (n + m) cap e
      have hcm2 : grownCap w (n + m) cap e ≤ maxLen := grownCap_le_maxLen w (n + m) cap e h63
      have hnr : ¬ (n + m ≤ cap) := hroom
      have h63' : ¬ (9223372036854775807 < ((n : Int) + (m : Int))) := by omega
      have hfits := growslice_fits (bytes := i.bytes) (by omega : cap < n + m) (by rw [hib]; exact hb)
      have h48' : ¬ (281474976710656 < Builtin.nextslicecap (n + m) cap * i.bytes) := by omega
      have holds : ∀ j u, xs[j]? = some u → w.drew.cell? ((⟨g, 0, none⟩ : Addr).add j) = some u := by
        intro j u hj
        rw [add_at, ← htake, List.getElem?_take] at *
        split at hj
        · exact cell_of hg (by simpa using hj)
        · cases hj
      have hfo := run_firstCells_some (P := P) w.drew i.size n ⟨g, 0, none⟩ n cap xs (by rw [his]; exact hown.1) holds
      have hm : m ≠ 0 := by omega
      have hms : ¬ (m * i.size = 0) := by rw [his]; omega
      have hr : (Builtin.append_ #[t, tx] ty #[.slice (some ⟨g, 0, none⟩) n cap, .int k' m]).run P w =
          .ok (.slice (some ⟨w.heap.size, 0, none⟩) (n + m) (grownCap w (n + m) cap e)) (w.drew.alloc (.cells (xs.toArray ++ (List.replicate m z).toArray ++ Builtin.zeroCells z.cells (grownCap w (n + m) cap e - (n + m))) e)) := by
        simp [Builtin.append_, run_underlying ht, run_underlying htx, sizeOf, typeInfo, hi, asInt, asIntOf, hw, hneg, hmb, hnr, hms, zeroValue, hz0, hz1, zeroCells_one, h63', h48', Question.forced, hfo, newRow, grownCap]
        try congr 2
        try (apply Array.ext'; simp)
      refine ⟨_, _, hr, ⟨hlen, .inr ⟨w.heap.size, _, _, rfl, heap_alloc_new w.drew _, hge, hcm2, ?_, ?_⟩⟩, ⟨rfl, rfl, rfl, by simp, fun k hk _ => Below.heap_alloc w.drew _ k hk⟩, fun g hg => .inr (by simp [Value.ownBlock] at hg; omega)⟩
      · simp only [Array.size_append, List.size_toArray, size_zeroCells, hz1, hown.1, List.length_replicate]
        simp; omega
      · simp only [Array.toList_append, List.append_assoc]
        rw [← List.append_assoc, ← hlen]
        exact List.take_left

section
variable {P : Program} {n : Nat} {ops : Array Oper} {Q : Post} {rest : List Oper} {σ : Env} {w w0 : World} {X Y : Nat → Prop} {L L' : List Chunk}
variable {d : Nat} {ty : TypeId} {pos : String} {after : Array Edge} {x y : Operand}
/-- append(v, make([]T, m)...), v the call's own. -/
theorem ZL.appendZ {t tx e j bytes : Nat} {k k' : IntKind} {a : Int} {v z : Value} {xs : List Value} {F : Chunk → List Chunk} (m : Nat) [TU P t (.slice e)] [TU P tx (.int k)] [TE P e 1 bytes z] (hM : Mem w0 X L w) (hx : ev σ x = some v) (hy : ev σ y = some (.int k' a)) (ha : a = m)
    [i : OwnPut L v e 1 j xs F] (hn0 : 0 < j) (hz1 : z.cells = #[z]) (ho : z.oneCell' = true) (h63 : j + m ≤ maxLen) (hb : (j + m) * bytes ≤ 140737488355328) (hmm : m < 9223372036854775808) (hd : Nat.blt d n = true)
    (h : ∀ v' w', Mem w0 X (F (.own v' e 1 (j + m) (xs ++ List.replicate m z))) w' → ZL P n ops Q rest ((d, v') :: σ) w') :
    ZL P n ops Q (⟨some d, .call ⟨.builtin .append, #[x, y], #[t, tx]⟩, ty, pos, after, none⟩ :: rest) σ w := by
  subst ha
  obtain ⟨A, B, rfl, hF⟩ := i.h
  have hown : OwnR w e 1 v j xs := hM.ok (.own v e 1 j xs) (by simp)
  obtain ⟨v', w', hr, h2, h3, h4⟩ := run_appendZ (P := P) (t := t) (tx := tx) (ty := ty) (k' := k') hown hn0 hz1 ho h63 hb hmm
  refine ⟨fun a ha => ?_⟩
  refine wpList_plain rfl (fun K hK => ?_)
  unfold Oper.wp
  rw [exec_builtin (P := P) rfl (r := .ok (.value v') w') (fun cs => by simp [ha.ag _ _ hx, ha.ag _ _ hy, builtin, hr])]
  refine hK _ _ ((h v' w' ?_).h _ (ha.put hd))
  rw [hF]
  exact hM.turn (c' := .own v' e 1 (j + m) (xs ++ List.replicate m z)) h3 h2 h4
end

/-! ### Numbers cut to a width, whatever they are -/
def u8of (x : Int) : UInt8 := UInt8.ofNat (IntKind.u8.wrap x).toNat
def u32of (x : Int) : UInt32 := UInt32.ofNat (IntKind.u32.wrap x).toNat
def u64of (x : Int) : UInt64 := UInt64.ofNat (IntKind.u64.wrap x).toNat
theorem wrap_u8of (x : Int) : IntKind.u8.wrap x = ((u8of x).toNat : Int) := by
  have h : 0 ≤ IntKind.u8.wrap x ∧ IntKind.u8.wrap x < 256 := by simp [IntKind.wrap, IntKind.bits, IntKind.signed]; omega
  simp [u8of, UInt8.toNat_ofNat']; omega
theorem wrap_u32of (x : Int) : IntKind.u32.wrap x = ((u32of x).toNat : Int) := by
  have h : 0 ≤ IntKind.u32.wrap x ∧ IntKind.u32.wrap x < 4294967296 := by simp [IntKind.wrap, IntKind.bits, IntKind.signed]; omega
  simp [u32of, UInt32.toNat_ofNat']; omega
theorem wrap_u64of (x : Int) : IntKind.u64.wrap x = ((u64of x).toNat : Int) := by
  have h : 0 ≤ IntKind.u64.wrap x ∧ IntKind.u64.wrap x < 18446744073709551616 := by simp [IntKind.wrap, IntKind.bits, IntKind.signed]; omega
  simp [u64of, UInt64.toNat_ofNat']; omega
theorem iand_mask (x : Int) (m : Nat) (hm : m < 9223372036854775808) : ∃ q : Nat, q ≤ m ∧ iand .i64 x m = (q : Int) := by
  refine ⟨((BitVec.ofInt 64 x) &&& (BitVec.ofInt 64 (m : Int))).toNat, ?_, ?_⟩
  · rw [BitVec.toNat_and]
    refine Nat.le_trans Nat.and_le_right ?_
    simp [BitVec.toNat_ofInt]; omega
  · unfold iand
    have h1 : ((BitVec.ofInt 64 x) &&& (BitVec.ofInt 64 (m : Int))).toNat ≤ m := by
      rw [BitVec.toNat_and]
      refine Nat.le_trans Nat.and_le_right ?_
      simp [BitVec.toNat_ofInt]; omega
    show IntKind.i64.wrap (((BitVec.ofInt 64 x) &&& (BitVec.ofInt 64 (m : Int))).toNat : Int) = _
    rw [wrap_i64 (by omega) (by omega)]
section
variable {P : Program} {σ : Env} {w : World} {t t' : TypeId} {x y : Operand} {k : IntKind} {a : Int}
theorem r_toB {s d : TypeId} {ds : TypeDesc} [TU P s ds] [TU P d (.int .u8)] (hx : ev σ x = some (.int k a)) : V P σ (.convert s d x) (u8 (u8of a)) w := r_convInt hx (wrap_u8of a)
theorem r_toU {s d : TypeId} {ds : TypeDesc} [TU P s ds] [TU P d (.int .u32)] (hx : ev σ x = some (.int k a)) : V P σ (.convert s d x) (u32 (u32of a)) w := r_convInt hx (wrap_u32of a)
theorem r_toQ {s d : TypeId} {ds : TypeDesc} [TU P s ds] [TU P d (.int .u64)] (hx : ev σ x = some (.int k a)) : V P σ (.convert s d x) (u64 (u64of a)) w := r_convInt hx (wrap_u64of a)
end

section
variable {P : Program} {n : Nat} {ops : Array Oper} {Q : Post} {rest : List Oper} {σ : Env} {w w0 : World} {X : Nat → Prop} {L : List Chunk}
variable {d : Nat} {ty : TypeId} {pos : String} {after : Array Edge} {x y : Operand}
/-- A constant string's bytes: the row is marked. -/
theorem ZL.mark {t e m c : Nat} {g : Nat} {xs : List Value} [TU P t (.slice e)] [TU P e (.int .u8)] (hM : Mem w0 X (.own (.slice (some ⟨g, 0, none⟩) m c) e 1 m xs :: L) w) (hx : ev σ x = some (.slice (some ⟨g, 0, none⟩) m c)) (hd : Nat.blt d n = true)
    (h : ∀ cur fz w', m ≤ c → c ≤ cur.size → (∀ (i : Nat) u, xs[i]? = some u → cur[i]? = some u) → Mem w0 X (.blk g (.cells cur e fz) :: L) w' → ZL P n ops Q rest ((d, .slice (some ⟨g, 0, none⟩) m c) :: σ) w') :
    ZL P n ops Q (⟨some d, .convert t t x, ty, pos, after, none⟩ :: rest) σ w := by
  have hown := hM.own
  rcases hown.2 with ⟨hv, _⟩ | ⟨g', cap, cur, hv, hg, hnc, hcm, hcs, htake⟩
  · cases hv
  · simp only [Value.slice.injEq, Option.some.injEq, Addr.mk.injEq, and_true, true_and] at hv
    obtain ⟨rfl, rfl⟩ := hv
    have hlt := (Array.getElem?_eq_some_iff.1 hg).1
    have hgv : w.heap[g] = .cells cur e (0, 0) := (Array.getElem?_eq_some_iff.1 hg).2
    let w' : World := w.freeze ⟨g, cur.size, none⟩ 1
    have hh : w'.heap[g]? = some (.cells cur e (cur.size, cur.size + 1)) := by
      simp only [w', World.freeze]
      rw [if_neg (by decide)]
      simp only
      rw [Array.getElem?_eq_getElem (by simpa using hlt), Array.getElem_modify]
      simp [hgv]
    have hu : Upd w w' g (.cells cur e (cur.size, cur.size + 1)) := by
      refine ⟨?_, ?_, ?_, ?_, hh, fun k hk => ?_⟩
      · simp [w', World.freeze]
      · simp [w', World.freeze]
      · simp [w', World.freeze]
      · simp [w', World.freeze]
      · simp [w', World.freeze, Array.getElem?_modify, Ne.symm hk]
    have hv : VW P σ (.convert t t x) (.slice (some ⟨g, 0, none⟩) m c) w w' := by
      refine ⟨fun ρ ha o ho => ?_⟩
      simp [execOp, ho, ha _ _ hx, convert, run_under' (t := t), run_under' (t := e), markStringish, World.shape?, hg]
      rfl
    refine ZL.vw hv hd (h cur (cur.size, cur.size + 1) w' hnc (by omega) (fun i u hi => ?_) ?_)
    · rw [← htake, List.getElem?_take] at hi
      split at hi
      · simpa using hi
      · cases hi
    · refine hM.turn (A := []) (c' := .blk g _) (hu.extX.mono fun k hk => by subst hk; rfl) hu.at' (fun k hk => .inl ?_)
      simp only [Chunk.fp] at hk ⊢
      simpa [Value.ownBlock] using hk
end

theorem Script_ok (n : Int) (w : World) : Ret P 25 #[.int .i64 n] w (fun r w' => Ext w w' ∧ ∃ l, l.length ≤ 40 ∧ BytesR w' (· < w.heap.size) r l) := by
  obtain ⟨q, hq, hqe⟩ := iand_mask n 7 (by decide)
  obtain ⟨z, hz, hze⟩ := iand_mask (n / 2 ^ (min ((3 : Int).toNat) IntKind.i64.bits)) 31 (by decide)
  refine Ret.enter1 Tryd.func25 rfl Tryd.ntmps25 rfl ?_
  refine ZC.seq ?_; refine ZC.region ?_; refine ZL.val (r_assign rfl) rfl ?_; refine ZL.nil ?_; refine ZP.then ?_; refine ZC.seq ?_; refine ZC.seq ?_; refine ZC.region ?_; refine ZL.val (r_move rfl) rfl ?_
  refine ZL.val (r_and rfl rfl hqe) rfl ?_
  refine ZL.nil ?_; refine ZP.then ?_; refine ZC.block ?_; refine ZC.seq ?_; refine ZC.region ?_; refine ZL.val (r_eql rfl rfl) rfl ?_; refine ZL.val (r_assign rfl) rfl ?_; refine ZL.nil ?_; refine ZP.then ?_
  have fin : ∀ (bs : List UInt8) (k : Nat) (v : Value) (w' : World), Mem w No [.own v 5 1 (bs.length + k) (bs.map u8 ++ List.replicate k (u8 0))] w' → bs.length + k ≤ 40 → (Ext w w' ∧ ∃ l, l.length ≤ 40 ∧ BytesR w' (· < w.heap.size) v l) := by
    intro bs k v w' M h40
    refine ⟨M.ext, bs ++ List.replicate k 0, by simpa using h40, BytesO.r (Mem.new M (by simp) (by simp)).2⟩
  refine ZC.condD rfl (fun h0 => ?_) (fun h0 => ?_)
  · refine ZC.seq ?_; refine ZC.region ?_
    refine ZL.bslice (Mem.start w No) rfl rfl rfl (by simp [Value.cells, u8]) (by decide) rfl (fun g w1 M1 => ?_)
    refine ZL.mark M1 rfl rfl (fun cur fz w2 hc1 hc2 hr M2 => ?_)
    refine ZL.val (r_assign rfl) rfl ?_; refine ZL.nil ?_; refine ZP.then ?_; refine ZC.ret ?_; refine ZP.blockR ?_; refine ZP.thenR ?_
    refine ZP.ret1 rfl rfl ⟨M2.ext, [81, 2, 78, 115], by decide, ?_⟩
    have hg2 := (M2.mine _ (List.mem_cons_self ..) g rfl).resolve_left (fun h => h)
    refine ⟨rfl, .inr ⟨g, 0, 4, cur, 5, fz, rfl, fun hlt => ?_, M2.get inferInstance, hc1, by decide, fun i u hi => ?_⟩⟩
    · have : g < w.heap.size := hlt
      omega
    · rw [Nat.zero_add]; exact hr i u hi
  · refine ZC.seq ?_; refine ZC.seq ?_; refine ZC.region ?_; refine ZL.val (r_eql rfl rfl) rfl ?_; refine ZL.val (r_assign rfl) rfl ?_; refine ZL.nil ?_; refine ZP.then ?_
    refine ZC.condD rfl (fun h1 => ?_) (fun h1 => ?_)
    · refine ZC.skip ?_; refine ZP.then ?_
      refine ZC.condD rfl (fun _ => ?_) (fun hh => absurd (by omega) hh)
      refine ZC.seq ?_; refine ZC.region ?_
      refine ZL.bslice (Mem.start w No) rfl rfl rfl (by simp [Value.cells, u8]) (by decide) rfl (fun g w1 M1 => ?_)
      refine ZL.appendZ 20 M1 rfl rfl rfl (by decide) rfl rfl (by simp only [maxLen]; omega) (by omega) (by omega) rfl (fun v2 w2 M2 => ?_)
      refine ZL.val (r_assign rfl) rfl ?_; refine ZL.nil ?_; refine ZP.then ?_; refine ZC.ret ?_; refine ZP.blockR ?_; refine ZP.thenR ?_
      exact ZP.ret1 rfl rfl (fin [0, 20] 20 _ _ M2 (by decide))
    · refine ZC.region ?_; refine ZL.val (r_eql rfl rfl) rfl ?_; refine ZL.val (r_assign rfl) rfl ?_; refine ZL.nil ?_; refine ZP.then ?_
      refine ZC.condD rfl (fun h2 => ?_) (fun h2 => ?_)
      · refine ZC.seq ?_; refine ZC.region ?_
        refine ZL.bslice (Mem.start w No) rfl rfl rfl (by simp [Value.cells, u8]) (by decide) rfl (fun g w1 M1 => ?_)
        refine ZL.appendZ 20 M1 rfl rfl rfl (by decide) rfl rfl (by simp only [maxLen]; omega) (by omega) (by omega) rfl (fun v2 w2 M2 => ?_)
        refine ZL.val (r_assign rfl) rfl ?_; refine ZL.nil ?_; refine ZP.then ?_; refine ZC.ret ?_; refine ZP.blockR ?_; refine ZP.thenR ?_
        exact ZP.ret1 rfl rfl (fin [0, 20] 20 _ _ M2 (by decide))
      · refine ZC.seq ?_; refine ZC.region ?_; refine ZL.val (r_eql rfl rfl) rfl ?_; refine ZL.val (r_assign rfl) rfl ?_; refine ZL.nil ?_; refine ZP.then ?_
        refine ZC.condD rfl (fun h3 => ?_) (fun h3 => ?_)
        · refine ZC.seq ?_; refine ZC.region ?_
          refine ZL.bslice (Mem.start w No) rfl rfl rfl (by simp [Value.cells, u8]) (by decide) rfl (fun g w1 M1 => ?_)
          refine ZL.appendZ 32 M1 rfl rfl rfl (by decide) rfl rfl (by simp only [maxLen]; omega) (by omega) (by omega) rfl (fun v2 w2 M2 => ?_)
          refine ZL.val (r_assign rfl) rfl ?_; refine ZL.nil ?_; refine ZP.then ?_; refine ZC.ret ?_; refine ZP.blockR ?_; refine ZP.thenR ?_
          exact ZP.ret1 rfl rfl (fin [0, 32] 32 _ _ M2 (by decide))
        · refine ZC.seq ?_; refine ZC.seq ?_; refine ZC.region ?_; refine ZL.val (r_eql rfl rfl) rfl ?_; refine ZL.val (r_assign rfl) rfl ?_; refine ZL.nil ?_; refine ZP.then ?_
          refine ZC.condD rfl (fun h4 => ?_) (fun h4 => ?_)
          · refine ZC.skip ?_; refine ZP.then ?_
            refine ZC.condD rfl (fun _ => ?_) (fun hh => absurd (by omega) hh)
            refine ZC.seq ?_; refine ZC.region ?_; refine ZL.val (r_move rfl) rfl ?_
            refine ZL.val (r_shr rfl rfl (by decide) rfl) rfl ?_
            refine ZL.val (r_toB rfl) rfl ?_
            refine ZL.bslice (Mem.start w No) rfl rfl rfl (by simp [Value.cells, u8]) (by decide) rfl (fun g w1 M1 => ?_)
            refine ZL.appendZ 31 M1 rfl rfl rfl (by decide) rfl rfl (by simp only [maxLen]; omega) (by omega) (by omega) rfl (fun v2 w2 M2 => ?_)
            refine ZL.val (r_assign rfl) rfl ?_; refine ZL.nil ?_; refine ZP.then ?_; refine ZC.ret ?_; refine ZP.blockR ?_; refine ZP.thenR ?_
            exact ZP.ret1 rfl rfl (fin [81, 32, u8of (n / 2 ^ (min ((3 : Int).toNat) IntKind.i64.bits))] 31 _ _ M2 (by simp))
          · refine ZC.region ?_; refine ZL.val (r_eql rfl rfl) rfl ?_; refine ZL.val (r_assign rfl) rfl ?_; refine ZL.nil ?_; refine ZP.then ?_
            refine ZC.condD rfl (fun h5 => ?_) (fun h5 => ?_)
            · refine ZC.seq ?_; refine ZC.region ?_; refine ZL.val (r_move rfl) rfl ?_
              refine ZL.val (r_shr rfl rfl (by decide) rfl) rfl ?_
              refine ZL.val (r_toB rfl) rfl ?_
              refine ZL.bslice (Mem.start w No) rfl rfl rfl (by simp [Value.cells, u8]) (by decide) rfl (fun g w1 M1 => ?_)
              refine ZL.appendZ 31 M1 rfl rfl rfl (by decide) rfl rfl (by simp only [maxLen]; omega) (by omega) (by omega) rfl (fun v2 w2 M2 => ?_)
              refine ZL.val (r_assign rfl) rfl ?_; refine ZL.nil ?_; refine ZP.then ?_; refine ZC.ret ?_; refine ZP.blockR ?_; refine ZP.thenR ?_
              exact ZP.ret1 rfl rfl (fin [81, 32, u8of (n / 2 ^ (min ((3 : Int).toNat) IntKind.i64.bits))] 31 _ _ M2 (by simp))
            · refine ZC.seq ?_; refine ZC.region ?_; refine ZL.val (r_eql rfl rfl) rfl ?_; refine ZL.val (r_assign rfl) rfl ?_; refine ZL.nil ?_; refine ZP.then ?_
              refine ZC.condD rfl (fun h6 => ?_) (fun h6 => ?_)
              · refine ZC.seq ?_; refine ZC.region ?_
                refine ZL.bslice (Mem.start w No) rfl rfl rfl (by simp [Value.cells, u8]) (by decide) rfl (fun g w1 M1 => ?_)
                refine ZL.val (r_move rfl) rfl ?_
                refine ZL.val (r_shr rfl rfl (by decide) rfl) rfl ?_
                refine ZL.val (r_and rfl rfl hze) rfl ?_
                refine ZL.appendZ z M1 rfl rfl rfl (by decide) rfl rfl (by simp only [maxLen]; omega) (by omega) (by omega) rfl (fun v2 w2 M2 => ?_)
                refine ZL.val (r_assign rfl) rfl ?_; refine ZL.nil ?_; refine ZP.then ?_; refine ZC.ret ?_; refine ZP.blockR ?_; refine ZP.thenR ?_
                exact ZP.ret1 rfl rfl (fin [106] z _ _ M2 (by simp; omega))
              · refine ZC.skip ?_; refine ZP.blockN ?_; refine ZP.then ?_; refine ZC.seq ?_; refine ZC.region ?_; refine ZL.val (r_move rfl) rfl ?_
                refine ZL.val (r_shr rfl rfl (by decide) rfl) rfl ?_
                refine ZL.val (r_toB rfl) rfl ?_
                refine ZL.bslice (Mem.start w No) rfl rfl rfl (by simp [Value.cells, u8]) (by decide) rfl (fun g w1 M1 => ?_)
                refine ZL.val (r_assign rfl) rfl ?_; refine ZL.nil ?_; refine ZP.then ?_; refine ZC.ret ?_
                exact ZP.ret1 rfl rfl (fin [u8of (n / 2 ^ (min ((3 : Int).toNat) IntKind.i64.bits))] 0 _ _ M1 (by simp))
end Go.Proofs.YthcgmdmdgpljmaaDoor.Z
