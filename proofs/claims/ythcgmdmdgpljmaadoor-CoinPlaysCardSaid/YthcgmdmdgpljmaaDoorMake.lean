/- Make and Unmake. -/
import Derived.Test.YthcgmdmdgpljmaaDoorMade
set_option linter.unusedVariables false
set_option linter.unusedSimpArgs false
set_option linter.unusedSectionVars false
set_option maxRecDepth 100000
set_option maxHeartbeats 4000000
namespace Go.Proofs.YthcgmdmdgpljmaaDoor.Z
open Go Go.RowKit

theorem Mv.fp {w w' : World} {X Y : Nat → Prop} {L : List Chunk} (h : Mem w X L w') (hy : ∀ b, X b → Y b) : Mv w Y w' (fpIn L) :=
  ⟨fun b hb hx => h.ext.keep b hb (fun hh => hx (hy b hh)), fun b hb ⟨c, hc, hg⟩ => by
    rcases h.mine c hc b hg with h1 | h1
    · exact hy b h1
    · omega, h.ext.size⟩
theorem Mv.newer {w0 w w' : World} {X : Nat → Prop} {L : List Chunk} (h : Mem w0 X L w) (hs : w.heap.size ≤ w'.heap.size) : Mv w' (· < w.heap.size) w' (fpIn L) :=
  Mv.mono fun b _ ⟨c, hc, hg⟩ => Chunk.lt (h.ok c hc) b hg

theorem Mem.backX {w0 w w' : World} {X : Nat → Prop} {L : List Chunk} (h : Mem w0 X L w) (he : ExtX w (fpIn L) w') : ExtX w0 X w' :=
  h.ext.trans he (fun _ h => h) fun b hb ⟨c, hc, hg⟩ => by
    rcases h.mine c hc b hg with h | h
    · exact h
    · omega

def hasAny (m : CMap) (l : List Pt) : Bool := l.any fun p => (mget m p).isSome
def cnOf (t : TTx) (h tm : Int) (b : Bool) (i : Nat) : Cn := ⟨((t.outs.map TOut.value).getD i 0).toNat, h, tm, b⟩
def mkAll (m : CMap) (t : TTx) (h tm : Int) (b : Bool) : Nat → CMap
  | 0 => m
  | k + 1 => mput (mkAll m t h tm b k) ⟨t.id, UInt32.ofNat k⟩ (cnOf t h tm b k)
def delAll (m : CMap) (t : TTx) : Nat → CMap
  | 0 => m
  | k + 1 => mdel (delAll m t k) ⟨t.id, UInt32.ofNat k⟩
theorem ptsOf_get {id : B32} {n k : Nat} (hk : k < (ptsOf id n).length) : (ptsOf id n)[k] = ⟨id, UInt32.ofNat k⟩ := by simp [ptsOf]

def TTx.cs (t : TTx) (iv ov : Value) : Array Value := #[u32 t.version, iv, ov, u32 t.lock]
def smake (m : CMap) (t : TTx) (h tm : Int) (b : Bool) : CMap := if hasAny m (ptsOf t.id t.outs.length) then m else mkAll m t h tm b t.outs.length
def hasAll (m : CMap) (l : List Pt) : Bool := l.all fun p => (mget m p).isSome
def sunmake (m : CMap) (t : TTx) : CMap := if hasAll m (ptsOf t.id t.outs.length) then delAll m t t.outs.length else m

instance : TB P 44 [(0, 1), (1, 1), (2, 1), (3, 1)] := ⟨by kernel_rfl⟩
theorem GW.extX {w w' : World} {b : Nat} {es : Array MapEntry} {clk : Nat} (h : GW w) (hm : w.heap[b]? = some (.map es clk)) (he : ExtX w (· = b) w') : GW w' := by
  obtain ⟨⟨e, fz, h1⟩, ⟨e', fz', h2⟩⟩ := h
  exact ⟨⟨e, fz, he.at h1 (fun hh => by subst hh; rw [hm] at h1; cases h1)⟩, ⟨e', fz', he.at h2 (fun hh => by subst hh; rw [hm] at h2; cases h2)⟩⟩
theorem SetU.gw {w w' : World} {bs bm : Nat} {m m' : CMap} (h : SetU w w' bs bm m') (h0 : SetR w bs bm m) (hG : GW w) : GW w' := by
  obtain ⟨es, clk, hm, _⟩ := h0.m
  exact hG.extX hm h.ext

theorem Make_ok (bs bm : Nat) (m : CMap) (v : Value) (t : TTx) (ht tm : Int) (b : Bool) (w : World) (Y : Nat → Prop) (hG : GW w) (h : SetR w bs bm m) (hT : TxR w Y v t) (hY : Y bm) (hn : t.outs.length ≤ 10000) :
    Ret P 10 #[.pointer (some ⟨bs, 0, none⟩), v, .int .i64 ht, .int .i64 tm, .bool b] w (fun r w' => SetU w w' bs bm (smake m t ht tm b) ∧ r = .bool (!hasAny m (ptsOf t.id t.outs.length))) := by
  have h' := h
  obtain ⟨hs, es, clk, hm, hO⟩ := h'
  have hne := h.ne
  obtain ⟨r, rfl, iv, ov, rfl, hI, hOut⟩ := hT
  have hT : TxR w Y (.agg #[u32 t.version, iv, ov, u32 t.lock]) t := ⟨_, rfl, iv, ov, rfl, hI, hOut⟩
  obtain ⟨po, co, rfl⟩ := hOut.shape
  refine Ret.enter5 Tryd.func10 rfl Tryd.ntmps10 rfl ?_
  refine ZC.seq ?_; refine ZC.region ?_
  refine ZL.box (Mem.startB hm) rfl rfl rfl (fun b6 w1 M1 => ?_)
  refine ZL.val (r_assign rfl) rfl ?_; refine ZL.nil ?_; refine ZP.then ?_; refine ZC.seq ?_; refine ZC.region ?_
  refine ZL.val (r_ldW M1 rfl rfl) rfl ?_
  refine ZL.call (r_call rfl) rfl (made_ok _ t w1 Y (hG.extX hm M1.ext) (hT.mv (Mv.extX M1.ext (fun b _ hb => hb ▸ hY))) hn) (fun v2 w2 ⟨E2, hP⟩ => ?_)
  have M2 := M1.ext' E2
  have hP2 := hP.mv (Mv.newer M1 E2.size)
  have hT2 := hT.mv (Mv.fp M2 (fun b hb => hb ▸ hY))
  have R2 := M2.rebase
  have hbs2 := M2.ext.at hs hne
  have hbsX : ¬ fpIn [.blk b6 (.cells #[u32 t.version, iv, .slice po t.outs.length co, u32 t.lock] 30), .blk bm (.map es clk)] bs := by
    rintro ⟨c, hc, hg⟩
    simp only [List.mem_cons, List.not_mem_nil, or_false] at hc
    rcases hc with rfl | rfl
    · have := M2.get (b := b6) inferInstance
      simp only [Chunk.fp, Option.some.injEq] at hg
      subst hg
      rw [this] at hbs2
      cases hbs2
    · simp only [Chunk.fp, Option.some.injEq] at hg
      exact hne hg.symm
  have hback := fun w' (he : ExtX w2 _ w') => M2.backX he
  generalize hX : fpIn [.blk b6 (.cells #[u32 t.version, iv, .slice po t.outs.length co, u32 t.lock] 30), .blk bm (.map es clk)] = X2 at R2 hP2 hT2 hbsX hback
  obtain ⟨pp, cp, rfl⟩ := hP2.shape
  have hpl := ptsOf_length t.id t.outs.length
  refine ZL.val (r_assign rfl) rfl ?_; refine ZL.nil ?_; refine ZP.then ?_; refine ZC.seq ?_; refine ZC.seq ?_; refine ZC.region ?_; refine ZL.val (r_move rfl) rfl ?_; refine ZL.val (r_lenSlice rfl) rfl ?_; refine ZL.val (r_move rfl) rfl ?_; refine ZL.nil ?_; refine ZP.then ?_; refine ZC.block ?_
  refine ZC.loop (X := Nat) (fun k => [(22, .int .i64 k), (21, .int .i64 ((ptsOf t.id t.outs.length).length : Int)), (20, .slice pp (ptsOf t.id t.outs.length).length cp), (11, .slice pp (ptsOf t.id t.outs.length).length cp), (6, .pointer (some ⟨b6, 0, none⟩)), (0, .pointer (some ⟨bs, 0, none⟩)), (2, .int .i64 ht), (3, .int .i64 tm), (4, .bool b)])
    (fun k w' => k ≤ t.outs.length ∧ (∀ i, i < k → mget m ⟨t.id, UInt32.ofNat i⟩ = none) ∧ Mem w2 X2 [.blk b6 (.cells #[u32 t.version, iv, .slice po t.outs.length co, u32 t.lock] 30), .blk bm (.map es clk)] w') (fun k => t.outs.length - k) 0 ⟨rfl, rfl, rfl, rfl, rfl, rfl, rfl, rfl, rfl, trivial⟩ ⟨by omega, (fun i hi => by omega), R2⟩ ?_
  rintro k w3 ⟨hk, hnone, M3⟩
  refine ZC.seq ?_; refine ZC.region ?_; refine ZL.val (r_lss rfl rfl) rfl ?_; refine ZL.nil ?_; refine ZP.then ?_; refine ZC.seq ?_
  refine ZC.condD rfl (fun hc => ?_) (fun hc => ?_)
  · have hk' : k < (ptsOf t.id t.outs.length).length := by omega
    have hP3 := hP2.mv (Mv.extX M3.ext (fun _ _ h => h))
    obtain ⟨g, o, cs, e, fz, r, rfl, hg, hgx, hrl, hre, hcell, hsz, hext⟩ := ListR.elem (by decide) hP3 hk'
    rw [ptsOf_get] at hre
    simp only [PtE] at hre
    subst hre
    refine ZC.skip ?_; refine ZP.then ?_; refine ZC.seq ?_; refine ZC.block ?_; refine ZC.seq ?_; refine ZC.region ?_
    refine ZL.val (r_idxS k rfl rfl rfl hk') rfl ?_
    refine ZL.val (r_loadN rfl hg hsz hext) rfl ?_
    refine ZL.alloc M3 rfl rfl (fun b13 w4 M4 => ?_)
    refine ZL.stW M4 rfl rfl (cs' := (Pt.mk t.id (UInt32.ofNat k)).cells.toArray) rfl (by simp) (Pt.size _) (Pt.one _) (fun w5 M5 => ?_)
    refine ZL.nil ?_; refine ZP.then ?_; refine ZC.seq ?_
    refine ZC.turning (MemS w2 X2 [.blk b13 (.cells (Pt.mk t.id (UInt32.ofNat k)).cells.toArray 41), .blk b6 (.cells #[u32 t.version, iv, .slice po t.outs.length co, u32 t.lock] 30), .blk bm (.map es clk)]) 11 rfl (by kernel_rfl) rfl rfl rfl (fun w6 E6 _ => ?_)
    have M6 := M5.ext' E6
    have S6 := MemS.of M6
    refine ZT.take 0 rfl rfl (fun w' hS' => by first | exact r_move rfl | exact r_assign rfl | exact r_fieldAddr rfl | exact r_add rfl rfl (wrap_i64 (by omega) (by omega)) | exact r_sub rfl rfl (wrap_i64 (by omega) (by omega)) | exact r_mul rfl rfl (wrap_i64 (by omega) (by omega)) | exact r_convInt rfl (wrap_u64 (by omega) (by omega)) | exact r_convInt rfl (wrap_i64 (by omega) (by omega)) | exact r_convInt rfl (wrap_u32 (by omega) (by omega)) | exact r_sliceArr rfl | exact r_nilCheck rfl | exact r_extract rfl rfl | exact r_lenSlice rfl | exact r_and rfl rfl rfl | exact r_shr rfl rfl (by omega) rfl | exact r_toB rfl | exact r_toU rfl | exact r_toQ rfl) (by kernel_rfl) rfl (by kernel_rfl) (by kernel_rfl) rfl rfl (fun _ _ _ _ h => h) S6 ?_; refine ZT.take 1 rfl rfl (fun w' hS' => by first | exact r_move rfl | exact r_assign rfl | exact r_fieldAddr rfl | exact r_add rfl rfl (wrap_i64 (by omega) (by omega)) | exact r_sub rfl rfl (wrap_i64 (by omega) (by omega)) | exact r_mul rfl rfl (wrap_i64 (by omega) (by omega)) | exact r_convInt rfl (wrap_u64 (by omega) (by omega)) | exact r_convInt rfl (wrap_i64 (by omega) (by omega)) | exact r_convInt rfl (wrap_u32 (by omega) (by omega)) | exact r_sliceArr rfl | exact r_nilCheck rfl | exact r_extract rfl rfl | exact r_lenSlice rfl | exact r_and rfl rfl rfl | exact r_shr rfl rfl (by omega) rfl | exact r_toB rfl | exact r_toU rfl | exact r_toQ rfl) (by kernel_rfl) rfl (by kernel_rfl) (by kernel_rfl) rfl rfl (fun _ _ _ _ h => h) S6 ?_; refine ZT.take 2 rfl rfl (fun w' hS' => by first | exact r_move rfl | exact r_assign rfl | exact r_fieldAddr rfl | exact r_add rfl rfl (wrap_i64 (by omega) (by omega)) | exact r_sub rfl rfl (wrap_i64 (by omega) (by omega)) | exact r_mul rfl rfl (wrap_i64 (by omega) (by omega)) | exact r_convInt rfl (wrap_u64 (by omega) (by omega)) | exact r_convInt rfl (wrap_i64 (by omega) (by omega)) | exact r_convInt rfl (wrap_u32 (by omega) (by omega)) | exact r_sliceArr rfl | exact r_nilCheck rfl | exact r_extract rfl rfl | exact r_lenSlice rfl | exact r_and rfl rfl rfl | exact r_shr rfl rfl (by omega) rfl | exact r_toB rfl | exact r_toU rfl | exact r_toQ rfl) (by kernel_rfl) rfl (by kernel_rfl) (by kernel_rfl) rfl rfl (fun _ _ _ _ h => h) S6 ?_
    refine ZT.take 3 rfl rfl (fun w' hS' => r_load1 rfl (hS'.ext.at hbs2 hbsX) rfl) (by kernel_rfl) rfl (by kernel_rfl) (by kernel_rfl) rfl rfl (fun _ _ _ _ h => h) S6 ?_
    refine ZT.take 4 rfl rfl (fun w' hS' => r_loadW rfl (hS'.get inferInstance) (Pt.size _)) (by kernel_rfl) rfl (by kernel_rfl) (by kernel_rfl) rfl rfl (fun _ _ _ _ h => h) S6 ?_
    refine ZT.take 5 rfl rfl (fun w' hS' => r_lookup2 (k := (Pt.mk t.id (UInt32.ofNat k))) rfl rfl (hS'.get inferInstance) hO) (by kernel_rfl) rfl (by kernel_rfl) (by kernel_rfl) rfl rfl (fun _ _ _ _ h => h) S6 ?_
    refine ZT.take 6 rfl rfl (fun w' hS' => by first | exact r_move rfl | exact r_assign rfl | exact r_fieldAddr rfl | exact r_add rfl rfl (wrap_i64 (by omega) (by omega)) | exact r_sub rfl rfl (wrap_i64 (by omega) (by omega)) | exact r_mul rfl rfl (wrap_i64 (by omega) (by omega)) | exact r_convInt rfl (wrap_u64 (by omega) (by omega)) | exact r_convInt rfl (wrap_i64 (by omega) (by omega)) | exact r_convInt rfl (wrap_u32 (by omega) (by omega)) | exact r_sliceArr rfl | exact r_nilCheck rfl | exact r_extract rfl rfl | exact r_lenSlice rfl | exact r_and rfl rfl rfl | exact r_shr rfl rfl (by omega) rfl | exact r_toB rfl | exact r_toU rfl | exact r_toQ rfl) (by kernel_rfl) rfl (by kernel_rfl) (by kernel_rfl) rfl rfl (fun _ _ _ _ h => h) S6 ?_; refine ZT.take 7 rfl rfl (fun w' hS' => by first | exact r_move rfl | exact r_assign rfl | exact r_fieldAddr rfl | exact r_add rfl rfl (wrap_i64 (by omega) (by omega)) | exact r_sub rfl rfl (wrap_i64 (by omega) (by omega)) | exact r_mul rfl rfl (wrap_i64 (by omega) (by omega)) | exact r_convInt rfl (wrap_u64 (by omega) (by omega)) | exact r_convInt rfl (wrap_i64 (by omega) (by omega)) | exact r_convInt rfl (wrap_u32 (by omega) (by omega)) | exact r_sliceArr rfl | exact r_nilCheck rfl | exact r_extract rfl rfl | exact r_lenSlice rfl | exact r_and rfl rfl rfl | exact r_shr rfl rfl (by omega) rfl | exact r_toB rfl | exact r_toU rfl | exact r_toQ rfl) (by kernel_rfl) rfl (by kernel_rfl) (by kernel_rfl) rfl rfl (fun _ _ _ _ h => h) S6 ?_; refine ZT.take 8 rfl rfl (fun w' hS' => by first | exact r_move rfl | exact r_assign rfl | exact r_fieldAddr rfl | exact r_add rfl rfl (wrap_i64 (by omega) (by omega)) | exact r_sub rfl rfl (wrap_i64 (by omega) (by omega)) | exact r_mul rfl rfl (wrap_i64 (by omega) (by omega)) | exact r_convInt rfl (wrap_u64 (by omega) (by omega)) | exact r_convInt rfl (wrap_i64 (by omega) (by omega)) | exact r_convInt rfl (wrap_u32 (by omega) (by omega)) | exact r_sliceArr rfl | exact r_nilCheck rfl | exact r_extract rfl rfl | exact r_lenSlice rfl | exact r_and rfl rfl rfl | exact r_shr rfl rfl (by omega) rfl | exact r_toB rfl | exact r_toU rfl | exact r_toQ rfl) (by kernel_rfl) rfl (by kernel_rfl) (by kernel_rfl) rfl rfl (fun _ _ _ _ h => h) S6 ?_
    refine ZT.one 9 rfl (by kernel_rfl) rfl rfl rfl ?_
    refine ZL.alloc M6 rfl rfl (fun b14 w7 M7 => ?_)
    refine ZL.nil (ZP.turning ⟨[_], M7⟩ ?_)
    rw [mget_or]
    refine ZT.one 10 rfl (by kernel_rfl) rfl rfl rfl ?_
    refine ZL.stW M7 rfl rfl (cs' := ((mget m (Pt.mk t.id (UInt32.ofNat k))).getD Cn.zero).cells) rfl (by rfl) (by rfl) (by rfl) (fun w8 M8 => ?_)
    refine ZL.nil (ZP.turning ⟨[_], M8⟩ ?_)
    refine ZT.done rfl (by kernel_rfl) ?_
    refine ZL.val (r_assign rfl) rfl ?_; refine ZL.nil ?_; refine ZP.then ?_; refine ZC.seq ?_; refine ZC.region ?_; refine ZL.val (r_move rfl) rfl ?_; refine ZL.nil ?_; refine ZP.then ?_
    cases hkk : (mget m (Pt.mk t.id (UInt32.ofNat k))).isSome with
    | true =>
      refine ZC.cond rfl (fun _ => ?_) (fun hh => by cases hh)
      refine ZC.seq ?_; refine ZC.region ?_; refine ZL.val (r_assign rfl) rfl ?_; refine ZL.nil ?_; refine ZP.then ?_; refine ZC.ret ?_; refine ZP.blockR ?_; refine ZP.thenR ?_; refine ZP.thenR ?_; refine ZP.blockR ?_; refine ZP.thenR ?_
      have hany : hasAny m (ptsOf t.id t.outs.length) = true := by
        rw [hasAny, List.any_eq_true]
        exact ⟨(Pt.mk t.id (UInt32.ofNat k)), by rw [ptsOf, List.mem_map]; exact ⟨k, by simp; omega, rfl⟩, hkk⟩
      refine ZP.ret1 rfl rfl ⟨?_, by rw [hany]; rfl⟩
      rw [smake, if_pos hany]
      exact h.turned (hback _ M8.ext) (M8.get inferInstance) hO
    | false =>
      refine ZC.cond rfl (fun hh => by cases hh) (fun _ => ?_)
      refine ZC.skip ?_; refine ZP.blockN ?_; refine ZP.then ?_; refine ZC.region ?_; refine ZL.val (r_add rfl rfl (wrap_i64 (by omega) (by omega))) rfl ?_; refine ZL.val (r_move rfl) rfl ?_; refine ZL.nil ?_
      refine ZP.round (k + 1) ⟨rfl, rfl, rfl, rfl, rfl, rfl, rfl, rfl, rfl, trivial⟩ ⟨by omega, fun i hi => ?_, M8.sub [2, 3] rfl⟩ (by omega)
      rcases (by omega : i < k ∨ i = k) with hi | rfl
      · exact hnone i hi
      · simpa using hkk
  · have hk' : k = t.outs.length := by omega
    subst hk'
    have hany : hasAny m (ptsOf t.id t.outs.length) = false := by
      rw [hasAny, List.any_eq_false]
      intro p hp
      rw [ptsOf, List.mem_map] at hp
      obtain ⟨i, hi, rfl⟩ := hp
      rw [hnone i (by simpa using hi)]
      simp
    refine ZC.exit ?_; refine ZP.thenX ?_; refine ZP.thenX ?_; refine ZP.blockE ?_; refine ZP.then ?_; refine ZC.seq ?_; refine ZC.seq ?_; refine ZC.region ?_; refine ZL.val (r_move rfl) rfl ?_; refine ZL.val (r_lenSlice rfl) rfl ?_; refine ZL.val (r_move rfl) rfl ?_; refine ZL.nil ?_; refine ZP.then ?_; refine ZC.block ?_
    refine ZC.loop (X := Nat × Array MapEntry × Nat) (fun x => [(39, .int .i64 x.1), (38, .int .i64 ((ptsOf t.id t.outs.length).length : Int)), (37, .slice pp (ptsOf t.id t.outs.length).length cp), (11, .slice pp (ptsOf t.id t.outs.length).length cp), (6, .pointer (some ⟨b6, 0, none⟩)), (0, .pointer (some ⟨bs, 0, none⟩)), (2, .int .i64 ht), (3, .int .i64 tm), (4, .bool b)])
      (fun x w' => x.1 ≤ t.outs.length ∧ CObj (mkAll m t ht tm b x.1) x.2.1 x.2.2 ∧ Mem w2 X2 [.blk b6 (.cells #[u32 t.version, iv, .slice po t.outs.length co, u32 t.lock] 30), .blk bm (.map x.2.1 x.2.2)] w') (fun x => t.outs.length - x.1) (0, es, clk) ⟨rfl, rfl, rfl, rfl, rfl, rfl, rfl, rfl, rfl, trivial⟩ ⟨by omega, hO, M3⟩ ?_
    rintro ⟨k, es4, clk4⟩ w4 ⟨hk, hO4, M4⟩
    simp only at hk hO4 M4 ⊢
    refine ZC.seq ?_; refine ZC.region ?_; refine ZL.val (r_lss rfl rfl) rfl ?_; refine ZL.nil ?_; refine ZP.then ?_; refine ZC.seq ?_
    refine ZC.condD rfl (fun hd => ?_) (fun hd => ?_)
    · have hk' : k < (ptsOf t.id t.outs.length).length := by omega
      have hP4 := hP2.mv (Mv.extX M4.ext (fun _ _ h => h))
      obtain ⟨g, o, cs, e, fz, r, rfl, hg, hgx, hrl, hre, hcell, hsz, hext⟩ := ListR.elem (by decide) hP4 hk'
      rw [ptsOf_get] at hre
      simp only [PtE] at hre
      subst hre
      refine ZC.skip ?_; refine ZP.then ?_; refine ZC.seq ?_; refine ZC.block ?_; refine ZC.seq ?_; refine ZC.region ?_; refine ZL.val (r_move rfl) rfl ?_
      refine ZL.val (r_idxS k rfl rfl rfl hk') rfl ?_
      refine ZL.val (r_loadN rfl hg hsz hext) rfl ?_
      refine ZL.alloc M4 rfl rfl (fun b17 w5 M5 => ?_)
      refine ZL.val (r_assign rfl) rfl ?_
      refine ZL.stW M5 rfl rfl (cs' := (Pt.mk t.id (UInt32.ofNat k)).cells.toArray) rfl (by simp) (Pt.size _) (Pt.one _) (fun w6 M6 => ?_)
      refine ZL.nil ?_; refine ZP.then ?_
      refine ZC.tail 15 (by kernel_rfl) rfl rfl (fun w7 E7 _ => ?_)
      have M7 := M6.ext' E7
      have hT7 := hT2.mv (Mv.extX M7.ext (fun _ _ h => h))
      obtain ⟨rr, hr1, iv7, ov7, hr2, hI7, hO7⟩ := hT7
      subst hr2
      simp only [Value.agg.injEq, Array.mk.injEq, List.cons.injEq, and_true, true_and] at hr1
      obtain ⟨rfl, rfl⟩ := hr1
      obtain ⟨go, oo, cso, eo, fzo, ro, rfl, hgo, _, _, hreo, hcello, _, _⟩ := ListR.elem (by decide) hO7 (i := k) (by omega)
      obtain ⟨svo, rfl, _⟩ := hreo
      refine ZS.val (r_move rfl) rfl ?_; refine ZS.val (r_nilCheck rfl) rfl ?_; refine ZS.val (r_fieldAddr rfl) rfl ?_
      refine ZS.val (r_load1 rfl (M7.ext.at hbs2 hbsX) rfl) rfl ?_
      refine ZS.val (r_ldW M7 rfl (Pt.size _)) rfl ?_
      refine ZS.val (r_fieldAddr rfl) rfl ?_
      refine ZS.val (r_ld M7 rfl (by rfl)) rfl ?_
      refine ZS.val (r_move rfl) rfl ?_
      refine ZS.val (r_idxS k rfl rfl rfl (by omega)) rfl ?_
      refine ZS.val (r_fieldAddr rfl) rfl ?_
      refine ZS.val (r_load1 rfl hgo (hcello 0 _ rfl)) rfl ?_
      refine ZS.val (r_move rfl) rfl ?_; refine ZS.val (r_move rfl) rfl ?_; refine ZS.val (r_move rfl) rfl ?_
      refine ZS.val (r_buildOne rfl rfl (cs := [u64 (t.outs[k]'(by omega)).value, .int .i64 ht, .int .i64 tm, .bool b]) rfl) rfl ?_
      have hcn : Value.agg [u64 (t.outs[k]'(by omega)).value, .int .i64 ht, .int .i64 tm, .bool b].toArray = (cnOf t ht tm b k).v := by
        simp [cnOf, Cn.v, Cn.cells, u64, List.getD, List.getElem?_eq_getElem (show k < t.outs.length by omega)]
      rw [hcn]
      refine ZS.tail ?_
      refine ZL.mput (k := (Pt.mk t.id (UInt32.ofNat k))) (v := cnOf t ht tm b k) M7 rfl rfl rfl hO4 (fun es8 clk8 w8 hO8 M8 => ?_)
      refine ZL.nil ?_; refine ZP.blockN ?_; refine ZP.then ?_; refine ZC.region ?_; refine ZL.val (r_add rfl rfl (wrap_i64 (by omega) (by omega))) rfl ?_; refine ZL.val (r_move rfl) rfl ?_; refine ZL.nil ?_
      exact ZP.round (k + 1, es8, clk8) ⟨rfl, rfl, rfl, rfl, rfl, rfl, rfl, rfl, rfl, trivial⟩ ⟨by simp only; omega, hO8, M8.sub [1, 2] rfl⟩ (by simp only; omega)
    · have hk' : k = t.outs.length := by omega
      subst hk'
      refine ZC.exit ?_; refine ZP.thenX ?_; refine ZP.thenX ?_; refine ZP.blockE ?_; refine ZP.then ?_; refine ZC.seq ?_; refine ZC.region ?_; refine ZL.val (r_assign rfl) rfl ?_; refine ZL.nil ?_; refine ZP.then ?_; refine ZC.ret ?_
      refine ZP.ret1 rfl rfl ⟨?_, by rw [hany]; rfl⟩
      rw [smake, if_neg (by rw [hany]; decide)]
      exact h.turned (hback _ M4.ext) (M4.get inferInstance) hO4
end Go.Proofs.YthcgmdmdgpljmaaDoor.Z
