/- The points that a transaction makes; made and unmade. -/
import Derived.Test.YthcgmdmdgpljmaaDoorCoin
set_option linter.unusedVariables false
set_option linter.unusedSimpArgs false
set_option linter.unusedSectionVars false
set_option maxRecDepth 100000
set_option maxHeartbeats 4000000
namespace Go.Proofs.YthcgmdmdgpljmaaDoor.Z
open Go Go.RowKit

theorem fill_cons {place : Nat → Option (Nat × Nat)} {cs : Array Value} {v : Value} {i off size : Nat} {rest : List (Nat × Value)} (hp : place i = some (off, size)) (hs : v.cells.size = size) (hb : off + size ≤ cs.size) :
    Instr.fill place cs ((i, v) :: rest) = Instr.fill place (cs.toList.take off ++ v.cells.toList ++ cs.toList.drop (off + size)).toArray rest := by
  have hf := foldl_set v.cells.toList off 0 cs (by simp [hs]; omega)
  simp only [Instr.fill, hp]
  rw [if_neg (by simp [hs]; omega)]
  congr 1
  apply Array.ext'
  rw [← Array.foldl_toList, Array.toList_zipIdx, hf]
  simp [hs]

section
variable {P : Program} {σ : Env} {w : World}
theorem r_buildPt {t : TypeId} {x y : Operand} {id : B32} {vo : UInt32} {z : Value} {zs : Array Value} [TB P t [(0, 32), (32, 1)]] [TZ P t z] (hz : vcells z = some zs) (hzs : zs.size = 33) (hx : ev σ x = some id.v) {a : Int} (hy : ev σ y = some (.int .u32 a)) (hva : a = vo.toNat) :
    V P σ (.build t #[(0, x), (1, y)]) (Pt.mk id vo).v w := by
  refine ⟨fun ρ ha o ho => ?_⟩
  subst hva
  have hb : P.built t [(0, id.v), (1, u32 vo)] = some (Pt.mk id vo).cells.toArray := by
    have hi := TB.h (P := P) (t := t)
    have hzz := TZ.h (P := P) (t := t)
    unfold Program.built
    cases hit : P.info? t with
    | none => simp [hit] at hzz
    | some it =>
      cases hu : P.underlying t with
      | none => simp [hu] at hi
      | some d =>
        rw [hu] at hi
        cases d <;> simp only [reduceCtorEq] at hi
        simp only [hit, Option.map_some, Option.some.injEq] at hzz
        simp only [hzz, hi]
        rw [vcells_eq hz]
        have hc : (id.v).cells = id.cells.toArray := rfl
        rw [fill_cons (off := 0) (size := 32) rfl (by rw [hc]; exact B32.size id) (by omega), fill_cons (off := 32) (size := 1) rfl rfl (by simp [hc, B32.length, hzs])]
        simp only [Instr.fill, hc]
        congr 2
        have h1 : (id.cells ++ zs.toList.drop 32).take 32 = id.cells := by rw [← B32.length id, List.take_left]
        simp [Pt.cells, u32, Value.cells, h1, B32.length, hzs]
  have hr : (Instr.build t #[(0, ρ x), (1, ρ y)]).run P w = .ok (.agg (Pt.mk id vo).cells.toArray) w := run_build w t _ _ (by rw [ha _ _ hx, ha _ _ hy]; exact hb)
  simp [execOp, ho, hr, Pt.v]
end

def PtE (w : World) (X : Nat → Prop) (r : List Value) (p : Pt) : Prop := r = p.cells
abbrev PtsR (w : World) (X : Nat → Prop) (v : Value) (l : List Pt) : Prop := ListR PtE 33 w X v l
theorem PtsR.mv {w w' : World} {X X' : Nat → Prop} {v : Value} {l : List Pt} (h : PtsR w X v l) (m : Mv w X w' X') : PtsR w' X' v l := ListR.mv (w := w) (X := X) (fun _ _ h => h) h m
theorem PtsR.of {w : World} {X : Nat → Prop} {v : Value} {l : List Pt} (h : SlC w X 33 v l.length ((l.map Pt.cells).flatten)) : PtsR w X v l :=
  ⟨l.map Pt.cells, by simp, fun r hr => by obtain ⟨p, _, rfl⟩ := List.mem_map.1 hr; exact p.length, h, fun i r a hr ha => by simp [ha] at hr; exact hr.symm⟩
theorem pts_one (l : List Pt) : ∀ x ∈ (l.map Pt.cells).flatten, x.oneCell' = true := by
  intro x hx
  simp only [List.mem_flatten, List.mem_map] at hx
  obtain ⟨r, ⟨p, _, rfl⟩, hx⟩ := hx
  have := p.one
  rw [List.all_eq_true] at this
  exact this x (by simpa using hx)

/-- The points that a transaction makes. -/
def ptsOf (id : B32) (n : Nat) : List Pt := (List.range n).map fun i => ⟨id, UInt32.ofNat i⟩
theorem ptsOf_length (id : B32) (n : Nat) : (ptsOf id n).length = n := by simp [ptsOf]
theorem ptsOf_succ (id : B32) (n : Nat) : ptsOf id (n + 1) = ptsOf id n ++ [⟨id, UInt32.ofNat n⟩] := by simp [ptsOf, List.range_succ]

theorem made_ok (v : Value) (t : TTx) (w : World) (Y : Nat → Prop) (hG : GW w) (h : TxR w Y v t) (hn : t.outs.length ≤ 10000) :
    Ret P 29 #[v] w (fun r w' => Ext w w' ∧ PtsR w' (· < w.heap.size) r (ptsOf t.id t.outs.length)) := by
  obtain ⟨r, rfl, iv, ov, rfl, hI, hO⟩ := h
  have h : TxR w Y (.agg #[u32 t.version, iv, ov, u32 t.lock]) t := ⟨_, rfl, iv, ov, rfl, hI, hO⟩
  obtain ⟨po, co, rfl⟩ := hO.shape
  refine Ret.enter1 Tryd.func29 rfl Tryd.ntmps29 rfl ?_
  refine ZC.seq ?_; refine ZC.region ?_
  refine ZL.box (Mem.start w No) rfl rfl rfl (fun b1 w1 M1 => ?_)
  refine ZL.val (r_assign rfl) rfl ?_; refine ZL.nil ?_; refine ZP.then ?_; refine ZC.seq ?_; refine ZC.region ?_
  refine ZL.val (r_ldW M1 rfl rfl) rfl ?_
  refine ZL.call (r_call rfl) rfl (Txid_ok _ t w1 Y (hG.ext M1.ext) (h.mv (Mv.ext M1.ext))) (fun v2 w2 ⟨E2, hv⟩ => ?_)
  subst hv
  have M2 := M1.ext' E2
  refine ZL.alloc M2 rfl rfl (fun b3 w3 M3 => ?_)
  refine ZL.stW M3 rfl rfl (cs' := t.id.cells.toArray) rfl (by simp) (B32.size _) (B32.one _) (fun w4 M4 => ?_)
  refine ZL.nil ?_; refine ZP.then ?_; refine ZC.seq ?_; refine ZC.region ?_; refine ZL.val (r_assign rfl) rfl ?_; refine ZL.nil ?_; refine ZP.then ?_; refine ZC.seq ?_; refine ZC.seq ?_; refine ZC.region ?_; refine ZL.val (r_fieldAddr rfl) rfl ?_
  refine ZL.val (r_ld M4 rfl (by rfl)) rfl ?_
  refine ZL.val (r_lenSlice rfl) rfl ?_; refine ZL.val (r_move rfl) rfl ?_; refine ZL.nil ?_; refine ZP.then ?_; refine ZC.block ?_
  refine ZC.loop (X := Nat × Value) (fun x => [(11, .int .i64 x.1), (10, .int .i64 (t.outs.length : Int)), (4, x.2), (3, .pointer (some ⟨b3, 0, none⟩))])
    (fun x w' => x.1 ≤ t.outs.length ∧ Mem w No [.own x.2 41 33 x.1 ((ptsOf t.id x.1).map Pt.cells).flatten, .blk b3 (.cells t.id.cells.toArray 39), .blk b1 (.cells #[u32 t.version, iv, .slice po t.outs.length co, u32 t.lock] 30)] w') (fun x => t.outs.length - x.1) (0, .slice none 0 0) ⟨rfl, rfl, rfl, rfl, trivial⟩ ⟨by omega, M4.nilOwn _ _⟩ ?_
  rintro ⟨k, x⟩ w5 ⟨hk, M5⟩
  simp only at hk M5 ⊢
  refine ZC.seq ?_; refine ZC.region ?_; refine ZL.val (r_lss rfl rfl) rfl ?_; refine ZL.nil ?_; refine ZP.then ?_; refine ZC.seq ?_
  refine ZC.condD rfl (fun hc => ?_) (fun hc => ?_)
  · refine ZC.skip ?_; refine ZP.then ?_; refine ZC.seq ?_; refine ZC.block ?_; refine ZC.seq ?_; refine ZC.region ?_; refine ZL.val (r_move rfl) rfl ?_; refine ZL.val (r_assign rfl) rfl ?_; refine ZL.nil ?_; refine ZP.then ?_; refine ZC.region ?_; refine ZL.val (r_move rfl) rfl ?_
    refine ZL.val (r_ldW M5 rfl (B32.size _)) rfl ?_
    refine ZL.val (r_move rfl) rfl ?_; refine ZL.val (r_convInt rfl (wrap_u32 (by omega) (by omega))) rfl ?_
    refine ZL.val (r_buildPt rfl rfl (id := t.id) (vo := UInt32.ofNat k) rfl rfl (by simp; omega)) rfl ?_
    refine ZL.bslice M5 rfl rfl rfl (by simp [Value.cells, Pt.v, Pt.length]) (by decide) rfl (fun g w6 M6 => ?_)
    refine ZL.append M6 rfl rfl (M6.own.slc (X := No) (fun _ _ h => h)) (by have := pts_one [Pt.mk t.id (UInt32.ofNat k)]; simpa using this) (by simp only [maxLen]; omega) (by omega) rfl (fun v7 w7 M7 => ?_)
    refine ZL.val (r_assign rfl) rfl ?_; refine ZL.nil ?_; refine ZP.blockN ?_; refine ZP.then ?_; refine ZC.region ?_; refine ZL.val (r_add rfl rfl (wrap_i64 (by omega) (by omega))) rfl ?_; refine ZL.val (r_move rfl) rfl ?_; refine ZL.nil ?_
    refine ZP.round (k + 1, v7) ⟨rfl, rfl, rfl, rfl, trivial⟩ ⟨by simp only; omega, ?_⟩ (by simp only; omega)
    have M8 := M7.drop
    simpa [ptsOf_succ] using M8
  · have hk' : k = t.outs.length := by omega
    subst hk'
    refine ZC.exit ?_; refine ZP.thenX ?_; refine ZP.thenX ?_; refine ZP.blockE ?_; refine ZP.then ?_; refine ZC.seq ?_; refine ZC.region ?_; refine ZL.val (r_move rfl) rfl ?_; refine ZL.val (r_assign rfl) rfl ?_; refine ZL.nil ?_; refine ZP.then ?_; refine ZC.ret ?_
    refine ZP.ret1 rfl rfl ⟨M5.ext, PtsR.of ?_⟩
    have := (M5.sub [0] rfl).out.2.mv Mv.done
    rw [ptsOf_length]
    exact this
end Go.Proofs.YthcgmdmdgpljmaaDoor.Z
