/- Words of 32 bits: the operations on them, and the turn. -/
import Derived.Test.YthcgmdmdgpljmaaDoorBase2
set_option linter.unusedVariables false
set_option linter.unusedSimpArgs false
set_option linter.unusedSectionVars false
set_option maxRecDepth 100000
set_option maxHeartbeats 4000000
namespace Go.Proofs.YthcgmdmdgpljmaaDoor.Z
open Go Go.RowKit

section
theorem bv_u32 (a : UInt32) : BitVec.ofInt IntKind.u32.bits (a.toNat : Int) = a.toBitVec := by
  apply BitVec.eq_of_toNat_eq
  simp [IntKind.bits, BitVec.toNat_ofInt]
theorem wrap_u32_lt (a : UInt32) : IntKind.u32.wrap (a.toNat : Int) = (a.toNat : Int) := wrap_u32 (by omega) (by have := a.toNat_lt; omega)
theorem iand_u32 (a b : UInt32) : iand .u32 a.toNat b.toNat = ((a &&& b).toNat : Int) := by
  unfold iand; rw [bv_u32, bv_u32]; exact wrap_u32_lt (a &&& b)
theorem ior_u32 (a b : UInt32) : ior .u32 a.toNat b.toNat = ((a ||| b).toNat : Int) := by
  unfold ior; rw [bv_u32, bv_u32]; exact wrap_u32_lt (a ||| b)
theorem ixor_u32 (a b : UInt32) : ixor .u32 a.toNat b.toNat = ((a ^^^ b).toNat : Int) := by
  unfold ixor; rw [bv_u32, bv_u32]; exact wrap_u32_lt (a ^^^ b)
theorem icompl_u32 (a : UInt32) : ixor .u32 (if IntKind.u32.signed then -1 else IntKind.u32.max) a.toNat = ((~~~a).toNat : Int) := by
  have : (if IntKind.u32.signed then -1 else IntKind.u32.max : Int) = ((4294967295 : UInt32).toNat : Int) := by decide
  rw [this, ixor_u32]
  congr 2
theorem add_u32 (a b : UInt32) : IntKind.u32.wrap ((a.toNat : Int) + b.toNat) = ((a + b).toNat : Int) := by
  rw [UInt32.toNat_add, ← Int.natCast_add, wrap_u32_nat]
theorem shl_u32 (a : UInt32) (s : Nat) (hs : s < 32) : IntKind.u32.wrap ((a.toNat : Int) * 2 ^ (min ((s : Int).toNat) IntKind.u32.bits)) = ((a <<< UInt32.ofNat s).toNat : Int) := by
  have h1 : min ((s : Int).toNat) IntKind.u32.bits = s := by simp [IntKind.bits]; omega
  rw [h1, UInt32.toNat_shiftLeft]
  have h2 : (UInt32.ofNat s).toNat % 32 = s := by simp; omega
  rw [h2, Nat.shiftLeft_eq]
  have h3 : ((a.toNat : Int) * 2 ^ s) = ((a.toNat * 2 ^ s : Nat) : Int) := by simp
  rw [h3, wrap_u32_nat]
theorem shr_u32 (a : UInt32) (s : Nat) (hs : s < 32) : ((a.toNat : Int) / 2 ^ (min ((s : Int).toNat) IntKind.u32.bits)) = ((a >>> UInt32.ofNat s).toNat : Int) := by
  rw [shr_nat _ _ _ (by simp [IntKind.bits]; omega), UInt32.toNat_shiftRight]
  have h2 : (UInt32.ofNat s).toNat % 32 = s := by simp; omega
  rw [h2, Nat.shiftRight_eq_div_pow]
theorem conv_u8_u32 (a : UInt8) : IntKind.u32.wrap (a.toNat : Int) = (a.toUInt32.toNat : Int) := by
  rw [wrap_u32 (by omega) (by have := a.toNat_lt; omega)]; simp
theorem conv_u32_u8 (a : UInt32) : IntKind.u8.wrap (a.toNat : Int) = (a.toUInt8.toNat : Int) := by
  rw [wrap_u8_nat]; simp

variable {P : Program} {σ : Env} {w : World} {t t' : TypeId} {x y : Operand} {a b : UInt32} {k : IntKind}
theorem r_addU (hx : ev σ x = some (u32 a)) (hy : ev σ y = some (u32 b)) : V P σ (.binOp .add t x y t') (u32 (a + b)) w := r_add hx hy (add_u32 a b)
theorem r_andU (hx : ev σ x = some (u32 a)) (hy : ev σ y = some (u32 b)) : V P σ (.binOp .and t x y t') (u32 (a &&& b)) w := r_and hx hy (iand_u32 a b)
theorem r_orU (hx : ev σ x = some (u32 a)) (hy : ev σ y = some (u32 b)) : V P σ (.binOp .or t x y t') (u32 (a ||| b)) w := r_or hx hy (ior_u32 a b)
theorem r_xorU (hx : ev σ x = some (u32 a)) (hy : ev σ y = some (u32 b)) : V P σ (.binOp .xor t x y t') (u32 (a ^^^ b)) w := r_xor hx hy (ixor_u32 a b)
theorem r_complU (hx : ev σ x = some (u32 a)) : V P σ (.unOp .xor t x) (u32 (~~~a)) w := r_compl hx (icompl_u32 a)
theorem r_shlU (s : Nat) (hx : ev σ x = some (u32 a)) (hy : ev σ y = some (.int k (s : Int))) (hs : s < 32) : V P σ (.binOp .shl t x y t') (u32 (a <<< UInt32.ofNat s)) w := r_shl hx hy (by omega) (shl_u32 a s hs)
theorem r_shrU (s : Nat) (hx : ev σ x = some (u32 a)) (hy : ev σ y = some (.int k (s : Int))) (hs : s < 32) : V P σ (.binOp .shr t x y t') (u32 (a >>> UInt32.ofNat s)) w := r_shr hx hy (by omega) (shr_u32 a s hs)
theorem r_convU {s d : TypeId} {ds : TypeDesc} {c : UInt8} [TU P s ds] [TU P d (.int .u32)] (hx : ev σ x = some (u8 c)) : V P σ (.convert s d x) (u32 c.toUInt32) w := r_convInt hx (conv_u8_u32 c)
theorem r_convB {s d : TypeId} {ds : TypeDesc} [TU P s ds] [TU P d (.int .u8)] (hx : ev σ x = some (u32 a)) : V P σ (.convert s d x) (u8 a.toUInt8) w := r_convInt hx (conv_u32_u8 a)
end

/-- A word turned right. -/
def rotr (x : UInt32) (n : Nat) : UInt32 := (x <<< UInt32.ofNat (32 - n)) ||| (x >>> UInt32.ofNat n)

theorem iand_31 (n : Nat) (h1 : 1 ≤ n) (h2 : n ≤ 31) : iand .u64 (IntKind.u64.wrap (-(n : Int))) 31 = ((32 - n : Nat) : Int) := by
  have : ∀ m : Nat, m < 31 → iand .u64 (IntKind.u64.wrap (-((m + 1 : Nat) : Int))) 31 = ((32 - (m + 1) : Nat) : Int) := by decide
  have := this (n - 1) (by omega)
  rwa [show n - 1 + 1 = n by omega] at this

theorem rotl_ok (x : UInt32) (n : Nat) (w : World) (h1 : 1 ≤ n) (h2 : n ≤ 31) :
    Ret P 90 #[u32 x, .int .i64 (-(n : Int))] w (fun r w' => w = w' ∧ r = u32 (rotr x n)) := by
  refine Ret.enter2 Tryd.func90 rfl Tryd.ntmps90 rfl ?_
  refine ZC.seq ?_; refine ZC.region ?_; refine ZL.val (r_assign rfl) rfl ?_; refine ZL.nil ?_; refine ZP.then ?_; refine ZC.seq ?_; refine ZC.region ?_; refine ZL.val (r_move rfl) rfl ?_
  refine ZL.val (r_convInt rfl rfl) rfl ?_
  refine ZL.val (r_and rfl rfl (iand_31 n h1 h2)) rfl ?_
  refine ZL.val (r_assign rfl) rfl ?_; refine ZL.nil ?_; refine ZP.then ?_; refine ZC.seq ?_; refine ZC.region ?_; refine ZL.val (r_move rfl) rfl ?_; refine ZL.val (r_move rfl) rfl ?_
  refine ZL.val (r_shlU (32 - n) rfl rfl (by omega)) rfl ?_
  refine ZL.val (r_move rfl) rfl ?_; refine ZL.val (r_move rfl) rfl ?_
  refine ZL.val (r_sub rfl rfl (r := (n : Int)) (by rw [wrap_u64 (by omega) (by omega)]; omega)) rfl ?_
  refine ZL.val (r_shrU n rfl rfl (by omega)) rfl ?_
  refine ZL.val (r_orU rfl rfl) rfl ?_
  refine ZL.val (r_assign rfl) rfl ?_; refine ZL.nil ?_; refine ZP.then ?_; refine ZC.ret ?_
  exact ZP.ret1 rfl rfl ⟨rfl, rfl⟩

theorem turned_ok (x : UInt32) (n : Nat) (w : World) (h1 : 1 ≤ n) (h2 : n ≤ 31) :
    Ret P 88 #[u32 x, .int .i64 n] w (fun r w' => w = w' ∧ r = u32 (rotr x n)) := by
  refine Ret.enter2 Tryd.func88 rfl Tryd.ntmps88 rfl ?_
  refine ZC.seq ?_; refine ZC.region ?_; refine ZL.val (r_assign rfl) rfl ?_; refine ZL.nil ?_; refine ZP.then ?_; refine ZC.seq ?_; refine ZC.region ?_; refine ZL.val (r_move rfl) rfl ?_; refine ZL.val (r_move rfl) rfl ?_
  refine ZL.val (r_neg rfl (r := -(n : Int)) (by rw [wrap_i64 (by omega) (by omega)]; omega)) rfl ?_
  refine ZL.call (r_call rfl) rfl (rotl_ok x n w h1 h2) (fun v1 w1 hv => ?_)
  obtain ⟨rfl, rfl⟩ := hv
  refine ZL.val (r_assign rfl) rfl ?_; refine ZL.nil ?_; refine ZP.then ?_; refine ZC.ret ?_
  exact ZP.ret1 rfl rfl ⟨rfl, rfl⟩

theorem refturned_ok (x : UInt32) (n : Nat) (w : World) (h1 : 1 ≤ n) (h2 : n ≤ 31) :
    Ret P 53 #[u32 x, .int .u64 n] w (fun r w' => w = w' ∧ r = u32 (rotr x n)) := by
  refine Ret.enter2 Tryd.func53 rfl Tryd.ntmps53 rfl ?_
  refine ZC.seq ?_; refine ZC.region ?_; refine ZL.val (r_assign rfl) rfl ?_; refine ZL.nil ?_; refine ZP.then ?_; refine ZC.seq ?_; refine ZC.region ?_; refine ZL.val (r_move rfl) rfl ?_; refine ZL.val (r_move rfl) rfl ?_
  refine ZL.val (r_shrU n rfl rfl (by omega)) rfl ?_
  refine ZL.val (r_move rfl) rfl ?_; refine ZL.val (r_move rfl) rfl ?_
  refine ZL.val (r_sub rfl rfl (r := ((32 - n : Nat) : Int)) (by rw [wrap_u64 (by omega) (by omega)]; omega)) rfl ?_
  refine ZL.val (r_shlU (32 - n) rfl rfl (by omega)) rfl ?_
  refine ZL.val (r_orU rfl rfl) rfl ?_
  refine ZL.val (r_assign rfl) rfl ?_; refine ZL.nil ?_; refine ZP.then ?_; refine ZC.ret ?_
  refine ZP.ret1 rfl rfl ⟨rfl, ?_⟩
  rw [rotr, UInt32.or_comm]

/-! ### Rows of words -/
def wcells (n : Nat) (f : Nat → UInt32) : Array Value := ((List.range n).map fun i => u32 (f i)).toArray
theorem wcells_size (n : Nat) (f : Nat → UInt32) : (wcells n f).size = n := by simp [wcells]
theorem nthW {n o i : Nat} {f : Nat → UInt32} (h : o = i) (hi : i < n) : nth (wcells n f) o = some (u32 (f i)) := by
  subst h; rw [nth_eq]; simp [wcells, hi]
def upd (f : Nat → UInt32) (i : Nat) (v : UInt32) : Nat → UInt32 := fun j => if j = i then v else f j
theorem wcells_set {n o i : Nat} {f : Nat → UInt32} {v : UInt32} (h : o = i) : (wcells n f).setIfInBounds o (u32 v) = wcells n (upd f i v) := by
  subst h
  apply Array.ext'
  apply List.ext_getElem?
  intro j
  simp only [wcells, upd, Array.toList_setIfInBounds, List.getElem?_set, List.getElem?_map, List.getElem?_range, List.length_map, List.length_range]
  by_cases hj : j < n
  · by_cases h2 : o = j
    · subst h2; simp [hj]
    · simp [h2, hj, Ne.symm h2]
  · simp [hj]
    intro h; omega
theorem wcells_one (n : Nat) (f : Nat → UInt32) : (wcells n f).toList.all Value.oneCell' = true := by
  simp [wcells, u32, Value.oneCell']
theorem wcells_congr {n : Nat} {f g : Nat → UInt32} (h : ∀ i, i < n → f i = g i) : wcells n f = wcells n g := by
  simp only [wcells]
  congr 1
  refine List.map_congr_left fun i hi => ?_
  rw [h i (by simpa using hi)]
theorem wcells_zero (n : Nat) : (List.replicate n (Value.int .u32 0)).toArray = wcells n (fun _ => 0) := by
  simp [wcells, u32, List.map_const']

section
variable {P : Program} {n : Nat} {ops : Array Oper} {Q : Post} {rest : List Oper} {σ : Env} {w w0 : World} {X : Nat → Prop} {L L' : List Chunk}
theorem ZP.retC {fn : Func} {R : Value → World → Prop} {t ty b s by' : Nat} {cs : Array Value} {e : TypeId} {fz : Nat × Nat} [TA P ty] [TI P ty s by'] (hr : fn.results = #[.cell t ty]) (hv : lk σ t = some (.pointer (some ⟨b, 0, none⟩)))
    (hm : w.heap[b]? = some (.cells cs e fz)) (hn : cs.size = s) (hR : R (.agg cs) w) : ZP n (RetPost P fn R) .ret σ w := by
  refine ⟨fun a ha => ⟨ha.defers, .agg cs, ?_, hR⟩⟩
  have h1 := ha.at' t _ hv
  have hl := run_loadSeg (P := P) (w := w) (b' := b) (o' := 0) (n := s) hm (by omega)
  have he : cs.extract 0 (0 + s) = cs := by subst hn; simp
  rw [he] at hl
  simp [results, hr, h1, asAddr, loadVar, TA.h, run_sizeOf' (t := ty), hl]
/-- A word is stored into a row of words. -/
theorem ZL.stU {t b o m by' : Nat} {f : Nat → UInt32} {e : TypeId} {v : UInt32} {ty : TypeId} {pos : String} {after : Array Edge} {x y : Operand} (i : Nat) [TI P t 1 by'] (hM : Mem w0 X L w) (hx : ev σ x = some (.pointer (some ⟨b, o, none⟩))) (hy : ev σ y = some (u32 v))
    [ip : Put L b (.cells (wcells m f) e (0, 0)) (.cells (wcells m (upd f i v)) e (0, 0)) L'] (ho : o = i) (hi : i < m) (h : ∀ w', Mem w0 X L' w' → ZL P n ops Q rest σ w') : ZL P n ops Q (⟨none, .store t x y, ty, pos, after, none⟩ :: rest) σ w := by
  refine ZL.unit (uw_store1 hx hy (hM.putGet ip) (by rw [wcells_size]; omega) rfl) (h _ ?_)
  rw [wcells_set ho]
  exact hM.upd ip (Upd.setRow (hM.putGet ip))
end
end Go.Proofs.YthcgmdmdgpljmaaDoor.Z
