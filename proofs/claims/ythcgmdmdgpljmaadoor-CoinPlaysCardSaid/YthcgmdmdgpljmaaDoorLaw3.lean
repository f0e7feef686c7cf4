/- The laws' transactions of two numbers. -/
import Derived.Test.YthcgmdmdgpljmaaDoorTail
set_option linter.unusedVariables false
set_option linter.unusedSimpArgs false
set_option linter.unusedSectionVars false
set_option maxRecDepth 100000
set_option maxHeartbeats 4000000
namespace Go.Proofs.YthcgmdmdgpljmaaDoor.Z
open Go Go.RowKit

instance : TB P 30 [(0, 1), (1, 1), (2, 1), (3, 1)] := ⟨by kernel_rfl⟩
instance : TB P 63 [(0, 32), (32, 1), (33, 1), (34, 1), (35, 1)] := ⟨by kernel_rfl⟩
instance : TB P 66 [(0, 1), (1, 1)] := ⟨by kernel_rfl⟩
instance : TB P 41 [(0, 32), (32, 1)] := ⟨by kernel_rfl⟩

/-- An input's cells, of which two bytes of its name may be other than none. -/
def inC (b c : UInt8) (vo : UInt32) (sv : Value) (sq : UInt32) (wv : Value) : Array Value := (u8 b :: (List.replicate 30 (u8 0) ++ [u8 c, u32 vo, sv, u32 sq, wv])).toArray
def prevOf (b c : UInt8) : B32 := ⟨b :: (List.replicate 30 0 ++ [c]), by simp⟩
theorem inC_eq (b c : UInt8) (vo : UInt32) (sv : Value) (sq : UInt32) (wv : Value) : (inC b c vo sv sq wv).toList = (prevOf b c).cells ++ [u32 vo, sv, u32 sq, wv] := by
  simp [inC, prevOf, B32.cells]

def InsF (w0 : World) (L : List Chunk) (w : World) (rows : List (List Value)) : Prop := ∀ r ∈ rows, r.length = 36 ∧ ∃ i, InE w (Out w0 L) r i
def OutsF (w0 : World) (L : List Chunk) (w : World) (rows : List (List Value)) : Prop := ∀ r ∈ rows, r.length = 2 ∧ ∃ i, OutE w (Out w0 L) r i
theorem InsF.mv {w0 w w' : World} {L L' : List Chunk} {rows : List (List Value)} (h : InsF w0 L w rows) (m : Mv w (Out w0 L) w' (Out w0 L')) : InsF w0 L' w' rows := fun r hr => ⟨(h r hr).1, by obtain ⟨i, hi⟩ := (h r hr).2; exact ⟨i, hi.mv m⟩⟩
theorem OutsF.mv {w0 w w' : World} {L L' : List Chunk} {rows : List (List Value)} (h : OutsF w0 L w rows) (m : Mv w (Out w0 L) w' (Out w0 L')) : OutsF w0 L' w' rows := fun r hr => ⟨(h r hr).1, by obtain ⟨i, hi⟩ := (h r hr).2; exact ⟨i, hi.mv m⟩⟩

def txC (ver : UInt32) (iv ov : Value) (lk : UInt32) : Array Value := #[u32 ver, iv, ov, u32 lk]

theorem InsF.list {w0 w : World} {L : List Chunk} {rows : List (List Value)} (h : InsF w0 L w rows) : ∃ l : List TIn, l.length = rows.length ∧ ∀ (i : Nat) (r : List Value) (a : TIn), rows[i]? = some r → l[i]? = some a → InE w (Out w0 L) r a := by
  induction rows with
  | nil => exact ⟨[], rfl, fun i r a hr => by simp at hr⟩
  | cons r t ih =>
    obtain ⟨l, h1, h2⟩ := ih fun r hr => h r (List.mem_cons_of_mem _ hr)
    obtain ⟨i, hi⟩ := (h r (by simp)).2
    refine ⟨i :: l, by simp [h1], fun j r' a hr ha => ?_⟩
    cases j with
    | zero => simp at hr ha; subst hr; subst ha; exact hi
    | succ j => exact h2 j r' a (by simpa using hr) (by simpa using ha)
theorem OutsF.list {w0 w : World} {L : List Chunk} {rows : List (List Value)} (h : OutsF w0 L w rows) : ∃ l : List TOut, l.length = rows.length ∧ ∀ (i : Nat) (r : List Value) (a : TOut), rows[i]? = some r → l[i]? = some a → OutE w (Out w0 L) r a := by
  induction rows with
  | nil => exact ⟨[], rfl, fun i r a hr => by simp at hr⟩
  | cons r t ih =>
    obtain ⟨l, h1, h2⟩ := ih fun r hr => h r (List.mem_cons_of_mem _ hr)
    obtain ⟨i, hi⟩ := (h r (by simp)).2
    refine ⟨i :: l, by simp [h1], fun j r' a hr ha => ?_⟩
    cases j with
    | zero => simp at hr ha; subst hr; subst ha; exact hi
    | succ j => exact h2 j r' a (by simpa using hr) (by simpa using ha)

theorem Tx_ok (n m : Int) (w : World) : Ret P 8 #[.int .i64 n, .int .i64 m] w (fun r w' => Ext w w' ∧ ∃ T, TxR w' (· < w.heap.size) r T ∧ 1 ≤ T.outs.length ∧ T.outs.length ≤ 4) := by
  obtain ⟨qi, hqi, hqie⟩ := iand_mask (n / 2 ^ (min ((8 : Int).toNat) IntKind.i64.bits)) 3 (by decide)
  obtain ⟨qo, hqo, hqoe⟩ := iand_mask (n / 2 ^ (min ((10 : Int).toNat) IntKind.i64.bits)) 3 (by decide)
  obtain ⟨qw, hqw, hqwe⟩ := iand_mask (m / 2 ^ (min ((16 : Int).toNat) IntKind.i64.bits)) 1 (by decide)
  refine Ret.enter2 Tryd.func8 rfl Tryd.ntmps8 rfl ?_
  refine ZC.seq ?_; refine ZC.region ?_
  refine ZL.alloc (Mem.start w No) rfl rfl (fun b4 w1 M1 => ?_)
  refine ZL.nil ?_; refine ZP.then ?_; refine ZC.seq ?_; refine ZC.region ?_; refine ZL.val (r_move rfl) rfl ?_; refine ZL.val (r_and rfl rfl rfl) rfl ?_; refine ZL.val (r_add rfl rfl rfl) rfl ?_; refine ZL.val (r_toU rfl) rfl ?_; refine ZL.val (r_move rfl) rfl ?_; refine ZL.val (r_shr rfl rfl (by omega) rfl) rfl ?_; refine ZL.val (r_and rfl rfl rfl) rfl ?_; refine ZL.val (r_move rfl) rfl ?_; refine ZL.val (r_shr rfl rfl (by omega) rfl) rfl ?_; refine ZL.val (r_and rfl rfl rfl) rfl ?_; refine ZL.val (r_mul rfl rfl rfl) rfl ?_; refine ZL.val (r_toU rfl) rfl ?_
  refine ZL.val (r_buildOne rfl rfl (cs := (txC (u32of (IntKind.i64.wrap (iand .i64 n 3 + 1))) (.slice none 0 0) (.slice none 0 0) (u32of (IntKind.i64.wrap (iand .i64 (n / 2 ^ (min ((2 : Int).toNat) IntKind.i64.bits)) 1 * iand .i64 (n / 2 ^ (min ((3 : Int).toNat) IntKind.i64.bits)) 31)))).toList) rfl) rfl ?_
  generalize (u32of (IntKind.i64.wrap (iand .i64 n 3 + 1))) = ver
  generalize (u32of (IntKind.i64.wrap (iand .i64 (n / 2 ^ (min ((2 : Int).toNat) IntKind.i64.bits)) 1 * iand .i64 (n / 2 ^ (min ((3 : Int).toNat) IntKind.i64.bits)) 31))) = lok
  refine ZL.alloc M1 rfl rfl (fun b5 w2 M2 => ?_)
  refine ZL.stW M2 rfl rfl (cs' := txC ver (.slice none 0 0) (.slice none 0 0) lok) rfl (by rfl) (by rfl) (by rfl) (fun w3 M3 => ?_)
  refine ZL.nil ?_; refine ZP.then ?_; refine ZC.seq ?_; refine ZC.seq ?_; refine ZC.region ?_; refine ZL.val (r_assign rfl) rfl ?_; refine ZL.nil ?_; refine ZP.then ?_; refine ZC.block ?_
  refine ZC.loop (X := Nat × Value × List (List Value)) (fun x => [(6, .int .i64 x.1), (5, .pointer (some ⟨b5, 0, none⟩)), (4, .pointer (some ⟨b4, 0, none⟩)), (0, .int .i64 n), (1, .int .i64 m)])
    (fun x w' => Mem w No [.own x.2.1 63 36 x.1 x.2.2.flatten, .blk b5 (.cells (txC ver x.2.1 (.slice none 0 0) lok) 30), .blk b4 (.cells (txC 0 (.slice none 0 0) (.slice none 0 0) 0) 30)] w' ∧
      x.2.2.length = x.1 ∧ InsF w [.own x.2.1 63 36 x.1 x.2.2.flatten, .blk b5 (.cells (txC ver x.2.1 (.slice none 0 0) lok) 30), .blk b4 (.cells (txC 0 (.slice none 0 0) (.slice none 0 0) 0) 30)] w' x.2.2 ∧ x.1 ≤ qi + 1)
    (fun x => qi + 1 - x.1) (0, .slice none 0 0, []) ⟨rfl, rfl, rfl, rfl, rfl, trivial⟩ ⟨M3.nilOwn _ _, rfl, (fun r hr => by cases hr), by omega⟩ ?_
  rintro ⟨k, iv, rows⟩ w4 ⟨M4, hrl, hF, hk⟩
  simp only at M4 hrl hF hk ⊢
  refine ZC.seq ?_; refine ZC.seq ?_; refine ZC.region ?_; refine ZL.val (r_move rfl) rfl ?_; refine ZL.val (r_move rfl) rfl ?_
  refine ZL.val (r_shr rfl rfl (by omega) rfl) rfl ?_
  refine ZL.val (r_and rfl rfl hqie) rfl ?_
  refine ZL.val (r_add rfl rfl (wrap_i64 (by omega) (by omega))) rfl ?_; refine ZL.val (r_lss rfl rfl) rfl ?_; refine ZL.nil ?_; refine ZP.then ?_
  refine ZC.condD rfl (fun hc => ?_) (fun hc => ?_)
  · have hk' : k ≤ qi := by omega
    have R4 := M4.rebase
    refine ZC.skip ?_; refine ZP.then ?_; refine ZC.seq ?_; refine ZC.block ?_; refine ZC.seq ?_; refine ZC.region ?_; refine ZL.val (r_move rfl) rfl ?_; refine ZL.val (r_move rfl) rfl ?_; refine ZL.val (r_mul rfl rfl (wrap_i64 (by omega) (by omega))) rfl ?_; refine ZL.val (r_convInt rfl (wrap_u64 (by omega) (by omega))) rfl ?_; refine ZL.val (r_shr rfl rfl (by omega) rfl) rfl ?_; refine ZL.val (r_and rfl rfl rfl) rfl ?_; refine ZL.val (r_toU rfl) rfl ?_; refine ZL.val (r_move rfl) rfl ?_; refine ZL.val (r_move rfl) rfl ?_; refine ZL.val (r_add rfl rfl (wrap_i64 (by omega) (by omega))) rfl ?_; refine ZL.val (r_convInt rfl (wrap_u64 (by omega) (by omega))) rfl ?_; refine ZL.val (r_shr rfl rfl (by omega) rfl) rfl ?_; refine ZL.val (r_and rfl rfl rfl) rfl ?_; refine ZL.val (r_sub rfl rfl rfl) rfl ?_; refine ZL.val (r_toU rfl) rfl ?_
    refine ZL.val (r_buildOne rfl rfl (cs := (inC 0 0 _ (.slice none 0 0) _ (.slice none 0 0)).toList) rfl) rfl ?_
    refine ZL.alloc R4 rfl rfl (fun bx w5 R5 => ?_)
    refine ZL.stW R5 rfl rfl (cs' := inC 0 0 _ (.slice none 0 0) _ (.slice none 0 0)) rfl (by rfl) (by rfl) (by rfl) (fun w6 R6 => ?_)
    refine ZL.nil ?_; refine ZP.then ?_; refine ZC.seq ?_; refine ZC.region ?_; refine ZL.val (r_move rfl) rfl ?_; refine ZL.val (r_move rfl) rfl ?_; refine ZL.val (r_mul rfl rfl (wrap_i64 (by omega) (by omega))) rfl ?_; refine ZL.val (r_convInt rfl (wrap_u64 (by omega) (by omega))) rfl ?_; refine ZL.val (r_shr rfl rfl (by omega) rfl) rfl ?_; refine ZL.val (r_toB rfl) rfl ?_; refine ZL.val (r_move rfl) rfl ?_; refine ZL.val (r_toB rfl) rfl ?_; refine ZL.val (r_fieldAddr rfl) rfl ?_
    refine ZL.val (r_idxA 0 rfl rfl rfl (by decide)) rfl ?_
    refine ZL.st R6 rfl rfl (cs' := inC _ 0 _ (.slice none 0 0) _ (.slice none 0 0)) rfl rfl (fun w7 R7 => ?_)
    refine ZL.val (r_fieldAddr rfl) rfl ?_
    refine ZL.val (r_idxA 31 rfl rfl rfl (by decide)) rfl ?_
    refine ZL.st R7 rfl rfl (cs' := inC _ _ _ (.slice none 0 0) _ (.slice none 0 0)) rfl rfl (fun w8 R8 => ?_)
    refine ZL.nil ?_
    refine ZP.then ?_
    have M8 := M4.join R8
    have F8 := hF.mv (Mv.frame R8)
    generalize (u8of (m / 2 ^ min (3 * (k : Int)).toNat IntKind.i64.bits)) = pb at M8 F8
    generalize (u8of (k : Int)) = pc at M8 F8
    generalize (u32of (iand .i64 (m / 2 ^ min (2 * (k : Int)).toNat IntKind.i64.bits) 3)) = vo at M8 F8
    generalize (u32of (IntKind.i64.wrap (4294967295 - iand .i64 (m / 2 ^ min (8 + (k : Int)).toNat IntKind.i64.bits) 3))) = sq at M8 F8
    generalize hL0 : ([.own iv 63 36 k rows.flatten, .blk b5 (.cells (txC ver iv (.slice none 0 0) lok) 30), .blk b4 (.cells (txC 0 (.slice none 0 0) (.slice none 0 0) 0) 30)] : List Chunk) = L0 at M8 F8
    clear R5 R6 R7 R8
    refine ZC.mid (X := Value) (fun wv => [(7, .pointer (some ⟨bx, 0, none⟩)), (6, .int .i64 k), (5, .pointer (some ⟨b5, 0, none⟩)), (4, .pointer (some ⟨b4, 0, none⟩)), (0, .int .i64 n), (1, .int .i64 m)])
      (fun wv w' => Mem w No (.blk bx (.cells (inC pb pc vo (.slice none 0 0) sq wv) 63) :: L0) w' ∧ InsF w (.blk bx (.cells (inC pb pc vo (.slice none 0 0) sq wv) 63) :: L0) w' rows ∧ ∃ wit, ListR BytesE 1 w' (Out w (.blk bx (.cells (inC pb pc vo (.slice none 0 0) sq wv) 63) :: L0)) wv wit) ?_ ?_
    · refine ZC.seq ?_; refine ZC.region ?_; refine ZL.val (r_move rfl) rfl ?_; refine ZL.val (r_move rfl) rfl ?_; refine ZL.val (r_add rfl rfl (wrap_i64 (by omega) (by omega))) rfl ?_; refine ZL.val (r_convInt rfl (wrap_u64 (by omega) (by omega))) rfl ?_; refine ZL.val (r_shr rfl rfl (by omega) rfl) rfl ?_; refine ZL.val (r_and rfl rfl rfl) rfl ?_; refine ZL.val (r_eql rfl rfl) rfl ?_; refine ZL.nil ?_; refine ZP.then ?_
      refine ZC.condD rfl (fun hw => ?_) (fun hw => ?_)
      · refine ZC.region ?_; refine ZL.val (r_move rfl) rfl ?_; refine ZL.val (r_toB rfl) rfl ?_
        refine ZL.bslice M8.rebase rfl rfl rfl (by simp [Value.cells, u8]) (by decide) rfl (fun g1 w9 R9 => ?_)
        refine ZL.bslice R9 rfl rfl rfl (by simp [Value.cells]) (by decide) rfl (fun g2 w10 R10 => ?_)
        refine ZL.val (r_move rfl) rfl ?_
        refine ZL.val (r_shr rfl rfl (by omega) rfl) rfl ?_
        refine ZL.val (r_and rfl rfl hqwe) rfl ?_
        refine ZL.val (r_add rfl rfl (wrap_i64 (by omega) (by omega))) rfl ?_
        refine ZL.val (r_sliceTo rfl rfl (by omega) (by omega)) rfl ?_
        refine ZL.val (r_fieldAddr rfl) rfl ?_
        refine ZL.st R10 rfl rfl (cs' := inC pb pc vo (.slice none 0 0) sq _) rfl rfl (fun w11 R11 => ?_)
        refine ZL.nil ?_
        have M11 := M8.join R11
        have F11 := ((F8.mv (Mv.frame R11)).mv Mv.drop).mv Mv.drop
        obtain ⟨M12, S12⟩ := M11.out
        obtain ⟨M13, S13⟩ := M12.out
        have S12' := (SlC.mv S12 Mv.drop)
        refine ZP.mid _ ⟨rfl, rfl, rfl, rfl, rfl, rfl, trivial⟩ ⟨M13, F11, ?_⟩
        have hb : BytesR w11 _ (.slice (some ⟨g1, 0, none⟩) 1 1) [u8of m] := S13
        have hcut := SlC.cut S12' (l := 0) (h := qw + 1) (by omega) (by omega)
        simp only [cutAt_zero, Nat.sub_zero, Nat.zero_mul, List.drop_zero, Nat.mul_one] at hcut
        have hq : ((qw : Int) + 1).toNat = qw + 1 := by omega
        rw [hq]
        refine ⟨([[u8of m], []] : List (List UInt8)).take (qw + 1), ([[Value.slice (some ⟨g1, 0, none⟩) 1 1], [Value.slice none 0 0]] : List (List Value)).take (qw + 1), by simp, fun r hr => ?_, ?_, fun i r a hr ha => ?_⟩
        · have := List.mem_of_mem_take hr
          simp at this
          rcases this with rfl | rfl <;> rfl
        · have hl2 : (([[u8of m], []] : List (List UInt8)).take (qw + 1)).length = qw + 1 := by simp; omega
          rw [hl2]
          have hfl : (([[Value.slice (some ⟨g1, 0, none⟩) 1 1], [Value.slice none 0 0]] : List (List Value)).take (qw + 1)).flatten = ([Value.slice (some ⟨g1, 0, none⟩) 1 1, Value.slice none 0 0] : List Value).take (qw + 1) := by
            rcases (by omega : qw = 0 ∨ qw = 1) with rfl | rfl <;> rfl
          rw [hfl]
          exact hcut
        · rw [List.getElem?_take] at hr ha
          split at hr
          · rename_i hi
            rw [if_pos hi] at ha
            rcases (by omega : i = 0 ∨ i = 1) with rfl | rfl
            · simp at hr ha; subst hr; subst ha; exact ⟨_, rfl, hb⟩
            · simp at hr ha; subst hr; subst ha; exact ⟨_, rfl, ⟨rfl, .inl ⟨rfl, rfl⟩⟩⟩
          · cases hr
      · refine ZC.skip ?_
        exact ZP.mid (.slice none 0 0) ⟨rfl, rfl, rfl, rfl, rfl, rfl, trivial⟩ ⟨M8, F8, [], ⟨[], rfl, (fun r hr => by cases hr), ⟨rfl, .inl ⟨rfl, rfl⟩⟩, (fun i r a hr => by simp at hr)⟩⟩
    · clear M8 F8
      rintro wv w9 ⟨M9, F9, wit, hwit⟩
      refine ZC.mid (X := Value) (fun sv => [(7, .pointer (some ⟨bx, 0, none⟩)), (6, .int .i64 k), (5, .pointer (some ⟨b5, 0, none⟩)), (4, .pointer (some ⟨b4, 0, none⟩)), (0, .int .i64 n), (1, .int .i64 m)])
        (fun sv w' => Mem w No (.blk bx (.cells (inC pb pc vo sv sq wv) 63) :: L0) w' ∧ InsF w (.blk bx (.cells (inC pb pc vo sv sq wv) 63) :: L0) w' rows ∧ ListR BytesE 1 w' (Out w (.blk bx (.cells (inC pb pc vo sv sq wv) 63) :: L0)) wv wit ∧ ∃ scr, BytesR w' (Out w (.blk bx (.cells (inC pb pc vo sv sq wv) 63) :: L0)) sv scr) ?_ ?_
      · refine ZC.seq ?_; refine ZC.region ?_; refine ZL.val (r_move rfl) rfl ?_; refine ZL.val (r_shr rfl rfl (by omega) rfl) rfl ?_; refine ZL.val (r_and rfl rfl rfl) rfl ?_; refine ZL.val (r_eql rfl rfl) rfl ?_; refine ZL.nil ?_; refine ZP.then ?_
        refine ZC.condD rfl (fun hw => ?_) (fun hw => ?_)
        · refine ZC.region ?_; refine ZL.val (r_move rfl) rfl ?_; refine ZL.val (r_shr rfl rfl (by omega) rfl) rfl ?_; refine ZL.val (r_toB rfl) rfl ?_
          refine ZL.bslice M9.rebase rfl rfl rfl (by simp [Value.cells, u8]) (by decide) rfl (fun g1 w10 R10 => ?_)
          refine ZL.val (r_fieldAddr rfl) rfl ?_
          refine ZL.st R10 rfl rfl (cs' := inC pb pc vo _ sq wv) rfl rfl (fun w11 R11 => ?_)
          refine ZL.nil ?_
          have M11 := M9.join R11
          have F11 := (F9.mv (Mv.frame R11)).mv Mv.drop
          have W11 := ListR.mv (fun _ _ h => BytesE.mv ((Mv.frame R11).trans Mv.drop) h) hwit ((Mv.frame R11).trans Mv.drop)
          obtain ⟨M12, S12⟩ := M11.out
          exact ZP.mid _ ⟨rfl, rfl, rfl, rfl, rfl, rfl, trivial⟩ ⟨M12, F11, W11, [u8of (m / 2 ^ min ((4 : Int).toNat) IntKind.i64.bits)], S12⟩
        · refine ZC.skip ?_
          exact ZP.mid (.slice none 0 0) ⟨rfl, rfl, rfl, rfl, rfl, rfl, trivial⟩ ⟨M9, F9, hwit, [], ⟨rfl, .inl ⟨rfl, rfl⟩⟩⟩
      · clear M9 F9 hwit
        rintro sv w10 ⟨M10, F10, W10, scr, S10⟩
        subst hL0
        obtain ⟨pw, cw, hwv⟩ := W10.shape
        obtain ⟨ps, cs, hsv⟩ := S10.shape
        have R10 := M10.rebase
        refine ZC.region ?_; refine ZL.val (r_fieldAddr rfl) rfl ?_
        refine ZL.val (r_ld R10 rfl (by rfl)) rfl ?_
        refine ZL.val (r_ldW R10 rfl (by rfl)) rfl ?_
        refine ZL.bslice R10 rfl rfl rfl (by simp [Value.cells, inC]) (by decide) rfl (fun g1 w11 R11 => ?_)
        refine ZL.append R11 rfl rfl (R11.own.slc (X := No) (fun _ _ h => h)) (by subst hwv hsv; intro x hx; rw [inC_eq] at hx; simp only [List.mem_append, List.mem_cons, List.not_mem_nil, or_false] at hx; rcases hx with hx | rfl | rfl | rfl | rfl <;> first | rfl | exact u8_one _ _ hx) (by simp only [maxLen]; omega) (by omega) rfl (fun iv' w12 R12 => ?_)
        obtain ⟨pv, cv, hiv⟩ := (R12.sub [2] rfl).own.shape
        refine ZL.val (r_fieldAddr rfl) rfl ?_
        refine ZL.st R12 rfl rfl (cs' := txC ver iv' (.slice none 0 0) lok) rfl (by rw [hiv]; rfl) (fun w13 R13 => ?_)
        refine ZL.nil ?_; refine ZP.blockN ?_; refine ZP.then ?_; refine ZC.region ?_; refine ZL.val (r_move rfl) rfl ?_; refine ZL.val (r_add rfl rfl (wrap_i64 (by omega) (by omega))) rfl ?_; refine ZL.val (r_assign rfl) rfl ?_; refine ZL.nil ?_
        have M13 := M10.join R13
        have mv := ((Mv.frame R13).trans Mv.drop).trans (Mv.drop (w0 := w))
        refine ZP.round (k + 1, iv', rows ++ [(inC pb pc vo sv sq wv).toList]) ⟨rfl, rfl, rfl, rfl, rfl, trivial⟩ ⟨?_, ?_, ?_, ?_⟩ ?_
        · simp only [List.flatten_append, List.flatten_cons, List.flatten_nil, List.append_nil]
          exact M13.drop.drop
        · simp [hrl]
        · simp only [List.flatten_append, List.flatten_cons, List.flatten_nil, List.append_nil]
          intro r hr
          rcases List.mem_append.1 hr with hr | hr
          · exact (F10.mv mv) r hr
          · simp only [List.mem_singleton] at hr
            subst hr
            exact ⟨by simp [inC], ⟨prevOf pb pc, vo, scr, sq, wit⟩, sv, wv, inC_eq _ _ _ _ _ _, S10.mv mv, ListR.mv (fun _ _ h => BytesE.mv mv h) W10 mv⟩
        · simp only; omega
        · simp only; omega
  · refine ZC.exit ?_; refine ZP.thenX ?_; refine ZP.thenX ?_; refine ZP.blockE ?_; refine ZP.then ?_; refine ZC.seq ?_; refine ZC.seq ?_; refine ZC.region ?_; refine ZL.val (r_assign rfl) rfl ?_; refine ZL.nil ?_; refine ZP.then ?_; refine ZC.block ?_
    refine ZC.loop (X := Nat × Value × List (List Value)) (fun x => [(8, .int .i64 x.1), (5, .pointer (some ⟨b5, 0, none⟩)), (4, .pointer (some ⟨b4, 0, none⟩)), (0, .int .i64 n), (1, .int .i64 m)])
      (fun x w' => Mem w No [.own x.2.1 66 2 x.1 x.2.2.flatten, .own iv 63 36 k rows.flatten, .blk b5 (.cells (txC ver iv x.2.1 lok) 30), .blk b4 (.cells (txC 0 (.slice none 0 0) (.slice none 0 0) 0) 30)] w' ∧ x.2.2.length = x.1 ∧ InsF w [.own x.2.1 66 2 x.1 x.2.2.flatten, .own iv 63 36 k rows.flatten, .blk b5 (.cells (txC ver iv x.2.1 lok) 30), .blk b4 (.cells (txC 0 (.slice none 0 0) (.slice none 0 0) 0) 30)] w' rows ∧ OutsF w [.own x.2.1 66 2 x.1 x.2.2.flatten, .own iv 63 36 k rows.flatten, .blk b5 (.cells (txC ver iv x.2.1 lok) 30), .blk b4 (.cells (txC 0 (.slice none 0 0) (.slice none 0 0) 0) 30)] w' x.2.2 ∧ x.1 ≤ qo + 1)
      (fun x => qo + 1 - x.1) (0, .slice none 0 0, []) ⟨rfl, rfl, rfl, rfl, rfl, trivial⟩ ⟨M4.nilOwn _ _, rfl, hF.mv (Mv.mono (fun b _ h => h.imp id (fun ⟨d, hd, hg⟩ => by
        rcases List.mem_cons.1 hd with rfl | hd
        · simp [Chunk.fp, Value.ownBlock] at hg
        · exact ⟨d, hd, hg⟩))), (fun r hr => by cases hr), by omega⟩ ?_
    rintro ⟨j, ov, orows⟩ w5 ⟨M5, hol, hI, hO, hj⟩
    simp only at M5 hol hI hO hj ⊢
    refine ZC.seq ?_; refine ZC.seq ?_; refine ZC.region ?_; refine ZL.val (r_move rfl) rfl ?_; refine ZL.val (r_move rfl) rfl ?_
    refine ZL.val (r_shr rfl rfl (by omega) rfl) rfl ?_
    refine ZL.val (r_and rfl rfl hqoe) rfl ?_
    refine ZL.val (r_add rfl rfl (wrap_i64 (by omega) (by omega))) rfl ?_; refine ZL.val (r_lss rfl rfl) rfl ?_; refine ZL.nil ?_; refine ZP.then ?_
    refine ZC.condD rfl (fun hd => ?_) (fun hd => ?_)
    · have hj' : j ≤ qo := by omega
      refine ZC.skip ?_; refine ZP.then ?_; refine ZC.seq ?_; refine ZC.block ?_
      refine ZC.turning (Holds [(b5, .cells (txC ver iv ov lok) 30 (0, 0))]) 16 rfl (by kernel_rfl) rfl rfl rfl (fun w6 E6 _ => ?_)
      have R6 := M5.rebase.ext' E6
      have S6 : Holds [(b5, .cells (txC ver iv ov lok) 30 (0, 0))] w6 := ⟨R6.get inferInstance, trivial⟩
      refine ZT.take 0 rfl rfl (fun w' hS' => by first | exact r_move rfl | exact r_assign rfl | exact r_fieldAddr rfl | exact r_add rfl rfl (wrap_i64 (by omega) (by omega)) | exact r_sub rfl rfl (wrap_i64 (by omega) (by omega)) | exact r_mul rfl rfl (wrap_i64 (by omega) (by omega)) | exact r_convInt rfl (wrap_u64 (by omega) (by omega)) | exact r_convInt rfl (wrap_i64 (by omega) (by omega)) | exact r_convInt rfl (wrap_u32 (by omega) (by omega)) | exact r_sliceArr rfl | exact r_nilCheck rfl | exact r_extract rfl rfl | exact r_lenSlice rfl | exact r_and rfl rfl rfl | exact r_shr rfl rfl (by omega) rfl | exact r_toB rfl | exact r_toU rfl | exact r_toQ rfl) (by kernel_rfl) rfl (by kernel_rfl) (by kernel_rfl) rfl rfl (fun _ _ _ _ h => h) S6 ?_
      refine ZT.take 1 rfl rfl (fun w' hS' => r_ldS hS' rfl (by rfl)) (by kernel_rfl) rfl (by kernel_rfl) (by kernel_rfl) rfl rfl (fun _ _ _ _ h => h) S6 ?_
      refine ZT.take 2 rfl rfl (fun w' hS' => by first | exact r_move rfl | exact r_assign rfl | exact r_fieldAddr rfl | exact r_add rfl rfl (wrap_i64 (by omega) (by omega)) | exact r_sub rfl rfl (wrap_i64 (by omega) (by omega)) | exact r_mul rfl rfl (wrap_i64 (by omega) (by omega)) | exact r_convInt rfl (wrap_u64 (by omega) (by omega)) | exact r_convInt rfl (wrap_i64 (by omega) (by omega)) | exact r_convInt rfl (wrap_u32 (by omega) (by omega)) | exact r_sliceArr rfl | exact r_nilCheck rfl | exact r_extract rfl rfl | exact r_lenSlice rfl | exact r_and rfl rfl rfl | exact r_shr rfl rfl (by omega) rfl | exact r_toB rfl | exact r_toU rfl | exact r_toQ rfl) (by kernel_rfl) rfl (by kernel_rfl) (by kernel_rfl) rfl rfl (fun _ _ _ _ h => h) S6 ?_; refine ZT.take 3 rfl rfl (fun w' hS' => by first | exact r_move rfl | exact r_assign rfl | exact r_fieldAddr rfl | exact r_add rfl rfl (wrap_i64 (by omega) (by omega)) | exact r_sub rfl rfl (wrap_i64 (by omega) (by omega)) | exact r_mul rfl rfl (wrap_i64 (by omega) (by omega)) | exact r_convInt rfl (wrap_u64 (by omega) (by omega)) | exact r_convInt rfl (wrap_i64 (by omega) (by omega)) | exact r_convInt rfl (wrap_u32 (by omega) (by omega)) | exact r_sliceArr rfl | exact r_nilCheck rfl | exact r_extract rfl rfl | exact r_lenSlice rfl | exact r_and rfl rfl rfl | exact r_shr rfl rfl (by omega) rfl | exact r_toB rfl | exact r_toU rfl | exact r_toQ rfl) (by kernel_rfl) rfl (by kernel_rfl) (by kernel_rfl) rfl rfl (fun _ _ _ _ h => h) S6 ?_; refine ZT.take 4 rfl rfl (fun w' hS' => by first | exact r_move rfl | exact r_assign rfl | exact r_fieldAddr rfl | exact r_add rfl rfl (wrap_i64 (by omega) (by omega)) | exact r_sub rfl rfl (wrap_i64 (by omega) (by omega)) | exact r_mul rfl rfl (wrap_i64 (by omega) (by omega)) | exact r_convInt rfl (wrap_u64 (by omega) (by omega)) | exact r_convInt rfl (wrap_i64 (by omega) (by omega)) | exact r_convInt rfl (wrap_u32 (by omega) (by omega)) | exact r_sliceArr rfl | exact r_nilCheck rfl | exact r_extract rfl rfl | exact r_lenSlice rfl | exact r_and rfl rfl rfl | exact r_shr rfl rfl (by omega) rfl | exact r_toB rfl | exact r_toU rfl | exact r_toQ rfl) (by kernel_rfl) rfl (by kernel_rfl) (by kernel_rfl) rfl rfl (fun _ _ _ _ h => h) S6 ?_; refine ZT.take 5 rfl rfl (fun w' hS' => by first | exact r_move rfl | exact r_assign rfl | exact r_fieldAddr rfl | exact r_add rfl rfl (wrap_i64 (by omega) (by omega)) | exact r_sub rfl rfl (wrap_i64 (by omega) (by omega)) | exact r_mul rfl rfl (wrap_i64 (by omega) (by omega)) | exact r_convInt rfl (wrap_u64 (by omega) (by omega)) | exact r_convInt rfl (wrap_i64 (by omega) (by omega)) | exact r_convInt rfl (wrap_u32 (by omega) (by omega)) | exact r_sliceArr rfl | exact r_nilCheck rfl | exact r_extract rfl rfl | exact r_lenSlice rfl | exact r_and rfl rfl rfl | exact r_shr rfl rfl (by omega) rfl | exact r_toB rfl | exact r_toU rfl | exact r_toQ rfl) (by kernel_rfl) rfl (by kernel_rfl) (by kernel_rfl) rfl rfl (fun _ _ _ _ h => h) S6 ?_; refine ZT.take 6 rfl rfl (fun w' hS' => by first | exact r_move rfl | exact r_assign rfl | exact r_fieldAddr rfl | exact r_add rfl rfl (wrap_i64 (by omega) (by omega)) | exact r_sub rfl rfl (wrap_i64 (by omega) (by omega)) | exact r_mul rfl rfl (wrap_i64 (by omega) (by omega)) | exact r_convInt rfl (wrap_u64 (by omega) (by omega)) | exact r_convInt rfl (wrap_i64 (by omega) (by omega)) | exact r_convInt rfl (wrap_u32 (by omega) (by omega)) | exact r_sliceArr rfl | exact r_nilCheck rfl | exact r_extract rfl rfl | exact r_lenSlice rfl | exact r_and rfl rfl rfl | exact r_shr rfl rfl (by omega) rfl | exact r_toB rfl | exact r_toU rfl | exact r_toQ rfl) (by kernel_rfl) rfl (by kernel_rfl) (by kernel_rfl) rfl rfl (fun _ _ _ _ h => h) S6 ?_; refine ZT.take 7 rfl rfl (fun w' hS' => by first | exact r_move rfl | exact r_assign rfl | exact r_fieldAddr rfl | exact r_add rfl rfl (wrap_i64 (by omega) (by omega)) | exact r_sub rfl rfl (wrap_i64 (by omega) (by omega)) | exact r_mul rfl rfl (wrap_i64 (by omega) (by omega)) | exact r_convInt rfl (wrap_u64 (by omega) (by omega)) | exact r_convInt rfl (wrap_i64 (by omega) (by omega)) | exact r_convInt rfl (wrap_u32 (by omega) (by omega)) | exact r_sliceArr rfl | exact r_nilCheck rfl | exact r_extract rfl rfl | exact r_lenSlice rfl | exact r_and rfl rfl rfl | exact r_shr rfl rfl (by omega) rfl | exact r_toB rfl | exact r_toU rfl | exact r_toQ rfl) (by kernel_rfl) rfl (by kernel_rfl) (by kernel_rfl) rfl rfl (fun _ _ _ _ h => h) S6 ?_; refine ZT.take 8 rfl rfl (fun w' hS' => by first | exact r_move rfl | exact r_assign rfl | exact r_fieldAddr rfl | exact r_add rfl rfl (wrap_i64 (by omega) (by omega)) | exact r_sub rfl rfl (wrap_i64 (by omega) (by omega)) | exact r_mul rfl rfl (wrap_i64 (by omega) (by omega)) | exact r_convInt rfl (wrap_u64 (by omega) (by omega)) | exact r_convInt rfl (wrap_i64 (by omega) (by omega)) | exact r_convInt rfl (wrap_u32 (by omega) (by omega)) | exact r_sliceArr rfl | exact r_nilCheck rfl | exact r_extract rfl rfl | exact r_lenSlice rfl | exact r_and rfl rfl rfl | exact r_shr rfl rfl (by omega) rfl | exact r_toB rfl | exact r_toU rfl | exact r_toQ rfl) (by kernel_rfl) rfl (by kernel_rfl) (by kernel_rfl) rfl rfl (fun _ _ _ _ h => h) S6 ?_; refine ZT.take 9 rfl rfl (fun w' hS' => by first | exact r_move rfl | exact r_assign rfl | exact r_fieldAddr rfl | exact r_add rfl rfl (wrap_i64 (by omega) (by omega)) | exact r_sub rfl rfl (wrap_i64 (by omega) (by omega)) | exact r_mul rfl rfl (wrap_i64 (by omega) (by omega)) | exact r_convInt rfl (wrap_u64 (by omega) (by omega)) | exact r_convInt rfl (wrap_i64 (by omega) (by omega)) | exact r_convInt rfl (wrap_u32 (by omega) (by omega)) | exact r_sliceArr rfl | exact r_nilCheck rfl | exact r_extract rfl rfl | exact r_lenSlice rfl | exact r_and rfl rfl rfl | exact r_shr rfl rfl (by omega) rfl | exact r_toB rfl | exact r_toU rfl | exact r_toQ rfl) (by kernel_rfl) rfl (by kernel_rfl) (by kernel_rfl) rfl rfl (fun _ _ _ _ h => h) S6 ?_; refine ZT.take 10 rfl rfl (fun w' hS' => by first | exact r_move rfl | exact r_assign rfl | exact r_fieldAddr rfl | exact r_add rfl rfl (wrap_i64 (by omega) (by omega)) | exact r_sub rfl rfl (wrap_i64 (by omega) (by omega)) | exact r_mul rfl rfl (wrap_i64 (by omega) (by omega)) | exact r_convInt rfl (wrap_u64 (by omega) (by omega)) | exact r_convInt rfl (wrap_i64 (by omega) (by omega)) | exact r_convInt rfl (wrap_u32 (by omega) (by omega)) | exact r_sliceArr rfl | exact r_nilCheck rfl | exact r_extract rfl rfl | exact r_lenSlice rfl | exact r_and rfl rfl rfl | exact r_shr rfl rfl (by omega) rfl | exact r_toB rfl | exact r_toU rfl | exact r_toQ rfl) (by kernel_rfl) rfl (by kernel_rfl) (by kernel_rfl) rfl rfl (fun _ _ _ _ h => h) S6 ?_; refine ZT.take 11 rfl rfl (fun w' hS' => by first | exact r_move rfl | exact r_assign rfl | exact r_fieldAddr rfl | exact r_add rfl rfl (wrap_i64 (by omega) (by omega)) | exact r_sub rfl rfl (wrap_i64 (by omega) (by omega)) | exact r_mul rfl rfl (wrap_i64 (by omega) (by omega)) | exact r_convInt rfl (wrap_u64 (by omega) (by omega)) | exact r_convInt rfl (wrap_i64 (by omega) (by omega)) | exact r_convInt rfl (wrap_u32 (by omega) (by omega)) | exact r_sliceArr rfl | exact r_nilCheck rfl | exact r_extract rfl rfl | exact r_lenSlice rfl | exact r_and rfl rfl rfl | exact r_shr rfl rfl (by omega) rfl | exact r_toB rfl | exact r_toU rfl | exact r_toQ rfl) (by kernel_rfl) rfl (by kernel_rfl) (by kernel_rfl) rfl rfl (fun _ _ _ _ h => h) S6 ?_; refine ZT.take 12 rfl rfl (fun w' hS' => by first | exact r_move rfl | exact r_assign rfl | exact r_fieldAddr rfl | exact r_add rfl rfl (wrap_i64 (by omega) (by omega)) | exact r_sub rfl rfl (wrap_i64 (by omega) (by omega)) | exact r_mul rfl rfl (wrap_i64 (by omega) (by omega)) | exact r_convInt rfl (wrap_u64 (by omega) (by omega)) | exact r_convInt rfl (wrap_i64 (by omega) (by omega)) | exact r_convInt rfl (wrap_u32 (by omega) (by omega)) | exact r_sliceArr rfl | exact r_nilCheck rfl | exact r_extract rfl rfl | exact r_lenSlice rfl | exact r_and rfl rfl rfl | exact r_shr rfl rfl (by omega) rfl | exact r_toB rfl | exact r_toU rfl | exact r_toQ rfl) (by kernel_rfl) rfl (by kernel_rfl) (by kernel_rfl) rfl rfl (fun _ _ _ _ h => h) S6 ?_
      refine ZT.one 13 rfl (by kernel_rfl) rfl rfl rfl ?_
      refine ZL.call (r_call rfl) rfl (Script_ok _ w6) (fun sv w7 hv => ?_)
      obtain ⟨E7, scr, hscr, hsv⟩ := hv
      have M6 := M5.join R6
      have M7 := M5.join (R6.ext' E7)
      have mv7 := Mv.frame (w0 := w) (R6.ext' E7)
      have hsv7 := hsv.mv (Mv.fresh M6 E7.size)
      have R7 := M7.rebase
      have S7 : Holds [(b5, .cells (txC ver iv ov lok) 30 (0, 0))] w7 := ⟨R7.get inferInstance, trivial⟩
      obtain ⟨psv, csv, hsv0⟩ := hsv.shape
      refine ZL.nil (ZP.turning S7 ?_)
      refine ZT.take 14 rfl rfl (fun w' hS' => r_buildOne rfl rfl (cs := [u64 _, sv]) (by subst hsv0; rfl)) (by kernel_rfl) rfl (by kernel_rfl) (by kernel_rfl) rfl rfl (fun _ _ _ _ h => h) S7 ?_
      refine ZT.one 15 rfl (by kernel_rfl) rfl rfl rfl ?_
      refine ZL.bslice R7 rfl rfl rfl (by simp [Value.cells]) (by decide) rfl (fun g1 w8 R8 => ?_)
      have S8 : Holds [(b5, .cells (txC ver iv ov lok) 30 (0, 0))] w8 := ⟨R8.get inferInstance, trivial⟩
      refine ZL.nil (ZP.turning S8 ?_)
      refine ZT.done rfl (by kernel_rfl) ?_
      refine ZL.append R8 rfl rfl (R8.own.slc (X := No) (fun _ _ h => h)) (by subst hsv0; intro x hx; simp only [List.mem_cons, List.not_mem_nil, or_false] at hx; rcases hx with rfl | rfl <;> rfl) (by simp only [maxLen]; omega) (by omega) rfl (fun ov' w9 R9 => ?_)
      obtain ⟨pv, cv, hov⟩ := (R9.sub [1] rfl).own.shape
      refine ZL.val (r_fieldAddr rfl) rfl ?_
      refine ZL.st R9 rfl rfl (cs' := txC ver iv ov' lok) rfl (by rw [hov]; rfl) (fun w10 R10 => ?_)
      refine ZL.nil ?_; refine ZP.blockN ?_; refine ZP.then ?_; refine ZC.region ?_; refine ZL.val (r_move rfl) rfl ?_; refine ZL.val (r_add rfl rfl (wrap_i64 (by omega) (by omega))) rfl ?_; refine ZL.val (r_assign rfl) rfl ?_; refine ZL.nil ?_
      have M10 := M7.join R10
      have mv10 := (Mv.frame (w0 := w) R10).trans Mv.drop
      refine ZP.round (j + 1, ov', orows ++ [[u64 (u64of (iand .i64 (n / 2 ^ min (12 + (j : Int)).toNat IntKind.i64.bits) 4095)), sv]]) ⟨rfl, rfl, rfl, rfl, rfl, trivial⟩ ⟨?_, ?_, ?_, ?_, ?_⟩ ?_
      · simp only [List.flatten_append, List.flatten_cons, List.flatten_nil, List.append_nil]
        exact M10.drop
      · simp [hol]
      · simp only [List.flatten_append, List.flatten_cons, List.flatten_nil, List.append_nil]
        exact (hI.mv mv7).mv mv10
      · simp only [List.flatten_append, List.flatten_cons, List.flatten_nil, List.append_nil]
        intro r hr
        rcases List.mem_append.1 hr with hr | hr
        · exact ((hO.mv mv7).mv mv10) r hr
        · simp only [List.mem_singleton] at hr
          subst hr
          exact ⟨rfl, ⟨_, scr⟩, sv, rfl, hsv7.mv mv10⟩
      · simp only; omega
      · simp only; omega
    · have hjq : j = qo + 1 := by omega
      refine ZC.exit ?_; refine ZP.thenX ?_; refine ZP.thenX ?_; refine ZP.blockE ?_; refine ZP.then ?_; refine ZC.seq ?_; refine ZC.region ?_
      refine ZL.val (r_ldW M5 rfl (by rfl)) rfl ?_
      refine ZL.stW M5.rebase rfl rfl (cs' := txC ver iv ov lok) rfl (by rfl) (by rfl) (by obtain ⟨_, _, h1⟩ := (M5.sub [1] rfl).own.shape; obtain ⟨_, _, h2⟩ := M5.own.shape; rw [h1, h2]; rfl) (fun w6 R6 => ?_)
      have M6 := M5.join R6
      have mv6 := (Mv.frame (w0 := w) R6).trans Mv.done
      obtain ⟨li, hli, hli2⟩ := hI.list
      obtain ⟨lo, hlo, hlo2⟩ := hO.list
      refine ZL.nil ?_; refine ZP.then ?_; refine ZC.ret ?_
      refine ZP.retC rfl rfl (M6.get inferInstance) rfl ⟨M6.ext, ⟨ver, li, lo, lok⟩, ⟨[u32 ver, iv, ov, u32 lok], rfl, iv, ov, rfl, ⟨rows, hli.symm, fun r hr => (hI r hr).1, ?_, fun i r a hr ha => InE.mv mv6 (hli2 i r a hr ha)⟩, ⟨orows, hlo.symm, fun r hr => (hO r hr).1, ?_, fun i r a hr ha => OutE.mv mv6 (hlo2 i r a hr ha)⟩⟩, ?_, ?_⟩
      · have := ((M6.sub [1, 2, 3] rfl).out).2.mv Mv.done
        simp only
        rw [hli, hrl]
        exact this
      · have := (M6.out).2.mv Mv.done
        simp only
        rw [hlo, hol]
        exact this
      · simp only; omega
      · simp only; omega
end Go.Proofs.YthcgmdmdgpljmaaDoor.Z
