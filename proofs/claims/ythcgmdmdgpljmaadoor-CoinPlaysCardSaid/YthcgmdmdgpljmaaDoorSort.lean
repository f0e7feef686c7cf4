/- slices.SortFunc, slices.SortedFunc, coin.Points. -/
import Derived.Test.YthcgmdmdgpljmaaDoorRow
import Derived.Test.YthcgmdmdgpljmaaDoorLay
import Derived.Test.YthcgmdmdgpljmaaDoorCoin
set_option linter.unusedVariables false
set_option linter.unusedSimpArgs false
set_option linter.unusedSectionVars false
set_option maxRecDepth 100000
set_option maxHeartbeats 4000000
namespace Go.Proofs.YthcgmdmdgpljmaaDoor.Z
open Go Go.RowKit Go.Sort Go.Lib

theorem insNil_ok (c : Value) (w : World) : Ret P 57 #[.slice none 0 0, .int .i64 0, .int .i64 0, c] w (fun r w' => w' = w ∧ r = .tuple #[]) := by
  refine Ret.enter4 Tryd.func57 rfl Tryd.ntmps57 rfl ?_
  refine ZC.seq ?_; refine ZC.region ?_; refine ZL.val (r_move rfl) rfl ?_; refine ZL.val (r_add rfl rfl (wrap_i64 (by omega) (by omega))) rfl ?_; refine ZL.val (r_assign rfl) rfl ?_; refine ZL.nil ?_; refine ZP.then ?_; refine ZC.block ?_
  refine ZC.loop (X := Unit) (fun _ => [(8, .int .i64 1), (0, .slice none 0 0), (1, .int .i64 0), (2, .int .i64 0), (3, c)]) (fun _ w' => w' = w) (fun _ => 0) () ⟨rfl, rfl, rfl, rfl, rfl, trivial⟩ rfl ?_
  rintro ⟨⟩ w1 rfl
  refine ZC.seq ?_; refine ZC.seq ?_; refine ZC.region ?_; refine ZL.val (r_move rfl) rfl ?_; refine ZL.val (r_move rfl) rfl ?_; refine ZL.val (r_lss rfl rfl) rfl ?_; refine ZL.nil ?_; refine ZP.then ?_
  refine ZC.condD rfl (fun hh => absurd hh (by omega)) (fun _ => ?_)
  refine ZC.exit ?_; refine ZP.thenX ?_; refine ZP.thenX ?_; refine ZP.blockE ?_
  exact ZP.end0 rfl ⟨rfl, rfl⟩
theorem pdqNil_ok (c : Value) (n : Int) (w : World) : Ret P 46 #[.slice none 0 0, .int .i64 0, .int .i64 0, .int .i64 n, c] w (fun r w' => w' = w ∧ r = .tuple #[]) := by
  refine Ret.enter5 Tryd.func46 rfl Tryd.ntmps46 rfl ?_
  refine ZC.seq ?_; refine ZC.region ?_; refine ZL.val (r_assign rfl) rfl ?_; refine ZL.nil ?_; refine ZP.then ?_; refine ZC.seq ?_; refine ZC.region ?_; refine ZL.val (r_assign rfl) rfl ?_; refine ZL.nil ?_; refine ZP.then ?_; refine ZC.block ?_
  refine ZC.loop (X := Unit) (fun _ => [(11, .bool true), (10, .bool true), (0, .slice none 0 0), (1, .int .i64 0), (2, .int .i64 0), (3, .int .i64 n), (4, c)]) (fun _ w' => w' = w) (fun _ => 0) () ⟨rfl, rfl, rfl, rfl, rfl, rfl, rfl, trivial⟩ rfl ?_
  rintro ⟨⟩ w1 rfl
  refine ZC.block ?_; refine ZC.seq ?_; refine ZC.region ?_; refine ZL.val (r_move rfl) rfl ?_; refine ZL.val (r_move rfl) rfl ?_; refine ZL.val (r_sub rfl rfl (wrap_i64 (by omega) (by omega))) rfl ?_; refine ZL.val (r_assign rfl) rfl ?_; refine ZL.nil ?_; refine ZP.then ?_; refine ZC.seq ?_; refine ZC.seq ?_; refine ZC.region ?_; refine ZL.val (r_move rfl) rfl ?_; refine ZL.val (r_leq rfl rfl) rfl ?_; refine ZL.nil ?_; refine ZP.then ?_
  refine ZC.condD rfl (fun _ => ?_) (fun hh => absurd (by omega) hh)
  refine ZC.seq ?_; refine ZC.region ?_; refine ZL.val (r_move rfl) rfl ?_; refine ZL.val (r_move rfl) rfl ?_; refine ZL.val (r_move rfl) rfl ?_; refine ZL.val (r_move rfl) rfl ?_
  refine ZL.call (r_call rfl) rfl (insNil_ok c w1) (fun v2 w2 hv => ?_)
  obtain ⟨rfl, rfl⟩ := hv
  refine ZL.nil ?_; refine ZP.then ?_; refine ZC.ret ?_; refine ZP.thenR ?_; refine ZP.blockR ?_; refine ZP.thenR ?_; refine ZP.blockR ?_
  exact ZP.ret0 rfl ⟨rfl, rfl⟩

theorem LenNil_ok (w : World) : Ret P 47 #[.int .u64 0] w (fun r w' => w' = w ∧ ∃ n, r = .int .i64 n) := by
  have h := Any.bits_Len (SlLaysF0.n15.bits (P := Tryd.prog) (ρ := Tryd.sortPt_ren) { Tryd.sortPt with }) 0 w (by omega) (by omega)
  exact ⟨h.mono fun e w' ⟨he, hw⟩ => ⟨_, he, hw, _, rfl⟩⟩

theorem sortNil_ok (c : Value) (w : World) : Ret P 34 #[.slice none 0 0, c] w (fun r w' => w' = w ∧ r = .tuple #[]) := by
  refine Ret.enter2 Tryd.func34 rfl Tryd.ntmps34 rfl ?_
  refine ZC.seq ?_; refine ZC.region ?_; refine ZL.val (r_move rfl) rfl ?_; refine ZL.val (r_lenSlice rfl) rfl ?_; refine ZL.val (r_assign rfl) rfl ?_; refine ZL.nil ?_; refine ZP.then ?_; refine ZC.region ?_; refine ZL.val (r_move rfl) rfl ?_; refine ZL.val (r_move rfl) rfl ?_; refine ZL.val (r_move rfl) rfl ?_; refine ZL.val (r_convInt rfl (wrap_u64 (by omega) (by omega))) rfl ?_
  refine ZL.call (r_call rfl) rfl (LenNil_ok w) (fun v2 w2 hv => ?_)
  obtain ⟨rfl, l, rfl⟩ := hv
  refine ZL.val (r_move rfl) rfl ?_
  refine ZL.call (r_call rfl) rfl (pdqNil_ok c l w2) (fun v2 w2 hv => ?_)
  obtain ⟨rfl, rfl⟩ := hv
  refine ZL.nil ?_
  exact ZP.end0 rfl ⟨rfl, rfl⟩

theorem cmpLays (blk off size : Nat) (w : World) : CmpLays Tryd.prog 28 #[] Pt.cells 33 cmpP blk off size w := by
  intro m os dk hs x y
  refine (coinCompareG x y _).h.mono ?_
  rintro e w' ⟨v, rfl, _, hG, rfl⟩
  exact ⟨rfl, hG⟩
theorem cmp_eg : ∀ args w, (callFunc 28 args).run Tryd.prog w = .ok (.enter 28 args) w := enters_of Tryd.func28 (by kernel_rfl) rfl
theorem Pt.oneL (x : Pt) : ∀ v ∈ x.cells, v.oneCell' = true := by have := x.one; simpa [List.all_eq_true] using this

theorem SortFunc_ok (e n : Nat) (v : Value) (xs : List Pt) (w : World) (hO : OwnR w e 33 v n (flatP xs)) (hl : xs.length = n) (hn : n ≤ 100000) :
    Ret P 34 #[v, .func (.func 28) #[] #[]] w
      (fun r w' => r = .tuple #[] ∧ ExtX w (fun b => v.ownBlock = some b) w' ∧ ∃ ys : List Pt, ys.Perm xs ∧ ys.Pairwise (fun a b => ¬ ltP b a) ∧ OwnR w' e 33 v n (flatP ys)) := by
  rcases hO.2 with ⟨rfl, rfl⟩ | ⟨g, cap, cur, rfl, hg, h1, h2, h3, h4⟩
  · obtain rfl : xs = [] := List.length_eq_zero_iff.1 hl
    refine (sortNil_ok _ w).mono fun r w' ⟨hw, hr⟩ => ⟨hr, hw ▸ ExtX.refl _ _, [], List.Perm.refl _, List.Pairwise.nil, hw ▸ hO⟩
  · have hH := row_holds hg h4 hl
    have hlt : g < w.heap.size := (Array.getElem?_eq_some_iff.1 hg).1
    have hcon := AnyQ.slices_SortFunc Tryd.sortPt 33 (by intro w; exact Tryd.isAgg41 w) (by intro w; exact Tryd.sizeOf41 w) Pt.cells Pt.length Pt.oneL cmpP cmpP_swo 28 #[] g 0 cap xs.toArray w cmp_eg (cmpLays g 0 _ w) hH hlt (by simp; omega)
    simp only [List.size_toArray, hl] at hcon
    refine ⟨Calls.mono hcon ?_⟩
    rintro r w' ⟨rfl, d', m, os, hp, hs, rfl⟩
    refine ⟨_, rfl, rfl, ?_⟩
    obtain ⟨hsz, _, hperm⟩ := hp
    have hsz' : d'.size = n := by simpa [hl] using hsz
    have hb := row_back (d' := d'.toList) (m := m) (os := os) hg (Nat.le_trans (Nat.mul_le_mul_right 33 h1) h3) (by simpa using hsz')
    rw [Array.toArray_toList] at hb
    obtain ⟨hE, cur', hg', hsc, ht⟩ := hb
    refine ⟨?_, d'.toList, ?_, ?_, ?_, .inr ⟨g, cap, cur', rfl, hg', h1, h2, by rw [hsc]; exact h3, ht⟩⟩
    · exact hE.mono fun b hb => by subst hb; rfl
    · have e1 : d'.extract 0 n = d' := by rw [← hsz']; exact Array.extract_size
      have e2 : xs.toArray.extract 0 n = xs.toArray := by rw [show n = xs.toArray.size by simp [hl]]; exact Array.extract_size
      rw [e1, e2] at hperm
      exact hperm
    · rw [List.pairwise_iff_getElem]
      intro i j hi hj hij
      have := hs i j (Nat.zero_le _) hij (by simpa [hsz'] using hj)
      rw [getElem!_pos d' j (by simpa using hj), getElem!_pos d' i (by simpa using hi)] at this
      simp only [ltOf, decide_eq_false_iff_not, cmpP_lt] at this
      simpa using this
    · rw [flatP_length]; simp [hsz']

theorem SortedFunc_ok (Bm b : Nat) (m : CMap) (es : Array MapEntry) (clk : Nat) (fz : Nat × Nat) (w : World) (hBm : w.heap[Bm]? = some (.cells #[.map (some b)] 57 fz)) (hm : w.heap[b]? = some (.map es clk)) (hO : CObj m es clk) (hn : m.length ≤ 100000) :
    Ret P 26 #[.func (.func KF) #[] #[.pointer (some ⟨Bm, 0, none⟩)], .func (.func 28) #[] #[]] w
      (fun r w' => Ext w w' ∧ ∃ xs : List Pt, xs.Perm (m.map (·.1)) ∧ xs.Pairwise ltP ∧ NewO w w' 41 33 r xs.length (flatP xs)) := by
  refine Ret.enter2 Tryd.func26 rfl Tryd.ntmps26 rfl ?_
  refine ZC.seq ?_; refine ZC.region ?_; refine ZL.val (r_assign rfl) rfl ?_; refine ZL.nil ?_; refine ZP.then ?_; refine ZC.seq ?_; refine ZC.region ?_; refine ZL.val (r_move rfl) rfl ?_
  refine ZL.call (r_call rfl) rfl (Collect_ok Bm b m es clk fz w hBm hm hO hn) (fun v2 w2 ⟨E2, xs, hp, hN⟩ => ?_)
  have hxl : xs.length ≤ 100000 := by rw [hp.length_eq]; simpa using hn
  have hx : (xs.map Pt.cells).flatten = flatP xs := rfl
  rw [hx] at hN
  refine ZL.val (r_assign rfl) rfl ?_; refine ZL.nil ?_; refine ZP.then ?_; refine ZC.seq ?_; refine ZC.region ?_; refine ZL.val (r_move rfl) rfl ?_; refine ZL.val (r_move rfl) rfl ?_
  refine ZL.call (r_call rfl) rfl (SortFunc_ok _ _ v2 xs w2 hN.own rfl hxl) (fun v3 w3 ⟨hr, E3, ys, hq, hs, hO3⟩ => ?_)
  subst hr
  refine ZL.nil ?_; refine ZP.then ?_; refine ZC.seq ?_; refine ZC.region ?_; refine ZL.val (r_move rfl) rfl ?_; refine ZL.val (r_assign rfl) rfl ?_; refine ZL.nil ?_; refine ZP.then ?_; refine ZC.ret ?_
  refine ZP.ret1 rfl rfl ⟨?_, ys, hq.trans hp, ?_, ?_, ?_⟩
  · refine ExtX.trans E2 E3 (fun _ h => h) fun k hk hv => ?_
    have := hN.new k hv
    omega
  · have hnd : ys.Nodup := (hq.trans hp).symm.nodup hO.nod
    have hnd' : ys.Pairwise (fun a b => a ≠ b) := hnd
    refine (hs.and hnd').imp fun {a b} ⟨h1, h2⟩ => ?_
    rcases ltP_total a b with h | h | h
    · exact h
    · exact absurd h h2
    · exact absurd h h1
  · rw [hq.length_eq]; exact hO3
  · exact hN.new

theorem Points_ok (bs bm : Nat) (m : CMap) (w : World) (h : SetR w bs bm m) (hn : m.length ≤ 100000) :
    Ret P 9 #[.pointer (some ⟨bs, 0, none⟩)] w
      (fun r w' => Ext w w' ∧ ∃ xs : List Pt, xs.Perm (m.map (·.1)) ∧ xs.Pairwise ltP ∧ NewO w w' 41 33 r xs.length (flatP xs)) := by
  obtain ⟨hs, es, clk, hm, hO⟩ := h
  refine Ret.enter1 Tryd.func9 rfl Tryd.ntmps9 rfl ?_
  refine ZC.seq ?_; refine ZC.region ?_; refine ZL.val (r_assign rfl) rfl ?_; refine ZL.nil ?_; refine ZP.then ?_; refine ZC.seq ?_; refine ZC.region ?_; refine ZL.val (r_move rfl) rfl ?_; refine ZL.val (r_nilCheck rfl) rfl ?_; refine ZL.val (r_fieldAddr rfl) rfl ?_
  refine ZL.val (r_load1 rfl hs rfl) rfl ?_
  refine ZL.call (r_call rfl) rfl (Keys_ok bm w) (fun v2 w2 ⟨Bm, M2, hr⟩ => ?_)
  subst hr
  refine ZL.call (r_call rfl) rfl (SortedFunc_ok Bm bm m es clk (0, 0) w2 (M2.get inferInstance) (M2.ext.at hm id) hO hn) (fun v3 w3 ⟨E3, xs, hp, hs3, hN⟩ => ?_)
  refine ZL.val (r_assign rfl) rfl ?_; refine ZL.nil ?_; refine ZP.then ?_; refine ZC.ret ?_
  exact ZP.ret1 rfl rfl ⟨ExtX.trans M2.ext E3 (fun _ h => h) (fun _ _ h => h), xs, hp, hs3, hN.own, fun g hg => Nat.le_trans M2.ext.size (hN.new g hg)⟩
end Go.Proofs.YthcgmdmdgpljmaaDoor.Z
