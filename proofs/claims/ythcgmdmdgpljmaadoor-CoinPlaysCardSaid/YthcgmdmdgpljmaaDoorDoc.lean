/- The document's coins: a sorted list; where one stands. The document's coins: Get, Put, Take, Points. The document's coins: Points, Make, Unmake. What CoinPlays keeps: both sets, and a transaction. -/
import Derived.Test.YthcgmdmdgpljmaaDoorLess
import Derived.Test.YthcgmdmdgpljmaaDoorPlain
import Derived.Test.YthcgmdmdgpljmaaDoorRecs
import Derived.Test.YthcgmdmdgpljmaaDoorAwake
import Derived.Test.YthcgmdmdgpljmaaDoorPoint
set_option linter.unusedVariables false
set_option linter.unusedSimpArgs false
set_option linter.unusedSectionVars false
set_option maxRecDepth 100000
set_option maxHeartbeats 4000000
namespace Go.Proofs.YthcgmdmdgpljmaaDoor.Z
section
open Go Go.RowKit Go.Lib

section
variable {P : Program} {n : Nat} {ops : Array Oper} {K : Act → Prop} {rest : List Oper} {σ : Env} {w : World}
theorem ZS.on {dst : Option Tmp} {op : Op} {ty : TypeId} {pos : String} {after : Array Edge} {j : Nat} {want : Bool} {g : Nat} {b : Bool}
    (hg : ((ops[j]?).bind (·.dst)) = some g) (hb : lk σ g = some (.bool b)) (hne : (b == want) = true)
    (h : ZS P n ops K (⟨dst, op, ty, pos, after, none⟩ :: rest) σ w) : ZS P n ops K (⟨dst, op, ty, pos, after, some (j, want)⟩ :: rest) σ w := by
  refine ⟨fun a ha => ?_⟩
  have hy : yielded ops a.tmps j = some b := by simp [yielded, hg, ha.at' g _ hb]
  have hwant : Region.wanted ⟨dst, op, ty, pos, after, some (j, want)⟩ (yielded ops a.tmps) = true := by simp [Region.wanted, hy]; simpa using hne
  have h1 := h.h a ha
  unfold wpStill at h1 ⊢
  rw [if_pos hwant]
  rw [if_pos (by simp [Region.wanted])] at h1
  exact h1
theorem ZS.skip {d : Nat} {op : Op} {ty : TypeId} {pos : String} {after : Array Edge} {j : Nat} {want : Bool} {g : Nat} {b : Bool}
    (hg : ((ops[j]?).bind (·.dst)) = some g) (hb : lk σ g = some (.bool b)) (hne : (b == want) = false) (hd : Nat.blt d n = true)
    (h : ZS P n ops K rest ((d, undef) :: σ) w) : ZS P n ops K (⟨some d, op, ty, pos, after, some (j, want)⟩ :: rest) σ w := by
  refine ⟨fun a ha => ?_⟩
  have hy : yielded ops a.tmps j = some b := by simp [yielded, hg, ha.at' g _ hb]
  have hwant : Region.wanted ⟨some d, op, ty, pos, after, some (j, want)⟩ (yielded ops a.tmps) = false := by simp [Region.wanted, hy, hne]
  unfold wpStill
  rw [if_neg (by rw [hwant]; simp)]
  exact h.h _ (ha.put hd)
end

instance (p q : Pt) : Decidable (ltP p q) := by unfold ltP; exact inferInstance
def Sorted (ks : CMap) : Prop := ks.Pairwise fun a b => ltP a.1 b.1
theorem Sorted.nodup {ks : CMap} (h : Sorted ks) : (ks.map (·.1)).Nodup := by
  rw [List.nodup_iff_pairwise_ne, List.pairwise_map]
  exact List.Pairwise.imp (fun {a b} hab (e : a.1 = b.1) => ltP_irrefl b.1 (by rw [e] at hab; exact hab)) h
theorem mget_perm {m ks : CMap} (hp : ks.Perm m) (hn : (ks.map (·.1)).Nodup) (p : Pt) : mget ks p = mget m p := by
  have hm : (m.map (·.1)).Nodup := (hp.map _).nodup hn
  cases h : mget ks p with
  | none =>
    rw [mget_none] at h
    exact (mget_none.2 fun hh => h ((hp.map _).symm.subset hh)).symm
  | some v => exact (mget_of_mem hm (hp.subset (mget_mem h))).symm
/-- Where a point stands, or would. -/
structure IsPos (ks : CMap) (p : Pt) (k : Nat) : Prop where
  le : k ≤ ks.length
  lt : ∀ i (h : i < ks.length), i < k → ltP ks[i].1 p
  ge : ∀ h : k < ks.length, ¬ ltP ks[k].1 p
def hitAt (ks : CMap) (p : Pt) (k : Nat) : Bool := if h : k < ks.length then decide (ks[k].1 = p) else false
section
variable {ks m : CMap} {p : Pt} {k : Nat} {c : Cn}
theorem IsPos.gt (h : IsPos ks p k) (hs : Sorted ks) (hn : hitAt ks p k = false) {i : Nat} (hi : i < ks.length) (hki : k ≤ i) : ltP p ks[i].1 := by
  have hk : k < ks.length := by omega
  have h1 : ks[k].1 ≠ p := by simpa [hitAt, hk] using hn
  have h2 : ltP p ks[k].1 := (ltP_total p ks[k].1).resolve_right fun hh => hh.elim (fun e => h1 e.symm) (h.ge hk)
  rcases Nat.lt_or_ge k i with h3 | h3
  · exact ltP_trans h2 (List.pairwise_iff_getElem.1 hs k i hk hi h3)
  · obtain rfl : k = i := by omega
    exact h2
theorem IsPos.hit (h : IsPos ks p k) (hs : Sorted ks) : hitAt ks p k = (mget ks p).isSome := by
  rw [Bool.eq_iff_iff, mget_isSome]
  constructor
  · intro hh
    unfold hitAt at hh
    split at hh
    · rename_i hk
      simp only [decide_eq_true_eq] at hh
      rw [← hh]
      exact List.mem_map.2 ⟨ks[k], List.getElem_mem hk, rfl⟩
    · cases hh
  · intro hm
    cases hn : hitAt ks p k with
    | true => rfl
    | false =>
      exfalso
      obtain ⟨x, hx, rfl⟩ := List.mem_map.1 hm
      obtain ⟨i, hi, rfl⟩ := List.getElem_of_mem hx
      rcases Nat.lt_or_ge i k with h1 | h1
      · exact ltP_irrefl _ (h.lt i hi h1)
      · exact ltP_irrefl _ (h.gt hs hn hi h1)
theorem IsPos.put (h : IsPos ks p k) (hs : Sorted ks) (hp : ks.Perm m) (hn : hitAt ks p k = false) : Sorted (ks.take k ++ (p, c) :: ks.drop k) ∧ (ks.take k ++ (p, c) :: ks.drop k).Perm (sput m p c) := by
  have hk := h.le
  have hlow : ∀ x ∈ ks.take k, ltP x.1 p := by
    intro x hx
    obtain ⟨i, hi, rfl⟩ := List.getElem_of_mem hx
    rw [List.length_take] at hi
    rw [List.getElem_take]
    exact h.lt i (by omega) (by omega)
  have hhigh : ∀ x ∈ ks.drop k, ltP p x.1 := by
    intro x hx
    obtain ⟨i, hi, rfl⟩ := List.getElem_of_mem hx
    rw [List.length_drop] at hi
    rw [List.getElem_drop]
    exact h.gt hs hn (by omega) (by omega)
  constructor
  · unfold Sorted
    rw [List.pairwise_append]
    refine ⟨hs.sublist (List.take_sublist _ _), List.pairwise_cons.2 ⟨fun x hx => hhigh x hx, hs.sublist (List.drop_sublist _ _)⟩, fun a ha b hb => ?_⟩
    rcases List.mem_cons.1 hb with rfl | hb
    · exact hlow a ha
    · exact ltP_trans (hlow a ha) (hhigh b hb)
  · have hnone : mget m p = none := by
      have h1 := h.hit hs
      rw [hn, mget_perm hp hs.nodup] at h1
      cases hh : mget m p with
      | none => rfl
      | some v => rw [hh] at h1; cases h1
    rw [sput, hnone, if_neg (by decide), mput_new hnone]
    refine List.perm_middle.trans ?_
    rw [List.take_append_drop]
    refine (List.Perm.cons _ hp).trans ?_
    have := (List.perm_append_comm (l₁ := [(p, c)]) (l₂ := m))
    simpa using this
theorem IsPos.del (h : IsPos ks p k) (hs : Sorted ks) (hp : ks.Perm m) (hk : k < ks.length) (hn : ks[k].1 = p) : Sorted (ks.take k ++ ks.drop (k + 1)) ∧ (ks.take k ++ ks.drop (k + 1)).Perm (mdel m p) := by
  have e : ks = ks.take k ++ ks[k] :: ks.drop (k + 1) := by rw [← List.drop_eq_getElem_cons hk, List.take_append_drop]
  have hlow : ∀ x ∈ ks.take k, x.1 ≠ p := by
    intro x hx
    obtain ⟨i, hi, rfl⟩ := List.getElem_of_mem hx
    rw [List.length_take] at hi
    rw [List.getElem_take]
    intro e
    have := h.lt i (by omega) (by omega)
    rw [e] at this
    exact ltP_irrefl _ this
  have hhigh : ∀ x ∈ ks.drop (k + 1), x.1 ≠ p := by
    intro x hx
    obtain ⟨i, hi, rfl⟩ := List.getElem_of_mem hx
    rw [List.length_drop] at hi
    rw [List.getElem_drop]
    intro e
    have := List.pairwise_iff_getElem.1 hs k (k + 1 + i) hk (by omega) (by omega)
    rw [e, hn] at this
    exact ltP_irrefl _ this
  constructor
  · refine hs.sublist ?_
    conv => rhs; rw [e]
    exact List.Sublist.append (List.Sublist.refl _) (List.sublist_cons_self _ _)
  · have h1 : mdel ks p = ks.take k ++ ks.drop (k + 1) := by
      conv => lhs; rw [e]
      rw [mdel, List.filter_append, List.filter_cons]
      rw [if_neg (by simp [hn]), List.filter_eq_self.2 (fun x hx => by simpa using hlow x hx), List.filter_eq_self.2 (fun x hx => by simpa using hhigh x hx)]
    rw [← h1]
    exact hp.filter _
theorem IsPos.get (h : IsPos ks p k) (hs : Sorted ks) (hp : ks.Perm m) (hk : k < ks.length) (hn : ks[k].1 = p) : mget m p = some ks[k].2 := by
  rw [← mget_perm hp hs.nodup]
  refine mget_of_mem hs.nodup ?_
  rw [← hn]
  exact List.getElem_mem hk
end

/-! ### In memory -/
def k37 (x : Pt × Cn) : List Value := x.1.cells ++ x.2.cells.toList
theorem k37_length (x : Pt × Cn) : (k37 x).length = 37 := by simp [k37, Pt.length, Cn.cells]
theorem k37_pt (x : Pt × Cn) {cs : Array Value} {o : Nat} (h : cs.extract o (o + 37) = (k37 x).toArray) : cs.extract o (o + 33) = x.1.cells.toArray := by
  have h1 : (cs.extract o (o + 37)).extract 0 33 = cs.extract o (o + 33) := by
    rw [Array.extract_extract]; congr 1 <;> omega
  rw [← h1, h]
  simp [k37, ← x.1.length]
theorem k37_cn (x : Pt × Cn) {cs : Array Value} {o : Nat} (h : cs.extract o (o + 37) = (k37 x).toArray) : cs.extract (o + 33) (o + 33 + 4) = x.2.cells := by
  have h1 : (cs.extract o (o + 37)).extract 33 37 = cs.extract (o + 33) (o + 33 + 4) := by
    rw [Array.extract_extract]; congr 1; omega
  rw [← h1, h]
  apply Array.ext'
  simp [k37, Pt.length, Cn.cells]
abbrev KeptR (w : World) (Y : Nat → Prop) (v : Value) (ks : CMap) : Prop := ListR (fun _ _ r x => r = k37 x) 37 w Y v ks
theorem KeptR.mv {w w' : World} {Y Y' : Nat → Prop} {v : Value} {ks : CMap} (h : KeptR w Y v ks) (m : Mv w Y w' Y') : KeptR w' Y' v ks := ListR.mv (w := w) (X := Y) (fun _ _ h => h) h m
theorem KeptR.of {w : World} {Y : Nat → Prop} {v : Value} {ks : CMap} (h : SlC w Y 37 v ks.length ((ks.map k37).flatten)) : KeptR w Y v ks :=
  ⟨ks.map k37, by simp, fun r hr => by obtain ⟨p, _, rfl⟩ := List.mem_map.1 hr; exact k37_length p, h, fun i r a hr ha => by simp [ha] at hr; exact hr.symm⟩
theorem KeptR.slc {w : World} {Y : Nat → Prop} {v : Value} {ks : CMap} (h : KeptR w Y v ks) : SlC w Y 37 v ks.length ((ks.map k37).flatten) := by
  obtain ⟨rows, h1, h2, h3, h4⟩ := h
  have : rows = ks.map k37 := by
    apply List.ext_getElem?
    intro i
    by_cases hi : i < ks.length
    · rw [List.getElem?_map, List.getElem?_eq_getElem hi, List.getElem?_eq_getElem (by omega)]
      simp only [Option.map_some, Option.some.injEq]
      exact h4 i _ _ (List.getElem?_eq_getElem (by omega)) (List.getElem?_eq_getElem hi)
    · rw [List.getElem?_eq_none (by omega), List.getElem?_eq_none (by simp; omega)]
  rw [this] at h3
  exact h3
theorem k37_one (l : CMap) : ∀ x ∈ (l.map k37).flatten, x.oneCell' = true := by
  intro x hx
  simp only [List.mem_flatten, List.mem_map] at hx
  obtain ⟨r, ⟨p, _, rfl⟩, hx⟩ := hx
  simp only [k37, List.mem_append] at hx
  rcases hx with hx | hx
  · have := p.1.one
    rw [List.all_eq_true] at this
    exact this x (by simpa using hx)
  · have := p.2.one
    rw [List.all_eq_true] at this
    exact this x hx
/-- The document's set in memory. -/
def RefS (w : World) (Y : Nat → Prop) (bw : Nat) (m : CMap) : Prop :=
  ¬ Y bw ∧ ∃ v ks, w.heap[bw]? = some (.cells #[v] 55 (0, 0)) ∧ KeptR w Y v ks ∧ Sorted ks ∧ ks.Perm m
theorem RefS.mv {w w' : World} {Y Y' : Nat → Prop} {bw : Nat} {m : CMap} (h : RefS w Y bw m) (mv : Mv w Y w' Y') : RefS w' Y' bw m := by
  obtain ⟨hY, v, ks, hb, hk, hs, hp⟩ := h
  have hlt := (Array.getElem?_eq_some_iff.1 hb).1
  exact ⟨fun h => hY (mv.sub bw hlt h), v, ks, (mv.keep bw hlt hY).trans hb, hk.mv mv, hs, hp⟩
/-- What a call that turned the document's set leaves. -/
structure RefU (w w' : World) (Y : Nat → Prop) (bw : Nat) (m : CMap) : Prop where
  ext : ExtX w (· = bw) w'
  r : RefS w' (fun b => Y b ∧ b < w.heap.size) bw m

theorem refLessP_ok (p q : Pt) (w : World) : Ret P 44 #[p.v, q.v] w (fun r w' => Ext w w' ∧ r = .bool (decide (ltP p q))) := by
  refine Ret.enter2 Tryd.func44 rfl Tryd.ntmps44 rfl ?_
  refine ZC.seq ?_; refine ZC.region ?_
  refine ZL.box (Mem.start w No) rfl rfl rfl (fun b2 w1 M1 => ?_)
  refine ZL.box M1 rfl rfl rfl (fun b3 w2 M2 => ?_)
  refine ZL.val (r_assign rfl) rfl ?_; refine ZL.nil ?_; refine ZP.then ?_; refine ZC.seq ?_; refine ZC.seq ?_; refine ZC.region ?_; refine ZL.val (r_fieldAddr rfl) rfl ?_
  refine ZL.val (r_loadN rfl (M2.get (b := b2) inferInstance) (by rw [Pt.size]; decide) (Pt.id_extract _)) rfl ?_
  refine ZL.val (r_fieldAddr rfl) rfl ?_
  refine ZL.val (r_loadN rfl (M2.get (b := b3) inferInstance) (by rw [Pt.size]; decide) (Pt.id_extract _)) rfl ?_
  refine ZL.val (r_neqB32 (p := p.id) (q := q.id) rfl rfl) rfl ?_
  by_cases hid : p.id = q.id
  · rw [show (!decide (p.id = q.id)) = false by simp [hid]]
    refine ZL.nil ?_; refine ZP.then ?_; refine ZC.condF rfl ?_; refine ZC.skip ?_; refine ZP.then ?_; refine ZC.seq ?_; refine ZC.region ?_; refine ZL.val (r_fieldAddr rfl) rfl ?_
    refine ZL.val (r_load1 rfl (M2.get (b := b2) inferInstance) (Pt.vout_at _)) rfl ?_
    refine ZL.val (r_fieldAddr rfl) rfl ?_
    refine ZL.val (r_load1 rfl (M2.get (b := b3) inferInstance) (Pt.vout_at _)) rfl ?_
    refine ZL.val (r_lss rfl rfl) rfl ?_; refine ZL.val (r_assign rfl) rfl ?_; refine ZL.nil ?_; refine ZP.then ?_; refine ZC.ret ?_
    refine ZP.ret1 rfl rfl ⟨M2.ext, congrArg Value.bool (decide_eq_decide.2 ?_)⟩
    unfold ltP
    rw [hid, cb_self]
    simp [UInt32.lt_iff_toNat_lt]
  · rw [show (!decide (p.id = q.id)) = true by simp [hid]]
    refine ZL.nil ?_; refine ZP.then ?_; refine ZC.condT rfl ?_; refine ZC.seq ?_; refine ZC.region ?_; refine ZL.val (r_fieldAddr rfl) rfl ?_
    refine ZL.val (r_loadN rfl (M2.get (b := b2) inferInstance) (by rw [Pt.size]; decide) (Pt.id_extract _)) rfl ?_
    refine ZL.val (r_fieldAddr rfl) rfl ?_
    refine ZL.val (r_loadN rfl (M2.get (b := b3) inferInstance) (by rw [Pt.size]; decide) (Pt.id_extract _)) rfl ?_
    refine ZL.call (r_call rfl) rfl (refLess_ok p.id q.id w2) (fun v3 w3 ⟨E3, hr⟩ => ?_)
    subst hr
    have M3 := M2.ext' E3
    refine ZL.val (r_assign rfl) rfl ?_; refine ZL.nil ?_; refine ZP.then ?_; refine ZC.ret ?_; refine ZP.thenR ?_
    refine ZP.ret1 rfl rfl ⟨M3.ext, congrArg Value.bool (decide_eq_decide.2 ?_)⟩
    unfold ltP
    simp [hid]

theorem At_ok (Y : Nat → Prop) (bw : Nat) (v : Value) (ks : CMap) (p : Pt) (w : World) (hb : w.heap[bw]? = some (.cells #[v] 55 (0, 0))) (hk : KeptR w Y v ks) (hn : ks.length ≤ 100000) :
    Ret P 32 #[.pointer (some ⟨bw, 0, none⟩), p.v] w (fun r w' => Ext w w' ∧ ∃ k, IsPos ks p k ∧ r = .tuple #[.int .i64 k, .bool (hitAt ks p k)]) := by
  obtain ⟨pv, cv, rfl⟩ := hk.shape
  refine Ret.enter2 Tryd.func32 rfl Tryd.ntmps32 rfl ?_
  refine ZC.seq ?_; refine ZC.region ?_
  refine ZL.box (Mem.start w No) rfl rfl rfl (fun b3 w1 M1 => ?_)
  refine ZL.val (r_assign rfl) rfl ?_; refine ZL.val (r_assign rfl) rfl ?_; refine ZL.nil ?_; refine ZP.then ?_; refine ZC.seq ?_; refine ZC.region ?_; refine ZL.val (r_assign rfl) rfl ?_; refine ZL.nil ?_; refine ZP.then ?_
  refine ZC.mid (X := Nat) (fun k => [(6, .int .i64 k), (3, .pointer (some ⟨b3, 0, none⟩)), (0, .pointer (some ⟨bw, 0, none⟩))])
    (fun k w' => IsPos ks p k ∧ Mem w No [.blk b3 (.cells p.cells.toArray 41)] w') ?_ ?_
  · refine ZC.block ?_
    refine ZC.loop (X := Nat) (fun k => [(6, .int .i64 k), (3, .pointer (some ⟨b3, 0, none⟩)), (0, .pointer (some ⟨bw, 0, none⟩))])
      (fun k w' => k ≤ ks.length ∧ (∀ i (h : i < ks.length), i < k → ltP ks[i].1 p) ∧ Mem w No [.blk b3 (.cells p.cells.toArray 41)] w') (fun k => ks.length - k) 0 ⟨rfl, rfl, rfl, trivial⟩ ⟨by omega, fun i h hi => by omega, M1⟩ ?_
    rintro k w2 ⟨hkl, hlow, M2⟩
    refine ZC.seq ?_; refine ZC.seq ?_
    by_cases hkn : k < ks.length
    · obtain ⟨g, o, cs, e, fz, r, rfl, hg, _, _, hre, _, hsz, hext⟩ := ListR.elem (by decide) (hk.mv (Mv.ext M2.ext)) hkn
      subst hre
      refine ZC.turning (Holds [(b3, .cells p.cells.toArray 41), (bw, .cells #[.slice (some ⟨g, o, none⟩) ks.length cv] 55 (0, 0)), (g, .cells cs e fz)]) 18 rfl (by kernel_rfl) rfl rfl rfl (fun w3 E3 _ => ?_)
      have M3 := M2.ext' E3
      have S3 : Holds [(b3, .cells p.cells.toArray 41), (bw, .cells #[.slice (some ⟨g, o, none⟩) ks.length cv] 55 (0, 0)), (g, .cells cs e fz)] w3 := ⟨M3.get inferInstance, M3.ext.at hb id, E3.at hg id, trivial⟩
      refine ZT.take 0 rfl rfl (fun w' hS' => by first | exact r_move rfl | exact r_assign rfl | exact r_fieldAddr rfl | exact r_add rfl rfl (wrap_i64 (by omega) (by omega)) | exact r_sub rfl rfl (wrap_i64 (by omega) (by omega)) | exact r_mul rfl rfl (wrap_i64 (by omega) (by omega)) | exact r_convInt rfl (wrap_u64 (by omega) (by omega)) | exact r_convInt rfl (wrap_i64 (by omega) (by omega)) | exact r_convInt rfl (wrap_u32 (by omega) (by omega)) | exact r_sliceArr rfl | exact r_nilCheck rfl | exact r_extract rfl rfl | exact r_lenSlice rfl | exact r_and rfl rfl rfl | exact r_shr rfl rfl (by omega) rfl | exact r_toB rfl | exact r_toU rfl | exact r_toQ rfl) (by kernel_rfl) rfl (by kernel_rfl) (by kernel_rfl) rfl rfl (fun _ _ _ _ h => h) S3 ?_
      refine ZT.take 1 rfl rfl (fun w' hS' => by first | exact r_move rfl | exact r_assign rfl | exact r_fieldAddr rfl | exact r_add rfl rfl (wrap_i64 (by omega) (by omega)) | exact r_sub rfl rfl (wrap_i64 (by omega) (by omega)) | exact r_mul rfl rfl (wrap_i64 (by omega) (by omega)) | exact r_convInt rfl (wrap_u64 (by omega) (by omega)) | exact r_convInt rfl (wrap_i64 (by omega) (by omega)) | exact r_convInt rfl (wrap_u32 (by omega) (by omega)) | exact r_sliceArr rfl | exact r_nilCheck rfl | exact r_extract rfl rfl | exact r_lenSlice rfl | exact r_and rfl rfl rfl | exact r_shr rfl rfl (by omega) rfl | exact r_toB rfl | exact r_toU rfl | exact r_toQ rfl) (by kernel_rfl) rfl (by kernel_rfl) (by kernel_rfl) rfl rfl (fun _ _ _ _ h => h) S3 ?_
      refine ZT.take 2 rfl rfl (fun w' hS' => by first | exact r_move rfl | exact r_assign rfl | exact r_fieldAddr rfl | exact r_add rfl rfl (wrap_i64 (by omega) (by omega)) | exact r_sub rfl rfl (wrap_i64 (by omega) (by omega)) | exact r_mul rfl rfl (wrap_i64 (by omega) (by omega)) | exact r_convInt rfl (wrap_u64 (by omega) (by omega)) | exact r_convInt rfl (wrap_i64 (by omega) (by omega)) | exact r_convInt rfl (wrap_u32 (by omega) (by omega)) | exact r_sliceArr rfl | exact r_nilCheck rfl | exact r_extract rfl rfl | exact r_lenSlice rfl | exact r_and rfl rfl rfl | exact r_shr rfl rfl (by omega) rfl | exact r_toB rfl | exact r_toU rfl | exact r_toQ rfl) (by kernel_rfl) rfl (by kernel_rfl) (by kernel_rfl) rfl rfl (fun _ _ _ _ h => h) S3 ?_
      refine ZT.take 3 rfl rfl (fun w' hS' => by first | exact r_move rfl | exact r_assign rfl | exact r_fieldAddr rfl | exact r_add rfl rfl (wrap_i64 (by omega) (by omega)) | exact r_sub rfl rfl (wrap_i64 (by omega) (by omega)) | exact r_mul rfl rfl (wrap_i64 (by omega) (by omega)) | exact r_convInt rfl (wrap_u64 (by omega) (by omega)) | exact r_convInt rfl (wrap_i64 (by omega) (by omega)) | exact r_convInt rfl (wrap_u32 (by omega) (by omega)) | exact r_sliceArr rfl | exact r_nilCheck rfl | exact r_extract rfl rfl | exact r_lenSlice rfl | exact r_and rfl rfl rfl | exact r_shr rfl rfl (by omega) rfl | exact r_toB rfl | exact r_toU rfl | exact r_toQ rfl) (by kernel_rfl) rfl (by kernel_rfl) (by kernel_rfl) rfl rfl (fun _ _ _ _ h => h) S3 ?_
      refine ZT.take 4 rfl rfl (fun w' hS' => r_load1 rfl hS'.2.1 rfl) (by kernel_rfl) rfl (by kernel_rfl) (by kernel_rfl) rfl rfl (fun _ _ _ _ h => h) S3 ?_
      refine ZT.take 5 rfl rfl (fun w' hS' => by first | exact r_move rfl | exact r_assign rfl | exact r_fieldAddr rfl | exact r_add rfl rfl (wrap_i64 (by omega) (by omega)) | exact r_sub rfl rfl (wrap_i64 (by omega) (by omega)) | exact r_mul rfl rfl (wrap_i64 (by omega) (by omega)) | exact r_convInt rfl (wrap_u64 (by omega) (by omega)) | exact r_convInt rfl (wrap_i64 (by omega) (by omega)) | exact r_convInt rfl (wrap_u32 (by omega) (by omega)) | exact r_sliceArr rfl | exact r_nilCheck rfl | exact r_extract rfl rfl | exact r_lenSlice rfl | exact r_and rfl rfl rfl | exact r_shr rfl rfl (by omega) rfl | exact r_toB rfl | exact r_toU rfl | exact r_toQ rfl) (by kernel_rfl) rfl (by kernel_rfl) (by kernel_rfl) rfl rfl (fun _ _ _ _ h => h) S3 ?_
      refine ZT.take 6 rfl rfl (fun w' hS' => (r_lss rfl rfl).eq (v' := .bool true) (congrArg Value.bool (decide_eq_true (by omega)))) (by kernel_rfl) rfl (by kernel_rfl) (by kernel_rfl) rfl rfl (fun _ _ _ _ h => h) S3 ?_
      refine ZT.take 7 rfl rfl (fun w' hS' => by first | exact r_move rfl | exact r_assign rfl | exact r_fieldAddr rfl | exact r_add rfl rfl (wrap_i64 (by omega) (by omega)) | exact r_sub rfl rfl (wrap_i64 (by omega) (by omega)) | exact r_mul rfl rfl (wrap_i64 (by omega) (by omega)) | exact r_convInt rfl (wrap_u64 (by omega) (by omega)) | exact r_convInt rfl (wrap_i64 (by omega) (by omega)) | exact r_convInt rfl (wrap_u32 (by omega) (by omega)) | exact r_sliceArr rfl | exact r_nilCheck rfl | exact r_extract rfl rfl | exact r_lenSlice rfl | exact r_and rfl rfl rfl | exact r_shr rfl rfl (by omega) rfl | exact r_toB rfl | exact r_toU rfl | exact r_toQ rfl) (by kernel_rfl) rfl (by kernel_rfl) (by kernel_rfl) rfl rfl (fun _ _ _ _ h => h) S3 ?_
      refine ZT.takeOn 8 rfl rfl rfl rfl rfl (fun w' hS' => by first | exact r_move rfl | exact r_fieldAddr rfl | exact r_lenSlice rfl | exact r_add rfl rfl (wrap_i64 (by omega) (by omega)) | exact r_not rfl | exact r_nilCheck rfl | exact r_extract rfl rfl) (by kernel_rfl) rfl (by kernel_rfl) (by kernel_rfl) rfl rfl (fun _ _ _ _ h => h) S3 ?_
      refine ZT.takeOn 9 rfl rfl rfl rfl rfl (fun w' hS' => by first | exact r_move rfl | exact r_fieldAddr rfl | exact r_lenSlice rfl | exact r_add rfl rfl (wrap_i64 (by omega) (by omega)) | exact r_not rfl | exact r_nilCheck rfl | exact r_extract rfl rfl) (by kernel_rfl) rfl (by kernel_rfl) (by kernel_rfl) rfl rfl (fun _ _ _ _ h => h) S3 ?_
      refine ZT.takeOn 10 rfl rfl rfl rfl rfl (fun w' hS' => by first | exact r_move rfl | exact r_fieldAddr rfl | exact r_lenSlice rfl | exact r_add rfl rfl (wrap_i64 (by omega) (by omega)) | exact r_not rfl | exact r_nilCheck rfl | exact r_extract rfl rfl) (by kernel_rfl) rfl (by kernel_rfl) (by kernel_rfl) rfl rfl (fun _ _ _ _ h => h) S3 ?_
      refine ZT.takeOn 11 rfl rfl rfl rfl rfl (fun w' hS' => r_load1 rfl hS'.2.1 rfl) (by kernel_rfl) rfl (by kernel_rfl) (by kernel_rfl) rfl rfl (fun _ _ _ _ h => h) S3 ?_
      refine ZT.takeOn 12 rfl rfl rfl rfl rfl (fun w' hS' => by first | exact r_move rfl | exact r_fieldAddr rfl | exact r_lenSlice rfl | exact r_add rfl rfl (wrap_i64 (by omega) (by omega)) | exact r_not rfl | exact r_nilCheck rfl | exact r_extract rfl rfl) (by kernel_rfl) rfl (by kernel_rfl) (by kernel_rfl) rfl rfl (fun _ _ _ _ h => h) S3 ?_
      refine ZT.takeOn 13 rfl rfl rfl rfl rfl (fun w' hS' => r_idxS k rfl rfl rfl hkn) (by kernel_rfl) rfl (by kernel_rfl) (by kernel_rfl) rfl rfl (fun _ _ _ _ h => h) S3 ?_
      refine ZT.takeOn 14 rfl rfl rfl rfl rfl (fun w' hS' => by first | exact r_move rfl | exact r_fieldAddr rfl | exact r_lenSlice rfl | exact r_add rfl rfl (wrap_i64 (by omega) (by omega)) | exact r_not rfl | exact r_nilCheck rfl | exact r_extract rfl rfl) (by kernel_rfl) rfl (by kernel_rfl) (by kernel_rfl) rfl rfl (fun _ _ _ _ h => h) S3 ?_
      refine ZT.takeOn 15 rfl rfl rfl rfl rfl (fun w' hS' => r_loadN rfl hS'.2.2.1 (by omega) (k37_pt _ hext)) (by kernel_rfl) rfl (by kernel_rfl) (by kernel_rfl) rfl rfl (fun _ _ _ _ h => h) S3 ?_
      refine ZT.takeOn 16 rfl rfl rfl rfl rfl (fun w' hS' => r_loadW rfl hS'.1 (Pt.size _)) (by kernel_rfl) rfl (by kernel_rfl) (by kernel_rfl) rfl rfl (fun _ _ _ _ h => h) S3 ?_
      refine ZT.one 17 rfl (by kernel_rfl) rfl rfl rfl ?_
      refine ZL.on rfl rfl rfl ?_
      refine ZL.call (r_call rfl) rfl (refLessP_ok ks[k].1 p w3) (fun v4 w4 ⟨E4, hr⟩ => ?_)
      subst hr
      have M4 := M3.ext' E4
      refine ZL.nil (ZP.turning ⟨M4.get inferInstance, M4.ext.at hb id, E4.at S3.2.2.1 id, trivial⟩ ?_)
      refine ZT.done rfl (by kernel_rfl) ?_
      refine ZL.val (r_pickT rfl rfl) rfl ?_
      refine ZL.nil ?_; refine ZP.then ?_
      refine ZC.condD rfl (fun hl => ?_) (fun hl => ?_)
      · refine ZC.skip ?_; refine ZP.then ?_; refine ZC.block ?_; refine ZC.region ?_; refine ZL.val (r_move rfl) rfl ?_; refine ZL.val (r_add rfl rfl (wrap_i64 (by omega) (by omega))) rfl ?_; refine ZL.val (r_assign rfl) rfl ?_; refine ZL.nil ?_; refine ZP.blockN ?_
        refine ZP.round (k + 1) ⟨rfl, rfl, rfl, trivial⟩ ⟨by omega, fun i h hi => ?_, M4⟩ (by omega)
        rcases (by omega : i < k ∨ i = k) with hi | rfl
        · exact hlow i h hi
        · exact hl
      · refine ZC.exit ?_; refine ZP.thenX ?_; refine ZP.thenX ?_; refine ZP.blockE ?_
        exact ZP.mid k ⟨rfl, rfl, rfl, trivial⟩ ⟨⟨hkl, hlow, fun h => hl⟩, M4⟩
    · refine ZC.turning (Holds [(bw, .cells #[.slice pv ks.length cv] 55 (0, 0))]) 18 rfl (by kernel_rfl) rfl rfl rfl (fun w3 E3 _ => ?_)
      have M3 := M2.ext' E3
      have S3 : Holds [(bw, .cells #[.slice pv ks.length cv] 55 (0, 0))] w3 := ⟨M3.ext.at hb id, trivial⟩
      refine ZT.take 0 rfl rfl (fun w' hS' => by first | exact r_move rfl | exact r_assign rfl | exact r_fieldAddr rfl | exact r_add rfl rfl (wrap_i64 (by omega) (by omega)) | exact r_sub rfl rfl (wrap_i64 (by omega) (by omega)) | exact r_mul rfl rfl (wrap_i64 (by omega) (by omega)) | exact r_convInt rfl (wrap_u64 (by omega) (by omega)) | exact r_convInt rfl (wrap_i64 (by omega) (by omega)) | exact r_convInt rfl (wrap_u32 (by omega) (by omega)) | exact r_sliceArr rfl | exact r_nilCheck rfl | exact r_extract rfl rfl | exact r_lenSlice rfl | exact r_and rfl rfl rfl | exact r_shr rfl rfl (by omega) rfl | exact r_toB rfl | exact r_toU rfl | exact r_toQ rfl) (by kernel_rfl) rfl (by kernel_rfl) (by kernel_rfl) rfl rfl (fun _ _ _ _ h => h) S3 ?_
      refine ZT.take 1 rfl rfl (fun w' hS' => by first | exact r_move rfl | exact r_assign rfl | exact r_fieldAddr rfl | exact r_add rfl rfl (wrap_i64 (by omega) (by omega)) | exact r_sub rfl rfl (wrap_i64 (by omega) (by omega)) | exact r_mul rfl rfl (wrap_i64 (by omega) (by omega)) | exact r_convInt rfl (wrap_u64 (by omega) (by omega)) | exact r_convInt rfl (wrap_i64 (by omega) (by omega)) | exact r_convInt rfl (wrap_u32 (by omega) (by omega)) | exact r_sliceArr rfl | exact r_nilCheck rfl | exact r_extract rfl rfl | exact r_lenSlice rfl | exact r_and rfl rfl rfl | exact r_shr rfl rfl (by omega) rfl | exact r_toB rfl | exact r_toU rfl | exact r_toQ rfl) (by kernel_rfl) rfl (by kernel_rfl) (by kernel_rfl) rfl rfl (fun _ _ _ _ h => h) S3 ?_
      refine ZT.take 2 rfl rfl (fun w' hS' => by first | exact r_move rfl | exact r_assign rfl | exact r_fieldAddr rfl | exact r_add rfl rfl (wrap_i64 (by omega) (by omega)) | exact r_sub rfl rfl (wrap_i64 (by omega) (by omega)) | exact r_mul rfl rfl (wrap_i64 (by omega) (by omega)) | exact r_convInt rfl (wrap_u64 (by omega) (by omega)) | exact r_convInt rfl (wrap_i64 (by omega) (by omega)) | exact r_convInt rfl (wrap_u32 (by omega) (by omega)) | exact r_sliceArr rfl | exact r_nilCheck rfl | exact r_extract rfl rfl | exact r_lenSlice rfl | exact r_and rfl rfl rfl | exact r_shr rfl rfl (by omega) rfl | exact r_toB rfl | exact r_toU rfl | exact r_toQ rfl) (by kernel_rfl) rfl (by kernel_rfl) (by kernel_rfl) rfl rfl (fun _ _ _ _ h => h) S3 ?_
      refine ZT.take 3 rfl rfl (fun w' hS' => by first | exact r_move rfl | exact r_assign rfl | exact r_fieldAddr rfl | exact r_add rfl rfl (wrap_i64 (by omega) (by omega)) | exact r_sub rfl rfl (wrap_i64 (by omega) (by omega)) | exact r_mul rfl rfl (wrap_i64 (by omega) (by omega)) | exact r_convInt rfl (wrap_u64 (by omega) (by omega)) | exact r_convInt rfl (wrap_i64 (by omega) (by omega)) | exact r_convInt rfl (wrap_u32 (by omega) (by omega)) | exact r_sliceArr rfl | exact r_nilCheck rfl | exact r_extract rfl rfl | exact r_lenSlice rfl | exact r_and rfl rfl rfl | exact r_shr rfl rfl (by omega) rfl | exact r_toB rfl | exact r_toU rfl | exact r_toQ rfl) (by kernel_rfl) rfl (by kernel_rfl) (by kernel_rfl) rfl rfl (fun _ _ _ _ h => h) S3 ?_
      refine ZT.take 4 rfl rfl (fun w' hS' => r_load1 rfl hS'.1 rfl) (by kernel_rfl) rfl (by kernel_rfl) (by kernel_rfl) rfl rfl (fun _ _ _ _ h => h) S3 ?_
      refine ZT.take 5 rfl rfl (fun w' hS' => by first | exact r_move rfl | exact r_assign rfl | exact r_fieldAddr rfl | exact r_add rfl rfl (wrap_i64 (by omega) (by omega)) | exact r_sub rfl rfl (wrap_i64 (by omega) (by omega)) | exact r_mul rfl rfl (wrap_i64 (by omega) (by omega)) | exact r_convInt rfl (wrap_u64 (by omega) (by omega)) | exact r_convInt rfl (wrap_i64 (by omega) (by omega)) | exact r_convInt rfl (wrap_u32 (by omega) (by omega)) | exact r_sliceArr rfl | exact r_nilCheck rfl | exact r_extract rfl rfl | exact r_lenSlice rfl | exact r_and rfl rfl rfl | exact r_shr rfl rfl (by omega) rfl | exact r_toB rfl | exact r_toU rfl | exact r_toQ rfl) (by kernel_rfl) rfl (by kernel_rfl) (by kernel_rfl) rfl rfl (fun _ _ _ _ h => h) S3 ?_
      refine ZT.take 6 rfl rfl (fun w' hS' => (r_lss rfl rfl).eq (v' := .bool false) (congrArg Value.bool (decide_eq_false (by omega)))) (by kernel_rfl) rfl (by kernel_rfl) (by kernel_rfl) rfl rfl (fun _ _ _ _ h => h) S3 ?_
      refine ZT.take 7 rfl rfl (fun w' hS' => by first | exact r_move rfl | exact r_assign rfl | exact r_fieldAddr rfl | exact r_add rfl rfl (wrap_i64 (by omega) (by omega)) | exact r_sub rfl rfl (wrap_i64 (by omega) (by omega)) | exact r_mul rfl rfl (wrap_i64 (by omega) (by omega)) | exact r_convInt rfl (wrap_u64 (by omega) (by omega)) | exact r_convInt rfl (wrap_i64 (by omega) (by omega)) | exact r_convInt rfl (wrap_u32 (by omega) (by omega)) | exact r_sliceArr rfl | exact r_nilCheck rfl | exact r_extract rfl rfl | exact r_lenSlice rfl | exact r_and rfl rfl rfl | exact r_shr rfl rfl (by omega) rfl | exact r_toB rfl | exact r_toU rfl | exact r_toQ rfl) (by kernel_rfl) rfl (by kernel_rfl) (by kernel_rfl) rfl rfl (fun _ _ _ _ h => h) S3 ?_
      refine ZT.takeOff 8 rfl rfl rfl rfl rfl (by kernel_rfl) rfl (by kernel_rfl) (by kernel_rfl) rfl rfl (fun _ _ _ _ h => h) S3 ?_
      refine ZT.takeOff 9 rfl rfl rfl rfl rfl (by kernel_rfl) rfl (by kernel_rfl) (by kernel_rfl) rfl rfl (fun _ _ _ _ h => h) S3 ?_
      refine ZT.takeOff 10 rfl rfl rfl rfl rfl (by kernel_rfl) rfl (by kernel_rfl) (by kernel_rfl) rfl rfl (fun _ _ _ _ h => h) S3 ?_
      refine ZT.takeOff 11 rfl rfl rfl rfl rfl (by kernel_rfl) rfl (by kernel_rfl) (by kernel_rfl) rfl rfl (fun _ _ _ _ h => h) S3 ?_
      refine ZT.takeOff 12 rfl rfl rfl rfl rfl (by kernel_rfl) rfl (by kernel_rfl) (by kernel_rfl) rfl rfl (fun _ _ _ _ h => h) S3 ?_
      refine ZT.takeOff 13 rfl rfl rfl rfl rfl (by kernel_rfl) rfl (by kernel_rfl) (by kernel_rfl) rfl rfl (fun _ _ _ _ h => h) S3 ?_
      refine ZT.takeOff 14 rfl rfl rfl rfl rfl (by kernel_rfl) rfl (by kernel_rfl) (by kernel_rfl) rfl rfl (fun _ _ _ _ h => h) S3 ?_
      refine ZT.takeOff 15 rfl rfl rfl rfl rfl (by kernel_rfl) rfl (by kernel_rfl) (by kernel_rfl) rfl rfl (fun _ _ _ _ h => h) S3 ?_
      refine ZT.takeOff 16 rfl rfl rfl rfl rfl (by kernel_rfl) rfl (by kernel_rfl) (by kernel_rfl) rfl rfl (fun _ _ _ _ h => h) S3 ?_
      refine ZT.takeOff 17 rfl rfl rfl rfl rfl (by kernel_rfl) rfl (by kernel_rfl) (by kernel_rfl) rfl rfl (fun _ _ _ _ h => h) S3 ?_
      refine ZT.done rfl (by kernel_rfl) ?_
      refine ZL.val (r_pickF rfl rfl) rfl ?_
      refine ZL.nil ?_; refine ZP.then ?_; refine ZC.condF rfl ?_; refine ZC.exit ?_; refine ZP.thenX ?_; refine ZP.thenX ?_; refine ZP.blockE ?_
      exact ZP.mid k ⟨rfl, rfl, rfl, trivial⟩ ⟨⟨hkl, hlow, fun h => absurd h hkn⟩, M3⟩
  · rintro k w2 ⟨hpos, M2⟩
    have hkl := hpos.le
    refine ZC.seq ?_
    refine ZC.still (by kernel_rfl) (fun w3 E3 _ => ?_)
    have M3 := M2.ext' E3
    repeat (first | (first | refine ZS.val (r_move rfl) rfl ?_ | refine ZS.val (r_assign rfl) rfl ?_ | refine ZS.val (r_fieldAddr rfl) rfl ?_ | refine ZS.val (r_add rfl rfl (wrap_i64 (by omega) (by omega))) rfl ?_ | refine ZS.val (r_sub rfl rfl (wrap_i64 (by omega) (by omega))) rfl ?_ | refine ZS.val (r_mul rfl rfl (wrap_i64 (by omega) (by omega))) rfl ?_ | refine ZS.val (r_lss rfl rfl) rfl ?_ | refine ZS.val (r_leq rfl rfl) rfl ?_ | refine ZS.val (r_gtr rfl rfl) rfl ?_ | refine ZS.val (r_geq rfl rfl) rfl ?_ | refine ZS.val (r_eql rfl rfl) rfl ?_ | refine ZS.val (r_neq rfl rfl) rfl ?_ | refine ZS.val (r_not rfl) rfl ?_ | refine ZS.val (r_lenSlice rfl) rfl ?_ | refine ZS.val (r_lenString rfl) rfl ?_ | refine ZS.val (r_extract rfl rfl) rfl ?_ | refine ZS.val (r_nilCheck rfl) rfl ?_ | refine ZS.val (r_makeFunc rfl rfl) rfl ?_ | refine ZS.val (r_eqlPtrNil rfl rfl) rfl ?_ | refine ZS.val (r_pickT rfl rfl) rfl ?_ | refine ZS.val (r_pickF rfl rfl) rfl ?_ | refine ZS.val (r_eqlSliceNil rfl rfl) rfl ?_ | refine ZS.val (r_max rfl rfl (Int.max_eq_left (by omega))) rfl ?_ | refine ZS.val (r_max rfl rfl (Int.max_eq_right (by omega))) rfl ?_ | refine ZS.val (r_min rfl rfl (Int.min_eq_left (by omega))) rfl ?_ | refine ZS.val (r_min rfl rfl (Int.min_eq_right (by omega))) rfl ?_ | refine ZS.val (r_convInt rfl (wrap_i64 (by omega) (by omega))) rfl ?_ | refine ZS.val (r_convInt rfl (wrap_u64 (by omega) (by omega))) rfl ?_ | refine ZS.val (r_convInt rfl (wrap_u32 (by omega) (by omega))) rfl ?_ | refine ZS.val (r_convInt rfl (wrap_u8 (by omega) (by omega))) rfl ?_) | refine ZS.on rfl rfl rfl ?_ | refine ZS.skip rfl rfl rfl rfl ?_ | refine ZS.nil ?_)
    refine ZS.val (r_load1 rfl (M3.ext.at hb id) rfl) rfl ?_
    repeat (first | (first | refine ZS.val (r_move rfl) rfl ?_ | refine ZS.val (r_assign rfl) rfl ?_ | refine ZS.val (r_fieldAddr rfl) rfl ?_ | refine ZS.val (r_add rfl rfl (wrap_i64 (by omega) (by omega))) rfl ?_ | refine ZS.val (r_sub rfl rfl (wrap_i64 (by omega) (by omega))) rfl ?_ | refine ZS.val (r_mul rfl rfl (wrap_i64 (by omega) (by omega))) rfl ?_ | refine ZS.val (r_lss rfl rfl) rfl ?_ | refine ZS.val (r_leq rfl rfl) rfl ?_ | refine ZS.val (r_gtr rfl rfl) rfl ?_ | refine ZS.val (r_geq rfl rfl) rfl ?_ | refine ZS.val (r_eql rfl rfl) rfl ?_ | refine ZS.val (r_neq rfl rfl) rfl ?_ | refine ZS.val (r_not rfl) rfl ?_ | refine ZS.val (r_lenSlice rfl) rfl ?_ | refine ZS.val (r_lenString rfl) rfl ?_ | refine ZS.val (r_extract rfl rfl) rfl ?_ | refine ZS.val (r_nilCheck rfl) rfl ?_ | refine ZS.val (r_makeFunc rfl rfl) rfl ?_ | refine ZS.val (r_eqlPtrNil rfl rfl) rfl ?_ | refine ZS.val (r_pickT rfl rfl) rfl ?_ | refine ZS.val (r_pickF rfl rfl) rfl ?_ | refine ZS.val (r_eqlSliceNil rfl rfl) rfl ?_ | refine ZS.val (r_max rfl rfl (Int.max_eq_left (by omega))) rfl ?_ | refine ZS.val (r_max rfl rfl (Int.max_eq_right (by omega))) rfl ?_ | refine ZS.val (r_min rfl rfl (Int.min_eq_left (by omega))) rfl ?_ | refine ZS.val (r_min rfl rfl (Int.min_eq_right (by omega))) rfl ?_ | refine ZS.val (r_convInt rfl (wrap_i64 (by omega) (by omega))) rfl ?_ | refine ZS.val (r_convInt rfl (wrap_u64 (by omega) (by omega))) rfl ?_ | refine ZS.val (r_convInt rfl (wrap_u32 (by omega) (by omega))) rfl ?_ | refine ZS.val (r_convInt rfl (wrap_u8 (by omega) (by omega))) rfl ?_) | refine ZS.on rfl rfl rfl ?_ | refine ZS.skip rfl rfl rfl rfl ?_ | refine ZS.nil ?_)
    by_cases hkn : k < ks.length
    · rw [show decide ((k : Int) < (ks.length : Int)) = true from decide_eq_true (by omega)]
      obtain ⟨g, o, cs, e, fz, r, rfl, hg, _, _, hre, _, hsz, hext⟩ := ListR.elem (by decide) (hk.mv (Mv.ext M3.ext)) hkn
      subst hre
      repeat (first | (first | refine ZS.val (r_move rfl) rfl ?_ | refine ZS.val (r_assign rfl) rfl ?_ | refine ZS.val (r_fieldAddr rfl) rfl ?_ | refine ZS.val (r_add rfl rfl (wrap_i64 (by omega) (by omega))) rfl ?_ | refine ZS.val (r_sub rfl rfl (wrap_i64 (by omega) (by omega))) rfl ?_ | refine ZS.val (r_mul rfl rfl (wrap_i64 (by omega) (by omega))) rfl ?_ | refine ZS.val (r_lss rfl rfl) rfl ?_ | refine ZS.val (r_leq rfl rfl) rfl ?_ | refine ZS.val (r_gtr rfl rfl) rfl ?_ | refine ZS.val (r_geq rfl rfl) rfl ?_ | refine ZS.val (r_eql rfl rfl) rfl ?_ | refine ZS.val (r_neq rfl rfl) rfl ?_ | refine ZS.val (r_not rfl) rfl ?_ | refine ZS.val (r_lenSlice rfl) rfl ?_ | refine ZS.val (r_lenString rfl) rfl ?_ | refine ZS.val (r_extract rfl rfl) rfl ?_ | refine ZS.val (r_nilCheck rfl) rfl ?_ | refine ZS.val (r_makeFunc rfl rfl) rfl ?_ | refine ZS.val (r_eqlPtrNil rfl rfl) rfl ?_ | refine ZS.val (r_pickT rfl rfl) rfl ?_ | refine ZS.val (r_pickF rfl rfl) rfl ?_ | refine ZS.val (r_eqlSliceNil rfl rfl) rfl ?_ | refine ZS.val (r_max rfl rfl (Int.max_eq_left (by omega))) rfl ?_ | refine ZS.val (r_max rfl rfl (Int.max_eq_right (by omega))) rfl ?_ | refine ZS.val (r_min rfl rfl (Int.min_eq_left (by omega))) rfl ?_ | refine ZS.val (r_min rfl rfl (Int.min_eq_right (by omega))) rfl ?_ | refine ZS.val (r_convInt rfl (wrap_i64 (by omega) (by omega))) rfl ?_ | refine ZS.val (r_convInt rfl (wrap_u64 (by omega) (by omega))) rfl ?_ | refine ZS.val (r_convInt rfl (wrap_u32 (by omega) (by omega))) rfl ?_ | refine ZS.val (r_convInt rfl (wrap_u8 (by omega) (by omega))) rfl ?_) | refine ZS.on rfl rfl rfl ?_ | refine ZS.skip rfl rfl rfl rfl ?_ | refine ZS.nil ?_)
      refine ZS.val (r_load1 rfl (M3.ext.at hb id) rfl) rfl ?_
      repeat (first | (first | refine ZS.val (r_move rfl) rfl ?_ | refine ZS.val (r_assign rfl) rfl ?_ | refine ZS.val (r_fieldAddr rfl) rfl ?_ | refine ZS.val (r_add rfl rfl (wrap_i64 (by omega) (by omega))) rfl ?_ | refine ZS.val (r_sub rfl rfl (wrap_i64 (by omega) (by omega))) rfl ?_ | refine ZS.val (r_mul rfl rfl (wrap_i64 (by omega) (by omega))) rfl ?_ | refine ZS.val (r_lss rfl rfl) rfl ?_ | refine ZS.val (r_leq rfl rfl) rfl ?_ | refine ZS.val (r_gtr rfl rfl) rfl ?_ | refine ZS.val (r_geq rfl rfl) rfl ?_ | refine ZS.val (r_eql rfl rfl) rfl ?_ | refine ZS.val (r_neq rfl rfl) rfl ?_ | refine ZS.val (r_not rfl) rfl ?_ | refine ZS.val (r_lenSlice rfl) rfl ?_ | refine ZS.val (r_lenString rfl) rfl ?_ | refine ZS.val (r_extract rfl rfl) rfl ?_ | refine ZS.val (r_nilCheck rfl) rfl ?_ | refine ZS.val (r_makeFunc rfl rfl) rfl ?_ | refine ZS.val (r_eqlPtrNil rfl rfl) rfl ?_ | refine ZS.val (r_pickT rfl rfl) rfl ?_ | refine ZS.val (r_pickF rfl rfl) rfl ?_ | refine ZS.val (r_eqlSliceNil rfl rfl) rfl ?_ | refine ZS.val (r_max rfl rfl (Int.max_eq_left (by omega))) rfl ?_ | refine ZS.val (r_max rfl rfl (Int.max_eq_right (by omega))) rfl ?_ | refine ZS.val (r_min rfl rfl (Int.min_eq_left (by omega))) rfl ?_ | refine ZS.val (r_min rfl rfl (Int.min_eq_right (by omega))) rfl ?_ | refine ZS.val (r_convInt rfl (wrap_i64 (by omega) (by omega))) rfl ?_ | refine ZS.val (r_convInt rfl (wrap_u64 (by omega) (by omega))) rfl ?_ | refine ZS.val (r_convInt rfl (wrap_u32 (by omega) (by omega))) rfl ?_ | refine ZS.val (r_convInt rfl (wrap_u8 (by omega) (by omega))) rfl ?_) | refine ZS.on rfl rfl rfl ?_ | refine ZS.skip rfl rfl rfl rfl ?_ | refine ZS.nil ?_)
      refine ZS.val (r_idxS k rfl rfl rfl hkn) rfl ?_
      repeat (first | (first | refine ZS.val (r_move rfl) rfl ?_ | refine ZS.val (r_assign rfl) rfl ?_ | refine ZS.val (r_fieldAddr rfl) rfl ?_ | refine ZS.val (r_add rfl rfl (wrap_i64 (by omega) (by omega))) rfl ?_ | refine ZS.val (r_sub rfl rfl (wrap_i64 (by omega) (by omega))) rfl ?_ | refine ZS.val (r_mul rfl rfl (wrap_i64 (by omega) (by omega))) rfl ?_ | refine ZS.val (r_lss rfl rfl) rfl ?_ | refine ZS.val (r_leq rfl rfl) rfl ?_ | refine ZS.val (r_gtr rfl rfl) rfl ?_ | refine ZS.val (r_geq rfl rfl) rfl ?_ | refine ZS.val (r_eql rfl rfl) rfl ?_ | refine ZS.val (r_neq rfl rfl) rfl ?_ | refine ZS.val (r_not rfl) rfl ?_ | refine ZS.val (r_lenSlice rfl) rfl ?_ | refine ZS.val (r_lenString rfl) rfl ?_ | refine ZS.val (r_extract rfl rfl) rfl ?_ | refine ZS.val (r_nilCheck rfl) rfl ?_ | refine ZS.val (r_makeFunc rfl rfl) rfl ?_ | refine ZS.val (r_eqlPtrNil rfl rfl) rfl ?_ | refine ZS.val (r_pickT rfl rfl) rfl ?_ | refine ZS.val (r_pickF rfl rfl) rfl ?_ | refine ZS.val (r_eqlSliceNil rfl rfl) rfl ?_ | refine ZS.val (r_max rfl rfl (Int.max_eq_left (by omega))) rfl ?_ | refine ZS.val (r_max rfl rfl (Int.max_eq_right (by omega))) rfl ?_ | refine ZS.val (r_min rfl rfl (Int.min_eq_left (by omega))) rfl ?_ | refine ZS.val (r_min rfl rfl (Int.min_eq_right (by omega))) rfl ?_ | refine ZS.val (r_convInt rfl (wrap_i64 (by omega) (by omega))) rfl ?_ | refine ZS.val (r_convInt rfl (wrap_u64 (by omega) (by omega))) rfl ?_ | refine ZS.val (r_convInt rfl (wrap_u32 (by omega) (by omega))) rfl ?_ | refine ZS.val (r_convInt rfl (wrap_u8 (by omega) (by omega))) rfl ?_) | refine ZS.on rfl rfl rfl ?_ | refine ZS.skip rfl rfl rfl rfl ?_ | refine ZS.nil ?_)
      refine ZS.val (r_loadN rfl hg (by omega) (k37_pt _ hext)) rfl ?_
      repeat (first | (first | refine ZS.val (r_move rfl) rfl ?_ | refine ZS.val (r_assign rfl) rfl ?_ | refine ZS.val (r_fieldAddr rfl) rfl ?_ | refine ZS.val (r_add rfl rfl (wrap_i64 (by omega) (by omega))) rfl ?_ | refine ZS.val (r_sub rfl rfl (wrap_i64 (by omega) (by omega))) rfl ?_ | refine ZS.val (r_mul rfl rfl (wrap_i64 (by omega) (by omega))) rfl ?_ | refine ZS.val (r_lss rfl rfl) rfl ?_ | refine ZS.val (r_leq rfl rfl) rfl ?_ | refine ZS.val (r_gtr rfl rfl) rfl ?_ | refine ZS.val (r_geq rfl rfl) rfl ?_ | refine ZS.val (r_eql rfl rfl) rfl ?_ | refine ZS.val (r_neq rfl rfl) rfl ?_ | refine ZS.val (r_not rfl) rfl ?_ | refine ZS.val (r_lenSlice rfl) rfl ?_ | refine ZS.val (r_lenString rfl) rfl ?_ | refine ZS.val (r_extract rfl rfl) rfl ?_ | refine ZS.val (r_nilCheck rfl) rfl ?_ | refine ZS.val (r_makeFunc rfl rfl) rfl ?_ | refine ZS.val (r_eqlPtrNil rfl rfl) rfl ?_ | refine ZS.val (r_pickT rfl rfl) rfl ?_ | refine ZS.val (r_pickF rfl rfl) rfl ?_ | refine ZS.val (r_eqlSliceNil rfl rfl) rfl ?_ | refine ZS.val (r_max rfl rfl (Int.max_eq_left (by omega))) rfl ?_ | refine ZS.val (r_max rfl rfl (Int.max_eq_right (by omega))) rfl ?_ | refine ZS.val (r_min rfl rfl (Int.min_eq_left (by omega))) rfl ?_ | refine ZS.val (r_min rfl rfl (Int.min_eq_right (by omega))) rfl ?_ | refine ZS.val (r_convInt rfl (wrap_i64 (by omega) (by omega))) rfl ?_ | refine ZS.val (r_convInt rfl (wrap_u64 (by omega) (by omega))) rfl ?_ | refine ZS.val (r_convInt rfl (wrap_u32 (by omega) (by omega))) rfl ?_ | refine ZS.val (r_convInt rfl (wrap_u8 (by omega) (by omega))) rfl ?_) | refine ZS.on rfl rfl rfl ?_ | refine ZS.skip rfl rfl rfl rfl ?_ | refine ZS.nil ?_)
      refine ZS.val (r_ldW M3 rfl (Pt.size _)) rfl ?_
      repeat (first | (first | refine ZS.val (r_move rfl) rfl ?_ | refine ZS.val (r_assign rfl) rfl ?_ | refine ZS.val (r_fieldAddr rfl) rfl ?_ | refine ZS.val (r_add rfl rfl (wrap_i64 (by omega) (by omega))) rfl ?_ | refine ZS.val (r_sub rfl rfl (wrap_i64 (by omega) (by omega))) rfl ?_ | refine ZS.val (r_mul rfl rfl (wrap_i64 (by omega) (by omega))) rfl ?_ | refine ZS.val (r_lss rfl rfl) rfl ?_ | refine ZS.val (r_leq rfl rfl) rfl ?_ | refine ZS.val (r_gtr rfl rfl) rfl ?_ | refine ZS.val (r_geq rfl rfl) rfl ?_ | refine ZS.val (r_eql rfl rfl) rfl ?_ | refine ZS.val (r_neq rfl rfl) rfl ?_ | refine ZS.val (r_not rfl) rfl ?_ | refine ZS.val (r_lenSlice rfl) rfl ?_ | refine ZS.val (r_lenString rfl) rfl ?_ | refine ZS.val (r_extract rfl rfl) rfl ?_ | refine ZS.val (r_nilCheck rfl) rfl ?_ | refine ZS.val (r_makeFunc rfl rfl) rfl ?_ | refine ZS.val (r_eqlPtrNil rfl rfl) rfl ?_ | refine ZS.val (r_pickT rfl rfl) rfl ?_ | refine ZS.val (r_pickF rfl rfl) rfl ?_ | refine ZS.val (r_eqlSliceNil rfl rfl) rfl ?_ | refine ZS.val (r_max rfl rfl (Int.max_eq_left (by omega))) rfl ?_ | refine ZS.val (r_max rfl rfl (Int.max_eq_right (by omega))) rfl ?_ | refine ZS.val (r_min rfl rfl (Int.min_eq_left (by omega))) rfl ?_ | refine ZS.val (r_min rfl rfl (Int.min_eq_right (by omega))) rfl ?_ | refine ZS.val (r_convInt rfl (wrap_i64 (by omega) (by omega))) rfl ?_ | refine ZS.val (r_convInt rfl (wrap_u64 (by omega) (by omega))) rfl ?_ | refine ZS.val (r_convInt rfl (wrap_u32 (by omega) (by omega))) rfl ?_ | refine ZS.val (r_convInt rfl (wrap_u8 (by omega) (by omega))) rfl ?_) | refine ZS.on rfl rfl rfl ?_ | refine ZS.skip rfl rfl rfl rfl ?_ | refine ZS.nil ?_)
      refine ZS.val (r_eqlPt (p := ks[k].1) (q := p) rfl rfl) rfl ?_
      repeat (first | (first | refine ZS.val (r_move rfl) rfl ?_ | refine ZS.val (r_assign rfl) rfl ?_ | refine ZS.val (r_fieldAddr rfl) rfl ?_ | refine ZS.val (r_add rfl rfl (wrap_i64 (by omega) (by omega))) rfl ?_ | refine ZS.val (r_sub rfl rfl (wrap_i64 (by omega) (by omega))) rfl ?_ | refine ZS.val (r_mul rfl rfl (wrap_i64 (by omega) (by omega))) rfl ?_ | refine ZS.val (r_lss rfl rfl) rfl ?_ | refine ZS.val (r_leq rfl rfl) rfl ?_ | refine ZS.val (r_gtr rfl rfl) rfl ?_ | refine ZS.val (r_geq rfl rfl) rfl ?_ | refine ZS.val (r_eql rfl rfl) rfl ?_ | refine ZS.val (r_neq rfl rfl) rfl ?_ | refine ZS.val (r_not rfl) rfl ?_ | refine ZS.val (r_lenSlice rfl) rfl ?_ | refine ZS.val (r_lenString rfl) rfl ?_ | refine ZS.val (r_extract rfl rfl) rfl ?_ | refine ZS.val (r_nilCheck rfl) rfl ?_ | refine ZS.val (r_makeFunc rfl rfl) rfl ?_ | refine ZS.val (r_eqlPtrNil rfl rfl) rfl ?_ | refine ZS.val (r_pickT rfl rfl) rfl ?_ | refine ZS.val (r_pickF rfl rfl) rfl ?_ | refine ZS.val (r_eqlSliceNil rfl rfl) rfl ?_ | refine ZS.val (r_max rfl rfl (Int.max_eq_left (by omega))) rfl ?_ | refine ZS.val (r_max rfl rfl (Int.max_eq_right (by omega))) rfl ?_ | refine ZS.val (r_min rfl rfl (Int.min_eq_left (by omega))) rfl ?_ | refine ZS.val (r_min rfl rfl (Int.min_eq_right (by omega))) rfl ?_ | refine ZS.val (r_convInt rfl (wrap_i64 (by omega) (by omega))) rfl ?_ | refine ZS.val (r_convInt rfl (wrap_u64 (by omega) (by omega))) rfl ?_ | refine ZS.val (r_convInt rfl (wrap_u32 (by omega) (by omega))) rfl ?_ | refine ZS.val (r_convInt rfl (wrap_u8 (by omega) (by omega))) rfl ?_) | refine ZS.on rfl rfl rfl ?_ | refine ZS.skip rfl rfl rfl rfl ?_ | refine ZS.nil ?_)
      refine ZP.then ?_; refine ZC.ret ?_
      exact ZP.ret2 rfl rfl rfl ⟨M3.ext, k, hpos, by simp [hitAt, hkn]⟩
    · rw [show decide ((k : Int) < (ks.length : Int)) = false from decide_eq_false (by omega)]
      repeat (first | (first | refine ZS.val (r_move rfl) rfl ?_ | refine ZS.val (r_assign rfl) rfl ?_ | refine ZS.val (r_fieldAddr rfl) rfl ?_ | refine ZS.val (r_add rfl rfl (wrap_i64 (by omega) (by omega))) rfl ?_ | refine ZS.val (r_sub rfl rfl (wrap_i64 (by omega) (by omega))) rfl ?_ | refine ZS.val (r_mul rfl rfl (wrap_i64 (by omega) (by omega))) rfl ?_ | refine ZS.val (r_lss rfl rfl) rfl ?_ | refine ZS.val (r_leq rfl rfl) rfl ?_ | refine ZS.val (r_gtr rfl rfl) rfl ?_ | refine ZS.val (r_geq rfl rfl) rfl ?_ | refine ZS.val (r_eql rfl rfl) rfl ?_ | refine ZS.val (r_neq rfl rfl) rfl ?_ | refine ZS.val (r_not rfl) rfl ?_ | refine ZS.val (r_lenSlice rfl) rfl ?_ | refine ZS.val (r_lenString rfl) rfl ?_ | refine ZS.val (r_extract rfl rfl) rfl ?_ | refine ZS.val (r_nilCheck rfl) rfl ?_ | refine ZS.val (r_makeFunc rfl rfl) rfl ?_ | refine ZS.val (r_eqlPtrNil rfl rfl) rfl ?_ | refine ZS.val (r_pickT rfl rfl) rfl ?_ | refine ZS.val (r_pickF rfl rfl) rfl ?_ | refine ZS.val (r_eqlSliceNil rfl rfl) rfl ?_ | refine ZS.val (r_max rfl rfl (Int.max_eq_left (by omega))) rfl ?_ | refine ZS.val (r_max rfl rfl (Int.max_eq_right (by omega))) rfl ?_ | refine ZS.val (r_min rfl rfl (Int.min_eq_left (by omega))) rfl ?_ | refine ZS.val (r_min rfl rfl (Int.min_eq_right (by omega))) rfl ?_ | refine ZS.val (r_convInt rfl (wrap_i64 (by omega) (by omega))) rfl ?_ | refine ZS.val (r_convInt rfl (wrap_u64 (by omega) (by omega))) rfl ?_ | refine ZS.val (r_convInt rfl (wrap_u32 (by omega) (by omega))) rfl ?_ | refine ZS.val (r_convInt rfl (wrap_u8 (by omega) (by omega))) rfl ?_) | refine ZS.on rfl rfl rfl ?_ | refine ZS.skip rfl rfl rfl rfl ?_ | refine ZS.nil ?_)
      refine ZP.then ?_; refine ZC.ret ?_
      exact ZP.ret2 rfl rfl rfl ⟨M3.ext, k, hpos, by simp [hitAt, hkn]⟩
end
section
open Go Go.RowKit Go.Lib

section
variable {P : Program} {n : Nat} {ops : Array Oper} {Q : Post} {S : World → Prop} {k g fuel : Nat} {l2 : List Oper} {listed listed' listedj : Array Bool} {σ σ' : Env} {w : World}
theorem ZT.sub (hs : Sub σ' σ) (h : ZT P n ops Q S k g l2 fuel listed σ' w) : ZT P n ops Q S k g l2 fuel listed σ w := ⟨fun a ha inv => h.h a (ha.sub hs) inv⟩
/-- Two that may come next. -/
theorem ZT.two (i j : Nat) {oi oj : Oper} {fuel' : Nat} (hf1 : fuel = fuel' + 1) (hr : Region.ready .any ops listed = [i, j]) (hik : Nat.blt i k = true) (hjk : Nat.blt j k = true) (hi : ops[i]? = some oi) (hj : ops[j]? = some oj) (hl : listed.setIfInBounds i true = listed') (hlj : listed.setIfInBounds j true = listedj)
    (h : ZL P n ops (Exit.then (fun a w => S w ∧ (HeadInv .any ops k listed' → wpAnyT P .any ops Q S k (TailK P ops Q k g l2) fuel' listed' a w)) Q) [oi] σ w)
    (h' : ZL P n ops (Exit.then (fun a w => S w ∧ (HeadInv .any ops k listedj → wpAnyT P .any ops Q S k (TailK P ops Q k g l2) fuel' listedj a w)) Q) [oj] σ w) : ZT P n ops Q S k g l2 fuel listed σ w := by
  subst hl; subst hlj; subst hf1
  have hik' : i < k := by simpa [Nat.blt_eq] using hik
  have hjk' : j < k := by simpa [Nat.blt_eq] using hjk
  refine ⟨fun a ha inv => ⟨by rw [hr]; simp, fun q hq => ?_⟩⟩
  have hri : i ∈ Region.ready .any ops listed := by rw [hr]; simp
  have hrj : j ∈ Region.ready .any ops listed := by rw [hr]; simp
  have key : ∀ (q : Nat) (o : Oper), ops[q]? = some o → q < k → q ∈ Region.ready .any ops listed → ZL P n ops (Exit.then (fun a w => S w ∧ (HeadInv .any ops k (listed.setIfInBounds q true) → wpAnyT P .any ops Q S k (TailK P ops Q k g l2) fuel' (listed.setIfInBounds q true) a w)) Q) [o] σ w →
      q < k ∧ wpOp P ops Q q (fun a' w' => S w' ∧ wpAnyT P .any ops Q S k (TailK P ops Q k g l2) fuel' (listed.setIfInBounds q true) a' w') a w := by
    intro q o ho hqk hrq hz
    refine ⟨hqk, ?_⟩
    have h1 := hz.h a ha
    have inv' := inv.set hrq hqk
    have h2 : wpOp P ops (Exit.then (fun a w => S w ∧ (HeadInv .any ops k (listed.setIfInBounds q true) → wpAnyT P .any ops Q S k (TailK P ops Q k g l2) fuel' (listed.setIfInBounds q true) a w)) Q) q (fun a w => S w ∧ (HeadInv .any ops k (listed.setIfInBounds q true) → wpAnyT P .any ops Q S k (TailK P ops Q k g l2) fuel' (listed.setIfInBounds q true) a w)) a w := by
      unfold wpOp
      simp only [ho]
      simpa [wpList, Exit.then] using h1
    have h3 := wpOp_mono (K' := fun a w => S w ∧ wpAnyT P .any ops Q S k (TailK P ops Q k g l2) fuel' (listed.setIfInBounds q true) a w) (fun a' w' h => ⟨h.1, h.2 inv'⟩) h2
    unfold wpOp at h3 ⊢
    simp only [ho] at h3 ⊢
    simpa [Exit.then, LetsOut, Oper.wp, Oper.upon] using h3
  rw [hr] at hq
  simp only [List.mem_cons, List.not_mem_nil, or_false] at hq
  rcases hq with rfl | rfl
  · exact key q oi hi hik' hri h
  · exact key q oj hj hjk' hrj h'
end
section
variable {P : Program} {σ : Env} {w : World}
theorem r_build0 {t : TypeId} {z : Value} {zs : Array Value} [TB P t [(0, 1), (1, 1), (2, 1), (3, 1)]] [TZ P t z] (hz : vcells z = some zs) : V P σ (.build t #[]) (.agg zs) w := by
  refine ⟨fun ρ ha o ho => ?_⟩
  have hb : P.built t [] = some zs := by
    have hi := TB.h (P := P) (t := t)
    have hzz := TZ.h (P := P) (t := t)
    unfold Program.built
    cases hit : P.info? t with
    | none => simp [hit] at hzz
    | some it =>
      cases hu : P.underlying t with
      | none => simp [hu] at hi
      | some d =>
        rw [hu] at hi
        cases d <;> simp only [reduceCtorEq] at hi
        simp only [hit, Option.map_some, Option.some.injEq] at hzz
        simp only [hzz, hi]
        rw [vcells_eq hz]
        rfl
  have hr : (Instr.build t #[]).run P w = .ok (.agg zs) w := run_build w t _ _ hb
  simp [execOp, ho, hr]
end

theorem RGet_ok (Y : Nat → Prop) (bw : Nat) (m : CMap) (p : Pt) (w : World) (h : RefS w Y bw m) (hn : m.length ≤ 100000) :
    Ret P 23 #[.pointer (some ⟨bw, 0, none⟩), p.v] w (fun r w' => Ext w w' ∧ r = .tuple #[((mget m p).getD Cn.zero).v, .bool (mget m p).isSome]) := by
  obtain ⟨hY, v, ks, hb, hk, hs, hp⟩ := h
  have hlen : ks.length ≤ 100000 := by rw [hp.length_eq]; exact hn
  refine Ret.enter2 Tryd.func23 rfl Tryd.ntmps23 rfl ?_
  refine ZC.seq ?_; refine ZC.region ?_
  refine ZL.box (Mem.start w No) rfl rfl rfl (fun b3 w1 M1 => ?_)
  refine ZL.alloc M1 rfl rfl (fun b4 w2 M2 => ?_)
  refine ZL.val (r_assign rfl) rfl ?_; refine ZL.nil ?_; refine ZP.then ?_; refine ZC.seq ?_; refine ZC.seq ?_; refine ZC.region ?_; refine ZL.val (r_move rfl) rfl ?_
  refine ZL.val (r_ldW M2 rfl (Pt.size _)) rfl ?_
  refine ZL.call (r_call rfl) rfl (At_ok Y bw v ks p w2 (M2.ext.at hb id) (hk.mv (Mv.ext M2.ext)) hlen) (fun v3 w3 ⟨E3, k, hpos, hr⟩ => ?_)
  subst hr
  have M3 := M2.ext' E3
  have hit := hpos.hit hs
  rw [mget_perm hp hs.nodup] at hit
  obtain ⟨pv, cv, rfl⟩ := hk.shape
  refine ZL.val (r_move rfl) rfl ?_; refine ZL.val (r_extract rfl rfl) rfl ?_; refine ZL.val (r_extract rfl rfl) rfl ?_; refine ZL.val (r_assign rfl) rfl ?_; refine ZL.val (r_assign rfl) rfl ?_; refine ZL.nil ?_; refine ZP.then ?_; refine ZC.seq ?_; refine ZC.region ?_; refine ZL.val (r_move rfl) rfl ?_; refine ZL.nil ?_; refine ZP.then ?_
  cases hh : hitAt ks p k with
  | true =>
    rw [hh] at hit
    have hkn : k < ks.length := by
      unfold hitAt at hh; split at hh
      · assumption
      · cases hh
    have hkp : ks[k].1 = p := by simpa [hitAt, hkn] using hh
    have hget := hpos.get hs hp hkn hkp
    obtain ⟨g, o, cs, e, fz, r, rfl, hg, _, _, hre, _, hsz, hext⟩ := ListR.elem (by decide) (hk.mv (Mv.ext M3.ext)) hkn
    subst hre
    refine ZC.condT rfl ?_; refine ZC.seq ?_; refine ZC.region ?_; refine ZL.val (r_move rfl) rfl ?_; refine ZL.val (r_nilCheck rfl) rfl ?_; refine ZL.val (r_fieldAddr rfl) rfl ?_
    refine ZL.val (r_load1 rfl (M3.ext.at hb id) rfl) rfl ?_
    refine ZL.val (r_move rfl) rfl ?_
    refine ZL.val (r_idxS k rfl rfl rfl hkn) rfl ?_
    refine ZL.val (r_fieldAddr rfl) rfl ?_
    refine ZL.val (r_loadN rfl hg (by omega) (k37_cn _ hext)) rfl ?_
    refine ZL.stW M3 rfl rfl (cs' := ks[k].2.cells) rfl (by rfl) (by rfl) (by rfl) (fun w4 M4 => ?_)
    refine ZL.val (r_assign rfl) rfl ?_; refine ZL.nil ?_; refine ZP.then ?_; refine ZC.ret ?_; refine ZP.thenR ?_
    exact ZP.retCT rfl rfl (M4.get inferInstance) rfl rfl ⟨M4.ext, by rw [hget]; rfl⟩
  | false =>
    rw [hh] at hit
    have hnone : mget m p = none := by
      cases h1 : mget m p with
      | none => rfl
      | some v => rw [h1] at hit; cases hit
    refine ZC.condF rfl ?_; refine ZC.skip ?_; refine ZP.then ?_; refine ZC.seq ?_; refine ZC.region ?_
    refine ZL.val (r_build0 rfl) rfl ?_
    refine ZL.stW M3 rfl rfl (cs' := Cn.zero.cells) rfl (by rfl) (by rfl) (by rfl) (fun w4 M4 => ?_)
    refine ZL.val (r_assign rfl) rfl ?_; refine ZL.nil ?_; refine ZP.then ?_; refine ZC.ret ?_
    exact ZP.retCT rfl rfl (M4.get inferInstance) rfl rfl ⟨M4.ext, by rw [hnone]; rfl⟩
section
variable {P : Program} {n : Nat} {ops : Array Oper} {Q : Post} {S : World → Prop} {k g fuel fuel2 : Nat} {l2 : List Oper} {listed listed2 : Array Bool} {σ : Env} {w : World}
/-- Several ways that meet. -/
theorem ZT.via {X : Type} (listed2 : Array Bool) (fuel2 : Nat) (vals : X → Env) (inv : X → World → Prop)
    (paths : (∀ σ' w' listed' fuel', listed' = listed2 → fuel' = fuel2 → (∃ x, Sub (vals x) σ' ∧ inv x w') → ZT P n ops Q S k g l2 fuel' listed' σ' w') → ZT P n ops Q S k g l2 fuel listed σ w)
    (tail : ∀ x w', inv x w' → ZT P n ops Q S k g l2 fuel2 listed2 (vals x) w') : ZT P n ops Q S k g l2 fuel listed σ w :=
  paths fun σ' w' listed' fuel' hl hf ⟨x, hs, hi⟩ => by subst hl; subst hf; exact (tail x w' hi).sub hs
end
section
variable {P : Program} {σ : Env} {w : World}
theorem r_buildKept {t : TypeId} {x y : Operand} {p : Pt} {c : Cn} {z : Value} {zs : Array Value} [TB P t [(0, 33), (33, 4)]] [TZ P t z] (hz : vcells z = some zs) (hzs : zs.size = 37) (hx : ev σ x = some p.v) (hy : ev σ y = some c.v) :
    V P σ (.build t #[(0, x), (1, y)]) (.agg (k37 (p, c)).toArray) w := by
  refine ⟨fun ρ ha o ho => ?_⟩
  have hb : P.built t [(0, p.v), (1, c.v)] = some (k37 (p, c)).toArray := by
    have hi := TB.h (P := P) (t := t)
    have hzz := TZ.h (P := P) (t := t)
    unfold Program.built
    cases hit : P.info? t with
    | none => simp [hit] at hzz
    | some it =>
      cases hu : P.underlying t with
      | none => simp [hu] at hi
      | some d =>
        rw [hu] at hi
        cases d <;> simp only [reduceCtorEq] at hi
        simp only [hit, Option.map_some, Option.some.injEq] at hzz
        simp only [hzz, hi]
        rw [vcells_eq hz]
        have hc : (p.v).cells = p.cells.toArray := rfl
        have hc2 : (c.v).cells = c.cells := rfl
        rw [fill_cons (off := 0) (size := 33) rfl (by rw [hc]; exact p.size) (by omega), fill_cons (off := 33) (size := 4) rfl rfl (by simp [hc, p.length, hzs])]
        simp only [Instr.fill, hc, hc2]
        congr 2
        have h1 : (p.cells ++ zs.toList.drop 33).take 33 = p.cells := by rw [← p.length, List.take_left]
        have h2 : (p.cells ++ zs.toList.drop 33).drop 37 = [] := by
          rw [List.drop_eq_nil_iff]; simp [p.length, hzs]
        simp [k37, h1, h2]
  have hr : (Instr.build t #[(0, ρ x), (1, ρ y)]).run P w = .ok (.agg (k37 (p, c)).toArray) w := run_build w t _ _ (by rw [ha _ _ hx, ha _ _ hy]; exact hb)
  simp [execOp, ho, hr]
end
instance : TB P 78 [(0, 33), (33, 4)] := ⟨by kernel_rfl⟩
def kfl (ks : CMap) : List Value := (ks.map k37).flatten
theorem kfl_length (ks : CMap) : (kfl ks).length = ks.length * 37 := by
  induction ks with
  | nil => rfl
  | cons a r ih => simp only [kfl, List.map_cons, List.flatten_cons, List.length_append, List.length_cons, k37_length] at *; omega
theorem kfl_append (a b : CMap) : kfl (a ++ b) = kfl a ++ kfl b := by simp [kfl]
theorem kfl_take (ks : CMap) (k : Nat) (h : k ≤ ks.length) : (kfl ks).take (k * 37) = kfl (ks.take k) := by
  conv => lhs; rw [← List.take_append_drop k ks, kfl_append]
  rw [List.take_append_of_le_length (by rw [kfl_length, List.length_take]; omega), List.take_of_length_le (by rw [kfl_length, List.length_take]; omega)]
theorem kfl_drop (ks : CMap) (k : Nat) (h : k ≤ ks.length) : (kfl ks).drop (k * 37) = kfl (ks.drop k) := by
  conv => lhs; rw [← List.take_append_drop k ks, kfl_append]
  rw [List.drop_append_of_le_length (by rw [kfl_length, List.length_take]; omega), List.drop_of_length_le (by rw [kfl_length, List.length_take]; omega), List.nil_append]
/-- The part below a place, and the part from there on. -/
theorem KeptR.below {w : World} {Y : Nat → Prop} {p : Option Addr} {c k : Nat} {ks : CMap} (h : KeptR w Y (.slice p ks.length c) ks) (hk : k ≤ ks.length) : SlC w Y 37 (.slice p k c) k (kfl (ks.take k)) := by
  have := SlC.cut h.slc (l := 0) (h := k) (by omega) hk
  simp only [cutAt_zero, Nat.sub_zero, Nat.zero_mul, List.drop_zero] at this
  rw [← kfl_take ks k hk]; exact this
theorem KeptR.above {w : World} {Y : Nat → Prop} {p : Option Addr} {c k : Nat} {ks : CMap} (h : KeptR w Y (.slice p ks.length c) ks) (hk : k ≤ ks.length) : SlC w Y 37 (.slice (cutAt p c k 37) (ks.length - k) (c - k)) (ks.length - k) (kfl (ks.drop k)) := by
  have := SlC.cut h.slc (l := k) (h := ks.length) hk (Nat.le_refl _)
  rw [← kfl_drop ks k hk]
  rw [List.take_of_length_le (by rw [List.length_drop]; show (kfl ks).length - _ ≤ _; rw [kfl_length, Nat.sub_mul]; exact Nat.le_refl _)] at this
  exact this
theorem Mem.addOld {w0 w : World} {L : List Chunk} {b : Nat} {o : Obj} (h : Mem w0 No L w) (hb : w.heap[b]? = some o) (hlt : b < w0.heap.size) : Mem w0 (· = b) (.blk b o :: L) w := by
  have hw := h.weak (· = b)
  refine ⟨hw.ext, fun c hc => ?_, List.pairwise_cons.2 ⟨fun c hc g hg hg' => ?_, h.ap⟩, fun c hc g hg => ?_⟩
  · rcases List.mem_cons.1 hc with rfl | hc
    · exact hb
    · exact h.ok c hc
  · simp only [Chunk.fp, Option.some.injEq] at hg
    subst hg
    rcases h.mine c hc b hg' with h1 | h1
    · exact h1
    · omega
  · rcases List.mem_cons.1 hc with rfl | hc
    · simp only [Chunk.fp, Option.some.injEq] at hg; exact .inl hg.symm
    · exact hw.mine c hc g hg

/-- A new list laid into the set. -/
theorem RefS.made {w w' : World} {L : List Chunk} {bw n : Nat} {v : Value} {xs : List Value} {ks m : CMap} (h : Mem w (· = bw) (.blk bw (.cells #[v] 55) :: .own v 78 37 n xs :: L) w') (hn : n = ks.length) (hx : xs = kfl ks) (hs : Sorted ks) (hp : ks.Perm m) :
    RefS w' (fun b => b < w.heap.size ∧ b ≠ bw) bw m := by
  subst hn; subst hx
  have how : OwnR w' 78 37 v ks.length (kfl ks) := h.ok (.own v 78 37 ks.length (kfl ks)) (by simp)
  refine ⟨fun hh => hh.2 rfl, v, ks, h.ok (.blk bw (.cells #[v] 55)) (by simp), KeptR.of (OwnR.slc how fun g hg hh => ?_), hs, hp⟩
  rcases h.mine (.own v 78 37 ks.length (kfl ks)) (by simp) g hg with h1 | h1
  · exact hh.2 h1
  · omega
theorem RPut_ok (Y : Nat → Prop) (bw : Nat) (m : CMap) (p : Pt) (c : Cn) (w : World) (h : RefS w Y bw m) (hn : m.length ≤ 100000) :
    Ret P 18 #[.pointer (some ⟨bw, 0, none⟩), p.v, c.v] w (fun r w' => RefU w w' Y bw (sput m p c) ∧ r = .bool (!(mget m p).isSome)) := by
  have h0 := h
  obtain ⟨hY, v, ks, hb, hk, hs, hp⟩ := h
  have hbl := (Array.getElem?_eq_some_iff.1 hb).1
  have hlen : ks.length ≤ 100000 := by rw [hp.length_eq]; exact hn
  refine Ret.enter3 Tryd.func18 rfl Tryd.ntmps18 rfl ?_
  refine ZC.seq ?_; refine ZC.region ?_
  refine ZL.box (Mem.start w No) rfl rfl rfl (fun b4 w1 M1 => ?_)
  refine ZL.box M1 rfl rfl rfl (fun b5 w2 M2 => ?_)
  refine ZL.val (r_assign rfl) rfl ?_; refine ZL.nil ?_; refine ZP.then ?_; refine ZC.seq ?_; refine ZC.region ?_; refine ZL.val (r_move rfl) rfl ?_
  refine ZL.val (r_ldW M2 rfl (Pt.size _)) rfl ?_
  refine ZL.call (r_call rfl) rfl (At_ok Y bw v ks p w2 (M2.ext.at hb id) (hk.mv (Mv.ext M2.ext)) hlen) (fun v3 w3 ⟨E3, k, hpos, hr⟩ => ?_)
  subst hr
  have M3 := M2.ext' E3
  have hit := hpos.hit hs
  rw [mget_perm hp hs.nodup] at hit
  obtain ⟨pv, cv, rfl⟩ := hk.shape
  have hcap := hk.slc.cap
  have hkl := hpos.le
  refine ZL.val (r_move rfl) rfl ?_; refine ZL.val (r_extract rfl rfl) rfl ?_; refine ZL.val (r_extract rfl rfl) rfl ?_; refine ZL.val (r_assign rfl) rfl ?_; refine ZL.val (r_assign rfl) rfl ?_; refine ZL.nil ?_; refine ZP.then ?_; refine ZC.seq ?_; refine ZC.seq ?_; refine ZC.region ?_; refine ZL.val (r_move rfl) rfl ?_; refine ZL.nil ?_; refine ZP.then ?_
  cases hh : hitAt ks p k with
  | true =>
    rw [hh] at hit
    refine ZC.condT rfl ?_; refine ZC.seq ?_; refine ZC.region ?_; refine ZL.val (r_assign rfl) rfl ?_; refine ZL.nil ?_; refine ZP.then ?_; refine ZC.ret ?_; refine ZP.thenR ?_
    have h3 : RefS w3 (fun b => Y b ∧ b < w.heap.size) bw m := (h0.mv (Mv.ext M3.ext)).mv (Mv.mono fun b _ hb => hb.1)
    refine ZP.ret1 rfl rfl ⟨⟨Ext.toX M3.ext, ?_⟩, by rw [← hit]; rfl⟩
    rw [sput, if_pos hit.symm]; exact h3
  | false =>
    rw [hh] at hit
    refine ZC.condF rfl ?_; refine ZC.skip ?_; refine ZP.then ?_; refine ZC.seq ?_
    refine ZC.turning (Holds [(b4, .cells p.cells.toArray 41), (b5, .cells c.cells 44), (bw, .cells #[.slice pv ks.length cv] 55 (0, 0))]) 21 rfl (by kernel_rfl) rfl rfl rfl (fun w4 E4 _ => ?_)
    have M4 := M3.ext' E4
    have S4 : Holds [(b4, .cells p.cells.toArray 41), (b5, .cells c.cells 44), (bw, .cells #[.slice pv ks.length cv] 55 (0, 0))] w4 := ⟨M4.get inferInstance, M4.get inferInstance, M4.ext.at hb id, trivial⟩
    have hS : ∀ {w' : World}, Ext w4 w' → Holds [(b4, .cells p.cells.toArray 41), (b5, .cells c.cells 44), (bw, .cells #[.slice pv ks.length cv] 55 (0, 0))] w' := fun {w'} hE => ⟨hE.at S4.1 id, hE.at S4.2.1 id, hE.at S4.2.2.1 id, trivial⟩
    have hk4 := hk.mv (Mv.ext M4.ext)
    have hlow := hk4.below hkl
    have hhigh := hk4.above hkl
    have hlowl : (ks.take k).length = k := by rw [List.length_take]; omega
    refine ZT.take 0 rfl rfl (fun w' hS' => by first | exact r_move rfl | exact r_assign rfl | exact r_fieldAddr rfl | exact r_add rfl rfl (wrap_i64 (by omega) (by omega)) | exact r_sub rfl rfl (wrap_i64 (by omega) (by omega)) | exact r_mul rfl rfl (wrap_i64 (by omega) (by omega)) | exact r_convInt rfl (wrap_u64 (by omega) (by omega)) | exact r_convInt rfl (wrap_i64 (by omega) (by omega)) | exact r_convInt rfl (wrap_u32 (by omega) (by omega)) | exact r_sliceArr rfl | exact r_nilCheck rfl | exact r_extract rfl rfl | exact r_lenSlice rfl | exact r_and rfl rfl rfl | exact r_shr rfl rfl (by omega) rfl | exact r_toB rfl | exact r_toU rfl | exact r_toQ rfl) (by kernel_rfl) rfl (by kernel_rfl) (by kernel_rfl) rfl rfl (fun _ _ _ _ h => h) S4 ?_
    refine ZT.take 2 rfl rfl (fun w' hS' => by first | exact r_move rfl | exact r_assign rfl | exact r_fieldAddr rfl | exact r_add rfl rfl (wrap_i64 (by omega) (by omega)) | exact r_sub rfl rfl (wrap_i64 (by omega) (by omega)) | exact r_mul rfl rfl (wrap_i64 (by omega) (by omega)) | exact r_convInt rfl (wrap_u64 (by omega) (by omega)) | exact r_convInt rfl (wrap_i64 (by omega) (by omega)) | exact r_convInt rfl (wrap_u32 (by omega) (by omega)) | exact r_sliceArr rfl | exact r_nilCheck rfl | exact r_extract rfl rfl | exact r_lenSlice rfl | exact r_and rfl rfl rfl | exact r_shr rfl rfl (by omega) rfl | exact r_toB rfl | exact r_toU rfl | exact r_toQ rfl) (by kernel_rfl) rfl (by kernel_rfl) (by kernel_rfl) rfl rfl (fun _ _ _ _ h => h) S4 ?_
    refine ZT.take 3 rfl rfl (fun w' hS' => by first | exact r_move rfl | exact r_assign rfl | exact r_fieldAddr rfl | exact r_add rfl rfl (wrap_i64 (by omega) (by omega)) | exact r_sub rfl rfl (wrap_i64 (by omega) (by omega)) | exact r_mul rfl rfl (wrap_i64 (by omega) (by omega)) | exact r_convInt rfl (wrap_u64 (by omega) (by omega)) | exact r_convInt rfl (wrap_i64 (by omega) (by omega)) | exact r_convInt rfl (wrap_u32 (by omega) (by omega)) | exact r_sliceArr rfl | exact r_nilCheck rfl | exact r_extract rfl rfl | exact r_lenSlice rfl | exact r_and rfl rfl rfl | exact r_shr rfl rfl (by omega) rfl | exact r_toB rfl | exact r_toU rfl | exact r_toQ rfl) (by kernel_rfl) rfl (by kernel_rfl) (by kernel_rfl) rfl rfl (fun _ _ _ _ h => h) S4 ?_
    refine ZT.take 4 rfl rfl (fun w' hS' => by first | exact r_move rfl | exact r_assign rfl | exact r_fieldAddr rfl | exact r_add rfl rfl (wrap_i64 (by omega) (by omega)) | exact r_sub rfl rfl (wrap_i64 (by omega) (by omega)) | exact r_mul rfl rfl (wrap_i64 (by omega) (by omega)) | exact r_convInt rfl (wrap_u64 (by omega) (by omega)) | exact r_convInt rfl (wrap_i64 (by omega) (by omega)) | exact r_convInt rfl (wrap_u32 (by omega) (by omega)) | exact r_sliceArr rfl | exact r_nilCheck rfl | exact r_extract rfl rfl | exact r_lenSlice rfl | exact r_and rfl rfl rfl | exact r_shr rfl rfl (by omega) rfl | exact r_toB rfl | exact r_toU rfl | exact r_toQ rfl) (by kernel_rfl) rfl (by kernel_rfl) (by kernel_rfl) rfl rfl (fun _ _ _ _ h => h) S4 ?_
    refine ZT.take 5 rfl rfl (fun w' hS' => r_load1 rfl hS'.2.2.1 rfl) (by kernel_rfl) rfl (by kernel_rfl) (by kernel_rfl) rfl rfl (fun _ _ _ _ h => h) S4 ?_
    refine ZT.take 6 rfl rfl (fun w' hS' => by first | exact r_move rfl | exact r_assign rfl | exact r_fieldAddr rfl | exact r_add rfl rfl (wrap_i64 (by omega) (by omega)) | exact r_sub rfl rfl (wrap_i64 (by omega) (by omega)) | exact r_mul rfl rfl (wrap_i64 (by omega) (by omega)) | exact r_convInt rfl (wrap_u64 (by omega) (by omega)) | exact r_convInt rfl (wrap_i64 (by omega) (by omega)) | exact r_convInt rfl (wrap_u32 (by omega) (by omega)) | exact r_sliceArr rfl | exact r_nilCheck rfl | exact r_extract rfl rfl | exact r_lenSlice rfl | exact r_and rfl rfl rfl | exact r_shr rfl rfl (by omega) rfl | exact r_toB rfl | exact r_toU rfl | exact r_toQ rfl) (by kernel_rfl) rfl (by kernel_rfl) (by kernel_rfl) rfl rfl (fun _ _ _ _ h => h) S4 ?_
    refine ZT.take 7 rfl rfl (fun w' hS' => (r_sliceTo rfl rfl (by omega) (by omega)).eq (v' := .slice pv k cv) (by simp)) (by kernel_rfl) rfl (by kernel_rfl) (by kernel_rfl) rfl rfl (fun _ _ _ _ h => h) S4 ?_
    refine ZT.take 9 rfl rfl (fun w' hS' => r_loadW rfl hS'.1 (Pt.size _)) (by kernel_rfl) rfl (by kernel_rfl) (by kernel_rfl) rfl rfl (fun _ _ _ _ h => h) S4 ?_
    refine ZT.take 10 rfl rfl (fun w' hS' => r_loadW rfl hS'.2.1 rfl) (by kernel_rfl) rfl (by kernel_rfl) (by kernel_rfl) rfl rfl (fun _ _ _ _ h => h) S4 ?_
    refine ZT.take 11 rfl rfl (fun w' hS' => r_buildKept (p := p) (c := c) rfl (by rfl) rfl rfl) (by kernel_rfl) rfl (by kernel_rfl) (by kernel_rfl) rfl rfl (fun _ _ _ _ h => h) S4 ?_
    refine ZT.take 14 rfl rfl (fun w' hS' => by first | exact r_move rfl | exact r_assign rfl | exact r_fieldAddr rfl | exact r_add rfl rfl (wrap_i64 (by omega) (by omega)) | exact r_sub rfl rfl (wrap_i64 (by omega) (by omega)) | exact r_mul rfl rfl (wrap_i64 (by omega) (by omega)) | exact r_convInt rfl (wrap_u64 (by omega) (by omega)) | exact r_convInt rfl (wrap_i64 (by omega) (by omega)) | exact r_convInt rfl (wrap_u32 (by omega) (by omega)) | exact r_sliceArr rfl | exact r_nilCheck rfl | exact r_extract rfl rfl | exact r_lenSlice rfl | exact r_and rfl rfl rfl | exact r_shr rfl rfl (by omega) rfl | exact r_toB rfl | exact r_toU rfl | exact r_toQ rfl) (by kernel_rfl) rfl (by kernel_rfl) (by kernel_rfl) rfl rfl (fun _ _ _ _ h => h) S4 ?_
    refine ZT.take 15 rfl rfl (fun w' hS' => by first | exact r_move rfl | exact r_assign rfl | exact r_fieldAddr rfl | exact r_add rfl rfl (wrap_i64 (by omega) (by omega)) | exact r_sub rfl rfl (wrap_i64 (by omega) (by omega)) | exact r_mul rfl rfl (wrap_i64 (by omega) (by omega)) | exact r_convInt rfl (wrap_u64 (by omega) (by omega)) | exact r_convInt rfl (wrap_i64 (by omega) (by omega)) | exact r_convInt rfl (wrap_u32 (by omega) (by omega)) | exact r_sliceArr rfl | exact r_nilCheck rfl | exact r_extract rfl rfl | exact r_lenSlice rfl | exact r_and rfl rfl rfl | exact r_shr rfl rfl (by omega) rfl | exact r_toB rfl | exact r_toU rfl | exact r_toQ rfl) (by kernel_rfl) rfl (by kernel_rfl) (by kernel_rfl) rfl rfl (fun _ _ _ _ h => h) S4 ?_
    refine ZT.take 16 rfl rfl (fun w' hS' => by first | exact r_move rfl | exact r_assign rfl | exact r_fieldAddr rfl | exact r_add rfl rfl (wrap_i64 (by omega) (by omega)) | exact r_sub rfl rfl (wrap_i64 (by omega) (by omega)) | exact r_mul rfl rfl (wrap_i64 (by omega) (by omega)) | exact r_convInt rfl (wrap_u64 (by omega) (by omega)) | exact r_convInt rfl (wrap_i64 (by omega) (by omega)) | exact r_convInt rfl (wrap_u32 (by omega) (by omega)) | exact r_sliceArr rfl | exact r_nilCheck rfl | exact r_extract rfl rfl | exact r_lenSlice rfl | exact r_and rfl rfl rfl | exact r_shr rfl rfl (by omega) rfl | exact r_toB rfl | exact r_toU rfl | exact r_toQ rfl) (by kernel_rfl) rfl (by kernel_rfl) (by kernel_rfl) rfl rfl (fun _ _ _ _ h => h) S4 ?_
    refine ZT.take 17 rfl rfl (fun w' hS' => r_load1 rfl hS'.2.2.1 rfl) (by kernel_rfl) rfl (by kernel_rfl) (by kernel_rfl) rfl rfl (fun _ _ _ _ h => h) S4 ?_
    refine ZT.take 18 rfl rfl (fun w' hS' => by first | exact r_move rfl | exact r_assign rfl | exact r_fieldAddr rfl | exact r_add rfl rfl (wrap_i64 (by omega) (by omega)) | exact r_sub rfl rfl (wrap_i64 (by omega) (by omega)) | exact r_mul rfl rfl (wrap_i64 (by omega) (by omega)) | exact r_convInt rfl (wrap_u64 (by omega) (by omega)) | exact r_convInt rfl (wrap_i64 (by omega) (by omega)) | exact r_convInt rfl (wrap_u32 (by omega) (by omega)) | exact r_sliceArr rfl | exact r_nilCheck rfl | exact r_extract rfl rfl | exact r_lenSlice rfl | exact r_and rfl rfl rfl | exact r_shr rfl rfl (by omega) rfl | exact r_toB rfl | exact r_toU rfl | exact r_toQ rfl) (by kernel_rfl) rfl (by kernel_rfl) (by kernel_rfl) rfl rfl (fun _ _ _ _ h => h) S4 ?_
    refine ZT.take 19 rfl rfl (fun w' hS' => (r_sliceFrom rfl rfl (by omega) (by omega)).eq (v' := .slice (cutAt pv cv k 37) (ks.length - k) (cv - k)) (by simp)) (by kernel_rfl) rfl (by kernel_rfl) (by kernel_rfl) rfl rfl (fun _ _ _ _ h => h) S4 ?_
    refine ZT.via (X := Value × Nat) #[true, true, true, true, true, true, true, true, true, true, true, true, true, false, true, true, true, true, true, true, false, false, false, false] 2
      (fun x => [(28, .slice (some ⟨x.2, 0, none⟩) 1 1), (24, x.1), (35, .slice (cutAt pv cv k 37) (ks.length - k) (cv - k)), (16, .pointer (some ⟨bw, 0, none⟩))])
      (fun x w' => Mem w4 No [.own (.slice (some ⟨x.2, 0, none⟩) 1 1) 78 37 1 (k37 (p, c)), .own x.1 78 37 k (kfl (ks.take k))] w') (fun join => ?_) ?_
    · refine ZT.two 1 12 rfl (by kernel_rfl) rfl rfl rfl rfl rfl rfl ?_ ?_
      · refine ZL.bslice (Mem.start w4 No) rfl rfl rfl (by simp) (by decide) rfl (fun g5 w5 N5 => ?_)
        refine ZL.nil (ZP.turning (hS N5.ext) ?_)
        refine ZT.two 8 12 rfl (by kernel_rfl) rfl rfl rfl rfl rfl rfl ?_ ?_
        · refine ZL.append N5 rfl rfl (hlow.mv (Mv.ext N5.ext)) (k37_one _) (by simp only [maxLen]; omega) (by omega) rfl (fun v6 w6 N6 => ?_)
          simp only [Nat.zero_add, List.nil_append] at N6
          refine ZL.nil (ZP.turning (hS N6.ext) ?_)
          refine ZT.one 12 rfl (by kernel_rfl) rfl rfl rfl ?_
          refine ZL.bslice N6 rfl rfl rfl (by simp [Value.cells, k37_length]) (by decide) rfl (fun g7 w7 N7 => ?_)
          refine ZL.nil (ZP.turning (hS N7.ext) ?_)
          exact join _ _ _ _ (by kernel_rfl) rfl ⟨(v6, g7), ⟨rfl, rfl, rfl, rfl, trivial⟩, by simpa using N7⟩
        · refine ZL.bslice N5 rfl rfl rfl (by simp [Value.cells, k37_length]) (by decide) rfl (fun g6 w6 N6 => ?_)
          refine ZL.nil (ZP.turning (hS N6.ext) ?_)
          refine ZT.one 8 rfl (by kernel_rfl) rfl rfl rfl ?_
          refine ZL.append N6 rfl rfl (hlow.mv (Mv.ext N6.ext)) (k37_one _) (by simp only [maxLen]; omega) (by omega) rfl (fun v7 w7 N7 => ?_)
          simp only [Nat.zero_add, List.nil_append] at N7
          refine ZL.nil (ZP.turning (hS N7.ext) ?_)
          exact join _ _ _ _ (by kernel_rfl) rfl ⟨(v7, g6), ⟨rfl, rfl, rfl, rfl, trivial⟩, by simpa using N7⟩
      · refine ZL.bslice (Mem.start w4 No) rfl rfl rfl (by simp [Value.cells, k37_length]) (by decide) rfl (fun g5 w5 N5 => ?_)
        refine ZL.nil (ZP.turning (hS N5.ext) ?_)
        refine ZT.one 1 rfl (by kernel_rfl) rfl rfl rfl ?_
        refine ZL.bslice N5 rfl rfl rfl (by simp) (by decide) rfl (fun g6 w6 N6 => ?_)
        refine ZL.nil (ZP.turning (hS N6.ext) ?_)
        refine ZT.one 8 rfl (by kernel_rfl) rfl rfl rfl ?_
        refine ZL.append N6 rfl rfl (hlow.mv (Mv.ext N6.ext)) (k37_one _) (by simp only [maxLen]; omega) (by omega) rfl (fun v7 w7 N7 => ?_)
        simp only [Nat.zero_add, List.nil_append] at N7
        refine ZL.nil (ZP.turning (hS N7.ext) ?_)
        exact join _ _ _ _ (by kernel_rfl) rfl ⟨(v7, g5), ⟨rfl, rfl, rfl, rfl, trivial⟩, by simpa using N7.swap⟩
    · rintro ⟨v24, g28⟩ w7 N7
      simp only at N7 ⊢
      refine ZT.one 13 rfl (by kernel_rfl) rfl rfl rfl ?_
      refine ZL.append N7 rfl rfl (N7.own.slc (X := No) (fun _ _ h => h)) (by simpa [kfl] using k37_one [(p, c)]) (by simp only [maxLen]; omega) (by omega) rfl (fun v8 w8 N8 => ?_)
      refine ZL.nil (ZP.turning (hS N8.ext) ?_)
      refine ZT.one 20 rfl (by kernel_rfl) rfl rfl rfl ?_
      refine ZL.append N8 rfl rfl (hhigh.mv (Mv.ext N8.ext)) (k37_one _) (by simp only [maxLen]; omega) (by omega) rfl (fun v9 w9 N9 => ?_)
      refine ZL.nil (ZP.turning (hS N9.ext) ?_)
      refine ZT.done rfl (by kernel_rfl) ?_
      refine ZL.val (r_nilCheck rfl) rfl ?_; refine ZL.val (r_fieldAddr rfl) rfl ?_
      obtain ⟨p9, c9, rfl⟩ := N9.drop.own.shape
      have N10 := (N9.sub [1] rfl).addOld (N9.ext.at (M4.ext.at hb id) id) (Nat.lt_of_lt_of_le hbl M4.ext.size)
      refine ZL.st N10 rfl rfl (cs' := #[.slice p9 (k + 1 + (ks.length - k)) c9]) rfl rfl (fun w10 N11 => ?_)
      refine ZL.nil ?_; refine ZP.then ?_; refine ZC.seq ?_; refine ZC.region ?_; refine ZL.val (r_assign rfl) rfl ?_; refine ZL.nil ?_; refine ZP.then ?_; refine ZC.ret ?_
      have hput := hpos.put (c := c) hs hp hh
      have hr := RefS.made N11 (ks := ks.take k ++ (p, c) :: ks.drop k) (by rw [List.length_append, hlowl, List.length_cons, List.length_drop]; omega) (by simp [kfl]) hput.1 hput.2
      refine ZP.ret1 rfl rfl ⟨⟨ExtX.trans M4.ext N11.ext (fun _ h => h.elim) (fun _ _ h => h), hr.mv (Mv.mono fun b _ hb => ⟨Nat.lt_of_lt_of_le hb.2 M4.ext.size, fun e => hY (e ▸ hb.1)⟩)⟩, by rw [← hit]; rfl⟩

theorem RTake_ok (Y : Nat → Prop) (bw : Nat) (m : CMap) (p : Pt) (w : World) (h : RefS w Y bw m) (hn : m.length ≤ 100000) :
    Ret P 19 #[.pointer (some ⟨bw, 0, none⟩), p.v] w (fun r w' => RefU w w' Y bw (mdel m p) ∧ r = .tuple #[((mget m p).getD Cn.zero).v, .bool (mget m p).isSome]) := by
  have h0 := h
  obtain ⟨hY, v, ks, hb, hk, hs, hp⟩ := h
  have hbl := (Array.getElem?_eq_some_iff.1 hb).1
  have hlen : ks.length ≤ 100000 := by rw [hp.length_eq]; exact hn
  refine Ret.enter2 Tryd.func19 rfl Tryd.ntmps19 rfl ?_
  refine ZC.seq ?_; refine ZC.region ?_
  refine ZL.box (Mem.start w No) rfl rfl rfl (fun b3 w1 M1 => ?_)
  refine ZL.alloc M1 rfl rfl (fun b4 w2 M2 => ?_)
  refine ZL.val (r_assign rfl) rfl ?_; refine ZL.nil ?_; refine ZP.then ?_; refine ZC.seq ?_; refine ZC.region ?_; refine ZL.val (r_move rfl) rfl ?_
  refine ZL.val (r_ldW M2 rfl (Pt.size _)) rfl ?_
  refine ZL.call (r_call rfl) rfl (At_ok Y bw v ks p w2 (M2.ext.at hb id) (hk.mv (Mv.ext M2.ext)) hlen) (fun v3 w3 ⟨E3, k, hpos, hr⟩ => ?_)
  subst hr
  have M3 := M2.ext' E3
  have hit := hpos.hit hs
  rw [mget_perm hp hs.nodup] at hit
  obtain ⟨pv, cv, rfl⟩ := hk.shape
  have hcap := hk.slc.cap
  have hkl := hpos.le
  refine ZL.val (r_move rfl) rfl ?_; refine ZL.val (r_extract rfl rfl) rfl ?_; refine ZL.val (r_extract rfl rfl) rfl ?_; refine ZL.val (r_assign rfl) rfl ?_; refine ZL.val (r_assign rfl) rfl ?_; refine ZL.nil ?_; refine ZP.then ?_; refine ZC.seq ?_; refine ZC.seq ?_; refine ZC.region ?_; refine ZL.val (r_move rfl) rfl ?_; refine ZL.val (r_not rfl) rfl ?_; refine ZL.nil ?_; refine ZP.then ?_
  cases hh : hitAt ks p k with
  | false =>
    rw [hh] at hit
    have hnone : mget m p = none := by
      cases h1 : mget m p with
      | none => rfl
      | some v => rw [h1] at hit; cases hit
    refine ZC.condT rfl ?_; refine ZC.seq ?_; refine ZC.region ?_
    refine ZL.val (r_build0 rfl) rfl ?_
    refine ZL.stW M3 rfl rfl (cs' := Cn.zero.cells) rfl (by rfl) (by rfl) (by rfl) (fun w4 M4 => ?_)
    refine ZL.val (r_assign rfl) rfl ?_; refine ZL.nil ?_; refine ZP.then ?_; refine ZC.ret ?_; refine ZP.thenR ?_
    have h3 : RefS w4 (fun b => Y b ∧ b < w.heap.size) bw m := (h0.mv (Mv.ext M4.ext)).mv (Mv.mono fun b _ hb => hb.1)
    have hdel : mdel m p = m := by
      rw [mdel, List.filter_eq_self]
      intro x hx
      rw [mget_none] at hnone
      simp only [decide_eq_true_eq]
      exact fun e => hnone (e ▸ List.mem_map.2 ⟨x, hx, rfl⟩)
    refine ZP.retCT rfl rfl (M4.get inferInstance) rfl rfl ⟨⟨Ext.toX M4.ext, ?_⟩, by rw [hnone]; rfl⟩
    rw [hdel]; exact h3
  | true =>
    rw [hh] at hit
    have hkn : k < ks.length := by
      unfold hitAt at hh; split at hh
      · assumption
      · cases hh
    have hkp : ks[k].1 = p := by simpa [hitAt, hkn] using hh
    have hget := hpos.get hs hp hkn hkp
    obtain ⟨g, o, cs, e, fz, r, rfl, hg, _, _, hre, _, hsz, hext⟩ := ListR.elem (by decide) (hk.mv (Mv.ext M3.ext)) hkn
    subst hre
    generalize hcn : ks[k].2 = c at hget
    have hext' := k37_cn _ hext
    rw [hcn] at hext'
    refine ZC.condF rfl ?_; refine ZC.skip ?_; refine ZP.then ?_; refine ZC.seq ?_; refine ZC.region ?_; refine ZL.val (r_move rfl) rfl ?_; refine ZL.val (r_nilCheck rfl) rfl ?_; refine ZL.val (r_fieldAddr rfl) rfl ?_
    refine ZL.val (r_load1 rfl (M3.ext.at hb id) rfl) rfl ?_
    refine ZL.val (r_move rfl) rfl ?_
    refine ZL.val (r_idxS k rfl rfl rfl hkn) rfl ?_
    refine ZL.val (r_fieldAddr rfl) rfl ?_
    refine ZL.val (r_loadN rfl hg (by omega) hext') rfl ?_
    refine ZL.alloc M3 rfl rfl (fun b8 w4 M4 => ?_)
    refine ZL.stW M4 rfl rfl (cs' := c.cells) rfl (by rfl) (by rfl) (by rfl) (fun w5 M5 => ?_)
    refine ZL.nil ?_; refine ZP.then ?_; refine ZC.seq ?_
    refine ZC.turning (Holds [(bw, .cells #[.slice (some ⟨g, o, none⟩) ks.length cv] 55 (0, 0))]) 17 rfl (by kernel_rfl) rfl rfl rfl (fun w6 E6 _ => ?_)
    have M6 := M5.ext' E6
    have S6 : Holds [(bw, .cells #[.slice (some ⟨g, o, none⟩) ks.length cv] 55 (0, 0))] w6 := ⟨M6.ext.at hb id, trivial⟩
    have hS : ∀ {w' : World}, Ext w6 w' → Holds [(bw, .cells #[.slice (some ⟨g, o, none⟩) ks.length cv] 55 (0, 0))] w' := fun {w'} hE => ⟨hE.at S6.1 id, trivial⟩
    have hk6 := hk.mv (Mv.ext M6.ext)
    have hlow := hk6.below hkl
    have hhigh := hk6.above (k := k + 1) (by omega)
    have hlowl : (ks.take k).length = k := by rw [List.length_take]; omega
    refine ZT.take 0 rfl rfl (fun w' hS' => by first | exact r_move rfl | exact r_assign rfl | exact r_fieldAddr rfl | exact r_add rfl rfl (wrap_i64 (by omega) (by omega)) | exact r_sub rfl rfl (wrap_i64 (by omega) (by omega)) | exact r_mul rfl rfl (wrap_i64 (by omega) (by omega)) | exact r_convInt rfl (wrap_u64 (by omega) (by omega)) | exact r_convInt rfl (wrap_i64 (by omega) (by omega)) | exact r_convInt rfl (wrap_u32 (by omega) (by omega)) | exact r_sliceArr rfl | exact r_nilCheck rfl | exact r_extract rfl rfl | exact r_lenSlice rfl | exact r_and rfl rfl rfl | exact r_shr rfl rfl (by omega) rfl | exact r_toB rfl | exact r_toU rfl | exact r_toQ rfl) (by kernel_rfl) rfl (by kernel_rfl) (by kernel_rfl) rfl rfl (fun _ _ _ _ h => h) S6 ?_
    refine ZT.take 2 rfl rfl (fun w' hS' => by first | exact r_move rfl | exact r_assign rfl | exact r_fieldAddr rfl | exact r_add rfl rfl (wrap_i64 (by omega) (by omega)) | exact r_sub rfl rfl (wrap_i64 (by omega) (by omega)) | exact r_mul rfl rfl (wrap_i64 (by omega) (by omega)) | exact r_convInt rfl (wrap_u64 (by omega) (by omega)) | exact r_convInt rfl (wrap_i64 (by omega) (by omega)) | exact r_convInt rfl (wrap_u32 (by omega) (by omega)) | exact r_sliceArr rfl | exact r_nilCheck rfl | exact r_extract rfl rfl | exact r_lenSlice rfl | exact r_and rfl rfl rfl | exact r_shr rfl rfl (by omega) rfl | exact r_toB rfl | exact r_toU rfl | exact r_toQ rfl) (by kernel_rfl) rfl (by kernel_rfl) (by kernel_rfl) rfl rfl (fun _ _ _ _ h => h) S6 ?_
    refine ZT.take 3 rfl rfl (fun w' hS' => by first | exact r_move rfl | exact r_assign rfl | exact r_fieldAddr rfl | exact r_add rfl rfl (wrap_i64 (by omega) (by omega)) | exact r_sub rfl rfl (wrap_i64 (by omega) (by omega)) | exact r_mul rfl rfl (wrap_i64 (by omega) (by omega)) | exact r_convInt rfl (wrap_u64 (by omega) (by omega)) | exact r_convInt rfl (wrap_i64 (by omega) (by omega)) | exact r_convInt rfl (wrap_u32 (by omega) (by omega)) | exact r_sliceArr rfl | exact r_nilCheck rfl | exact r_extract rfl rfl | exact r_lenSlice rfl | exact r_and rfl rfl rfl | exact r_shr rfl rfl (by omega) rfl | exact r_toB rfl | exact r_toU rfl | exact r_toQ rfl) (by kernel_rfl) rfl (by kernel_rfl) (by kernel_rfl) rfl rfl (fun _ _ _ _ h => h) S6 ?_
    refine ZT.take 4 rfl rfl (fun w' hS' => by first | exact r_move rfl | exact r_assign rfl | exact r_fieldAddr rfl | exact r_add rfl rfl (wrap_i64 (by omega) (by omega)) | exact r_sub rfl rfl (wrap_i64 (by omega) (by omega)) | exact r_mul rfl rfl (wrap_i64 (by omega) (by omega)) | exact r_convInt rfl (wrap_u64 (by omega) (by omega)) | exact r_convInt rfl (wrap_i64 (by omega) (by omega)) | exact r_convInt rfl (wrap_u32 (by omega) (by omega)) | exact r_sliceArr rfl | exact r_nilCheck rfl | exact r_extract rfl rfl | exact r_lenSlice rfl | exact r_and rfl rfl rfl | exact r_shr rfl rfl (by omega) rfl | exact r_toB rfl | exact r_toU rfl | exact r_toQ rfl) (by kernel_rfl) rfl (by kernel_rfl) (by kernel_rfl) rfl rfl (fun _ _ _ _ h => h) S6 ?_
    refine ZT.take 5 rfl rfl (fun w' hS' => r_load1 rfl hS'.1 rfl) (by kernel_rfl) rfl (by kernel_rfl) (by kernel_rfl) rfl rfl (fun _ _ _ _ h => h) S6 ?_
    refine ZT.take 6 rfl rfl (fun w' hS' => by first | exact r_move rfl | exact r_assign rfl | exact r_fieldAddr rfl | exact r_add rfl rfl (wrap_i64 (by omega) (by omega)) | exact r_sub rfl rfl (wrap_i64 (by omega) (by omega)) | exact r_mul rfl rfl (wrap_i64 (by omega) (by omega)) | exact r_convInt rfl (wrap_u64 (by omega) (by omega)) | exact r_convInt rfl (wrap_i64 (by omega) (by omega)) | exact r_convInt rfl (wrap_u32 (by omega) (by omega)) | exact r_sliceArr rfl | exact r_nilCheck rfl | exact r_extract rfl rfl | exact r_lenSlice rfl | exact r_and rfl rfl rfl | exact r_shr rfl rfl (by omega) rfl | exact r_toB rfl | exact r_toU rfl | exact r_toQ rfl) (by kernel_rfl) rfl (by kernel_rfl) (by kernel_rfl) rfl rfl (fun _ _ _ _ h => h) S6 ?_
    refine ZT.take 7 rfl rfl (fun w' hS' => (r_sliceTo rfl rfl (by omega) (by omega)).eq (v' := .slice (some ⟨g, o, none⟩) k cv) (by simp)) (by kernel_rfl) rfl (by kernel_rfl) (by kernel_rfl) rfl rfl (fun _ _ _ _ h => h) S6 ?_
    refine ZT.take 9 rfl rfl (fun w' hS' => by first | exact r_move rfl | exact r_assign rfl | exact r_fieldAddr rfl | exact r_add rfl rfl (wrap_i64 (by omega) (by omega)) | exact r_sub rfl rfl (wrap_i64 (by omega) (by omega)) | exact r_mul rfl rfl (wrap_i64 (by omega) (by omega)) | exact r_convInt rfl (wrap_u64 (by omega) (by omega)) | exact r_convInt rfl (wrap_i64 (by omega) (by omega)) | exact r_convInt rfl (wrap_u32 (by omega) (by omega)) | exact r_sliceArr rfl | exact r_nilCheck rfl | exact r_extract rfl rfl | exact r_lenSlice rfl | exact r_and rfl rfl rfl | exact r_shr rfl rfl (by omega) rfl | exact r_toB rfl | exact r_toU rfl | exact r_toQ rfl) (by kernel_rfl) rfl (by kernel_rfl) (by kernel_rfl) rfl rfl (fun _ _ _ _ h => h) S6 ?_
    refine ZT.take 10 rfl rfl (fun w' hS' => by first | exact r_move rfl | exact r_assign rfl | exact r_fieldAddr rfl | exact r_add rfl rfl (wrap_i64 (by omega) (by omega)) | exact r_sub rfl rfl (wrap_i64 (by omega) (by omega)) | exact r_mul rfl rfl (wrap_i64 (by omega) (by omega)) | exact r_convInt rfl (wrap_u64 (by omega) (by omega)) | exact r_convInt rfl (wrap_i64 (by omega) (by omega)) | exact r_convInt rfl (wrap_u32 (by omega) (by omega)) | exact r_sliceArr rfl | exact r_nilCheck rfl | exact r_extract rfl rfl | exact r_lenSlice rfl | exact r_and rfl rfl rfl | exact r_shr rfl rfl (by omega) rfl | exact r_toB rfl | exact r_toU rfl | exact r_toQ rfl) (by kernel_rfl) rfl (by kernel_rfl) (by kernel_rfl) rfl rfl (fun _ _ _ _ h => h) S6 ?_
    refine ZT.take 11 rfl rfl (fun w' hS' => by first | exact r_move rfl | exact r_assign rfl | exact r_fieldAddr rfl | exact r_add rfl rfl (wrap_i64 (by omega) (by omega)) | exact r_sub rfl rfl (wrap_i64 (by omega) (by omega)) | exact r_mul rfl rfl (wrap_i64 (by omega) (by omega)) | exact r_convInt rfl (wrap_u64 (by omega) (by omega)) | exact r_convInt rfl (wrap_i64 (by omega) (by omega)) | exact r_convInt rfl (wrap_u32 (by omega) (by omega)) | exact r_sliceArr rfl | exact r_nilCheck rfl | exact r_extract rfl rfl | exact r_lenSlice rfl | exact r_and rfl rfl rfl | exact r_shr rfl rfl (by omega) rfl | exact r_toB rfl | exact r_toU rfl | exact r_toQ rfl) (by kernel_rfl) rfl (by kernel_rfl) (by kernel_rfl) rfl rfl (fun _ _ _ _ h => h) S6 ?_
    refine ZT.take 12 rfl rfl (fun w' hS' => r_load1 rfl hS'.1 rfl) (by kernel_rfl) rfl (by kernel_rfl) (by kernel_rfl) rfl rfl (fun _ _ _ _ h => h) S6 ?_
    refine ZT.take 13 rfl rfl (fun w' hS' => by first | exact r_move rfl | exact r_assign rfl | exact r_fieldAddr rfl | exact r_add rfl rfl (wrap_i64 (by omega) (by omega)) | exact r_sub rfl rfl (wrap_i64 (by omega) (by omega)) | exact r_mul rfl rfl (wrap_i64 (by omega) (by omega)) | exact r_convInt rfl (wrap_u64 (by omega) (by omega)) | exact r_convInt rfl (wrap_i64 (by omega) (by omega)) | exact r_convInt rfl (wrap_u32 (by omega) (by omega)) | exact r_sliceArr rfl | exact r_nilCheck rfl | exact r_extract rfl rfl | exact r_lenSlice rfl | exact r_and rfl rfl rfl | exact r_shr rfl rfl (by omega) rfl | exact r_toB rfl | exact r_toU rfl | exact r_toQ rfl) (by kernel_rfl) rfl (by kernel_rfl) (by kernel_rfl) rfl rfl (fun _ _ _ _ h => h) S6 ?_
    refine ZT.take 14 rfl rfl (fun w' hS' => by first | exact r_move rfl | exact r_assign rfl | exact r_fieldAddr rfl | exact r_add rfl rfl (wrap_i64 (by omega) (by omega)) | exact r_sub rfl rfl (wrap_i64 (by omega) (by omega)) | exact r_mul rfl rfl (wrap_i64 (by omega) (by omega)) | exact r_convInt rfl (wrap_u64 (by omega) (by omega)) | exact r_convInt rfl (wrap_i64 (by omega) (by omega)) | exact r_convInt rfl (wrap_u32 (by omega) (by omega)) | exact r_sliceArr rfl | exact r_nilCheck rfl | exact r_extract rfl rfl | exact r_lenSlice rfl | exact r_and rfl rfl rfl | exact r_shr rfl rfl (by omega) rfl | exact r_toB rfl | exact r_toU rfl | exact r_toQ rfl) (by kernel_rfl) rfl (by kernel_rfl) (by kernel_rfl) rfl rfl (fun _ _ _ _ h => h) S6 ?_
    refine ZT.take 15 rfl rfl (fun w' hS' => (r_sliceFrom rfl rfl (by omega) (by omega)).eq (v' := .slice (cutAt (some ⟨g, o, none⟩) cv (k + 1) 37) (ks.length - (k + 1)) (cv - (k + 1))) (by rw [show ((k : Int) + 1).toNat = k + 1 by omega])) (by kernel_rfl) rfl (by kernel_rfl) (by kernel_rfl) rfl rfl (fun _ _ _ _ h => h) S6 ?_
    refine ZT.one 1 rfl (by kernel_rfl) rfl rfl rfl ?_
    refine ZL.bslice (Mem.start w6 No) rfl rfl rfl (by simp) (by decide) rfl (fun g7 w7 N7 => ?_)
    refine ZL.nil (ZP.turning (hS N7.ext) ?_)
    refine ZT.one 8 rfl (by kernel_rfl) rfl rfl rfl ?_
    refine ZL.append N7 rfl rfl (hlow.mv (Mv.ext N7.ext)) (k37_one _) (by simp only [maxLen]; omega) (by omega) rfl (fun v8 w8 N8 => ?_)
    simp only [Nat.zero_add, List.nil_append] at N8
    refine ZL.nil (ZP.turning (hS N8.ext) ?_)
    refine ZT.one 16 rfl (by kernel_rfl) rfl rfl rfl ?_
    refine ZL.append N8 rfl rfl (hhigh.mv (Mv.ext N8.ext)) (k37_one _) (by simp only [maxLen]; omega) (by omega) rfl (fun v9 w9 N9 => ?_)
    refine ZL.nil (ZP.turning (hS N9.ext) ?_)
    refine ZT.done rfl (by kernel_rfl) ?_
    refine ZL.val (r_nilCheck rfl) rfl ?_; refine ZL.val (r_fieldAddr rfl) rfl ?_
    obtain ⟨p9, c9, rfl⟩ := N9.own.shape
    have N10 := N9.addOld (N9.ext.at (M6.ext.at hb id) id) (Nat.lt_of_lt_of_le hbl M6.ext.size)
    refine ZL.st N10 rfl rfl (cs' := #[.slice p9 (k + (ks.length - (k + 1))) c9]) rfl rfl (fun w10 N11 => ?_)
    have hdel := hpos.del hs hp hkn hkp
    have hr := RefS.made N11 (ks := ks.take k ++ ks.drop (k + 1)) (by rw [List.length_append, hlowl, List.length_drop]) (by simp [kfl]) hdel.1 hdel.2
    have hne : ∀ d ∈ ([.blk b8 (.cells c.cells 44), .blk b4 (.cells Cn.zero.cells 44), .blk b3 (.cells p.cells.toArray 41)] : List Chunk), ∀ g, d.fp = some g → ¬ g = bw := fun d hd g hg e => by
      rcases M6.mine d hd g hg with h1 | h1
      · exact h1
      · omega
    have M10 := (M6.weak (· = bw)).step N11.ext (fun b hb h => h) hne
    have R10 := M10.rebase
    refine ZL.nil ?_; refine ZP.then ?_; refine ZC.seq ?_; refine ZC.region ?_
    refine ZL.val (r_ldW R10 rfl rfl) rfl ?_
    refine ZL.stW R10 rfl rfl (cs' := c.cells) rfl (by rfl) (by rfl) (by rfl) (fun w11 R11 => ?_)
    refine ZL.val (r_assign rfl) rfl ?_; refine ZL.nil ?_; refine ZP.then ?_; refine ZC.ret ?_
    have hr11 := hr.mv (Mv.extX R11.ext fun b hb ⟨d, hd, hg⟩ => ⟨Chunk.lt (M6.ok d hd) b hg, hne d hd b hg⟩)
    refine ZP.retCT rfl rfl (R11.get (b := b4) inferInstance) rfl rfl ⟨⟨M10.backX R11.ext, hr11.mv (Mv.mono fun b _ hb => ⟨Nat.lt_of_lt_of_le hb.2 M6.ext.size, fun e => hY (e ▸ hb.1)⟩)⟩, by rw [hget]; rfl⟩
end
section
open Go Go.RowKit Go.Lib

theorem RPoints_ok (Y : Nat → Prop) (bw : Nat) (m : CMap) (w : World) (h : RefS w Y bw m) (hn : m.length ≤ 100000) :
    Ret P 24 #[.pointer (some ⟨bw, 0, none⟩)] w
      (fun r w' => Ext w w' ∧ ∃ xs : List Pt, xs.Perm (m.map (·.1)) ∧ xs.Pairwise ltP ∧ NewO w w' 41 33 r xs.length (flatP xs)) := by
  obtain ⟨hY, v, ks, hb, hk, hs, hp⟩ := h
  have hlen : ks.length ≤ 100000 := by rw [hp.length_eq]; exact hn
  obtain ⟨pv, cv, rfl⟩ := hk.shape
  refine Ret.enter1 Tryd.func24 rfl Tryd.ntmps24 rfl ?_
  refine ZC.seq ?_; refine ZC.region ?_; refine ZL.val (r_assign rfl) rfl ?_; refine ZL.nil ?_; refine ZP.then ?_; refine ZC.seq ?_; refine ZC.region ?_; refine ZL.val (r_assign rfl) rfl ?_; refine ZL.nil ?_; refine ZP.then ?_; refine ZC.seq ?_; refine ZC.seq ?_; refine ZC.region ?_; refine ZL.val (r_assign rfl) rfl ?_; refine ZL.nil ?_; refine ZP.then ?_; refine ZC.block ?_
  refine ZC.loop (X := Nat × Value) (fun x => [(4, .int .i64 x.1), (3, x.2), (0, .pointer (some ⟨bw, 0, none⟩))])
    (fun x w' => x.1 ≤ ks.length ∧ Mem w No [.own x.2 41 33 x.1 (flatP ((ks.take x.1).map (·.1)))] w') (fun x => ks.length - x.1) (0, .slice none 0 0) ⟨rfl, rfl, rfl, trivial⟩ ⟨by omega, (Mem.start w No).nilOwn _ _⟩ ?_
  rintro ⟨i, x⟩ w1 ⟨hi, M1⟩
  simp only at hi M1 ⊢
  refine ZC.seq ?_; refine ZC.seq ?_; refine ZC.region ?_; refine ZL.val (r_move rfl) rfl ?_; refine ZL.val (r_move rfl) rfl ?_; refine ZL.val (r_nilCheck rfl) rfl ?_; refine ZL.val (r_fieldAddr rfl) rfl ?_
  refine ZL.val (r_load1 rfl (M1.ext.at hb id) rfl) rfl ?_
  refine ZL.val (r_lenSlice rfl) rfl ?_; refine ZL.val (r_lss rfl rfl) rfl ?_; refine ZL.nil ?_; refine ZP.then ?_
  refine ZC.condD rfl (fun hc => ?_) (fun hc => ?_)
  · have hil : i < ks.length := by omega
    obtain ⟨g, o, cs, e, fz, r, rfl, hg, _, _, hre, _, hsz, hext⟩ := ListR.elem (by decide) (hk.mv (Mv.ext M1.ext)) hil
    subst hre
    refine ZC.skip ?_; refine ZP.then ?_; refine ZC.seq ?_; refine ZC.block ?_; refine ZC.region ?_; refine ZL.val (r_move rfl) rfl ?_; refine ZL.val (r_move rfl) rfl ?_; refine ZL.val (r_nilCheck rfl) rfl ?_; refine ZL.val (r_fieldAddr rfl) rfl ?_
    refine ZL.val (r_load1 rfl (M1.ext.at hb id) rfl) rfl ?_
    refine ZL.val (r_move rfl) rfl ?_
    refine ZL.val (r_idxS i rfl rfl rfl hil) rfl ?_
    refine ZL.val (r_fieldAddr rfl) rfl ?_
    refine ZL.val (r_loadN rfl hg (by omega) (k37_pt _ hext)) rfl ?_
    refine ZL.bslice M1 rfl rfl rfl (by simp [Value.cells, Pt.length]) (by decide) rfl (fun g2 w2 M2 => ?_)
    refine ZL.append M2 rfl rfl (M2.own.slc (X := No) (fun _ _ h => h)) (by have := pts_one [ks[i].1]; simpa using this) (by simp only [maxLen]; omega) (by omega) rfl (fun v3 w3 M3 => ?_)
    refine ZL.val (r_assign rfl) rfl ?_; refine ZL.nil ?_; refine ZP.blockN ?_; refine ZP.then ?_; refine ZC.region ?_; refine ZL.val (r_move rfl) rfl ?_; refine ZL.val (r_add rfl rfl (wrap_i64 (by omega) (by omega))) rfl ?_; refine ZL.val (r_assign rfl) rfl ?_; refine ZL.nil ?_
    refine ZP.round (i + 1, v3) ⟨rfl, rfl, rfl, trivial⟩ ⟨by simp only; omega, ?_⟩ (by simp only; omega)
    have M4 := M3.drop
    have e : flatP ((ks.take (i + 1)).map (·.1)) = flatP ((ks.take i).map (·.1)) ++ ks[i].1.cells := by
      rw [List.take_succ_eq_append_getElem hil]
      simp only [flatP, List.map_append, List.flatten_append, List.map_cons, List.map_nil, List.flatten_cons, List.flatten_nil, List.append_nil]
    simp only [e]
    simpa using M4
  · have hil : i = ks.length := by omega
    subst hil
    refine ZC.exit ?_; refine ZP.thenX ?_; refine ZP.thenX ?_; refine ZP.blockE ?_; refine ZP.then ?_; refine ZC.seq ?_; refine ZC.region ?_; refine ZL.val (r_move rfl) rfl ?_; refine ZL.val (r_assign rfl) rfl ?_; refine ZL.nil ?_; refine ZP.then ?_; refine ZC.ret ?_
    rw [List.take_length] at M1
    refine ZP.ret1 rfl rfl ⟨M1.ext, ks.map (·.1), hp.map _, ?_, ?_, fun g hg => ?_⟩
    · rw [List.pairwise_map]; exact hs
    · rw [List.length_map]; exact M1.own
    · exact (M1.mine _ (List.mem_cons_self ..) g hg).resolve_left (fun h => h)

theorem mkAll_none {m : CMap} {t : TTx} {h tm : Int} {b : Bool} {k N : Nat} (hN : N ≤ 4294967296) (hk : k < N) (hA : hasAny m (ptsOf t.id N) = false) : mget (mkAll m t h tm b k) ⟨t.id, UInt32.ofNat k⟩ = none := by
  rw [hasAny_false] at hA
  have hA' : hasAny m (ptsOf t.id k) = false := hasAny_false.2 fun p hp => hA p (by
    simp only [ptsOf, List.mem_map, List.mem_range] at hp ⊢
    obtain ⟨i, hi, rfl⟩ := hp
    exact ⟨i, by omega, rfl⟩)
  rw [mkAll_new (by omega) hA', mget_none, List.map_append, newC_keys, List.mem_append]
  rintro (h1 | h1)
  · exact hA _ (ptsOf_mem hk) h1
  · simp only [ptsOf, List.mem_map, List.mem_range, Pt.mk.injEq, true_and] at h1
    obtain ⟨i, hi, e⟩ := h1
    have := ofNat_inj (by omega) (by omega) e
    omega
theorem mkAll_length {m : CMap} {t : TTx} {h tm : Int} {b : Bool} : ∀ k, (mkAll m t h tm b k).length ≤ m.length + k
  | 0 => by simp [mkAll]
  | k + 1 => by
    have := mkAll_length (m := m) (t := t) (h := h) (tm := tm) (b := b) k
    rw [mkAll, mput]
    split <;> simp <;> omega
theorem delAll_length {m : CMap} {t : TTx} (k : Nat) : (delAll m t k).length ≤ m.length := by rw [delAll_eq]; exact List.length_filter_le _ _

theorem RMake_ok (Y Z : Nat → Prop) (bw : Nat) (m : CMap) (v : Value) (t : TTx) (ht tm : Int) (b : Bool) (w : World) (h : RefS w Y bw m) (hT : TxR w Z v t) (hZ : Z bw) (hm : m.length ≤ 50000) (hn : t.outs.length ≤ 10000) :
    Ret P 20 #[.pointer (some ⟨bw, 0, none⟩), v, .int .i64 ht, .int .i64 tm, .bool b] w (fun r w' => RefU w w' Y bw (smake m t ht tm b) ∧ r = .bool (!hasAny m (ptsOf t.id t.outs.length))) := by
  have hbl : bw < w.heap.size := by obtain ⟨_, v, ks, hb, _⟩ := h; exact (Array.getElem?_eq_some_iff.1 hb).1
  have hYb := h.1
  obtain ⟨r, rfl, iv, ov, rfl, hI, hOut⟩ := hT
  have hT : TxR w Z (.agg #[u32 t.version, iv, ov, u32 t.lock]) t := ⟨_, rfl, iv, ov, rfl, hI, hOut⟩
  obtain ⟨po, co, rfl⟩ := hOut.shape
  refine Ret.enter5 Tryd.func20 rfl Tryd.ntmps20 rfl ?_
  refine ZC.seq ?_; refine ZC.region ?_
  refine ZL.box (Mem.start w No) rfl rfl rfl (fun b6 w1 M1 => ?_)
  refine ZL.val (r_assign rfl) rfl ?_; refine ZL.nil ?_; refine ZP.then ?_; refine ZC.seq ?_; refine ZC.region ?_
  refine ZL.val (r_ldW M1 rfl rfl) rfl ?_
  refine ZL.call (r_call rfl) rfl (refTxid_ok _ t w1 Z (hT.mv (Mv.ext M1.ext))) (fun v2 w2 ⟨E2, hv⟩ => ?_)
  subst hv
  have M2 := M1.ext' E2
  refine ZL.alloc M2 rfl rfl (fun b11 w3 M3 => ?_)
  refine ZL.stW M3 rfl rfl (cs' := t.id.cells.toArray) rfl (by simp) (B32.size _) (B32.one _) (fun w4 M4 => ?_)
  refine ZL.nil ?_; refine ZP.then ?_; refine ZC.seq ?_; refine ZC.seq ?_; refine ZC.region ?_; refine ZL.val (r_assign rfl) rfl ?_; refine ZL.nil ?_; refine ZP.then ?_; refine ZC.block ?_
  refine ZC.loop (X := Nat) (fun k => [(12, .int .i64 k), (11, .pointer (some ⟨b11, 0, none⟩)), (6, .pointer (some ⟨b6, 0, none⟩)), (0, .pointer (some ⟨bw, 0, none⟩)), (2, .int .i64 ht), (3, .int .i64 tm), (4, .bool b)])
    (fun k w' => k ≤ t.outs.length ∧ (∀ i, i < k → mget m ⟨t.id, UInt32.ofNat i⟩ = none) ∧ Mem w No [.blk b11 (.cells t.id.cells.toArray 39), .blk b6 (.cells #[u32 t.version, iv, .slice po t.outs.length co, u32 t.lock] 30)] w') (fun k => t.outs.length - k) 0 ⟨rfl, rfl, rfl, rfl, rfl, rfl, rfl, trivial⟩ ⟨by omega, (fun i hi => by omega), M4⟩ ?_
  rintro k w5 ⟨hk, hnone, M5⟩
  refine ZC.seq ?_; refine ZC.seq ?_; refine ZC.region ?_; refine ZL.val (r_move rfl) rfl ?_; refine ZL.val (r_fieldAddr rfl) rfl ?_
  refine ZL.val (r_ld M5 rfl (by rfl)) rfl ?_
  refine ZL.val (r_lenSlice rfl) rfl ?_; refine ZL.val (r_lss rfl rfl) rfl ?_; refine ZL.nil ?_; refine ZP.then ?_
  refine ZC.condD rfl (fun hc => ?_) (fun hc => ?_)
  · have hk' : k < t.outs.length := by omega
    refine ZC.skip ?_; refine ZP.then ?_; refine ZC.seq ?_; refine ZC.block ?_; refine ZC.seq ?_; refine ZC.region ?_; refine ZL.val (r_move rfl) rfl ?_
    refine ZL.val (r_ldW M5 rfl (B32.size _)) rfl ?_
    refine ZL.val (r_move rfl) rfl ?_; refine ZL.val (r_convInt rfl (wrap_u32 (by omega) (by omega))) rfl ?_
    refine ZL.val (r_buildPt rfl rfl (id := t.id) (vo := UInt32.ofNat k) rfl rfl (by simp; omega)) rfl ?_
    refine ZL.call (r_call rfl) rfl (RGet_ok Y bw m ⟨t.id, UInt32.ofNat k⟩ w5 (h.mv (Mv.ext M5.ext)) (by omega)) (fun v6 w6 ⟨E6, hr⟩ => ?_)
    subst hr
    have M6 := M5.ext' E6
    refine ZL.val (r_move rfl) rfl ?_; refine ZL.val (r_extract rfl rfl) rfl ?_; refine ZL.val (r_extract rfl rfl) rfl ?_
    refine ZL.alloc M6 rfl rfl (fun b13 w7 M7 => ?_)
    refine ZL.stW M7 rfl rfl (cs' := ((mget m (Pt.mk t.id (UInt32.ofNat k))).getD Cn.zero).cells) rfl (by rfl) (by rfl) (by rfl) (fun w8 M8 => ?_)
    refine ZL.val (r_assign rfl) rfl ?_; refine ZL.nil ?_; refine ZP.then ?_; refine ZC.seq ?_; refine ZC.region ?_; refine ZL.val (r_move rfl) rfl ?_; refine ZL.nil ?_; refine ZP.then ?_
    cases hkk : mget m (Pt.mk t.id (UInt32.ofNat k)) with
    | some c =>
      simp only [Option.isSome_some]
      refine ZC.cond rfl (fun _ => ?_) (fun hh => by cases hh)
      refine ZC.seq ?_; refine ZC.region ?_; refine ZL.val (r_assign rfl) rfl ?_; refine ZL.nil ?_; refine ZP.then ?_; refine ZC.ret ?_; refine ZP.blockR ?_; refine ZP.thenR ?_; refine ZP.thenR ?_; refine ZP.blockR ?_; refine ZP.thenR ?_
      have hany : hasAny m (ptsOf t.id t.outs.length) = true := hasAny_true.2 ⟨_, ptsOf_mem hk', mget_isSome.1 (by rw [hkk]; rfl)⟩
      refine ZP.ret1 rfl rfl ⟨⟨Ext.toX M8.ext, ?_⟩, by rw [hany]; rfl⟩
      rw [smake_old hany]
      exact (h.mv (Mv.ext M8.ext)).mv (Mv.mono fun b _ hb => hb.1)
    | none =>
      simp only [Option.isSome_none]
      refine ZC.cond rfl (fun hh => by cases hh) (fun _ => ?_)
      refine ZC.skip ?_; refine ZP.blockN ?_; refine ZP.then ?_; refine ZC.region ?_; refine ZL.val (r_move rfl) rfl ?_; refine ZL.val (r_add rfl rfl (wrap_i64 (by omega) (by omega))) rfl ?_; refine ZL.val (r_assign rfl) rfl ?_; refine ZL.nil ?_
      refine ZP.round (k + 1) ⟨rfl, rfl, rfl, rfl, rfl, rfl, rfl, trivial⟩ ⟨by omega, fun i hi => ?_, M8.drop⟩ (by omega)
      rcases (by omega : i < k ∨ i = k) with hi | rfl
      · exact hnone i hi
      · exact hkk
  · have hk' : k = t.outs.length := by omega
    subst hk'
    have hany : hasAny m (ptsOf t.id t.outs.length) = false := by
      rw [hasAny, List.any_eq_false]
      intro p hp
      rw [ptsOf, List.mem_map] at hp
      obtain ⟨i, hi, rfl⟩ := hp
      rw [hnone i (by simpa using hi)]
      simp
    have hne : ∀ d ∈ ([.blk b11 (.cells t.id.cells.toArray 39), .blk b6 (.cells #[u32 t.version, iv, .slice po t.outs.length co, u32 t.lock] 30)] : List Chunk), ∀ g, d.fp = some g → ¬ g = bw := fun d hd g hg e => by
      rcases M5.mine d hd g hg with h1 | h1
      · exact h1
      · omega
    refine ZC.exit ?_; refine ZP.thenX ?_; refine ZP.thenX ?_; refine ZP.blockE ?_; refine ZP.then ?_; refine ZC.seq ?_; refine ZC.seq ?_; refine ZC.region ?_; refine ZL.val (r_assign rfl) rfl ?_; refine ZL.nil ?_; refine ZP.then ?_; refine ZC.block ?_
    refine ZC.loop (X := Nat) (fun k => [(15, .int .i64 k), (11, .pointer (some ⟨b11, 0, none⟩)), (6, .pointer (some ⟨b6, 0, none⟩)), (0, .pointer (some ⟨bw, 0, none⟩)), (2, .int .i64 ht), (3, .int .i64 tm), (4, .bool b)])
      (fun k w' => k ≤ t.outs.length ∧ RefS w' (fun b => Y b ∧ b < w.heap.size) bw (mkAll m t ht tm b k) ∧ Mem w (· = bw) [.blk b11 (.cells t.id.cells.toArray 39), .blk b6 (.cells #[u32 t.version, iv, .slice po t.outs.length co, u32 t.lock] 30)] w') (fun k => t.outs.length - k) 0 ⟨rfl, rfl, rfl, rfl, rfl, rfl, rfl, trivial⟩ ⟨by omega, (h.mv (Mv.ext M5.ext)).mv (Mv.mono fun b _ hb => hb.1), M5.weak _⟩ ?_
    rintro k w6 ⟨hk, hR6, M6⟩
    refine ZC.seq ?_; refine ZC.seq ?_; refine ZC.region ?_; refine ZL.val (r_move rfl) rfl ?_; refine ZL.val (r_fieldAddr rfl) rfl ?_
    refine ZL.val (r_ld M6 rfl (by rfl)) rfl ?_
    refine ZL.val (r_lenSlice rfl) rfl ?_; refine ZL.val (r_lss rfl rfl) rfl ?_; refine ZL.nil ?_; refine ZP.then ?_
    refine ZC.condD rfl (fun hd => ?_) (fun hd => ?_)
    · have hk' : k < t.outs.length := by omega
      refine ZC.skip ?_; refine ZP.then ?_; refine ZC.seq ?_; refine ZC.block ?_
      refine ZC.tail 15 (by kernel_rfl) rfl rfl (fun w7 E7 _ => ?_)
      have M7 := M6.ext' E7
      have hT7 := hT.mv (Mv.extX M7.ext (fun b _ hb => hb ▸ hZ))
      obtain ⟨rr, hr1, iv7, ov7, hr2, hI7, hO7⟩ := hT7
      subst hr2
      simp only [Value.agg.injEq, Array.mk.injEq, List.cons.injEq, and_true, true_and] at hr1
      obtain ⟨rfl, rfl⟩ := hr1
      obtain ⟨go, oo, cso, eo, fzo, ro, rfl, hgo, _, _, hreo, hcello, _, _⟩ := ListR.elem (by decide) hO7 (i := k) (by omega)
      obtain ⟨svo, rfl, _⟩ := hreo
      refine ZS.val (r_move rfl) rfl ?_
      refine ZS.val (r_ldW M7 rfl (B32.size _)) rfl ?_
      refine ZS.val (r_move rfl) rfl ?_; refine ZS.val (r_convInt rfl (wrap_u32 (by omega) (by omega))) rfl ?_
      refine ZS.val (r_buildPt rfl rfl (id := t.id) (vo := UInt32.ofNat k) rfl rfl (by simp; omega)) rfl ?_
      refine ZS.val (r_fieldAddr rfl) rfl ?_
      refine ZS.val (r_ld M7 rfl (by rfl)) rfl ?_
      refine ZS.val (r_move rfl) rfl ?_
      refine ZS.val (r_idxS k rfl rfl rfl (by omega)) rfl ?_
      refine ZS.val (r_fieldAddr rfl) rfl ?_
      refine ZS.val (r_load1 rfl hgo (hcello 0 _ rfl)) rfl ?_
      refine ZS.val (r_move rfl) rfl ?_; refine ZS.val (r_move rfl) rfl ?_; refine ZS.val (r_move rfl) rfl ?_
      refine ZS.val (r_buildOne rfl rfl (cs := [u64 (t.outs[k]'(by omega)).value, .int .i64 ht, .int .i64 tm, .bool b]) rfl) rfl ?_
      have hcn : Value.agg [u64 (t.outs[k]'(by omega)).value, .int .i64 ht, .int .i64 tm, .bool b].toArray = (cnOf t ht tm b k).v := by
        simp [cnOf, Cn.v, Cn.cells, u64, List.getD, List.getElem?_eq_getElem (show k < t.outs.length by omega)]
      rw [hcn]
      refine ZS.tail ?_
      have hml := mkAll_length (m := m) (t := t) (h := ht) (tm := tm) (b := b) k
      refine ZL.call (r_call rfl) rfl (RPut_ok (fun b => Y b ∧ b < w.heap.size) bw _ ⟨t.id, UInt32.ofNat k⟩ (cnOf t ht tm b k) w7 (hR6.mv (Mv.ext E7)) (by omega)) (fun v8 w8 ⟨U8, hr⟩ => ?_)
      have hput := U8.r
      rw [sput, mkAll_none (by omega) hk' hany, if_neg (by decide)] at hput
      have hsz := Nat.le_trans M7.ext.size (Nat.le_refl w7.heap.size)
      refine ZL.nil ?_; refine ZP.blockN ?_; refine ZP.then ?_; refine ZC.region ?_; refine ZL.val (r_move rfl) rfl ?_; refine ZL.val (r_add rfl rfl (wrap_i64 (by omega) (by omega))) rfl ?_; refine ZL.val (r_assign rfl) rfl ?_; refine ZL.nil ?_
      exact ZP.round (k + 1) ⟨rfl, rfl, rfl, rfl, rfl, rfl, rfl, trivial⟩ ⟨by omega, hput.mv (Mv.mono fun b _ hb => ⟨hb, Nat.lt_of_lt_of_le hb.2 hsz⟩), M7.step U8.ext (fun b hb h => h) hne⟩ (by omega)
    · have hk' : k = t.outs.length := by omega
      subst hk'
      refine ZC.exit ?_; refine ZP.thenX ?_; refine ZP.thenX ?_; refine ZP.blockE ?_; refine ZP.then ?_; refine ZC.seq ?_; refine ZC.region ?_; refine ZL.val (r_assign rfl) rfl ?_; refine ZL.nil ?_; refine ZP.then ?_; refine ZC.ret ?_
      refine ZP.ret1 rfl rfl ⟨⟨M6.ext, ?_⟩, by rw [hany]; rfl⟩
      rw [smake, if_neg (by rw [hany]; decide)]
      exact hR6
theorem RUnmake_ok (Y Z : Nat → Prop) (bw : Nat) (m : CMap) (v : Value) (t : TTx) (w : World) (h : RefS w Y bw m) (hT : TxR w Z v t) (hZ : Z bw) (hm : m.length ≤ 50000) (hn : t.outs.length ≤ 10000) :
    Ret P 21 #[.pointer (some ⟨bw, 0, none⟩), v] w (fun r w' => RefU w w' Y bw (sunmake m t) ∧ r = .bool (hasAll m (ptsOf t.id t.outs.length))) := by
  have hbl : bw < w.heap.size := by obtain ⟨_, v, ks, hb, _⟩ := h; exact (Array.getElem?_eq_some_iff.1 hb).1
  have hYb := h.1
  obtain ⟨r, rfl, iv, ov, rfl, hI, hOut⟩ := hT
  have hT : TxR w Z (.agg #[u32 t.version, iv, ov, u32 t.lock]) t := ⟨_, rfl, iv, ov, rfl, hI, hOut⟩
  obtain ⟨po, co, rfl⟩ := hOut.shape
  refine Ret.enter2 Tryd.func21 rfl Tryd.ntmps21 rfl ?_
  refine ZC.seq ?_; refine ZC.region ?_
  refine ZL.box (Mem.start w No) rfl rfl rfl (fun b6 w1 M1 => ?_)
  refine ZL.val (r_assign rfl) rfl ?_; refine ZL.nil ?_; refine ZP.then ?_; refine ZC.seq ?_; refine ZC.region ?_
  refine ZL.val (r_ldW M1 rfl rfl) rfl ?_
  refine ZL.call (r_call rfl) rfl (refTxid_ok _ t w1 Z (hT.mv (Mv.ext M1.ext))) (fun v2 w2 ⟨E2, hv⟩ => ?_)
  subst hv
  have M2 := M1.ext' E2
  refine ZL.alloc M2 rfl rfl (fun b11 w3 M3 => ?_)
  refine ZL.stW M3 rfl rfl (cs' := t.id.cells.toArray) rfl (by simp) (B32.size _) (B32.one _) (fun w4 M4 => ?_)
  refine ZL.nil ?_; refine ZP.then ?_; refine ZC.seq ?_; refine ZC.seq ?_; refine ZC.region ?_; refine ZL.val (r_assign rfl) rfl ?_; refine ZL.nil ?_; refine ZP.then ?_; refine ZC.block ?_
  refine ZC.loop (X := Nat) (fun k => [(6, .int .i64 k), (5, .pointer (some ⟨b11, 0, none⟩)), (3, .pointer (some ⟨b6, 0, none⟩)), (0, .pointer (some ⟨bw, 0, none⟩))])
    (fun k w' => k ≤ t.outs.length ∧ (∀ i, i < k → (mget m ⟨t.id, UInt32.ofNat i⟩).isSome = true) ∧ Mem w No [.blk b11 (.cells t.id.cells.toArray 39), .blk b6 (.cells #[u32 t.version, iv, .slice po t.outs.length co, u32 t.lock] 30)] w') (fun k => t.outs.length - k) 0 ⟨rfl, rfl, rfl, rfl, trivial⟩ ⟨by omega, (fun i hi => by omega), M4⟩ ?_
  rintro k w5 ⟨hk, hnone, M5⟩
  refine ZC.seq ?_; refine ZC.seq ?_; refine ZC.region ?_; refine ZL.val (r_move rfl) rfl ?_; refine ZL.val (r_fieldAddr rfl) rfl ?_
  refine ZL.val (r_ld M5 rfl (by rfl)) rfl ?_
  refine ZL.val (r_lenSlice rfl) rfl ?_; refine ZL.val (r_lss rfl rfl) rfl ?_; refine ZL.nil ?_; refine ZP.then ?_
  refine ZC.condD rfl (fun hc => ?_) (fun hc => ?_)
  · have hk' : k < t.outs.length := by omega
    refine ZC.skip ?_; refine ZP.then ?_; refine ZC.seq ?_; refine ZC.block ?_; refine ZC.seq ?_; refine ZC.region ?_; refine ZL.val (r_move rfl) rfl ?_
    refine ZL.val (r_ldW M5 rfl (B32.size _)) rfl ?_
    refine ZL.val (r_move rfl) rfl ?_; refine ZL.val (r_convInt rfl (wrap_u32 (by omega) (by omega))) rfl ?_
    refine ZL.val (r_buildPt rfl rfl (id := t.id) (vo := UInt32.ofNat k) rfl rfl (by simp; omega)) rfl ?_
    refine ZL.call (r_call rfl) rfl (RGet_ok Y bw m ⟨t.id, UInt32.ofNat k⟩ w5 (h.mv (Mv.ext M5.ext)) (by omega)) (fun v6 w6 ⟨E6, hr⟩ => ?_)
    subst hr
    have M6 := M5.ext' E6
    refine ZL.val (r_move rfl) rfl ?_; refine ZL.val (r_extract rfl rfl) rfl ?_; refine ZL.val (r_extract rfl rfl) rfl ?_
    refine ZL.alloc M6 rfl rfl (fun b13 w7 M7 => ?_)
    refine ZL.stW M7 rfl rfl (cs' := ((mget m (Pt.mk t.id (UInt32.ofNat k))).getD Cn.zero).cells) rfl (by rfl) (by rfl) (by rfl) (fun w8 M8 => ?_)
    refine ZL.val (r_assign rfl) rfl ?_; refine ZL.nil ?_; refine ZP.then ?_; refine ZC.seq ?_; refine ZC.region ?_; refine ZL.val (r_move rfl) rfl ?_; refine ZL.val (r_not rfl) rfl ?_; refine ZL.nil ?_; refine ZP.then ?_
    cases hkk : mget m (Pt.mk t.id (UInt32.ofNat k)) with
    | none =>
      simp only [Option.isSome_none]
      refine ZC.cond rfl (fun _ => ?_) (fun hh => by cases hh)
      refine ZC.seq ?_; refine ZC.region ?_; refine ZL.val (r_assign rfl) rfl ?_; refine ZL.nil ?_; refine ZP.then ?_; refine ZC.ret ?_; refine ZP.blockR ?_; refine ZP.thenR ?_; refine ZP.thenR ?_; refine ZP.blockR ?_; refine ZP.thenR ?_
      have hall : hasAll m (ptsOf t.id t.outs.length) = false := hasAll_false _ (ptsOf_mem hk') (mget_none.1 hkk)
      refine ZP.ret1 rfl rfl ⟨⟨Ext.toX M8.ext, ?_⟩, by rw [hall]⟩
      rw [sunmake_not hall]
      exact (h.mv (Mv.ext M8.ext)).mv (Mv.mono fun b _ hb => hb.1)
    | some c =>
      simp only [Option.isSome_some]
      refine ZC.cond rfl (fun hh => by cases hh) (fun _ => ?_)
      refine ZC.skip ?_; refine ZP.blockN ?_; refine ZP.then ?_; refine ZC.region ?_; refine ZL.val (r_move rfl) rfl ?_; refine ZL.val (r_add rfl rfl (wrap_i64 (by omega) (by omega))) rfl ?_; refine ZL.val (r_assign rfl) rfl ?_; refine ZL.nil ?_
      refine ZP.round (k + 1) ⟨rfl, rfl, rfl, rfl, trivial⟩ ⟨by omega, fun i hi => ?_, M8.drop⟩ (by omega)
      rcases (by omega : i < k ∨ i = k) with hi | rfl
      · exact hnone i hi
      · rw [hkk]; rfl
  · have hk' : k = t.outs.length := by omega
    subst hk'
    have hall : hasAll m (ptsOf t.id t.outs.length) = true := by
      rw [hasAll, List.all_eq_true]
      intro p hp
      rw [ptsOf, List.mem_map] at hp
      obtain ⟨i, hi, rfl⟩ := hp
      exact hnone i (by simpa using hi)
    have hne : ∀ d ∈ ([.blk b11 (.cells t.id.cells.toArray 39), .blk b6 (.cells #[u32 t.version, iv, .slice po t.outs.length co, u32 t.lock] 30)] : List Chunk), ∀ g, d.fp = some g → ¬ g = bw := fun d hd g hg e => by
      rcases M5.mine d hd g hg with h1 | h1
      · exact h1
      · omega
    refine ZC.exit ?_; refine ZP.thenX ?_; refine ZP.thenX ?_; refine ZP.blockE ?_; refine ZP.then ?_; refine ZC.seq ?_; refine ZC.seq ?_; refine ZC.region ?_; refine ZL.val (r_assign rfl) rfl ?_; refine ZL.nil ?_; refine ZP.then ?_; refine ZC.block ?_
    refine ZC.loop (X := Nat) (fun k => [(9, .int .i64 k), (5, .pointer (some ⟨b11, 0, none⟩)), (3, .pointer (some ⟨b6, 0, none⟩)), (0, .pointer (some ⟨bw, 0, none⟩))])
      (fun k w' => k ≤ t.outs.length ∧ RefS w' (fun b => Y b ∧ b < w.heap.size) bw (delAll m t k) ∧ Mem w (· = bw) [.blk b11 (.cells t.id.cells.toArray 39), .blk b6 (.cells #[u32 t.version, iv, .slice po t.outs.length co, u32 t.lock] 30)] w') (fun k => t.outs.length - k) 0 ⟨rfl, rfl, rfl, rfl, trivial⟩ ⟨by omega, (h.mv (Mv.ext M5.ext)).mv (Mv.mono fun b _ hb => hb.1), M5.weak _⟩ ?_
    rintro k w6 ⟨hk, hR6, M6⟩
    refine ZC.seq ?_; refine ZC.seq ?_; refine ZC.region ?_; refine ZL.val (r_move rfl) rfl ?_; refine ZL.val (r_fieldAddr rfl) rfl ?_
    refine ZL.val (r_ld M6 rfl (by rfl)) rfl ?_
    refine ZL.val (r_lenSlice rfl) rfl ?_; refine ZL.val (r_lss rfl rfl) rfl ?_; refine ZL.nil ?_; refine ZP.then ?_
    refine ZC.condD rfl (fun hd => ?_) (fun hd => ?_)
    · have hk' : k < t.outs.length := by omega
      refine ZC.skip ?_; refine ZP.then ?_; refine ZC.seq ?_; refine ZC.block ?_; refine ZC.region ?_; refine ZL.val (r_move rfl) rfl ?_
      refine ZL.val (r_ldW M6 rfl (B32.size _)) rfl ?_
      refine ZL.val (r_move rfl) rfl ?_; refine ZL.val (r_convInt rfl (wrap_u32 (by omega) (by omega))) rfl ?_
      refine ZL.val (r_buildPt rfl rfl (id := t.id) (vo := UInt32.ofNat k) rfl rfl (by simp; omega)) rfl ?_
      have hml := delAll_length (m := m) (t := t) k
      refine ZL.call (r_call rfl) rfl (RTake_ok (fun b => Y b ∧ b < w.heap.size) bw _ ⟨t.id, UInt32.ofNat k⟩ w6 hR6 (by omega)) (fun v8 w8 ⟨U8, hr⟩ => ?_)
      have hsz := M6.ext.size
      refine ZL.nil ?_; refine ZP.blockN ?_; refine ZP.then ?_; refine ZC.region ?_; refine ZL.val (r_move rfl) rfl ?_; refine ZL.val (r_add rfl rfl (wrap_i64 (by omega) (by omega))) rfl ?_; refine ZL.val (r_assign rfl) rfl ?_; refine ZL.nil ?_
      exact ZP.round (k + 1) ⟨rfl, rfl, rfl, rfl, trivial⟩ ⟨by omega, U8.r.mv (Mv.mono fun b _ hb => ⟨hb, Nat.lt_of_lt_of_le hb.2 hsz⟩), M6.step U8.ext (fun b hb h => h) hne⟩ (by omega)
    · have hk' : k = t.outs.length := by omega
      subst hk'
      refine ZC.exit ?_; refine ZP.thenX ?_; refine ZP.thenX ?_; refine ZP.blockE ?_; refine ZP.then ?_; refine ZC.seq ?_; refine ZC.region ?_; refine ZL.val (r_assign rfl) rfl ?_; refine ZL.nil ?_; refine ZP.then ?_; refine ZC.ret ?_
      refine ZP.ret1 rfl rfl ⟨⟨M6.ext, ?_⟩, by rw [hall]⟩
      rw [sunmake, if_pos hall]
      exact hR6
end
section
open Go Go.RowKit Go.Lib

/-- The type of coins. -/
class CnT (P : Program) (t : TypeId) (tq ti tb : outParam TypeId) : Prop where
  hf : P.underlying t = some (.struct (P.fieldsOf t))
  hs : P.stoodInHeld t = false
  hl : (P.fieldsOf t).toList = [⟨ "Value", tq, 0, false, "", "", 0⟩, ⟨ "Height", ti, 1, false, "", "", 8⟩, ⟨ "Time", ti, 2, false, "", "", 16⟩, ⟨ "Base", tb, 3, false, "", "", 24⟩]
  a1 : TU P tq (.int .u64)
  a2 : TS P tq
  a3 : TU P ti (.int .i64)
  a4 : TS P ti
  a5 : TU P tb .bool
  a6 : TS P tb
  a7 : P.eqGuardType P.depth t = false
theorem run_equal_cn {P : Program} {t tq ti tb : TypeId} [ct : CnT P t tq ti tb] {w : World} (c : Cn) (d : Nat) : (Op.equalIn (d + 1 + 1) t c.v c.v).run P w = .ok true w := by
  have := ct.a1; have := ct.a2; have := ct.a3; have := ct.a4; have := ct.a5; have := ct.a6
  have e1 := run_part1 (P := P) (w := w) (t := tq) (o := 0) (cs := c.cells) (v := .int .u64 c.value) rfl
  have e2 := run_part1 (P := P) (w := w) (t := ti) (o := 1) (cs := c.cells) (v := .int .i64 c.height) rfl
  have e3 := run_part1 (P := P) (w := w) (t := ti) (o := 2) (cs := c.cells) (v := .int .i64 c.time) rfl
  have e4 := run_part1 (P := P) (w := w) (t := tb) (o := 3) (cs := c.cells) (v := .bool c.base) rfl
  have f1 : (Op.equalIn (d + 1) tq (.int .u64 c.value) (.int .u64 c.value)).run P w = .ok true w := by
    rw [run_equalIn_int w d _ _ _ _ _ (TU.h (P := P) (t := tq))]; simp
  have f2 : ∀ n : Int, (Op.equalIn (d + 1) ti (.int .i64 n) (.int .i64 n)).run P w = .ok true w := fun n => by
    rw [run_equalIn_int w d _ _ _ _ _ (TU.h (P := P) (t := ti))]; simp
  have f3 : (Op.equalIn (d + 1) tb (.bool c.base) (.bool c.base)).run P w = .ok true w := by
    rw [run_equalIn_bool w d _ _ _ (TU.h (P := P) (t := tb))]; simp
  have n1 : "Value" ≠ "_" := by decide
  have n2 : "Height" ≠ "_" := by decide
  have n3 : "Time" ≠ "_" := by decide
  have n4 : "Base" ≠ "_" := by decide
  unfold Cn.v
  rw [run_equalIn_struct w (d + 1) _ _ _ ct.hf ct.hs, ct.hl]
  simp only [Op.eqFields, if_pos n1, if_pos n2, if_pos n3, if_pos n4, Sem.run_bind, Sem.run_ite, e1, e2, e3, e4, f1, f2, f3, Result.andThen_ok, Sem.run_pure]
  simp
theorem r_neqCn {P : Program} {σ : Env} {w : World} {x y : Operand} {t t' tq ti tb : TypeId} [ct : CnT P t tq ti tb] {c : Cn} (hx : ev σ x = some c.v) (hy : ev σ y = some c.v) : V P σ (.binOp .neq t x y t') (.bool false) w :=
  have : TG P t := ⟨ct.a7⟩
  (r_neqA (t2 := t) hx hy (run_equal_cn (P := P) (t := t) c 9998) rfl)
instance : CnT P 44 42 3 4 :=
  ⟨by kernel_rfl, by kernel_rfl, by kernel_rfl, inferInstance, inferInstance, inferInstance, inferInstance, inferInstance, inferInstance, by kernel_rfl⟩

theorem sorted_eq {a b l : List Pt} (ha : a.Perm l) (hb : b.Perm l) (hs : a.Pairwise ltP) (ht : b.Pairwise ltP) : a = b := by
  have hab := ha.trans hb.symm
  clear ha hb
  induction a generalizing b with
  | nil => exact (List.perm_nil.1 hab.symm).symm
  | cons x r ih =>
    cases b with
    | nil => exact absurd hab.length_eq (by simp)
    | cons y s =>
      obtain ⟨h1, h2⟩ := List.pairwise_cons.1 hs
      obtain ⟨k1, k2⟩ := List.pairwise_cons.1 ht
      have hx : x ∈ y :: s := hab.subset (List.mem_cons_self ..)
      have hy : y ∈ x :: r := hab.symm.subset (List.mem_cons_self ..)
      have e : x = y := by
        rcases List.mem_cons.1 hx with h | h
        · exact h
        · rcases List.mem_cons.1 hy with h' | h'
          · exact h'.symm
          · exact absurd (ltP_trans (k1 x h) (h1 y h')) (ltP_irrefl y)
      subst e
      rw [ih h2 k2 ((List.perm_cons x).1 hab)]

theorem Mv.orB {w w' : World} {X X' : Nat → Prop} {bw : Nat} (m : Mv w X w' X') : Mv w (fun b => X b ∨ b = bw) w' (fun b => X' b ∨ b = bw) :=
  ⟨fun b hb hx => m.keep b hb (fun h => hx (.inl h)), fun b hb hx => hx.imp (m.sub b hb) id, m.size⟩
/-- Both sets, and a transaction, beside what is in hand. -/
structure Pl (w0 : World) (bw : Nat) (m : CMap) (v : Value) (T : TTx) (L : List Chunk) (w : World) : Prop where
  M : Mem w0 No L w
  r : RefS w (Out w0 L) bw m
  t : TxR w (fun b => Out w0 L b ∨ b = bw) v T
section
variable {w0 w w' : World} {bw : Nat} {m m' : CMap} {v : Value} {T : TTx} {L L' : List Chunk}
theorem Pl.seg (h : Pl w0 bw m v T L w) (R : Mem w (fpIn L) L' w') : Pl w0 bw m v T L' w' := ⟨h.M.join R, h.r.mv (Mv.frame R), h.t.mv (Mv.orB (Mv.frame R))⟩
theorem Pl.ext (h : Pl w0 bw m v T L w) (E : Ext w w') : Pl w0 bw m v T L w' := ⟨h.M.ext' E, h.r.mv (Mv.ext E), h.t.mv (Mv.ext E)⟩
theorem Pl.sub (h : Pl w0 bw m v T L w) (is : List Nat) (hp : picks L is = some L') (hr : rising is = true := by rfl) : Pl w0 bw m v T L' w := by
  obtain ⟨h1, h2⟩ := h.M.subP is hp hr
  exact ⟨h1, h.r.mv (Mv.outSub h2), h.t.mv (Mv.orB (Mv.outSub h2))⟩
theorem Out.lt (h : Mem w0 No L w) : ∀ b, Out w0 L b → b < w.heap.size := fun b hb => by
  rcases hb with hb | ⟨c, hc, hg⟩
  · exact Nat.lt_of_lt_of_le hb h.ext.size
  · exact Chunk.lt (h.ok c hc) b hg
theorem Pl.ref (h : Pl w0 bw m v T L w) (hbw : w0.heap.size ≤ bw) (U : RefU w w' (Out w0 L) bw m') : Pl w0 bw m' v T L w' := by
  refine ⟨h.M.step U.ext (fun b hb e => ?_) (fun c hc g hg e => h.r.1 (.inr ⟨c, hc, e ▸ hg⟩)), U.r.mv (Mv.mono fun b _ hb => ⟨hb, Out.lt h.M b hb⟩), h.t.mv (Mv.extX U.ext fun b _ hb => .inr hb)⟩
  have e' : b = bw := e
  omega
theorem Pl.of (h : Pl w0 bw m v T L w) (m2 : CMap) (e : m = m2) : Pl w0 bw m2 v T L w := e ▸ h
end
section
variable {P : Program} {σ : Env} {w : World}
theorem r_buildZ {t : TypeId} {z : Value} {zs : Array Value} {fs : List (Nat × Nat)} [TB P t fs] [TZ P t z] (hz : vcells z = some zs) : V P σ (.build t #[]) (.agg zs) w := by
  refine ⟨fun ρ ha o ho => ?_⟩
  have hb : P.built t [] = some zs := by
    have hi := TB.h (P := P) (t := t)
    have hzz := TZ.h (P := P) (t := t)
    unfold Program.built
    cases hit : P.info? t with
    | none => simp [hit] at hzz
    | some it =>
      cases hu : P.underlying t with
      | none => simp [hu] at hi
      | some d =>
        rw [hu] at hi
        cases d <;> simp only [reduceCtorEq] at hi
        simp only [hit, Option.map_some, Option.some.injEq] at hzz
        simp only [hzz, hi]
        rw [vcells_eq hz]
        rfl
  have hr : (Instr.build t #[]).run P w = .ok (.agg zs) w := run_build w t _ _ hb
  simp [execOp, ho, hr]
end
instance : TB P 55 [(0, 1)] := ⟨by kernel_rfl⟩
theorem sput_length (m : CMap) (p : Pt) (c : Cn) : (sput m p c).length ≤ m.length + 1 := by
  unfold sput; split
  · omega
  · rename_i h
    rw [mput_new (by cases hh : mget m p with | none => rfl | some v => rw [hh] at h; exact absurd rfl h)]
    simp
theorem mdel_length (m : CMap) (p : Pt) : (mdel m p).length ≤ m.length := List.length_filter_le _ _
theorem smake_length (m : CMap) (t : TTx) (h tm : Int) (b : Bool) : (smake m t h tm b).length ≤ m.length + t.outs.length := by
  unfold smake; split
  · omega
  · exact mkAll_length _
theorem sunmake_length (m : CMap) (t : TTx) : (sunmake m t).length ≤ m.length := by
  unfold sunmake; split
  · exact delAll_length _
  · exact Nat.le_refl _
end
end Go.Proofs.YthcgmdmdgpljmaaDoor.Z
