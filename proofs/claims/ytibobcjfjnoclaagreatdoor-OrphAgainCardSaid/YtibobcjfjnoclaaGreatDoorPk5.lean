/- OrphAgain's card: for every integer and every slice of integers the law answers true and leaves the slice as it was. Conditions: none beyond the row's own (the two tables of shas hold what the program's text lays). -/
import Derived.Test.YtibobcjfjnoclaaGreatDoorPk4
import Derived.Test.YtibobcjfjnoclaaGreatDoorCards
import Derived.Test.YtibobcjfjnoclaaGreatDoorTie
section
/- What taking one transaction away leaves; the awake of chapter 25. -/
set_option linter.unusedVariables false
set_option linter.unusedSimpArgs false
set_option linter.unusedSectionVars false
set_option maxRecDepth 100000
set_option maxHeartbeats 4000000
namespace Go.Proofs.YtibobcjfjnoclaaGreatDoor.Z
open Go Go.RowKit

theorem single {ys : List B32} {a : B32} (h : ys.Pairwise ltP) (hm : ∀ x, x ∈ ys ↔ x = a) : ys = [a] := by
  match ys, h, hm with
  | [], _, hm => exact absurd ((hm a).2 rfl) (by simp)
  | [b], _, hm => rw [(hm b).1 (by simp)]
  | b :: c :: r, h, hm =>
    have h1 := (hm b).1 (by simp)
    have h2 := (hm c).1 (by simp)
    have := (List.pairwise_cons.1 h).1 c (by simp)
    rw [h1, h2] at this
    exact absurd this (ltP_irrefl a)
theorem WithoutR.at {H H' : HM} {pred : Int → Told → Bool} {ys : List B32} (R : WithoutR H pred H' ys) : (∀ x ∈ H.p, ∃ v, (x.1, (v, x.2.2.filter fun a => !pred x.1 a)) ∈ H'.p) ∧ ∀ y ∈ H'.p, ∃ v l, (y.1, (v, l)) ∈ H.p ∧ y.2.2 = l.filter fun a => !pred y.1 a := by
  constructor
  · intro x hx
    have : (x.1, x.2.2.filter fun a => !pred x.1 a) ∈ H'.p.map (fun x => (x.1, x.2.2)) := by rw [R.p]; exact List.mem_map.2 ⟨x, hx, rfl⟩
    obtain ⟨y, hy, he⟩ := List.mem_map.1 this
    simp only [Prod.mk.injEq] at he
    exact ⟨y.2.1, by rw [← he.2, ← he.1]; exact hy⟩
  · intro y hy
    have : (y.1, y.2.2) ∈ H.p.map (fun x => (x.1, x.2.2.filter fun a => !pred x.1 a)) := by rw [← R.p]; exact List.mem_map.2 ⟨y, hy, rfl⟩
    obtain ⟨x, hx, he⟩ := List.mem_map.1 this
    simp only [Prod.mk.injEq] at he
    exact ⟨x.2.1, x.2.2, by rw [← he.1]; exact hx, by rw [← he.1]; exact he.2.symm⟩
theorem WithoutR.keys {H H' : HM} {pred : Int → Told → Bool} {ys : List B32} (R : WithoutR H pred H' ys) : H'.p.map (·.1) = H.p.map (·.1) := by
  have := congrArg (List.map Prod.fst) R.p
  rw [List.map_map, List.map_map] at this
  exact this
section
variable {T : TTx} {ks : List Int} {H H' H'' : HM} {i : Nat} {k : Int} {ys : List B32}
/-- A peer goes. -/
theorem AG.gone (h : AG T ks H i) (hok : H.ok) (R : WithoutR H (fun q _ => decide (q = k)) H' ys) (hp : H''.p = mdel H'.p k) (hl : H''.l = H'.l) (hs : H''.seq = H'.seq) :
    AG T (ks.filter fun q => decide (q ≠ k)) H'' i ∧ ys = if k ∈ ks ∧ (ks.filter fun q => decide (q ≠ k)) = [] then [T.wid] else [] := by
  obtain ⟨hA, hB⟩ := R.at
  have hks : H'.p.map (·.1) = ks := R.keys.trans h.keys
  have hone : ∀ y ∈ H'.p, y.1 ≠ k → ∃ a : Told, y.2.2 = [a] ∧ a.id = T.wid := fun y hy hne => by
    obtain ⟨v, l, hm, hl⟩ := hB y hy
    obtain ⟨a, ha, hid⟩ := h.one _ hm
    simp only at ha
    exact ⟨a, by rw [hl, ha]; simp [hne], hid⟩
  have hnil : ∀ y ∈ H'.p, y.1 = k → y.2.2 = [] := fun y hy he => by
    obtain ⟨v, l, hm, hl⟩ := hB y hy
    rw [hl]; simp [he]
  have hmem : ∀ x, x ∈ ys ↔ x = T.wid ∧ k ∈ ks ∧ (ks.filter fun q => decide (q ≠ k)) = [] := fun x => by
    rw [R.mem]
    constructor
    · rintro ⟨⟨q, hq, a, ha, hqk, hax⟩, hn⟩
      obtain ⟨b, hb, hid⟩ := h.one q hq
      rw [hb] at ha
      simp only [List.mem_singleton] at ha
      subst ha
      have hxT : x = T.wid := by rw [← hax, hid]
      have hqk' : q.1 = k := by simpa using hqk
      refine ⟨hxT, by rw [← h.keys, ← hqk']; exact List.mem_map_of_mem (f := (·.1)) hq, ?_⟩
      rw [List.filter_eq_nil_iff]
      intro c hc hck
      rw [← hks] at hc
      obtain ⟨y, hy, rfl⟩ := List.mem_map.1 hc
      obtain ⟨a', h1, h2⟩ := hone y hy (by simpa using hck)
      have := hn y hy
      rw [h1] at this
      simp [h2, hxT] at this
    · rintro ⟨rfl, hk, hf⟩
      rw [← h.keys] at hk
      obtain ⟨q, hq, rfl⟩ := List.mem_map.1 hk
      obtain ⟨b, hb, hid⟩ := h.one q hq
      refine ⟨⟨q, hq, b, by rw [hb]; simp, by simp, hid⟩, fun y hy => ?_⟩
      have : y.1 = q.1 := by
        rw [List.filter_eq_nil_iff] at hf
        have := hf y.1 (by rw [← hks]; exact List.mem_map_of_mem (f := (·.1)) hy)
        simpa using this
      rw [hnil y hy this]; rfl
  have hys : ys = if k ∈ ks ∧ (ks.filter fun q => decide (q ≠ k)) = [] then [T.wid] else [] := by
    split
    · rename_i hc
      exact single R.sorted fun x => by rw [hmem]; exact ⟨fun h => h.1, fun h => ⟨h, hc⟩⟩
    · rename_i hc
      exact List.eq_nil_iff_forall_not_mem.2 fun x hx => hc ((hmem x).1 hx).2
  refine ⟨⟨?_, ?_, ?_, ?_, by rw [hs, R.seq]; exact h.seq0, by rw [hs, R.seq]; exact h.seq⟩, hys⟩
  · rw [hp, ← hks]; unfold mdel; rw [List.filter_map]; rfl
  · intro x hx
    rw [hp] at hx
    obtain ⟨h1, h2⟩ := List.mem_filter.1 hx
    exact hone x h1 (by simpa using h2)
  · intro hf
    rw [hl, R.l]
    by_cases hk : ks = []
    · rw [h.nol hk]; rfl
    · obtain ⟨v, hl⟩ := h.l hk
      have hkk : k ∈ ks := by
        rw [List.filter_eq_nil_iff] at hf
        obtain ⟨c, hc⟩ := List.exists_mem_of_ne_nil _ hk
        have := hf c hc
        simp only [ne_eq, decide_not, Bool.not_eq_true', decide_eq_false_iff_not, Classical.not_not] at this
        rw [← this]; exact hc
      rw [hl, hys, if_pos ⟨hkk, hf⟩]; simp
  · intro hf
    rw [hl, R.l]
    have hk : ks ≠ [] := fun e => hf (by rw [e]; rfl)
    obtain ⟨v, hl⟩ := h.l hk
    exact ⟨v, by rw [hl, hys, if_neg (fun hc => hf hc.2)]; simp⟩
/-- Nobody tells anything. -/
structure AD (ks : List Int) (H : HM) : Prop where
  keys : H.p.map (·.1) = ks
  none : ∀ x ∈ H.p, x.2.2 = []
  l : H.l = []
theorem AG.drop (h : AG T ks H i) (hne : ks ≠ []) (R : WithoutR H (fun _ a => decide (a.id = T.wid)) H' ys) : ys = [T.wid] ∧ AD ks H' := by
  obtain ⟨hA, hB⟩ := R.at
  have hnil : ∀ y ∈ H'.p, y.2.2 = [] := fun y hy => by
    obtain ⟨v, l, hm, hl⟩ := hB y hy
    obtain ⟨a, ha, hid⟩ := h.one _ hm
    simp only at ha
    rw [hl, ha]; simp [hid]
  have hys : ys = [T.wid] := single R.sorted fun x => by
    rw [R.mem]
    constructor
    · rintro ⟨⟨q, hq, a, ha, hqk, hax⟩, -⟩
      rw [← hax]; simpa using hqk
    · rintro rfl
      obtain ⟨c, hc⟩ := List.exists_mem_of_ne_nil _ hne
      rw [← h.keys] at hc
      obtain ⟨q, hq, -⟩ := List.mem_map.1 hc
      obtain ⟨b, hb, hid⟩ := h.one q hq
      exact ⟨⟨q, hq, b, by rw [hb]; simp, by simpa using hid, hid⟩, fun y hy => by rw [hnil y hy]; rfl⟩
  refine ⟨hys, R.keys.trans h.keys, hnil, ?_⟩
  obtain ⟨v, hl⟩ := h.l hne
  rw [R.l, hl, hys]; simp
theorem AD.drop {id : B32} (h : AD ks H) (R : WithoutR H (fun _ a => decide (a.id = id)) H' ys) : ys = [] ∧ AD ks H' := by
  obtain ⟨hA, hB⟩ := R.at
  refine ⟨List.eq_nil_iff_forall_not_mem.2 fun x hx => ?_, R.keys.trans h.keys, fun y hy => ?_, by rw [R.l, h.l]; rfl⟩
  · obtain ⟨⟨q, hq, a, ha, -⟩, -⟩ := (R.mem x).1 hx
    rw [h.none q hq] at ha; cases ha
  · obtain ⟨v, l, hm, hl⟩ := hB y hy
    have := h.none _ hm
    simp only at this
    rw [hl, this]; rfl
theorem AD.tellers (h : AD ks H) (hok : H.ok) (id : B32) : H.tellers id = [] := by
  unfold HM.tellers
  rw [List.filter_eq_nil_iff]
  intro k hk
  obtain ⟨x, hx, rfl⟩ := List.mem_map.1 hk
  rw [HM.hasB_eq hok hx, h.none x hx]
  simp
end
theorem AG.init (T : TTx) (bl bp : Nat) : AG T [] ⟨bl, bp, #[], 0, #[], 0, [], [], 0⟩ 0 := ⟨rfl, (fun x hx => by cases hx), fun _ => rfl, fun h => absurd rfl h, Int.le_refl _, Int.le_refl _⟩
theorem home0_ok (bl bp : Nat) : HM.ok ⟨bl, bp, #[], 0, #[], 0, [], [], 0⟩ := ⟨MObj.empty _ _, MObj.empty _ _, (fun x hx => by cases hx), (fun x hx => by cases hx)⟩
theorem HS.init {w w' : World} {bh bl bp : Nat} (M : Mem w No (HM.chs ⟨bl, bp, #[], 0, #[], 0, [], [], 0⟩ bh) w') : HS w No bh ⟨bl, bp, #[], 0, #[], 0, [], [], 0⟩ [] w' :=
  ⟨by rw [List.append_nil]; exact M, home0_ok bl bp, fun x hx => by cases hx⟩
end Go.Proofs.YtibobcjfjnoclaaGreatDoor.Z
end
section
/- The awake of chapter 25. -/
set_option linter.unusedVariables false
set_option linter.unusedSimpArgs false
set_option linter.unusedSectionVars false
set_option maxRecDepth 100000
set_option maxHeartbeats 4000000
namespace Go.Proofs.YtibobcjfjnoclaaGreatDoor.Z
open Go Go.RowKit

abbrev ownI (v : Value) (l : List B32) : Chunk := .own v 27 32 l.length (flatP l)
theorem sorted13 {ys : List Int} (hp : ys.Perm [3, 1]) (hs : ys.Pairwise (fun a b => a ≤ b)) : ys = [1, 3] := by
  have h1 : ys.length = 2 := hp.length_eq
  match ys, h1, hp, hs with
  | [a, b], _, hp, hs =>
    have hm : ∀ x, x ∈ [a, b] ↔ x ∈ [(3 : Int), 1] := fun x => hp.mem_iff
    have h3 := (hm 3).2 (by simp)
    have h4 := (hm 1).2 (by simp)
    have h5 := (List.pairwise_cons.1 hs).1 b (by simp)
    simp only [List.mem_cons, List.not_mem_nil, or_false] at h3 h4
    have h6 : a = 1 ∧ b = 3 := by omega
    rw [h6.1, h6.2]
/-- What stands beside the home is told by what the home's calls leave alone. -/
theorem HS.mv {w0 w w' : World} {X : Nat → Prop} {bh : Nat} {H H' : HM} {L L' : List Chunk} (h' : HS w (fpIn (H.chs bh ++ L)) bh H' L' w') : Mv w (fpIn (H.chs bh ++ L)) w' (fpIn (H'.chs bh ++ L')) := Mv.fpf h'.M

theorem Mv.besideH {w w' : World} {A N L : List Chunk} (h' : Mem w No N w') : Mv w (fpIn (A ++ L)) w' (fpIn (A ++ (N ++ L))) := Mv.beside h' fun c hc => by
  simp only [List.mem_append] at hc ⊢; rcases hc with h | h | h
  · exact .inl (.inl h)
  · exact .inr h
  · exact .inl (.inr h)
theorem B32.extr {cs : Array Value} {q : Nat} {a : B32} {tl : List Value} (h : ∀ j u, (a.cells ++ tl)[j]? = some u → cs[q + j]? = some u) : q + 32 ≤ cs.size ∧ cs.extract q (q + 32) = a.cells.toArray := by
  have hl : a.cells.length = 32 := a.len
  have hc : ∀ j, j < 32 → ∃ u, a.cells[j]? = some u ∧ cs[q + j]? = some u := fun j hj => by
    refine ⟨a.cells[j], List.getElem?_eq_getElem (by omega), h j _ ?_⟩
    rw [List.getElem?_append_left (by omega)]
    exact List.getElem?_eq_getElem (by omega)
  have hsz : q + 32 ≤ cs.size := by
    obtain ⟨u, -, h2⟩ := hc 31 (by omega)
    have := (Array.getElem?_eq_some_iff.1 h2).1
    omega
  refine ⟨hsz, ?_⟩
  apply Array.ext'
  apply List.ext_getElem?
  intro j
  rw [Array.getElem?_toList, Array.getElem?_extract]
  by_cases hj : j < 32
  · obtain ⟨u, h1, h2⟩ := hc j hj
    rw [if_pos (by omega), h2]
    exact h1.symm
  · rw [if_neg (by omega)]
    rw [List.getElem?_eq_none (by simp [B32.len]; omega)]
theorem awake_ok (w : World) (hG : GW w) : Ret P 13 #[] w (fun r w' => Ext w w' ∧ r = .bool true) := by
  refine Ret.enter0 Tryz.func13 rfl Tryz.ntmps13 rfl ?_
  refine ZC.seq ?_; refine ZC.region ?_; refine ZL.val (r_assign rfl) rfl ?_; refine ZL.nil ?_; refine ZP.then ?_; refine ZC.seq ?_; refine ZC.region ?_
  refine ZL.call (r_call rfl) rfl (New_ok w) (fun v1 w1 ⟨bh, bl, bp, hv, M1⟩ => ?_)
  subst hv
  have S1 := HS.init M1
  refine ZL.val (r_assign rfl) rfl ?_; refine ZL.nil ?_; refine ZP.then ?_; refine ZC.seq ?_; refine ZC.seq ?_; refine ZC.region ?_; refine ZL.val (r_move rfl) rfl ?_; refine ZL.val (r_eqlPtrNil rfl rfl) rfl ?_; refine ZL.nil ?_; refine ZP.then ?_; refine ZC.condF rfl ?_; refine ZC.skip ?_; refine ZP.then ?_; refine ZC.seq ?_; refine ZC.region ?_
  refine ZL.bslice (Mem.start w1 No) rfl rfl rfl (by simp [Value.cells]) (by decide) rfl (fun g w2 M2 => ?_)
  skip
  refine ZL.call (r_call rfl) rfl (Linked_txs _ [8, 2048, 4096, 6144] w2 (IntsA.of_own M2.own)) (fun v3 w3 ⟨E3, Ts, hTl, hpl, hL3⟩ => ?_)
  have S3 := (S1.ext M2.ext).ext E3
  obtain ⟨T, T1, T2, T3, rfl⟩ : ∃ T T1 T2 T3, Ts = [T, T1, T2, T3] := by
    match Ts, hTl with
    | [a, b, c, d], _ => exact ⟨a, b, c, d, rfl⟩
  have hpT := hpl T (by simp)
  have L3 := hL3.tx (Mv.newer (S1.ext M2.ext).M E3.size)
  have A0 := AG.init T bl bp
  generalize (⟨bl, bp, #[], 0, #[], 0, [], [], 0⟩ : HM) = H0 at S1 S3 L3 A0
  obtain ⟨p3, c3, hv3⟩ := L3.shape
  simp only [List.length_cons, List.length_nil] at hv3
  subst hv3
  clear M1 M2 hL3 S1
  have hTx : ∀ {w' : World} {X : Nat → Prop}, ListR TxE 4 w' X (.slice p3 (0 + 1 + 1 + 1 + 1) c3) [T, T1, T2, T3] → ∃ g o cs e fz r, p3 = some ⟨g, o, none⟩ ∧ w'.heap[g]? = some (.cells cs e fz) ∧ TxE w' X r T ∧ o + 0 * 4 + 4 ≤ cs.size ∧ cs.extract (o + 0 * 4) (o + 0 * 4 + 4) = r.toArray ∧ (∀ j u, r[j]? = some u → cs[o + 0 * 4 + j]? = some u) := fun {w' X} h => by
    obtain ⟨g, o, cs, e, fz, r, hp, hh, -, -, hE, hcell, hsz, hext⟩ := ListR.elem (by decide) h (i := 0) (by simp)
    exact ⟨g, o, cs, e, fz, r, hp, hh, hE, hsz, hext, hcell⟩
  refine ZL.val (r_assign rfl) rfl ?_; refine ZL.nil ?_; refine ZP.then ?_; refine ZC.seq ?_; refine ZC.seq ?_; refine ZC.region ?_; refine ZL.val (r_move rfl) rfl ?_; refine ZL.val (r_lenSlice rfl) rfl ?_; refine ZL.val (r_lss rfl rfl) rfl ?_; refine ZL.nil ?_; refine ZP.then ?_; refine ZC.condF rfl ?_; refine ZC.skip ?_; refine ZP.then ?_; refine ZC.seq ?_; refine ZC.region ?_; refine ZL.val (r_move rfl) rfl ?_; refine ZL.val (r_move rfl) rfl ?_
  obtain ⟨gt, ot, cs4, e4, fz4, r4, rfl, hh4, hE4, hz4, hx4, -⟩ := hTx L3
  refine ZL.val (r_idxS 0 rfl rfl rfl (by decide)) rfl ?_
  refine ZL.val (r_loadN rfl hh4 hz4 hx4) rfl ?_
  skip
  refine ZL.call (r_call rfl) rfl (Add_ok bh H0 _ T 3 5 [] w3 (hG.ext S3.M.ext) S3.rebase ⟨r4, rfl, hE4⟩ hpT.fits A0.seq0 (by have := A0.seq; omega) ?_) (fun v5 w5 ⟨H5, gv5, gone5, ok5, hv, Q5, hA5⟩ => ?_)
  · unfold HM.told; rw [A0.no (by simp)]; simp
  obtain ⟨rfl, rfl, A5⟩ := A0.add S3.ok hpT.weight hA5
  simp only [List.not_mem_nil, if_false, List.nil_append] at A5
  subst hv
  have L5 := L3.tx (Mv.fpf Q5.M)
  have S5 := S3.join Q5
  obtain ⟨pg5, cg5, hg5⟩ := (HS.front (N := [_]) S5).1.own.shape
  simp only [List.length_nil] at hg5
  subst hg5
  clear hA5 Q5 L3 S3 hE4 hx4 hz4 hh4
  refine ZL.val (r_move rfl) rfl ?_; refine ZL.val (r_extract rfl rfl) rfl ?_; refine ZL.val (r_extract rfl rfl) rfl ?_; refine ZL.val (r_assign rfl) rfl ?_; refine ZL.val (r_assign rfl) rfl ?_; refine ZL.nil ?_; refine ZP.then ?_; refine ZC.seq ?_; refine ZC.region ?_; refine ZL.val (r_move rfl) rfl ?_; refine ZL.val (r_move rfl) rfl ?_
  obtain ⟨gt', ot', cs6, e6, fz6, r6, hp6, hh6, hE6, hz6, hx6, -⟩ := hTx L5
  simp only [Option.some.injEq, Addr.mk.injEq, and_true] at hp6
  obtain ⟨rfl, rfl⟩ := hp6
  refine ZL.val (r_idxS 0 rfl rfl rfl (by decide)) rfl ?_
  refine ZL.val (r_loadN rfl hh6 hz6 hx6) rfl ?_
  skip
  refine ZL.call (r_call rfl) rfl (Add_ok bh H5 _ T 1 6 _ w5 (hG.ext S5.M.ext) S5.rebase ⟨r6, rfl, hE6⟩ hpT.fits A5.seq0 (by have := A5.seq; omega) ?_) (fun v7 w7 ⟨H7, gv7, gone7, ok7, hv, Q7, hA7⟩ => ?_)
  · unfold HM.told; rw [A5.no (by simp)]; simp
  obtain ⟨rfl, rfl, A7⟩ := A5.add S5.ok hpT.weight hA7
  rw [if_neg (by simp)] at A7
  simp only [List.cons_append, List.nil_append] at A7
  subst hv
  have L7 := L5.tx (Mv.fpf Q7.M)
  have S7 := S5.join Q7
  obtain ⟨pg7, cg7, hg7⟩ := (HS.front (N := [_]) S7).1.own.shape
  simp only [List.length_nil] at hg7
  subst hg7
  clear hA7 Q7 L5 S5 hE6 hx6 hz6 hh6
  refine ZL.val (r_move rfl) rfl ?_; refine ZL.val (r_extract rfl rfl) rfl ?_; refine ZL.val (r_extract rfl rfl) rfl ?_; refine ZL.val (r_assign rfl) rfl ?_; refine ZL.val (r_assign rfl) rfl ?_; refine ZL.nil ?_; refine ZP.then ?_; refine ZC.seq ?_; refine ZC.region ?_; refine ZL.val (r_move rfl) rfl ?_
  have hU := Used_ok bh H7 3 w7 S7.home
  rw [(A7.used S7.ok (by simp)).1, (A7.used S7.ok (by simp)).2] at hU
  refine ZL.call (r_call rfl) rfl hU (fun v8 w8 ⟨E8, hv⟩ => ?_)
  subst hv
  have S8 := S7.ext E8
  have L8 := L7.tx (Mv.ext E8)
  clear hU S7 L7
  refine ZL.val (r_move rfl) rfl ?_; refine ZL.val (r_extract rfl rfl) rfl ?_; refine ZL.val (r_extract rfl rfl) rfl ?_; refine ZL.val (r_assign rfl) rfl ?_; refine ZL.val (r_assign rfl) rfl ?_; refine ZL.nil ?_; refine ZP.then ?_; refine ZC.seq ?_; refine ZC.region ?_; refine ZL.val (r_move rfl) rfl ?_
  obtain ⟨gt', ot', cs6, e6, fz6, r6, hp6, hh6, hE6, hz6, hx6, -⟩ := hTx L8
  simp only [Option.some.injEq, Addr.mk.injEq, and_true] at hp6
  obtain ⟨rfl, rfl⟩ := hp6
  refine ZL.val (r_idxS 0 rfl rfl rfl (by decide)) rfl ?_
  refine ZL.val (r_loadN rfl hh6 hz6 hx6) rfl ?_
  refine ZL.call (r_call rfl) rfl (refWtxid_ok _ T w8 _ ⟨r6, rfl, hE6⟩) (fun v9 w9 ⟨E9, hv⟩ => ?_)
  subst hv
  refine ZL.alloc (Mem.start w9 No) rfl rfl (fun b9 w10 M10 => ?_)
  refine ZL.stW M10 rfl rfl (cs' := T.wid.cells.toArray) rfl (by simp) (B32.size _) (B32.one _) (fun w11 M11 => ?_)
  have L9 := L8.tx (Mv.ext E9)
  have S9 := S8.ext E9
  have S11 := S9.ext M11.ext
  clear S8 L8 hE6 hx6 hz6 hh6
  refine ZL.nil ?_; refine ZP.then ?_; refine ZC.seq ?_; refine ZC.region ?_; refine ZL.val (r_move rfl) rfl ?_
  refine ZL.val (r_ldW M11 rfl (B32.size _)) rfl ?_
  refine ZL.call (r_call rfl) rfl (Peers_ok bh H7 T.wid w11 S11.home (by have := congrArg List.length A7.keys; simp only [List.length_map, List.length_cons, List.length_nil] at this; omega)) (fun v12 w12 ⟨E12, ys, hp, hs, N12⟩ => ?_)
  rw [A7.tellers S11.ok] at hp
  obtain rfl := sorted13 hp hs
  have K12 : Mem w9 No [.own v12 3 1 2 [Value.int .i64 1, Value.int .i64 3], .blk b9 (.cells T.wid.cells.toArray 27)] w12 := M11.addNew E12 N12
  have S12 := S9.beside K12
  have L12 := L9.tx (Mv.besideH K12)
  clear N12 M11 M10 hp hs L9 S9 S11
  refine ZL.val (r_assign rfl) rfl ?_; refine ZL.nil ?_; refine ZP.then ?_; refine ZC.seq ?_; refine ZC.region ?_; refine ZL.val (r_move rfl) rfl ?_; refine ZL.val (r_move rfl) rfl ?_
  obtain ⟨gt', ot', cs6, e6, fz6, r6, hp6, hh6, hE6, hz6, hx6, hc6⟩ := hTx L12
  simp only [Option.some.injEq, Addr.mk.injEq, and_true] at hp6
  obtain ⟨rfl, rfl⟩ := hp6
  obtain ⟨iv, ov, rfl, hI, -⟩ := hE6
  obtain ⟨pi, ci, rfl⟩ := hI.shape
  have hi1 : 0 < T.ins.length := hpT.i1
  obtain ⟨gi, oi, csi, ei, fzi, ri, rfl, hhi, -, -, hEi, hcelli, -, -⟩ := ListR.elem (by decide) hI hi1
  obtain ⟨svi, wvi, rfl, -, -⟩ := hEi
  obtain ⟨hpr1, hpr2⟩ := B32.extr (q := oi + 0 * 36 + 0) (by simpa using hcelli)
  refine ZL.val (r_idxS 0 rfl rfl rfl (by decide)) rfl ?_
  refine ZL.val (r_fieldAddr rfl) rfl ?_
  refine ZL.val (r_load1 rfl hh6 (hc6 1 _ rfl)) rfl ?_
  refine ZL.val (r_idxS 0 rfl rfl rfl hi1) rfl ?_
  refine ZL.val (r_fieldAddr rfl) rfl ?_
  refine ZL.val (r_loadN rfl hhi hpr1 hpr2) rfl ?_
  generalize hprev : T.ins[0].prev = prev
  obtain ⟨vT, hl7⟩ := A7.l (by simp)
  refine ZL.call (r_call rfl) rfl (Wants_ok bh H7 prev w12 S12.home (by rw [hl7]; simp)) (fun v13 w13 ⟨E13, ys, hys, hm13, N13⟩ => ?_)
  have hys1 : ys = [T.wid] := single hys fun x => by
    rw [hm13, hl7]
    constructor
    · rintro ⟨e, he, -, hx⟩
      simp only [List.mem_singleton] at he
      rw [← hx, he]
    · rintro rfl
      exact ⟨(T.wid, (vT, T)), by simp, List.any_eq_true.2 ⟨T.ins[0], List.getElem_mem hi1, by simpa using hprev⟩, rfl⟩
  subst hys1
  have K13 := (Mem.start w12 No).addNew E13 N13
  have S13 := S12.beside K13
  have L13 := L12.tx (Mv.besideH K13)
  clear K13 S12 L12 hm13 hys hI hcelli hpr1 hpr2 hc6 hx6
  refine ZL.val (r_assign rfl) rfl ?_; refine ZL.nil ?_; refine ZP.then ?_; refine ZC.seq ?_; refine ZC.region ?_; refine ZL.val (r_move rfl) rfl ?_
  have hk7 : H7.p.length ≤ 50 := by have := congrArg List.length A7.keys; simp only [List.length_map, List.length_cons, List.length_nil] at this; omega
  refine ZL.call (r_call rfl) rfl (Gone_ok bh H7 3 _ w13 _ S13.rebase hk7) (fun v14 w14 ⟨H14, H14', ys14, Q14, R14, hp14, hl14, hs14⟩ => ?_)
  obtain ⟨A14, hy14⟩ := A7.gone S13.ok R14 hp14 hl14 hs14
  have e14 : ([3, 1] : List Int).filter (fun q => decide (q ≠ 3)) = [1] := by decide
  rw [e14] at A14 hy14
  rw [if_neg (by simp)] at hy14
  subst hy14
  have S14 := S13.join Q14
  have L14 := L13.tx (Mv.fpf Q14.M)
  clear L13 S13 Q14 R14 hp14 hl14 hs14
  refine ZL.val (r_assign rfl) rfl ?_; refine ZL.nil ?_; refine ZP.then ?_; refine ZC.seq ?_; refine ZC.region ?_; refine ZL.val (r_move rfl) rfl ?_
  have hk14 : H14'.p.length ≤ 50 := by have := congrArg List.length A14.keys; simp only [List.length_map, List.length_cons, List.length_nil] at this; omega
  refine ZL.call (r_call rfl) rfl (Gone_ok bh H14' 1 _ w14 _ S14.rebase hk14) (fun v15 w15 ⟨H15, H15', ys15, Q15, R15, hp15, hl15, hs15⟩ => ?_)
  obtain ⟨A15, hy15⟩ := A14.gone S14.ok R15 hp15 hl15 hs15
  have e15 : ([1] : List Int).filter (fun q => decide (q ≠ 1)) = [] := by decide
  rw [e15] at A15 hy15
  rw [if_pos (by simp)] at hy15
  subst hy15
  have S15 := S14.join Q15
  have L15 := L14.tx (Mv.fpf Q15.M)
  clear L14 S14 Q15 R15 hp15 hl15 hs15
  have M15 := (HS.front (N := [_, _, _, _, _]) S15).1
  simp only [List.cons_append, List.nil_append] at M15
  have O15 : OwnR w15 27 32 v15 1 (flatP [T.wid]) := M15.ok (.own v15 27 32 1 (flatP [T.wid])) (by simp)
  have O14 : OwnR w15 27 32 v14 0 (flatP []) := M15.ok (.own v14 27 32 0 (flatP [])) (by simp)
  have O13 : OwnR w15 27 32 v13 1 (flatP [T.wid]) := M15.ok (.own v13 27 32 1 (flatP [T.wid])) (by simp)
  have O12 : OwnR w15 3 1 v12 2 [Value.int .i64 1, Value.int .i64 3] := M15.ok (.own v12 3 1 2 [Value.int .i64 1, Value.int .i64 3]) (by simp)
  obtain ⟨p15, c15, rfl⟩ := O15.shape
  obtain ⟨p14, c14, rfl⟩ := O14.shape
  obtain ⟨p13, c13, rfl⟩ := O13.shape
  obtain ⟨p12, c12, rfl⟩ := O12.shape
  obtain ⟨gt', ot', cs6, e6, fz6, r6, hp6, hh6, hE6, hz6, hx6, -⟩ := hTx L15
  simp only [Option.some.injEq, Addr.mk.injEq, and_true] at hp6
  obtain ⟨rfl, rfl⟩ := hp6
  have F12 := O12.slc (X := No) (fun _ _ h => h)
  obtain ⟨g12, o12, cs12, e12, fz12, rfl, hh12, -, hc12, -⟩ := F12.at1 (i := 0) rfl
  obtain ⟨g12', o12', cs12', e12', fz12', hp12, hh12', -, hc12', -⟩ := F12.at1 (i := 1) rfl
  simp only [Option.some.injEq, Addr.mk.injEq, and_true] at hp12
  obtain ⟨rfl, rfl⟩ := hp12
  obtain ⟨g13, o13, cs13, e13, fz13, r13, rfl, hh13, -, -, hE13, -, hsz13, hext13⟩ := ListR.elem (by decide) (ids_list (O13.slc (X := No) (fun _ _ h => h)) rfl) (i := 0) (by simp)
  rw [show r13 = T.wid.cells from hE13] at hext13
  obtain ⟨g15, o15, cs15, e15, fz15, r15, rfl, hh15, -, -, hE15, -, hsz15, hext15⟩ := ListR.elem (by decide) (ids_list (O15.slc (X := No) (fun _ _ h => h)) rfl) (i := 0) (by simp)
  rw [show r15 = T.wid.cells from hE15] at hext15
  have hb15 : w15.heap[b9]? = some (.cells T.wid.cells.toArray 27 (0, 0)) := M15.ok (.blk b9 (.cells T.wid.cells.toArray 27)) (by simp)
  refine ZL.val (r_assign rfl) rfl ?_; refine ZL.nil ?_; refine ZP.then ?_; refine ZC.seq ?_
  refine ZC.turning (fun w' => Ext w15 w') 78 rfl (by kernel_rfl) rfl rfl rfl (fun w16 E16 _ => ?_)
  refine ZT.take 0 rfl rfl (fun w' hS' => r_move rfl) (by kernel_rfl) rfl (by kernel_rfl) (by kernel_rfl) rfl rfl (fun _ _ _ _ h => h) E16 ?_
  refine ZT.take 1 rfl rfl (fun w' hS' => r_lenSlice rfl) (by kernel_rfl) rfl (by kernel_rfl) (by kernel_rfl) rfl rfl (fun _ _ _ _ h => h) E16 ?_
  refine ZT.take 2 rfl rfl (fun w' hS' => (r_eql rfl rfl).eq (v' := .bool true) (by simp)) (by kernel_rfl) rfl (by kernel_rfl) (by kernel_rfl) rfl rfl (fun _ _ _ _ h => h) E16 ?_
  refine ZT.take 3 rfl rfl (fun w' hS' => r_move rfl) (by kernel_rfl) rfl (by kernel_rfl) (by kernel_rfl) rfl rfl (fun _ _ _ _ h => h) E16 ?_
  refine ZT.takeOn 4 rfl rfl rfl rfl rfl (fun w' hS' => r_move rfl) (by kernel_rfl) rfl (by kernel_rfl) (by kernel_rfl) rfl rfl (fun _ _ _ _ h => h) E16 ?_
  refine ZT.take 5 rfl rfl (fun w' hS' => r_pickT rfl rfl) (by kernel_rfl) rfl (by kernel_rfl) (by kernel_rfl) rfl rfl (fun _ _ _ _ h => h) E16 ?_
  refine ZT.take 6 rfl rfl (fun w' hS' => r_move rfl) (by kernel_rfl) rfl (by kernel_rfl) (by kernel_rfl) rfl rfl (fun _ _ _ _ h => h) E16 ?_
  refine ZT.takeOn 7 rfl rfl rfl rfl rfl (fun w' hS' => r_move rfl) (by kernel_rfl) rfl (by kernel_rfl) (by kernel_rfl) rfl rfl (fun _ _ _ _ h => h) E16 ?_
  refine ZT.takeOn 8 rfl rfl rfl rfl rfl (fun w' hS' => r_lenSlice rfl) (by kernel_rfl) rfl (by kernel_rfl) (by kernel_rfl) rfl rfl (fun _ _ _ _ h => h) E16 ?_
  refine ZT.takeOn 9 rfl rfl rfl rfl rfl (fun w' hS' => (r_eql rfl rfl).eq (v' := .bool true) (by simp)) (by kernel_rfl) rfl (by kernel_rfl) (by kernel_rfl) rfl rfl (fun _ _ _ _ h => h) E16 ?_
  refine ZT.take 10 rfl rfl (fun w' hS' => r_pickT rfl rfl) (by kernel_rfl) rfl (by kernel_rfl) (by kernel_rfl) rfl rfl (fun _ _ _ _ h => h) E16 ?_
  refine ZT.take 11 rfl rfl (fun w' hS' => r_move rfl) (by kernel_rfl) rfl (by kernel_rfl) (by kernel_rfl) rfl rfl (fun _ _ _ _ h => h) E16 ?_
  refine ZT.takeOn 12 rfl rfl rfl rfl rfl (fun w' hS' => r_move rfl) (by kernel_rfl) rfl (by kernel_rfl) (by kernel_rfl) rfl rfl (fun _ _ _ _ h => h) E16 ?_
  refine ZT.take 13 rfl rfl (fun w' hS' => r_pickT rfl rfl) (by kernel_rfl) rfl (by kernel_rfl) (by kernel_rfl) rfl rfl (fun _ _ _ _ h => h) E16 ?_
  refine ZT.take 14 rfl rfl (fun w' hS' => r_move rfl) (by kernel_rfl) rfl (by kernel_rfl) (by kernel_rfl) rfl rfl (fun _ _ _ _ h => h) E16 ?_
  refine ZT.takeOn 15 rfl rfl rfl rfl rfl (fun w' hS' => r_move rfl) (by kernel_rfl) rfl (by kernel_rfl) (by kernel_rfl) rfl rfl (fun _ _ _ _ h => h) E16 ?_
  refine ZT.takeOn 16 rfl rfl rfl rfl rfl (fun w' hS' => (r_eql rfl rfl).eq (v' := .bool true) (by simp)) (by kernel_rfl) rfl (by kernel_rfl) (by kernel_rfl) rfl rfl (fun _ _ _ _ h => h) E16 ?_
  refine ZT.take 17 rfl rfl (fun w' hS' => r_pickT rfl rfl) (by kernel_rfl) rfl (by kernel_rfl) (by kernel_rfl) rfl rfl (fun _ _ _ _ h => h) E16 ?_
  refine ZT.take 18 rfl rfl (fun w' hS' => r_move rfl) (by kernel_rfl) rfl (by kernel_rfl) (by kernel_rfl) rfl rfl (fun _ _ _ _ h => h) E16 ?_
  refine ZT.takeOn 19 rfl rfl rfl rfl rfl (fun w' hS' => r_move rfl) (by kernel_rfl) rfl (by kernel_rfl) (by kernel_rfl) rfl rfl (fun _ _ _ _ h => h) E16 ?_
  refine ZT.takeOn 20 rfl rfl rfl rfl rfl (fun w' hS' => r_move rfl) (by kernel_rfl) rfl (by kernel_rfl) (by kernel_rfl) rfl rfl (fun _ _ _ _ h => h) E16 ?_
  refine ZT.takeOn 21 rfl rfl rfl rfl rfl (fun w' hS' => r_idxS 0 rfl rfl rfl (by decide)) (by kernel_rfl) rfl (by kernel_rfl) (by kernel_rfl) rfl rfl (fun _ _ _ _ h => h) E16 ?_
  refine ZT.takeOn 22 rfl rfl rfl rfl rfl (fun w' hS' => r_loadN rfl (ExtX.at hS' hh6 (fun h => h)) hz6 hx6) (by kernel_rfl) rfl (by kernel_rfl) (by kernel_rfl) rfl rfl (fun _ _ _ _ h => h) E16 ?_
  refine ZT.one 23 rfl (by kernel_rfl) rfl rfl rfl ?_
  refine ZL.on rfl rfl rfl ?_
  refine ZL.call (r_call rfl) rfl (refWeight_ok _ T w16 _ (TxR.mv (Mv.ext E16) ⟨r6, rfl, hE6⟩)) (fun v17 w17 ⟨E17', hv⟩ => ?_)
  subst hv
  have E17 : Ext w15 w17 := ExtX.trans E16 E17' (fun _ h => h) (fun _ _ h => h)
  refine ZL.nil (ZP.turning E17 ?_)
  refine ZT.takeOn 24 rfl rfl rfl rfl rfl (fun w' hS' => (r_eql rfl rfl).eq (v' := .bool true) (by simp)) (by kernel_rfl) rfl (by kernel_rfl) (by kernel_rfl) rfl rfl (fun _ _ _ _ h => h) E17 ?_
  refine ZT.take 25 rfl rfl (fun w' hS' => r_pickT rfl rfl) (by kernel_rfl) rfl (by kernel_rfl) (by kernel_rfl) rfl rfl (fun _ _ _ _ h => h) E17 ?_
  refine ZT.take 26 rfl rfl (fun w' hS' => r_move rfl) (by kernel_rfl) rfl (by kernel_rfl) (by kernel_rfl) rfl rfl (fun _ _ _ _ h => h) E17 ?_
  refine ZT.takeOn 27 rfl rfl rfl rfl rfl (fun w' hS' => r_move rfl) (by kernel_rfl) rfl (by kernel_rfl) (by kernel_rfl) rfl rfl (fun _ _ _ _ h => h) E17 ?_
  refine ZT.takeOn 28 rfl rfl rfl rfl rfl (fun w' hS' => r_lenSlice rfl) (by kernel_rfl) rfl (by kernel_rfl) (by kernel_rfl) rfl rfl (fun _ _ _ _ h => h) E17 ?_
  refine ZT.takeOn 29 rfl rfl rfl rfl rfl (fun w' hS' => (r_eql rfl rfl).eq (v' := .bool true) (by simp)) (by kernel_rfl) rfl (by kernel_rfl) (by kernel_rfl) rfl rfl (fun _ _ _ _ h => h) E17 ?_
  refine ZT.take 30 rfl rfl (fun w' hS' => r_pickT rfl rfl) (by kernel_rfl) rfl (by kernel_rfl) (by kernel_rfl) rfl rfl (fun _ _ _ _ h => h) E17 ?_
  refine ZT.take 31 rfl rfl (fun w' hS' => r_move rfl) (by kernel_rfl) rfl (by kernel_rfl) (by kernel_rfl) rfl rfl (fun _ _ _ _ h => h) E17 ?_
  refine ZT.takeOn 32 rfl rfl rfl rfl rfl (fun w' hS' => r_move rfl) (by kernel_rfl) rfl (by kernel_rfl) (by kernel_rfl) rfl rfl (fun _ _ _ _ h => h) E17 ?_
  refine ZT.takeOn 33 rfl rfl rfl rfl rfl (fun w' hS' => r_idxS 0 rfl rfl rfl (by decide)) (by kernel_rfl) rfl (by kernel_rfl) (by kernel_rfl) rfl rfl (fun _ _ _ _ h => h) E17 ?_
  refine ZT.takeOn 34 rfl rfl rfl rfl rfl (fun w' hS' => r_load1 rfl (ExtX.at hS' hh12 (fun h => h)) hc12) (by kernel_rfl) rfl (by kernel_rfl) (by kernel_rfl) rfl rfl (fun _ _ _ _ h => h) E17 ?_
  refine ZT.takeOn 35 rfl rfl rfl rfl rfl (fun w' hS' => (r_eql rfl rfl).eq (v' := .bool true) (by simp)) (by kernel_rfl) rfl (by kernel_rfl) (by kernel_rfl) rfl rfl (fun _ _ _ _ h => h) E17 ?_
  refine ZT.take 36 rfl rfl (fun w' hS' => r_pickT rfl rfl) (by kernel_rfl) rfl (by kernel_rfl) (by kernel_rfl) rfl rfl (fun _ _ _ _ h => h) E17 ?_
  refine ZT.take 37 rfl rfl (fun w' hS' => r_move rfl) (by kernel_rfl) rfl (by kernel_rfl) (by kernel_rfl) rfl rfl (fun _ _ _ _ h => h) E17 ?_
  refine ZT.takeOn 38 rfl rfl rfl rfl rfl (fun w' hS' => r_move rfl) (by kernel_rfl) rfl (by kernel_rfl) (by kernel_rfl) rfl rfl (fun _ _ _ _ h => h) E17 ?_
  refine ZT.takeOn 39 rfl rfl rfl rfl rfl (fun w' hS' => r_idxS 1 rfl rfl rfl (by decide)) (by kernel_rfl) rfl (by kernel_rfl) (by kernel_rfl) rfl rfl (fun _ _ _ _ h => h) E17 ?_
  refine ZT.takeOn 40 rfl rfl rfl rfl rfl (fun w' hS' => r_load1 rfl (ExtX.at hS' hh12' (fun h => h)) hc12') (by kernel_rfl) rfl (by kernel_rfl) (by kernel_rfl) rfl rfl (fun _ _ _ _ h => h) E17 ?_
  refine ZT.takeOn 41 rfl rfl rfl rfl rfl (fun w' hS' => (r_eql rfl rfl).eq (v' := .bool true) (by simp)) (by kernel_rfl) rfl (by kernel_rfl) (by kernel_rfl) rfl rfl (fun _ _ _ _ h => h) E17 ?_
  refine ZT.take 42 rfl rfl (fun w' hS' => r_pickT rfl rfl) (by kernel_rfl) rfl (by kernel_rfl) (by kernel_rfl) rfl rfl (fun _ _ _ _ h => h) E17 ?_
  refine ZT.take 43 rfl rfl (fun w' hS' => r_move rfl) (by kernel_rfl) rfl (by kernel_rfl) (by kernel_rfl) rfl rfl (fun _ _ _ _ h => h) E17 ?_
  refine ZT.takeOn 44 rfl rfl rfl rfl rfl (fun w' hS' => r_move rfl) (by kernel_rfl) rfl (by kernel_rfl) (by kernel_rfl) rfl rfl (fun _ _ _ _ h => h) E17 ?_
  refine ZT.takeOn 45 rfl rfl rfl rfl rfl (fun w' hS' => r_lenSlice rfl) (by kernel_rfl) rfl (by kernel_rfl) (by kernel_rfl) rfl rfl (fun _ _ _ _ h => h) E17 ?_
  refine ZT.takeOn 46 rfl rfl rfl rfl rfl (fun w' hS' => (r_eql rfl rfl).eq (v' := .bool true) (by simp)) (by kernel_rfl) rfl (by kernel_rfl) (by kernel_rfl) rfl rfl (fun _ _ _ _ h => h) E17 ?_
  refine ZT.take 47 rfl rfl (fun w' hS' => r_pickT rfl rfl) (by kernel_rfl) rfl (by kernel_rfl) (by kernel_rfl) rfl rfl (fun _ _ _ _ h => h) E17 ?_
  refine ZT.take 48 rfl rfl (fun w' hS' => r_move rfl) (by kernel_rfl) rfl (by kernel_rfl) (by kernel_rfl) rfl rfl (fun _ _ _ _ h => h) E17 ?_
  refine ZT.takeOn 49 rfl rfl rfl rfl rfl (fun w' hS' => r_move rfl) (by kernel_rfl) rfl (by kernel_rfl) (by kernel_rfl) rfl rfl (fun _ _ _ _ h => h) E17 ?_
  refine ZT.takeOn 50 rfl rfl rfl rfl rfl (fun w' hS' => r_idxS 0 rfl rfl rfl (by decide)) (by kernel_rfl) rfl (by kernel_rfl) (by kernel_rfl) rfl rfl (fun _ _ _ _ h => h) E17 ?_
  refine ZT.takeOn 51 rfl rfl rfl rfl rfl (fun w' hS' => r_loadN rfl (ExtX.at hS' hh13 (fun h => h)) hsz13 hext13) (by kernel_rfl) rfl (by kernel_rfl) (by kernel_rfl) rfl rfl (fun _ _ _ _ h => h) E17 ?_
  refine ZT.takeOn 52 rfl rfl rfl rfl rfl (fun w' hS' => r_loadW rfl (ExtX.at hS' hb15 (fun h => h)) (B32.size _)) (by kernel_rfl) rfl (by kernel_rfl) (by kernel_rfl) rfl rfl (fun _ _ _ _ h => h) E17 ?_
  refine ZT.takeOn 53 rfl rfl rfl rfl rfl (fun w' hS' => (r_eqlB32 rfl rfl).eq (v' := .bool true) (by simp)) (by kernel_rfl) rfl (by kernel_rfl) (by kernel_rfl) rfl rfl (fun _ _ _ _ h => h) E17 ?_
  refine ZT.take 54 rfl rfl (fun w' hS' => r_pickT rfl rfl) (by kernel_rfl) rfl (by kernel_rfl) (by kernel_rfl) rfl rfl (fun _ _ _ _ h => h) E17 ?_
  refine ZT.take 55 rfl rfl (fun w' hS' => r_move rfl) (by kernel_rfl) rfl (by kernel_rfl) (by kernel_rfl) rfl rfl (fun _ _ _ _ h => h) E17 ?_
  refine ZT.takeOn 56 rfl rfl rfl rfl rfl (fun w' hS' => r_move rfl) (by kernel_rfl) rfl (by kernel_rfl) (by kernel_rfl) rfl rfl (fun _ _ _ _ h => h) E17 ?_
  refine ZT.takeOn 57 rfl rfl rfl rfl rfl (fun w' hS' => r_lenSlice rfl) (by kernel_rfl) rfl (by kernel_rfl) (by kernel_rfl) rfl rfl (fun _ _ _ _ h => h) E17 ?_
  refine ZT.takeOn 58 rfl rfl rfl rfl rfl (fun w' hS' => (r_eql rfl rfl).eq (v' := .bool true) (by simp)) (by kernel_rfl) rfl (by kernel_rfl) (by kernel_rfl) rfl rfl (fun _ _ _ _ h => h) E17 ?_
  refine ZT.take 59 rfl rfl (fun w' hS' => r_pickT rfl rfl) (by kernel_rfl) rfl (by kernel_rfl) (by kernel_rfl) rfl rfl (fun _ _ _ _ h => h) E17 ?_
  refine ZT.take 60 rfl rfl (fun w' hS' => r_move rfl) (by kernel_rfl) rfl (by kernel_rfl) (by kernel_rfl) rfl rfl (fun _ _ _ _ h => h) E17 ?_
  refine ZT.takeOn 61 rfl rfl rfl rfl rfl (fun w' hS' => r_move rfl) (by kernel_rfl) rfl (by kernel_rfl) (by kernel_rfl) rfl rfl (fun _ _ _ _ h => h) E17 ?_
  refine ZT.takeOn 62 rfl rfl rfl rfl rfl (fun w' hS' => r_lenSlice rfl) (by kernel_rfl) rfl (by kernel_rfl) (by kernel_rfl) rfl rfl (fun _ _ _ _ h => h) E17 ?_
  refine ZT.takeOn 63 rfl rfl rfl rfl rfl (fun w' hS' => (r_eql rfl rfl).eq (v' := .bool true) (by simp)) (by kernel_rfl) rfl (by kernel_rfl) (by kernel_rfl) rfl rfl (fun _ _ _ _ h => h) E17 ?_
  refine ZT.take 64 rfl rfl (fun w' hS' => r_pickT rfl rfl) (by kernel_rfl) rfl (by kernel_rfl) (by kernel_rfl) rfl rfl (fun _ _ _ _ h => h) E17 ?_
  refine ZT.take 65 rfl rfl (fun w' hS' => r_move rfl) (by kernel_rfl) rfl (by kernel_rfl) (by kernel_rfl) rfl rfl (fun _ _ _ _ h => h) E17 ?_
  refine ZT.takeOn 66 rfl rfl rfl rfl rfl (fun w' hS' => r_move rfl) (by kernel_rfl) rfl (by kernel_rfl) (by kernel_rfl) rfl rfl (fun _ _ _ _ h => h) E17 ?_
  refine ZT.takeOn 67 rfl rfl rfl rfl rfl (fun w' hS' => r_idxS 0 rfl rfl rfl (by decide)) (by kernel_rfl) rfl (by kernel_rfl) (by kernel_rfl) rfl rfl (fun _ _ _ _ h => h) E17 ?_
  refine ZT.takeOn 68 rfl rfl rfl rfl rfl (fun w' hS' => r_loadN rfl (ExtX.at hS' hh15 (fun h => h)) hsz15 hext15) (by kernel_rfl) rfl (by kernel_rfl) (by kernel_rfl) rfl rfl (fun _ _ _ _ h => h) E17 ?_
  refine ZT.takeOn 69 rfl rfl rfl rfl rfl (fun w' hS' => r_loadW rfl (ExtX.at hS' hb15 (fun h => h)) (B32.size _)) (by kernel_rfl) rfl (by kernel_rfl) (by kernel_rfl) rfl rfl (fun _ _ _ _ h => h) E17 ?_
  refine ZT.takeOn 70 rfl rfl rfl rfl rfl (fun w' hS' => (r_eqlB32 rfl rfl).eq (v' := .bool true) (by simp)) (by kernel_rfl) rfl (by kernel_rfl) (by kernel_rfl) rfl rfl (fun _ _ _ _ h => h) E17 ?_
  refine ZT.take 71 rfl rfl (fun w' hS' => r_pickT rfl rfl) (by kernel_rfl) rfl (by kernel_rfl) (by kernel_rfl) rfl rfl (fun _ _ _ _ h => h) E17 ?_
  refine ZT.take 72 rfl rfl (fun w' hS' => r_move rfl) (by kernel_rfl) rfl (by kernel_rfl) (by kernel_rfl) rfl rfl (fun _ _ _ _ h => h) E17 ?_
  refine ZT.takeOn 73 rfl rfl rfl rfl rfl (fun w' hS' => r_move rfl) (by kernel_rfl) rfl (by kernel_rfl) (by kernel_rfl) rfl rfl (fun _ _ _ _ h => h) E17 ?_
  refine ZT.one 74 rfl (by kernel_rfl) rfl rfl rfl ?_
  refine ZL.on rfl rfl rfl ?_
  have S17 := S15.ext E17
  refine ZL.call (r_call rfl) rfl (All_ok bh H15' w17 S17.home (by rw [A15.nol rfl]; simp)) (fun v18 w18 ⟨E18', ys18, hp18, _, N18⟩ => ?_)
  have E18 : Ext w15 w18 := ExtX.trans E17 E18' (fun _ h => h) (fun _ _ h => h)
  rw [A15.nol rfl] at hp18
  obtain rfl := List.perm_nil.1 hp18
  obtain ⟨p18, c18, rfl⟩ := N18.own.shape
  refine ZL.nil (ZP.turning E18 ?_)
  refine ZT.takeOn 75 rfl rfl rfl rfl rfl (fun w' hS' => r_lenSlice rfl) (by kernel_rfl) rfl (by kernel_rfl) (by kernel_rfl) rfl rfl (fun _ _ _ _ h => h) E18 ?_
  refine ZT.takeOn 76 rfl rfl rfl rfl rfl (fun w' hS' => (r_eql rfl rfl).eq (v' := .bool true) (by simp)) (by kernel_rfl) rfl (by kernel_rfl) (by kernel_rfl) rfl rfl (fun _ _ _ _ h => h) E18 ?_
  refine ZT.take 77 rfl rfl (fun w' hS' => r_pickT rfl rfl) (by kernel_rfl) rfl (by kernel_rfl) (by kernel_rfl) rfl rfl (fun _ _ _ _ h => h) E18 ?_
  refine ZT.done rfl (by kernel_rfl) ?_
  refine ZL.val (r_assign rfl) rfl ?_; refine ZL.nil ?_; refine ZP.then ?_; refine ZC.ret ?_
  exact ZP.ret1 rfl rfl ⟨ExtX.trans S15.M.ext E18 (fun _ h => h) (fun _ _ h => h), rfl⟩
end Go.Proofs.YtibobcjfjnoclaaGreatDoor.Z
end
section
/- OrphAgain. -/
set_option linter.unusedVariables false
set_option linter.unusedSimpArgs false
set_option linter.unusedSectionVars false
set_option maxRecDepth 100000
set_option maxHeartbeats 4000000
namespace Go.Proofs.YtibobcjfjnoclaaGreatDoor.Z
open Go Go.RowKit

theorem AG.mono {T : TTx} {ks : List Int} {H : HM} {i j : Nat} (h : AG T ks H i) (hij : i ≤ j) : AG T ks H j := ⟨h.keys, h.one, h.nol, h.l, h.seq0, by have := h.seq; omega⟩
theorem AG.len {T : TTx} {ks : List Int} {H : HM} {i : Nat} (h : AG T ks H i) : H.p.length = ks.length := by have := congrArg List.length h.keys; simpa using this
theorem AD.len {ks : List Int} {H : HM} (h : AD ks H) : H.p.length = ks.length := by have := congrArg List.length h.keys; simpa using this
theorem hasK_len (ks : List Int) : (hasK ks).length = ks.length := by simp [hasK]
abbrev LA (bt b7 : Nat) (es : Array MapEntry) (ck : Nat) (id : B32) : List Chunk := [.blk bt (.map es ck), .blk b7 (.cells id.cells.toArray 27)]
/-- What stands when so many told it. -/
structure AS (w0 : World) (bh bt b7 : Nat) (r : Value) (T : TTx) (ks : List Int) (H : HM) (es : Array MapEntry) (ck : Nat) (i : Nat) (w : World) : Prop where
  S : HS w0 No bh H (LA bt b7 es ck T.wid) w
  F : ListR TxE 4 w (fpIn (H.chs bh ++ LA bt b7 es ck T.wid)) r [T]
  A : AG T ks H i
  M : MObj (Value.int .i64) Value.bool (hasK ks) es ck
  n : ks.length ≤ i

theorem OrphAgain_ok (n : Int) (v0 : Value) (l : List Int) (w : World) (hG : GW w) (hA : IntsA w v0 l) : Ret P 3 #[.int .i64 n, v0] w (fun r w' => Ext w w' ∧ r = .bool true) := by
  have hA0 := hA
  obtain ⟨pa, ca, rfl, _⟩ := hA0
  refine Ret.enter2 Tryz.func3 rfl Tryz.ntmps3 rfl ?_
  refine ZC.seq ?_; refine ZC.region ?_; refine ZL.val (r_assign rfl) rfl ?_; refine ZL.nil ?_; refine ZP.then ?_; refine ZC.seq ?_; refine ZC.region ?_
  refine ZL.call (r_call rfl) rfl (New_ok w) (fun v1 w1 ⟨bh, bl, bp, hv, M1⟩ => ?_)
  subst hv
  have S1 := HS.init M1
  refine ZL.val (r_assign rfl) rfl ?_; refine ZL.nil ?_; refine ZP.then ?_; refine ZC.seq ?_; refine ZC.region ?_; refine ZL.val (r_move rfl) rfl ?_
  refine ZL.bslice (Mem.start w1 No) rfl rfl rfl (by simp [Value.cells]) (by decide) rfl (fun g w2 M2 => ?_)
  skip
  refine ZL.call (r_call rfl) rfl (Linked_txs _ [n] w2 (IntsA.of_own M2.own)) (fun v3 w3 ⟨E3, Ts, hTl, hpl, hL3⟩ => ?_)
  have S3 := (S1.ext M2.ext).ext E3
  obtain ⟨T, rfl⟩ : ∃ T, Ts = [T] := by
    match Ts, hTl with
    | [a], _ => exact ⟨a, rfl⟩
  have hpT := hpl T (by simp)
  have L3 := hL3.tx (Mv.newer (S1.ext M2.ext).M E3.size)
  have A0 := AG.init T bl bp
  generalize (⟨bl, bp, #[], 0, #[], 0, [], [], 0⟩ : HM) = H0 at S1 S3 L3 A0
  obtain ⟨p3, c3, hv3⟩ := L3.shape
  simp only [List.length_cons, List.length_nil] at hv3
  subst hv3
  clear M1 M2 hL3 S1
  have hTx : ∀ {w' : World} {X : Nat → Prop}, ListR TxE 4 w' X (.slice p3 (0 + 1) c3) [T] → ∃ g o cs e fz r, p3 = some ⟨g, o, none⟩ ∧ w'.heap[g]? = some (.cells cs e fz) ∧ TxE w' X r T ∧ o + 0 * 4 + 4 ≤ cs.size ∧ cs.extract (o + 0 * 4) (o + 0 * 4 + 4) = r.toArray := fun {w' X} h => by
    obtain ⟨g, o, cs, e, fz, r, hp, hh, -, -, hE, hcell, hsz, hext⟩ := ListR.elem (by decide) h (i := 0) (by simp)
    exact ⟨g, o, cs, e, fz, r, hp, hh, hE, hsz, hext⟩
  refine ZL.val (r_assign rfl) rfl ?_; refine ZL.nil ?_; refine ZP.then ?_; refine ZC.seq ?_; refine ZC.seq ?_; refine ZC.region ?_; refine ZL.val (r_move rfl) rfl ?_; refine ZL.val (r_eqlPtrNil rfl rfl) rfl ?_; refine ZL.val (r_move rfl) rfl ?_; refine ZL.on rfl rfl rfl ?_; refine ZL.val (r_move rfl) rfl ?_; refine ZL.on rfl rfl rfl ?_; refine ZL.val (r_lenSlice rfl) rfl ?_; refine ZL.on rfl rfl rfl ?_; refine ZL.val (r_neq rfl rfl) rfl ?_; refine ZL.val (r_pickF rfl rfl) rfl ?_; refine ZL.nil ?_; refine ZP.then ?_; refine ZC.condF rfl ?_; refine ZC.skip ?_; refine ZP.then ?_; refine ZC.seq ?_; refine ZC.region ?_; refine ZL.val (r_move rfl) rfl ?_
  obtain ⟨gt, ot, cs4, e4, fz4, r4, rfl, hh4, hE4, hz4, hx4⟩ := hTx L3
  refine ZL.val (r_idxS 0 rfl rfl rfl (by decide)) rfl ?_
  refine ZL.val (r_loadN rfl hh4 hz4 hx4) rfl ?_
  skip
  refine ZL.call (r_call rfl) rfl (refWtxid_ok _ T w3 _ ⟨r4, rfl, hE4⟩) (fun v5 w5 ⟨E5, hv⟩ => ?_)
  subst hv
  refine ZL.alloc (Mem.start w5 No) rfl rfl (fun b7 w6 M6 => ?_)
  refine ZL.stW M6 rfl rfl (cs' := T.wid.cells.toArray) rfl (by simp) (B32.size _) (B32.one _) (fun w7 M7 => ?_)
  refine ZL.nil ?_; refine ZP.then ?_; refine ZC.seq ?_; refine ZC.region ?_
  refine ZL.makeMap M7 rfl (fun bt w8 M8 => ?_)
  have I8 : AS w bh bt b7 (.slice (some ⟨gt, ot, none⟩) (0 + 1) c3) T [] H0 #[] 0 0 w8 :=
    ⟨(S3.ext E5).beside M8, (L3.tx (Mv.ext E5)).tx (Mv.besideH M8), A0, MObj.empty _ _, Nat.le_refl _⟩
  clear S3 L3 A0 M6 M7 M8 hE4 hx4 hz4 hh4
  refine ZL.val (r_assign rfl) rfl ?_; refine ZL.nil ?_; refine ZP.then ?_
  refine ZC.mid (X := List Int × HM × Array MapEntry × Nat) (fun _ => [(8, .map (some bt)), (7, .pointer (some ⟨b7, 0, none⟩)), (6, .slice (some ⟨gt, ot, none⟩) (0 + 1) c3), (5, .pointer (some ⟨bh, 0, none⟩))])
    (fun x w' => AS w bh bt b7 (.slice (some ⟨gt, ot, none⟩) (0 + 1) c3) T x.1 x.2.1 x.2.2.1 x.2.2.2 30 w') ?_ ?_
  · refine ZC.seq ?_; refine ZC.region ?_; refine ZL.val (r_assign rfl) rfl ?_; refine ZL.nil ?_; refine ZP.then ?_; refine ZC.block ?_
    refine ZC.loop (X := Nat × List Int × HM × Array MapEntry × Nat) (fun x => [(9, .int .i64 x.1), (8, .map (some bt)), (7, .pointer (some ⟨b7, 0, none⟩)), (6, .slice (some ⟨gt, ot, none⟩) (0 + 1) c3), (5, .pointer (some ⟨bh, 0, none⟩)), (1, .slice pa l.length ca)])
      (fun x w' => AS w bh bt b7 (.slice (some ⟨gt, ot, none⟩) (0 + 1) c3) T x.2.1 x.2.2.1 x.2.2.2.1 x.2.2.2.2 x.1 w' ∧ x.1 ≤ 30) (fun x => 30 - x.1) (0, [], H0, #[], 0) ⟨rfl, rfl, rfl, rfl, rfl, rfl, trivial⟩ ⟨I8, by omega⟩ ?_
    clear I8
    rintro ⟨i, ks, H, es, ck⟩ w1 ⟨I1, hi⟩
    simp only at I1 hi ⊢
    have out : ∀ (w' : World), w' = w1 → AS w bh bt b7 (.slice (some ⟨gt, ot, none⟩) (0 + 1) c3) T ks H es ck 30 w' := fun w' e => by subst e; exact ⟨I1.S, I1.F, I1.A.mono hi, I1.M, Nat.le_trans I1.n hi⟩
    refine ZC.seq ?_; refine ZC.seq ?_; refine ZC.region ?_; refine ZL.val (r_move rfl) rfl ?_; refine ZL.val (r_move rfl) rfl ?_; refine ZL.val (r_lenSlice rfl) rfl ?_; refine ZL.val (r_lss rfl rfl) rfl ?_; refine ZL.val (r_move rfl) rfl ?_
    refine ZL.splitD 35 rfl (fun h1 => ?_) (fun h1 => ?_)
    rotate_left
    · refine ZL.skip rfl rfl rfl rfl ?_; refine ZL.skip rfl rfl rfl rfl ?_; refine ZL.val (r_pickF rfl rfl) rfl ?_; refine ZL.nil ?_; refine ZP.then ?_; refine ZC.condF rfl ?_; refine ZC.exit ?_; refine ZP.thenX ?_; refine ZP.thenX ?_; refine ZP.blockE ?_
      exact ZP.mid (ks, H, es, ck) ⟨rfl, rfl, rfl, rfl, trivial⟩ (out _ rfl)
    refine ZL.on rfl rfl rfl ?_; refine ZL.val (r_move rfl) rfl ?_; refine ZL.on rfl rfl rfl ?_; refine ZL.val (r_lss rfl rfl) rfl ?_; refine ZL.val (r_pickT rfl rfl) rfl ?_; refine ZL.nil ?_; refine ZP.then ?_
    refine ZC.condD rfl (fun h2 => ?_) (fun h2 => ?_)
    rotate_left
    · refine ZC.exit ?_; refine ZP.thenX ?_; refine ZP.thenX ?_; refine ZP.blockE ?_
      exact ZP.mid (ks, H, es, ck) ⟨rfl, rfl, rfl, rfl, trivial⟩ (out _ rfl)
    clear out
    have hil : i < l.length := by omega
    have hi30 : i < 30 := by omega
    obtain ⟨-, bl', ol, csl, el, fzl, rfl, hhl, hcl⟩ := (hA.ext I1.S.M.ext).elem hil
    obtain ⟨q, hq, hqe⟩ := iand_mask l[i] 7 (by decide)
    refine ZC.skip ?_; refine ZP.then ?_; refine ZC.seq ?_; refine ZC.block ?_; refine ZC.seq ?_; refine ZC.region ?_; refine ZL.val (r_move rfl) rfl ?_; refine ZL.val (r_move rfl) rfl ?_
    refine ZL.val (r_idxS i rfl rfl rfl hil) rfl ?_
    rw [Nat.mul_one]
    refine ZL.val (r_load1 rfl hhl hcl) rfl ?_
    refine ZL.val (r_and rfl rfl hqe) rfl ?_
    refine ZL.val (r_assign rfl) rfl ?_; refine ZL.nil ?_; refine ZP.then ?_; refine ZC.seq ?_; refine ZC.region ?_; refine ZL.val (r_move rfl) rfl ?_; refine ZL.val (r_move rfl) rfl ?_
    obtain ⟨gt', ot', cs6, e6, fz6, r6, hp6, hh6, hE6, hz6, hx6⟩ := hTx I1.F
    simp only [Option.some.injEq, Addr.mk.injEq, and_true] at hp6
    obtain ⟨rfl, rfl⟩ := hp6
    refine ZL.val (r_idxS 0 rfl rfl rfl (by decide)) rfl ?_
    refine ZL.val (r_loadN rfl hh6 hz6 hx6) rfl ?_
    refine ZL.val (r_move rfl) rfl ?_; refine ZL.val (r_move rfl) rfl ?_
    refine ZL.call (r_call rfl) rfl (Add_ok bh H _ T q i _ w1 (hG.ext I1.S.M.ext) I1.S.rebase ⟨r6, rfl, hE6⟩ hpT.fits I1.A.seq0 (by have := I1.A.seq; omega) ?_) (fun v2 w2 ⟨H2, gv, gone, ok, hv, Q2, hA2⟩ => ?_)
    · by_cases hk : (q : Int) ∈ ks
      · have := (I1.A.used I1.S.ok hk).1; omega
      · unfold HM.told; rw [I1.A.no hk]; simp
    obtain ⟨rfl, rfl, A2⟩ := I1.A.add I1.S.ok hpT.weight hA2
    subst hv
    have hkm : (q : Int) ∈ (if (q : Int) ∈ ks then ks else ks ++ [(q : Int)]) := by split <;> simp_all
    have hkl : (if (q : Int) ∈ ks then ks else ks ++ [(q : Int)]).length ≤ i + 1 := by
      have := I1.n
      split
      · omega
      · simp; omega
    have hput := hasK_put ks q
    generalize (if (q : Int) ∈ ks then ks else ks ++ [(q : Int)]) = ks2 at A2 hkm hkl hput
    have S2 := I1.S.join Q2
    obtain ⟨pg, cg, hg⟩ := (HS.front (N := [_]) S2).1.own.shape
    simp only [List.length_nil] at hg
    subst hg
    have S2' := HS.drop (N := [_]) S2
    have F2 : ListR TxE 4 w2 (fpIn (H2.chs bh ++ LA bt b7 es ck T.wid)) _ _ := (I1.F.tx (Mv.fpf Q2.M)).tx (Mv.mono fun b _ ⟨c, hc, hg⟩ => ⟨c, by simp only [List.mem_append, List.mem_cons] at hc ⊢; rcases hc with h | h | h | h <;> simp_all, hg⟩)
    have hMO := I1.M
    clear I1 Q2 S2 hA2 hE6 hx6 hh6 hz6
    have M2 := (HS.front (N := [_, _]) S2').1
    have T2 := (HS.front (N := [_, _]) S2').2
    simp only [List.cons_append, List.nil_append] at M2 T2
    refine ZL.val (r_move rfl) rfl ?_; refine ZL.val (r_extract rfl rfl) rfl ?_; refine ZL.val (r_extract rfl rfl) rfl ?_; refine ZL.val (r_assign rfl) rfl ?_; refine ZL.val (r_assign rfl) rfl ?_; refine ZL.nil ?_; refine ZP.then ?_; refine ZC.seq ?_; refine ZC.region ?_; refine ZL.val (r_move rfl) rfl ?_; refine ZL.val (r_move rfl) rfl ?_
    refine ZL.mput (t := 34) (ke := Value.int .i64) (ve := Value.bool) (k := (q : Int)) (v := true) M2.rebase rfl rfl rfl hMO (fun es3 ck3 w3 hO3 R3 => ?_)
    rw [hput] at hO3
    have S3 : HS w No bh H2 (LA bt b7 es3 ck3 T.wid) w3 := HS.back (N := [_, _]) (M2.joinX R3) S2'.ok (T2.mv (Mv.fpf R3))
    have F3 : ListR TxE 4 w3 (fpIn (H2.chs bh ++ LA bt b7 es3 ck3 T.wid)) _ _ := (F2.tx (Mv.mono (Y := fpIn (.blk bt (.map es ck) :: .blk b7 (.cells T.wid.cells.toArray 27) :: (H2.chs bh ++ []))) fun b _ ⟨c, hc, hg⟩ => ⟨c, by simp only [List.mem_append, List.mem_cons] at hc ⊢; rcases hc with h | h | h | h <;> simp_all, hg⟩)).tx ((Mv.fpf R3).trans (Mv.mono fun b _ ⟨c, hc, hg⟩ => ⟨c, by simp only [List.mem_append, List.mem_cons] at hc ⊢; rcases hc with h | h | h | h <;> simp_all, hg⟩))
    clear S2' F2 M2 T2 R3 hMO hput
    refine ZL.nil ?_; refine ZP.then ?_; refine ZC.seq ?_; refine ZC.region ?_; refine ZL.val (r_move rfl) rfl ?_; refine ZL.val (r_move rfl) rfl ?_
    have hU := Used_ok bh H2 q w3 S3.home
    rw [(A2.used S3.ok hkm).1, (A2.used S3.ok hkm).2] at hU
    refine ZL.call (r_call rfl) rfl hU (fun v4 w4 ⟨E4, hv⟩ => ?_)
    subst hv
    clear hU
    have S4 := S3.ext E4
    have F4 := F3.tx (Mv.ext E4)
    clear S3 F3
    have hks0 : ks2 ≠ [] := List.ne_nil_of_mem hkm
    obtain ⟨vT, hlT⟩ := A2.l hks0
    have hb7 : w4.heap[b7]? = some (.cells T.wid.cells.toArray 27 (0, 0)) := S4.M.ok (.blk b7 (.cells T.wid.cells.toArray 27)) (by simp [LA])
    have hbt : w4.heap[bt]? = some (.map es3 ck3) := S4.M.ok (.blk bt (.map es3 ck3)) (by simp [LA])
    refine ZL.val (r_move rfl) rfl ?_; refine ZL.val (r_extract rfl rfl) rfl ?_; refine ZL.val (r_extract rfl rfl) rfl ?_; refine ZL.val (r_assign rfl) rfl ?_; refine ZL.val (r_assign rfl) rfl ?_; refine ZL.nil ?_; refine ZP.then ?_; refine ZC.seq ?_; refine ZC.region ?_; refine ZL.val (r_move rfl) rfl ?_; refine ZL.val (r_not rfl) rfl ?_; refine ZL.val (r_move rfl) rfl ?_; refine ZL.on rfl rfl rfl ?_; refine ZL.val (r_move rfl) rfl ?_; refine ZL.on rfl rfl rfl ?_; refine ZL.val (r_lenSlice rfl) rfl ?_; refine ZL.on rfl rfl rfl ?_; refine ZL.val (r_neq rfl rfl) rfl ?_; refine ZL.val (r_pickF rfl rfl) rfl ?_; refine ZL.val (r_move rfl) rfl ?_; refine ZL.on rfl rfl rfl ?_; refine ZL.val (r_move rfl) rfl ?_; refine ZL.on rfl rfl rfl ?_
    refine ZL.val (r_loadW rfl hb7 (B32.size _)) rfl ?_
    refine ZL.on rfl rfl rfl ?_
    refine ZL.call (r_call rfl) rfl (Peers_ok bh H2 T.wid w4 S4.home (by have := A2.len; omega)) (fun v5 w5 ⟨E5, ys, hp, _, N5⟩ => ?_)
    rw [A2.tellers S4.ok] at hp
    have hyl := hp.length_eq
    obtain ⟨p5, c5, rfl⟩ := N5.own.shape
    have S5 := S4.ext E5
    have F5 := F4.tx (Mv.ext E5)
    have hbt5 := E5.at hbt (fun h => h)
    clear S4 F4 hp N5
    refine ZL.on rfl rfl rfl ?_; refine ZL.val (r_lenSlice rfl) rfl ?_; refine ZL.on rfl rfl rfl ?_; refine ZL.val (r_move rfl) rfl ?_; refine ZL.on rfl rfl rfl ?_
    refine ZL.val (r_lenMap rfl hbt5) rfl ?_
    have hes : es3.size = ks2.length := by rw [hO3.size, hasK_len]
    refine ZL.on rfl rfl rfl ?_; refine ZL.val (r_neq rfl rfl) rfl ?_; refine ZL.val (r_pickF rfl rfl) rfl ?_; refine ZL.val (r_move rfl) rfl ?_
    refine ZL.splitD 80 rfl (fun h => absurd (show (ys.length : Int) = (es3.size : Int) by omega) h) (fun _ => ?_)
    refine ZL.on rfl rfl rfl ?_; refine ZL.val (r_move rfl) rfl ?_; refine ZL.on rfl rfl rfl ?_
    refine ZL.call (r_call rfl) rfl (All_ok bh H2 w5 S5.home (by rw [hlT]; simp)) (fun v6 w6 ⟨E6, zs, hp6, _, N6⟩ => ?_)
    rw [hlT] at hp6
    have hzl := hp6.length_eq
    simp only [List.map_cons, List.map_nil, List.length_cons, List.length_nil] at hzl
    obtain ⟨p6, c6, rfl⟩ := N6.own.shape
    rw [hzl]
    have S6 := S5.ext E6
    have F6 := F5.tx (Mv.ext E6)
    clear S5 F5 hp6 N6 hzl
    refine ZL.on rfl rfl rfl ?_; refine ZL.val (r_lenSlice rfl) rfl ?_; refine ZL.on rfl rfl rfl ?_; refine ZL.val (r_neq rfl rfl) rfl ?_; refine ZL.val (r_pickF rfl rfl) rfl ?_; refine ZL.val (r_move rfl) rfl ?_; refine ZL.on rfl rfl rfl ?_; refine ZL.val (r_move rfl) rfl ?_; refine ZL.on rfl rfl rfl ?_; refine ZL.val (r_neq rfl rfl) rfl ?_; refine ZL.val (r_pickF rfl rfl) rfl ?_; refine ZL.val (r_move rfl) rfl ?_; refine ZL.on rfl rfl rfl ?_; refine ZL.val (r_move rfl) rfl ?_; refine ZL.on rfl rfl rfl ?_; refine ZL.val (r_move rfl) rfl ?_; refine ZL.on rfl rfl rfl ?_
    obtain ⟨gt', ot', cs6, e6, fz6, r6, hp6, hh6, hE6, hz6, hx6⟩ := hTx F6
    simp only [Option.some.injEq, Addr.mk.injEq, and_true] at hp6
    obtain ⟨rfl, rfl⟩ := hp6
    refine ZL.val (r_idxS 0 rfl rfl rfl (by decide)) rfl ?_
    refine ZL.on rfl rfl rfl ?_
    refine ZL.val (r_loadN rfl hh6 hz6 hx6) rfl ?_
    refine ZL.on rfl rfl rfl ?_
    refine ZL.call (r_call rfl) rfl (refWeight_ok _ T w6 _ ⟨r6, rfl, hE6⟩) (fun v7 w7 ⟨E7, hv⟩ => ?_)
    subst hv
    have S7 := S6.ext E7
    have F7 := F6.tx (Mv.ext E7)
    clear S6 F6 hE6 hx6 hh6 hz6
    refine ZL.on rfl rfl rfl ?_; refine ZL.val (r_neq rfl rfl) rfl ?_; refine ZL.val (r_pickF rfl rfl) rfl ?_; refine ZL.nil ?_; refine ZP.then ?_
    refine ZC.condD rfl (fun h => absurd rfl h) (fun _ => ?_)
    refine ZC.skip ?_; refine ZP.blockN ?_; refine ZP.then ?_; refine ZC.region ?_; refine ZL.val (r_move rfl) rfl ?_; refine ZL.val (r_add rfl rfl (wrap_i64 (by omega) (by omega))) rfl ?_; refine ZL.val (r_assign rfl) rfl ?_; refine ZL.nil ?_
    exact ZP.round (i + 1, ks2, H2, es3, ck3) ⟨rfl, rfl, rfl, rfl, rfl, rfl, trivial⟩ ⟨⟨S7, F7, A2, hO3, hkl⟩, by omega⟩ (by simp only; omega)
  clear I8
  rintro ⟨ks, H, es, ck⟩ w1 I1
  simp only at I1 ⊢
  have hes : es.size = ks.length := by rw [I1.M.size, hasK_len]
  have hn := I1.n
  have hbt : w1.heap[bt]? = some (.map es ck) := I1.S.M.ok (.blk bt (.map es ck)) (by simp [LA])
  have hb7 : w1.heap[b7]? = some (.cells T.wid.cells.toArray 27 (0, 0)) := I1.S.M.ok (.blk b7 (.cells T.wid.cells.toArray 27)) (by simp [LA])
  refine ZC.seq ?_; refine ZC.seq ?_; refine ZC.region ?_; refine ZL.val (r_move rfl) rfl ?_
  refine ZL.val (r_lenMap rfl hbt) rfl ?_
  refine ZL.val (r_eql rfl rfl) rfl ?_; refine ZL.nil ?_; refine ZP.then ?_
  refine ZC.condD rfl (fun h => ?_) (fun h => ?_)
  · have hk0 : ks = [] := List.length_eq_zero_iff.1 (by omega)
    have hl0 := I1.A.nol hk0
    refine ZC.seq ?_; refine ZC.region ?_; refine ZL.val (r_move rfl) rfl ?_
    refine ZL.call (r_call rfl) rfl (All_ok bh H w1 I1.S.home (by rw [hl0]; simp)) (fun v2 w2 ⟨E2, zs, hp2, _, N2⟩ => ?_)
    rw [hl0] at hp2
    obtain rfl := List.perm_nil.1 hp2
    obtain ⟨p2, c2, rfl⟩ := N2.own.shape
    have S2 := I1.S.ext E2
    refine ZL.val (r_lenSlice rfl) rfl ?_; refine ZL.val (r_eql rfl rfl) rfl ?_; refine ZL.val (r_move rfl) rfl ?_; refine ZL.on rfl rfl rfl ?_
    refine ZL.call (r_call rfl) rfl (awake_ok w2 (hG.ext S2.M.ext)) (fun v3 w3 ⟨E3, hv⟩ => ?_)
    subst hv
    refine ZL.val (r_pickT rfl rfl) rfl ?_; refine ZL.val (r_assign rfl) rfl ?_; refine ZL.nil ?_; refine ZP.then ?_; refine ZC.ret ?_; refine ZP.thenR ?_
    exact ZP.ret1 rfl rfl ⟨ExtX.trans S2.M.ext E3 (fun _ h => h) (fun _ _ h => h), rfl⟩
  · have hk0 : ks ≠ [] := fun e => by
      have h9 : ks.length = 0 := by rw [e]; rfl
      omega
    have hpl := I1.A.len
    refine ZC.skip ?_; refine ZP.then ?_; refine ZC.seq ?_; refine ZC.region ?_; refine ZL.val (r_move rfl) rfl ?_
    refine ZL.val (r_loadW rfl hb7 (B32.size _)) rfl ?_
    skip
    refine ZL.call (r_call rfl) rfl (Drop_ok bh H T.wid _ w1 _ I1.S.rebase (by omega)) (fun v2 w2 ⟨H2, ys2, hv, Q2, R2⟩ => ?_)
    have S2 := I1.S.join Q2
    obtain ⟨rfl, A2⟩ := I1.A.drop hk0 R2
    subst hv
    have hb7 : w2.heap[b7]? = some (.cells T.wid.cells.toArray 27 (0, 0)) := S2.M.ok (.blk b7 (.cells T.wid.cells.toArray 27)) (by simp [LA])
    refine ZL.val (r_move rfl) rfl ?_; refine ZL.on rfl rfl rfl ?_; refine ZL.val (r_move rfl) rfl ?_; refine ZL.on rfl rfl rfl ?_
    refine ZL.val (r_loadW rfl hb7 (B32.size _)) rfl ?_
    refine ZL.on rfl rfl rfl ?_
    refine ZL.call (r_call rfl) rfl (Drop_ok bh H2 T.wid _ w2 _ S2.rebase (by have := A2.len; omega)) (fun v3 w3 ⟨H3, ys3, hv, Q3, R3⟩ => ?_)
    have S3 := S2.join Q3
    obtain ⟨rfl, A3⟩ := A2.drop R3
    subst hv
    have hb7 : w3.heap[b7]? = some (.cells T.wid.cells.toArray 27 (0, 0)) := S3.M.ok (.blk b7 (.cells T.wid.cells.toArray 27)) (by simp [LA])
    refine ZL.on rfl rfl rfl ?_; refine ZL.val (r_not rfl) rfl ?_; refine ZL.val (r_pickT rfl rfl) rfl ?_; refine ZL.val (r_move rfl) rfl ?_; refine ZL.on rfl rfl rfl ?_; refine ZL.val (r_move rfl) rfl ?_; refine ZL.on rfl rfl rfl ?_
    refine ZL.call (r_call rfl) rfl (All_ok bh H3 w3 S3.home (by rw [A3.l]; simp)) (fun v4 w4 ⟨E4, zs, hp4, _, N4⟩ => ?_)
    rw [A3.l] at hp4
    obtain rfl := List.perm_nil.1 hp4
    obtain ⟨p4, c4, rfl⟩ := N4.own.shape
    have S4 := S3.ext E4
    have hb74 := E4.at hb7 (fun h => h)
    refine ZL.on rfl rfl rfl ?_; refine ZL.val (r_lenSlice rfl) rfl ?_; refine ZL.on rfl rfl rfl ?_; refine ZL.val (r_eql rfl rfl) rfl ?_; refine ZL.val (r_pickT rfl rfl) rfl ?_; refine ZL.val (r_move rfl) rfl ?_; refine ZL.on rfl rfl rfl ?_; refine ZL.val (r_move rfl) rfl ?_; refine ZL.on rfl rfl rfl ?_
    refine ZL.val (r_loadW rfl hb74 (B32.size _)) rfl ?_
    refine ZL.on rfl rfl rfl ?_
    refine ZL.call (r_call rfl) rfl (Peers_ok bh H3 T.wid w4 S4.home (by have := A3.len; omega)) (fun v5 w5 ⟨E5, ys, hp, _, N5⟩ => ?_)
    rw [A3.tellers S4.ok] at hp
    obtain rfl := List.perm_nil.1 hp
    obtain ⟨p5, c5, rfl⟩ := N5.own.shape
    have S5 := S4.ext E5
    refine ZL.on rfl rfl rfl ?_; refine ZL.val (r_lenSlice rfl) rfl ?_; refine ZL.on rfl rfl rfl ?_; refine ZL.val (r_eql rfl rfl) rfl ?_; refine ZL.val (r_pickT rfl rfl) rfl ?_; refine ZL.val (r_move rfl) rfl ?_; refine ZL.on rfl rfl rfl ?_
    refine ZL.call (r_call rfl) rfl (awake_ok w5 (hG.ext S5.M.ext)) (fun v6 w6 ⟨E6, hv⟩ => ?_)
    subst hv
    refine ZL.val (r_pickT rfl rfl) rfl ?_; refine ZL.val (r_assign rfl) rfl ?_; refine ZL.nil ?_; refine ZP.then ?_; refine ZC.ret ?_
    exact ZP.ret1 rfl rfl ⟨ExtX.trans S5.M.ext E6 (fun _ h => h) (fun _ _ h => h), rfl⟩
end Go.Proofs.YtibobcjfjnoclaaGreatDoor.Z
end
section
/- OrphAgain's card: for every integer and every slice of integers the law answers true and leaves the slice as it was. Conditions: none beyond the row's own (the two tables of shas hold what the program's text lays). -/
set_option linter.unusedVariables false
set_option linter.unusedSimpArgs false
set_option maxRecDepth 100000
namespace Go.Proofs.YtibobcjfjnoclaaGreatDoor.orphAgain
open Go Go.RowKit Go.ChangeShapes Go.WideShapes Go.ChangeAt Go.Proofs.YtibobcjfjnoclaaGreatDoor.Z

theorem contract (H : Type) (enc : TypeId × Value → H) (W : World) (base : Nat) (args : Array Value) (ds gs : List (DataW H)) (before : List MemPlace)
    (hval : ∀ (j : Nat) t v, Tryz.f3.params[j]? = some t → args[j]? = some v → Value.okWide Tryz.prog W .any base t v)
    (hW : DataW.Whole enc Tryz.prog Tryz.f3.params.toList Rows.orphAgainSpec.vars false W args.toList ds gs before) (hL : laidMetH Tryz.prog Rows.orphAgainRow.laid W) :
    Calls Tryz.prog 3 args W fun e W' => ∃ v, e = .returned v ∧ Rows.orphAgainSpec.post enc Tryz.prog Tryz.f3 false true false false W args v W' := by
  have hW' := hW
  obtain ⟨p, q, hA0, hV, rfl, hfz, hnd⟩ := hW
  have hA : DataW.TrodAll enc Tryz.prog W 0 (fun _ => true) true Tryz.f3.params.toList args.toList ds p := hA0
  rw [Tryz.params3] at hA hval
  obtain ⟨v0, vs0, d0, ds0, p0, q0, hargs, rfl, rfl, h0, r0⟩ := trodAll_cons hA
  obtain ⟨v1, vs1, d1, ds1, p1, q1, rfl, rfl, rfl, h1, r1⟩ := trodAll_cons r0
  obtain ⟨rfl, rfl, rfl⟩ := trodAll_nil r1
  obtain rfl : args = #[v0, v1] := by cases args; simp_all
  obtain ⟨rfl, rfl⟩ := trodVars_none hV
  obtain ⟨a0, rfl, rfl, rfl, w0⟩ := open_int u3 (hval 0 3 v0 rfl rfl) h0
  obtain ⟨l1, hI1, hback1⟩ := argInts (hval 1 22 v1 rfl rfl) h1
  clear hA0
  simp only [List.append_nil, List.nil_append] at hW'
  refine (OrphAgain_ok a0 v1 l1 W (gw_of_laid hL) hI1).h.mono fun e W' ⟨v, he, hE, hv⟩ => ?_
  subst he hv
  exact ⟨_, rfl, postE (pa := p1) (pv := []) hW' (fun _ _ _ => trodAll_cons_mk (shut_bool u4 _) trodAll_mk0) (fun sp hsp => by have := trodAll_cons_mk (shut_int u3 w0) (trodAll_cons_mk (hback1 W' hE sp (fun q hq => hsp q (by simp [hq]))) trodAll_mk0); simp only [List.append_nil, List.nil_append] at this; exact this) (fun _ _ => rfl) (by simp) hE⟩

theorem laid_met (os : Os) : laidMet Tryz.prog Rows.orphAgainRow.laid ((laidWorld os).forCall (fun _ _ => 0) ⟨#[], #[.int .i64 0, .slice none 0 0], []⟩).memory :=
  laidMet_of_run' 8 (by kernel_rfl) (by kernel_rfl)
theorem reads (os : Os) {H : Type} (enc : TypeId × Value → H) : ∃ places, DataW.whole enc Tryz.prog ((laidWorld os).forCall (fun _ _ => 0) ⟨#[], #[.int .i64 0, .slice none 0 0], []⟩).memory Tryz.f3.params.toList Rows.orphAgainSpec.vars false #[Value.int .i64 0, .slice none 0 0].toList 8 = some ([.lit (.int .i64 0), .nil], [], places) :=
  ⟨[], by kernel_rfl⟩

theorem lifted (os : Os) (started : os.Started) (H : Type) (enc : TypeId × Value → H) (F : Stop.Interp) :
    ReturnsInHanded {} Tryz.checked os 3 .any ((OpenSpec.ofChange Rows.orphAgainSpec).preRow enc Tryz.prog Tryz.f3 Rows.orphAgainRow.domain false Rows.orphAgainRow.laid) (((OpenSpec.ofChange Rows.orphAgainSpec).at F).post enc Tryz.prog Tryz.f3 false true false false) := by
  obtain ⟨places, hx⟩ := reads os enc
  refine returnsInHanded_of_row (C := Tryz.checked) (s := OpenSpec.ofChange Rows.orphAgainSpec) own started (by kernel_rfl) Tryz.func3
    (witness_row_at (enc := enc) (C := Tryz.checked) false (laidWorld os) #[.int .i64 0, .slice none 0 0] rfl (by kernel_rfl) (by kernel_rfl) (by kernel_rfl)
      (OpenSpec.preRow_of_cond 8 hx (by kernel_rfl) (fun k hk => by cases hk) (by kernel_rfl) (laid_met os))) ?_
  intro W base args ds gs before hval hW _ _ _ hL _ _
  exact contract H enc W base args ds gs before hval hW hL

theorem said : Rows.OrphAgainSaid :=
  OpenClaim.holds_of_cond 3 Tryz.f3 rfl rfl rfl rfl rfl rfl rfl ⟨rfl, rfl, rfl, rfl, rfl⟩ rfl rfl rfl rfl rfl (by kernel_rfl) Tryz.func3 (by kernel_rfl)
    (of_decide_eq_true (by kernel_rfl)) (by unfold Func.isWrapper; first | (rw [if_pos (by decide +kernel)]; kernel_rfl) | (rw [if_neg (by decide +kernel)]; exact ⟨rfl, rfl⟩))
    (fun os started H enc _ F => by rw [OpenClaim.pre_eq_preRow]; exact lifted os started H enc F)

theorem plain (f : FuncId) (fn : Func) (hf : Tryz.pinned.checked.prog.funcNamed "lighterage/lighteragelaw25.OrphAgain" = some f) (hfn : Tryz.pinned.checked.prog.funcs[f]? = some fn) :
    false = Tryz.pinned.checked.prog.looks [] ∧ ∀ (j : Nat) t, fn.params[j]? = some t → Tryz.pinned.checked.prog.wantsStandIn t = false := by
  obtain rfl : f = 3 := Option.some.inj ((show Tryz.prog.funcNamed "lighterage/lighteragelaw25.OrphAgain" = some 3 by kernel_rfl).symm.trans hf) |>.symm
  obtain rfl : fn = Tryz.f3 := (Option.some.inj (Tryz.func3.symm.trans hfn)).symm
  refine ⟨by kernel_rfl, fun j t ht => ?_⟩
  rw [Tryz.params3] at ht
  have h9 : t = 3 ∨ t = 22 := by have := Array.mem_of_getElem? ht; simp at this; rcases this with h | h <;> simp [h]
  rcases h9 with rfl | rfl
  · exact (show Tryz.prog.wantsStandIn 3 = false by kernel_rfl)
  · exact (show Tryz.prog.wantsStandIn 22 = false by kernel_rfl)

theorem card : Rows.OrphAgainCardSaid :=
  Claim7.holds_tied_plain_at .later [] _ _ _ _ said (fun _ h => by cases h) (by kernel_rfl) (fun _ h => by cases h) orphAgain_row_tie rfl ⟨rfl, rfl⟩ (by kernel_rfl) rfl plain (by kernel_rfl)
#print axioms card
end Go.Proofs.YtibobcjfjnoclaaGreatDoor.orphAgain
end
