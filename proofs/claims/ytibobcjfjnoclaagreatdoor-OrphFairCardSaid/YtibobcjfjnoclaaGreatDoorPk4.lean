/- Parts of one proof, laid one behind the other: Orph0, Orph1, LayI, Orph2, Orph3, Orph4, Orph5, Orph6, Orph7, Linked, Orph8. -/
import Derived.Test.YtibobcjfjnoclaaGreatDoorPk3
import Derived.Shelf.Sort.Plain
import Derived.Test.YtibobcjfjnoclaaGreatDoorProg
section
/- The home of those whose parents are not here: its memory; has, Used. -/
set_option linter.unusedVariables false
set_option linter.unusedSimpArgs false
set_option linter.unusedSectionVars false
set_option maxRecDepth 100000
set_option maxHeartbeats 4000000
namespace Go.Proofs.YtibobcjfjnoclaaGreatDoor.Z
open Go Go.RowKit

/-- That a peer told one. -/
structure Told where
  id : B32
  at_ : Int
  seq : Int
def Told.cells (x : Told) : List Value := x.id.cells ++ [.int .i64 x.at_, .int .i64 x.seq]
theorem Told.len (x : Told) : x.cells.length = 34 := by simp [Told.cells, B32.len]
theorem Told.one (x : Told) : ∀ v ∈ x.cells, v.oneCell' = true := by
  intro v hv
  simp only [Told.cells, List.mem_append, List.mem_cons, List.not_mem_nil, or_false] at hv
  rcases hv with hv | rfl | rfl
  · exact u8_one _ _ hv
  all_goals rfl
theorem Told.idAt (x : Told) : x.cells.toArray.extract 0 (0 + 32) = x.id.cells.toArray := by
  apply Array.ext'
  simp [Told.cells, B32.len]
def tflat (l : List Told) : List Value := (l.map Told.cells).flatten
theorem tflat_len (l : List Told) : (tflat l).length = l.length * 34 := by
  induction l with
  | nil => rfl
  | cons a r ih => simp only [tflat, List.map_cons, List.flatten_cons, List.length_append, List.length_cons, Told.len] at *; omega
def ToldE (w : World) (X : Nat → Prop) (r : List Value) (a : Told) : Prop := r = a.cells
theorem ToldE.mv {w w' : World} {X X' : Nat → Prop} (m : Mv w X w' X') {r : List Value} {a : Told} (h : ToldE w X r a) : ToldE w' X' r a := h
theorem told_list {w : World} {X : Nat → Prop} {v : Value} {l : List Told} (h : SlC w X 34 v l.length (tflat l)) : ListR ToldE 34 w X v l :=
  ⟨l.map Told.cells, by simp, by simp [Told.len], h, fun i r a hr ha => by
    rw [List.getElem?_map, ha] at hr
    exact (Option.some.inj hr).symm⟩

abbrev PE := Value × List Told
abbrev LE := Value × TTx
structure HM where
  bl : Nat
  bp : Nat
  esl : Array MapEntry
  ckl : Nat
  esp : Array MapEntry
  ckp : Nat
  l : List (B32 × LE)
  p : List (Int × PE)
  seq : Int
abbrev homeC (bl bp : Nat) (seq : Int) : Array Value := #[.map (some bl), .map (some bp), .int .i64 seq]
def pch (x : Int × PE) : Chunk := .sub x.2.1 71 34 x.2.2.length (tflat x.2.2)
def HM.chs (H : HM) (bh : Nat) : List Chunk := .blk bh (.cells (homeC H.bl H.bp H.seq) 56) :: .blk H.bl (.map H.esl H.ckl) :: .blk H.bp (.map H.esp H.ckp) :: H.p.map pch
structure HM.ok (H : HM) : Prop where
  ol : MObj B32.v Prod.fst H.l H.esl H.ckl
  op : MObj (Value.int .i64) Prod.fst H.p H.esp H.ckp
  few : ∀ x ∈ H.p, x.2.2.length ≤ 1000
  lf : ∀ x ∈ H.l, x.2.2.fits
def TxF (L : List Chunk) (w : World) (l : List (B32 × LE)) : Prop := ∀ x ∈ l, TxR w (fpIn L) x.2.1 x.2.2
/-- What a home reads as. -/
structure HomeR (w : World) (bh : Nat) (H : HM) : Prop where
  hb : w.heap[bh]? = some (.cells (homeC H.bl H.bp H.seq) 56)
  hl : w.heap[H.bl]? = some (.map H.esl H.ckl)
  hp : w.heap[H.bp]? = some (.map H.esp H.ckp)
  ok : H.ok
  own : ∀ x ∈ H.p, SlC w No 34 x.2.1 x.2.2.length (tflat x.2.2)
  tx : ∀ x ∈ H.l, TxR w No x.2.1 x.2.2
theorem HomeR.ext {w w' : World} {bh : Nat} {H : HM} (h : HomeR w bh H) (E : Ext w w') : HomeR w' bh H :=
  ⟨E.at h.hb id, E.at h.hl id, E.at h.hp id, h.ok, fun x hx => (h.own x hx).mv (Mv.ext E), fun x hx => (h.tx x hx).mv (Mv.ext E)⟩
theorem HomeR.of {w0 w : World} {X : Nat → Prop} {bh : Nat} {H : HM} {L : List Chunk} (M : Mem w0 X (H.chs bh ++ L) w) (ok : H.ok) (hT : TxF (H.chs bh ++ L) w H.l) : HomeR w bh H := by
  refine ⟨M.ok (.blk bh _) (by simp [HM.chs]), M.ok (.blk H.bl _) (by simp [HM.chs]), M.ok (.blk H.bp _) (by simp [HM.chs]), ok, fun x hx => ?_, fun x hx => (hT x hx).mv Mv.free⟩
  have hc : OwnAt w 71 34 x.2.1 x.2.2.length (tflat x.2.2) := M.ok (pch x) (by simp only [HM.chs, List.mem_append, List.mem_cons]; exact .inl (.inr (.inr (.inr (List.mem_map_of_mem hx)))))
  exact hc.slc (fun _ _ h => h)
/-- What a peer told. -/
def HM.told (H : HM) (k : Int) : PE := (mget H.p k).getD (.slice none 0 0, [])
theorem mget_mem {K U : Type} [DecidableEq K] {m : List (K × U)} {k : K} {v : U} (h : mget m k = some v) : (k, v) ∈ m := by
  unfold mget at h
  cases hf : m.find? (fun p => decide (p.1 = k)) with
  | none => rw [hf] at h; cases h
  | some p =>
    rw [hf] at h
    simp at h
    have h1 := List.find?_some hf
    have h2 := List.mem_of_find?_eq_some hf
    simp at h1
    subst h; subst h1
    exact h2
theorem HomeR.told {w : World} {bh : Nat} {H : HM} (h : HomeR w bh H) (k : Int) : SlC w No 34 (H.told k).1 (H.told k).2.length (tflat (H.told k).2) ∧ (H.told k).2.length ≤ 1000 := by
  unfold HM.told
  cases hg : mget H.p k with
  | none => exact ⟨⟨rfl, .inl ⟨rfl, rfl⟩⟩, by simp⟩
  | some v => exact ⟨h.own _ (mget_mem hg), h.ok.few _ (mget_mem hg)⟩
theorem HM.told_val (H : HM) (k : Int) : ((mget H.p k).map Prod.fst).getD (.slice none 0 0) = (H.told k).1 := by
  unfold HM.told
  cases mget H.p k <;> rfl
def nilTx : LE := (.agg #[.int .u32 0, .slice none 0 0, .slice none 0 0, .int .u32 0], ⟨0, [], [], 0⟩)
def HM.tx (H : HM) (k : B32) : LE := (mget H.l k).getD nilTx
theorem HM.tx_val (H : HM) (k : B32) : ((mget H.l k).map Prod.fst).getD (.agg #[.int .u32 0, .slice none 0 0, .slice none 0 0, .int .u32 0]) = (H.tx k).1 := by
  unfold HM.tx
  cases mget H.l k <;> rfl
theorem nilTx_ok (w : World) : TxR w No nilTx.1 nilTx.2 :=
  ⟨[.int .u32 0, .slice none 0 0, .slice none 0 0, .int .u32 0], rfl, .slice none 0 0, .slice none 0 0, rfl, ⟨[], rfl, (fun r hr => by cases hr), ⟨rfl, .inl ⟨rfl, rfl⟩⟩, fun i r a hr => by simp at hr⟩, ⟨[], rfl, (fun r hr => by cases hr), ⟨rfl, .inl ⟨rfl, rfl⟩⟩, fun i r a hr => by simp at hr⟩⟩
theorem HomeR.txR {w : World} {bh : Nat} {H : HM} (h : HomeR w bh H) (k : B32) : TxR w No (H.tx k).1 (H.tx k).2 ∧ (H.tx k).2.fits := by
  unfold HM.tx
  cases hg : mget H.l k with
  | none => exact ⟨nilTx_ok w, ⟨by simp [nilTx], by simp [nilTx], by simp [nilTx], by simp [nilTx]⟩⟩
  | some v => exact ⟨h.tx _ (mget_mem hg), h.ok.lf _ (mget_mem hg)⟩

theorem idxT_ok (f : FuncId) [FN P f] (cs : List Value) (pred : Told → Bool) (v : Value) (ls : List Told) (w : World) (X : Nat → Prop) (h : ListR ToldE 34 w X v ls)
    (hf : ∀ r a w', a ∈ ls → Ext w w' → ToldE w' X r a → Ret P f ([Value.agg r.toArray] ++ cs).toArray w' (fun z w'' => Ext w' w'' ∧ z = .bool (pred a))) :
    Ret P 77 #[v, .func (.func f) #[] cs.toArray] w (fun r w' => Ext w w' ∧ ∃ z : Int, r = .int .i64 z ∧ (0 ≤ z ↔ ls.any pred = true)) := by
  obtain ⟨p, c, rfl⟩ := h.shape
  obtain ⟨-, h1, h2⟩ := h.le
  refine Ret.enter2 Tryz.func77 rfl Tryz.ntmps77 rfl ?_
  refine ZC.seq ?_; refine ZC.region ?_; refine ZL.val (r_assign rfl) rfl ?_; refine ZL.nil ?_; refine ZP.then ?_; refine ZC.seq ?_; refine ZC.seq ?_; refine ZC.region ?_; refine ZL.val (r_move rfl) rfl ?_; refine ZL.val (r_lenSlice rfl) rfl ?_; refine ZL.val (r_move rfl) rfl ?_; refine ZL.nil ?_; refine ZP.then ?_; refine ZC.block ?_
  refine ZC.loop (X := Nat) (fun k => [(8, .int .i64 k), (7, .int .i64 ls.length), (0, .slice p ls.length c), (1, .func (.func f) #[] cs.toArray)])
    (fun k w' => Ext w w' ∧ k ≤ ls.length ∧ (ls.take k).any pred = false) (fun k => ls.length - k) 0 ⟨rfl, rfl, rfl, rfl, trivial⟩ ⟨ExtX.refl _ _, by omega, by simp⟩ ?_
  rintro k w' ⟨E, hk, hno⟩
  refine ZC.seq ?_; refine ZC.region ?_; refine ZL.val (r_lss rfl rfl) rfl ?_; refine ZL.nil ?_; refine ZP.then ?_; refine ZC.seq ?_
  refine ZC.condD rfl (fun hc => ?_) (fun hc => ?_)
  · have hk' : k < ls.length := by omega
    obtain ⟨g, o, cs', e, fz, r, rfl, hh, hx, hlen, hE, hcell, hsz, hext⟩ := ListR.elem (by decide) (ListR.mv (fun _ _ h => ToldE.mv (Mv.ext E) h) h (Mv.ext E)) hk'
    refine ZC.skip ?_; refine ZP.then ?_; refine ZC.seq ?_; refine ZC.block ?_; refine ZC.seq ?_; refine ZC.region ?_; refine ZL.val (r_move rfl) rfl ?_; refine ZL.val (r_assign rfl) rfl ?_; refine ZL.nil ?_; refine ZP.then ?_; refine ZC.seq ?_; refine ZC.region ?_; refine ZL.val (r_move rfl) rfl ?_; refine ZL.val (r_move rfl) rfl ?_; refine ZL.val (r_move rfl) rfl ?_
    refine ZL.val (r_idxS k rfl rfl rfl hk') rfl ?_
    refine ZL.val (r_loadN rfl hh hsz hext) rfl ?_
    refine ZL.call (r_callv (cs := cs) rfl rfl) rfl (hf r ls[k] w' (List.getElem_mem hk') E hE) (fun v1 w1 ⟨E1, hv⟩ => ?_)
    subst hv
    have E2 := ExtX.trans E E1 (fun _ h => h) (fun _ _ h => h)
    refine ZL.nil ?_; refine ZP.then ?_
    refine ZC.cond rfl (fun ht => ?_) (fun hf => ?_)
    · refine ZC.seq ?_; refine ZC.region ?_; refine ZL.val (r_move rfl) rfl ?_; refine ZL.val (r_assign rfl) rfl ?_; refine ZL.nil ?_; refine ZP.then ?_; refine ZC.ret ?_; refine ZP.blockR ?_; refine ZP.thenR ?_; refine ZP.thenR ?_; refine ZP.blockR ?_; refine ZP.thenR ?_
      refine ZP.ret1 rfl rfl ⟨E2, _, rfl, ?_⟩
      have : ls.any pred = true := List.any_eq_true.2 ⟨ls[k], List.getElem_mem hk', ht⟩
      simp only [this, iff_true]; omega
    · refine ZC.skip ?_; refine ZP.blockN ?_; refine ZP.then ?_; refine ZC.region ?_; refine ZL.val (r_add rfl rfl (wrap_i64 (by omega) (by omega))) rfl ?_; refine ZL.val (r_move rfl) rfl ?_; refine ZL.nil ?_
      refine ZP.round (k + 1) ⟨rfl, rfl, rfl, rfl, trivial⟩ ⟨E2, by omega, ?_⟩ (by omega)
      rw [List.take_succ_eq_append_getElem hk', List.any_append, hno]
      simp [hf]
  · have hk' : k = ls.length := by omega
    subst hk'
    refine ZC.exit ?_; refine ZP.thenX ?_; refine ZP.thenX ?_; refine ZP.blockE ?_; refine ZP.then ?_; refine ZC.seq ?_; refine ZC.region ?_; refine ZL.val (r_assign rfl) rfl ?_; refine ZL.nil ?_; refine ZP.then ?_; refine ZC.ret ?_
    refine ZP.ret1 rfl rfl ⟨E, _, rfl, ?_⟩
    rw [List.take_length] at hno
    simp [hno]
theorem anyT_ok (f : FuncId) [FN P f] (cs : List Value) (pred : Told → Bool) (v : Value) (ls : List Told) (w : World) (X : Nat → Prop) (h : ListR ToldE 34 w X v ls)
    (hf : ∀ r a w', a ∈ ls → Ext w w' → ToldE w' X r a → Ret P f ([Value.agg r.toArray] ++ cs).toArray w' (fun z w'' => Ext w' w'' ∧ z = .bool (pred a))) :
    Ret P 50 #[v, .func (.func f) #[] cs.toArray] w (fun r w' => Ext w w' ∧ r = .bool (ls.any pred)) := by
  refine Ret.enter2 Tryz.func50 rfl Tryz.ntmps50 rfl ?_
  refine ZC.seq ?_; refine ZC.region ?_; refine ZL.val (r_assign rfl) rfl ?_; refine ZL.nil ?_; refine ZP.then ?_; refine ZC.seq ?_; refine ZC.region ?_; refine ZL.val (r_move rfl) rfl ?_; refine ZL.val (r_move rfl) rfl ?_
  refine ZL.call (r_call rfl) rfl (idxT_ok f cs pred v ls w X h hf) (fun v1 w1 ⟨E1, z, hv, hz⟩ => ?_)
  subst hv
  refine ZL.val (r_geq rfl rfl) rfl ?_; refine ZL.val (r_assign rfl) rfl ?_; refine ZL.nil ?_; refine ZP.then ?_; refine ZC.ret ?_
  refine ZP.ret1 rfl rfl ⟨E1, ?_⟩
  simp only [Value.bool.injEq]
  rw [Bool.eq_iff_iff]; simpa using hz
theorem has1_ok (a : Told) (b5 : Nat) (id : B32) (e : TypeId) (fz : Nat × Nat) (w : World) (h5 : w.heap[b5]? = some (.cells id.cells.toArray e fz)) : Ret P 51 #[.agg a.cells.toArray, .pointer (some ⟨b5, 0, none⟩)] w (fun r w' => Ext w w' ∧ r = .bool (decide (a.id = id))) := by
  refine Ret.enter2 Tryz.func51 rfl Tryz.ntmps51 rfl ?_
  refine ZC.seq ?_; refine ZC.region ?_
  refine ZL.box (Mem.start w No) rfl rfl rfl (fun b2 w1 M1 => ?_)
  refine ZL.val (r_assign rfl) rfl ?_; refine ZL.nil ?_; refine ZP.then ?_; refine ZC.seq ?_; refine ZC.region ?_; refine ZL.val (r_fieldAddr rfl) rfl ?_
  refine ZL.val (r_loadN rfl (M1.get (b := b2) inferInstance) (by simp [Told.len]) a.idAt) rfl ?_
  refine ZL.val (r_loadW rfl (M1.ext.at h5 (fun h => h)) (B32.size _)) rfl ?_
  refine ZL.val (r_eqlB32 rfl rfl) rfl ?_
  refine ZL.val (r_assign rfl) rfl ?_; refine ZL.nil ?_; refine ZP.then ?_; refine ZC.ret ?_
  exact ZP.ret1 rfl rfl ⟨M1.ext, rfl⟩
def HM.hasB (H : HM) (k : Int) (id : B32) : Bool := (H.told k).2.any fun x => decide (x.id = id)
theorem has_ok (bh : Nat) (H : HM) (k : Int) (id : B32) (w : World) (h : HomeR w bh H) : Ret P 26 #[.pointer (some ⟨bh, 0, none⟩), .int .i64 k, id.v] w (fun r w' => Ext w w' ∧ r = .bool (H.hasB k id)) := by
  refine Ret.enter3 Tryz.func26 rfl Tryz.ntmps26 rfl ?_
  refine ZC.seq ?_; refine ZC.region ?_
  refine ZL.box (Mem.start w No) rfl rfl rfl (fun b5 w1 M1 => ?_)
  have h1 := h.ext M1.ext
  refine ZL.val (r_assign rfl) rfl ?_; refine ZL.nil ?_; refine ZP.then ?_; refine ZC.seq ?_; refine ZC.region ?_; refine ZL.val (r_move rfl) rfl ?_; refine ZL.val (r_nilCheck rfl) rfl ?_; refine ZL.val (r_fieldAddr rfl) rfl ?_
  refine ZL.val (r_load1 rfl h1.hb rfl) rfl ?_
  refine ZL.val (r_move rfl) rfl ?_
  refine ZL.val ((r_lookup1 rfl rfl h1.hp h1.ok.op).eq (H.told_val k)) rfl ?_
  refine ZL.val (r_makeFunc rfl rfl) rfl ?_
  refine ZL.call (r_call rfl) rfl (anyT_ok 51 [.pointer (some ⟨b5, 0, none⟩)] (fun x => decide (x.id = id)) _ (H.told k).2 w1 No (told_list (h1.told k).1) (fun r a w' _ E hE => ?_)) (fun v2 w2 ⟨E2, hv⟩ => ?_)
  · rw [show r = a.cells from hE]
    exact has1_ok a b5 id _ _ w' (E.at (M1.get (b := b5) inferInstance) (fun h => h))
  subst hv
  refine ZL.val (r_assign rfl) rfl ?_; refine ZL.nil ?_; refine ZP.then ?_; refine ZC.ret ?_
  exact ZP.ret1 rfl rfl ⟨ExtX.trans M1.ext E2 (fun _ h => h) (fun _ _ h => h), rfl⟩

def HM.weigh (H : HM) (l : List Told) : Nat := (l.map fun x => (H.tx x.id).2.weight).sum
theorem weight_le (t : TTx) : t.weight ≤ 2000000 := by
  have h1 := base_len t
  have h2 := bytes_len t
  unfold TTx.weight; omega
theorem HM.weigh_le (H : HM) (l : List Told) : H.weigh l ≤ 2000000 * l.length := by
  induction l with
  | nil => simp [HM.weigh]
  | cons a r ih =>
    have := weight_le (H.tx a.id).2
    simp only [HM.weigh, List.map_cons, List.sum_cons, List.length_cons] at *
    omega
theorem HM.weigh_take (H : HM) (l : List Told) (k : Nat) (h : k < l.length) : H.weigh (l.take (k + 1)) = H.weigh (l.take k) + (H.tx l[k].id).2.weight := by
  rw [List.take_succ_eq_append_getElem h]
  unfold HM.weigh
  rw [List.map_append, List.sum_append]
  simp
theorem Used_ok (bh : Nat) (H : HM) (k : Int) (w : World) (h : HomeR w bh H) : Ret P 9 #[.pointer (some ⟨bh, 0, none⟩), .int .i64 k] w (fun r w' => Ext w w' ∧ r = .tuple #[.int .i64 ((H.told k).2.length : Nat), .int .i64 (H.weigh (H.told k).2 : Nat)]) := by
  obtain ⟨hs, hk⟩ := h.told k
  generalize hq : H.told k = q at hs hk
  obtain ⟨v, l⟩ := q
  simp only at hs hk ⊢
  obtain ⟨p, c, rfl⟩ := hs.shape
  have hL := told_list hs
  refine Ret.enter2 Tryz.func9 rfl Tryz.ntmps9 rfl ?_
  refine ZC.seq ?_; refine ZC.region ?_; refine ZL.val (r_assign rfl) rfl ?_; refine ZL.val (r_assign rfl) rfl ?_; refine ZL.nil ?_; refine ZP.then ?_; refine ZC.seq ?_; refine ZC.region ?_; refine ZL.val (r_assign rfl) rfl ?_; refine ZL.nil ?_; refine ZP.then ?_; refine ZC.seq ?_; refine ZC.seq ?_; refine ZC.region ?_; refine ZL.val (r_move rfl) rfl ?_; refine ZL.val (r_nilCheck rfl) rfl ?_; refine ZL.val (r_fieldAddr rfl) rfl ?_
  refine ZL.val (r_load1 rfl h.hb rfl) rfl ?_
  refine ZL.val (r_move rfl) rfl ?_
  refine ZL.val ((r_lookup1 rfl rfl h.hp h.ok.op).eq ((H.told_val k).trans (by rw [hq]))) rfl ?_
  refine ZL.val (r_lenSlice rfl) rfl ?_; refine ZL.val (r_move rfl) rfl ?_; refine ZL.nil ?_; refine ZP.then ?_; refine ZC.block ?_
  refine ZC.loop (X := Nat) (fun j => [(16, .int .i64 j), (15, .int .i64 (l.length : Int)), (14, .slice p l.length c), (6, .int .i64 (H.weigh (l.take j) : Nat)), (0, .pointer (some ⟨bh, 0, none⟩)), (1, .int .i64 k)])
    (fun j w' => Ext w w' ∧ j ≤ l.length) (fun j => l.length - j) 0 ⟨rfl, rfl, rfl, rfl, rfl, rfl, trivial⟩ ⟨ExtX.refl _ _, by omega⟩ ?_
  rintro j w1 ⟨E1, hj⟩
  have h1 := h.ext E1
  have hw1 := H.weigh_le (l.take j)
  rw [List.length_take] at hw1
  refine ZC.seq ?_; refine ZC.region ?_; refine ZL.val (r_lss rfl rfl) rfl ?_; refine ZL.nil ?_; refine ZP.then ?_; refine ZC.seq ?_
  refine ZC.condD rfl (fun hc => ?_) (fun hc => ?_)
  · have hj' : j < l.length := by omega
    obtain ⟨g, o, cs, e, fz, r, rfl, hh, hx, hlen, hE, hcell, hsz, hext⟩ := ListR.elem (by decide) (ListR.mv (fun _ _ h => ToldE.mv (Mv.ext E1) h) hL (Mv.ext E1)) hj'
    rw [show r = l[j].cells from hE] at hext
    have hw2 := weight_le (H.tx l[j].id).2
    refine ZC.skip ?_; refine ZP.then ?_; refine ZC.seq ?_; refine ZC.block ?_; refine ZC.seq ?_; refine ZC.region ?_
    refine ZL.val (r_idxS j rfl rfl rfl hj') rfl ?_
    refine ZL.val (r_loadN rfl hh hsz hext) rfl ?_
    refine ZL.alloc (Mem.start w1 No) rfl rfl (fun b8 w2 M2 => ?_)
    refine ZL.stW M2 rfl rfl (cs' := l[j].cells.toArray) rfl (by rfl) (by simp [Told.len]) (by simpa [List.all_eq_true] using l[j].one) (fun w3 M3 => ?_)
    refine ZL.nil ?_; refine ZP.then ?_
    refine ZC.draw (fun w' => HomeR w' bh H ∧ w'.heap[b8]? = some (.cells l[j].cells.toArray 71)) rfl rfl (fun w4 E4 _ => ?_)
    have M4 := M3.ext' E4
    have h4 := h1.ext M4.ext
    have S4 : HomeR w4 bh H ∧ w4.heap[b8]? = some (.cells l[j].cells.toArray 71) := ⟨h4, M4.get inferInstance⟩
    refine ZA.take 0 rfl (fun w' hS' => by first | exact r_move rfl | exact r_assign rfl | exact r_fieldAddr rfl | exact r_sliceArr rfl | exact r_addU rfl rfl | exact r_xorU rfl rfl | exact r_orU rfl rfl | exact r_andU rfl rfl | exact r_complU rfl | exact r_convU rfl | exact r_ldS hS' rfl (by rfl) | exact r_nilCheck rfl | exact r_extract rfl rfl | exact r_lenSlice rfl) (by kernel_rfl) (by kernel_rfl) (by kernel_rfl) rfl rfl (fun _ _ _ _ h => h) S4 ?_
    refine ZA.take 1 rfl (fun w' hS' => by first | exact r_move rfl | exact r_assign rfl | exact r_fieldAddr rfl | exact r_sliceArr rfl | exact r_addU rfl rfl | exact r_xorU rfl rfl | exact r_orU rfl rfl | exact r_andU rfl rfl | exact r_complU rfl | exact r_convU rfl | exact r_ldS hS' rfl (by rfl) | exact r_nilCheck rfl | exact r_extract rfl rfl | exact r_lenSlice rfl) (by kernel_rfl) (by kernel_rfl) (by kernel_rfl) rfl rfl (fun _ _ _ _ h => h) S4 ?_
    refine ZA.take 2 rfl (fun w' hS' => by first | exact r_move rfl | exact r_assign rfl | exact r_fieldAddr rfl | exact r_sliceArr rfl | exact r_addU rfl rfl | exact r_xorU rfl rfl | exact r_orU rfl rfl | exact r_andU rfl rfl | exact r_complU rfl | exact r_convU rfl | exact r_ldS hS' rfl (by rfl) | exact r_nilCheck rfl | exact r_extract rfl rfl | exact r_lenSlice rfl) (by kernel_rfl) (by kernel_rfl) (by kernel_rfl) rfl rfl (fun _ _ _ _ h => h) S4 ?_
    refine ZA.take 3 rfl (fun w' hS' => by first | exact r_move rfl | exact r_assign rfl | exact r_fieldAddr rfl | exact r_sliceArr rfl | exact r_addU rfl rfl | exact r_xorU rfl rfl | exact r_orU rfl rfl | exact r_andU rfl rfl | exact r_complU rfl | exact r_convU rfl | exact r_ldS hS' rfl (by rfl) | exact r_nilCheck rfl | exact r_extract rfl rfl | exact r_lenSlice rfl) (by kernel_rfl) (by kernel_rfl) (by kernel_rfl) rfl rfl (fun _ _ _ _ h => h) S4 ?_
    refine ZA.take 4 rfl (fun w' hS' => r_load1 rfl hS'.1.hb rfl) (by kernel_rfl) (by kernel_rfl) (by kernel_rfl) rfl rfl (fun _ _ _ _ h => h) S4 ?_
    refine ZA.take 5 rfl (fun w' hS' => by first | exact r_move rfl | exact r_assign rfl | exact r_fieldAddr rfl | exact r_sliceArr rfl | exact r_addU rfl rfl | exact r_xorU rfl rfl | exact r_orU rfl rfl | exact r_andU rfl rfl | exact r_complU rfl | exact r_convU rfl | exact r_ldS hS' rfl (by rfl) | exact r_nilCheck rfl | exact r_extract rfl rfl | exact r_lenSlice rfl) (by kernel_rfl) (by kernel_rfl) (by kernel_rfl) rfl rfl (fun _ _ _ _ h => h) S4 ?_
    refine ZA.take 6 rfl (fun w' hS' => r_loadN rfl hS'.2 (by simp [Told.len]) (l[j].idAt)) (by kernel_rfl) (by kernel_rfl) (by kernel_rfl) rfl rfl (fun _ _ _ _ h => h) S4 ?_
    refine ZA.take 7 rfl (fun w' hS' => (r_lookup1 (k := l[j].id) rfl rfl hS'.1.hl hS'.1.ok.ol).eq (H.tx_val l[j].id)) (by kernel_rfl) (by kernel_rfl) (by kernel_rfl) rfl rfl (fun _ _ _ _ h => h) S4 ?_
    refine ZA.one 8 (by kernel_rfl) rfl rfl ?_
    refine ZL.call (r_call rfl) rfl (Weight_ok _ _ w4 No (h4.txR l[j].id).1) (fun v5 w5 ⟨E5, hv⟩ => ?_)
    subst hv
    have S5 : HomeR w5 bh H ∧ w5.heap[b8]? = some (.cells l[j].cells.toArray 71) := ⟨h4.ext E5, E5.at S4.2 (fun h => h)⟩
    refine ZL.nil (ZP.any S5 ?_)
    refine ZA.take 9 rfl (fun w' hS' => r_add rfl rfl (wrap_i64 (by omega) (by omega))) (by kernel_rfl) (by kernel_rfl) (by kernel_rfl) rfl rfl (fun _ _ _ _ h => h) S5 ?_
    refine ZA.take 10 rfl (fun w' hS' => by first | exact r_move rfl | exact r_assign rfl | exact r_fieldAddr rfl | exact r_sliceArr rfl | exact r_addU rfl rfl | exact r_xorU rfl rfl | exact r_orU rfl rfl | exact r_andU rfl rfl | exact r_complU rfl | exact r_convU rfl | exact r_ldS hS' rfl (by rfl) | exact r_nilCheck rfl | exact r_extract rfl rfl | exact r_lenSlice rfl) (by kernel_rfl) (by kernel_rfl) (by kernel_rfl) rfl rfl (fun _ _ _ _ h => h) S5 ?_
    refine ZA.done (by kernel_rfl) ?_
    refine ZP.blockN ?_; refine ZP.then ?_; refine ZC.region ?_; refine ZL.val (r_add rfl rfl (wrap_i64 (by omega) (by omega))) rfl ?_; refine ZL.val (r_move rfl) rfl ?_; refine ZL.nil ?_
    refine ZP.round (j + 1) ⟨rfl, rfl, rfl, by rw [H.weigh_take l j hj']; rfl, rfl, rfl, trivial⟩ ⟨?_, by omega⟩ (by omega)
    exact ExtX.trans E1 (ExtX.trans M4.ext E5 (fun _ h => h) (fun _ _ h => h)) (fun _ h => h) (fun _ _ h => h)
  · have hj' : j = l.length := by omega
    subst hj'
    rw [List.take_length]
    refine ZC.exit ?_; refine ZP.thenX ?_; refine ZP.thenX ?_; refine ZP.blockE ?_; refine ZP.then ?_; refine ZC.seq ?_; refine ZC.region ?_; refine ZL.val (r_move rfl) rfl ?_; refine ZL.val (r_nilCheck rfl) rfl ?_; refine ZL.val (r_fieldAddr rfl) rfl ?_
    refine ZL.val (r_load1 rfl h1.hb rfl) rfl ?_
    refine ZL.val (r_move rfl) rfl ?_
    refine ZL.val ((r_lookup1 rfl rfl h1.hp h1.ok.op).eq ((H.told_val k).trans (by rw [hq]))) rfl ?_
    refine ZL.val (r_lenSlice rfl) rfl ?_; refine ZL.val (r_move rfl) rfl ?_; refine ZL.val (r_assign rfl) rfl ?_; refine ZL.val (r_assign rfl) rfl ?_; refine ZL.nil ?_; refine ZP.then ?_; refine ZC.ret ?_
    exact ZP.ret2 rfl rfl rfl ⟨E1, rfl⟩
end Go.Proofs.YtibobcjfjnoclaaGreatDoor.Z
end
section
/- shas.Rising, and the home's All. -/
set_option linter.unusedVariables false
set_option linter.unusedSimpArgs false
set_option linter.unusedSectionVars false
set_option maxRecDepth 100000
set_option maxHeartbeats 4000000
namespace Go.Proofs.YtibobcjfjnoclaaGreatDoor.Z
open Go Go.RowKit Go.Sort Go.Lib

theorem Rising_ok (v : Value) (l : List B32) (w : World) (X : Nat → Prop) (h : SlC w X 32 v l.length (flatP l)) (hl : l.length ≤ 100000) :
    Ret P 31 #[v] w (fun r w' => Ext w w' ∧ ∃ ys : List B32, ys.Pairwise ltP ∧ (∀ x, x ∈ ys ↔ x ∈ l) ∧ NewO w w' 27 32 r ys.length (flatP ys)) := by
  refine Ret.enter1 Tryz.func31 rfl Tryz.ntmps31 rfl ?_
  refine ZC.seq ?_; refine ZC.region ?_; refine ZL.val (r_assign rfl) rfl ?_; refine ZL.nil ?_; refine ZP.then ?_; refine ZC.seq ?_; refine ZC.region ?_; refine ZL.val (r_move rfl) rfl ?_
  refine ZL.call (r_call rfl) rfl (clone32_ok v l w X h hl) (fun v1 w1 ⟨E1, N1⟩ => ?_)
  refine ZL.val (r_assign rfl) rfl ?_; refine ZL.nil ?_; refine ZP.then ?_; refine ZC.seq ?_; refine ZC.region ?_; refine ZL.val (r_move rfl) rfl ?_
  refine ZL.call (r_call rfl) rfl (SortFunc_ok _ _ v1 l w1 N1.own rfl hl) (fun v2 w2 ⟨hr2, E2, ys, hp, hs, hO2⟩ => ?_)
  subst hr2
  have E2' : Ext w w2 := ExtX.trans E1 E2 (fun _ h => h) (fun b hb hv => by have := N1.new b hv; omega)
  refine ZL.nil ?_; refine ZP.then ?_; refine ZC.seq ?_; refine ZC.region ?_; refine ZL.val (r_move rfl) rfl ?_
  refine ZL.call (r_call rfl) rfl (Compact_ok v1 _ ys w2 hO2 hp.length_eq hl hs) (fun v3 w3 ⟨E3, zs, hz, hm, hO3, hb3⟩ => ?_)
  have E3' : Ext w w3 := ExtX.trans E2' E3 (fun _ h => h) (fun b hb hv => by have := N1.new b hv; omega)
  refine ZL.call (r_call rfl) rfl (clip32_ok v3 _ _ _ _ w3 hO3) (fun v4 w4 h4 => ?_)
  obtain ⟨rfl, hO4, hb4⟩ := h4
  refine ZL.val (r_assign rfl) rfl ?_; refine ZL.nil ?_; refine ZP.then ?_; refine ZC.ret ?_
  exact ZP.ret1 rfl rfl ⟨E3', zs, hz, fun x => (hm x).trans hp.mem_iff, hO4, fun g hg => N1.new g (hb3 g (hb4 ▸ hg))⟩
theorem ltP_nodup {l : List B32} (h : l.Pairwise ltP) : l.Nodup := h.imp fun {a b} hab => by intro e; subst e; exact ltP_irrefl _ hab

theorem All_ok (bh : Nat) (H : HM) (w : World) (h : HomeR w bh H) (hn : H.l.length ≤ 100000) : Ret P 11 #[.pointer (some ⟨bh, 0, none⟩)] w
    (fun r w' => Ext w w' ∧ ∃ ys : List B32, ys.Perm (H.l.map (·.1)) ∧ ys.Pairwise ltP ∧ NewO w w' 27 32 r ys.length (flatP ys)) := by
  refine Ret.enter1 Tryz.func11 rfl Tryz.ntmps11 rfl ?_
  refine ZC.seq ?_; refine ZC.region ?_; refine ZL.val (r_assign rfl) rfl ?_; refine ZL.nil ?_; refine ZP.then ?_; refine ZC.seq ?_; refine ZC.region ?_; refine ZL.val (r_move rfl) rfl ?_; refine ZL.val (r_nilCheck rfl) rfl ?_; refine ZL.val (r_fieldAddr rfl) rfl ?_
  refine ZL.val (r_load1 rfl h.hb rfl) rfl ?_
  skip
  refine ZL.call (r_call rfl) rfl (Keys_ok H.bl w) (fun v2 w2 ⟨Bm, M2, hr⟩ => ?_)
  subst hr
  refine ZL.call (r_call rfl) rfl (Collect_ok Bm H.bl H.l H.esl H.ckl (0, 0) w2 (M2.get inferInstance) (M2.ext.at h.hl id) h.ok.ol hn) (fun v3 w3 ⟨E3, xs, hp, hN⟩ => ?_)
  have hxl : xs.length ≤ 100000 := by rw [hp.length_eq]; simpa using hn
  have hx : (xs.map B32.cells).flatten = flatP xs := rfl
  rw [hx] at hN
  refine ZL.call (r_call rfl) rfl (Rising_ok v3 xs w3 _ hN.slc hxl) (fun v4 w4 ⟨E4, ys, hs, hm, hN4⟩ => ?_)
  refine ZL.val (r_assign rfl) rfl ?_; refine ZL.nil ?_; refine ZP.then ?_; refine ZC.ret ?_
  have E23 := ExtX.trans M2.ext E3 (fun _ h => h) (fun _ _ h => h)
  refine ZP.ret1 rfl rfl ⟨ExtX.trans E23 E4 (fun _ h => h) (fun _ _ h => h), ys, ?_, hs, hN4.own, fun g hg => Nat.le_trans E23.size (hN4.new g hg)⟩
  refine ((List.perm_ext_iff_of_nodup (ltP_nodup hs) (hp.symm.nodup h.ok.ol.nod)).2 hm).trans hp
end Go.Proofs.YtibobcjfjnoclaaGreatDoor.Z
end
section
/- a sort as the library has it: its numbers in this program. Written by the shelf's lay-plain. -/
namespace Go.Proofs
open Go.Shelf
def Tryz.sortInt_ren : Go.Shelf.Ren := ⟨fun | 189 => 29 | 125 => 57 | 257 => 56 | 128 => 87 | 129 => 88 | 294 => 78 | 295 => 79 | 296 => 80 | 297 => 81 | 298 => 82 | 299 => 83 | 216 => 84 | 300 => 85 | 301 => 86 | 328 => 99 | 329 => 100 | 330 => 101 | 331 => 102 | 332 => 103 | 215 => 104 | 343 => 117 | n => n, fun | 28 => 22 | 3 => 3 | 46 => 47 | 0 => 0 | 51 => 29 | 53 => 61 | 4 => 4 | 183 => 109 | 182 => 108 | 131 => 114 | 5 => 5 | 9 => 9 | 218 => 125 | 222 => 129 | 228 => 140 | 229 => 38 | n => n, fun | n => n⟩
theorem Tryz.sortInt : Go.Proofs.Lays.n189 Tryz.prog Tryz.sortInt_ren := {
  mixed := by kernel_rfl
  f125 := Tryz.func57.trans (congrArg some (by kernel_rfl))
  f128 := Tryz.func87.trans (congrArg some (by kernel_rfl))
  f129 := Tryz.func88.trans (congrArg some (by kernel_rfl))
  f189 := Tryz.func29.trans (congrArg some (by kernel_rfl))
  f215 := Tryz.func104.trans (congrArg some (by kernel_rfl))
  f216 := Tryz.func84.trans (congrArg some (by kernel_rfl))
  f257 := Tryz.func56.trans (congrArg some (by kernel_rfl))
  f294 := Tryz.func78.trans (congrArg some (by kernel_rfl))
  f295 := Tryz.func79.trans (congrArg some (by kernel_rfl))
  f296 := Tryz.func80.trans (congrArg some (by kernel_rfl))
  f297 := Tryz.func81.trans (congrArg some (by kernel_rfl))
  f298 := Tryz.func82.trans (congrArg some (by kernel_rfl))
  f299 := Tryz.func83.trans (congrArg some (by kernel_rfl))
  f300 := Tryz.func85.trans (congrArg some (by kernel_rfl))
  f301 := Tryz.func86.trans (congrArg some (by kernel_rfl))
  f328 := Tryz.func99.trans (congrArg some (by kernel_rfl))
  f329 := Tryz.func100.trans (congrArg some (by kernel_rfl))
  f330 := Tryz.func101.trans (congrArg some (by kernel_rfl))
  f331 := Tryz.func102.trans (congrArg some (by kernel_rfl))
  f332 := Tryz.func103.trans (congrArg some (by kernel_rfl))
  f343 := Tryz.func117.trans (congrArg some (by kernel_rfl))
  t0 := Tryz.underlying0
  a0 := Tryz.isAgg0
  z0 := Tryz.sizeOf0
  v0 := Tryz.zeroValue0
  t3 := Tryz.underlying3
  a3 := Tryz.isAgg3
  z3 := Tryz.sizeOf3
  v3 := Tryz.zeroValue3
  t4 := Tryz.underlying4
  a4 := Tryz.isAgg4
  z4 := Tryz.sizeOf4
  v4 := Tryz.zeroValue4
  t5 := Tryz.underlying5
  a5 := Tryz.isAgg5
  z5 := Tryz.sizeOf5
  v5 := Tryz.zeroValue5
  t9 := Tryz.underlying9
  a9 := Tryz.isAgg9
  z9 := Tryz.sizeOf9
  v9 := Tryz.zeroValue9
  t28 := Tryz.underlying22
  a28 := Tryz.isAgg22
  z28 := Tryz.sizeOf22
  v28 := Tryz.zeroValue22
  t46 := Tryz.underlying47
  a46 := Tryz.isAgg47
  z46 := Tryz.sizeOf47
  v46 := Tryz.zeroValue47
  t51 := Tryz.underlying29
  a51 := Tryz.isAgg29
  z51 := Tryz.sizeOf29
  v51 := Tryz.zeroValue29
  t53 := Tryz.underlying61
  a53 := Tryz.isAgg61
  z53 := Tryz.sizeOf61
  v53 := Tryz.zeroValue61
  t131 := Tryz.underlying114
  a131 := Tryz.isAgg114
  z131 := Tryz.sizeOf114
  v131 := Tryz.zeroValue114
  t182 := Tryz.underlying108
  a182 := Tryz.isAgg108
  z182 := Tryz.sizeOf108
  v182 := Tryz.zeroValue108
  t183 := Tryz.underlying109
  a183 := Tryz.isAgg109
  z183 := Tryz.sizeOf109
  v183 := Tryz.zeroValue109
  t218 := Tryz.underlying125
  a218 := Tryz.isAgg125
  z218 := Tryz.sizeOf125
  v218 := Tryz.zeroValue125
  t222 := Tryz.underlying129
  a222 := Tryz.isAgg129
  z222 := Tryz.sizeOf129
  v222 := Tryz.zeroValue129
  t228 := Tryz.underlying140
  a228 := Tryz.isAgg140
  z228 := Tryz.sizeOf140
  v228 := Tryz.zeroValue140
  t229 := Tryz.underlying38
  a229 := Tryz.isAgg38
  z229 := Tryz.sizeOf38
  v229 := Tryz.zeroValue38 }
end Go.Proofs
end
section
/- The home: a range over a map in ordinary code; New, Peers, nobody. -/
set_option linter.unusedVariables false
set_option linter.unusedSimpArgs false
set_option linter.unusedSectionVars false
set_option maxRecDepth 100000
set_option maxHeartbeats 4000000
namespace Go.Proofs.YtibobcjfjnoclaaGreatDoor.Z
open Go Go.RowKit

/-! ### General -/
theorem Mem.joinX {w0 w w' : World} {X : Nat → Prop} {L L' : List Chunk} (h : Mem w0 X L w) (h' : Mem w (fpIn L) L' w') : Mem w0 X L' w' := by
  have key : ∀ b, fpIn L b → X b ∨ w0.heap.size ≤ b := fun b ⟨c, hc, hg⟩ => h.mine c hc b hg
  refine ⟨h.ext.trans h'.ext (fun _ h => h) (fun b hb hf => ?_), h'.ok, h'.ap, fun c hc g hg => ?_⟩
  · rcases key b hf with h1 | h1
    · exact h1
    · omega
  · rcases h'.mine c hc g hg with h1 | h1
    · exact key g h1
    · exact .inr (Nat.le_trans h.ext.size h1)
theorem Mv.fpf {w w' : World} {L L' : List Chunk} (h' : Mem w (fpIn L) L' w') : Mv w (fpIn L) w' (fpIn L') :=
  ⟨fun b hb hx => h'.ext.keep b hb hx, fun b hb ⟨c, hc, hg⟩ => by
    rcases h'.mine c hc b hg with h1 | h1
    · exact h1
    · omega, h'.ext.size⟩
theorem Mem.box {w0 w : World} {X : Nat → Prop} {L : List Chunk} {b : Nat} {o : Obj} (h : Mem w0 X (.blk b o :: L) w) : Mem w0 X L w ∧ w.heap[b]? = some o ∧ ¬ fpIn L b :=
  ⟨h.drop, h.ok (.blk b o) (by simp), fun ⟨c, hc, hg⟩ => (List.pairwise_cons.1 h.ap).1 c hc b rfl hg⟩
theorem Mv.dropF {w : World} {L : List Chunk} {c : Chunk} : Mv w (fpIn (c :: L)) w (fpIn L) := Mv.mono fun b _ ⟨d, hd, hg⟩ => ⟨d, List.mem_cons_of_mem _ hd, hg⟩
theorem exists_map {α β : Type} (d : β) : ∀ (A : List α) (B : List β), A.Nodup → A.length = B.length → ∃ φ : α → β, A.map φ = B
  | [], [], _, _ => ⟨fun _ => d, rfl⟩
  | [], _ :: _, _, h => by simp at h
  | _ :: _, [], _, h => by simp at h
  | a :: A, b :: B, hn, hl => by
    classical
    obtain ⟨h1, h2⟩ := List.nodup_cons.1 hn
    obtain ⟨φ, hφ⟩ := exists_map d A B h2 (by simpa using hl)
    refine ⟨fun x => if x = a then b else φ x, ?_⟩
    simp only [List.map_cons, if_true, List.cons.injEq, true_and]
    rw [← hφ]
    refine List.map_congr_left fun x hx => ?_
    rw [if_neg]
    intro e; subst e; exact h1 hx
section
variable {K U : Type} [DecidableEq K] {ke : K → Value} {ve : U → Value} {m : List (K × U)} {es : Array MapEntry} {clk : Nat}
theorem MObj.phi (h : MObj ke ve m es clk) (d : K × U) : ∃ φ : MapEntry → K × U, es.toList.map φ = m ∧ ∀ e ∈ es.toList, e.key = ke (φ e).1 ∧ e.val = ve (φ e).2 := by
  have hnd : es.toList.Nodup := (List.pairwise_map.1 h.born).imp fun hne e => hne (by rw [e])
  obtain ⟨φ, hφ⟩ := exists_map d es.toList m hnd (by have := h.size; simpa using this)
  refine ⟨φ, hφ, fun e he => ?_⟩
  have hkv := h.kv
  rw [← hφ, List.map_map] at hkv
  have := (List.map_inj_left.1 hkv) e he
  simpa using this
theorem mget_of {m : List (K × U)} (hn : (m.map (·.1)).Nodup) {k : K} {v : U} (h : (k, v) ∈ m) : mget m k = some v := by
  induction m with
  | nil => cases h
  | cons p r ih =>
    obtain ⟨h1, h2⟩ := List.nodup_cons.1 (by simpa using hn : (p.1 :: r.map (·.1)).Nodup)
    rcases List.mem_cons.1 h with rfl | h
    · simp [mget]
    · have hne : p.1 ≠ k := fun e => h1 (by rw [e]; exact List.mem_map_of_mem (f := (·.1)) h)
      have := ih h2 h
      simpa [mget, hne] using this
theorem MObj.came (h : MObj ke ve m es clk) : Came es clk [] := ⟨by simp, by simp, h.lt, h.born⟩
end
theorem Came.snoc {es : Array MapEntry} {clk : Nat} {pe : List MapEntry} (hC : Came es clk pe) {e : MapEntry} (he : e ∈ es.toList) (hne : e.born ∉ pe.map (·.born)) : Came es clk (pe ++ [e]) :=
  ⟨fun x hx => by
    rcases List.mem_append.1 hx with h | h
    · exact hC.sub x h
    · simp at h; rw [h]; exact he, by
    rw [List.map_append, List.nodup_append]
    exact ⟨hC.nod, by simp, fun a ha c hc hac => by simp at hc; subst hc; subst hac; exact hne ha⟩, hC.lt, hC.born⟩
theorem inj_born {l : List MapEntry} (h : (l.map (·.born)).Nodup) {a b : MapEntry} (ha : a ∈ l) (hb : b ∈ l) (hab : a.born = b.born) : a = b := by
  induction l with
  | nil => cases ha
  | cons c t ih =>
    obtain ⟨h1, h2⟩ := List.nodup_cons.1 h
    rcases List.mem_cons.1 ha with ha' | ha' <;> rcases List.mem_cons.1 hb with hb' | hb'
    · rw [ha', hb']
    · exact absurd (show c.born ∈ t.map (·.born) by rw [← ha', hab]; exact List.mem_map_of_mem (f := (·.born)) hb') h1
    · exact absurd (show c.born ∈ t.map (·.born) by rw [← hb', ← hab]; exact List.mem_map_of_mem (f := (·.born)) ha') h1
    · exact ih h2 ha' hb'
theorem Came.len {es : Array MapEntry} {clk : Nat} {pe : List MapEntry} (hC : Came es clk pe) : pe.length ≤ es.size := by
  have h1 : pe.length ≤ es.toList.length := nodup_len ((List.pairwise_map.1 hC.nod).imp fun hne e => hne (by rw [e])) hC.sub
  simpa using h1
theorem Upd.grown {w w' : World} {r : Nat} {o : Obj} (hg : w.grownBy w' (some r)) (hr : w'.heap[r]? = some o) (hlt : r < w.heap.size) (hs : w'.heap.size = w.heap.size) : Upd w w' r o :=
  ⟨hg.os, hg.tape, hg.output, hg.size, hr, fun k hk => by
    rcases Nat.lt_or_ge k w.heap.size with h | h
    · exact hg.block k h (by simpa using hk)
    · rw [Array.getElem?_eq_none (by omega), Array.getElem?_eq_none h]⟩
section
variable {P : Program} {n : Nat} {ops : Array Oper} {Q : Post} {rest : List Oper} {σ : Env} {w w0 : World} {X : Nat → Prop} {L L' : List Chunk}
variable {d : Nat} {ty : TypeId} {pos : String} {after : Array Edge} {x : Operand} {es : Array MapEntry} {clk : Nat}
theorem ZL.range {t kt et : TypeId} {b : Nat} [TU P t (.map kt et)] (hM : Mem w0 X L w) (hx : ev σ x = some (.map (some b))) (hm : w.heap[b]? = some (.map es clk)) (hd : Nat.blt d n = true)
    (h : ∀ r w', Ext w w' → Mem w0 X (.blk r (.mapIter (some b) clk #[] clk) :: L) w' → ZL P n ops Q rest ((d, .pointer (some ⟨r, 0, none⟩)) :: σ) w') : ZL P n ops Q (⟨some d, .range t x, ty, pos, after, none⟩ :: rest) σ w :=
  ZL.vw (vw_range hx hm) hd (h _ _ (Ext.allocU w _) (hM.push (Upd.alloc w _) rfl))
theorem ZL.next {b r : Nat} {pe : List MapEntry} (hC : Came es clk pe) (hM : Mem w0 X (.blk r (.mapIter (some b) clk (pe.map (·.born)).toArray clk) :: L) w) (hx : ev σ x = some (.pointer (some ⟨r, 0, none⟩))) (hm : w.heap[b]? = some (.map es clk)) (hd : Nat.blt d n = true)
    (h1 : (∀ e ∈ es.toList, e.born ∈ pe.map (·.born)) → ZL P n ops Q rest ((d, .tuple #[.bool false]) :: σ) w)
    (h2 : ∀ e w', e ∈ es.toList → Came es clk (pe ++ [e]) → ExtX w (· = r) w' → Mem w0 X (.blk r (.mapIter (some b) clk ((pe ++ [e]).map (·.born)).toArray clk) :: L) w' → ZL P n ops Q rest ((d, .tuple #[.bool true, e.key, e.val]) :: σ) w') :
    ZL P n ops Q (⟨some d, .next x false, ty, pos, after, none⟩ :: rest) σ w := by
  have hr := hM.ok (.blk r _) (List.mem_cons_self ..)
  rcases vw_next (P := P) (σ := σ) hC hx hr hm with ⟨hv, hall⟩ | ⟨e, w2, he, hne, hv, hg2, hs2, hr2⟩
  · exact ZL.vw hv hd (h1 hall)
  · have hU := Upd.grown hg2 hr2 (Array.getElem?_eq_some_iff.1 hr).1 hs2
    exact ZL.vw hv hd (h2 e w2 he (hC.snoc he hne) hU.extX (hM.upd inferInstance hU))
end

/-! ### New, nobody, Peers -/
instance : TB P 56 [(0, 1), (1, 1), (2, 1)] := ⟨by kernel_rfl⟩
instance : TB P 71 [(0, 32), (32, 1), (33, 1)] := ⟨by kernel_rfl⟩
def dPE : Int × PE := (0, (.slice none 0 0, []))
theorem HM.hasB_eq {H : HM} (ok : H.ok) {x : Int × PE} (hx : x ∈ H.p) (id : B32) : H.hasB x.1 id = x.2.2.any (fun y => decide (y.id = id)) := by
  unfold HM.hasB HM.told
  rw [mget_of ok.op.nod (k := x.1) (v := x.2) hx]
  rfl
theorem TxF.mv {w w' : World} {L L' : List Chunk} {l : List (B32 × LE)} (h : TxF L w l) (m : Mv w (fpIn L) w' (fpIn L')) : TxF L' w' l := fun x hx => (h x hx).mv m
theorem New_ok (w : World) : Ret P 5 #[] w (fun r w' => ∃ bh bl bp, r = .pointer (some ⟨bh, 0, none⟩) ∧ Mem w No (HM.chs ⟨bl, bp, #[], 0, #[], 0, [], [], 0⟩ bh) w') := by
  refine Ret.enter0 Tryz.func5 rfl Tryz.ntmps5 rfl ?_
  refine ZC.seq ?_; refine ZC.region ?_; refine ZL.val (r_assign rfl) rfl ?_; refine ZL.nil ?_; refine ZP.then ?_; refine ZC.seq ?_; refine ZC.region ?_
  refine ZL.makeMap (Mem.start w No) rfl (fun bl w1 M1 => ?_)
  refine ZL.makeMap M1 rfl (fun bp w2 M2 => ?_)
  refine ZL.val (r_buildOne rfl rfl (cs := (homeC bl bp 0).toList) rfl) rfl ?_
  refine ZL.box M2 rfl rfl rfl (fun bh w3 M3 => ?_)
  refine ZL.val (r_assign rfl) rfl ?_; refine ZL.nil ?_; refine ZP.then ?_; refine ZC.ret ?_
  refine ZP.ret1 rfl rfl ⟨bh, bl, bp, rfl, ?_⟩
  exact M3.perm (.cons _ (.swap _ _ _))

theorem nobody_ok (bh : Nat) (H : HM) (id : B32) (L : List Chunk) (w : World) (M : Mem w (fpIn (H.chs bh ++ L)) (H.chs bh ++ L) w) (ok : H.ok) (hT : TxF (H.chs bh ++ L) w H.l) :
    Ret P 28 #[.pointer (some ⟨bh, 0, none⟩), id.v] w (fun r w' => ∃ esl' l', Mem w (fpIn (H.chs bh ++ L)) (HM.chs { H with esl := esl', l := l' } bh ++ L) w' ∧ HM.ok { H with esl := esl', l := l' } ∧
      TxF (HM.chs { H with esl := esl', l := l' } bh ++ L) w' l' ∧ r = .bool (!(H.p.any fun x => H.hasB x.1 id)) ∧ l' = if (H.p.any fun x => H.hasB x.1 id) then H.l else mdel H.l id) := by
  obtain ⟨φ, hφ, hkv⟩ := ok.op.phi dPE
  have hmemp : ∀ e ∈ H.esp.toList, φ e ∈ H.p := fun e he => by rw [← hφ]; exact List.mem_map_of_mem he
  generalize hK : H.chs bh ++ L = K at M hT
  have HR : ∀ {w' : World}, Mem w (fpIn K) K w' → HomeR w' bh H := fun {w'} M' => HomeR.of (w0 := w) (X := fpIn K) (L := L) (by rw [hK]; exact M') ok (by rw [hK]; exact hT.mv (Mv.fpf M'))
  refine Ret.enter2 Tryz.func28 rfl Tryz.ntmps28 rfl ?_
  refine ZC.seq ?_; refine ZC.region ?_
  refine ZL.box M rfl rfl rfl (fun b3 w1 M1 => ?_)
  have h1 := HR M1.drop
  refine ZL.val (r_assign rfl) rfl ?_; refine ZL.nil ?_; refine ZP.then ?_; refine ZC.seq ?_; refine ZC.seq ?_; refine ZC.region ?_; refine ZL.val (r_move rfl) rfl ?_; refine ZL.val (r_nilCheck rfl) rfl ?_; refine ZL.val (r_fieldAddr rfl) rfl ?_
  refine ZL.val (r_load1 rfl h1.hb rfl) rfl ?_
  refine ZL.range M1 rfl h1.hp rfl (fun ri w2 E2 M2 => ?_)
  refine ZL.nil ?_; refine ZP.then ?_; refine ZC.block ?_
  refine ZC.loop (X := List MapEntry) (fun _ => [(10, .pointer (some ⟨ri, 0, none⟩)), (0, .pointer (some ⟨bh, 0, none⟩)), (3, .pointer (some ⟨b3, 0, none⟩))])
    (fun pe w' => Came H.esp H.ckp pe ∧ Mem w (fpIn K) (.blk ri (.mapIter (some H.bp) H.ckp (pe.map (·.born)).toArray H.ckp) :: .blk b3 (.cells id.cells.toArray 27) :: K) w' ∧ ∀ e ∈ pe, H.hasB (φ e).1 id = false)
    (fun pe => H.esp.size - pe.length) [] ⟨rfl, rfl, rfl, trivial⟩ ⟨ok.op.came, M2, by simp⟩ ?_
  rintro pe w3 ⟨hC, M3, hno⟩
  have h3 := HR M3.drop.drop
  refine ZC.seq ?_; refine ZC.region ?_
  refine ZL.next hC M3 rfl h3.hp rfl (fun hall => ?_) (fun e w4 he hC4 E4 M4 => ?_)
  · refine ZL.val (r_extract rfl rfl) rfl ?_; refine ZL.nil ?_; refine ZP.then ?_; refine ZC.seq ?_; refine ZC.condF rfl ?_; refine ZC.exit ?_; refine ZP.thenX ?_; refine ZP.thenX ?_; refine ZP.blockE ?_; refine ZP.then ?_; refine ZC.seq ?_
    subst hK
    have M3' : Mem w (fpIn (H.chs bh ++ L)) (.blk b3 (.cells id.cells.toArray 27) :: .blk bh (.cells (homeC H.bl H.bp H.seq) 56) :: .blk H.bl (.map H.esl H.ckl) :: .blk H.bp (.map H.esp H.ckp) :: (H.p.map pch ++ L)) w3 := M3.drop
    refine ZC.tail 5 (by kernel_rfl) rfl rfl (fun w5 E5 _ => ?_)
    have M5 := M3'.ext' E5
    refine ZS.val (r_move rfl) rfl ?_; refine ZS.val (r_nilCheck rfl) rfl ?_; refine ZS.val (r_fieldAddr rfl) rfl ?_
    refine ZS.val (r_ld M5 rfl (by rfl)) rfl ?_
    skip
    refine ZS.val (r_ldW M5 rfl (B32.size _)) rfl ?_
    refine ZS.tail ?_
    refine ZL.mdel (t := 53) (k := id) rfl M5 rfl rfl ok.ol (fun es' w6 hO6 M6 => ?_)
    have M6' : Mem w (fpIn (H.chs bh ++ L)) (HM.chs { H with esl := es', l := mdel H.l id } bh ++ L) w6 := M6.drop
    have hnone : (H.p.any fun x => H.hasB x.1 id) = false := by
      rw [List.any_eq_false]
      intro x hx
      rw [← hφ] at hx
      obtain ⟨e, he, rfl⟩ := List.mem_map.1 hx
      obtain ⟨e', he', hb⟩ := List.mem_map.1 (hall e he)
      have : e' ∈ H.esp.toList := hC.sub e' he'
      have heq : e' = e := inj_born ok.op.born this he hb
      subst heq
      simpa using hno e' he'
    refine ZL.nil ?_; refine ZP.then ?_; refine ZC.seq ?_; refine ZC.region ?_; refine ZL.val (r_assign rfl) rfl ?_; refine ZL.nil ?_; refine ZP.then ?_; refine ZC.ret ?_
    refine ZP.ret1 rfl rfl ⟨es', mdel H.l id, M6', ⟨hO6, ok.op, ok.few, fun x hx => ok.lf x ((List.mem_filter.1 hx).1)⟩, fun x hx => (hT x ((List.mem_filter.1 hx).1)).mv (Mv.fpf M6'), by rw [hnone]; rfl, by rw [hnone]; rfl⟩
  · obtain ⟨hke, hve⟩ := hkv e he
    have h4 := HR M4.drop.drop
    refine ZL.val (r_extract rfl rfl) rfl ?_; refine ZL.nil ?_; refine ZP.then ?_; refine ZC.seq ?_; refine ZC.condT rfl ?_; refine ZC.skip ?_; refine ZP.then ?_; refine ZC.block ?_; refine ZC.seq ?_; refine ZC.region ?_
    refine ZL.val ((r_entry hC4 rfl (M4.ok (.blk ri _) (List.mem_cons_self ..)) h4.hp).eq (v' := .tuple #[.int .i64 (φ e).1, e.val]) (by rw [hke])) rfl ?_
    refine ZL.val (r_extract rfl rfl) rfl ?_; refine ZL.val (r_assign rfl) rfl ?_; refine ZL.nil ?_; refine ZP.then ?_; refine ZC.seq ?_; refine ZC.region ?_; refine ZL.val (r_move rfl) rfl ?_; refine ZL.val (r_move rfl) rfl ?_
    refine ZL.val (r_ldW M4 rfl (B32.size _)) rfl ?_
    refine ZL.call (r_call rfl) rfl (has_ok bh H (φ e).1 id w4 h4) (fun v5 w5 ⟨E5, hv⟩ => ?_)
    subst hv
    have M5 := M4.ext' E5
    refine ZL.nil ?_; refine ZP.then ?_
    refine ZC.cond rfl (fun hb => ?_) (fun hb => ?_)
    · refine ZC.seq ?_; refine ZC.region ?_; refine ZL.val (r_assign rfl) rfl ?_; refine ZL.nil ?_; refine ZP.then ?_; refine ZC.ret ?_; refine ZP.blockR ?_; refine ZP.thenR ?_; refine ZP.blockR ?_; refine ZP.thenR ?_
      have hany : (H.p.any fun x => H.hasB x.1 id) = true := List.any_eq_true.2 ⟨φ e, hmemp e he, hb⟩
      refine ZP.ret1 rfl rfl ⟨H.esl, H.l, ?_, ok, ?_, by rw [hany]; rfl, by rw [hany]; rfl⟩
      · rw [hK]; exact M5.drop.drop
      · show TxF (H.chs bh ++ L) w5 H.l
        rw [hK]; exact hT.mv (Mv.fpf M5.drop.drop)
    · refine ZC.skip ?_; refine ZP.blockN ?_
      refine ZP.round (pe ++ [e]) ⟨rfl, rfl, rfl, trivial⟩ ⟨hC4, M5, fun x hx => ?_⟩ (by have := hC4.len; simp only [List.length_append, List.length_cons, List.length_nil] at *; omega)
      rcases List.mem_append.1 hx with hx | hx
      · exact hno x hx
      · simp only [List.mem_singleton] at hx; subst hx; exact hb
end Go.Proofs.YtibobcjfjnoclaaGreatDoor.Z
end
section
/- slices.Sort at int; the home's Peers. -/
set_option linter.unusedVariables false
set_option linter.unusedSimpArgs false
set_option linter.unusedSectionVars false
set_option maxRecDepth 100000
set_option maxHeartbeats 4000000
namespace Go.Proofs.YtibobcjfjnoclaaGreatDoor.Z
open Go Go.RowKit

theorem insNilI_ok (w : World) : Ret P 78 #[.slice none 0 0, .int .i64 0, .int .i64 0] w (fun r w' => w' = w ∧ r = .tuple #[]) := by
  refine Ret.enter3 Tryz.func78 rfl Tryz.ntmps78 rfl ?_
  refine ZC.seq ?_; refine ZC.region ?_; refine ZL.val (r_move rfl) rfl ?_; refine ZL.val (r_add rfl rfl (wrap_i64 (by omega) (by omega))) rfl ?_; refine ZL.val (r_assign rfl) rfl ?_; refine ZL.nil ?_; refine ZP.then ?_; refine ZC.block ?_
  refine ZC.loop (X := Unit) (fun _ => [(6, .int .i64 1), (0, .slice none 0 0), (1, .int .i64 0), (2, .int .i64 0)]) (fun _ w' => w' = w) (fun _ => 0) () ⟨rfl, rfl, rfl, rfl, trivial⟩ rfl ?_
  rintro ⟨⟩ w1 rfl
  refine ZC.seq ?_; refine ZC.seq ?_; refine ZC.region ?_; refine ZL.val (r_move rfl) rfl ?_; refine ZL.val (r_move rfl) rfl ?_; refine ZL.val (r_lss rfl rfl) rfl ?_; refine ZL.nil ?_; refine ZP.then ?_
  refine ZC.condD rfl (fun hh => absurd hh (by omega)) (fun _ => ?_)
  refine ZC.exit ?_; refine ZP.thenX ?_; refine ZP.thenX ?_; refine ZP.blockE ?_
  exact ZP.end0 rfl ⟨rfl, rfl⟩
theorem pdqNilI_ok (n : Int) (w : World) : Ret P 56 #[.slice none 0 0, .int .i64 0, .int .i64 0, .int .i64 n] w (fun r w' => w' = w ∧ r = .tuple #[]) := by
  refine Ret.enter4 Tryz.func56 rfl Tryz.ntmps56 rfl ?_
  refine ZC.seq ?_; refine ZC.region ?_; refine ZL.val (r_assign rfl) rfl ?_; refine ZL.nil ?_; refine ZP.then ?_; refine ZC.seq ?_; refine ZC.region ?_; refine ZL.val (r_assign rfl) rfl ?_; refine ZL.nil ?_; refine ZP.then ?_; refine ZC.block ?_
  refine ZC.loop (X := Unit) (fun _ => [(9, .bool true), (8, .bool true), (0, .slice none 0 0), (1, .int .i64 0), (2, .int .i64 0), (3, .int .i64 n)]) (fun _ w' => w' = w) (fun _ => 0) () ⟨rfl, rfl, rfl, rfl, rfl, rfl, trivial⟩ rfl ?_
  rintro ⟨⟩ w1 rfl
  refine ZC.block ?_; refine ZC.seq ?_; refine ZC.region ?_; refine ZL.val (r_move rfl) rfl ?_; refine ZL.val (r_move rfl) rfl ?_; refine ZL.val (r_sub rfl rfl (wrap_i64 (by omega) (by omega))) rfl ?_; refine ZL.val (r_assign rfl) rfl ?_; refine ZL.nil ?_; refine ZP.then ?_; refine ZC.seq ?_; refine ZC.seq ?_; refine ZC.region ?_; refine ZL.val (r_move rfl) rfl ?_; refine ZL.val (r_leq rfl rfl) rfl ?_; refine ZL.nil ?_; refine ZP.then ?_
  refine ZC.condD rfl (fun _ => ?_) (fun hh => absurd (by omega) hh)
  refine ZC.seq ?_; refine ZC.region ?_; refine ZL.val (r_move rfl) rfl ?_; refine ZL.val (r_move rfl) rfl ?_; refine ZL.val (r_move rfl) rfl ?_
  refine ZL.call (r_call rfl) rfl (insNilI_ok w1) (fun v2 w2 hv => ?_)
  obtain ⟨rfl, rfl⟩ := hv
  refine ZL.nil ?_; refine ZP.then ?_; refine ZC.ret ?_; refine ZP.thenR ?_; refine ZP.blockR ?_; refine ZP.thenR ?_; refine ZP.blockR ?_
  exact ZP.ret0 rfl ⟨rfl, rfl⟩
theorem sortNilI_ok (w : World) : Ret P 29 #[.slice none 0 0] w (fun r w' => w' = w ∧ r = .tuple #[]) := by
  refine Ret.enter1 Tryz.func29 rfl Tryz.ntmps29 rfl ?_
  refine ZC.seq ?_; refine ZC.region ?_; refine ZL.val (r_move rfl) rfl ?_; refine ZL.val (r_lenSlice rfl) rfl ?_; refine ZL.val (r_assign rfl) rfl ?_; refine ZL.nil ?_; refine ZP.then ?_; refine ZC.region ?_; refine ZL.val (r_move rfl) rfl ?_; refine ZL.val (r_move rfl) rfl ?_; refine ZL.val (r_move rfl) rfl ?_; refine ZL.val (r_convInt rfl (wrap_u64 (by omega) (by omega))) rfl ?_
  refine ZL.call (r_call rfl) rfl (LenNil_ok w) (fun v2 w2 hv => ?_)
  obtain ⟨rfl, l, rfl⟩ := hv
  skip
  refine ZL.call (r_call rfl) rfl (pdqNilI_ok l w2) (fun v2 w2 hv => ?_)
  obtain ⟨rfl, rfl⟩ := hv
  refine ZL.nil ?_
  exact ZP.end0 rfl ⟨rfl, rfl⟩
section
open Go.Sort
theorem rowI_back {w : World} {e g n : Nat} {cur : Array Value} {d' : List Int} {m : Nat} {os : Array Obj} (hg : w.heap[g]? = some (.cells cur e (0, 0))) (hs : n ≤ cur.size) (hn : d'.length = n) :
    ExtX w (fun b => b = g) (grow (putRow (Value.int .i64) (Sort.ahead w m) g 0 d'.toArray) os) ∧ ∃ cur', (grow (putRow (Value.int .i64) (Sort.ahead w m) g 0 d'.toArray) os).heap[g]? = some (.cells cur' e (0, 0)) ∧ cur'.size = cur.size ∧ cur'.toList.take n = d'.map (Value.int .i64) := by
  have hlt : g < w.heap.size := (Array.getElem?_eq_some_iff.1 hg).1
  refine ⟨⟨rfl, rfl, rfl, ?_, ?_⟩, putCells (Value.int .i64) 0 d'.toArray cur, ?_, by simp [putCells], ?_⟩
  · simp [putRow, mapBlock, grow, Sort.ahead]
  · intro b hb hne
    have h1 : (w.heap.modify g (onCells (putCells (Value.int .i64) 0 d'.toArray)))[b]? = w.heap[b]? := by rw [Array.getElem?_modify, if_neg (Ne.symm hne)]
    simp only [putRow, mapBlock, grow, Sort.ahead]
    rw [Array.getElem?_append_left (by simpa using hb)]
    exact h1
  · simp only [putRow, mapBlock, grow, Sort.ahead]
    rw [Array.getElem?_append_left (by simpa using hlt), Array.getElem?_modify, if_pos rfl, hg]
    rfl
  · apply List.ext_getElem?
    intro t
    rw [List.getElem?_take]
    split
    · rename_i h
      have h3 : t < d'.length := by omega
      have h4 : t < cur.size := by omega
      simp only [putCells, Array.getElem?_toList, Array.getElem?_mapIdx, Array.getElem?_eq_getElem h4, Option.map_some]
      rw [if_pos ⟨Nat.zero_le _, by simpa using h3⟩, getElem!_pos _ _ (by simpa using h3)]
      simp [List.getElem?_eq_getElem h3]
    · rename_i h
      rw [List.getElem?_eq_none (by simp; omega)]
theorem SortI_ok (e n : Nat) (v : Value) (xs : List Int) (w : World) (hO : OwnR w e 1 v n (xs.map (Value.int .i64))) (hl : xs.length = n) (hn : n ≤ 100000) :
    Ret P 29 #[v] w (fun r w' => r = .tuple #[] ∧ ExtX w (fun b => v.ownBlock = some b) w' ∧ ∃ ys : List Int, ys.Perm xs ∧ ys.Pairwise (fun a b => a ≤ b) ∧ OwnR w' e 1 v n (ys.map (Value.int .i64))) := by
  rcases hO.2 with ⟨rfl, rfl⟩ | ⟨g, cap, cur, rfl, hg, h1, h2, h3, h4⟩
  · obtain rfl : xs = [] := List.length_eq_zero_iff.1 hl
    refine (sortNilI_ok w).mono fun r w' ⟨hw, hr⟩ => ⟨hr, hw ▸ ExtX.refl _ _, [], List.Perm.refl _, List.Pairwise.nil, hw ▸ hO⟩
  · have hlt : g < w.heap.size := (Array.getElem?_eq_some_iff.1 hg).1
    have hH : Go.Sort.Holds (Value.int .i64) w g 0 xs.toArray := by
      intro j hj
      have hj' : j < xs.length := by simpa using hj
      have h5 : (xs.map (Value.int .i64))[j]? = cur[j]? := by
        rw [← h4, List.getElem?_take, if_pos (by omega)]
        simp
      refine ⟨?_, by simp [World.frozen?, hg]⟩
      simp only [World.cell?, hg, Nat.zero_add]
      rw [← h5, getElem!_pos _ j hj]
      simp [hj']
    have hcon := Any.slices_Sort_int Tryz.sortInt g 0 cap xs w hH hlt (by omega)
    rw [hl] at hcon
    refine ⟨Calls.mono hcon ?_⟩
    rintro r w' ⟨rfl, m, os, rfl⟩
    refine ⟨_, rfl, rfl, ?_⟩
    have hp : (xs.mergeSort fun x y => decide (x ≤ y)).Perm xs := List.mergeSort_perm _ _
    obtain ⟨hE, cur', hg', hsc, ht⟩ := rowI_back (d' := xs.mergeSort fun x y => decide (x ≤ y)) (m := m) (os := os) hg (by omega : n ≤ cur.size) (by rw [hp.length_eq]; exact hl)
    refine ⟨hE.mono fun b hb => by subst hb; rfl, _, hp, ?_, by simp [hp.length_eq, hl], .inr ⟨g, cap, cur', rfl, hg', h1, h2, by omega, by rw [Nat.mul_one]; exact ht⟩⟩
    have := List.pairwise_mergeSort (le := fun (x y : Int) => decide (x ≤ y)) (by intro a b c; simp; omega) (by intro a b; simp; omega) xs
    exact this.imp fun {a b} h => by simpa using h
end
theorem clipI64_ok (v : Value) (e s n : Nat) (xs : List Value) (w : World) (h : OwnR w e s v n xs) :
    Ret P 30 #[v] w (fun r w' => w = w' ∧ OwnR w e s r n xs ∧ r.ownBlock = v.ownBlock) := by
  obtain ⟨p, c, rfl⟩ := h.shape
  obtain ⟨h1, h2⟩ := h.clip
  refine Ret.enter1 Tryz.func30 rfl Tryz.ntmps30 rfl ?_
  refine ZC.seq ?_; refine ZC.region ?_; refine ZL.val (r_assign rfl) rfl ?_; refine ZL.nil ?_; refine ZP.then ?_; refine ZC.seq ?_; refine ZC.region ?_; refine ZL.val (r_move rfl) rfl ?_; refine ZL.val (r_move rfl) rfl ?_; refine ZL.val (r_lenSlice rfl) rfl ?_; refine ZL.val (r_move rfl) rfl ?_; refine ZL.val (r_lenSlice rfl) rfl ?_
  refine ZL.val (r_slice3 rfl rfl rfl (by omega) (by omega) (by omega)) rfl ?_
  refine ZL.val (r_assign rfl) rfl ?_; refine ZL.nil ?_; refine ZP.then ?_; refine ZC.ret ?_
  refine ZP.ret1 rfl rfl ⟨rfl, h1, ?_⟩
  cases p <;> rfl
def HM.tellers (H : HM) (id : B32) : List Int := (H.p.map (·.1)).filter fun k => H.hasB k id
theorem Peers_ok (bh : Nat) (H : HM) (id : B32) (w : World) (h : HomeR w bh H) (hn : H.p.length ≤ 10000) :
    Ret P 10 #[.pointer (some ⟨bh, 0, none⟩), id.v] w (fun r w' => Ext w w' ∧ ∃ ys : List Int, ys.Perm (H.tellers id) ∧ ys.Pairwise (fun a b => a ≤ b) ∧ NewO w w' 3 1 r ys.length (ys.map (Value.int .i64))) := by
  obtain ⟨φ, hφ, hkv⟩ := h.ok.op.phi dPE
  have hes : H.esp.size ≤ 10000 := by rw [h.ok.op.size]; exact hn
  refine Ret.enter2 Tryz.func10 rfl Tryz.ntmps10 rfl ?_
  refine ZC.seq ?_; refine ZC.region ?_
  refine ZL.box (Mem.start w No) rfl rfl rfl (fun b3 w1 M1 => ?_)
  have h1 := h.ext M1.ext
  refine ZL.val (r_assign rfl) rfl ?_; refine ZL.nil ?_; refine ZP.then ?_; refine ZC.seq ?_; refine ZC.region ?_; refine ZL.val (r_assign rfl) rfl ?_; refine ZL.nil ?_; refine ZP.then ?_; refine ZC.seq ?_; refine ZC.seq ?_; refine ZC.region ?_; refine ZL.val (r_move rfl) rfl ?_; refine ZL.val (r_nilCheck rfl) rfl ?_; refine ZL.val (r_fieldAddr rfl) rfl ?_
  refine ZL.val (r_load1 rfl h1.hb rfl) rfl ?_
  refine ZL.range M1 rfl h1.hp rfl (fun ri w2 E2 M2 => ?_)
  refine ZL.nil ?_; refine ZP.then ?_; refine ZC.block ?_
  refine ZC.loop (X := List MapEntry × Value × List Int) (fun x => [(11, .pointer (some ⟨ri, 0, none⟩)), (5, x.2.1), (0, .pointer (some ⟨bh, 0, none⟩)), (3, .pointer (some ⟨b3, 0, none⟩))])
    (fun x w' => Came H.esp H.ckp x.1 ∧ Mem w No (.blk ri (.mapIter (some H.bp) H.ckp (x.1.map (·.born)).toArray H.ckp) :: [.own x.2.1 3 1 x.2.2.length (x.2.2.map (Value.int .i64)), .blk b3 (.cells id.cells.toArray 27)]) w' ∧ x.2.2 = (x.1.map fun e => (φ e).1).filter fun k => H.hasB k id)
    (fun x => H.esp.size - x.1.length) ([], .slice none 0 0, []) ⟨rfl, rfl, rfl, rfl, trivial⟩ ⟨h.ok.op.came, (M2.nilOwn _ _).swap, rfl⟩ ?_
  rintro ⟨pe, ov, ks⟩ w3 ⟨hC, M3, hks⟩
  simp only at hC M3 hks ⊢
  have h3 := h.ext M3.ext
  have hlen : ks.length ≤ pe.length := by rw [hks]; exact Nat.le_trans (List.length_filter_le _ _) (by simp)
  have hpl := hC.len
  refine ZC.seq ?_; refine ZC.region ?_
  refine ZL.next hC M3 rfl h3.hp rfl (fun hall => ?_) (fun e w4 he hC4 E4 M4 => ?_)
  · refine ZL.val (r_extract rfl rfl) rfl ?_; refine ZL.nil ?_; refine ZP.then ?_; refine ZC.seq ?_; refine ZC.condF rfl ?_; refine ZC.exit ?_; refine ZP.thenX ?_; refine ZP.thenX ?_; refine ZP.blockE ?_; refine ZP.then ?_; refine ZC.seq ?_; refine ZC.region ?_; refine ZL.val (r_move rfl) rfl ?_
    refine ZL.call (r_call rfl) rfl (SortI_ok _ _ ov ks w3 M3.drop.own rfl (by omega)) (fun v4 w4 ⟨hr4, E4, ys, hp, hs, hO4⟩ => ?_)
    subst hr4
    have M4 : Mem w No [.own ov 3 1 ks.length (ys.map (Value.int .i64)), .blk b3 (.cells id.cells.toArray 27)] w4 :=
      M3.drop.turn (A := []) (c' := .own ov 3 1 ks.length (ys.map (Value.int .i64))) E4 hO4 (fun g hg => .inl hg)
    refine ZL.nil ?_; refine ZP.then ?_; refine ZC.seq ?_; refine ZC.region ?_; refine ZL.val (r_move rfl) rfl ?_
    refine ZL.call (r_call rfl) rfl (clipI64_ok ov _ _ _ _ w4 M4.own) (fun v5 w5 h5 => ?_)
    obtain ⟨rfl, hO5, hb5⟩ := h5
    have M5 := M4.reown hO5 hb5
    refine ZL.val (r_assign rfl) rfl ?_; refine ZL.nil ?_; refine ZP.then ?_; refine ZC.ret ?_
    have hnew := M5.new (n' := ys.length) hp.length_eq.symm rfl
    refine ZP.ret1 rfl rfl ⟨hnew.1, ys, ?_, hs, hnew.2⟩
    refine hp.trans ?_
    rw [hks]
    unfold HM.tellers
    refine List.Perm.filter _ ?_
    have := (hC.perm hall).map (fun e => (φ e).1)
    rw [← hφ, List.map_map]
    exact this
  · obtain ⟨hke, hve⟩ := hkv e he
    have h4 := h.ext M4.ext
    refine ZL.val (r_extract rfl rfl) rfl ?_; refine ZL.nil ?_; refine ZP.then ?_; refine ZC.seq ?_; refine ZC.condT rfl ?_; refine ZC.skip ?_; refine ZP.then ?_; refine ZC.block ?_; refine ZC.seq ?_; refine ZC.region ?_
    refine ZL.val ((r_entry hC4 rfl (M4.ok (.blk ri _) (List.mem_cons_self ..)) h4.hp).eq (v' := .tuple #[.int .i64 (φ e).1, e.val]) (by rw [hke])) rfl ?_
    refine ZL.val (r_extract rfl rfl) rfl ?_; refine ZL.val (r_assign rfl) rfl ?_; refine ZL.nil ?_; refine ZP.then ?_; refine ZC.seq ?_; refine ZC.region ?_; refine ZL.val (r_move rfl) rfl ?_; refine ZL.val (r_move rfl) rfl ?_
    refine ZL.val (r_ldW M4 rfl (B32.size _)) rfl ?_
    refine ZL.call (r_call rfl) rfl (has_ok bh H (φ e).1 id w4 h4) (fun v5 w5 ⟨E5, hv⟩ => ?_)
    subst hv
    have M5 := M4.ext' E5
    have hl4 := hC4.len
    simp only [List.length_append, List.length_cons, List.length_nil] at hl4
    refine ZL.nil ?_; refine ZP.then ?_
    refine ZC.cond rfl (fun hb => ?_) (fun hb => ?_)
    · refine ZC.region ?_; refine ZL.val (r_move rfl) rfl ?_; refine ZL.val (r_move rfl) rfl ?_
      refine ZL.bslice M5 rfl rfl rfl (by simp [Value.cells]) (by decide) rfl (fun g1 w6 M6 => ?_)
      refine ZL.append M6 rfl rfl (M6.own.slc (X := No) (fun _ _ h => h)) (by intro x hx; simp only [List.mem_cons, List.not_mem_nil, or_false] at hx; rcases hx with rfl; rfl) (by simp only [maxLen]; omega) (by omega) rfl (fun ov' w7 M7 => ?_)
      refine ZL.val (r_assign rfl) rfl ?_; refine ZL.nil ?_; refine ZP.blockN ?_
      refine ZP.round (pe ++ [e], ov', ks ++ [(φ e).1]) ⟨rfl, rfl, rfl, rfl, trivial⟩ ⟨hC4, ?_, ?_⟩ (by simp only [List.length_append, List.length_cons, List.length_nil]; omega)
      · simp only [List.length_append, List.length_cons, List.length_nil, List.map_append, List.map_cons, List.map_nil]
        simpa using M7.drop
      · simp only [List.map_append, List.map_cons, List.map_nil, List.filter_append, ← hks]
        simp [hb]
    · refine ZC.skip ?_; refine ZP.blockN ?_
      refine ZP.round (pe ++ [e], ov, ks) ⟨rfl, rfl, rfl, rfl, trivial⟩ ⟨hC4, M5, ?_⟩ (by simp only [List.length_append, List.length_cons, List.length_nil]; omega)
      simp only [List.map_append, List.map_cons, List.map_nil, List.filter_append, ← hks]
      simp [hb]
end Go.Proofs.YtibobcjfjnoclaaGreatDoor.Z
end
section
/- The home: memory taken apart by a peer's key and put together again; Add. -/
set_option linter.unusedVariables false
set_option linter.unusedSimpArgs false
set_option linter.unusedSectionVars false
set_option maxRecDepth 100000
set_option maxHeartbeats 4000000
namespace Go.Proofs.YtibobcjfjnoclaaGreatDoor.Z
open Go Go.RowKit

/-! ### Lists with keys -/
section
variable {K U : Type} [DecidableEq K] {m : List (K × U)} {k : K} {u v : U}
theorem mget_none (h : mget m k = none) : ∀ p ∈ m, p.1 ≠ k := by
  intro p hp
  unfold mget at h
  simp only [Option.map_eq_none_iff, List.find?_eq_none] at h
  simpa using h p hp
theorem mdel_none (h : mget m k = none) : mdel m k = m := List.filter_eq_self.2 fun p hp => by simpa using mget_none h p hp
theorem perm_get (hn : (m.map (·.1)).Nodup) (h : mget m k = some u) : m.Perm ((k, u) :: mdel m k) := by
  induction m with
  | nil => simp [mget] at h
  | cons p r ih =>
    obtain ⟨h1, h2⟩ := List.nodup_cons.1 (by simpa using hn : (p.1 :: r.map (·.1)).Nodup)
    by_cases hp : p.1 = k
    · have hr : mdel r k = r := List.filter_eq_self.2 fun q hq => by
        simp only [ne_eq, decide_not, Bool.not_eq_eq_eq_not, Bool.not_true, decide_eq_false_iff_not]
        intro e; exact h1 (by rw [hp, ← e]; exact List.mem_map_of_mem (f := (·.1)) hq)
      have : p = (k, u) := by
        simp [mget, hp] at h; rw [← h, ← hp]
      subst this
      simp only [mdel, List.filter_cons, ne_eq, not_true_eq_false, decide_false, Bool.false_eq_true, if_false] at hr ⊢
      rw [hr]
    · have h' : mget r k = some u := by simpa [mget, hp] using h
      have := ih h2 h'
      simp only [mdel, ne_eq, List.filter_cons, hp, not_false_eq_true, decide_true, if_true] at this ⊢
      exact (List.Perm.cons p this).trans (List.Perm.swap _ _ _)
theorem mdel_nodup (hn : (m.map (·.1)).Nodup) : ((mdel m k).map (·.1)).Nodup := hn.sublist (List.Sublist.map _ List.filter_sublist)
theorem mdel_put (hn : (m.map (·.1)).Nodup) : mdel (mput m k v) k = mdel m k := by
  unfold mput
  split
  · simp only [mdel]
    rw [List.filter_map]
    have : (m.filter ((fun p => decide (p.1 ≠ k)) ∘ fun p => if p.1 = k then (p.1, v) else p)) = m.filter (fun p => decide (p.1 ≠ k)) := List.filter_congr fun p _ => by
      simp only [Function.comp_apply]; split <;> simp_all
    rw [this]
    conv => rhs; rw [← List.map_id (List.filter _ m)]
    refine List.map_congr_left fun p hp => ?_
    have := (List.mem_filter.1 hp).2
    simp only [ne_eq, decide_not, Bool.not_eq_eq_eq_not, Bool.not_true, decide_eq_false_iff_not] at this
    simp [this]
  · simp [mdel, List.filter_append]
theorem mget_put : mget (mput m k v) k = some v := by
  unfold mput
  split
  · rename_i h
    induction m with
    | nil => simp [mget] at h
    | cons p r ih =>
      by_cases hp : p.1 = k
      · simp [mget, hp]
      · have h' : (mget r k).isSome := by simpa [mget, hp] using h
        have := ih h'
        simpa [mget, hp] using this
  · rename_i h
    have h0 : mget m k = none := by simpa using h
    have hf : m.find? (fun p => decide (p.1 = k)) = none := by rw [List.find?_eq_none]; intro p hp; simpa using mget_none h0 p hp
    simp [mget, List.find?_append, hf]
theorem mget_put_ne {k' : K} (hne : k' ≠ k) : mget (mput m k v) k' = mget m k' := by
  unfold mput
  split
  · rename_i h
    clear h
    induction m with
    | nil => simp
    | cons p r ih =>
      by_cases hp : p.1 = k
      · have : p.1 ≠ k' := fun e => hne (e.symm.trans hp)
        simpa [mget, hp, this, hne.symm] using ih
      · by_cases hp' : p.1 = k'
        · simp [mget, hp, hp']
          rw [if_neg (by rw [← hp']; exact hp)]; simp [hp']
          exact ⟨p.1, rfl⟩
        · simpa [mget, hp, hp'] using ih
  · simp [mget, List.find?_append, hne.symm]
theorem mput_nodup (hn : (m.map (·.1)).Nodup) : ((mput m k v).map (·.1)).Nodup := by
  unfold mput
  split
  · rw [List.map_map]
    have : ((fun p : K × U => p.1) ∘ fun p => if p.1 = k then (p.1, v) else p) = (·.1) := by
      funext p; simp only [Function.comp_apply]; split <;> rfl
    rw [this]; exact hn
  · rename_i h
    have h0 : mget m k = none := by simpa using h
    rw [List.map_append, List.nodup_append]
    refine ⟨hn, by simp, fun a ha b hb => ?_⟩
    simp at hb; subst hb
    obtain ⟨p, hp, rfl⟩ := List.mem_map.1 ha
    exact mget_none h0 p hp
theorem perm_put (hn : (m.map (·.1)).Nodup) : (mput m k v).Perm ((k, v) :: mdel m k) := by
  have := perm_get (mput_nodup (k := k) (v := v) hn) (mget_put (m := m) (k := k) (v := v))
  rwa [mdel_put hn] at this
theorem mput_put {a b : U} : mput (mput m k a) k b = mput m k b := by
  have e : ∀ q : List (K × U), (mget q k).isSome = true → mput q k b = q.map (fun p => if p.1 = k then (p.1, b) else p) := fun q h => by unfold mput; rw [if_pos h]
  rw [e _ (by rw [mget_put]; rfl)]
  unfold mput
  split
  · rw [List.map_map]
    refine List.map_congr_left fun p _ => ?_
    simp only [Function.comp_apply]; by_cases h : p.1 = k <;> simp [h]
  · rename_i h
    have h0 : mget m k = none := by simpa using h
    rw [List.map_append]
    simp only [List.map_cons, List.map_nil, if_true]
    congr 1
    conv => rhs; rw [← List.map_id m]
    refine List.map_congr_left fun p hp => ?_
    rw [if_neg (mget_none h0 p hp)]; rfl
theorem mget_del {k' : K} : mget (mdel m k) k' = if k' = k then none else mget m k' := by
  induction m with
  | nil => simp [mdel, mget]
  | cons p r ih =>
    by_cases hp : p.1 = k
    · have e : mdel (p :: r) k = mdel r k := by simp [mdel, hp]
      rw [e, ih]
      split
      · rfl
      · rename_i h
        have : p.1 ≠ k' := fun e => h (e.symm.trans hp)
        simp [mget, this]
    · have e : mdel (p :: r) k = p :: mdel r k := by simp [mdel, hp]
      rw [e]
      by_cases hp' : p.1 = k'
      · have : k' ≠ k := fun e => hp (hp'.trans e)
        simp [mget, hp', this]
      · have : mget (p :: mdel r k) k' = mget (mdel r k) k' := by simp [mget, hp']
        rw [this, ih]
        simp [mget, hp']
theorem mput_len : (mput m k v).length ≤ m.length + 1 := by
  unfold mput; split <;> simp
end

/-! ### Chunks -/
section
variable {w0 w w' : World} {X : Nat → Prop} {L K pre : List Chunk}
/-- What was made anew, beside what was there. -/
theorem Mem.beside (h : Mem w0 X K w) (h' : Mem w No L w') : Mem w0 X (L ++ K) w' := by
  have hnew : ∀ c ∈ L, ∀ g, c.fp = some g → w.heap.size ≤ g := fun c hc g hg => (h'.mine c hc g hg).resolve_left id
  refine ⟨h.ext.trans h'.ext (fun _ h => h) (fun _ _ h => h.elim), fun c hc => ?_, List.pairwise_append.2 ⟨h'.ap, h.ap, fun a ha b hb g hg hg' => ?_⟩, fun c hc g hg => ?_⟩
  · rcases List.mem_append.1 hc with hc | hc
    · exact h'.ok c hc
    · exact Chunk.stays (h.ok c hc) fun g hg => h'.ext.keep g (Chunk.lt (h.ok c hc) g hg) id
  · have h1 := hnew a ha g hg
    have h2 := Chunk.lt (h.ok b hb) g hg'
    omega
  · rcases List.mem_append.1 hc with hc | hc
    · exact .inr (Nat.le_trans h.ext.size (hnew c hc g hg))
    · exact h.mine c hc g hg
theorem Mem.nilSub (h : Mem w0 X L w) (e s : Nat) : Mem w0 X (.sub (.slice none 0 0) e s 0 [] :: L) w :=
  h.add (OwnAt.nil w e s) (by intro g hg; simp [Chunk.fp, Value.ownBlock] at hg)
theorem Mem.ownSub {v : Value} {e s n : Nat} {xs : List Value} (h : Mem w0 X (.own v e s n xs :: L) w) : Mem w0 X (.sub v e s n xs :: L) w :=
  h.turn (A := []) (c' := .sub v e s n xs) (ExtX.refl _ _) h.own.toAt (fun g hg => .inl hg)
theorem Mem.sub_ok {v : Value} {e s n : Nat} {xs : List Value} (h : Mem w0 X (.sub v e s n xs :: L) w) : OwnAt w e s v n xs := h.ok (.sub v e s n xs) (by simp)
/-- The chunk of one peer is taken out .. -/
theorem Mem.takeP {p : List (Int × PE)} {k : Int} (hn : (p.map (·.1)).Nodup) (M : Mem w0 X (pre ++ (p.map pch ++ L)) w) :
    Mem w0 X (pch (k, (mget p k).getD (.slice none 0 0, [])) :: (pre ++ ((mdel p k).map pch ++ L))) w := by
  cases h : mget p k with
  | none =>
    rw [mdel_none h]
    exact M.nilSub _ _
  | some u =>
    refine M.perm ?_
    refine (List.Perm.append_left pre (((perm_get hn h).map pch).append_right L)).trans ?_
    simp
/-- .. and put in again. -/
theorem Mem.giveP {p : List (Int × PE)} {k : Int} {c : PE} (hn : (p.map (·.1)).Nodup) (M : Mem w0 X (pch (k, c) :: (pre ++ ((mdel p k).map pch ++ L))) w) :
    Mem w0 X (pre ++ ((mput p k c).map pch ++ L)) w := by
  refine M.perm ?_
  refine List.Perm.trans ?_ (List.Perm.append_left pre (((perm_put (k := k) (v := c) hn).map pch).append_right L)).symm
  simpa using List.perm_middle.symm
theorem HomeR.at {bh : Nat} {H : HM} (M : Mem w0 X K w) (hs : ∀ c ∈ H.chs bh, c ∈ K) (ok : H.ok) (hT : TxF K w H.l) : HomeR w bh H := by
  refine ⟨M.ok (.blk bh _) (hs _ (by simp [HM.chs])), M.ok (.blk H.bl _) (hs _ (by simp [HM.chs])), M.ok (.blk H.bp _) (hs _ (by simp [HM.chs])), ok, fun x hx => ?_, fun x hx => (hT x hx).mv Mv.free⟩
  have hc : OwnAt w 71 34 x.2.1 x.2.2.length (tflat x.2.2) := M.ok (pch x) (hs _ (by simp only [HM.chs, List.mem_cons]; exact .inr (.inr (.inr (List.mem_map_of_mem hx)))))
  exact hc.slc (fun _ _ h => h)
end

/-- A home among the chunks. -/
structure HS (w0 : World) (X : Nat → Prop) (bh : Nat) (H : HM) (L : List Chunk) (w : World) : Prop where
  M : Mem w0 X (H.chs bh ++ L) w
  ok : H.ok
  tx : TxF (H.chs bh ++ L) w H.l
section
variable {w0 w w' : World} {X : Nat → Prop} {bh : Nat} {H H' : HM} {L L' : List Chunk}
theorem HS.home (h : HS w0 X bh H L w) : HomeR w bh H := HomeR.of h.M h.ok h.tx
theorem HS.rebase (h : HS w0 X bh H L w) : HS w (fpIn (H.chs bh ++ L)) bh H L w := ⟨h.M.rebase, h.ok, h.tx⟩
theorem HS.join (h : HS w0 X bh H L w) (h' : HS w (fpIn (H.chs bh ++ L)) bh H' L' w') : HS w0 X bh H' L' w' := ⟨h.M.joinX h'.M, h'.ok, h'.tx⟩
theorem HS.ext (h : HS w0 X bh H L w) (E : Ext w w') : HS w0 X bh H L w' := ⟨h.M.ext' E, h.ok, fun x hx => (h.tx x hx).mv (Mv.ext E)⟩
/-- The chunks beside the home in another order, or some left out. -/
theorem HS.rest (h : HS w0 X bh H L w) (M : Mem w0 X (H.chs bh ++ L') w) (hs : ∀ c ∈ L', c ∈ L) : HS w0 X bh H L' w :=
  ⟨M, h.ok, fun x hx => (h.tx x hx).mv (Mv.mono fun b _ ⟨c, hc, hg⟩ => ⟨c, by
    rcases List.mem_append.1 hc with hc | hc
    · exact List.mem_append_left _ hc
    · exact List.mem_append_right _ (hs c hc), hg⟩)⟩
/-- What was made anew stands beside the home. -/
theorem HS.beside {N : List Chunk} (h : HS w0 X bh H L w) (h' : Mem w No N w') : HS w0 X bh H (N ++ L) w' := by
  have M1 := h.M.beside h'
  have M2 : Mem w0 X (H.chs bh ++ (N ++ L)) w' := M1.perm (by rw [← List.append_assoc, ← List.append_assoc]; exact List.perm_append_comm.append_right L)
  refine ⟨M2, h.ok, fun x hx => (h.tx x hx).mv ⟨fun b hb _ => h'.ext.keep b hb id, fun b hb ⟨c, hc, hg⟩ => ?_, h'.ext.size⟩⟩
  rcases List.mem_append.1 hc with hc | hc
  · exact ⟨c, List.mem_append_left _ hc, hg⟩
  rcases List.mem_append.1 hc with hc | hc
  · have := (h'.mine c hc b hg).resolve_left id
    omega
  · exact ⟨c, List.mem_append_right _ hc, hg⟩
theorem HS.drop {N : List Chunk} (h : HS w0 X bh H (N ++ L) w) : HS w0 X bh H L w := by
  refine h.rest ?_ (fun c hc => List.mem_append_right _ hc)
  have M1 : Mem w0 X (N ++ (H.chs bh ++ L)) w := h.M.perm (by rw [← List.append_assoc, ← List.append_assoc]; exact List.perm_append_comm.append_right L)
  clear h
  induction N with
  | nil => exact M1
  | cons a r ih => exact ih M1.drop
end

theorem Told.idOf {cs : Array Value} {q : Nat} {a : Told} (h : ∀ j u, a.cells[j]? = some u → cs[q + j]? = some u) : q + 32 ≤ cs.size ∧ cs.extract q (q + 32) = a.id.cells.toArray := by
  have hc : ∀ j, j < 32 → ∃ u, a.id.cells[j]? = some u ∧ cs[q + j]? = some u := fun j hj => by
    have hl : a.id.cells.length = 32 := a.id.len
    refine ⟨a.id.cells[j], List.getElem?_eq_getElem (by omega), h j _ ?_⟩
    simp only [Told.cells]
    rw [List.getElem?_append_left (by omega)]
    exact List.getElem?_eq_getElem (by omega)
  have hsz : q + 32 ≤ cs.size := by
    obtain ⟨u, -, h2⟩ := hc 31 (by omega)
    have := (Array.getElem?_eq_some_iff.1 h2).1
    omega
  refine ⟨hsz, ?_⟩
  apply Array.ext'
  apply List.ext_getElem?
  intro j
  rw [Array.getElem?_toList, Array.getElem?_extract]
  by_cases hj : j < 32
  · obtain ⟨u, h1, h2⟩ := hc j hj
    rw [if_pos (by omega), h2]
    exact h1.symm
  · rw [if_neg (by omega)]
    rw [List.getElem?_eq_none (by simp [B32.len]; omega)]
section
variable {P : Program} {σ : Env} {w : World}
theorem r_buildTold {t : TypeId} {x y u : Operand} {a : Told} {z : Value} {zs : Array Value} [TB P t [(0, 32), (32, 1), (33, 1)]] [TZ P t z] (hz : vcells z = some zs) (hzs : zs.size = 34) (hx : ev σ x = some a.id.v) (hy : ev σ y = some (.int .i64 a.at_)) (hu : ev σ u = some (.int .i64 a.seq)) :
    V P σ (.build t #[(0, x), (1, y), (2, u)]) (.agg a.cells.toArray) w := by
  refine ⟨fun ρ ha o ho => ?_⟩
  have hb : P.built t [(0, a.id.v), (1, .int .i64 a.at_), (2, .int .i64 a.seq)] = some a.cells.toArray := by
    have hi := TB.h (P := P) (t := t)
    have hzz := TZ.h (P := P) (t := t)
    unfold Program.built
    cases hit : P.info? t with
    | none => simp [hit] at hzz
    | some it =>
      cases hu : P.underlying t with
      | none => simp [hu] at hi
      | some d =>
        rw [hu] at hi
        cases d <;> simp only [reduceCtorEq] at hi
        simp only [hit, Option.map_some, Option.some.injEq] at hzz
        simp only [hzz, hi]
        rw [vcells_eq hz]
        have hc : (a.id.v).cells = a.id.cells.toArray := rfl
        have hl := a.id.len
        rw [fill_cons (off := 0) (size := 32) rfl (by rw [hc]; exact B32.size a.id) (by omega), fill_cons (off := 32) (size := 1) rfl rfl (by simp [hc, hl, hzs]), fill_cons (off := 33) (size := 1) rfl rfl (by rw [hc]; simp [hl, hzs, Value.cells])]
        simp only [Instr.fill, hc]
        congr 2
        obtain ⟨z0, hz0⟩ : ∃ l, zs.toList = l := ⟨_, rfl⟩
        have hzl : z0.length = 34 := by rw [← hz0]; simpa using hzs
        have hd : ∃ c d, z0.drop 32 = [c, d] := by
          have h9 : (z0.drop 32).length = 2 := by rw [List.length_drop, hzl]
          match hq : z0.drop 32, h9 with
          | [c, d], _ => exact ⟨c, d, rfl⟩
        obtain ⟨c, d, hd⟩ := hd
        rw [hz0]
        have t33 := List.take_of_length_le (show a.id.cells.length ≤ 33 by omega)
        have d33 := List.drop_eq_nil_of_le (show a.id.cells.length ≤ 33 by omega)
        have d34 := List.drop_eq_nil_of_le (show a.id.cells.length ≤ 34 by omega)
        simp [Told.cells, Value.cells, hl, hd, List.take_append, List.drop_append, t33, d33, d34]
  have hr : (Instr.build t #[(0, ρ x), (1, ρ y), (2, ρ u)]).run P w = .ok (.agg a.cells.toArray) w := run_build w t _ _ (by rw [ha _ _ hx, ha _ _ hy, ha _ _ hu]; exact hb)
  simp [execOp, ho, hr]
end
end Go.Proofs.YtibobcjfjnoclaaGreatDoor.Z
end
section
/- The home's Add. -/
set_option linter.unusedVariables false
set_option linter.unusedSimpArgs false
set_option linter.unusedSectionVars false
set_option maxRecDepth 100000
set_option maxHeartbeats 4000000
namespace Go.Proofs.YtibobcjfjnoclaaGreatDoor.Z
open Go Go.RowKit

section
variable {w0 w w' : World} {X : Nat → Prop} {bh : Nat} {H H' : HM} {L L' N : List Chunk}
theorem TxF.sub {K K' : List Chunk} {l : List (B32 × LE)} (h : TxF K w l) (hs : ∀ c ∈ K', c ∈ K) : TxF K' w l := fun x hx => (h x hx).mv (Mv.mono fun b _ ⟨c, hc, hg⟩ => ⟨c, hs c hc, hg⟩)
theorem HS.front (h : HS w0 X bh H (N ++ L) w) : Mem w0 X (N ++ (H.chs bh ++ L)) w ∧ TxF (N ++ (H.chs bh ++ L)) w H.l :=
  ⟨h.M.perm (by rw [← List.append_assoc, ← List.append_assoc]; exact List.perm_append_comm.append_right L), h.tx.sub fun c hc => by simp only [List.mem_append] at hc ⊢; rcases hc with h | h | h <;> simp [h]⟩
theorem HS.back (M : Mem w0 X (N ++ (H.chs bh ++ L)) w) (ok : H.ok) (tx : TxF (N ++ (H.chs bh ++ L)) w H.l) : HS w0 X bh H (N ++ L) w :=
  ⟨M.perm (by rw [← List.append_assoc, ← List.append_assoc]; exact List.perm_append_comm.append_right L), ok, tx.sub fun c hc => by simp only [List.mem_append] at hc ⊢; rcases hc with h | h | h <;> simp [h]⟩
theorem HS.nilOwn (h : HS w0 X bh H L w) (e s : Nat) : HS w0 X bh H (.own (.slice none 0 0) e s 0 [] :: L) w := by
  refine HS.back (N := [.own (.slice none 0 0) e s 0 []]) (h.M.nilOwn e s) h.ok fun x hx => (h.tx x hx).mv (Mv.mono fun b _ ⟨c, hc, hg⟩ => ?_)
  rcases List.mem_append.1 hc with hc | hc
  · simp only [List.mem_singleton] at hc
    subst hc
    simp [Chunk.fp, Value.ownBlock] at hg
  · exact ⟨c, hc, hg⟩
end
theorem tflat_append (a b : List Told) : tflat (a ++ b) = tflat a ++ tflat b := by simp [tflat]
theorem tflat_drop1 (l : List Told) : (tflat l).drop (1 * 34) = tflat (l.drop 1) := by
  cases l with
  | nil => rfl
  | cons a r => simp [tflat, ← a.len]
theorem HM.told_put {H : HM} {p : List (Int × PE)} {k : Int} {c : PE} (h : H.p = mput p k c) : H.told k = c := by
  unfold HM.told; rw [h, mget_put]; rfl
theorem HM.told_put_ne {H H' : HM} {k q : Int} {c : PE} (h : H'.p = mput H.p k c) (hne : q ≠ k) : H'.told q = H.told q := by
  unfold HM.told; rw [h, mget_put_ne hne]

/-- What making room leaves. -/
structure Evict (H1 : HM) (k : Int) (H' : HM) (gone : List B32) (n : Nat) : Prop where
  p : ∃ v, H'.p = mput H1.p k (v, (H1.told k).2.drop n)
  nle : n ≤ (H1.told k).2.length
  glen : gone.length ≤ n
  seq : H'.seq = H1.seq
  out : ∀ x ∈ gone, ∀ q ∈ H'.p, (q.2.2.any fun y => decide (y.id = x)) = false
  l : ∀ x, x ∉ gone → mget H'.l x = mget H1.l x
  sub : H'.l.Sublist H1.l
  fit : (H1.told k).2.length ≤ 5 → H1.weigh (H1.told k).2 ≤ 20000 → n = 0
  zero : n = 0 → gone = [] ∧ H'.l = H1.l
inductive AddR (H : HM) (k : Int) (t : TTx) (now : Int) : HM → List B32 → Bool → Prop where
  | heavy (h : 20000 < t.weight) : AddR H k t now H [] false
  | known (h : t.weight ≤ 20000) (hb : H.hasB k t.wid = true) : AddR H k t now H [] true
  | added (h : t.weight ≤ 20000) (hb : H.hasB k t.wid = false) (H1 H' : HM) (gone : List B32) (n : Nat) (v pv : Value) (h1 : H1.l = mput H.l t.wid (v, t)) (h2 : H1.p = mput H.p k (pv, (H.told k).2 ++ [⟨t.wid, now, H.seq⟩])) (h3 : H1.seq = H.seq + 1)
    (h4 : Evict H1 k H' gone n) (h5 : ((H1.told k).2.drop n).length ≤ 5) : AddR H k t now H' gone true

theorem Add_ok (bh : Nat) (H : HM) (v : Value) (t : TTx) (k now : Int) (L : List Chunk) (w : World) (hG : GW w) (S : HS w (fpIn (H.chs bh ++ L)) bh H L w) (hT : TxR w (fpIn (H.chs bh ++ L)) v t) (hf : t.fits)
    (hs0 : 0 ≤ H.seq) (hs1 : H.seq ≤ 1000000) (hfew : (H.told k).2.length ≤ 900) :
    Ret P 8 #[.pointer (some ⟨bh, 0, none⟩), v, .int .i64 k, .int .i64 now] w (fun r w' => ∃ H' gv gone ok, r = .tuple #[gv, .bool ok] ∧
      HS w (fpIn (H.chs bh ++ L)) bh H' (.own gv 27 32 gone.length (flatP gone) :: L) w' ∧ AddR H k t now H' gone ok) := by
  obtain ⟨iv, ov, rfl, -, -⟩ := hT.v
  have hwt := weight_le t
  generalize hK : fpIn (H.chs bh ++ L) = K at S hT ⊢
  refine Ret.enter4 Tryz.func8 rfl Tryz.ntmps8 rfl ?_
  refine ZC.seq ?_; refine ZC.region ?_
  refine ZL.box (Mem.start w No) rfl rfl rfl (fun b5 w1 M1 => ?_)
  refine ZL.val (r_assign rfl) rfl ?_; refine ZL.val (r_assign rfl) rfl ?_; refine ZL.nil ?_; refine ZP.then ?_; refine ZC.seq ?_; refine ZC.seq ?_; refine ZC.region ?_
  refine ZL.val (r_ldW M1 rfl rfl) rfl ?_
  refine ZL.call (r_call rfl) rfl (Weight_ok _ t w1 _ (hT.mv (Mv.ext M1.ext))) (fun v2 w2 ⟨E2, hv⟩ => ?_)
  subst hv
  have M2 := M1.ext' E2
  refine ZL.val (r_gtr rfl rfl) rfl ?_; refine ZL.nil ?_; refine ZP.then ?_
  refine ZC.condD rfl (fun hw => ?_) (fun hw => ?_)
  · refine ZC.seq ?_; refine ZC.region ?_; refine ZL.val (r_assign rfl) rfl ?_; refine ZL.val (r_assign rfl) rfl ?_; refine ZL.nil ?_; refine ZP.then ?_; refine ZC.ret ?_; refine ZP.thenR ?_
    exact ZP.ret2 rfl rfl rfl ⟨H, _, [], false, rfl, (S.ext M2.ext).nilOwn _ _, .heavy (by omega)⟩
  have hw' : t.weight ≤ 20000 := by omega
  refine ZC.skip ?_; refine ZP.then ?_; refine ZC.seq ?_; refine ZC.region ?_
  refine ZL.val (r_ldW M2 rfl rfl) rfl ?_
  refine ZL.call (r_call rfl) rfl (Wtxid_ok _ t w2 _ (hG.ext M2.ext) (hT.mv (Mv.ext M2.ext))) (fun v3 w3 ⟨E3, hv⟩ => ?_)
  subst hv
  have M3 := M2.ext' E3
  refine ZL.alloc M3 rfl rfl (fun b10 w4 M4 => ?_)
  refine ZL.stW M4 rfl rfl (cs' := t.wid.cells.toArray) rfl (by simp) (B32.size _) (B32.one _) (fun w5 M5 => ?_)
  refine ZL.nil ?_; refine ZP.then ?_; refine ZC.seq ?_; refine ZC.seq ?_; refine ZC.region ?_; refine ZL.val (r_move rfl) rfl ?_; refine ZL.val (r_move rfl) rfl ?_
  refine ZL.val (r_ldW M5 rfl (B32.size _)) rfl ?_
  refine ZL.call (r_call rfl) rfl (has_ok bh H k t.wid w5 (S.home.ext M5.ext)) (fun v6 w6 ⟨E6, hv⟩ => ?_)
  subst hv
  have M6 := M5.ext' E6
  refine ZL.nil ?_; refine ZP.then ?_
  refine ZC.cond rfl (fun hb => ?_) (fun hb => ?_)
  · refine ZC.seq ?_; refine ZC.region ?_; refine ZL.val (r_assign rfl) rfl ?_; refine ZL.val (r_assign rfl) rfl ?_; refine ZL.nil ?_; refine ZP.then ?_; refine ZC.ret ?_; refine ZP.thenR ?_
    exact ZP.ret2 rfl rfl rfl ⟨H, _, [], true, rfl, (S.ext M6.ext).nilOwn _ _, .known hw' hb⟩
  refine ZC.skip ?_; refine ZP.then ?_; refine ZC.seq ?_
  have hnod := S.ok.op.nod
  obtain ⟨hto, hto2⟩ := S.home.told k
  -- the transaction is put in
  have B6 : Mem w K (.blk b10 (.cells t.wid.cells.toArray 27) :: .blk b5 (.cells #[u32 t.version, iv, ov, u32 t.lock] 33) :: .blk bh (.cells (homeC H.bl H.bp H.seq) 56) :: .blk H.bl (.map H.esl H.ckl) :: .blk H.bp (.map H.esp H.ckp) :: (H.p.map pch ++ L)) w6 := S.M.beside M6
  have T6 : TxF (.blk b10 (.cells t.wid.cells.toArray 27) :: .blk b5 (.cells #[u32 t.version, iv, ov, u32 t.lock] 33) :: .blk bh (.cells (homeC H.bl H.bp H.seq) 56) :: .blk H.bl (.map H.esl H.ckl) :: .blk H.bp (.map H.esp H.ckp) :: (H.p.map pch ++ L)) w6 H.l := (HS.front (S.beside M6)).2
  clear M1 M2 M3 M4 M5
  refine ZC.turning (Holds [(bh, .cells (homeC H.bl H.bp H.seq) 56 (0, 0)), (b10, .cells t.wid.cells.toArray 27 (0, 0)), (b5, .cells #[u32 t.version, iv, ov, u32 t.lock] 33 (0, 0))]) 7 rfl (by kernel_rfl) rfl rfl rfl (fun w7 E7 _ => ?_)
  have M7 := B6.ext' E7
  have S7 : Holds [(bh, .cells (homeC H.bl H.bp H.seq) 56 (0, 0)), (b10, .cells t.wid.cells.toArray 27 (0, 0)), (b5, .cells #[u32 t.version, iv, ov, u32 t.lock] 33 (0, 0))] w7 := ⟨M7.get inferInstance, M7.get inferInstance, M7.get inferInstance, trivial⟩
  refine ZT.take 0 rfl rfl (fun w' hS' => by first | exact r_move rfl | exact r_assign rfl | exact r_fieldAddr rfl | exact r_add rfl rfl (wrap_i64 (by omega) (by omega)) | exact r_sub rfl rfl (wrap_i64 (by omega) (by omega)) | exact r_mul rfl rfl (wrap_i64 (by omega) (by omega)) | exact r_convInt rfl (wrap_u64 (by omega) (by omega)) | exact r_convInt rfl (wrap_i64 (by omega) (by omega)) | exact r_convInt rfl (wrap_u32 (by omega) (by omega)) | exact r_sliceArr rfl | exact r_nilCheck rfl | exact r_extract rfl rfl | exact r_lenSlice rfl | exact r_and rfl rfl rfl | exact r_shr rfl rfl (by omega) rfl | exact r_toB rfl | exact r_toU rfl | exact r_toQ rfl) (by kernel_rfl) rfl (by kernel_rfl) (by kernel_rfl) rfl rfl (fun _ _ _ _ h => h) S7 ?_; refine ZT.take 1 rfl rfl (fun w' hS' => by first | exact r_move rfl | exact r_assign rfl | exact r_fieldAddr rfl | exact r_add rfl rfl (wrap_i64 (by omega) (by omega)) | exact r_sub rfl rfl (wrap_i64 (by omega) (by omega)) | exact r_mul rfl rfl (wrap_i64 (by omega) (by omega)) | exact r_convInt rfl (wrap_u64 (by omega) (by omega)) | exact r_convInt rfl (wrap_i64 (by omega) (by omega)) | exact r_convInt rfl (wrap_u32 (by omega) (by omega)) | exact r_sliceArr rfl | exact r_nilCheck rfl | exact r_extract rfl rfl | exact r_lenSlice rfl | exact r_and rfl rfl rfl | exact r_shr rfl rfl (by omega) rfl | exact r_toB rfl | exact r_toU rfl | exact r_toQ rfl) (by kernel_rfl) rfl (by kernel_rfl) (by kernel_rfl) rfl rfl (fun _ _ _ _ h => h) S7 ?_; refine ZT.take 2 rfl rfl (fun w' hS' => by first | exact r_move rfl | exact r_assign rfl | exact r_fieldAddr rfl | exact r_add rfl rfl (wrap_i64 (by omega) (by omega)) | exact r_sub rfl rfl (wrap_i64 (by omega) (by omega)) | exact r_mul rfl rfl (wrap_i64 (by omega) (by omega)) | exact r_convInt rfl (wrap_u64 (by omega) (by omega)) | exact r_convInt rfl (wrap_i64 (by omega) (by omega)) | exact r_convInt rfl (wrap_u32 (by omega) (by omega)) | exact r_sliceArr rfl | exact r_nilCheck rfl | exact r_extract rfl rfl | exact r_lenSlice rfl | exact r_and rfl rfl rfl | exact r_shr rfl rfl (by omega) rfl | exact r_toB rfl | exact r_toU rfl | exact r_toQ rfl) (by kernel_rfl) rfl (by kernel_rfl) (by kernel_rfl) rfl rfl (fun _ _ _ _ h => h) S7 ?_
  refine ZT.take 3 rfl rfl (fun w' hS' => r_ldS hS' rfl (by rfl)) (by kernel_rfl) rfl (by kernel_rfl) (by kernel_rfl) rfl rfl (fun _ _ _ _ h => h) S7 ?_
  refine ZT.take 4 rfl rfl (fun w' hS' => r_ldSW hS' rfl (B32.size _)) (by kernel_rfl) rfl (by kernel_rfl) (by kernel_rfl) rfl rfl (fun _ _ _ _ h => h) S7 ?_
  refine ZT.take 5 rfl rfl (fun w' hS' => r_ldSW hS' rfl rfl) (by kernel_rfl) rfl (by kernel_rfl) (by kernel_rfl) rfl rfl (fun _ _ _ _ h => h) S7 ?_
  have T7 := T6.mv (Mv.ext E7)
  have hT7 := (hT.mv (Mv.ext M6.ext)).mv (Mv.ext E7)
  refine ZT.one 6 rfl (by kernel_rfl) rfl rfl rfl ?_
  refine ZL.call (r_call rfl) rfl (Still_ok _ t w7 _ hT7 hf) (fun v8 w8 ⟨E8, hv8⟩ => ?_)
  have M8 := M7.ext' E8
  have T8 := T7.mv (Mv.ext E8)
  have S8 : Holds [(bh, .cells (homeC H.bl H.bp H.seq) 56 (0, 0)), (b10, .cells t.wid.cells.toArray 27 (0, 0)), (b5, .cells #[u32 t.version, iv, ov, u32 t.lock] 33 (0, 0))] w8 := ⟨M8.get inferInstance, M8.get inferInstance, M8.get inferInstance, trivial⟩
  refine ZL.nil (ZP.turning S8 ?_)
  refine ZT.done rfl (by kernel_rfl) ?_
  refine ZL.mput (t := 53) (ke := B32.v) (ve := (Prod.fst : LE → Value)) (k := t.wid) (v := ((v8, t) : LE)) M8.rebase rfl rfl rfl S.ok.ol (fun es' clk' w9 hO9 R9 => ?_)
  have M9 := M8.joinX R9
  have T9 : TxF _ w9 (mput H.l t.wid (v8, t)) := fun x hx => by
    by_cases hk : x.1 = t.wid
    · have h9 := mget_of (mput_nodup S.ok.ol.nod) (k := x.1) (v := x.2) hx
      rw [hk, mget_put] at h9
      rw [← Option.some.inj h9]
      exact (hv8.mv (Mv.newer M7 E8.size)).mv (Mv.fpf R9)
    · have h9 := mget_of (mput_nodup S.ok.ol.nod) (k := x.1) (v := x.2) hx
      rw [mget_put_ne hk] at h9
      exact (T8 x (mget_mem h9)).mv (Mv.fpf R9)
  have F9 : ∀ x ∈ mput H.l t.wid ((v8, t) : LE), x.2.2.fits := fun x hx => by
    by_cases hk : x.1 = t.wid
    · have h9 := mget_of (mput_nodup S.ok.ol.nod) (k := x.1) (v := x.2) hx
      rw [hk, mget_put] at h9
      rw [← Option.some.inj h9]
      exact hf
    · have h9 := mget_of (mput_nodup S.ok.ol.nod) (k := x.1) (v := x.2) hx
      rw [mget_put_ne hk] at h9
      exact S.ok.lf x (mget_mem h9)
  -- what the peer told is put in
  refine ZL.nil ?_; refine ZP.then ?_; refine ZC.seq ?_
  refine ZC.turning (Holds [(bh, .cells (homeC H.bl H.bp H.seq) 56 (0, 0)), (H.bp, .map H.esp H.ckp), (b10, .cells t.wid.cells.toArray 27 (0, 0))]) 20 rfl (by kernel_rfl) rfl rfl rfl (fun w10 E10 _ => ?_)
  have M10 := M9.ext' E10
  have T10 := T9.mv (Mv.ext E10)
  clear M9 T9 T6 T7 T8 M7 M8 R9 B6
  have S10 : Holds [(bh, .cells (homeC H.bl H.bp H.seq) 56 (0, 0)), (H.bp, .map H.esp H.ckp), (b10, .cells t.wid.cells.toArray 27 (0, 0))] w10 := ⟨M10.get inferInstance, M10.ok (.blk H.bp _) (by simp), M10.get inferInstance, trivial⟩
  refine ZT.take 0 rfl rfl (fun w' hS' => by first | exact r_move rfl | exact r_assign rfl | exact r_fieldAddr rfl | exact r_add rfl rfl (wrap_i64 (by omega) (by omega)) | exact r_sub rfl rfl (wrap_i64 (by omega) (by omega)) | exact r_mul rfl rfl (wrap_i64 (by omega) (by omega)) | exact r_convInt rfl (wrap_u64 (by omega) (by omega)) | exact r_convInt rfl (wrap_i64 (by omega) (by omega)) | exact r_convInt rfl (wrap_u32 (by omega) (by omega)) | exact r_sliceArr rfl | exact r_nilCheck rfl | exact r_extract rfl rfl | exact r_lenSlice rfl | exact r_and rfl rfl rfl | exact r_shr rfl rfl (by omega) rfl | exact r_toB rfl | exact r_toU rfl | exact r_toQ rfl) (by kernel_rfl) rfl (by kernel_rfl) (by kernel_rfl) rfl rfl (fun _ _ _ _ h => h) S10 ?_; refine ZT.take 1 rfl rfl (fun w' hS' => by first | exact r_move rfl | exact r_assign rfl | exact r_fieldAddr rfl | exact r_add rfl rfl (wrap_i64 (by omega) (by omega)) | exact r_sub rfl rfl (wrap_i64 (by omega) (by omega)) | exact r_mul rfl rfl (wrap_i64 (by omega) (by omega)) | exact r_convInt rfl (wrap_u64 (by omega) (by omega)) | exact r_convInt rfl (wrap_i64 (by omega) (by omega)) | exact r_convInt rfl (wrap_u32 (by omega) (by omega)) | exact r_sliceArr rfl | exact r_nilCheck rfl | exact r_extract rfl rfl | exact r_lenSlice rfl | exact r_and rfl rfl rfl | exact r_shr rfl rfl (by omega) rfl | exact r_toB rfl | exact r_toU rfl | exact r_toQ rfl) (by kernel_rfl) rfl (by kernel_rfl) (by kernel_rfl) rfl rfl (fun _ _ _ _ h => h) S10 ?_; refine ZT.take 2 rfl rfl (fun w' hS' => by first | exact r_move rfl | exact r_assign rfl | exact r_fieldAddr rfl | exact r_add rfl rfl (wrap_i64 (by omega) (by omega)) | exact r_sub rfl rfl (wrap_i64 (by omega) (by omega)) | exact r_mul rfl rfl (wrap_i64 (by omega) (by omega)) | exact r_convInt rfl (wrap_u64 (by omega) (by omega)) | exact r_convInt rfl (wrap_i64 (by omega) (by omega)) | exact r_convInt rfl (wrap_u32 (by omega) (by omega)) | exact r_sliceArr rfl | exact r_nilCheck rfl | exact r_extract rfl rfl | exact r_lenSlice rfl | exact r_and rfl rfl rfl | exact r_shr rfl rfl (by omega) rfl | exact r_toB rfl | exact r_toU rfl | exact r_toQ rfl) (by kernel_rfl) rfl (by kernel_rfl) (by kernel_rfl) rfl rfl (fun _ _ _ _ h => h) S10 ?_
  refine ZT.take 3 rfl rfl (fun w' hS' => r_ldS hS' rfl (by rfl)) (by kernel_rfl) rfl (by kernel_rfl) (by kernel_rfl) rfl rfl (fun _ _ _ _ h => h) S10 ?_
  refine ZT.take 4 rfl rfl (fun w' hS' => by first | exact r_move rfl | exact r_assign rfl | exact r_fieldAddr rfl | exact r_add rfl rfl (wrap_i64 (by omega) (by omega)) | exact r_sub rfl rfl (wrap_i64 (by omega) (by omega)) | exact r_mul rfl rfl (wrap_i64 (by omega) (by omega)) | exact r_convInt rfl (wrap_u64 (by omega) (by omega)) | exact r_convInt rfl (wrap_i64 (by omega) (by omega)) | exact r_convInt rfl (wrap_u32 (by omega) (by omega)) | exact r_sliceArr rfl | exact r_nilCheck rfl | exact r_extract rfl rfl | exact r_lenSlice rfl | exact r_and rfl rfl rfl | exact r_shr rfl rfl (by omega) rfl | exact r_toB rfl | exact r_toU rfl | exact r_toQ rfl) (by kernel_rfl) rfl (by kernel_rfl) (by kernel_rfl) rfl rfl (fun _ _ _ _ h => h) S10 ?_; refine ZT.take 5 rfl rfl (fun w' hS' => by first | exact r_move rfl | exact r_assign rfl | exact r_fieldAddr rfl | exact r_add rfl rfl (wrap_i64 (by omega) (by omega)) | exact r_sub rfl rfl (wrap_i64 (by omega) (by omega)) | exact r_mul rfl rfl (wrap_i64 (by omega) (by omega)) | exact r_convInt rfl (wrap_u64 (by omega) (by omega)) | exact r_convInt rfl (wrap_i64 (by omega) (by omega)) | exact r_convInt rfl (wrap_u32 (by omega) (by omega)) | exact r_sliceArr rfl | exact r_nilCheck rfl | exact r_extract rfl rfl | exact r_lenSlice rfl | exact r_and rfl rfl rfl | exact r_shr rfl rfl (by omega) rfl | exact r_toB rfl | exact r_toU rfl | exact r_toQ rfl) (by kernel_rfl) rfl (by kernel_rfl) (by kernel_rfl) rfl rfl (fun _ _ _ _ h => h) S10 ?_; refine ZT.take 6 rfl rfl (fun w' hS' => by first | exact r_move rfl | exact r_assign rfl | exact r_fieldAddr rfl | exact r_add rfl rfl (wrap_i64 (by omega) (by omega)) | exact r_sub rfl rfl (wrap_i64 (by omega) (by omega)) | exact r_mul rfl rfl (wrap_i64 (by omega) (by omega)) | exact r_convInt rfl (wrap_u64 (by omega) (by omega)) | exact r_convInt rfl (wrap_i64 (by omega) (by omega)) | exact r_convInt rfl (wrap_u32 (by omega) (by omega)) | exact r_sliceArr rfl | exact r_nilCheck rfl | exact r_extract rfl rfl | exact r_lenSlice rfl | exact r_and rfl rfl rfl | exact r_shr rfl rfl (by omega) rfl | exact r_toB rfl | exact r_toU rfl | exact r_toQ rfl) (by kernel_rfl) rfl (by kernel_rfl) (by kernel_rfl) rfl rfl (fun _ _ _ _ h => h) S10 ?_; refine ZT.take 7 rfl rfl (fun w' hS' => by first | exact r_move rfl | exact r_assign rfl | exact r_fieldAddr rfl | exact r_add rfl rfl (wrap_i64 (by omega) (by omega)) | exact r_sub rfl rfl (wrap_i64 (by omega) (by omega)) | exact r_mul rfl rfl (wrap_i64 (by omega) (by omega)) | exact r_convInt rfl (wrap_u64 (by omega) (by omega)) | exact r_convInt rfl (wrap_i64 (by omega) (by omega)) | exact r_convInt rfl (wrap_u32 (by omega) (by omega)) | exact r_sliceArr rfl | exact r_nilCheck rfl | exact r_extract rfl rfl | exact r_lenSlice rfl | exact r_and rfl rfl rfl | exact r_shr rfl rfl (by omega) rfl | exact r_toB rfl | exact r_toU rfl | exact r_toQ rfl) (by kernel_rfl) rfl (by kernel_rfl) (by kernel_rfl) rfl rfl (fun _ _ _ _ h => h) S10 ?_
  refine ZT.take 8 rfl rfl (fun w' hS' => r_ldS hS' rfl (by rfl)) (by kernel_rfl) rfl (by kernel_rfl) (by kernel_rfl) rfl rfl (fun _ _ _ _ h => h) S10 ?_
  refine ZT.take 9 rfl rfl (fun w' hS' => by first | exact r_move rfl | exact r_assign rfl | exact r_fieldAddr rfl | exact r_add rfl rfl (wrap_i64 (by omega) (by omega)) | exact r_sub rfl rfl (wrap_i64 (by omega) (by omega)) | exact r_mul rfl rfl (wrap_i64 (by omega) (by omega)) | exact r_convInt rfl (wrap_u64 (by omega) (by omega)) | exact r_convInt rfl (wrap_i64 (by omega) (by omega)) | exact r_convInt rfl (wrap_u32 (by omega) (by omega)) | exact r_sliceArr rfl | exact r_nilCheck rfl | exact r_extract rfl rfl | exact r_lenSlice rfl | exact r_and rfl rfl rfl | exact r_shr rfl rfl (by omega) rfl | exact r_toB rfl | exact r_toU rfl | exact r_toQ rfl) (by kernel_rfl) rfl (by kernel_rfl) (by kernel_rfl) rfl rfl (fun _ _ _ _ h => h) S10 ?_
  refine ZT.take 10 rfl rfl (fun w' hS' => (r_lookup1 rfl rfl (Holds.get hS' inferInstance) S.ok.op).eq (H.told_val k)) (by kernel_rfl) rfl (by kernel_rfl) (by kernel_rfl) rfl rfl (fun _ _ _ _ h => h) S10 ?_
  refine ZT.take 11 rfl rfl (fun w' hS' => r_ldSW hS' rfl (B32.size _)) (by kernel_rfl) rfl (by kernel_rfl) (by kernel_rfl) rfl rfl (fun _ _ _ _ h => h) S10 ?_
  refine ZT.take 12 rfl rfl (fun w' hS' => by first | exact r_move rfl | exact r_assign rfl | exact r_fieldAddr rfl | exact r_add rfl rfl (wrap_i64 (by omega) (by omega)) | exact r_sub rfl rfl (wrap_i64 (by omega) (by omega)) | exact r_mul rfl rfl (wrap_i64 (by omega) (by omega)) | exact r_convInt rfl (wrap_u64 (by omega) (by omega)) | exact r_convInt rfl (wrap_i64 (by omega) (by omega)) | exact r_convInt rfl (wrap_u32 (by omega) (by omega)) | exact r_sliceArr rfl | exact r_nilCheck rfl | exact r_extract rfl rfl | exact r_lenSlice rfl | exact r_and rfl rfl rfl | exact r_shr rfl rfl (by omega) rfl | exact r_toB rfl | exact r_toU rfl | exact r_toQ rfl) (by kernel_rfl) rfl (by kernel_rfl) (by kernel_rfl) rfl rfl (fun _ _ _ _ h => h) S10 ?_; refine ZT.take 13 rfl rfl (fun w' hS' => by first | exact r_move rfl | exact r_assign rfl | exact r_fieldAddr rfl | exact r_add rfl rfl (wrap_i64 (by omega) (by omega)) | exact r_sub rfl rfl (wrap_i64 (by omega) (by omega)) | exact r_mul rfl rfl (wrap_i64 (by omega) (by omega)) | exact r_convInt rfl (wrap_u64 (by omega) (by omega)) | exact r_convInt rfl (wrap_i64 (by omega) (by omega)) | exact r_convInt rfl (wrap_u32 (by omega) (by omega)) | exact r_sliceArr rfl | exact r_nilCheck rfl | exact r_extract rfl rfl | exact r_lenSlice rfl | exact r_and rfl rfl rfl | exact r_shr rfl rfl (by omega) rfl | exact r_toB rfl | exact r_toU rfl | exact r_toQ rfl) (by kernel_rfl) rfl (by kernel_rfl) (by kernel_rfl) rfl rfl (fun _ _ _ _ h => h) S10 ?_; refine ZT.take 14 rfl rfl (fun w' hS' => by first | exact r_move rfl | exact r_assign rfl | exact r_fieldAddr rfl | exact r_add rfl rfl (wrap_i64 (by omega) (by omega)) | exact r_sub rfl rfl (wrap_i64 (by omega) (by omega)) | exact r_mul rfl rfl (wrap_i64 (by omega) (by omega)) | exact r_convInt rfl (wrap_u64 (by omega) (by omega)) | exact r_convInt rfl (wrap_i64 (by omega) (by omega)) | exact r_convInt rfl (wrap_u32 (by omega) (by omega)) | exact r_sliceArr rfl | exact r_nilCheck rfl | exact r_extract rfl rfl | exact r_lenSlice rfl | exact r_and rfl rfl rfl | exact r_shr rfl rfl (by omega) rfl | exact r_toB rfl | exact r_toU rfl | exact r_toQ rfl) (by kernel_rfl) rfl (by kernel_rfl) (by kernel_rfl) rfl rfl (fun _ _ _ _ h => h) S10 ?_; refine ZT.take 15 rfl rfl (fun w' hS' => by first | exact r_move rfl | exact r_assign rfl | exact r_fieldAddr rfl | exact r_add rfl rfl (wrap_i64 (by omega) (by omega)) | exact r_sub rfl rfl (wrap_i64 (by omega) (by omega)) | exact r_mul rfl rfl (wrap_i64 (by omega) (by omega)) | exact r_convInt rfl (wrap_u64 (by omega) (by omega)) | exact r_convInt rfl (wrap_i64 (by omega) (by omega)) | exact r_convInt rfl (wrap_u32 (by omega) (by omega)) | exact r_sliceArr rfl | exact r_nilCheck rfl | exact r_extract rfl rfl | exact r_lenSlice rfl | exact r_and rfl rfl rfl | exact r_shr rfl rfl (by omega) rfl | exact r_toB rfl | exact r_toU rfl | exact r_toQ rfl) (by kernel_rfl) rfl (by kernel_rfl) (by kernel_rfl) rfl rfl (fun _ _ _ _ h => h) S10 ?_
  refine ZT.take 16 rfl rfl (fun w' hS' => r_ldS hS' rfl (by rfl)) (by kernel_rfl) rfl (by kernel_rfl) (by kernel_rfl) rfl rfl (fun _ _ _ _ h => h) S10 ?_
  refine ZT.take 17 rfl rfl (fun w' hS' => r_buildTold (a := ⟨t.wid, now, H.seq⟩) rfl rfl rfl rfl rfl) (by kernel_rfl) rfl (by kernel_rfl) (by kernel_rfl) rfl rfl (fun _ _ _ _ h => h) S10 ?_
  generalize hnew : (⟨t.wid, now, H.seq⟩ : Told) = nt
  generalize hq : H.told k = q at hto hto2 hfew
  obtain ⟨qv, ql⟩ := q
  simp only at hto hto2 hfew ⊢
  refine ZT.one 18 rfl (by kernel_rfl) rfl rfl rfl ?_
  refine ZL.bslice M10.rebase rfl rfl rfl (by simp [Value.cells, nt.len]) (by decide) rfl (fun g1 w11 R11 => ?_)
  have S11 : Holds [(bh, .cells (homeC H.bl H.bp H.seq) 56 (0, 0)), (H.bp, .map H.esp H.ckp), (b10, .cells t.wid.cells.toArray 27 (0, 0))] w11 := ⟨R11.get inferInstance, R11.ok (.blk H.bp _) (by simp), R11.get inferInstance, trivial⟩
  have hsl := R11.own.slc (X := No) (fun _ _ h => h)
  have R12 := Mem.takeP (pre := [_, _, _, _, _, _]) (k := k) hnod R11
  have hmq : (mget H.p k).getD (.slice none 0 0, []) = (qv, ql) := hq
  rw [hmq] at R12
  simp only [pch, List.cons_append, List.nil_append] at R12
  refine ZL.nil (ZP.turning S11 ?_)
  refine ZT.one 19 rfl (by kernel_rfl) rfl rfl rfl ?_
  refine ZL.appendAt (A := []) R12 rfl rfl hsl (by intro x hx; simp only [List.append_nil, List.toList_toArray] at hx; exact nt.one x hx) (by simp only [maxLen]; omega) (by omega) rfl (fun qv' w13 R13 => ?_)
  simp only [List.cons_append, List.nil_append] at R13
  have S13 : Holds [(bh, .cells (homeC H.bl H.bp H.seq) 56 (0, 0)), (H.bp, .map H.esp H.ckp), (b10, .cells t.wid.cells.toArray 27 (0, 0))] w13 := ⟨R13.ok (.blk bh _) (by simp), R13.ok (.blk H.bp _) (by simp), R13.ok (.blk b10 _) (by simp), trivial⟩
  refine ZL.nil (ZP.turning S13 ?_)
  refine ZT.done rfl (by kernel_rfl) ?_
  refine ZL.mput (t := 54) (ke := Value.int .i64) (ve := (Prod.fst : PE → Value)) (k := k) (v := ((qv', ql ++ [nt]) : PE)) R13 rfl rfl rfl S.ok.op (fun es2 ck2 w14 hO14 R14 => ?_)
  have e1 : ∀ xs : List Value, xs = tflat (ql ++ [nt]) → Chunk.sub qv' 71 34 (ql.length + 1) xs = pch (k, (qv', ql ++ [nt])) := fun xs hx => by subst hx; simp [pch]
  rw [e1 _ (by simp [tflat])] at R14
  have R15' := Mem.giveP (pre := [_, _, _, _, _, _]) hnod R14
  simp only [List.cons_append, List.nil_append] at R15'
  have R15 := R15'.drop
  clear R15'
  have T15 := T10.mv (Mv.fpf R15)
  have M15 := M10.joinX R15
  clear R11 R12 R13 R14 R15 S10 S11 S13 M10 T10 hsl e1
  refine ZL.nil ?_; refine ZP.then ?_; refine ZC.seq ?_; refine ZC.region ?_; refine ZL.val (r_move rfl) rfl ?_; refine ZL.val (r_nilCheck rfl) rfl ?_; refine ZL.val (r_fieldAddr rfl) rfl ?_
  refine ZL.val (r_ld M15 rfl (by rfl)) rfl ?_
  refine ZL.val (r_add rfl rfl (wrap_i64 (by omega) (by omega))) rfl ?_; refine ZL.val (r_nilCheck rfl) rfl ?_; refine ZL.val (r_fieldAddr rfl) rfl ?_
  refine ZL.st M15.rebase rfl rfl (cs' := homeC H.bl H.bp (H.seq + 1)) (by rfl) (by rfl) (fun w16 R16 => ?_)
  have T16 := T15.mv (Mv.fpf R16)
  have M16 := M15.joinX R16
  clear R16 M15 T15
  obtain ⟨H1, hH1⟩ : ∃ H1 : HM, H1 = ⟨H.bl, H.bp, es', clk', es2, ck2, mput H.l t.wid (v8, t), mput H.p k (qv', ql ++ [nt]), H.seq + 1⟩ := ⟨_, rfl⟩
  have ok1 : H1.ok := by
    subst hH1
    refine ⟨hO9, hO14, fun x hx => ?_, F9⟩
    have h9 := mget_of (mput_nodup hnod) (k := x.1) (v := x.2) hx
    by_cases hk : x.1 = k
    · rw [hk, mget_put] at h9
      rw [← Option.some.inj h9]
      simp only [List.length_append, List.length_cons, List.length_nil]; omega
    · rw [mget_put_ne hk] at h9
      exact S.ok.few x (mget_mem h9)
  have S16 : HS w K bh H1 L w16 := by
    refine HS.drop (N := [.blk b10 (.cells t.wid.cells.toArray 27), .blk b5 (.cells #[u32 t.version, iv, ov, u32 t.lock] 33)]) (HS.back ?_ ok1 ?_)
    · subst hH1; exact M16
    · subst hH1; exact T16
  have ht1 : H1.told k = (qv', ql ++ [nt]) := by subst hH1; exact HM.told_put rfl
  have AR : ∀ H' gone n, Evict H1 k H' gone n → ((H1.told k).2.drop n).length ≤ 5 → AddR H k t now H' gone true := fun H' gone n hE h5 =>
    .added hw' hb H1 H' gone n v8 qv' (by subst hH1; rfl) (by subst hH1; rw [hq, hnew]) (by subst hH1; rfl) hE h5
  have ht1l : (H1.told k).2.length ≤ 1000 := by rw [ht1]; simp only [List.length_append, List.length_cons, List.length_nil]; omega
  clear M16 T16 hO9 hO14 F9 hto hto2 hnew ht1
  refine ZL.nil ?_; refine ZP.then ?_; refine ZC.seq ?_; refine ZC.region ?_; refine ZL.val (r_assign rfl) rfl ?_; refine ZL.nil ?_; refine ZP.then ?_; refine ZC.seq ?_; refine ZC.seq ?_; refine ZC.region ?_; refine ZL.val (r_move rfl) rfl ?_; refine ZL.val (r_move rfl) rfl ?_
  refine ZL.call (r_call rfl) rfl (Used_ok bh H1 k w16 S16.home) (fun v17 w17 ⟨E17, hv⟩ => ?_)
  subst hv
  refine ZL.val (r_move rfl) rfl ?_; refine ZL.val (r_extract rfl rfl) rfl ?_; refine ZL.val (r_extract rfl rfl) rfl ?_; refine ZL.val (r_assign rfl) rfl ?_; refine ZL.val (r_assign rfl) rfl ?_; refine ZL.nil ?_; refine ZP.then ?_; refine ZC.block ?_
  refine ZC.loop (X := HM × Value × List B32 × Nat) (fun x => [(12, .int .i64 ((x.1.told k).2.length : Nat)), (13, .int .i64 (x.1.weigh (x.1.told k).2 : Nat)), (11, x.2.1), (0, .pointer (some ⟨bh, 0, none⟩)), (2, .int .i64 k)])
    (fun x w' => HS w K bh x.1 (.own x.2.1 27 32 x.2.2.1.length (flatP x.2.2.1) :: L) w' ∧ Evict H1 k x.1 x.2.2.1 x.2.2.2) (fun x => (x.1.told k).2.length) (H1, .slice none 0 0, [], 0) ⟨rfl, rfl, rfl, rfl, rfl, trivial⟩ ⟨(S16.ext E17).nilOwn _ _, ?_⟩ ?_
  · refine ⟨⟨(H1.told k).1, ?_⟩, Nat.zero_le _, Nat.le_refl _, rfl, fun x hx => (by cases hx), fun _ _ => rfl, List.Sublist.refl _, fun _ _ => rfl, fun _ => ⟨rfl, rfl⟩⟩
    subst hH1
    rw [List.drop_zero, HM.told_put rfl]
    exact mput_put.symm
  clear S16
  rintro ⟨H', gv, gone, n⟩ w1 ⟨S1, hE⟩
  simp only at S1 hE ⊢
  have hp1 : (H'.told k).2 = (H1.told k).2.drop n := by
    obtain ⟨pv, hp⟩ := hE.p
    unfold HM.told at hp ⊢
    rw [hp, mget_put]; rfl
  have hnle := hE.nle
  have hgl := hE.glen
  refine ZC.mid (X := Unit) (fun _ => [(12, .int .i64 ((H'.told k).2.length : Nat)), (13, .int .i64 (H'.weigh (H'.told k).2 : Nat)), (11, gv), (0, .pointer (some ⟨bh, 0, none⟩)), (2, .int .i64 k)]) (fun _ w' => w' = w1 ∧ (H'.told k).2 ≠ [] ∧ ¬ ((H'.told k).2.length ≤ 5 ∧ H'.weigh (H'.told k).2 ≤ 20000)) ?_ ?_
  · refine ZC.seq ?_; refine ZC.region ?_; refine ZL.val (r_move rfl) rfl ?_; refine ZL.val (r_gtr rfl rfl) rfl ?_; refine ZL.val (r_move rfl) rfl ?_
    refine ZL.splitD 66 rfl (fun h5 => ?_) (fun h5 => ?_)
    · refine ZL.skip rfl rfl rfl rfl ?_; refine ZL.skip rfl rfl rfl rfl ?_; refine ZL.val (r_pickT rfl rfl) rfl ?_; refine ZL.nil ?_; refine ZP.then ?_; refine ZC.condT rfl ?_; refine ZC.skip ?_
      exact ZP.mid () ⟨rfl, rfl, rfl, rfl, rfl, trivial⟩ ⟨rfl, fun h => by rw [h] at h5; simp at h5, by omega⟩
    · refine ZL.on rfl rfl rfl ?_; refine ZL.val (r_move rfl) rfl ?_; refine ZL.on rfl rfl rfl ?_; refine ZL.val (r_gtr rfl rfl) rfl ?_; refine ZL.val (r_pickF rfl rfl) rfl ?_; refine ZL.nil ?_; refine ZP.then ?_
      refine ZC.condD rfl (fun h6 => ?_) (fun h6 => ?_)
      · refine ZC.skip ?_
        refine ZP.mid () ⟨rfl, rfl, rfl, rfl, rfl, trivial⟩ ⟨rfl, fun h => ?_, by omega⟩
        rw [h] at h6
        simp [HM.weigh] at h6
      · refine ZC.exit ?_
        refine ZP.midX ?_
        refine ZP.thenX ?_; refine ZP.blockE ?_; refine ZP.then ?_; refine ZC.seq ?_; refine ZC.region ?_; refine ZL.val (r_move rfl) rfl ?_; refine ZL.val (r_assign rfl) rfl ?_; refine ZL.val (r_assign rfl) rfl ?_; refine ZL.nil ?_; refine ZP.then ?_; refine ZC.ret ?_
        refine ZP.ret2 rfl rfl rfl ⟨H', gv, gone, true, rfl, S1, AR _ _ _ hE ?_⟩
        rw [← hp1]; omega
  rintro ⟨⟩ w1 ⟨rfl, hne, hnot⟩
  have M1 : Mem w K (.own gv 27 32 gone.length (flatP gone) :: .blk bh (.cells (homeC H'.bl H'.bp H'.seq) 56) :: .blk H'.bl (.map H'.esl H'.ckl) :: .blk H'.bp (.map H'.esp H'.ckp) :: (H'.p.map pch ++ L)) w1 := (HS.front (N := [_]) S1).1
  have T1 : TxF (.own gv 27 32 gone.length (flatP gone) :: .blk bh (.cells (homeC H'.bl H'.bp H'.seq) 56) :: .blk H'.bl (.map H'.esl H'.ckl) :: .blk H'.bp (.map H'.esp H'.ckp) :: (H'.p.map pch ++ L)) w1 H'.l := (HS.front (N := [_]) S1).2
  obtain ⟨hto, hto2⟩ := S1.home.told k
  have hq' : H'.told k = H'.told k := rfl
  generalize hqq : H'.told k = q' at hto hto2 hp1 hne
  obtain ⟨qv2, ql2⟩ := q'
  simp only at hto hto2 hp1 hne
  obtain ⟨p2, c2, rfl⟩ := hto.shape
  have hpos : 0 < ql2.length := List.length_pos_iff.2 hne
  obtain ⟨g3, o3, cs3, e3, fz3, r3, rfl, hh3, hx3, hlen3, hE3, hcell3, hsz3, hext3⟩ := ListR.elem (by decide) (told_list hto) hpos
  rw [show r3 = ql2[0].cells from hE3] at hcell3
  obtain ⟨hid1, hid2⟩ := Told.idOf (q := o3 + 0 * 34 + 0) (a := ql2[0]) (by simpa using hcell3)
  refine ZC.seq ?_; refine ZC.block ?_; refine ZC.seq ?_; refine ZC.region ?_; refine ZL.val (r_move rfl) rfl ?_; refine ZL.val (r_nilCheck rfl) rfl ?_; refine ZL.val (r_fieldAddr rfl) rfl ?_
  refine ZL.val (r_ld M1 rfl (by rfl)) rfl ?_
  refine ZL.val (r_move rfl) rfl ?_
  refine ZL.val ((r_lookup1 rfl rfl (M1.ok (.blk H'.bp _) (by simp)) S1.ok.op).eq ((H'.told_val k).trans (by rw [hqq]))) rfl ?_
  refine ZL.val (r_idxS 0 rfl rfl rfl hpos) rfl ?_
  refine ZL.val (r_fieldAddr rfl) rfl ?_
  refine ZL.val (r_loadN rfl hh3 hid1 hid2) rfl ?_
  clear hcell3 hid1 hid2 hext3 hsz3 hh3 hE3
  generalize hdid : ql2[0].id = did
  refine ZL.alloc M1.rebase rfl rfl (fun b14 w2 R2 => ?_)
  refine ZL.stW R2 rfl rfl (cs' := did.cells.toArray) rfl (by simp) (B32.size _) (B32.one _) (fun w3 R3 => ?_)
  have T3 := T1.mv (Mv.fpf R3)
  have M3 := M1.joinX R3
  clear R2 R3 M1 T1
  refine ZL.nil ?_; refine ZP.then ?_; refine ZC.seq ?_
  refine ZC.tail 12 (by kernel_rfl) rfl rfl (fun w4 E4 _ => ?_)
  have M4 := M3.ext' E4
  have T4 := T3.mv (Mv.ext E4)
  clear M3 T3
  refine ZS.val (r_move rfl) rfl ?_; refine ZS.val (r_nilCheck rfl) rfl ?_; refine ZS.val (r_fieldAddr rfl) rfl ?_
  refine ZS.val (r_ld M4 rfl (by rfl)) rfl ?_
  refine ZS.val (r_move rfl) rfl ?_; refine ZS.val (r_move rfl) rfl ?_; refine ZS.val (r_nilCheck rfl) rfl ?_; refine ZS.val (r_fieldAddr rfl) rfl ?_
  refine ZS.val (r_ld M4 rfl (by rfl)) rfl ?_
  refine ZS.val (r_move rfl) rfl ?_
  refine ZS.val ((r_lookup1 rfl rfl (M4.ok (.blk H'.bp _) (by simp)) S1.ok.op).eq ((H'.told_val k).trans (by rw [hqq]))) rfl ?_
  refine ZS.val (r_sliceFrom rfl rfl (by omega) (by omega)) rfl ?_
  refine ZS.tail ?_
  refine ZL.mput (t := 54) (ke := Value.int .i64) (ve := (Prod.fst : PE → Value)) (k := k) (v := ((.slice (cutAt (some ⟨g3, o3, none⟩) c2 1 34) (ql2.length - 1) (c2 - 1), ql2.drop 1) : PE)) M4.rebase rfl rfl rfl S1.ok.op (fun es3 ck3 w5 hO5 R5 => ?_)
  have R6 := Mem.takeP (pre := [_, _, _, _, _]) (k := k) S1.ok.op.nod R5
  rw [show (mget H'.p k).getD (.slice none 0 0, []) = (_, _) from hqq] at R6
  simp only [pch, List.cons_append, List.nil_append] at R6
  obtain ⟨hc1, hc2⟩ := OwnAt.cutHead (k := 1) R6.sub_ok hpos
  have R7 := R6.turn (A := []) (c' := pch (k, (.slice (cutAt (some ⟨g3, o3, none⟩) c2 1 34) (ql2.length - 1) (c2 - 1), ql2.drop 1))) (ExtX.refl _ _)
    (by rw [tflat_drop1] at hc1; simpa only [pch, Chunk.ok, List.length_drop] using hc1) (fun g hg => .inl (by rw [← hg]; exact hc2.symm))
  have R8 := Mem.giveP (pre := [_, _, _, _, _]) S1.ok.op.nod R7
  simp only [List.cons_append, List.nil_append] at R8
  have T8 := T4.mv (Mv.fpf R8)
  have M8 := M4.joinX R8
  clear R5 R6 R7 R8 M4 T4 hc1 hc2
  generalize hcv : Value.slice (cutAt (some ⟨g3, o3, none⟩) c2 1 34) (ql2.length - 1) (c2 - 1) = cv at hO5 T8 M8
  obtain ⟨H2, hH2⟩ : ∃ H2 : HM, H2 = ⟨H'.bl, H'.bp, H'.esl, H'.ckl, es3, ck3, H'.l, mput H'.p k (cv, ql2.drop 1), H'.seq⟩ := ⟨_, rfl⟩
  have ok2 : H2.ok := by
    subst hH2
    refine ⟨S1.ok.ol, hO5, fun x hx => ?_, S1.ok.lf⟩
    have h9 := mget_of (mput_nodup S1.ok.op.nod) (k := x.1) (v := x.2) hx
    by_cases hk : x.1 = k
    · rw [hk, mget_put] at h9
      rw [← Option.some.inj h9]
      simp only [List.length_drop]; omega
    · rw [mget_put_ne hk] at h9
      exact S1.ok.few x (mget_mem h9)
  have S8 : HS w K bh H2 (.blk b14 (.cells did.cells.toArray 27) :: .own gv 27 32 gone.length (flatP gone) :: L) w5 := by
    refine HS.back (N := [.blk b14 (.cells did.cells.toArray 27), .own gv 27 32 gone.length (flatP gone)]) ?_ ok2 ?_
    · subst hH2; exact M8
    · subst hH2; exact T8
  refine ZL.nil ?_; refine ZP.then ?_; refine ZC.seq ?_; refine ZC.region ?_; refine ZL.val (r_move rfl) rfl ?_
  refine ZL.val (r_ldW M8 rfl (B32.size _)) rfl ?_
  refine ZL.call (r_call rfl) rfl (nobody_ok bh H2 did _ w5 S8.rebase.M S8.ok S8.rebase.tx) (fun v9 w9 ⟨esl', l', N9, ok9, tx9, hv, hl9⟩ => ?_)
  subst hv
  have S9 := S8.join ⟨N9, ok9, tx9⟩
  clear N9 ok9 tx9 M8 T8 S8
  generalize hH3 : ({ H2 with esl := esl', l := l' } : HM) = H3 at S9
  have hp3 : H3.p = mput H'.p k (cv, ql2.drop 1) := by subst hH3; subst hH2; rfl
  have hmk : mget H'.p k = some (.slice (some ⟨g3, o3, none⟩) ql2.length c2, ql2) := by
    have h9 : (mget H'.p k).getD (.slice none 0 0, []) = _ := hqq
    cases hm : mget H'.p k with
    | none => rw [hm] at h9; simp at h9
    | some u => rw [hm] at h9; simp at h9; rw [h9]
  have hmono : ∀ x, (∀ q ∈ H'.p, (q.2.2.any fun y => decide (y.id = x)) = false) → ∀ q ∈ H3.p, (q.2.2.any fun y => decide (y.id = x)) = false := fun x hx q hq => by
    rw [hp3] at hq
    have h9 := mget_of (mput_nodup S1.ok.op.nod) (k := q.1) (v := q.2) hq
    by_cases hk : q.1 = k
    · rw [hk, mget_put] at h9
      rw [← Option.some.inj h9]
      have := hx _ (mget_mem hmk)
      rw [List.any_eq_false] at this ⊢
      exact fun y hy => this y (List.mem_of_mem_drop hy)
    · rw [mget_put_ne hk] at h9
      exact hx _ (mget_mem h9)
  have hev : ∀ gone', (gone' = gone ∧ (H2.p.any fun x => H2.hasB x.1 did) = true ∨ gone' = gone ++ [did] ∧ (H2.p.any fun x => H2.hasB x.1 did) = false) → Evict H1 k H3 gone' (n + 1) := fun gone' hg => by
    have hl3 : H3.l = if (H2.p.any fun x => H2.hasB x.1 did) then H'.l else mdel H'.l did := by subst hH3; subst hH2; exact hl9
    refine ⟨⟨cv, ?_⟩, ?_, ?_, ?_, ?_, ?_, ?_, ?_, fun h => by omega⟩
    · obtain ⟨pv, hp⟩ := hE.p
      rw [hp3, hp, mput_put, hp1, List.drop_drop]
    · have := congrArg List.length hp1
      rw [List.length_drop] at this; omega
    · rcases hg with ⟨rfl, -⟩ | ⟨rfl, -⟩
      · omega
      · simp; omega
    · rw [show H3.seq = H'.seq by subst hH3; subst hH2; rfl]; exact hE.seq
    · intro x hx
      rcases hg with ⟨rfl, -⟩ | ⟨rfl, hn⟩
      · exact hmono x (hE.out x hx)
      · rcases List.mem_append.1 hx with hx | hx
        · exact hmono x (hE.out x hx)
        · simp only [List.mem_singleton] at hx
          subst hx
          intro q hq
          have hq2 : q ∈ H2.p := by subst hH3; exact hq
          rw [List.any_eq_false] at hn
          have := hn q hq2
          rw [HM.hasB_eq ok2 hq2] at this
          simpa using this
    · intro x hx
      rw [hl3]
      rcases hg with ⟨rfl, hn⟩ | ⟨rfl, hn⟩
      · rw [hn]; exact hE.l x hx
      · rw [hn]
        simp only [List.mem_append, List.mem_singleton, not_or] at hx
        simp only [Bool.false_eq_true, if_false]
        rw [mget_del, if_neg hx.2]
        exact hE.l x hx.1
    · rw [hl3]
      refine List.Sublist.trans ?_ hE.sub
      split
      · exact List.Sublist.refl _
      · exact List.filter_sublist
    · intro h1 h2
      exfalso
      have hn0 := hE.fit h1 h2
      obtain ⟨-, hl0⟩ := hE.zero hn0
      apply hnot
      rw [hqq]
      simp only
      rw [hn0, List.drop_zero] at hp1
      refine ⟨by rw [hp1]; exact h1, ?_⟩
      have : H'.weigh ql2 = H1.weigh ql2 := by unfold HM.weigh HM.tx; rw [hl0]
      rw [this, hp1]; exact h2
  have ht3 : (H3.told k).2.length < ql2.length := by
    rw [HM.told_put hp3]; simp only [List.length_drop]; omega
  clear hE
  have M9 := (HS.front (N := [_, _]) S9).1
  have T9 := (HS.front (N := [_, _]) S9).2
  simp only [List.cons_append, List.nil_append] at M9 T9
  refine ZL.nil ?_; refine ZP.then ?_
  refine ZC.cond rfl (fun hb2 => ?_) (fun hb2 => ?_)
  · refine ZC.region ?_; refine ZL.val (r_move rfl) rfl ?_
    refine ZL.val (r_ldW M9 rfl (B32.size _)) rfl ?_
    refine ZL.bslice M9.rebase rfl rfl rfl (by simp [Value.cells, B32.len]) (by decide) rfl (fun g4 w10 R10 => ?_)
    refine ZL.append R10 rfl rfl (R10.own.slc (X := No) (fun _ _ h => h)) (by intro x hx; simp only [List.append_nil, List.toList_toArray] at hx; exact B32.oneL _ x hx) (by simp only [maxLen]; omega) (by omega) rfl (fun gv' w11 R11 => ?_)
    have R12 := R11.drop.drop
    have T12 := T9.mv (Mv.fpf R12)
    have M12 := M9.joinX R12
    have S12 : HS w K bh H3 (.own gv' 27 32 (gone ++ [did]).length (flatP (gone ++ [did])) :: L) w11 := by
      have e9 : ∀ xs : List Value, xs = flatP (gone ++ [did]) → Chunk.own gv' 27 32 (gone.length + 1) xs = .own gv' 27 32 (gone ++ [did]).length (flatP (gone ++ [did])) := fun xs hx => by subst hx; simp
      rw [e9 _ (by simp [flatP])] at M12 T12
      exact HS.back (N := [_]) M12 S9.ok T12
    clear R10 R11 R12 T12 M12 M9 T9
    refine ZL.val (r_assign rfl) rfl ?_; refine ZL.nil ?_; refine ZP.blockN ?_; refine ZP.then ?_; refine ZC.region ?_; refine ZL.val (r_move rfl) rfl ?_; refine ZL.val (r_move rfl) rfl ?_
    refine ZL.call (r_call rfl) rfl (Used_ok bh H3 k w11 S12.home) (fun v17 w17 ⟨E17, hv⟩ => ?_)
    subst hv
    refine ZL.val (r_move rfl) rfl ?_; refine ZL.val (r_extract rfl rfl) rfl ?_; refine ZL.val (r_extract rfl rfl) rfl ?_; refine ZL.val (r_assign rfl) rfl ?_; refine ZL.val (r_assign rfl) rfl ?_; refine ZL.nil ?_
    exact ZP.round (H3, gv', gone ++ [did], n + 1) ⟨rfl, rfl, rfl, rfl, rfl, trivial⟩ ⟨S12.ext E17, hev _ (.inr ⟨rfl, by simpa using hb2⟩)⟩ ht3
  · have S12 : HS w K bh H3 (.own gv 27 32 gone.length (flatP gone) :: L) w9 := HS.drop (N := [_]) S9
    clear M9 T9
    refine ZC.skip ?_; refine ZP.blockN ?_; refine ZP.then ?_; refine ZC.region ?_; refine ZL.val (r_move rfl) rfl ?_; refine ZL.val (r_move rfl) rfl ?_
    refine ZL.call (r_call rfl) rfl (Used_ok bh H3 k w9 S12.home) (fun v17 w17 ⟨E17, hv⟩ => ?_)
    subst hv
    refine ZL.val (r_move rfl) rfl ?_; refine ZL.val (r_extract rfl rfl) rfl ?_; refine ZL.val (r_extract rfl rfl) rfl ?_; refine ZL.val (r_assign rfl) rfl ?_; refine ZL.val (r_assign rfl) rfl ?_; refine ZL.nil ?_
    exact ZP.round (H3, gv, gone, n + 1) ⟨rfl, rfl, rfl, rfl, rfl, trivial⟩ ⟨S12.ext E17, hev _ (.inl ⟨rfl, by simpa using hb2⟩)⟩ ht3
end Go.Proofs.YtibobcjfjnoclaaGreatDoor.Z
end
section
/- The home's without: what is so is taken away of what all told. -/
set_option linter.unusedVariables false
set_option linter.unusedSimpArgs false
set_option linter.unusedSectionVars false
set_option maxRecDepth 100000
set_option maxHeartbeats 4000000
namespace Go.Proofs.YtibobcjfjnoclaaGreatDoor.Z
open Go Go.RowKit

section
variable {P : Program} {σ : Env} {w : World} {K U : Type} [DecidableEq K] {ke : K → Value} {ve : U → Value} {m : List (K × U)} {es : Array MapEntry} {clk : Nat} {kt : TypeId}
/-- A store at a key that is there turns its value alone. -/
theorem uw_mapSet {t et : TypeId} {x y u : Operand} {b : Nat} {k : K} {v : U} [TU P t (.map kt et)] [kk : KeyT P kt ke] (hx : ev σ x = some (.map (some b))) (hy : ev σ y = some (ke k)) (hu : ev σ u = some (ve v)) (hm : w.heap[b]? = some (.map es clk)) (h : MObj ke ve m es clk) (hk : (mget m k).isSome = true) :
    ∃ es', UW P σ (.mapUpdate t x y u) w (World.putObj w b (.map es' clk)) ∧ MObj ke ve (mput m k v) es' clk ∧ es'.toList.map (fun e => (e.key, e.born)) = es.toList.map (fun e => (e.key, e.born)) := by
  have hf := run_findKey (P := P) (w := w) (kt := kt) h k
  have hg := idxOf_get m k 0
  have hlen := h.size
  cases hi : idxOf m k 0 with
  | none => rw [hi] at hg; simp at hg; rw [← hg] at hk; simp at hk
  | some q =>
    obtain ⟨j, u'⟩ := q
    rw [hi] at hf hg
    simp at hf hg
    obtain ⟨_, hj⟩ := idxOf_some hi
    simp only [Nat.sub_zero] at hj
    have hjl : j < m.length := by
      rcases Nat.lt_or_ge j m.length with h | h
      · exact h
      · simp [List.getElem?_eq_none h] at hj
    have hkey : ((es[j]?).map (·.key)).getD (ke k) = ke k := by
      have := congrArg (fun l => l[j]?) h.kv
      simp only [List.getElem?_map, hj, Option.map_some, Array.getElem?_toList] at this
      cases he : es[j]? with
      | none => simp
      | some e => rw [he] at this; simp at this; simp [this.1]
    have hkb : (es.modify j fun e => { e with key := ke k, val := ve v }).toList.map (fun e => (e.key, e.born)) = es.toList.map (fun e => (e.key, e.born)) := by
      apply List.ext_getElem?
      intro i
      simp only [List.getElem?_map, Array.getElem?_toList, Array.getElem?_modify]
      split
      · rename_i hij
        subst hij
        cases he : es[j]? with
        | none => rfl
        | some e => rw [he] at hkey; simp at hkey; simp [hkey]
      · rfl
    refine ⟨es.modify j fun e => { e with key := ke k, val := ve v }, ⟨fun ρ ha o ho => ?_⟩, ?_, hkb⟩
    · simp [execOp, ho, ha _ _ hx, ha _ _ hy, ha _ _ hu, Instr.mapUpdate, run_under' (t := t), run_getObj_map' hm, kk.chk, hf, hkey, Instr.keyThatStays, kk.bits, run_setObj_map' hm]
    · have hm' : mput m k v = m.set j (k, v) := by
        simp only [mput, ← hg, Option.isSome_some, if_true]
        exact map_set_at h.nod hj
      rw [hm']
      have hborn : ((es.modify j fun e => { e with key := ke k, val := ve v }).toList.map (·.born)) = es.toList.map (·.born) := by
        have := congrArg (List.map Prod.snd) hkb
        rw [List.map_map, List.map_map] at this
        exact this
      refine ⟨?_, ?_, ?_, ?_⟩
      · apply List.ext_getElem?
        intro i
        have hk := congrArg (fun l => l[i]?) h.kv
        simp only [List.getElem?_map, Array.getElem?_toList, Array.getElem?_modify, List.getElem?_set] at hk ⊢
        by_cases hij : j = i
        · subst hij
          have hes : j < es.size := by omega
          simp [hes, hjl]
        · simp only [hij, if_false]; exact hk
      · rw [List.map_set]
        have : (m.map (·.1)).set j k = m.map (·.1) := by
          apply List.ext_getElem?
          intro i
          rw [List.getElem?_set]
          split
          · rename_i e; subst e; have h9 := (List.getElem?_eq_some_iff.1 hj).2; simp [hjl, h9]
          · rfl
        rw [this]; exact h.nod
      · rw [hborn]; exact h.born
      · intro e he
        have : e.born ∈ es.toList.map (·.born) := by rw [← hborn]; exact List.mem_map.2 ⟨e, he, rfl⟩
        obtain ⟨e', he', h1⟩ := List.mem_map.1 this
        rw [← h1]; exact h.lt e' he'
theorem ZL.mset {n : Nat} {ops : Array Oper} {Q : Post} {rest : List Oper} {w0 : World} {X : Nat → Prop} {L : List Chunk} {F : Obj → List Chunk} {ty : TypeId} {pos : String} {after : Array Edge} {x y u : Operand} {et t : TypeId} {b : Nat} {k : K} {v : U}
    [TU P t (.map kt et)] [kk : KeyT P kt ke] (hM : Mem w0 X L w) (hx : ev σ x = some (.map (some b))) (hy : ev σ y = some (ke k)) (hu : ev σ u = some (ve v)) [i : PutF L b (.map es clk) F] (hO : MObj ke ve m es clk) (hk : (mget m k).isSome = true)
    (h : ∀ es' w', MObj ke ve (Z.mput m k v) es' clk → es'.toList.map (fun e => (e.key, e.born)) = es.toList.map (fun e => (e.key, e.born)) → Mem w0 X (F (.map es' clk)) w' → ZL P n ops Q rest σ w') : ZL P n ops Q (⟨none, .mapUpdate t x y u, ty, pos, after, none⟩ :: rest) σ w := by
  obtain ⟨es', h1, h2, h3⟩ := uw_mapSet (P := P) (σ := σ) (t := t) hx hy hu (hM.putGet (i.put (o' := .map es clk))) hO hk
  exact ZL.unit h1 (h es' _ h2 h3 (hM.upd i.put (Upd.putObj (Array.getElem?_eq_some_iff.1 (hM.putGet (i.put (o' := .map es clk)))).1)))
theorem MObj.keyInj (h : MObj ke ve m es clk) (hke : ∀ a b, ke a = ke b → a = b) {e e' : MapEntry} (he : e ∈ es.toList) (he' : e' ∈ es.toList) (hk : e.key = e'.key) : e = e' := by
  have hn : (es.toList.map (·.key)).Nodup := by
    have h1 : es.toList.map (·.key) = (m.map (·.1)).map ke := by
      have := congrArg (List.map Prod.fst) h.kv
      simpa [List.map_map, Function.comp_def] using this
    rw [h1]
    exact (List.pairwise_map.2 (h.nod.imp fun hab e => hab (hke _ _ e)))
  clear h
  generalize es.toList = l at he he' hn
  induction l with
  | nil => cases he
  | cons c t ih =>
    obtain ⟨h1, h2⟩ := List.nodup_cons.1 hn
    rcases List.mem_cons.1 he with ha | ha <;> rcases List.mem_cons.1 he' with hb | hb
    · rw [ha, hb]
    · exact absurd (show c.key ∈ t.map (·.key) by rw [← ha, hk]; exact List.mem_map_of_mem (f := (·.key)) hb) h1
    · exact absurd (show c.key ∈ t.map (·.key) by rw [← hb, ← hk]; exact List.mem_map_of_mem (f := (·.key)) ha) h1
    · exact ih ha hb h2
end
/-- What came so far, in a map of the same keys. -/
theorem Came.repick {es es' : Array MapEntry} {clk : Nat} {pe : List MapEntry} (hC : Came es clk pe) (he : es'.toList.map (fun e => (e.key, e.born)) = es.toList.map (fun e => (e.key, e.born))) :
    ∃ pe', pe'.map (fun e => (e.key, e.born)) = pe.map (fun e => (e.key, e.born)) ∧ Came es' clk pe' := by
  have hb : es'.toList.map (·.born) = es.toList.map (·.born) := by
    have := congrArg (List.map Prod.snd) he
    simpa [List.map_map, Function.comp_def] using this
  have key : ∀ l : List MapEntry, (∀ e ∈ l, e ∈ es.toList) → ∃ l' : List MapEntry, l'.map (fun e => (e.key, e.born)) = l.map (fun e => (e.key, e.born)) ∧ ∀ e ∈ l', e ∈ es'.toList := by
    intro l
    induction l with
    | nil => intro _; exact ⟨[], rfl, by simp⟩
    | cons a t ih =>
      intro h
      obtain ⟨l', h1, h2⟩ := ih fun e he => h e (List.mem_cons_of_mem _ he)
      have : (a.key, a.born) ∈ es'.toList.map (fun e => (e.key, e.born)) := by rw [he]; exact List.mem_map.2 ⟨a, h a (by simp), rfl⟩
      obtain ⟨a', ha', hk⟩ := List.mem_map.1 this
      refine ⟨a' :: l', by rw [List.map_cons, List.map_cons, h1, hk], fun e he => ?_⟩
      rcases List.mem_cons.1 he with rfl | he
      · exact ha'
      · exact h2 e he
  obtain ⟨pe', h1, h2⟩ := key pe hC.sub
  have hpb : pe'.map (·.born) = pe.map (·.born) := by
    have := congrArg (List.map Prod.snd) h1
    simpa [List.map_map, Function.comp_def] using this
  refine ⟨pe', h1, h2, by rw [hpb]; exact hC.nod, fun e he' => ?_, by rw [hb]; exact hC.born⟩
  have : e.born ∈ es.toList.map (·.born) := by rw [← hb]; exact List.mem_map_of_mem (f := (·.born)) he'
  obtain ⟨a, ha, h9⟩ := List.mem_map.1 this
  rw [← h9]; exact hC.lt a ha
theorem int_inj : ∀ a b : Int, Value.int .i64 a = Value.int .i64 b → a = b := fun a b h => by simpa using h

/-- How far the first round is. -/
structure WInv (H : HM) (pred : Int → Told → Bool) (pe : List MapEntry) (vis : List Int) (cur : Int → PE) (ids : List B32) : Prop where
  keys : pe.map (·.key) = vis.map (Value.int .i64)
  yes : ∀ x ∈ H.p, x.1 ∈ vis → (cur x.1).2 = x.2.2.filter fun a => !pred x.1 a
  no : ∀ x ∈ H.p, x.1 ∉ vis → cur x.1 = x.2
  mem : ∀ y, y ∈ ids ↔ ∃ q ∈ H.p, q.1 ∈ vis ∧ ∃ a ∈ q.2.2, pred q.1 a = true ∧ a.id = y
  len : ids.length ≤ 1000 * vis.length
structure WithoutR (H : HM) (pred : Int → Told → Bool) (H' : HM) (ys : List B32) : Prop where
  p : H'.p.map (fun x => (x.1, x.2.2)) = H.p.map fun x => (x.1, x.2.2.filter fun a => !pred x.1 a)
  sorted : ys.Pairwise ltP
  mem : ∀ x, x ∈ ys ↔ (∃ q ∈ H.p, ∃ a ∈ q.2.2, pred q.1 a = true ∧ a.id = x) ∧ ∀ q ∈ H'.p, (q.2.2.any fun y => decide (y.id = x)) = false
  l : H'.l = H.l.filter fun e => decide (e.1 ∉ ys)
  seq : H'.seq = H.seq
abbrev HM.at (H : HM) (es : Array MapEntry) (cur : Int → PE) : HM := { H with esp := es, p := H.p.map fun x => (x.1, cur x.1) }

theorem HS.reown {w0 w : World} {X : Nat → Prop} {bh : Nat} {H : HM} {L : List Chunk} {v r : Value} {e s n : Nat} {xs : List Value} (h : HS w0 X bh H (.own v e s n xs :: L) w) (hO : OwnR w e s r n xs) (hb : r.ownBlock = v.ownBlock) : HS w0 X bh H (.own r e s n xs :: L) w := by
  have F := HS.front (N := [_]) h
  refine HS.back (N := [_]) (Mem.reown F.1 hO hb) h.ok fun x hx => (F.2 x hx).mv (Mv.mono fun b _ ⟨c, hc, hg⟩ => ?_)
  rcases List.mem_append.1 hc with hc | hc
  · simp only [List.mem_singleton] at hc
    subst hc
    exact ⟨.own v e s n xs, by simp, by simpa [Chunk.fp, hb] using hg⟩
  · exact ⟨c, List.mem_append_right _ hc, hg⟩
theorem HM.anyB {H H1 : HM} (h : H.p = H1.p) (y : B32) : (H.p.any fun x => H.hasB x.1 y) = (H1.p.any fun x => H1.hasB x.1 y) := by
  unfold HM.hasB HM.told; rw [h]
theorem without_ok (bh : Nat) (H : HM) (f : FuncId) [FN P f] (cs : List Value) (pred : Int → Told → Bool) (L : List Chunk) (w : World) (K : Nat → Prop) (S : HS w K bh H L w) (hn : H.p.length ≤ 90)
    (hf : ∀ k (a : Told) w', ExtX w K w' → Ret P f ([Value.int .i64 k, .agg a.cells.toArray] ++ cs).toArray w' (fun z w'' => Ext w' w'' ∧ z = .bool (pred k a))) :
    Ret P 36 #[.pointer (some ⟨bh, 0, none⟩), .func (.func f) #[] cs.toArray] w (fun r w' => ∃ H' ys, HS w K bh H' (.own r 27 32 ys.length (flatP ys) :: L) w' ∧ WithoutR H pred H' ys) := by
  have hnod := S.ok.op.nod
  refine Ret.enter2 Tryz.func36 rfl Tryz.ntmps36 rfl ?_
  refine ZC.seq ?_; refine ZC.region ?_; refine ZL.val (r_assign rfl) rfl ?_; refine ZL.nil ?_; refine ZP.then ?_; refine ZC.seq ?_; refine ZC.region ?_; refine ZL.val (r_assign rfl) rfl ?_; refine ZL.val (r_assign rfl) rfl ?_; refine ZL.nil ?_; refine ZP.then ?_; refine ZC.seq ?_; refine ZC.seq ?_; refine ZC.region ?_; refine ZL.val (r_move rfl) rfl ?_; refine ZL.val (r_nilCheck rfl) rfl ?_; refine ZL.val (r_fieldAddr rfl) rfl ?_
  have M0 : Mem w K (.blk bh (.cells (homeC H.bl H.bp H.seq) 56) :: .blk H.bl (.map H.esl H.ckl) :: .blk H.bp (.map H.esp H.ckp) :: (H.p.map pch ++ L)) w := S.M
  refine ZL.val (r_ld M0 rfl (by rfl)) rfl ?_
  refine ZL.range M0.rebase rfl (M0.ok (.blk H.bp (.map H.esp H.ckp)) (by simp)) rfl (fun ri w1 E1 R1 => ?_)
  have S1 : HS w K bh H (.own (.slice none 0 0) 27 32 0 (flatP []) :: .blk ri (.mapIter (some H.bp) H.ckp #[] H.ckp) :: L) w1 := HS.nilOwn (HS.back (N := [_]) (M0.joinX R1) S.ok (S.tx.mv (Mv.fpf R1))) _ _
  have hH0 : H.at H.esp (fun k => H.told k) = H := by
    have : H.p.map (fun x => (x.1, H.told x.1)) = H.p := by
      conv => rhs; rw [← List.map_id H.p]
      refine List.map_congr_left fun x hx => ?_
      unfold HM.told
      rw [mget_of hnod (k := x.1) (v := x.2) hx]; rfl
    unfold HM.at
    rw [this]
  clear R1 E1
  refine ZL.nil ?_; refine ZP.then ?_; refine ZC.block ?_
  refine ZC.loop (X := List MapEntry × List Int × (Int → PE) × Array MapEntry × Value × List B32) (fun x => [(18, .pointer (some ⟨ri, 0, none⟩)), (5, x.2.2.2.2.1), (6, .slice none 0 0), (0, .pointer (some ⟨bh, 0, none⟩)), (1, .func (.func f) #[] cs.toArray)])
    (fun x w' => HS w K bh (H.at x.2.2.2.1 x.2.2.1) (.own x.2.2.2.2.1 27 32 x.2.2.2.2.2.length (flatP x.2.2.2.2.2) :: .blk ri (.mapIter (some H.bp) H.ckp (x.1.map (·.born)).toArray H.ckp) :: L) w' ∧ Came x.2.2.2.1 H.ckp x.1 ∧ WInv H pred x.1 x.2.1 x.2.2.1 x.2.2.2.2.2)
    (fun x => H.p.length - x.1.length) ([], [], (fun k => H.told k), H.esp, .slice none 0 0, []) ⟨rfl, rfl, rfl, rfl, rfl, trivial⟩ ⟨by simp only [hH0]; exact S1, S.ok.op.came, ⟨rfl, by simp, fun x hx _ => ?_, by simp, by simp⟩⟩ ?_
  · show (mget H.p x.1).getD _ = x.2
    rw [mget_of hnod (k := x.1) (v := x.2) hx]; rfl
  clear S1 hH0
  rintro ⟨pe, vis, cur, es, idv, ids⟩ w1 ⟨S1, hC, hW⟩
  simp only at S1 hC hW ⊢
  generalize hH1 : H.at es cur = H1 at S1
  have hb1 : H1.bp = H.bp ∧ H1.bl = H.bl ∧ H1.seq = H.seq ∧ H1.esp = es ∧ H1.ckp = H.ckp ∧ H1.esl = H.esl ∧ H1.ckl = H.ckl ∧ H1.l = H.l ∧ H1.p = H.p.map (fun x => (x.1, cur x.1)) := by subst hH1; exact ⟨rfl, rfl, rfl, rfl, rfl, rfl, rfl, rfl, rfl⟩
  obtain ⟨hb, hbl, hsq, hes, hck, hesl, hckl, hll, hpp⟩ := hb1
  have hpl : H1.p.length = H.p.length := by rw [hpp]; simp
  have hop := S1.ok.op
  rw [hes, hck] at hop
  have hsz := hop.size
  have hlen := hC.len
  have M1 : Mem w K (.blk ri (.mapIter (some H.bp) H.ckp (pe.map (·.born)).toArray H.ckp) :: .own idv 27 32 ids.length (flatP ids) :: (H1.chs bh ++ L)) w1 := (HS.front (N := [_, _]) S1).1.perm (.swap _ _ _)
  have T1 : TxF (.blk ri (.mapIter (some H.bp) H.ckp (pe.map (·.born)).toArray H.ckp) :: .own idv 27 32 ids.length (flatP ids) :: (H1.chs bh ++ L)) w1 H1.l := (HS.front (N := [_, _]) S1).2.sub fun c hc => by simp only [List.cons_append, List.nil_append, List.mem_cons] at hc ⊢; rcases hc with h | h | h <;> simp [h]
  refine ZC.seq ?_; refine ZC.region ?_
  refine ZL.next hC M1.rebase rfl (M1.ok (.blk H.bp (.map es H.ckp)) (by simp [HM.chs, hb, hes, hck])) rfl (fun hall => ?_) (fun e w2 he hC2 E2 R2 => ?_)
  · have hcov : ∀ x ∈ H.p, x.1 ∈ vis := fun x hx => by
      have h1 : (Value.int .i64 x.1, (cur x.1).1) ∈ es.toList.map (fun e => (e.key, e.val)) := by
        rw [hop.kv, hpp]
        exact List.mem_map.2 ⟨(x.1, cur x.1), List.mem_map.2 ⟨x, hx, rfl⟩, rfl⟩
      obtain ⟨e, he, hke⟩ := List.mem_map.1 h1
      obtain ⟨e', he', hb'⟩ := List.mem_map.1 (hall e he)
      have : e' = e := inj_born hC.born (hC.sub e' he') he hb'
      subst this
      have h2 : e'.key ∈ pe.map (·.key) := List.mem_map_of_mem he'
      rw [hW.keys] at h2
      obtain ⟨k, hk, hk2⟩ := List.mem_map.1 h2
      have h3 : e'.key = .int .i64 x.1 := congrArg Prod.fst hke
      rw [h3] at hk2
      rw [← int_inj _ _ hk2]; exact hk
    have hvl : vis.length ≤ 90 := by
      have := congrArg List.length hW.keys
      simp only [List.length_map] at this
      omega
    have hil : ids.length ≤ 100000 := by have := hW.len; omega
    have hO : OwnR w1 27 32 idv ids.length (flatP ids) := M1.ok (.own idv 27 32 ids.length (flatP ids)) (by simp)
    refine ZL.val (r_extract rfl rfl) rfl ?_; refine ZL.nil ?_; refine ZP.then ?_; refine ZC.seq ?_; refine ZC.condF rfl ?_; refine ZC.exit ?_; refine ZP.thenX ?_; refine ZP.thenX ?_; refine ZP.blockE ?_; refine ZP.then ?_; refine ZC.seq ?_; refine ZC.seq ?_; refine ZC.region ?_; refine ZL.val (r_move rfl) rfl ?_
    refine ZL.call (r_call rfl) rfl (Rising_ok idv ids w1 No (hO.slc (fun _ _ h => h)) hil) (fun v2 w2 ⟨E2, ys, hys, hmem, N2⟩ => ?_)
    have S2 : HS w K bh H1 (.own v2 27 32 ys.length (flatP ys) :: L) w2 := (HS.drop (N := [_, _]) S1).beside ((Mem.start w1 No).addNew E2 N2)
    clear M1
    have hyl : ys.length ≤ 100000 := Nat.le_trans (nodup_len (ltP_nodup hys) fun a ha => (hmem a).1 ha) hil
    obtain ⟨p2, c2, rfl⟩ := N2.own.shape
    refine ZL.val (r_lenSlice rfl) rfl ?_; refine ZL.val (r_move rfl) rfl ?_; refine ZL.nil ?_; refine ZP.then ?_; refine ZC.block ?_
    refine ZC.loop (X := Nat × Value × List B32 × HM) (fun x => [(53, .int .i64 x.1), (52, .int .i64 (ys.length : Int)), (51, .slice p2 ys.length c2), (6, x.2.1), (0, .pointer (some ⟨bh, 0, none⟩))])
      (fun x w' => HS w K bh x.2.2.2 (.own x.2.1 27 32 x.2.2.1.length (flatP x.2.2.1) :: .own (.slice p2 ys.length c2) 27 32 ys.length (flatP ys) :: L) w' ∧ x.1 ≤ ys.length ∧ x.2.2.1 = (ys.take x.1).filter (fun y => !(H1.p.any fun x => H1.hasB x.1 y)) ∧
        x.2.2.2.p = H1.p ∧ x.2.2.2.seq = H1.seq ∧ x.2.2.2.l = H.l.filter (fun e => decide (e.1 ∉ x.2.2.1))) (fun x => ys.length - x.1) (0, .slice none 0 0, [], H1) ⟨rfl, rfl, rfl, rfl, rfl, trivial⟩ ⟨S2.nilOwn _ _, Nat.zero_le _, rfl, rfl, rfl, ?_⟩ ?_
    · show H1.l = H.l.filter _
      rw [hll]; exact (List.filter_eq_self.2 (by simp)).symm
    clear S2
    rintro ⟨j, outv, out, H2⟩ w3 ⟨S3, hj, hout, hp2, hs2, hl2⟩
    simp only at S3 hj hout hp2 hs2 hl2 ⊢
    have hol : out.length ≤ 100000 := by
      have h1 : out.length ≤ (ys.take j).length := by rw [hout]; exact List.length_filter_le _ _
      rw [List.length_take] at h1; omega
    refine ZC.seq ?_; refine ZC.region ?_; refine ZL.val (r_lss rfl rfl) rfl ?_; refine ZL.nil ?_; refine ZP.then ?_; refine ZC.seq ?_
    refine ZC.condD rfl (fun hc => ?_) (fun hc => ?_)
    · have hj' : j < ys.length := by omega
      have M3 := (HS.front (N := [_, _]) S3).1
      have T3 := (HS.front (N := [_, _]) S3).2
      simp only [List.cons_append, List.nil_append] at M3 T3
      have hO3 : OwnR w3 27 32 (.slice p2 ys.length c2) ys.length (flatP ys) := M3.ok (.own (.slice p2 ys.length c2) 27 32 ys.length (flatP ys)) (by simp)
      obtain ⟨g, o, cs', e, fz, r, rfl, hh, hx, hlen, hE, hcell, hsz, hext⟩ := ListR.elem (by decide) (ids_list (hO3.slc (X := No) (fun _ _ h => h)) rfl) hj'
      rw [show r = ys[j].cells from hE] at hext
      refine ZC.skip ?_; refine ZP.then ?_; refine ZC.seq ?_; refine ZC.block ?_; refine ZC.seq ?_; refine ZC.region ?_
      refine ZL.val (r_idxS j rfl rfl rfl hj') rfl ?_
      refine ZL.val (r_loadN rfl hh hsz hext) rfl ?_
      generalize hid : ys[j] = id
      refine ZL.alloc M3.rebase rfl rfl (fun b13 w4 R4 => ?_)
      refine ZL.stW R4 rfl rfl (cs' := id.cells.toArray) rfl (by simp) (B32.size _) (B32.one _) (fun w5 R5 => ?_)
      have S5 : HS w K bh H2 (.blk b13 (.cells id.cells.toArray 27) :: .own outv 27 32 out.length (flatP out) :: .own (.slice (some ⟨g, o, none⟩) ys.length c2) 27 32 ys.length (flatP ys) :: L) w5 :=
        HS.back (N := [_, _, _]) (M3.joinX R5) S3.ok (T3.mv (Mv.fpf R5))
      have M5 := M3.joinX R5
      clear R4 R5 M3 T3
      refine ZL.nil ?_; refine ZP.then ?_; refine ZC.seq ?_; refine ZC.region ?_; refine ZL.val (r_move rfl) rfl ?_
      refine ZL.val (r_ldW M5 rfl (B32.size _)) rfl ?_
      refine ZL.call (r_call rfl) rfl (nobody_ok bh H2 id _ w5 S5.rebase.M S5.ok S5.rebase.tx) (fun v6 w6 ⟨esl', l', N6, ok6, tx6, hv, hl6⟩ => ?_)
      subst hv
      have S6 := S5.join ⟨N6, ok6, tx6⟩
      clear N6 ok6 tx6 M5 S5
      rw [HM.anyB hp2] at hl6 ⊢
      have htk : ys.take (j + 1) = ys.take j ++ [id] := by rw [List.take_succ_eq_append_getElem hj', hid]
      have hnin : id ∉ ys.take j := fun hm => by
        have hnd := ltP_nodup hys
        rw [← List.take_append_drop (j + 1) ys, htk] at hnd
        have := (List.nodup_append.1 (List.nodup_append.1 hnd).1).2.2 id hm id (by simp)
        exact this rfl
      refine ZL.nil ?_; refine ZP.then ?_
      refine ZC.cond rfl (fun hb => ?_) (fun hb => ?_)
      · have hb' : (H1.p.any fun x => H1.hasB x.1 id) = false := by simpa using hb
        have M6 := (HS.front (N := [_, _, _]) S6).1
        have T6 := (HS.front (N := [_, _, _]) S6).2
        simp only [List.cons_append, List.nil_append] at M6 T6
        refine ZC.region ?_; refine ZL.val (r_move rfl) rfl ?_
        refine ZL.val (r_ldW M6 rfl (B32.size _)) rfl ?_
        refine ZL.bslice M6.rebase rfl rfl rfl (by simp [Value.cells, B32.len]) (by decide) rfl (fun g4 w7 R7 => ?_)
        refine ZL.append R7 rfl rfl (R7.own.slc (X := No) (fun _ _ h => h)) (by intro x hx; simp only [List.append_nil, List.toList_toArray] at hx; exact B32.oneL _ x hx) (by simp only [maxLen]; omega) (by omega) rfl (fun outv' w8 R8 => ?_)
        have R9 := R8.drop.drop
        have e9 : ∀ xs : List Value, xs = flatP (out ++ [id]) → Chunk.own outv' 27 32 (out.length + 1) xs = .own outv' 27 32 (out ++ [id]).length (flatP (out ++ [id])) := fun xs hx => by subst hx; simp
        have T9 := T6.mv (Mv.fpf R9)
        have M9 := M6.joinX R9
        rw [e9 _ (by simp [flatP])] at M9 T9
        have S9 := HS.back (N := [_, _]) M9 S6.ok T9
        clear R7 R8 R9 M9 T9 M6 T6
        refine ZL.val (r_assign rfl) rfl ?_; refine ZL.nil ?_; refine ZP.blockN ?_; refine ZP.then ?_; refine ZC.region ?_; refine ZL.val (r_add rfl rfl (wrap_i64 (by omega) (by omega))) rfl ?_; refine ZL.val (r_move rfl) rfl ?_; refine ZL.nil ?_
        refine ZP.round (j + 1, outv', out ++ [id], { H2 with esl := esl', l := l' }) ⟨rfl, rfl, rfl, rfl, rfl, trivial⟩ ⟨S9, by omega, ?_, hp2, hs2, ?_⟩ (by simp only; omega)
        · simp only
          rw [htk, List.filter_append, ← hout]
          simp [hb']
        · simp only
          rw [hl6, hb', hl2]
          simp only [Bool.false_eq_true, if_false, mdel, List.filter_filter]
          refine List.filter_congr fun x _ => ?_
          rw [Bool.eq_iff_iff]
          simp only [ne_eq, Bool.and_eq_true, decide_eq_true_eq, List.mem_append, List.mem_singleton, not_or]
          exact And.comm
      · have hb' : (H1.p.any fun x => H1.hasB x.1 id) = true := by simpa using hb
        refine ZC.skip ?_; refine ZP.blockN ?_; refine ZP.then ?_; refine ZC.region ?_; refine ZL.val (r_add rfl rfl (wrap_i64 (by omega) (by omega))) rfl ?_; refine ZL.val (r_move rfl) rfl ?_; refine ZL.nil ?_
        refine ZP.round (j + 1, outv, out, { H2 with esl := esl', l := l' }) ⟨rfl, rfl, rfl, rfl, rfl, trivial⟩ ⟨HS.drop (N := [_]) S6, by omega, ?_, hp2, hs2, ?_⟩ (by simp only; omega)
        · simp only
          rw [htk, List.filter_append, ← hout]
          simp [hb']
        · simp only
          rw [hl6, hb', if_pos rfl]
          exact hl2
    · have hj' : j = ys.length := by omega
      subst hj'
      rw [List.take_length] at hout
      refine ZC.exit ?_; refine ZP.thenX ?_; refine ZP.thenX ?_; refine ZP.blockE ?_; refine ZP.then ?_; refine ZC.seq ?_; refine ZC.region ?_; refine ZL.val (r_move rfl) rfl ?_
      have M3 := (HS.front (N := [_, _]) S3).1
      simp only [List.cons_append, List.nil_append] at M3
      refine ZL.call (r_call rfl) rfl (clip32_ok outv _ _ _ _ w3 M3.own) (fun v4 w4 h4 => ?_)
      obtain ⟨rfl, hO4, hb4⟩ := h4
      have S4 := S3.reown hO4 hb4
      have S5 : HS w K bh H2 (.own v4 27 32 out.length (flatP out) :: L) w3 := by
        have F := HS.front (N := [_, _]) S4
        exact HS.back (N := [_]) (F.1.perm (.swap _ _ _)).drop S4.ok (F.2.sub fun c hc => by simp only [List.cons_append, List.nil_append, List.mem_cons] at hc ⊢; rcases hc with h | h <;> simp [h])
      refine ZL.val (r_assign rfl) rfl ?_; refine ZL.nil ?_; refine ZP.then ?_; refine ZC.ret ?_
      refine ZP.ret1 rfl rfl ⟨H2, out, S5, ?_, ?_, ?_, hl2, hs2.trans hsq⟩
      · rw [hp2, hpp, List.map_map]
        refine List.map_congr_left fun x hx => ?_
        simp only [Function.comp_apply]
        rw [hW.yes x hx (hcov x hx)]
      · rw [hout]; exact hys.filter _
      · intro x
        rw [hout, List.mem_filter, hmem, hW.mem, hp2]
        constructor
        · rintro ⟨⟨q, hq, -, h⟩, hn⟩
          refine ⟨⟨q, hq, h⟩, fun q' hq' => ?_⟩
          simp only [Bool.not_eq_true', List.any_eq_false] at hn
          have := hn q' hq'
          rw [HM.hasB_eq S1.ok hq'] at this
          simpa using this
        · rintro ⟨⟨q, hq, h⟩, hn⟩
          refine ⟨⟨q, hq, hcov q hq, h⟩, ?_⟩
          simp only [Bool.not_eq_true', List.any_eq_false]
          intro q' hq'
          rw [HM.hasB_eq S1.ok hq']
          simpa using hn q' hq'
  · obtain ⟨φ, hφ, hkv⟩ := hop.phi dPE
    obtain ⟨hke, hve⟩ := hkv e he
    have hm1 : φ e ∈ H1.p := by rw [← hφ]; exact List.mem_map_of_mem he
    rw [hpp] at hm1
    obtain ⟨x, hx, hxe⟩ := List.mem_map.1 hm1
    rw [← hxe] at hke hve
    simp only at hke hve
    have hnv : x.1 ∉ vis := fun hv => by
      have h2 : Value.int .i64 x.1 ∈ pe.map (·.key) := by rw [hW.keys]; exact List.mem_map_of_mem hv
      obtain ⟨e', he', hk'⟩ := List.mem_map.1 h2
      have : e' = e := hop.keyInj int_inj (hC.sub e' he') he (by rw [hk', hke])
      subst this
      have := hC2.nod
      rw [List.map_append] at this
      exact (List.nodup_append.1 this).2.2 _ (List.mem_map_of_mem (f := (·.born)) he') _ (by simp) rfl
    have hcx := hW.no x hx hnv
    have hxm : (x.1, cur x.1) ∈ H1.p := by rw [hpp]; exact List.mem_map.2 ⟨x, hx, rfl⟩
    have hx1 := S1.ok.few _ hxm
    obtain ⟨k, v0, l0⟩ := x
    simp only at hke hve hnv hcx hxm hx1
    rw [hcx] at hve hxm hx1
    have M2 := M1.joinX R2
    have T2 := T1.mv (Mv.fpf R2)
    have S2 : HS w K bh H1 (.own idv 27 32 ids.length (flatP ids) :: .blk ri (.mapIter (some H.bp) H.ckp ((pe ++ [e]).map (·.born)).toArray H.ckp) :: L) w2 :=
      HS.back (N := [_, _]) (M2.perm (.swap _ _ _)) S1.ok (T2.sub fun c hc => by simp only [List.cons_append, List.nil_append, List.mem_cons] at hc ⊢; rcases hc with h | h | h <;> simp [h])
    have hO0 : OwnAt w2 71 34 v0 l0.length (tflat l0) := M2.ok (pch (k, (v0, l0))) (by simp only [HM.chs, List.cons_append, List.mem_cons, List.mem_append]; exact .inr (.inr (.inr (.inr (.inr (.inl (List.mem_map_of_mem hxm)))))))
    obtain ⟨p0, c0, rfl⟩ := hO0.shape
    have hxmk : ∀ y ∈ H.p, y.1 = k → y.2 = (.slice p0 l0.length c0, l0) := fun y hy hyk => by
      have h1 := mget_of hnod (k := y.1) (v := y.2) hy
      have h2 := mget_of hnod hx
      rw [hyk, h2] at h1
      exact (Option.some.inj h1).symm
    clear R2 M1 T1 S1 hO0 T2
    refine ZL.val (r_extract rfl rfl) rfl ?_; refine ZL.nil ?_; refine ZP.then ?_; refine ZC.seq ?_; refine ZC.condT rfl ?_; refine ZC.skip ?_; refine ZP.then ?_; refine ZC.block ?_; refine ZC.seq ?_; refine ZC.region ?_
    refine ZL.val ((r_entry hC2 rfl (M2.ok (.blk ri _) (List.mem_cons_self ..)) (M2.ok (.blk H.bp (.map es H.ckp)) (by simp [HM.chs, hb, hes, hck]))).eq (v' := .tuple #[.int .i64 k, .slice p0 l0.length c0]) (by rw [hke, hve])) rfl ?_
    refine ZL.val (r_extract rfl rfl) rfl ?_; refine ZL.val (r_extract rfl rfl) rfl ?_; refine ZL.val (r_assign rfl) rfl ?_; refine ZL.val (r_assign rfl) rfl ?_; refine ZL.nil ?_; refine ZP.then ?_; refine ZC.seq ?_; refine ZC.region ?_; refine ZL.val (r_assign rfl) rfl ?_; refine ZL.nil ?_; refine ZP.then ?_; refine ZC.seq ?_; refine ZC.seq ?_; refine ZC.region ?_; refine ZL.val (r_move rfl) rfl ?_; refine ZL.val (r_lenSlice rfl) rfl ?_; refine ZL.val (r_move rfl) rfl ?_; refine ZL.nil ?_; refine ZP.then ?_; refine ZC.block ?_
    refine ZC.loop (X := Nat × Value × List Told × Value × List B32) (fun x => [(26, .int .i64 x.1), (25, .int .i64 (l0.length : Int)), (24, .slice p0 l0.length c0), (9, x.2.1), (5, x.2.2.2.1), (7, .int .i64 k), (18, .pointer (some ⟨ri, 0, none⟩)), (6, .slice none 0 0), (0, .pointer (some ⟨bh, 0, none⟩)), (1, .func (.func f) #[] cs.toArray)])
      (fun x w' => HS w K bh H1 (.own x.2.1 71 34 x.2.2.1.length (tflat x.2.2.1) :: .own x.2.2.2.1 27 32 x.2.2.2.2.length (flatP x.2.2.2.2) :: .blk ri (.mapIter (some H.bp) H.ckp ((pe ++ [e]).map (·.born)).toArray H.ckp) :: L) w' ∧ x.1 ≤ l0.length ∧
        x.2.2.1 = (l0.take x.1).filter (fun a => !pred k a) ∧ x.2.2.2.2 = ids ++ ((l0.take x.1).filter fun a => pred k a).map Told.id) (fun x => l0.length - x.1) (0, .slice none 0 0, [], idv, ids) ⟨rfl, rfl, rfl, rfl, rfl, rfl, rfl, rfl, rfl, rfl, trivial⟩ ⟨S2.nilOwn _ _, Nat.zero_le _, rfl, by simp⟩ ?_
    clear S2 M2
    rintro ⟨j, leftv, lf, idv2, ids2⟩ w3 ⟨S3, hj, hlf, hid2⟩
    simp only at S3 hj hlf hid2 hx1 ⊢
    have hi2 : ids2.length ≤ 1000 * vis.length + 1000 := by
      have h1 := hW.len
      have h2 : (((l0.take j).filter fun a => pred k a).map Told.id).length ≤ j := by
        rw [List.length_map]; exact Nat.le_trans (List.length_filter_le _ _) (by rw [List.length_take]; omega)
      rw [hid2, List.length_append]; omega
    have hlf2 : lf.length ≤ 1000 := by
      have h2 : ((l0.take j).filter fun a => !pred k a).length ≤ j := Nat.le_trans (List.length_filter_le _ _) (by rw [List.length_take]; omega)
      rw [hlf]; omega
    have hvl : vis.length ≤ 90 := by
      have := congrArg List.length hW.keys
      simp only [List.length_map] at this
      omega
    have M3 := (HS.front (N := [_, _, _]) S3).1
    have T3 := (HS.front (N := [_, _, _]) S3).2
    simp only [List.cons_append, List.nil_append] at M3 T3
    refine ZC.seq ?_; refine ZC.region ?_; refine ZL.val (r_lss rfl rfl) rfl ?_; refine ZL.nil ?_; refine ZP.then ?_; refine ZC.seq ?_
    refine ZC.condD rfl (fun hc => ?_) (fun hc => ?_)
    · have hj' : j < l0.length := by omega
      have hO3 : OwnAt w3 71 34 (.slice p0 l0.length c0) l0.length (tflat l0) := M3.ok (pch (k, (.slice p0 l0.length c0, l0))) (by simp only [HM.chs, List.cons_append, List.mem_cons, List.mem_append]; exact .inr (.inr (.inr (.inr (.inr (.inr (.inl (List.mem_map_of_mem hxm))))))))
      obtain ⟨g, o, cs3, e3, fz, r, rfl, hh, hxx, hlen3, hE, hcell, hsz3, hext⟩ := ListR.elem (by decide) (told_list (hO3.slc (X := No) (fun _ _ h => h))) hj'
      rw [show r = l0[j].cells from hE] at hext
      have htk : l0.take (j + 1) = l0.take j ++ [l0[j]] := List.take_succ_eq_append_getElem hj'
      generalize hlj : l0[j] = a at hext htk
      refine ZC.skip ?_; refine ZP.then ?_; refine ZC.seq ?_; refine ZC.block ?_; refine ZC.seq ?_; refine ZC.region ?_
      refine ZL.val (r_idxS j rfl rfl rfl hj') rfl ?_
      refine ZL.val (r_loadN rfl hh hsz3 hext) rfl ?_
      refine ZL.alloc M3.rebase rfl rfl (fun b11 w4 R4 => ?_)
      refine ZL.stW R4 rfl rfl (cs' := a.cells.toArray) rfl (by rfl) (by simp [a.len]) (by simpa [List.all_eq_true] using a.one) (fun w5 R5 => ?_)
      have M5 := M3.joinX R5
      have T5 := T3.mv (Mv.fpf R5)
      clear R4 R5 M3 T3 hO3 hh hsz3 hext hcell
      refine ZL.nil ?_; refine ZP.then ?_; refine ZC.seq ?_; refine ZC.region ?_; refine ZL.val (r_move rfl) rfl ?_; refine ZL.val (r_move rfl) rfl ?_
      refine ZL.val (r_ldW M5 rfl (by simp [a.len])) rfl ?_
      refine ZL.call (r_callv (cs := cs) rfl rfl) rfl (hf k a w5 M5.ext) (fun v6 w6 ⟨E6, hv⟩ => ?_)
      subst hv
      have M6 := M5.ext' E6
      have T6 := T5.mv (Mv.ext E6)
      clear M5 T5
      refine ZL.nil ?_; refine ZP.then ?_
      refine ZC.cond rfl (fun hb => ?_) (fun hb => ?_)
      · refine ZC.region ?_; refine ZL.val (r_move rfl) rfl ?_; refine ZL.val (r_fieldAddr rfl) rfl ?_
        refine ZL.val (r_loadN rfl (M6.get (b := b11) inferInstance) (by simp [a.len]) a.idAt) rfl ?_
        refine ZL.bslice M6.rebase rfl rfl rfl (by simp [Value.cells, B32.len]) (by decide) rfl (fun g4 w7 R7 => ?_)
        refine ZL.append R7 rfl rfl (R7.own.slc (X := No) (fun _ _ h => h)) (by intro x hx; simp only [List.append_nil, List.toList_toArray] at hx; exact B32.oneL _ x hx) (by simp only [maxLen]; omega) (by omega) rfl (fun idv3 w8 R8 => ?_)
        have R9 := R8.drop.drop
        have e9 : ∀ xs : List Value, xs = flatP (ids2 ++ [a.id]) → Chunk.own idv3 27 32 (ids2.length + 1) xs = .own idv3 27 32 (ids2 ++ [a.id]).length (flatP (ids2 ++ [a.id])) := fun xs hx => by subst hx; simp
        have T9 := T6.mv (Mv.fpf R9)
        have M9 := M6.joinX R9
        rw [e9 _ (by simp [flatP])] at M9 T9
        have S9 := HS.back (N := [_, _, _]) M9 S3.ok T9
        clear R7 R8 R9 M9 T9 M6 T6
        refine ZL.val (r_assign rfl) rfl ?_; refine ZL.nil ?_; refine ZP.blockN ?_; refine ZP.then ?_; refine ZC.region ?_; refine ZL.val (r_add rfl rfl (wrap_i64 (by omega) (by omega))) rfl ?_; refine ZL.val (r_move rfl) rfl ?_; refine ZL.nil ?_
        refine ZP.round (j + 1, leftv, lf, idv3, ids2 ++ [a.id]) ⟨rfl, rfl, rfl, rfl, rfl, rfl, rfl, rfl, rfl, rfl, trivial⟩ ⟨S9, by omega, ?_, ?_⟩ (by simp only; omega)
        · simp only
          rw [htk, List.filter_append, ← hlf]
          simp [hb]
        · simp only
          rw [htk, List.filter_append, List.map_append, ← List.append_assoc, ← hid2]
          simp [hb]
      · refine ZC.region ?_; refine ZL.val (r_move rfl) rfl ?_
        refine ZL.val (r_ldW M6 rfl (by simp [a.len])) rfl ?_
        refine ZL.bslice M6.rebase rfl rfl rfl (by simp [Value.cells, a.len]) (by decide) rfl (fun g4 w7 R7 => ?_)
        refine ZL.append R7 rfl rfl (R7.own.slc (X := No) (fun _ _ h => h)) (by intro x hx; simp only [List.append_nil, List.toList_toArray] at hx; exact a.one x hx) (by simp only [maxLen]; omega) (by omega) rfl (fun leftv2 w8 R8 => ?_)
        have R9 := R8.drop.drop
        have e9 : ∀ xs : List Value, xs = tflat (lf ++ [a]) → Chunk.own leftv2 71 34 (lf.length + 1) xs = .own leftv2 71 34 (lf ++ [a]).length (tflat (lf ++ [a])) := fun xs hx => by subst hx; simp
        have T9 := T6.mv (Mv.fpf R9)
        have M9 := M6.joinX R9
        rw [e9 _ (by simp [tflat])] at M9 T9
        have S9 := HS.back (N := [_, _, _]) M9 S3.ok T9
        clear R7 R8 R9 M9 T9 M6 T6
        refine ZL.val (r_assign rfl) rfl ?_; refine ZL.nil ?_; refine ZP.blockN ?_; refine ZP.then ?_; refine ZC.region ?_; refine ZL.val (r_add rfl rfl (wrap_i64 (by omega) (by omega))) rfl ?_; refine ZL.val (r_move rfl) rfl ?_; refine ZL.nil ?_
        refine ZP.round (j + 1, leftv2, lf ++ [a], idv2, ids2) ⟨rfl, rfl, rfl, rfl, rfl, rfl, rfl, rfl, rfl, rfl, trivial⟩ ⟨S9, by omega, ?_, ?_⟩ (by simp only; omega)
        · simp only
          rw [htk, List.filter_append, ← hlf]
          simp [hb]
        · simp only
          rw [htk, List.filter_append, hid2]
          simp [hb]
    · have hj' : j = l0.length := by omega
      subst hj'
      rw [List.take_length] at hlf hid2
      have hmk : mget H1.p k = some (.slice p0 l0.length c0, l0) := mget_of S3.ok.op.nod hxm
      have M4 : Mem w K (.own leftv 71 34 lf.length (tflat lf) :: .own idv2 27 32 ids2.length (flatP ids2) :: .blk ri (.mapIter (some H.bp) H.ckp ((pe ++ [e]).map (·.born)).toArray H.ckp) :: .blk bh (.cells (homeC H1.bl H1.bp H1.seq) 56) :: .blk H1.bl (.map H1.esl H1.ckl) :: .blk H1.bp (.map H1.esp H1.ckp) :: (H1.p.map pch ++ L)) w3 := M3
      refine ZC.exit ?_; refine ZP.thenX ?_; refine ZP.thenX ?_; refine ZP.blockE ?_; refine ZP.then ?_; refine ZC.region ?_; refine ZL.val (r_move rfl) rfl ?_; refine ZL.val (r_nilCheck rfl) rfl ?_; refine ZL.val (r_fieldAddr rfl) rfl ?_
      refine ZL.val (r_ld M4 rfl (by rfl)) rfl ?_
      refine ZL.val (r_move rfl) rfl ?_; refine ZL.val (r_move rfl) rfl ?_
      refine ZL.mset (t := 54) (ke := Value.int .i64) (ve := (Prod.fst : PE → Value)) (k := k) (v := ((leftv, lf) : PE)) M4.rebase rfl rfl rfl S3.ok.op (by rw [hmk]; rfl) (fun es2 w5 hO5 hkb5 R5 => ?_)
      have R6 := Mem.takeP (pre := [_, _, _, _, _, _]) (k := k) S3.ok.op.nod R5
      simp only [List.cons_append, List.nil_append] at R6
      have R7 : Mem w3 _ (pch (k, (leftv, lf)) :: _) w5 := R6.drop.ownSub
      have R8 := Mem.giveP (pre := [_, _, _, _, _]) S3.ok.op.nod R7
      simp only [List.cons_append, List.nil_append] at R8
      have T8 := T3.mv (Mv.fpf R8)
      have M8 := M4.joinX R8
      clear R5 R6 R7 R8 M4 M3 T3
      obtain ⟨pe2, hpk, hC5⟩ := (hes ▸ hC2 : Came H1.esp H.ckp (pe ++ [e])).repick hkb5
      have hpb : pe2.map (·.born) = (pe ++ [e]).map (·.born) := by
        have := congrArg (List.map Prod.snd) hpk
        rw [List.map_map, List.map_map] at this
        exact this
      have hpkey : pe2.map (·.key) = (pe ++ [e]).map (·.key) := by
        have := congrArg (List.map Prod.fst) hpk
        rw [List.map_map, List.map_map] at this
        exact this
      have hp5 : (H.at es2 (fun q => if q = k then (leftv, lf) else cur q)).p = mput H1.p k (leftv, lf) := by
        unfold mput
        rw [hmk]
        simp only [Option.isSome_some, if_true]
        rw [hpp, List.map_map]
        refine List.map_congr_left fun y hy => ?_
        simp only [Function.comp_apply]
        split <;> rfl
      have S8 : HS w K bh (H.at es2 (fun q => if q = k then (leftv, lf) else cur q)) (.own idv2 27 32 ids2.length (flatP ids2) :: .blk ri (.mapIter (some H.bp) H.ckp (pe2.map (·.born)).toArray H.ckp) :: L) w5 := by
        rw [hpb]
        refine HS.back (N := [_, _]) ?_ ⟨?_, ?_, ?_, ?_⟩ ?_
        · unfold HM.chs
          rw [hp5]
          have := M8
          rw [hb, hbl, hsq, hck, hesl, hckl] at this
          exact this
        · exact S.ok.ol
        · rw [hp5]
          rw [hck] at hO5
          exact hO5
        · rw [hp5]
          intro x hx
          have h9 := mget_of (mput_nodup S3.ok.op.nod) (k := x.1) (v := x.2) hx
          by_cases hk : x.1 = k
          · rw [hk, mget_put] at h9
            rw [← Option.some.inj h9]
            exact hlf2
          · rw [mget_put_ne hk] at h9
            exact S3.ok.few x (mget_mem h9)
        · exact S.ok.lf
        · unfold HM.chs
          rw [hp5]
          have := T8
          rw [hb, hbl, hsq, hck, hesl, hckl, hll] at this
          exact this
      refine ZL.nil ?_; refine ZP.blockN ?_
      refine ZP.round (pe2, vis ++ [k], (fun q => if q = k then (leftv, lf) else cur q), es2, idv2, ids2) ⟨rfl, rfl, rfl, rfl, rfl, trivial⟩ ⟨S8, hC5, ⟨?_, ?_, ?_, ?_, ?_⟩⟩ ?_
      · simp only
        rw [hpkey, List.map_append, List.map_append, hW.keys]
        simp [hke]
      · intro y hy hyv
        simp only
        by_cases hyk : y.1 = k
        · rw [if_pos hyk, hxmk y hy hyk, hyk]
          exact hlf
        · rw [if_neg hyk]
          simp only [List.mem_append, List.mem_singleton, hyk, or_false] at hyv
          exact hW.yes y hy hyv
      · intro y hy hyv
        simp only [List.mem_append, List.mem_singleton, not_or] at hyv
        simp only
        rw [if_neg hyv.2]
        exact hW.no y hy hyv.1
      · intro y
        simp only
        rw [hid2, List.mem_append, hW.mem]
        constructor
        · rintro (⟨q, hq, hqv, h⟩ | h)
          · exact ⟨q, hq, by simp [hqv], h⟩
          · obtain ⟨a, ha, hay⟩ := List.mem_map.1 h
            obtain ⟨ha1, ha2⟩ := List.mem_filter.1 ha
            exact ⟨_, hx, by simp, a, ha1, ha2, hay⟩
        · rintro ⟨q, hq, hqv, a, ha, hpa, hay⟩
          by_cases hqk : q.1 = k
          · right
            rw [hxmk q hq hqk] at ha
            rw [hqk] at hpa
            exact List.mem_map.2 ⟨a, List.mem_filter.2 ⟨ha, hpa⟩, hay⟩
          · left
            simp only [List.mem_append, List.mem_singleton, hqk, or_false] at hqv
            exact ⟨q, hq, hqv, a, ha, hpa, hay⟩
      · simp only [List.length_append, List.length_cons, List.length_nil]; omega
      · have h1 := congrArg List.length hpb
        have h2 := hC2.len
        simp only [List.length_map, List.length_append, List.length_cons, List.length_nil] at h1 h2 ⊢
        omega
end Go.Proofs.YtibobcjfjnoclaaGreatDoor.Z
end
section
/- The home's Drop, Gone, Wants, Get. -/
set_option linter.unusedVariables false
set_option linter.unusedSimpArgs false
set_option linter.unusedSectionVars false
set_option maxRecDepth 100000
set_option maxHeartbeats 4000000
namespace Go.Proofs.YtibobcjfjnoclaaGreatDoor.Z
open Go Go.RowKit

theorem drop1_ok (k : Int) (a : Told) (b2 : Nat) (id : B32) (e : TypeId) (fz : Nat × Nat) (w : World) (h2 : w.heap[b2]? = some (.cells id.cells.toArray e fz)) :
    Ret P 37 #[.int .i64 k, .agg a.cells.toArray, .pointer (some ⟨b2, 0, none⟩)] w (fun r w' => Ext w w' ∧ r = .bool (decide (a.id = id))) := by
  refine Ret.enter3 Tryz.func37 rfl Tryz.ntmps37 rfl ?_
  refine ZC.seq ?_; refine ZC.region ?_
  refine ZL.box (Mem.start w No) rfl rfl rfl (fun b4 w1 M1 => ?_)
  refine ZL.val (r_assign rfl) rfl ?_; refine ZL.nil ?_; refine ZP.then ?_; refine ZC.seq ?_; refine ZC.region ?_; refine ZL.val (r_fieldAddr rfl) rfl ?_
  refine ZL.val (r_loadN rfl (M1.get (b := b4) inferInstance) (by simp [Told.len]) a.idAt) rfl ?_
  refine ZL.val (r_loadW rfl (M1.ext.at h2 (fun h => h)) (B32.size _)) rfl ?_
  refine ZL.val (r_eqlB32 rfl rfl) rfl ?_
  refine ZL.val (r_assign rfl) rfl ?_; refine ZL.nil ?_; refine ZP.then ?_; refine ZC.ret ?_
  exact ZP.ret1 rfl rfl ⟨M1.ext, rfl⟩
theorem gone1_ok (k k' : Int) (a : Told) (b2 : Nat) (e : TypeId) (fz : Nat × Nat) (w : World) (h2 : w.heap[b2]? = some (.cells #[.int .i64 k'] e fz)) :
    Ret P 39 #[.int .i64 k, .agg a.cells.toArray, .pointer (some ⟨b2, 0, none⟩)] w (fun r w' => Ext w w' ∧ r = .bool (decide (k = k'))) := by
  refine Ret.enter3 Tryz.func39 rfl Tryz.ntmps39 rfl ?_
  refine ZC.seq ?_; refine ZC.region ?_
  refine ZL.box (Mem.start w No) rfl rfl rfl (fun b4 w1 M1 => ?_)
  refine ZL.val (r_assign rfl) rfl ?_; refine ZL.nil ?_; refine ZP.then ?_; refine ZC.seq ?_; refine ZC.region ?_; refine ZL.val (r_move rfl) rfl ?_
  refine ZL.val (r_load1 rfl (M1.ext.at h2 (fun h => h)) rfl) rfl ?_
  refine ZL.val (r_eql rfl rfl) rfl ?_; refine ZL.val (r_assign rfl) rfl ?_; refine ZL.nil ?_; refine ZP.then ?_; refine ZC.ret ?_
  exact ZP.ret1 rfl rfl ⟨M1.ext, rfl⟩
theorem wants1_ok (r : List Value) (a : TIn) (b1 : Nat) (id : B32) (e : TypeId) (fz : Nat × Nat) (w : World) (X : Nat → Prop) (h : InE w X r a) (h1 : w.heap[b1]? = some (.cells id.cells.toArray e fz)) :
    Ret P 66 #[.agg r.toArray, .pointer (some ⟨b1, 0, none⟩)] w (fun z w' => Ext w w' ∧ z = .bool (decide (a.prev = id))) := by
  obtain ⟨sv, wv, rfl, -, -⟩ := h
  refine Ret.enter2 Tryz.func66 rfl Tryz.ntmps66 rfl ?_
  refine ZC.seq ?_; refine ZC.region ?_
  refine ZL.box (Mem.start w No) rfl rfl rfl (fun b4 w1 M1 => ?_)
  refine ZL.val (r_assign rfl) rfl ?_; refine ZL.nil ?_; refine ZP.then ?_; refine ZC.seq ?_; refine ZC.region ?_; refine ZL.val (r_fieldAddr rfl) rfl ?_
  refine ZL.val (r_loadN rfl (M1.get (b := b4) inferInstance) (by simp [B32.len]) (vs := a.prev.cells.toArray) (by apply Array.ext'; simp [B32.len])) rfl ?_
  refine ZL.val (r_loadW rfl (M1.ext.at h1 (fun h => h)) (B32.size _)) rfl ?_
  refine ZL.val (r_eqlB32 rfl rfl) rfl ?_
  refine ZL.val (r_assign rfl) rfl ?_; refine ZL.nil ?_; refine ZP.then ?_; refine ZC.ret ?_
  exact ZP.ret1 rfl rfl ⟨M1.ext, rfl⟩

theorem HS.fresh {w0 w w' : World} {X : Nat → Prop} {bh : Nat} {H : HM} {L : List Chunk} (h : HS w0 X bh H L w) {b : Nat} (hb : w.heap.size ≤ b) : ¬ fpIn (H.chs bh ++ L) b := fun ⟨c, hc, hg⟩ => by
  have := Chunk.lt (h.M.ok c hc) b hg
  omega
theorem Drop_ok (bh : Nat) (H : HM) (id : B32) (L : List Chunk) (w : World) (K : Nat → Prop) (S : HS w K bh H L w) (hn : H.p.length ≤ 90) :
    Ret P 14 #[.pointer (some ⟨bh, 0, none⟩), id.v] w (fun r w' => ∃ H' ys, r = .bool (decide (0 < ys.length)) ∧ HS w K bh H' L w' ∧ WithoutR H (fun _ a => decide (a.id = id)) H' ys) := by
  refine Ret.enter2 Tryz.func14 rfl Tryz.ntmps14 rfl ?_
  refine ZC.seq ?_; refine ZC.region ?_
  refine ZL.box (Mem.start w No) rfl rfl rfl (fun b3 w1 M1 => ?_)
  have hb3 : w.heap.size ≤ b3 := (M1.mine (.blk b3 _) (List.mem_cons_self ..) b3 rfl).resolve_left (fun h => h)
  have S1 := S.ext M1.ext
  refine ZL.val (r_assign rfl) rfl ?_; refine ZL.nil ?_; refine ZP.then ?_; refine ZC.seq ?_; refine ZC.region ?_; refine ZL.val (r_move rfl) rfl ?_; refine ZL.val (r_makeFunc rfl rfl) rfl ?_
  refine ZL.call (r_call rfl) rfl (without_ok bh H 37 [.pointer (some ⟨b3, 0, none⟩)] (fun _ a => decide (a.id = id)) L w1 _ S1.rebase hn (fun k a w' E => ?_)) (fun v2 w2 ⟨H', ys, S2, hR⟩ => ?_)
  · exact drop1_ok k a b3 id _ _ w' (E.at (M1.get (b := b3) inferInstance) (HS.fresh (w' := w') S hb3))
  have S3 := S1.join S2
  obtain ⟨p2, c2, rfl⟩ := (HS.front (N := [_]) S3).1.own.shape
  refine ZL.val (r_lenSlice rfl) rfl ?_; refine ZL.val (r_gtr rfl rfl) rfl ?_; refine ZL.val (r_assign rfl) rfl ?_; refine ZL.nil ?_; refine ZP.then ?_; refine ZC.ret ?_
  refine ZP.ret1 rfl rfl ⟨H', ys, ?_, HS.drop (N := [_]) S3, hR⟩
  simp only [Value.bool.injEq]
  rw [Bool.eq_iff_iff]; simp
theorem Gone_ok (bh : Nat) (H : HM) (k : Int) (L : List Chunk) (w : World) (K : Nat → Prop) (S : HS w K bh H L w) (hn : H.p.length ≤ 90) :
    Ret P 17 #[.pointer (some ⟨bh, 0, none⟩), .int .i64 k] w (fun r w' => ∃ H' H'' ys, HS w K bh H'' (.own r 27 32 ys.length (flatP ys) :: L) w' ∧ WithoutR H (fun q _ => decide (q = k)) H' ys ∧ H''.p = mdel H'.p k ∧ H''.l = H'.l ∧ H''.seq = H'.seq) := by
  refine Ret.enter2 Tryz.func17 rfl Tryz.ntmps17 rfl ?_
  refine ZC.seq ?_; refine ZC.region ?_
  refine ZL.box (Mem.start w No) rfl rfl rfl (fun b3 w1 M1 => ?_)
  have hb3 : w.heap.size ≤ b3 := (M1.mine (.blk b3 _) (List.mem_cons_self ..) b3 rfl).resolve_left (fun h => h)
  have S1 := S.ext M1.ext
  refine ZL.val (r_assign rfl) rfl ?_; refine ZL.nil ?_; refine ZP.then ?_; refine ZC.seq ?_; refine ZC.region ?_; refine ZL.val (r_move rfl) rfl ?_; refine ZL.val (r_makeFunc rfl rfl) rfl ?_
  refine ZL.call (r_call rfl) rfl (without_ok bh H 39 [.pointer (some ⟨b3, 0, none⟩)] (fun q _ => decide (q = k)) L w1 _ S1.rebase hn (fun k' a w' E => ?_)) (fun v2 w2 ⟨H', ys, S2, hR⟩ => ?_)
  · exact gone1_ok k' k a b3 _ _ w' (E.at (M1.get (b := b3) inferInstance) (HS.fresh (w' := w') S hb3))
  have hv3 : w2.heap[b3]? = some (.cells #[.int .i64 k] 3 (0, 0)) := S2.M.ext.at (M1.get (b := b3) inferInstance) (HS.fresh (w' := w2) S hb3)
  have S3 := S1.join S2
  have M3 : Mem w K (.own v2 27 32 ys.length (flatP ys) :: .blk bh (.cells (homeC H'.bl H'.bp H'.seq) 56) :: .blk H'.bl (.map H'.esl H'.ckl) :: .blk H'.bp (.map H'.esp H'.ckp) :: (H'.p.map pch ++ L)) w2 := (HS.front (N := [_]) S3).1
  have T3 : TxF (.own v2 27 32 ys.length (flatP ys) :: .blk bh (.cells (homeC H'.bl H'.bp H'.seq) 56) :: .blk H'.bl (.map H'.esl H'.ckl) :: .blk H'.bp (.map H'.esp H'.ckp) :: (H'.p.map pch ++ L)) w2 H'.l := (HS.front (N := [_]) S3).2
  refine ZL.val (r_assign rfl) rfl ?_; refine ZL.nil ?_; refine ZP.then ?_; refine ZC.seq ?_
  refine ZC.tail 5 (by kernel_rfl) rfl rfl (fun w4 E4 _ => ?_)
  have M4 := M3.ext' E4
  have T4 := T3.mv (Mv.ext E4)
  refine ZS.val (r_move rfl) rfl ?_; refine ZS.val (r_nilCheck rfl) rfl ?_; refine ZS.val (r_fieldAddr rfl) rfl ?_
  refine ZS.val (r_ld M4 rfl (by rfl)) rfl ?_
  refine ZS.val (r_load1 rfl (E4.at hv3 (fun h => h)) rfl) rfl ?_
  refine ZS.tail ?_
  refine ZL.mdel (t := 54) (ke := Value.int .i64) (ve := (Prod.fst : PE → Value)) (k := k) rfl M4.rebase rfl rfl S3.ok.op (fun es' w5 hO5 R5 => ?_)
  have R6 := (Mem.takeP (pre := [_, _, _, _]) (k := k) S3.ok.op.nod R5)
  simp only [List.cons_append, List.nil_append] at R6
  have R7 := R6.drop
  have T7 := T4.mv (Mv.fpf R7)
  have M7 := M4.joinX R7
  refine ZL.nil ?_; refine ZP.then ?_; refine ZC.seq ?_; refine ZC.region ?_; refine ZL.val (r_move rfl) rfl ?_; refine ZL.val (r_assign rfl) rfl ?_; refine ZL.nil ?_; refine ZP.then ?_; refine ZC.ret ?_
  refine ZP.ret1 rfl rfl ⟨H', { H' with esp := es', p := mdel H'.p k }, ys, HS.back (N := [_]) M7 ⟨S3.ok.ol, hO5, fun x hx => S3.ok.few x (List.mem_filter.1 hx).1, S3.ok.lf⟩ T7, hR, rfl, rfl, rfl⟩
def dLE : B32 × LE := (⟨List.replicate 32 0, by simp⟩, nilTx)
theorem Wants_ok (bh : Nat) (H : HM) (id : B32) (w : World) (h : HomeR w bh H) (hn : H.l.length ≤ 1000) :
    Ret P 35 #[.pointer (some ⟨bh, 0, none⟩), id.v] w (fun r w' => Ext w w' ∧ ∃ ys : List B32, ys.Pairwise ltP ∧ (∀ x, x ∈ ys ↔ ∃ e ∈ H.l, (e.2.2.ins.any fun i => decide (i.prev = id)) = true ∧ e.1 = x) ∧ NewO w w' 27 32 r ys.length (flatP ys)) := by
  obtain ⟨φ, hφ, hkv⟩ := h.ok.ol.phi dLE
  have hes : H.esl.size ≤ 1000 := by rw [h.ok.ol.size]; exact hn
  refine Ret.enter2 Tryz.func35 rfl Tryz.ntmps35 rfl ?_
  refine ZC.seq ?_; refine ZC.region ?_
  refine ZL.box (Mem.start w No) rfl rfl rfl (fun b3 w1 M1 => ?_)
  have h1 := h.ext M1.ext
  refine ZL.val (r_assign rfl) rfl ?_; refine ZL.nil ?_; refine ZP.then ?_; refine ZC.seq ?_; refine ZC.region ?_; refine ZL.val (r_assign rfl) rfl ?_; refine ZL.nil ?_; refine ZP.then ?_; refine ZC.seq ?_; refine ZC.seq ?_; refine ZC.region ?_; refine ZL.val (r_move rfl) rfl ?_; refine ZL.val (r_nilCheck rfl) rfl ?_; refine ZL.val (r_fieldAddr rfl) rfl ?_
  refine ZL.val (r_load1 rfl h1.hb rfl) rfl ?_
  refine ZL.range M1 rfl h1.hl rfl (fun ri w2 E2 M2 => ?_)
  refine ZL.nil ?_; refine ZP.then ?_; refine ZC.block ?_
  refine ZC.loop (X := List MapEntry × Value × List B32) (fun x => [(12, .pointer (some ⟨ri, 0, none⟩)), (5, x.2.1), (0, .pointer (some ⟨bh, 0, none⟩)), (3, .pointer (some ⟨b3, 0, none⟩))])
    (fun x w' => Came H.esl H.ckl x.1 ∧ Mem w No (.blk ri (.mapIter (some H.bl) H.ckl (x.1.map (·.born)).toArray H.ckl) :: [.own x.2.1 27 32 x.2.2.length (flatP x.2.2), .blk b3 (.cells id.cells.toArray 27)]) w' ∧ x.2.2 = (x.1.filter fun e => (φ e).2.2.ins.any fun i => decide (i.prev = id)).map fun e => (φ e).1)
    (fun x => H.esl.size - x.1.length) ([], .slice none 0 0, []) ⟨rfl, rfl, rfl, rfl, trivial⟩ ⟨h.ok.ol.came, (M2.nilOwn _ _).swap, rfl⟩ ?_
  rintro ⟨pe, ov, ks⟩ w3 ⟨hC, M3, hks⟩
  simp only at hC M3 hks ⊢
  have h3 := h.ext M3.ext
  have hlen : ks.length ≤ pe.length := by rw [hks, List.length_map]; exact List.length_filter_le _ _
  have hpl := hC.len
  refine ZC.seq ?_; refine ZC.region ?_
  refine ZL.next hC M3 rfl h3.hl rfl (fun hall => ?_) (fun e w4 he hC4 E4 M4 => ?_)
  · refine ZL.val (r_extract rfl rfl) rfl ?_; refine ZL.nil ?_; refine ZP.then ?_; refine ZC.seq ?_; refine ZC.condF rfl ?_; refine ZC.exit ?_; refine ZP.thenX ?_; refine ZP.thenX ?_; refine ZP.blockE ?_; refine ZP.then ?_; refine ZC.seq ?_; refine ZC.region ?_; refine ZL.val (r_move rfl) rfl ?_
    refine ZL.call (r_call rfl) rfl (Rising_ok ov ks w3 No (M3.drop.own.slc (fun _ _ h => h)) (by omega)) (fun v4 w4 ⟨E4, ys, hys, hm, N4⟩ => ?_)
    refine ZL.val (r_assign rfl) rfl ?_; refine ZL.nil ?_; refine ZP.then ?_; refine ZC.ret ?_
    refine ZP.ret1 rfl rfl ⟨ExtX.trans M3.ext E4 (fun _ h => h) (fun _ _ h => h), ys, hys, fun x => ?_, N4.own, fun g hg => Nat.le_trans M3.ext.size (N4.new g hg)⟩
    rw [hm, hks, List.mem_map]
    have hpm := hC.perm hall
    constructor
    · rintro ⟨e, he, hx⟩
      obtain ⟨he1, he2⟩ := List.mem_filter.1 he
      exact ⟨φ e, by rw [← hφ]; exact List.mem_map_of_mem (hC.sub e he1), he2, hx⟩
    · rintro ⟨y, hy, hy2, hx⟩
      rw [← hφ] at hy
      obtain ⟨e, he, rfl⟩ := List.mem_map.1 hy
      exact ⟨e, List.mem_filter.2 ⟨hpm.mem_iff.2 he, hy2⟩, hx⟩
  · obtain ⟨hke, hve⟩ := hkv e he
    have hm1 : φ e ∈ H.l := by rw [← hφ]; exact List.mem_map_of_mem he
    have h4 := h.ext M4.ext
    have hT := h4.tx _ hm1
    generalize hx : φ e = x at hke hve hm1 hT
    obtain ⟨k, v, t⟩ := x
    simp only at hke hve hT
    obtain ⟨iv, ov', rfl, h1v, h2v⟩ := hT.v
    refine ZL.val (r_extract rfl rfl) rfl ?_; refine ZL.nil ?_; refine ZP.then ?_; refine ZC.seq ?_; refine ZC.condT rfl ?_; refine ZC.skip ?_; refine ZP.then ?_; refine ZC.block ?_; refine ZC.seq ?_; refine ZC.region ?_
    refine ZL.val ((r_entry hC4 rfl (M4.ok (.blk ri _) (List.mem_cons_self ..)) h4.hl).eq (v' := .tuple #[k.v, .agg #[u32 t.version, iv, ov', u32 t.lock]]) (by rw [hke, hve])) rfl ?_
    refine ZL.val (r_extract rfl rfl) rfl ?_; refine ZL.val (r_extract rfl rfl) rfl ?_
    refine ZL.alloc M4 rfl rfl (fun b6 w5 M5 => ?_)
    refine ZL.alloc M5 rfl rfl (fun b7 w6 M6 => ?_)
    refine ZL.stW M6 rfl rfl (cs' := k.cells.toArray) rfl (by simp) (B32.size _) (B32.one _) (fun w7 M7 => ?_)
    refine ZL.stW M7 rfl rfl (cs' := #[u32 t.version, iv, ov', u32 t.lock]) rfl (by rfl) (by rfl) (by simp only [List.all_cons, List.all_nil, h1v, h2v]; rfl) (fun w8 M8 => ?_)
    have h8 := h.ext M8.ext
    have hT8 := h8.tx _ hm1
    obtain ⟨r, hr, iv', ov2, rfl, hi, ho⟩ := hT8
    simp only [Value.agg.injEq] at hr
    have hr' := congrArg Array.toList hr
    simp only [List.cons.injEq, and_true, true_and] at hr'
    obtain ⟨rfl, rfl⟩ := hr'
    refine ZL.nil ?_; refine ZP.then ?_; refine ZC.seq ?_; refine ZC.region ?_; refine ZL.val (r_fieldAddr rfl) rfl ?_
    refine ZL.val (r_ld M8 rfl (by rfl)) rfl ?_
    refine ZL.val (r_makeFunc rfl rfl) rfl ?_
    refine ZL.call (r_call rfl) rfl (anyIn_ok 66 [.pointer (some ⟨b3, 0, none⟩)] (fun i => decide (i.prev = id)) _ t.ins w8 No hi (fun r a w' _ E hE => ?_)) (fun v9 w9 ⟨E9, hv⟩ => ?_)
    · exact wants1_ok r a b3 id _ _ w' No hE (E.at (M8.get (b := b3) inferInstance) (fun h => h))
    subst hv
    have M9 := M8.ext' E9
    have hl4 := hC4.len
    simp only [List.length_append, List.length_cons, List.length_nil] at hl4
    refine ZL.nil ?_; refine ZP.then ?_
    refine ZC.cond rfl (fun hb => ?_) (fun hb => ?_)
    · refine ZC.region ?_; refine ZL.val (r_move rfl) rfl ?_
      refine ZL.val (r_ldW M9 rfl (B32.size _)) rfl ?_
      refine ZL.bslice M9 rfl rfl rfl (by simp [Value.cells, B32.len]) (by decide) rfl (fun g1 w10 M10 => ?_)
      refine ZL.append M10 rfl rfl (M10.own.slc (X := No) (fun _ _ h => h)) (by intro x hx; simp only [List.append_nil, List.toList_toArray] at hx; exact B32.oneL _ x hx) (by simp only [maxLen]; omega) (by omega) rfl (fun ov3 w11 M11 => ?_)
      have M12 := M11.drop.drop.drop
      have e9 : ∀ xs : List Value, xs = flatP (ks ++ [k]) → Chunk.own ov3 27 32 (ks.length + 1) xs = .own ov3 27 32 (ks ++ [k]).length (flatP (ks ++ [k])) := fun xs hx => by subst hx; simp
      rw [e9 _ (by simp [flatP])] at M12
      refine ZL.val (r_assign rfl) rfl ?_; refine ZL.nil ?_; refine ZP.blockN ?_
      refine ZP.round (pe ++ [e], ov3, ks ++ [k]) ⟨rfl, rfl, rfl, rfl, trivial⟩ ⟨hC4, M12, ?_⟩ (by simp only [List.length_append, List.length_cons, List.length_nil]; omega)
      simp only
      rw [List.filter_append, List.map_append, ← hks]
      simp [hx, hb]
    · refine ZC.skip ?_; refine ZP.blockN ?_
      refine ZP.round (pe ++ [e], ov, ks) ⟨rfl, rfl, rfl, rfl, trivial⟩ ⟨hC4, M9.drop.drop, ?_⟩ (by simp only [List.length_append, List.length_cons, List.length_nil]; omega)
      simp only
      rw [List.filter_append, List.map_append, ← hks]
      simp [hx, hb]
theorem Get_ok (bh : Nat) (H : HM) (id : B32) (w : World) (h : HomeR w bh H) :
    Ret P 19 #[.pointer (some ⟨bh, 0, none⟩), id.v] w (fun r w' => Ext w w' ∧ ∃ v, r = .tuple #[v, .bool (mget H.l id).isSome] ∧ TxR w' (· < w.heap.size) v (H.tx id).2) := by
  obtain ⟨hT, hf⟩ := h.txR id
  obtain ⟨iv, ov, hv0, h1v, h2v⟩ := hT.v
  refine Ret.enter2 Tryz.func19 rfl Tryz.ntmps19 rfl ?_
  refine ZC.seq ?_; refine ZC.region ?_
  refine ZL.box (Mem.start w No) rfl rfl rfl (fun b3 w1 M1 => ?_)
  refine ZL.alloc M1 rfl rfl (fun b4 w2 M2 => ?_)
  refine ZL.val (r_assign rfl) rfl ?_; refine ZL.nil ?_; refine ZP.then ?_; refine ZC.seq ?_
  refine ZC.draw (fun w' => HomeR w' bh H ∧ w'.heap[b3]? = some (.cells id.cells.toArray 27 (0, 0))) rfl rfl (fun w3 E3 _ => ?_)
  have M3 := M2.ext' E3
  have S3 : HomeR w3 bh H ∧ w3.heap[b3]? = some (.cells id.cells.toArray 27 (0, 0)) := ⟨h.ext M3.ext, M3.get inferInstance⟩
  refine ZA.take 0 rfl (fun w' hS' => by first | exact r_move rfl | exact r_assign rfl | exact r_fieldAddr rfl | exact r_sliceArr rfl | exact r_addU rfl rfl | exact r_xorU rfl rfl | exact r_orU rfl rfl | exact r_andU rfl rfl | exact r_complU rfl | exact r_convU rfl | exact r_ldS hS' rfl (by rfl) | exact r_nilCheck rfl | exact r_extract rfl rfl | exact r_lenSlice rfl) (by kernel_rfl) (by kernel_rfl) (by kernel_rfl) rfl rfl (fun _ _ _ _ h => h) S3 ?_
  refine ZA.take 1 rfl (fun w' hS' => by first | exact r_move rfl | exact r_assign rfl | exact r_fieldAddr rfl | exact r_sliceArr rfl | exact r_addU rfl rfl | exact r_xorU rfl rfl | exact r_orU rfl rfl | exact r_andU rfl rfl | exact r_complU rfl | exact r_convU rfl | exact r_ldS hS' rfl (by rfl) | exact r_nilCheck rfl | exact r_extract rfl rfl | exact r_lenSlice rfl) (by kernel_rfl) (by kernel_rfl) (by kernel_rfl) rfl rfl (fun _ _ _ _ h => h) S3 ?_
  refine ZA.take 2 rfl (fun w' hS' => by first | exact r_move rfl | exact r_assign rfl | exact r_fieldAddr rfl | exact r_sliceArr rfl | exact r_addU rfl rfl | exact r_xorU rfl rfl | exact r_orU rfl rfl | exact r_andU rfl rfl | exact r_complU rfl | exact r_convU rfl | exact r_ldS hS' rfl (by rfl) | exact r_nilCheck rfl | exact r_extract rfl rfl | exact r_lenSlice rfl) (by kernel_rfl) (by kernel_rfl) (by kernel_rfl) rfl rfl (fun _ _ _ _ h => h) S3 ?_
  refine ZA.take 3 rfl (fun w' hS' => r_load1 rfl hS'.1.hb rfl) (by kernel_rfl) (by kernel_rfl) (by kernel_rfl) rfl rfl (fun _ _ _ _ h => h) S3 ?_
  refine ZA.take 4 rfl (fun w' hS' => r_loadW rfl hS'.2 (B32.size _)) (by kernel_rfl) (by kernel_rfl) (by kernel_rfl) rfl rfl (fun _ _ _ _ h => h) S3 ?_
  refine ZA.take 5 rfl (fun w' hS' => (r_lookup2 (k := id) rfl rfl hS'.1.hl hS'.1.ok.ol).eq (v' := .tuple #[.agg #[u32 (H.tx id).2.version, iv, ov, u32 (H.tx id).2.lock], .bool (mget H.l id).isSome]) (by rw [H.tx_val id, hv0])) (by kernel_rfl) (by kernel_rfl) (by kernel_rfl) rfl rfl (fun _ _ _ _ h => h) S3 ?_
  refine ZA.take 6 rfl (fun w' hS' => by first | exact r_move rfl | exact r_assign rfl | exact r_fieldAddr rfl | exact r_sliceArr rfl | exact r_addU rfl rfl | exact r_xorU rfl rfl | exact r_orU rfl rfl | exact r_andU rfl rfl | exact r_complU rfl | exact r_convU rfl | exact r_ldS hS' rfl (by rfl) | exact r_nilCheck rfl | exact r_extract rfl rfl | exact r_lenSlice rfl) (by kernel_rfl) (by kernel_rfl) (by kernel_rfl) rfl rfl (fun _ _ _ _ h => h) S3 ?_
  refine ZA.take 7 rfl (fun w' hS' => by first | exact r_move rfl | exact r_assign rfl | exact r_fieldAddr rfl | exact r_sliceArr rfl | exact r_addU rfl rfl | exact r_xorU rfl rfl | exact r_orU rfl rfl | exact r_andU rfl rfl | exact r_complU rfl | exact r_convU rfl | exact r_ldS hS' rfl (by rfl) | exact r_nilCheck rfl | exact r_extract rfl rfl | exact r_lenSlice rfl) (by kernel_rfl) (by kernel_rfl) (by kernel_rfl) rfl rfl (fun _ _ _ _ h => h) S3 ?_
  refine ZA.take 8 rfl (fun w' hS' => by first | exact r_move rfl | exact r_assign rfl | exact r_fieldAddr rfl | exact r_sliceArr rfl | exact r_addU rfl rfl | exact r_xorU rfl rfl | exact r_orU rfl rfl | exact r_andU rfl rfl | exact r_complU rfl | exact r_convU rfl | exact r_ldS hS' rfl (by rfl) | exact r_nilCheck rfl | exact r_extract rfl rfl | exact r_lenSlice rfl) (by kernel_rfl) (by kernel_rfl) (by kernel_rfl) rfl rfl (fun _ _ _ _ h => h) S3 ?_
  refine ZA.one 9 (by kernel_rfl) rfl rfl ?_
  refine ZL.alloc M3 rfl rfl (fun b6 w4 M4 => ?_)
  have S4 : HomeR w4 bh H ∧ w4.heap[b3]? = some (.cells id.cells.toArray 27 (0, 0)) := ⟨h.ext M4.ext, M4.get inferInstance⟩
  refine ZL.nil (ZP.any S4 ?_)
  refine ZA.one 10 (by kernel_rfl) rfl rfl ?_
  refine ZL.stW M4 rfl rfl (cs' := #[u32 (H.tx id).2.version, iv, ov, u32 (H.tx id).2.lock]) rfl (by rfl) (by rfl) (by simp only [List.all_cons, List.all_nil, h1v, h2v]; rfl) (fun w5 M5 => ?_)
  have S5 : HomeR w5 bh H ∧ w5.heap[b3]? = some (.cells id.cells.toArray 27 (0, 0)) := ⟨h.ext M5.ext, M5.get inferInstance⟩
  refine ZL.nil (ZP.any S5 ?_)
  refine ZA.take 11 rfl (fun w' hS' => by first | exact r_move rfl | exact r_assign rfl | exact r_fieldAddr rfl | exact r_sliceArr rfl | exact r_addU rfl rfl | exact r_xorU rfl rfl | exact r_orU rfl rfl | exact r_andU rfl rfl | exact r_complU rfl | exact r_convU rfl | exact r_ldS hS' rfl (by rfl) | exact r_nilCheck rfl | exact r_extract rfl rfl | exact r_lenSlice rfl) (by kernel_rfl) (by kernel_rfl) (by kernel_rfl) rfl rfl (fun _ _ _ _ h => h) S5 ?_
  refine ZA.done (by kernel_rfl) ?_
  refine ZP.then ?_; refine ZC.seq ?_; refine ZC.region ?_
  refine ZL.val (r_ldW M5 rfl (by rfl)) rfl ?_
  have hT5 := hT.mv (Mv.ext M5.ext)
  rw [hv0] at hT5
  refine ZL.call (r_call rfl) rfl (Still_ok _ _ w5 No hT5 hf) (fun v6 w6 ⟨E6, hv6⟩ => ?_)
  have M6 := M5.ext' E6
  obtain ⟨iv6, ov6, rfl, h16, h26⟩ := hv6.v
  refine ZL.val (r_move rfl) rfl ?_
  refine ZL.stW M6.rebase rfl rfl (cs' := #[u32 (H.tx id).2.version, iv6, ov6, u32 (H.tx id).2.lock]) rfl (by rfl) (by rfl) (by simp only [List.all_cons, List.all_nil, h16, h26]; rfl) (fun w7 R7 => ?_)
  have M7 := M6.join R7
  refine ZL.val (r_assign rfl) rfl ?_; refine ZL.nil ?_; refine ZP.then ?_; refine ZC.ret ?_
  refine ZP.retCT rfl rfl (M7.get (b := b4) inferInstance) rfl rfl ⟨M7.ext, _, rfl, ?_⟩
  refine (hv6.mv (Mv.extX R7.ext fun b _ ⟨c, hc, hg⟩ => Chunk.lt (M5.ok c hc) b hg)).mv (Mv.mono fun b _ hb => Nat.lt_of_lt_of_le hb M5.ext.size)
end Go.Proofs.YtibobcjfjnoclaaGreatDoor.Z
end
section
/- The laws' linked transactions of numbers. -/
set_option linter.unusedVariables false
set_option linter.unusedSimpArgs false
set_option linter.unusedSectionVars false
set_option maxRecDepth 100000
set_option maxHeartbeats 4000000
namespace Go.Proofs.YtibobcjfjnoclaaGreatDoor.Z
open Go Go.RowKit

theorem Linked_ok (v : Value) (l : List Int) (w : World) (hv : IntsA w v l) : Ret P 6 #[v] w (fun r w' =>
    ∃ recs, Mem w No (.own r 33 4 recs.length (lrows recs).flatten :: lchs recs) w' ∧ RF w (.own r 33 4 recs.length (lrows recs).flatten :: lchs recs) w' recs ∧ recs.length = min 14 l.length) := by
  have hv0 := hv
  obtain ⟨p, c, rfl, -⟩ := hv0
  refine Ret.enter1 Tryz.func6 rfl Tryz.ntmps6 rfl ?_
  refine ZC.seq ?_; refine ZC.region ?_; refine ZL.val (r_assign rfl) rfl ?_; refine ZL.nil ?_; refine ZP.then ?_; refine ZC.seq ?_; refine ZC.region ?_; refine ZL.val (r_assign rfl) rfl ?_; refine ZL.nil ?_; refine ZP.then ?_; refine ZC.seq ?_; refine ZC.seq ?_; refine ZC.region ?_; refine ZL.val (r_assign rfl) rfl ?_; refine ZL.nil ?_; refine ZP.then ?_; refine ZC.block ?_
  refine ZC.loop (X := Nat × Value × List LRec) (fun x => [(4, .int .i64 x.1), (3, x.2.1), (0, .slice p l.length c)])
    (fun x w' => Mem w No (.own x.2.1 33 4 x.2.2.length (lrows x.2.2).flatten :: lchs x.2.2) w' ∧ RF w (.own x.2.1 33 4 x.2.2.length (lrows x.2.2).flatten :: lchs x.2.2) w' x.2.2 ∧ x.2.2.length = x.1 ∧ x.1 ≤ 14 ∧ x.1 ≤ l.length) (fun x => 14 - x.1) (0, .slice none 0 0, []) ⟨rfl, rfl, rfl, trivial⟩
    ⟨(Mem.start w No).nilOwn _ _, (fun r hr => by cases hr), rfl, by omega, by omega⟩ ?_
  rintro ⟨i, outv, recs⟩ w1 ⟨M1, F1, hri, hi14, hil⟩
  simp only at M1 F1 hri hi14 hil ⊢
  obtain ⟨po, co, hoshape⟩ := M1.own.shape
  generalize hL0 : (Chunk.own outv 33 4 recs.length (lrows recs).flatten :: lchs recs) = L0 at M1 F1
  refine ZC.seq ?_; refine ZC.seq ?_; refine ZC.region ?_; refine ZL.val (r_move rfl) rfl ?_; refine ZL.val (r_move rfl) rfl ?_; refine ZL.val (r_lenSlice rfl) rfl ?_; refine ZL.val (r_lss rfl rfl) rfl ?_; refine ZL.val (r_move rfl) rfl ?_
  refine ZL.splitD 15 rfl (fun h1 => ?_) (fun h1 => ?_)
  rotate_left
  · have h1' : i = l.length := by omega
    refine ZL.skip rfl rfl rfl rfl ?_; refine ZL.skip rfl rfl rfl rfl ?_; refine ZL.val (r_pickF rfl rfl) rfl ?_; refine ZL.nil ?_; refine ZP.then ?_; refine ZC.condF rfl ?_; refine ZC.exit ?_; refine ZP.thenX ?_; refine ZP.thenX ?_; refine ZP.blockE ?_; refine ZP.then ?_; refine ZC.seq ?_; refine ZC.region ?_; refine ZL.val (r_move rfl) rfl ?_; refine ZL.val (r_assign rfl) rfl ?_; refine ZL.nil ?_; refine ZP.then ?_; refine ZC.ret ?_
    subst hL0

    exact ZP.ret1 rfl rfl ⟨recs, M1, F1, by omega⟩
  have hil' : i < l.length := by omega
  refine ZL.on rfl rfl rfl ?_; refine ZL.val (r_move rfl) rfl ?_; refine ZL.on rfl rfl rfl ?_; refine ZL.val (r_lss rfl rfl) rfl ?_; refine ZL.val (r_pickT rfl rfl) rfl ?_; refine ZL.nil ?_; refine ZP.then ?_
  refine ZC.condD rfl (fun h2 => ?_) (fun h2 => ?_)
  rotate_left
  · refine ZC.exit ?_; refine ZP.thenX ?_; refine ZP.thenX ?_; refine ZP.blockE ?_; refine ZP.then ?_; refine ZC.seq ?_; refine ZC.region ?_; refine ZL.val (r_move rfl) rfl ?_; refine ZL.val (r_assign rfl) rfl ?_; refine ZL.nil ?_; refine ZP.then ?_; refine ZC.ret ?_
    subst hL0
    exact ZP.ret1 rfl rfl ⟨recs, M1, F1, by omega⟩
  have hi13 : i < 14 := by omega
  obtain ⟨-, bl, ol, csl, el, fzl, rfl, hhl, hcl⟩ := (hv.ext M1.ext).elem hil'
  refine ZC.skip ?_; refine ZP.then ?_; refine ZC.seq ?_; refine ZC.block ?_; refine ZC.seq ?_; refine ZC.region ?_; refine ZL.val (r_move rfl) rfl ?_; refine ZL.val (r_move rfl) rfl ?_
  refine ZL.val (r_idxS i rfl rfl rfl hil') rfl ?_
  rw [Nat.mul_one]
  refine ZL.val (r_load1 rfl hhl hcl) rfl ?_
  generalize hn : l[i] = n
  obtain ⟨q7, hq7, hq7e⟩ := iand_mask n 7 (by decide)
  obtain ⟨qi, hqi, hqie⟩ := iand_mask (n / 2 ^ (min ((3 : Int).toNat) IntKind.i64.bits)) 1 (by decide)
  obtain ⟨qo, hqo, hqoe⟩ := iand_mask (n / 2 ^ (min ((23 : Int).toNat) IntKind.i64.bits)) 1 (by decide)
  have hquo : IntKind.i64.wrap ((q7 : Int).tdiv 7) = ((q7 / 7 : Nat) : Int) := by
    rw [Int.tdiv_eq_ediv_of_nonneg (by omega)]
    rw [wrap_i64 (by omega) (by omega)]
    rfl
  refine ZL.val (r_assign rfl) rfl ?_; refine ZL.nil ?_; refine ZP.then ?_; refine ZC.seq ?_; refine ZC.region ?_; refine ZL.val (r_move rfl) rfl ?_
  refine ZL.val (r_and rfl rfl hq7e) rfl ?_
  refine ZL.val (r_quo rfl rfl (by decide) hquo) rfl ?_
  refine ZL.val (r_add rfl rfl (wrap_i64 (by omega) (by omega))) rfl ?_
  refine ZL.val (r_toU rfl) rfl ?_
  refine ZL.val (r_buildOne rfl rfl (cs := (txC (u32of (2 + ((q7 / 7 : Nat) : Int))) (.slice none 0 0) (.slice none 0 0) 0).toList) rfl) rfl ?_
  generalize (u32of (2 + ((q7 / 7 : Nat) : Int))) = ver
  refine ZL.alloc M1.rebase rfl rfl (fun b6 w2 R2 => ?_)
  refine ZL.stW R2 rfl rfl (cs' := txC ver (.slice none 0 0) (.slice none 0 0) 0) rfl (by rfl) (by rfl) (by rfl) (fun w3 R3 => ?_)
  have M3 := M1.join R3
  have F3 := F1.mv (Mv.frame R3)
  clear R2 R3
  refine ZL.nil ?_; refine ZP.then ?_; refine ZC.seq ?_; refine ZC.seq ?_; refine ZC.region ?_; refine ZL.val (r_assign rfl) rfl ?_; refine ZL.nil ?_; refine ZP.then ?_; refine ZC.block ?_
  refine ZC.loop (X := Nat × Value × List (List Value)) (fun x => [(7, .int .i64 x.1), (6, .pointer (some ⟨b6, 0, none⟩)), (5, .int .i64 n), (4, .int .i64 i), (3, outv), (0, .slice (some ⟨bl, ol, none⟩) l.length c)])
    (fun x w' => Mem w No (.own x.2.1 60 36 x.1 x.2.2.flatten :: .blk b6 (.cells (txC ver x.2.1 (.slice none 0 0) 0) 33) :: L0) w' ∧
      x.2.2.length = x.1 ∧ InsP w (.own x.2.1 60 36 x.1 x.2.2.flatten :: .blk b6 (.cells (txC ver x.2.1 (.slice none 0 0) 0) 33) :: L0) w' x.2.2 ∧ RF w (.own x.2.1 60 36 x.1 x.2.2.flatten :: .blk b6 (.cells (txC ver x.2.1 (.slice none 0 0) 0) 33) :: L0) w' recs ∧ x.1 ≤ qi + 1)
    (fun x => qi + 1 - x.1) (0, .slice none 0 0, []) ⟨rfl, rfl, rfl, rfl, rfl, rfl, trivial⟩ ⟨M3.nilOwn _ _, rfl, (fun r hr => by cases hr), F3.mv (Mv.mono (fun b _ h => h.imp id (fun ⟨d, hd, hg⟩ => by
        rcases List.mem_cons.1 hd with rfl | hd
        · simp [Chunk.fp, Value.ownBlock] at hg
        · exact ⟨d, hd, hg⟩))), by omega⟩ ?_
  clear M1 F1 M3 F3
  rintro ⟨k, iv, rows⟩ w4 ⟨M4, hrl, hF, F4, hk⟩
  simp only at M4 hrl hF F4 hk ⊢
  refine ZC.seq ?_; refine ZC.seq ?_; refine ZC.region ?_; refine ZL.val (r_move rfl) rfl ?_; refine ZL.val (r_move rfl) rfl ?_
  refine ZL.val (r_shr rfl rfl (by omega) rfl) rfl ?_
  refine ZL.val (r_and rfl rfl hqie) rfl ?_
  refine ZL.val (r_add rfl rfl (wrap_i64 (by omega) (by omega))) rfl ?_; refine ZL.val (r_lss rfl rfl) rfl ?_; refine ZL.nil ?_; refine ZP.then ?_
  refine ZC.condD rfl (fun hc => ?_) (fun hc => ?_)
  · have hk' : k ≤ qi := by omega
    obtain ⟨qp, hqp, hqpe⟩ := iand_mask (n / 2 ^ (min ((15 + 4 * (k : Int)).toNat) IntKind.i64.bits)) 15 (by decide)
    have R4 := M4.rebase
    refine ZC.skip ?_; refine ZP.then ?_; refine ZC.seq ?_; refine ZC.block ?_; refine ZC.seq ?_; refine ZC.region ?_; refine ZL.val (r_move rfl) rfl ?_; refine ZL.val (r_move rfl) rfl ?_; refine ZL.val (r_mul rfl rfl (wrap_i64 (by omega) (by omega))) rfl ?_; refine ZL.val (r_add rfl rfl (wrap_i64 (by omega) (by omega))) rfl ?_; refine ZL.val (r_convInt rfl (wrap_u64 (by omega) (by omega))) rfl ?_; refine ZL.val (r_shr rfl rfl (by omega) rfl) rfl ?_; refine ZL.val (r_and rfl rfl rfl) rfl ?_; refine ZL.val (r_toU rfl) rfl ?_
    refine ZL.val (r_buildOne rfl rfl (cs := (inD 0 0 (u32of (iand IntKind.i64 (n / 2 ^ min (5 + 3 * (k : Int)).toNat IntKind.i64.bits) 3)) 4294967295).toList) (by rfl)) rfl ?_
    generalize (u32of (iand IntKind.i64 (n / 2 ^ min (5 + 3 * (k : Int)).toNat IntKind.i64.bits) 3)) = vo
    generalize hsq : (4294967295 : UInt32) = sq
    refine ZL.alloc R4 rfl rfl (fun bx w5 R5 => ?_)
    refine ZL.stW R5 rfl rfl (cs' := inD 0 0 vo sq) rfl (by rfl) (by rfl) (by rfl) (fun w6 R6 => ?_)
    refine ZL.nil ?_; refine ZP.then ?_; refine ZC.seq ?_; refine ZC.region ?_; refine ZL.val (r_move rfl) rfl ?_; refine ZL.val (r_move rfl) rfl ?_; refine ZL.val (r_mul rfl rfl (wrap_i64 (by omega) (by omega))) rfl ?_; refine ZL.val (r_add rfl rfl (wrap_i64 (by omega) (by omega))) rfl ?_; refine ZL.val (r_convInt rfl (wrap_u64 (by omega) (by omega))) rfl ?_; refine ZL.val (r_shr rfl rfl (by omega) rfl) rfl ?_; refine ZL.val (r_and rfl rfl rfl) rfl ?_; refine ZL.val (r_add rfl rfl rfl) rfl ?_; refine ZL.val (r_toB rfl) rfl ?_; refine ZL.val (r_move rfl) rfl ?_; refine ZL.val (r_toB rfl) rfl ?_; refine ZL.val (r_fieldAddr rfl) rfl ?_
    refine ZL.val (r_idxA 0 rfl rfl rfl (by decide)) rfl ?_
    refine ZL.st R6 rfl rfl (cs' := inD _ 0 vo sq) rfl rfl (fun w7 R7 => ?_)
    refine ZL.val (r_fieldAddr rfl) rfl ?_
    refine ZL.val (r_idxA 1 rfl rfl rfl (by decide)) rfl ?_
    refine ZL.st R7 rfl rfl (cs' := inD _ _ vo sq) rfl rfl (fun w8 R8 => ?_)
    refine ZL.nil ?_
    refine ZP.then ?_
    simp only [inD_eq] at R8
    have M8 := M4.join R8
    have I8 := hF.mv (Mv.frame R8)
    have F8 := F4.mv (Mv.frame R8)
    clear R4 R5 R6 R7 R8
    generalize prevD _ _ = pv0 at M8 I8 F8
    refine ZC.mid (X := B32 × UInt32) (fun x => [(8, .pointer (some ⟨bx, 0, none⟩)), (7, .int .i64 k), (6, .pointer (some ⟨b6, 0, none⟩)), (5, .int .i64 n), (4, .int .i64 i), (3, outv), (0, .slice (some ⟨bl, ol, none⟩) l.length c)])
      (fun x w' => Mem w No (.blk bx (.cells (pC x.1 x.2 (.slice none 0 0) sq (.slice none 0 0)) 60) :: .own iv 60 36 k rows.flatten :: .blk b6 (.cells (txC ver iv (.slice none 0 0) 0) 33) :: L0) w' ∧
        InsP w (.blk bx (.cells (pC x.1 x.2 (.slice none 0 0) sq (.slice none 0 0)) 60) :: .own iv 60 36 k rows.flatten :: .blk b6 (.cells (txC ver iv (.slice none 0 0) 0) 33) :: L0) w' rows ∧ RF w (.blk bx (.cells (pC x.1 x.2 (.slice none 0 0) sq (.slice none 0 0)) 60) :: .own iv 60 36 k rows.flatten :: .blk b6 (.cells (txC ver iv (.slice none 0 0) 0) 33) :: L0) w' recs) ?_ ?_
    · refine ZC.seq ?_; refine ZC.region ?_; refine ZL.val (r_move rfl) rfl ?_; refine ZL.val (r_move rfl) rfl ?_; refine ZL.val (r_mul rfl rfl (wrap_i64 (by omega) (by omega))) rfl ?_; refine ZL.val (r_add rfl rfl (wrap_i64 (by omega) (by omega))) rfl ?_; refine ZL.val (r_convInt rfl (wrap_u64 (by omega) (by omega))) rfl ?_
      refine ZL.val (r_shr rfl rfl (by omega) rfl) rfl ?_
      refine ZL.val (r_and rfl rfl hqpe) rfl ?_
      refine ZL.val (r_assign rfl) rfl ?_; refine ZL.nil ?_; refine ZP.then ?_; refine ZC.seq ?_; refine ZC.region ?_; refine ZL.val (r_move rfl) rfl ?_; refine ZL.val (r_gtr rfl rfl) rfl ?_; refine ZL.val (r_move rfl) rfl ?_
      refine ZL.splitD 72 rfl (fun hp => ?_) (fun hp => ?_)
      rotate_left
      · refine ZL.skip rfl rfl rfl rfl ?_; refine ZL.skip rfl rfl rfl rfl ?_; refine ZL.val (r_pickF rfl rfl) rfl ?_; refine ZL.nil ?_; refine ZP.then ?_; refine ZC.condF rfl ?_; refine ZC.skip ?_
        exact ZP.mid (pv0, vo) ⟨rfl, rfl, rfl, rfl, rfl, rfl, rfl, trivial⟩ ⟨M8, I8, F8⟩
      refine ZL.on rfl rfl rfl ?_; refine ZL.val (r_move rfl) rfl ?_; refine ZL.on rfl rfl rfl ?_; refine ZL.val (r_gtr rfl rfl) rfl ?_; refine ZL.val (r_pickT rfl rfl) rfl ?_; refine ZL.nil ?_; refine ZP.then ?_
      refine ZC.condD rfl (fun hp4 => ?_) (fun hp4 => ?_)
      rotate_left
      · refine ZC.skip ?_
        exact ZP.mid (pv0, vo) ⟨rfl, rfl, rfl, rfl, rfl, rfl, rfl, trivial⟩ ⟨M8, I8, F8⟩
      have hi0 : 0 < i := by omega
      have hji : qp % i < recs.length := by rw [hri]; exact Nat.mod_lt _ hi0
      have hrem : ((qp : Int)).tmod (i : Int) = ((qp % i : Nat) : Int) := by
        rw [Int.tmod_eq_emod_of_nonneg (by omega)]
        rfl
      subst hoshape
      have hmem : Chunk.own (.slice po recs.length co) 33 4 recs.length (lrows recs).flatten ∈ .blk bx (.cells (pC pv0 vo (.slice none 0 0) sq (.slice none 0 0)) 60) :: .own iv 60 36 k rows.flatten :: .blk b6 (.cells (txC ver iv (.slice none 0 0) 0) 33) :: L0 := by rw [← hL0]; simp
      obtain ⟨-, r, hr, g, o, cs, e, fz, rfl, hh, hcell, hsz, hext⟩ := M8.lrow hmem hji
      have hcm := lchs_mem hr
      obtain ⟨T, hT, -⟩ := (F8 r hr).tx M8 (by rw [← hL0]; simp [hcm.1]) (by rw [← hL0]; simp [hcm.2]) No (fun _ h => h.elim)
      have howo := M8.ok r.co (by rw [← hL0]; simp [hcm.2])
      obtain ⟨pv, cv, hov⟩ := OwnR.shape howo
      have hlo := (F8 r hr).o1
      have hlo2 := (F8 r hr).o2
      refine ZC.seq ?_; refine ZC.region ?_; refine ZL.val (r_move rfl) rfl ?_; refine ZL.val (r_move rfl) rfl ?_; refine ZL.val (r_move rfl) rfl ?_
      refine ZL.val (r_rem rfl rfl (by omega) hrem) rfl ?_
      refine ZL.val (r_idxS (qp % i) rfl rfl rfl hji) rfl ?_
      refine ZL.val (r_loadN rfl hh hsz hext) rfl ?_
      refine ZL.call (r_call rfl) rfl (refTxid_ok _ T w8 No ⟨_, rfl, hT⟩) (fun v9 w9 ⟨E9, hv9⟩ => ?_)
      subst hv9
      have R9 := M8.rebase.ext' E9
      refine ZL.val (r_fieldAddr rfl) rfl ?_
      refine ZL.stP R9 rfl rfl (cs0 := pv0.cells) (cs1 := T.id.cells) (tl := [u32 vo, .slice none 0 0, u32 sq, .slice none 0 0]) (B32.len _) (B32.len _) (fun x hx => u8_one _ _ hx) (fun w10 R10 => ?_)
      have M10 := M8.join R10
      have I10 := I8.mv (Mv.frame R10)
      have F10 := F8.mv (Mv.frame R10)
      have hmem10 : Chunk.own (.slice (some ⟨g, o, none⟩) recs.length co) 33 4 recs.length (lrows recs).flatten ∈ .blk bx (.cells (pC T.id vo (.slice none 0 0) sq (.slice none 0 0)) 60) :: .own iv 60 36 k rows.flatten :: .blk b6 (.cells (txC ver iv (.slice none 0 0) 0) 33) :: L0 := by rw [← hL0]; simp
      refine ZL.nil ?_; refine ZP.then ?_
      refine ZC.tail 12 (by kernel_rfl) rfl rfl (fun w11 E11 _ => ?_)
      have M11 := M10.ext' E11
      have I11 := I10.mv (Mv.ext E11)
      have F11 := F10.mv (Mv.ext E11)
      clear hr hh hcell hsz hext hcm hT howo hlo hlo2 M8 I8 F8 R9 R10 M10 I10 F10 hmem hov
      obtain ⟨-, r, hr, g', o', cs, e, fz, heq, hh, hcell, hsz, hext⟩ := M11.lrow hmem10 hji
      simp only [Option.some.injEq, Addr.mk.injEq, and_true] at heq
      obtain ⟨rfl, rfl⟩ := heq
      have hcm := lchs_mem hr
      have howo := M11.ok r.co (by rw [← hL0]; simp [hcm.2])
      obtain ⟨pv, cv, hov⟩ := OwnR.shape howo
      have hlo := (F11 r hr).o1
      have hlo2 := (F11 r hr).o2
      have hc2 := hcell 2 (.slice pv r.orows.length cv) (by simp [LRec.row, hov])
      have hrem2 : ((vo.toNat : Int)).tmod (r.orows.length : Int) = ((UInt32.ofNat (vo.toNat % r.orows.length)).toNat : Int) := by
        rw [Int.tmod_eq_emod_of_nonneg (by omega)]
        have h1 : vo.toNat % r.orows.length < 2 ^ 32 := Nat.lt_of_lt_of_le (Nat.mod_lt _ hlo) (by omega)
        rw [UInt32.toNat_ofNat_of_lt' h1]
        rfl
      refine ZS.val (r_fieldAddr rfl) rfl ?_
      refine ZS.val (r_ld M11 rfl (pC.n32 _ _ _ _ _)) rfl ?_
      refine ZS.val (r_move rfl) rfl ?_; refine ZS.val (r_move rfl) rfl ?_; refine ZS.val (r_move rfl) rfl ?_
      refine ZS.val (r_rem rfl rfl (by omega) hrem) rfl ?_
      skip
      refine ZS.val (r_idxS (qp % i) rfl rfl rfl hji) rfl ?_
      refine ZS.val (r_fieldAddr rfl) rfl ?_
      refine ZS.val (r_load1 rfl hh hc2) rfl ?_
      refine ZS.val (r_lenSlice rfl) rfl ?_; refine ZS.val (r_convInt rfl (wrap_u32 (by omega) (by omega))) rfl ?_
      refine ZS.val (r_rem rfl rfl (by omega) hrem2) rfl ?_
      refine ZS.tail ?_
      refine ZL.val (r_fieldAddr rfl) rfl ?_
      refine ZL.st M11.rebase rfl rfl (v := u32 _) (cs' := pC T.id (UInt32.ofNat (vo.toNat % r.orows.length)) (.slice none 0 0) sq (.slice none 0 0)) (pC.s32 _ _ _ _ _ _) rfl (fun w12 R12 => ?_)
      refine ZL.nil ?_
      exact ZP.mid (T.id, (UInt32.ofNat (vo.toNat % r.orows.length))) ⟨rfl, rfl, rfl, rfl, rfl, rfl, rfl, trivial⟩ ⟨M11.join R12, I11.mv (Mv.frame R12), F11.mv (Mv.frame R12)⟩
    · clear M8 I8 F8
      rintro ⟨pv1, vo1⟩ w9 ⟨M9, I9, F9⟩
      simp only at M9 I9 F9 ⊢
      have R9 := M9.rebase
      refine ZC.region ?_; refine ZL.val (r_fieldAddr rfl) rfl ?_
      refine ZL.val (r_ld R9 rfl (by rfl)) rfl ?_
      refine ZL.val (r_ldW R9 rfl (pC.size _ _ _ _ _)) rfl ?_
      refine ZL.bslice R9 rfl rfl rfl (by simp [Value.cells, B32.len]) (by decide) rfl (fun g1 w11 R11 => ?_)
      refine ZL.append R11 rfl rfl (R11.own.slc (X := No) (fun _ _ h => h)) (pC.one _ _ _ rfl rfl) (by simp only [maxLen]; omega) (by omega) rfl (fun iv' w12 R12 => ?_)
      obtain ⟨pv, cv, hiv⟩ := (R12.drop.drop).own.shape
      refine ZL.val (r_fieldAddr rfl) rfl ?_
      refine ZL.st R12 rfl rfl (cs' := txC ver iv' (.slice none 0 0) 0) rfl (by rw [hiv]; rfl) (fun w13 R13 => ?_)
      refine ZL.nil ?_; refine ZP.blockN ?_; refine ZP.then ?_; refine ZC.region ?_; refine ZL.val (r_move rfl) rfl ?_; refine ZL.val (r_add rfl rfl (wrap_i64 (by omega) (by omega))) rfl ?_; refine ZL.val (r_assign rfl) rfl ?_; refine ZL.nil ?_
      have M13 := M9.join R13
      have mv := ((Mv.frame R13).trans Mv.drop).trans (Mv.drop (w0 := w))
      refine ZP.round (k + 1, iv', rows ++ [(pC pv1 vo1 (.slice none 0 0) sq (.slice none 0 0)).toList]) ⟨rfl, rfl, rfl, rfl, rfl, rfl, trivial⟩ ⟨?_, ?_, ?_, ?_, ?_⟩ ?_
      · simp only [List.flatten_append, List.flatten_cons, List.flatten_nil, List.append_nil]
        exact M13.drop.drop
      · simp [hrl]
      · simp only [List.flatten_append, List.flatten_cons, List.flatten_nil, List.append_nil]
        exact (I9.mv mv).snoc pv1 vo1 sq
      · simp only [List.flatten_append, List.flatten_cons, List.flatten_nil, List.append_nil]
        exact F9.mv mv
      · simp only; omega
      · simp only; omega
  · have hk1 : k = qi + 1 := by omega
    refine ZC.exit ?_; refine ZP.thenX ?_; refine ZP.thenX ?_; refine ZP.blockE ?_; refine ZP.then ?_; refine ZC.seq ?_; refine ZC.seq ?_; refine ZC.region ?_; refine ZL.val (r_assign rfl) rfl ?_; refine ZL.nil ?_; refine ZP.then ?_; refine ZC.block ?_
    clear hoshape
    refine ZC.loop (X := Nat × Value × List (List Value)) (fun x => [(10, .int .i64 x.1), (6, .pointer (some ⟨b6, 0, none⟩)), (5, .int .i64 n), (4, .int .i64 i), (3, outv), (0, .slice (some ⟨bl, ol, none⟩) l.length c)])
      (fun x w' => Mem w No (.own x.2.1 64 2 x.1 x.2.2.flatten :: .own iv 60 36 k rows.flatten :: .blk b6 (.cells (txC ver iv x.2.1 0) 33) :: L0) w' ∧ x.2.2.length = x.1 ∧
        InsP w (.own x.2.1 64 2 x.1 x.2.2.flatten :: .own iv 60 36 k rows.flatten :: .blk b6 (.cells (txC ver iv x.2.1 0) 33) :: L0) w' rows ∧ OutsP w (.own x.2.1 64 2 x.1 x.2.2.flatten :: .own iv 60 36 k rows.flatten :: .blk b6 (.cells (txC ver iv x.2.1 0) 33) :: L0) w' x.2.2 ∧
        RF w (.own x.2.1 64 2 x.1 x.2.2.flatten :: .own iv 60 36 k rows.flatten :: .blk b6 (.cells (txC ver iv x.2.1 0) 33) :: L0) w' recs ∧ x.1 ≤ qo + 1 + q7 / 7)
      (fun x => qo + 1 + q7 / 7 - x.1) (0, .slice none 0 0, []) ⟨rfl, rfl, rfl, rfl, rfl, rfl, trivial⟩ ⟨M4.nilOwn _ _, rfl, hF.mv (Mv.mono (fun b _ h => h.imp id (fun ⟨d, hd, hg⟩ => by
        rcases List.mem_cons.1 hd with rfl | hd
        · simp [Chunk.fp, Value.ownBlock] at hg
        · exact ⟨d, hd, hg⟩))), (fun r hr => by cases hr), F4.mv (Mv.mono (fun b _ h => h.imp id (fun ⟨d, hd, hg⟩ => by
        rcases List.mem_cons.1 hd with rfl | hd
        · simp [Chunk.fp, Value.ownBlock] at hg
        · exact ⟨d, hd, hg⟩))), by omega⟩ ?_
    clear M4 hF F4
    rintro ⟨j, ov, orows⟩ w5 ⟨M5, hol, I5, O5, F5, hj⟩
    simp only at M5 hol I5 O5 F5 hj ⊢
    refine ZC.seq ?_; refine ZC.seq ?_; refine ZC.region ?_; refine ZL.val (r_move rfl) rfl ?_; refine ZL.val (r_move rfl) rfl ?_
    refine ZL.val (r_shr rfl rfl (by omega) rfl) rfl ?_
    refine ZL.val (r_and rfl rfl hqoe) rfl ?_
    refine ZL.val (r_add rfl rfl (wrap_i64 (by omega) (by omega))) rfl ?_; refine ZL.val (r_move rfl) rfl ?_
    refine ZL.val (r_and rfl rfl hq7e) rfl ?_
    refine ZL.val (r_quo rfl rfl (by decide) hquo) rfl ?_
    refine ZL.val (r_add rfl rfl (wrap_i64 (by omega) (by omega))) rfl ?_; refine ZL.val (r_lss rfl rfl) rfl ?_; refine ZL.nil ?_; refine ZP.then ?_
    refine ZC.condD rfl (fun hd => ?_) (fun hd => ?_)
    · have hj' : j ≤ qo + q7 / 7 := by omega
      refine ZC.skip ?_; refine ZP.then ?_; refine ZC.seq ?_; refine ZC.block ?_
      refine ZC.turning (Holds [(b6, .cells (txC ver iv ov 0) 33 (0, 0))]) 16 rfl (by kernel_rfl) rfl rfl rfl (fun w6 E6 _ => ?_)
      have R6 := M5.rebase.ext' E6
      have S6 : Holds [(b6, .cells (txC ver iv ov 0) 33 (0, 0))] w6 := ⟨R6.get inferInstance, trivial⟩
      refine ZT.take 0 rfl rfl (fun w' hS' => by first | exact r_move rfl | exact r_assign rfl | exact r_fieldAddr rfl | exact r_add rfl rfl (wrap_i64 (by omega) (by omega)) | exact r_sub rfl rfl (wrap_i64 (by omega) (by omega)) | exact r_mul rfl rfl (wrap_i64 (by omega) (by omega)) | exact r_convInt rfl (wrap_u64 (by omega) (by omega)) | exact r_convInt rfl (wrap_i64 (by omega) (by omega)) | exact r_convInt rfl (wrap_u32 (by omega) (by omega)) | exact r_sliceArr rfl | exact r_nilCheck rfl | exact r_extract rfl rfl | exact r_lenSlice rfl | exact r_and rfl rfl rfl | exact r_shr rfl rfl (by omega) rfl | exact r_toB rfl | exact r_toU rfl | exact r_toQ rfl) (by kernel_rfl) rfl (by kernel_rfl) (by kernel_rfl) rfl rfl (fun _ _ _ _ h => h) S6 ?_
      refine ZT.take 1 rfl rfl (fun w' hS' => r_ldS hS' rfl (by rfl)) (by kernel_rfl) rfl (by kernel_rfl) (by kernel_rfl) rfl rfl (fun _ _ _ _ h => h) S6 ?_
      refine ZT.take 2 rfl rfl (fun w' hS' => by first | exact r_move rfl | exact r_assign rfl | exact r_fieldAddr rfl | exact r_add rfl rfl (wrap_i64 (by omega) (by omega)) | exact r_sub rfl rfl (wrap_i64 (by omega) (by omega)) | exact r_mul rfl rfl (wrap_i64 (by omega) (by omega)) | exact r_convInt rfl (wrap_u64 (by omega) (by omega)) | exact r_convInt rfl (wrap_i64 (by omega) (by omega)) | exact r_convInt rfl (wrap_u32 (by omega) (by omega)) | exact r_sliceArr rfl | exact r_nilCheck rfl | exact r_extract rfl rfl | exact r_lenSlice rfl | exact r_and rfl rfl rfl | exact r_shr rfl rfl (by omega) rfl | exact r_toB rfl | exact r_toU rfl | exact r_toQ rfl) (by kernel_rfl) rfl (by kernel_rfl) (by kernel_rfl) rfl rfl (fun _ _ _ _ h => h) S6 ?_; refine ZT.take 3 rfl rfl (fun w' hS' => by first | exact r_move rfl | exact r_assign rfl | exact r_fieldAddr rfl | exact r_add rfl rfl (wrap_i64 (by omega) (by omega)) | exact r_sub rfl rfl (wrap_i64 (by omega) (by omega)) | exact r_mul rfl rfl (wrap_i64 (by omega) (by omega)) | exact r_convInt rfl (wrap_u64 (by omega) (by omega)) | exact r_convInt rfl (wrap_i64 (by omega) (by omega)) | exact r_convInt rfl (wrap_u32 (by omega) (by omega)) | exact r_sliceArr rfl | exact r_nilCheck rfl | exact r_extract rfl rfl | exact r_lenSlice rfl | exact r_and rfl rfl rfl | exact r_shr rfl rfl (by omega) rfl | exact r_toB rfl | exact r_toU rfl | exact r_toQ rfl) (by kernel_rfl) rfl (by kernel_rfl) (by kernel_rfl) rfl rfl (fun _ _ _ _ h => h) S6 ?_
      refine ZT.take 4 rfl rfl (fun w' hS' => r_toQ rfl) (by kernel_rfl) rfl (by kernel_rfl) (by kernel_rfl) rfl rfl (fun _ _ _ _ h => h) S6 ?_
      refine ZT.take 5 rfl rfl (fun w' hS' => by first | exact r_move rfl | exact r_assign rfl | exact r_fieldAddr rfl | exact r_add rfl rfl (wrap_i64 (by omega) (by omega)) | exact r_sub rfl rfl (wrap_i64 (by omega) (by omega)) | exact r_mul rfl rfl (wrap_i64 (by omega) (by omega)) | exact r_convInt rfl (wrap_u64 (by omega) (by omega)) | exact r_convInt rfl (wrap_i64 (by omega) (by omega)) | exact r_convInt rfl (wrap_u32 (by omega) (by omega)) | exact r_sliceArr rfl | exact r_nilCheck rfl | exact r_extract rfl rfl | exact r_lenSlice rfl | exact r_and rfl rfl rfl | exact r_shr rfl rfl (by omega) rfl | exact r_toB rfl | exact r_toU rfl | exact r_toQ rfl) (by kernel_rfl) rfl (by kernel_rfl) (by kernel_rfl) rfl rfl (fun _ _ _ _ h => h) S6 ?_; refine ZT.take 6 rfl rfl (fun w' hS' => by first | exact r_move rfl | exact r_assign rfl | exact r_fieldAddr rfl | exact r_add rfl rfl (wrap_i64 (by omega) (by omega)) | exact r_sub rfl rfl (wrap_i64 (by omega) (by omega)) | exact r_mul rfl rfl (wrap_i64 (by omega) (by omega)) | exact r_convInt rfl (wrap_u64 (by omega) (by omega)) | exact r_convInt rfl (wrap_i64 (by omega) (by omega)) | exact r_convInt rfl (wrap_u32 (by omega) (by omega)) | exact r_sliceArr rfl | exact r_nilCheck rfl | exact r_extract rfl rfl | exact r_lenSlice rfl | exact r_and rfl rfl rfl | exact r_shr rfl rfl (by omega) rfl | exact r_toB rfl | exact r_toU rfl | exact r_toQ rfl) (by kernel_rfl) rfl (by kernel_rfl) (by kernel_rfl) rfl rfl (fun _ _ _ _ h => h) S6 ?_; refine ZT.take 7 rfl rfl (fun w' hS' => by first | exact r_move rfl | exact r_assign rfl | exact r_fieldAddr rfl | exact r_add rfl rfl (wrap_i64 (by omega) (by omega)) | exact r_sub rfl rfl (wrap_i64 (by omega) (by omega)) | exact r_mul rfl rfl (wrap_i64 (by omega) (by omega)) | exact r_convInt rfl (wrap_u64 (by omega) (by omega)) | exact r_convInt rfl (wrap_i64 (by omega) (by omega)) | exact r_convInt rfl (wrap_u32 (by omega) (by omega)) | exact r_sliceArr rfl | exact r_nilCheck rfl | exact r_extract rfl rfl | exact r_lenSlice rfl | exact r_and rfl rfl rfl | exact r_shr rfl rfl (by omega) rfl | exact r_toB rfl | exact r_toU rfl | exact r_toQ rfl) (by kernel_rfl) rfl (by kernel_rfl) (by kernel_rfl) rfl rfl (fun _ _ _ _ h => h) S6 ?_; refine ZT.take 8 rfl rfl (fun w' hS' => by first | exact r_move rfl | exact r_assign rfl | exact r_fieldAddr rfl | exact r_add rfl rfl (wrap_i64 (by omega) (by omega)) | exact r_sub rfl rfl (wrap_i64 (by omega) (by omega)) | exact r_mul rfl rfl (wrap_i64 (by omega) (by omega)) | exact r_convInt rfl (wrap_u64 (by omega) (by omega)) | exact r_convInt rfl (wrap_i64 (by omega) (by omega)) | exact r_convInt rfl (wrap_u32 (by omega) (by omega)) | exact r_sliceArr rfl | exact r_nilCheck rfl | exact r_extract rfl rfl | exact r_lenSlice rfl | exact r_and rfl rfl rfl | exact r_shr rfl rfl (by omega) rfl | exact r_toB rfl | exact r_toU rfl | exact r_toQ rfl) (by kernel_rfl) rfl (by kernel_rfl) (by kernel_rfl) rfl rfl (fun _ _ _ _ h => h) S6 ?_; refine ZT.take 9 rfl rfl (fun w' hS' => by first | exact r_move rfl | exact r_assign rfl | exact r_fieldAddr rfl | exact r_add rfl rfl (wrap_i64 (by omega) (by omega)) | exact r_sub rfl rfl (wrap_i64 (by omega) (by omega)) | exact r_mul rfl rfl (wrap_i64 (by omega) (by omega)) | exact r_convInt rfl (wrap_u64 (by omega) (by omega)) | exact r_convInt rfl (wrap_i64 (by omega) (by omega)) | exact r_convInt rfl (wrap_u32 (by omega) (by omega)) | exact r_sliceArr rfl | exact r_nilCheck rfl | exact r_extract rfl rfl | exact r_lenSlice rfl | exact r_and rfl rfl rfl | exact r_shr rfl rfl (by omega) rfl | exact r_toB rfl | exact r_toU rfl | exact r_toQ rfl) (by kernel_rfl) rfl (by kernel_rfl) (by kernel_rfl) rfl rfl (fun _ _ _ _ h => h) S6 ?_; refine ZT.take 10 rfl rfl (fun w' hS' => by first | exact r_move rfl | exact r_assign rfl | exact r_fieldAddr rfl | exact r_add rfl rfl (wrap_i64 (by omega) (by omega)) | exact r_sub rfl rfl (wrap_i64 (by omega) (by omega)) | exact r_mul rfl rfl (wrap_i64 (by omega) (by omega)) | exact r_convInt rfl (wrap_u64 (by omega) (by omega)) | exact r_convInt rfl (wrap_i64 (by omega) (by omega)) | exact r_convInt rfl (wrap_u32 (by omega) (by omega)) | exact r_sliceArr rfl | exact r_nilCheck rfl | exact r_extract rfl rfl | exact r_lenSlice rfl | exact r_and rfl rfl rfl | exact r_shr rfl rfl (by omega) rfl | exact r_toB rfl | exact r_toU rfl | exact r_toQ rfl) (by kernel_rfl) rfl (by kernel_rfl) (by kernel_rfl) rfl rfl (fun _ _ _ _ h => h) S6 ?_
      refine ZT.take 11 rfl rfl (fun w' hS' => r_mul rfl rfl rfl) (by kernel_rfl) rfl (by kernel_rfl) (by kernel_rfl) rfl rfl (fun _ _ _ _ h => h) S6 ?_
      refine ZT.take 12 rfl rfl (fun w' hS' => r_add rfl rfl rfl) (by kernel_rfl) rfl (by kernel_rfl) (by kernel_rfl) rfl rfl (fun _ _ _ _ h => h) S6 ?_
      refine ZT.one 13 rfl (by kernel_rfl) rfl rfl rfl ?_
      refine ZL.call (r_call rfl) rfl (Script_ok _ w6) (fun sv w7 hv => ?_)
      obtain ⟨E7, scr, hscr, hsv⟩ := hv
      have M6 := M5.join R6
      have M7 := M5.join (R6.ext' E7)
      have mv7 := Mv.frame (w0 := w) (R6.ext' E7)
      have hsv7 := hsv.mv (Mv.fresh M6 E7.size)
      have R7 := M7.rebase
      have S7 : Holds [(b6, .cells (txC ver iv ov 0) 33 (0, 0))] w7 := ⟨R7.get inferInstance, trivial⟩
      obtain ⟨psv, csv, hsv0⟩ := hsv.shape
      refine ZL.nil (ZP.turning S7 ?_)
      refine ZT.take 14 rfl rfl (fun w' hS' => r_buildOne rfl rfl (cs := [u64 _, sv]) (by subst hsv0; rfl)) (by kernel_rfl) rfl (by kernel_rfl) (by kernel_rfl) rfl rfl (fun _ _ _ _ h => h) S7 ?_
      refine ZT.one 15 rfl (by kernel_rfl) rfl rfl rfl ?_
      refine ZL.bslice R7 rfl rfl rfl (by simp [Value.cells]) (by decide) rfl (fun g1 w8 R8 => ?_)
      have S8 : Holds [(b6, .cells (txC ver iv ov 0) 33 (0, 0))] w8 := ⟨R8.get inferInstance, trivial⟩
      refine ZL.nil (ZP.turning S8 ?_)
      refine ZT.done rfl (by kernel_rfl) ?_
      refine ZL.append R8 rfl rfl (R8.own.slc (X := No) (fun _ _ h => h)) (by subst hsv0; intro x hx; simp only [List.mem_cons, List.not_mem_nil, or_false] at hx; rcases hx with rfl | rfl <;> rfl) (by simp only [maxLen]; omega) (by omega) rfl (fun ov' w9 R9 => ?_)
      obtain ⟨pv, cv, hov⟩ := (R9.drop).own.shape
      refine ZL.val (r_fieldAddr rfl) rfl ?_
      refine ZL.st R9 rfl rfl (cs' := txC ver iv ov' 0) rfl (by rw [hov]; rfl) (fun w10 R10 => ?_)
      refine ZL.nil ?_; refine ZP.blockN ?_; refine ZP.then ?_; refine ZC.region ?_; refine ZL.val (r_move rfl) rfl ?_; refine ZL.val (r_add rfl rfl (wrap_i64 (by omega) (by omega))) rfl ?_; refine ZL.val (r_assign rfl) rfl ?_; refine ZL.nil ?_
      have M10 := M7.join R10
      have mv10 := (Mv.frame (w0 := w) R10).trans Mv.drop
      refine ZP.round (j + 1, ov', orows ++ [[u64 (u64of (900 + (i : Int))), sv]]) ⟨rfl, rfl, rfl, rfl, rfl, rfl, trivial⟩ ⟨?_, ?_, ?_, ?_, ?_, ?_⟩ ?_
      · simp only [List.flatten_append, List.flatten_cons, List.flatten_nil, List.append_nil]
        exact M10.drop
      · simp [hol]
      · simp only [List.flatten_append, List.flatten_cons, List.flatten_nil, List.append_nil]
        exact (I5.mv mv7).mv mv10
      · simp only [List.flatten_append, List.flatten_cons, List.flatten_nil, List.append_nil]
        exact ((O5.mv mv7).mv mv10).snoc _ (hsv7.mv mv10) hscr
      · simp only [List.flatten_append, List.flatten_cons, List.flatten_nil, List.append_nil]
        exact (F5.mv mv7).mv mv10
      · simp only; omega
      · simp only; omega
    · have hjq : j = qo + 1 + q7 / 7 := by omega
      refine ZC.exit ?_; refine ZP.thenX ?_; refine ZP.thenX ?_; refine ZP.blockE ?_; refine ZP.then ?_
      refine ZC.mid (X := Value × List (List Value)) (fun x => [(6, .pointer (some ⟨b6, 0, none⟩)), (5, .int .i64 n), (4, .int .i64 i), (3, outv), (0, .slice (some ⟨bl, ol, none⟩) l.length c)])
        (fun x w' => Mem w No (.own x.1 64 2 x.2.length x.2.flatten :: .own iv 60 36 k rows.flatten :: .blk b6 (.cells (txC ver iv x.1 0) 33) :: L0) w' ∧
          InsP w (.own x.1 64 2 x.2.length x.2.flatten :: .own iv 60 36 k rows.flatten :: .blk b6 (.cells (txC ver iv x.1 0) 33) :: L0) w' rows ∧ OutsP w (.own x.1 64 2 x.2.length x.2.flatten :: .own iv 60 36 k rows.flatten :: .blk b6 (.cells (txC ver iv x.1 0) 33) :: L0) w' x.2 ∧
          RF w (.own x.1 64 2 x.2.length x.2.flatten :: .own iv 60 36 k rows.flatten :: .blk b6 (.cells (txC ver iv x.1 0) 33) :: L0) w' recs ∧ 1 ≤ x.2.length ∧ x.2.length ≤ 4) ?_ ?_
      · refine ZC.seq ?_; refine ZC.region ?_; refine ZL.val (r_move rfl) rfl ?_
        refine ZL.val (r_shr rfl rfl (by omega) rfl) rfl ?_
        refine ZL.val (r_and rfl rfl rfl) rfl ?_
        refine ZL.val (r_eql rfl rfl) rfl ?_; refine ZL.nil ?_; refine ZP.then ?_
        subst hol
        refine ZC.condD rfl (fun hz => ?_) (fun hz => ?_)
        rotate_left
        · refine ZC.skip ?_
          exact ZP.mid (ov, orows) ⟨rfl, rfl, rfl, rfl, rfl, trivial⟩ ⟨M5, I5, O5, F5, by simp only; omega, by simp only; omega⟩
        skip
        refine ZC.turning (Holds [(b6, .cells (txC ver iv ov 0) 33 (0, 0))]) 10 rfl (by kernel_rfl) rfl rfl rfl (fun w6 E6 _ => ?_)
        have R6 := M5.rebase.ext' E6
        have S6 : Holds [(b6, .cells (txC ver iv ov 0) 33 (0, 0))] w6 := ⟨R6.get inferInstance, trivial⟩
        refine ZT.take 0 rfl rfl (fun w' hS' => by first | exact r_move rfl | exact r_assign rfl | exact r_fieldAddr rfl | exact r_add rfl rfl (wrap_i64 (by omega) (by omega)) | exact r_sub rfl rfl (wrap_i64 (by omega) (by omega)) | exact r_mul rfl rfl (wrap_i64 (by omega) (by omega)) | exact r_convInt rfl (wrap_u64 (by omega) (by omega)) | exact r_convInt rfl (wrap_i64 (by omega) (by omega)) | exact r_convInt rfl (wrap_u32 (by omega) (by omega)) | exact r_sliceArr rfl | exact r_nilCheck rfl | exact r_extract rfl rfl | exact r_lenSlice rfl | exact r_and rfl rfl rfl | exact r_shr rfl rfl (by omega) rfl | exact r_toB rfl | exact r_toU rfl | exact r_toQ rfl) (by kernel_rfl) rfl (by kernel_rfl) (by kernel_rfl) rfl rfl (fun _ _ _ _ h => h) S6 ?_
        refine ZT.take 1 rfl rfl (fun w' hS' => r_ldS hS' rfl (by rfl)) (by kernel_rfl) rfl (by kernel_rfl) (by kernel_rfl) rfl rfl (fun _ _ _ _ h => h) S6 ?_
        refine ZT.take 2 rfl rfl (fun w' hS' => by first | exact r_move rfl | exact r_assign rfl | exact r_fieldAddr rfl | exact r_add rfl rfl (wrap_i64 (by omega) (by omega)) | exact r_sub rfl rfl (wrap_i64 (by omega) (by omega)) | exact r_mul rfl rfl (wrap_i64 (by omega) (by omega)) | exact r_convInt rfl (wrap_u64 (by omega) (by omega)) | exact r_convInt rfl (wrap_i64 (by omega) (by omega)) | exact r_convInt rfl (wrap_u32 (by omega) (by omega)) | exact r_sliceArr rfl | exact r_nilCheck rfl | exact r_extract rfl rfl | exact r_lenSlice rfl | exact r_and rfl rfl rfl | exact r_shr rfl rfl (by omega) rfl | exact r_toB rfl | exact r_toU rfl | exact r_toQ rfl) (by kernel_rfl) rfl (by kernel_rfl) (by kernel_rfl) rfl rfl (fun _ _ _ _ h => h) S6 ?_; refine ZT.take 3 rfl rfl (fun w' hS' => by first | exact r_move rfl | exact r_assign rfl | exact r_fieldAddr rfl | exact r_add rfl rfl (wrap_i64 (by omega) (by omega)) | exact r_sub rfl rfl (wrap_i64 (by omega) (by omega)) | exact r_mul rfl rfl (wrap_i64 (by omega) (by omega)) | exact r_convInt rfl (wrap_u64 (by omega) (by omega)) | exact r_convInt rfl (wrap_i64 (by omega) (by omega)) | exact r_convInt rfl (wrap_u32 (by omega) (by omega)) | exact r_sliceArr rfl | exact r_nilCheck rfl | exact r_extract rfl rfl | exact r_lenSlice rfl | exact r_and rfl rfl rfl | exact r_shr rfl rfl (by omega) rfl | exact r_toB rfl | exact r_toU rfl | exact r_toQ rfl) (by kernel_rfl) rfl (by kernel_rfl) (by kernel_rfl) rfl rfl (fun _ _ _ _ h => h) S6 ?_; refine ZT.take 4 rfl rfl (fun w' hS' => by first | exact r_move rfl | exact r_assign rfl | exact r_fieldAddr rfl | exact r_add rfl rfl (wrap_i64 (by omega) (by omega)) | exact r_sub rfl rfl (wrap_i64 (by omega) (by omega)) | exact r_mul rfl rfl (wrap_i64 (by omega) (by omega)) | exact r_convInt rfl (wrap_u64 (by omega) (by omega)) | exact r_convInt rfl (wrap_i64 (by omega) (by omega)) | exact r_convInt rfl (wrap_u32 (by omega) (by omega)) | exact r_sliceArr rfl | exact r_nilCheck rfl | exact r_extract rfl rfl | exact r_lenSlice rfl | exact r_and rfl rfl rfl | exact r_shr rfl rfl (by omega) rfl | exact r_toB rfl | exact r_toU rfl | exact r_toQ rfl) (by kernel_rfl) rfl (by kernel_rfl) (by kernel_rfl) rfl rfl (fun _ _ _ _ h => h) S6 ?_
        refine ZT.take 5 rfl rfl (fun w' hS' => r_mul rfl rfl rfl) (by kernel_rfl) rfl (by kernel_rfl) (by kernel_rfl) rfl rfl (fun _ _ _ _ h => h) S6 ?_
        refine ZT.take 6 rfl rfl (fun w' hS' => r_toQ rfl) (by kernel_rfl) rfl (by kernel_rfl) (by kernel_rfl) rfl rfl (fun _ _ _ _ h => h) S6 ?_
        refine ZT.one 7 rfl (by kernel_rfl) rfl rfl rfl ?_
        refine ZL.call (r_call rfl) rfl (Script_ok _ w6) (fun sv w7 hv => ?_)
        obtain ⟨E7, scr, hscr, hsv⟩ := hv
        have M6 := M5.join R6
        have M7 := M5.join (R6.ext' E7)
        have mv7 := Mv.frame (w0 := w) (R6.ext' E7)
        have hsv7 := hsv.mv (Mv.fresh M6 E7.size)
        have R7 := M7.rebase
        have S7 : Holds [(b6, .cells (txC ver iv ov 0) 33 (0, 0))] w7 := ⟨R7.get inferInstance, trivial⟩
        obtain ⟨psv, csv, hsv0⟩ := hsv.shape
        refine ZL.nil (ZP.turning S7 ?_)
        refine ZT.take 8 rfl rfl (fun w' hS' => r_buildOne rfl rfl (cs := [u64 _, sv]) (by subst hsv0; rfl)) (by kernel_rfl) rfl (by kernel_rfl) (by kernel_rfl) rfl rfl (fun _ _ _ _ h => h) S7 ?_
        refine ZT.one 9 rfl (by kernel_rfl) rfl rfl rfl ?_
        refine ZL.bslice R7 rfl rfl rfl (by simp [Value.cells]) (by decide) rfl (fun g1 w8 R8 => ?_)
        have S8 : Holds [(b6, .cells (txC ver iv ov 0) 33 (0, 0))] w8 := ⟨R8.get inferInstance, trivial⟩
        refine ZL.nil (ZP.turning S8 ?_)
        refine ZT.done rfl (by kernel_rfl) ?_
        refine ZL.append R8 rfl rfl (R8.own.slc (X := No) (fun _ _ h => h)) (by subst hsv0; intro x hx; simp only [List.mem_cons, List.not_mem_nil, or_false] at hx; rcases hx with rfl | rfl <;> rfl) (by simp only [maxLen]; omega) (by omega) rfl (fun ov' w9 R9 => ?_)
        obtain ⟨pv, cv, hov⟩ := (R9.drop).own.shape
        refine ZL.val (r_fieldAddr rfl) rfl ?_
        refine ZL.st R9 rfl rfl (cs' := txC ver iv ov' 0) rfl (by rw [hov]; rfl) (fun w10 R10 => ?_)
        refine ZL.nil ?_
        have M10 := M7.join R10
        have mv10 := (Mv.frame (w0 := w) R10).trans Mv.drop
        refine ZP.mid (ov', orows ++ [[u64 (u64of (IntKind.i64.wrap (iand IntKind.i64 (n / 2 ^ min ((8 : Int).toNat) IntKind.i64.bits) 1 * 500))), sv]]) ⟨rfl, rfl, rfl, rfl, rfl, trivial⟩ ⟨?_, ?_, ?_, ?_, ?_, ?_⟩
        · simp only [List.flatten_append, List.flatten_cons, List.flatten_nil, List.append_nil, List.length_append, List.length_cons, List.length_nil]
          exact M10.drop
        · simp only [List.flatten_append, List.flatten_cons, List.flatten_nil, List.append_nil, List.length_append, List.length_cons, List.length_nil]
          exact (I5.mv mv7).mv mv10
        · simp only [List.flatten_append, List.flatten_cons, List.flatten_nil, List.append_nil, List.length_append, List.length_cons, List.length_nil]
          exact ((O5.mv mv7).mv mv10).snoc _ (hsv7.mv mv10) hscr
        · simp only [List.flatten_append, List.flatten_cons, List.flatten_nil, List.append_nil, List.length_append, List.length_cons, List.length_nil]
          exact (F5.mv mv7).mv mv10
        · simp
        · simp; omega
      · clear M5 I5 O5 F5
        rintro ⟨ov1, orows1⟩ w6 ⟨M6, I6, O6, F6, ho1, ho4⟩
        simp only at M6 I6 O6 F6 ho1 ho4 ⊢
        subst hL0
        obtain ⟨pov, cov, hov1⟩ := M6.own.shape
        obtain ⟨piv, civ, hiv1⟩ := M6.drop.own.shape
        have R6 := M6.rebase
        refine ZC.region ?_; refine ZL.val (r_move rfl) rfl ?_
        refine ZL.val (r_ldW R6 rfl (by rfl)) rfl ?_
        refine ZL.bslice R6 rfl rfl rfl (by simp [Value.cells, txC]) (by decide) rfl (fun g1 w7 R7 => ?_)
        refine ZL.append R7 rfl rfl (R7.own.slc (X := No) (fun _ _ h => h)) (by subst hov1 hiv1; intro x hx; simp only [txC, List.mem_cons, List.not_mem_nil, or_false] at hx; rcases hx with rfl | rfl | rfl | rfl <;> rfl) (by simp only [maxLen]; omega) (by omega) rfl (fun outv' w8 R8 => ?_)
        refine ZL.val (r_assign rfl) rfl ?_; refine ZL.nil ?_; refine ZP.blockN ?_; refine ZP.then ?_; refine ZC.region ?_; refine ZL.val (r_move rfl) rfl ?_; refine ZL.val (r_add rfl rfl (wrap_i64 (by omega) (by omega))) rfl ?_; refine ZL.val (r_assign rfl) rfl ?_; refine ZL.nil ?_
        have M8 := (M6.join R8)
        have mv8 := (Mv.frame (w0 := w) R8).trans Mv.drop
        have I8 := I6.mv mv8
        have O8 := O6.mv mv8
        have F8 := F6.mv mv8
        have M9 := M8.drop
        have P9 := (M9.perm (perm4 _ _ _ _ _)).drop
        subst hrl
        have mv9 : Mv w8 (Out w (.own ov1 64 2 orows1.length orows1.flatten :: .own iv 60 36 rows.length rows.flatten :: .blk b6 (.cells (txC ver iv ov1 0) 33) :: .own outv' 33 4 (recs.length + 1) ((lrows recs).flatten ++ (txC ver iv ov1 0).toList) :: lchs recs)) w8 (Out w (.own outv' 33 4 (recs.length + 1) ((lrows recs).flatten ++ (txC ver iv ov1 0).toList) :: lchs (⟨ver, iv, ov1, rows, orows1⟩ :: recs))) :=
          Mv.outSub (by intro c hc; simp only [lchs, LRec.ci, LRec.co, List.mem_cons] at hc ⊢; rcases hc with h | h | h | h <;> simp [h])
        have hfl : (lrows (⟨ver, iv, ov1, rows, orows1⟩ :: recs)).flatten = (lrows recs).flatten ++ (txC ver iv ov1 0).toList := by
          rw [lrows_cons]; simp [LRec.row, txC]
        refine ZP.round (i + 1, outv', ⟨ver, iv, ov1, rows, orows1⟩ :: recs) ⟨rfl, rfl, rfl, trivial⟩ ⟨?_, ?_, ?_, ?_, ?_⟩ ?_
        · simp only [hfl, List.length_cons]
          exact P9
        · simp only [hfl, List.length_cons]
          intro r hr
          rcases List.mem_cons.1 hr with rfl | hr
          · exact ⟨I8.mv mv9, O8.mv mv9, show 1 ≤ rows.length by omega, show rows.length ≤ 2 by omega, ho1, ho4⟩
          · exact (F8.mv mv9) r hr
        · simp [hri]
        · simp only; omega
        · simp only; omega
        · simp only; omega
end Go.Proofs.YtibobcjfjnoclaaGreatDoor.Z
end
section
/- Linked transactions as a list; what telling one transaction again and again leaves. -/
set_option linter.unusedVariables false
set_option linter.unusedSimpArgs false
set_option linter.unusedSectionVars false
set_option maxRecDepth 100000
set_option maxHeartbeats 4000000
namespace Go.Proofs.YtibobcjfjnoclaaGreatDoor.Z
open Go Go.RowKit

theorem TTx.plain.fits {T : TTx} (h : T.plain) : T.fits :=
  ⟨by have := h.i2; omega, by have := h.o2; omega, fun x hx => by obtain ⟨h1, h2⟩ := h.ip x hx; rw [h1, h2]; simp, fun x hx => by have := h.op x hx; omega⟩
theorem insB_plain : ∀ (l : List TIn), (∀ x ∈ l, x.script = [] ∧ x.wit = []) → (insB l).length ≤ 45 * l.length
  | [], _ => by simp [insB]
  | a :: r, h => by
    have ih := insB_plain r fun x hx => h x (List.mem_cons_of_mem _ hx)
    obtain ⟨h1, -⟩ := h a (by simp)
    have h2 := cnt_length a.script.length
    simp only [insB, List.map_cons, List.flatten_cons, List.length_append, List.length_cons] at ih ⊢
    have : a.enc.length ≤ 45 := by
      simp only [TIn.enc, List.length_append, le_length, h1, List.length_nil]
      have := a.prev.property
      rw [h1] at h2
      simp only [List.length_nil] at h2
      omega
    omega
theorem outsB_plain : ∀ (l : List TOut), (∀ x ∈ l, x.script.length ≤ 40) → (outsB l).length ≤ 53 * l.length
  | [], _ => by simp [outsB]
  | a :: r, h => by
    have ih := outsB_plain r fun x hx => h x (List.mem_cons_of_mem _ hx)
    have h1 := h a (by simp)
    have h2 := cnt_length a.script.length
    simp only [outsB, List.map_cons, List.flatten_cons, List.length_append, List.length_cons] at ih ⊢
    have : a.enc.length ≤ 53 := by
      simp only [TOut.enc, List.length_append, le_length]
      omega
    omega
theorem TTx.plain.weight {T : TTx} (h : T.plain) : T.weight ≤ 4000 := by
  have hw : T.witnessed = false := by
    unfold TTx.witnessed
    rw [List.any_eq_false]
    intro x hx
    obtain ⟨-, h2⟩ := h.ip x hx
    simp [h2]
  have hb : T.bytes = T.base := by unfold TTx.bytes; rw [hw]; simp
  have h1 := insB_plain T.ins h.ip
  have h2 := outsB_plain T.outs h.op
  have h3 := h.i2
  have h4 := h.o2
  have h5 := cnt_length T.ins.length
  have h6 := cnt_length T.outs.length
  unfold TTx.weight
  rw [hb]
  have : T.base.length ≤ 400 := by
    unfold TTx.base
    split
    · simp only [List.length_append, le_length, TTx.bodyB]; omega
    · simp
  omega
theorem Linked_txs (v : Value) (l : List Int) (w : World) (hv : IntsA w v l) : Ret P 6 #[v] w (fun r w' =>
    Ext w w' ∧ ∃ Ts : List TTx, Ts.length = min 14 l.length ∧ (∀ T ∈ Ts, T.plain) ∧ ListR TxE 4 w' (· < w.heap.size) r Ts) := by
  refine (Linked_ok v l w hv).mono fun r w' ⟨recs, M, hR, hl⟩ => ⟨M.ext, ?_⟩
  generalize hL : (Chunk.own r 33 4 recs.length (lrows recs).flatten :: lchs recs) = L at M hR
  have hown : Chunk.own r 33 4 recs.length (lrows recs).flatten ∈ L := by rw [← hL]; simp
  have hs : SlC w' (· < w.heap.size) 4 r recs.length (lrows recs).flatten := M.slcX hown _ (fun g h => h)
  have hmem : ∀ row ∈ lrows recs, row.length = 4 ∧ ∃ T : TTx, TxE w' (· < w.heap.size) row T ∧ T.plain := fun row hrow => by
    refine ⟨lrows_row row hrow, ?_⟩
    unfold lrows at hrow
    rw [List.mem_reverse, List.mem_map] at hrow
    obtain ⟨a, ha, rfl⟩ := hrow
    have hc := lchs_mem ha
    obtain ⟨T, h1, h2, -, -⟩ := (hR a ha).tx M (by rw [← hL]; exact List.mem_cons_of_mem _ hc.1) (by rw [← hL]; exact List.mem_cons_of_mem _ hc.2) (· < w.heap.size) (fun g h => h)
    exact ⟨T, h1, h2⟩
  obtain ⟨Ts, h1, h2, h3⟩ := rows_list (Pr := TTx.plain) hmem
  rw [lrows_len] at h1
  exact ⟨Ts, h1.trans hl, h2, lrows recs, by rw [lrows_len, h1], fun r hr => (hmem r hr).1, by rw [h1]; exact hs, h3⟩
theorem IntsA.of_own {w : World} {e : Nat} {v : Value} {l : List Int} (h : OwnR w e 1 v l.length (l.map (Value.int .i64))) : IntsA w v l := by
  rcases h.2 with ⟨rfl, h0⟩ | ⟨g, cap, cur, rfl, hg, h1, h2, h3, h4⟩
  · exact ⟨none, 0, by rw [h0], fun hne => absurd (List.length_eq_zero_iff.1 h0) hne⟩
  · refine ⟨_, cap, rfl, fun _ => ⟨g, 0, cur, e, (0, 0), rfl, hg, fun i u hu => ?_⟩⟩
    have h5 : (l.map (Value.int .i64))[i]? = some (.int .i64 u) := by rw [List.getElem?_map, hu]; rfl
    rw [← h4, List.getElem?_take] at h5
    split at h5
    · rw [Nat.zero_add]; simpa using h5
    · cases h5
theorem Mv.beside {w w' : World} {N K K' : List Chunk} (h' : Mem w No N w') (hs : ∀ c ∈ K', c ∈ K ∨ c ∈ N) : Mv w (fpIn K) w' (fpIn K') :=
  ⟨fun b hb _ => h'.ext.keep b hb id, fun b hb ⟨c, hc, hg⟩ => by
    rcases hs c hc with h | h
    · exact ⟨c, h, hg⟩
    · have := (h'.mine c h b hg).resolve_left id
      omega, h'.ext.size⟩
theorem ListR.tx {w w' : World} {X X' : Nat → Prop} {v : Value} {l : List TTx} (h : ListR TxE 4 w X v l) (m : Mv w X w' X') : ListR TxE 4 w' X' v l := ListR.mv (fun _ _ h => TxE.mv m h) h m

/-- One transaction that these told, one behind the other. -/
structure AG (T : TTx) (ks : List Int) (H : HM) (i : Nat) : Prop where
  keys : H.p.map (·.1) = ks
  one : ∀ x ∈ H.p, ∃ a : Told, x.2.2 = [a] ∧ a.id = T.wid
  nol : ks = [] → H.l = []
  l : ks ≠ [] → ∃ v, H.l = [(T.wid, (v, T))]
  seq0 : 0 ≤ H.seq
  seq : H.seq ≤ i
section
variable {T : TTx} {ks : List Int} {H H' : HM} {i : Nat} {k now : Int} {gone : List B32} {ok : Bool}
theorem AG.at (h : AG T ks H i) (hok : H.ok) (hk : k ∈ ks) : ∃ v a, H.told k = (v, [a]) ∧ a.id = T.wid := by
  rw [← h.keys] at hk
  obtain ⟨x, hx, rfl⟩ := List.mem_map.1 hk
  obtain ⟨a, h1, h2⟩ := h.one x hx
  refine ⟨x.2.1, a, ?_, h2⟩
  unfold HM.told
  rw [mget_of hok.op.nod (k := x.1) (v := x.2) hx, ← h1]; rfl
theorem AG.no (h : AG T ks H i) (hk : k ∉ ks) : mget H.p k = none := by
  cases hm : mget H.p k with
  | none => rfl
  | some u => exact absurd (by rw [← h.keys]; exact List.mem_map_of_mem (f := (·.1)) (mget_mem hm)) hk
theorem AG.has (h : AG T ks H i) (hok : H.ok) : H.hasB k T.wid = decide (k ∈ ks) := by
  unfold HM.hasB
  by_cases hk : k ∈ ks
  · obtain ⟨v, a, h1, h2⟩ := h.at hok hk
    simp [h1, h2, hk]
  · unfold HM.told
    simp [h.no hk, hk]
theorem AG.tx (h : AG T ks H i) (hne : ks ≠ []) : (H.tx T.wid).2 = T := by
  obtain ⟨v, hl⟩ := h.l hne
  unfold HM.tx
  rw [hl]
  simp [mget]
theorem AG.add (h : AG T ks H i) (hok : H.ok) (hw : T.weight ≤ 4000) (A : AddR H k T now H' gone ok) : ok = true ∧ gone = [] ∧ AG T (if k ∈ ks then ks else ks ++ [k]) H' (i + 1) := by
  cases A with
  | heavy h1 => omega
  | known h1 hb =>
    rw [h.has hok] at hb
    have hk : k ∈ ks := by simpa using hb
    rw [if_pos hk]
    exact ⟨rfl, rfl, h.keys, h.one, h.nol, h.l, h.seq0, by have := h.seq; omega⟩
  | added h1 hb H1 _ _ n v pv e1 e2 e3 hE h5 =>
    rw [h.has hok] at hb
    have hk : k ∉ ks := by simpa using hb
    rw [if_neg hk]
    have hmk := h.no hk
    have ht0 : H.told k = (.slice none 0 0, []) := by unfold HM.told; rw [hmk]; rfl
    rw [ht0, List.nil_append] at e2
    have hl1 : H1.l = [(T.wid, (v, T))] := by
      rw [e1]
      cases hks : ks with
      | nil => rw [h.nol hks]; rfl
      | cons a r =>
        obtain ⟨v0, hl⟩ := h.l (by rw [hks]; simp)
        rw [hl]; simp [mput, mget]
    have ht1 : H1.told k = (pv, [⟨T.wid, now, H.seq⟩]) := HM.told_put e2
    have hn : n = 0 := hE.fit (by rw [ht1]; simp) (by
      rw [ht1]
      simp [HM.weigh, HM.tx, hl1, mget]; omega)
    obtain ⟨hg, hl'⟩ := hE.zero hn
    obtain ⟨v2, hp⟩ := hE.p
    rw [hn, List.drop_zero, ht1, e2, mput_put] at hp
    have hp' : H'.p = H.p ++ [(k, (v2, [⟨T.wid, now, H.seq⟩]))] := by
      rw [hp]; unfold mput; rw [hmk]; rfl
    refine ⟨rfl, hg, ?_, ?_, ?_, ?_, ?_, ?_⟩
    · rw [hp', List.map_append, h.keys]; rfl
    · intro x hx
      rw [hp'] at hx
      rcases List.mem_append.1 hx with hx | hx
      · exact h.one x hx
      · simp only [List.mem_singleton] at hx
        subst hx
        exact ⟨_, rfl, rfl⟩
    · intro hc; simp at hc
    · intro _; exact ⟨v, by rw [hl', hl1]⟩
    · rw [hE.seq, e3]; have := h.seq0; omega
    · rw [hE.seq, e3]; have := h.seq; omega
theorem AG.used (h : AG T ks H i) (hok : H.ok) (hk : k ∈ ks) : (H.told k).2.length = 1 ∧ H.weigh (H.told k).2 = T.weight := by
  obtain ⟨v, a, h1, h2⟩ := h.at hok hk
  have := h.tx (List.ne_nil_of_mem hk)
  rw [h1]
  simp [HM.weigh, h2, this]
theorem AG.tellers (h : AG T ks H i) (hok : H.ok) : H.tellers T.wid = ks := by
  unfold HM.tellers
  rw [h.keys]
  refine List.filter_eq_self.2 fun k hk => ?_
  rw [h.has hok]; simpa using hk
end
def hasK (ks : List Int) : List (Int × Bool) := ks.map fun k => (k, true)
theorem hasK_put (ks : List Int) (k : Int) : mput (hasK ks) k true = hasK (if k ∈ ks then ks else ks ++ [k]) := by
  unfold mput
  by_cases hk : k ∈ ks
  · have : (mget (hasK ks) k).isSome = true := by
      cases hm : mget (hasK ks) k with
      | some u => rfl
      | none => exact absurd rfl (mget_none hm (k, true) (List.mem_map.2 ⟨k, hk, rfl⟩))
    rw [if_pos this, if_pos hk]
    unfold hasK
    rw [List.map_map]
    refine List.map_congr_left fun q _ => ?_
    simp only [Function.comp_apply]; split <;> rfl
  · have : mget (hasK ks) k = none := by
      cases hm : mget (hasK ks) k with
      | none => rfl
      | some u =>
        obtain ⟨q, hq, he⟩ := List.mem_map.1 (mget_mem hm)
        simp only [Prod.mk.injEq] at he
        exact absurd (he.1 ▸ hq) hk
    rw [this, if_neg hk]
    simp [hasK]
end Go.Proofs.YtibobcjfjnoclaaGreatDoor.Z
end
