/- What CoinBack keeps of the transactions that were made; an argument that is a slice of integers. -/
import Derived.Test.YthcgmdmdgpljmaaDoorGuard
import Derived.Test.YthcgmdmdgpljmaaDoorPlain
import Derived.Test.YthcgmdmdgpljmaaDoorSort
set_option linter.unusedVariables false
set_option linter.unusedSimpArgs false
set_option linter.unusedSectionVars false
namespace Go.Proofs.YthcgmdmdgpljmaaDoor.Z
open Go Go.RowKit

theorem V.eq {P : Program} {σ : Env} {op : Op} {v v' : Value} {w : World} (h : V P σ op v w) (e : v = v') : V P σ op v' w := e ▸ h

/-- A slice of integers that was handed in. -/
def IntsA (w : World) (v : Value) (l : List Int) : Prop := ∃ p c, v = .slice p l.length c ∧ (l ≠ [] → ∃ b o cs e fz, p = some ⟨b, o, none⟩ ∧ w.heap[b]? = some (.cells cs e fz) ∧ ∀ i u, l[i]? = some u → cs[o + i]? = some (.int .i64 u))
theorem IntsA.ext {w w' : World} {v : Value} {l : List Int} (h : IntsA w v l) (he : Ext w w') : IntsA w' v l := by
  obtain ⟨p, c, rfl, hh⟩ := h
  refine ⟨p, c, rfl, fun hl => ?_⟩
  obtain ⟨b, o, cs, e, fz, rfl, h1, h2⟩ := hh hl
  exact ⟨b, o, cs, e, fz, rfl, he.at h1 id, h2⟩
theorem IntsA.elem {w : World} {p : Option Addr} {n c : Nat} {l : List Int} (h : IntsA w (.slice p n c) l) {i : Nat} (hi : i < l.length) :
    n = l.length ∧ ∃ b o cs e fz, p = some ⟨b, o, none⟩ ∧ w.heap[b]? = some (.cells cs e fz) ∧ cs[o + i]? = some (.int .i64 l[i]) := by
  obtain ⟨p', c', hv, hh⟩ := h
  simp only [Value.slice.injEq] at hv
  obtain ⟨rfl, rfl, rfl⟩ := hv
  obtain ⟨b, o, cs, e, fz, rfl, h1, h2⟩ := hh (by intro e; subst e; simp at hi)
  exact ⟨rfl, b, o, cs, e, fz, rfl, h1, h2 i _ (List.getElem?_eq_getElem hi)⟩

/-- One transaction that was made: its cells, what they read as, and its number. -/
structure Rec where
  row : List Value
  t : TTx
  h : Int
def Rec.new (r : Rec) : CMap := newC r.t r.h r.h false r.t.outs.length
def cur : List Rec → CMap
  | [] => []
  | r :: rest => cur rest ++ r.new
def szs : List Rec → List Int
  | [] => []
  | r :: rest => szs rest ++ [((cur rest).length : Int)]
def rws : List Rec → List (List Value)
  | [] => []
  | r :: rest => rws rest ++ [r.row]
def Good : List Rec → Prop
  | [] => True
  | r :: rest => hasAny (cur rest) (ptsOf r.t.id r.t.outs.length) = false ∧ 1 ≤ r.t.outs.length ∧ r.t.outs.length ≤ 4 ∧ Good rest
theorem Rec.new_length (r : Rec) : r.new.length = r.t.outs.length := newC_length ..
theorem rws_length : ∀ l, (rws l).length = l.length
  | [] => rfl
  | r :: rest => by simp [rws, rws_length rest]
theorem szs_length : ∀ l, (szs l).length = l.length
  | [] => rfl
  | r :: rest => by simp [szs, szs_length rest]
theorem cur_length : ∀ {l}, Good l → (cur l).length ≤ 4 * l.length
  | [], _ => by simp [cur]
  | r :: rest, h => by
    have := cur_length h.2.2.2
    simp only [cur, List.length_append, Rec.new_length, List.length_cons]
    have := h.2.2.1
    omega
theorem rws_pre : ∀ (d rs : List Rec), ∃ x, rws (d ++ rs) = rws rs ++ x
  | [], rs => ⟨[], by simp⟩
  | r :: d, rs => by
    obtain ⟨x, hx⟩ := rws_pre d rs
    exact ⟨x ++ [r.row], by simp [rws, hx]⟩
theorem szs_pre : ∀ (d rs : List Rec), ∃ x, szs (d ++ rs) = szs rs ++ x
  | [], rs => ⟨[], by simp⟩
  | r :: d, rs => by
    obtain ⟨x, hx⟩ := szs_pre d rs
    exact ⟨x ++ [((cur (d ++ rs)).length : Int)], by simp [szs, hx]⟩
theorem rws_at {all d rest : List Rec} {r : Rec} (h : all = d ++ r :: rest) : (rws all)[rest.length]? = some r.row := by
  obtain ⟨x, hx⟩ := rws_pre d (r :: rest)
  rw [h, hx, rws, List.append_assoc, List.getElem?_append_right (by rw [rws_length]; exact Nat.le_refl _), rws_length]
  simp
theorem szs_at {all d rest : List Rec} {r : Rec} (h : all = d ++ r :: rest) : (szs all)[rest.length]? = some ((cur rest).length : Int) := by
  obtain ⟨x, hx⟩ := szs_pre d (r :: rest)
  rw [h, hx, szs, List.append_assoc, List.getElem?_append_right (by rw [szs_length]; exact Nat.le_refl _), szs_length]
  simp
theorem rws_row {all : List Rec} (h : ∀ r ∈ all, r.row.length = 4) : ∀ x ∈ rws all, x.length = 4 := by
  induction all with
  | nil => intro x hx; simp [rws] at hx
  | cons r rest ih =>
    intro x hx
    simp only [rws, List.mem_append, List.mem_singleton] at hx
    rcases hx with hx | rfl
    · exact ih (fun r hr => h r (List.mem_cons_of_mem _ hr)) x hx
    · exact h r (List.mem_cons_self ..)
/-- What each transaction reads as. -/
def RecF (w0 : World) (L : List Chunk) (w : World) (l : List Rec) : Prop := ∀ r ∈ l, r.row.length = 4 ∧ TxE w (Out w0 L) r.row r.t
theorem RecF.mv {w0 w w' : World} {L L' : List Chunk} {l : List Rec} (h : RecF w0 L w l) (m : Mv w (Out w0 L) w' (Out w0 L')) : RecF w0 L' w' l := fun r hr => ⟨(h r hr).1, TxE.mv m (h r hr).2⟩
theorem RecF.cons {w0 w : World} {L : List Chunk} {l : List Rec} (h : RecF w0 L w l) {row : List Value} {t : TTx} {n : Int} (hr : row.length = 4) (hT : TxE w (Out w0 L) row t) : RecF w0 L w (⟨row, t, n⟩ :: l) := fun r hr' => by
  rcases List.mem_cons.1 hr' with rfl | hr'
  · exact ⟨hr, hT⟩
  · exact h r hr'
theorem TxR.row {w : World} {X : Nat → Prop} {row : List Value} {t : TTx} (h : TxR w X (.agg row.toArray) t) : TxE w X row t := by
  obtain ⟨r, hr, hE⟩ := h
  simp only [Value.agg.injEq, Array.mk.injEq] at hr
  subst hr
  exact hE
theorem Mv.outSub {w0 w : World} {L L' : List Chunk} (h : ∀ c ∈ L', c ∈ L) : Mv w (Out w0 L) w (Out w0 L') := Mv.mono fun b _ hx => hx.imp id fun ⟨c, hc, hg⟩ => ⟨c, h c hc, hg⟩
theorem RecF.sub {w0 w : World} {L L' : List Chunk} {l : List Rec} (h : RecF w0 L w l) (hs : ∀ c ∈ L', c ∈ L) : RecF w0 L' w l := h.mv (Mv.outSub hs)
theorem Mem.subP {w0 w : World} {X : Nat → Prop} {L L' : List Chunk} (h : Mem w0 X L w) (is : List Nat) (hp : picks L is = some L') (hr : rising is = true := by rfl) : Mem w0 X L' w ∧ ∀ c ∈ L', c ∈ L := ⟨h.sub is hp hr, fun c hc => by have := (picks_sub is L L' 0 (fun _ _ => Nat.zero_le _) hr hp).subset hc; simpa using this⟩
end Go.Proofs.YthcgmdmdgpljmaaDoor.Z
