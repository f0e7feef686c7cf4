/- Sets of coins in plain Lean: made and unmade. -/
import Derived.Test.YthcgmdmdgpljmaaDoorUnmake
set_option linter.unusedVariables false
set_option linter.unusedSimpArgs false
set_option linter.unusedSectionVars false
namespace Go.Proofs.YthcgmdmdgpljmaaDoor.Z
open Go

section
variable {K U : Type} [DecidableEq K] {m m' : List (K × U)} {k j : K} {v : U}
theorem mget_isSome : (mget m k).isSome = true ↔ k ∈ m.map (·.1) := by
  simp [mget, List.find?_isSome]
theorem mget_none : mget m k = none ↔ k ∉ m.map (·.1) := by
  rw [← mget_isSome]; cases mget m k <;> simp
theorem mget_of_mem (hn : (m.map (·.1)).Nodup) (h : (k, v) ∈ m) : mget m k = some v := by
  induction m with
  | nil => cases h
  | cons p r ih =>
    simp only [List.map_cons, List.nodup_cons] at hn
    rcases List.mem_cons.1 h with rfl | h
    · simp [mget]
    · have : p.1 ≠ k := fun e => hn.1 (by rw [e]; exact List.mem_map.2 ⟨_, h, rfl⟩)
      have := ih hn.2 h
      simp only [mget, List.find?_cons] at *
      simp [*]
theorem mget_mem (h : mget m k = some v) : (k, v) ∈ m := by
  simp only [mget, Option.map_eq_some_iff] at h
  obtain ⟨p, hp, rfl⟩ := h
  have h1 := List.mem_of_find?_eq_some hp
  have h2 := List.find?_some hp
  simp only [decide_eq_true_eq] at h2
  subst h2
  exact h1
theorem mput_new (h : mget m k = none) : mput m k v = m ++ [(k, v)] := by simp [mput, h]
theorem keys_mput_old (h : (mget m k).isSome = true) : (mput m k v).map (·.1) = m.map (·.1) := by
  rw [mput, if_pos h, List.map_map]
  apply List.map_congr_left
  intro p _
  simp only [Function.comp]
  split <;> simp
theorem keys_mdel : (mdel m k).map (·.1) = (m.map (·.1)).filter (fun x => decide (x ≠ k)) := by
  simp only [mdel, List.filter_map]
  rfl
theorem mget_mdel_self : mget (mdel m k) k = none := by
  rw [mget_none, keys_mdel]; simp
theorem length_mdel (hn : (m.map (·.1)).Nodup) (h : k ∈ m.map (·.1)) : (mdel m k).length = m.length - 1 := by
  have h1 := congrArg List.length (keys_mdel (m := m) (k := k))
  have h2 : (m.map (·.1)).filter (fun x => decide (x ≠ k)) = (m.map (·.1)).erase k := by
    rw [hn.erase_eq_filter]
    congr 1
    funext x
    by_cases hx : x = k <;> simp [hx]
  rw [h2, List.length_erase_of_mem h] at h1
  simpa using h1
end

theorem ofNat_inj {i j : Nat} (hi : i < 4294967296) (hj : j < 4294967296) (h : UInt32.ofNat i = UInt32.ofNat j) : i = j := by
  have := congrArg UInt32.toNat h
  simp [UInt32.toNat_ofNat] at this
  omega
theorem ptsOf_nodup (id : B32) (n : Nat) (hn : n ≤ 4294967296) : (ptsOf id n).Nodup := by
  unfold ptsOf
  rw [List.nodup_iff_pairwise_ne, List.pairwise_map]
  exact (List.pairwise_lt_range (n := n)).imp_of_mem fun {a b} ha hb hab e => by
    rw [List.mem_range] at ha hb
    simp only [Pt.mk.injEq, true_and] at e
    have := ofNat_inj (by omega) (by omega) e
    omega
theorem ptsOf_mem {id : B32} {n i : Nat} (h : i < n) : (⟨id, UInt32.ofNat i⟩ : Pt) ∈ ptsOf id n := by
  simp only [ptsOf, List.mem_map, List.mem_range]; exact ⟨i, h, rfl⟩
theorem hasAny_false {m : CMap} {l : List Pt} : hasAny m l = false ↔ ∀ p ∈ l, p ∉ m.map (·.1) := by
  simp only [hasAny, List.any_eq_false, mget_isSome]
theorem hasAny_true {m : CMap} {l : List Pt} : hasAny m l = true ↔ ∃ p ∈ l, p ∈ m.map (·.1) := by
  simp only [hasAny, List.any_eq_true, mget_isSome]
theorem hasAll_true {m : CMap} {l : List Pt} : hasAll m l = true ↔ ∀ p ∈ l, p ∈ m.map (·.1) := by
  simp only [hasAll, List.all_eq_true, mget_isSome]
theorem hasAll_false {m : CMap} {l : List Pt} (p : Pt) (hp : p ∈ l) (h : p ∉ m.map (·.1)) : hasAll m l = false := by
  cases hh : hasAll m l with
  | false => rfl
  | true => exact absurd (hasAll_true.1 hh p hp) h

/-- What a transaction's making adds. -/
def newC (t : TTx) (h tm : Int) (b : Bool) (n : Nat) : CMap := (List.range n).map fun i => (⟨t.id, UInt32.ofNat i⟩, cnOf t h tm b i)
theorem newC_keys (t : TTx) (h tm : Int) (b : Bool) (n : Nat) : (newC t h tm b n).map (·.1) = ptsOf t.id n := by
  simp [newC, ptsOf, Function.comp_def]
theorem newC_length (t : TTx) (h tm : Int) (b : Bool) (n : Nat) : (newC t h tm b n).length = n := by simp [newC]
theorem mkAll_new {m : CMap} {t : TTx} {h tm : Int} {b : Bool} : ∀ {n : Nat}, n ≤ 4294967296 → hasAny m (ptsOf t.id n) = false → mkAll m t h tm b n = m ++ newC t h tm b n
  | 0, _, _ => by simp [mkAll, newC]
  | n + 1, hn, hA => by
    rw [hasAny_false] at hA
    have ih := mkAll_new (m := m) (t := t) (h := h) (tm := tm) (b := b) (n := n) (by omega) (hasAny_false.2 fun p hp => hA p (by rw [ptsOf_succ]; simp [hp]))
    have hnd := ptsOf_nodup t.id (n + 1) hn
    rw [ptsOf_succ, List.nodup_append] at hnd
    rw [mkAll, ih, mput_new]
    · simp [newC, List.range_succ]
    · rw [mget_none, List.map_append, newC_keys, List.mem_append]
      rintro (h1 | h1)
      · exact hA _ (by rw [ptsOf_succ]; simp) h1
      · exact hnd.2.2 _ h1 _ (by simp) rfl
theorem delAll_eq (m : CMap) (t : TTx) : ∀ n : Nat, delAll m t n = m.filter (fun p => decide (p.1 ∉ ptsOf t.id n))
  | 0 => by simp only [delAll, ptsOf]; exact (List.filter_eq_self.2 (by simp)).symm
  | n + 1 => by
    rw [delAll, delAll_eq m t n, mdel, List.filter_filter]
    congr 1
    funext p
    rw [ptsOf_succ]
    simp only [List.mem_append, List.mem_singleton, not_or, Bool.decide_and]
    rw [Bool.and_comm]
section
variable {m : CMap} {t : TTx} {h tm : Int} {b : Bool} {n : Nat}
theorem smake_new (hn : t.outs.length ≤ 4294967296) (hA : hasAny m (ptsOf t.id t.outs.length) = false) : smake m t h tm b = m ++ newC t h tm b t.outs.length := by
  rw [smake, hA, if_neg (by decide), mkAll_new hn hA]
theorem smake_old (hA : hasAny m (ptsOf t.id t.outs.length) = true) : smake m t h tm b = m := by rw [smake, if_pos hA]
theorem made_any (h1 : 1 ≤ n) : hasAny (m ++ newC t h tm b n) (ptsOf t.id n) = true :=
  hasAny_true.2 ⟨⟨t.id, UInt32.ofNat 0⟩, ptsOf_mem h1, by rw [List.map_append, newC_keys]; exact List.mem_append_right _ (ptsOf_mem h1)⟩
theorem made_all : hasAll (m ++ newC t h tm b n) (ptsOf t.id n) = true :=
  hasAll_true.2 fun p hp => by rw [List.map_append, newC_keys]; exact List.mem_append_right _ hp
theorem unmade (hA : hasAny m (ptsOf t.id t.outs.length) = false) : sunmake (m ++ newC t h tm b t.outs.length) t = m := by
  rw [sunmake, if_pos made_all, delAll_eq, List.filter_append]
  have h1 : m.filter (fun p => decide (p.1 ∉ ptsOf t.id t.outs.length)) = m := by
    rw [List.filter_eq_self]
    intro p hp
    rw [hasAny_false] at hA
    simp only [decide_eq_true_eq]
    exact fun h => hA _ h (List.mem_map.2 ⟨p, hp, rfl⟩)
  have h2 : (newC t h tm b t.outs.length).filter (fun p => decide (p.1 ∉ ptsOf t.id t.outs.length)) = [] := by
    rw [List.filter_eq_nil_iff]
    intro p hp
    have : p.1 ∈ ptsOf t.id t.outs.length := by rw [← newC_keys t h tm b]; exact List.mem_map.2 ⟨p, hp, rfl⟩
    simp [this]
  rw [h1, h2, List.append_nil]
theorem unmade_not (h1 : 1 ≤ n) (hA : hasAny m (ptsOf t.id n) = false) : hasAll m (ptsOf t.id n) = false :=
  hasAll_false _ (ptsOf_mem h1) (hasAny_false.1 hA _ (ptsOf_mem h1))
theorem sunmake_not (hA : hasAll m (ptsOf t.id t.outs.length) = false) : sunmake m t = m := by rw [sunmake, hA]; rfl
theorem newC_get {i : Nat} (hi : i < n) (hn : n ≤ 4294967296) : mget (newC t h tm b n) ⟨t.id, UInt32.ofNat i⟩ = some (cnOf t h tm b i) :=
  mget_of_mem (by rw [newC_keys]; exact ptsOf_nodup _ _ hn) (by simp only [newC, List.mem_map, List.mem_range]; exact ⟨i, hi, rfl⟩)
end
end Go.Proofs.YthcgmdmdgpljmaaDoor.Z
