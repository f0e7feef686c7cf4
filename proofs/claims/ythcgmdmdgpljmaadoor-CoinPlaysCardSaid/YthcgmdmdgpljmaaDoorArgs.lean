/- An argument that is a slice of integers: what it reads as, and that it reads so behind the call. -/
import Derived.Test.YthcgmdmdgpljmaaDoorFrameC
import Derived.Test.YthcgmdmdgpljmaaDoorRecs
import Derived.ChangeSlices
set_option linter.unusedVariables false
set_option linter.unusedSimpArgs false
set_option linter.unusedSectionVars false
set_option maxRecDepth 100000
namespace Go.Proofs.YthcgmdmdgpljmaaDoor.Z
open Go Go.RowKit Go.ChangeShapes Go.WideShapes Go.ChangeAt

theorem uInts : Tryd.prog.underlying 22 = some (.slice 3) := by kernel_rfl
theorem cInt : Tryd.prog.cellsOf 3 = 1 := by kernel_rfl
theorem cell_kept {W W' : World} {a : Addr} {u : Value} (hE : Ext W W') (h : W.cell? a = some u) : W'.cell? a = some u := by
  unfold World.cell? at h ⊢
  split at h
  · rename_i c e fr hh
    rw [hE.at hh id]
    exact h
  · cases h
theorem argInts {H : Type} {enc : TypeId × Value → H} {W : World} {base : Nat} {v : Value} {d : DataW H} {p : List MemPlace} (hval : Value.okWide Tryd.prog W .any base 22 v) (h : DataW.Trod enc Tryd.prog W 0 (fun _ => true) true 22 v d p) :
    ∃ l, IntsA W v l ∧ ∀ W', Ext W W' → ∀ sp : Nat → Bool, (∀ q ∈ p, sp q.block = true) → DataW.Trod enc Tryd.prog W' 0 sp true 22 v d p := by
  obtain ⟨a0, len, cap, rfl⟩ := okWide_slice uInts hval
  obtain ⟨fuel, hf⟩ := h
  rcases open_ints uInts u3 cInt hf with ⟨hcs, hx⟩ | ⟨a, len', cap', zs, hcs, _, hl, hm, hz, hx, hcell, hwz⟩
  · simp [Value.cells] at hcs
    obtain ⟨rfl, rfl, rfl⟩ := hcs
    simp only [Prod.mk.injEq] at hx
    obtain ⟨rfl, rfl⟩ := hx
    refine ⟨[], ⟨none, 0, rfl, fun h => absurd rfl h⟩, fun W' hE sp hsp => ⟨1, ?_⟩⟩
    rw [DataW.trod_step]
    simp [DataW.trodStep, uInts, Value.cells]
  · simp [Value.cells] at hcs
    obtain ⟨rfl, rfl, rfl⟩ := hcs
    simp only [Prod.mk.injEq] at hx
    obtain ⟨rfl, rfl⟩ := hx
    simp only [if_true] at hz
    have htl : (zs.take len).length = len := by rw [List.length_take]; omega
    refine ⟨zs.take len, ⟨some a, cap, by rw [htl], fun hne => ?_⟩, fun W' hE sp hsp => ⟨2, ?_⟩⟩
    · have hpos : 0 < zs.length := by
        rcases Nat.eq_zero_or_pos zs.length with h0 | h0
        · exfalso; apply hne; rw [List.length_eq_zero_iff.1 h0]; simp
        · exact h0
      obtain ⟨b, off, spot⟩ := a
      have hspot : spot = none := by simpa [Addr.add] using World.cell?_spot (hcell 0 hpos)
      subst hspot
      have hc : ∀ j, j < zs.length → W.cell? ⟨b, off + j, none⟩ = some (.int .i64 (zs.getD j 0)) := fun j hj => by rw [← add_plain]; exact hcell j hj
      obtain ⟨c, e, fr, hh, _⟩ := Go.Sort.cells_of_cell? (hc 0 hpos)
      refine ⟨b, off, c, e, fr, rfl, hh, fun i u hi => ?_⟩
      rw [List.getElem?_take] at hi
      split at hi
      · have hlt := (List.getElem?_eq_some_iff.1 hi).1
        have h1 := hc i hlt
        simp only [World.cell?, hh] at h1
        simp only [Option.isSome_none, Bool.false_eq_true, if_false] at h1
        rw [h1, List.getD, hi]
        rfl
      · cases hi
    · have hzs : zs.length = if sp a.block = true then cap else len := by
        rcases Nat.eq_zero_or_pos zs.length with h0 | h0
        · split <;> omega
        · have h1 : sp a.block = true := hsp (.cell a.block a.off) (MemPlace.mem_row.2 ⟨0, h0, by simp⟩)
          rw [if_pos h1]; exact hz
      exact shut_ints (m := 0) uInts u3 cInt (Nat.zero_le _) hl hm hzs (fun i hi => cell_kept hE (hcell i hi)) hwz
end Go.Proofs.YthcgmdmdgpljmaaDoor.Z
