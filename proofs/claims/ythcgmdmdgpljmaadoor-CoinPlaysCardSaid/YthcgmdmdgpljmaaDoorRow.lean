/- An own slice of points as the shelf's row, and back. -/
import Derived.Test.YthcgmdmdgpljmaaDoorOrd
import Derived.Shelf.SlSortCmp.WholeK
set_option linter.unusedVariables false
set_option linter.unusedSimpArgs false
set_option linter.unusedSectionVars false
namespace Go.Proofs.YthcgmdmdgpljmaaDoor.Z
open Go Go.RowKit Go.Sort Go.Lib

instance : Inhabited Pt := ⟨⟨⟨List.replicate 32 0, by simp⟩, 0⟩⟩

def flatP (xs : List Pt) : List Value := (xs.map Pt.cells).flatten
theorem flatP_length (xs : List Pt) : (flatP xs).length = xs.length * 33 := by
  induction xs with
  | nil => rfl
  | cons a r ih => simp only [flatP, List.map_cons, List.flatten_cons, List.length_append, List.length_cons, Pt.length] at *; omega
theorem flatP_get (xs : List Pt) (t : Nat) (h : t < xs.length * 33) : (flatP xs)[t]? = some (xs[t / 33]!).cells[t % 33]! := by
  induction xs generalizing t with
  | nil => simp at h
  | cons a r ih =>
    have hl : (flatP (a :: r)) = a.cells ++ flatP r := by simp [flatP]
    rw [hl]
    by_cases h1 : t < 33
    · rw [List.getElem?_append_left (by rw [Pt.length]; exact h1), Nat.div_eq_of_lt h1, Nat.mod_eq_of_lt h1]
      have : t < a.cells.length := by rw [Pt.length]; exact h1
      simp [List.getElem?_eq_getElem this, getElem!_pos a.cells t this]
    · obtain ⟨u, rfl⟩ : ∃ u, t = 33 + u := ⟨t - 33, by omega⟩
      rw [List.getElem?_append_right (by rw [Pt.length]; omega), Pt.length, show 33 + u - 33 = u by omega, ih u (by simp at h; omega)]
      rw [show (33 + u) / 33 = u / 33 + 1 by omega, show (33 + u) % 33 = u % 33 by omega]
      congr 1
theorem flatK_flatP (xs : List Pt) : flatK Pt.cells 33 xs.toArray = (flatP xs).toArray := by
  apply Array.ext
  · simp [flatP_length]
  · intro t h1 h2
    have h1' : t < xs.length * 33 := by simpa using h1
    have e1 := get_flatK Pt.cells 33 xs.toArray t (by simpa using h1')
    rw [getElem!_pos _ t h1] at e1
    have e2 := flatP_get xs t h1'
    rw [List.getElem?_eq_getElem (by rw [flatP_length]; exact h1')] at e2
    rw [e1]
    simp only [Option.some.injEq] at e2
    simp only [List.getElem_toArray]
    rw [e2]
    simp

section
variable {w : World} {e g n cap : Nat} {cur : Array Value} {xs : List Pt}
theorem row_holds (hg : w.heap[g]? = some (.cells cur e (0, 0))) (hx : cur.toList.take (n * 33) = flatP xs) (hn : xs.length = n) : HoldsK Pt.cells 33 w g 0 xs.toArray := by
  unfold HoldsK
  rw [flatK_flatP]
  intro j hj
  have hj' : j < xs.length * 33 := by simpa [flatP_length] using hj
  have h1 : (flatP xs)[j]? = cur[j]? := by
    rw [← hx, List.getElem?_take, if_pos (by rw [← hn]; exact hj')]
    simp
  refine ⟨?_, by simp [World.frozen?, hg]⟩
  simp only [World.cell?, hg, Nat.zero_add]
  have hlt : j < (flatP xs).length := by rw [flatP_length]; exact hj'
  rw [← h1, getElem!_pos _ j (by simpa using hlt)]
  simp [List.getElem?_eq_getElem hlt]

theorem row_back {d' : List Pt} {m : Nat} {os : Array Obj} (hg : w.heap[g]? = some (.cells cur e (0, 0))) (hs : n * 33 ≤ cur.size) (hn : d'.length = n) :
    ExtX w (fun b => b = g) (sortWorldK Pt.cells 33 w g 0 m d'.toArray os) ∧ ∃ cur', (sortWorldK Pt.cells 33 w g 0 m d'.toArray os).heap[g]? = some (.cells cur' e (0, 0)) ∧ cur'.size = cur.size ∧ cur'.toList.take (n * 33) = flatP d' := by
  have hlt : g < w.heap.size := (Array.getElem?_eq_some_iff.1 hg).1
  refine ⟨⟨rfl, rfl, rfl, ?_, ?_⟩, putCells id 0 (flatP d').toArray cur, ?_, by simp [putCells], ?_⟩
  · simp [sortWorldK, putRowK, putRow, mapBlock, grow, Sort.ahead]
  · intro b hb hne
    have h1 : (w.heap.modify g (onCells (putCells id 0 (flatK Pt.cells 33 d'.toArray))))[b]? = w.heap[b]? := by rw [Array.getElem?_modify, if_neg (Ne.symm hne)]
    simp only [sortWorldK, putRowK, putRow, mapBlock, grow, Sort.ahead]
    rw [Array.getElem?_append_left (by simpa using hb)]
    exact h1
  · simp only [sortWorldK, putRowK, putRow, mapBlock, grow, Sort.ahead, flatK_flatP]
    rw [Array.getElem?_append_left (by simpa using hlt), Array.getElem?_modify, if_pos rfl, hg]
    rfl
  · apply List.ext_getElem?
    intro t
    rw [List.getElem?_take]
    split
    · rename_i h
      have h3 : t < (flatP d').length := by rw [flatP_length, hn]; exact h
      have h4 : t < cur.size := by omega
      simp only [putCells, Array.getElem?_toList, Array.getElem?_mapIdx, Array.getElem?_eq_getElem h4, Option.map_some]
      rw [if_pos ⟨Nat.zero_le _, by simpa using h3⟩, getElem!_pos _ _ (by simpa using h3)]
      simp [List.getElem?_eq_getElem h3]
    · rename_i h
      rw [List.getElem?_eq_none (by rw [flatP_length, hn]; omega)]
end
end Go.Proofs.YthcgmdmdgpljmaaDoor.Z
