/- The order of points: a plain law. -/
import Derived.Test.YthcgmdmdgpljmaaDoorGrow
import Derived.Sort.Statements
import Derived.Shelf.SlSortCmp.Insertion
set_option linter.unusedVariables false
set_option linter.unusedSimpArgs false
set_option linter.unusedSectionVars false
namespace Go.Proofs.YthcgmdmdgpljmaaDoor.Z
open Go Go.RowKit Go.Sort Go.Lib

theorem cb_self : ∀ l : List UInt8, compareBytes l l = 0
  | [] => rfl
  | a :: l => by simp [compareBytes, cb_self l]
theorem cb_eq : ∀ {l m : List UInt8}, compareBytes l m = 0 → l = m
  | [], [], _ => rfl
  | [], _ :: _, h => by simp [compareBytes] at h
  | _ :: _, [], h => by simp [compareBytes] at h
  | a :: l, b :: m, h => by
    simp only [compareBytes] at h
    split at h
    · cases h
    · split at h
      · cases h
      · rename_i h1 h2
        rw [cb_eq h, UInt8.le_antisymm (UInt8.not_lt.1 h2) (UInt8.not_lt.1 h1)]
theorem cb_neg : ∀ (l m : List UInt8), compareBytes m l = - compareBytes l m
  | [], [] => rfl
  | [], _ :: _ => rfl
  | _ :: _, [] => rfl
  | a :: l, b :: m => by
    simp only [compareBytes]
    by_cases h1 : a < b
    · have h2 : ¬ b < a := UInt8.lt_asymm h1
      simp [h1, h2]
    · by_cases h2 : b < a
      · simp [h1, h2]
      · simp [h1, h2, cb_neg l m]
theorem cb_trans : ∀ {l m n : List UInt8}, compareBytes l m < 0 → compareBytes m n < 0 → compareBytes l n < 0
  | [], [], _, h, _ => by simp [compareBytes] at h
  | [], _ :: _, [], _, h => by simp [compareBytes] at h
  | [], _ :: _, _ :: _, _, _ => by simp [compareBytes]
  | _ :: _, [], _, h, _ => by simp [compareBytes] at h
  | _ :: _, _ :: _, [], _, h => by simp [compareBytes] at h
  | a :: l, b :: m, c :: n, h1, h2 => by
    simp only [compareBytes] at h1 h2 ⊢
    by_cases hab : a < b
    · by_cases hbc : b < c
      · rw [if_pos (UInt8.lt_trans hab hbc)]; decide
      · rw [if_neg hbc] at h2
        by_cases hcb : c < b
        · rw [if_pos hcb] at h2; omega
        · have : b = c := UInt8.le_antisymm (UInt8.not_lt.1 hcb) (UInt8.not_lt.1 hbc)
          subst this
          rw [if_pos hab]; decide
    · rw [if_neg hab] at h1
      by_cases hba : b < a
      · rw [if_pos hba] at h1; omega
      · have : a = b := UInt8.le_antisymm (UInt8.not_lt.1 hba) (UInt8.not_lt.1 hab)
        subst this
        rw [if_neg hba] at h1
        by_cases hbc : a < c
        · rw [if_pos hbc]; decide
        · rw [if_neg hbc] at h2 ⊢
          by_cases hcb : c < a
          · rw [if_pos hcb] at h2; omega
          · rw [if_neg hcb] at h2 ⊢
            exact cb_trans h1 h2

theorem cmpU_cases (a b : UInt32) : (cmpU a b < 0 ↔ a < b) ∧ (cmpU a b = 0 ↔ a = b) := by
  unfold cmpU
  by_cases h1 : a < b
  · simp [h1]; intro h; subst h; exact absurd h1 (UInt32.lt_irrefl a)
  · by_cases h2 : b < a
    · simp [h1, h2]; intro h; subst h; exact absurd h2 (UInt32.lt_irrefl a)
    · simp [h1, h2]; exact UInt32.le_antisymm (UInt32.not_lt.1 h2) (UInt32.not_lt.1 h1)
/-- One point is ahead of another one. -/
def ltP (p q : Pt) : Prop := compareBytes p.id.val q.id.val < 0 ∨ (p.id = q.id ∧ p.vout < q.vout)
theorem cmpP_lt (p q : Pt) : cmpP p q < 0 ↔ ltP p q := by
  unfold cmpP orI ltP
  by_cases h : compareBytes p.id.val q.id.val = 0
  · have hid : p.id = q.id := Subtype.ext (cb_eq h)
    rw [if_neg (by omega), (cmpU_cases p.vout q.vout).1, h]
    simp [hid]
  · rw [if_pos h]
    constructor
    · exact .inl
    · rintro (h1 | ⟨h1, _⟩)
      · exact h1
      · rw [h1] at h; exact absurd (cb_self _) h
theorem ltP_irrefl (p : Pt) : ¬ ltP p p := by
  rintro (h | ⟨_, h⟩)
  · rw [cb_self] at h; omega
  · exact UInt32.lt_irrefl _ h
theorem ltP_trans {p q r : Pt} (h : ltP p q) (k : ltP q r) : ltP p r := by
  rcases h with h | ⟨h, h2⟩ <;> rcases k with k | ⟨k, k2⟩
  · exact .inl (cb_trans h k)
  · exact .inl (by rw [← k]; exact h)
  · exact .inl (by rw [h]; exact k)
  · exact .inr ⟨h.trans k, UInt32.lt_trans h2 k2⟩
theorem ltP_total (p q : Pt) : ltP p q ∨ p = q ∨ ltP q p := by
  by_cases h : compareBytes p.id.val q.id.val = 0
  · have hid : p.id = q.id := Subtype.ext (cb_eq h)
    by_cases h1 : p.vout < q.vout
    · exact .inl (.inr ⟨hid, h1⟩)
    · by_cases h2 : q.vout < p.vout
      · exact .inr (.inr (.inr ⟨hid.symm, h2⟩))
      · refine .inr (.inl ?_)
        obtain ⟨a, b⟩ := p
        obtain ⟨c, d⟩ := q
        simp only at hid h1 h2
        subst hid
        rw [UInt32.le_antisymm (UInt32.not_lt.1 h2) (UInt32.not_lt.1 h1)]
  · by_cases h1 : compareBytes p.id.val q.id.val < 0
    · exact .inl (.inl h1)
    · refine .inr (.inr (.inl ?_))
      rw [cb_neg]; omega
theorem cmpP_swo : SWO (ltOf cmpP) := by
  have key : ∀ p q, ltOf cmpP p q = true ↔ ltP p q := fun p q => by simp [ltOf, cmpP_lt]
  have keyf : ∀ p q, ltOf cmpP p q = false ↔ ¬ ltP p q := fun p q => by rw [← key]; simp
  refine ⟨fun p => (keyf p p).2 (ltP_irrefl p), fun p q r h k => (key p r).2 (ltP_trans ((key p q).1 h) ((key q r).1 k)), fun p q r h k => (keyf p r).2 fun hpr => ?_⟩
  have h1 := (keyf p q).1 h
  have h2 := (keyf q r).1 k
  rcases ltP_total p q with h3 | rfl | h3
  · exact h1 h3
  · exact h2 hpr
  · exact h2 (ltP_trans h3 hpr)
end Go.Proofs.YthcgmdmdgpljmaaDoor.Z
