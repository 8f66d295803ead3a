/- Formulas turned, by the reference. -/
import Derived.Test.YtndjjnnljihmnaaFmJ
import Derived.Test.YtndjjnnljihmnaaFmK
namespace Go.Proofs.Ytndjjnnljihmnaa
open Go.RowKit
set_option linter.unusedVariables false
set_option linter.unusedSimpArgs false
theorem blk3o {w : World} {g h : Nat} {T : TypeId} {vs : List Value} (hb : Blk w g T vs) (hne : h ≠ g) (a b c : Value) : Blk (((w.setCell ⟨h, 0, none⟩ a).setCell ⟨h, 1, none⟩ b).setCell ⟨h, 2, none⟩ c) g T vs := ((hb.other _ a hne).other _ b hne).other _ c hne
theorem rel_cases {x y : Int} (h : x = if y = 9 then 1 else if y = 10 then 2 else 0) : (y = 9 ∧ x = 1) ∨ (y = 10 ∧ x = 2) ∨ (constI y = false ∧ x = 0) := by
  unfold constI
  by_cases h9 : y = 9
  · rw [if_pos h9] at h; exact Or.inl ⟨h9, h⟩
  · by_cases h10 : y = 10
    · rw [if_neg h9, if_pos h10] at h; exact Or.inr (Or.inl ⟨h10, h⟩)
    · rw [if_neg h9, if_neg h10] at h; exact Or.inr (Or.inr ⟨by simp [h9, h10], h⟩)
end Go.Proofs.Ytndjjnnljihmnaa
