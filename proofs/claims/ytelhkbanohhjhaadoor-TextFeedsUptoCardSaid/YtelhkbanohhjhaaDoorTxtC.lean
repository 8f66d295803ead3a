/- A round of package text's Valid and the character at a place: plain law. -/
import Derived.Test.YtelhkbanohhjhaaDoorTxtB
namespace Go.Proofs.YtelhkbanohhjhaaDoor.Tx
open Go.RowKit Go.Proofs.YtelhkbanohhjhaaDoorW.PrintWords
set_option linter.unusedVariables false
set_option linter.unusedSimpArgs false
theorem getD_drop (l : List Int) (k i : Nat) : (l.drop k).getD i 0 = l.getD (k + i) 0 := by simp [List.getD_eq_getElem?_getD, List.getElem?_drop]
theorem inB_drop (l : List Int) (k i : Nat) (lo hi : Int) : inB (l.drop k) i lo hi = inB l (k + i) lo hi := by
  unfold inB
  rw [getD_drop, List.length_drop, show decide (i < l.length - k) = decide (k + i < l.length) from decide_eq_decide.2 (by omega)]
theorem charN_drop (l : List Int) (k : Nat) : charN (l.drop k) 0 = charN l k := by
  unfold charN
  simp only [inB_drop, getD_drop, Nat.add_zero, Nat.zero_add]
/-- What a round of text.Valid finds: how many bytes stand behind the first one; -1: it is none. -/
def stepB (l : List Int) : Int :=
  if restI (l.getD 0 0) < 0 ∨ tailB l (restI (l.getD 0 0)) = false then -1
  else if l.getD 0 0 = 224 then (if 160 ≤ l.getD 1 0 then restI (l.getD 0 0) else -1)
  else if l.getD 0 0 = 237 then (if l.getD 1 0 ≤ 159 then restI (l.getD 0 0) else -1)
  else if l.getD 0 0 = 240 then (if 144 ≤ l.getD 1 0 then restI (l.getD 0 0) else -1)
  else if l.getD 0 0 = 244 then (if l.getD 1 0 ≤ 143 then restI (l.getD 0 0) else -1)
  else restI (l.getD 0 0)
theorem inB_iff (l : List Int) (i : Nat) (lo hi : Int) : inB l i lo hi = true ↔ i < l.length ∧ lo ≤ l.getD i 0 ∧ l.getD i 0 ≤ hi := by
  unfold inB; simp only [Bool.and_eq_true, decide_eq_true_eq]
theorem step_law (l : List Int) : stepB l + 1 = (charN l 0 : Nat) := by
  unfold stepB charN
  generalize hc : l.getD 0 0 = c
  simp only [Nat.zero_add]
  have i1 := fun lo hi => inB_iff l 1 lo hi
  generalize l.getD 1 0 = d at *
  by_cases c1 : c ≤ 127
  · have hr : restI c = 0 := by unfold restI; rw [if_pos (by omega)]
    rw [hr, if_pos c1, if_neg (by simp [tailB]), if_neg (by omega), if_neg (by omega), if_neg (by omega), if_neg (by omega)]; rfl
  rw [if_neg c1]
  by_cases c2 : 194 ≤ c ∧ c ≤ 223
  · have hr : restI c = 1 := by unfold restI; rw [if_neg (by omega), if_pos (by omega)]
    rw [hr, if_pos c2]
    have ht : tailB l 1 = inB l 1 128 191 := by simp [tailB]
    rw [ht]
    cases inB l 1 128 191
    · simp
    · rw [if_neg (by simp), if_neg (by omega), if_neg (by omega), if_neg (by omega), if_neg (by omega)]; rfl
  rw [if_neg c2]
  by_cases c3 : 224 ≤ c ∧ c ≤ 239
  · have hr : restI c = 2 := by unfold restI; rw [if_neg (by omega), if_neg (by omega), if_pos (by omega)]
    rw [hr, if_pos c3]
    have ht : tailB l 2 = (inB l 2 128 191 && inB l 1 128 191) := by simp [tailB]
    rw [ht]
    cases h2 : inB l 2 128 191
    · simp
    · simp only [Bool.true_and, if_true]
      simp only [i1, ← Bool.not_eq_true]
      repeat' split
      all_goals first | omega | (simp only [Int.reduceLT, false_or, Bool.not_eq_true] at *; omega) | (exfalso; omega)
  rw [if_neg c3]
  by_cases c4 : 240 ≤ c ∧ c ≤ 244
  · have hr : restI c = 3 := by unfold restI; rw [if_neg (by omega), if_neg (by omega), if_neg (by omega), if_pos (by omega)]
    rw [hr, if_pos c4]
    have ht : tailB l 3 = (inB l 3 128 191 && (inB l 2 128 191 && inB l 1 128 191)) := by simp [tailB]
    rw [ht]
    cases h3 : inB l 3 128 191
    · simp
    · cases h2 : inB l 2 128 191
      · simp
      · simp only [Bool.true_and, if_true]
        simp only [i1, ← Bool.not_eq_true]
        repeat' split
        all_goals first | omega | (simp only [Int.reduceLT, false_or, Bool.not_eq_true] at *; omega) | (exfalso; omega)
  · have hr : restI c = -1 := by unfold restI; rw [if_neg (by omega), if_neg (by omega), if_neg (by omega), if_neg (by omega)]
    rw [hr, if_neg c4]; simp
end Go.Proofs.YtelhkbanohhjhaaDoor.Tx
