/- What the printed rest, tail and bound of package text answer: plain law. -/
import Derived.Test.YtelhkbanohhjhaaDoorTxtA
import Derived.Test.YtelhkbanohhjhaaDoorPtailx1
import Derived.Test.YtelhkbanohhjhaaDoorPrestx1
import Derived.Test.YtelhkbanohhjhaaDoorPboundx1
namespace Go.Proofs.YtelhkbanohhjhaaDoor.Tx
open Go.RowKit Go.Proofs.YtelhkbanohhjhaaDoorW.PrintWords
set_option linter.unusedVariables false
set_option linter.unusedSimpArgs false
/-- How many bytes stand behind a first one; -1: it is none. -/
def restI (c : Int) : Int := if c < 128 then 0 else if 194 ≤ c ∧ c < 224 then 1 else if 224 ≤ c ∧ c < 240 then 2 else if 240 ≤ c ∧ c < 245 then 3 else -1
theorem p_rest (c : Int) : Prest.text_rest.f 2 c = some (restI c) := by
  unfold Prest.text_rest.f restI
  by_cases c1 : c < 128
  · rw [if_pos c1, if_pos c1]
  rw [if_neg c1, if_neg c1]
  by_cases c2 : 194 ≤ c ∧ c < 224
  · rw [if_pos c2, if_pos (by omega), decide_eq_true c2.2, Prest.text_rest.j0, if_pos rfl]
  rw [if_neg c2]
  have h0 : (if c ≥ 194 then Prest.text_rest.j0 2 c (decide (c < 224)) else Prest.text_rest.j0 2 c false) = Prest.text_rest.j0 2 c false := by
    split
    · rw [decide_eq_false (by omega)]
    · rfl
  rw [h0, Prest.text_rest.j0, if_neg (by simp)]
  by_cases c3 : 224 ≤ c ∧ c < 240
  · rw [if_pos c3, if_pos (by omega), decide_eq_true c3.2, Prest.text_rest.j1, if_pos rfl]
  rw [if_neg c3]
  have h1 : (if c ≥ 224 then Prest.text_rest.j1 1 c (decide (c < 240)) else Prest.text_rest.j1 1 c false) = Prest.text_rest.j1 1 c false := by
    split
    · rw [decide_eq_false (by omega)]
    · rfl
  rw [h1, Prest.text_rest.j1, if_neg (by simp)]
  by_cases c4 : 240 ≤ c ∧ c < 245
  · rw [if_pos c4, if_pos (by omega), if_pos (by omega)]
  · rw [if_neg c4]
    split
    · rw [if_neg (by omega)]
    · rfl
theorem p_between (l : List Int) (i : Nat) (lo hi : Int) : Ptail.text_between.f l i lo hi = some (inB l i lo hi) := by
  unfold Ptail.text_between.f inB
  have e : rd l (i : Int) = l.getD i 0 := by simp [rd]
  rw [e]
  by_cases h : i < l.length
  · rw [if_pos (by omega), if_pos (by omega), decide_eq_true h]
    by_cases h2 : lo ≤ l.getD i 0
    · rw [if_pos (by omega), decide_eq_true h2]; rfl
    · rw [if_neg (by omega), decide_eq_false h2]; rfl
  · rw [if_neg (by omega), decide_eq_false h]; rfl
/-- Are the n bytes from the second on such as stand behind a first one? -/
def tailB (l : List Int) (n : Int) : Bool :=
  if n = 3 then inB l 3 128 191 && (inB l 2 128 191 && inB l 1 128 191) else if n = 2 then inB l 2 128 191 && inB l 1 128 191 else if n = 1 then inB l 1 128 191 else n == 0
theorem p_tail (l : List Int) (n : Int) : Ptail.text_tail.f 1 l 1 n = some (tailB l n) := by
  have b1 := p_between l 1 128 191
  have b2 := p_between l 2 128 191
  have b3 := p_between l 3 128 191
  have hj : Ptail.text_tail.j0 1 l 1 = some (inB l 2 128 191 && inB l 1 128 191) := by
    rw [Ptail.text_tail.j0, show wrap64 ((1 : Int) + 1) = ((2 : Nat) : Int) by rw [w64 (by omega) (by omega)]; rfl, b2]
    simp only [Option.bind_some]
    rw [show Ptail.text_between.f l 1 128 191 = some (inB l 1 128 191) from b1]
    cases inB l 2 128 191 <;> rfl
  unfold Ptail.text_tail.f tailB
  split
  · rw [show wrap64 ((1 : Int) + 2) = ((3 : Nat) : Int) by rw [w64 (by omega) (by omega)]; rfl, b3, hj]
    cases inB l 3 128 191 <;> rfl
  · split
    · exact hj
    · split
      · rw [show Ptail.text_between.f l 1 128 191 = some (inB l 1 128 191) from b1]; rfl
      · rfl
theorem p_bound (n : Int) (b : Bool) : Pbound.text_bound.f n b = some (if b then n else -1) := by
  unfold Pbound.text_bound.f; cases b <;> rfl
end Go.Proofs.YtelhkbanohhjhaaDoor.Tx
