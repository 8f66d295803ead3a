/- Whole characters of bytes: plain law, and what the reference's printed Valid answers. -/
import Derived.Test.YtelhkbanohhjhaaDoorPFeedx3
namespace Go.Proofs.YtelhkbanohhjhaaDoor.Tx
open Go.RowKit Go.Proofs.YtelhkbanohhjhaaDoor.PFeed Go.Proofs.YtelhkbanohhjhaaDoorW.PrintWords
set_option linter.unusedVariables false
set_option linter.unusedSimpArgs false

theorem w64 {n : Int} (h0 : 0 ≤ n) (h1 : n < 9223372036854775808) : wrap64 n = n := by unfold wrap64; omega
def inB (l : List Int) (i : Nat) (lo hi : Int) : Bool := decide (i < l.length) && (decide (lo ≤ l.getD i 0) && decide (l.getD i 0 ≤ hi))
/-- How many bytes the character at a place has; 0: there is none. -/
def charN (l : List Int) (i : Nat) : Nat :=
  if l.getD i 0 ≤ 127 then 1
  else if 194 ≤ l.getD i 0 ∧ l.getD i 0 ≤ 223 then (if inB l (i + 1) 128 191 then 2 else 0)
  else if 224 ≤ l.getD i 0 ∧ l.getD i 0 ≤ 239 then (if inB l (i + 1) (if l.getD i 0 = 224 then 160 else 128) (if l.getD i 0 = 237 then 159 else 191) then (if inB l (i + 2) 128 191 then 3 else 0) else 0)
  else if 240 ≤ l.getD i 0 ∧ l.getD i 0 ≤ 244 then (if inB l (i + 1) (if l.getD i 0 = 240 then 144 else 128) (if l.getD i 0 = 244 then 143 else 191) then (if inB l (i + 2) 128 191 then (if inB l (i + 3) 128 191 then 4 else 0) else 0) else 0)
  else 0
def validF : Nat → List Int → Nat → Bool
  | 0, l, i => true
  | k + 1, l, i => if i < l.length then (if charN l i = 0 then false else validF k l (i + charN l i)) else true
def validB (l : List Int) : Bool := validF l.length l 0

theorem p_in (l : List Int) (i : Nat) (lo hi : Int) : assizeref01_in.f l i lo hi = some (inB l i lo hi) := by
  unfold assizeref01_in.f inB
  have e : rd l (i : Int) = l.getD i 0 := by simp [rd]
  rw [e]
  by_cases h : i < l.length
  · rw [if_pos (by omega), if_pos (by omega), decide_eq_true h]
    by_cases h2 : lo ≤ l.getD i 0
    · rw [if_pos (by omega), decide_eq_true h2]; rfl
    · rw [if_neg (by omega), decide_eq_false h2]; rfl
  · rw [if_neg (by omega), decide_eq_false h]; rfl
theorem p_two (l : List Int) (k i : Nat) (c : Int) (hl : l.length ≤ 4611686018427387904) (hi : i < l.length) : assizeref01_long.j0 (k + 1) l i c true = some (if inB l (i + 1) 128 191 then 2 else 0) := by
  rw [assizeref01_long.j0, if_pos rfl, w64 (by omega) (by omega), show (i : Int) + 1 = ((i + 1 : Nat) : Int) by omega, p_in]
  simp only [Option.bind_some]
  split <;> rfl
theorem p_three (l : List Int) (k i : Nat) (lo hi : Int) (hl : l.length ≤ 4611686018427387904) (hi2 : i < l.length) : assizeref01_long.j3 (k + 1) l i lo hi = some (if inB l (i + 1) lo hi then (if inB l (i + 2) 128 191 then 3 else 0) else 0) := by
  rw [assizeref01_long.j3, w64 (n := (i : Int) + 1) (by omega) (by omega), w64 (n := (i : Int) + 2) (by omega) (by omega), show (i : Int) + 1 = ((i + 1 : Nat) : Int) by omega, show (i : Int) + 2 = ((i + 2 : Nat) : Int) by omega, p_in, p_in]
  simp only [Option.bind_some]
  split
  · split <;> rfl
  · rfl
theorem p_four (l : List Int) (k i : Nat) (lo hi : Int) (hl : l.length ≤ 4611686018427387904) (hi2 : i < l.length) : assizeref01_long.j6 (k + 1) l i lo hi = some (if inB l (i + 1) lo hi then (if inB l (i + 2) 128 191 then (if inB l (i + 3) 128 191 then 4 else 0) else 0) else 0) := by
  rw [assizeref01_long.j6, w64 (n := (i : Int) + 1) (by omega) (by omega), w64 (n := (i : Int) + 2) (by omega) (by omega), w64 (n := (i : Int) + 3) (by omega) (by omega), show (i : Int) + 1 = ((i + 1 : Nat) : Int) by omega, show (i : Int) + 2 = ((i + 2 : Nat) : Int) by omega, show (i : Int) + 3 = ((i + 3 : Nat) : Int) by omega, p_in, p_in, p_in]
  simp only [Option.bind_some]
  split
  · split
    · split <;> rfl
    · rfl
  · rfl
theorem p_long (l : List Int) (k i : Nat) (hk : 6 ≤ k) (hl : l.length ≤ 4611686018427387904) (hi : i < l.length) : assizeref01_long.f k l i = some ((charN l i : Nat) : Int) := by
  obtain ⟨k, rfl⟩ : ∃ j, k = j + 6 := ⟨k - 6, by omega⟩
  unfold assizeref01_long.f charN
  have e : rd l (i : Int) = l.getD i 0 := by simp [rd]
  rw [e, if_pos (by omega), if_pos (by omega)]
  generalize l.getD i 0 = c
  by_cases c1 : c ≤ 127
  · rw [if_pos c1, if_pos c1]; rfl
  rw [if_neg c1, if_neg c1]
  by_cases c2 : 194 ≤ c ∧ c ≤ 223
  · rw [if_pos c2, if_pos (by omega), decide_eq_true c2.2, p_two l _ i c hl hi]
    split <;> rfl
  rw [if_neg c2]
  have h0 : (if c ≥ 194 then assizeref01_long.j0 (k + 6) l i c (decide (c ≤ 223)) else assizeref01_long.j0 (k + 6) l i c false) = assizeref01_long.j0 (k + 6) l i c false := by
    split
    · rw [decide_eq_false (by omega)]
    · rfl
  rw [h0, assizeref01_long.j0, if_neg (by simp)]
  by_cases c3 : 224 ≤ c ∧ c ≤ 239
  · rw [if_pos c3, if_pos (by omega), decide_eq_true c3.2, assizeref01_long.j1, if_pos rfl]
    have h1 : ∀ lo, assizeref01_long.j2 (k + 4) l i c lo 191 = some (if inB l (i + 1) lo (if c = 237 then 159 else 191) then (if inB l (i + 2) 128 191 then 3 else 0) else 0) := by
      intro lo
      rw [assizeref01_long.j2]
      by_cases q : c = 237
      · rw [if_pos q, if_pos q, p_three l _ i _ _ hl hi]
      · rw [if_neg q, if_neg q, p_three l _ i _ _ hl hi]
    rw [h1, h1]
    by_cases q : c = 224
    · rw [if_pos q, if_pos q]
      generalize inB l (i + 1) _ _ = p1
      generalize inB l (i + 2) _ _ = p2
      cases p1 <;> cases p2 <;> rfl
    · rw [if_neg q, if_neg q]
      generalize inB l (i + 1) _ _ = p1
      generalize inB l (i + 2) _ _ = p2
      cases p1 <;> cases p2 <;> rfl
  rw [if_neg c3]
  have h2 : (if c ≥ 224 then assizeref01_long.j1 (k + 5) l i c (decide (c ≤ 239)) else assizeref01_long.j1 (k + 5) l i c false) = assizeref01_long.j1 (k + 5) l i c false := by
    split
    · rw [decide_eq_false (by omega)]
    · rfl
  rw [h2, assizeref01_long.j1, if_neg (by simp)]
  by_cases c4 : 240 ≤ c ∧ c ≤ 244
  · rw [if_pos c4, if_pos (by omega), decide_eq_true c4.2, assizeref01_long.j4, if_pos rfl]
    have h1 : ∀ lo, assizeref01_long.j5 (k + 3) l i c lo 191 = some (if inB l (i + 1) lo (if c = 244 then 143 else 191) then (if inB l (i + 2) 128 191 then (if inB l (i + 3) 128 191 then 4 else 0) else 0) else 0) := by
      intro lo
      rw [assizeref01_long.j5]
      by_cases q : c = 244
      · rw [if_pos q, if_pos q, p_four l _ i _ _ hl hi]
      · rw [if_neg q, if_neg q, p_four l _ i _ _ hl hi]
    rw [h1, h1]
    by_cases q : c = 240
    · rw [if_pos q, if_pos q]
      generalize inB l (i + 1) _ _ = p1
      generalize inB l (i + 2) _ _ = p2
      generalize inB l (i + 3) _ _ = p3
      cases p1 <;> cases p2 <;> cases p3 <;> rfl
    · rw [if_neg q, if_neg q]
      generalize inB l (i + 1) _ _ = p1
      generalize inB l (i + 2) _ _ = p2
      generalize inB l (i + 3) _ _ = p3
      cases p1 <;> cases p2 <;> cases p3 <;> rfl
  rw [if_neg c4]
  have h3 : (if c ≥ 240 then assizeref01_long.j4 (k + 4) l i c (decide (c ≤ 244)) else assizeref01_long.j4 (k + 4) l i c false) = some 0 := by
    have hz : assizeref01_long.j4 (k + 4) l i c false = some 0 := by rw [assizeref01_long.j4, if_neg (by simp)]
    split
    · rw [decide_eq_false (by omega)]; exact hz
    · exact hz
  rw [h3]; rfl
theorem charN_le (l : List Int) (i : Nat) : charN l i ≤ 4 := by
  unfold charN; repeat' split
  all_goals omega
theorem p_valid0 (l : List Int) (hl : l.length ≤ 4611686018427387904) : ∀ (d k i : Nat), l.length ≤ i + d → d + 7 ≤ k → i ≤ l.length + 4 → assizeref01_Valid.l0 k l i = some (validF d l i)
  | d, 0, i, _, h, _ => by omega
  | 0, k + 1, i, hd, hk, hi => by
    rw [assizeref01_Valid.l0, if_neg (by omega)]; rfl
  | d + 1, k + 1, i, hd, hk, hi => by
    rw [assizeref01_Valid.l0, validF]
    by_cases h : i < l.length
    · have hc := charN_le l i
      rw [if_pos (by omega), if_pos h, p_long l k i (by omega) hl h]
      simp only [Option.bind_some]
      by_cases hz : charN l i = 0
      · rw [if_pos (by omega), if_pos hz]
      · rw [if_neg (by omega), if_neg hz, w64 (by omega) (by omega), show (i : Int) + (charN l i : Nat) = ((i + charN l i : Nat) : Int) by omega]
        exact p_valid0 l hl d k _ (by omega) (by omega) (by omega)
    · rw [if_neg (by omega), if_neg h]
theorem p_valid (l : List Int) (hl : l.length ≤ 4611686018427387904) : assizeref01_Valid.f (l.length + 7) l = some (validB l) := p_valid0 l hl l.length _ 0 (by omega) (by omega) (by omega)
end Go.Proofs.YtelhkbanohhjhaaDoor.Tx
