/- Tokens of bytes, in plain Lean: no program. -/
namespace Go.Proofs.YtmdelgaeikicpaaDoor.Lx
set_option linter.unusedVariables false

abbrev Bs := List UInt8
def lowB (c : UInt8) : Bool := decide (97 ≤ c.toNat) && decide (c.toNat ≤ 122)
def upB (c : UInt8) : Bool := decide (65 ≤ c.toNat) && decide (c.toNat ≤ 90)
def wordB (c : UInt8) : Bool := lowB c || upB c || (decide (48 ≤ c.toNat) && decide (c.toNat ≤ 57)) || decide (c.toNat = 95)
def okB (c : UInt8) : Bool := decide (32 ≤ c.toNat) && decide (c.toNat ≤ 126)
def blankB (c : UInt8) : Bool := decide (c.toNat = 32) || decide (c.toNat = 9) || decide (c.toNat = 13)

/-- How many bytes at a text's head are a word's. -/
def span : Bs → Nat
  | [] => 0
  | c :: r => if wordB c then span r + 1 else 0
theorem span_le : ∀ l : Bs, span l ≤ l.length
  | [] => Nat.le_refl _
  | c :: r => by
    unfold span
    split
    · have := span_le r; simp; omega
    · simp
theorem span_all : ∀ l : Bs, span l = l.length ↔ l.all wordB = true
  | [] => by simp [span]
  | c :: r => by
    have := span_all r
    have h2 := span_le r
    unfold span
    by_cases h : wordB c = true
    · simp only [h, if_true, List.all_cons, Bool.true_and, List.length_cons]
      rw [← this]; omega
    · simp only [h, List.all_cons, List.length_cons]
      simp

def oddB : Bs → Bool
  | [] => true
  | c :: _ => upB c || decide (c.toNat = 64) || decide (c.toNat = 36)
def plainB : Bs → Bool
  | [] => false
  | c :: r => lowB c && (span (c :: r) == (c :: r).length)
def isVarB (l : Bs) : Bool := match l with
  | [] => false
  | c :: r => decide ((c :: r).length < 64) && upB c && (span (c :: r) == (c :: r).length)
def isNameB (l : Bs) : Bool := !oddB l && decide (l.length < 64) && l.all okB
def escB (c : UInt8) : Bs := if c.toNat = 39 ∨ c.toNat = 92 then [92, c] else [c]
def showB (l : Bs) : Bs := if plainB l then l else 39 :: l.flatMap escB ++ [39]

/-- A quoted name behind its first sign, and how many bytes it takes there. -/
def quot : Bs → Option (Bs × Nat)
  | [] => none
  | c :: r =>
    if c.toNat = 39 then some ([], 1)
    else if c.toNat = 92 then
      match r with
      | [] => none
      | d :: r' => if d.toNat = 39 ∨ d.toNat = 92 then (quot r').map fun p => (d :: p.1, p.2 + 2) else none
    else if okB c then (quot r).map fun p => (c :: p.1, p.2 + 1) else none

def marks : List Bs := [[60, 61, 62], [61, 62], [33, 61], [40], [41], [91], [93], [44], [58], [33], [63], [126], [38], [124], [61]]
def markB (l : Bs) : Option Bs := marks.find? fun m => m.isPrefixOf l
def trueB : Bs := [36, 116, 114, 117, 101]
def falseB : Bs := [36, 102, 97, 108, 115, 101]

structure Tok where
  kind : Int
  pos : Int
  text : Bs
deriving DecidableEq
/-- The token that a text begins with: kind, text, how many bytes; else an error's number. -/
def tokB : Bs → Except Int (Int × Bs × Nat)
  | [] => .error 20
  | c :: r =>
    if lowB c then (if span (c :: r) < 64 then .ok (1, (c :: r).take (span (c :: r)), span (c :: r)) else .error 3)
    else if upB c then (if span (c :: r) < 64 then .ok (2, (c :: r).take (span (c :: r)), span (c :: r)) else .error 3)
    else if c.toNat = 39 then
      match quot r with
      | none => .error 20
      | some (name, n) => if oddB name then .error 20 else if name.length < 64 then .ok (1, name, n + 1) else .error 3
    else if c.toNat = 36 then
      (if (c :: r).take (span r + 1) = trueB ∨ (c :: r).take (span r + 1) = falseB then .ok (3, (c :: r).take (span r + 1), span r + 1) else .error 20)
    else
      match markB (c :: r) with
      | none => .error 20
      | some m => .ok (4, m, m.length)

/-- What comes of a text, one by one: tokens, and at last, it may be, an error. -/
structure Item where
  kind : Int
  pos : Int
  text : Bs
  err : Int
deriving DecidableEq
def items : Nat → Bs → Nat → List Item
  | 0, _, _ => []
  | _ + 1, [], _ => []
  | d + 1, c :: r, p =>
    if blankB c then items d r (p + 1)
    else if c.toNat = 37 then []
    else match tokB (c :: r) with
      | .error e => [⟨0, p, [], e⟩]
      | .ok (k, t, n) => ⟨k, p, t, 0⟩ :: items d ((c :: r).drop n) (p + n)
def itemsOf (l : Bs) : List Item := items l.length l 0
/-- Tokens, or the place and the number of the first error. -/
def folded : List Item → List Tok → List Tok × Int × Int
  | [], out => (out, 0, 0)
  | x :: r, out => if x.err = 0 then folded r (out ++ [⟨x.kind, x.pos, x.text⟩]) else ([], x.pos, x.err)
def lexB (l : Bs) : List Tok × Int × Int := folded (itemsOf l) []

theorem markB_some {l m : Bs} (h : markB l = some m) : m.isPrefixOf l = true ∧ 1 ≤ m.length ∧ m.length ≤ 3 := by
  have h1 := List.find?_some h
  have h2 := List.mem_of_find?_eq_some h
  refine ⟨h1, ?_⟩
  simp only [marks, List.mem_cons, List.not_mem_nil, or_false] at h2
  rcases h2 with rfl | rfl | rfl | rfl | rfl | rfl | rfl | rfl | rfl | rfl | rfl | rfl | rfl | rfl | rfl <;> decide
theorem quot_le : ∀ (k : Nat) (l : Bs), l.length ≤ k → ∀ (n : Bs) (m : Nat), quot l = some (n, m) → 1 ≤ m ∧ m ≤ l.length ∧ n.length < m
  | 0, l, hk, n, m, h => by
    have : l = [] := List.length_eq_zero_iff.1 (by omega)
    subst this; simp [quot] at h
  | k + 1, [], hk, n, m, h => by simp [quot] at h
  | k + 1, c :: r, hk, n, m, h => by
    rw [quot.eq_def] at h
    simp only at h
    split at h
    · simp at h; obtain ⟨rfl, rfl⟩ := h; simp
    · split at h
      · cases r with
        | nil => simp at h
        | cons d r' =>
          simp only at h
          split at h
          · simp only [Option.map_eq_some_iff] at h
            obtain ⟨⟨n', m'⟩, h1, h2⟩ := h
            simp at h2; obtain ⟨rfl, rfl⟩ := h2
            have := quot_le k r' (by simp at hk; omega) n' m' h1
            simp; omega
          · simp at h
      · split at h
        · simp only [Option.map_eq_some_iff] at h
          obtain ⟨⟨n', m'⟩, h1, h2⟩ := h
          simp at h2; obtain ⟨rfl, rfl⟩ := h2
          have := quot_le k r (by simp at hk; omega) n' m' h1
          simp; omega
        · simp at h
theorem tokB_le {l : Bs} {k : Int} {t : Bs} {n : Nat} (h : tokB l = .ok (k, t, n)) : 1 ≤ n ∧ n ≤ l.length ∧ t.length ≤ n := by
  cases l with
  | nil => simp [tokB] at h
  | cons c r =>
    have hs := span_le (c :: r)
    have hs2 := span_le r
    rw [tokB.eq_def] at h; simp only at h
    split at h
    · rename_i hl
      split at h
      · simp only [Except.ok.injEq, Prod.mk.injEq] at h
        obtain ⟨rfl, rfl, rfl⟩ := h
        have : wordB c = true := by simp [wordB, hl]
        have h1 : 1 ≤ span (c :: r) := by simp [span, this]
        exact ⟨h1, hs, by simp; omega⟩
      · simp at h
    · split at h
      · rename_i hl
        split at h
        · simp only [Except.ok.injEq, Prod.mk.injEq] at h
          obtain ⟨rfl, rfl, rfl⟩ := h
          have : wordB c = true := by simp [wordB, hl]
          have h1 : 1 ≤ span (c :: r) := by simp [span, this]
          exact ⟨h1, hs, by simp; omega⟩
        · simp at h
      · split at h
        · split at h
          · simp at h
          · rename_i name m hq
            have := quot_le _ r (Nat.le_refl _) _ _ hq
            split at h
            · simp at h
            · split at h
              · simp only [Except.ok.injEq, Prod.mk.injEq] at h
                obtain ⟨rfl, rfl, rfl⟩ := h
                simp; omega
              · simp at h
        · split at h
          · split at h
            · simp only [Except.ok.injEq, Prod.mk.injEq] at h
              obtain ⟨rfl, rfl, rfl⟩ := h
              simp; omega
            · simp at h
          · split at h
            · simp at h
            · rename_i m hm
              simp only [Except.ok.injEq, Prod.mk.injEq] at h
              obtain ⟨rfl, rfl, rfl⟩ := h
              obtain ⟨h1, h2, _⟩ := markB_some hm
              have := (List.isPrefixOf_iff_prefix.1 h1).length_le
              exact ⟨h2, this, Nat.le_refl _⟩
end Go.Proofs.YtmdelgaeikicpaaDoor.Lx
