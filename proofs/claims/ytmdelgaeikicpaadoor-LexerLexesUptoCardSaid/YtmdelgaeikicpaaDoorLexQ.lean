/- Two texts with a blank between have the tokens of both: plain law. -/
import Derived.Test.YtmdelgaeikicpaaDoorLexH
namespace Go.Proofs.YtmdelgaeikicpaaDoor.Lx
open Go.RowKit
set_option linter.unusedVariables false
set_option linter.unusedSimpArgs false

theorem span_join (b : Bs) : ∀ l : Bs, span (l ++ 32 :: b) = span l
  | [] => rfl
  | c :: r => by simp only [List.cons_append, span, span_join b r]
theorem prefix_join (b : Bs) : ∀ (m l : Bs), (∀ x ∈ m, x ≠ 32) → m.isPrefixOf (l ++ 32 :: b) = m.isPrefixOf l
  | [], l, _ => by simp
  | x :: m, [], h => by
    have : (x == (32 : UInt8)) = false := by rw [beq_eq_false_iff_ne]; exact h x (by simp)
    simp [List.isPrefixOf, this]
  | x :: m, c :: r, h => by
    simp only [List.cons_append, List.isPrefixOf, prefix_join b m r (fun y hy => h y (by simp [hy]))]
theorem find_same {α : Type} (p q : α → Bool) : ∀ l : List α, (∀ x ∈ l, p x = q x) → l.find? p = l.find? q
  | [], _ => rfl
  | x :: l, h => by
    simp only [List.find?_cons, h x (by simp), find_same p q l (fun y hy => h y (by simp [hy]))]
theorem mark_join (l b : Bs) : markB (l ++ 32 :: b) = markB l := by
  unfold markB
  apply find_same
  intro m hm
  refine prefix_join b m l ?_
  simp only [marks, List.mem_cons, List.not_mem_nil, or_false] at hm
  rcases hm with rfl | rfl | rfl | rfl | rfl | rfl | rfl | rfl | rfl | rfl | rfl | rfl | rfl | rfl | rfl <;> decide
theorem take_join (l b : Bs) (n : Nat) (h : n ≤ l.length) : (l ++ 32 :: b).take n = l.take n := List.take_append_of_le_length h
theorem tok_join (c : UInt8) (r b : Bs) (h39 : c.toNat ≠ 39) : tokB ((c :: r) ++ 32 :: b) = tokB (c :: r) := by
  have h1 := span_join b (c :: r)
  have h2 := span_join b r
  have h3 := mark_join (c :: r) b
  have h4 := take_join (c :: r) b (span (c :: r)) (span_le _)
  have h5 := take_join (c :: r) b (span r + 1) (by have := span_le r; simp; omega)
  rw [List.cons_append] at *
  rw [tokB.eq_def, tokB.eq_def (c :: r)]
  simp only [h1, h2, h3, h4, h5, h39, if_false]
def shift (n : Nat) (x : Item) : Item := ⟨x.kind, x.pos + n, x.text, x.err⟩
theorem items_shift : ∀ (d : Nat) (l : Bs) (p n : Nat), items d l (p + n) = (items d l p).map (shift n)
  | 0, l, p, n => rfl
  | d + 1, [], p, n => rfl
  | d + 1, c :: r, p, n => by
    simp only [items]
    split
    · rw [show p + n + 1 = p + 1 + n by omega]; exact items_shift d r (p + 1) n
    · split
      · rfl
      · cases ht : tokB (c :: r) with
        | error e => simp [shift]
        | ok x =>
          obtain ⟨k, t, m⟩ := x
          simp only [List.map_cons]
          rw [show p + n + m = p + m + n by omega, items_shift d _ (p + m) n]
          simp [shift]
/-- Is there an error among the items? -/
def bad (l : List Item) : Bool := l.any fun x => x.err != 0
theorem items_join (b : Bs) : ∀ (d : Nat) (l : Bs) (p : Nat), l.length ≤ d → (∀ x ∈ l, x.toNat ≠ 39 ∧ x.toNat ≠ 37) →
    items (d + 1 + b.length) (l ++ 32 :: b) p = if bad (items d l p) then items d l p else items d l p ++ items b.length b (p + l.length + 1)
  | 0, l, p, h, _ => by
    obtain rfl : l = [] := List.length_eq_zero_iff.1 (by omega)
    simp only [List.nil_append, items, bad, List.any_nil, Bool.false_eq_true, if_false, List.length_nil, Nat.add_zero, Nat.zero_add]
    rw [show 1 + b.length = b.length + 1 by omega]
    simp only [items, show blankB 32 = true from rfl, if_true]
  | d + 1, [], p, h, hc => by
    simp only [List.nil_append, items, bad, List.any_nil, Bool.false_eq_true, if_false, List.length_nil, Nat.add_zero]
    rw [show d + 1 + 1 + b.length = (d + 1 + b.length) + 1 by omega]
    simp only [items, show blankB 32 = true from rfl, if_true]
    exact items_fuel _ _ _ _ (by omega) (Nat.le_refl _)
  | d + 1, c :: r, p, h, hc => by
    simp only [List.length_cons] at h
    rw [show d + 1 + 1 + b.length = (d + 1 + b.length) + 1 by omega, List.cons_append]
    simp only [items]
    have hcc := hc c (by simp)
    by_cases hb : blankB c = true
    case neg =>
      simp only [hb, Bool.false_eq_true, if_false, hcc.2]
      have htj := tok_join c r b hcc.1
      rw [List.cons_append] at htj
      rw [htj]
      cases ht : tokB (c :: r) with
      | error e =>
        have := tokB_err ht
        have he : bad [⟨0, p, [], e⟩] = true := by simp [bad]; omega
        simp only [he, if_true]
      | ok x =>
        obtain ⟨k, t, m⟩ := x
        obtain ⟨h1, h2, h3⟩ := tokB_le ht
        simp only [List.length_cons] at h2
        have hd : (c :: (r ++ 32 :: b)).drop m = (c :: r).drop m ++ 32 :: b := by
          rw [← List.cons_append, List.drop_append_of_le_length (by simpa using h2)]
        have ih := items_join b d ((c :: r).drop m) (p + m) (by rw [List.length_drop]; simp only [List.length_cons]; omega) (fun x hx => hc x (List.mem_of_mem_drop hx))
        simp only [hd, ih]
        have e1 : bad (⟨k, p, t, 0⟩ :: items d ((c :: r).drop m) (p + m)) = bad (items d ((c :: r).drop m) (p + m)) := by simp [bad]
        rw [e1]
        have e2 : p + m + ((c :: r).drop m).length + 1 = p + (c :: r).length + 1 := by rw [List.length_drop]; simp only [List.length_cons]; omega
        rw [e2]
        split <;> simp
    case pos =>
      simp only [hb, if_true]
      have ih := items_join b d r (p + 1) (by omega) (fun x hx => hc x (by simp [hx]))
      rw [ih, show p + 1 + r.length + 1 = p + (c :: r).length + 1 by simp only [List.length_cons]; omega]
theorem join_items (a b : Bs) (h : ∀ x ∈ a, x.toNat ≠ 39 ∧ x.toNat ≠ 37) :
    itemsOf (a ++ 32 :: b) = if bad (itemsOf a) then itemsOf a else itemsOf a ++ (itemsOf b).map (shift (a.length + 1)) := by
  have hj := items_join b a.length a 0 (Nat.le_refl _) h
  unfold itemsOf
  rw [show (a ++ 32 :: b).length = a.length + 1 + b.length by simp; omega, hj]
  rw [show 0 + a.length + 1 = 0 + (a.length + 1) by omega, items_shift b.length b 0 (a.length + 1)]

def tk (x : Item) : Tok := ⟨x.kind, x.pos, x.text⟩
theorem fold_no (l : List Item) (out : List Tok) (h : bad l = false) : folded l out = (out ++ l.map tk, 0, 0) :=
  fold_good l out fun x hx => by
    simp only [bad, List.any_eq_false] at h
    have := h x hx
    simpa using this
theorem fold_yes : ∀ (l : List Item), bad l = true → ∃ x, x.err ≠ 0 ∧ x ∈ l ∧ ∀ out, folded l out = ([], x.pos, x.err)
  | [], h => by simp [bad] at h
  | y :: l, h => by
    by_cases hy : y.err = 0
    · have h2 : bad l = true := by simpa [bad, hy] using h
      obtain ⟨x, h3, h4, h5⟩ := fold_yes l h2
      exact ⟨x, h3, by simp [h4], fun out => by rw [folded, if_pos hy]; exact h5 _⟩
    · exact ⟨y, hy, by simp, fun out => by rw [folded, if_neg hy]⟩
theorem lex_err (l : Bs) : bad (itemsOf l) = true ↔ (lexB l).2.2 ≠ 0 := by
  unfold lexB
  cases h : bad (itemsOf l)
  · rw [fold_no _ _ h]; simp
  · obtain ⟨x, h1, _, h2⟩ := fold_yes _ h
    rw [h2]; simp [h1]
def shiftT (n : Nat) (x : Tok) : Tok := ⟨x.kind, x.pos + n, x.text⟩
theorem bad_shift (n : Nat) (l : List Item) : bad (l.map (shift n)) = bad l := by
  induction l with
  | nil => rfl
  | cons x l ih => simp only [bad, List.map_cons, List.any_cons] at ih ⊢; rw [ih]; rfl
theorem fold_shift (n : Nat) : ∀ (l : List Item) (out : List Tok), (folded (l.map (shift n)) out).2.2 = (folded l []).2.2 ∧ ((folded l []).2.2 ≠ 0 → (folded (l.map (shift n)) out).2.1 = (folded l []).2.1 + n)
  | [], out => by simp [folded]
  | x :: l, out => by
    simp only [List.map_cons, folded, shift]
    by_cases hx : x.err = 0
    · rw [if_pos hx, if_pos hx]
      have h1 := fold_shift n l (out ++ [⟨x.kind, x.pos + n, x.text⟩])
      have h2 : ∀ o, (folded l o).2 = (folded l []).2 := fun o => by
        cases hb : bad l
        · rw [fold_no l o hb, fold_no l [] hb]
        · obtain ⟨y, _, _, hy⟩ := fold_yes l hb
          rw [hy, hy]
      have h3 := h2 ([] ++ [⟨x.kind, x.pos, x.text⟩])
      rw [h3]; exact h1
    · rw [if_neg hx, if_neg hx]; simp
theorem join_one (a b : Bs) (h : ∀ x ∈ a, x.toNat ≠ 39 ∧ x.toNat ≠ 37) (ha : (lexB a).2.2 ≠ 0) : (lexB (a ++ 32 :: b)).2.2 = (lexB a).2.2 := by
  unfold lexB; rw [join_items a b h, if_pos ((lex_err a).2 ha)]
theorem join_two (a b : Bs) (h : ∀ x ∈ a, x.toNat ≠ 39 ∧ x.toNat ≠ 37) (ha : (lexB a).2.2 = 0) (hb : (lexB b).2.2 ≠ 0) :
    (lexB (a ++ 32 :: b)).2.2 = (lexB b).2.2 ∧ (lexB (a ++ 32 :: b)).2.1 = (lexB b).2.1 + (a.length + 1 : Nat) := by
  have hA : bad (itemsOf a) = false := by
    cases hh : bad (itemsOf a)
    · rfl
    · exact absurd ha ((lex_err a).1 hh)
  have hf := fold_shift (a.length + 1) (itemsOf b)
  have e : ∀ (l r : List Item) (o : List Tok), bad l = false → folded (l ++ r) o = folded r (o ++ l.map tk) := by
    intro l
    induction l with
    | nil => intro r o _; simp
    | cons x l ih =>
      intro r o hl
      have hx : x.err = 0 := by simp [bad] at hl; exact hl.1
      have hl2 : bad l = false := by simp only [bad, List.any_cons, Bool.or_eq_false_iff] at hl; exact hl.2
      simp only [List.cons_append, folded, hx, if_true]
      rw [ih r _ hl2]; simp [tk]
  unfold lexB at hb ⊢
  rw [join_items a b h, hA, if_neg (by simp), e _ _ _ hA]
  exact ⟨(hf _).1, (hf _).2 hb⟩
theorem join_ok (a b : Bs) (h : ∀ x ∈ a, x.toNat ≠ 39 ∧ x.toNat ≠ 37) (ha : (lexB a).2.2 = 0) (hb : (lexB b).2.2 = 0) :
    lexB (a ++ 32 :: b) = ((lexB a).1 ++ (lexB b).1.map (shiftT (a.length + 1)), 0, 0) ∧ (lexB a).2.1 = 0 ∧ (lexB b).2.1 = 0 := by
  have hA : bad (itemsOf a) = false := by
    cases hh : bad (itemsOf a)
    · rfl
    · exact absurd ha ((lex_err a).1 hh)
  have hB : bad (itemsOf b) = false := by
    cases hh : bad (itemsOf b)
    · rfl
    · exact absurd hb ((lex_err b).1 hh)
  have hC : bad (itemsOf a ++ (itemsOf b).map (shift (a.length + 1))) = false := by
    have := bad_shift (a.length + 1) (itemsOf b)
    simp only [bad, List.any_append] at *
    rw [hA, this, hB]; rfl
  unfold lexB
  rw [join_items a b h, hA, if_neg (by simp), fold_no _ _ hC, fold_no _ _ hA, fold_no _ _ hB]
  simp [tk, shift, shiftT, Function.comp_def]
theorem items_pos : ∀ (d : Nat) (l : Bs) (p : Nat), ∀ x ∈ items d l p, (p : Int) ≤ x.pos ∧ x.pos ≤ p + l.length
  | 0, l, p, x, h => by simp [items] at h
  | d + 1, [], p, x, h => by simp [items] at h
  | d + 1, c :: r, p, x, h => by
    simp only [items] at h
    split at h
    · have := items_pos d r (p + 1) x h; simp only [List.length_cons]; omega
    · split at h
      · simp at h
      · split at h
        · simp at h; subst h; simp; omega
        · rename_i k t n ht
          obtain ⟨h1, h2, h3⟩ := tokB_le ht
          rcases List.mem_cons.1 h with h | h
          · subst h; simp; omega
          · have := items_pos d _ (p + n) x h
            rw [List.length_drop] at this
            simp only [List.length_cons] at *; omega
theorem lex_pos (l : Bs) : 0 ≤ (lexB l).2.1 ∧ (lexB l).2.1 ≤ l.length := by
  unfold lexB
  cases h : bad (itemsOf l)
  · rw [fold_no _ _ h]; simp
  · obtain ⟨x, _, h2, h3⟩ := fold_yes _ h
    rw [h3]
    have := items_pos _ _ _ x h2
    simp only; omega
end Go.Proofs.YtmdelgaeikicpaaDoor.Lx
