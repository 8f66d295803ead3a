/- Contracts of package lexer's Plain, IsVar and Show. -/
import Derived.Test.YtmdelgaeikicpaaDoorLexC
import Derived.Lib.Replace
import Derived.Lib.IndexBytes
namespace Go.Proofs.YtmdelgaeikicpaaDoor.Lx
open Go.RowKit
set_option linter.unusedVariables false
set_option linter.unusedSimpArgs false

/-! ### one byte replaced -/
def rep1 (c : UInt8) (new : Bs) (l : Bs) : Bs := l.flatMap fun x => if x = c then new else [x]
theorem replaceK_one (c : UInt8) (new : Bs) : ∀ (l : Bs) (k : Nat), l.count c ≤ k → Lib.replaceK [c] new k l = rep1 c new l
  | [], 0, _ => rfl
  | [], k + 1, _ => by simp [Lib.replaceK, Lib.index, rep1]
  | x :: r, 0, h => by
    have hx : x ≠ c := fun e => by subst e; simp at h
    have ih := replaceK_one c new r 0 (by rw [List.count_cons_of_ne hx] at h; exact h)
    simp only [Lib.replaceK] at ih ⊢
    simp only [rep1, List.flatMap_cons, hx, if_false] at ih ⊢
    rw [← ih]; rfl
  | x :: r, k + 1, h => by
    by_cases hx : x = c
    · subst hx
      rw [List.count_cons_self] at h
      have h0 : Lib.index (x :: r) [x] = (0 : Nat) := by simp [Lib.index, List.isPrefixOf]
      rw [Lib.replaceK_hit [x] new k (x :: r) 0 h0]
      have ih := replaceK_one x new r k (by omega)
      simp only [List.take_zero, List.nil_append, Nat.zero_add, List.length_cons, List.length_nil, List.drop_succ_cons, List.drop_zero]
      rw [ih]; simp [rep1]
    · rw [List.count_cons_of_ne hx] at h
      have ih := replaceK_one c new r (k + 1) h
      have hi : Lib.index (x :: r) [c] = if Lib.index r [c] == -1 then -1 else Lib.index r [c] + 1 := by
        have : ([c] : Bs).isPrefixOf (x :: r) = false := by simp [List.isPrefixOf]; exact fun e => hx e.symm
        simp only [Lib.index, this]; rfl
      have hr : rep1 c new (x :: r) = x :: rep1 c new r := by simp [rep1, hx]
      rw [hr, ← ih]
      by_cases hn : Lib.index r [c] = -1
      · simp only [Lib.replaceK, hi, hn]; rfl
      · have hge := Lib.index_ge r [c]
        obtain ⟨i, hii⟩ : ∃ i : Nat, Lib.index r [c] = i := ⟨(Lib.index r [c]).toNat, by omega⟩
        have h2 : Lib.index (x :: r) [c] = (i + 1 : Nat) := by
          rw [hi, hii, if_neg (by rw [beq_iff_eq]; omega)]; simp
        rw [Lib.replaceK_hit [c] new k (x :: r) (i + 1) h2, Lib.replaceK_hit [c] new k r i hii]
        simp [List.take_succ_cons, Nat.add_right_comm]
theorem replaceAll_one (c : UInt8) (new l : Bs) (h : [c] ≠ new) : Lib.replaceAll l [c] new = rep1 c new l := by
  unfold Lib.replaceAll Lib.replace
  rw [if_neg (by rw [beq_iff_eq]; exact h), Lib.replaceNum, if_pos (.inl (by omega)), Lib.count_one]
  exact replaceK_one c new l _ (Nat.le_refl _)
theorem rep_rep (l : Bs) : rep1 39 [92, 39] (rep1 92 [92, 92] l) = l.flatMap escB := by
  induction l with
  | nil => rfl
  | cons x r ih =>
    have e1 : rep1 92 [92, 92] (x :: r) = (if x = 92 then [92, 92] else [x]) ++ rep1 92 [92, 92] r := by simp [rep1]
    have e2 : ∀ a b : Bs, rep1 39 [92, 39] (a ++ b) = rep1 39 [92, 39] a ++ rep1 39 [92, 39] b := fun a b => by simp [rep1]
    rw [e1, e2, ih, List.flatMap_cons]
    congr 1
    by_cases h1 : x = 92
    · subst h1; decide
    · by_cases h2 : x = 39
      · subst h2; decide
      · have h3 : ¬ (x.toNat = 39 ∨ x.toNat = 92) := by
          rintro (h | h)
          · exact h2 (UInt8.toNat_inj.1 h)
          · exact h1 (UInt8.toNat_inj.1 h)
        simp [rep1, escB, h1, h2, h3]
theorem rep1_len (c : UInt8) (a b : UInt8) (l : Bs) : (rep1 c [a, b] l).length ≤ 2 * l.length := by
  induction l with
  | nil => simp [rep1]
  | cons x r ih =>
    have e1 : rep1 c [a, b] (x :: r) = (if x = c then [a, b] else [x]) ++ rep1 c [a, b] r := by simp [rep1]
    rw [e1, List.length_append]; split <;> simp <;> omega

theorem plain_any (s : ByteArray) (w : World) (hs : s.size ≤ 9223372036854775807) :
    Calls Tryd.prog 14 #[.string s] w fun e w' => e = .returned (.bool (plainB (bs s))) ∧ w = w' := by
  rcases Nat.eq_zero_or_pos s.size with h | h
  · obtain rfl := empty_of s h
    go_enter Tryd.func14, Tryd.ntmps14
    go_wp2
    go_ret
    exact ⟨rfl, rfl⟩
  · have hsp : plainB (bs s) = (lowB s[0] && ((span (bs s) : Int) == (s.size : Int))) := by
      have hb := bs_len s
      have h1 : (span (bs s) == (bs s).length) = ((span (bs s) : Int) == (s.size : Int)) := by rw [Bool.eq_iff_iff]; simp only [beq_iff_eq]; omega
      rw [← h1]; try rw [← hb]
      cases hl : bs s with
      | nil => rw [hl] at hb; simp at hb; omega
      | cons c r =>
        have h2 : s[0] = c := by have := bs_at s 0 h; simp only [hl, List.getElem_cons_zero] at this; exact this.symm
        rw [h2]; simp [plainB, Bool.and_assoc]
    rw [hsp]
    have hne : s.toList.isEmpty = false := not_empty s h
    have HSP := Lib.hid (prefix_any s)
    clear hsp
    cases h1 : lowB s[0] <;> cases h2 : ((span (bs s) : Int) == (s.size : Int)) <;> by_cases h3 : s.size < 64
    all_goals
      have H1 := Lib.hid h1
      have H2 := Lib.hid h2
      clear h1
      go_enter Tryd.func14, Tryd.ntmps14
      go_wp2_with (first | (go_at_call 26; refine (lower_any _ _).mono ?_; rw [H1.out]; rintro e w' ⟨rfl, rfl⟩) | (go_at_call 27; refine (HSP.out _ hs).mono ?_; rintro e w' ⟨rfl, rfl⟩))
      all_goals (go_ret; exact ⟨ret_bool (by first | rfl | (simp; omega) | (simp [*])), rfl⟩)

theorem isVar_any (s : ByteArray) (w : World) (hs : s.size ≤ 9223372036854775807) :
    Calls Tryd.prog 16 #[.string s] w fun e w' => e = .returned (.bool (isVarB (bs s))) ∧ w = w' := by
  rcases Nat.eq_zero_or_pos s.size with h | h
  · obtain rfl := empty_of s h
    go_enter Tryd.func16, Tryd.ntmps16
    go_wp2
    go_ret
    exact ⟨rfl, rfl⟩
  · have hsp : isVarB (bs s) = (decide (s.size < 64) && upB s[0] && ((span (bs s) : Int) == (s.size : Int))) := by
      have hb := bs_len s
      have h1 : (span (bs s) == (bs s).length) = ((span (bs s) : Int) == (s.size : Int)) := by rw [Bool.eq_iff_iff]; simp only [beq_iff_eq]; omega
      rw [← h1]; try rw [← hb]
      cases hl : bs s with
      | nil => rw [hl] at hb; simp at hb; omega
      | cons c r =>
        have h2 : s[0] = c := by have := bs_at s 0 h; simp only [hl, List.getElem_cons_zero] at this; exact this.symm
        rw [h2]; simp [isVarB, Bool.and_assoc]
    rw [hsp]
    have hne : s.toList.isEmpty = false := not_empty s h
    have HSP := Lib.hid (prefix_any s)
    clear hsp
    cases h1 : upB s[0] <;> cases h2 : ((span (bs s) : Int) == (s.size : Int)) <;> by_cases h3 : s.size < 64
    all_goals
      have H1 := Lib.hid h1
      have H2 := Lib.hid h2
      clear h1
      go_enter Tryd.func16, Tryd.ntmps16
      go_wp2_with (first | (go_at_call 30; refine (upper_any _ _).mono ?_; rw [H1.out]; rintro e w' ⟨rfl, rfl⟩) | (go_at_call 27; refine (HSP.out _ hs).mono ?_; rintro e w' ⟨rfl, rfl⟩))
      all_goals (go_ret; exact ⟨ret_bool (by first | rfl | (simp; omega) | (simp [*])), rfl⟩)

def showV (s : ByteArray) : Value := .string ⟨(showB (bs s)).toArray⟩
theorem show_plain (s : ByteArray) (w : World) (hs : s.size ≤ 1048576) (hp : plainB (bs s) = true) :
    Calls Tryd.prog 13 #[.string s] w fun e w' => e = .returned (showV s) ∧ Below w.heap.size w w' := by
  have hv : showV s = .string s := by unfold showV showB; rw [if_pos hp, mk_bs]
  have HP := Lib.hid hp
  have HV := Lib.hid hv
  clear hp hv
  go_enter Tryd.func13, Tryd.ntmps13
  go_wp2_with fail
  refine (plain_any _ _ (by omega)).mono ?_
  rw [HP.out]
  rintro e w' ⟨rfl, rfl⟩
  go_wp2_with fail
  go_ret
  exact ⟨by rw [HV.out]; rfl, Below.refl _ _⟩
theorem cnt_le (s : ByteArray) (c : UInt8) : Lib.countB s ⟨#[c]⟩ ≤ s.size := by
  have h := List.count_le_length (a := c) (l := bs s)
  rw [bs_len] at h
  have e : Lib.countB s ⟨#[c]⟩ = (bs s).count c := Lib.count_one c (bs s)
  omega
set_option maxRecDepth 100000 in
theorem show_quoted (s : ByteArray) (w : World) (m : Int) (hs : s.size ≤ 1048576) (hp : plainB (bs s) = false) (hm : w.cell? ⟨0, 0, none⟩ = some (.int .i64 m)) :
    Calls Tryd.prog 13 #[.string s] w fun e w' => e = .returned (showV s) ∧ Below w.heap.size w w' := by
  have hv : showB (bs s) = 39 :: (rep1 39 [92, 39] (rep1 92 [92, 92] (bs s))) ++ [39] := by unfold showB; rw [hp, rep_rep]; simp
  have HP := Lib.hid hp
  have HV := Lib.hid hv
  have h0 := World.block_lt_of_cell? w _ hm
  have hl1 := rep1_len 92 92 92 (bs s)
  have hl2 := rep1_len 39 92 39 (rep1 92 [92, 92] (bs s))
  rw [bs_len] at hl1
  have HM := Lib.hid hm
  clear hp hv hm
  go_enter Tryd.func13, Tryd.ntmps13
  go_wp2_with fail
  refine (plain_any _ _ (by omega)).mono ?_
  rw [HP.out]
  rintro e w' ⟨rfl, rfl⟩
  go_wp2_with fail
  refine (Tryd.strings_ReplaceAll s ⟨#[92]⟩ ⟨#[92, 92]⟩ m _ (by omega) HM.out (by decide) ?_).mono ?_
  · have := cnt_le s 92; simp only [show (⟨#[92, 92]⟩ : ByteArray).size = 2 from rfl]; omega
  rintro e w1 ⟨rfl, hb1⟩
  rw [show Lib.replaceAll s.data.toList (⟨#[92]⟩ : ByteArray).data.toList (⟨#[92, 92]⟩ : ByteArray).data.toList = rep1 92 [92, 92] (bs s) from replaceAll_one 92 [92, 92] (bs s) (by decide)]
  have hz1 : (⟨(rep1 92 [92, 92] (bs s)).toArray⟩ : ByteArray).size = (rep1 92 [92, 92] (bs s)).length := by simp [ByteArray.size]
  have HZ1 := Lib.hid hz1
  have HL1 := Lib.hid hl1
  have HL2 := Lib.hid hl2
  clear hl1 hl2 hz1
  go_wp2_with fail
  refine (Tryd.strings_ReplaceAll ⟨(rep1 92 [92, 92] (bs s)).toArray⟩ ⟨#[39]⟩ ⟨#[92, 39]⟩ m _ (by rw [HZ1.out]; have := HL1.out; omega) ((hb1.cell (by exact h0)).trans HM.out) (by decide) ?_).mono ?_
  · have := cnt_le ⟨(rep1 92 [92, 92] (bs s)).toArray⟩ 39
    have := HL1.out
    rw [HZ1.out] at *
    simp only [show (⟨#[92, 39]⟩ : ByteArray).size = 2 from rfl]; omega
  rintro e w2 ⟨rfl, hb2⟩
  rw [show Lib.replaceAll (⟨(rep1 92 [92, 92] (bs s)).toArray⟩ : ByteArray).data.toList (⟨#[39]⟩ : ByteArray).data.toList (⟨#[92, 39]⟩ : ByteArray).data.toList = rep1 39 [92, 39] (rep1 92 [92, 92] (bs s)) from replaceAll_one 39 [92, 39] _ (by decide)]
  have hz2 : (⟨(rep1 39 [92, 39] (rep1 92 [92, 92] (bs s))).toArray⟩ : ByteArray).size = (rep1 39 [92, 39] (rep1 92 [92, 92] (bs s))).length := by simp [ByteArray.size]
  have hz3 : (⟨(rep1 39 [92, 39] (rep1 92 [92, 92] (bs s))).toArray⟩ : ByteArray).size ≤ 4194304 := by rw [hz2]; have := HL1.out; have := HL2.out; omega
  have HB := Lib.hid (hb1.trans (hb2.mono hb1.size))
  have HE : Hid (showV s = .string ((⟨#[39]⟩ : ByteArray) ++ ⟨(rep1 39 [92, 39] (rep1 92 [92, 92] (bs s))).toArray⟩ ++ ⟨#[39]⟩)) := Lib.hid (by
    unfold showV; rw [HV.out]; congr 1)
  clear hz2 hb1 hb2
  generalize (⟨(rep1 39 [92, 39] (rep1 92 [92, 92] (bs s))).toArray⟩ : ByteArray) = X at *
  have hz4 : ((⟨#[39]⟩ : ByteArray) ++ X).size ≤ 4194305 := by rw [ByteArray.size_append, show (⟨#[39]⟩ : ByteArray).size = 1 from rfl]; omega
  go_wp2_with fail
  go_ret
  exact ⟨by rw [HE.out]; rfl, HB.out⟩
theorem show_any (s : ByteArray) (w : World) (m : Int) (hs : s.size ≤ 1048576) (hm : w.cell? ⟨0, 0, none⟩ = some (.int .i64 m)) :
    Calls Tryd.prog 13 #[.string s] w fun e w' => e = .returned (showV s) ∧ Below w.heap.size w w' := by
  cases hp : plainB (bs s)
  · exact show_quoted s w m hs hp hm
  · exact show_plain s w hs hp
end Go.Proofs.YtmdelgaeikicpaaDoor.Lx
