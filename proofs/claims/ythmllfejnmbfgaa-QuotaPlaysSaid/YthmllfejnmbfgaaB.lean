/- Contracts of the counters of package quota and of its reference, and of the account's looks. -/
import Derived.Test.YthmllfejnmbfgaaA
import Derived.Test.YthmllfejnmbfgaaShelf
namespace Go.Proofs.Ythmllfejnmbfgaa
open Go.RowKit
set_option linter.unusedVariables false
set_option linter.unusedSimpArgs false
theorem ret_int {k : IntKind} {a b : Int} (h : a = b) : Ending.returned (.int k a) = .returned (.int k b) := by rw [h]

/-! ### P201 -/
def qadd (a b : Int) : Int := min (max a 0 + max b 0) 9223372036854775807
def qsub (a b : Int) : Int := max 0 (max a 0 - max b 0)
def qmul (a b : Int) : Int := min (max a 0 * max b 0) 9223372036854775807
theorem add_any {w : World} (a b : Int) (ha : a ≤ 9223372036854775807) (hb : b ≤ 9223372036854775807) :
    Calls Try.prog 7 #[.int .i64 a, .int .i64 b] w fun e w' => e = .returned (.int .i64 (qadd a b)) ∧ w = w' := by
  unfold qadd
  go_enter Try.func7, Try.ntmps7
  go_wp2
  all_goals (go_ret; exact ⟨ret_int (by omega), rfl⟩)
theorem sub_any {w : World} (a b : Int) (ha : a ≤ 9223372036854775807) :
    Calls Try.prog 9 #[.int .i64 a, .int .i64 b] w fun e w' => e = .returned (.int .i64 (qsub a b)) ∧ w = w' := by
  unfold qsub
  go_enter Try.func9, Try.ntmps9
  go_wp2
  all_goals (go_ret; exact ⟨ret_int (by omega), rfl⟩)
theorem low_any {w : World} (a : Int) :
    Calls Try.prog 28 #[.int .i64 a] w fun e w' => e = .returned (.int .i64 (max a 0)) ∧ w = w' := by
  go_enter Try.func28, Try.ntmps28
  go_wp2
  all_goals (go_ret; exact ⟨ret_int (by omega), rfl⟩)
theorem radd_any {w : World} (a b : Int) (ha : a ≤ 9223372036854775807) (hb : b ≤ 9223372036854775807) :
    Calls Try.prog 8 #[.int .i64 a, .int .i64 b] w fun e w' => e = .returned (.int .i64 (qadd a b)) ∧ w = w' := by
  unfold qadd
  have h1 : 0 ≤ max a 0 := by omega
  have h2 : 0 ≤ max b 0 := by omega
  have h3 : max a 0 ≤ 9223372036854775807 := by omega
  have h4 : max b 0 ≤ 9223372036854775807 := by omega
  go_enter Try.func8, Try.ntmps8
  go_wp2_with (go_at_call 28; refine (low_any _).mono ?_; rintro e w' ⟨rfl, rfl⟩)
  all_goals (go_ret; exact ⟨ret_int (by omega), rfl⟩)
theorem rsub_any {w : World} (a b : Int) (ha : a ≤ 9223372036854775807) (hb : b ≤ 9223372036854775807) :
    Calls Try.prog 10 #[.int .i64 a, .int .i64 b] w fun e w' => e = .returned (.int .i64 (qsub a b)) ∧ w = w' := by
  unfold qsub
  have h1 : 0 ≤ max a 0 := by omega
  have h2 : 0 ≤ max b 0 := by omega
  have h3 : max a 0 ≤ 9223372036854775807 := by omega
  have h4 : max b 0 ≤ 9223372036854775807 := by omega
  go_enter Try.func10, Try.ntmps10
  go_wp2_with (go_at_call 28; refine (low_any _).mono ?_; rintro e w' ⟨rfl, rfl⟩)
  all_goals (go_ret; exact ⟨ret_int (by omega), rfl⟩)

theorem used_out {b g : Nat} {cs : List Cnt} {w : World} (k : Int) (hk : k < 0 ∨ cs.length ≤ k) (ha : Acct w b g cs) :
    Calls Try.prog 16 #[.pointer (some ⟨b, 0, none⟩), .int .i64 k] w fun e w' => e = .returned (.int .i64 0) ∧ w = w' := by
  obtain ⟨hne, h16, cap, rest, hc, hm, hB, hG⟩ := ha
  have c0 := hB.cell 0
  simp only [List.getElem?_cons_zero] at c0
  rcases hk with hk | hk
  · go_enter Try.func16, Try.ntmps16
    go_wp2_with (go_at_call 31; refine (of_low k hk).mono ?_; rintro e w' ⟨rfl, rfl⟩)
    go_ret
    exact ⟨rfl, rfl⟩
  · go_enter Try.func16, Try.ntmps16
    go_wp2_with (go_at_call 31; refine (of_high k hk c0).mono ?_; rintro e w' ⟨rfl, rfl⟩)
    go_ret
    exact ⟨rfl, rfl⟩

theorem limit_in {b g : Nat} {cs : List Cnt} {w : World} (k : Nat) (hk : k < cs.length) (ha : Acct w b g cs) :
    Calls Try.prog 26 #[.pointer (some ⟨b, 0, none⟩), .int .i64 k] w fun e w' => e = .returned (.int .i64 cs[k].lim) ∧ w = w' := by
  obtain ⟨hne, h16, cap, rest, hc, hm, hB, hG⟩ := ha
  have c0 := hB.cell 0
  simp only [List.getElem?_cons_zero] at c0
  obtain ⟨f0, f1, f2⟩ := flat_at cs rest k hk
  have e1 := (hG.cell (k * 3)).trans f0
  clear f0 f1 f2
  go_enter Try.func26, Try.ntmps26
  go_wp2_with (go_at_call 31; refine (of_in k hk h16 c0).mono ?_; rintro e w' ⟨rfl, rfl⟩)
  go_ret
  exact ⟨rfl, rfl⟩
theorem limit_out {b g : Nat} {cs : List Cnt} {w : World} (k : Int) (hk : k < 0 ∨ cs.length ≤ k) (ha : Acct w b g cs) :
    Calls Try.prog 26 #[.pointer (some ⟨b, 0, none⟩), .int .i64 k] w fun e w' => e = .returned (.int .i64 0) ∧ w = w' := by
  obtain ⟨hne, h16, cap, rest, hc, hm, hB, hG⟩ := ha
  have c0 := hB.cell 0
  simp only [List.getElem?_cons_zero] at c0
  rcases hk with hk | hk
  · go_enter Try.func26, Try.ntmps26
    go_wp2_with (go_at_call 31; refine (of_low k hk).mono ?_; rintro e w' ⟨rfl, rfl⟩)
    go_ret
    exact ⟨rfl, rfl⟩
  · go_enter Try.func26, Try.ntmps26
    go_wp2_with (go_at_call 31; refine (of_high k hk c0).mono ?_; rintro e w' ⟨rfl, rfl⟩)
    go_ret
    exact ⟨rfl, rfl⟩

theorem peak_in {b g : Nat} {cs : List Cnt} {w : World} (k : Nat) (hk : k < cs.length) (ha : Acct w b g cs) :
    Calls Try.prog 17 #[.pointer (some ⟨b, 0, none⟩), .int .i64 k] w fun e w' => e = .returned (.int .i64 cs[k].peak) ∧ w = w' := by
  obtain ⟨hne, h16, cap, rest, hc, hm, hB, hG⟩ := ha
  have c0 := hB.cell 0
  simp only [List.getElem?_cons_zero] at c0
  obtain ⟨f0, f1, f2⟩ := flat_at cs rest k hk
  have e1 := (hG.cell (k * 3 + 2)).trans f2
  clear f0 f1 f2
  go_enter Try.func17, Try.ntmps17
  go_wp2_with (go_at_call 31; refine (of_in k hk h16 c0).mono ?_; rintro e w' ⟨rfl, rfl⟩)
  go_ret
  exact ⟨rfl, rfl⟩
theorem peak_out {b g : Nat} {cs : List Cnt} {w : World} (k : Int) (hk : k < 0 ∨ cs.length ≤ k) (ha : Acct w b g cs) :
    Calls Try.prog 17 #[.pointer (some ⟨b, 0, none⟩), .int .i64 k] w fun e w' => e = .returned (.int .i64 0) ∧ w = w' := by
  obtain ⟨hne, h16, cap, rest, hc, hm, hB, hG⟩ := ha
  have c0 := hB.cell 0
  simp only [List.getElem?_cons_zero] at c0
  rcases hk with hk | hk
  · go_enter Try.func17, Try.ntmps17
    go_wp2_with (go_at_call 31; refine (of_low k hk).mono ?_; rintro e w' ⟨rfl, rfl⟩)
    go_ret
    exact ⟨rfl, rfl⟩
  · go_enter Try.func17, Try.ntmps17
    go_wp2_with (go_at_call 31; refine (of_high k hk c0).mono ?_; rintro e w' ⟨rfl, rfl⟩)
    go_ret
    exact ⟨rfl, rfl⟩

end Go.Proofs.Ythmllfejnmbfgaa
