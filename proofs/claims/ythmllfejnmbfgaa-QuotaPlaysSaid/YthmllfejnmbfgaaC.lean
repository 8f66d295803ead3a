/- Contracts of the product, of Give and of New of package quota. -/
import Derived.Test.YthmllfejnmbfgaaB
import Derived.Laws.AppendOwn
import Derived.LoopTactic
namespace Go.Proofs.Ythmllfejnmbfgaa
open Go.RowKit
set_option linter.unusedVariables false
set_option linter.unusedSimpArgs false

theorem mul64_int {w : World} (x y : Int) (h0 : 0 ≤ x) (h1 : 0 ≤ y) (h2 : x ≤ 9223372036854775807) (h3 : y ≤ 9223372036854775807) :
    Calls Try.prog 29 #[.int .u64 x, .int .u64 y] w fun e w' => ∃ h l : Int, (0 ≤ h ∧ 0 ≤ l ∧ l < 18446744073709551616 ∧ x * y = h * 18446744073709551616 + l) ∧ e = .returned (.tuple #[.int .u64 h, .int .u64 l]) ∧ w = w' := by
  obtain ⟨n, rfl⟩ := Int.eq_ofNat_of_zero_le h0
  obtain ⟨m, rfl⟩ := Int.eq_ofNat_of_zero_le h1
  refine (Try.bits_Mul64 n m (by omega) (by omega) w).mono ?_
  rintro e w' ⟨rfl, rfl⟩
  refine ⟨_, _, ⟨?_, ?_, ?_, ?_⟩, rfl, rfl⟩
  · omega
  · omega
  · omega
  · have := Nat.div_add_mod (n * m) 18446744073709551616
    rw [← Int.natCast_mul]; omega
theorem mul_any {w : World} (a b : Int) (ha : a ≤ 9223372036854775807) (hb : b ≤ 9223372036854775807) :
    Calls Try.prog 11 #[.int .i64 a, .int .i64 b] w fun e w' => e = .returned (.int .i64 (qmul a b)) ∧ w = w' := by
  go_enter Try.func11, Try.ntmps11
  go_wp2_with fail
  refine (mul64_int _ _ (by omega) (by omega) (by omega) (by omega)).mono ?_
  rintro e w' ⟨h, l, hq, rfl, rfl⟩
  obtain ⟨q1, q2, q3, q4⟩ := hq
  have H4 := Lib.hid (show qmul a b = min (h * 18446744073709551616 + l) 9223372036854775807 by unfold qmul; rw [q4])
  clear q4
  go_wp2
  all_goals (go_ret; exact ⟨ret_int (by rw [H4.out]; omega), rfl⟩)
theorem rmul_zero {w : World} (a b : Int) (ha : a ≤ 9223372036854775807) (hb : b ≤ 9223372036854775807) (h : max a 0 = 0 ∨ max b 0 = 0) :
    Calls Try.prog 12 #[.int .i64 a, .int .i64 b] w fun e w' => e = .returned (.int .i64 (qmul a b)) ∧ w = w' := by
  have hq : qmul a b = 0 := by unfold qmul; rcases h with h | h <;> rw [h] <;> simp <;> omega
  rw [hq]
  by_cases h1 : max a 0 = 0
  · have e1 := Lib.hid h1
    go_enter Try.func12, Try.ntmps12
    go_wp2_with (go_at_call 28; refine (low_any _).mono ?_; rintro e w' ⟨rfl, rfl⟩)
    all_goals (go_ret; exact ⟨rfl, rfl⟩)
  · have h2 : max b 0 = 0 := by omega
    have e1 : (max a 0 == 0) = false := by simpa using h1
    have e2 : (max b 0 == 0) = true := by simpa using h2
    have e3 := Lib.hid h2
    clear h h1 h2
    go_enter Try.func12, Try.ntmps12
    go_wp2_with (go_at_call 28; refine (low_any _).mono ?_; rintro e w' ⟨rfl, rfl⟩)
    all_goals (go_ret; exact ⟨rfl, rfl⟩)
theorem quo_lt {a b x y : Int} (hx : x = a) (hy : y = b) (h2 : 0 < b) (h : 9223372036854775807 / y < x) : (9223372036854775807 : Int) = min (a * b) 9223372036854775807 := by
  subst hx hy
  have := (Int.ediv_lt_iff_lt_mul h2).1 h
  omega
theorem quo_ge {a b x y : Int} (hx : x = a) (hy : y = b) (h1 : 0 < a) (h2 : 0 < b) (h : x ≤ 9223372036854775807 / y) : wrap64 (x * y) = min (a * b) 9223372036854775807 := by
  subst hx hy
  have h3 := (Int.le_ediv_iff_mul_le h2).1 h
  have h4 : 0 ≤ x * y := Int.mul_nonneg (by omega) (by omega)
  rw [show wrap64 (x * y) = x * y by unfold wrap64; omega]
  omega
theorem rmul_some {w : World} (a b : Int) (ha : a ≤ 9223372036854775807) (hb : b ≤ 9223372036854775807) (h1 : 0 < a) (h2 : 0 < b) :
    Calls Try.prog 12 #[.int .i64 a, .int .i64 b] w fun e w' => e = .returned (.int .i64 (qmul a b)) ∧ w = w' := by
  have e1 : (max a 0 == 0) = false := by rw [beq_eq_false_iff_ne]; omega
  have e2 : (max b 0 == 0) = false := by rw [beq_eq_false_iff_ne]; omega
  have hm1 : max a 0 = a := by omega
  have hm2 : max b 0 = b := by omega
  have hq : qmul a b = min (a * b) 9223372036854775807 := by unfold qmul; rw [hm1, hm2]
  rw [hq]
  have H1 := Lib.hid hm1
  have H2 := Lib.hid hm2
  clear hm1 hm2 hq
  go_enter Try.func12, Try.ntmps12
  go_wp2_with (go_at_call 28; refine (low_any _).mono ?_; rintro e w' ⟨rfl, rfl⟩)
  · have ht : 9223372036854775807 / max b 0 < max a 0 := by assumption
    go_ret
    exact ⟨ret_int (quo_lt H1.out H2.out h2 ht), rfl⟩
  · have ht : max a 0 ≤ 9223372036854775807 / max b 0 := by assumption
    go_ret
    exact ⟨ret_int (quo_ge H1.out H2.out h1 h2 ht), rfl⟩
theorem rmul_any {w : World} (a b : Int) (ha : a ≤ 9223372036854775807) (hb : b ≤ 9223372036854775807) :
    Calls Try.prog 12 #[.int .i64 a, .int .i64 b] w fun e w' => e = .returned (.int .i64 (qmul a b)) ∧ w = w' := by
  by_cases h : max a 0 = 0 ∨ max b 0 = 0
  · exact rmul_zero a b ha hb h
  · exact rmul_some a b ha hb (by omega) (by omega)

theorem give_in {b g : Nat} {cs : List Cnt} {w : World} (k : Nat) (n : Int) (hk : k < cs.length) (ha : Acct w b g cs) (hu : cs[k].used ≤ 9223372036854775807) :
    Calls Try.prog 18 #[.pointer (some ⟨b, 0, none⟩), .int .i64 k, .int .i64 n] w fun e w' => e = .returned (.tuple #[]) ∧
      Acct w' b g (cs.set k { cs[k] with used := qsub cs[k].used n }) ∧ Fr (· = g) w w' := by
  obtain ⟨hne, h16, cap, rest, hc, hm, hB, hG⟩ := ha
  have c0 := hB.cell 0
  simp only [List.getElem?_cons_zero] at c0
  obtain ⟨f0, f1, f2⟩ := flat_at cs rest k hk
  have e1 := (hG.cell (k * 3 + 1)).trans f1
  have g1 := hG.free (k * 3 + 1)
  clear f0 f1 f2
  go_enter Try.func18, Try.ntmps18
  go_wp2_with (first | (go_at_call 31; refine (of_in k hk h16 c0).mono ?_; rintro e w' ⟨rfl, rfl⟩) | (go_at_call 9; refine (sub_any _ _ hu).mono ?_; rintro e w' ⟨rfl, rfl⟩))
  go_end0
  refine ⟨rfl, ⟨hne, by simpa using h16, cap, rest, by simpa using hc, hm, ?_, ?_⟩, (Fr.refl _ _).set _ _ _ rfl⟩
  · simpa using hB.other ⟨g, k * 3 + 1, none⟩ (.int .i64 (qsub cs[k].used n)) (fun e => hne e.symm)
  · rw [← flat_set1 cs rest _ k hk]; exact hG.set _ _
theorem give_out {b g : Nat} {cs : List Cnt} {w : World} (k n : Int) (hk : k < 0 ∨ cs.length ≤ k) (ha : Acct w b g cs) :
    Calls Try.prog 18 #[.pointer (some ⟨b, 0, none⟩), .int .i64 k, .int .i64 n] w fun e w' => e = .returned (.tuple #[]) ∧ w' = w := by
  obtain ⟨hne, h16, cap, rest, hc, hm, hB, hG⟩ := ha
  have c0 := hB.cell 0
  simp only [List.getElem?_cons_zero] at c0
  rcases hk with hk | hk
  · go_enter Try.func18, Try.ntmps18
    go_wp2_with (go_at_call 31; refine (of_low k hk).mono ?_; rintro e w' ⟨rfl, rfl⟩)
    go_end0
    exact ⟨rfl, rfl⟩
  · go_enter Try.func18, Try.ntmps18
    go_wp2_with (go_at_call 31; refine (of_high k hk c0).mono ?_; rintro e w' ⟨rfl, rfl⟩)
    go_end0
    exact ⟨rfl, rfl⟩
end Go.Proofs.Ythmllfejnmbfgaa
