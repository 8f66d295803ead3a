/- The statements' common part 'alive' holds, and the walks of the laws on numbers. -/
import Derived.Test.YthmllfejnmbfgaaD
namespace Go.Proofs.Ythmllfejnmbfgaa
open Go.RowKit
set_option linter.unusedVariables false
set_option linter.unusedSimpArgs false

theorem alive_any (w : World) : Calls Try.prog 13 #[] w fun e w' => e = .returned (.bool true) ∧ Below w.heap.size w w' := by
  go_enter Try.func13, Try.ntmps13
  go_wp2_with fail
  refine (new_ok (w := _) w.heap.size 0 1 1 [2] (by omega) (by omega) (by simp) ?_ (by simp) (by decide)).mono ?_
  · intro j hj
    obtain rfl : j = 0 := by simpa using hj
    go_simp
  rintro e w1 ⟨rfl, g, hg, ha, hb⟩
  have hsz : (w.alloc (Obj.cells #[Value.int IntKind.i64 2] 3)).heap.size = w.heap.size + 1 := by simp
  rw [hsz] at hg ha hb ⊢
  obtain ⟨B, hB⟩ : ∃ B, B = w.heap.size := ⟨_, rfl⟩
  rw [← hB] at hg ha hb ⊢
  have HB := Lib.hid hB
  clear hB hsz
  have hb0 : Below B w w1 := by
    refine ((Below.refl B w).alloc (by have := HB.out; omega) _).trans (hb.mono (by omega))
  go_wp2_with fail
  refine (take_ok (b := B + 1) (g := g) (cs := cnts (List.take 1 [2])) 0 2 (by decide) ha (by omega) (by decide) (by decide)).mono ?_
  rintro e w2 ⟨rfl, ha2, hf2⟩
  have hb2 := hb0.trans (hf2.below (B := B) (by have := hb0.size; have := HB.out; omega) (fun i hi => by omega))
  clear ha hf2 hb0
  go_wp2_with fail
  refine (take_full (b := B + 1) (g := g) (cs := (cnts (List.take 1 [2])).set 0 _) 0 1 (by decide) ha2 (by omega) (by decide) (by decide)).mono ?_
  rintro e w3 ⟨rfl, m, rfl⟩
  go_wp2_with fail
  refine (add_any _ _ (by omega) (by omega)).mono ?_
  rintro e w4 ⟨rfl, rfl⟩
  rw [show qadd 9223372036854775807 5 = 9223372036854775807 by decide]
  go_wp2_with fail
  refine (sub_any _ _ (by omega)).mono ?_
  rintro e w5 ⟨rfl, rfl⟩
  rw [show qsub 3 5 = 0 by decide]
  go_wp2_with fail
  refine (mul_any _ _ (by omega) (by omega)).mono ?_
  rintro e w6 ⟨rfl, rfl⟩
  rw [show qmul 3 5 = 15 by decide]
  go_wp2_with fail
  go_ret
  rw [← HB.out]
  exact ⟨rfl, hb2.os, hb2.tape, hb2.output, hb2.size, hb2.block⟩

theorem numbers_walk (a b : Int) (w : World) (ha : a ≤ 9223372036854775807) (hb : b ≤ 9223372036854775807) :
    Calls Try.prog 3 #[.int .i64 a, .int .i64 b] w fun e w' => e = .returned (.bool true) ∧ Below w.heap.size w w' := by
  go_enter Try.func3, Try.ntmps3
  go_wp2_with (first
    | (go_at_call 7; refine (add_any _ _ ha hb).mono ?_; rintro e w' ⟨rfl, rfl⟩)
    | (go_at_call 8; refine (radd_any _ _ ha hb).mono ?_; rintro e w' ⟨rfl, rfl⟩)
    | (go_at_call 9; refine (sub_any _ _ ha).mono ?_; rintro e w' ⟨rfl, rfl⟩)
    | (go_at_call 10; refine (rsub_any _ _ ha hb).mono ?_; rintro e w' ⟨rfl, rfl⟩)
    | (go_at_call 11; refine (mul_any _ _ ha hb).mono ?_; rintro e w' ⟨rfl, rfl⟩)
    | (go_at_call 12; refine (rmul_any _ _ ha hb).mono ?_; rintro e w' ⟨rfl, rfl⟩)
    | (go_at_call 13; refine (alive_any _).mono ?_; rintro e w' ⟨rfl, hbel⟩))
  go_ret
  exact ⟨rfl, hbel⟩

theorem laws_walk (a b c : Int) (w : World) (ha : a ≤ 9223372036854775807) (hb : b ≤ 9223372036854775807) (hc : c ≤ 9223372036854775807) :
    Calls Try.prog 4 #[.int .i64 a, .int .i64 b, .int .i64 c] w fun e w' => e = .returned (.bool true) ∧ Below w.heap.size w w' := by
  have q1 : (qadd a b == qadd b a) = true := by rw [beq_iff_eq]; unfold qadd; omega
  have q2 : (qmul a b == qmul b a) = true := by rw [beq_iff_eq]; unfold qmul; rw [Int.mul_comm]
  have q3 : (qadd (qadd a b) c == qadd a (qadd b c)) = true := by rw [beq_iff_eq]; unfold qadd; omega
  have q4 : qadd a 0 ≤ qadd a b := by unfold qadd; omega
  have q5 : qsub a b ≤ qadd a 0 := by unfold qadd qsub; omega
  have q6 : 0 ≤ qsub a b := by unfold qsub; omega
  have b1 : ∀ x y, qadd x y ≤ 9223372036854775807 := fun x y => by unfold qadd; omega
  have B1 := Lib.hid b1
  clear b1
  go_enter Try.func4, Try.ntmps4
  go_wp2_with (first
    | (go_at_call 7; refine (add_any _ _ (by first | exact B1.out _ _ | assumption | omega) (by first | exact B1.out _ _ | assumption | omega)).mono ?_; rintro e w' ⟨rfl, rfl⟩)
    | (go_at_call 9; refine (sub_any _ _ ha).mono ?_; rintro e w' ⟨rfl, rfl⟩)
    | (go_at_call 11; refine (mul_any _ _ (by assumption) (by assumption)).mono ?_; rintro e w' ⟨rfl, rfl⟩)
    | (go_at_call 13; refine (alive_any _).mono ?_; rintro e w' ⟨rfl, hbel⟩))
  go_ret
  exact ⟨rfl, hbel⟩
end Go.Proofs.Ythmllfejnmbfgaa
