/- The reference's worlds: Right, thing. -/
import Derived.Test.YtndjjnnljihmnaaGreatFmP
namespace Go.Proofs.YtndjjnnljihmnaaGreat
open Go.RowKit
set_option linter.unusedVariables false
set_option linter.unusedSimpArgs false
def rightW (s : Int) (m : Nat) : Bool := decide (s ≥ 1) && (decide (s ≤ 3) && (decide ((m : Int) > 0) && decide ((m : Int) ≤ 64)))
/-- A number's thing. -/
def thingI (s n : Int) : Int := if n.tmod s < 0 then wrap64 (n.tmod s + s) else n.tmod s
theorem thing_any (s n : Int) (A : Option Addr) (m c : Nat) (w : World) (hs : 1 ≤ s ∧ s ≤ 3) : Calls Tryz.prog 77 #[.agg #[.int .i64 s, .slice A m c], .int .i64 n] w fun e w' => e = .returned (.int .i64 (thingI s n)) ∧ Below w.heap.size w w' := by
  have HB := Lib.hid (Below.alloc (Below.refl _ w) (Nat.le_refl _) (.cells #[.int .i64 s, .slice A m c] 36))
  have BK := Lib.hid (Blk.new w 36 [.int .i64 s, .slice A m c])
  simp only [List.toArray] at BK
  go_enter Tryz.func77, Tryz.ntmps77
  go_upto_region 1 with (fail)
  generalize w.alloc (.cells #[.int .i64 s, .slice A m c] 36) = W at *
  have z0 := BK.out.cell 0
  simp only [List.getElem?_cons_zero] at z0
  have hs0 : s ≠ 0 := by omega
  go_wp2_with fail
  · rename_i hx
    go_ret
    exact ⟨ret_int (by unfold thingI; rw [if_pos (by simpa using hx)]), HB.out⟩
  · rename_i hx
    go_ret
    exact ⟨ret_int (by unfold thingI; rw [if_neg (by simpa using hx)]), HB.out⟩
theorem rightW_any (s : Int) (A : Option Addr) (m c : Nat) (w : World) : Calls Tryz.prog 12 #[.agg #[.int .i64 s, .slice A m c]] w fun e w' => e = .returned (.bool (rightW s m)) ∧ Below w.heap.size w w' := by
  have HB := Lib.hid (Below.alloc (Below.refl _ w) (Nat.le_refl _) (.cells #[.int .i64 s, .slice A m c] 36))
  have BK := Lib.hid (Blk.new w 36 [.int .i64 s, .slice A m c])
  simp only [List.toArray] at BK
  have HV : Hid (rightW s m = (decide (s ≥ 1) && (decide (s ≤ 3) && (decide ((m : Int) > 0) && decide ((m : Int) ≤ 64))))) := Lib.hid rfl
  generalize rightW s m = res at *
  cases q1 : decide (s ≥ 1)
  rotate_left
  cases q2 : decide (s ≤ 3)
  all_goals
    go_enter Tryz.func12, Tryz.ntmps12
    go_upto_region 1 with (fail)
    generalize w.alloc (.cells #[.int .i64 s, .slice A m c] 36) = W at *
    have z0 := BK.out.cell 0
    have z1 := BK.out.cell 1
    simp only [List.getElem?_cons_zero, List.getElem?_cons_succ] at z0 z1
    go_wp2_with fail
    all_goals go_ret
    all_goals exact ⟨ret_bool (by rw [HV.out]; first | (simp only [q1, q2, Bool.true_and, Bool.false_and]; done) | (simp only [q1, Bool.true_and, Bool.false_and]; done) | (rename_i hx; simp [q1, q2, hx]; done) | (rename_i hx; simp only [q1, q2, Bool.true_and]; simp [hx]; done)), HB.out⟩
end Go.Proofs.YtndjjnnljihmnaaGreat
