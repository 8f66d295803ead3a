/- The small functions of nnf and of its reference. -/
import Derived.Test.YtndjjnnljihmnaaGreatFmF
namespace Go.Proofs.YtndjjnnljihmnaaGreat
open Go.RowKit
set_option linter.unusedVariables false
set_option linter.unusedSimpArgs false
/-- What a formula would be: its kind, size, depth. -/
structure Fo where
  k : Int
  s : Int
  d : Int
def constI (k : Int) : Bool := k == 9 || k == 10
def takenI (kind a b : Int) : Int :=
  if kind == 4 then (if a == 9 || b == 9 then 3 else if a == 10 then 2 else if b == 10 then 1 else 0)
  else (if a == 10 || b == 10 then 3 else if a == 9 then 2 else if b == 9 then 1 else 0)
def zeroI (kind : Int) : Int := if kind == 4 then 9 else 10
def dualI (k : Int) : Int := if k == 3 then 4 else if k == 4 then 3 else if k == 7 then 8 else if k == 8 then 7 else if k == 9 then 10 else 9
def Fo.under (a : Fo) (kind : Int) : Fo := if constI a.k then a else ⟨kind, min (a.s + 1) 1073741824, a.d + 1⟩
def Fo.with (a : Fo) (kind : Int) (b : Fo) : Fo :=
  if takenI kind a.k b.k = 1 then a else if takenI kind a.k b.k = 2 then b else if takenI kind a.k b.k = 3 then ⟨zeroI kind, 1, 1⟩ else ⟨kind, min (a.s + b.s + 1) 1073741824, max a.d b.d + 1⟩
theorem taken_cases (kind a b : Int) : takenI kind a b = 0 ∨ takenI kind a b = 1 ∨ takenI kind a b = 2 ∨ takenI kind a b = 3 := by
  unfold takenI; repeat' split
  all_goals simp
/-- The reference's: c (1: true, 2: false, 0: another one), size, depth. -/
def Fo.runder (a : Fo) : Fo := if decide (a.k > 0) then a else ⟨0, min (a.s + 1) 1000000, a.d + 1⟩
def Fo.rjoin (a b : Fo) (x : Bool) : Fo :=
  if x then (if a.k == 2 || b.k == 2 then ⟨2, 1, 1⟩ else if a.k == 1 then b else if b.k == 1 then a else ⟨0, min (a.s + b.s + 1) 1000000, max a.d b.d + 1⟩)
  else (if a.k == 1 || b.k == 1 then ⟨1, 1, 1⟩ else if a.k == 2 then b else if b.k == 2 then a else ⟨0, min (a.s + b.s + 1) 1000000, max a.d b.d + 1⟩)
theorem rjoin_true (a b : Fo) : Fo.rjoin a b true = if a.k == 2 || b.k == 2 then ⟨2, 1, 1⟩ else if a.k == 1 then b else if b.k == 1 then a else ⟨0, min (a.s + b.s + 1) 1000000, max a.d b.d + 1⟩ := rfl
theorem rjoin_false (a b : Fo) : Fo.rjoin a b false = if a.k == 1 || b.k == 1 then ⟨1, 1, 1⟩ else if a.k == 2 then b else if b.k == 2 then a else ⟨0, min (a.s + b.s + 1) 1000000, max a.d b.d + 1⟩ := rfl
theorem const_any (k : Int) (w : World) : Calls Tryz.prog 40 #[.int .i64 k] w fun e w' => e = .returned (.bool (constI k)) ∧ w = w' := by
  cases q1 : (k == 9) <;> cases q2 : (k == 10)
  all_goals
    have HR : Hid (constI k = _) := Lib.hid (by unfold constI; rw [q1, q2])
    go_enter Tryz.func40, Tryz.ntmps40
    go_wp2_with fail
    go_ret
    exact ⟨ret_bool (by rw [HR.out]; try rfl), rfl⟩
theorem taken_any (kind a b : Int) (w : World) : Calls Tryz.prog 65 #[.int .i64 kind, .int .i64 a, .int .i64 b] w fun e w' => e = .returned (.int .i64 (takenI kind a b)) ∧ w = w' := by
  cases q0 : (kind == 4) <;> cases q1 : (a == 9) <;> cases q2 : (b == 9) <;> cases q3 : (a == 10) <;> cases q4 : (b == 10)
  all_goals
    have HR : Hid (takenI kind a b = _) := Lib.hid (by unfold takenI; rw [q0, q1, q2, q3, q4])
    simp only [Bool.or_true, Bool.or_false, Bool.true_or, Bool.false_or, Bool.false_eq_true, if_true, if_false] at HR
    go_enter Tryz.func65, Tryz.ntmps65
    go_wp2_with fail
    go_ret
    exact ⟨ret_int (by rw [HR.out]), rfl⟩
theorem zero_any (k : Int) (w : World) : Calls Tryz.prog 66 #[.int .i64 k] w fun e w' => e = .returned (.int .i64 (zeroI k)) ∧ w = w' := by
  cases q1 : (k == 4)
  all_goals
    have HR : Hid (zeroI k = _) := Lib.hid (by unfold zeroI; rw [q1])
    simp only [Bool.false_eq_true, if_true, if_false] at HR
    go_enter Tryz.func66, Tryz.ntmps66
    go_wp2_with fail
    go_ret
    exact ⟨ret_int (by rw [HR.out]), rfl⟩
theorem dual_any (k : Int) (w : World) : Calls Tryz.prog 41 #[.int .i64 k] w fun e w' => e = .returned (.int .i64 (dualI k)) ∧ w = w' := by
  cases q3 : (k == 3)
  rotate_left
  · have HR : Hid (dualI k = _) := Lib.hid (by unfold dualI; rw [q3])
    simp only [Bool.false_eq_true, if_true, if_false] at HR
    go_enter Tryz.func41, Tryz.ntmps41
    go_wp2_with fail
    go_ret
    exact ⟨ret_int (by rw [HR.out]), rfl⟩
  cases q4 : (k == 4)
  rotate_left
  · have HR : Hid (dualI k = _) := Lib.hid (by unfold dualI; rw [q3, q4])
    simp only [Bool.false_eq_true, if_true, if_false] at HR
    go_enter Tryz.func41, Tryz.ntmps41
    go_wp2_with fail
    go_ret
    exact ⟨ret_int (by rw [HR.out]), rfl⟩
  cases q7 : (k == 7)
  rotate_left
  · have HR : Hid (dualI k = _) := Lib.hid (by unfold dualI; rw [q3, q4, q7])
    simp only [Bool.false_eq_true, if_true, if_false] at HR
    go_enter Tryz.func41, Tryz.ntmps41
    go_wp2_with fail
    go_ret
    exact ⟨ret_int (by rw [HR.out]), rfl⟩
  cases q8 : (k == 8)
  rotate_left
  · have HR : Hid (dualI k = _) := Lib.hid (by unfold dualI; rw [q3, q4, q7, q8])
    simp only [Bool.false_eq_true, if_true, if_false] at HR
    go_enter Tryz.func41, Tryz.ntmps41
    go_wp2_with fail
    go_ret
    exact ⟨ret_int (by rw [HR.out]), rfl⟩
  cases q9 : (k == 9)
  rotate_left
  · have HR : Hid (dualI k = _) := Lib.hid (by unfold dualI; rw [q3, q4, q7, q8, q9])
    simp only [Bool.false_eq_true, if_true, if_false] at HR
    go_enter Tryz.func41, Tryz.ntmps41
    go_wp2_with fail
    go_ret
    exact ⟨ret_int (by rw [HR.out]), rfl⟩
  have HR : Hid (dualI k = _) := Lib.hid (by unfold dualI; rw [q3, q4, q7, q8, q9])
  simp only [Bool.false_eq_true, if_true, if_false] at HR
  go_enter Tryz.func41, Tryz.ntmps41
  go_wp2_with fail
  go_ret
  exact ⟨ret_int (by rw [HR.out]), rfl⟩
theorem other_any (a b c d e f : Int) (w : World) : Calls Tryz.prog 35 #[.agg #[.int .i64 a, .int .i64 b, .int .i64 c, .int .i64 d, .int .i64 e, .int .i64 f]] w fun en w' => en = .returned (.agg #[.int .i64 d, .int .i64 e, .int .i64 f, .int .i64 a, .int .i64 b, .int .i64 c]) ∧ Below w.heap.size w w' := by
  go_enter Tryz.func35, Tryz.ntmps35
  go_wp2_with fail
  refine bodyPost_ret (v := .agg #[.int .i64 d, .int .i64 e, .int .i64 f, .int .i64 a, .int .i64 b, .int .i64 c]) (by simp [results, Tryz.results35, go_sem]) rfl ⟨?_, by (repeat' (first | (with_reducible assumption) | (with_reducible exact Below.refl _ _) | (with_reducible refine Below.setCell ?_ ?_ _) | (with_reducible refine Below.alloc ?_ ?_ _) | (with_reducible apply Below.drew) | omega | (simp; done) | (simp; omega)))⟩
  rfl
theorem under_any (ak as' ad kind : Int) (w : World) (hs : 0 ≤ as' ∧ as' ≤ 1152921504606846976) (hd : 0 ≤ ad ∧ ad ≤ 1152921504606846976) : Calls Tryz.prog 38 #[.agg #[.int .i64 ak, .int .i64 as', .int .i64 ad], .int .i64 kind] w fun e w' => e = .returned (.agg #[.int .i64 (Fo.under ⟨ak, as', ad⟩ kind).k, .int .i64 (Fo.under ⟨ak, as', ad⟩ kind).s, .int .i64 (Fo.under ⟨ak, as', ad⟩ kind).d]) ∧ Below w.heap.size w w' := by
  have HC := Lib.hid (fun w' => const_any ak w')
  cases q : constI ak
  all_goals rw [q] at HC
  · have HR := Lib.hid (show Fo.under ⟨ak, as', ad⟩ kind = ⟨kind, min (as' + 1) 1073741824, ad + 1⟩ by unfold Fo.under; simp only [q]; rfl)
    have e1 : IntKind.i64.wrap (as' + 1) = as' + 1 := IntWalk.i64_in _ (by omega)
    have e2 : IntKind.i64.wrap (ad + 1) = ad + 1 := IntWalk.i64_in _ (by omega)
    go_enter Tryz.func38, Tryz.ntmps38
    go_wp2_with fail
    refine (HC.out _).mono ?_
    rintro e w2 ⟨rfl, rfl⟩
    go_wp2_with fail
    refine bodyPost_ret (v := .agg #[.int .i64 kind, .int .i64 (min (as' + 1) 1073741824), .int .i64 (ad + 1)]) (by simp [results, Tryz.results38, go_sem]) rfl ⟨?_, by (repeat' (first | (with_reducible assumption) | (with_reducible exact Below.refl _ _) | (with_reducible refine Below.setCell ?_ ?_ _) | (with_reducible refine Below.alloc ?_ ?_ _) | (with_reducible apply Below.drew) | omega | (simp; done) | (simp; omega)))⟩
    rw [HR.out]
  · have HR := Lib.hid (show Fo.under ⟨ak, as', ad⟩ kind = ⟨ak, as', ad⟩ by unfold Fo.under; simp only [q]; rfl)
    go_enter Tryz.func38, Tryz.ntmps38
    go_wp2_with fail
    refine (HC.out _).mono ?_
    rintro e w2 ⟨rfl, rfl⟩
    go_wp2_with fail
    refine bodyPost_ret (v := .agg #[.int .i64 ak, .int .i64 as', .int .i64 ad]) (by simp [results, Tryz.results38, go_sem]) rfl ⟨?_, by (repeat' (first | (with_reducible assumption) | (with_reducible exact Below.refl _ _) | (with_reducible refine Below.setCell ?_ ?_ _) | (with_reducible refine Below.alloc ?_ ?_ _) | (with_reducible apply Below.drew) | omega | (simp; done) | (simp; omega)))⟩
    rw [HR.out]
theorem with_any (ak as' ad kind bk bs' bd : Int) (w : World) (hs : 0 ≤ as' ∧ as' ≤ 1152921504606846976) (hd : 0 ≤ ad ∧ ad ≤ 1152921504606846976) (hs' : 0 ≤ bs' ∧ bs' ≤ 1152921504606846976) (hd' : 0 ≤ bd ∧ bd ≤ 1152921504606846976) : Calls Tryz.prog 39 #[.agg #[.int .i64 ak, .int .i64 as', .int .i64 ad], .int .i64 kind, .agg #[.int .i64 bk, .int .i64 bs', .int .i64 bd]] w fun e w' => e = .returned (.agg #[.int .i64 (Fo.with ⟨ak, as', ad⟩ kind ⟨bk, bs', bd⟩).k, .int .i64 (Fo.with ⟨ak, as', ad⟩ kind ⟨bk, bs', bd⟩).s, .int .i64 (Fo.with ⟨ak, as', ad⟩ kind ⟨bk, bs', bd⟩).d]) ∧ Below w.heap.size w w' := by
  have HC := Lib.hid (fun w' => taken_any kind ak bk w')
  have HZ := Lib.hid (fun w' => zero_any kind w')
  have hv : Fo.with ⟨ak, as', ad⟩ kind ⟨bk, bs', bd⟩ = if takenI kind ak bk = 1 then ⟨ak, as', ad⟩ else if takenI kind ak bk = 2 then ⟨bk, bs', bd⟩ else if takenI kind ak bk = 3 then ⟨zeroI kind, 1, 1⟩ else ⟨kind, min (as' + bs' + 1) 1073741824, max ad bd + 1⟩ := rfl
  have ht := taken_cases kind ak bk
  generalize takenI kind ak bk = t at *
  generalize zeroI kind = z at *
  rcases ht with rfl | rfl | rfl | rfl
  · have HR := Lib.hid hv
    clear hv
    have e1 : IntKind.i64.wrap (as' + bs') = as' + bs' := IntWalk.i64_in _ (by omega)
    have e2 : IntKind.i64.wrap (as' + bs' + 1) = as' + bs' + 1 := IntWalk.i64_in _ (by omega)
    have e5 : IntKind.i64.wrap (max ad bd + 1) = max ad bd + 1 := IntWalk.i64_in _ (by omega)
    go_enter Tryz.func39, Tryz.ntmps39
    go_wp2_with fail
    refine (HC.out _).mono ?_
    rintro e w2 ⟨rfl, rfl⟩
    go_wp2_with fail
    refine bodyPost_ret (v := .agg #[.int .i64 kind, .int .i64 (min (as' + bs' + 1) 1073741824), .int .i64 (max ad bd + 1)]) (by simp [results, Tryz.results39, go_sem]) rfl ⟨?_, by (repeat' (first | (with_reducible assumption) | (with_reducible exact Below.refl _ _) | (with_reducible refine Below.setCell ?_ ?_ _) | (with_reducible refine Below.alloc ?_ ?_ _) | (with_reducible apply Below.drew) | omega | (simp; done) | (simp; omega)))⟩
    rw [HR.out]; rfl
  · have HR := Lib.hid hv
    clear hv
    go_enter Tryz.func39, Tryz.ntmps39
    go_wp2_with fail
    refine (HC.out _).mono ?_
    rintro e w2 ⟨rfl, rfl⟩
    go_wp2_with fail
    refine bodyPost_ret (v := .agg #[.int .i64 ak, .int .i64 as', .int .i64 ad]) (by simp [results, Tryz.results39, go_sem]) rfl ⟨?_, by (repeat' (first | (with_reducible assumption) | (with_reducible exact Below.refl _ _) | (with_reducible refine Below.setCell ?_ ?_ _) | (with_reducible refine Below.alloc ?_ ?_ _) | (with_reducible apply Below.drew) | omega | (simp; done) | (simp; omega)))⟩
    rw [HR.out]; rfl
  · have HR := Lib.hid hv
    clear hv
    go_enter Tryz.func39, Tryz.ntmps39
    go_wp2_with fail
    refine (HC.out _).mono ?_
    rintro e w2 ⟨rfl, rfl⟩
    go_wp2_with fail
    refine bodyPost_ret (v := .agg #[.int .i64 bk, .int .i64 bs', .int .i64 bd]) (by simp [results, Tryz.results39, go_sem]) rfl ⟨?_, by (repeat' (first | (with_reducible assumption) | (with_reducible exact Below.refl _ _) | (with_reducible refine Below.setCell ?_ ?_ _) | (with_reducible refine Below.alloc ?_ ?_ _) | (with_reducible apply Below.drew) | omega | (simp; done) | (simp; omega)))⟩
    rw [HR.out]; rfl
  · have HR := Lib.hid hv
    clear hv
    go_enter Tryz.func39, Tryz.ntmps39
    go_wp2_with fail
    refine (HC.out _).mono ?_
    rintro e w2 ⟨rfl, rfl⟩
    go_wp2_with fail
    refine (HZ.out _).mono ?_
    rintro e w3 ⟨rfl, rfl⟩
    go_wp2_with fail
    refine bodyPost_ret (v := .agg #[.int .i64 z, .int .i64 1, .int .i64 1]) (by simp [results, Tryz.results39, go_sem]) rfl ⟨?_, by (repeat' (first | (with_reducible assumption) | (with_reducible exact Below.refl _ _) | (with_reducible refine Below.setCell ?_ ?_ _) | (with_reducible refine Below.alloc ?_ ?_ _) | (with_reducible apply Below.drew) | omega | (simp; done) | (simp; omega)))⟩
    rw [HR.out]; rfl
end Go.Proofs.YtndjjnnljihmnaaGreat
