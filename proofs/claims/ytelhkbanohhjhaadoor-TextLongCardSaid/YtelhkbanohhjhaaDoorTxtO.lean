/- Plain: a line made of one byte; the walk of TextLong. -/
import Derived.Test.YtelhkbanohhjhaaDoorTxtM
namespace Go.Proofs.YtelhkbanohhjhaaDoor.Tx
open Go.RowKit Go.Shelf Go.Proofs.YtelhkbanohhjhaaDoor.PFeed Go.Proofs.YtelhkbanohhjhaaDoorW.PrintWords
set_option linter.unusedVariables false
set_option linter.unusedSimpArgs false
abbrev rep (n : Nat) (c : Int) : List Int := List.replicate n c
theorem rep_len (n : Nat) (c : Int) : (rep n c).length = n := by simp
theorem rep_get (n : Nat) (c : Int) (i : Nat) (h : i < n) : (rep n c).getD i 0 = c := by
  rw [List.getD_eq_getElem?_getD, List.getElem?_replicate, if_pos h]; rfl
theorem rep_low (n : Nat) (c : Int) (hc : c < 128) : ∀ d i, validF d (rep n c) i = true
  | 0, i => rfl
  | d + 1, i => by
    rw [validF]
    by_cases hi : i < n
    · have hch : charN (rep n c) i = 1 := by
        unfold charN; rw [rep_get n c i hi]; rw [if_pos (by omega)]
      rw [if_pos (by rw [rep_len]; exact hi), hch, if_neg (by decide)]
      exact rep_low n c hc d (i + 1)
    · rw [if_neg (by rw [rep_len]; exact hi)]
theorem rep_high (n : Nat) (c : Int) (h0 : 127 < c) (hn : 0 < n) : validB (rep n c) = false := by
  have hin : ∀ lo hi, hi ≤ 191 → 194 ≤ c → inB (rep n c) (0 + 1) lo hi = false := by
    intro lo hi hh h194
    cases h : inB (rep n c) (0 + 1) lo hi
    · rfl
    · exfalso
      obtain ⟨a, b, d⟩ := (inB_iff _ _ _ _).1 h
      rw [rep_len] at a
      rw [rep_get n c _ a] at d
      omega
  have hch : charN (rep n c) 0 = 0 := by
    unfold charN
    rw [rep_get n c 0 hn, if_neg (by omega)]
    by_cases h194 : 194 ≤ c
    · rw [hin 128 191 (by omega) h194, hin _ _ (by split <;> omega) h194, hin _ _ (by split <;> omega) h194]
      simp
    · rw [if_neg (by omega), if_neg (by omega), if_neg (by omega)]
  unfold validB
  rw [rep_len]
  obtain ⟨n, rfl⟩ : ∃ q, n = q + 1 := ⟨n - 1, by omega⟩
  rw [validF, hch]
  simp
theorem spl_rep (n m : Nat) (c : Int) (hc : c ≠ 10) : spl (rep m c) (rep n c ++ [10]) = ([rep (m + n) c], []) := by
  rw [spl_app, spl_no _ _ (fun x hx => by rw [List.eq_of_mem_replicate hx]; exact hc)]
  simp [spl, rep, List.replicate_append_replicate]
theorem long_walk0 (n : Int) (c : Int) (cut : Int) (w : World) (m : Int) (h : n < 0 ∨ 70000 < n ∨ c = 10) (hm : w.cell? ⟨0, 0, none⟩ = some (.int .i64 m)) :
    Calls Tryd.prog 5 #[.int .i64 n, .int .u8 c, .int .i64 cut] w fun e w' => e = .returned (.bool true) ∧ Below w.heap.size w w' := by
  have HM := Lib.hid hm
  clear hm
  by_cases h1 : n < 0
  · have e1 : decide (n < 0) = true := by simpa using h1
    clear h1 h
    go_enter Tryd.func5, Tryd.ntmps5
    go_wp2_with fail
    refine (alive_any w m HM.out).mono ?_
    rintro e w6 ⟨rfl, hb6⟩
    go_wp2_with fail
    go_ret
    exact ⟨rfl, hb6⟩
  · have e1 : decide (n < 0) = false := by simpa using h1
    by_cases h2 : 70000 < n
    · have e2 : decide (70000 < n) = true := by simpa using h2
      clear h1 h2 h
      go_enter Tryd.func5, Tryd.ntmps5
      go_wp2_with fail
      refine (alive_any w m HM.out).mono ?_
      rintro e w6 ⟨rfl, hb6⟩
      go_wp2_with fail
      go_ret
      exact ⟨rfl, hb6⟩
    · have e2 : decide (70000 < n) = false := by simpa using h2
      obtain rfl : c = 10 := by omega
      clear h1 h2 h
      go_enter Tryd.func5, Tryd.ntmps5
      go_wp2_with fail
      refine (alive_any w m HM.out).mono ?_
      rintro e w6 ⟨rfl, hb6⟩
      go_wp2_with fail
      go_ret
      exact ⟨rfl, hb6⟩
end Go.Proofs.YtelhkbanohhjhaaDoor.Tx
