/- Contracts of the reference's functions on names. -/
import Derived.Test.YtmdelgaeikicpaaDoorLexK
namespace Go.Proofs.YtmdelgaeikicpaaDoor.Lx
open Go.RowKit
set_option linter.unusedVariables false
set_option linter.unusedSimpArgs false

theorem rlower_any (c : UInt8) (w : World) :
    Calls Tryd.prog 28 #[.int .u8 c.toNat] w fun e w' => e = .returned (.bool (lowB c)) ∧ w = w' := by
  have e1 : lowB c = (decide (97 ≤ (c.toNat : Int)) && decide ((c.toNat : Int) ≤ 122)) := by
    rw [Bool.eq_iff_iff]; simp only [lowB, Bool.and_eq_true, decide_eq_true_eq]; omega
  rw [e1]
  by_cases h : 97 ≤ (c.toNat : Int)
  all_goals
    go_enter Tryd.func28, Tryd.ntmps28
    go_wp2
    go_ret
    exact ⟨ret_bool (by rw [Bool.eq_iff_iff]; simp; omega), rfl⟩
theorem rupper_any (c : UInt8) (w : World) :
    Calls Tryd.prog 24 #[.int .u8 c.toNat] w fun e w' => e = .returned (.bool (upB c)) ∧ w = w' := by
  have e1 : upB c = (decide (65 ≤ (c.toNat : Int)) && decide ((c.toNat : Int) ≤ 90)) := by
    rw [Bool.eq_iff_iff]; simp only [upB, Bool.and_eq_true, decide_eq_true_eq]; omega
  rw [e1]
  by_cases h : 65 ≤ (c.toNat : Int)
  all_goals
    go_enter Tryd.func24, Tryd.ntmps24
    go_wp2
    go_ret
    exact ⟨ret_bool (by rw [Bool.eq_iff_iff]; simp; omega), rfl⟩

theorem rinner_any (c : UInt8) (w : World) :
    Calls Tryd.prog 39 #[.int .u8 c.toNat] w fun e w' => e = .returned (.bool (wordB c)) ∧ w = w' := by
  have e1 : wordB c = (lowB c || upB c || (decide (48 ≤ (c.toNat : Int)) && decide ((c.toNat : Int) ≤ 57)) || ((c.toNat : Int) == 95)) := by
    have a1 : decide (48 ≤ c.toNat) = decide (48 ≤ (c.toNat : Int)) := decide_eq_decide.2 (by omega)
    have a2 : decide (c.toNat ≤ 57) = decide ((c.toNat : Int) ≤ 57) := decide_eq_decide.2 (by omega)
    have a3 : decide (c.toNat = 95) = ((c.toNat : Int) == 95) := by rw [Bool.eq_iff_iff]; simp; omega
    unfold wordB; rw [a1, a2, a3]
  rw [e1]
  cases h1 : lowB c <;> cases h2 : upB c <;> by_cases h3 : 48 ≤ (c.toNat : Int) <;> by_cases h4 : (c.toNat : Int) ≤ 57 <;> cases h5 : ((c.toNat : Int) == 95)
  all_goals
    have H1 := Lib.hid h1
    have H2 := Lib.hid h2
    clear h1 h2 e1
    go_enter Tryd.func39, Tryd.ntmps39
    go_wp2_with (first | (go_at_call 28; refine (rlower_any _ _).mono ?_; rw [H1.out]; rintro e w' ⟨rfl, rfl⟩) | (go_at_call 24; refine (rupper_any _ _).mono ?_; rw [H2.out]; rintro e w' ⟨rfl, rfl⟩))
    all_goals (go_ret; exact ⟨ret_bool (by first | rfl | (simp; omega) | (simp [*])), rfl⟩)


theorem run_any (s : ByteArray) (i : Nat) (w : World) (hs : s.size ≤ 9223372036854775807) (hi : i ≤ s.size) :
    Calls Tryd.prog 29 #[.string s, .int .i64 i] w fun e w' => e = .returned (.int .i64 ((i : Int) + span ((bs s).drop i))) ∧ w = w' := by
  go_enter Tryd.func29, Tryd.ntmps29
  go_wp2
  go_loop [1] (fun v => ∃ k : Nat, i ≤ k ∧ k ≤ s.size ∧ v = .int .i64 k ∧ i + span ((bs s).drop i) = k + span ((bs s).drop k)) (fun v => s.size - (intOf v).toNat)
  case atStart => exact ⟨i, Nat.le_refl _, hi, rfl, rfl⟩
  case round =>
    obtain ⟨k, hik, hk, rfl, hsp⟩ := hrel
    have HSP := Lib.hid hsp
    clear hsp
    by_cases hlt : k < s.size
    · have hd := span_drop (bs s) k (by rw [bs_len]; exact hlt)
      rw [bs_at s k hlt] at hd
      cases h1 : wordB s[k]
      · have HD := Lib.hid (show (i : Int) + (span ((bs s).drop i) : Nat) = k by have := HSP.out; rw [hd, h1] at this; simp at this; omega)
        have H1 := Lib.hid h1
        clear hd h1
        go_wp2_with (go_at_call 39; refine (rinner_any _ _).mono ?_; rw [H1.out]; rintro e w' ⟨rfl, rfl⟩)
        go_ret
        exact ⟨ret_int (by rw [HD.out]), rfl⟩
      · have HD := Lib.hid (show i + span ((bs s).drop i) = (k + 1) + span ((bs s).drop (k + 1)) by rw [HSP.out, hd, h1]; simp; omega)
        have H1 := Lib.hid h1
        clear hd h1
        go_wp2_with (go_at_call 39; refine (rinner_any _ _).mono ?_; rw [H1.out]; rintro e w' ⟨rfl, rfl⟩)
        go_round
        case rel => exact ⟨k + 1, by omega, by omega, by go_num, HD.out⟩
        case measure => simp [intOf]; omega
    · have HD := Lib.hid (show (i : Int) + (span ((bs s).drop i) : Nat) = k by
        have := HSP.out; rw [List.drop_eq_nil_of_le (show (bs s).length ≤ k by rw [bs_len]; omega)] at this; simp [span] at this; omega)
      go_wp2
      go_ret
      exact ⟨ret_int (by rw [HD.out]), rfl⟩
theorem run0 (s : ByteArray) (w : World) (hs : s.size ≤ 9223372036854775807) :
    Calls Tryd.prog 29 #[.string s, .int .i64 0] w fun e w' => e = .returned (.int .i64 (span (bs s))) ∧ w = w' := by
  have h := run_any s 0 w hs (Nat.zero_le _)
  rw [List.drop_zero] at h
  simpa using h

theorem rplain_any (s : ByteArray) (w : World) (hs : s.size ≤ 9223372036854775807) :
    Calls Tryd.prog 15 #[.string s] w fun e w' => e = .returned (.bool (plainB (bs s))) ∧ w = w' := by
  rcases Nat.eq_zero_or_pos s.size with h | h
  · obtain rfl := empty_of s h
    go_enter Tryd.func15, Tryd.ntmps15
    go_wp2
    go_ret
    exact ⟨rfl, rfl⟩
  · have hsp : plainB (bs s) = (lowB s[0] && ((span (bs s) : Int) == (s.size : Int))) := by
      have hb := bs_len s
      have h1 : (span (bs s) == (bs s).length) = ((span (bs s) : Int) == (s.size : Int)) := by rw [Bool.eq_iff_iff]; simp only [beq_iff_eq]; omega
      rw [← h1]; try rw [← hb]
      cases hl : bs s with
      | nil => rw [hl] at hb; simp at hb; omega
      | cons c r =>
        have h2 : s[0] = c := by have := bs_at s 0 h; simp only [hl, List.getElem_cons_zero] at this; exact this.symm
        rw [h2]; simp [plainB, Bool.and_assoc]
    rw [hsp]
    have hne : s.toList.isEmpty = false := not_empty s h
    have HSP := Lib.hid (fun w => run0 s w hs)
    clear hsp
    cases h1 : lowB s[0] <;> cases h2 : ((span (bs s) : Int) == (s.size : Int)) <;> by_cases h3 : s.size < 64
    all_goals
      have H1 := Lib.hid h1
      have H2 := Lib.hid h2
      clear h1
      go_enter Tryd.func15, Tryd.ntmps15
      go_wp2_with (first | (go_at_call 28; refine (rlower_any _ _).mono ?_; rw [H1.out]; rintro e w' ⟨rfl, rfl⟩) | (go_at_call 29; refine (HSP.out _).mono ?_; rintro e w' ⟨rfl, rfl⟩))
      all_goals (go_ret; exact ⟨ret_bool (by first | rfl | (simp; omega) | (simp [*])), rfl⟩)

theorem risVar_any (s : ByteArray) (w : World) (hs : s.size ≤ 9223372036854775807) :
    Calls Tryd.prog 17 #[.string s] w fun e w' => e = .returned (.bool (isVarB (bs s))) ∧ w = w' := by
  rcases Nat.eq_zero_or_pos s.size with h | h
  · obtain rfl := empty_of s h
    go_enter Tryd.func17, Tryd.ntmps17
    go_wp2
    go_ret
    exact ⟨rfl, rfl⟩
  · have hsp : isVarB (bs s) = (decide (s.size < 64) && upB s[0] && ((span (bs s) : Int) == (s.size : Int))) := by
      have hb := bs_len s
      have h1 : (span (bs s) == (bs s).length) = ((span (bs s) : Int) == (s.size : Int)) := by rw [Bool.eq_iff_iff]; simp only [beq_iff_eq]; omega
      rw [← h1]; try rw [← hb]
      cases hl : bs s with
      | nil => rw [hl] at hb; simp at hb; omega
      | cons c r =>
        have h2 : s[0] = c := by have := bs_at s 0 h; simp only [hl, List.getElem_cons_zero] at this; exact this.symm
        rw [h2]; simp [isVarB, Bool.and_assoc]
    rw [hsp]
    have hne : s.toList.isEmpty = false := not_empty s h
    have HSP := Lib.hid (fun w => run0 s w hs)
    clear hsp
    cases h1 : upB s[0] <;> cases h2 : ((span (bs s) : Int) == (s.size : Int)) <;> by_cases h3 : s.size < 64
    all_goals
      have H1 := Lib.hid h1
      have H2 := Lib.hid h2
      clear h1
      go_enter Tryd.func17, Tryd.ntmps17
      go_wp2_with (first | (go_at_call 24; refine (rupper_any _ _).mono ?_; rw [H1.out]; rintro e w' ⟨rfl, rfl⟩) | (go_at_call 29; refine (HSP.out _).mono ?_; rintro e w' ⟨rfl, rfl⟩))
      all_goals (go_ret; exact ⟨ret_bool (by first | rfl | (simp; omega) | (simp [*])), rfl⟩)

end Go.Proofs.YtmdelgaeikicpaaDoor.Lx
