/- Contracts of package lexer's small functions: what each returns for every text. -/
import Derived.Test.YtmdelgaeikicpaaDoorLexA
import Derived.Test.YtmdelgaeikicpaaDoorLexB
import Derived.Test.YtmdelgaeikicpaaDoorMem
import Derived.WalkKit
import Derived.WalkSpells
import Derived.RegionTactic
import Derived.LoopTactic
import Derived.Deep.QuietTactic
import Derived.BigQuiet
import Derived.Lib.Hide
namespace Go.Proofs.YtmdelgaeikicpaaDoor.Lx
open Go.RowKit
set_option linter.unusedVariables false
set_option linter.unusedSimpArgs false

abbrev bs (s : ByteArray) : Bs := s.data.toList
theorem bs_len (s : ByteArray) : (bs s).length = s.size := by simp [bs]
theorem bs_at (s : ByteArray) (k : Nat) (h : k < s.size) : (bs s)[k]'(by rw [bs_len]; exact h) = s[k] := rfl
theorem bs_mk (l : Bs) : bs ⟨l.toArray⟩ = l := rfl
theorem mk_bs (s : ByteArray) : (⟨(bs s).toArray⟩ : ByteArray) = s := by simp [bs]
theorem bs_drop (s : ByteArray) (k : Nat) : bs (s.extract k s.size) = (bs s).drop k := by
  simp [bs, ByteArray.data_extract, Array.toList_extract, List.extract]
  rw [List.take_of_length_le (by simp)]
theorem bs_take (s : ByteArray) (k : Nat) : bs (s.extract 0 k) = (bs s).take k := by
  simp [bs, ByteArray.data_extract, Array.toList_extract, List.extract]

theorem ret_bool {a b : Bool} (h : a = b) : Ending.returned (.bool a) = .returned (.bool b) := by rw [h]
theorem ret_int {k : IntKind} {a b : Int} (h : a = b) : Ending.returned (.int k a) = .returned (.int k b) := by rw [h]

theorem lower_any (c : UInt8) (w : World) :
    Calls Tryd.prog 26 #[.int .u8 c.toNat] w fun e w' => e = .returned (.bool (lowB c)) ∧ w = w' := by
  have e1 : lowB c = (decide (97 ≤ (c.toNat : Int)) && decide ((c.toNat : Int) ≤ 122)) := by
    rw [Bool.eq_iff_iff]; simp only [lowB, Bool.and_eq_true, decide_eq_true_eq]; omega
  rw [e1]
  by_cases h : 97 ≤ (c.toNat : Int)
  all_goals
    go_enter Tryd.func26, Tryd.ntmps26
    go_wp2
    go_ret
    exact ⟨ret_bool (by rw [Bool.eq_iff_iff]; simp; omega), rfl⟩
theorem upper_any (c : UInt8) (w : World) :
    Calls Tryd.prog 30 #[.int .u8 c.toNat] w fun e w' => e = .returned (.bool (upB c)) ∧ w = w' := by
  have e1 : upB c = (decide (65 ≤ (c.toNat : Int)) && decide ((c.toNat : Int) ≤ 90)) := by
    rw [Bool.eq_iff_iff]; simp only [upB, Bool.and_eq_true, decide_eq_true_eq]; omega
  rw [e1]
  by_cases h : 65 ≤ (c.toNat : Int)
  all_goals
    go_enter Tryd.func30, Tryd.ntmps30
    go_wp2
    go_ret
    exact ⟨ret_bool (by rw [Bool.eq_iff_iff]; simp; omega), rfl⟩

theorem word_any (c : UInt8) (w : World) :
    Calls Tryd.prog 38 #[.int .u8 c.toNat] w fun e w' => e = .returned (.bool (wordB c)) ∧ w = w' := by
  have e1 : wordB c = (lowB c || upB c || (decide (48 ≤ (c.toNat : Int)) && decide ((c.toNat : Int) ≤ 57)) || ((c.toNat : Int) == 95)) := by
    have a1 : decide (48 ≤ c.toNat) = decide (48 ≤ (c.toNat : Int)) := decide_eq_decide.2 (by omega)
    have a2 : decide (c.toNat ≤ 57) = decide ((c.toNat : Int) ≤ 57) := decide_eq_decide.2 (by omega)
    have a3 : decide (c.toNat = 95) = ((c.toNat : Int) == 95) := by rw [Bool.eq_iff_iff]; simp; omega
    unfold wordB; rw [a1, a2, a3]
  rw [e1]
  cases h1 : lowB c <;> cases h2 : upB c <;> by_cases h3 : 48 ≤ (c.toNat : Int) <;> by_cases h4 : (c.toNat : Int) ≤ 57 <;> cases h5 : ((c.toNat : Int) == 95)
  all_goals
    have H1 := Lib.hid h1
    have H2 := Lib.hid h2
    clear h1 h2 e1
    go_enter Tryd.func38, Tryd.ntmps38
    go_wp2_with (first | (go_at_call 26; refine (lower_any _ _).mono ?_; rw [H1.out]; rintro e w' ⟨rfl, rfl⟩) | (go_at_call 30; refine (upper_any _ _).mono ?_; rw [H2.out]; rintro e w' ⟨rfl, rfl⟩))
    all_goals (go_ret; exact ⟨ret_bool (by first | rfl | (simp; omega) | (simp [*])), rfl⟩)

theorem span_drop (l : Bs) (k : Nat) (h : k < l.length) : span (l.drop k) = if wordB l[k] then span (l.drop (k + 1)) + 1 else 0 := by
  rw [List.drop_eq_getElem_cons h]; rfl

theorem prefix_any (s : ByteArray) (w : World) (hs : s.size ≤ 9223372036854775807) :
    Calls Tryd.prog 27 #[.string s] w fun e w' => e = .returned (.int .i64 (span (bs s))) ∧ w = w' := by
  go_enter Tryd.func27, Tryd.ntmps27
  go_wp2
  go_loop [6] (fun i => ∃ k : Nat, k ≤ s.size ∧ i = .int .i64 k ∧ span (bs s) = k + span ((bs s).drop k)) (fun i => s.size - (intOf i).toNat)
  case atStart => exact ⟨0, Nat.zero_le _, rfl, by simp⟩
  case round =>
    obtain ⟨k, hk, rfl, hsp⟩ := hrel
    have HSP := Lib.hid hsp
    clear hsp
    by_cases hlt : k < s.size
    · have hd := span_drop (bs s) k (by rw [bs_len]; exact hlt)
      rw [bs_at s k hlt] at hd
      cases h1 : wordB s[k]
      · have HD := Lib.hid (show span (bs s) = k by rw [HSP.out, hd, h1]; simp)
        have H1 := Lib.hid h1
        clear hd h1
        go_wp2_with (go_at_call 38; refine (word_any _ _).mono ?_; rw [H1.out]; rintro e w' ⟨rfl, rfl⟩)
        go_ret
        exact ⟨ret_int (by rw [HD.out]), rfl⟩
      · have HD := Lib.hid (show span (bs s) = (k + 1 : Nat) + span ((bs s).drop (k + 1)) by rw [HSP.out, hd, h1]; simp; omega)
        have H1 := Lib.hid h1
        clear hd h1
        go_wp2_with (go_at_call 38; refine (word_any _ _).mono ?_; rw [H1.out]; rintro e w' ⟨rfl, rfl⟩)
        go_round
        case rel => exact ⟨k + 1, by omega, by go_num, HD.out⟩
        case measure => simp [intOf]; omega
    · go_wp2
      go_ret
      exact ⟨ret_int (by rw [HSP.out, List.drop_eq_nil_of_le (by rw [bs_len]; omega)]; simp [span]; omega), rfl⟩

theorem empty_of (s : ByteArray) (h : s.size = 0) : s = ⟨#[]⟩ := by
  cases s with | mk d => simp [ByteArray.size] at h; simp [h]
theorem not_empty (s : ByteArray) (h : 0 < s.size) : s.toList.isEmpty = false := by
  rw [List.isEmpty_eq_false_iff]; intro hn
  rw [ByteArray.toList_eq] at hn
  have h1 : s.data.toList.length = 0 := by rw [hn]; rfl
  rw [Array.length_toList] at h1
  have h2 : s.data.size = s.size := rfl
  omega
theorem odd_nil (s : ByteArray) (w : World) (h : s.size = 0) :
    Calls Tryd.prog 21 #[.string s] w fun e w' => e = .returned (.bool (oddB (bs s))) ∧ w = w' := by
  obtain rfl := empty_of s h
  go_enter Tryd.func21, Tryd.ntmps21
  go_wp2
  go_ret
  exact ⟨rfl, rfl⟩
theorem odd_cons (s : ByteArray) (w : World) (h : 0 < s.size) :
    Calls Tryd.prog 21 #[.string s] w fun e w' => e = .returned (.bool (oddB (bs s))) ∧ w = w' := by
  have hd : oddB (bs s) = (upB s[0] || ((s[0].toNat : Int) == 64) || ((s[0].toNat : Int) == 36)) := by
    have hb := bs_len s
    cases hl : bs s with
    | nil => rw [hl] at hb; simp at hb; omega
    | cons c r =>
      have : s[0] = c := by have := bs_at s 0 h; simp only [hl, List.getElem_cons_zero] at this; exact this.symm
      rw [this]; simp only [oddB]
      have a1 : decide (c.toNat = 64) = ((c.toNat : Int) == 64) := by rw [Bool.eq_iff_iff]; simp; omega
      have a2 : decide (c.toNat = 36) = ((c.toNat : Int) == 36) := by rw [Bool.eq_iff_iff]; simp; omega
      rw [a1, a2]
  rw [hd]
  have hne : s.toList.isEmpty = false := not_empty s h
  cases h1 : upB s[0] <;> cases h2 : ((s[0].toNat : Int) == 64)
  all_goals
    have H1 := Lib.hid h1
    clear h1 hd
    go_enter Tryd.func21, Tryd.ntmps21
    go_wp2_with (go_at_call 30; refine (upper_any _ _).mono ?_; rw [H1.out]; rintro e w' ⟨rfl, rfl⟩)
    all_goals (go_ret; exact ⟨ret_bool (by first | rfl | (simp; omega) | (simp [*])), rfl⟩)
end Go.Proofs.YtmdelgaeikicpaaDoor.Lx
