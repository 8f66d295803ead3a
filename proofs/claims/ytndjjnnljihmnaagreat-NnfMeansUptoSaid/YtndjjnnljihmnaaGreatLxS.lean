/- Contracts of package lexer's IsVar and IsName and of the reference's: what each returns for every text. -/
import Derived.Test.YtndjjnnljihmnaaGreatMem
import Derived.Test.YtndjjnnljihmnaaGreatProg
import Derived.Test.YtndjjnnljihmnaaGreatShelf
import Derived.WalkKit
import Derived.WalkSpells
import Derived.RegionTactic
import Derived.LoopTactic
import Derived.Deep.QuietTactic
import Derived.BigQuiet
import Derived.Lib.Hide
import Derived.Shelf.GgClosure.StringsIndexFunc
import Derived.Laws.RangeString
namespace Go.Proofs.YtndjjnnljihmnaaGreat.Lx
open Go.RowKit Go.Shelf
set_option linter.unusedVariables false
set_option linter.unusedSimpArgs false

abbrev Bs := List UInt8
def lowB (c : UInt8) : Bool := decide (97 ≤ c.toNat) && decide (c.toNat ≤ 122)
def upB (c : UInt8) : Bool := decide (65 ≤ c.toNat) && decide (c.toNat ≤ 90)
def wordB (c : UInt8) : Bool := lowB c || upB c || (decide (48 ≤ c.toNat) && decide (c.toNat ≤ 57)) || decide (c.toNat = 95)
def okB (c : UInt8) : Bool := decide (32 ≤ c.toNat) && decide (c.toNat ≤ 126)
/-- How many bytes at a text's head are a word's. -/
def span : Bs → Nat
  | [] => 0
  | c :: r => if wordB c then span r + 1 else 0
def oddB : Bs → Bool
  | [] => true
  | c :: _ => upB c || decide (c.toNat = 64) || decide (c.toNat = 36)
def isVarB (l : Bs) : Bool := match l with
  | [] => false
  | c :: r => decide ((c :: r).length < 64) && upB c && (span (c :: r) == (c :: r).length)
def isNameB (l : Bs) : Bool := !oddB l && decide (l.length < 64) && l.all okB
abbrev bs (s : ByteArray) : Bs := s.data.toList
theorem bs_len (s : ByteArray) : (bs s).length = s.size := by simp [bs]
theorem bs_at (s : ByteArray) (k : Nat) (h : k < s.size) : (bs s)[k]'(by rw [bs_len]; exact h) = s[k] := rfl
theorem bs_drop (s : ByteArray) (k : Nat) : bs (s.extract k s.size) = (bs s).drop k := by
  simp [bs, ByteArray.data_extract, Array.toList_extract, List.extract]
  rw [List.take_of_length_le (by simp)]
theorem ret_bool {a b : Bool} (h : a = b) : Ending.returned (.bool a) = .returned (.bool b) := by rw [h]
theorem ret_int {k : IntKind} {a b : Int} (h : a = b) : Ending.returned (.int k a) = .returned (.int k b) := by rw [h]

theorem lower_any (c : UInt8) (w : World) :
    Calls Tryz.prog 105 #[.int .u8 c.toNat] w fun e w' => e = .returned (.bool (lowB c)) ∧ w = w' := by
  have e1 : lowB c = (decide (97 ≤ (c.toNat : Int)) && decide ((c.toNat : Int) ≤ 122)) := by
    rw [Bool.eq_iff_iff]; simp only [lowB, Bool.and_eq_true, decide_eq_true_eq]; omega
  rw [e1]
  by_cases h : 97 ≤ (c.toNat : Int)
  all_goals
    go_enter Tryz.func105, Tryz.ntmps105
    go_wp2
    go_ret
    exact ⟨ret_bool (by rw [Bool.eq_iff_iff]; simp; omega), rfl⟩
theorem upper_any (c : UInt8) (w : World) :
    Calls Tryz.prog 79 #[.int .u8 c.toNat] w fun e w' => e = .returned (.bool (upB c)) ∧ w = w' := by
  have e1 : upB c = (decide (65 ≤ (c.toNat : Int)) && decide ((c.toNat : Int) ≤ 90)) := by
    rw [Bool.eq_iff_iff]; simp only [upB, Bool.and_eq_true, decide_eq_true_eq]; omega
  rw [e1]
  by_cases h : 65 ≤ (c.toNat : Int)
  all_goals
    go_enter Tryz.func79, Tryz.ntmps79
    go_wp2
    go_ret
    exact ⟨ret_bool (by rw [Bool.eq_iff_iff]; simp; omega), rfl⟩

theorem word_any (c : UInt8) (w : World) :
    Calls Tryz.prog 91 #[.int .u8 c.toNat] w fun e w' => e = .returned (.bool (wordB c)) ∧ w = w' := by
  have e1 : wordB c = (lowB c || upB c || (decide (48 ≤ (c.toNat : Int)) && decide ((c.toNat : Int) ≤ 57)) || ((c.toNat : Int) == 95)) := by
    have a1 : decide (48 ≤ c.toNat) = decide (48 ≤ (c.toNat : Int)) := decide_eq_decide.2 (by omega)
    have a2 : decide (c.toNat ≤ 57) = decide ((c.toNat : Int) ≤ 57) := decide_eq_decide.2 (by omega)
    have a3 : decide (c.toNat = 95) = ((c.toNat : Int) == 95) := by rw [Bool.eq_iff_iff]; simp; omega
    unfold wordB; rw [a1, a2, a3]
  rw [e1]
  cases h1 : lowB c <;> cases h2 : upB c <;> by_cases h3 : 48 ≤ (c.toNat : Int) <;> by_cases h4 : (c.toNat : Int) ≤ 57 <;> cases h5 : ((c.toNat : Int) == 95)
  all_goals
    have H1 := Lib.hid h1
    have H2 := Lib.hid h2
    clear h1 h2 e1
    go_enter Tryz.func91, Tryz.ntmps91
    go_wp2_with (first | (go_at_call 105; refine (lower_any _ _).mono ?_; rw [H1.out]; rintro e w' ⟨rfl, rfl⟩) | (go_at_call 79; refine (upper_any _ _).mono ?_; rw [H2.out]; rintro e w' ⟨rfl, rfl⟩))
    all_goals (go_ret; exact ⟨ret_bool (by first | rfl | (simp; omega) | (simp [*])), rfl⟩)

theorem span_drop (l : Bs) (k : Nat) (h : k < l.length) : span (l.drop k) = if wordB l[k] then span (l.drop (k + 1)) + 1 else 0 := by
  rw [List.drop_eq_getElem_cons h]; rfl

theorem prefix_any (s : ByteArray) (w : World) (hs : s.size ≤ 9223372036854775807) :
    Calls Tryz.prog 80 #[.string s] w fun e w' => e = .returned (.int .i64 (span (bs s))) ∧ w = w' := by
  go_enter Tryz.func80, Tryz.ntmps80
  go_wp2
  go_loop [6] (fun i => ∃ k : Nat, k ≤ s.size ∧ i = .int .i64 k ∧ span (bs s) = k + span ((bs s).drop k)) (fun i => s.size - (intOf i).toNat)
  case atStart => exact ⟨0, Nat.zero_le _, rfl, by simp⟩
  case round =>
    obtain ⟨k, hk, rfl, hsp⟩ := hrel
    have HSP := Lib.hid hsp
    clear hsp
    by_cases hlt : k < s.size
    · have hd := span_drop (bs s) k (by rw [bs_len]; exact hlt)
      rw [bs_at s k hlt] at hd
      cases h1 : wordB s[k]
      · have HD := Lib.hid (show span (bs s) = k by rw [HSP.out, hd, h1]; simp)
        have H1 := Lib.hid h1
        clear hd h1
        go_wp2_with (go_at_call 91; refine (word_any _ _).mono ?_; rw [H1.out]; rintro e w' ⟨rfl, rfl⟩)
        go_ret
        exact ⟨ret_int (by rw [HD.out]), rfl⟩
      · have HD := Lib.hid (show span (bs s) = (k + 1 : Nat) + span ((bs s).drop (k + 1)) by rw [HSP.out, hd, h1]; simp; omega)
        have H1 := Lib.hid h1
        clear hd h1
        go_wp2_with (go_at_call 91; refine (word_any _ _).mono ?_; rw [H1.out]; rintro e w' ⟨rfl, rfl⟩)
        go_round
        case rel => exact ⟨k + 1, by omega, by go_num, HD.out⟩
        case measure => simp [intOf]; omega
    · go_wp2
      go_ret
      exact ⟨ret_int (by rw [HSP.out, List.drop_eq_nil_of_le (by rw [bs_len]; omega)]; simp [span]; omega), rfl⟩

theorem empty_of (s : ByteArray) (h : s.size = 0) : s = ⟨#[]⟩ := by
  cases s with | mk d => simp [ByteArray.size] at h; simp [h]
theorem not_empty (s : ByteArray) (h : 0 < s.size) : s.toList.isEmpty = false := by
  rw [List.isEmpty_eq_false_iff]; intro hn
  rw [ByteArray.toList_eq] at hn
  have h1 : s.data.toList.length = 0 := by rw [hn]; rfl
  rw [Array.length_toList] at h1
  have h2 : s.data.size = s.size := rfl
  omega
theorem odd_nil (s : ByteArray) (w : World) (h : s.size = 0) :
    Calls Tryz.prog 93 #[.string s] w fun e w' => e = .returned (.bool (oddB (bs s))) ∧ w = w' := by
  obtain rfl := empty_of s h
  go_enter Tryz.func93, Tryz.ntmps93
  go_wp2
  go_ret
  exact ⟨rfl, rfl⟩
theorem odd_cons (s : ByteArray) (w : World) (h : 0 < s.size) :
    Calls Tryz.prog 93 #[.string s] w fun e w' => e = .returned (.bool (oddB (bs s))) ∧ w = w' := by
  have hd : oddB (bs s) = (upB s[0] || ((s[0].toNat : Int) == 64) || ((s[0].toNat : Int) == 36)) := by
    have hb := bs_len s
    cases hl : bs s with
    | nil => rw [hl] at hb; simp at hb; omega
    | cons c r =>
      have : s[0] = c := by have := bs_at s 0 h; simp only [hl, List.getElem_cons_zero] at this; exact this.symm
      rw [this]; simp only [oddB]
      have a1 : decide (c.toNat = 64) = ((c.toNat : Int) == 64) := by rw [Bool.eq_iff_iff]; simp; omega
      have a2 : decide (c.toNat = 36) = ((c.toNat : Int) == 36) := by rw [Bool.eq_iff_iff]; simp; omega
      rw [a1, a2]
  rw [hd]
  have hne : s.toList.isEmpty = false := not_empty s h
  cases h1 : upB s[0] <;> cases h2 : ((s[0].toNat : Int) == 64)
  all_goals
    have H1 := Lib.hid h1
    clear h1 hd
    go_enter Tryz.func93, Tryz.ntmps93
    go_wp2_with (go_at_call 79; refine (upper_any _ _).mono ?_; rw [H1.out]; rintro e w' ⟨rfl, rfl⟩)
    all_goals (go_ret; exact ⟨ret_bool (by first | rfl | (simp; omega) | (simp [*])), rfl⟩)
theorem drop_at (s : ByteArray) (k : Nat) (h : k < s.size) : (bs s).drop k = s[k] :: (bs s).drop (k + 1) := by
  rw [List.drop_eq_getElem_cons (by rw [bs_len]; exact h)]; rfl
theorem head_of (s : ByteArray) (h : 0 < s.size) : bs s = s[0] :: (bs s).drop 1 := by
  have := drop_at s 0 h; simpa using this
theorem odd_any (s : ByteArray) (w : World) :
    Calls Tryz.prog 93 #[.string s] w fun e w' => e = .returned (.bool (oddB (bs s))) ∧ w = w' := by
  rcases Nat.eq_zero_or_pos s.size with h | h
  · exact odd_nil s w h
  · exact odd_cons s w h
theorem isVar_any (s : ByteArray) (w : World) (hs : s.size ≤ 9223372036854775807) :
    Calls Tryz.prog 59 #[.string s] w fun e w' => e = .returned (.bool (isVarB (bs s))) ∧ w = w' := by
  rcases Nat.eq_zero_or_pos s.size with h | h
  · obtain rfl := empty_of s h
    go_enter Tryz.func59, Tryz.ntmps59
    go_wp2
    go_ret
    exact ⟨rfl, rfl⟩
  · have hsp : isVarB (bs s) = (decide (s.size < 64) && upB s[0] && ((span (bs s) : Int) == (s.size : Int))) := by
      have hb := bs_len s
      have h1 : (span (bs s) == (bs s).length) = ((span (bs s) : Int) == (s.size : Int)) := by rw [Bool.eq_iff_iff]; simp only [beq_iff_eq]; omega
      rw [← h1]; try rw [← hb]
      cases hl : bs s with
      | nil => rw [hl] at hb; simp at hb; omega
      | cons c r =>
        have h2 : s[0] = c := by have := bs_at s 0 h; simp only [hl, List.getElem_cons_zero] at this; exact this.symm
        rw [h2]; simp [isVarB, Bool.and_assoc]
    rw [hsp]
    have hne : s.toList.isEmpty = false := not_empty s h
    have HSP := Lib.hid (prefix_any s)
    clear hsp
    cases h1 : upB s[0] <;> cases h2 : ((span (bs s) : Int) == (s.size : Int)) <;> by_cases h3 : s.size < 64
    all_goals
      have H1 := Lib.hid h1
      have H2 := Lib.hid h2
      clear h1
      go_enter Tryz.func59, Tryz.ntmps59
      go_wp2_with (first | (go_at_call 79; refine (upper_any _ _).mono ?_; rw [H1.out]; rintro e w' ⟨rfl, rfl⟩) | (go_at_call 80; refine (HSP.out _ hs).mono ?_; rintro e w' ⟨rfl, rfl⟩))
      all_goals (go_ret; exact ⟨ret_bool (by first | rfl | (simp; omega) | (simp [*])), rfl⟩)
def badR (x : Nat) : Bool := decide (x < 32) || decide (126 < x)
theorem decode_high (s : ByteArray) (pos : Nat) (h : pos < s.size) (ha : 128 ≤ (s[pos]'h).toNat) : 128 ≤ (Utf8.decode s pos).1 := by
  have hg : (s.get! (pos + 0)).toNat = (s[pos]'h).toNat := by
    have : s.get! pos = s[pos]'h := by
      cases s with | mk d => exact getElem!_pos d pos h
    rw [Nat.add_zero, this]
  unfold Utf8.decode
  simp only [hg]
  rw [if_neg (by omega)]
  repeat' split
  all_goals first | omega | (simp only [ge_iff_le, Bool.and_eq_true, decide_eq_true_eq] at *; omega) | (show 128 ≤ Utf8.runeError; decide) | skip
theorem idx_bad (s : ByteArray) : ∀ (f pos : Nat), s.size - pos ≤ f → (decide (0 ≤ Lib.idxFuncFrom badR true s f pos)) = !(((bs s).drop pos).all okB)
  | 0, pos, h => by
    rw [List.drop_eq_nil_of_le (by rw [bs_len]; omega)]; simp [Lib.idxFuncFrom]
  | f + 1, pos, h => by
    by_cases hp : pos < s.size
    · rw [drop_at s pos hp]
      simp only [Lib.idxFuncFrom, hp, if_true, List.all_cons]
      by_cases ha : s[pos].toNat < 128
      · rw [decode_ascii s pos hp ha]
        cases ho : okB s[pos]
        · have : badR s[pos].toNat = true := by simp only [okB, badR, Bool.and_eq_false_iff, decide_eq_false_iff_not, Bool.or_eq_true, decide_eq_true_eq] at *; omega
          simp [this]
        · have : badR s[pos].toNat = false := by simp only [okB, badR, Bool.and_eq_true, decide_eq_true_eq, Bool.or_eq_false_iff, decide_eq_false_iff_not] at *; omega
          simp only [this, Bool.false_eq_true, if_false, Bool.true_and]
          exact idx_bad s f (pos + 1) (by omega)
      · have h1 := decode_high s pos hp (by omega)
        have h2 : badR (Utf8.decode s pos).1 = true := by simp only [badR, Bool.or_eq_true, decide_eq_true_eq]; omega
        have h3 : okB s[pos] = false := by simp only [okB, Bool.and_eq_false_iff, decide_eq_false_iff_not]; omega
        simp [h2, h3]
    · rw [List.drop_eq_nil_of_le (by rw [bs_len]; omega), Lib.idxFuncFrom_end _ _ _ _ _ hp]; simp

theorem pred_bad (w : World) : PredAtRunes Tryz.prog 95 #[] badR w := by
  intro W x hx hb
  show Calls Tryz.prog 95 #[.int .i32 (x : Int)] W _
  have e1 : badR x = (decide ((x : Int) < 32) || decide (126 < (x : Int))) := by
    have a1 : decide (x < 32) = decide ((x : Int) < 32) := decide_eq_decide.2 (by omega)
    have a2 : decide (126 < x) = decide (126 < (x : Int)) := decide_eq_decide.2 (by omega)
    unfold badR; rw [a1, a2]
  rw [e1]
  by_cases h : (x : Int) < 32
  all_goals
    go_enter Tryz.func95, Tryz.ntmps95
    go_wp2
    go_ret
    exact ⟨ret_bool (by first | rfl | (simp; omega) | (simp [*])), 0, rfl⟩

theorem isName_any (s : ByteArray) (w : World) (hs : s.size ≤ 9223372036854775807) :
    Calls Tryz.prog 82 #[.string s] w fun e w' => e = .returned (.bool (isNameB (bs s))) ∧ Below w.heap.size w w' := by
  have hv : isNameB (bs s) = (!oddB (bs s) && (decide (s.size < 64) && !(!((bs s).all okB)))) := by unfold isNameB; rw [bs_len, Bool.not_not, Bool.and_assoc]
  have hi := idx_bad s s.size 0 (by omega)
  rw [List.drop_zero] at hi
  have HC := Lib.hid (fun w => Tryz.strings_ContainsFunc_runes 95 #[] (enters_of Tryz.func95 (by kernel_rfl) rfl) badR s w (pred_bad w))
  have HI : Hid (decide (0 ≤ Lib.idxFunc badR true s) = !((bs s).all okB)) := Lib.hid hi
  rw [hv]
  clear hi hv
  cases h1 : oddB (bs s) <;> by_cases h2 : s.size < 64 <;> cases h3 : (bs s).all okB
  all_goals
    have H1 := Lib.hid h1
    have H3 := Lib.hid h3
    clear h1 h3
    go_enter Tryz.func82, Tryz.ntmps82
    go_wp2_with (first | (go_at_call 93; refine (odd_any _ _).mono ?_; rw [H1.out]; rintro e w' ⟨rfl, rfl⟩) | (go_at_call 94; refine (HC.out _).mono ?_; rw [HI.out, H3.out]; rintro e w' ⟨rfl, hb⟩))
    all_goals (go_ret; exact ⟨ret_bool (by first | rfl | (simp; done) | (simp; omega) | (simp [*])), by first | exact Below.refl _ _ | assumption⟩)
theorem rlower_any (c : UInt8) (w : World) :
    Calls Tryz.prog 104 #[.int .u8 c.toNat] w fun e w' => e = .returned (.bool (lowB c)) ∧ w = w' := by
  have e1 : lowB c = (decide (97 ≤ (c.toNat : Int)) && decide ((c.toNat : Int) ≤ 122)) := by
    rw [Bool.eq_iff_iff]; simp only [lowB, Bool.and_eq_true, decide_eq_true_eq]; omega
  rw [e1]
  by_cases h : 97 ≤ (c.toNat : Int)
  all_goals
    go_enter Tryz.func104, Tryz.ntmps104
    go_wp2
    go_ret
    exact ⟨ret_bool (by rw [Bool.eq_iff_iff]; simp; omega), rfl⟩
theorem rupper_any (c : UInt8) (w : World) :
    Calls Tryz.prog 73 #[.int .u8 c.toNat] w fun e w' => e = .returned (.bool (upB c)) ∧ w = w' := by
  have e1 : upB c = (decide (65 ≤ (c.toNat : Int)) && decide ((c.toNat : Int) ≤ 90)) := by
    rw [Bool.eq_iff_iff]; simp only [upB, Bool.and_eq_true, decide_eq_true_eq]; omega
  rw [e1]
  by_cases h : 65 ≤ (c.toNat : Int)
  all_goals
    go_enter Tryz.func73, Tryz.ntmps73
    go_wp2
    go_ret
    exact ⟨ret_bool (by rw [Bool.eq_iff_iff]; simp; omega), rfl⟩

theorem rinner_any (c : UInt8) (w : World) :
    Calls Tryz.prog 90 #[.int .u8 c.toNat] w fun e w' => e = .returned (.bool (wordB c)) ∧ w = w' := by
  have e1 : wordB c = (lowB c || upB c || (decide (48 ≤ (c.toNat : Int)) && decide ((c.toNat : Int) ≤ 57)) || ((c.toNat : Int) == 95)) := by
    have a1 : decide (48 ≤ c.toNat) = decide (48 ≤ (c.toNat : Int)) := decide_eq_decide.2 (by omega)
    have a2 : decide (c.toNat ≤ 57) = decide ((c.toNat : Int) ≤ 57) := decide_eq_decide.2 (by omega)
    have a3 : decide (c.toNat = 95) = ((c.toNat : Int) == 95) := by rw [Bool.eq_iff_iff]; simp; omega
    unfold wordB; rw [a1, a2, a3]
  rw [e1]
  cases h1 : lowB c <;> cases h2 : upB c <;> by_cases h3 : 48 ≤ (c.toNat : Int) <;> by_cases h4 : (c.toNat : Int) ≤ 57 <;> cases h5 : ((c.toNat : Int) == 95)
  all_goals
    have H1 := Lib.hid h1
    have H2 := Lib.hid h2
    clear h1 h2 e1
    go_enter Tryz.func90, Tryz.ntmps90
    go_wp2_with (first | (go_at_call 104; refine (rlower_any _ _).mono ?_; rw [H1.out]; rintro e w' ⟨rfl, rfl⟩) | (go_at_call 73; refine (rupper_any _ _).mono ?_; rw [H2.out]; rintro e w' ⟨rfl, rfl⟩))
    all_goals (go_ret; exact ⟨ret_bool (by first | rfl | (simp; omega) | (simp [*])), rfl⟩)


theorem run_any (s : ByteArray) (i : Nat) (w : World) (hs : s.size ≤ 9223372036854775807) (hi : i ≤ s.size) :
    Calls Tryz.prog 74 #[.string s, .int .i64 i] w fun e w' => e = .returned (.int .i64 ((i : Int) + span ((bs s).drop i))) ∧ w = w' := by
  go_enter Tryz.func74, Tryz.ntmps74
  go_wp2
  go_loop [1] (fun v => ∃ k : Nat, i ≤ k ∧ k ≤ s.size ∧ v = .int .i64 k ∧ i + span ((bs s).drop i) = k + span ((bs s).drop k)) (fun v => s.size - (intOf v).toNat)
  case atStart => exact ⟨i, Nat.le_refl _, hi, rfl, rfl⟩
  case round =>
    obtain ⟨k, hik, hk, rfl, hsp⟩ := hrel
    have HSP := Lib.hid hsp
    clear hsp
    by_cases hlt : k < s.size
    · have hd := span_drop (bs s) k (by rw [bs_len]; exact hlt)
      rw [bs_at s k hlt] at hd
      cases h1 : wordB s[k]
      · have HD := Lib.hid (show (i : Int) + (span ((bs s).drop i) : Nat) = k by have := HSP.out; rw [hd, h1] at this; simp at this; omega)
        have H1 := Lib.hid h1
        clear hd h1
        go_wp2_with (go_at_call 90; refine (rinner_any _ _).mono ?_; rw [H1.out]; rintro e w' ⟨rfl, rfl⟩)
        go_ret
        exact ⟨ret_int (by rw [HD.out]), rfl⟩
      · have HD := Lib.hid (show i + span ((bs s).drop i) = (k + 1) + span ((bs s).drop (k + 1)) by rw [HSP.out, hd, h1]; simp; omega)
        have H1 := Lib.hid h1
        clear hd h1
        go_wp2_with (go_at_call 90; refine (rinner_any _ _).mono ?_; rw [H1.out]; rintro e w' ⟨rfl, rfl⟩)
        go_round
        case rel => exact ⟨k + 1, by omega, by omega, by go_num, HD.out⟩
        case measure => simp [intOf]; omega
    · have HD := Lib.hid (show (i : Int) + (span ((bs s).drop i) : Nat) = k by
        have := HSP.out; rw [List.drop_eq_nil_of_le (show (bs s).length ≤ k by rw [bs_len]; omega)] at this; simp [span] at this; omega)
      go_wp2
      go_ret
      exact ⟨ret_int (by rw [HD.out]), rfl⟩
theorem run0 (s : ByteArray) (w : World) (hs : s.size ≤ 9223372036854775807) :
    Calls Tryz.prog 74 #[.string s, .int .i64 0] w fun e w' => e = .returned (.int .i64 (span (bs s))) ∧ w = w' := by
  have h := run_any s 0 w hs (Nat.zero_le _)
  rw [List.drop_zero] at h
  simpa using h
theorem risVar_any (s : ByteArray) (w : World) (hs : s.size ≤ 9223372036854775807) :
    Calls Tryz.prog 53 #[.string s] w fun e w' => e = .returned (.bool (isVarB (bs s))) ∧ w = w' := by
  rcases Nat.eq_zero_or_pos s.size with h | h
  · obtain rfl := empty_of s h
    go_enter Tryz.func53, Tryz.ntmps53
    go_wp2
    go_ret
    exact ⟨rfl, rfl⟩
  · have hsp : isVarB (bs s) = (decide (s.size < 64) && upB s[0] && ((span (bs s) : Int) == (s.size : Int))) := by
      have hb := bs_len s
      have h1 : (span (bs s) == (bs s).length) = ((span (bs s) : Int) == (s.size : Int)) := by rw [Bool.eq_iff_iff]; simp only [beq_iff_eq]; omega
      rw [← h1]; try rw [← hb]
      cases hl : bs s with
      | nil => rw [hl] at hb; simp at hb; omega
      | cons c r =>
        have h2 : s[0] = c := by have := bs_at s 0 h; simp only [hl, List.getElem_cons_zero] at this; exact this.symm
        rw [h2]; simp [isVarB, Bool.and_assoc]
    rw [hsp]
    have hne : s.toList.isEmpty = false := not_empty s h
    have HSP := Lib.hid (fun w => run0 s w hs)
    clear hsp
    cases h1 : upB s[0] <;> cases h2 : ((span (bs s) : Int) == (s.size : Int)) <;> by_cases h3 : s.size < 64
    all_goals
      have H1 := Lib.hid h1
      have H2 := Lib.hid h2
      clear h1
      go_enter Tryz.func53, Tryz.ntmps53
      go_wp2_with (first | (go_at_call 73; refine (rupper_any _ _).mono ?_; rw [H1.out]; rintro e w' ⟨rfl, rfl⟩) | (go_at_call 74; refine (HSP.out _).mono ?_; rintro e w' ⟨rfl, rfl⟩))
      all_goals (go_ret; exact ⟨ret_bool (by first | rfl | (simp; omega) | (simp [*])), rfl⟩)
theorem all_drop (l : Bs) (k : Nat) (h : k < l.length) : (l.drop k).all okB = (okB l[k] && (l.drop (k + 1)).all okB) := by
  rw [List.drop_eq_getElem_cons h]; rfl
theorem risName_any (s : ByteArray) (w : World) (hs : s.size ≤ 9223372036854775807) :
    Calls Tryz.prog 75 #[.string s] w fun e w' => e = .returned (.bool (isNameB (bs s))) ∧ w = w' := by
  have hlen := bs_len s
  by_cases h0 : s.size = 0
  · obtain rfl := empty_of s h0
    go_enter Tryz.func75, Tryz.ntmps75
    go_wp2
    go_ret
    exact ⟨rfl, rfl⟩
  by_cases h64 : 64 ≤ s.size
  · have hv : isNameB (bs s) = false := by unfold isNameB; rw [hlen, decide_eq_false (by omega)]; simp
    have HV := Lib.hid hv
    clear hv hlen
    go_enter Tryz.func75, Tryz.ntmps75
    go_wp2
    go_ret
    exact ⟨ret_bool (by rw [HV.out]), rfl⟩
  have hpos : 0 < s.size := by omega
  have ho : oddB (bs s) = (upB s[0] || ((s[0].toNat : Int) == 64) || ((s[0].toNat : Int) == 36)) := by
    rw [head_of s hpos]; simp only [oddB]
    have a1 : decide (s[0].toNat = 64) = ((s[0].toNat : Int) == 64) := by rw [Bool.eq_iff_iff]; simp; omega
    have a2 : decide (s[0].toNat = 36) = ((s[0].toNat : Int) == 36) := by rw [Bool.eq_iff_iff]; simp; omega
    rw [a1, a2]
  have hv : isNameB (bs s) = (!oddB (bs s) && (bs s).all okB) := by unfold isNameB; rw [hlen, decide_eq_true (by omega)]; simp
  have HV := Lib.hid hv
  have HO := Lib.hid ho
  clear hv ho hlen
  cases h1 : upB s[0] <;> cases h2 : ((s[0].toNat : Int) == 64) <;> cases h3 : ((s[0].toNat : Int) == 36)
  all_goals
    have H1 := Lib.hid h1
    have H2 := Lib.hid h2
    have H3 := Lib.hid h3
    clear h1
  case false.false.false =>
    go_enter Tryz.func75, Tryz.ntmps75
    go_wp2_with (go_at_call 73; refine (rupper_any _ _).mono ?_; rw [H1.out]; rintro e w' ⟨rfl, rfl⟩)
    go_loop [3] (fun v => ∃ k : Nat, k ≤ s.size ∧ v = .int .i64 k ∧ (bs s).all okB = ((bs s).drop k).all okB) (fun v => s.size - (intOf v).toNat)
    case atStart => exact ⟨0, Nat.zero_le _, rfl, rfl⟩
    case round =>
      obtain ⟨k, hk, rfl, hal⟩ := hrel
      have HAL := Lib.hid hal
      clear hal
      by_cases hlt : k < s.size
      · have hd := all_drop (bs s) k (by rw [bs_len]; exact hlt)
        rw [bs_at s k hlt] at hd
        have HD := Lib.hid hd
        clear hd
        by_cases c1 : (s[k].toNat : Int) < 32
        · have HF := Lib.hid (show isNameB (bs s) = false by rw [HV.out, HAL.out, HD.out, show okB s[k] = false by simp only [okB, Bool.and_eq_false_iff, decide_eq_false_iff_not]; omega]; simp)
          go_wp2
          go_ret
          exact ⟨ret_bool (by rw [HF.out]), rfl⟩
        · by_cases c2 : 126 < (s[k].toNat : Int)
          · have HF := Lib.hid (show isNameB (bs s) = false by rw [HV.out, HAL.out, HD.out, show okB s[k] = false by simp only [okB, Bool.and_eq_false_iff, decide_eq_false_iff_not]; omega]; simp)
            go_wp2
            go_ret
            exact ⟨ret_bool (by rw [HF.out]), rfl⟩
          · have HF := Lib.hid (show (bs s).all okB = ((bs s).drop (k + 1)).all okB by rw [HAL.out, HD.out, show okB s[k] = true by simp only [okB, Bool.and_eq_true, decide_eq_true_eq]; omega]; simp)
            go_wp2
            go_round
            case rel => exact ⟨k + 1, by omega, by go_num, HF.out⟩
            case measure => simp [intOf]; omega
      · have HF := Lib.hid (show isNameB (bs s) = true by
          rw [HV.out, HAL.out, HO.out, H1.out, H2.out, H3.out, List.drop_eq_nil_of_le (by rw [bs_len]; omega)]; rfl)
        go_wp2
        go_ret
        exact ⟨ret_bool (by rw [HF.out]), rfl⟩
  all_goals
    have HF := Lib.hid (show isNameB (bs s) = false by rw [HV.out, HO.out, H1.out, H2.out, H3.out]; simp)
    go_enter Tryz.func75, Tryz.ntmps75
    go_wp2_with (go_at_call 73; refine (rupper_any _ _).mono ?_; rw [H1.out]; rintro e w' ⟨rfl, rfl⟩)
    all_goals (go_ret; exact ⟨ret_bool (by rw [HF.out]), rfl⟩)
end Go.Proofs.YtndjjnnljihmnaaGreat.Lx
