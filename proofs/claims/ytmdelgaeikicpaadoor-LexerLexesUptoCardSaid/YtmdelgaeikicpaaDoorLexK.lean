/- Contract of package lexer's IsName. -/
import Derived.Test.YtmdelgaeikicpaaDoorLexI
import Derived.Test.YtmdelgaeikicpaaDoorLexE
import Derived.Shelf.GgClosure.StringsIndexFunc
import Derived.Laws.RangeString
namespace Go.Proofs.YtmdelgaeikicpaaDoor.Lx
open Go.RowKit Go.Shelf
set_option linter.unusedVariables false
set_option linter.unusedSimpArgs false

def badR (x : Nat) : Bool := decide (x < 32) || decide (126 < x)
theorem decode_high (s : ByteArray) (pos : Nat) (h : pos < s.size) (ha : 128 ≤ (s[pos]'h).toNat) : 128 ≤ (Utf8.decode s pos).1 := by
  have hg : (s.get! (pos + 0)).toNat = (s[pos]'h).toNat := by
    have : s.get! pos = s[pos]'h := by
      cases s with | mk d => exact getElem!_pos d pos h
    rw [Nat.add_zero, this]
  unfold Utf8.decode
  simp only [hg]
  rw [if_neg (by omega)]
  repeat' split
  all_goals first | omega | (simp only [ge_iff_le, Bool.and_eq_true, decide_eq_true_eq] at *; omega) | (show 128 ≤ Utf8.runeError; decide) | skip
theorem idx_bad (s : ByteArray) : ∀ (f pos : Nat), s.size - pos ≤ f → (decide (0 ≤ Lib.idxFuncFrom badR true s f pos)) = !(((bs s).drop pos).all okB)
  | 0, pos, h => by
    rw [List.drop_eq_nil_of_le (by rw [bs_len]; omega)]; simp [Lib.idxFuncFrom]
  | f + 1, pos, h => by
    by_cases hp : pos < s.size
    · rw [drop_at s pos hp]
      simp only [Lib.idxFuncFrom, hp, if_true, List.all_cons]
      by_cases ha : s[pos].toNat < 128
      · rw [decode_ascii s pos hp ha]
        cases ho : okB s[pos]
        · have : badR s[pos].toNat = true := by simp only [okB, badR, Bool.and_eq_false_iff, decide_eq_false_iff_not, Bool.or_eq_true, decide_eq_true_eq] at *; omega
          simp [this]
        · have : badR s[pos].toNat = false := by simp only [okB, badR, Bool.and_eq_true, decide_eq_true_eq, Bool.or_eq_false_iff, decide_eq_false_iff_not] at *; omega
          simp only [this, Bool.false_eq_true, if_false, Bool.true_and]
          exact idx_bad s f (pos + 1) (by omega)
      · have h1 := decode_high s pos hp (by omega)
        have h2 : badR (Utf8.decode s pos).1 = true := by simp only [badR, Bool.or_eq_true, decide_eq_true_eq]; omega
        have h3 : okB s[pos] = false := by simp only [okB, Bool.and_eq_false_iff, decide_eq_false_iff_not]; omega
        simp [h2, h3]
    · rw [List.drop_eq_nil_of_le (by rw [bs_len]; omega), Lib.idxFuncFrom_end _ _ _ _ _ hp]; simp

theorem pred_bad (w : World) : PredAtRunes Tryd.prog 23 #[] badR w := by
  intro W x hx hb
  show Calls Tryd.prog 23 #[.int .i32 (x : Int)] W _
  have e1 : badR x = (decide ((x : Int) < 32) || decide (126 < (x : Int))) := by
    have a1 : decide (x < 32) = decide ((x : Int) < 32) := decide_eq_decide.2 (by omega)
    have a2 : decide (126 < x) = decide (126 < (x : Int)) := decide_eq_decide.2 (by omega)
    unfold badR; rw [a1, a2]
  rw [e1]
  by_cases h : (x : Int) < 32
  all_goals
    go_enter Tryd.func23, Tryd.ntmps23
    go_wp2
    go_ret
    exact ⟨ret_bool (by first | rfl | (simp; omega) | (simp [*])), 0, rfl⟩

theorem isName_any (s : ByteArray) (w : World) (hs : s.size ≤ 9223372036854775807) :
    Calls Tryd.prog 11 #[.string s] w fun e w' => e = .returned (.bool (isNameB (bs s))) ∧ Below w.heap.size w w' := by
  have hv : isNameB (bs s) = (!oddB (bs s) && (decide (s.size < 64) && !(!((bs s).all okB)))) := by unfold isNameB; rw [bs_len, Bool.not_not, Bool.and_assoc]
  have hi := idx_bad s s.size 0 (by omega)
  rw [List.drop_zero] at hi
  have HC := Lib.hid (fun w => Tryd.strings_ContainsFunc_runes 23 #[] (enters_of Tryd.func23 (by kernel_rfl) rfl) badR s w (pred_bad w))
  have HI : Hid (decide (0 ≤ Lib.idxFunc badR true s) = !((bs s).all okB)) := Lib.hid hi
  rw [hv]
  clear hi hv
  cases h1 : oddB (bs s) <;> by_cases h2 : s.size < 64 <;> cases h3 : (bs s).all okB
  all_goals
    have H1 := Lib.hid h1
    have H3 := Lib.hid h3
    clear h1 h3
    go_enter Tryd.func11, Tryd.ntmps11
    go_wp2_with (first | (go_at_call 21; refine (odd_any _ _).mono ?_; rw [H1.out]; rintro e w' ⟨rfl, rfl⟩) | (go_at_call 22; refine (HC.out _).mono ?_; rw [HI.out, H3.out]; rintro e w' ⟨rfl, hb⟩))
    all_goals (go_ret; exact ⟨ret_bool (by first | rfl | (simp; done) | (simp; omega) | (simp [*])), by first | exact Below.refl _ _ | assumption⟩)
end Go.Proofs.YtmdelgaeikicpaaDoor.Lx
