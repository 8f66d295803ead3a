/- Contracts of the reference's IsName and Show. -/
import Derived.Test.YtmdelgaeikicpaaDoorLexL
namespace Go.Proofs.YtmdelgaeikicpaaDoor.Lx
open Go.RowKit
set_option linter.unusedVariables false
set_option linter.unusedSimpArgs false

theorem all_drop (l : Bs) (k : Nat) (h : k < l.length) : (l.drop k).all okB = (okB l[k] && (l.drop (k + 1)).all okB) := by
  rw [List.drop_eq_getElem_cons h]; rfl
theorem risName_any (s : ByteArray) (w : World) (hs : s.size ≤ 9223372036854775807) :
    Calls Tryd.prog 12 #[.string s] w fun e w' => e = .returned (.bool (isNameB (bs s))) ∧ w = w' := by
  have hlen := bs_len s
  by_cases h0 : s.size = 0
  · obtain rfl := empty_of s h0
    go_enter Tryd.func12, Tryd.ntmps12
    go_wp2
    go_ret
    exact ⟨rfl, rfl⟩
  by_cases h64 : 64 ≤ s.size
  · have hv : isNameB (bs s) = false := by unfold isNameB; rw [hlen, decide_eq_false (by omega)]; simp
    have HV := Lib.hid hv
    clear hv hlen
    go_enter Tryd.func12, Tryd.ntmps12
    go_wp2
    go_ret
    exact ⟨ret_bool (by rw [HV.out]), rfl⟩
  have hpos : 0 < s.size := by omega
  have ho : oddB (bs s) = (upB s[0] || ((s[0].toNat : Int) == 64) || ((s[0].toNat : Int) == 36)) := by
    rw [head_of s hpos]; simp only [oddB]
    have a1 : decide (s[0].toNat = 64) = ((s[0].toNat : Int) == 64) := by rw [Bool.eq_iff_iff]; simp; omega
    have a2 : decide (s[0].toNat = 36) = ((s[0].toNat : Int) == 36) := by rw [Bool.eq_iff_iff]; simp; omega
    rw [a1, a2]
  have hv : isNameB (bs s) = (!oddB (bs s) && (bs s).all okB) := by unfold isNameB; rw [hlen, decide_eq_true (by omega)]; simp
  have HV := Lib.hid hv
  have HO := Lib.hid ho
  clear hv ho hlen
  cases h1 : upB s[0] <;> cases h2 : ((s[0].toNat : Int) == 64) <;> cases h3 : ((s[0].toNat : Int) == 36)
  all_goals
    have H1 := Lib.hid h1
    have H2 := Lib.hid h2
    have H3 := Lib.hid h3
    clear h1
  case false.false.false =>
    go_enter Tryd.func12, Tryd.ntmps12
    go_wp2_with (go_at_call 24; refine (rupper_any _ _).mono ?_; rw [H1.out]; rintro e w' ⟨rfl, rfl⟩)
    go_loop [3] (fun v => ∃ k : Nat, k ≤ s.size ∧ v = .int .i64 k ∧ (bs s).all okB = ((bs s).drop k).all okB) (fun v => s.size - (intOf v).toNat)
    case atStart => exact ⟨0, Nat.zero_le _, rfl, rfl⟩
    case round =>
      obtain ⟨k, hk, rfl, hal⟩ := hrel
      have HAL := Lib.hid hal
      clear hal
      by_cases hlt : k < s.size
      · have hd := all_drop (bs s) k (by rw [bs_len]; exact hlt)
        rw [bs_at s k hlt] at hd
        have HD := Lib.hid hd
        clear hd
        by_cases c1 : (s[k].toNat : Int) < 32
        · have HF := Lib.hid (show isNameB (bs s) = false by rw [HV.out, HAL.out, HD.out, show okB s[k] = false by simp only [okB, Bool.and_eq_false_iff, decide_eq_false_iff_not]; omega]; simp)
          go_wp2
          go_ret
          exact ⟨ret_bool (by rw [HF.out]), rfl⟩
        · by_cases c2 : 126 < (s[k].toNat : Int)
          · have HF := Lib.hid (show isNameB (bs s) = false by rw [HV.out, HAL.out, HD.out, show okB s[k] = false by simp only [okB, Bool.and_eq_false_iff, decide_eq_false_iff_not]; omega]; simp)
            go_wp2
            go_ret
            exact ⟨ret_bool (by rw [HF.out]), rfl⟩
          · have HF := Lib.hid (show (bs s).all okB = ((bs s).drop (k + 1)).all okB by rw [HAL.out, HD.out, show okB s[k] = true by simp only [okB, Bool.and_eq_true, decide_eq_true_eq]; omega]; simp)
            go_wp2
            go_round
            case rel => exact ⟨k + 1, by omega, by go_num, HF.out⟩
            case measure => simp [intOf]; omega
      · have HF := Lib.hid (show isNameB (bs s) = true by
          rw [HV.out, HAL.out, HO.out, H1.out, H2.out, H3.out, List.drop_eq_nil_of_le (by rw [bs_len]; omega)]; rfl)
        go_wp2
        go_ret
        exact ⟨ret_bool (by rw [HF.out]), rfl⟩
  all_goals
    have HF := Lib.hid (show isNameB (bs s) = false by rw [HV.out, HO.out, H1.out, H2.out, H3.out]; simp)
    go_enter Tryd.func12, Tryd.ntmps12
    go_wp2_with (go_at_call 24; refine (rupper_any _ _).mono ?_; rw [H1.out]; rintro e w' ⟨rfl, rfl⟩)
    all_goals (go_ret; exact ⟨ret_bool (by rw [HF.out]), rfl⟩)

theorem take_snocE (s : ByteArray) (k : Nat) (h : k < s.size) : ((bs s).take (k + 1)).flatMap escB = ((bs s).take k).flatMap escB ++ escB s[k] := by
  rw [List.take_succ_eq_append_getElem (by rw [bs_len]; exact h), bs_at s k h, List.flatMap_append]; simp
theorem bs_app (a b : ByteArray) : bs (a ++ b) = bs a ++ bs b := by simp [bs]
theorem bs_one (s : ByteArray) (k : Nat) (h : k < s.size) : bs (s.extract k (k + 1)) = [s[k]] := by
  have hd := drop_at s k h
  simp only [bs, ByteArray.data_extract, Array.toList_extract, List.extract] at hd ⊢
  rw [hd]; simp
theorem bs_inj {a b : ByteArray} (h : bs a = bs b) : a = b := by rw [← mk_bs a, ← mk_bs b, h]

theorem rshow_plain (s : ByteArray) (w : World) (hs : s.size ≤ 1048576) (hp : plainB (bs s) = true) :
    Calls Tryd.prog 18 #[.string s] w fun e w' => e = .returned (showV s) ∧ w = w' := by
  have hv : showV s = .string s := by unfold showV showB; rw [if_pos hp, mk_bs]
  have HP := Lib.hid hp
  have HV := Lib.hid hv
  clear hp hv
  go_enter Tryd.func18, Tryd.ntmps18
  go_wp2_with fail
  refine (rplain_any _ _ (by omega)).mono ?_
  rw [HP.out]
  rintro e w' ⟨rfl, rfl⟩
  go_wp2_with fail
  go_ret
  exact ⟨by rw [HV.out]; rfl, rfl⟩
set_option maxHeartbeats 1600000 in
theorem rshow_quoted (s : ByteArray) (w : World) (hs : s.size ≤ 1048576) (hp : plainB (bs s) = false) :
    Calls Tryd.prog 18 #[.string s] w fun e w' => e = .returned (showV s) ∧ w = w' := by
  have hv : ∀ t : ByteArray, bs t = 39 :: ((bs s).take s.size).flatMap escB → showV s = .string (t ++ ⟨#[39]⟩) := fun t ht => by
    have h1 : showB (bs s) = bs (t ++ ⟨#[39]⟩) := by
      rw [bs_app, ht, List.take_of_length_le (by rw [bs_len]; exact Nat.le_refl _)]; unfold showB; rw [hp]; simp [bs]
    unfold showV; rw [h1, mk_bs]
  have HP := Lib.hid hp
  have HV := Lib.hid hv
  clear hp hv
  go_enter Tryd.func18, Tryd.ntmps18
  go_wp2_with fail
  refine (rplain_any _ _ (by omega)).mono ?_
  rw [HP.out]
  rintro e w' ⟨rfl, rfl⟩
  go_wp2_with fail
  go_loop [3, 4] (fun u v => ∃ (k : Nat) (t : ByteArray), k ≤ s.size ∧ v = .int .i64 k ∧ u = .string t ∧ bs t = 39 :: ((bs s).take k).flatMap escB ∧ t.size ≤ 2 * k + 1) (fun _ v => s.size - (intOf v).toNat)
  case atStart => exact ⟨0, ⟨#[39]⟩, Nat.zero_le _, rfl, rfl, by simp [bs], by decide⟩
  case round =>
    obtain ⟨k, t, hk, rfl, rfl, hb, ht⟩ := hrel
    have HB := Lib.hid hb
    clear hb
    by_cases hlt : k < s.size
    · have hx : (s.extract k (k + 1)).size = 1 := by rw [ByteArray.size_extract]; omega
      have HX := Lib.hid hx
      have hx1 : (s.extract k (k + 1)).size ≤ 1 := by omega
      have ht2 : (t ++ ⟨#[92]⟩).size = t.size + 1 := by rw [ByteArray.size_append]; rfl
      have HT2 := Lib.hid ht2
      have ht3 : (t ++ ⟨#[92]⟩).size ≤ 2 * k + 2 := by omega
      clear hx ht2
      have HS := Lib.hid (take_snocE s k hlt)
      have HO := Lib.hid (bs_one s k hlt)
      by_cases c1 : s[k].toNat = 39 ∨ s[k].toNat = 92
      · have HE := Lib.hid (show bs ((t ++ ⟨#[92]⟩) ++ s.extract k (k + 1)) = 39 :: ((bs s).take (k + 1)).flatMap escB by
          rw [bs_app, bs_app, HB.out, HS.out, HO.out, show escB s[k] = [92, s[k]] from if_pos c1]; simp [bs])
        have HZ := Lib.hid (show ((t ++ ⟨#[92]⟩) ++ s.extract k (k + 1)).size ≤ 2 * (k + 1) + 1 by rw [ByteArray.size_append, HT2.out, HX.out]; omega)
        rcases c1 with c1 | c1
        · have d1 : ((s[k].toNat : Int) == 39) = true := by simp [c1]
          clear c1
          go_wp2
          go_round
          case rel => exact ⟨k + 1, _, by omega, by go_num, rfl, HE.out, HZ.out⟩
          case measure => simp [intOf]; omega
        · have d1 : ((s[k].toNat : Int) == 39) = false := by rw [beq_eq_false_iff_ne]; omega
          have d2 : ((s[k].toNat : Int) == 92) = true := by simp [c1]
          clear c1
          go_wp2
          go_round
          case rel => exact ⟨k + 1, _, by omega, by go_num, rfl, HE.out, HZ.out⟩
          case measure => simp [intOf]; omega
      · have HE := Lib.hid (show bs (t ++ s.extract k (k + 1)) = 39 :: ((bs s).take (k + 1)).flatMap escB by
          rw [bs_app, HB.out, HS.out, HO.out, show escB s[k] = [s[k]] from if_neg c1]; simp)
        have HZ := Lib.hid (show (t ++ s.extract k (k + 1)).size ≤ 2 * (k + 1) + 1 by rw [ByteArray.size_append, HX.out]; omega)
        have d1 : ((s[k].toNat : Int) == 39) = false := by rw [beq_eq_false_iff_ne]; omega
        have d2 : ((s[k].toNat : Int) == 92) = false := by rw [beq_eq_false_iff_ne]; omega
        clear c1
        go_wp2
        go_round
        case rel => exact ⟨k + 1, _, by omega, by go_num, rfl, HE.out, HZ.out⟩
        case measure => simp [intOf]; omega
    · obtain rfl : k = s.size := by omega
      have HE := Lib.hid (HV.out t HB.out)
      go_wp2
      go_ret
      exact ⟨by rw [HE.out]; rfl, rfl⟩
theorem rshow_any (s : ByteArray) (w : World) (hs : s.size ≤ 1048576) :
    Calls Tryd.prog 18 #[.string s] w fun e w' => e = .returned (showV s) ∧ w = w' := by
  cases hp : plainB (bs s)
  · exact rshow_quoted s w hs hp
  · exact rshow_plain s w hs hp
end Go.Proofs.YtmdelgaeikicpaaDoor.Lx
