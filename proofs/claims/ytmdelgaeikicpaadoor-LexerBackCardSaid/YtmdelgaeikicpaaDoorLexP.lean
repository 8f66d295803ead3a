/- What is shown is read as it: plain law; and the walk of the law LexerBack. -/
import Derived.Test.YtmdelgaeikicpaaDoorLexM
import Derived.Test.YtmdelgaeikicpaaDoorLexJ
namespace Go.Proofs.YtmdelgaeikicpaaDoor.Lx
open Go.RowKit
set_option linter.unusedVariables false
set_option linter.unusedSimpArgs false

theorem quot_esc_all : ∀ (l r : Bs), l.all okB = true → quot (l.flatMap escB ++ 39 :: r) = some (l, (l.flatMap escB).length + 1)
  | [], r, _ => by simp [quot_close]
  | c :: l, r, h => by
    simp only [List.all_cons, Bool.and_eq_true] at h
    have ih := quot_esc_all l r h.2
    rw [List.flatMap_cons, List.append_assoc]
    by_cases hc : c.toNat = 39 ∨ c.toNat = 92
    · rw [show escB c = [92, c] from if_pos hc]
      show quot (92 :: c :: (l.flatMap escB ++ 39 :: r)) = _
      rw [quot_esc 92 c _ rfl hc, ih]; simp
    · rw [show escB c = [c] from if_neg hc]
      show quot (c :: (l.flatMap escB ++ 39 :: r)) = _
      rw [quot_step c _ (fun e => hc (.inl e)) (fun e => hc (.inr e)) h.1, ih]; simp
theorem not_blank_low {c : UInt8} (h : lowB c = true) : blankB c = false ∧ c.toNat ≠ 37 := by
  simp only [lowB, Bool.and_eq_true, decide_eq_true_eq] at h
  simp only [blankB, Bool.or_eq_false_iff, decide_eq_false_iff_not]
  omega
theorem itemsOf_step (l : Bs) (c : UInt8) (r : Bs) (hl : l = c :: r) (hb : blankB c = false) (h37 : c.toNat ≠ 37) : itemsOf l = match tokB l with
      | .error e => [⟨0, 0, [], e⟩]
      | .ok (kd, t, n) => ⟨kd, 0, t, 0⟩ :: itemsAt l n := by
  have h := itemsAt_step l 0 (by rw [hl]; simp)
  rw [itemsAt_zero] at h
  simp only [hl, List.getElem_cons_zero] at h
  rw [hl, h, hb, if_neg h37]
  simp
  rfl
theorem lex_show (l : Bs) (h : isNameB l = true) : lexB (showB l) = ([⟨1, 0, l⟩], 0, 0) := by
  unfold isNameB at h
  simp only [Bool.and_eq_true, Bool.not_eq_true', decide_eq_true_eq] at h
  obtain ⟨⟨ho, hlen⟩, hall⟩ := h
  unfold lexB showB
  cases hp : plainB l
  · rw [if_neg (by simp)]
    have hq := quot_esc_all l [] hall
    have ht : tokB (39 :: (l.flatMap escB ++ [39])) = .ok (1, l, (l.flatMap escB).length + 2) := by
      rw [tokB.eq_def]; simp only
      rw [if_neg (by decide), if_neg (by decide), if_pos (by decide), hq]
      simp only
      rw [if_neg (by rw [ho]; simp), if_pos hlen]
    rw [show 39 :: l.flatMap escB ++ [39] = 39 :: (l.flatMap escB ++ [39]) from rfl, itemsOf_step _ 39 _ rfl (by decide) (by decide), ht]
    simp only
    rw [itemsAt_end _ _ (by simp)]
    simp [folded]
  · rw [if_pos rfl]
    cases l with
    | nil => simp [plainB] at hp
    | cons c r =>
      simp only [plainB, Bool.and_eq_true, beq_iff_eq] at hp
      obtain ⟨hb, h37⟩ := not_blank_low hp.1
      have ht : tokB (c :: r) = .ok (1, c :: r, (c :: r).length) := by
        rw [tokB.eq_def]; simp only
        rw [if_pos hp.1, hp.2, if_pos hlen, List.take_length]
      rw [itemsOf_step _ c r rfl hb h37, ht]
      simp only
      rw [itemsAt_end _ _ (Nat.le_refl _)]
      simp [folded]
theorem esc_len : ∀ l : Bs, (l.flatMap escB).length ≤ 2 * l.length
  | [] => by simp
  | x :: r => by
    have ih := esc_len r
    have h : (escB x).length ≤ 2 := by unfold escB; split <;> simp
    rw [List.flatMap_cons, List.length_append, List.length_cons]; omega
theorem show_len (l : Bs) : (showB l).length ≤ 2 * l.length + 2 := by
  have h := esc_len l
  unfold showB
  split
  · omega
  · rw [List.length_append, List.length_cons]
    simp only [List.length_singleton]; omega

set_option maxRecDepth 100000 in
set_option maxHeartbeats 1600000 in
theorem back_walk (s : ByteArray) (w : World) (m : Int) (hs2 : s.size ≤ 9223372036854775807) (hm : w.cell? ⟨0, 0, none⟩ = some (.int .i64 m)) :
    Calls Tryd.prog 5 #[.string s] w fun e w' => e = .returned (.bool true) ∧ Below w.heap.size w w' := by
  have h0 := World.block_lt_of_cell? w _ hm
  have HM := Lib.hid hm
  clear hm
  cases hn : isNameB (bs s)
  · have HN := Lib.hid hn
    clear hn
    go_enter Tryd.func5, Tryd.ntmps5
    go_wp2_with fail
    refine (isName_any s _ hs2).mono ?_
    rw [HN.out]
    rintro e w1 ⟨rfl, hb1⟩
    have HB1 := Lib.hid hb1
    clear hb1
    go_wp2_with fail
    refine (risName_any s _ hs2).mono ?_
    rw [HN.out]
    rintro e w' ⟨rfl, rfl⟩
    go_wp2_with fail
    have hm1 := (HB1.out.cell (p := ⟨0, 0, none⟩) (by exact h0)).trans HM.out
    have HM1 := Lib.hid hm1
    clear hm1
    refine (alive_any _ m HM1.out).mono ?_
    rintro e w3 ⟨rfl, hb3⟩
    have HB3 := Lib.hid (HB1.out.trans (hb3.mono HB1.out.size))
    clear hb3
    go_wp2_with fail
    go_ret
    exact ⟨rfl, HB3.out⟩
  · have HN := Lib.hid hn
    have hlex := lex_show (bs s) hn
    have hlen : s.size < 64 := by
      unfold isNameB at hn; simp only [Bool.and_eq_true, decide_eq_true_eq] at hn; rw [bs_len] at hn; exact hn.1.2
    have hsl := show_len (bs s)
    rw [bs_len] at hsl
    obtain ⟨T, hT⟩ : ∃ T : ByteArray, T = ⟨(showB (bs s)).toArray⟩ := ⟨_, rfl⟩
    have hbT : bs T = showB (bs s) := by subst hT; rfl
    have hTs : T.size ≤ 1048576 := by rw [← bs_len, hbT]; omega
    have HT : Hid (showV s = .string T) := Lib.hid (by subst hT; rfl)
    have HX : Hid (lexB (bs T) = ([⟨1, 0, bs s⟩], 0, 0)) := Lib.hid (by rw [hbT]; exact hlex)
    clear hn hlex hsl hT hbT
    go_enter Tryd.func5, Tryd.ntmps5
    go_wp2_with fail
    refine (isName_any s _ hs2).mono ?_
    rw [HN.out]
    rintro e w1 ⟨rfl, hb1⟩
    have HB1 := Lib.hid hb1
    clear hb1
    go_wp2_with fail
    have hm1 := (HB1.out.cell (p := ⟨0, 0, none⟩) (by exact h0)).trans HM.out
    have HM1 := Lib.hid hm1
    clear hm1
    refine (show_any s _ m (by omega) HM1.out).mono ?_
    rw [HT.out]
    rintro e w2 ⟨rfl, hb2⟩
    have HB2 := Lib.hid (HB1.out.trans (hb2.mono HB1.out.size))
    clear hb2
    go_wp2_with fail
    refine (lex_any T hTs w2).mono ?_
    rintro e w3 ⟨v, rfl, hb3, ho⟩
    rw [HX.out] at ho
    rw [HX.out]
    obtain ⟨g, cap, rest, rfl, hg, hc1, hc2, hk⟩ := own_row ho (Nat.le_refl 1)
    have a0 := hk.cell 0
    have a1 := hk.cell 1
    have a2 := hk.cell 2
    simp at a0 a1 a2
    rw [show (⟨(bs s).toArray⟩ : ByteArray) = s from mk_bs s] at a2
    have HB3 := Lib.hid (HB2.out.trans (hb3.mono HB2.out.size))
    clear hb3 ho hk
    have hm3 := (HB3.out.cell (p := ⟨0, 0, none⟩) (by exact h0)).trans HM.out
    have HM3 := Lib.hid hm3
    clear hm3
    go_wp2_with fail
    refine (alive_any _ m HM3.out).mono ?_
    rintro e w4 ⟨rfl, hb4⟩
    have HB4 := Lib.hid (HB3.out.trans (hb4.mono HB3.out.size))
    clear hb4
    go_wp2_with fail
    go_ret
    exact ⟨rfl, HB4.out⟩
end Go.Proofs.YtmdelgaeikicpaaDoor.Lx
