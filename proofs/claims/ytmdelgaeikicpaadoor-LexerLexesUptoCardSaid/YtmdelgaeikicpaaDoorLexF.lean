/- Contract of package lexer's function token: dollar words, marks; all together. -/
import Derived.Test.YtmdelgaeikicpaaDoorLexE
namespace Go.Proofs.YtmdelgaeikicpaaDoor.Lx
open Go.RowKit
set_option linter.unusedVariables false
set_option linter.unusedSimpArgs false

set_option maxHeartbeats 1600000 in
set_option maxRecDepth 100000 in
theorem token_dollar (s : ByteArray) (w : World) (hs : s.size ≤ 1048576) (h0 : 1 ≤ s.size) (hc : s[0].toNat = 36) :
    Calls Tryd.prog 33 #[.string s] w fun e w' => e = .returned (tokV s) ∧ Below w.heap.size w w' := by
  obtain ⟨hl, hu⟩ := low_39 _ (.inr hc)
  obtain ⟨m, hm⟩ : ∃ m, span ((bs s).drop 1) = m := ⟨_, rfl⟩
  have hv : tokB (bs s) = if (bs s).take (1 + m) = trueB ∨ (bs s).take (1 + m) = falseB then .ok (3, (bs s).take (1 + m), 1 + m) else .error 20 := by
    rw [← hm]
    conv => lhs; rw [head_of s h0, tokB.eq_def]
    simp only [hl, hu, hc, if_true, Bool.false_eq_true, if_false, Nat.reduceEqDiff, ← head_of s h0, Nat.add_comm 1]
  have hle : 1 + m ≤ s.size := by have := span_le ((bs s).drop 1); rw [hm, List.length_drop, bs_len] at this; omega
  have HV := Lib.hid hv
  have HL := Lib.hid hl
  have HU := Lib.hid hu
  have e39 : ((s[0].toNat : Int) == 39) = false := by simp [hc]
  have e36 : ((s[0].toNat : Int) == 36) = true := by simp [hc]
  have HP := Lib.hid (fun w => prefix_any (s.extract 1 s.size) w (by rw [ByteArray.size_extract]; omega))
  have HM := Lib.hid (show span (bs (s.extract 1 s.size)) = m by rw [bs_drop]; exact hm)
  clear hv hl hu hc hm
  have ht : (s.extract 0 (1 + m)).toList = (bs s).take (1 + m) := by rw [ByteArray.toList_eq]; exact bs_take s (1 + m)
  have HT := Lib.hid (mk_take s (1 + m))
  have hlen : ((bs s).take (1 + m)).length = 1 + m := by rw [List.length_take, bs_len]; omega
  by_cases q1 : (bs s).take (1 + m) = trueB
  · have HQ := Lib.hid (show tokB (bs s) = .ok (3, (bs s).take (1 + m), 1 + m) by rw [HV.out, if_pos (.inl q1)])
    have p1 : ((s.extract 0 (1 + m)).toList == [36, 116, 114, 117, 101]) = true := by rw [ht, q1]; rfl
    have p2 : (s.extract 0 (1 + m)).toList = [36, 116, 114, 117, 101] := by rw [ht, q1]; rfl
    have hm5 : min (1 + m) s.size < 64 := by rw [q1] at hlen; simp [trueB] at hlen; omega
    clear hlen q1 ht
    go_enter Tryd.func33, Tryd.ntmps33
    go_wp2_with fail
    refine (lower_any _ _).mono ?_
    rw [HL.out]
    rintro e w' ⟨rfl, rfl⟩
    go_wp2_with fail
    refine (upper_any _ _).mono ?_
    rw [HU.out]
    rintro e w' ⟨rfl, rfl⟩
    go_wp2_with fail
    refine (HP.out _).mono ?_
    rw [HM.out]
    rintro e w' ⟨rfl, rfl⟩
    go_wp2_with fail
    refine token_ret (Blk.new _ _ [_, _, _]) rfl rfl rfl ⟨?_, (Below.refl _ _).alloc (Nat.le_refl _) _⟩
    unfold tokV; rw [HQ.out]
    simp only [tokR]; rw [HT.out]; simp
  · by_cases q2 : (bs s).take (1 + m) = falseB
    · have HQ := Lib.hid (show tokB (bs s) = .ok (3, (bs s).take (1 + m), 1 + m) by rw [HV.out, if_pos (.inr q2)])
      have p1 : ((s.extract 0 (1 + m)).toList == [36, 116, 114, 117, 101]) = false := by rw [ht, q2]; rfl
      have p2 : ¬ (s.extract 0 (1 + m)).toList = [36, 116, 114, 117, 101] := by rw [ht, q2]; decide
      have p3 : ((s.extract 0 (1 + m)).toList == [36, 102, 97, 108, 115, 101]) = true := by rw [ht, q2]; rfl
      have hm5 : min (1 + m) s.size < 64 := by rw [q2] at hlen; simp [falseB] at hlen; omega
      clear hlen q1 q2 ht
      go_enter Tryd.func33, Tryd.ntmps33
      go_wp2_with fail
      refine (lower_any _ _).mono ?_
      rw [HL.out]
      rintro e w' ⟨rfl, rfl⟩
      go_wp2_with fail
      refine (upper_any _ _).mono ?_
      rw [HU.out]
      rintro e w' ⟨rfl, rfl⟩
      go_wp2_with fail
      refine (HP.out _).mono ?_
      rw [HM.out]
      rintro e w' ⟨rfl, rfl⟩
      go_wp2_with fail
      refine token_ret (Blk.new _ _ [_, _, _]) rfl rfl rfl ⟨?_, (Below.refl _ _).alloc (Nat.le_refl _) _⟩
      unfold tokV; rw [HQ.out]
      simp only [tokR]; rw [HT.out]; simp
    · have HQ := Lib.hid (show tokB (bs s) = .error 20 by rw [HV.out, if_neg (by simp [q1, q2])])
      have p2 : ¬ (s.extract 0 (1 + m)).toList = [36, 116, 114, 117, 101] := by rw [ht]; exact q1
      have p1 : ((s.extract 0 (1 + m)).toList == [36, 116, 114, 117, 101]) = false := by rw [beq_eq_false_iff_ne]; exact p2
      have p3 : ((s.extract 0 (1 + m)).toList == [36, 102, 97, 108, 115, 101]) = false := by rw [beq_eq_false_iff_ne, ht]; exact q2
      clear hlen q1 q2 ht
      go_enter Tryd.func33, Tryd.ntmps33
      go_wp2_with fail
      refine (lower_any _ _).mono ?_
      rw [HL.out]
      rintro e w' ⟨rfl, rfl⟩
      go_wp2_with fail
      refine (upper_any _ _).mono ?_
      rw [HU.out]
      rintro e w' ⟨rfl, rfl⟩
      go_wp2_with fail
      refine (HP.out _).mono ?_
      rw [HM.out]
      rintro e w' ⟨rfl, rfl⟩
      go_wp2_with fail
      refine token_ret (Blk.new _ _ [_, _, _]) rfl rfl rfl ⟨?_, (Below.refl _ _).alloc (Nat.le_refl _) _⟩
      unfold tokV; rw [HQ.out]; rfl

theorem marks_at (l : Bs) (k : Nat) (h : k < 15) : (marks.drop k).find? (fun m => m.isPrefixOf l) = if (marks[k]'(by simpa [marks] using h)).isPrefixOf l then some (marks[k]'(by simpa [marks] using h)) else (marks.drop (k + 1)).find? fun m => m.isPrefixOf l := by
  rw [List.drop_eq_getElem_cons (by simpa [marks] using h), List.find?_cons]
  split <;> simp_all
def markArr : Array Value := #[.string ⟨#[60, 61, 62]⟩, .string ⟨#[61, 62]⟩, .string ⟨#[33, 61]⟩, .string ⟨#[40]⟩, .string ⟨#[41]⟩, .string ⟨#[91]⟩, .string ⟨#[93]⟩, .string ⟨#[44]⟩, .string ⟨#[58]⟩, .string ⟨#[33]⟩, .string ⟨#[63]⟩, .string ⟨#[126]⟩, .string ⟨#[38]⟩, .string ⟨#[124]⟩, .string ⟨#[61]⟩]
theorem idx_at (k : Nat) (h : k < 15) : ∀ w, (Instr.index 59 (.agg #[.string ⟨#[60, 61, 62]⟩, .string ⟨#[61, 62]⟩, .string ⟨#[33, 61]⟩, .string ⟨#[40]⟩, .string ⟨#[41]⟩, .string ⟨#[91]⟩, .string ⟨#[93]⟩, .string ⟨#[44]⟩, .string ⟨#[58]⟩, .string ⟨#[33]⟩, .string ⟨#[63]⟩, .string ⟨#[126]⟩, .string ⟨#[38]⟩, .string ⟨#[124]⟩, .string ⟨#[61]⟩]) (.int .i64 k)).run Tryd.prog w = .ok (.string ⟨(marks[k]'(by simpa [marks] using h)).toArray⟩) w := by
  intro w
  have hk : k = 0 ∨ k = 1 ∨ k = 2 ∨ k = 3 ∨ k = 4 ∨ k = 5 ∨ k = 6 ∨ k = 7 ∨ k = 8 ∨ k = 9 ∨ k = 10 ∨ k = 11 ∨ k = 12 ∨ k = 13 ∨ k = 14 := by omega
  rcases hk with rfl | rfl | rfl | rfl | rfl | rfl | rfl | rfl | rfl | rfl | rfl | rfl | rfl | rfl | rfl <;> rfl
set_option maxHeartbeats 4000000 in
set_option maxRecDepth 100000 in
theorem token_mark (s : ByteArray) (w : World) (hs : s.size ≤ 1048576) (h0 : 1 ≤ s.size) (hl : lowB s[0] = false) (hu : upB s[0] = false) (h1 : s[0].toNat ≠ 39) (h2 : s[0].toNat ≠ 36) :
    Calls Tryd.prog 33 #[.string s] w fun e w' => e = .returned (tokV s) ∧ Below w.heap.size w w' := by
  have hv : tokB (bs s) = match markB (bs s) with
      | none => .error 20
      | some m => .ok (4, m, m.length) := by
    conv => lhs; rw [head_of s h0, tokB.eq_def]
    simp only [hl, hu, h1, h2, Bool.false_eq_true, if_false, ← head_of s h0]
    rfl
  have HV := Lib.hid hv
  have HL := Lib.hid hl
  have HU := Lib.hid hu
  have e39 : ((s[0].toNat : Int) == 39) = false := by rw [beq_eq_false_iff_ne]; omega
  have e36 : ((s[0].toNat : Int) == 36) = false := by rw [beq_eq_false_iff_ne]; omega
  clear hv hl hu h1 h2
  go_enter Tryd.func33, Tryd.ntmps33
  go_wp2_with fail
  refine (lower_any _ _).mono ?_
  rw [HL.out]
  rintro e w' ⟨rfl, rfl⟩
  go_wp2_with fail
  refine (upper_any _ _).mono ?_
  rw [HU.out]
  rintro e w' ⟨rfl, rfl⟩
  go_wp2_with fail
  go_loop [13] (fun i => ∃ k : Nat, k ≤ 15 ∧ i = .int .i64 k ∧ markB (bs s) = (marks.drop k).find? fun m => m.isPrefixOf (bs s)) (fun i => 15 - (intOf i).toNat)
  case atStart => exact ⟨0, by omega, rfl, rfl⟩
  case round =>
    obtain ⟨k, hk, rfl, hm⟩ := hrel
    have HM := Lib.hid hm
    clear hm
    by_cases hlt : k < 15
    · have hidx := idx_at k hlt
      have ha := marks_at (bs s) k hlt
      obtain ⟨p, hp⟩ : ∃ p, marks[k]'(by simpa [marks] using hlt) = p := ⟨_, rfl⟩
      rw [hp] at hidx ha
      have hpl : p.length ≤ 3 := by
        have := List.getElem_mem (l := marks) (n := k) (by simpa [marks] using hlt)
        rw [hp] at this
        simp only [marks, List.mem_cons, List.not_mem_nil, or_false] at this
        rcases this with rfl | rfl | rfl | rfl | rfl | rfl | rfl | rfl | rfl | rfl | rfl | rfl | rfl | rfl | rfl <;> decide
      clear hp
      cases hpre : p.isPrefixOf (bs s)
      · have HN := Lib.hid (show markB (bs s) = (marks.drop (k + 1)).find? fun m => m.isPrefixOf (bs s) by rw [HM.out, ha, hpre]; simp)
        have HP := Lib.hid (show Lib.hasPrefix s.data.toList (⟨p.toArray⟩ : ByteArray).data.toList = false from hpre)
        clear hpre ha
        go_wp2_with fail
        refine (Tryd.strings_HasPrefix s ⟨p.toArray⟩ _).mono ?_
        rw [HP.out]
        rintro e w' ⟨rfl, rfl⟩
        go_wp2_with fail
        go_round
        case rel => exact ⟨k + 1, by omega, by go_num, HN.out⟩
        case measure => simp [intOf]; omega
      · have HN := Lib.hid (show tokB (bs s) = .ok (4, p, p.length) by rw [HV.out, HM.out, ha, hpre]; simp)
        have HP := Lib.hid (show Lib.hasPrefix s.data.toList (⟨p.toArray⟩ : ByteArray).data.toList = true from hpre)
        clear hpre ha
        go_wp2_with fail
        refine (Tryd.strings_HasPrefix s ⟨p.toArray⟩ _).mono ?_
        rw [HP.out]
        rintro e w' ⟨rfl, rfl⟩
        go_wp2_with fail
        refine token_ret (Blk.new _ _ [_, _, _]) rfl rfl rfl ⟨?_, (Below.refl _ _).alloc (Nat.le_refl _) _⟩
        unfold tokV; rw [HN.out]; rfl
    · have HN := Lib.hid (show tokB (bs s) = .error 20 by rw [HV.out, HM.out, List.drop_eq_nil_of_le (by simp [marks]; omega)]; rfl)
      go_wp2_with fail
      refine token_ret (Blk.new _ _ [_, _, _]) rfl rfl rfl ⟨?_, (Below.refl _ _).alloc (Nat.le_refl _) _⟩
      unfold tokV; rw [HN.out]; rfl

theorem token_any (s : ByteArray) (w : World) (hs : s.size ≤ 1048576) (h0 : 1 ≤ s.size) :
    Calls Tryd.prog 33 #[.string s] w fun e w' => e = .returned (tokV s) ∧ Below w.heap.size w w' := by
  cases hl : lowB s[0]
  · cases hu : upB s[0]
    · by_cases h1 : s[0].toNat = 39
      · exact token_quote s w hs h0 h1
      · by_cases h2 : s[0].toNat = 36
        · exact token_dollar s w hs h0 h2
        · exact token_mark s w hs h0 hl hu h1 h2
    · exact token_up s w hs h0 hl hu
  · exact token_low s w hs h0 hl
end Go.Proofs.YtmdelgaeikicpaaDoor.Lx
