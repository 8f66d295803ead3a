/- What the reference's printed functions answer: plain law, second half. -/
import Derived.Test.YtmdelgaeikicpaaDoorLexS
import Derived.Test.YtmdelgaeikicpaaDoorLexQ
import Derived.Test.YtmdelgaeikicpaaDoorPLexx3
namespace Go.Proofs.YtmdelgaeikicpaaDoor.Lx
open Go.RowKit Go.Proofs.YtmdelgaeikicpaaDoor.PLex Go.Proofs.YtmdelgaeikicpaaDoorW.PrintWords
set_option linter.unusedVariables false
set_option linter.unusedSimpArgs false

theorem ext_take (s : ByteArray) (i n : Nat) : s.extract ((i : Int)).toNat ((i : Int) + n).toNat = ⟨(((bs s).drop i).take n).toArray⟩ := by
  apply bs_inj
  rw [bs_mk, show ((i : Int)).toNat = i by omega, show ((i : Int) + n).toNat = i + n by omega]
  simp [bs, ByteArray.data_extract, Array.toList_extract, List.extract]
def oneR (i : Nat) : Except Int (Int × Bs × Nat) → Int × Int × ByteArray × Int × Int
  | .error e => (0, 0, ⟨#[]⟩, 0, e)
  | .ok (k, t, n) => (k, i, ⟨t.toArray⟩, (i : Int) + n, 0)
theorem p_word (s : ByteArray) (hs : s.size ≤ 1048576) (i k : Nat) (hi : i < s.size) (hk : s.size + 2 ≤ k) (h : lowB s[i] = true ∨ upB s[i] = true) :
    assizeref12_one.j0 (k + 1) s i (s[i].toNat : Int) true = some (oneR i (tokB ((bs s).drop i))) := by
  have hsp := span_le ((bs s).drop i)
  rw [List.length_drop, bs_len] at hsp
  rw [assizeref12_one.j0, if_pos rfl, p_run s hs k i (by omega) (by omega)]
  simp only [Option.bind_some]
  have ht : tokB ((bs s).drop i) = if span ((bs s).drop i) < 64 then .ok (if upB s[i] then 2 else 1, ((bs s).drop i).take (span ((bs s).drop i)), span ((bs s).drop i)) else .error 3 := by
    rw [drop_at s i hi, tokB.eq_def]
    simp only
    by_cases hl : lowB s[i] = true
    · have hu : upB s[i] = false := by simp only [lowB, Bool.and_eq_true, decide_eq_true_eq] at hl; simp only [upB, Bool.and_eq_false_iff, decide_eq_false_iff_not]; omega
      rw [if_pos hl, hu]; simp
    · have hu : upB s[i] = true := by rcases h with h | h; exact absurd h hl; exact h
      rw [if_neg hl, if_pos hu, hu]; simp
  rw [ht, w64 (by omega) (by omega)]
  obtain ⟨n, hn⟩ : ∃ n, span ((bs s).drop i) = n := ⟨_, rfl⟩
  rw [hn] at hsp ⊢
  by_cases h64 : n < 64
  · rw [if_neg (by omega), p_up, if_pos h64]
    simp only [Option.bind_some]
    rw [if_pos (show 0 ≤ (i : Int) by omega), if_pos (show (i : Int) ≤ (i : Int) + (n : Nat) by omega), if_pos (show (i : Int) + (n : Nat) ≤ (s.size : Int) by omega), ext_take]
    cases upB s[i]
    · rw [if_neg (show ¬ (false = true) by simp), if_pos (show 0 ≤ (i : Int) by omega), if_pos (show (i : Int) ≤ (i : Int) + (n : Nat) by omega), if_pos (show (i : Int) + (n : Nat) ≤ (s.size : Int) by omega)]; rfl
    · rfl
  · rw [if_pos (by omega), if_neg h64]; rfl
theorem p_one (s : ByteArray) (hs : s.size ≤ 1048576) (i k : Nat) (hi : i < s.size) (hk : 2 * s.size + 40 ≤ k) : assizeref12_one.f k s i = some (oneR i (tokB ((bs s).drop i))) := by
  obtain ⟨k, rfl⟩ : ∃ j, k = j + 1 := ⟨k - 1, by omega⟩
  unfold assizeref12_one.f
  rw [if_pos (by omega), if_pos (by omega), bt_eq s i hi, p_low]
  simp only [Option.bind_some]
  by_cases hl : lowB s[i] = true
  · rw [if_pos hl]; exact p_word s hs i k hi (by omega) (.inl hl)
  rw [if_neg hl, p_up]
  simp only [Option.bind_some]
  by_cases hu : upB s[i] = true
  · rw [hu]; exact p_word s hs i k hi (by omega) (.inr hu)
  have hu2 : upB s[i] = false := by simpa using hu
  have hd := drop_at s i hi
  rw [hu2, assizeref12_one.j0, if_neg (by simp)]
  by_cases c1 : s[i].toNat = 39
  · have hq := p_quoted s hs k (i + 1) ⟨#[]⟩ (by omega) (by show 0 ≤ _; omega) (by omega)
    have ht : tokB ((bs s).drop i) = match quot ((bs s).drop (i + 1)) with
      | none => .error 20
      | some (name, n) => if oddB name then .error 20 else if name.length < 64 then .ok (1, name, n + 1) else .error 3 := by
      rw [hd, tokB.eq_def]; simp only
      rw [if_neg hl, if_neg hu, if_pos c1]
      rfl
    rw [if_pos (by omega)]
    unfold assizeref12_quoted.f
    rw [w64 (by omega) (by omega), show (i : Int) + 1 = ((i + 1 : Nat) : Int) by omega, hq, ht]
    obtain ⟨k, rfl⟩ : ∃ j, k = j + 1 := ⟨k - 1, by omega⟩
    cases hqq : quot ((bs s).drop (i + 1)) with
    | none =>
      simp only [Option.bind_some, quotRes]
      rw [if_neg (by simp), assizeref12_one.j1, if_pos rfl]; rfl
    | some p =>
      obtain ⟨n, m⟩ := p
      simp only [Option.bind_some, quotRes, if_true]
      have hx : (⟨#[]⟩ : ByteArray) ++ ⟨n.toArray⟩ = ⟨n.toArray⟩ := by apply bs_inj; rw [bs_app]; simp [bs]
      rw [hx, ByteArray.toList_eq]
      show (if n = [] then _ else _) = _
      cases n with
      | nil => rw [if_pos rfl, assizeref12_one.j1, if_pos rfl]; rfl
      | cons d n =>
        rw [if_neg (by simp), if_pos (by show (0 : Int) < ((n.length + 1 : Nat) : Int); omega)]
        have hb : bt ⟨(d :: n).toArray⟩ 0 = (d.toNat : Int) := bt_eq ⟨(d :: n).toArray⟩ 0 (Nat.succ_pos _)
        rw [hb, p_up]
        simp only [Option.bind_some]
        have hodd : oddB (d :: n) = (upB d || decide (d.toNat = 64) || decide (d.toNat = 36)) := rfl
        have hj : ∀ b : Bool, assizeref12_one.j1 (k + 1) i ⟨(d :: n).toArray⟩ ((i + 1 + m : Nat) : Int) b = some (oneR i (if b then .error 20 else if (d :: n).length < 64 then .ok (1, d :: n, m + 1) else .error 3)) := by
          intro b
          rw [assizeref12_one.j1]
          cases b
          · simp only [Bool.false_eq_true, if_false]
            have hsz : ((⟨(d :: n).toArray⟩ : ByteArray).size : Int) = ((d :: n).length : Nat) := by simp [ByteArray.size]
            rw [hsz]
            by_cases h64 : (d :: n).length < 64
            · rw [if_neg (by omega), if_pos h64]; simp only [oneR]; congr 5; omega
            · rw [if_pos (by omega), if_neg h64]; rfl
          · rfl
        by_cases e1 : upB d = true
        · have ho : oddB (d :: n) = true := by rw [hodd, e1]; rfl
          rw [if_pos e1, hj, ho]
        · have e1' : upB d = false := by simpa using e1
          rw [if_neg e1]
          by_cases e2 : d.toNat = 64
          · have ho : oddB (d :: n) = true := by rw [hodd, e2]; simp
            rw [if_pos (by omega), hj, ho]
          · have e3 : ((d.toNat : Int) == 36) = oddB (d :: n) := by
              rw [hodd, e1', Bool.eq_iff_iff]; simp [e2]; omega
            rw [if_neg (by omega), e3, hj]
  rw [if_neg (by omega)]
  by_cases c2 : s[i].toNat = 36
  · have hsp := span_le ((bs s).drop (i + 1))
    rw [List.length_drop, bs_len] at hsp
    have ht : tokB ((bs s).drop i) = if ((bs s).drop i).take (span ((bs s).drop (i + 1)) + 1) = trueB ∨ ((bs s).drop i).take (span ((bs s).drop (i + 1)) + 1) = falseB then .ok (3, ((bs s).drop i).take (span ((bs s).drop (i + 1)) + 1), span ((bs s).drop (i + 1)) + 1) else .error 20 := by
      rw [hd, tokB.eq_def]; simp only
      rw [if_neg hl, if_neg hu, if_neg c1, if_pos c2]
    rw [if_pos (by omega), w64 (by omega) (by omega), show (i : Int) + 1 = ((i + 1 : Nat) : Int) by omega, p_run s hs k (i + 1) (by omega) (by omega), ht]
    simp only [Option.bind_some]
    obtain ⟨n, hn⟩ : ∃ n, span ((bs s).drop (i + 1)) = n := ⟨_, rfl⟩
    rw [hn] at hsp ⊢
    obtain ⟨k, rfl⟩ : ∃ j, k = j + 1 := ⟨k - 1, by omega⟩
    rw [show ((i + 1 : Nat) : Int) + (n : Nat) = (i : Int) + ((n + 1 : Nat) : Int) by omega, ext_take]
    rw [if_pos (by omega), if_pos (by omega), if_pos (by omega), ByteArray.toList_eq]
    generalize ((bs s).drop i).take (n + 1) = t
    show (if t = [36, 116, 114, 117, 101] then _ else assizeref12_one.j2 _ _ _ _ (t == [36, 102, 97, 108, 115, 101])) = _
    by_cases q1 : t = [36, 116, 114, 117, 101]
    · rw [if_pos q1, assizeref12_one.j2, if_pos rfl, if_pos (.inl q1)]; rfl
    · rw [if_neg q1, assizeref12_one.j2]
      by_cases q2 : t = [36, 102, 97, 108, 115, 101]
      · rw [if_pos (by rw [beq_iff_eq]; exact q2), if_pos (.inr q2)]; rfl
      · rw [if_neg (by rw [beq_iff_eq]; exact q2), if_neg (fun h => by rcases h with h | h; exact q1 h; exact q2 h)]; rfl
  · rw [if_neg (by omega), p_mark s hs i (by omega) k (by omega)]
    simp only [Option.bind_some]
    have ht : tokB ((bs s).drop i) = match markB ((bs s).drop i) with
      | none => .error 20
      | some m => .ok (4, m, m.length) := by
      conv => lhs; rw [hd, tokB.eq_def]
      simp only
      rw [if_neg hl, if_neg hu, if_neg c1, if_neg c2, ← hd]
      rfl
    rw [ht]
    cases hm : markB ((bs s).drop i) with
    | none => rw [if_pos (by rw [ByteArray.toList_eq]; rfl)]; rfl
    | some m =>
      obtain ⟨h1, h2, h3⟩ := markB_some hm
      rw [if_neg (by rw [ByteArray.toList_eq]; show ¬ m = []; intro e; subst e; simp at h2)]
      have hsz : ((⟨m.toArray⟩ : ByteArray).size : Int) = (m.length : Nat) := by simp [ByteArray.size]
      show some ((4 : Int), (i : Int), (⟨m.toArray⟩ : ByteArray), wrap64 ((i : Int) + ((⟨m.toArray⟩ : ByteArray).size : Int)), (0 : Int)) = _
      rw [hsz, w64 (by omega) (by omega)]; rfl

def toS (x : Tok) : S39 := ⟨x.kind, x.pos, ⟨x.text.toArray⟩⟩
theorem p_lex0 (s : ByteArray) (hs : s.size ≤ 1048576) : ∀ (k i : Nat) (L : List Tok), i ≤ s.size → L.length ≤ i → 2 * (s.size - i) + 2 * s.size + 60 ≤ k →
    assizeref12_Lex.l0 k s (L.map toS) i = some ((folded (itemsAt (bs s) i) L).1.map toS, (folded (itemsAt (bs s) i) L).2.1, (folded (itemsAt (bs s) i) L).2.2)
  | 0, i, L, _, _, h => by omega
  | 1, i, L, _, _, h => by omega
  | k + 2, i, L, hi, hL, hk => by
    rw [assizeref12_Lex.l0]
    by_cases hlt : i < s.size
    case neg =>
      rw [if_neg (by omega), itemsAt_end _ _ (by rw [bs_len]; omega)]; rfl
    have hst := itemsAt_step (bs s) i (by rw [bs_len]; exact hlt)
    rw [bs_at s i hlt] at hst
    rw [if_pos (by omega), if_pos (by omega), bt_eq s i hlt]
    have hj : ∀ b : Bool, b = blankB s[i] → assizeref12_Lex.j1 (k + 1) s (L.map toS) i b = some ((folded (itemsAt (bs s) i) L).1.map toS, (folded (itemsAt (bs s) i) L).2.1, (folded (itemsAt (bs s) i) L).2.2) := by
      intro b hb
      subst hb
      rw [assizeref12_Lex.j1, hst]
      by_cases h1 : blankB s[i] = true
      · rw [if_pos h1, if_pos h1, w64 (by omega) (by omega), show (i : Int) + 1 = ((i + 1 : Nat) : Int) by omega]
        exact p_lex0 s hs k (i + 1) L (by omega) (by omega) (by omega)
      rw [if_neg h1, if_neg h1, if_pos (by omega), if_pos (by omega), bt_eq s i hlt]
      by_cases h2 : s[i].toNat = 37
      · rw [if_pos (by omega), if_pos h2]; rfl
      rw [if_neg (by omega), if_neg h2, p_one s hs i k hlt (by omega)]
      simp only [Option.bind_some]
      cases ht : tokB ((bs s).drop i) with
      | error e =>
        have he := tokB_err ht
        have he2 : e ≠ 0 := by omega
        simp only [oneR, he2, if_false, folded]; rfl
      | ok x =>
        obtain ⟨kd, t, n⟩ := x
        obtain ⟨h3, h4, h5⟩ := tokB_le ht
        rw [List.length_drop, bs_len] at h4
        simp only [oneR, if_true, folded]
        rw [if_pos (by rw [List.length_map]; omega), show (i : Int) + (n : Nat) = ((i + n : Nat) : Int) by omega]
        have ih := p_lex0 s hs k (i + n) (L ++ [⟨kd, i, t⟩]) (by omega) (by simp; omega) (by omega)
        rw [List.map_append] at ih
        exact ih
    by_cases a1 : s[i].toNat = 32
    · rw [if_pos (by omega)]; exact hj true (by simp [blankB, a1])
    rw [if_neg (by omega)]
    by_cases a2 : s[i].toNat = 9
    · rw [if_pos (by omega)]; exact hj true (by simp [blankB, a2])
    rw [if_neg (by omega)]
    refine hj _ ?_
    have a3 : ((s[i].toNat : Int) == 13) = decide (s[i].toNat = 13) := by rw [Bool.eq_iff_iff]; simp; omega
    rw [a3]; simp [blankB, a1, a2]
theorem p_lex (s : ByteArray) (hs : s.size ≤ 1048576) : ∃ k, assizeref12_Lex.f k s = some ((lexB (bs s)).1.map toS, (lexB (bs s)).2.1, (lexB (bs s)).2.2) := by
  have h := p_lex0 s hs (4 * s.size + 100) 0 [] (Nat.zero_le _) (Nat.zero_le _) (by omega)
  rw [itemsAt_zero] at h
  exact ⟨_, h⟩
end Go.Proofs.YtmdelgaeikicpaaDoor.Lx
