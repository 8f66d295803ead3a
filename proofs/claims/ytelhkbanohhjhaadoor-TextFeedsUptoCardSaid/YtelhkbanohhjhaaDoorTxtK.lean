/- Plain: the first word and the rest, as the reference has them. -/
import Derived.Test.YtelhkbanohhjhaaDoorPCutx1
import Derived.Lib.IndexMore
import Derived.Lib.TrimByte
namespace Go.Proofs.YtelhkbanohhjhaaDoor.Tx
open Go.RowKit Go.Proofs.YtelhkbanohhjhaaDoorW.PrintWords
set_option linter.unusedVariables false
set_option linter.unusedSimpArgs false

abbrev bs (s : ByteArray) : List UInt8 := s.data.toList
def strB (l : List UInt8) : ByteArray := ⟨l.toArray⟩
theorem bs_len (s : ByteArray) : (bs s).length = s.size := by simp [bs]
theorem bs_ext (s : ByteArray) (a b : Nat) : bs (s.extract a b) = ((bs s).take b).drop a := by
  simp only [bs, ByteArray.data_extract, Array.toList_extract, List.extract, List.drop_take]
theorem bs_inj {s t : ByteArray} (h : bs s = t.data.toList) : s = t := by
  cases s; cases t; simp [bs] at h; rw [h]
theorem bt_cons {s : ByteArray} {k : Nat} {c : UInt8} {r : List UInt8} (h : (bs s).drop k = c :: r) : k < s.size ∧ bt s (k : Int) = (c.toNat : Int) ∧ (bs s).drop (k + 1) = r ∧ (bs s).take (k + 1) = (bs s).take k ++ [c] := by
  have hk : k < (bs s).length := by
    rcases Nat.lt_or_ge k (bs s).length with h1 | h1
    · exact h1
    · rw [List.drop_of_length_le h1] at h; cases h
  have h2 := List.drop_eq_getElem_cons hk
  rw [h] at h2
  injection h2 with e1 e2
  have hk' : k < s.size := by rw [← bs_len]; exact hk
  refine ⟨hk', ?_, e2.symm, ?_⟩
  · unfold bt
    rw [dif_pos (by simpa using hk')]
    rw [e1]; rfl
  · rw [List.take_succ_eq_append_getElem hk, ← e1]
theorem c32 (c : UInt8) : (c.toNat : Int) = 32 ↔ c = 32 := by
  constructor
  · intro h
    have : c.toNat = 32 := by omega
    exact UInt8.toNat_inj.1 (by rw [this]; rfl)
  · rintro rfl; rfl
def np (c : UInt8) : Bool := c != 32
theorem wrap_of (n : Nat) (h : n ≤ 4294967296) : wrap64 ((n : Int) + 1) = ((n + 1 : Nat) : Int) := by
  unfold wrap64; omega
theorem l1_spec (s : ByteArray) (hs : s.size ≤ 4294967295) (a : Nat) : ∀ (n b k : Nat), s.size - b = n → a ≤ b → b ≤ s.size → n < k →
    ∃ r, PCut.assizeref01_Cut.l1 k s a b = some r ∧ bs r.1 = ((bs s).take b).drop a ++ ((bs s).drop b).takeWhile np ∧ bs r.2 = (((bs s).drop b).dropWhile np).drop 1
  | n, b, 0, _, _, _, h => absurd h (Nat.not_lt_zero _)
  | n, b, k + 1, hn, hab, hb, hk => by
    rw [PCut.assizeref01_Cut.l1]
    cases hd : (bs s).drop b with
    | nil =>
      have hbe : b = s.size := by
        have := congrArg List.length hd
        simp only [List.length_drop, bs_len, List.length_nil] at this; omega
      rw [if_neg (by omega), if_pos (by omega), if_pos (by omega), if_pos (by omega)]
      refine ⟨_, rfl, ?_, ?_⟩
      · simp only [Int.toNat_natCast, bs_ext, List.takeWhile_nil, List.append_nil]; rw [hbe]
      · rfl
    | cons c r =>
      obtain ⟨h1, h2, h3, h4⟩ := bt_cons hd
      rw [if_pos (by omega), if_pos (by omega), h2]
      by_cases hc : c = 32
      · rw [if_pos ((c32 c).2 hc), if_neg (by omega), if_pos (by omega), if_pos (by omega), if_pos (by omega), wrap_of b (by omega), if_pos (by omega), if_pos (by omega)]
        refine ⟨_, rfl, ?_, ?_⟩
        · subst hc
          simp [bs_ext, np, List.takeWhile]
        · subst hc
          simp only [Int.toNat_natCast, bs_ext]
          rw [List.take_of_length_le (by simp [bs]), h3]
          simp [np, List.dropWhile]
      · rw [if_neg (fun h => hc ((c32 c).1 h)), wrap_of b (by omega)]
        obtain ⟨q, e1, e2, e3⟩ := l1_spec s hs a (n - 1) (b + 1) k (by omega) (by omega) (by omega) (by omega)
        have hnp : np c = true := by simp [np, hc]
        refine ⟨q, e1, ?_, ?_⟩
        · rw [e2, h3, h4, List.drop_append_of_le_length (by simp [bs]; omega)]
          simp [List.takeWhile, hnp]
        · rw [e3, h3]; simp [List.dropWhile, hnp]
def cutL (l : List UInt8) : List UInt8 × List UInt8 := (((Lib.trimLeftB l 32).takeWhile np), ((Lib.trimLeftB l 32).dropWhile np).drop 1)
theorem l0_spec (s : ByteArray) (hs : s.size ≤ 4294967295) : ∀ (n b k : Nat), s.size - b = n → b ≤ s.size → 2 * s.size + 3 ≤ k + b →
    ∃ r, PCut.assizeref01_Cut.l0 k s b = some r ∧ bs r.1 = (cutL ((bs s).drop b)).1 ∧ bs r.2 = (cutL ((bs s).drop b)).2
  | n, b, 0, _, _, h => by omega
  | n, b, k + 1, hn, hb, hk => by
    have hj : ∃ r, PCut.assizeref01_Cut.j1 k s b = some r ∧ bs r.1 = ((bs s).drop b).takeWhile np ∧ bs r.2 = (((bs s).drop b).dropWhile np).drop 1 := by
      obtain ⟨k', rfl⟩ : ∃ k', k = k' + 1 := ⟨k - 1, by omega⟩
      rw [PCut.assizeref01_Cut.j1]
      obtain ⟨r, e1, e2, e3⟩ := l1_spec s hs b n b k' hn (Nat.le_refl _) hb (by omega)
      refine ⟨r, e1, ?_, e3⟩
      rw [e2, List.drop_of_length_le (by simp [bs]; omega)]; rfl
    rw [PCut.assizeref01_Cut.l0]
    cases hd : (bs s).drop b with
    | nil =>
      have hbe : b = s.size := by
        have := congrArg List.length hd
        simp only [List.length_drop, bs_len, List.length_nil] at this; omega
      rw [if_neg (by omega)]
      rw [hd] at hj
      simpa [cutL, Lib.trimLeftB] using hj
    | cons c r =>
      obtain ⟨h1, h2, h3, h4⟩ := bt_cons hd
      rw [if_pos (by omega), if_pos (by omega), h2]
      by_cases hc : c = 32
      · rw [if_pos ((c32 c).2 hc), wrap_of b (by omega)]
        obtain ⟨q, e1, e2, e3⟩ := l0_spec s hs (n - 1) (b + 1) k (by omega) (by omega) (by omega)
        refine ⟨q, e1, ?_, ?_⟩
        · rw [e2, h3]; subst hc; simp [cutL, Lib.trimLeftB, List.dropWhile]
        · rw [e3, h3]; subst hc; simp [cutL, Lib.trimLeftB, List.dropWhile]
      · rw [if_neg (fun h => hc ((c32 c).1 h))]
        rw [hd] at hj
        have e : Lib.trimLeftB (c :: r) 32 = c :: r := by simp [Lib.trimLeftB, List.dropWhile_cons, hc]
        simpa only [cutL, e] using hj
theorem index_one : ∀ l : List UInt8, Lib.index l [32] = if (l.dropWhile np) = [] then -1 else ((l.takeWhile np).length : Int)
  | [] => by decide
  | c :: r => by
    rw [Lib.index]
    by_cases hc : c = 32
    · subst hc
      simp [np, List.isPrefixOf]
    · have hnp : np c = true := by simp [np, hc]
      have h1 : ([32] : List UInt8).isPrefixOf (c :: r) = false := by
        simp [List.isPrefixOf]; exact fun h => hc h.symm
      rw [h1, index_one r]
      simp only [Bool.false_eq_true, if_false, List.dropWhile_cons_of_pos hnp, List.takeWhile_cons_of_pos hnp, List.length_cons]
      split
      · rfl
      · simp
theorem cut_one (l : List UInt8) : (Lib.cut l [32]).1 = l.takeWhile np ∧ (Lib.cut l [32]).2.1 = (l.dropWhile np).drop 1 := by
  unfold Lib.cut
  rw [index_one]
  have e : l.takeWhile np ++ l.dropWhile np = l := List.takeWhile_append_dropWhile
  by_cases h : l.dropWhile np = []
  · rw [if_pos h, if_neg (by decide), h]
    rw [h, List.append_nil] at e
    exact ⟨e.symm, rfl⟩
  · rw [if_neg h, if_pos (by omega)]
    simp only [Int.toNat_natCast, List.length_cons, List.length_nil]
    generalize l.takeWhile np = a at e ⊢
    generalize l.dropWhile np = b at e ⊢
    subst e
    refine ⟨by simp, ?_⟩
    rw [List.drop_append, List.drop_of_length_le (by omega)]
    simp
def cutTxt (s : ByteArray) : ByteArray × ByteArray := (strB (cutL (bs s)).1, strB (cutL (bs s)).2)
theorem p_cut (s : ByteArray) (hs : s.size ≤ 4294967295) : PCut.assizeref01_Cut.f (2 * s.size + 3) s = some (cutTxt s) := by
  obtain ⟨r, e1, e2, e3⟩ := l0_spec s hs s.size 0 (2 * s.size + 3) rfl (Nat.zero_le _) (by omega)
  rw [List.drop_zero] at e2 e3
  unfold PCut.assizeref01_Cut.f
  rw [show (0 : Int) = ((0 : Nat) : Int) from rfl, e1]
  congr 1
  exact Prod.ext (bs_inj (by rw [e2]; rfl)) (bs_inj (by rw [e3]; rfl))
end Go.Proofs.YtelhkbanohhjhaaDoor.Tx
