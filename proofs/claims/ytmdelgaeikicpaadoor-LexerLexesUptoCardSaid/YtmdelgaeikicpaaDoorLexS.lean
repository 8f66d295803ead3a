/- What the reference's printed functions answer: plain law, first half. -/
import Derived.Test.YtmdelgaeikicpaaDoorLexM
import Derived.Test.YtmdelgaeikicpaaDoorPLexx1
namespace Go.Proofs.YtmdelgaeikicpaaDoor.Lx
open Go.RowKit Go.Proofs.YtmdelgaeikicpaaDoor.PLex Go.Proofs.YtmdelgaeikicpaaDoorW.PrintWords
set_option linter.unusedVariables false
set_option linter.unusedSimpArgs false

theorem w64 {n : Int} (h0 : 0 ≤ n) (h1 : n < 9223372036854775808) : wrap64 n = n := by unfold wrap64; omega
theorem bt_eq (s : ByteArray) (k : Nat) (h : k < s.size) : bt s k = (s[k].toNat : Int) := by simp [bt, h]
theorem p_low (c : UInt8) : assizeref12_lower.f c.toNat = some (lowB c) := by
  unfold assizeref12_lower.f lowB
  split
  · congr 1; rw [Bool.eq_iff_iff]; simp; omega
  · congr 1; rw [Bool.eq_iff_iff]; simp; omega
theorem p_up (c : UInt8) : assizeref12_upper.f c.toNat = some (upB c) := by
  unfold assizeref12_upper.f upB
  split
  · congr 1; rw [Bool.eq_iff_iff]; simp; omega
  · congr 1; rw [Bool.eq_iff_iff]; simp; omega
theorem p_inner (c : UInt8) : assizeref12_inner.f c.toNat = some (wordB c) := by
  unfold assizeref12_inner.f
  rw [p_low]; simp only [Option.bind_some]; rw [p_up]; simp only [Option.bind_some]
  unfold wordB
  cases lowB c <;> cases upB c
  · simp only [Bool.false_eq_true, if_false, Bool.false_or]
    split
    · split
      · congr 1; symm; rw [Bool.or_eq_true]; left; simp; omega
      · congr 1; rw [Bool.eq_iff_iff]; simp; omega
    · congr 1; rw [Bool.eq_iff_iff]; simp; omega
  · simp
  · simp
  · simp
theorem p_run (s : ByteArray) (hs : s.size ≤ 1048576) : ∀ (k i : Nat), i ≤ s.size → s.size - i + 1 ≤ k → assizeref12_run.f k s i = some ((i : Int) + (span ((bs s).drop i) : Nat))
  | 0, i, _, h => by omega
  | k + 1, i, hi, hk => by
    show assizeref12_run.l0 (k + 1) s i = _
    rw [assizeref12_run.l0]
    by_cases hlt : i < s.size
    · have hd := span_drop (bs s) i (by rw [bs_len]; exact hlt)
      rw [bs_at s i hlt] at hd
      rw [if_pos (by omega), if_pos (by omega), bt_eq s i hlt, p_inner]
      simp only [Option.bind_some]
      cases h1 : wordB s[i]
      · rw [if_neg (by simp), hd, h1]; simp
      · have ih := p_run s hs k (i + 1) (by omega) (by omega)
        rw [if_pos rfl, w64 (by omega) (by omega), show (i : Int) + 1 = ((i + 1 : Nat) : Int) by omega]
        show assizeref12_run.f k s _ = _
        rw [ih, hd, h1, if_pos rfl]
        congr 1; omega
    · rw [if_neg (by omega), List.drop_eq_nil_of_le (by rw [bs_len]; omega)]; simp [span]

def quotRes (x : ByteArray) (i : Nat) : Option (Bs × Nat) → ByteArray × Int × Bool
  | none => (⟨#[]⟩, 0, false)
  | some (n, m) => (x ++ ⟨n.toArray⟩, ((i + m : Nat) : Int), true)
theorem one_num (c : UInt8) : strOfNums [(c.toNat : Int)] = ⟨#[c]⟩ := by simp [strOfNums]
theorem quotRes_step (x : ByteArray) (i : Nat) (c : UInt8) (j : Nat) (o : Option (Bs × Nat)) : quotRes (x ++ ⟨#[c]⟩) (i + j) o = quotRes x i (o.map fun p => (c :: p.1, p.2 + j)) := by
  cases o with
  | none => rfl
  | some p =>
    obtain ⟨n, m⟩ := p
    simp only [quotRes, Option.map_some, Prod.mk.injEq]
    refine ⟨?_, by omega, trivial⟩
    apply bs_inj
    rw [bs_app, bs_app, bs_app, bs_mk, bs_mk]; simp [bs]
theorem p_quoted (s : ByteArray) (hs : s.size ≤ 1048576) : ∀ (k i : Nat) (x : ByteArray), i ≤ s.size → x.size ≤ i → 2 * (s.size - i) + 2 ≤ k → assizeref12_quoted.l0 k s x i = some (quotRes x i (quot ((bs s).drop i)))
  | 0, i, x, _, _, h => by omega
  | 1, i, x, _, _, h => by omega
  | k + 2, i, x, hi, hx, hk => by
    rw [assizeref12_quoted.l0]
    by_cases hlt : i < s.size
    case neg =>
      rw [if_neg (by omega), List.drop_eq_nil_of_le (by rw [bs_len]; omega), quot_end]; rfl
    have hd := drop_at s i hlt
    rw [if_pos (by omega), if_pos (by omega), bt_eq s i hlt, hd]
    by_cases c1 : s[i].toNat = 39
    · rw [if_pos (by omega), quot_close _ _ c1, w64 (by omega) (by omega)]
      simp only [quotRes]
      congr 2
      · apply bs_inj; rw [bs_app]; simp [bs]
    rw [if_neg (by omega)]
    by_cases c2 : s[i].toNat = 92
    · rw [if_pos (by omega), w64 (by omega) (by omega)]
      by_cases h1 : i + 1 < s.size
      · have hd1 := drop_at s (i + 1) h1
        have hb1 := bt_eq s (i + 1) h1
        rw [if_neg (by omega), if_pos (by omega), if_pos (by omega), show (i : Int) + 1 = ((i + 1 : Nat) : Int) by omega, hb1, hd1]
        by_cases d1 : s[i + 1].toNat = 39 ∨ s[i + 1].toNat = 92
        · have hj : assizeref12_quoted.j1 (k + 1) s x ((i + 1 : Nat) : Int) false = some (quotRes x i (quot (s[i] :: s[i + 1] :: (bs s).drop (i + 1 + 1)))) := by
            rw [assizeref12_quoted.j1, if_neg (by simp), if_pos (by omega), if_pos (by omega), hb1, if_neg (by omega), if_neg (by omega)]
            simp only [Option.bind_some]
            rw [one_num, if_pos (by show x.size + 1 ≤ 9223372036854775807; omega), w64 (by omega) (by omega), show ((i + 1 : Nat) : Int) + 1 = ((i + 2 : Nat) : Int) by omega,
              p_quoted s hs k (i + 2) _ (by omega) (by rw [ByteArray.size_append]; show x.size + 1 ≤ _; omega) (by omega), quot_esc _ _ _ c2 d1, quotRes_step]
          by_cases d2 : s[i + 1].toNat = 39
          · rw [if_pos (by omega), hj]
          · rw [if_neg (by omega), show (((s[i + 1].toNat : Int)) != 92) = false by rw [bne_eq_false_iff_eq]; omega, hj]
        · rw [if_neg (by omega), show (((s[i + 1].toNat : Int)) != 92) = true by rw [bne_iff_ne]; omega, assizeref12_quoted.j1, if_pos rfl, quot_bad _ _ _ c2 (by omega) (by omega)]; rfl
      · rw [if_pos (by omega), assizeref12_quoted.j1, if_pos rfl, List.drop_eq_nil_of_le (show (bs s).length ≤ i + 1 by rw [bs_len]; omega), quot_bs1 _ c2]; rfl
    · rw [if_neg (by omega)]
      by_cases ho : okB s[i] = true
      · have ho2 := ho
        simp only [okB, Bool.and_eq_true, decide_eq_true_eq] at ho2
        rw [if_neg (by omega), if_neg (by omega)]
        simp only [Option.bind_some]
        rw [one_num, if_pos (by show x.size + 1 ≤ 9223372036854775807; omega), w64 (by omega) (by omega), show (i : Int) + 1 = ((i + 1 : Nat) : Int) by omega,
          p_quoted s hs (k + 1) (i + 1) _ (by omega) (by rw [ByteArray.size_append]; show x.size + 1 ≤ _; omega) (by omega), quot_step _ _ c1 c2 ho, quotRes_step]
      · have ho1 : okB s[i] = false := by simpa using ho
        rw [quot_odd _ _ c1 c2 ho1]
        have ho3 : ¬ (32 ≤ s[i].toNat ∧ s[i].toNat ≤ 126) := by simpa [okB] using ho
        by_cases h3 : (s[i].toNat : Int) < 32
        · rw [if_pos h3]; rfl
        · rw [if_neg h3, if_pos (by omega)]; rfl

theorem p_begins (s : ByteArray) (hs : s.size ≤ 1048576) (i : Nat) (hi : i ≤ s.size) (m : ByteArray) (hm : m.size ≤ 3) : assizeref12_begins.f s i m = some ((bs m).isPrefixOf ((bs s).drop i)) := by
  unfold assizeref12_begins.f
  rw [w64 (by omega) (by omega), w64 (by omega) (by omega)]
  by_cases h : i + m.size ≤ s.size
  · rw [if_pos (by omega), if_pos (by omega), if_pos (by omega), if_pos (by omega)]
    congr 1
    have e1 : (s.extract ((i : Int)).toNat ((i : Int) + m.size).toNat).toList = ((bs s).drop i).take m.size := by
      rw [ByteArray.toList_eq, show ((i : Int)).toNat = i by omega, show ((i : Int) + m.size).toNat = i + m.size by omega]
      simp [bs, ByteArray.data_extract, Array.toList_extract, List.extract]
    rw [e1, ByteArray.toList_eq, Bool.eq_iff_iff, beq_iff_eq, List.isPrefixOf_iff_prefix, List.prefix_iff_eq_take, bs_len]
    exact eq_comm
  · rw [if_neg (by omega)]
    congr 1; symm
    rw [Bool.eq_false_iff]
    intro hp
    have := (List.isPrefixOf_iff_prefix.1 hp).length_le
    rw [List.length_drop, bs_len, bs_len] at this; omega
theorem p_mark0 (s : ByteArray) (hs : s.size ≤ 1048576) (i : Nat) (hi : i ≤ s.size) (L : List ByteArray) (hL : ∀ m ∈ L, m.size ≤ 3) (hl : L.length ≤ 100) : ∀ (k j : Nat), j ≤ L.length → L.length - j + 1 ≤ k →
    assizeref12_mark.l0 k s i L j = some (((L.drop j).find? fun m => (bs m).isPrefixOf ((bs s).drop i)).getD ⟨#[]⟩)
  | 0, j, _, h => by omega
  | k + 1, j, hj, hk => by
    rw [assizeref12_mark.l0]
    by_cases hlt : j < L.length
    · have hr : rdOf ByteArray.empty L j = L[j] := by simp [rdOf, hlt]
      rw [if_pos (by omega), if_pos (by omega), hr, p_begins s hs i hi _ (hL _ (List.getElem_mem hlt)), List.drop_eq_getElem_cons hlt, List.find?_cons]
      simp only [Option.bind_some]
      cases hp : (bs L[j]).isPrefixOf ((bs s).drop i)
      · rw [if_neg (by simp), w64 (by omega) (by omega), show (j : Int) + 1 = ((j + 1 : Nat) : Int) by omega, p_mark0 s hs i hi L hL hl k (j + 1) (by omega) (by omega)]
      · rw [if_pos rfl]; rfl
    · rw [if_neg (by omega), show L.drop j = [] from List.drop_eq_nil_of_le (by omega)]; rfl
theorem p_mark (s : ByteArray) (hs : s.size ≤ 1048576) (i : Nat) (hi : i ≤ s.size) (k : Nat) (hk : 16 ≤ k) : assizeref12_mark.f k s i = some ⟨((markB ((bs s).drop i)).getD []).toArray⟩ := by
  unfold assizeref12_mark.f
  have h := p_mark0 s hs i hi [(⟨#[60, 61, 62]⟩ : ByteArray), (⟨#[61, 62]⟩ : ByteArray), (⟨#[33, 61]⟩ : ByteArray), (⟨#[40]⟩ : ByteArray), (⟨#[41]⟩ : ByteArray), (⟨#[91]⟩ : ByteArray), (⟨#[93]⟩ : ByteArray), (⟨#[44]⟩ : ByteArray), (⟨#[58]⟩ : ByteArray), (⟨#[33]⟩ : ByteArray), (⟨#[63]⟩ : ByteArray), (⟨#[126]⟩ : ByteArray), (⟨#[38]⟩ : ByteArray), (⟨#[124]⟩ : ByteArray), (⟨#[61]⟩ : ByteArray)] (by decide) (by decide) k 0 (Nat.zero_le _) (by simpa using hk)
  refine h.trans ?_
  congr 1
  rw [List.drop_zero]
  unfold markB
  have hm : marks = [(⟨#[60, 61, 62]⟩ : ByteArray), (⟨#[61, 62]⟩ : ByteArray), (⟨#[33, 61]⟩ : ByteArray), (⟨#[40]⟩ : ByteArray), (⟨#[41]⟩ : ByteArray), (⟨#[91]⟩ : ByteArray), (⟨#[93]⟩ : ByteArray), (⟨#[44]⟩ : ByteArray), (⟨#[58]⟩ : ByteArray), (⟨#[33]⟩ : ByteArray), (⟨#[63]⟩ : ByteArray), (⟨#[126]⟩ : ByteArray), (⟨#[38]⟩ : ByteArray), (⟨#[124]⟩ : ByteArray), (⟨#[61]⟩ : ByteArray)].map bs := rfl
  rw [hm, List.find?_map]
  generalize [(⟨#[60, 61, 62]⟩ : ByteArray), (⟨#[61, 62]⟩ : ByteArray), (⟨#[33, 61]⟩ : ByteArray), (⟨#[40]⟩ : ByteArray), (⟨#[41]⟩ : ByteArray), (⟨#[91]⟩ : ByteArray), (⟨#[93]⟩ : ByteArray), (⟨#[44]⟩ : ByteArray), (⟨#[58]⟩ : ByteArray), (⟨#[33]⟩ : ByteArray), (⟨#[63]⟩ : ByteArray), (⟨#[126]⟩ : ByteArray), (⟨#[38]⟩ : ByteArray), (⟨#[124]⟩ : ByteArray), (⟨#[61]⟩ : ByteArray)] = L
  show _ = (⟨((Option.map bs (L.find? fun m => (bs m).isPrefixOf ((bs s).drop i))).getD []).toArray⟩ : ByteArray)
  cases L.find? fun m => (bs m).isPrefixOf ((bs s).drop i) with
  | none => rfl
  | some m => exact (mk_bs m).symm
end Go.Proofs.YtmdelgaeikicpaaDoor.Lx
