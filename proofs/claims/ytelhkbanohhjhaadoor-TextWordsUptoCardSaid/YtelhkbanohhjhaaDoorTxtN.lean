/- Plain: the words, as the reference has them; the walk of TextWords. -/
import Derived.Test.YtelhkbanohhjhaaDoorTxtM
import Derived.Test.YtelhkbanohhjhaaDoorPWordsx1
import Derived.Test.YtelhkbanohhjhaaDoorPTextsx1
import Derived.Lib.FieldsP
import Derived.Lib.Strings
namespace Go.Proofs.YtelhkbanohhjhaaDoor.Tx
open Go.RowKit Go.Shelf Go.Proofs.YtelhkbanohhjhaaDoorW.PrintWords
set_option linter.unusedVariables false
set_option linter.unusedSimpArgs false
def one (cur : List UInt8) : List (List UInt8) := if cur = [] then [] else [cur]
theorem one_ne {cur : List UInt8} (h : cur ≠ []) : one cur = [cur] := if_neg h
def wordsB : List UInt8 → List UInt8 → List (List UInt8)
  | cur, [] => one cur
  | cur, c :: r => if c = 32 then one cur ++ wordsB [] r else wordsB (cur ++ [c]) r
theorem words_run : ∀ (m cur r : List UInt8), (∀ x ∈ m, x ≠ 32) → wordsB cur (m ++ r) = wordsB (cur ++ m) r
  | [], cur, r, _ => by simp
  | x :: m, cur, r, h => by
    rw [List.cons_append, wordsB, if_neg (h x (by simp)), words_run m (cur ++ [x]) r (fun y hy => h y (by simp [hy])), List.append_assoc]; rfl
set_option maxHeartbeats 1000000 in
theorem dec_facts (n b0 b1 b2 b3 : Nat) : 1 ≤ (Lib.decodeN n b0 b1 b2 b3).2 ∧ (Lib.decodeN n b0 b1 b2 b3).2 ≤ 4 ∧ ((Lib.decodeN n b0 b1 b2 b3).1 = 32 ↔ b0 = 32) ∧ (b0 = 32 → (Lib.decodeN n b0 b1 b2 b3).2 = 1) ∧
    (2 ≤ (Lib.decodeN n b0 b1 b2 b3).2 → b1 ≠ 32) ∧ (3 ≤ (Lib.decodeN n b0 b1 b2 b3).2 → b2 ≠ 32) ∧ (4 ≤ (Lib.decodeN n b0 b1 b2 b3).2 → b3 ≠ 32) := by
  unfold Lib.decodeN
  repeat' split
  all_goals (refine ⟨?_, ?_, ⟨fun h => ?_, fun h => ?_⟩, fun h => ?_, fun h => ?_, fun h => ?_, fun h => ?_⟩ <;> (try dsimp only at *) <;> omega)
theorem get_at (s : ByteArray) (k : Nat) (c : UInt8) (h : (bs s)[k]? = some c) : s.get! k = c := by
  have hk := (List.getElem?_eq_some_iff.1 h).1
  have h2 : s.data[k]? = some c := by rw [← h]; simp [bs]
  show s.data[k]! = c
  rw [getElem!_def, h2]
theorem u32 (c : UInt8) : c.toNat = 32 ↔ c = 32 := by
  constructor
  · intro h; exact UInt8.toNat_inj.1 (by rw [h]; rfl)
  · rintro rfl; rfl
/-- What the model's decoding says of blanks. -/
theorem dec_blank (s : ByteArray) (pos : Nat) (h : pos < s.size) : ∃ k, (Utf8.decode s pos).2 = k ∧ 1 ≤ k ∧ pos + k ≤ s.size ∧
    ((Utf8.decode s pos).1 = 32 → k = 1 ∧ (bs s)[pos]? = some 32) ∧ ((Utf8.decode s pos).1 ≠ 32 → ∀ x ∈ ((bs s).drop pos).take k, x ≠ 32) := by
  have hd := Lib.decode_at s pos
  have hf := dec_facts (s.size - pos) (s.get! pos).toNat (s.get! (pos + 1)).toNat (s.get! (pos + 2)).toNat (s.get! (pos + 3)).toNat
  have hn := Lib.decodeN_le_n' (s.size - pos) (s.get! pos).toNat (s.get! (pos + 1)).toNat (s.get! (pos + 2)).toNat (s.get! (pos + 3)).toNat (by omega)
  rw [← hd] at hf hn
  obtain ⟨f1, f2, f3, f4, f5, f6, f7⟩ := hf
  have hl : pos < (bs s).length := by rw [bs_len]; exact h
  refine ⟨_, rfl, f1, by omega, fun e => ?_, fun e => ?_⟩
  · have e0 := f3.1 e
    refine ⟨f4 e0, ?_⟩
    have hg := get_at s pos _ (List.getElem?_eq_getElem hl)
    rw [List.getElem?_eq_getElem hl, ← hg, (u32 _).1 e0]
  · intro x hx e32
    obtain ⟨j, hj, hjx⟩ := List.mem_iff_getElem.1 hx
    simp only [List.length_take, List.length_drop] at hj
    have hq : (bs s)[pos + j]? = some x := by
      rw [List.getElem_take, List.getElem_drop] at hjx
      rw [← hjx]; exact List.getElem?_eq_getElem _
    have hg := get_at s (pos + j) _ hq
    subst e32
    have hj4 : j = 0 ∨ j = 1 ∨ j = 2 ∨ j = 3 := by omega
    rcases hj4 with rfl | rfl | rfl | rfl
    · rw [Nat.add_zero] at hg; rw [hg] at f3; exact e (f3.2 rfl)
    · rw [hg] at f5; exact f5 (by omega) rfl
    · rw [hg] at f6; exact f6 (by omega) rfl
    · rw [hg] at f7; exact f7 (by omega) rfl
def openP (s : ByteArray) (pos : Nat) : Option Nat → List UInt8
  | some a => ((bs s).take pos).drop a
  | none => []
theorem drop_split (l : List UInt8) (pos k : Nat) : l.drop pos = (l.drop pos).take k ++ l.drop (pos + k) := by
  rw [← List.drop_drop]; exact (List.take_append_drop k _).symm
theorem take_more (l : List UInt8) (pos k a : Nat) (ha : a ≤ pos) (hp : pos ≤ l.length) : (l.take (pos + k)).drop a = (l.take pos).drop a ++ (l.drop pos).take k := by
  rw [List.take_add, List.drop_append_of_le_length (by simp; omega)]
theorem spans_words (s : ByteArray) : ∀ (f pos : Nat) (st : Option Nat) (acc : List (Nat × Nat)), pos ≤ s.size → s.size ≤ pos + f → (∀ a, st = some a → a < pos) →
    (Lib.closeSpans s (Lib.spansFromP (· == 32) s f pos st acc)).map (fun x => bs (s.extract x.1 x.2)) = acc.map (fun x => bs (s.extract x.1 x.2)) ++ wordsB (openP s pos st) ((bs s).drop pos)
  | f, pos, st, acc, h1, h2, h3 => by
    have hend : ¬ pos < s.size → (Lib.closeSpans s (acc, st)).map (fun x => bs (s.extract x.1 x.2)) = acc.map (fun x => bs (s.extract x.1 x.2)) ++ wordsB (openP s pos st) ((bs s).drop pos) := by
      intro hp
      have hpe : pos = s.size := by omega
      rw [List.drop_of_length_le (by rw [bs_len]; omega), wordsB]
      cases st with
      | none => simp [Lib.closeSpans, openP, one]
      | some a =>
        have ha := h3 a rfl
        have hne : ((bs s).take pos).drop a ≠ [] := fun e => by
          have := congrArg List.length e
          simp only [List.length_drop, List.length_take, bs_len, List.length_nil] at this; omega
        have ho : one (openP s pos (some a)) = [((bs s).take pos).drop a] := one_ne hne
        rw [ho]
        simp only [Lib.closeSpans, List.map_append, List.map_cons, List.map_nil, bs_ext]
        rw [hpe]
    cases f with
    | zero => unfold Lib.spansFromP; exact hend (by omega)
    | succ f =>
      unfold Lib.spansFromP
      by_cases hp : pos < s.size
      · rw [if_pos hp]
        obtain ⟨k, hk, k1, k2, kb, kn⟩ := dec_blank s pos hp
        rw [hk]
        by_cases hr : (Utf8.decode s pos).1 = 32
        · obtain ⟨rfl, hb⟩ := kb hr
          rw [if_pos (by simpa using hr)]
          have hd : (bs s).drop pos = 32 :: (bs s).drop (pos + 1) := by
            have hl := (List.getElem?_eq_some_iff.1 hb).1
            rw [List.drop_eq_getElem_cons hl]
            congr 1
            exact (List.getElem?_eq_some_iff.1 hb).2
          rw [hd, wordsB, if_pos rfl]
          cases st with
          | none =>
            simp only []
            rw [spans_words s f (pos + 1) none acc (by omega) (by omega) (fun a h => by cases h)]
            simp [openP, one]
          | some a =>
            have ha := h3 a rfl
            simp only []
            rw [spans_words s f (pos + 1) none _ (by omega) (by omega) (fun a h => by cases h)]
            have hne : ((bs s).take pos).drop a ≠ [] := fun e => by
              have := congrArg List.length e
              simp only [List.length_drop, List.length_take, bs_len, List.length_nil] at this; omega
            have ho : one (openP s pos (some a)) = [((bs s).take pos).drop a] := one_ne hne
            rw [ho]
            simp only [openP, List.map_append, List.map_cons, List.map_nil, bs_ext, List.append_assoc]
        · rw [if_neg (by simpa using hr)]
          have hm := kn hr
          have hl : pos ≤ (bs s).length := by rw [bs_len]; omega
          rw [drop_split (bs s) pos k, words_run _ _ _ hm]
          cases st with
          | none =>
            simp only []
            rw [spans_words s f (pos + k) (some pos) acc (by omega) (by omega) (fun a h => by cases h; omega)]
            simp only [openP]
            rw [take_more _ _ _ _ (Nat.le_refl _) hl, List.drop_of_length_le (by simp; omega)]
          | some a =>
            have ha := h3 a rfl
            simp only []
            rw [spans_words s f (pos + k) (some a) acc (by omega) (by omega) (fun b h => by cases h; omega)]
            simp only [openP]
            rw [take_more _ _ _ _ (by omega) hl]
      · rw [if_neg hp]; exact hend hp
def wl (s : ByteArray) : List ByteArray := (wordsB [] (bs s)).map strB
theorem map_strB (l : List ByteArray) : (l.map bs).map strB = l := by
  rw [List.map_map]
  conv => rhs; rw [← List.map_id l]
  apply List.map_congr_left
  intro x _
  exact bs_inj rfl
theorem fields_words (s : ByteArray) : Lib.goFieldsP (· == 32) s = wl s := by
  have h := spans_words s s.size 0 none [] (Nat.zero_le _) (by omega) (fun a h => by cases h)
  simp only [openP, List.map_nil, List.nil_append, List.drop_zero] at h
  unfold wl
  rw [← h, Lib.goFieldsP, Lib.spansOfP]
  rw [← map_strB (List.map _ _)]
  simp only [List.map_map]; rfl
theorem words_len : ∀ (l cur : List UInt8), (wordsB cur l).length ≤ l.length + 1
  | [], cur => by rw [wordsB, one]; split <;> simp
  | c :: r, cur => by
    rw [wordsB]
    split
    · have := words_len r []
      have h1 : (one cur).length ≤ 1 := by rw [one]; split <;> simp
      simp; omega
    · have := words_len r (cur ++ [c]); simp; omega
theorem toL_nil (x : ByteArray) : x.toList = [] ↔ bs x = [] := by rw [Lib.toList_data]
set_option maxHeartbeats 1600000 in
theorem p_words0 (s : ByteArray) (hs : s.size ≤ 1048576) : ∀ (k i : Nat) (x3 : List ByteArray) (x4 : ByteArray), i ≤ s.size → 2 * (s.size - i) + 4 ≤ k → x3.length ≤ i → x4.size ≤ i →
    PWords.assizeref01_Words.l0 k s x3 x4 i = some (x3 ++ (wordsB (bs x4) ((bs s).drop i)).map strB)
  | 0, i, x3, x4, hi, hk, h3, h4 => absurd hk (by omega)
  | 1, i, x3, x4, hi, hk, h3, h4 => absurd hk (by omega)
  | k + 2, i, x3, x4, hi, hk, h3, h4 => by
    have hw := wrap_of i (by omega)
    have hx4 : strB (bs x4) = x4 := (bs_inj rfl).symm
    rw [PWords.assizeref01_Words.l0, if_pos (by omega)]
    by_cases he : i = s.size
    · have hend : ∀ y3 y4, PWords.assizeref01_Words.l0 k s y3 y4 (wrap64 ((i : Int) + 1)) = some y3 := by
        intro y3 y4
        obtain ⟨k, rfl⟩ : ∃ q, k = q + 1 := ⟨k - 1, by omega⟩
        rw [hw, PWords.assizeref01_Words.l0, if_neg (by omega)]
      rw [if_pos (by omega), PWords.assizeref01_Words.j1, if_pos rfl, List.drop_of_length_le (by rw [bs_len]; omega), wordsB, one]
      by_cases h0 : bs x4 = []
      · rw [if_pos ((toL_nil x4).2 h0), hend, if_pos h0]; simp
      · rw [if_neg (fun h => h0 ((toL_nil x4).1 h)), if_pos (by omega), hend, if_neg h0]; simp [hx4]
    · rw [if_neg (by omega), if_pos (by omega), if_pos (by omega)]
      cases hc : (bs s).drop i with
      | nil =>
        have := congrArg List.length hc
        simp only [List.length_drop, bs_len, List.length_nil] at this; omega
      | cons c r =>
        obtain ⟨g1, g2, g3, g4⟩ := bt_cons hc
        rw [g2, PWords.assizeref01_Words.j1, wordsB]
        by_cases hb : c = 32
        · rw [if_pos (by rw [(c32 c).2 hb]; rfl), if_pos hb, hw, one]
          have ih := fun y3 hy3 => p_words0 s hs k (i + 1) y3 ⟨#[]⟩ (by omega) (by omega) hy3 (Nat.zero_le _)
          rw [g3] at ih
          by_cases h0 : bs x4 = []
          · rw [if_pos ((toL_nil x4).2 h0), ih x3 (by omega), if_pos h0]; rfl
          · rw [if_neg (fun h => h0 ((toL_nil x4).1 h)), if_pos (by omega), ih (x3 ++ [x4]) (by simp; omega), if_neg h0]
            simp [hx4, bs]
        · have hcf : (((c.toNat : Int) == 32)) ≠ true := fun h => hb ((c32 c).1 (by simpa using h))
          rw [if_neg hcf, if_neg hb, hw, if_pos (by omega), if_pos (by omega), if_pos (by omega)]
          have hex : bs (s.extract i (i + 1)) = [c] := by
            rw [bs_ext, g4, List.drop_append_of_le_length (by simp [bs]; omega), List.drop_of_length_le (by rw [List.length_take]; omega)]; rfl
          have hsz : (s.extract i (i + 1)).size = 1 := by rw [← bs_len, hex]; rfl
          have hap : bs (x4 ++ s.extract i (i + 1)) = bs x4 ++ [c] := by rw [← hex]; simp [bs]
          rw [show ((i : Int)).toNat = i by omega, show (((i + 1 : Nat) : Int)).toNat = i + 1 by omega, if_pos (by omega)]
          rw [p_words0 s hs k (i + 1) x3 _ (by omega) (by omega) (by omega) (by rw [ByteArray.size_append, hsz]; omega), g3, hap]
theorem p_words (s : ByteArray) (hs : s.size ≤ 1048576) : PWords.assizeref01_Words.f (2 * s.size + 4) s = some (wl s) := by
  have h := p_words0 s hs (2 * s.size + 4) 0 [] ⟨#[]⟩ (Nat.zero_le _) (by omega) (Nat.le_refl _) (Nat.le_refl _)
  rw [List.nil_append, List.drop_zero, show bs ⟨#[]⟩ = [] from rfl, show ((0 : Nat) : Int) = 0 from rfl] at h
  unfold PWords.assizeref01_Words.f wl
  exact h
theorem p_texts0 (l : List ByteArray) (hl : l.length ≤ 4294967295) : ∀ (k i : Nat), i ≤ l.length → l.length - i < k → PTexts.assizelaw01_Texts.l0 k l l i = some true
  | 0, i, hi, hk => absurd hk (Nat.not_lt_zero _)
  | k + 1, i, hi, hk => by
    rw [PTexts.assizelaw01_Texts.l0]
    by_cases h : i = l.length
    · rw [if_neg (by omega)]
    · rw [if_pos (by omega), if_pos (by omega), if_pos (by omega), if_pos rfl, wrap_of i (by omega)]
      exact p_texts0 l hl k (i + 1) (by omega) (by omega)
theorem p_texts (l : List ByteArray) (hl : l.length ≤ 4294967295) : PTexts.assizelaw01_Texts.f (l.length + 1) l l = some true := by
  unfold PTexts.assizelaw01_Texts.f
  rw [if_pos rfl]
  exact p_texts0 l hl _ 0 (Nat.zero_le _) (by omega)

set_option maxHeartbeats 1600000 in
theorem words_walk (s : ByteArray) (w : World) (m : Int) (hs : s.size ≤ 1048576) (hm : w.cell? ⟨0, 0, none⟩ = some (.int .i64 m)) :
    Calls Tryd.prog 7 #[.string s] w fun e w' => e = .returned (.bool true) ∧ Below w.heap.size w w' := by
  have h0 := World.block_lt_of_cell? w _ hm
  have HM := Lib.hid hm
  have HS := Lib.hid hs
  have HCUT := Lib.hid (cut_any s w m hs hm)
  have hlw : (wl s).length ≤ 1048577 := by
    have := words_len (bs s) []
    rw [bs_len] at this
    simp only [wl, List.length_map]; omega
  have HLW := Lib.hid hlw
  clear hm hs hlw
  go_enter Tryd.func7, Tryd.ntmps7
  go_wp2_with fail
  refine HCUT.out.mono ?_
  rintro e w1 ⟨rfl, n1, rfl⟩
  have HB1 : Hid (Below w.heap.size w (w.drewN n1)) := Lib.hid (((Fr.refl (fun _ => False) w).drewN n1).below (Nat.le_refl _) (fun _ h => h.elim))
  generalize w.drewN n1 = w1 at *
  go_wp2_with fail
  refine (PCut.assizeref01_Cut.calls (2 * s.size + 3) s (cutTxt s).1 (cutTxt s).2 w1 (p_cut s (by have := HS.out; omega))).mono ?_
  rintro e w2 ⟨rfl, hd2⟩
  obtain ⟨n2, rfl⟩ := hd2
  have HB2 : Hid (Below w.heap.size w (w1.drewN n2)) := Lib.hid (HB1.out.trans (((Fr.refl (fun _ => False) w1).drewN n2).below HB1.out.size (fun _ h => h.elim)))
  generalize w1.drewN n2 = w2 at *
  generalize cutTxt s = ct at *
  go_wp2_with fail
  refine (words_any s w2 HS.out).mono ?_
  rintro e w3 ⟨A3, rfl, hA3, hown3, hb3⟩
  rw [fields_words] at hown3 ⊢
  obtain ⟨A, c, e, hle, hr⟩ := own_reads_of_le (enc := Value.string) (d := ByteArray.empty) (xs := wl s) hown3
  injection e with e1 e2 e3
  have HC3 : Hid (Kd.C Kd.string w3 (some ⟨A3, 0, none⟩) (wl s).length (wl s)) := Lib.hid (by rw [e1]; exact Kd.C_of_reads (h1 := fun _ => rfl) hr)
  have HB3 := Lib.hid (HB2.out.trans (hb3.mono HB2.out.size))
  clear hown3 hr hb3 hA3 e1 e2 e3 hle
  go_wp2_with fail
  refine (PWords.assizeref01_Words.calls (2 * s.size + 4) s (wl s) w3 (p_words s HS.out)).mono ?_
  rintro e w4 ⟨v4, rfl, hR4, hb4⟩
  obtain ⟨A4, c4, rfl, hle4, hC4⟩ := Kd.R_reads hR4
  have HC4 := Lib.hid hC4
  have HC3' : Hid (Kd.C Kd.string w4 (some ⟨A3, 0, none⟩) (wl s).length (wl s)) := Lib.hid (Kd.C_below HC3.out hb4)
  have HB4 := Lib.hid (HB3.out.trans (hb4.mono HB3.out.size))
  have HLE4 := Lib.hid hle4
  clear hR4 hb4 hC4 hle4 HC3
  go_wp2_with fail
  refine (PTexts.assizelaw01_Texts.calls ((wl s).length + 1) _ _ (wl s) _ _ (wl s) true w4 HC3'.out (Nat.le_refl _) HC4.out HLE4.out (p_texts _ (by have := HLW.out; omega))).mono ?_
  rintro e w5 ⟨rfl, hd5⟩
  obtain ⟨n5, rfl⟩ := hd5
  have HB5 : Hid (Below w.heap.size w (w4.drewN n5)) := Lib.hid (HB4.out.trans (((Fr.refl (fun _ => False) w4).drewN n5).below HB4.out.size (fun _ h => h.elim)))
  clear HC3' HC4
  generalize w4.drewN n5 = w5 at *
  have hm5 : w5.cell? ⟨0, 0, none⟩ = some (.int .i64 m) := (HB5.out.cell (p := ⟨0, 0, none⟩) (by exact h0)).trans HM.out
  have HM5 := Lib.hid hm5
  clear hm5
  go_wp2_with fail
  refine (alive_any w5 m HM5.out).mono ?_
  rintro e w6 ⟨rfl, hb6⟩
  have HB6 := Lib.hid (HB5.out.trans (hb6.mono HB5.out.size))
  clear hb6
  go_wp2_with fail
  go_ret
  exact ⟨rfl, HB6.out⟩
end Go.Proofs.YtelhkbanohhjhaaDoor.Tx
