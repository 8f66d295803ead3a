/- Lines out of bytes: plain law, and what the reference's printed Feed answers. -/
import Derived.Test.YtelhkbanohhjhaaDoorTxtA
import Derived.Lib.Bytealg
import Derived.Lib.Bytes
namespace Go.Proofs.YtelhkbanohhjhaaDoor.Tx
open Go.RowKit Go.Proofs.YtelhkbanohhjhaaDoor.PFeed Go.Proofs.YtelhkbanohhjhaaDoorW.PrintWords
set_option linter.unusedVariables false
set_option linter.unusedSimpArgs false

def Byt (l : List Int) : Prop := ∀ x ∈ l, 0 ≤ x ∧ x ≤ 255
theorem Byt.take {l : List Int} (h : Byt l) (n : Nat) : Byt (l.take n) := fun x hx => h x (List.mem_of_mem_take hx)
theorem Byt.drop {l : List Int} (h : Byt l) (n : Nat) : Byt (l.drop n) := fun x hx => h x (List.mem_of_mem_drop hx)
def noTen (l : List Int) : Prop := ∀ x ∈ l, x ≠ 10
/-- What stands between bytes 10; does one stand behind it? -/
def pcs : List Int → List Int → List (List Int × Bool)
  | cur, [] => [(cur, false)]
  | cur, c :: r => if c = 10 then (cur, true) :: pcs [] r else pcs (cur ++ [c]) r
theorem pcs_no : ∀ (l cur : List Int), noTen l → pcs cur l = [(cur ++ l, false)]
  | [], cur, _ => by simp [pcs]
  | c :: r, cur, h => by
    rw [pcs, if_neg (h c (by simp)), pcs_no r _ (fun x hx => h x (by simp [hx]))]; simp
theorem pcs_ten : ∀ (x cur r : List Int), noTen x → pcs cur (x ++ 10 :: r) = (cur ++ x, true) :: pcs [] r
  | [], cur, r, _ => by simp [pcs]
  | c :: x, cur, r, h => by
    rw [List.cons_append, pcs, if_neg (h c (by simp)), pcs_ten x _ r (fun y hy => h y (by simp [hy]))]; simp
theorem pcs_len : ∀ (l cur : List Int), (pcs cur l).length ≤ l.length + 1
  | [], cur => by simp [pcs]
  | c :: r, cur => by
    rw [pcs]
    split
    · have := pcs_len r []; simp; omega
    · have := pcs_len r (cur ++ [c]); simp; omega
/-- All lines, and what is left behind the last. -/
def spl : List Int → List Int → List (List Int) × List Int
  | cur, [] => ([], cur)
  | cur, c :: r => if c = 10 then (cur :: (spl [] r).1, (spl [] r).2) else spl (cur ++ [c]) r
theorem spl_app : ∀ (x cur y : List Int), spl cur (x ++ y) = ((spl cur x).1 ++ (spl (spl cur x).2 y).1, (spl (spl cur x).2 y).2)
  | [], cur, y => by simp [spl]
  | c :: x, cur, y => by
    rw [List.cons_append, spl, spl]
    split
    · rw [spl_app x [] y]; simp
    · rw [spl_app x _ y]
theorem spl_no : ∀ (l cur : List Int), noTen l → spl cur l = ([], cur ++ l)
  | [], cur, _ => by simp [spl]
  | c :: r, cur, h => by
    rw [spl, if_neg (h c (by simp)), spl_no r _ (fun x hx => h x (by simp [hx]))]; simp
theorem spl_len : ∀ (l cur : List Int), (spl cur l).1.length ≤ l.length
  | [], cur => by simp [spl]
  | c :: r, cur => by
    rw [spl]
    split
    · have := spl_len r []; simp; omega
    · have := spl_len r (cur ++ [c]); simp; omega
theorem spl_left : ∀ (l cur : List Int), noTen cur → noTen (spl cur l).2
  | [], cur, h => by simpa [spl] using h
  | c :: r, cur, h => by
    rw [spl]
    split
    · exact spl_left r [] (by simp [noTen])
    · rename_i hc
      refine spl_left r _ ?_
      intro x hx
      rcases List.mem_append.1 hx with hx | hx
      · exact h x hx
      · simp at hx; rw [hx]; exact hc
/-- A line's text, or why it has none. -/
def lnOf (l : List Int) : S54 := if 65536 < l.length then ⟨⟨#[]⟩, 11⟩ else if validB l then ⟨strOfNums l, 0⟩ else ⟨⟨#[]⟩, 10⟩
def keptN (l : List Int) : Int := if 65536 < l.length then 0 else l.length

/-! ### a byte's place -/
theorem ten_beq {x : Int} (h0 : 0 ≤ x) (h1 : x ≤ 255) : ((UInt8.ofNat x.toNat) == (10 : UInt8)) = decide (x = 10) := by
  have e : (UInt8.ofNat x.toNat).toNat = x.toNat := by simp; omega
  rw [Bool.eq_iff_iff, beq_iff_eq, decide_eq_true_eq]
  constructor
  · intro h
    have := congrArg UInt8.toNat h
    rw [e] at this
    have h10 : (10 : UInt8).toNat = 10 := rfl
    rw [h10] at this; omega
  · rintro rfl; rfl
theorem ix_spec : ∀ (l : List Int), Byt l → (Lib.indexByte (Lib.bytesOf l) 10 = -1 ∧ noTen l) ∨ ∃ k : Nat, ∃ r, Lib.indexByte (Lib.bytesOf l) 10 = k ∧ l = l.take k ++ 10 :: r ∧ noTen (l.take k) ∧ k < l.length ∧ r = l.drop (k + 1)
  | [], _ => .inl ⟨rfl, by simp [noTen]⟩
  | c :: r, h => by
    have hc := h c (by simp)
    have ih := ix_spec r (fun x hx => h x (by simp [hx]))
    have hb : Lib.bytesOf (c :: r) = UInt8.ofNat c.toNat :: Lib.bytesOf r := rfl
    rw [hb, Lib.indexByte, ten_beq hc.1 hc.2]
    by_cases e : c = 10
    · subst e
      exact .inr ⟨0, r, by simp, by simp, by simp [noTen], by simp, by simp⟩
    · rw [decide_eq_false e]
      rcases ih with ⟨h1, h2⟩ | ⟨k, t, h1, h2, h3, h4, h5⟩
      · refine .inl ⟨by rw [h1]; simp, fun x hx => ?_⟩
        rcases List.mem_cons.1 hx with rfl | hx
        · exact e
        · exact h2 x hx
      · refine .inr ⟨k + 1, t, ?_, ?_, ?_, by simp; omega, by simpa using h5⟩
        · rw [h1]
          have : ((k : Int) == -1) = false := by rw [beq_eq_false_iff_ne]; omega
          simp [this]
        · simp only [List.take_succ_cons, List.cons_append]; rw [← h2]
        · intro x hx
          simp only [List.take_succ_cons] at hx
          rcases List.mem_cons.1 hx with rfl | hx
          · exact e
          · exact h3 x hx

/-! ### the reference -/
theorem take_drop_snoc (l : List Int) (fr i : Nat) (h : i < l.length) (hf : fr ≤ i) : (l.take (i + 1)).drop fr = (l.take i).drop fr ++ [l.getD i 0] := by
  have e : l.getD i 0 = l[i] := by simp [List.getD_eq_getElem?_getD, h]
  rw [List.take_succ_eq_append_getElem h, List.drop_append_of_le_length (by simp; omega), e]
theorem wsucc (i : Nat) (h : i ≤ 1048576) : wrap64 ((i : Int) + 1) = ((i + 1 : Nat) : Int) := by rw [w64 (by omega) (by omega)]; omega
theorem p_feed0 (l : List Int) (hl : l.length ≤ 1048576) : ∀ (d k i fr : Nat) (out : List S54), l.length ≤ i + d → l.length + d + 8 ≤ k → i ≤ l.length → fr ≤ i → out.length ≤ i →
    assizeref01_Feed.l0 k l out fr i = some (out ++ (spl ((l.take i).drop fr) (l.drop i)).1.map lnOf, keptN (spl ((l.take i).drop fr) (l.drop i)).2)
  | d, 0, i, fr, out, _, h, _, _, _ => by omega
  | 0, k + 1, i, fr, out, hd, hk, hi, hf, ho => by
    obtain rfl : i = l.length := by omega
    have hlen : ((l.take l.length).drop fr).length = l.length - fr := by simp
    rw [assizeref01_Feed.l0, if_neg (by omega), List.drop_length, spl, w64 (by omega) (by omega)]
    unfold keptN
    simp only [hlen]
    split
    · rw [if_pos (by omega)]; simp
    · rw [if_neg (by omega)]; simp; omega
  | d + 1, k + 1, i, fr, out, hd, hk, hi, hf, ho => by
    by_cases hlt : i < l.length
    · have f0 : (i : Int) < (l.length : Int) := by omega
      have f1 : (0 : Int) ≤ (i : Int) := by omega
      have f2 : (0 : Int) ≤ (fr : Int) := by omega
      have f3 : (fr : Int) ≤ (i : Int) := by omega
      have f4 : (i : Int) ≤ (l.length : Int) := by omega
      have f5 : out.length < 5864062014805 := by omega
      have f6 : ∀ s : S54, (out ++ [s]).length ≤ i + 1 := fun s => by simp; omega
      have f7 : ((l.take i).drop fr).length ≤ l.length := by simp; omega
      have f8 : ((l.take i).drop fr).length + 7 ≤ k := by omega
      have f9 : ((l.take i).drop fr).length ≤ 4611686018427387904 := by omega
      have key := fun o h => p_feed0 l hl d k (i + 1) (i + 1) o (by omega) (by omega) (by omega) (Nat.le_refl _) h
      have key2 := p_feed0 l hl d k (i + 1) fr out (by omega) (by omega) (by omega) (by omega) (by omega)
      have hw := wsucc i (by omega)
      clear hd hk hi hl ho
      have hcons : l.drop i = l.getD i 0 :: l.drop (i + 1) := by
        rw [List.drop_eq_getElem_cons hlt]; simp [List.getD_eq_getElem?_getD, hlt]
      have hrd : rd l (i : Int) = l.getD i 0 := by simp [rd]
      rw [assizeref01_Feed.l0, if_pos f0, if_pos f1, hrd, hcons, spl]
      by_cases h10 : l.getD i 0 = 10
      · have hnext : (l.take (i + 1)).drop (i + 1) = ([] : List Int) := by simp
        rw [if_pos h10, if_pos h10, if_pos f2, if_pos f3, if_pos f4]
        simp only [Int.toNat_natCast]
        by_cases hlong : 65536 < ((l.take i).drop fr).length
        · have g1 : (((l.take i).drop fr).length : Int) > 65536 := by omega
          have e : lnOf ((l.take i).drop fr) = ⟨⟨#[]⟩, 11⟩ := by unfold lnOf; rw [if_pos hlong]
          rw [if_pos g1, if_pos f5, hw, key _ (f6 _), hnext, List.map_cons, e, List.append_assoc]; rfl
        · have g1 : ¬ (((l.take i).drop fr).length : Int) > 65536 := by omega
          have hv2 : assizeref01_Valid.f k ((l.take i).drop fr) = some (validB ((l.take i).drop fr)) := p_valid0 ((l.take i).drop fr) f9 ((l.take i).drop fr).length k 0 (by omega) f8 (by omega)
          rw [if_neg g1, hv2]
          simp only [Option.bind_some]
          by_cases hval : validB ((l.take i).drop fr) = true
          · have e : lnOf ((l.take i).drop fr) = ⟨strOfNums ((l.take i).drop fr), 0⟩ := by unfold lnOf; rw [if_neg hlong, if_pos hval]
            rw [if_pos hval, if_pos f5, hw, key _ (f6 _), hnext, List.map_cons, e, List.append_assoc]; rfl
          · have e : lnOf ((l.take i).drop fr) = ⟨⟨#[]⟩, 10⟩ := by unfold lnOf; rw [if_neg hlong, if_neg hval]
            rw [if_neg hval, if_pos f5, hw, key _ (f6 _), hnext, List.map_cons, e, List.append_assoc]; rfl
      · rw [if_neg h10, if_neg h10, hw, key2, take_drop_snoc l fr i hlt hf]
    · exact p_feed0 l hl d (k + 1) i fr out (by omega) (by omega) hi hf ho
theorem p_feed (l : List Int) (hl : l.length ≤ 1048576) : assizeref01_Feed.f (l.length + l.length + 9) l = some ((spl [] l).1.map lnOf, keptN (spl [] l).2) := by
  have := p_feed0 l hl l.length (l.length + l.length + 9) 0 0 [] (by omega) (by omega) (by omega) (by omega) (by simp)
  unfold assizeref01_Feed.f
  simpa using this
end Go.Proofs.YtelhkbanohhjhaaDoor.Tx
