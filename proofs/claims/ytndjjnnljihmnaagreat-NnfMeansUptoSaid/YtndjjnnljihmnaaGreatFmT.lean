/- What push and mini keep: right shapes, and bounds. -/
import Derived.Test.YtndjjnnljihmnaaGreatFmR
namespace Go.Proofs.YtndjjnnljihmnaaGreat
open Go.RowKit Go.Proofs.YtndjjnnljihmnaaGreat.Lx
set_option linter.unusedVariables false
set_option linter.unusedSimpArgs false
mutual
/-- Quantifiers as far inside as they can. -/
def Fm.mini : Fm → Fm
  | .mk k n l r ks => if k = 7 ∨ k = 8 then (match Fm.miniL ks with | [] => Fm.c 0 | g :: _ => g.push k n) else .mk k n l r (Fm.miniL ks)
def Fm.miniL : List Fm → List Fm
  | [] => []
  | f :: r => Fm.mini f :: Fm.miniL r
end
theorem Fm.miniL_len : ∀ ks : List Fm, (Fm.miniL ks).length = ks.length
  | [] => rfl
  | f :: r => by rw [Fm.miniL, List.length_cons, List.length_cons, Fm.miniL_len r]
theorem Fm.pushL_len (kind : Int) (x : ByteArray) : ∀ ks : List Fm, (Fm.pushL kind x ks).length = ks.length
  | [] => rfl
  | f :: r => by rw [Fm.pushL, List.length_cons, List.length_cons, Fm.pushL_len kind x r]
theorem nil_empty : (⟨#[]⟩ : ByteArray).toList.isEmpty = true := by rw [Lib.toList_data]; rfl
theorem nil_none : (Tm.mk 0 ⟨#[]⟩ []).none = true := by rw [Tm.none, nil_empty]; rfl
theorem head_two {k : Int} {n : ByteArray} {l r : Tm} {m : Nat} (hk : k = 3 ∨ k = 4) (h : headF k n l r m = true) : headF k ⟨#[]⟩ (.mk 0 ⟨#[]⟩ []) (.mk 0 ⟨#[]⟩ []) m = true := by
  unfold headF at h ⊢
  simp only [Bool.and_eq_true] at h
  rcases hk with rfl | rfl <;> (simp only [Bool.and_eq_true]; refine ⟨h.1, ?_, ?_⟩; (rw [if_neg (by decide)]; exact nil_empty); (rw [if_neg (by decide), nil_none]; rfl))
theorem head_one {kind : Int} {x : ByteArray} (hk : kind = 7 ∨ kind = 8) (hx : isVarB (bs x) = true) : headF kind x (.mk 0 ⟨#[]⟩ []) (.mk 0 ⟨#[]⟩ []) 1 = true := by
  unfold headF
  rcases hk with rfl | rfl <;> (rw [if_pos (by decide), hx, if_neg (by decide), nil_none]; rfl)
mutual
theorem Fm.push_shape {kind : Int} {x : ByteArray} (hk : kind = 7 ∨ kind = 8) (hx : isVarB (bs x) = true) : ∀ f : Fm, f.shape = true → (f.push kind x).shape = true
  | .mk k n l r ks, h => by
    rw [Fm.push]
    split
    · split
      · rename_i _ h2
        have h34 : k = 3 ∨ k = 4 := by
          unfold splitB at h2
          simp only [Bool.and_eq_true, Bool.or_eq_true, beq_iff_eq] at h2
          exact h2.1
        rw [Fm.shape, Bool.and_eq_true] at h
        rw [Fm.shape, Bool.and_eq_true, Fm.pushL_len]
        exact ⟨head_two h34 h.1, Fm.pushL_shape hk hx ks h.2⟩
      · rw [Fm.one, Fm.shape, Bool.and_eq_true]
        exact ⟨head_one hk hx, by rw [Fm.shapes, h, Fm.shapes]; rfl⟩
    · exact h
theorem Fm.pushL_shape {kind : Int} {x : ByteArray} (hk : kind = 7 ∨ kind = 8) (hx : isVarB (bs x) = true) : ∀ ks : List Fm, Fm.shapes ks = true → Fm.shapes (Fm.pushL kind x ks) = true
  | [], _ => by rw [Fm.pushL, Fm.shapes]
  | f :: r, h => by
    rw [Fm.shapes, Bool.and_eq_true] at h
    rw [Fm.pushL, Fm.shapes, Bool.and_eq_true]
    exact ⟨Fm.push_shape hk hx f h.1, Fm.pushL_shape hk hx r h.2⟩
end
theorem head_var {k : Int} {n : ByteArray} {l r : Tm} {m : Nat} (hk : k = 7 ∨ k = 8) (h : headF k n l r m = true) : isVarB (bs n) = true ∧ m = 1 := by
  unfold headF at h
  simp only [Bool.and_eq_true, beq_iff_eq] at h
  obtain ⟨h1, h2, _⟩ := h
  rcases hk with rfl | rfl
  · rw [if_pos (by decide)] at h2; exact ⟨h2, by unfold kidsI at h1; simp at h1; omega⟩
  · rw [if_pos (by decide)] at h2; exact ⟨h2, by unfold kidsI at h1; simp at h1; omega⟩
mutual
theorem Fm.mini_shape : ∀ f : Fm, f.shape = true → f.mini.shape = true
  | .mk k n l r ks, h => by
    rw [Fm.shape, Bool.and_eq_true] at h
    have hL := Fm.miniL_shape ks h.2
    have hl := Fm.miniL_len ks
    rw [Fm.mini]
    split
    · rename_i hk
      obtain ⟨hv, h1⟩ := head_var hk h.1
      rw [h1] at hl
      match hm : Fm.miniL ks, hl with
      | [g], _ =>
        rw [hm, Fm.shapes, Bool.and_eq_true] at hL
        exact Fm.push_shape hk hv g hL.1
    · rw [Fm.shape, Bool.and_eq_true, hl]; exact ⟨h.1, hL⟩
theorem Fm.miniL_shape : ∀ ks : List Fm, Fm.shapes ks = true → Fm.shapes (Fm.miniL ks) = true
  | [], _ => by rw [Fm.miniL, Fm.shapes]
  | f :: r, h => by
    rw [Fm.shapes, Bool.and_eq_true] at h
    rw [Fm.miniL, Fm.shapes, Bool.and_eq_true]
    exact ⟨Fm.mini_shape f h.1, Fm.miniL_shape r h.2⟩
end
mutual
/-- How many leaves. -/
def Fm.lf : Fm → Nat
  | .mk _ _ _ _ ks => max 1 (Fm.lfs ks)
def Fm.lfs : List Fm → Nat
  | [] => 0
  | f :: r => Fm.lf f + Fm.lfs r
end
mutual
/-- What a quantifier at each of its parts would weigh. -/
def Fm.qs : Fm → Nat
  | .mk _ n _ _ ks => n.size + 3 + Fm.qss ks
def Fm.qss : List Fm → Nat
  | [] => 0
  | f :: r => Fm.qs f + Fm.qss r
end
theorem Fm.lf_pos : ∀ f : Fm, 1 ≤ f.lf
  | .mk _ _ _ _ ks => by rw [Fm.lf]; omega
mutual
theorem Fm.push_lf (kind : Int) (x : ByteArray) : ∀ f : Fm, (f.push kind x).lf = f.lf
  | .mk k n l r ks => by
    have h := Fm.pushL_lf kind x ks
    rw [Fm.push]
    split
    · split
      · rw [Fm.lf, Fm.lf, h]
      · rw [Fm.one, Fm.lf, Fm.lfs, Fm.lfs]; have := Fm.lf_pos (.mk k n l r ks); omega
    · rfl
theorem Fm.pushL_lf (kind : Int) (x : ByteArray) : ∀ ks : List Fm, Fm.lfs (Fm.pushL kind x ks) = Fm.lfs ks
  | [] => by rw [Fm.pushL]
  | f :: r => by rw [Fm.pushL, Fm.lfs, Fm.lfs, Fm.push_lf kind x f, Fm.pushL_lf kind x r]
end
theorem mul_le_of {a b c : Nat} (h : a ≤ b) : a * c ≤ b * c := Nat.mul_le_mul_right c h
mutual
theorem Fm.push_wt (kind : Int) (x : ByteArray) : ∀ f : Fm, (f.push kind x).wt ≤ f.wt + f.lf * (x.size + 3)
  | .mk k n l r ks => by
    have h := Fm.pushL_wt kind x ks
    have h1 := l.wt_pos
    have h2 := r.wt_pos
    rw [Fm.push]
    split
    · split
      · have h3 := mul_le_of (c := x.size + 3) (show Fm.lfs ks ≤ (Fm.mk k n l r ks).lf by rw [Fm.lf]; omega)
        have e : ∀ L, (Fm.mk k ⟨#[]⟩ (.mk 0 ⟨#[]⟩ []) (.mk 0 ⟨#[]⟩ []) L).wt = 3 + Fm.wts L := fun L => by rw [Fm.wt, Tm.wt, Tm.wts]; show 1 + 0 + (1 + 0 + 0 + (1 + 0 + 0)) + Fm.wts L = _; omega
        rw [e, Fm.wt]; omega
      · have h3 := mul_le_of (c := x.size + 3) (Fm.lf_pos (.mk k n l r ks))
        have e : (Fm.one kind x (.mk k n l r ks)).wt = 1 + x.size + 2 + (Fm.mk k n l r ks).wt := by rw [Fm.one, Fm.wt, Tm.wt, Tm.wts, Fm.wts, Fm.wts]; show 1 + x.size + (1 + 0 + 0 + (1 + 0 + 0)) + _ = _; omega
        rw [e]; omega
    · exact Nat.le_add_right _ _
theorem Fm.pushL_wt (kind : Int) (x : ByteArray) : ∀ ks : List Fm, Fm.wts (Fm.pushL kind x ks) ≤ Fm.wts ks + Fm.lfs ks * (x.size + 3)
  | [] => by rw [Fm.pushL]; omega
  | f :: r => by
    have h1 := Fm.push_wt kind x f
    have h2 := Fm.pushL_wt kind x r
    rw [Fm.pushL, Fm.wts, Fm.wts, Fm.lfs, Nat.add_mul]; omega
end
mutual
theorem Fm.mini_lf : ∀ f : Fm, f.shape = true → f.mini.lf = f.lf
  | .mk k n l r ks, h => by
    rw [Fm.shape, Bool.and_eq_true] at h
    have hL := Fm.miniL_lf ks h.2
    have hl := Fm.miniL_len ks
    rw [Fm.mini]
    split
    · rename_i hk
      obtain ⟨hv, h1⟩ := head_var hk h.1
      rw [h1] at hl
      match hm : Fm.miniL ks, hl with
      | [g], _ =>
        rw [hm, Fm.lfs, Fm.lfs] at hL
        show (g.push k n).lf = _
        rw [Fm.push_lf, Fm.lf]
        have := g.lf_pos
        omega
    · rw [Fm.lf, Fm.lf, hL]
theorem Fm.miniL_lf : ∀ ks : List Fm, Fm.shapes ks = true → Fm.lfs (Fm.miniL ks) = Fm.lfs ks
  | [], _ => by rw [Fm.miniL]
  | f :: r, h => by
    rw [Fm.shapes, Bool.and_eq_true] at h
    rw [Fm.miniL, Fm.lfs, Fm.lfs, Fm.mini_lf f h.1, Fm.miniL_lf r h.2]
end
mutual
theorem Fm.mini_wt : ∀ f : Fm, f.shape = true → f.mini.wt ≤ f.wt + f.lf * f.qs
  | .mk k n l r ks, h => by
    rw [Fm.shape, Bool.and_eq_true] at h
    have hL := Fm.miniL_wt ks h.2
    have hF := Fm.miniL_lf ks h.2
    have hl := Fm.miniL_len ks
    have h1 := l.wt_pos
    have h2 := r.wt_pos
    rw [Fm.mini]
    split
    · rename_i hk
      obtain ⟨hv, h1'⟩ := head_var hk h.1
      rw [h1'] at hl
      match hm : Fm.miniL ks, hl with
      | [g], _ =>
        rw [hm, Fm.wts, Fm.wts] at hL
        rw [hm, Fm.lfs, Fm.lfs] at hF
        show (g.push k n).wt ≤ _
        have hp := Fm.push_wt k n g
        have hg := g.lf_pos
        have e : (Fm.mk k n l r ks).lf = g.lf := by rw [Fm.lf]; omega
        have e2 : Fm.lfs ks = g.lf := by omega
        rw [e, Fm.qs, Fm.wt, Nat.mul_add]
        rw [e2] at hL
        omega
    · have e : ∀ L, (Fm.mk k n l r L).wt = 1 + n.size + (l.wt + r.wt) + Fm.wts L := fun L => by rw [Fm.wt]
      rw [e, e]
      have h3 : Fm.lfs ks * Fm.qss ks ≤ (Fm.mk k n l r ks).lf * (Fm.mk k n l r ks).qs := Nat.mul_le_mul (by rw [Fm.lf]; omega) (by rw [Fm.qs]; omega)
      omega
theorem Fm.miniL_wt : ∀ ks : List Fm, Fm.shapes ks = true → Fm.wts (Fm.miniL ks) ≤ Fm.wts ks + Fm.lfs ks * Fm.qss ks
  | [], _ => by rw [Fm.miniL]; omega
  | f :: r, h => by
    rw [Fm.shapes, Bool.and_eq_true] at h
    have h1 := Fm.mini_wt f h.1
    have h2 := Fm.miniL_wt r h.2
    rw [Fm.miniL, Fm.wts, Fm.wts, Fm.lfs, Fm.qss, Nat.add_mul, Nat.mul_add, Nat.mul_add]; omega
end
end Go.Proofs.YtndjjnnljihmnaaGreat
