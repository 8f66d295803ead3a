/- What a formula would be, by the reference: sizes. -/
import Derived.Test.YtndjjnnljihmnaaGreatFmI
import Derived.IntWalk
namespace Go.Proofs.YtndjjnnljihmnaaGreat
open Go.RowKit
set_option linter.unusedVariables false
set_option linter.unusedSimpArgs false
def rsizC (k sz dp : Int) (L : List (Fo × Fo)) : Fo × Fo :=
  if k = 9 then (⟨1, 1, 1⟩, ⟨2, 1, 1⟩) else if k = 10 then (⟨2, 1, 1⟩, ⟨1, 1, 1⟩)
  else if k = 1 then (⟨0, sz, dp⟩, ⟨0, sz + 1, dp + 1⟩)
  else if k = 2 then ((hd1 L).2, (hd1 L).1)
  else if k = 7 ∨ k = 8 then ((hd1 L).1.runder, (hd1 L).2.runder)
  else if k = 3 then (Fo.rjoin (hd1 L).1 (hd2 L).1 true, Fo.rjoin (hd1 L).2 (hd2 L).2 false)
  else if k = 4 then (Fo.rjoin (hd1 L).1 (hd2 L).1 false, Fo.rjoin (hd1 L).2 (hd2 L).2 true)
  else if k = 5 then (Fo.rjoin (hd1 L).2 (hd2 L).1 false, Fo.rjoin (hd1 L).1 (hd2 L).2 true)
  else (Fo.rjoin (Fo.rjoin (hd1 L).2 (hd2 L).1 false) (Fo.rjoin (hd1 L).1 (hd2 L).2 false) true, Fo.rjoin (Fo.rjoin (hd1 L).1 (hd2 L).1 false) (Fo.rjoin (hd1 L).2 (hd2 L).2 false) true)
mutual
def Fm.rsz : Fm → Fo × Fo
  | .mk k n l r ks => rsizC k (Fm.size (.mk k n l r ks)) (Fm.depth (.mk k n l r ks)) (Fm.rszL ks)
def Fm.rszL : List Fm → List (Fo × Fo)
  | [] => []
  | f :: r => Fm.rsz f :: Fm.rszL r
end
/-- What both tell of a form. -/
def Rel (a r : Fo) : Prop := r.k = (if a.k = 9 then 1 else if a.k = 10 then 2 else 0) ∧ min r.s 1000000 = min a.s 1000000 ∧ r.d = a.d ∧ 0 ≤ a.s ∧ 0 ≤ r.s
theorem rel_under {a r : Fo} {kind : Int} (h9 : kind ≠ 9) (h10 : kind ≠ 10) (h : Rel a r) : Rel (a.under kind) r.runder := by
  obtain ⟨h1, h2, h3, h4, h5⟩ := h
  unfold Fo.under Fo.runder constI
  by_cases e9 : a.k = 9
  · rw [if_pos e9] at h1
    rw [if_pos (by simp [e9]), if_pos (by simp [h1])]
    exact ⟨by rw [if_pos e9]; exact h1, h2, h3, h4, h5⟩
  · by_cases e10 : a.k = 10
    · rw [if_neg e9, if_pos e10] at h1
      rw [if_pos (by simp [e10]), if_pos (by simp [h1])]
      exact ⟨by rw [if_neg e9, if_pos e10]; exact h1, h2, h3, h4, h5⟩
    · rw [if_neg e9, if_neg e10] at h1
      rw [if_neg (by simp [e9, e10]), if_neg (by simp [h1])]
      exact ⟨by simp only; rw [if_neg h9, if_neg h10], by simp only; omega, by simp only; omega, by simp only; omega, by simp only; omega⟩
theorem rel_with {a b r s : Fo} {kind : Int} (x : Bool) (hx : kind = if x then 3 else 4) (h : Rel a r) (h' : Rel b s) : Rel (a.with kind b) (Fo.rjoin r s x) := by
  obtain ⟨h1, h2, h3, h4, h5⟩ := h
  obtain ⟨g1, g2, g3, g4, g5⟩ := h'
  have c9 : ∀ y z : Fo, y.k = 9 → z.k = 1 → y.s = 1 → z.s = 1 → y.d = 1 → z.d = 1 → Rel y z := fun y z p1 p2 p3 p4 p5 p6 => ⟨by rw [if_pos p1]; exact p2, by omega, by omega, by omega, by omega⟩
  have hj : Rel ⟨kind, min (a.s + b.s + 1) 1073741824, max a.d b.d + 1⟩ ⟨0, min (r.s + s.s + 1) 1000000, max r.d s.d + 1⟩ :=
    ⟨by cases x <;> subst hx <;> rfl, by simp only; omega, by simp only; rw [h3, g3], by simp only; omega, by simp only; omega⟩
  have ha : Rel a r := ⟨h1, h2, h3, h4, h5⟩
  have hb : Rel b s := ⟨g1, g2, g3, g4, g5⟩
  generalize hq : (⟨kind, min (a.s + b.s + 1) 1073741824, max a.d b.d + 1⟩ : Fo) = q at hj
  generalize hp : (⟨0, min (r.s + s.s + 1) 1000000, max r.d s.d + 1⟩ : Fo) = p at hj
  have k9 : Rel ⟨9, 1, 1⟩ ⟨1, 1, 1⟩ := ⟨rfl, rfl, rfl, by decide, by decide⟩
  have k10 : Rel ⟨10, 1, 1⟩ ⟨2, 1, 1⟩ := ⟨rfl, rfl, rfl, by decide, by decide⟩
  rw [Fo.with, hq]
  cases x
  · rw [rjoin_false, hp]
    subst hx
    by_cases e1 : a.k = 9
    · rw [if_pos e1] at h1
      simpa [takenI, e1, h1, zeroI] using k9
    · by_cases e2 : b.k = 9
      · rw [if_pos e2] at g1
        simpa [takenI, e2, g1, zeroI] using k9
      · rw [if_neg e1] at h1
        rw [if_neg e2] at g1
        by_cases e3 : a.k = 10
        · rw [if_pos e3] at h1
          by_cases e4 : b.k = 10
          · rw [if_pos e4] at g1; simpa [takenI, e1, e2, e3, e4, h1, g1] using hb
          · rw [if_neg e4] at g1; simpa [takenI, e1, e2, e3, e4, h1, g1] using hb
        · rw [if_neg e3] at h1
          by_cases e4 : b.k = 10
          · rw [if_pos e4] at g1; simpa [takenI, e1, e2, e3, e4, h1, g1] using ha
          · rw [if_neg e4] at g1; simpa [takenI, e1, e2, e3, e4, h1, g1] using hj
  · rw [rjoin_true, hp]
    subst hx
    by_cases e1 : a.k = 10
    · rw [if_neg (by omega), if_pos e1] at h1
      simpa [takenI, e1, h1, zeroI] using k10
    · by_cases e2 : b.k = 10
      · rw [if_neg (by omega), if_pos e2] at g1
        simpa [takenI, e2, g1, zeroI] using k10
      · by_cases e3 : a.k = 9
        · rw [if_pos e3] at h1
          by_cases e4 : b.k = 9
          · rw [if_pos e4] at g1; simpa [takenI, e1, e2, e3, e4, h1, g1] using hb
          · rw [if_neg e4, if_neg e2] at g1; simpa [takenI, e1, e2, e3, e4, h1, g1] using hb
        · rw [if_neg e3, if_neg e1] at h1
          by_cases e4 : b.k = 9
          · rw [if_pos e4] at g1; simpa [takenI, e1, e2, e3, e4, h1, g1] using ha
          · rw [if_neg e4, if_neg e2] at g1; simpa [takenI, e1, e2, e3, e4, h1, g1] using hj
theorem hd1_r {L M : List (Fo × Fo)} (h : L.length = M.length) (hr : ∀ i (h1 : i < L.length) (h2 : i < M.length), Rel L[i].1 M[i].1 ∧ Rel L[i].2 M[i].2) : Rel (hd1 L).1 (hd1 M).1 ∧ Rel (hd1 L).2 (hd1 M).2 := by
  match L, M, h with
  | [], [], _ => exact ⟨⟨rfl, rfl, rfl, by decide, by decide⟩, ⟨rfl, rfl, rfl, by decide, by decide⟩⟩
  | a :: r, b :: s, _ => exact hr 0 (by simp) (by simp)
theorem hd2_r {L M : List (Fo × Fo)} (h : L.length = M.length) (hr : ∀ i (h1 : i < L.length) (h2 : i < M.length), Rel L[i].1 M[i].1 ∧ Rel L[i].2 M[i].2) : Rel (hd2 L).1 (hd2 M).1 ∧ Rel (hd2 L).2 (hd2 M).2 := by
  match L, M, h with
  | [], [], _ => exact ⟨⟨rfl, rfl, rfl, by decide, by decide⟩, ⟨rfl, rfl, rfl, by decide, by decide⟩⟩
  | [a], [b], _ => exact ⟨⟨rfl, rfl, rfl, Int.le_refl _, Int.le_refl _⟩, ⟨rfl, rfl, rfl, Int.le_refl _, Int.le_refl _⟩⟩
  | a :: a' :: r, b :: b' :: s, _ => exact hr 1 (by simp) (by simp)
theorem relC {k sz dp : Int} {L M : List (Fo × Fo)} (hz : 0 ≤ sz) (hs : sz ≤ 1125899906842624) (h : L.length = M.length) (hr : ∀ i (h1 : i < L.length) (h2 : i < M.length), Rel L[i].1 M[i].1 ∧ Rel L[i].2 M[i].2) : Rel (measC k sz dp L).1 (rsizC k sz dp M).1 ∧ Rel (measC k sz dp L).2 (rsizC k sz dp M).2 := by
  obtain ⟨a1, a2⟩ := hd1_r h hr
  obtain ⟨b1, b2⟩ := hd2_r h hr
  have hat : Rel ⟨1, sz, dp⟩ ⟨0, sz, dp⟩ := ⟨rfl, rfl, rfl, hz, hz⟩
  unfold measC rsizC
  by_cases e9 : k = 9
  · rw [if_pos e9, if_pos e9]; exact ⟨⟨rfl, rfl, rfl, by decide, by decide⟩, ⟨rfl, rfl, rfl, by decide, by decide⟩⟩
  rw [if_neg e9, if_neg e9]
  by_cases e10 : k = 10
  · rw [if_pos e10, if_pos e10]; exact ⟨⟨rfl, rfl, rfl, by decide, by decide⟩, ⟨rfl, rfl, rfl, by decide, by decide⟩⟩
  rw [if_neg e10, if_neg e10]
  by_cases e1 : k = 1
  · rw [if_pos e1, if_pos e1]
    refine ⟨hat, rfl, ?_, rfl, ?_, ?_⟩
    · simp only [Fo.under, constI]; simp; omega
    · simp only [Fo.under, constI]; simp; omega
    · simp only; omega
  rw [if_neg e1, if_neg e1]
  by_cases e2 : k = 2
  · rw [if_pos e2, if_pos e2]; exact ⟨a2, a1⟩
  rw [if_neg e2, if_neg e2]
  by_cases e7 : k = 7 ∨ k = 8
  · rw [if_pos e7, if_pos e7]; exact ⟨rel_under (by omega) (by omega) a1, rel_under (by omega) (by omega) a2⟩
  rw [if_neg e7, if_neg e7]
  by_cases e3 : k = 3
  · rw [if_neg (by omega), if_neg (by omega), if_pos e3, if_pos e3]; exact ⟨rel_with true rfl a1 b1, rel_with false rfl a2 b2⟩
  by_cases e4 : k = 4
  · rw [if_neg (by omega), if_pos e4, if_neg e3, if_pos e4]; exact ⟨rel_with false rfl a1 b1, rel_with true rfl a2 b2⟩
  by_cases e5 : k = 5
  · rw [if_pos e5, if_neg e3, if_neg e4, if_pos e5]; exact ⟨rel_with false rfl a2 b1, rel_with true rfl a1 b2⟩
  rw [if_neg e5, if_neg e4, if_neg e3, if_neg e3, if_neg e4, if_neg e5]
  exact ⟨rel_with true rfl (rel_with false rfl a2 b1) (rel_with false rfl a1 b2), rel_with true rfl (rel_with false rfl a1 b1) (rel_with false rfl a2 b2)⟩
theorem Fm.lens : ∀ ks : List Fm, (Fm.measL ks).length = (Fm.rszL ks).length
  | [] => rfl
  | f :: r => by rw [Fm.measL, Fm.rszL, List.length_cons, List.length_cons, Fm.lens r]
mutual
theorem Fm.rel : ∀ (f : Fm), f.wt ≤ 1125899906842624 → Rel f.meas.1 f.rsz.1 ∧ Rel f.meas.2 f.rsz.2
  | .mk k n l r ks, h => by
    have hsz := Fm.size_wt (.mk k n l r ks)
    have hw : Fm.wts ks + 3 ≤ (Fm.mk k n l r ks).wt := by have := l.wt_pos; have := r.wt_pos; rw [Fm.wt]; omega
    rw [Fm.meas, Fm.rsz]
    exact relC (by omega) (by omega) (Fm.lens ks) (Fm.relL ks (by omega))
theorem Fm.relL : ∀ (ks : List Fm), Fm.wts ks ≤ 1125899906842624 → ∀ i (h1 : i < (Fm.measL ks).length) (h2 : i < (Fm.rszL ks).length), Rel (Fm.measL ks)[i].1 (Fm.rszL ks)[i].1 ∧ Rel (Fm.measL ks)[i].2 (Fm.rszL ks)[i].2
  | [], _, i, h1, _ => by simp [Fm.measL] at h1
  | f :: r, h, 0, h1, h2 => by
    rw [Fm.wts] at h
    have := Fm.rel f (by omega)
    simpa [Fm.measL, Fm.rszL] using this
  | f :: r, h, i + 1, h1, h2 => by
    rw [Fm.wts] at h
    have := Fm.relL r (by omega) i (by simpa [Fm.measL] using h1) (by simpa [Fm.rszL] using h2)
    simpa [Fm.measL, Fm.rszL] using this
end
end Go.Proofs.YtndjjnnljihmnaaGreat
