/- What a formula would be, by the reference: sizes. -/
import Derived.Test.YtndjjnnljihmnaaFmI
import Derived.IntWalk
namespace Go.Proofs.Ytndjjnnljihmnaa
open Go.RowKit
set_option linter.unusedVariables false
set_option linter.unusedSimpArgs false
def rsizC (k sz dp : Int) (L : List (Fo × Fo)) : Fo × Fo :=
  if k = 9 then (⟨1, 1, 1⟩, ⟨2, 1, 1⟩) else if k = 10 then (⟨2, 1, 1⟩, ⟨1, 1, 1⟩)
  else if k = 1 then (⟨0, sz, dp⟩, ⟨0, sz + 1, dp + 1⟩)
  else if k = 2 then ((hd1 L).2, (hd1 L).1)
  else if k = 7 ∨ k = 8 then ((hd1 L).1.runder, (hd1 L).2.runder)
  else if k = 3 then (Fo.rjoin (hd1 L).1 (hd2 L).1 true, Fo.rjoin (hd1 L).2 (hd2 L).2 false)
  else if k = 4 then (Fo.rjoin (hd1 L).1 (hd2 L).1 false, Fo.rjoin (hd1 L).2 (hd2 L).2 true)
  else if k = 5 then (Fo.rjoin (hd1 L).2 (hd2 L).1 false, Fo.rjoin (hd1 L).1 (hd2 L).2 true)
  else (Fo.rjoin (Fo.rjoin (hd1 L).2 (hd2 L).1 false) (Fo.rjoin (hd1 L).1 (hd2 L).2 false) true, Fo.rjoin (Fo.rjoin (hd1 L).1 (hd2 L).1 false) (Fo.rjoin (hd1 L).2 (hd2 L).2 false) true)
mutual
def Fm.rsz : Fm → Fo × Fo
  | .mk k n l r ks => rsizC k (Fm.size (.mk k n l r ks)) (Fm.depth (.mk k n l r ks)) (Fm.rszL ks)
def Fm.rszL : List Fm → List (Fo × Fo)
  | [] => []
  | f :: r => Fm.rsz f :: Fm.rszL r
end
theorem runder_b {a : Fo} {B : Int} (h : InB B a) : InB (B + 1) a.runder := by
  obtain ⟨h1, h2, h3, h4⟩ := h
  unfold Fo.runder; split
  · exact ⟨h1, h2, h3, by omega⟩
  · exact ⟨by simp only; omega, by simp only; omega, by simp only; omega, by simp only; omega⟩
theorem rjoin_b {a b : Fo} {x : Bool} {B : Int} (hB : 1 ≤ B) (h : InB B a) (h' : InB B b) : InB (B + 1) (Fo.rjoin a b x) := by
  have hc : ∀ y : Int, InB (B + 1) ⟨y, 1, 1⟩ := fun y => ⟨by simp only; omega, by simp only; omega, by simp only; omega, by simp only; omega⟩
  have hj : InB (B + 1) ⟨0, min (a.s + b.s + 1) 1000000, max a.d b.d + 1⟩ := by
    obtain ⟨h1, h2, h3, h4⟩ := h
    obtain ⟨g1, g2, g3, g4⟩ := h'
    exact ⟨by simp only; omega, by simp only; omega, by simp only; omega, by simp only; omega⟩
  cases x
  · rw [rjoin_false]; split
    · exact hc _
    · split
      · exact h'.mono (by omega)
      · split
        · exact h.mono (by omega)
        · exact hj
  · rw [rjoin_true]; split
    · exact hc _
    · split
      · exact h'.mono (by omega)
      · split
        · exact h.mono (by omega)
        · exact hj
theorem rsizC_b {k sz dp B : Int} {L : List (Fo × Fo)} (hB : 1 ≤ B) (hs : 0 ≤ sz ∧ sz ≤ 1125899906842624) (hd : 0 ≤ dp ∧ dp ≤ B) (h : ∀ p ∈ L, InB B p.1 ∧ InB B p.2) : InB (B + 2) (rsizC k sz dp L).1 ∧ InB (B + 2) (rsizC k sz dp L).2 := by
  have h1 := hd1_b hB h
  have h2 := hd2_b hB h
  have hc : ∀ x : Int, InB (B + 2) ⟨x, 1, 1⟩ := fun x => ⟨by simp only; omega, by simp only; omega, by simp only; omega, by simp only; omega⟩
  have up : ∀ {a : Fo}, InB B a → InB (B + 2) a := fun h => h.mono (by omega)
  have up1 : ∀ {a : Fo}, InB (B + 1) a → InB (B + 2) a := fun h => h.mono (by omega)
  have hB1 : 1 ≤ B + 1 := by omega
  have j2 : ∀ {a b c d : Fo}, InB B a → InB B b → InB B c → InB B d → InB (B + 2) (Fo.rjoin (Fo.rjoin a b false) (Fo.rjoin c d false) true) := fun ha hb hc hd => (rjoin_b hB1 (rjoin_b hB ha hb) (rjoin_b hB hc hd)).mono (by omega)
  unfold rsizC
  repeat' split
  · exact ⟨hc _, hc _⟩
  · exact ⟨hc _, hc _⟩
  · exact ⟨⟨hs.1, by simp only; omega, hd.1, by simp only; omega⟩, ⟨by simp only; omega, by simp only; omega, by simp only; omega, by simp only; omega⟩⟩
  · exact ⟨up h1.2, up h1.1⟩
  · exact ⟨up1 (runder_b h1.1), up1 (runder_b h1.2)⟩
  · exact ⟨up1 (rjoin_b hB h1.1 h2.1), up1 (rjoin_b hB h1.2 h2.2)⟩
  · exact ⟨up1 (rjoin_b hB h1.1 h2.1), up1 (rjoin_b hB h1.2 h2.2)⟩
  · exact ⟨up1 (rjoin_b hB h1.2 h2.1), up1 (rjoin_b hB h1.1 h2.2)⟩
  · exact ⟨j2 h1.2 h2.1 h1.1 h2.2, j2 h1.1 h2.1 h1.2 h2.2⟩
mutual
theorem Fm.rsz_b : ∀ (f : Fm), f.wt ≤ 1125899906842624 → InB (2 * f.wt) f.rsz.1 ∧ InB (2 * f.wt) f.rsz.2
  | .mk k n l r ks, h => by
    have hp := Fm.wt_pos (.mk k n l r ks)
    have hsz := Fm.size_wt (.mk k n l r ks)
    have hdp := Fm.depth_le (.mk k n l r ks)
    have hw : Fm.wts ks + 3 ≤ (Fm.mk k n l r ks).wt := by have := l.wt_pos; have := r.wt_pos; rw [Fm.wt]; omega
    have hL := Fm.rszL_b ks (by omega) (2 * (Fm.mk k n l r ks).wt - 2) (by omega)
    have := rsizC_b (k := k) (sz := (Fm.size (.mk k n l r ks) : Nat)) (dp := (Fm.depth (.mk k n l r ks) : Nat)) (B := 2 * ((Fm.mk k n l r ks).wt : Int) - 2) (L := Fm.rszL ks) (by omega) (by omega) (by omega) hL
    rw [Fm.rsz]
    rw [show (2 * ((Fm.mk k n l r ks).wt : Int) - 2 + 2) = 2 * ((Fm.mk k n l r ks).wt : Int) by omega] at this
    exact this
theorem Fm.rszL_b : ∀ (ks : List Fm), Fm.wts ks ≤ 1125899906842624 → ∀ B : Int, 2 * (Fm.wts ks : Int) ≤ B → ∀ p ∈ Fm.rszL ks, InB B p.1 ∧ InB B p.2
  | [], _, _, _ => by intro p hp; simp [Fm.rszL] at hp
  | f :: r, h, B, hB => by
    rw [Fm.wts] at h hB
    intro p hp
    rw [Fm.rszL] at hp
    rcases List.mem_cons.1 hp with rfl | hp
    · have := Fm.rsz_b f (by omega)
      exact ⟨this.1.mono (by omega), this.2.mono (by omega)⟩
    · exact Fm.rszL_b r (by omega) B (by omega) p hp
end
/-- What both tell of a form. -/
def Rel (a r : Fo) : Prop := r.k = (if a.k = 9 then 1 else if a.k = 10 then 2 else 0) ∧ min r.s 1000000 = min a.s 1000000 ∧ r.d = a.d ∧ 0 ≤ a.s ∧ 0 ≤ r.s
theorem rel_under {a r : Fo} {kind : Int} (h9 : kind ≠ 9) (h10 : kind ≠ 10) (h : Rel a r) : Rel (a.under kind) r.runder := by
  obtain ⟨h1, h2, h3, h4, h5⟩ := h
  unfold Fo.under Fo.runder constI
  by_cases e9 : a.k = 9
  · rw [if_pos e9] at h1
    rw [if_pos (by simp [e9]), if_pos (by simp [h1])]
    exact ⟨by rw [if_pos e9]; exact h1, h2, h3, h4, h5⟩
  · by_cases e10 : a.k = 10
    · rw [if_neg e9, if_pos e10] at h1
      rw [if_pos (by simp [e10]), if_pos (by simp [h1])]
      exact ⟨by rw [if_neg e9, if_pos e10]; exact h1, h2, h3, h4, h5⟩
    · rw [if_neg e9, if_neg e10] at h1
      rw [if_neg (by simp [e9, e10]), if_neg (by simp [h1])]
      exact ⟨by simp only; rw [if_neg h9, if_neg h10], by simp only; omega, by simp only; omega, by simp only; omega, by simp only; omega⟩
theorem rel_with {a b r s : Fo} {kind : Int} (x : Bool) (hx : kind = if x then 3 else 4) (h : Rel a r) (h' : Rel b s) : Rel (a.with kind b) (Fo.rjoin r s x) := by
  obtain ⟨h1, h2, h3, h4, h5⟩ := h
  obtain ⟨g1, g2, g3, g4, g5⟩ := h'
  have c9 : ∀ y z : Fo, y.k = 9 → z.k = 1 → y.s = 1 → z.s = 1 → y.d = 1 → z.d = 1 → Rel y z := fun y z p1 p2 p3 p4 p5 p6 => ⟨by rw [if_pos p1]; exact p2, by omega, by omega, by omega, by omega⟩
  have hj : Rel ⟨kind, min (a.s + b.s + 1) 1073741824, max a.d b.d + 1⟩ ⟨0, min (r.s + s.s + 1) 1000000, max r.d s.d + 1⟩ :=
    ⟨by cases x <;> subst hx <;> rfl, by simp only; omega, by simp only; rw [h3, g3], by simp only; omega, by simp only; omega⟩
  have ha : Rel a r := ⟨h1, h2, h3, h4, h5⟩
  have hb : Rel b s := ⟨g1, g2, g3, g4, g5⟩
  generalize hq : (⟨kind, min (a.s + b.s + 1) 1073741824, max a.d b.d + 1⟩ : Fo) = q at hj
  generalize hp : (⟨0, min (r.s + s.s + 1) 1000000, max r.d s.d + 1⟩ : Fo) = p at hj
  have k9 : Rel ⟨9, 1, 1⟩ ⟨1, 1, 1⟩ := ⟨rfl, rfl, rfl, by decide, by decide⟩
  have k10 : Rel ⟨10, 1, 1⟩ ⟨2, 1, 1⟩ := ⟨rfl, rfl, rfl, by decide, by decide⟩
  rw [Fo.with, hq]
  cases x
  · rw [rjoin_false, hp]
    subst hx
    by_cases e1 : a.k = 9
    · rw [if_pos e1] at h1
      simpa [takenI, e1, h1, zeroI] using k9
    · by_cases e2 : b.k = 9
      · rw [if_pos e2] at g1
        simpa [takenI, e2, g1, zeroI] using k9
      · rw [if_neg e1] at h1
        rw [if_neg e2] at g1
        by_cases e3 : a.k = 10
        · rw [if_pos e3] at h1
          by_cases e4 : b.k = 10
          · rw [if_pos e4] at g1; simpa [takenI, e1, e2, e3, e4, h1, g1] using hb
          · rw [if_neg e4] at g1; simpa [takenI, e1, e2, e3, e4, h1, g1] using hb
        · rw [if_neg e3] at h1
          by_cases e4 : b.k = 10
          · rw [if_pos e4] at g1; simpa [takenI, e1, e2, e3, e4, h1, g1] using ha
          · rw [if_neg e4] at g1; simpa [takenI, e1, e2, e3, e4, h1, g1] using hj
  · rw [rjoin_true, hp]
    subst hx
    by_cases e1 : a.k = 10
    · rw [if_neg (by omega), if_pos e1] at h1
      simpa [takenI, e1, h1, zeroI] using k10
    · by_cases e2 : b.k = 10
      · rw [if_neg (by omega), if_pos e2] at g1
        simpa [takenI, e2, g1, zeroI] using k10
      · by_cases e3 : a.k = 9
        · rw [if_pos e3] at h1
          by_cases e4 : b.k = 9
          · rw [if_pos e4] at g1; simpa [takenI, e1, e2, e3, e4, h1, g1] using hb
          · rw [if_neg e4, if_neg e2] at g1; simpa [takenI, e1, e2, e3, e4, h1, g1] using hb
        · rw [if_neg e3, if_neg e1] at h1
          by_cases e4 : b.k = 9
          · rw [if_pos e4] at g1; simpa [takenI, e1, e2, e3, e4, h1, g1] using ha
          · rw [if_neg e4, if_neg e2] at g1; simpa [takenI, e1, e2, e3, e4, h1, g1] using hj
theorem hd1_r {L M : List (Fo × Fo)} (h : L.length = M.length) (hr : ∀ i (h1 : i < L.length) (h2 : i < M.length), Rel L[i].1 M[i].1 ∧ Rel L[i].2 M[i].2) : Rel (hd1 L).1 (hd1 M).1 ∧ Rel (hd1 L).2 (hd1 M).2 := by
  match L, M, h with
  | [], [], _ => exact ⟨⟨rfl, rfl, rfl, by decide, by decide⟩, ⟨rfl, rfl, rfl, by decide, by decide⟩⟩
  | a :: r, b :: s, _ => exact hr 0 (by simp) (by simp)
theorem hd2_r {L M : List (Fo × Fo)} (h : L.length = M.length) (hr : ∀ i (h1 : i < L.length) (h2 : i < M.length), Rel L[i].1 M[i].1 ∧ Rel L[i].2 M[i].2) : Rel (hd2 L).1 (hd2 M).1 ∧ Rel (hd2 L).2 (hd2 M).2 := by
  match L, M, h with
  | [], [], _ => exact ⟨⟨rfl, rfl, rfl, by decide, by decide⟩, ⟨rfl, rfl, rfl, by decide, by decide⟩⟩
  | [a], [b], _ => exact ⟨⟨rfl, rfl, rfl, Int.le_refl _, Int.le_refl _⟩, ⟨rfl, rfl, rfl, Int.le_refl _, Int.le_refl _⟩⟩
  | a :: a' :: r, b :: b' :: s, _ => exact hr 1 (by simp) (by simp)
theorem relC {k sz dp : Int} {L M : List (Fo × Fo)} (hz : 0 ≤ sz) (hs : sz ≤ 1125899906842624) (h : L.length = M.length) (hr : ∀ i (h1 : i < L.length) (h2 : i < M.length), Rel L[i].1 M[i].1 ∧ Rel L[i].2 M[i].2) : Rel (measC k sz dp L).1 (rsizC k sz dp M).1 ∧ Rel (measC k sz dp L).2 (rsizC k sz dp M).2 := by
  obtain ⟨a1, a2⟩ := hd1_r h hr
  obtain ⟨b1, b2⟩ := hd2_r h hr
  have hat : Rel ⟨1, sz, dp⟩ ⟨0, sz, dp⟩ := ⟨rfl, rfl, rfl, hz, hz⟩
  unfold measC rsizC
  by_cases e9 : k = 9
  · rw [if_pos e9, if_pos e9]; exact ⟨⟨rfl, rfl, rfl, by decide, by decide⟩, ⟨rfl, rfl, rfl, by decide, by decide⟩⟩
  rw [if_neg e9, if_neg e9]
  by_cases e10 : k = 10
  · rw [if_pos e10, if_pos e10]; exact ⟨⟨rfl, rfl, rfl, by decide, by decide⟩, ⟨rfl, rfl, rfl, by decide, by decide⟩⟩
  rw [if_neg e10, if_neg e10]
  by_cases e1 : k = 1
  · rw [if_pos e1, if_pos e1]
    refine ⟨hat, rfl, ?_, rfl, ?_, ?_⟩
    · simp only [Fo.under, constI]; simp; omega
    · simp only [Fo.under, constI]; simp; omega
    · simp only; omega
  rw [if_neg e1, if_neg e1]
  by_cases e2 : k = 2
  · rw [if_pos e2, if_pos e2]; exact ⟨a2, a1⟩
  rw [if_neg e2, if_neg e2]
  by_cases e7 : k = 7 ∨ k = 8
  · rw [if_pos e7, if_pos e7]; exact ⟨rel_under (by omega) (by omega) a1, rel_under (by omega) (by omega) a2⟩
  rw [if_neg e7, if_neg e7]
  by_cases e3 : k = 3
  · rw [if_neg (by omega), if_neg (by omega), if_pos e3, if_pos e3]; exact ⟨rel_with true rfl a1 b1, rel_with false rfl a2 b2⟩
  by_cases e4 : k = 4
  · rw [if_neg (by omega), if_pos e4, if_neg e3, if_pos e4]; exact ⟨rel_with false rfl a1 b1, rel_with true rfl a2 b2⟩
  by_cases e5 : k = 5
  · rw [if_pos e5, if_neg e3, if_neg e4, if_pos e5]; exact ⟨rel_with false rfl a2 b1, rel_with true rfl a1 b2⟩
  rw [if_neg e5, if_neg e4, if_neg e3, if_neg e3, if_neg e4, if_neg e5]
  exact ⟨rel_with true rfl (rel_with false rfl a2 b1) (rel_with false rfl a1 b2), rel_with true rfl (rel_with false rfl a1 b1) (rel_with false rfl a2 b2)⟩
theorem Fm.lens : ∀ ks : List Fm, (Fm.measL ks).length = (Fm.rszL ks).length
  | [] => rfl
  | f :: r => by rw [Fm.measL, Fm.rszL, List.length_cons, List.length_cons, Fm.lens r]
mutual
theorem Fm.rel : ∀ (f : Fm), f.wt ≤ 1125899906842624 → Rel f.meas.1 f.rsz.1 ∧ Rel f.meas.2 f.rsz.2
  | .mk k n l r ks, h => by
    have hsz := Fm.size_wt (.mk k n l r ks)
    have hw : Fm.wts ks + 3 ≤ (Fm.mk k n l r ks).wt := by have := l.wt_pos; have := r.wt_pos; rw [Fm.wt]; omega
    rw [Fm.meas, Fm.rsz]
    exact relC (by omega) (by omega) (Fm.lens ks) (Fm.relL ks (by omega))
theorem Fm.relL : ∀ (ks : List Fm), Fm.wts ks ≤ 1125899906842624 → ∀ i (h1 : i < (Fm.measL ks).length) (h2 : i < (Fm.rszL ks).length), Rel (Fm.measL ks)[i].1 (Fm.rszL ks)[i].1 ∧ Rel (Fm.measL ks)[i].2 (Fm.rszL ks)[i].2
  | [], _, i, h1, _ => by simp [Fm.measL] at h1
  | f :: r, h, 0, h1, h2 => by
    rw [Fm.wts] at h
    have := Fm.rel f (by omega)
    simpa [Fm.measL, Fm.rszL] using this
  | f :: r, h, i + 1, h1, h2 => by
    rw [Fm.wts] at h
    have := Fm.relL r (by omega) i (by simpa [Fm.measL] using h1) (by simpa [Fm.rszL] using h2)
    simpa [Fm.measL, Fm.rszL] using this
end
def RszAt (fn : Nat) (N : Nat) : Prop := ∀ (k : Int) (n : ByteArray) (vl : Int) (fl : ByteArray) (al : List Tm) (vr : Int) (fr : ByteArray) (ar : List Tm) (ts : List Fm) (Al : Option Addr) (cl : Nat) (Ar : Option Addr) (cr : Nat) (A : Option Addr) (c : Nat) (S : Nat → Prop) (w : World), (Fm.mk k n (.mk vl fl al) (.mk vr fr ar) ts).wt ≤ N → N ≤ 1125899906842624 → (Fm.mk k n (.mk vl fl al) (.mk vr fr ar) ts).shape = true → ST S w Al al.length cl al → ST S w Ar ar.length cr ar → SF S w A ts.length c ts →
    Calls Try.prog fn #[.agg #[.int .i64 k, .string n, .int .i64 vl, .string fl, .slice Al al.length cl, .int .i64 vr, .string fr, .slice Ar ar.length cr, .slice A ts.length c]] w fun e w' => e = .returned (.tuple #[.agg #[.int .i64 (Fm.mk k n (.mk vl fl al) (.mk vr fr ar) ts).rsz.1.k, .int .i64 (Fm.mk k n (.mk vl fl al) (.mk vr fr ar) ts).rsz.1.s, .int .i64 (Fm.mk k n (.mk vl fl al) (.mk vr fr ar) ts).rsz.1.d], .agg #[.int .i64 (Fm.mk k n (.mk vl fl al) (.mk vr fr ar) ts).rsz.2.k, .int .i64 (Fm.mk k n (.mk vl fl al) (.mk vr fr ar) ts).rsz.2.s, .int .i64 (Fm.mk k n (.mk vl fl al) (.mk vr fr ar) ts).rsz.2.d]]) ∧ Below w.heap.size w w'
end Go.Proofs.Ytndjjnnljihmnaa
