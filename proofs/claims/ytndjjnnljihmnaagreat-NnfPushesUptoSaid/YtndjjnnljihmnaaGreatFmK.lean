/- What a formula would be, by the reference: sizes. -/
import Derived.Test.YtndjjnnljihmnaaGreatFmI
import Derived.IntWalk
namespace Go.Proofs.YtndjjnnljihmnaaGreat
open Go.RowKit
set_option linter.unusedVariables false
set_option linter.unusedSimpArgs false
def rsizC (k sz dp : Int) (L : List (Fo × Fo)) : Fo × Fo :=
  if k = 9 then (⟨1, 1, 1⟩, ⟨2, 1, 1⟩) else if k = 10 then (⟨2, 1, 1⟩, ⟨1, 1, 1⟩)
  else if k = 1 then (⟨0, sz, dp⟩, ⟨0, sz + 1, dp + 1⟩)
  else if k = 2 then ((hd1 L).2, (hd1 L).1)
  else if k = 7 ∨ k = 8 then ((hd1 L).1.runder, (hd1 L).2.runder)
  else if k = 3 then (Fo.rjoin (hd1 L).1 (hd2 L).1 true, Fo.rjoin (hd1 L).2 (hd2 L).2 false)
  else if k = 4 then (Fo.rjoin (hd1 L).1 (hd2 L).1 false, Fo.rjoin (hd1 L).2 (hd2 L).2 true)
  else if k = 5 then (Fo.rjoin (hd1 L).2 (hd2 L).1 false, Fo.rjoin (hd1 L).1 (hd2 L).2 true)
  else (Fo.rjoin (Fo.rjoin (hd1 L).2 (hd2 L).1 false) (Fo.rjoin (hd1 L).1 (hd2 L).2 false) true, Fo.rjoin (Fo.rjoin (hd1 L).1 (hd2 L).1 false) (Fo.rjoin (hd1 L).2 (hd2 L).2 false) true)
mutual
def Fm.rsz : Fm → Fo × Fo
  | .mk k n l r ks => rsizC k (Fm.size (.mk k n l r ks)) (Fm.depth (.mk k n l r ks)) (Fm.rszL ks)
def Fm.rszL : List Fm → List (Fo × Fo)
  | [] => []
  | f :: r => Fm.rsz f :: Fm.rszL r
end
theorem runder_b {a : Fo} {B : Int} (h : InB B a) : InB (B + 1) a.runder := by
  obtain ⟨h1, h2, h3, h4⟩ := h
  unfold Fo.runder; split
  · exact ⟨h1, h2, h3, by omega⟩
  · exact ⟨by simp only; omega, by simp only; omega, by simp only; omega, by simp only; omega⟩
theorem rjoin_b {a b : Fo} {x : Bool} {B : Int} (hB : 1 ≤ B) (h : InB B a) (h' : InB B b) : InB (B + 1) (Fo.rjoin a b x) := by
  have hc : ∀ y : Int, InB (B + 1) ⟨y, 1, 1⟩ := fun y => ⟨by simp only; omega, by simp only; omega, by simp only; omega, by simp only; omega⟩
  have hj : InB (B + 1) ⟨0, min (a.s + b.s + 1) 1000000, max a.d b.d + 1⟩ := by
    obtain ⟨h1, h2, h3, h4⟩ := h
    obtain ⟨g1, g2, g3, g4⟩ := h'
    exact ⟨by simp only; omega, by simp only; omega, by simp only; omega, by simp only; omega⟩
  cases x
  · rw [rjoin_false]; split
    · exact hc _
    · split
      · exact h'.mono (by omega)
      · split
        · exact h.mono (by omega)
        · exact hj
  · rw [rjoin_true]; split
    · exact hc _
    · split
      · exact h'.mono (by omega)
      · split
        · exact h.mono (by omega)
        · exact hj
theorem rsizC_b {k sz dp B : Int} {L : List (Fo × Fo)} (hB : 1 ≤ B) (hs : 0 ≤ sz ∧ sz ≤ 1125899906842624) (hd : 0 ≤ dp ∧ dp ≤ B) (h : ∀ p ∈ L, InB B p.1 ∧ InB B p.2) : InB (B + 2) (rsizC k sz dp L).1 ∧ InB (B + 2) (rsizC k sz dp L).2 := by
  have h1 := hd1_b hB h
  have h2 := hd2_b hB h
  have hc : ∀ x : Int, InB (B + 2) ⟨x, 1, 1⟩ := fun x => ⟨by simp only; omega, by simp only; omega, by simp only; omega, by simp only; omega⟩
  have up : ∀ {a : Fo}, InB B a → InB (B + 2) a := fun h => h.mono (by omega)
  have up1 : ∀ {a : Fo}, InB (B + 1) a → InB (B + 2) a := fun h => h.mono (by omega)
  have hB1 : 1 ≤ B + 1 := by omega
  have j2 : ∀ {a b c d : Fo}, InB B a → InB B b → InB B c → InB B d → InB (B + 2) (Fo.rjoin (Fo.rjoin a b false) (Fo.rjoin c d false) true) := fun ha hb hc hd => (rjoin_b hB1 (rjoin_b hB ha hb) (rjoin_b hB hc hd)).mono (by omega)
  unfold rsizC
  repeat' split
  · exact ⟨hc _, hc _⟩
  · exact ⟨hc _, hc _⟩
  · exact ⟨⟨hs.1, by simp only; omega, hd.1, by simp only; omega⟩, ⟨by simp only; omega, by simp only; omega, by simp only; omega, by simp only; omega⟩⟩
  · exact ⟨up h1.2, up h1.1⟩
  · exact ⟨up1 (runder_b h1.1), up1 (runder_b h1.2)⟩
  · exact ⟨up1 (rjoin_b hB h1.1 h2.1), up1 (rjoin_b hB h1.2 h2.2)⟩
  · exact ⟨up1 (rjoin_b hB h1.1 h2.1), up1 (rjoin_b hB h1.2 h2.2)⟩
  · exact ⟨up1 (rjoin_b hB h1.2 h2.1), up1 (rjoin_b hB h1.1 h2.2)⟩
  · exact ⟨j2 h1.2 h2.1 h1.1 h2.2, j2 h1.1 h2.1 h1.2 h2.2⟩
mutual
theorem Fm.rsz_b : ∀ (f : Fm), f.wt ≤ 1125899906842624 → InB (2 * f.wt) f.rsz.1 ∧ InB (2 * f.wt) f.rsz.2
  | .mk k n l r ks, h => by
    have hp := Fm.wt_pos (.mk k n l r ks)
    have hsz := Fm.size_wt (.mk k n l r ks)
    have hdp := Fm.depth_le (.mk k n l r ks)
    have hw : Fm.wts ks + 3 ≤ (Fm.mk k n l r ks).wt := by have := l.wt_pos; have := r.wt_pos; rw [Fm.wt]; omega
    have hL := Fm.rszL_b ks (by omega) (2 * (Fm.mk k n l r ks).wt - 2) (by omega)
    have := rsizC_b (k := k) (sz := (Fm.size (.mk k n l r ks) : Nat)) (dp := (Fm.depth (.mk k n l r ks) : Nat)) (B := 2 * ((Fm.mk k n l r ks).wt : Int) - 2) (L := Fm.rszL ks) (by omega) (by omega) (by omega) hL
    rw [Fm.rsz]
    rw [show (2 * ((Fm.mk k n l r ks).wt : Int) - 2 + 2) = 2 * ((Fm.mk k n l r ks).wt : Int) by omega] at this
    exact this
theorem Fm.rszL_b : ∀ (ks : List Fm), Fm.wts ks ≤ 1125899906842624 → ∀ B : Int, 2 * (Fm.wts ks : Int) ≤ B → ∀ p ∈ Fm.rszL ks, InB B p.1 ∧ InB B p.2
  | [], _, _, _ => by intro p hp; simp [Fm.rszL] at hp
  | f :: r, h, B, hB => by
    rw [Fm.wts] at h hB
    intro p hp
    rw [Fm.rszL] at hp
    rcases List.mem_cons.1 hp with rfl | hp
    · have := Fm.rsz_b f (by omega)
      exact ⟨this.1.mono (by omega), this.2.mono (by omega)⟩
    · exact Fm.rszL_b r (by omega) B (by omega) p hp
end
/-- What both tell of a form. -/
def Rel (a r : Fo) : Prop := r.k = (if a.k = 9 then 1 else if a.k = 10 then 2 else 0) ∧ min r.s 1000000 = min a.s 1000000 ∧ r.d = a.d ∧ 0 ≤ a.s ∧ 0 ≤ r.s
theorem rel_under {a r : Fo} {kind : Int} (h9 : kind ≠ 9) (h10 : kind ≠ 10) (h : Rel a r) : Rel (a.under kind) r.runder := by
  obtain ⟨h1, h2, h3, h4, h5⟩ := h
  unfold Fo.under Fo.runder constI
  by_cases e9 : a.k = 9
  · rw [if_pos e9] at h1
    rw [if_pos (by simp [e9]), if_pos (by simp [h1])]
    exact ⟨by rw [if_pos e9]; exact h1, h2, h3, h4, h5⟩
  · by_cases e10 : a.k = 10
    · rw [if_neg e9, if_pos e10] at h1
      rw [if_pos (by simp [e10]), if_pos (by simp [h1])]
      exact ⟨by rw [if_neg e9, if_pos e10]; exact h1, h2, h3, h4, h5⟩
    · rw [if_neg e9, if_neg e10] at h1
      rw [if_neg (by simp [e9, e10]), if_neg (by simp [h1])]
      exact ⟨by simp only; rw [if_neg h9, if_neg h10], by simp only; omega, by simp only; omega, by simp only; omega, by simp only; omega⟩
theorem rel_with {a b r s : Fo} {kind : Int} (x : Bool) (hx : kind = if x then 3 else 4) (h : Rel a r) (h' : Rel b s) : Rel (a.with kind b) (Fo.rjoin r s x) := by
  obtain ⟨h1, h2, h3, h4, h5⟩ := h
  obtain ⟨g1, g2, g3, g4, g5⟩ := h'
  have c9 : ∀ y z : Fo, y.k = 9 → z.k = 1 → y.s = 1 → z.s = 1 → y.d = 1 → z.d = 1 → Rel y z := fun y z p1 p2 p3 p4 p5 p6 => ⟨by rw [if_pos p1]; exact p2, by omega, by omega, by omega, by omega⟩
  have hj : Rel ⟨kind, min (a.s + b.s + 1) 1073741824, max a.d b.d + 1⟩ ⟨0, min (r.s + s.s + 1) 1000000, max r.d s.d + 1⟩ :=
    ⟨by cases x <;> subst hx <;> rfl, by simp only; omega, by simp only; rw [h3, g3], by simp only; omega, by simp only; omega⟩
  have ha : Rel a r := ⟨h1, h2, h3, h4, h5⟩
  have hb : Rel b s := ⟨g1, g2, g3, g4, g5⟩
  generalize hq : (⟨kind, min (a.s + b.s + 1) 1073741824, max a.d b.d + 1⟩ : Fo) = q at hj
  generalize hp : (⟨0, min (r.s + s.s + 1) 1000000, max r.d s.d + 1⟩ : Fo) = p at hj
  have k9 : Rel ⟨9, 1, 1⟩ ⟨1, 1, 1⟩ := ⟨rfl, rfl, rfl, by decide, by decide⟩
  have k10 : Rel ⟨10, 1, 1⟩ ⟨2, 1, 1⟩ := ⟨rfl, rfl, rfl, by decide, by decide⟩
  rw [Fo.with, hq]
  cases x
  · rw [rjoin_false, hp]
    subst hx
    by_cases e1 : a.k = 9
    · rw [if_pos e1] at h1
      simpa [takenI, e1, h1, zeroI] using k9
    · by_cases e2 : b.k = 9
      · rw [if_pos e2] at g1
        simpa [takenI, e2, g1, zeroI] using k9
      · rw [if_neg e1] at h1
        rw [if_neg e2] at g1
        by_cases e3 : a.k = 10
        · rw [if_pos e3] at h1
          by_cases e4 : b.k = 10
          · rw [if_pos e4] at g1; simpa [takenI, e1, e2, e3, e4, h1, g1] using hb
          · rw [if_neg e4] at g1; simpa [takenI, e1, e2, e3, e4, h1, g1] using hb
        · rw [if_neg e3] at h1
          by_cases e4 : b.k = 10
          · rw [if_pos e4] at g1; simpa [takenI, e1, e2, e3, e4, h1, g1] using ha
          · rw [if_neg e4] at g1; simpa [takenI, e1, e2, e3, e4, h1, g1] using hj
  · rw [rjoin_true, hp]
    subst hx
    by_cases e1 : a.k = 10
    · rw [if_neg (by omega), if_pos e1] at h1
      simpa [takenI, e1, h1, zeroI] using k10
    · by_cases e2 : b.k = 10
      · rw [if_neg (by omega), if_pos e2] at g1
        simpa [takenI, e2, g1, zeroI] using k10
      · by_cases e3 : a.k = 9
        · rw [if_pos e3] at h1
          by_cases e4 : b.k = 9
          · rw [if_pos e4] at g1; simpa [takenI, e1, e2, e3, e4, h1, g1] using hb
          · rw [if_neg e4, if_neg e2] at g1; simpa [takenI, e1, e2, e3, e4, h1, g1] using hb
        · rw [if_neg e3, if_neg e1] at h1
          by_cases e4 : b.k = 9
          · rw [if_pos e4] at g1; simpa [takenI, e1, e2, e3, e4, h1, g1] using ha
          · rw [if_neg e4, if_neg e2] at g1; simpa [takenI, e1, e2, e3, e4, h1, g1] using hj
theorem hd1_r {L M : List (Fo × Fo)} (h : L.length = M.length) (hr : ∀ i (h1 : i < L.length) (h2 : i < M.length), Rel L[i].1 M[i].1 ∧ Rel L[i].2 M[i].2) : Rel (hd1 L).1 (hd1 M).1 ∧ Rel (hd1 L).2 (hd1 M).2 := by
  match L, M, h with
  | [], [], _ => exact ⟨⟨rfl, rfl, rfl, by decide, by decide⟩, ⟨rfl, rfl, rfl, by decide, by decide⟩⟩
  | a :: r, b :: s, _ => exact hr 0 (by simp) (by simp)
theorem hd2_r {L M : List (Fo × Fo)} (h : L.length = M.length) (hr : ∀ i (h1 : i < L.length) (h2 : i < M.length), Rel L[i].1 M[i].1 ∧ Rel L[i].2 M[i].2) : Rel (hd2 L).1 (hd2 M).1 ∧ Rel (hd2 L).2 (hd2 M).2 := by
  match L, M, h with
  | [], [], _ => exact ⟨⟨rfl, rfl, rfl, by decide, by decide⟩, ⟨rfl, rfl, rfl, by decide, by decide⟩⟩
  | [a], [b], _ => exact ⟨⟨rfl, rfl, rfl, Int.le_refl _, Int.le_refl _⟩, ⟨rfl, rfl, rfl, Int.le_refl _, Int.le_refl _⟩⟩
  | a :: a' :: r, b :: b' :: s, _ => exact hr 1 (by simp) (by simp)
theorem relC {k sz dp : Int} {L M : List (Fo × Fo)} (hz : 0 ≤ sz) (hs : sz ≤ 1125899906842624) (h : L.length = M.length) (hr : ∀ i (h1 : i < L.length) (h2 : i < M.length), Rel L[i].1 M[i].1 ∧ Rel L[i].2 M[i].2) : Rel (measC k sz dp L).1 (rsizC k sz dp M).1 ∧ Rel (measC k sz dp L).2 (rsizC k sz dp M).2 := by
  obtain ⟨a1, a2⟩ := hd1_r h hr
  obtain ⟨b1, b2⟩ := hd2_r h hr
  have hat : Rel ⟨1, sz, dp⟩ ⟨0, sz, dp⟩ := ⟨rfl, rfl, rfl, hz, hz⟩
  unfold measC rsizC
  by_cases e9 : k = 9
  · rw [if_pos e9, if_pos e9]; exact ⟨⟨rfl, rfl, rfl, by decide, by decide⟩, ⟨rfl, rfl, rfl, by decide, by decide⟩⟩
  rw [if_neg e9, if_neg e9]
  by_cases e10 : k = 10
  · rw [if_pos e10, if_pos e10]; exact ⟨⟨rfl, rfl, rfl, by decide, by decide⟩, ⟨rfl, rfl, rfl, by decide, by decide⟩⟩
  rw [if_neg e10, if_neg e10]
  by_cases e1 : k = 1
  · rw [if_pos e1, if_pos e1]
    refine ⟨hat, rfl, ?_, rfl, ?_, ?_⟩
    · simp only [Fo.under, constI]; simp; omega
    · simp only [Fo.under, constI]; simp; omega
    · simp only; omega
  rw [if_neg e1, if_neg e1]
  by_cases e2 : k = 2
  · rw [if_pos e2, if_pos e2]; exact ⟨a2, a1⟩
  rw [if_neg e2, if_neg e2]
  by_cases e7 : k = 7 ∨ k = 8
  · rw [if_pos e7, if_pos e7]; exact ⟨rel_under (by omega) (by omega) a1, rel_under (by omega) (by omega) a2⟩
  rw [if_neg e7, if_neg e7]
  by_cases e3 : k = 3
  · rw [if_neg (by omega), if_neg (by omega), if_pos e3, if_pos e3]; exact ⟨rel_with true rfl a1 b1, rel_with false rfl a2 b2⟩
  by_cases e4 : k = 4
  · rw [if_neg (by omega), if_pos e4, if_neg e3, if_pos e4]; exact ⟨rel_with false rfl a1 b1, rel_with true rfl a2 b2⟩
  by_cases e5 : k = 5
  · rw [if_pos e5, if_neg e3, if_neg e4, if_pos e5]; exact ⟨rel_with false rfl a2 b1, rel_with true rfl a1 b2⟩
  rw [if_neg e5, if_neg e4, if_neg e3, if_neg e3, if_neg e4, if_neg e5]
  exact ⟨rel_with true rfl (rel_with false rfl a2 b1) (rel_with false rfl a1 b2), rel_with true rfl (rel_with false rfl a1 b1) (rel_with false rfl a2 b2)⟩
theorem Fm.lens : ∀ ks : List Fm, (Fm.measL ks).length = (Fm.rszL ks).length
  | [] => rfl
  | f :: r => by rw [Fm.measL, Fm.rszL, List.length_cons, List.length_cons, Fm.lens r]
mutual
theorem Fm.rel : ∀ (f : Fm), f.wt ≤ 1125899906842624 → Rel f.meas.1 f.rsz.1 ∧ Rel f.meas.2 f.rsz.2
  | .mk k n l r ks, h => by
    have hsz := Fm.size_wt (.mk k n l r ks)
    have hw : Fm.wts ks + 3 ≤ (Fm.mk k n l r ks).wt := by have := l.wt_pos; have := r.wt_pos; rw [Fm.wt]; omega
    rw [Fm.meas, Fm.rsz]
    exact relC (by omega) (by omega) (Fm.lens ks) (Fm.relL ks (by omega))
theorem Fm.relL : ∀ (ks : List Fm), Fm.wts ks ≤ 1125899906842624 → ∀ i (h1 : i < (Fm.measL ks).length) (h2 : i < (Fm.rszL ks).length), Rel (Fm.measL ks)[i].1 (Fm.rszL ks)[i].1 ∧ Rel (Fm.measL ks)[i].2 (Fm.rszL ks)[i].2
  | [], _, i, h1, _ => by simp [Fm.measL] at h1
  | f :: r, h, 0, h1, h2 => by
    rw [Fm.wts] at h
    have := Fm.rel f (by omega)
    simpa [Fm.measL, Fm.rszL] using this
  | f :: r, h, i + 1, h1, h2 => by
    rw [Fm.wts] at h
    have := Fm.relL r (by omega) i (by simpa [Fm.measL] using h1) (by simpa [Fm.rszL] using h2)
    simpa [Fm.measL, Fm.rszL] using this
end
def RszAt (fn : Nat) (N : Nat) : Prop := ∀ (k : Int) (n : ByteArray) (vl : Int) (fl : ByteArray) (al : List Tm) (vr : Int) (fr : ByteArray) (ar : List Tm) (ts : List Fm) (Al : Option Addr) (cl : Nat) (Ar : Option Addr) (cr : Nat) (A : Option Addr) (c : Nat) (S : Nat → Prop) (w : World), (Fm.mk k n (.mk vl fl al) (.mk vr fr ar) ts).wt ≤ N → N ≤ 1125899906842624 → (Fm.mk k n (.mk vl fl al) (.mk vr fr ar) ts).shape = true → ST S w Al al.length cl al → ST S w Ar ar.length cr ar → SF S w A ts.length c ts →
    Calls Tryz.prog fn #[.agg #[.int .i64 k, .string n, .int .i64 vl, .string fl, .slice Al al.length cl, .int .i64 vr, .string fr, .slice Ar ar.length cr, .slice A ts.length c]] w fun e w' => e = .returned (.tuple #[.agg #[.int .i64 (Fm.mk k n (.mk vl fl al) (.mk vr fr ar) ts).rsz.1.k, .int .i64 (Fm.mk k n (.mk vl fl al) (.mk vr fr ar) ts).rsz.1.s, .int .i64 (Fm.mk k n (.mk vl fl al) (.mk vr fr ar) ts).rsz.1.d], .agg #[.int .i64 (Fm.mk k n (.mk vl fl al) (.mk vr fr ar) ts).rsz.2.k, .int .i64 (Fm.mk k n (.mk vl fl al) (.mk vr fr ar) ts).rsz.2.s, .int .i64 (Fm.mk k n (.mk vl fl al) (.mk vr fr ar) ts).rsz.2.d]]) ∧ Below w.heap.size w w'
theorem rsz9 (k : Int) (n : ByteArray) (vl : Int) (fl : ByteArray) (al : List Tm) (vr : Int) (fr : ByteArray) (ar : List Tm) (ts : List Fm) (Al : Option Addr) (cl : Nat) (Ar : Option Addr) (cr : Nat) (A : Option Addr) (c : Nat) (w : World) (h : k = 9) : Calls Tryz.prog 20 #[.agg #[.int .i64 k, .string n, .int .i64 vl, .string fl, .slice Al al.length cl, .int .i64 vr, .string fr, .slice Ar ar.length cr, .slice A ts.length c]] w fun e w' => e = .returned (.tuple #[.agg #[.int .i64 1, .int .i64 1, .int .i64 1], .agg #[.int .i64 2, .int .i64 1, .int .i64 1]]) ∧ Below w.heap.size w w' := by
  subst h
  have HB0 := Lib.hid (show Below w.heap.size w (((w.alloc (.cells #[.int .i64 9, .string n, .int .i64 vl, .string fl, .slice Al al.length cl, .int .i64 vr, .string fr, .slice Ar ar.length cr, .slice A ts.length c] 27)).alloc (.cells #[.int .i64 0, .int .i64 0, .int .i64 0] 51)).alloc (.cells #[.int .i64 0, .int .i64 0, .int .i64 0] 51)) by (repeat' (first | (with_reducible assumption) | (with_reducible exact Below.refl _ _) | (with_reducible refine Below.setCell ?_ ?_ _) | (with_reducible refine Below.alloc ?_ ?_ _) | (with_reducible apply Below.drew) | omega | (simp; done) | (simp; omega))))
  have BK1 := Lib.hid (((Blk.new w 27 [.int .i64 9, .string n, .int .i64 vl, .string fl, .slice Al al.length cl, .int .i64 vr, .string fr, .slice Ar ar.length cr, .slice A ts.length c]).alloc (.cells #[.int .i64 0, .int .i64 0, .int .i64 0] 51)).alloc (.cells #[.int .i64 0, .int .i64 0, .int .i64 0] 51))
  have BK2 := Lib.hid ((Blk.new' (w.alloc (.cells #[.int .i64 9, .string n, .int .i64 vl, .string fl, .slice Al al.length cl, .int .i64 vr, .string fr, .slice Ar ar.length cr, .slice A ts.length c] 27)) (w.heap.size + 1) 51 [.int .i64 0, .int .i64 0, .int .i64 0] (by simp)).alloc (.cells #[.int .i64 0, .int .i64 0, .int .i64 0] 51))
  have BK3 := Lib.hid (Blk.new' ((w.alloc (.cells #[.int .i64 9, .string n, .int .i64 vl, .string fl, .slice Al al.length cl, .int .i64 vr, .string fr, .slice Ar ar.length cr, .slice A ts.length c] 27)).alloc (.cells #[.int .i64 0, .int .i64 0, .int .i64 0] 51)) (w.heap.size + 1 + 1) 51 [.int .i64 0, .int .i64 0, .int .i64 0] (by simp))
  simp only [List.toArray] at BK1 BK2 BK3
  go_enter Tryz.func20, Tryz.ntmps20
  go_upto_region 3 with (fail)
  generalize hW : (((w.alloc (.cells #[.int .i64 9, .string n, .int .i64 vl, .string fl, .slice Al al.length cl, .int .i64 vr, .string fr, .slice Ar ar.length cr, .slice A ts.length c] 27)).alloc (.cells #[.int .i64 0, .int .i64 0, .int .i64 0] 51)).alloc (.cells #[.int .i64 0, .int .i64 0, .int .i64 0] 51)) = W at *
  clear hW
  go_wp2_with fail
  refine (rconst_any 1 _).mono ?_
  rintro e w2 ⟨rfl, hb2⟩
  have HB2 := Lib.hid (bel_go HB0.out hb2)
  have BQ2 := Lib.hid (Blk.go BK2.out hb2)
  have BQ3 := Lib.hid (Blk.go BK3.out hb2)
  clear hb2
  go_wp2_with fail
  refine (rconst_any 2 _).mono ?_
  rintro e w3 ⟨rfl, hb3⟩
  have hB := bel_go HB2.out hb3
  have BS2 := Lib.hid (Blk.go BQ2.out hb3)
  have BS3 := Lib.hid (Blk.go BQ3.out hb3)
  clear hb3
  have yr0 := BS2.out.cell 0
  have yr1 := BS2.out.cell 1
  have yr2 := BS2.out.cell 2
  simp only [List.getElem?_cons_zero, List.getElem?_cons_succ] at yr0 yr1 yr2
  have yf0 := BS2.out.free 0
  have yf1 := BS2.out.free 1
  have yf2 := BS2.out.free 2
  have ys0 := BS3.out.cell 0
  have ys1 := BS3.out.cell 1
  have ys2 := BS3.out.cell 2
  simp only [List.getElem?_cons_zero, List.getElem?_cons_succ] at ys0 ys1 ys2
  have yg0 := BS3.out.free 0
  have yg1 := BS3.out.free 1
  have yg2 := BS3.out.free 2
  go_wp2_with fail
  refine bodyPost_ret (v := .tuple #[.agg #[.int .i64 1, .int .i64 1, .int .i64 1], .agg #[.int .i64 2, .int .i64 1, .int .i64 1]]) ?_ rfl ⟨rfl, by (repeat' (first | (with_reducible assumption) | (with_reducible exact Below.refl _ _) | (with_reducible refine Below.setCell ?_ ?_ _) | (with_reducible refine Below.alloc ?_ ?_ _) | (with_reducible apply Below.drew) | omega | (simp; done) | (simp; omega)))⟩
  simp [results, Tryz.results20, go_sem, yr0, yr1, yr2, ys0, ys1, ys2]
theorem rsz10 (k : Int) (n : ByteArray) (vl : Int) (fl : ByteArray) (al : List Tm) (vr : Int) (fr : ByteArray) (ar : List Tm) (ts : List Fm) (Al : Option Addr) (cl : Nat) (Ar : Option Addr) (cr : Nat) (A : Option Addr) (c : Nat) (w : World) (h : k = 10) : Calls Tryz.prog 20 #[.agg #[.int .i64 k, .string n, .int .i64 vl, .string fl, .slice Al al.length cl, .int .i64 vr, .string fr, .slice Ar ar.length cr, .slice A ts.length c]] w fun e w' => e = .returned (.tuple #[.agg #[.int .i64 2, .int .i64 1, .int .i64 1], .agg #[.int .i64 1, .int .i64 1, .int .i64 1]]) ∧ Below w.heap.size w w' := by
  subst h
  have HB0 := Lib.hid (show Below w.heap.size w (((w.alloc (.cells #[.int .i64 10, .string n, .int .i64 vl, .string fl, .slice Al al.length cl, .int .i64 vr, .string fr, .slice Ar ar.length cr, .slice A ts.length c] 27)).alloc (.cells #[.int .i64 0, .int .i64 0, .int .i64 0] 51)).alloc (.cells #[.int .i64 0, .int .i64 0, .int .i64 0] 51)) by (repeat' (first | (with_reducible assumption) | (with_reducible exact Below.refl _ _) | (with_reducible refine Below.setCell ?_ ?_ _) | (with_reducible refine Below.alloc ?_ ?_ _) | (with_reducible apply Below.drew) | omega | (simp; done) | (simp; omega))))
  have BK1 := Lib.hid (((Blk.new w 27 [.int .i64 10, .string n, .int .i64 vl, .string fl, .slice Al al.length cl, .int .i64 vr, .string fr, .slice Ar ar.length cr, .slice A ts.length c]).alloc (.cells #[.int .i64 0, .int .i64 0, .int .i64 0] 51)).alloc (.cells #[.int .i64 0, .int .i64 0, .int .i64 0] 51))
  have BK2 := Lib.hid ((Blk.new' (w.alloc (.cells #[.int .i64 10, .string n, .int .i64 vl, .string fl, .slice Al al.length cl, .int .i64 vr, .string fr, .slice Ar ar.length cr, .slice A ts.length c] 27)) (w.heap.size + 1) 51 [.int .i64 0, .int .i64 0, .int .i64 0] (by simp)).alloc (.cells #[.int .i64 0, .int .i64 0, .int .i64 0] 51))
  have BK3 := Lib.hid (Blk.new' ((w.alloc (.cells #[.int .i64 10, .string n, .int .i64 vl, .string fl, .slice Al al.length cl, .int .i64 vr, .string fr, .slice Ar ar.length cr, .slice A ts.length c] 27)).alloc (.cells #[.int .i64 0, .int .i64 0, .int .i64 0] 51)) (w.heap.size + 1 + 1) 51 [.int .i64 0, .int .i64 0, .int .i64 0] (by simp))
  simp only [List.toArray] at BK1 BK2 BK3
  go_enter Tryz.func20, Tryz.ntmps20
  go_upto_region 5 with (fail)
  generalize hW : (((w.alloc (.cells #[.int .i64 10, .string n, .int .i64 vl, .string fl, .slice Al al.length cl, .int .i64 vr, .string fr, .slice Ar ar.length cr, .slice A ts.length c] 27)).alloc (.cells #[.int .i64 0, .int .i64 0, .int .i64 0] 51)).alloc (.cells #[.int .i64 0, .int .i64 0, .int .i64 0] 51)) = W at *
  clear hW
  go_wp2_with fail
  refine (rconst_any 2 _).mono ?_
  rintro e w2 ⟨rfl, hb2⟩
  have HB2 := Lib.hid (bel_go HB0.out hb2)
  have BQ2 := Lib.hid (Blk.go BK2.out hb2)
  have BQ3 := Lib.hid (Blk.go BK3.out hb2)
  clear hb2
  go_wp2_with fail
  refine (rconst_any 1 _).mono ?_
  rintro e w3 ⟨rfl, hb3⟩
  have hB := bel_go HB2.out hb3
  have BS2 := Lib.hid (Blk.go BQ2.out hb3)
  have BS3 := Lib.hid (Blk.go BQ3.out hb3)
  clear hb3
  have yr0 := BS2.out.cell 0
  have yr1 := BS2.out.cell 1
  have yr2 := BS2.out.cell 2
  simp only [List.getElem?_cons_zero, List.getElem?_cons_succ] at yr0 yr1 yr2
  have yf0 := BS2.out.free 0
  have yf1 := BS2.out.free 1
  have yf2 := BS2.out.free 2
  have ys0 := BS3.out.cell 0
  have ys1 := BS3.out.cell 1
  have ys2 := BS3.out.cell 2
  simp only [List.getElem?_cons_zero, List.getElem?_cons_succ] at ys0 ys1 ys2
  have yg0 := BS3.out.free 0
  have yg1 := BS3.out.free 1
  have yg2 := BS3.out.free 2
  go_wp2_with fail
  refine bodyPost_ret (v := .tuple #[.agg #[.int .i64 2, .int .i64 1, .int .i64 1], .agg #[.int .i64 1, .int .i64 1, .int .i64 1]]) ?_ rfl ⟨rfl, by (repeat' (first | (with_reducible assumption) | (with_reducible exact Below.refl _ _) | (with_reducible refine Below.setCell ?_ ?_ _) | (with_reducible refine Below.alloc ?_ ?_ _) | (with_reducible apply Below.drew) | omega | (simp; done) | (simp; omega)))⟩
  simp [results, Tryz.results20, go_sem, yr0, yr1, yr2, ys0, ys1, ys2]
set_option maxRecDepth 100000 in
set_option maxHeartbeats 6400000 in
theorem rsz1 (k : Int) (n : ByteArray) (vl : Int) (fl : ByteArray) (al : List Tm) (vr : Int) (fr : ByteArray) (ar : List Tm) (ts : List Fm) (Al : Option Addr) (cl : Nat) (Ar : Option Addr) (cr : Nat) (A : Option Addr) (c : Nat) (S : Nat → Prop) (w : World) (h : k = 1) (hN : (Fm.mk k n (.mk vl fl al) (.mk vr fr ar) ts).wt ≤ 1125899906842624) (hl : ST S w Al al.length cl al) (hr : ST S w Ar ar.length cr ar) (hs : SF S w A ts.length c ts) : Calls Tryz.prog 20 #[.agg #[.int .i64 k, .string n, .int .i64 vl, .string fl, .slice Al al.length cl, .int .i64 vr, .string fr, .slice Ar ar.length cr, .slice A ts.length c]] w fun e w' => e = .returned (.tuple #[.agg #[.int .i64 ((Fm.mk k n (.mk vl fl al) (.mk vr fr ar) ts).rsz).1.k, .int .i64 ((Fm.mk k n (.mk vl fl al) (.mk vr fr ar) ts).rsz).1.s, .int .i64 ((Fm.mk k n (.mk vl fl al) (.mk vr fr ar) ts).rsz).1.d], .agg #[.int .i64 ((Fm.mk k n (.mk vl fl al) (.mk vr fr ar) ts).rsz).2.k, .int .i64 ((Fm.mk k n (.mk vl fl al) (.mk vr fr ar) ts).rsz).2.s, .int .i64 ((Fm.mk k n (.mk vl fl al) (.mk vr fr ar) ts).rsz).2.d]]) ∧ Below w.heap.size w w' := by
  subst h
  have hsw := Fm.size_wt (Fm.mk 1 n (.mk vl fl al) (.mk vr fr ar) ts)
  have hdl := Fm.depth_le (Fm.mk 1 n (.mk vl fl al) (.mk vr fr ar) ts)
  have hv : Fm.rsz (Fm.mk 1 n (.mk vl fl al) (.mk vr fr ar) ts) = (⟨0, ((Fm.mk 1 n (.mk vl fl al) (.mk vr fr ar) ts).size : Nat), ((Fm.mk 1 n (.mk vl fl al) (.mk vr fr ar) ts).depth : Nat)⟩, ⟨0, ((Fm.mk 1 n (.mk vl fl al) (.mk vr fr ar) ts).size : Nat) + 1, ((Fm.mk 1 n (.mk vl fl al) (.mk vr fr ar) ts).depth : Nat) + 1⟩) := by rw [Fm.rsz]; rfl
  have HSZ := Lib.hid (fun w' (hb : Below w.heap.size w w') => rfsize0 1152921504606846976 1 n vl fl al vr fr ar ts S w' Al cl Ar cr A c (by omega) (Nat.le_refl _) (hl.stay (Stay.below hb)) (hr.stay (Stay.below hb)) (hs.stay (Stay.below hb)))
  have HDP := Lib.hid (fun w' (hb : Below w.heap.size w w') => rfdepth0 1152921504606846976 1 n vl fl al vr fr ar ts S w' Al cl Ar cr A c (by omega) (Nat.le_refl _) (hl.stay (Stay.below hb)) (hr.stay (Stay.below hb)) (hs.stay (Stay.below hb)))
  rw [hv]
  clear hv hl hr hs
  generalize (Fm.mk 1 n (.mk vl fl al) (.mk vr fr ar) ts).size = q at *
  generalize (Fm.mk 1 n (.mk vl fl al) (.mk vr fr ar) ts).depth = dd at *
  have hwq : IntKind.i64.wrap ((q : Int) + 1) = (q : Int) + 1 := IntWalk.i64_in _ (by omega)
  have hwd : IntKind.i64.wrap ((dd : Int) + 1) = (dd : Int) + 1 := IntWalk.i64_in _ (by omega)
  have HWQ := Lib.hid hwq
  have HWD := Lib.hid hwd
  clear hsw hdl hN hwq hwd
  have HB0 := Lib.hid (show Below w.heap.size w (((w.alloc (.cells #[.int .i64 1, .string n, .int .i64 vl, .string fl, .slice Al al.length cl, .int .i64 vr, .string fr, .slice Ar ar.length cr, .slice A ts.length c] 27)).alloc (.cells #[.int .i64 0, .int .i64 0, .int .i64 0] 51)).alloc (.cells #[.int .i64 0, .int .i64 0, .int .i64 0] 51)) by (repeat' (first | (with_reducible assumption) | (with_reducible exact Below.refl _ _) | (with_reducible refine Below.setCell ?_ ?_ _) | (with_reducible refine Below.alloc ?_ ?_ _) | (with_reducible apply Below.drew) | omega | (simp; done) | (simp; omega))))
  have BK1 := Lib.hid (((Blk.new w 27 [.int .i64 1, .string n, .int .i64 vl, .string fl, .slice Al al.length cl, .int .i64 vr, .string fr, .slice Ar ar.length cr, .slice A ts.length c]).alloc (.cells #[.int .i64 0, .int .i64 0, .int .i64 0] 51)).alloc (.cells #[.int .i64 0, .int .i64 0, .int .i64 0] 51))
  have BK2 := Lib.hid ((Blk.new' (w.alloc (.cells #[.int .i64 1, .string n, .int .i64 vl, .string fl, .slice Al al.length cl, .int .i64 vr, .string fr, .slice Ar ar.length cr, .slice A ts.length c] 27)) (w.heap.size + 1) 51 [.int .i64 0, .int .i64 0, .int .i64 0] (by simp)).alloc (.cells #[.int .i64 0, .int .i64 0, .int .i64 0] 51))
  have BK3 := Lib.hid (Blk.new' ((w.alloc (.cells #[.int .i64 1, .string n, .int .i64 vl, .string fl, .slice Al al.length cl, .int .i64 vr, .string fr, .slice Ar ar.length cr, .slice A ts.length c] 27)).alloc (.cells #[.int .i64 0, .int .i64 0, .int .i64 0] 51)) (w.heap.size + 1 + 1) 51 [.int .i64 0, .int .i64 0, .int .i64 0] (by simp))
  simp only [List.toArray] at BK1 BK2 BK3
  go_enter Tryz.func20, Tryz.ntmps20
  go_upto_region 7 with (fail)
  generalize hW : (((w.alloc (.cells #[.int .i64 1, .string n, .int .i64 vl, .string fl, .slice Al al.length cl, .int .i64 vr, .string fr, .slice Ar ar.length cr, .slice A ts.length c] 27)).alloc (.cells #[.int .i64 0, .int .i64 0, .int .i64 0] 51)).alloc (.cells #[.int .i64 0, .int .i64 0, .int .i64 0] 51)) = W at *
  clear hW
  have HQ0 := Lib.hid (bel_drew1 W)
  have y0 := BK1.out.cell 0
  have y1 := BK1.out.cell 1
  have y2 := BK1.out.cell 2
  have y3 := BK1.out.cell 3
  have y4 := BK1.out.cell 4
  have y5 := BK1.out.cell 5
  have y6 := BK1.out.cell 6
  have y7 := BK1.out.cell 7
  have y8 := BK1.out.cell 8
  simp only [List.getElem?_cons_zero, List.getElem?_cons_succ] at y0 y1 y2 y3 y4 y5 y6 y7 y8
  have Z0 := Lib.hid y0
  have Z1 := Lib.hid y1
  have Z2 := Lib.hid y2
  have Z3 := Lib.hid y3
  have Z4 := Lib.hid y4
  have Z5 := Lib.hid y5
  have Z6 := Lib.hid y6
  have Z7 := Lib.hid y7
  have Z8 := Lib.hid y8
  have hWl : w.heap.size < W.heap.size := BK1.out.lt
  go_cut [4] (fun va wx => ∃ g, va = .pointer (some ⟨g, 0, none⟩) ∧ W.heap.size ≤ g ∧ Blk wx g 51 [.int .i64 0, .int .i64 q, .int .i64 dd] ∧ Below W.heap.size W wx)
  case first =>
    (first | (go_region_held3 (fun w' => w'.cell? ⟨w.heap.size, 0, none⟩ = some (.int .i64 1) ∧ w'.cell? ⟨w.heap.size, 1, none⟩ = some (.string n) ∧ w'.cell? ⟨w.heap.size, 2, none⟩ = some (.int .i64 vl) ∧ w'.cell? ⟨w.heap.size, 3, none⟩ = some (.string fl) ∧ w'.cell? ⟨w.heap.size, 4, none⟩ = some (.slice Al al.length cl) ∧ w'.cell? ⟨w.heap.size, 5, none⟩ = some (.int .i64 vr) ∧ w'.cell? ⟨w.heap.size, 6, none⟩ = some (.string fr) ∧ w'.cell? ⟨w.heap.size, 7, none⟩ = some (.slice Ar ar.length cr) ∧ w'.cell? ⟨w.heap.size, 8, none⟩ = some (.slice A ts.length c)) (go_keep) (first | (go_at_call 16; refine (HSZ.out _ (bel_go HB0.out (by first | exact HQ1.out | exact HQ0.out))).mono ?_; rintro e w9 ⟨rfl, hb9⟩; have BN0 := BN; clear BN; have BN := Lib.hid (Blk.go BN0.out hb9); have yn0 := BN.out.cell 0; have fn0 := BN.out.free 0; have yn1 := BN.out.cell 1; have fn1 := BN.out.free 1; have yn2 := BN.out.cell 2; have fn2 := BN.out.free 2; simp only [List.getElem?_cons_zero, List.getElem?_cons_succ] at yn0 yn1 yn2; have HQ1 := Lib.hid (bel_go (by first | exact HQ1.out | exact HQ0.out) hb9); clear hb9; have y0 := keepc HQ1.out Z0.out; have y1 := keepc HQ1.out Z1.out; have y2 := keepc HQ1.out Z2.out; have y3 := keepc HQ1.out Z3.out; have y4 := keepc HQ1.out Z4.out; have y5 := keepc HQ1.out Z5.out; have y6 := keepc HQ1.out Z6.out; have y7 := keepc HQ1.out Z7.out; have y8 := keepc HQ1.out Z8.out;) | (go_at_call 16; refine (HSZ.out _ (bel_go HB0.out (HQ1.out.alloc HQ1.out.size (.cells #[.int .i64 0, .int .i64 0, .int .i64 0] 51)))).mono ?_; rintro e w9 ⟨rfl, hb9⟩; have BN := Lib.hid (Blk.go (Blk.new _ 51 [.int .i64 0, .int .i64 0, .int .i64 0]) hb9); have hgn := HQ1.out.size; have hna0 := Nat.ne_of_gt (Nat.lt_of_lt_of_le hWl hgn); have hnb0 := hna0.symm; have yn0 := BN.out.cell 0; have fn0 := BN.out.free 0; have yn1 := BN.out.cell 1; have fn1 := BN.out.free 1; have yn2 := BN.out.cell 2; have fn2 := BN.out.free 2; simp only [List.getElem?_cons_zero, List.getElem?_cons_succ] at yn0 yn1 yn2; have HQ1 := Lib.hid (bel_go (HQ1.out.alloc HQ1.out.size (.cells #[.int .i64 0, .int .i64 0, .int .i64 0] 51)) hb9); clear hb9; have y0 := keepc HQ1.out Z0.out; have y1 := keepc HQ1.out Z1.out; have y2 := keepc HQ1.out Z2.out; have y3 := keepc HQ1.out Z3.out; have y4 := keepc HQ1.out Z4.out; have y5 := keepc HQ1.out Z5.out; have y6 := keepc HQ1.out Z6.out; have y7 := keepc HQ1.out Z7.out; have y8 := keepc HQ1.out Z8.out;) | (go_at_call 16; refine (HSZ.out _ (bel_go HB0.out (HQ0.out.alloc HQ0.out.size (.cells #[.int .i64 0, .int .i64 0, .int .i64 0] 51)))).mono ?_; rintro e w9 ⟨rfl, hb9⟩; have BN : Hid (Blk w9 W.heap.size 51 [.int .i64 0, .int .i64 0, .int .i64 0]) := Lib.hid (Blk.go (Blk.new W.drew _ _) hb9); have hgn := Nat.le_refl W.heap.size; have hna0 := Nat.ne_of_gt (Nat.lt_of_lt_of_le hWl hgn); have hnb0 := hna0.symm; have yn0 := BN.out.cell 0; have fn0 := BN.out.free 0; have yn1 := BN.out.cell 1; have fn1 := BN.out.free 1; have yn2 := BN.out.cell 2; have fn2 := BN.out.free 2; simp only [List.getElem?_cons_zero, List.getElem?_cons_succ] at yn0 yn1 yn2; have HQ1 := Lib.hid (bel_go (HQ0.out.alloc HQ0.out.size (.cells #[.int .i64 0, .int .i64 0, .int .i64 0] 51)) hb9); clear hb9; have y0 := keepc HQ1.out Z0.out; have y1 := keepc HQ1.out Z1.out; have y2 := keepc HQ1.out Z2.out; have y3 := keepc HQ1.out Z3.out; have y4 := keepc HQ1.out Z4.out; have y5 := keepc HQ1.out Z5.out; have y6 := keepc HQ1.out Z6.out; have y7 := keepc HQ1.out Z7.out; have y8 := keepc HQ1.out Z8.out;) | (go_at_call 16; refine (HSZ.out _ (bel_go HB0.out (by first | exact HQ1.out | exact HQ0.out))).mono ?_; rintro e w9 ⟨rfl, hb9⟩;  have HQ1 := Lib.hid (bel_go (by first | exact HQ1.out | exact HQ0.out) hb9); clear hb9; have y0 := keepc HQ1.out Z0.out; have y1 := keepc HQ1.out Z1.out; have y2 := keepc HQ1.out Z2.out; have y3 := keepc HQ1.out Z3.out; have y4 := keepc HQ1.out Z4.out; have y5 := keepc HQ1.out Z5.out; have y6 := keepc HQ1.out Z6.out; have y7 := keepc HQ1.out Z7.out; have y8 := keepc HQ1.out Z8.out;) | (go_at_call 30; refine (HDP.out _ (bel_go HB0.out (by first | exact HQ1.out | exact HQ0.out))).mono ?_; rintro e w9 ⟨rfl, hb9⟩; have BN0 := BN; clear BN; have BN := Lib.hid (Blk.go BN0.out hb9); have yn0 := BN.out.cell 0; have fn0 := BN.out.free 0; have yn1 := BN.out.cell 1; have fn1 := BN.out.free 1; have yn2 := BN.out.cell 2; have fn2 := BN.out.free 2; simp only [List.getElem?_cons_zero, List.getElem?_cons_succ] at yn0 yn1 yn2; have HQ1 := Lib.hid (bel_go (by first | exact HQ1.out | exact HQ0.out) hb9); clear hb9; have y0 := keepc HQ1.out Z0.out; have y1 := keepc HQ1.out Z1.out; have y2 := keepc HQ1.out Z2.out; have y3 := keepc HQ1.out Z3.out; have y4 := keepc HQ1.out Z4.out; have y5 := keepc HQ1.out Z5.out; have y6 := keepc HQ1.out Z6.out; have y7 := keepc HQ1.out Z7.out; have y8 := keepc HQ1.out Z8.out;) | (go_at_call 30; refine (HDP.out _ (bel_go HB0.out (HQ1.out.alloc HQ1.out.size (.cells #[.int .i64 0, .int .i64 0, .int .i64 0] 51)))).mono ?_; rintro e w9 ⟨rfl, hb9⟩; have BN := Lib.hid (Blk.go (Blk.new _ 51 [.int .i64 0, .int .i64 0, .int .i64 0]) hb9); have hgn := HQ1.out.size; have hna0 := Nat.ne_of_gt (Nat.lt_of_lt_of_le hWl hgn); have hnb0 := hna0.symm; have yn0 := BN.out.cell 0; have fn0 := BN.out.free 0; have yn1 := BN.out.cell 1; have fn1 := BN.out.free 1; have yn2 := BN.out.cell 2; have fn2 := BN.out.free 2; simp only [List.getElem?_cons_zero, List.getElem?_cons_succ] at yn0 yn1 yn2; have HQ1 := Lib.hid (bel_go (HQ1.out.alloc HQ1.out.size (.cells #[.int .i64 0, .int .i64 0, .int .i64 0] 51)) hb9); clear hb9; have y0 := keepc HQ1.out Z0.out; have y1 := keepc HQ1.out Z1.out; have y2 := keepc HQ1.out Z2.out; have y3 := keepc HQ1.out Z3.out; have y4 := keepc HQ1.out Z4.out; have y5 := keepc HQ1.out Z5.out; have y6 := keepc HQ1.out Z6.out; have y7 := keepc HQ1.out Z7.out; have y8 := keepc HQ1.out Z8.out;) | (go_at_call 30; refine (HDP.out _ (bel_go HB0.out (HQ0.out.alloc HQ0.out.size (.cells #[.int .i64 0, .int .i64 0, .int .i64 0] 51)))).mono ?_; rintro e w9 ⟨rfl, hb9⟩; have BN : Hid (Blk w9 W.heap.size 51 [.int .i64 0, .int .i64 0, .int .i64 0]) := Lib.hid (Blk.go (Blk.new W.drew _ _) hb9); have hgn := Nat.le_refl W.heap.size; have hna0 := Nat.ne_of_gt (Nat.lt_of_lt_of_le hWl hgn); have hnb0 := hna0.symm; have yn0 := BN.out.cell 0; have fn0 := BN.out.free 0; have yn1 := BN.out.cell 1; have fn1 := BN.out.free 1; have yn2 := BN.out.cell 2; have fn2 := BN.out.free 2; simp only [List.getElem?_cons_zero, List.getElem?_cons_succ] at yn0 yn1 yn2; have HQ1 := Lib.hid (bel_go (HQ0.out.alloc HQ0.out.size (.cells #[.int .i64 0, .int .i64 0, .int .i64 0] 51)) hb9); clear hb9; have y0 := keepc HQ1.out Z0.out; have y1 := keepc HQ1.out Z1.out; have y2 := keepc HQ1.out Z2.out; have y3 := keepc HQ1.out Z3.out; have y4 := keepc HQ1.out Z4.out; have y5 := keepc HQ1.out Z5.out; have y6 := keepc HQ1.out Z6.out; have y7 := keepc HQ1.out Z7.out; have y8 := keepc HQ1.out Z8.out;) | (go_at_call 30; refine (HDP.out _ (bel_go HB0.out (by first | exact HQ1.out | exact HQ0.out))).mono ?_; rintro e w9 ⟨rfl, hb9⟩;  have HQ1 := Lib.hid (bel_go (by first | exact HQ1.out | exact HQ0.out) hb9); clear hb9; have y0 := keepc HQ1.out Z0.out; have y1 := keepc HQ1.out Z1.out; have y2 := keepc HQ1.out Z2.out; have y3 := keepc HQ1.out Z3.out; have y4 := keepc HQ1.out Z4.out; have y5 := keepc HQ1.out Z5.out; have y6 := keepc HQ1.out Z6.out; have y7 := keepc HQ1.out Z7.out; have y8 := keepc HQ1.out Z8.out;))) | fail "held")
    all_goals
      go_wp2_with fail
      go_meet
      first
      | exact ⟨_, rfl, HQ1.out.size, Blk.new _ _ _, HQ1.out.alloc HQ1.out.size _⟩
      | exact ⟨_, rfl, hgn, blk3 BN.out _ _ _, (((HQ1.out.setCell hgn _).setCell hgn _).setCell hgn _)⟩
  case rest =>
    obtain ⟨g, rfl, hg, hbk, hbw⟩ := hcut
    have BN := Lib.hid hbk
    have BS2 := Lib.hid (BK2.out.below hbw BK2.out.lt)
    have BS3 := Lib.hid (BK3.out.below hbw BK3.out.lt)
    have HB3 := Lib.hid (bel_go HB0.out hbw)
    have l2 := BK2.out.lt
    have l3 := BK3.out.lt
    have hn1 : w.heap.size + 1 ≠ g := by omega
    have hn2 : g ≠ w.heap.size + 1 := by omega
    have hn3 : w.heap.size + 1 + 1 ≠ g := by omega
    have hn4 : g ≠ w.heap.size + 1 + 1 := by omega
    clear y0 y1 y2 y3 y4 y5 y6 y7 y8 hbk hbw BK1 BK2 BK3 HQ0 l2 l3
    generalize wc = W5 at *
    have m0 := BN.out.cell 0
    have m1 := BN.out.cell 1
    have m2 := BN.out.cell 2
    simp only [List.getElem?_cons_zero, List.getElem?_cons_succ] at m0 m1 m2
    have M0 := Lib.hid m0
    have M1 := Lib.hid m1
    have M2 := Lib.hid m2
    go_upto_region 8 with (fail)
    have HQ0 := Lib.hid (bel_drew1 W5)
    have HQ1 := HQ0
    have hB := HB3.out
    have hwq := HWQ.out
    have hwd := HWD.out
    have yr0 := BS2.out.cell 0
    have yr1 := BS2.out.cell 1
    have yr2 := BS2.out.cell 2
    simp only [List.getElem?_cons_zero, List.getElem?_cons_succ] at yr0 yr1 yr2
    have yf0 := BS2.out.free 0
    have yf1 := BS2.out.free 1
    have yf2 := BS2.out.free 2
    have ys0 := BS3.out.cell 0
    have ys1 := BS3.out.cell 1
    have ys2 := BS3.out.cell 2
    simp only [List.getElem?_cons_zero, List.getElem?_cons_succ] at ys0 ys1 ys2
    have yg0 := BS3.out.free 0
    have yg1 := BS3.out.free 1
    have yg2 := BS3.out.free 2
    (first | (go_region_held3 (fun w' => w'.cell? ⟨g, 0, none⟩ = some (.int .i64 0) ∧ w'.cell? ⟨g, 1, none⟩ = some (.int .i64 q) ∧ w'.cell? ⟨g, 2, none⟩ = some (.int .i64 dd)) (go_keep) (first | fail)) | fail "held")
    all_goals
      go_wp2_with fail
      refine bodyPost_ret (v := .tuple #[.agg #[.int .i64 0, .int .i64 q, .int .i64 dd], .agg #[.int .i64 0, .int .i64 (q + 1), .int .i64 (dd + 1)]]) ?_ rfl ⟨rfl, by (repeat' (first | (with_reducible assumption) | (with_reducible exact Below.refl _ _) | (with_reducible refine Below.setCell ?_ ?_ _) | (with_reducible refine Below.alloc ?_ ?_ _) | (with_reducible apply Below.drew) | omega | (simp; done) | (simp; omega)))⟩
      simp [results, Tryz.results20, go_sem, yr0, yr1, yr2, ys0, ys1, ys2, hwq, hwd]
set_option maxRecDepth 100000 in
set_option maxHeartbeats 6400000 in
theorem rsz2 (N : Nat) (ih : RszAt 20 N) (k : Int) (n : ByteArray) (vl : Int) (fl : ByteArray) (al : List Tm) (vr : Int) (fr : ByteArray) (ar : List Tm) (ts : List Fm) (Al : Option Addr) (cl : Nat) (Ar : Option Addr) (cr : Nat) (A : Option Addr) (c : Nat) (a1 : Fm) (S : Nat → Prop) (w : World) (h : k = 2) (hts : ts = [a1]) (hN : (Fm.mk k n (.mk vl fl al) (.mk vr fr ar) ts).wt ≤ N + 1) (hNN : N ≤ 1125899906842623) (hsh1 : a1.shape = true) (hl : ST S w Al al.length cl al) (hr : ST S w Ar ar.length cr ar) (hs : SF S w A ts.length c ts) : Calls Tryz.prog 20 #[.agg #[.int .i64 k, .string n, .int .i64 vl, .string fl, .slice Al al.length cl, .int .i64 vr, .string fr, .slice Ar ar.length cr, .slice A ts.length c]] w fun e w' => e = .returned (.tuple #[.agg #[.int .i64 ((Fm.mk k n (.mk vl fl al) (.mk vr fr ar) ts).rsz).1.k, .int .i64 ((Fm.mk k n (.mk vl fl al) (.mk vr fr ar) ts).rsz).1.s, .int .i64 ((Fm.mk k n (.mk vl fl al) (.mk vr fr ar) ts).rsz).1.d], .agg #[.int .i64 ((Fm.mk k n (.mk vl fl al) (.mk vr fr ar) ts).rsz).2.k, .int .i64 ((Fm.mk k n (.mk vl fl al) (.mk vr fr ar) ts).rsz).2.s, .int .i64 ((Fm.mk k n (.mk vl fl al) (.mk vr fr ar) ts).rsz).2.d]]) ∧ Below w.heap.size w w' := by
  subst h hts
  obtain ⟨b, o, hA1, k1, n1, vl1, fl1, al1, vr1, fr1, ar1, ts1, Al1, cl1, Ar1, cr1, A1, c1, hm1, hl1, hr1, hs1, p0, p1, p2, p3, p4, p5, p6, p7, p8⟩ := hs.at 0 (by simp)
  change a1 = _ at hm1
  subst hm1
  subst hA1
  simp only [Nat.zero_mul, Nat.one_mul, Nat.add_zero] at p0 p1 p2 p3 p4 p5 p6 p7 p8
  have hw : (Fm.mk k1 n1 (.mk vl1 fl1 al1) (.mk vr1 fr1 ar1) ts1).wt + 3 ≤ N + 1 := by have hh := hN; rw [Fm.wt, Fm.wts, Fm.wts] at hh; have := (Tm.mk vl fl al).wt_pos; have := (Tm.mk vr fr ar).wt_pos; omega
  have HI1 := Lib.hid (fun w' (hb : Below w.heap.size w w') => ih k1 n1 vl1 fl1 al1 vr1 fr1 ar1 ts1 Al1 cl1 Ar1 cr1 A1 c1 S w' (by omega) (by omega) hsh1 (hl1.stay (Stay.below hb)) (hr1.stay (Stay.below hb)) (hs1.stay (Stay.below hb)))
  have hbd1 := Fm.rsz_b (Fm.mk k1 n1 (.mk vl1 fl1 al1) (.mk vr1 fr1 ar1) ts1) (by omega)
  have hbm1 : (2 * ((Fm.mk k1 n1 (.mk vl1 fl1 al1) (.mk vr1 fr1 ar1) ts1).wt : Int)) ≤ 2251799813685248 := by omega
  have hv : Fm.rsz (Fm.mk 2 n (.mk vl fl al) (.mk vr fr ar) [(Fm.mk k1 n1 (.mk vl1 fl1 al1) (.mk vr1 fr1 ar1) ts1)]) = ((Fm.mk k1 n1 (.mk vl1 fl1 al1) (.mk vr1 fr1 ar1) ts1).rsz.2, (Fm.mk k1 n1 (.mk vl1 fl1 al1) (.mk vr1 fr1 ar1) ts1).rsz.1) := by rw [Fm.rsz, Fm.rszL, Fm.rszL]; rfl
  rw [hv]
  clear hv hN ih
  generalize hm1 : (Fm.mk k1 n1 (.mk vl1 fl1 al1) (.mk vr1 fr1 ar1) ts1).rsz = m1 at *
  clear hm1
  obtain ⟨⟨ak1, as1, ad1⟩, ⟨bk1, bs1, bd1⟩⟩ := m1
  have HIB1 : Hid (InB 2251799813685248 ⟨ak1, as1, ad1⟩ ∧ InB 2251799813685248 ⟨bk1, bs1, bd1⟩) := Lib.hid ⟨hbd1.1.mono hbm1, hbd1.2.mono hbm1⟩
  obtain ⟨⟨u11, u21, u31, u41⟩, ⟨v11, v21, v31, v41⟩⟩ := hbd1
  simp only at u11 u21 u31 u41 v11 v21 v31 v41
  have hbd1 : (0 ≤ as1 ∧ as1 ≤ 1152921504606846976) ∧ (0 ≤ ad1 ∧ ad1 ≤ 1152921504606846976) ∧ (0 ≤ bs1 ∧ bs1 ≤ 1152921504606846976) ∧ (0 ≤ bd1 ∧ bd1 ≤ 1152921504606846976) := by omega
  have HBD1 := Lib.hid hbd1
  clear u11 u21 u31 u41 v11 v21 v31 v41 hbd1 hbm1
  clear hl1 hr1 hs1 hl hr hs hw
  have HB0 := Lib.hid (show Below w.heap.size w (((w.alloc (.cells #[.int .i64 2, .string n, .int .i64 vl, .string fl, .slice Al al.length cl, .int .i64 vr, .string fr, .slice Ar ar.length cr, .slice (some ⟨b, o, none⟩) 1 c] 27)).alloc (.cells #[.int .i64 0, .int .i64 0, .int .i64 0] 51)).alloc (.cells #[.int .i64 0, .int .i64 0, .int .i64 0] 51)) by (repeat' (first | (with_reducible assumption) | (with_reducible exact Below.refl _ _) | (with_reducible refine Below.setCell ?_ ?_ _) | (with_reducible refine Below.alloc ?_ ?_ _) | (with_reducible apply Below.drew) | omega | (simp; done) | (simp; omega))))
  have BK1 := Lib.hid (((Blk.new w 27 [.int .i64 2, .string n, .int .i64 vl, .string fl, .slice Al al.length cl, .int .i64 vr, .string fr, .slice Ar ar.length cr, .slice (some ⟨b, o, none⟩) 1 c]).alloc (.cells #[.int .i64 0, .int .i64 0, .int .i64 0] 51)).alloc (.cells #[.int .i64 0, .int .i64 0, .int .i64 0] 51))
  have BK2 := Lib.hid ((Blk.new' (w.alloc (.cells #[.int .i64 2, .string n, .int .i64 vl, .string fl, .slice Al al.length cl, .int .i64 vr, .string fr, .slice Ar ar.length cr, .slice (some ⟨b, o, none⟩) 1 c] 27)) (w.heap.size + 1) 51 [.int .i64 0, .int .i64 0, .int .i64 0] (by simp)).alloc (.cells #[.int .i64 0, .int .i64 0, .int .i64 0] 51))
  have BK3 := Lib.hid (Blk.new' ((w.alloc (.cells #[.int .i64 2, .string n, .int .i64 vl, .string fl, .slice Al al.length cl, .int .i64 vr, .string fr, .slice Ar ar.length cr, .slice (some ⟨b, o, none⟩) 1 c] 27)).alloc (.cells #[.int .i64 0, .int .i64 0, .int .i64 0] 51)) (w.heap.size + 1 + 1) 51 [.int .i64 0, .int .i64 0, .int .i64 0] (by simp))
  simp only [List.toArray] at BK1 BK2 BK3
  go_enter Tryz.func20, Tryz.ntmps20
  go_upto_region 9 with (fail)
  generalize hW : (((w.alloc (.cells #[.int .i64 2, .string n, .int .i64 vl, .string fl, .slice Al al.length cl, .int .i64 vr, .string fr, .slice Ar ar.length cr, .slice (some ⟨b, o, none⟩) 1 c] 27)).alloc (.cells #[.int .i64 0, .int .i64 0, .int .i64 0] 51)).alloc (.cells #[.int .i64 0, .int .i64 0, .int .i64 0] 51)) = W at *
  clear hW
  have z0 := BK1.out.cell 0
  have z1 := BK1.out.cell 1
  have z2 := BK1.out.cell 2
  have z3 := BK1.out.cell 3
  have z4 := BK1.out.cell 4
  have z5 := BK1.out.cell 5
  have z6 := BK1.out.cell 6
  have z7 := BK1.out.cell 7
  have z8 := BK1.out.cell 8
  simp only [List.getElem?_cons_zero, List.getElem?_cons_succ] at z0 z1 z2 z3 z4 z5 z6 z7 z8
  have pc0 := keepc HB0.out p0
  have pc1 := keepc HB0.out p1
  have pc2 := keepc HB0.out p2
  have pc3 := keepc HB0.out p3
  have pc4 := keepc HB0.out p4
  have pc5 := keepc HB0.out p5
  have pc6 := keepc HB0.out p6
  have pc7 := keepc HB0.out p7
  have pc8 := keepc HB0.out p8
  clear p0 p1 p2 p3 p4 p5 p6 p7 p8
  go_wp2_with fail
  refine (HI1.out _ HB0.out).mono ?_
  rintro e w2 ⟨rfl, hb2⟩
  have HB2 := Lib.hid (HB0.out.trans (hb2.mono HB0.out.size))
  have BQ1 := Lib.hid (Blk.go BK1.out hb2)
  have BQ2 := Lib.hid (Blk.go BK2.out hb2)
  have BQ3 := Lib.hid (Blk.go BK3.out hb2)
  clear z0 z1 z2 z3 z4 z5 z6 z7 z8 pc0 pc1 pc2 pc3 pc4 pc5 pc6 pc7 pc8 hb2 BK1 BK2 BK3
  go_upto_region 10 with (fail)
  have Ba := Lib.hid ((Blk.new w2 51 [.int .i64 ak1, .int .i64 as1, .int .i64 ad1]).alloc (.cells #[.int .i64 bk1, .int .i64 bs1, .int .i64 bd1] 51))
  have Bb := Lib.hid (Blk.new' (w2.alloc (.cells #[.int .i64 ak1, .int .i64 as1, .int .i64 ad1] 51)) (w2.heap.size + 1) 51 [.int .i64 bk1, .int .i64 bs1, .int .i64 bd1] (by simp))
  simp only [List.toArray] at Ba Bb
  have BS1 := Lib.hid ((BQ1.out.alloc (.cells #[.int .i64 ak1, .int .i64 as1, .int .i64 ad1] 51)).alloc (.cells #[.int .i64 bk1, .int .i64 bs1, .int .i64 bd1] 51))
  have lBQ1 := BQ1.out.lt
  have BS2 := Lib.hid ((BQ2.out.alloc (.cells #[.int .i64 ak1, .int .i64 as1, .int .i64 ad1] 51)).alloc (.cells #[.int .i64 bk1, .int .i64 bs1, .int .i64 bd1] 51))
  have lBQ2 := BQ2.out.lt
  have BS3 := Lib.hid ((BQ3.out.alloc (.cells #[.int .i64 ak1, .int .i64 as1, .int .i64 ad1] 51)).alloc (.cells #[.int .i64 bk1, .int .i64 bs1, .int .i64 bd1] 51))
  have lBQ3 := BQ3.out.lt
  have HB3 := Lib.hid (show Below w.heap.size w ((w2.alloc (.cells #[.int .i64 ak1, .int .i64 as1, .int .i64 ad1] 51)).alloc (.cells #[.int .i64 bk1, .int .i64 bs1, .int .i64 bd1] 51)) by have := HB2.out; have := this.size; (repeat' (first | (with_reducible assumption) | (with_reducible exact Below.refl _ _) | (with_reducible refine Below.setCell ?_ ?_ _) | (with_reducible refine Below.alloc ?_ ?_ _) | (with_reducible apply Below.drew) | omega | (simp; done) | (simp; omega))))
  generalize hgb : w2.heap.size + 1 = gb at *
  generalize hga : w2.heap.size = ga at *
  generalize hWW : (w2.alloc (.cells #[.int .i64 ak1, .int .i64 as1, .int .i64 ad1] 51)).alloc (.cells #[.int .i64 bk1, .int .i64 bs1, .int .i64 bd1] 51) = W5 at *
  clear hWW
  have hna1 : w.heap.size + 1 ≠ ga := by omega
  have hna2 : ga ≠ w.heap.size + 1 := by omega
  have hnb1 : w.heap.size + 1 ≠ gb := by omega
  have hnb2 : gb ≠ w.heap.size + 1 := by omega
  have hnc1 : w.heap.size + 1 + 1 ≠ ga := by omega
  have hnc2 : ga ≠ w.heap.size + 1 + 1 := by omega
  have hnd1 : w.heap.size + 1 + 1 ≠ gb := by omega
  have hnd2 : gb ≠ w.heap.size + 1 + 1 := by omega
  clear lBQ1 lBQ2 lBQ3 hga hgb
  have z0 := BS1.out.cell 0
  simp only [List.getElem?_cons_zero] at z0
  have m0 := Ba.out.cell 0
  have m1 := Ba.out.cell 1
  have m2 := Ba.out.cell 2
  simp only [List.getElem?_cons_zero, List.getElem?_cons_succ] at m0 m1 m2
  have M0 := Lib.hid m0
  have M1 := Lib.hid m1
  have M2 := Lib.hid m2
  have n0 := Bb.out.cell 0
  have n1 := Bb.out.cell 1
  have n2 := Bb.out.cell 2
  simp only [List.getElem?_cons_zero, List.getElem?_cons_succ] at n0 n1 n2
  have N0 := Lib.hid n0
  have N1 := Lib.hid n1
  have N2 := Lib.hid n2
  go_upto_region 11 with (fail)
  clear z0
  have HQ0 := Lib.hid (bel_drew1 W5)
  have yr0 := BS2.out.cell 0
  have yr1 := BS2.out.cell 1
  have yr2 := BS2.out.cell 2
  simp only [List.getElem?_cons_zero, List.getElem?_cons_succ] at yr0 yr1 yr2
  have yf0 := BS2.out.free 0
  have yf1 := BS2.out.free 1
  have yf2 := BS2.out.free 2
  have ys0 := BS3.out.cell 0
  have ys1 := BS3.out.cell 1
  have ys2 := BS3.out.cell 2
  simp only [List.getElem?_cons_zero, List.getElem?_cons_succ] at ys0 ys1 ys2
  have yg0 := BS3.out.free 0
  have yg1 := BS3.out.free 1
  have yg2 := BS3.out.free 2
  have hB := HB3.out
  have HQ1 := HQ0
  (first | (go_region_held3 (fun w' => w'.cell? ⟨ga, 0, none⟩ = some (.int .i64 ak1) ∧ w'.cell? ⟨ga, 1, none⟩ = some (.int .i64 as1) ∧ w'.cell? ⟨ga, 2, none⟩ = some (.int .i64 ad1) ∧ w'.cell? ⟨gb, 0, none⟩ = some (.int .i64 bk1) ∧ w'.cell? ⟨gb, 1, none⟩ = some (.int .i64 bs1) ∧ w'.cell? ⟨gb, 2, none⟩ = some (.int .i64 bd1)) (go_keep) (first | fail)) | fail "held")
  all_goals
    go_wp2_with fail
    refine bodyPost_ret (v := .tuple #[.agg #[.int .i64 bk1, .int .i64 bs1, .int .i64 bd1], .agg #[.int .i64 ak1, .int .i64 as1, .int .i64 ad1]]) ?_ rfl ⟨rfl, by (repeat' (first | (with_reducible assumption) | (with_reducible exact Below.refl _ _) | (with_reducible refine Below.setCell ?_ ?_ _) | (with_reducible refine Below.alloc ?_ ?_ _) | (with_reducible apply Below.drew) | omega | (simp; done) | (simp; omega)))⟩
    simp [results, Tryz.results20, go_sem, yr0, yr1, yr2, ys0, ys1, ys2]
set_option maxRecDepth 100000 in
set_option maxHeartbeats 6400000 in
theorem rsz7 (N : Nat) (ih : RszAt 20 N) (k : Int) (n : ByteArray) (vl : Int) (fl : ByteArray) (al : List Tm) (vr : Int) (fr : ByteArray) (ar : List Tm) (ts : List Fm) (Al : Option Addr) (cl : Nat) (Ar : Option Addr) (cr : Nat) (A : Option Addr) (c : Nat) (a1 : Fm) (S : Nat → Prop) (w : World) (h : k = 7) (hts : ts = [a1]) (hN : (Fm.mk k n (.mk vl fl al) (.mk vr fr ar) ts).wt ≤ N + 1) (hNN : N ≤ 1125899906842623) (hsh1 : a1.shape = true) (hl : ST S w Al al.length cl al) (hr : ST S w Ar ar.length cr ar) (hs : SF S w A ts.length c ts) : Calls Tryz.prog 20 #[.agg #[.int .i64 k, .string n, .int .i64 vl, .string fl, .slice Al al.length cl, .int .i64 vr, .string fr, .slice Ar ar.length cr, .slice A ts.length c]] w fun e w' => e = .returned (.tuple #[.agg #[.int .i64 ((Fm.mk k n (.mk vl fl al) (.mk vr fr ar) ts).rsz).1.k, .int .i64 ((Fm.mk k n (.mk vl fl al) (.mk vr fr ar) ts).rsz).1.s, .int .i64 ((Fm.mk k n (.mk vl fl al) (.mk vr fr ar) ts).rsz).1.d], .agg #[.int .i64 ((Fm.mk k n (.mk vl fl al) (.mk vr fr ar) ts).rsz).2.k, .int .i64 ((Fm.mk k n (.mk vl fl al) (.mk vr fr ar) ts).rsz).2.s, .int .i64 ((Fm.mk k n (.mk vl fl al) (.mk vr fr ar) ts).rsz).2.d]]) ∧ Below w.heap.size w w' := by
  subst h hts
  obtain ⟨b, o, hA1, k1, n1, vl1, fl1, al1, vr1, fr1, ar1, ts1, Al1, cl1, Ar1, cr1, A1, c1, hm1, hl1, hr1, hs1, p0, p1, p2, p3, p4, p5, p6, p7, p8⟩ := hs.at 0 (by simp)
  change a1 = _ at hm1
  subst hm1
  subst hA1
  simp only [Nat.zero_mul, Nat.one_mul, Nat.add_zero] at p0 p1 p2 p3 p4 p5 p6 p7 p8
  have hw : (Fm.mk k1 n1 (.mk vl1 fl1 al1) (.mk vr1 fr1 ar1) ts1).wt + 3 ≤ N + 1 := by have hh := hN; rw [Fm.wt, Fm.wts, Fm.wts] at hh; have := (Tm.mk vl fl al).wt_pos; have := (Tm.mk vr fr ar).wt_pos; omega
  have HI1 := Lib.hid (fun w' (hb : Below w.heap.size w w') => ih k1 n1 vl1 fl1 al1 vr1 fr1 ar1 ts1 Al1 cl1 Ar1 cr1 A1 c1 S w' (by omega) (by omega) hsh1 (hl1.stay (Stay.below hb)) (hr1.stay (Stay.below hb)) (hs1.stay (Stay.below hb)))
  have hbd1 := Fm.rsz_b (Fm.mk k1 n1 (.mk vl1 fl1 al1) (.mk vr1 fr1 ar1) ts1) (by omega)
  have hbm1 : (2 * ((Fm.mk k1 n1 (.mk vl1 fl1 al1) (.mk vr1 fr1 ar1) ts1).wt : Int)) ≤ 2251799813685248 := by omega
  have hv : Fm.rsz (Fm.mk 7 n (.mk vl fl al) (.mk vr fr ar) [(Fm.mk k1 n1 (.mk vl1 fl1 al1) (.mk vr1 fr1 ar1) ts1)]) = ((Fm.mk k1 n1 (.mk vl1 fl1 al1) (.mk vr1 fr1 ar1) ts1).rsz.1.runder, (Fm.mk k1 n1 (.mk vl1 fl1 al1) (.mk vr1 fr1 ar1) ts1).rsz.2.runder) := by rw [Fm.rsz, Fm.rszL, Fm.rszL]; rfl
  rw [hv]
  clear hv hN ih
  generalize hm1 : (Fm.mk k1 n1 (.mk vl1 fl1 al1) (.mk vr1 fr1 ar1) ts1).rsz = m1 at *
  clear hm1
  obtain ⟨⟨ak1, as1, ad1⟩, ⟨bk1, bs1, bd1⟩⟩ := m1
  have HIB1 : Hid (InB 2251799813685248 ⟨ak1, as1, ad1⟩ ∧ InB 2251799813685248 ⟨bk1, bs1, bd1⟩) := Lib.hid ⟨hbd1.1.mono hbm1, hbd1.2.mono hbm1⟩
  obtain ⟨⟨u11, u21, u31, u41⟩, ⟨v11, v21, v31, v41⟩⟩ := hbd1
  simp only at u11 u21 u31 u41 v11 v21 v31 v41
  have hbd1 : (0 ≤ as1 ∧ as1 ≤ 1152921504606846976) ∧ (0 ≤ ad1 ∧ ad1 ≤ 1152921504606846976) ∧ (0 ≤ bs1 ∧ bs1 ≤ 1152921504606846976) ∧ (0 ≤ bd1 ∧ bd1 ≤ 1152921504606846976) := by omega
  have HBD1 := Lib.hid hbd1
  clear u11 u21 u31 u41 v11 v21 v31 v41 hbd1 hbm1
  have HU1 := Lib.hid (fun w' => runder_any ak1 as1 ad1 w' HBD1.out.1 HBD1.out.2.1)
  have HU2 := Lib.hid (fun w' => runder_any bk1 bs1 bd1 w' HBD1.out.2.2.1 HBD1.out.2.2.2)
  generalize hek : (Fo.runder ⟨ak1, as1, ad1⟩).k = ek1 at *
  clear hek
  generalize hes : (Fo.runder ⟨ak1, as1, ad1⟩).s = es1 at *
  clear hes
  generalize hed : (Fo.runder ⟨ak1, as1, ad1⟩).d = ed1 at *
  clear hed
  generalize hgk : (Fo.runder ⟨bk1, bs1, bd1⟩).k = gk1 at *
  clear hgk
  generalize hgs : (Fo.runder ⟨bk1, bs1, bd1⟩).s = gs1 at *
  clear hgs
  generalize hgd : (Fo.runder ⟨bk1, bs1, bd1⟩).d = gd1 at *
  clear hgd
  clear hl1 hr1 hs1 hl hr hs hw
  have HB0 := Lib.hid (show Below w.heap.size w (((w.alloc (.cells #[.int .i64 7, .string n, .int .i64 vl, .string fl, .slice Al al.length cl, .int .i64 vr, .string fr, .slice Ar ar.length cr, .slice (some ⟨b, o, none⟩) 1 c] 27)).alloc (.cells #[.int .i64 0, .int .i64 0, .int .i64 0] 51)).alloc (.cells #[.int .i64 0, .int .i64 0, .int .i64 0] 51)) by (repeat' (first | (with_reducible assumption) | (with_reducible exact Below.refl _ _) | (with_reducible refine Below.setCell ?_ ?_ _) | (with_reducible refine Below.alloc ?_ ?_ _) | (with_reducible apply Below.drew) | omega | (simp; done) | (simp; omega))))
  have BK1 := Lib.hid (((Blk.new w 27 [.int .i64 7, .string n, .int .i64 vl, .string fl, .slice Al al.length cl, .int .i64 vr, .string fr, .slice Ar ar.length cr, .slice (some ⟨b, o, none⟩) 1 c]).alloc (.cells #[.int .i64 0, .int .i64 0, .int .i64 0] 51)).alloc (.cells #[.int .i64 0, .int .i64 0, .int .i64 0] 51))
  have BK2 := Lib.hid ((Blk.new' (w.alloc (.cells #[.int .i64 7, .string n, .int .i64 vl, .string fl, .slice Al al.length cl, .int .i64 vr, .string fr, .slice Ar ar.length cr, .slice (some ⟨b, o, none⟩) 1 c] 27)) (w.heap.size + 1) 51 [.int .i64 0, .int .i64 0, .int .i64 0] (by simp)).alloc (.cells #[.int .i64 0, .int .i64 0, .int .i64 0] 51))
  have BK3 := Lib.hid (Blk.new' ((w.alloc (.cells #[.int .i64 7, .string n, .int .i64 vl, .string fl, .slice Al al.length cl, .int .i64 vr, .string fr, .slice Ar ar.length cr, .slice (some ⟨b, o, none⟩) 1 c] 27)).alloc (.cells #[.int .i64 0, .int .i64 0, .int .i64 0] 51)) (w.heap.size + 1 + 1) 51 [.int .i64 0, .int .i64 0, .int .i64 0] (by simp))
  simp only [List.toArray] at BK1 BK2 BK3
  go_enter Tryz.func20, Tryz.ntmps20
  go_upto_region 9 with (fail)
  generalize hW : (((w.alloc (.cells #[.int .i64 7, .string n, .int .i64 vl, .string fl, .slice Al al.length cl, .int .i64 vr, .string fr, .slice Ar ar.length cr, .slice (some ⟨b, o, none⟩) 1 c] 27)).alloc (.cells #[.int .i64 0, .int .i64 0, .int .i64 0] 51)).alloc (.cells #[.int .i64 0, .int .i64 0, .int .i64 0] 51)) = W at *
  clear hW
  have z0 := BK1.out.cell 0
  have z1 := BK1.out.cell 1
  have z2 := BK1.out.cell 2
  have z3 := BK1.out.cell 3
  have z4 := BK1.out.cell 4
  have z5 := BK1.out.cell 5
  have z6 := BK1.out.cell 6
  have z7 := BK1.out.cell 7
  have z8 := BK1.out.cell 8
  simp only [List.getElem?_cons_zero, List.getElem?_cons_succ] at z0 z1 z2 z3 z4 z5 z6 z7 z8
  have pc0 := keepc HB0.out p0
  have pc1 := keepc HB0.out p1
  have pc2 := keepc HB0.out p2
  have pc3 := keepc HB0.out p3
  have pc4 := keepc HB0.out p4
  have pc5 := keepc HB0.out p5
  have pc6 := keepc HB0.out p6
  have pc7 := keepc HB0.out p7
  have pc8 := keepc HB0.out p8
  clear p0 p1 p2 p3 p4 p5 p6 p7 p8
  go_wp2_with fail
  refine (HI1.out _ HB0.out).mono ?_
  rintro e w2 ⟨rfl, hb2⟩
  have HB2 := Lib.hid (HB0.out.trans (hb2.mono HB0.out.size))
  have BQ1 := Lib.hid (Blk.go BK1.out hb2)
  have BQ2 := Lib.hid (Blk.go BK2.out hb2)
  have BQ3 := Lib.hid (Blk.go BK3.out hb2)
  clear z0 z1 z2 z3 z4 z5 z6 z7 z8 pc0 pc1 pc2 pc3 pc4 pc5 pc6 pc7 pc8 hb2 BK1 BK2 BK3
  go_upto_region 10 with (fail)
  have Ba := Lib.hid ((Blk.new w2 51 [.int .i64 ak1, .int .i64 as1, .int .i64 ad1]).alloc (.cells #[.int .i64 bk1, .int .i64 bs1, .int .i64 bd1] 51))
  have Bb := Lib.hid (Blk.new' (w2.alloc (.cells #[.int .i64 ak1, .int .i64 as1, .int .i64 ad1] 51)) (w2.heap.size + 1) 51 [.int .i64 bk1, .int .i64 bs1, .int .i64 bd1] (by simp))
  simp only [List.toArray] at Ba Bb
  have BS1 := Lib.hid ((BQ1.out.alloc (.cells #[.int .i64 ak1, .int .i64 as1, .int .i64 ad1] 51)).alloc (.cells #[.int .i64 bk1, .int .i64 bs1, .int .i64 bd1] 51))
  have lBQ1 := BQ1.out.lt
  have BS2 := Lib.hid ((BQ2.out.alloc (.cells #[.int .i64 ak1, .int .i64 as1, .int .i64 ad1] 51)).alloc (.cells #[.int .i64 bk1, .int .i64 bs1, .int .i64 bd1] 51))
  have lBQ2 := BQ2.out.lt
  have BS3 := Lib.hid ((BQ3.out.alloc (.cells #[.int .i64 ak1, .int .i64 as1, .int .i64 ad1] 51)).alloc (.cells #[.int .i64 bk1, .int .i64 bs1, .int .i64 bd1] 51))
  have lBQ3 := BQ3.out.lt
  have HB3 := Lib.hid (show Below w.heap.size w ((w2.alloc (.cells #[.int .i64 ak1, .int .i64 as1, .int .i64 ad1] 51)).alloc (.cells #[.int .i64 bk1, .int .i64 bs1, .int .i64 bd1] 51)) by have := HB2.out; have := this.size; (repeat' (first | (with_reducible assumption) | (with_reducible exact Below.refl _ _) | (with_reducible refine Below.setCell ?_ ?_ _) | (with_reducible refine Below.alloc ?_ ?_ _) | (with_reducible apply Below.drew) | omega | (simp; done) | (simp; omega))))
  generalize hgb : w2.heap.size + 1 = gb at *
  generalize hga : w2.heap.size = ga at *
  generalize hWW : (w2.alloc (.cells #[.int .i64 ak1, .int .i64 as1, .int .i64 ad1] 51)).alloc (.cells #[.int .i64 bk1, .int .i64 bs1, .int .i64 bd1] 51) = W5 at *
  clear hWW
  have hna1 : w.heap.size + 1 ≠ ga := by omega
  have hna2 : ga ≠ w.heap.size + 1 := by omega
  have hnb1 : w.heap.size + 1 ≠ gb := by omega
  have hnb2 : gb ≠ w.heap.size + 1 := by omega
  have hnc1 : w.heap.size + 1 + 1 ≠ ga := by omega
  have hnc2 : ga ≠ w.heap.size + 1 + 1 := by omega
  have hnd1 : w.heap.size + 1 + 1 ≠ gb := by omega
  have hnd2 : gb ≠ w.heap.size + 1 + 1 := by omega
  clear lBQ1 lBQ2 lBQ3 hga hgb
  have z0 := BS1.out.cell 0
  simp only [List.getElem?_cons_zero] at z0
  have m0 := Ba.out.cell 0
  have m1 := Ba.out.cell 1
  have m2 := Ba.out.cell 2
  simp only [List.getElem?_cons_zero, List.getElem?_cons_succ] at m0 m1 m2
  have M0 := Lib.hid m0
  have M1 := Lib.hid m1
  have M2 := Lib.hid m2
  have n0 := Bb.out.cell 0
  have n1 := Bb.out.cell 1
  have n2 := Bb.out.cell 2
  simp only [List.getElem?_cons_zero, List.getElem?_cons_succ] at n0 n1 n2
  have N0 := Lib.hid n0
  have N1 := Lib.hid n1
  have N2 := Lib.hid n2
  go_upto_region 13 with (fail)
  clear z0
  have HQ0 := Lib.hid (bel_drew1 W5)
  (first | (go_region_held3 (fun w' => w'.cell? ⟨ga, 0, none⟩ = some (.int .i64 ak1) ∧ w'.cell? ⟨ga, 1, none⟩ = some (.int .i64 as1) ∧ w'.cell? ⟨ga, 2, none⟩ = some (.int .i64 ad1) ∧ w'.cell? ⟨gb, 0, none⟩ = some (.int .i64 bk1) ∧ w'.cell? ⟨gb, 1, none⟩ = some (.int .i64 bs1) ∧ w'.cell? ⟨gb, 2, none⟩ = some (.int .i64 bd1)) (go_keep) (first | (go_at_call_of 44 (Value.agg #[.int .i64 ak1, .int .i64 as1, .int .i64 ad1]); refine (HU1.out _).mono ?_; rintro e w9 ⟨rfl, hb9⟩; have HQ1 := Lib.hid (bel_go (by first | exact HQ1.out | exact HQ0.out) hb9); clear hb9; have m0 := keepc HQ1.out M0.out; have m1 := keepc HQ1.out M1.out; have m2 := keepc HQ1.out M2.out; have n0 := keepc HQ1.out N0.out; have n1 := keepc HQ1.out N1.out; have n2 := keepc HQ1.out N2.out; have BR := Lib.hid (BS2.out.below HQ1.out BS2.out.lt); have BT := Lib.hid (BS3.out.below HQ1.out BS3.out.lt); have yr0 := BR.out.cell 0; have yf0 := BR.out.free 0; have ys0 := BT.out.cell 0; have yg0 := BT.out.free 0; have yr1 := BR.out.cell 1; have yf1 := BR.out.free 1; have ys1 := BT.out.cell 1; have yg1 := BT.out.free 1; have yr2 := BR.out.cell 2; have yf2 := BR.out.free 2; have ys2 := BT.out.cell 2; have yg2 := BT.out.free 2; simp only [List.getElem?_cons_zero, List.getElem?_cons_succ] at yr0 yr1 yr2 ys0 ys1 ys2; have hB := bel_go HB3.out HQ1.out) | (go_at_call_of 44 (Value.agg #[.int .i64 bk1, .int .i64 bs1, .int .i64 bd1]); refine (HU2.out _).mono ?_; rintro e w9 ⟨rfl, hb9⟩; have HQ1 := Lib.hid (bel_go (by first | exact HQ1.out | exact HQ0.out) hb9); clear hb9; have m0 := keepc HQ1.out M0.out; have m1 := keepc HQ1.out M1.out; have m2 := keepc HQ1.out M2.out; have n0 := keepc HQ1.out N0.out; have n1 := keepc HQ1.out N1.out; have n2 := keepc HQ1.out N2.out; have BR := Lib.hid (BS2.out.below HQ1.out BS2.out.lt); have BT := Lib.hid (BS3.out.below HQ1.out BS3.out.lt); have yr0 := BR.out.cell 0; have yf0 := BR.out.free 0; have ys0 := BT.out.cell 0; have yg0 := BT.out.free 0; have yr1 := BR.out.cell 1; have yf1 := BR.out.free 1; have ys1 := BT.out.cell 1; have yg1 := BT.out.free 1; have yr2 := BR.out.cell 2; have yf2 := BR.out.free 2; have ys2 := BT.out.cell 2; have yg2 := BT.out.free 2; simp only [List.getElem?_cons_zero, List.getElem?_cons_succ] at yr0 yr1 yr2 ys0 ys1 ys2; have hB := bel_go HB3.out HQ1.out))) | fail "held")
  all_goals
    go_wp2_with fail
    refine bodyPost_ret (v := .tuple #[.agg #[.int .i64 ek1, .int .i64 es1, .int .i64 ed1], .agg #[.int .i64 gk1, .int .i64 gs1, .int .i64 gd1]]) ?_ rfl ⟨rfl, by (repeat' (first | (with_reducible assumption) | (with_reducible exact Below.refl _ _) | (with_reducible refine Below.setCell ?_ ?_ _) | (with_reducible refine Below.alloc ?_ ?_ _) | (with_reducible apply Below.drew) | omega | (simp; done) | (simp; omega)))⟩
    simp [results, Tryz.results20, go_sem, yr0, yr1, yr2, ys0, ys1, ys2]
set_option maxRecDepth 100000 in
set_option maxHeartbeats 6400000 in
theorem rsz8 (N : Nat) (ih : RszAt 20 N) (k : Int) (n : ByteArray) (vl : Int) (fl : ByteArray) (al : List Tm) (vr : Int) (fr : ByteArray) (ar : List Tm) (ts : List Fm) (Al : Option Addr) (cl : Nat) (Ar : Option Addr) (cr : Nat) (A : Option Addr) (c : Nat) (a1 : Fm) (S : Nat → Prop) (w : World) (h : k = 8) (hts : ts = [a1]) (hN : (Fm.mk k n (.mk vl fl al) (.mk vr fr ar) ts).wt ≤ N + 1) (hNN : N ≤ 1125899906842623) (hsh1 : a1.shape = true) (hl : ST S w Al al.length cl al) (hr : ST S w Ar ar.length cr ar) (hs : SF S w A ts.length c ts) : Calls Tryz.prog 20 #[.agg #[.int .i64 k, .string n, .int .i64 vl, .string fl, .slice Al al.length cl, .int .i64 vr, .string fr, .slice Ar ar.length cr, .slice A ts.length c]] w fun e w' => e = .returned (.tuple #[.agg #[.int .i64 ((Fm.mk k n (.mk vl fl al) (.mk vr fr ar) ts).rsz).1.k, .int .i64 ((Fm.mk k n (.mk vl fl al) (.mk vr fr ar) ts).rsz).1.s, .int .i64 ((Fm.mk k n (.mk vl fl al) (.mk vr fr ar) ts).rsz).1.d], .agg #[.int .i64 ((Fm.mk k n (.mk vl fl al) (.mk vr fr ar) ts).rsz).2.k, .int .i64 ((Fm.mk k n (.mk vl fl al) (.mk vr fr ar) ts).rsz).2.s, .int .i64 ((Fm.mk k n (.mk vl fl al) (.mk vr fr ar) ts).rsz).2.d]]) ∧ Below w.heap.size w w' := by
  subst h hts
  obtain ⟨b, o, hA1, k1, n1, vl1, fl1, al1, vr1, fr1, ar1, ts1, Al1, cl1, Ar1, cr1, A1, c1, hm1, hl1, hr1, hs1, p0, p1, p2, p3, p4, p5, p6, p7, p8⟩ := hs.at 0 (by simp)
  change a1 = _ at hm1
  subst hm1
  subst hA1
  simp only [Nat.zero_mul, Nat.one_mul, Nat.add_zero] at p0 p1 p2 p3 p4 p5 p6 p7 p8
  have hw : (Fm.mk k1 n1 (.mk vl1 fl1 al1) (.mk vr1 fr1 ar1) ts1).wt + 3 ≤ N + 1 := by have hh := hN; rw [Fm.wt, Fm.wts, Fm.wts] at hh; have := (Tm.mk vl fl al).wt_pos; have := (Tm.mk vr fr ar).wt_pos; omega
  have HI1 := Lib.hid (fun w' (hb : Below w.heap.size w w') => ih k1 n1 vl1 fl1 al1 vr1 fr1 ar1 ts1 Al1 cl1 Ar1 cr1 A1 c1 S w' (by omega) (by omega) hsh1 (hl1.stay (Stay.below hb)) (hr1.stay (Stay.below hb)) (hs1.stay (Stay.below hb)))
  have hbd1 := Fm.rsz_b (Fm.mk k1 n1 (.mk vl1 fl1 al1) (.mk vr1 fr1 ar1) ts1) (by omega)
  have hbm1 : (2 * ((Fm.mk k1 n1 (.mk vl1 fl1 al1) (.mk vr1 fr1 ar1) ts1).wt : Int)) ≤ 2251799813685248 := by omega
  have hv : Fm.rsz (Fm.mk 8 n (.mk vl fl al) (.mk vr fr ar) [(Fm.mk k1 n1 (.mk vl1 fl1 al1) (.mk vr1 fr1 ar1) ts1)]) = ((Fm.mk k1 n1 (.mk vl1 fl1 al1) (.mk vr1 fr1 ar1) ts1).rsz.1.runder, (Fm.mk k1 n1 (.mk vl1 fl1 al1) (.mk vr1 fr1 ar1) ts1).rsz.2.runder) := by rw [Fm.rsz, Fm.rszL, Fm.rszL]; rfl
  rw [hv]
  clear hv hN ih
  generalize hm1 : (Fm.mk k1 n1 (.mk vl1 fl1 al1) (.mk vr1 fr1 ar1) ts1).rsz = m1 at *
  clear hm1
  obtain ⟨⟨ak1, as1, ad1⟩, ⟨bk1, bs1, bd1⟩⟩ := m1
  have HIB1 : Hid (InB 2251799813685248 ⟨ak1, as1, ad1⟩ ∧ InB 2251799813685248 ⟨bk1, bs1, bd1⟩) := Lib.hid ⟨hbd1.1.mono hbm1, hbd1.2.mono hbm1⟩
  obtain ⟨⟨u11, u21, u31, u41⟩, ⟨v11, v21, v31, v41⟩⟩ := hbd1
  simp only at u11 u21 u31 u41 v11 v21 v31 v41
  have hbd1 : (0 ≤ as1 ∧ as1 ≤ 1152921504606846976) ∧ (0 ≤ ad1 ∧ ad1 ≤ 1152921504606846976) ∧ (0 ≤ bs1 ∧ bs1 ≤ 1152921504606846976) ∧ (0 ≤ bd1 ∧ bd1 ≤ 1152921504606846976) := by omega
  have HBD1 := Lib.hid hbd1
  clear u11 u21 u31 u41 v11 v21 v31 v41 hbd1 hbm1
  have HU1 := Lib.hid (fun w' => runder_any ak1 as1 ad1 w' HBD1.out.1 HBD1.out.2.1)
  have HU2 := Lib.hid (fun w' => runder_any bk1 bs1 bd1 w' HBD1.out.2.2.1 HBD1.out.2.2.2)
  generalize hek : (Fo.runder ⟨ak1, as1, ad1⟩).k = ek1 at *
  clear hek
  generalize hes : (Fo.runder ⟨ak1, as1, ad1⟩).s = es1 at *
  clear hes
  generalize hed : (Fo.runder ⟨ak1, as1, ad1⟩).d = ed1 at *
  clear hed
  generalize hgk : (Fo.runder ⟨bk1, bs1, bd1⟩).k = gk1 at *
  clear hgk
  generalize hgs : (Fo.runder ⟨bk1, bs1, bd1⟩).s = gs1 at *
  clear hgs
  generalize hgd : (Fo.runder ⟨bk1, bs1, bd1⟩).d = gd1 at *
  clear hgd
  clear hl1 hr1 hs1 hl hr hs hw
  have HB0 := Lib.hid (show Below w.heap.size w (((w.alloc (.cells #[.int .i64 8, .string n, .int .i64 vl, .string fl, .slice Al al.length cl, .int .i64 vr, .string fr, .slice Ar ar.length cr, .slice (some ⟨b, o, none⟩) 1 c] 27)).alloc (.cells #[.int .i64 0, .int .i64 0, .int .i64 0] 51)).alloc (.cells #[.int .i64 0, .int .i64 0, .int .i64 0] 51)) by (repeat' (first | (with_reducible assumption) | (with_reducible exact Below.refl _ _) | (with_reducible refine Below.setCell ?_ ?_ _) | (with_reducible refine Below.alloc ?_ ?_ _) | (with_reducible apply Below.drew) | omega | (simp; done) | (simp; omega))))
  have BK1 := Lib.hid (((Blk.new w 27 [.int .i64 8, .string n, .int .i64 vl, .string fl, .slice Al al.length cl, .int .i64 vr, .string fr, .slice Ar ar.length cr, .slice (some ⟨b, o, none⟩) 1 c]).alloc (.cells #[.int .i64 0, .int .i64 0, .int .i64 0] 51)).alloc (.cells #[.int .i64 0, .int .i64 0, .int .i64 0] 51))
  have BK2 := Lib.hid ((Blk.new' (w.alloc (.cells #[.int .i64 8, .string n, .int .i64 vl, .string fl, .slice Al al.length cl, .int .i64 vr, .string fr, .slice Ar ar.length cr, .slice (some ⟨b, o, none⟩) 1 c] 27)) (w.heap.size + 1) 51 [.int .i64 0, .int .i64 0, .int .i64 0] (by simp)).alloc (.cells #[.int .i64 0, .int .i64 0, .int .i64 0] 51))
  have BK3 := Lib.hid (Blk.new' ((w.alloc (.cells #[.int .i64 8, .string n, .int .i64 vl, .string fl, .slice Al al.length cl, .int .i64 vr, .string fr, .slice Ar ar.length cr, .slice (some ⟨b, o, none⟩) 1 c] 27)).alloc (.cells #[.int .i64 0, .int .i64 0, .int .i64 0] 51)) (w.heap.size + 1 + 1) 51 [.int .i64 0, .int .i64 0, .int .i64 0] (by simp))
  simp only [List.toArray] at BK1 BK2 BK3
  go_enter Tryz.func20, Tryz.ntmps20
  go_upto_region 9 with (fail)
  generalize hW : (((w.alloc (.cells #[.int .i64 8, .string n, .int .i64 vl, .string fl, .slice Al al.length cl, .int .i64 vr, .string fr, .slice Ar ar.length cr, .slice (some ⟨b, o, none⟩) 1 c] 27)).alloc (.cells #[.int .i64 0, .int .i64 0, .int .i64 0] 51)).alloc (.cells #[.int .i64 0, .int .i64 0, .int .i64 0] 51)) = W at *
  clear hW
  have z0 := BK1.out.cell 0
  have z1 := BK1.out.cell 1
  have z2 := BK1.out.cell 2
  have z3 := BK1.out.cell 3
  have z4 := BK1.out.cell 4
  have z5 := BK1.out.cell 5
  have z6 := BK1.out.cell 6
  have z7 := BK1.out.cell 7
  have z8 := BK1.out.cell 8
  simp only [List.getElem?_cons_zero, List.getElem?_cons_succ] at z0 z1 z2 z3 z4 z5 z6 z7 z8
  have pc0 := keepc HB0.out p0
  have pc1 := keepc HB0.out p1
  have pc2 := keepc HB0.out p2
  have pc3 := keepc HB0.out p3
  have pc4 := keepc HB0.out p4
  have pc5 := keepc HB0.out p5
  have pc6 := keepc HB0.out p6
  have pc7 := keepc HB0.out p7
  have pc8 := keepc HB0.out p8
  clear p0 p1 p2 p3 p4 p5 p6 p7 p8
  go_wp2_with fail
  refine (HI1.out _ HB0.out).mono ?_
  rintro e w2 ⟨rfl, hb2⟩
  have HB2 := Lib.hid (HB0.out.trans (hb2.mono HB0.out.size))
  have BQ1 := Lib.hid (Blk.go BK1.out hb2)
  have BQ2 := Lib.hid (Blk.go BK2.out hb2)
  have BQ3 := Lib.hid (Blk.go BK3.out hb2)
  clear z0 z1 z2 z3 z4 z5 z6 z7 z8 pc0 pc1 pc2 pc3 pc4 pc5 pc6 pc7 pc8 hb2 BK1 BK2 BK3
  go_upto_region 10 with (fail)
  have Ba := Lib.hid ((Blk.new w2 51 [.int .i64 ak1, .int .i64 as1, .int .i64 ad1]).alloc (.cells #[.int .i64 bk1, .int .i64 bs1, .int .i64 bd1] 51))
  have Bb := Lib.hid (Blk.new' (w2.alloc (.cells #[.int .i64 ak1, .int .i64 as1, .int .i64 ad1] 51)) (w2.heap.size + 1) 51 [.int .i64 bk1, .int .i64 bs1, .int .i64 bd1] (by simp))
  simp only [List.toArray] at Ba Bb
  have BS1 := Lib.hid ((BQ1.out.alloc (.cells #[.int .i64 ak1, .int .i64 as1, .int .i64 ad1] 51)).alloc (.cells #[.int .i64 bk1, .int .i64 bs1, .int .i64 bd1] 51))
  have lBQ1 := BQ1.out.lt
  have BS2 := Lib.hid ((BQ2.out.alloc (.cells #[.int .i64 ak1, .int .i64 as1, .int .i64 ad1] 51)).alloc (.cells #[.int .i64 bk1, .int .i64 bs1, .int .i64 bd1] 51))
  have lBQ2 := BQ2.out.lt
  have BS3 := Lib.hid ((BQ3.out.alloc (.cells #[.int .i64 ak1, .int .i64 as1, .int .i64 ad1] 51)).alloc (.cells #[.int .i64 bk1, .int .i64 bs1, .int .i64 bd1] 51))
  have lBQ3 := BQ3.out.lt
  have HB3 := Lib.hid (show Below w.heap.size w ((w2.alloc (.cells #[.int .i64 ak1, .int .i64 as1, .int .i64 ad1] 51)).alloc (.cells #[.int .i64 bk1, .int .i64 bs1, .int .i64 bd1] 51)) by have := HB2.out; have := this.size; (repeat' (first | (with_reducible assumption) | (with_reducible exact Below.refl _ _) | (with_reducible refine Below.setCell ?_ ?_ _) | (with_reducible refine Below.alloc ?_ ?_ _) | (with_reducible apply Below.drew) | omega | (simp; done) | (simp; omega))))
  generalize hgb : w2.heap.size + 1 = gb at *
  generalize hga : w2.heap.size = ga at *
  generalize hWW : (w2.alloc (.cells #[.int .i64 ak1, .int .i64 as1, .int .i64 ad1] 51)).alloc (.cells #[.int .i64 bk1, .int .i64 bs1, .int .i64 bd1] 51) = W5 at *
  clear hWW
  have hna1 : w.heap.size + 1 ≠ ga := by omega
  have hna2 : ga ≠ w.heap.size + 1 := by omega
  have hnb1 : w.heap.size + 1 ≠ gb := by omega
  have hnb2 : gb ≠ w.heap.size + 1 := by omega
  have hnc1 : w.heap.size + 1 + 1 ≠ ga := by omega
  have hnc2 : ga ≠ w.heap.size + 1 + 1 := by omega
  have hnd1 : w.heap.size + 1 + 1 ≠ gb := by omega
  have hnd2 : gb ≠ w.heap.size + 1 + 1 := by omega
  clear lBQ1 lBQ2 lBQ3 hga hgb
  have z0 := BS1.out.cell 0
  simp only [List.getElem?_cons_zero] at z0
  have m0 := Ba.out.cell 0
  have m1 := Ba.out.cell 1
  have m2 := Ba.out.cell 2
  simp only [List.getElem?_cons_zero, List.getElem?_cons_succ] at m0 m1 m2
  have M0 := Lib.hid m0
  have M1 := Lib.hid m1
  have M2 := Lib.hid m2
  have n0 := Bb.out.cell 0
  have n1 := Bb.out.cell 1
  have n2 := Bb.out.cell 2
  simp only [List.getElem?_cons_zero, List.getElem?_cons_succ] at n0 n1 n2
  have N0 := Lib.hid n0
  have N1 := Lib.hid n1
  have N2 := Lib.hid n2
  go_upto_region 13 with (fail)
  clear z0
  have HQ0 := Lib.hid (bel_drew1 W5)
  (first | (go_region_held3 (fun w' => w'.cell? ⟨ga, 0, none⟩ = some (.int .i64 ak1) ∧ w'.cell? ⟨ga, 1, none⟩ = some (.int .i64 as1) ∧ w'.cell? ⟨ga, 2, none⟩ = some (.int .i64 ad1) ∧ w'.cell? ⟨gb, 0, none⟩ = some (.int .i64 bk1) ∧ w'.cell? ⟨gb, 1, none⟩ = some (.int .i64 bs1) ∧ w'.cell? ⟨gb, 2, none⟩ = some (.int .i64 bd1)) (go_keep) (first | (go_at_call_of 44 (Value.agg #[.int .i64 ak1, .int .i64 as1, .int .i64 ad1]); refine (HU1.out _).mono ?_; rintro e w9 ⟨rfl, hb9⟩; have HQ1 := Lib.hid (bel_go (by first | exact HQ1.out | exact HQ0.out) hb9); clear hb9; have m0 := keepc HQ1.out M0.out; have m1 := keepc HQ1.out M1.out; have m2 := keepc HQ1.out M2.out; have n0 := keepc HQ1.out N0.out; have n1 := keepc HQ1.out N1.out; have n2 := keepc HQ1.out N2.out; have BR := Lib.hid (BS2.out.below HQ1.out BS2.out.lt); have BT := Lib.hid (BS3.out.below HQ1.out BS3.out.lt); have yr0 := BR.out.cell 0; have yf0 := BR.out.free 0; have ys0 := BT.out.cell 0; have yg0 := BT.out.free 0; have yr1 := BR.out.cell 1; have yf1 := BR.out.free 1; have ys1 := BT.out.cell 1; have yg1 := BT.out.free 1; have yr2 := BR.out.cell 2; have yf2 := BR.out.free 2; have ys2 := BT.out.cell 2; have yg2 := BT.out.free 2; simp only [List.getElem?_cons_zero, List.getElem?_cons_succ] at yr0 yr1 yr2 ys0 ys1 ys2; have hB := bel_go HB3.out HQ1.out) | (go_at_call_of 44 (Value.agg #[.int .i64 bk1, .int .i64 bs1, .int .i64 bd1]); refine (HU2.out _).mono ?_; rintro e w9 ⟨rfl, hb9⟩; have HQ1 := Lib.hid (bel_go (by first | exact HQ1.out | exact HQ0.out) hb9); clear hb9; have m0 := keepc HQ1.out M0.out; have m1 := keepc HQ1.out M1.out; have m2 := keepc HQ1.out M2.out; have n0 := keepc HQ1.out N0.out; have n1 := keepc HQ1.out N1.out; have n2 := keepc HQ1.out N2.out; have BR := Lib.hid (BS2.out.below HQ1.out BS2.out.lt); have BT := Lib.hid (BS3.out.below HQ1.out BS3.out.lt); have yr0 := BR.out.cell 0; have yf0 := BR.out.free 0; have ys0 := BT.out.cell 0; have yg0 := BT.out.free 0; have yr1 := BR.out.cell 1; have yf1 := BR.out.free 1; have ys1 := BT.out.cell 1; have yg1 := BT.out.free 1; have yr2 := BR.out.cell 2; have yf2 := BR.out.free 2; have ys2 := BT.out.cell 2; have yg2 := BT.out.free 2; simp only [List.getElem?_cons_zero, List.getElem?_cons_succ] at yr0 yr1 yr2 ys0 ys1 ys2; have hB := bel_go HB3.out HQ1.out))) | fail "held")
  all_goals
    go_wp2_with fail
    refine bodyPost_ret (v := .tuple #[.agg #[.int .i64 ek1, .int .i64 es1, .int .i64 ed1], .agg #[.int .i64 gk1, .int .i64 gs1, .int .i64 gd1]]) ?_ rfl ⟨rfl, by (repeat' (first | (with_reducible assumption) | (with_reducible exact Below.refl _ _) | (with_reducible refine Below.setCell ?_ ?_ _) | (with_reducible refine Below.alloc ?_ ?_ _) | (with_reducible apply Below.drew) | omega | (simp; done) | (simp; omega)))⟩
    simp [results, Tryz.results20, go_sem, yr0, yr1, yr2, ys0, ys1, ys2]
set_option maxRecDepth 100000 in
set_option maxHeartbeats 6400000 in
theorem rsz3 (N : Nat) (ih : RszAt 20 N) (k : Int) (n : ByteArray) (vl : Int) (fl : ByteArray) (al : List Tm) (vr : Int) (fr : ByteArray) (ar : List Tm) (ts : List Fm) (Al : Option Addr) (cl : Nat) (Ar : Option Addr) (cr : Nat) (A : Option Addr) (c : Nat) (a1 : Fm) (a2 : Fm) (S : Nat → Prop) (w : World) (h : k = 3) (hts : ts = [a1, a2]) (hN : (Fm.mk k n (.mk vl fl al) (.mk vr fr ar) ts).wt ≤ N + 1) (hNN : N ≤ 1125899906842623) (hsh1 : a1.shape = true) (hsh2 : a2.shape = true) (hl : ST S w Al al.length cl al) (hr : ST S w Ar ar.length cr ar) (hs : SF S w A ts.length c ts) : Calls Tryz.prog 20 #[.agg #[.int .i64 k, .string n, .int .i64 vl, .string fl, .slice Al al.length cl, .int .i64 vr, .string fr, .slice Ar ar.length cr, .slice A ts.length c]] w fun e w' => e = .returned (.tuple #[.agg #[.int .i64 ((Fm.mk k n (.mk vl fl al) (.mk vr fr ar) ts).rsz).1.k, .int .i64 ((Fm.mk k n (.mk vl fl al) (.mk vr fr ar) ts).rsz).1.s, .int .i64 ((Fm.mk k n (.mk vl fl al) (.mk vr fr ar) ts).rsz).1.d], .agg #[.int .i64 ((Fm.mk k n (.mk vl fl al) (.mk vr fr ar) ts).rsz).2.k, .int .i64 ((Fm.mk k n (.mk vl fl al) (.mk vr fr ar) ts).rsz).2.s, .int .i64 ((Fm.mk k n (.mk vl fl al) (.mk vr fr ar) ts).rsz).2.d]]) ∧ Below w.heap.size w w' := by
  subst h hts
  obtain ⟨b, o, hA1, k1, n1, vl1, fl1, al1, vr1, fr1, ar1, ts1, Al1, cl1, Ar1, cr1, A1, c1, hm1, hl1, hr1, hs1, p0, p1, p2, p3, p4, p5, p6, p7, p8⟩ := hs.at 0 (by simp)
  change a1 = _ at hm1
  subst hm1
  subst hA1
  simp only [Nat.zero_mul, Nat.one_mul, Nat.add_zero] at p0 p1 p2 p3 p4 p5 p6 p7 p8
  obtain ⟨b', o', hA2, k2, n2, vl2, fl2, al2, vr2, fr2, ar2, ts2, Al2, cl2, Ar2, cr2, A2, c2, hm2, hl2, hr2, hs2, q0, q1, q2, q3, q4, q5, q6, q7, q8⟩ := hs.at 1 (by simp)
  change a2 = _ at hm2
  subst hm2
  injection hA2 with hA2
  injection hA2 with hb2 ho2
  subst hb2 ho2
  simp only [Nat.zero_mul, Nat.one_mul, Nat.add_zero] at q0 q1 q2 q3 q4 q5 q6 q7 q8
  have hw : (Fm.mk k1 n1 (.mk vl1 fl1 al1) (.mk vr1 fr1 ar1) ts1).wt + (Fm.mk k2 n2 (.mk vl2 fl2 al2) (.mk vr2 fr2 ar2) ts2).wt + 3 ≤ N + 1 := by have hh := hN; rw [Fm.wt, Fm.wts, Fm.wts, Fm.wts] at hh; have := (Tm.mk vl fl al).wt_pos; have := (Tm.mk vr fr ar).wt_pos; omega
  have HI1 := Lib.hid (fun w' (hb : Below w.heap.size w w') => ih k1 n1 vl1 fl1 al1 vr1 fr1 ar1 ts1 Al1 cl1 Ar1 cr1 A1 c1 S w' (by omega) (by omega) hsh1 (hl1.stay (Stay.below hb)) (hr1.stay (Stay.below hb)) (hs1.stay (Stay.below hb)))
  have hbd1 := Fm.rsz_b (Fm.mk k1 n1 (.mk vl1 fl1 al1) (.mk vr1 fr1 ar1) ts1) (by omega)
  have hbm1 : (2 * ((Fm.mk k1 n1 (.mk vl1 fl1 al1) (.mk vr1 fr1 ar1) ts1).wt : Int)) ≤ 2251799813685248 := by omega
  have HI2 := Lib.hid (fun w' (hb : Below w.heap.size w w') => ih k2 n2 vl2 fl2 al2 vr2 fr2 ar2 ts2 Al2 cl2 Ar2 cr2 A2 c2 S w' (by omega) (by omega) hsh2 (hl2.stay (Stay.below hb)) (hr2.stay (Stay.below hb)) (hs2.stay (Stay.below hb)))
  have hbd2 := Fm.rsz_b (Fm.mk k2 n2 (.mk vl2 fl2 al2) (.mk vr2 fr2 ar2) ts2) (by omega)
  have hbm2 : (2 * ((Fm.mk k2 n2 (.mk vl2 fl2 al2) (.mk vr2 fr2 ar2) ts2).wt : Int)) ≤ 2251799813685248 := by omega
  have hv : Fm.rsz (Fm.mk 3 n (.mk vl fl al) (.mk vr fr ar) [(Fm.mk k1 n1 (.mk vl1 fl1 al1) (.mk vr1 fr1 ar1) ts1), (Fm.mk k2 n2 (.mk vl2 fl2 al2) (.mk vr2 fr2 ar2) ts2)]) = ((Fo.rjoin (Fm.mk k1 n1 (.mk vl1 fl1 al1) (.mk vr1 fr1 ar1) ts1).rsz.1 (Fm.mk k2 n2 (.mk vl2 fl2 al2) (.mk vr2 fr2 ar2) ts2).rsz.1 true), (Fo.rjoin (Fm.mk k1 n1 (.mk vl1 fl1 al1) (.mk vr1 fr1 ar1) ts1).rsz.2 (Fm.mk k2 n2 (.mk vl2 fl2 al2) (.mk vr2 fr2 ar2) ts2).rsz.2 false)) := by rw [Fm.rsz, Fm.rszL, Fm.rszL, Fm.rszL]; rfl
  rw [hv]
  clear hv hN ih
  generalize hm1 : (Fm.mk k1 n1 (.mk vl1 fl1 al1) (.mk vr1 fr1 ar1) ts1).rsz = m1 at *
  clear hm1
  obtain ⟨⟨ak1, as1, ad1⟩, ⟨bk1, bs1, bd1⟩⟩ := m1
  have HIB1 : Hid (InB 2251799813685248 ⟨ak1, as1, ad1⟩ ∧ InB 2251799813685248 ⟨bk1, bs1, bd1⟩) := Lib.hid ⟨hbd1.1.mono hbm1, hbd1.2.mono hbm1⟩
  obtain ⟨⟨u11, u21, u31, u41⟩, ⟨v11, v21, v31, v41⟩⟩ := hbd1
  simp only at u11 u21 u31 u41 v11 v21 v31 v41
  have hbd1 : (0 ≤ as1 ∧ as1 ≤ 1152921504606846976) ∧ (0 ≤ ad1 ∧ ad1 ≤ 1152921504606846976) ∧ (0 ≤ bs1 ∧ bs1 ≤ 1152921504606846976) ∧ (0 ≤ bd1 ∧ bd1 ≤ 1152921504606846976) := by omega
  have HBD1 := Lib.hid hbd1
  clear u11 u21 u31 u41 v11 v21 v31 v41 hbd1 hbm1
  generalize hm2 : (Fm.mk k2 n2 (.mk vl2 fl2 al2) (.mk vr2 fr2 ar2) ts2).rsz = m2 at *
  clear hm2
  obtain ⟨⟨ak2, as2, ad2⟩, ⟨bk2, bs2, bd2⟩⟩ := m2
  have HIB2 : Hid (InB 2251799813685248 ⟨ak2, as2, ad2⟩ ∧ InB 2251799813685248 ⟨bk2, bs2, bd2⟩) := Lib.hid ⟨hbd2.1.mono hbm2, hbd2.2.mono hbm2⟩
  obtain ⟨⟨u12, u22, u32, u42⟩, ⟨v12, v22, v32, v42⟩⟩ := hbd2
  simp only at u12 u22 u32 u42 v12 v22 v32 v42
  have hbd2 : (0 ≤ as2 ∧ as2 ≤ 1152921504606846976) ∧ (0 ≤ ad2 ∧ ad2 ≤ 1152921504606846976) ∧ (0 ≤ bs2 ∧ bs2 ≤ 1152921504606846976) ∧ (0 ≤ bd2 ∧ bd2 ≤ 1152921504606846976) := by omega
  have HBD2 := Lib.hid hbd2
  clear u12 u22 u32 u42 v12 v22 v32 v42 hbd2 hbm2
  have HWe := Lib.hid (fun w' => rjoin_any ak1 as1 ad1 ak2 as2 ad2 true w' HBD1.out.1 HBD1.out.2.1 HBD2.out.1 HBD2.out.2.1)
  generalize hek : (Fo.rjoin ⟨ak1, as1, ad1⟩ ⟨ak2, as2, ad2⟩ true).k = ek1 at *
  clear hek
  generalize hes : (Fo.rjoin ⟨ak1, as1, ad1⟩ ⟨ak2, as2, ad2⟩ true).s = es1 at *
  clear hes
  generalize hed : (Fo.rjoin ⟨ak1, as1, ad1⟩ ⟨ak2, as2, ad2⟩ true).d = ed1 at *
  clear hed
  have HWg := Lib.hid (fun w' => rjoin_any bk1 bs1 bd1 bk2 bs2 bd2 false w' HBD1.out.2.2.1 HBD1.out.2.2.2 HBD2.out.2.2.1 HBD2.out.2.2.2)
  generalize hgk : (Fo.rjoin ⟨bk1, bs1, bd1⟩ ⟨bk2, bs2, bd2⟩ false).k = gk1 at *
  clear hgk
  generalize hgs : (Fo.rjoin ⟨bk1, bs1, bd1⟩ ⟨bk2, bs2, bd2⟩ false).s = gs1 at *
  clear hgs
  generalize hgd : (Fo.rjoin ⟨bk1, bs1, bd1⟩ ⟨bk2, bs2, bd2⟩ false).d = gd1 at *
  clear hgd
  have Q0 := Lib.hid q0
  have Q1 := Lib.hid q1
  have Q2 := Lib.hid q2
  have Q3 := Lib.hid q3
  have Q4 := Lib.hid q4
  have Q5 := Lib.hid q5
  have Q6 := Lib.hid q6
  have Q7 := Lib.hid q7
  have Q8 := Lib.hid q8
  clear hl1 hr1 hs1 hl2 hr2 hs2 hl hr hs hw
  have HB0 := Lib.hid (show Below w.heap.size w (((w.alloc (.cells #[.int .i64 3, .string n, .int .i64 vl, .string fl, .slice Al al.length cl, .int .i64 vr, .string fr, .slice Ar ar.length cr, .slice (some ⟨b, o, none⟩) 2 c] 27)).alloc (.cells #[.int .i64 0, .int .i64 0, .int .i64 0] 51)).alloc (.cells #[.int .i64 0, .int .i64 0, .int .i64 0] 51)) by (repeat' (first | (with_reducible assumption) | (with_reducible exact Below.refl _ _) | (with_reducible refine Below.setCell ?_ ?_ _) | (with_reducible refine Below.alloc ?_ ?_ _) | (with_reducible apply Below.drew) | omega | (simp; done) | (simp; omega))))
  have BK1 := Lib.hid (((Blk.new w 27 [.int .i64 3, .string n, .int .i64 vl, .string fl, .slice Al al.length cl, .int .i64 vr, .string fr, .slice Ar ar.length cr, .slice (some ⟨b, o, none⟩) 2 c]).alloc (.cells #[.int .i64 0, .int .i64 0, .int .i64 0] 51)).alloc (.cells #[.int .i64 0, .int .i64 0, .int .i64 0] 51))
  have BK2 := Lib.hid ((Blk.new' (w.alloc (.cells #[.int .i64 3, .string n, .int .i64 vl, .string fl, .slice Al al.length cl, .int .i64 vr, .string fr, .slice Ar ar.length cr, .slice (some ⟨b, o, none⟩) 2 c] 27)) (w.heap.size + 1) 51 [.int .i64 0, .int .i64 0, .int .i64 0] (by simp)).alloc (.cells #[.int .i64 0, .int .i64 0, .int .i64 0] 51))
  have BK3 := Lib.hid (Blk.new' ((w.alloc (.cells #[.int .i64 3, .string n, .int .i64 vl, .string fl, .slice Al al.length cl, .int .i64 vr, .string fr, .slice Ar ar.length cr, .slice (some ⟨b, o, none⟩) 2 c] 27)).alloc (.cells #[.int .i64 0, .int .i64 0, .int .i64 0] 51)) (w.heap.size + 1 + 1) 51 [.int .i64 0, .int .i64 0, .int .i64 0] (by simp))
  simp only [List.toArray] at BK1 BK2 BK3
  clear q0 q1 q2 q3 q4 q5 q6 q7 q8
  go_enter Tryz.func20, Tryz.ntmps20
  go_upto_region 9 with (fail)
  generalize hW : (((w.alloc (.cells #[.int .i64 3, .string n, .int .i64 vl, .string fl, .slice Al al.length cl, .int .i64 vr, .string fr, .slice Ar ar.length cr, .slice (some ⟨b, o, none⟩) 2 c] 27)).alloc (.cells #[.int .i64 0, .int .i64 0, .int .i64 0] 51)).alloc (.cells #[.int .i64 0, .int .i64 0, .int .i64 0] 51)) = W at *
  clear hW
  have z0 := BK1.out.cell 0
  have z1 := BK1.out.cell 1
  have z2 := BK1.out.cell 2
  have z3 := BK1.out.cell 3
  have z4 := BK1.out.cell 4
  have z5 := BK1.out.cell 5
  have z6 := BK1.out.cell 6
  have z7 := BK1.out.cell 7
  have z8 := BK1.out.cell 8
  simp only [List.getElem?_cons_zero, List.getElem?_cons_succ] at z0 z1 z2 z3 z4 z5 z6 z7 z8
  have pc0 := keepc HB0.out p0
  have pc1 := keepc HB0.out p1
  have pc2 := keepc HB0.out p2
  have pc3 := keepc HB0.out p3
  have pc4 := keepc HB0.out p4
  have pc5 := keepc HB0.out p5
  have pc6 := keepc HB0.out p6
  have pc7 := keepc HB0.out p7
  have pc8 := keepc HB0.out p8
  clear p0 p1 p2 p3 p4 p5 p6 p7 p8
  go_wp2_with fail
  refine (HI1.out _ HB0.out).mono ?_
  rintro e w2 ⟨rfl, hb2⟩
  have HB2 := Lib.hid (HB0.out.trans (hb2.mono HB0.out.size))
  have BQ1 := Lib.hid (Blk.go BK1.out hb2)
  have BQ2 := Lib.hid (Blk.go BK2.out hb2)
  have BQ3 := Lib.hid (Blk.go BK3.out hb2)
  clear z0 z1 z2 z3 z4 z5 z6 z7 z8 pc0 pc1 pc2 pc3 pc4 pc5 pc6 pc7 pc8 hb2 BK1 BK2 BK3
  go_upto_region 10 with (fail)
  have Ba := Lib.hid ((Blk.new w2 51 [.int .i64 ak1, .int .i64 as1, .int .i64 ad1]).alloc (.cells #[.int .i64 bk1, .int .i64 bs1, .int .i64 bd1] 51))
  have Bb := Lib.hid (Blk.new' (w2.alloc (.cells #[.int .i64 ak1, .int .i64 as1, .int .i64 ad1] 51)) (w2.heap.size + 1) 51 [.int .i64 bk1, .int .i64 bs1, .int .i64 bd1] (by simp))
  simp only [List.toArray] at Ba Bb
  have BS1 := Lib.hid ((BQ1.out.alloc (.cells #[.int .i64 ak1, .int .i64 as1, .int .i64 ad1] 51)).alloc (.cells #[.int .i64 bk1, .int .i64 bs1, .int .i64 bd1] 51))
  have lBQ1 := BQ1.out.lt
  have BS2 := Lib.hid ((BQ2.out.alloc (.cells #[.int .i64 ak1, .int .i64 as1, .int .i64 ad1] 51)).alloc (.cells #[.int .i64 bk1, .int .i64 bs1, .int .i64 bd1] 51))
  have lBQ2 := BQ2.out.lt
  have BS3 := Lib.hid ((BQ3.out.alloc (.cells #[.int .i64 ak1, .int .i64 as1, .int .i64 ad1] 51)).alloc (.cells #[.int .i64 bk1, .int .i64 bs1, .int .i64 bd1] 51))
  have lBQ3 := BQ3.out.lt
  have HB3 := Lib.hid (show Below w.heap.size w ((w2.alloc (.cells #[.int .i64 ak1, .int .i64 as1, .int .i64 ad1] 51)).alloc (.cells #[.int .i64 bk1, .int .i64 bs1, .int .i64 bd1] 51)) by have := HB2.out; have := this.size; (repeat' (first | (with_reducible assumption) | (with_reducible exact Below.refl _ _) | (with_reducible refine Below.setCell ?_ ?_ _) | (with_reducible refine Below.alloc ?_ ?_ _) | (with_reducible apply Below.drew) | omega | (simp; done) | (simp; omega))))
  generalize hgb : w2.heap.size + 1 = gb at *
  generalize hga : w2.heap.size = ga at *
  generalize hWW : (w2.alloc (.cells #[.int .i64 ak1, .int .i64 as1, .int .i64 ad1] 51)).alloc (.cells #[.int .i64 bk1, .int .i64 bs1, .int .i64 bd1] 51) = W5 at *
  clear hWW
  have hna1 : w.heap.size + 1 ≠ ga := by omega
  have hnb1 : w.heap.size + 1 ≠ gb := by omega
  have hnc1 : w.heap.size + 1 + 1 ≠ ga := by omega
  have hnd1 : w.heap.size + 1 + 1 ≠ gb := by omega
  clear lBQ1 lBQ2 lBQ3 hga hgb BQ1 BQ2 BQ3
  have z0 := BS1.out.cell 0
  have z1 := BS1.out.cell 1
  have z2 := BS1.out.cell 2
  have z3 := BS1.out.cell 3
  have z4 := BS1.out.cell 4
  have z5 := BS1.out.cell 5
  have z6 := BS1.out.cell 6
  have z7 := BS1.out.cell 7
  have z8 := BS1.out.cell 8
  simp only [List.getElem?_cons_zero, List.getElem?_cons_succ] at z0 z1 z2 z3 z4 z5 z6 z7 z8
  have pc0 := keepc HB3.out Q0.out
  have pc1 := keepc HB3.out Q1.out
  have pc2 := keepc HB3.out Q2.out
  have pc3 := keepc HB3.out Q3.out
  have pc4 := keepc HB3.out Q4.out
  have pc5 := keepc HB3.out Q5.out
  have pc6 := keepc HB3.out Q6.out
  have pc7 := keepc HB3.out Q7.out
  have pc8 := keepc HB3.out Q8.out
  go_wp2_with fail
  refine (HI2.out _ HB3.out).mono ?_
  rintro e w6 ⟨rfl, hb6⟩
  have HB6 := Lib.hid (bel_go HB3.out hb6)
  have BT1 := Lib.hid (Blk.go BS1.out hb6)
  have BT2 := Lib.hid (Blk.go BS2.out hb6)
  have BT3 := Lib.hid (Blk.go BS3.out hb6)
  have BTa := Lib.hid (Blk.go Ba.out hb6)
  have BTb := Lib.hid (Blk.go Bb.out hb6)
  clear z0 z1 z2 z3 z4 z5 z6 z7 z8 pc0 pc1 pc2 pc3 pc4 pc5 pc6 pc7 pc8 hb6 BS1 BS2 BS3 Ba Bb
  go_upto_region 15 with (fail)
  have Bc := Lib.hid ((Blk.new w6 51 [.int .i64 ak2, .int .i64 as2, .int .i64 ad2]).alloc (.cells #[.int .i64 bk2, .int .i64 bs2, .int .i64 bd2] 51))
  have Bd := Lib.hid (Blk.new' (w6.alloc (.cells #[.int .i64 ak2, .int .i64 as2, .int .i64 ad2] 51)) (w6.heap.size + 1) 51 [.int .i64 bk2, .int .i64 bs2, .int .i64 bd2] (by simp))
  simp only [List.toArray] at Bc Bd
  have BS1 := Lib.hid ((BT1.out.alloc (.cells #[.int .i64 ak2, .int .i64 as2, .int .i64 ad2] 51)).alloc (.cells #[.int .i64 bk2, .int .i64 bs2, .int .i64 bd2] 51))
  have lBT1 := BT1.out.lt
  have BS2 := Lib.hid ((BT2.out.alloc (.cells #[.int .i64 ak2, .int .i64 as2, .int .i64 ad2] 51)).alloc (.cells #[.int .i64 bk2, .int .i64 bs2, .int .i64 bd2] 51))
  have lBT2 := BT2.out.lt
  have BS3 := Lib.hid ((BT3.out.alloc (.cells #[.int .i64 ak2, .int .i64 as2, .int .i64 ad2] 51)).alloc (.cells #[.int .i64 bk2, .int .i64 bs2, .int .i64 bd2] 51))
  have lBT3 := BT3.out.lt
  have Ba := Lib.hid ((BTa.out.alloc (.cells #[.int .i64 ak2, .int .i64 as2, .int .i64 ad2] 51)).alloc (.cells #[.int .i64 bk2, .int .i64 bs2, .int .i64 bd2] 51))
  have lBTa := BTa.out.lt
  have Bb := Lib.hid ((BTb.out.alloc (.cells #[.int .i64 ak2, .int .i64 as2, .int .i64 ad2] 51)).alloc (.cells #[.int .i64 bk2, .int .i64 bs2, .int .i64 bd2] 51))
  have lBTb := BTb.out.lt
  have HB7 := Lib.hid (show Below w.heap.size w ((w6.alloc (.cells #[.int .i64 ak2, .int .i64 as2, .int .i64 ad2] 51)).alloc (.cells #[.int .i64 bk2, .int .i64 bs2, .int .i64 bd2] 51)) by have := HB6.out; have := this.size; (repeat' (first | (with_reducible assumption) | (with_reducible exact Below.refl _ _) | (with_reducible refine Below.setCell ?_ ?_ _) | (with_reducible refine Below.alloc ?_ ?_ _) | (with_reducible apply Below.drew) | omega | (simp; done) | (simp; omega))))
  generalize hgb : w6.heap.size + 1 = gd at *
  generalize hga : w6.heap.size = gc at *
  generalize hWW : (w6.alloc (.cells #[.int .i64 ak2, .int .i64 as2, .int .i64 ad2] 51)).alloc (.cells #[.int .i64 bk2, .int .i64 bs2, .int .i64 bd2] 51) = W7 at *
  clear hWW
  have hne1 : w.heap.size + 1 ≠ gc := by omega
  have hnf1 : w.heap.size + 1 ≠ gd := by omega
  have hng1 : w.heap.size + 1 + 1 ≠ gc := by omega
  have hnh1 : w.heap.size + 1 + 1 ≠ gd := by omega
  have hna2 := hna1.symm
  have hnb2 := hnb1.symm
  have hnc2 := hnc1.symm
  have hnd2 := hnd1.symm
  have hne2 := hne1.symm
  have hnf2 := hnf1.symm
  have hng2 := hng1.symm
  have hnh2 := hnh1.symm
  clear lBT1 lBT2 lBT3 lBTa lBTb hga hgb BT1 BT2 BT3 BTa BTb
  have z0 := BS1.out.cell 0
  simp only [List.getElem?_cons_zero] at z0
  have m0 := Ba.out.cell 0
  have m1 := Ba.out.cell 1
  have m2 := Ba.out.cell 2
  simp only [List.getElem?_cons_zero, List.getElem?_cons_succ] at m0 m1 m2
  have M0 := Lib.hid m0
  have M1 := Lib.hid m1
  have M2 := Lib.hid m2
  have n0 := Bb.out.cell 0
  have n1 := Bb.out.cell 1
  have n2 := Bb.out.cell 2
  simp only [List.getElem?_cons_zero, List.getElem?_cons_succ] at n0 n1 n2
  have N0 := Lib.hid n0
  have N1 := Lib.hid n1
  have N2 := Lib.hid n2
  have x0 := Bc.out.cell 0
  have x1 := Bc.out.cell 1
  have x2 := Bc.out.cell 2
  simp only [List.getElem?_cons_zero, List.getElem?_cons_succ] at x0 x1 x2
  have X0 := Lib.hid x0
  have X1 := Lib.hid x1
  have X2 := Lib.hid x2
  have y0 := Bd.out.cell 0
  have y1 := Bd.out.cell 1
  have y2 := Bd.out.cell 2
  simp only [List.getElem?_cons_zero, List.getElem?_cons_succ] at y0 y1 y2
  have Y0 := Lib.hid y0
  have Y1 := Lib.hid y1
  have Y2 := Lib.hid y2
  go_upto_region 17 with (fail)
  clear z0
  have HQ0 := Lib.hid (bel_drew1 W7)
  (first | (go_region_held3 (fun w' => w'.cell? ⟨ga, 0, none⟩ = some (.int .i64 ak1) ∧ w'.cell? ⟨ga, 1, none⟩ = some (.int .i64 as1) ∧ w'.cell? ⟨ga, 2, none⟩ = some (.int .i64 ad1) ∧ w'.cell? ⟨gb, 0, none⟩ = some (.int .i64 bk1) ∧ w'.cell? ⟨gb, 1, none⟩ = some (.int .i64 bs1) ∧ w'.cell? ⟨gb, 2, none⟩ = some (.int .i64 bd1) ∧ w'.cell? ⟨gc, 0, none⟩ = some (.int .i64 ak2) ∧ w'.cell? ⟨gc, 1, none⟩ = some (.int .i64 as2) ∧ w'.cell? ⟨gc, 2, none⟩ = some (.int .i64 ad2) ∧ w'.cell? ⟨gd, 0, none⟩ = some (.int .i64 bk2) ∧ w'.cell? ⟨gd, 1, none⟩ = some (.int .i64 bs2) ∧ w'.cell? ⟨gd, 2, none⟩ = some (.int .i64 bd2)) (go_keep) (first | (go_at_call_of 45 (Value.agg #[.int .i64 ak1, .int .i64 as1, .int .i64 ad1]); refine (HWe.out _).mono ?_; rintro e w9 ⟨rfl, hb9⟩; have HQ1 := Lib.hid (bel_go (by first | exact HQ1.out | exact HQ0.out) hb9); clear hb9; have m0 := keepc HQ1.out M0.out; have m1 := keepc HQ1.out M1.out; have m2 := keepc HQ1.out M2.out; have n0 := keepc HQ1.out N0.out; have n1 := keepc HQ1.out N1.out; have n2 := keepc HQ1.out N2.out; have x0 := keepc HQ1.out X0.out; have x1 := keepc HQ1.out X1.out; have x2 := keepc HQ1.out X2.out; have y0 := keepc HQ1.out Y0.out; have y1 := keepc HQ1.out Y1.out; have y2 := keepc HQ1.out Y2.out; have BR := Lib.hid (BS2.out.below HQ1.out BS2.out.lt); have BT := Lib.hid (BS3.out.below HQ1.out BS3.out.lt); have yr0 := BR.out.cell 0; have yf0 := BR.out.free 0; have ys0 := BT.out.cell 0; have yg0 := BT.out.free 0; have yr1 := BR.out.cell 1; have yf1 := BR.out.free 1; have ys1 := BT.out.cell 1; have yg1 := BT.out.free 1; have yr2 := BR.out.cell 2; have yf2 := BR.out.free 2; have ys2 := BT.out.cell 2; have yg2 := BT.out.free 2; simp only [List.getElem?_cons_zero, List.getElem?_cons_succ] at yr0 yr1 yr2 ys0 ys1 ys2; have hB := bel_go HB7.out HQ1.out) | (go_at_call_of 45 (Value.agg #[.int .i64 bk1, .int .i64 bs1, .int .i64 bd1]); refine (HWg.out _).mono ?_; rintro e w9 ⟨rfl, hb9⟩; have HQ1 := Lib.hid (bel_go (by first | exact HQ1.out | exact HQ0.out) hb9); clear hb9; have m0 := keepc HQ1.out M0.out; have m1 := keepc HQ1.out M1.out; have m2 := keepc HQ1.out M2.out; have n0 := keepc HQ1.out N0.out; have n1 := keepc HQ1.out N1.out; have n2 := keepc HQ1.out N2.out; have x0 := keepc HQ1.out X0.out; have x1 := keepc HQ1.out X1.out; have x2 := keepc HQ1.out X2.out; have y0 := keepc HQ1.out Y0.out; have y1 := keepc HQ1.out Y1.out; have y2 := keepc HQ1.out Y2.out; have BR := Lib.hid (BS2.out.below HQ1.out BS2.out.lt); have BT := Lib.hid (BS3.out.below HQ1.out BS3.out.lt); have yr0 := BR.out.cell 0; have yf0 := BR.out.free 0; have ys0 := BT.out.cell 0; have yg0 := BT.out.free 0; have yr1 := BR.out.cell 1; have yf1 := BR.out.free 1; have ys1 := BT.out.cell 1; have yg1 := BT.out.free 1; have yr2 := BR.out.cell 2; have yf2 := BR.out.free 2; have ys2 := BT.out.cell 2; have yg2 := BT.out.free 2; simp only [List.getElem?_cons_zero, List.getElem?_cons_succ] at yr0 yr1 yr2 ys0 ys1 ys2; have hB := bel_go HB7.out HQ1.out))) | fail "held")
  all_goals
    go_wp2_with fail
    refine bodyPost_ret (v := .tuple #[.agg #[.int .i64 ek1, .int .i64 es1, .int .i64 ed1], .agg #[.int .i64 gk1, .int .i64 gs1, .int .i64 gd1]]) ?_ rfl ⟨rfl, by (repeat' (first | (with_reducible assumption) | (with_reducible exact Below.refl _ _) | (with_reducible refine Below.setCell ?_ ?_ _) | (with_reducible refine Below.alloc ?_ ?_ _) | (with_reducible apply Below.drew) | omega | (simp; done) | (simp; omega)))⟩
    simp [results, Tryz.results20, go_sem, yr0, yr1, yr2, ys0, ys1, ys2]
set_option maxRecDepth 100000 in
set_option maxHeartbeats 6400000 in
theorem rsz4 (N : Nat) (ih : RszAt 20 N) (k : Int) (n : ByteArray) (vl : Int) (fl : ByteArray) (al : List Tm) (vr : Int) (fr : ByteArray) (ar : List Tm) (ts : List Fm) (Al : Option Addr) (cl : Nat) (Ar : Option Addr) (cr : Nat) (A : Option Addr) (c : Nat) (a1 : Fm) (a2 : Fm) (S : Nat → Prop) (w : World) (h : k = 4) (hts : ts = [a1, a2]) (hN : (Fm.mk k n (.mk vl fl al) (.mk vr fr ar) ts).wt ≤ N + 1) (hNN : N ≤ 1125899906842623) (hsh1 : a1.shape = true) (hsh2 : a2.shape = true) (hl : ST S w Al al.length cl al) (hr : ST S w Ar ar.length cr ar) (hs : SF S w A ts.length c ts) : Calls Tryz.prog 20 #[.agg #[.int .i64 k, .string n, .int .i64 vl, .string fl, .slice Al al.length cl, .int .i64 vr, .string fr, .slice Ar ar.length cr, .slice A ts.length c]] w fun e w' => e = .returned (.tuple #[.agg #[.int .i64 ((Fm.mk k n (.mk vl fl al) (.mk vr fr ar) ts).rsz).1.k, .int .i64 ((Fm.mk k n (.mk vl fl al) (.mk vr fr ar) ts).rsz).1.s, .int .i64 ((Fm.mk k n (.mk vl fl al) (.mk vr fr ar) ts).rsz).1.d], .agg #[.int .i64 ((Fm.mk k n (.mk vl fl al) (.mk vr fr ar) ts).rsz).2.k, .int .i64 ((Fm.mk k n (.mk vl fl al) (.mk vr fr ar) ts).rsz).2.s, .int .i64 ((Fm.mk k n (.mk vl fl al) (.mk vr fr ar) ts).rsz).2.d]]) ∧ Below w.heap.size w w' := by
  subst h hts
  obtain ⟨b, o, hA1, k1, n1, vl1, fl1, al1, vr1, fr1, ar1, ts1, Al1, cl1, Ar1, cr1, A1, c1, hm1, hl1, hr1, hs1, p0, p1, p2, p3, p4, p5, p6, p7, p8⟩ := hs.at 0 (by simp)
  change a1 = _ at hm1
  subst hm1
  subst hA1
  simp only [Nat.zero_mul, Nat.one_mul, Nat.add_zero] at p0 p1 p2 p3 p4 p5 p6 p7 p8
  obtain ⟨b', o', hA2, k2, n2, vl2, fl2, al2, vr2, fr2, ar2, ts2, Al2, cl2, Ar2, cr2, A2, c2, hm2, hl2, hr2, hs2, q0, q1, q2, q3, q4, q5, q6, q7, q8⟩ := hs.at 1 (by simp)
  change a2 = _ at hm2
  subst hm2
  injection hA2 with hA2
  injection hA2 with hb2 ho2
  subst hb2 ho2
  simp only [Nat.zero_mul, Nat.one_mul, Nat.add_zero] at q0 q1 q2 q3 q4 q5 q6 q7 q8
  have hw : (Fm.mk k1 n1 (.mk vl1 fl1 al1) (.mk vr1 fr1 ar1) ts1).wt + (Fm.mk k2 n2 (.mk vl2 fl2 al2) (.mk vr2 fr2 ar2) ts2).wt + 3 ≤ N + 1 := by have hh := hN; rw [Fm.wt, Fm.wts, Fm.wts, Fm.wts] at hh; have := (Tm.mk vl fl al).wt_pos; have := (Tm.mk vr fr ar).wt_pos; omega
  have HI1 := Lib.hid (fun w' (hb : Below w.heap.size w w') => ih k1 n1 vl1 fl1 al1 vr1 fr1 ar1 ts1 Al1 cl1 Ar1 cr1 A1 c1 S w' (by omega) (by omega) hsh1 (hl1.stay (Stay.below hb)) (hr1.stay (Stay.below hb)) (hs1.stay (Stay.below hb)))
  have hbd1 := Fm.rsz_b (Fm.mk k1 n1 (.mk vl1 fl1 al1) (.mk vr1 fr1 ar1) ts1) (by omega)
  have hbm1 : (2 * ((Fm.mk k1 n1 (.mk vl1 fl1 al1) (.mk vr1 fr1 ar1) ts1).wt : Int)) ≤ 2251799813685248 := by omega
  have HI2 := Lib.hid (fun w' (hb : Below w.heap.size w w') => ih k2 n2 vl2 fl2 al2 vr2 fr2 ar2 ts2 Al2 cl2 Ar2 cr2 A2 c2 S w' (by omega) (by omega) hsh2 (hl2.stay (Stay.below hb)) (hr2.stay (Stay.below hb)) (hs2.stay (Stay.below hb)))
  have hbd2 := Fm.rsz_b (Fm.mk k2 n2 (.mk vl2 fl2 al2) (.mk vr2 fr2 ar2) ts2) (by omega)
  have hbm2 : (2 * ((Fm.mk k2 n2 (.mk vl2 fl2 al2) (.mk vr2 fr2 ar2) ts2).wt : Int)) ≤ 2251799813685248 := by omega
  have hv : Fm.rsz (Fm.mk 4 n (.mk vl fl al) (.mk vr fr ar) [(Fm.mk k1 n1 (.mk vl1 fl1 al1) (.mk vr1 fr1 ar1) ts1), (Fm.mk k2 n2 (.mk vl2 fl2 al2) (.mk vr2 fr2 ar2) ts2)]) = ((Fo.rjoin (Fm.mk k1 n1 (.mk vl1 fl1 al1) (.mk vr1 fr1 ar1) ts1).rsz.1 (Fm.mk k2 n2 (.mk vl2 fl2 al2) (.mk vr2 fr2 ar2) ts2).rsz.1 false), (Fo.rjoin (Fm.mk k1 n1 (.mk vl1 fl1 al1) (.mk vr1 fr1 ar1) ts1).rsz.2 (Fm.mk k2 n2 (.mk vl2 fl2 al2) (.mk vr2 fr2 ar2) ts2).rsz.2 true)) := by rw [Fm.rsz, Fm.rszL, Fm.rszL, Fm.rszL]; rfl
  rw [hv]
  clear hv hN ih
  generalize hm1 : (Fm.mk k1 n1 (.mk vl1 fl1 al1) (.mk vr1 fr1 ar1) ts1).rsz = m1 at *
  clear hm1
  obtain ⟨⟨ak1, as1, ad1⟩, ⟨bk1, bs1, bd1⟩⟩ := m1
  have HIB1 : Hid (InB 2251799813685248 ⟨ak1, as1, ad1⟩ ∧ InB 2251799813685248 ⟨bk1, bs1, bd1⟩) := Lib.hid ⟨hbd1.1.mono hbm1, hbd1.2.mono hbm1⟩
  obtain ⟨⟨u11, u21, u31, u41⟩, ⟨v11, v21, v31, v41⟩⟩ := hbd1
  simp only at u11 u21 u31 u41 v11 v21 v31 v41
  have hbd1 : (0 ≤ as1 ∧ as1 ≤ 1152921504606846976) ∧ (0 ≤ ad1 ∧ ad1 ≤ 1152921504606846976) ∧ (0 ≤ bs1 ∧ bs1 ≤ 1152921504606846976) ∧ (0 ≤ bd1 ∧ bd1 ≤ 1152921504606846976) := by omega
  have HBD1 := Lib.hid hbd1
  clear u11 u21 u31 u41 v11 v21 v31 v41 hbd1 hbm1
  generalize hm2 : (Fm.mk k2 n2 (.mk vl2 fl2 al2) (.mk vr2 fr2 ar2) ts2).rsz = m2 at *
  clear hm2
  obtain ⟨⟨ak2, as2, ad2⟩, ⟨bk2, bs2, bd2⟩⟩ := m2
  have HIB2 : Hid (InB 2251799813685248 ⟨ak2, as2, ad2⟩ ∧ InB 2251799813685248 ⟨bk2, bs2, bd2⟩) := Lib.hid ⟨hbd2.1.mono hbm2, hbd2.2.mono hbm2⟩
  obtain ⟨⟨u12, u22, u32, u42⟩, ⟨v12, v22, v32, v42⟩⟩ := hbd2
  simp only at u12 u22 u32 u42 v12 v22 v32 v42
  have hbd2 : (0 ≤ as2 ∧ as2 ≤ 1152921504606846976) ∧ (0 ≤ ad2 ∧ ad2 ≤ 1152921504606846976) ∧ (0 ≤ bs2 ∧ bs2 ≤ 1152921504606846976) ∧ (0 ≤ bd2 ∧ bd2 ≤ 1152921504606846976) := by omega
  have HBD2 := Lib.hid hbd2
  clear u12 u22 u32 u42 v12 v22 v32 v42 hbd2 hbm2
  have HWe := Lib.hid (fun w' => rjoin_any ak1 as1 ad1 ak2 as2 ad2 false w' HBD1.out.1 HBD1.out.2.1 HBD2.out.1 HBD2.out.2.1)
  generalize hek : (Fo.rjoin ⟨ak1, as1, ad1⟩ ⟨ak2, as2, ad2⟩ false).k = ek1 at *
  clear hek
  generalize hes : (Fo.rjoin ⟨ak1, as1, ad1⟩ ⟨ak2, as2, ad2⟩ false).s = es1 at *
  clear hes
  generalize hed : (Fo.rjoin ⟨ak1, as1, ad1⟩ ⟨ak2, as2, ad2⟩ false).d = ed1 at *
  clear hed
  have HWg := Lib.hid (fun w' => rjoin_any bk1 bs1 bd1 bk2 bs2 bd2 true w' HBD1.out.2.2.1 HBD1.out.2.2.2 HBD2.out.2.2.1 HBD2.out.2.2.2)
  generalize hgk : (Fo.rjoin ⟨bk1, bs1, bd1⟩ ⟨bk2, bs2, bd2⟩ true).k = gk1 at *
  clear hgk
  generalize hgs : (Fo.rjoin ⟨bk1, bs1, bd1⟩ ⟨bk2, bs2, bd2⟩ true).s = gs1 at *
  clear hgs
  generalize hgd : (Fo.rjoin ⟨bk1, bs1, bd1⟩ ⟨bk2, bs2, bd2⟩ true).d = gd1 at *
  clear hgd
  have Q0 := Lib.hid q0
  have Q1 := Lib.hid q1
  have Q2 := Lib.hid q2
  have Q3 := Lib.hid q3
  have Q4 := Lib.hid q4
  have Q5 := Lib.hid q5
  have Q6 := Lib.hid q6
  have Q7 := Lib.hid q7
  have Q8 := Lib.hid q8
  clear hl1 hr1 hs1 hl2 hr2 hs2 hl hr hs hw
  have HB0 := Lib.hid (show Below w.heap.size w (((w.alloc (.cells #[.int .i64 4, .string n, .int .i64 vl, .string fl, .slice Al al.length cl, .int .i64 vr, .string fr, .slice Ar ar.length cr, .slice (some ⟨b, o, none⟩) 2 c] 27)).alloc (.cells #[.int .i64 0, .int .i64 0, .int .i64 0] 51)).alloc (.cells #[.int .i64 0, .int .i64 0, .int .i64 0] 51)) by (repeat' (first | (with_reducible assumption) | (with_reducible exact Below.refl _ _) | (with_reducible refine Below.setCell ?_ ?_ _) | (with_reducible refine Below.alloc ?_ ?_ _) | (with_reducible apply Below.drew) | omega | (simp; done) | (simp; omega))))
  have BK1 := Lib.hid (((Blk.new w 27 [.int .i64 4, .string n, .int .i64 vl, .string fl, .slice Al al.length cl, .int .i64 vr, .string fr, .slice Ar ar.length cr, .slice (some ⟨b, o, none⟩) 2 c]).alloc (.cells #[.int .i64 0, .int .i64 0, .int .i64 0] 51)).alloc (.cells #[.int .i64 0, .int .i64 0, .int .i64 0] 51))
  have BK2 := Lib.hid ((Blk.new' (w.alloc (.cells #[.int .i64 4, .string n, .int .i64 vl, .string fl, .slice Al al.length cl, .int .i64 vr, .string fr, .slice Ar ar.length cr, .slice (some ⟨b, o, none⟩) 2 c] 27)) (w.heap.size + 1) 51 [.int .i64 0, .int .i64 0, .int .i64 0] (by simp)).alloc (.cells #[.int .i64 0, .int .i64 0, .int .i64 0] 51))
  have BK3 := Lib.hid (Blk.new' ((w.alloc (.cells #[.int .i64 4, .string n, .int .i64 vl, .string fl, .slice Al al.length cl, .int .i64 vr, .string fr, .slice Ar ar.length cr, .slice (some ⟨b, o, none⟩) 2 c] 27)).alloc (.cells #[.int .i64 0, .int .i64 0, .int .i64 0] 51)) (w.heap.size + 1 + 1) 51 [.int .i64 0, .int .i64 0, .int .i64 0] (by simp))
  simp only [List.toArray] at BK1 BK2 BK3
  clear q0 q1 q2 q3 q4 q5 q6 q7 q8
  go_enter Tryz.func20, Tryz.ntmps20
  go_upto_region 9 with (fail)
  generalize hW : (((w.alloc (.cells #[.int .i64 4, .string n, .int .i64 vl, .string fl, .slice Al al.length cl, .int .i64 vr, .string fr, .slice Ar ar.length cr, .slice (some ⟨b, o, none⟩) 2 c] 27)).alloc (.cells #[.int .i64 0, .int .i64 0, .int .i64 0] 51)).alloc (.cells #[.int .i64 0, .int .i64 0, .int .i64 0] 51)) = W at *
  clear hW
  have z0 := BK1.out.cell 0
  have z1 := BK1.out.cell 1
  have z2 := BK1.out.cell 2
  have z3 := BK1.out.cell 3
  have z4 := BK1.out.cell 4
  have z5 := BK1.out.cell 5
  have z6 := BK1.out.cell 6
  have z7 := BK1.out.cell 7
  have z8 := BK1.out.cell 8
  simp only [List.getElem?_cons_zero, List.getElem?_cons_succ] at z0 z1 z2 z3 z4 z5 z6 z7 z8
  have pc0 := keepc HB0.out p0
  have pc1 := keepc HB0.out p1
  have pc2 := keepc HB0.out p2
  have pc3 := keepc HB0.out p3
  have pc4 := keepc HB0.out p4
  have pc5 := keepc HB0.out p5
  have pc6 := keepc HB0.out p6
  have pc7 := keepc HB0.out p7
  have pc8 := keepc HB0.out p8
  clear p0 p1 p2 p3 p4 p5 p6 p7 p8
  go_wp2_with fail
  refine (HI1.out _ HB0.out).mono ?_
  rintro e w2 ⟨rfl, hb2⟩
  have HB2 := Lib.hid (HB0.out.trans (hb2.mono HB0.out.size))
  have BQ1 := Lib.hid (Blk.go BK1.out hb2)
  have BQ2 := Lib.hid (Blk.go BK2.out hb2)
  have BQ3 := Lib.hid (Blk.go BK3.out hb2)
  clear z0 z1 z2 z3 z4 z5 z6 z7 z8 pc0 pc1 pc2 pc3 pc4 pc5 pc6 pc7 pc8 hb2 BK1 BK2 BK3
  go_upto_region 10 with (fail)
  have Ba := Lib.hid ((Blk.new w2 51 [.int .i64 ak1, .int .i64 as1, .int .i64 ad1]).alloc (.cells #[.int .i64 bk1, .int .i64 bs1, .int .i64 bd1] 51))
  have Bb := Lib.hid (Blk.new' (w2.alloc (.cells #[.int .i64 ak1, .int .i64 as1, .int .i64 ad1] 51)) (w2.heap.size + 1) 51 [.int .i64 bk1, .int .i64 bs1, .int .i64 bd1] (by simp))
  simp only [List.toArray] at Ba Bb
  have BS1 := Lib.hid ((BQ1.out.alloc (.cells #[.int .i64 ak1, .int .i64 as1, .int .i64 ad1] 51)).alloc (.cells #[.int .i64 bk1, .int .i64 bs1, .int .i64 bd1] 51))
  have lBQ1 := BQ1.out.lt
  have BS2 := Lib.hid ((BQ2.out.alloc (.cells #[.int .i64 ak1, .int .i64 as1, .int .i64 ad1] 51)).alloc (.cells #[.int .i64 bk1, .int .i64 bs1, .int .i64 bd1] 51))
  have lBQ2 := BQ2.out.lt
  have BS3 := Lib.hid ((BQ3.out.alloc (.cells #[.int .i64 ak1, .int .i64 as1, .int .i64 ad1] 51)).alloc (.cells #[.int .i64 bk1, .int .i64 bs1, .int .i64 bd1] 51))
  have lBQ3 := BQ3.out.lt
  have HB3 := Lib.hid (show Below w.heap.size w ((w2.alloc (.cells #[.int .i64 ak1, .int .i64 as1, .int .i64 ad1] 51)).alloc (.cells #[.int .i64 bk1, .int .i64 bs1, .int .i64 bd1] 51)) by have := HB2.out; have := this.size; (repeat' (first | (with_reducible assumption) | (with_reducible exact Below.refl _ _) | (with_reducible refine Below.setCell ?_ ?_ _) | (with_reducible refine Below.alloc ?_ ?_ _) | (with_reducible apply Below.drew) | omega | (simp; done) | (simp; omega))))
  generalize hgb : w2.heap.size + 1 = gb at *
  generalize hga : w2.heap.size = ga at *
  generalize hWW : (w2.alloc (.cells #[.int .i64 ak1, .int .i64 as1, .int .i64 ad1] 51)).alloc (.cells #[.int .i64 bk1, .int .i64 bs1, .int .i64 bd1] 51) = W5 at *
  clear hWW
  have hna1 : w.heap.size + 1 ≠ ga := by omega
  have hnb1 : w.heap.size + 1 ≠ gb := by omega
  have hnc1 : w.heap.size + 1 + 1 ≠ ga := by omega
  have hnd1 : w.heap.size + 1 + 1 ≠ gb := by omega
  clear lBQ1 lBQ2 lBQ3 hga hgb BQ1 BQ2 BQ3
  have z0 := BS1.out.cell 0
  have z1 := BS1.out.cell 1
  have z2 := BS1.out.cell 2
  have z3 := BS1.out.cell 3
  have z4 := BS1.out.cell 4
  have z5 := BS1.out.cell 5
  have z6 := BS1.out.cell 6
  have z7 := BS1.out.cell 7
  have z8 := BS1.out.cell 8
  simp only [List.getElem?_cons_zero, List.getElem?_cons_succ] at z0 z1 z2 z3 z4 z5 z6 z7 z8
  have pc0 := keepc HB3.out Q0.out
  have pc1 := keepc HB3.out Q1.out
  have pc2 := keepc HB3.out Q2.out
  have pc3 := keepc HB3.out Q3.out
  have pc4 := keepc HB3.out Q4.out
  have pc5 := keepc HB3.out Q5.out
  have pc6 := keepc HB3.out Q6.out
  have pc7 := keepc HB3.out Q7.out
  have pc8 := keepc HB3.out Q8.out
  go_wp2_with fail
  refine (HI2.out _ HB3.out).mono ?_
  rintro e w6 ⟨rfl, hb6⟩
  have HB6 := Lib.hid (bel_go HB3.out hb6)
  have BT1 := Lib.hid (Blk.go BS1.out hb6)
  have BT2 := Lib.hid (Blk.go BS2.out hb6)
  have BT3 := Lib.hid (Blk.go BS3.out hb6)
  have BTa := Lib.hid (Blk.go Ba.out hb6)
  have BTb := Lib.hid (Blk.go Bb.out hb6)
  clear z0 z1 z2 z3 z4 z5 z6 z7 z8 pc0 pc1 pc2 pc3 pc4 pc5 pc6 pc7 pc8 hb6 BS1 BS2 BS3 Ba Bb
  go_upto_region 15 with (fail)
  have Bc := Lib.hid ((Blk.new w6 51 [.int .i64 ak2, .int .i64 as2, .int .i64 ad2]).alloc (.cells #[.int .i64 bk2, .int .i64 bs2, .int .i64 bd2] 51))
  have Bd := Lib.hid (Blk.new' (w6.alloc (.cells #[.int .i64 ak2, .int .i64 as2, .int .i64 ad2] 51)) (w6.heap.size + 1) 51 [.int .i64 bk2, .int .i64 bs2, .int .i64 bd2] (by simp))
  simp only [List.toArray] at Bc Bd
  have BS1 := Lib.hid ((BT1.out.alloc (.cells #[.int .i64 ak2, .int .i64 as2, .int .i64 ad2] 51)).alloc (.cells #[.int .i64 bk2, .int .i64 bs2, .int .i64 bd2] 51))
  have lBT1 := BT1.out.lt
  have BS2 := Lib.hid ((BT2.out.alloc (.cells #[.int .i64 ak2, .int .i64 as2, .int .i64 ad2] 51)).alloc (.cells #[.int .i64 bk2, .int .i64 bs2, .int .i64 bd2] 51))
  have lBT2 := BT2.out.lt
  have BS3 := Lib.hid ((BT3.out.alloc (.cells #[.int .i64 ak2, .int .i64 as2, .int .i64 ad2] 51)).alloc (.cells #[.int .i64 bk2, .int .i64 bs2, .int .i64 bd2] 51))
  have lBT3 := BT3.out.lt
  have Ba := Lib.hid ((BTa.out.alloc (.cells #[.int .i64 ak2, .int .i64 as2, .int .i64 ad2] 51)).alloc (.cells #[.int .i64 bk2, .int .i64 bs2, .int .i64 bd2] 51))
  have lBTa := BTa.out.lt
  have Bb := Lib.hid ((BTb.out.alloc (.cells #[.int .i64 ak2, .int .i64 as2, .int .i64 ad2] 51)).alloc (.cells #[.int .i64 bk2, .int .i64 bs2, .int .i64 bd2] 51))
  have lBTb := BTb.out.lt
  have HB7 := Lib.hid (show Below w.heap.size w ((w6.alloc (.cells #[.int .i64 ak2, .int .i64 as2, .int .i64 ad2] 51)).alloc (.cells #[.int .i64 bk2, .int .i64 bs2, .int .i64 bd2] 51)) by have := HB6.out; have := this.size; (repeat' (first | (with_reducible assumption) | (with_reducible exact Below.refl _ _) | (with_reducible refine Below.setCell ?_ ?_ _) | (with_reducible refine Below.alloc ?_ ?_ _) | (with_reducible apply Below.drew) | omega | (simp; done) | (simp; omega))))
  generalize hgb : w6.heap.size + 1 = gd at *
  generalize hga : w6.heap.size = gc at *
  generalize hWW : (w6.alloc (.cells #[.int .i64 ak2, .int .i64 as2, .int .i64 ad2] 51)).alloc (.cells #[.int .i64 bk2, .int .i64 bs2, .int .i64 bd2] 51) = W7 at *
  clear hWW
  have hne1 : w.heap.size + 1 ≠ gc := by omega
  have hnf1 : w.heap.size + 1 ≠ gd := by omega
  have hng1 : w.heap.size + 1 + 1 ≠ gc := by omega
  have hnh1 : w.heap.size + 1 + 1 ≠ gd := by omega
  have hna2 := hna1.symm
  have hnb2 := hnb1.symm
  have hnc2 := hnc1.symm
  have hnd2 := hnd1.symm
  have hne2 := hne1.symm
  have hnf2 := hnf1.symm
  have hng2 := hng1.symm
  have hnh2 := hnh1.symm
  clear lBT1 lBT2 lBT3 lBTa lBTb hga hgb BT1 BT2 BT3 BTa BTb
  have z0 := BS1.out.cell 0
  simp only [List.getElem?_cons_zero] at z0
  have m0 := Ba.out.cell 0
  have m1 := Ba.out.cell 1
  have m2 := Ba.out.cell 2
  simp only [List.getElem?_cons_zero, List.getElem?_cons_succ] at m0 m1 m2
  have M0 := Lib.hid m0
  have M1 := Lib.hid m1
  have M2 := Lib.hid m2
  have n0 := Bb.out.cell 0
  have n1 := Bb.out.cell 1
  have n2 := Bb.out.cell 2
  simp only [List.getElem?_cons_zero, List.getElem?_cons_succ] at n0 n1 n2
  have N0 := Lib.hid n0
  have N1 := Lib.hid n1
  have N2 := Lib.hid n2
  have x0 := Bc.out.cell 0
  have x1 := Bc.out.cell 1
  have x2 := Bc.out.cell 2
  simp only [List.getElem?_cons_zero, List.getElem?_cons_succ] at x0 x1 x2
  have X0 := Lib.hid x0
  have X1 := Lib.hid x1
  have X2 := Lib.hid x2
  have y0 := Bd.out.cell 0
  have y1 := Bd.out.cell 1
  have y2 := Bd.out.cell 2
  simp only [List.getElem?_cons_zero, List.getElem?_cons_succ] at y0 y1 y2
  have Y0 := Lib.hid y0
  have Y1 := Lib.hid y1
  have Y2 := Lib.hid y2
  go_upto_region 19 with (fail)
  clear z0
  have HQ0 := Lib.hid (bel_drew1 W7)
  (first | (go_region_held3 (fun w' => w'.cell? ⟨ga, 0, none⟩ = some (.int .i64 ak1) ∧ w'.cell? ⟨ga, 1, none⟩ = some (.int .i64 as1) ∧ w'.cell? ⟨ga, 2, none⟩ = some (.int .i64 ad1) ∧ w'.cell? ⟨gb, 0, none⟩ = some (.int .i64 bk1) ∧ w'.cell? ⟨gb, 1, none⟩ = some (.int .i64 bs1) ∧ w'.cell? ⟨gb, 2, none⟩ = some (.int .i64 bd1) ∧ w'.cell? ⟨gc, 0, none⟩ = some (.int .i64 ak2) ∧ w'.cell? ⟨gc, 1, none⟩ = some (.int .i64 as2) ∧ w'.cell? ⟨gc, 2, none⟩ = some (.int .i64 ad2) ∧ w'.cell? ⟨gd, 0, none⟩ = some (.int .i64 bk2) ∧ w'.cell? ⟨gd, 1, none⟩ = some (.int .i64 bs2) ∧ w'.cell? ⟨gd, 2, none⟩ = some (.int .i64 bd2)) (go_keep) (first | (go_at_call_of 45 (Value.agg #[.int .i64 ak1, .int .i64 as1, .int .i64 ad1]); refine (HWe.out _).mono ?_; rintro e w9 ⟨rfl, hb9⟩; have HQ1 := Lib.hid (bel_go (by first | exact HQ1.out | exact HQ0.out) hb9); clear hb9; have m0 := keepc HQ1.out M0.out; have m1 := keepc HQ1.out M1.out; have m2 := keepc HQ1.out M2.out; have n0 := keepc HQ1.out N0.out; have n1 := keepc HQ1.out N1.out; have n2 := keepc HQ1.out N2.out; have x0 := keepc HQ1.out X0.out; have x1 := keepc HQ1.out X1.out; have x2 := keepc HQ1.out X2.out; have y0 := keepc HQ1.out Y0.out; have y1 := keepc HQ1.out Y1.out; have y2 := keepc HQ1.out Y2.out; have BR := Lib.hid (BS2.out.below HQ1.out BS2.out.lt); have BT := Lib.hid (BS3.out.below HQ1.out BS3.out.lt); have yr0 := BR.out.cell 0; have yf0 := BR.out.free 0; have ys0 := BT.out.cell 0; have yg0 := BT.out.free 0; have yr1 := BR.out.cell 1; have yf1 := BR.out.free 1; have ys1 := BT.out.cell 1; have yg1 := BT.out.free 1; have yr2 := BR.out.cell 2; have yf2 := BR.out.free 2; have ys2 := BT.out.cell 2; have yg2 := BT.out.free 2; simp only [List.getElem?_cons_zero, List.getElem?_cons_succ] at yr0 yr1 yr2 ys0 ys1 ys2; have hB := bel_go HB7.out HQ1.out) | (go_at_call_of 45 (Value.agg #[.int .i64 bk1, .int .i64 bs1, .int .i64 bd1]); refine (HWg.out _).mono ?_; rintro e w9 ⟨rfl, hb9⟩; have HQ1 := Lib.hid (bel_go (by first | exact HQ1.out | exact HQ0.out) hb9); clear hb9; have m0 := keepc HQ1.out M0.out; have m1 := keepc HQ1.out M1.out; have m2 := keepc HQ1.out M2.out; have n0 := keepc HQ1.out N0.out; have n1 := keepc HQ1.out N1.out; have n2 := keepc HQ1.out N2.out; have x0 := keepc HQ1.out X0.out; have x1 := keepc HQ1.out X1.out; have x2 := keepc HQ1.out X2.out; have y0 := keepc HQ1.out Y0.out; have y1 := keepc HQ1.out Y1.out; have y2 := keepc HQ1.out Y2.out; have BR := Lib.hid (BS2.out.below HQ1.out BS2.out.lt); have BT := Lib.hid (BS3.out.below HQ1.out BS3.out.lt); have yr0 := BR.out.cell 0; have yf0 := BR.out.free 0; have ys0 := BT.out.cell 0; have yg0 := BT.out.free 0; have yr1 := BR.out.cell 1; have yf1 := BR.out.free 1; have ys1 := BT.out.cell 1; have yg1 := BT.out.free 1; have yr2 := BR.out.cell 2; have yf2 := BR.out.free 2; have ys2 := BT.out.cell 2; have yg2 := BT.out.free 2; simp only [List.getElem?_cons_zero, List.getElem?_cons_succ] at yr0 yr1 yr2 ys0 ys1 ys2; have hB := bel_go HB7.out HQ1.out))) | fail "held")
  all_goals
    go_wp2_with fail
    refine bodyPost_ret (v := .tuple #[.agg #[.int .i64 ek1, .int .i64 es1, .int .i64 ed1], .agg #[.int .i64 gk1, .int .i64 gs1, .int .i64 gd1]]) ?_ rfl ⟨rfl, by (repeat' (first | (with_reducible assumption) | (with_reducible exact Below.refl _ _) | (with_reducible refine Below.setCell ?_ ?_ _) | (with_reducible refine Below.alloc ?_ ?_ _) | (with_reducible apply Below.drew) | omega | (simp; done) | (simp; omega)))⟩
    simp [results, Tryz.results20, go_sem, yr0, yr1, yr2, ys0, ys1, ys2]
set_option maxRecDepth 100000 in
set_option maxHeartbeats 6400000 in
theorem rsz5 (N : Nat) (ih : RszAt 20 N) (k : Int) (n : ByteArray) (vl : Int) (fl : ByteArray) (al : List Tm) (vr : Int) (fr : ByteArray) (ar : List Tm) (ts : List Fm) (Al : Option Addr) (cl : Nat) (Ar : Option Addr) (cr : Nat) (A : Option Addr) (c : Nat) (a1 : Fm) (a2 : Fm) (S : Nat → Prop) (w : World) (h : k = 5) (hts : ts = [a1, a2]) (hN : (Fm.mk k n (.mk vl fl al) (.mk vr fr ar) ts).wt ≤ N + 1) (hNN : N ≤ 1125899906842623) (hsh1 : a1.shape = true) (hsh2 : a2.shape = true) (hl : ST S w Al al.length cl al) (hr : ST S w Ar ar.length cr ar) (hs : SF S w A ts.length c ts) : Calls Tryz.prog 20 #[.agg #[.int .i64 k, .string n, .int .i64 vl, .string fl, .slice Al al.length cl, .int .i64 vr, .string fr, .slice Ar ar.length cr, .slice A ts.length c]] w fun e w' => e = .returned (.tuple #[.agg #[.int .i64 ((Fm.mk k n (.mk vl fl al) (.mk vr fr ar) ts).rsz).1.k, .int .i64 ((Fm.mk k n (.mk vl fl al) (.mk vr fr ar) ts).rsz).1.s, .int .i64 ((Fm.mk k n (.mk vl fl al) (.mk vr fr ar) ts).rsz).1.d], .agg #[.int .i64 ((Fm.mk k n (.mk vl fl al) (.mk vr fr ar) ts).rsz).2.k, .int .i64 ((Fm.mk k n (.mk vl fl al) (.mk vr fr ar) ts).rsz).2.s, .int .i64 ((Fm.mk k n (.mk vl fl al) (.mk vr fr ar) ts).rsz).2.d]]) ∧ Below w.heap.size w w' := by
  subst h hts
  obtain ⟨b, o, hA1, k1, n1, vl1, fl1, al1, vr1, fr1, ar1, ts1, Al1, cl1, Ar1, cr1, A1, c1, hm1, hl1, hr1, hs1, p0, p1, p2, p3, p4, p5, p6, p7, p8⟩ := hs.at 0 (by simp)
  change a1 = _ at hm1
  subst hm1
  subst hA1
  simp only [Nat.zero_mul, Nat.one_mul, Nat.add_zero] at p0 p1 p2 p3 p4 p5 p6 p7 p8
  obtain ⟨b', o', hA2, k2, n2, vl2, fl2, al2, vr2, fr2, ar2, ts2, Al2, cl2, Ar2, cr2, A2, c2, hm2, hl2, hr2, hs2, q0, q1, q2, q3, q4, q5, q6, q7, q8⟩ := hs.at 1 (by simp)
  change a2 = _ at hm2
  subst hm2
  injection hA2 with hA2
  injection hA2 with hb2 ho2
  subst hb2 ho2
  simp only [Nat.zero_mul, Nat.one_mul, Nat.add_zero] at q0 q1 q2 q3 q4 q5 q6 q7 q8
  have hw : (Fm.mk k1 n1 (.mk vl1 fl1 al1) (.mk vr1 fr1 ar1) ts1).wt + (Fm.mk k2 n2 (.mk vl2 fl2 al2) (.mk vr2 fr2 ar2) ts2).wt + 3 ≤ N + 1 := by have hh := hN; rw [Fm.wt, Fm.wts, Fm.wts, Fm.wts] at hh; have := (Tm.mk vl fl al).wt_pos; have := (Tm.mk vr fr ar).wt_pos; omega
  have HI1 := Lib.hid (fun w' (hb : Below w.heap.size w w') => ih k1 n1 vl1 fl1 al1 vr1 fr1 ar1 ts1 Al1 cl1 Ar1 cr1 A1 c1 S w' (by omega) (by omega) hsh1 (hl1.stay (Stay.below hb)) (hr1.stay (Stay.below hb)) (hs1.stay (Stay.below hb)))
  have hbd1 := Fm.rsz_b (Fm.mk k1 n1 (.mk vl1 fl1 al1) (.mk vr1 fr1 ar1) ts1) (by omega)
  have hbm1 : (2 * ((Fm.mk k1 n1 (.mk vl1 fl1 al1) (.mk vr1 fr1 ar1) ts1).wt : Int)) ≤ 2251799813685248 := by omega
  have HI2 := Lib.hid (fun w' (hb : Below w.heap.size w w') => ih k2 n2 vl2 fl2 al2 vr2 fr2 ar2 ts2 Al2 cl2 Ar2 cr2 A2 c2 S w' (by omega) (by omega) hsh2 (hl2.stay (Stay.below hb)) (hr2.stay (Stay.below hb)) (hs2.stay (Stay.below hb)))
  have hbd2 := Fm.rsz_b (Fm.mk k2 n2 (.mk vl2 fl2 al2) (.mk vr2 fr2 ar2) ts2) (by omega)
  have hbm2 : (2 * ((Fm.mk k2 n2 (.mk vl2 fl2 al2) (.mk vr2 fr2 ar2) ts2).wt : Int)) ≤ 2251799813685248 := by omega
  have hv : Fm.rsz (Fm.mk 5 n (.mk vl fl al) (.mk vr fr ar) [(Fm.mk k1 n1 (.mk vl1 fl1 al1) (.mk vr1 fr1 ar1) ts1), (Fm.mk k2 n2 (.mk vl2 fl2 al2) (.mk vr2 fr2 ar2) ts2)]) = ((Fo.rjoin (Fm.mk k1 n1 (.mk vl1 fl1 al1) (.mk vr1 fr1 ar1) ts1).rsz.2 (Fm.mk k2 n2 (.mk vl2 fl2 al2) (.mk vr2 fr2 ar2) ts2).rsz.1 false), (Fo.rjoin (Fm.mk k1 n1 (.mk vl1 fl1 al1) (.mk vr1 fr1 ar1) ts1).rsz.1 (Fm.mk k2 n2 (.mk vl2 fl2 al2) (.mk vr2 fr2 ar2) ts2).rsz.2 true)) := by rw [Fm.rsz, Fm.rszL, Fm.rszL, Fm.rszL]; rfl
  rw [hv]
  clear hv hN ih
  generalize hm1 : (Fm.mk k1 n1 (.mk vl1 fl1 al1) (.mk vr1 fr1 ar1) ts1).rsz = m1 at *
  clear hm1
  obtain ⟨⟨ak1, as1, ad1⟩, ⟨bk1, bs1, bd1⟩⟩ := m1
  have HIB1 : Hid (InB 2251799813685248 ⟨ak1, as1, ad1⟩ ∧ InB 2251799813685248 ⟨bk1, bs1, bd1⟩) := Lib.hid ⟨hbd1.1.mono hbm1, hbd1.2.mono hbm1⟩
  obtain ⟨⟨u11, u21, u31, u41⟩, ⟨v11, v21, v31, v41⟩⟩ := hbd1
  simp only at u11 u21 u31 u41 v11 v21 v31 v41
  have hbd1 : (0 ≤ as1 ∧ as1 ≤ 1152921504606846976) ∧ (0 ≤ ad1 ∧ ad1 ≤ 1152921504606846976) ∧ (0 ≤ bs1 ∧ bs1 ≤ 1152921504606846976) ∧ (0 ≤ bd1 ∧ bd1 ≤ 1152921504606846976) := by omega
  have HBD1 := Lib.hid hbd1
  clear u11 u21 u31 u41 v11 v21 v31 v41 hbd1 hbm1
  generalize hm2 : (Fm.mk k2 n2 (.mk vl2 fl2 al2) (.mk vr2 fr2 ar2) ts2).rsz = m2 at *
  clear hm2
  obtain ⟨⟨ak2, as2, ad2⟩, ⟨bk2, bs2, bd2⟩⟩ := m2
  have HIB2 : Hid (InB 2251799813685248 ⟨ak2, as2, ad2⟩ ∧ InB 2251799813685248 ⟨bk2, bs2, bd2⟩) := Lib.hid ⟨hbd2.1.mono hbm2, hbd2.2.mono hbm2⟩
  obtain ⟨⟨u12, u22, u32, u42⟩, ⟨v12, v22, v32, v42⟩⟩ := hbd2
  simp only at u12 u22 u32 u42 v12 v22 v32 v42
  have hbd2 : (0 ≤ as2 ∧ as2 ≤ 1152921504606846976) ∧ (0 ≤ ad2 ∧ ad2 ≤ 1152921504606846976) ∧ (0 ≤ bs2 ∧ bs2 ≤ 1152921504606846976) ∧ (0 ≤ bd2 ∧ bd2 ≤ 1152921504606846976) := by omega
  have HBD2 := Lib.hid hbd2
  clear u12 u22 u32 u42 v12 v22 v32 v42 hbd2 hbm2
  have HWe := Lib.hid (fun w' => rjoin_any bk1 bs1 bd1 ak2 as2 ad2 false w' HBD1.out.2.2.1 HBD1.out.2.2.2 HBD2.out.1 HBD2.out.2.1)
  generalize hek : (Fo.rjoin ⟨bk1, bs1, bd1⟩ ⟨ak2, as2, ad2⟩ false).k = ek1 at *
  clear hek
  generalize hes : (Fo.rjoin ⟨bk1, bs1, bd1⟩ ⟨ak2, as2, ad2⟩ false).s = es1 at *
  clear hes
  generalize hed : (Fo.rjoin ⟨bk1, bs1, bd1⟩ ⟨ak2, as2, ad2⟩ false).d = ed1 at *
  clear hed
  have HWg := Lib.hid (fun w' => rjoin_any ak1 as1 ad1 bk2 bs2 bd2 true w' HBD1.out.1 HBD1.out.2.1 HBD2.out.2.2.1 HBD2.out.2.2.2)
  generalize hgk : (Fo.rjoin ⟨ak1, as1, ad1⟩ ⟨bk2, bs2, bd2⟩ true).k = gk1 at *
  clear hgk
  generalize hgs : (Fo.rjoin ⟨ak1, as1, ad1⟩ ⟨bk2, bs2, bd2⟩ true).s = gs1 at *
  clear hgs
  generalize hgd : (Fo.rjoin ⟨ak1, as1, ad1⟩ ⟨bk2, bs2, bd2⟩ true).d = gd1 at *
  clear hgd
  have Q0 := Lib.hid q0
  have Q1 := Lib.hid q1
  have Q2 := Lib.hid q2
  have Q3 := Lib.hid q3
  have Q4 := Lib.hid q4
  have Q5 := Lib.hid q5
  have Q6 := Lib.hid q6
  have Q7 := Lib.hid q7
  have Q8 := Lib.hid q8
  clear hl1 hr1 hs1 hl2 hr2 hs2 hl hr hs hw
  have HB0 := Lib.hid (show Below w.heap.size w (((w.alloc (.cells #[.int .i64 5, .string n, .int .i64 vl, .string fl, .slice Al al.length cl, .int .i64 vr, .string fr, .slice Ar ar.length cr, .slice (some ⟨b, o, none⟩) 2 c] 27)).alloc (.cells #[.int .i64 0, .int .i64 0, .int .i64 0] 51)).alloc (.cells #[.int .i64 0, .int .i64 0, .int .i64 0] 51)) by (repeat' (first | (with_reducible assumption) | (with_reducible exact Below.refl _ _) | (with_reducible refine Below.setCell ?_ ?_ _) | (with_reducible refine Below.alloc ?_ ?_ _) | (with_reducible apply Below.drew) | omega | (simp; done) | (simp; omega))))
  have BK1 := Lib.hid (((Blk.new w 27 [.int .i64 5, .string n, .int .i64 vl, .string fl, .slice Al al.length cl, .int .i64 vr, .string fr, .slice Ar ar.length cr, .slice (some ⟨b, o, none⟩) 2 c]).alloc (.cells #[.int .i64 0, .int .i64 0, .int .i64 0] 51)).alloc (.cells #[.int .i64 0, .int .i64 0, .int .i64 0] 51))
  have BK2 := Lib.hid ((Blk.new' (w.alloc (.cells #[.int .i64 5, .string n, .int .i64 vl, .string fl, .slice Al al.length cl, .int .i64 vr, .string fr, .slice Ar ar.length cr, .slice (some ⟨b, o, none⟩) 2 c] 27)) (w.heap.size + 1) 51 [.int .i64 0, .int .i64 0, .int .i64 0] (by simp)).alloc (.cells #[.int .i64 0, .int .i64 0, .int .i64 0] 51))
  have BK3 := Lib.hid (Blk.new' ((w.alloc (.cells #[.int .i64 5, .string n, .int .i64 vl, .string fl, .slice Al al.length cl, .int .i64 vr, .string fr, .slice Ar ar.length cr, .slice (some ⟨b, o, none⟩) 2 c] 27)).alloc (.cells #[.int .i64 0, .int .i64 0, .int .i64 0] 51)) (w.heap.size + 1 + 1) 51 [.int .i64 0, .int .i64 0, .int .i64 0] (by simp))
  simp only [List.toArray] at BK1 BK2 BK3
  clear q0 q1 q2 q3 q4 q5 q6 q7 q8
  go_enter Tryz.func20, Tryz.ntmps20
  go_upto_region 9 with (fail)
  generalize hW : (((w.alloc (.cells #[.int .i64 5, .string n, .int .i64 vl, .string fl, .slice Al al.length cl, .int .i64 vr, .string fr, .slice Ar ar.length cr, .slice (some ⟨b, o, none⟩) 2 c] 27)).alloc (.cells #[.int .i64 0, .int .i64 0, .int .i64 0] 51)).alloc (.cells #[.int .i64 0, .int .i64 0, .int .i64 0] 51)) = W at *
  clear hW
  have z0 := BK1.out.cell 0
  have z1 := BK1.out.cell 1
  have z2 := BK1.out.cell 2
  have z3 := BK1.out.cell 3
  have z4 := BK1.out.cell 4
  have z5 := BK1.out.cell 5
  have z6 := BK1.out.cell 6
  have z7 := BK1.out.cell 7
  have z8 := BK1.out.cell 8
  simp only [List.getElem?_cons_zero, List.getElem?_cons_succ] at z0 z1 z2 z3 z4 z5 z6 z7 z8
  have pc0 := keepc HB0.out p0
  have pc1 := keepc HB0.out p1
  have pc2 := keepc HB0.out p2
  have pc3 := keepc HB0.out p3
  have pc4 := keepc HB0.out p4
  have pc5 := keepc HB0.out p5
  have pc6 := keepc HB0.out p6
  have pc7 := keepc HB0.out p7
  have pc8 := keepc HB0.out p8
  clear p0 p1 p2 p3 p4 p5 p6 p7 p8
  go_wp2_with fail
  refine (HI1.out _ HB0.out).mono ?_
  rintro e w2 ⟨rfl, hb2⟩
  have HB2 := Lib.hid (HB0.out.trans (hb2.mono HB0.out.size))
  have BQ1 := Lib.hid (Blk.go BK1.out hb2)
  have BQ2 := Lib.hid (Blk.go BK2.out hb2)
  have BQ3 := Lib.hid (Blk.go BK3.out hb2)
  clear z0 z1 z2 z3 z4 z5 z6 z7 z8 pc0 pc1 pc2 pc3 pc4 pc5 pc6 pc7 pc8 hb2 BK1 BK2 BK3
  go_upto_region 10 with (fail)
  have Ba := Lib.hid ((Blk.new w2 51 [.int .i64 ak1, .int .i64 as1, .int .i64 ad1]).alloc (.cells #[.int .i64 bk1, .int .i64 bs1, .int .i64 bd1] 51))
  have Bb := Lib.hid (Blk.new' (w2.alloc (.cells #[.int .i64 ak1, .int .i64 as1, .int .i64 ad1] 51)) (w2.heap.size + 1) 51 [.int .i64 bk1, .int .i64 bs1, .int .i64 bd1] (by simp))
  simp only [List.toArray] at Ba Bb
  have BS1 := Lib.hid ((BQ1.out.alloc (.cells #[.int .i64 ak1, .int .i64 as1, .int .i64 ad1] 51)).alloc (.cells #[.int .i64 bk1, .int .i64 bs1, .int .i64 bd1] 51))
  have lBQ1 := BQ1.out.lt
  have BS2 := Lib.hid ((BQ2.out.alloc (.cells #[.int .i64 ak1, .int .i64 as1, .int .i64 ad1] 51)).alloc (.cells #[.int .i64 bk1, .int .i64 bs1, .int .i64 bd1] 51))
  have lBQ2 := BQ2.out.lt
  have BS3 := Lib.hid ((BQ3.out.alloc (.cells #[.int .i64 ak1, .int .i64 as1, .int .i64 ad1] 51)).alloc (.cells #[.int .i64 bk1, .int .i64 bs1, .int .i64 bd1] 51))
  have lBQ3 := BQ3.out.lt
  have HB3 := Lib.hid (show Below w.heap.size w ((w2.alloc (.cells #[.int .i64 ak1, .int .i64 as1, .int .i64 ad1] 51)).alloc (.cells #[.int .i64 bk1, .int .i64 bs1, .int .i64 bd1] 51)) by have := HB2.out; have := this.size; (repeat' (first | (with_reducible assumption) | (with_reducible exact Below.refl _ _) | (with_reducible refine Below.setCell ?_ ?_ _) | (with_reducible refine Below.alloc ?_ ?_ _) | (with_reducible apply Below.drew) | omega | (simp; done) | (simp; omega))))
  generalize hgb : w2.heap.size + 1 = gb at *
  generalize hga : w2.heap.size = ga at *
  generalize hWW : (w2.alloc (.cells #[.int .i64 ak1, .int .i64 as1, .int .i64 ad1] 51)).alloc (.cells #[.int .i64 bk1, .int .i64 bs1, .int .i64 bd1] 51) = W5 at *
  clear hWW
  have hna1 : w.heap.size + 1 ≠ ga := by omega
  have hnb1 : w.heap.size + 1 ≠ gb := by omega
  have hnc1 : w.heap.size + 1 + 1 ≠ ga := by omega
  have hnd1 : w.heap.size + 1 + 1 ≠ gb := by omega
  clear lBQ1 lBQ2 lBQ3 hga hgb BQ1 BQ2 BQ3
  have z0 := BS1.out.cell 0
  have z1 := BS1.out.cell 1
  have z2 := BS1.out.cell 2
  have z3 := BS1.out.cell 3
  have z4 := BS1.out.cell 4
  have z5 := BS1.out.cell 5
  have z6 := BS1.out.cell 6
  have z7 := BS1.out.cell 7
  have z8 := BS1.out.cell 8
  simp only [List.getElem?_cons_zero, List.getElem?_cons_succ] at z0 z1 z2 z3 z4 z5 z6 z7 z8
  have pc0 := keepc HB3.out Q0.out
  have pc1 := keepc HB3.out Q1.out
  have pc2 := keepc HB3.out Q2.out
  have pc3 := keepc HB3.out Q3.out
  have pc4 := keepc HB3.out Q4.out
  have pc5 := keepc HB3.out Q5.out
  have pc6 := keepc HB3.out Q6.out
  have pc7 := keepc HB3.out Q7.out
  have pc8 := keepc HB3.out Q8.out
  go_wp2_with fail
  refine (HI2.out _ HB3.out).mono ?_
  rintro e w6 ⟨rfl, hb6⟩
  have HB6 := Lib.hid (bel_go HB3.out hb6)
  have BT1 := Lib.hid (Blk.go BS1.out hb6)
  have BT2 := Lib.hid (Blk.go BS2.out hb6)
  have BT3 := Lib.hid (Blk.go BS3.out hb6)
  have BTa := Lib.hid (Blk.go Ba.out hb6)
  have BTb := Lib.hid (Blk.go Bb.out hb6)
  clear z0 z1 z2 z3 z4 z5 z6 z7 z8 pc0 pc1 pc2 pc3 pc4 pc5 pc6 pc7 pc8 hb6 BS1 BS2 BS3 Ba Bb
  go_upto_region 15 with (fail)
  have Bc := Lib.hid ((Blk.new w6 51 [.int .i64 ak2, .int .i64 as2, .int .i64 ad2]).alloc (.cells #[.int .i64 bk2, .int .i64 bs2, .int .i64 bd2] 51))
  have Bd := Lib.hid (Blk.new' (w6.alloc (.cells #[.int .i64 ak2, .int .i64 as2, .int .i64 ad2] 51)) (w6.heap.size + 1) 51 [.int .i64 bk2, .int .i64 bs2, .int .i64 bd2] (by simp))
  simp only [List.toArray] at Bc Bd
  have BS1 := Lib.hid ((BT1.out.alloc (.cells #[.int .i64 ak2, .int .i64 as2, .int .i64 ad2] 51)).alloc (.cells #[.int .i64 bk2, .int .i64 bs2, .int .i64 bd2] 51))
  have lBT1 := BT1.out.lt
  have BS2 := Lib.hid ((BT2.out.alloc (.cells #[.int .i64 ak2, .int .i64 as2, .int .i64 ad2] 51)).alloc (.cells #[.int .i64 bk2, .int .i64 bs2, .int .i64 bd2] 51))
  have lBT2 := BT2.out.lt
  have BS3 := Lib.hid ((BT3.out.alloc (.cells #[.int .i64 ak2, .int .i64 as2, .int .i64 ad2] 51)).alloc (.cells #[.int .i64 bk2, .int .i64 bs2, .int .i64 bd2] 51))
  have lBT3 := BT3.out.lt
  have Ba := Lib.hid ((BTa.out.alloc (.cells #[.int .i64 ak2, .int .i64 as2, .int .i64 ad2] 51)).alloc (.cells #[.int .i64 bk2, .int .i64 bs2, .int .i64 bd2] 51))
  have lBTa := BTa.out.lt
  have Bb := Lib.hid ((BTb.out.alloc (.cells #[.int .i64 ak2, .int .i64 as2, .int .i64 ad2] 51)).alloc (.cells #[.int .i64 bk2, .int .i64 bs2, .int .i64 bd2] 51))
  have lBTb := BTb.out.lt
  have HB7 := Lib.hid (show Below w.heap.size w ((w6.alloc (.cells #[.int .i64 ak2, .int .i64 as2, .int .i64 ad2] 51)).alloc (.cells #[.int .i64 bk2, .int .i64 bs2, .int .i64 bd2] 51)) by have := HB6.out; have := this.size; (repeat' (first | (with_reducible assumption) | (with_reducible exact Below.refl _ _) | (with_reducible refine Below.setCell ?_ ?_ _) | (with_reducible refine Below.alloc ?_ ?_ _) | (with_reducible apply Below.drew) | omega | (simp; done) | (simp; omega))))
  generalize hgb : w6.heap.size + 1 = gd at *
  generalize hga : w6.heap.size = gc at *
  generalize hWW : (w6.alloc (.cells #[.int .i64 ak2, .int .i64 as2, .int .i64 ad2] 51)).alloc (.cells #[.int .i64 bk2, .int .i64 bs2, .int .i64 bd2] 51) = W7 at *
  clear hWW
  have hne1 : w.heap.size + 1 ≠ gc := by omega
  have hnf1 : w.heap.size + 1 ≠ gd := by omega
  have hng1 : w.heap.size + 1 + 1 ≠ gc := by omega
  have hnh1 : w.heap.size + 1 + 1 ≠ gd := by omega
  have hna2 := hna1.symm
  have hnb2 := hnb1.symm
  have hnc2 := hnc1.symm
  have hnd2 := hnd1.symm
  have hne2 := hne1.symm
  have hnf2 := hnf1.symm
  have hng2 := hng1.symm
  have hnh2 := hnh1.symm
  clear lBT1 lBT2 lBT3 lBTa lBTb hga hgb BT1 BT2 BT3 BTa BTb
  have z0 := BS1.out.cell 0
  simp only [List.getElem?_cons_zero] at z0
  have m0 := Ba.out.cell 0
  have m1 := Ba.out.cell 1
  have m2 := Ba.out.cell 2
  simp only [List.getElem?_cons_zero, List.getElem?_cons_succ] at m0 m1 m2
  have M0 := Lib.hid m0
  have M1 := Lib.hid m1
  have M2 := Lib.hid m2
  have n0 := Bb.out.cell 0
  have n1 := Bb.out.cell 1
  have n2 := Bb.out.cell 2
  simp only [List.getElem?_cons_zero, List.getElem?_cons_succ] at n0 n1 n2
  have N0 := Lib.hid n0
  have N1 := Lib.hid n1
  have N2 := Lib.hid n2
  have x0 := Bc.out.cell 0
  have x1 := Bc.out.cell 1
  have x2 := Bc.out.cell 2
  simp only [List.getElem?_cons_zero, List.getElem?_cons_succ] at x0 x1 x2
  have X0 := Lib.hid x0
  have X1 := Lib.hid x1
  have X2 := Lib.hid x2
  have y0 := Bd.out.cell 0
  have y1 := Bd.out.cell 1
  have y2 := Bd.out.cell 2
  simp only [List.getElem?_cons_zero, List.getElem?_cons_succ] at y0 y1 y2
  have Y0 := Lib.hid y0
  have Y1 := Lib.hid y1
  have Y2 := Lib.hid y2
  go_upto_region 21 with (fail)
  clear z0
  have HQ0 := Lib.hid (bel_drew1 W7)
  (first | (go_region_held3 (fun w' => w'.cell? ⟨ga, 0, none⟩ = some (.int .i64 ak1) ∧ w'.cell? ⟨ga, 1, none⟩ = some (.int .i64 as1) ∧ w'.cell? ⟨ga, 2, none⟩ = some (.int .i64 ad1) ∧ w'.cell? ⟨gb, 0, none⟩ = some (.int .i64 bk1) ∧ w'.cell? ⟨gb, 1, none⟩ = some (.int .i64 bs1) ∧ w'.cell? ⟨gb, 2, none⟩ = some (.int .i64 bd1) ∧ w'.cell? ⟨gc, 0, none⟩ = some (.int .i64 ak2) ∧ w'.cell? ⟨gc, 1, none⟩ = some (.int .i64 as2) ∧ w'.cell? ⟨gc, 2, none⟩ = some (.int .i64 ad2) ∧ w'.cell? ⟨gd, 0, none⟩ = some (.int .i64 bk2) ∧ w'.cell? ⟨gd, 1, none⟩ = some (.int .i64 bs2) ∧ w'.cell? ⟨gd, 2, none⟩ = some (.int .i64 bd2)) (go_keep) (first | (go_at_call_of 45 (Value.agg #[.int .i64 bk1, .int .i64 bs1, .int .i64 bd1]); refine (HWe.out _).mono ?_; rintro e w9 ⟨rfl, hb9⟩; have HQ1 := Lib.hid (bel_go (by first | exact HQ1.out | exact HQ0.out) hb9); clear hb9; have m0 := keepc HQ1.out M0.out; have m1 := keepc HQ1.out M1.out; have m2 := keepc HQ1.out M2.out; have n0 := keepc HQ1.out N0.out; have n1 := keepc HQ1.out N1.out; have n2 := keepc HQ1.out N2.out; have x0 := keepc HQ1.out X0.out; have x1 := keepc HQ1.out X1.out; have x2 := keepc HQ1.out X2.out; have y0 := keepc HQ1.out Y0.out; have y1 := keepc HQ1.out Y1.out; have y2 := keepc HQ1.out Y2.out; have BR := Lib.hid (BS2.out.below HQ1.out BS2.out.lt); have BT := Lib.hid (BS3.out.below HQ1.out BS3.out.lt); have yr0 := BR.out.cell 0; have yf0 := BR.out.free 0; have ys0 := BT.out.cell 0; have yg0 := BT.out.free 0; have yr1 := BR.out.cell 1; have yf1 := BR.out.free 1; have ys1 := BT.out.cell 1; have yg1 := BT.out.free 1; have yr2 := BR.out.cell 2; have yf2 := BR.out.free 2; have ys2 := BT.out.cell 2; have yg2 := BT.out.free 2; simp only [List.getElem?_cons_zero, List.getElem?_cons_succ] at yr0 yr1 yr2 ys0 ys1 ys2; have hB := bel_go HB7.out HQ1.out) | (go_at_call_of 45 (Value.agg #[.int .i64 ak1, .int .i64 as1, .int .i64 ad1]); refine (HWg.out _).mono ?_; rintro e w9 ⟨rfl, hb9⟩; have HQ1 := Lib.hid (bel_go (by first | exact HQ1.out | exact HQ0.out) hb9); clear hb9; have m0 := keepc HQ1.out M0.out; have m1 := keepc HQ1.out M1.out; have m2 := keepc HQ1.out M2.out; have n0 := keepc HQ1.out N0.out; have n1 := keepc HQ1.out N1.out; have n2 := keepc HQ1.out N2.out; have x0 := keepc HQ1.out X0.out; have x1 := keepc HQ1.out X1.out; have x2 := keepc HQ1.out X2.out; have y0 := keepc HQ1.out Y0.out; have y1 := keepc HQ1.out Y1.out; have y2 := keepc HQ1.out Y2.out; have BR := Lib.hid (BS2.out.below HQ1.out BS2.out.lt); have BT := Lib.hid (BS3.out.below HQ1.out BS3.out.lt); have yr0 := BR.out.cell 0; have yf0 := BR.out.free 0; have ys0 := BT.out.cell 0; have yg0 := BT.out.free 0; have yr1 := BR.out.cell 1; have yf1 := BR.out.free 1; have ys1 := BT.out.cell 1; have yg1 := BT.out.free 1; have yr2 := BR.out.cell 2; have yf2 := BR.out.free 2; have ys2 := BT.out.cell 2; have yg2 := BT.out.free 2; simp only [List.getElem?_cons_zero, List.getElem?_cons_succ] at yr0 yr1 yr2 ys0 ys1 ys2; have hB := bel_go HB7.out HQ1.out))) | fail "held")
  all_goals
    go_wp2_with fail
    refine bodyPost_ret (v := .tuple #[.agg #[.int .i64 ek1, .int .i64 es1, .int .i64 ed1], .agg #[.int .i64 gk1, .int .i64 gs1, .int .i64 gd1]]) ?_ rfl ⟨rfl, by (repeat' (first | (with_reducible assumption) | (with_reducible exact Below.refl _ _) | (with_reducible refine Below.setCell ?_ ?_ _) | (with_reducible refine Below.alloc ?_ ?_ _) | (with_reducible apply Below.drew) | omega | (simp; done) | (simp; omega)))⟩
    simp [results, Tryz.results20, go_sem, yr0, yr1, yr2, ys0, ys1, ys2]
set_option maxRecDepth 100000 in
set_option maxHeartbeats 51200000 in
theorem rsz6 (N : Nat) (ih : RszAt 20 N) (k : Int) (n : ByteArray) (vl : Int) (fl : ByteArray) (al : List Tm) (vr : Int) (fr : ByteArray) (ar : List Tm) (ts : List Fm) (Al : Option Addr) (cl : Nat) (Ar : Option Addr) (cr : Nat) (A : Option Addr) (c : Nat) (a1 : Fm) (a2 : Fm) (S : Nat → Prop) (w : World) (h : k = 6) (hts : ts = [a1, a2]) (hN : (Fm.mk k n (.mk vl fl al) (.mk vr fr ar) ts).wt ≤ N + 1) (hNN : N ≤ 1125899906842623) (hsh1 : a1.shape = true) (hsh2 : a2.shape = true) (hl : ST S w Al al.length cl al) (hr : ST S w Ar ar.length cr ar) (hs : SF S w A ts.length c ts) : Calls Tryz.prog 20 #[.agg #[.int .i64 k, .string n, .int .i64 vl, .string fl, .slice Al al.length cl, .int .i64 vr, .string fr, .slice Ar ar.length cr, .slice A ts.length c]] w fun e w' => e = .returned (.tuple #[.agg #[.int .i64 ((Fm.mk k n (.mk vl fl al) (.mk vr fr ar) ts).rsz).1.k, .int .i64 ((Fm.mk k n (.mk vl fl al) (.mk vr fr ar) ts).rsz).1.s, .int .i64 ((Fm.mk k n (.mk vl fl al) (.mk vr fr ar) ts).rsz).1.d], .agg #[.int .i64 ((Fm.mk k n (.mk vl fl al) (.mk vr fr ar) ts).rsz).2.k, .int .i64 ((Fm.mk k n (.mk vl fl al) (.mk vr fr ar) ts).rsz).2.s, .int .i64 ((Fm.mk k n (.mk vl fl al) (.mk vr fr ar) ts).rsz).2.d]]) ∧ Below w.heap.size w w' := by
  subst h hts
  obtain ⟨b, o, hA1, k1, n1, vl1, fl1, al1, vr1, fr1, ar1, ts1, Al1, cl1, Ar1, cr1, A1, c1, hm1, hl1, hr1, hs1, p0, p1, p2, p3, p4, p5, p6, p7, p8⟩ := hs.at 0 (by simp)
  change a1 = _ at hm1
  subst hm1
  subst hA1
  simp only [Nat.zero_mul, Nat.one_mul, Nat.add_zero] at p0 p1 p2 p3 p4 p5 p6 p7 p8
  obtain ⟨b', o', hA2, k2, n2, vl2, fl2, al2, vr2, fr2, ar2, ts2, Al2, cl2, Ar2, cr2, A2, c2, hm2, hl2, hr2, hs2, q0, q1, q2, q3, q4, q5, q6, q7, q8⟩ := hs.at 1 (by simp)
  change a2 = _ at hm2
  subst hm2
  injection hA2 with hA2
  injection hA2 with hb2 ho2
  subst hb2 ho2
  simp only [Nat.zero_mul, Nat.one_mul, Nat.add_zero] at q0 q1 q2 q3 q4 q5 q6 q7 q8
  have hw : (Fm.mk k1 n1 (.mk vl1 fl1 al1) (.mk vr1 fr1 ar1) ts1).wt + (Fm.mk k2 n2 (.mk vl2 fl2 al2) (.mk vr2 fr2 ar2) ts2).wt + 3 ≤ N + 1 := by have hh := hN; rw [Fm.wt, Fm.wts, Fm.wts, Fm.wts] at hh; have := (Tm.mk vl fl al).wt_pos; have := (Tm.mk vr fr ar).wt_pos; omega
  have HI1 := Lib.hid (fun w' (hb : Below w.heap.size w w') => ih k1 n1 vl1 fl1 al1 vr1 fr1 ar1 ts1 Al1 cl1 Ar1 cr1 A1 c1 S w' (by omega) (by omega) hsh1 (hl1.stay (Stay.below hb)) (hr1.stay (Stay.below hb)) (hs1.stay (Stay.below hb)))
  have hbd1 := Fm.rsz_b (Fm.mk k1 n1 (.mk vl1 fl1 al1) (.mk vr1 fr1 ar1) ts1) (by omega)
  have hbm1 : (2 * ((Fm.mk k1 n1 (.mk vl1 fl1 al1) (.mk vr1 fr1 ar1) ts1).wt : Int)) ≤ 2251799813685248 := by omega
  have HI2 := Lib.hid (fun w' (hb : Below w.heap.size w w') => ih k2 n2 vl2 fl2 al2 vr2 fr2 ar2 ts2 Al2 cl2 Ar2 cr2 A2 c2 S w' (by omega) (by omega) hsh2 (hl2.stay (Stay.below hb)) (hr2.stay (Stay.below hb)) (hs2.stay (Stay.below hb)))
  have hbd2 := Fm.rsz_b (Fm.mk k2 n2 (.mk vl2 fl2 al2) (.mk vr2 fr2 ar2) ts2) (by omega)
  have hbm2 : (2 * ((Fm.mk k2 n2 (.mk vl2 fl2 al2) (.mk vr2 fr2 ar2) ts2).wt : Int)) ≤ 2251799813685248 := by omega
  have hv : Fm.rsz (Fm.mk 6 n (.mk vl fl al) (.mk vr fr ar) [(Fm.mk k1 n1 (.mk vl1 fl1 al1) (.mk vr1 fr1 ar1) ts1), (Fm.mk k2 n2 (.mk vl2 fl2 al2) (.mk vr2 fr2 ar2) ts2)]) = (Fo.rjoin (Fo.rjoin (Fm.mk k1 n1 (.mk vl1 fl1 al1) (.mk vr1 fr1 ar1) ts1).rsz.2 (Fm.mk k2 n2 (.mk vl2 fl2 al2) (.mk vr2 fr2 ar2) ts2).rsz.1 false) (Fo.rjoin (Fm.mk k1 n1 (.mk vl1 fl1 al1) (.mk vr1 fr1 ar1) ts1).rsz.1 (Fm.mk k2 n2 (.mk vl2 fl2 al2) (.mk vr2 fr2 ar2) ts2).rsz.2 false) true, Fo.rjoin (Fo.rjoin (Fm.mk k1 n1 (.mk vl1 fl1 al1) (.mk vr1 fr1 ar1) ts1).rsz.1 (Fm.mk k2 n2 (.mk vl2 fl2 al2) (.mk vr2 fr2 ar2) ts2).rsz.1 false) (Fo.rjoin (Fm.mk k1 n1 (.mk vl1 fl1 al1) (.mk vr1 fr1 ar1) ts1).rsz.2 (Fm.mk k2 n2 (.mk vl2 fl2 al2) (.mk vr2 fr2 ar2) ts2).rsz.2 false) true) := by rw [Fm.rsz, Fm.rszL, Fm.rszL, Fm.rszL]; rfl
  rw [hv]
  clear hv hN ih
  generalize hm1 : (Fm.mk k1 n1 (.mk vl1 fl1 al1) (.mk vr1 fr1 ar1) ts1).rsz = m1 at *
  clear hm1
  obtain ⟨⟨ak1, as1, ad1⟩, ⟨bk1, bs1, bd1⟩⟩ := m1
  have HIB1 : Hid (InB 2251799813685248 ⟨ak1, as1, ad1⟩ ∧ InB 2251799813685248 ⟨bk1, bs1, bd1⟩) := Lib.hid ⟨hbd1.1.mono hbm1, hbd1.2.mono hbm1⟩
  obtain ⟨⟨u11, u21, u31, u41⟩, ⟨v11, v21, v31, v41⟩⟩ := hbd1
  simp only at u11 u21 u31 u41 v11 v21 v31 v41
  have hbd1 : (0 ≤ as1 ∧ as1 ≤ 1152921504606846976) ∧ (0 ≤ ad1 ∧ ad1 ≤ 1152921504606846976) ∧ (0 ≤ bs1 ∧ bs1 ≤ 1152921504606846976) ∧ (0 ≤ bd1 ∧ bd1 ≤ 1152921504606846976) := by omega
  have HBD1 := Lib.hid hbd1
  clear u11 u21 u31 u41 v11 v21 v31 v41 hbd1 hbm1
  generalize hm2 : (Fm.mk k2 n2 (.mk vl2 fl2 al2) (.mk vr2 fr2 ar2) ts2).rsz = m2 at *
  clear hm2
  obtain ⟨⟨ak2, as2, ad2⟩, ⟨bk2, bs2, bd2⟩⟩ := m2
  have HIB2 : Hid (InB 2251799813685248 ⟨ak2, as2, ad2⟩ ∧ InB 2251799813685248 ⟨bk2, bs2, bd2⟩) := Lib.hid ⟨hbd2.1.mono hbm2, hbd2.2.mono hbm2⟩
  obtain ⟨⟨u12, u22, u32, u42⟩, ⟨v12, v22, v32, v42⟩⟩ := hbd2
  simp only at u12 u22 u32 u42 v12 v22 v32 v42
  have hbd2 : (0 ≤ as2 ∧ as2 ≤ 1152921504606846976) ∧ (0 ≤ ad2 ∧ ad2 ≤ 1152921504606846976) ∧ (0 ≤ bs2 ∧ bs2 ≤ 1152921504606846976) ∧ (0 ≤ bd2 ∧ bd2 ≤ 1152921504606846976) := by omega
  have HBD2 := Lib.hid hbd2
  clear u12 u22 u32 u42 v12 v22 v32 v42 hbd2 hbm2
  have HWP := Lib.hid (fun w' => rjoin_any bk1 bs1 bd1 ak2 as2 ad2 false w' HBD1.out.2.2.1 HBD1.out.2.2.2 HBD2.out.1 HBD2.out.2.1)
  have hBP := rjoin_b (x := false) (by decide) HIB1.out.2 HIB2.out.1
  generalize hP : (Fo.rjoin ⟨bk1, bs1, bd1⟩ ⟨ak2, as2, ad2⟩ false) = fP at *
  clear hP
  obtain ⟨xpk, xps, xpd⟩ := fP
  obtain ⟨hP1, hP2, hP3, hP4⟩ := hBP
  simp only at hP1 hP2 hP3 hP4 HWP
  have HWQ := Lib.hid (fun w' => rjoin_any ak1 as1 ad1 bk2 bs2 bd2 false w' HBD1.out.1 HBD1.out.2.1 HBD2.out.2.2.1 HBD2.out.2.2.2)
  have hBQ := rjoin_b (x := false) (by decide) HIB1.out.1 HIB2.out.2
  generalize hQ : (Fo.rjoin ⟨ak1, as1, ad1⟩ ⟨bk2, bs2, bd2⟩ false) = fQ at *
  clear hQ
  obtain ⟨xqk, xqs, xqd⟩ := fQ
  obtain ⟨hQ1, hQ2, hQ3, hQ4⟩ := hBQ
  simp only at hQ1 hQ2 hQ3 hQ4 HWQ
  have HWR := Lib.hid (fun w' => rjoin_any ak1 as1 ad1 ak2 as2 ad2 false w' HBD1.out.1 HBD1.out.2.1 HBD2.out.1 HBD2.out.2.1)
  have hBR := rjoin_b (x := false) (by decide) HIB1.out.1 HIB2.out.1
  generalize hR : (Fo.rjoin ⟨ak1, as1, ad1⟩ ⟨ak2, as2, ad2⟩ false) = fR at *
  clear hR
  obtain ⟨xrk, xrs, xrd⟩ := fR
  obtain ⟨hR1, hR2, hR3, hR4⟩ := hBR
  simp only at hR1 hR2 hR3 hR4 HWR
  have HWT := Lib.hid (fun w' => rjoin_any bk1 bs1 bd1 bk2 bs2 bd2 false w' HBD1.out.2.2.1 HBD1.out.2.2.2 HBD2.out.2.2.1 HBD2.out.2.2.2)
  have hBT := rjoin_b (x := false) (by decide) HIB1.out.2 HIB2.out.2
  generalize hT : (Fo.rjoin ⟨bk1, bs1, bd1⟩ ⟨bk2, bs2, bd2⟩ false) = fT at *
  clear hT
  obtain ⟨xtk, xts, xtd⟩ := fT
  obtain ⟨hT1, hT2, hT3, hT4⟩ := hBT
  simp only at hT1 hT2 hT3 hT4 HWT
  have HWe := Lib.hid (fun w' => rjoin_any xpk xps xpd xqk xqs xqd true w' (by omega) (by omega) (by omega) (by omega))
  generalize hek : (Fo.rjoin ⟨xpk, xps, xpd⟩ ⟨xqk, xqs, xqd⟩ true).k = ek1 at *
  clear hek
  generalize hes : (Fo.rjoin ⟨xpk, xps, xpd⟩ ⟨xqk, xqs, xqd⟩ true).s = es1 at *
  clear hes
  generalize hed : (Fo.rjoin ⟨xpk, xps, xpd⟩ ⟨xqk, xqs, xqd⟩ true).d = ed1 at *
  clear hed
  have HWg := Lib.hid (fun w' => rjoin_any xrk xrs xrd xtk xts xtd true w' (by omega) (by omega) (by omega) (by omega))
  generalize hgk : (Fo.rjoin ⟨xrk, xrs, xrd⟩ ⟨xtk, xts, xtd⟩ true).k = gk1 at *
  clear hgk
  generalize hgs : (Fo.rjoin ⟨xrk, xrs, xrd⟩ ⟨xtk, xts, xtd⟩ true).s = gs1 at *
  clear hgs
  generalize hgd : (Fo.rjoin ⟨xrk, xrs, xrd⟩ ⟨xtk, xts, xtd⟩ true).d = gd1 at *
  clear hgd
  clear hP1 hP2 hP3 hP4 hQ1 hQ2 hQ3 hQ4 hR1 hR2 hR3 hR4 hT1 hT2 hT3 hT4
  have Q0 := Lib.hid q0
  have Q1 := Lib.hid q1
  have Q2 := Lib.hid q2
  have Q3 := Lib.hid q3
  have Q4 := Lib.hid q4
  have Q5 := Lib.hid q5
  have Q6 := Lib.hid q6
  have Q7 := Lib.hid q7
  have Q8 := Lib.hid q8
  clear hl1 hr1 hs1 hl2 hr2 hs2 hl hr hs hw
  have HB0 := Lib.hid (show Below w.heap.size w (((w.alloc (.cells #[.int .i64 6, .string n, .int .i64 vl, .string fl, .slice Al al.length cl, .int .i64 vr, .string fr, .slice Ar ar.length cr, .slice (some ⟨b, o, none⟩) 2 c] 27)).alloc (.cells #[.int .i64 0, .int .i64 0, .int .i64 0] 51)).alloc (.cells #[.int .i64 0, .int .i64 0, .int .i64 0] 51)) by (repeat' (first | (with_reducible assumption) | (with_reducible exact Below.refl _ _) | (with_reducible refine Below.setCell ?_ ?_ _) | (with_reducible refine Below.alloc ?_ ?_ _) | (with_reducible apply Below.drew) | omega | (simp; done) | (simp; omega))))
  have BK1 := Lib.hid (((Blk.new w 27 [.int .i64 6, .string n, .int .i64 vl, .string fl, .slice Al al.length cl, .int .i64 vr, .string fr, .slice Ar ar.length cr, .slice (some ⟨b, o, none⟩) 2 c]).alloc (.cells #[.int .i64 0, .int .i64 0, .int .i64 0] 51)).alloc (.cells #[.int .i64 0, .int .i64 0, .int .i64 0] 51))
  have BK2 := Lib.hid ((Blk.new' (w.alloc (.cells #[.int .i64 6, .string n, .int .i64 vl, .string fl, .slice Al al.length cl, .int .i64 vr, .string fr, .slice Ar ar.length cr, .slice (some ⟨b, o, none⟩) 2 c] 27)) (w.heap.size + 1) 51 [.int .i64 0, .int .i64 0, .int .i64 0] (by simp)).alloc (.cells #[.int .i64 0, .int .i64 0, .int .i64 0] 51))
  have BK3 := Lib.hid (Blk.new' ((w.alloc (.cells #[.int .i64 6, .string n, .int .i64 vl, .string fl, .slice Al al.length cl, .int .i64 vr, .string fr, .slice Ar ar.length cr, .slice (some ⟨b, o, none⟩) 2 c] 27)).alloc (.cells #[.int .i64 0, .int .i64 0, .int .i64 0] 51)) (w.heap.size + 1 + 1) 51 [.int .i64 0, .int .i64 0, .int .i64 0] (by simp))
  simp only [List.toArray] at BK1 BK2 BK3
  clear q0 q1 q2 q3 q4 q5 q6 q7 q8
  go_enter Tryz.func20, Tryz.ntmps20
  go_upto_region 9 with (fail)
  generalize hW : (((w.alloc (.cells #[.int .i64 6, .string n, .int .i64 vl, .string fl, .slice Al al.length cl, .int .i64 vr, .string fr, .slice Ar ar.length cr, .slice (some ⟨b, o, none⟩) 2 c] 27)).alloc (.cells #[.int .i64 0, .int .i64 0, .int .i64 0] 51)).alloc (.cells #[.int .i64 0, .int .i64 0, .int .i64 0] 51)) = W at *
  clear hW
  have z0 := BK1.out.cell 0
  have z1 := BK1.out.cell 1
  have z2 := BK1.out.cell 2
  have z3 := BK1.out.cell 3
  have z4 := BK1.out.cell 4
  have z5 := BK1.out.cell 5
  have z6 := BK1.out.cell 6
  have z7 := BK1.out.cell 7
  have z8 := BK1.out.cell 8
  simp only [List.getElem?_cons_zero, List.getElem?_cons_succ] at z0 z1 z2 z3 z4 z5 z6 z7 z8
  have pc0 := keepc HB0.out p0
  have pc1 := keepc HB0.out p1
  have pc2 := keepc HB0.out p2
  have pc3 := keepc HB0.out p3
  have pc4 := keepc HB0.out p4
  have pc5 := keepc HB0.out p5
  have pc6 := keepc HB0.out p6
  have pc7 := keepc HB0.out p7
  have pc8 := keepc HB0.out p8
  clear p0 p1 p2 p3 p4 p5 p6 p7 p8
  go_wp2_with fail
  refine (HI1.out _ HB0.out).mono ?_
  rintro e w2 ⟨rfl, hb2⟩
  have HB2 := Lib.hid (HB0.out.trans (hb2.mono HB0.out.size))
  have BQ1 := Lib.hid (Blk.go BK1.out hb2)
  have BQ2 := Lib.hid (Blk.go BK2.out hb2)
  have BQ3 := Lib.hid (Blk.go BK3.out hb2)
  clear z0 z1 z2 z3 z4 z5 z6 z7 z8 pc0 pc1 pc2 pc3 pc4 pc5 pc6 pc7 pc8 hb2 BK1 BK2 BK3
  go_upto_region 10 with (fail)
  have Ba := Lib.hid ((Blk.new w2 51 [.int .i64 ak1, .int .i64 as1, .int .i64 ad1]).alloc (.cells #[.int .i64 bk1, .int .i64 bs1, .int .i64 bd1] 51))
  have Bb := Lib.hid (Blk.new' (w2.alloc (.cells #[.int .i64 ak1, .int .i64 as1, .int .i64 ad1] 51)) (w2.heap.size + 1) 51 [.int .i64 bk1, .int .i64 bs1, .int .i64 bd1] (by simp))
  simp only [List.toArray] at Ba Bb
  have BS1 := Lib.hid ((BQ1.out.alloc (.cells #[.int .i64 ak1, .int .i64 as1, .int .i64 ad1] 51)).alloc (.cells #[.int .i64 bk1, .int .i64 bs1, .int .i64 bd1] 51))
  have lBQ1 := BQ1.out.lt
  have BS2 := Lib.hid ((BQ2.out.alloc (.cells #[.int .i64 ak1, .int .i64 as1, .int .i64 ad1] 51)).alloc (.cells #[.int .i64 bk1, .int .i64 bs1, .int .i64 bd1] 51))
  have lBQ2 := BQ2.out.lt
  have BS3 := Lib.hid ((BQ3.out.alloc (.cells #[.int .i64 ak1, .int .i64 as1, .int .i64 ad1] 51)).alloc (.cells #[.int .i64 bk1, .int .i64 bs1, .int .i64 bd1] 51))
  have lBQ3 := BQ3.out.lt
  have HB3 := Lib.hid (show Below w.heap.size w ((w2.alloc (.cells #[.int .i64 ak1, .int .i64 as1, .int .i64 ad1] 51)).alloc (.cells #[.int .i64 bk1, .int .i64 bs1, .int .i64 bd1] 51)) by have := HB2.out; have := this.size; (repeat' (first | (with_reducible assumption) | (with_reducible exact Below.refl _ _) | (with_reducible refine Below.setCell ?_ ?_ _) | (with_reducible refine Below.alloc ?_ ?_ _) | (with_reducible apply Below.drew) | omega | (simp; done) | (simp; omega))))
  generalize hgb : w2.heap.size + 1 = gb at *
  generalize hga : w2.heap.size = ga at *
  generalize hWW : (w2.alloc (.cells #[.int .i64 ak1, .int .i64 as1, .int .i64 ad1] 51)).alloc (.cells #[.int .i64 bk1, .int .i64 bs1, .int .i64 bd1] 51) = W5 at *
  clear hWW
  have hna1 : w.heap.size + 1 ≠ ga := by omega
  have hnb1 : w.heap.size + 1 ≠ gb := by omega
  have hnc1 : w.heap.size + 1 + 1 ≠ ga := by omega
  have hnd1 : w.heap.size + 1 + 1 ≠ gb := by omega
  clear lBQ1 lBQ2 lBQ3 hga hgb BQ1 BQ2 BQ3
  have z0 := BS1.out.cell 0
  have z1 := BS1.out.cell 1
  have z2 := BS1.out.cell 2
  have z3 := BS1.out.cell 3
  have z4 := BS1.out.cell 4
  have z5 := BS1.out.cell 5
  have z6 := BS1.out.cell 6
  have z7 := BS1.out.cell 7
  have z8 := BS1.out.cell 8
  simp only [List.getElem?_cons_zero, List.getElem?_cons_succ] at z0 z1 z2 z3 z4 z5 z6 z7 z8
  have pc0 := keepc HB3.out Q0.out
  have pc1 := keepc HB3.out Q1.out
  have pc2 := keepc HB3.out Q2.out
  have pc3 := keepc HB3.out Q3.out
  have pc4 := keepc HB3.out Q4.out
  have pc5 := keepc HB3.out Q5.out
  have pc6 := keepc HB3.out Q6.out
  have pc7 := keepc HB3.out Q7.out
  have pc8 := keepc HB3.out Q8.out
  go_wp2_with fail
  refine (HI2.out _ HB3.out).mono ?_
  rintro e w6 ⟨rfl, hb6⟩
  have HB6 := Lib.hid (bel_go HB3.out hb6)
  have BT1 := Lib.hid (Blk.go BS1.out hb6)
  have BT2 := Lib.hid (Blk.go BS2.out hb6)
  have BT3 := Lib.hid (Blk.go BS3.out hb6)
  have BTa := Lib.hid (Blk.go Ba.out hb6)
  have BTb := Lib.hid (Blk.go Bb.out hb6)
  clear z0 z1 z2 z3 z4 z5 z6 z7 z8 pc0 pc1 pc2 pc3 pc4 pc5 pc6 pc7 pc8 hb6 BS1 BS2 BS3 Ba Bb
  go_upto_region 15 with (fail)
  have Bc := Lib.hid ((Blk.new w6 51 [.int .i64 ak2, .int .i64 as2, .int .i64 ad2]).alloc (.cells #[.int .i64 bk2, .int .i64 bs2, .int .i64 bd2] 51))
  have Bd := Lib.hid (Blk.new' (w6.alloc (.cells #[.int .i64 ak2, .int .i64 as2, .int .i64 ad2] 51)) (w6.heap.size + 1) 51 [.int .i64 bk2, .int .i64 bs2, .int .i64 bd2] (by simp))
  simp only [List.toArray] at Bc Bd
  have BS1 := Lib.hid ((BT1.out.alloc (.cells #[.int .i64 ak2, .int .i64 as2, .int .i64 ad2] 51)).alloc (.cells #[.int .i64 bk2, .int .i64 bs2, .int .i64 bd2] 51))
  have lBT1 := BT1.out.lt
  have BS2 := Lib.hid ((BT2.out.alloc (.cells #[.int .i64 ak2, .int .i64 as2, .int .i64 ad2] 51)).alloc (.cells #[.int .i64 bk2, .int .i64 bs2, .int .i64 bd2] 51))
  have lBT2 := BT2.out.lt
  have BS3 := Lib.hid ((BT3.out.alloc (.cells #[.int .i64 ak2, .int .i64 as2, .int .i64 ad2] 51)).alloc (.cells #[.int .i64 bk2, .int .i64 bs2, .int .i64 bd2] 51))
  have lBT3 := BT3.out.lt
  have Ba := Lib.hid ((BTa.out.alloc (.cells #[.int .i64 ak2, .int .i64 as2, .int .i64 ad2] 51)).alloc (.cells #[.int .i64 bk2, .int .i64 bs2, .int .i64 bd2] 51))
  have lBTa := BTa.out.lt
  have Bb := Lib.hid ((BTb.out.alloc (.cells #[.int .i64 ak2, .int .i64 as2, .int .i64 ad2] 51)).alloc (.cells #[.int .i64 bk2, .int .i64 bs2, .int .i64 bd2] 51))
  have lBTb := BTb.out.lt
  have HB7 := Lib.hid (show Below w.heap.size w ((w6.alloc (.cells #[.int .i64 ak2, .int .i64 as2, .int .i64 ad2] 51)).alloc (.cells #[.int .i64 bk2, .int .i64 bs2, .int .i64 bd2] 51)) by have := HB6.out; have := this.size; (repeat' (first | (with_reducible assumption) | (with_reducible exact Below.refl _ _) | (with_reducible refine Below.setCell ?_ ?_ _) | (with_reducible refine Below.alloc ?_ ?_ _) | (with_reducible apply Below.drew) | omega | (simp; done) | (simp; omega))))
  generalize hgb : w6.heap.size + 1 = gd at *
  generalize hga : w6.heap.size = gc at *
  generalize hWW : (w6.alloc (.cells #[.int .i64 ak2, .int .i64 as2, .int .i64 ad2] 51)).alloc (.cells #[.int .i64 bk2, .int .i64 bs2, .int .i64 bd2] 51) = W7 at *
  clear hWW
  have hne1 : w.heap.size + 1 ≠ gc := by omega
  have hnf1 : w.heap.size + 1 ≠ gd := by omega
  have hng1 : w.heap.size + 1 + 1 ≠ gc := by omega
  have hnh1 : w.heap.size + 1 + 1 ≠ gd := by omega
  have hna2 := hna1.symm
  have hnb2 := hnb1.symm
  have hnc2 := hnc1.symm
  have hnd2 := hnd1.symm
  have hne2 := hne1.symm
  have hnf2 := hnf1.symm
  have hng2 := hng1.symm
  have hnh2 := hnh1.symm
  clear lBT1 lBT2 lBT3 lBTa lBTb hga hgb BT1 BT2 BT3 BTa BTb
  have z0 := BS1.out.cell 0
  simp only [List.getElem?_cons_zero] at z0
  have m0 := Ba.out.cell 0
  have m1 := Ba.out.cell 1
  have m2 := Ba.out.cell 2
  simp only [List.getElem?_cons_zero, List.getElem?_cons_succ] at m0 m1 m2
  have M0 := Lib.hid m0
  have M1 := Lib.hid m1
  have M2 := Lib.hid m2
  have n0 := Bb.out.cell 0
  have n1 := Bb.out.cell 1
  have n2 := Bb.out.cell 2
  simp only [List.getElem?_cons_zero, List.getElem?_cons_succ] at n0 n1 n2
  have N0 := Lib.hid n0
  have N1 := Lib.hid n1
  have N2 := Lib.hid n2
  have x0 := Bc.out.cell 0
  have x1 := Bc.out.cell 1
  have x2 := Bc.out.cell 2
  simp only [List.getElem?_cons_zero, List.getElem?_cons_succ] at x0 x1 x2
  have X0 := Lib.hid x0
  have X1 := Lib.hid x1
  have X2 := Lib.hid x2
  have y0 := Bd.out.cell 0
  have y1 := Bd.out.cell 1
  have y2 := Bd.out.cell 2
  simp only [List.getElem?_cons_zero, List.getElem?_cons_succ] at y0 y1 y2
  have Y0 := Lib.hid y0
  have Y1 := Lib.hid y1
  have Y2 := Lib.hid y2
  go_upto_region 22 with (fail)
  clear z0
  have HQ0 := Lib.hid (bel_drew1 W7)
  have MK0 := HQ0
  (first | (go_region_held3 (fun w' => w'.cell? ⟨ga, 0, none⟩ = some (.int .i64 ak1) ∧ w'.cell? ⟨ga, 1, none⟩ = some (.int .i64 as1) ∧ w'.cell? ⟨ga, 2, none⟩ = some (.int .i64 ad1) ∧ w'.cell? ⟨gb, 0, none⟩ = some (.int .i64 bk1) ∧ w'.cell? ⟨gb, 1, none⟩ = some (.int .i64 bs1) ∧ w'.cell? ⟨gb, 2, none⟩ = some (.int .i64 bd1) ∧ w'.cell? ⟨gc, 0, none⟩ = some (.int .i64 ak2) ∧ w'.cell? ⟨gc, 1, none⟩ = some (.int .i64 as2) ∧ w'.cell? ⟨gc, 2, none⟩ = some (.int .i64 ad2) ∧ w'.cell? ⟨gd, 0, none⟩ = some (.int .i64 bk2) ∧ w'.cell? ⟨gd, 1, none⟩ = some (.int .i64 bs2) ∧ w'.cell? ⟨gd, 2, none⟩ = some (.int .i64 bd2)) (go_keep) (first | (clear MK0; go_at_call_of 45 (Value.agg #[.int .i64 bk1, .int .i64 bs1, .int .i64 bd1]); refine (HWP.out _).mono ?_; rintro e w9 ⟨rfl, hb9⟩; have HQ1 := Lib.hid (bel_go (by first | exact HQ1.out | exact HQ0.out) hb9); clear hb9; have m0 := keepc HQ1.out M0.out; have m1 := keepc HQ1.out M1.out; have m2 := keepc HQ1.out M2.out; have n0 := keepc HQ1.out N0.out; have n1 := keepc HQ1.out N1.out; have n2 := keepc HQ1.out N2.out; have x0 := keepc HQ1.out X0.out; have x1 := keepc HQ1.out X1.out; have x2 := keepc HQ1.out X2.out; have y0 := keepc HQ1.out Y0.out; have y1 := keepc HQ1.out Y1.out; have y2 := keepc HQ1.out Y2.out; have BR := Lib.hid (BS2.out.below HQ1.out BS2.out.lt); have BT := Lib.hid (BS3.out.below HQ1.out BS3.out.lt); have yr0 := BR.out.cell 0; have yf0 := BR.out.free 0; have ys0 := BT.out.cell 0; have yg0 := BT.out.free 0; have yr1 := BR.out.cell 1; have yf1 := BR.out.free 1; have ys1 := BT.out.cell 1; have yg1 := BT.out.free 1; have yr2 := BR.out.cell 2; have yf2 := BR.out.free 2; have ys2 := BT.out.cell 2; have yg2 := BT.out.free 2; simp only [List.getElem?_cons_zero, List.getElem?_cons_succ] at yr0 yr1 yr2 ys0 ys1 ys2; have hB := bel_go HB7.out HQ1.out; have MK1 := HQ1) | (clear MK1; go_at_call_of 45 (Value.agg #[.int .i64 ak1, .int .i64 as1, .int .i64 ad1]); refine (HWQ.out _).mono ?_; rintro e w9 ⟨rfl, hb9⟩; have HQ1 := Lib.hid (bel_go (by first | exact HQ1.out | exact HQ0.out) hb9); clear hb9; have m0 := keepc HQ1.out M0.out; have m1 := keepc HQ1.out M1.out; have m2 := keepc HQ1.out M2.out; have n0 := keepc HQ1.out N0.out; have n1 := keepc HQ1.out N1.out; have n2 := keepc HQ1.out N2.out; have x0 := keepc HQ1.out X0.out; have x1 := keepc HQ1.out X1.out; have x2 := keepc HQ1.out X2.out; have y0 := keepc HQ1.out Y0.out; have y1 := keepc HQ1.out Y1.out; have y2 := keepc HQ1.out Y2.out; have BR := Lib.hid (BS2.out.below HQ1.out BS2.out.lt); have BT := Lib.hid (BS3.out.below HQ1.out BS3.out.lt); have yr0 := BR.out.cell 0; have yf0 := BR.out.free 0; have ys0 := BT.out.cell 0; have yg0 := BT.out.free 0; have yr1 := BR.out.cell 1; have yf1 := BR.out.free 1; have ys1 := BT.out.cell 1; have yg1 := BT.out.free 1; have yr2 := BR.out.cell 2; have yf2 := BR.out.free 2; have ys2 := BT.out.cell 2; have yg2 := BT.out.free 2; simp only [List.getElem?_cons_zero, List.getElem?_cons_succ] at yr0 yr1 yr2 ys0 ys1 ys2; have hB := bel_go HB7.out HQ1.out; have MK2 := HQ1) | (clear MK2; go_at_call_of 45 (Value.agg #[.int .i64 xpk, .int .i64 xps, .int .i64 xpd]); refine (HWe.out _).mono ?_; rintro e w9 ⟨rfl, hb9⟩; have HQ1 := Lib.hid (bel_go (by first | exact HQ1.out | exact HQ0.out) hb9); clear hb9; have m0 := keepc HQ1.out M0.out; have m1 := keepc HQ1.out M1.out; have m2 := keepc HQ1.out M2.out; have n0 := keepc HQ1.out N0.out; have n1 := keepc HQ1.out N1.out; have n2 := keepc HQ1.out N2.out; have x0 := keepc HQ1.out X0.out; have x1 := keepc HQ1.out X1.out; have x2 := keepc HQ1.out X2.out; have y0 := keepc HQ1.out Y0.out; have y1 := keepc HQ1.out Y1.out; have y2 := keepc HQ1.out Y2.out; have BR := Lib.hid (BS2.out.below HQ1.out BS2.out.lt); have BT := Lib.hid (BS3.out.below HQ1.out BS3.out.lt); have yr0 := BR.out.cell 0; have yf0 := BR.out.free 0; have ys0 := BT.out.cell 0; have yg0 := BT.out.free 0; have yr1 := BR.out.cell 1; have yf1 := BR.out.free 1; have ys1 := BT.out.cell 1; have yg1 := BT.out.free 1; have yr2 := BR.out.cell 2; have yf2 := BR.out.free 2; have ys2 := BT.out.cell 2; have yg2 := BT.out.free 2; simp only [List.getElem?_cons_zero, List.getElem?_cons_succ] at yr0 yr1 yr2 ys0 ys1 ys2; have hB := bel_go HB7.out HQ1.out; have MK3 := HQ1) | (clear MK3; go_at_call_of 45 (Value.agg #[.int .i64 ak1, .int .i64 as1, .int .i64 ad1]); refine (HWR.out _).mono ?_; rintro e w9 ⟨rfl, hb9⟩; have HQ1 := Lib.hid (bel_go (by first | exact HQ1.out | exact HQ0.out) hb9); clear hb9; have m0 := keepc HQ1.out M0.out; have m1 := keepc HQ1.out M1.out; have m2 := keepc HQ1.out M2.out; have n0 := keepc HQ1.out N0.out; have n1 := keepc HQ1.out N1.out; have n2 := keepc HQ1.out N2.out; have x0 := keepc HQ1.out X0.out; have x1 := keepc HQ1.out X1.out; have x2 := keepc HQ1.out X2.out; have y0 := keepc HQ1.out Y0.out; have y1 := keepc HQ1.out Y1.out; have y2 := keepc HQ1.out Y2.out; have BR := Lib.hid (BS2.out.below HQ1.out BS2.out.lt); have BT := Lib.hid (BS3.out.below HQ1.out BS3.out.lt); have yr0 := BR.out.cell 0; have yf0 := BR.out.free 0; have ys0 := BT.out.cell 0; have yg0 := BT.out.free 0; have yr1 := BR.out.cell 1; have yf1 := BR.out.free 1; have ys1 := BT.out.cell 1; have yg1 := BT.out.free 1; have yr2 := BR.out.cell 2; have yf2 := BR.out.free 2; have ys2 := BT.out.cell 2; have yg2 := BT.out.free 2; simp only [List.getElem?_cons_zero, List.getElem?_cons_succ] at yr0 yr1 yr2 ys0 ys1 ys2; have hB := bel_go HB7.out HQ1.out; have MK4 := HQ1) | (clear MK4; go_at_call_of 45 (Value.agg #[.int .i64 bk1, .int .i64 bs1, .int .i64 bd1]); refine (HWT.out _).mono ?_; rintro e w9 ⟨rfl, hb9⟩; have HQ1 := Lib.hid (bel_go (by first | exact HQ1.out | exact HQ0.out) hb9); clear hb9; have m0 := keepc HQ1.out M0.out; have m1 := keepc HQ1.out M1.out; have m2 := keepc HQ1.out M2.out; have n0 := keepc HQ1.out N0.out; have n1 := keepc HQ1.out N1.out; have n2 := keepc HQ1.out N2.out; have x0 := keepc HQ1.out X0.out; have x1 := keepc HQ1.out X1.out; have x2 := keepc HQ1.out X2.out; have y0 := keepc HQ1.out Y0.out; have y1 := keepc HQ1.out Y1.out; have y2 := keepc HQ1.out Y2.out; have BR := Lib.hid (BS2.out.below HQ1.out BS2.out.lt); have BT := Lib.hid (BS3.out.below HQ1.out BS3.out.lt); have yr0 := BR.out.cell 0; have yf0 := BR.out.free 0; have ys0 := BT.out.cell 0; have yg0 := BT.out.free 0; have yr1 := BR.out.cell 1; have yf1 := BR.out.free 1; have ys1 := BT.out.cell 1; have yg1 := BT.out.free 1; have yr2 := BR.out.cell 2; have yf2 := BR.out.free 2; have ys2 := BT.out.cell 2; have yg2 := BT.out.free 2; simp only [List.getElem?_cons_zero, List.getElem?_cons_succ] at yr0 yr1 yr2 ys0 ys1 ys2; have hB := bel_go HB7.out HQ1.out; have MK5 := HQ1) | (clear MK5; go_at_call_of 45 (Value.agg #[.int .i64 xrk, .int .i64 xrs, .int .i64 xrd]); refine (HWg.out _).mono ?_; rintro e w9 ⟨rfl, hb9⟩; have HQ1 := Lib.hid (bel_go (by first | exact HQ1.out | exact HQ0.out) hb9); clear hb9; have m0 := keepc HQ1.out M0.out; have m1 := keepc HQ1.out M1.out; have m2 := keepc HQ1.out M2.out; have n0 := keepc HQ1.out N0.out; have n1 := keepc HQ1.out N1.out; have n2 := keepc HQ1.out N2.out; have x0 := keepc HQ1.out X0.out; have x1 := keepc HQ1.out X1.out; have x2 := keepc HQ1.out X2.out; have y0 := keepc HQ1.out Y0.out; have y1 := keepc HQ1.out Y1.out; have y2 := keepc HQ1.out Y2.out; have BR := Lib.hid (BS2.out.below HQ1.out BS2.out.lt); have BT := Lib.hid (BS3.out.below HQ1.out BS3.out.lt); have yr0 := BR.out.cell 0; have yf0 := BR.out.free 0; have ys0 := BT.out.cell 0; have yg0 := BT.out.free 0; have yr1 := BR.out.cell 1; have yf1 := BR.out.free 1; have ys1 := BT.out.cell 1; have yg1 := BT.out.free 1; have yr2 := BR.out.cell 2; have yf2 := BR.out.free 2; have ys2 := BT.out.cell 2; have yg2 := BT.out.free 2; simp only [List.getElem?_cons_zero, List.getElem?_cons_succ] at yr0 yr1 yr2 ys0 ys1 ys2; have hB := bel_go HB7.out HQ1.out; have MK6 := HQ1))) | fail "held")
  all_goals
    go_wp2_with fail
    refine bodyPost_ret (v := .tuple #[.agg #[.int .i64 ek1, .int .i64 es1, .int .i64 ed1], .agg #[.int .i64 gk1, .int .i64 gs1, .int .i64 gd1]]) ?_ rfl ⟨rfl, by (repeat' (first | (with_reducible assumption) | (with_reducible exact Below.refl _ _) | (with_reducible refine Below.setCell ?_ ?_ _) | (with_reducible refine Below.alloc ?_ ?_ _) | (with_reducible apply Below.drew) | omega | (simp; done) | (simp; omega)))⟩
    simp [results, Tryz.results20, go_sem, yr0, yr1, yr2, ys0, ys1, ys2]
theorem sizes0 : ∀ N, RszAt 20 N := by
  intro N
  induction N with
  | zero => intro k n vl fl al vr fr ar ts Al cl Ar cr A c S w h; have := Fm.wt_pos (Fm.mk k n (.mk vl fl al) (.mk vr fr ar) ts); omega
  | succ N ih =>
    intro k n vl fl al vr fr ar ts Al cl Ar cr A c S w h hN hsh h1 h2 h3
    rcases shape_cases hsh with ⟨hk, hts⟩ | ⟨hk, a, hts, ha⟩ | ⟨hk, a, a', hts, ha, ha'⟩
    · rcases hk with hk | hk | hk
      · exact rsz1 k n vl fl al vr fr ar ts Al cl Ar cr A c S w hk (by omega) h1 h2 h3
      · have hv : Fm.rsz (Fm.mk k n (.mk vl fl al) (.mk vr fr ar) ts) = (⟨1, 1, 1⟩, ⟨2, 1, 1⟩) := by subst hk; rw [Fm.rsz]; rfl
        rw [hv]
        exact rsz9 k n vl fl al vr fr ar ts Al cl Ar cr A c w hk
      · have hv : Fm.rsz (Fm.mk k n (.mk vl fl al) (.mk vr fr ar) ts) = (⟨2, 1, 1⟩, ⟨1, 1, 1⟩) := by subst hk; rw [Fm.rsz]; rfl
        rw [hv]
        exact rsz10 k n vl fl al vr fr ar ts Al cl Ar cr A c w hk
    · rcases hk with hk | hk | hk
      · exact rsz2 N ih k n vl fl al vr fr ar ts Al cl Ar cr A c a S w hk hts h (by omega) ha h1 h2 h3
      · exact rsz7 N ih k n vl fl al vr fr ar ts Al cl Ar cr A c a S w hk hts h (by omega) ha h1 h2 h3
      · exact rsz8 N ih k n vl fl al vr fr ar ts Al cl Ar cr A c a S w hk hts h (by omega) ha h1 h2 h3
    · rcases hk with hk | hk | hk | hk
      · exact rsz3 N ih k n vl fl al vr fr ar ts Al cl Ar cr A c a a' S w hk hts h (by omega) ha ha' h1 h2 h3
      · exact rsz4 N ih k n vl fl al vr fr ar ts Al cl Ar cr A c a a' S w hk hts h (by omega) ha ha' h1 h2 h3
      · exact rsz5 N ih k n vl fl al vr fr ar ts Al cl Ar cr A c a a' S w hk hts h (by omega) ha ha' h1 h2 h3
      · exact rsz6 N ih k n vl fl al vr fr ar ts Al cl Ar cr A c a a' S w hk hts h (by omega) ha ha' h1 h2 h3
end Go.Proofs.YtndjjnnljihmnaaGreat
