/- What a formula would be: measured. -/
import Derived.Test.YtndjjnnljihmnaaGreatFmH
namespace Go.Proofs.YtndjjnnljihmnaaGreat
open Go.RowKit
set_option linter.unusedVariables false
set_option linter.unusedSimpArgs false
def hd1 (L : List (Fo × Fo)) : Fo × Fo := match L with | a :: _ => a | _ => (⟨0, 0, 0⟩, ⟨0, 0, 0⟩)
def hd2 (L : List (Fo × Fo)) : Fo × Fo := match L with | _ :: b :: _ => b | _ => (⟨0, 0, 0⟩, ⟨0, 0, 0⟩)
/-- What a formula would be: it, and its negation. -/
def measC (k sz dp : Int) (L : List (Fo × Fo)) : Fo × Fo :=
  if k = 9 then (⟨9, 1, 1⟩, ⟨10, 1, 1⟩) else if k = 10 then (⟨10, 1, 1⟩, ⟨9, 1, 1⟩)
  else if k = 1 then (⟨1, sz, dp⟩, Fo.under ⟨1, sz, dp⟩ 2)
  else if k = 2 then ((hd1 L).2, (hd1 L).1)
  else if k = 7 ∨ k = 8 then ((hd1 L).1.under k, (hd1 L).2.under k)
  else if k = 5 then ((hd1 L).2.with 4 (hd2 L).1, (hd1 L).1.with 3 (hd2 L).2)
  else if k = 4 then ((hd1 L).1.with 4 (hd2 L).1, (hd1 L).2.with 3 (hd2 L).2)
  else if k = 3 then ((hd1 L).1.with 3 (hd2 L).1, (hd1 L).2.with 4 (hd2 L).2)
  else (((hd1 L).2.with 4 (hd2 L).1).with 3 ((hd1 L).1.with 4 (hd2 L).2), ((hd1 L).1.with 4 (hd2 L).1).with 3 ((hd1 L).2.with 4 (hd2 L).2))
mutual
def Fm.meas : Fm → Fo × Fo
  | .mk k n l r ks => measC k (Fm.size (.mk k n l r ks)) (Fm.depth (.mk k n l r ks)) (Fm.measL ks)
def Fm.measL : List Fm → List (Fo × Fo)
  | [] => []
  | f :: r => Fm.meas f :: Fm.measL r
end
def InB (B : Int) (a : Fo) : Prop := 0 ≤ a.s ∧ a.s ≤ 1125900980584448 ∧ 0 ≤ a.d ∧ a.d ≤ B
theorem InB.mono {B B' : Int} {a : Fo} (h : InB B a) (hb : B ≤ B') : InB B' a := ⟨h.1, h.2.1, h.2.2.1, by have := h.2.2.2; omega⟩
theorem under_b {a : Fo} {kind B : Int} (h : InB B a) : InB (B + 1) (a.under kind) := by
  obtain ⟨h1, h2, h3, h4⟩ := h
  unfold Fo.under; split
  · exact ⟨h1, h2, h3, by omega⟩
  · exact ⟨by simp only; omega, by simp only; omega, by simp only; omega, by simp only; omega⟩
theorem with_b {a b : Fo} {kind B : Int} (hB : 1 ≤ B) (h : InB B a) (h' : InB B b) : InB (B + 1) (a.with kind b) := by
  unfold Fo.with
  split
  · exact h.mono (by omega)
  · split
    · exact h'.mono (by omega)
    · obtain ⟨h1, h2, h3, h4⟩ := h
      obtain ⟨g1, g2, g3, g4⟩ := h'
      split
      · exact ⟨by simp only; omega, by simp only; omega, by simp only; omega, by simp only; omega⟩
      · exact ⟨by simp only; omega, by simp only; omega, by simp only; omega, by simp only; omega⟩
theorem hd1_b {B : Int} (hB : 1 ≤ B) : ∀ {L : List (Fo × Fo)}, (∀ p ∈ L, InB B p.1 ∧ InB B p.2) → InB B (hd1 L).1 ∧ InB B (hd1 L).2
  | [], _ => ⟨⟨by decide, by decide, by decide, by simp only [hd1]; omega⟩, ⟨by decide, by decide, by decide, by simp only [hd1]; omega⟩⟩
  | a :: r, h => h a (by simp)
theorem hd2_b {B : Int} (hB : 1 ≤ B) : ∀ {L : List (Fo × Fo)}, (∀ p ∈ L, InB B p.1 ∧ InB B p.2) → InB B (hd2 L).1 ∧ InB B (hd2 L).2
  | [], _ => ⟨⟨by simp only [hd2]; omega, by simp only [hd2]; omega, by simp only [hd2]; omega, by simp only [hd2]; omega⟩, ⟨by simp only [hd2]; omega, by simp only [hd2]; omega, by simp only [hd2]; omega, by simp only [hd2]; omega⟩⟩
  | [a], _ => ⟨⟨by simp only [hd2]; omega, by simp only [hd2]; omega, by simp only [hd2]; omega, by simp only [hd2]; omega⟩, ⟨by simp only [hd2]; omega, by simp only [hd2]; omega, by simp only [hd2]; omega, by simp only [hd2]; omega⟩⟩
  | a :: b :: r, h => h b (by simp)
theorem measC_b {k sz dp B : Int} {L : List (Fo × Fo)} (hB : 1 ≤ B) (hs : 0 ≤ sz ∧ sz ≤ 1125899906842624) (hd : 0 ≤ dp ∧ dp ≤ B) (h : ∀ p ∈ L, InB B p.1 ∧ InB B p.2) : InB (B + 2) (measC k sz dp L).1 ∧ InB (B + 2) (measC k sz dp L).2 := by
  have h1 := hd1_b hB h
  have h2 := hd2_b hB h
  have hc : ∀ x : Int, InB (B + 2) ⟨x, 1, 1⟩ := fun x => ⟨by simp only; omega, by simp only; omega, by simp only; omega, by simp only; omega⟩
  have ha : InB B ⟨1, sz, dp⟩ := ⟨hs.1, by simp only; omega, hd.1, hd.2⟩
  have up : ∀ {a : Fo}, InB B a → InB (B + 2) a := fun h => h.mono (by omega)
  have up1 : ∀ {a : Fo}, InB (B + 1) a → InB (B + 2) a := fun h => h.mono (by omega)
  have hB1 : 1 ≤ B + 1 := by omega
  unfold measC
  repeat' split
  · exact ⟨hc _, hc _⟩
  · exact ⟨hc _, hc _⟩
  · exact ⟨up ha, up1 (under_b ha)⟩
  · exact ⟨up h1.2, up h1.1⟩
  · exact ⟨up1 (under_b h1.1), up1 (under_b h1.2)⟩
  · exact ⟨up1 (with_b hB h1.2 h2.1), up1 (with_b hB h1.1 h2.2)⟩
  · exact ⟨up1 (with_b hB h1.1 h2.1), up1 (with_b hB h1.2 h2.2)⟩
  · exact ⟨up1 (with_b hB h1.1 h2.1), up1 (with_b hB h1.2 h2.2)⟩
  · exact ⟨by have := with_b (kind := 3) hB1 (with_b (kind := 4) hB h1.2 h2.1) (with_b (kind := 4) hB h1.1 h2.2); exact this.mono (by omega), by have := with_b (kind := 3) hB1 (with_b (kind := 4) hB h1.1 h2.1) (with_b (kind := 4) hB h1.2 h2.2); exact this.mono (by omega)⟩
theorem Tm.wt_pos : ∀ t : Tm, 1 ≤ t.wt
  | .mk v f ts => by rw [Tm.wt]; omega
theorem Fm.wt_pos : ∀ f : Fm, 3 ≤ f.wt
  | .mk k n l r ks => by have := l.wt_pos; have := r.wt_pos; rw [Fm.wt]; omega
mutual
theorem Fm.meas_b : ∀ (f : Fm), f.wt ≤ 1125899906842624 → InB (2 * f.wt) f.meas.1 ∧ InB (2 * f.wt) f.meas.2
  | .mk k n l r ks, h => by
    have hp := Fm.wt_pos (.mk k n l r ks)
    have hsz := Fm.size_wt (.mk k n l r ks)
    have hdp := Fm.depth_le (.mk k n l r ks)
    have hw : Fm.wts ks + 3 ≤ (Fm.mk k n l r ks).wt := by have := l.wt_pos; have := r.wt_pos; rw [Fm.wt]; omega
    have hL := Fm.measL_b ks (by omega) (2 * (Fm.mk k n l r ks).wt - 2) (by omega)
    have := measC_b (k := k) (sz := (Fm.size (.mk k n l r ks) : Nat)) (dp := (Fm.depth (.mk k n l r ks) : Nat)) (B := 2 * ((Fm.mk k n l r ks).wt : Int) - 2) (L := Fm.measL ks) (by omega) (by omega) (by omega) hL
    rw [Fm.meas]
    rw [show (2 * ((Fm.mk k n l r ks).wt : Int) - 2 + 2) = 2 * ((Fm.mk k n l r ks).wt : Int) by omega] at this
    exact this
theorem Fm.measL_b : ∀ (ks : List Fm), Fm.wts ks ≤ 1125899906842624 → ∀ B : Int, 2 * (Fm.wts ks : Int) ≤ B → ∀ p ∈ Fm.measL ks, InB B p.1 ∧ InB B p.2
  | [], _, _, _ => by intro p hp; simp [Fm.measL] at hp
  | f :: r, h, B, hB => by
    rw [Fm.wts] at h hB
    intro p hp
    rw [Fm.measL] at hp
    rcases List.mem_cons.1 hp with rfl | hp
    · have := Fm.meas_b f (by omega)
      exact ⟨this.1.mono (by omega), this.2.mono (by omega)⟩
    · exact Fm.measL_b r (by omega) B (by omega) p hp
end
/-- From a right shape: its kind and its kids. -/
theorem shape_cases {k : Int} {n : ByteArray} {l r : Tm} {ks : List Fm} (h : (Fm.mk k n l r ks).shape = true) :
    ((k = 1 ∨ k = 9 ∨ k = 10) ∧ ks = []) ∨ ((k = 2 ∨ k = 7 ∨ k = 8) ∧ ∃ a, ks = [a] ∧ a.shape = true) ∨ ((k = 3 ∨ k = 4 ∨ k = 5 ∨ k = 6) ∧ ∃ a b, ks = [a, b] ∧ a.shape = true ∧ b.shape = true) := by
  rw [Fm.shape] at h
  unfold headF at h
  simp only [Bool.and_eq_true, beq_iff_eq] at h
  obtain ⟨⟨hk, _⟩, hs⟩ := h
  unfold kidsI at hk
  split at hk
  · left
    refine ⟨by assumption, ?_⟩
    cases ks with
    | nil => rfl
    | cons a r => simp at hk; omega
  · split at hk
    · right; left
      refine ⟨by assumption, ?_⟩
      match ks, hk, hs with
      | [a], _, hs => exact ⟨a, rfl, by simpa [Fm.shapes] using hs⟩
      | [], hk, _ => simp at hk
      | a :: b :: r, hk, _ => simp at hk; omega
    · split at hk
      · right; right
        refine ⟨by omega, ?_⟩
        match ks, hk, hs with
        | [a, b], _, hs => exact ⟨a, b, rfl, by simpa [Fm.shapes] using hs⟩
        | [], hk, _ => simp at hk
        | [a], hk, _ => simp at hk
        | a :: b :: c :: r, hk, _ => simp at hk; omega
      · omega
theorem Blk.go {w w' : World} {g : Nat} {T : TypeId} {vs : List Value} (h : Blk w g T vs) (hb : Below w.heap.size w w') : Blk w' g T vs := h.below hb h.lt
theorem blk6 {w : World} {g : Nat} {T : TypeId} {x y z x' y' z' : Value} (h : Blk w g T [x, y, z, x', y', z']) (a b c d e f : Value) : Blk ((((((w.setCell ⟨g, 0, none⟩ a).setCell ⟨g, 1, none⟩ b).setCell ⟨g, 2, none⟩ c).setCell ⟨g, 3, none⟩ d).setCell ⟨g, 4, none⟩ e).setCell ⟨g, 5, none⟩ f) g T [a, b, c, d, e, f] := (((((h.set 0 a).set 1 b).set 2 c).set 3 d).set 4 e).set 5 f
theorem blk6o {w : World} {g h : Nat} {T : TypeId} {vs : List Value} (hb : Blk w g T vs) (hne : h ≠ g) (a b c d e f : Value) : Blk ((((((w.setCell ⟨h, 0, none⟩ a).setCell ⟨h, 1, none⟩ b).setCell ⟨h, 2, none⟩ c).setCell ⟨h, 3, none⟩ d).setCell ⟨h, 4, none⟩ e).setCell ⟨h, 5, none⟩ f) g T vs := (((((hb.other _ a hne).other _ b hne).other _ c hne).other _ d hne).other _ e hne).other _ f hne
theorem blk3 {w : World} {g : Nat} {T : TypeId} {x y z : Value} (h : Blk w g T [x, y, z]) (a b c : Value) : Blk (((w.setCell ⟨g, 0, none⟩ a).setCell ⟨g, 1, none⟩ b).setCell ⟨g, 2, none⟩ c) g T [a, b, c] := ((h.set 0 a).set 1 b).set 2 c
def MeasAt (fn : Nat) (N : Nat) : Prop := ∀ (k : Int) (n : ByteArray) (vl : Int) (fl : ByteArray) (al : List Tm) (vr : Int) (fr : ByteArray) (ar : List Tm) (ts : List Fm) (Al : Option Addr) (cl : Nat) (Ar : Option Addr) (cr : Nat) (A : Option Addr) (c : Nat) (S : Nat → Prop) (w : World), (Fm.mk k n (.mk vl fl al) (.mk vr fr ar) ts).wt ≤ N → N ≤ 1125899906842624 → (Fm.mk k n (.mk vl fl al) (.mk vr fr ar) ts).shape = true → ST S w Al al.length cl al → ST S w Ar ar.length cr ar → SF S w A ts.length c ts →
    Calls Tryz.prog fn #[.agg #[.int .i64 k, .string n, .int .i64 vl, .string fl, .slice Al al.length cl, .int .i64 vr, .string fr, .slice Ar ar.length cr, .slice A ts.length c]] w fun e w' => e = .returned (.agg #[.int .i64 (Fm.mk k n (.mk vl fl al) (.mk vr fr ar) ts).meas.1.k, .int .i64 (Fm.mk k n (.mk vl fl al) (.mk vr fr ar) ts).meas.1.s, .int .i64 (Fm.mk k n (.mk vl fl al) (.mk vr fr ar) ts).meas.1.d, .int .i64 (Fm.mk k n (.mk vl fl al) (.mk vr fr ar) ts).meas.2.k, .int .i64 (Fm.mk k n (.mk vl fl al) (.mk vr fr ar) ts).meas.2.s, .int .i64 (Fm.mk k n (.mk vl fl al) (.mk vr fr ar) ts).meas.2.d]) ∧ Below w.heap.size w w'
theorem meas9 (k : Int) (n : ByteArray) (vl : Int) (fl : ByteArray) (al : List Tm) (vr : Int) (fr : ByteArray) (ar : List Tm) (ts : List Fm) (Al : Option Addr) (cl : Nat) (Ar : Option Addr) (cr : Nat) (A : Option Addr) (c : Nat) (w : World) (h : k = 9) : Calls Tryz.prog 18 #[.agg #[.int .i64 k, .string n, .int .i64 vl, .string fl, .slice Al al.length cl, .int .i64 vr, .string fr, .slice Ar ar.length cr, .slice A ts.length c]] w fun e w' => e = .returned (.agg #[.int .i64 9, .int .i64 1, .int .i64 1, .int .i64 10, .int .i64 1, .int .i64 1]) ∧ Below w.heap.size w w' := by
  subst h
  go_enter Tryz.func18, Tryz.ntmps18
  go_wp2_with fail
  refine bodyPost_ret (v := .agg #[.int .i64 9, .int .i64 1, .int .i64 1, .int .i64 10, .int .i64 1, .int .i64 1]) ?_ rfl ⟨rfl, by (repeat' (first | (with_reducible assumption) | (with_reducible exact Below.refl _ _) | (with_reducible refine Below.setCell ?_ ?_ _) | (with_reducible refine Below.alloc ?_ ?_ _) | (with_reducible apply Below.drew) | omega | (simp; done) | (simp; omega)))⟩
  simp [results, Tryz.results18, go_sem]
theorem meas10 (k : Int) (n : ByteArray) (vl : Int) (fl : ByteArray) (al : List Tm) (vr : Int) (fr : ByteArray) (ar : List Tm) (ts : List Fm) (Al : Option Addr) (cl : Nat) (Ar : Option Addr) (cr : Nat) (A : Option Addr) (c : Nat) (w : World) (h : k = 10) : Calls Tryz.prog 18 #[.agg #[.int .i64 k, .string n, .int .i64 vl, .string fl, .slice Al al.length cl, .int .i64 vr, .string fr, .slice Ar ar.length cr, .slice A ts.length c]] w fun e w' => e = .returned (.agg #[.int .i64 10, .int .i64 1, .int .i64 1, .int .i64 9, .int .i64 1, .int .i64 1]) ∧ Below w.heap.size w w' := by
  subst h
  have HB0 := Lib.hid (show Below w.heap.size w ((w.alloc (.cells #[.int .i64 10, .string n, .int .i64 vl, .string fl, .slice Al al.length cl, .int .i64 vr, .string fr, .slice Ar ar.length cr, .slice A ts.length c] 27)).alloc (.cells #[.int .i64 0, .int .i64 0, .int .i64 0, .int .i64 0, .int .i64 0, .int .i64 0] 47)) by (repeat' (first | (with_reducible assumption) | (with_reducible exact Below.refl _ _) | (with_reducible refine Below.setCell ?_ ?_ _) | (with_reducible refine Below.alloc ?_ ?_ _) | (with_reducible apply Below.drew) | omega | (simp; done) | (simp; omega))))
  have BK2 := Lib.hid (Blk.new' (w.alloc (.cells #[.int .i64 10, .string n, .int .i64 vl, .string fl, .slice Al al.length cl, .int .i64 vr, .string fr, .slice Ar ar.length cr, .slice A ts.length c] 27)) (w.heap.size + 1) 47 [.int .i64 0, .int .i64 0, .int .i64 0, .int .i64 0, .int .i64 0, .int .i64 0] (by simp))
  simp only [List.toArray] at BK2
  go_enter Tryz.func18, Tryz.ntmps18
  go_wp2_with fail
  refine (meas9 9 ⟨#[]⟩ 0 ⟨#[]⟩ [] 0 ⟨#[]⟩ [] [] none 0 none 0 none 0 _ rfl).mono ?_
  rintro e w2 ⟨rfl, hb2⟩
  have HB2 := Lib.hid (HB0.out.trans (hb2.mono HB0.out.size))
  have BQ := Lib.hid (Blk.go BK2.out hb2)
  clear hb2
  go_wp2_with fail
  refine (other_any 9 1 1 10 1 1 _).mono ?_
  rintro e w3 ⟨rfl, hb3⟩
  have hB := bel_go HB2.out hb3
  have BR := Lib.hid (Blk.go BQ.out hb3)
  clear hb3
  have yr0 := BR.out.cell 0
  have yr1 := BR.out.cell 1
  have yr2 := BR.out.cell 2
  have yr3 := BR.out.cell 3
  have yr4 := BR.out.cell 4
  have yr5 := BR.out.cell 5
  simp only [List.getElem?_cons_zero, List.getElem?_cons_succ] at yr0 yr1 yr2 yr3 yr4 yr5
  have fr0 := BR.out.free 0
  have fr1 := BR.out.free 1
  have fr2 := BR.out.free 2
  have fr3 := BR.out.free 3
  have fr4 := BR.out.free 4
  have fr5 := BR.out.free 5
  go_wp2_with fail
  refine bodyPost_ret (v := .agg #[.int .i64 10, .int .i64 1, .int .i64 1, .int .i64 9, .int .i64 1, .int .i64 1]) ?_ rfl ⟨rfl, by (repeat' (first | (with_reducible assumption) | (with_reducible exact Below.refl _ _) | (with_reducible refine Below.setCell ?_ ?_ _) | (with_reducible refine Below.alloc ?_ ?_ _) | (with_reducible apply Below.drew) | omega | (simp; done) | (simp; omega)))⟩
  simp [results, Tryz.results18, go_sem, yr0, yr1, yr2, yr3, yr4, yr5]
set_option maxRecDepth 100000 in
set_option maxHeartbeats 3200000 in
theorem meas1 (k : Int) (n : ByteArray) (vl : Int) (fl : ByteArray) (al : List Tm) (vr : Int) (fr : ByteArray) (ar : List Tm) (ts : List Fm) (Al : Option Addr) (cl : Nat) (Ar : Option Addr) (cr : Nat) (A : Option Addr) (c : Nat) (S : Nat → Prop) (w : World) (h : k = 1) (hN : (Fm.mk k n (.mk vl fl al) (.mk vr fr ar) ts).wt ≤ 1125899906842624) (hl : ST S w Al al.length cl al) (hr : ST S w Ar ar.length cr ar) (hs : SF S w A ts.length c ts) : Calls Tryz.prog 18 #[.agg #[.int .i64 k, .string n, .int .i64 vl, .string fl, .slice Al al.length cl, .int .i64 vr, .string fr, .slice Ar ar.length cr, .slice A ts.length c]] w fun e w' => e = .returned (.agg #[.int .i64 ((Fm.mk k n (.mk vl fl al) (.mk vr fr ar) ts).meas).1.k, .int .i64 ((Fm.mk k n (.mk vl fl al) (.mk vr fr ar) ts).meas).1.s, .int .i64 ((Fm.mk k n (.mk vl fl al) (.mk vr fr ar) ts).meas).1.d, .int .i64 ((Fm.mk k n (.mk vl fl al) (.mk vr fr ar) ts).meas).2.k, .int .i64 ((Fm.mk k n (.mk vl fl al) (.mk vr fr ar) ts).meas).2.s, .int .i64 ((Fm.mk k n (.mk vl fl al) (.mk vr fr ar) ts).meas).2.d]) ∧ Below w.heap.size w w' := by
  subst h
  have hsw := Fm.size_wt (Fm.mk 1 n (.mk vl fl al) (.mk vr fr ar) ts)
  have hdl := Fm.depth_le (Fm.mk 1 n (.mk vl fl al) (.mk vr fr ar) ts)
  have hv : Fm.meas (Fm.mk 1 n (.mk vl fl al) (.mk vr fr ar) ts) = (⟨1, ((Fm.mk 1 n (.mk vl fl al) (.mk vr fr ar) ts).size : Nat), ((Fm.mk 1 n (.mk vl fl al) (.mk vr fr ar) ts).depth : Nat)⟩, Fo.under ⟨1, ((Fm.mk 1 n (.mk vl fl al) (.mk vr fr ar) ts).size : Nat), ((Fm.mk 1 n (.mk vl fl al) (.mk vr fr ar) ts).depth : Nat)⟩ 2) := by rw [Fm.meas]; rfl
  have HSZ := Lib.hid (fun w' (hb : Below w.heap.size w w') => fsize0 1152921504606846976 1 n vl fl al vr fr ar ts S w' Al cl Ar cr A c (by omega) (Nat.le_refl _) (hl.stay (Stay.below hb)) (hr.stay (Stay.below hb)) (hs.stay (Stay.below hb)))
  have HDP := Lib.hid (fun w' (hb : Below w.heap.size w w') => fdepth0 1152921504606846976 1 n vl fl al vr fr ar ts S w' Al cl Ar cr A c (by omega) (Nat.le_refl _) (hl.stay (Stay.below hb)) (hr.stay (Stay.below hb)) (hs.stay (Stay.below hb)))
  have HUN := Lib.hid (fun w' => under_any 1 ((Fm.mk 1 n (.mk vl fl al) (.mk vr fr ar) ts).size : Nat) ((Fm.mk 1 n (.mk vl fl al) (.mk vr fr ar) ts).depth : Nat) 2 w' (by omega) (by omega))
  rw [hv]
  clear hv hl hr hs
  generalize (Fm.mk 1 n (.mk vl fl al) (.mk vr fr ar) ts).size = q at *
  generalize (Fm.mk 1 n (.mk vl fl al) (.mk vr fr ar) ts).depth = dd at *
  clear hsw hdl hN
  generalize hua : (Fo.under ⟨1, (q : Int), (dd : Int)⟩ 2).k = uk at *
  generalize hub : (Fo.under ⟨1, (q : Int), (dd : Int)⟩ 2).s = us at *
  generalize huc : (Fo.under ⟨1, (q : Int), (dd : Int)⟩ 2).d = ud at *
  clear hua hub huc
  have HB0 := Lib.hid (show Below w.heap.size w ((w.alloc (.cells #[.int .i64 1, .string n, .int .i64 vl, .string fl, .slice Al al.length cl, .int .i64 vr, .string fr, .slice Ar ar.length cr, .slice A ts.length c] 27)).alloc (.cells #[.int .i64 0, .int .i64 0, .int .i64 0, .int .i64 0, .int .i64 0, .int .i64 0] 47)) by (repeat' (first | (with_reducible assumption) | (with_reducible exact Below.refl _ _) | (with_reducible refine Below.setCell ?_ ?_ _) | (with_reducible refine Below.alloc ?_ ?_ _) | (with_reducible apply Below.drew) | omega | (simp; done) | (simp; omega))))
  have BK1 := Lib.hid ((Blk.new w 27 [.int .i64 1, .string n, .int .i64 vl, .string fl, .slice Al al.length cl, .int .i64 vr, .string fr, .slice Ar ar.length cr, .slice A ts.length c]).alloc (.cells #[.int .i64 0, .int .i64 0, .int .i64 0, .int .i64 0, .int .i64 0, .int .i64 0] 47))
  have BK2 := Lib.hid (Blk.new' (w.alloc (.cells #[.int .i64 1, .string n, .int .i64 vl, .string fl, .slice Al al.length cl, .int .i64 vr, .string fr, .slice Ar ar.length cr, .slice A ts.length c] 27)) (w.heap.size + 1) 47 [.int .i64 0, .int .i64 0, .int .i64 0, .int .i64 0, .int .i64 0, .int .i64 0] (by simp))
  go_enter Tryz.func18, Tryz.ntmps18
  go_upto_region 7 with (fail)
  simp only [List.toArray] at BK1 BK2
  generalize hW : (w.alloc (.cells #[.int .i64 1, .string n, .int .i64 vl, .string fl, .slice Al al.length cl, .int .i64 vr, .string fr, .slice Ar ar.length cr, .slice A ts.length c] 27)).alloc (.cells #[.int .i64 0, .int .i64 0, .int .i64 0, .int .i64 0, .int .i64 0, .int .i64 0] 47) = W at *
  clear hW
  have HQ0 := Lib.hid (bel_drew1 W)
  have y0 := BK1.out.cell 0
  have y1 := BK1.out.cell 1
  have y2 := BK1.out.cell 2
  have y3 := BK1.out.cell 3
  have y4 := BK1.out.cell 4
  have y5 := BK1.out.cell 5
  have y6 := BK1.out.cell 6
  have y7 := BK1.out.cell 7
  have y8 := BK1.out.cell 8
  simp only [List.getElem?_cons_zero, List.getElem?_cons_succ] at y0 y1 y2 y3 y4 y5 y6 y7 y8
  have Z0 := Lib.hid y0
  have Z1 := Lib.hid y1
  have Z2 := Lib.hid y2
  have Z3 := Lib.hid y3
  have Z4 := Lib.hid y4
  have Z5 := Lib.hid y5
  have Z6 := Lib.hid y6
  have Z7 := Lib.hid y7
  have Z8 := Lib.hid y8
  have hWs : w.heap.size + 2 ≤ W.heap.size := by have := BK2.out.lt; omega
  have hWl : w.heap.size < W.heap.size := by omega
  go_cut [3] (fun va wx => ∃ g, va = .pointer (some ⟨g, 0, none⟩) ∧ W.heap.size ≤ g ∧ Blk wx g 45 [.int .i64 1, .int .i64 q, .int .i64 dd] ∧ Below W.heap.size W wx)
  case first =>
    (first | (go_region_held3 (fun w' => w'.cell? ⟨w.heap.size, 0, none⟩ = some (.int .i64 1) ∧ w'.cell? ⟨w.heap.size, 1, none⟩ = some (.string n) ∧ w'.cell? ⟨w.heap.size, 2, none⟩ = some (.int .i64 vl) ∧ w'.cell? ⟨w.heap.size, 3, none⟩ = some (.string fl) ∧ w'.cell? ⟨w.heap.size, 4, none⟩ = some (.slice Al al.length cl) ∧ w'.cell? ⟨w.heap.size, 5, none⟩ = some (.int .i64 vr) ∧ w'.cell? ⟨w.heap.size, 6, none⟩ = some (.string fr) ∧ w'.cell? ⟨w.heap.size, 7, none⟩ = some (.slice Ar ar.length cr) ∧ w'.cell? ⟨w.heap.size, 8, none⟩ = some (.slice A ts.length c)) (go_keep) (first | (go_at_call 36; refine (HSZ.out _ (bel_go HB0.out (by first | exact HQ1.out | exact HQ0.out))).mono ?_; rintro e w9 ⟨rfl, hb9⟩; have BN0 := BN; clear BN; have BN := Lib.hid (Blk.go BN0.out hb9); have yn0 := BN.out.cell 0; have yn1 := BN.out.cell 1; have yn2 := BN.out.cell 2; have fn0 := BN.out.free 0; have fn1 := BN.out.free 1; have fn2 := BN.out.free 2; simp only [List.getElem?_cons_zero, List.getElem?_cons_succ] at yn0 yn1 yn2; have HQ1 := Lib.hid (bel_go (by first | exact HQ1.out | exact HQ0.out) hb9); clear hb9; have y0 := keepc HQ1.out Z0.out; have y1 := keepc HQ1.out Z1.out; have y2 := keepc HQ1.out Z2.out; have y3 := keepc HQ1.out Z3.out; have y4 := keepc HQ1.out Z4.out; have y5 := keepc HQ1.out Z5.out; have y6 := keepc HQ1.out Z6.out; have y7 := keepc HQ1.out Z7.out; have y8 := keepc HQ1.out Z8.out) | (go_at_call 36; refine (HSZ.out _ (bel_go HB0.out (HQ1.out.alloc HQ1.out.size (.cells #[.int .i64 0, .int .i64 0, .int .i64 0] 45)))).mono ?_; rintro e w9 ⟨rfl, hb9⟩; have BN := Lib.hid (Blk.go (Blk.new _ 45 [.int .i64 0, .int .i64 0, .int .i64 0]) hb9); have hgn := HQ1.out.size; have hne1 := Nat.ne_of_gt (Nat.lt_of_lt_of_le hWl hgn); have hne2 := hne1.symm; have yn0 := BN.out.cell 0; have yn1 := BN.out.cell 1; have yn2 := BN.out.cell 2; have fn0 := BN.out.free 0; have fn1 := BN.out.free 1; have fn2 := BN.out.free 2; simp only [List.getElem?_cons_zero, List.getElem?_cons_succ] at yn0 yn1 yn2;  have HQ1 := Lib.hid (bel_go (HQ1.out.alloc HQ1.out.size (.cells #[.int .i64 0, .int .i64 0, .int .i64 0] 45)) hb9); clear hb9; have y0 := keepc HQ1.out Z0.out; have y1 := keepc HQ1.out Z1.out; have y2 := keepc HQ1.out Z2.out; have y3 := keepc HQ1.out Z3.out; have y4 := keepc HQ1.out Z4.out; have y5 := keepc HQ1.out Z5.out; have y6 := keepc HQ1.out Z6.out; have y7 := keepc HQ1.out Z7.out; have y8 := keepc HQ1.out Z8.out) | (go_at_call 36; refine (HSZ.out _ (bel_go HB0.out (HQ0.out.alloc HQ0.out.size (.cells #[.int .i64 0, .int .i64 0, .int .i64 0] 45)))).mono ?_; rintro e w9 ⟨rfl, hb9⟩; have BN : Hid (Blk w9 W.heap.size 45 [.int .i64 0, .int .i64 0, .int .i64 0]) := Lib.hid (Blk.go (Blk.new W.drew _ _) hb9); have hgn := Nat.le_refl W.heap.size; have hne1 := Nat.ne_of_gt (Nat.lt_of_lt_of_le hWl hgn); have hne2 := hne1.symm; have yn0 := BN.out.cell 0; have yn1 := BN.out.cell 1; have yn2 := BN.out.cell 2; have fn0 := BN.out.free 0; have fn1 := BN.out.free 1; have fn2 := BN.out.free 2; simp only [List.getElem?_cons_zero, List.getElem?_cons_succ] at yn0 yn1 yn2;  have HQ1 := Lib.hid (bel_go (HQ0.out.alloc HQ0.out.size (.cells #[.int .i64 0, .int .i64 0, .int .i64 0] 45)) hb9); clear hb9; have y0 := keepc HQ1.out Z0.out; have y1 := keepc HQ1.out Z1.out; have y2 := keepc HQ1.out Z2.out; have y3 := keepc HQ1.out Z3.out; have y4 := keepc HQ1.out Z4.out; have y5 := keepc HQ1.out Z5.out; have y6 := keepc HQ1.out Z6.out; have y7 := keepc HQ1.out Z7.out; have y8 := keepc HQ1.out Z8.out) | (go_at_call 36; refine (HSZ.out _ (bel_go HB0.out (by first | exact HQ1.out | exact HQ0.out))).mono ?_; rintro e w9 ⟨rfl, hb9⟩;  have HQ1 := Lib.hid (bel_go (by first | exact HQ1.out | exact HQ0.out) hb9); clear hb9; have y0 := keepc HQ1.out Z0.out; have y1 := keepc HQ1.out Z1.out; have y2 := keepc HQ1.out Z2.out; have y3 := keepc HQ1.out Z3.out; have y4 := keepc HQ1.out Z4.out; have y5 := keepc HQ1.out Z5.out; have y6 := keepc HQ1.out Z6.out; have y7 := keepc HQ1.out Z7.out; have y8 := keepc HQ1.out Z8.out) | (go_at_call 37; refine (HDP.out _ (bel_go HB0.out (by first | exact HQ1.out | exact HQ0.out))).mono ?_; rintro e w9 ⟨rfl, hb9⟩; have BN0 := BN; clear BN; have BN := Lib.hid (Blk.go BN0.out hb9); have yn0 := BN.out.cell 0; have yn1 := BN.out.cell 1; have yn2 := BN.out.cell 2; have fn0 := BN.out.free 0; have fn1 := BN.out.free 1; have fn2 := BN.out.free 2; simp only [List.getElem?_cons_zero, List.getElem?_cons_succ] at yn0 yn1 yn2; have HQ1 := Lib.hid (bel_go (by first | exact HQ1.out | exact HQ0.out) hb9); clear hb9; have y0 := keepc HQ1.out Z0.out; have y1 := keepc HQ1.out Z1.out; have y2 := keepc HQ1.out Z2.out; have y3 := keepc HQ1.out Z3.out; have y4 := keepc HQ1.out Z4.out; have y5 := keepc HQ1.out Z5.out; have y6 := keepc HQ1.out Z6.out; have y7 := keepc HQ1.out Z7.out; have y8 := keepc HQ1.out Z8.out) | (go_at_call 37; refine (HDP.out _ (bel_go HB0.out (HQ1.out.alloc HQ1.out.size (.cells #[.int .i64 0, .int .i64 0, .int .i64 0] 45)))).mono ?_; rintro e w9 ⟨rfl, hb9⟩; have BN := Lib.hid (Blk.go (Blk.new _ 45 [.int .i64 0, .int .i64 0, .int .i64 0]) hb9); have hgn := HQ1.out.size; have hne1 := Nat.ne_of_gt (Nat.lt_of_lt_of_le hWl hgn); have hne2 := hne1.symm; have yn0 := BN.out.cell 0; have yn1 := BN.out.cell 1; have yn2 := BN.out.cell 2; have fn0 := BN.out.free 0; have fn1 := BN.out.free 1; have fn2 := BN.out.free 2; simp only [List.getElem?_cons_zero, List.getElem?_cons_succ] at yn0 yn1 yn2;  have HQ1 := Lib.hid (bel_go (HQ1.out.alloc HQ1.out.size (.cells #[.int .i64 0, .int .i64 0, .int .i64 0] 45)) hb9); clear hb9; have y0 := keepc HQ1.out Z0.out; have y1 := keepc HQ1.out Z1.out; have y2 := keepc HQ1.out Z2.out; have y3 := keepc HQ1.out Z3.out; have y4 := keepc HQ1.out Z4.out; have y5 := keepc HQ1.out Z5.out; have y6 := keepc HQ1.out Z6.out; have y7 := keepc HQ1.out Z7.out; have y8 := keepc HQ1.out Z8.out) | (go_at_call 37; refine (HDP.out _ (bel_go HB0.out (HQ0.out.alloc HQ0.out.size (.cells #[.int .i64 0, .int .i64 0, .int .i64 0] 45)))).mono ?_; rintro e w9 ⟨rfl, hb9⟩; have BN : Hid (Blk w9 W.heap.size 45 [.int .i64 0, .int .i64 0, .int .i64 0]) := Lib.hid (Blk.go (Blk.new W.drew _ _) hb9); have hgn := Nat.le_refl W.heap.size; have hne1 := Nat.ne_of_gt (Nat.lt_of_lt_of_le hWl hgn); have hne2 := hne1.symm; have yn0 := BN.out.cell 0; have yn1 := BN.out.cell 1; have yn2 := BN.out.cell 2; have fn0 := BN.out.free 0; have fn1 := BN.out.free 1; have fn2 := BN.out.free 2; simp only [List.getElem?_cons_zero, List.getElem?_cons_succ] at yn0 yn1 yn2;  have HQ1 := Lib.hid (bel_go (HQ0.out.alloc HQ0.out.size (.cells #[.int .i64 0, .int .i64 0, .int .i64 0] 45)) hb9); clear hb9; have y0 := keepc HQ1.out Z0.out; have y1 := keepc HQ1.out Z1.out; have y2 := keepc HQ1.out Z2.out; have y3 := keepc HQ1.out Z3.out; have y4 := keepc HQ1.out Z4.out; have y5 := keepc HQ1.out Z5.out; have y6 := keepc HQ1.out Z6.out; have y7 := keepc HQ1.out Z7.out; have y8 := keepc HQ1.out Z8.out) | (go_at_call 37; refine (HDP.out _ (bel_go HB0.out (by first | exact HQ1.out | exact HQ0.out))).mono ?_; rintro e w9 ⟨rfl, hb9⟩;  have HQ1 := Lib.hid (bel_go (by first | exact HQ1.out | exact HQ0.out) hb9); clear hb9; have y0 := keepc HQ1.out Z0.out; have y1 := keepc HQ1.out Z1.out; have y2 := keepc HQ1.out Z2.out; have y3 := keepc HQ1.out Z3.out; have y4 := keepc HQ1.out Z4.out; have y5 := keepc HQ1.out Z5.out; have y6 := keepc HQ1.out Z6.out; have y7 := keepc HQ1.out Z7.out; have y8 := keepc HQ1.out Z8.out))) | fail "held")
    all_goals
      go_wp2_with fail
      go_meet
      first
      | exact ⟨_, rfl, HQ1.out.size, Blk.new _ _ _, HQ1.out.alloc HQ1.out.size _⟩
      | exact ⟨_, rfl, hgn, blk3 BN.out _ _ _, ((HQ1.out.setCell hgn _).setCell hgn _).setCell hgn _⟩
  case rest =>
    obtain ⟨g, rfl, hg, hbk, hbw⟩ := hcut
    have BN := Lib.hid hbk
    have BKR := Lib.hid (Blk.go (Blk.below BK2.out hbw BK2.out.lt) (bel_drew1 wc))
    have HBw := Lib.hid (bel_go HB0.out hbw)
    clear y0 y1 y2 y3 y4 y5 y6 y7 y8 hbk hbw
    have z0 := BN.out.cell 0
    have z1 := BN.out.cell 1
    have z2 := BN.out.cell 2
    simp only [List.getElem?_cons_zero, List.getElem?_cons_succ] at z0 z1 z2
    have Z0 := Lib.hid z0
    have Z1 := Lib.hid z1
    have Z2 := Lib.hid z2
    have hne1 : w.heap.size + 1 ≠ g := by omega
    have hne2 : g ≠ w.heap.size + 1 := by omega
    have HQ0 := Lib.hid (bel_drew1 wc)
    go_wp2_with fail
    (first | (go_region_held3 (fun w' => w'.cell? ⟨g, 0, none⟩ = some (.int .i64 1) ∧ w'.cell? ⟨g, 1, none⟩ = some (.int .i64 q) ∧ w'.cell? ⟨g, 2, none⟩ = some (.int .i64 dd)) (go_keep) (first | (go_at_call 38; refine (HUN.out _).mono ?_; rintro e w9 ⟨rfl, hb9⟩; have HQ1 := Lib.hid (bel_go HQ0.out hb9); have BR := Lib.hid (Blk.go BKR.out hb9); clear hb9; have z0 := keepc HQ1.out Z0.out; have z1 := keepc HQ1.out Z1.out; have z2 := keepc HQ1.out Z2.out; have yr0 := BR.out.cell 0; have yr1 := BR.out.cell 1; have yr2 := BR.out.cell 2; have yr3 := BR.out.cell 3; have yr4 := BR.out.cell 4; have yr5 := BR.out.cell 5; have fr0 := BR.out.free 0; have fr1 := BR.out.free 1; have fr2 := BR.out.free 2; have fr3 := BR.out.free 3; have fr4 := BR.out.free 4; have fr5 := BR.out.free 5; simp only [List.getElem?_cons_zero, List.getElem?_cons_succ] at yr0 yr1 yr2 yr3 yr4 yr5; have hB := bel_go HBw.out HQ1.out))) | fail "held")
    all_goals
      go_wp2_with fail
      refine bodyPost_ret (v := .agg #[.int .i64 1, .int .i64 q, .int .i64 dd, .int .i64 uk, .int .i64 us, .int .i64 ud]) ?_ rfl ⟨rfl, by (repeat' (first | (with_reducible assumption) | (with_reducible exact Below.refl _ _) | (with_reducible refine Below.setCell ?_ ?_ _) | (with_reducible refine Below.alloc ?_ ?_ _) | (with_reducible apply Below.drew) | omega | (simp; done) | (simp; omega)))⟩
      simp [results, Tryz.results18, go_sem, yr0, yr1, yr2, yr3, yr4, yr5]
set_option maxRecDepth 100000 in
set_option maxHeartbeats 6400000 in
theorem meas2 (N : Nat) (ih : MeasAt 18 N) (k : Int) (n : ByteArray) (vl : Int) (fl : ByteArray) (al : List Tm) (vr : Int) (fr : ByteArray) (ar : List Tm) (ts : List Fm) (Al : Option Addr) (cl : Nat) (Ar : Option Addr) (cr : Nat) (A : Option Addr) (c : Nat) (a1 : Fm) (S : Nat → Prop) (w : World) (h : k = 2) (hts : ts = [a1]) (hN : (Fm.mk k n (.mk vl fl al) (.mk vr fr ar) ts).wt ≤ N + 1) (hNN : N ≤ 1125899906842623) (hsh1 : a1.shape = true) (hl : ST S w Al al.length cl al) (hr : ST S w Ar ar.length cr ar) (hs : SF S w A ts.length c ts) : Calls Tryz.prog 18 #[.agg #[.int .i64 k, .string n, .int .i64 vl, .string fl, .slice Al al.length cl, .int .i64 vr, .string fr, .slice Ar ar.length cr, .slice A ts.length c]] w fun e w' => e = .returned (.agg #[.int .i64 ((Fm.mk k n (.mk vl fl al) (.mk vr fr ar) ts).meas).1.k, .int .i64 ((Fm.mk k n (.mk vl fl al) (.mk vr fr ar) ts).meas).1.s, .int .i64 ((Fm.mk k n (.mk vl fl al) (.mk vr fr ar) ts).meas).1.d, .int .i64 ((Fm.mk k n (.mk vl fl al) (.mk vr fr ar) ts).meas).2.k, .int .i64 ((Fm.mk k n (.mk vl fl al) (.mk vr fr ar) ts).meas).2.s, .int .i64 ((Fm.mk k n (.mk vl fl al) (.mk vr fr ar) ts).meas).2.d]) ∧ Below w.heap.size w w' := by
  subst h hts
  obtain ⟨b, o, hA1, k1, n1, vl1, fl1, al1, vr1, fr1, ar1, ts1, Al1, cl1, Ar1, cr1, A1, c1, hm1, hl1, hr1, hs1, p0, p1, p2, p3, p4, p5, p6, p7, p8⟩ := hs.at 0 (by simp)
  change a1 = _ at hm1
  subst hm1
  subst hA1
  simp only [Nat.zero_mul, Nat.one_mul, Nat.add_zero] at p0 p1 p2 p3 p4 p5 p6 p7 p8
  have hw : (Fm.mk k1 n1 (.mk vl1 fl1 al1) (.mk vr1 fr1 ar1) ts1).wt + 3 ≤ N + 1 := by have hh := hN; rw [Fm.wt, Fm.wts, Fm.wts] at hh; have := (Tm.mk vl fl al).wt_pos; have := (Tm.mk vr fr ar).wt_pos; omega
  have HI1 := Lib.hid (fun w' (hb : Below w.heap.size w w') => ih k1 n1 vl1 fl1 al1 vr1 fr1 ar1 ts1 Al1 cl1 Ar1 cr1 A1 c1 S w' (by omega) (by omega) hsh1 (hl1.stay (Stay.below hb)) (hr1.stay (Stay.below hb)) (hs1.stay (Stay.below hb)))
  have hbd1 := Fm.meas_b (Fm.mk k1 n1 (.mk vl1 fl1 al1) (.mk vr1 fr1 ar1) ts1) (by omega)
  have hbm1 : (2 * ((Fm.mk k1 n1 (.mk vl1 fl1 al1) (.mk vr1 fr1 ar1) ts1).wt : Int)) ≤ 2251799813685248 := by omega
  have hv : Fm.meas (Fm.mk 2 n (.mk vl fl al) (.mk vr fr ar) [(Fm.mk k1 n1 (.mk vl1 fl1 al1) (.mk vr1 fr1 ar1) ts1)]) = ((Fm.mk k1 n1 (.mk vl1 fl1 al1) (.mk vr1 fr1 ar1) ts1).meas.2, (Fm.mk k1 n1 (.mk vl1 fl1 al1) (.mk vr1 fr1 ar1) ts1).meas.1) := by rw [Fm.meas, Fm.measL, Fm.measL]; rfl
  rw [hv]
  clear hv hN ih
  generalize hm1 : (Fm.mk k1 n1 (.mk vl1 fl1 al1) (.mk vr1 fr1 ar1) ts1).meas = m1 at *
  clear hm1
  obtain ⟨⟨ak1, as1, ad1⟩, ⟨bk1, bs1, bd1⟩⟩ := m1
  have HIB1 : Hid (InB 2251799813685248 ⟨ak1, as1, ad1⟩ ∧ InB 2251799813685248 ⟨bk1, bs1, bd1⟩) := Lib.hid ⟨hbd1.1.mono hbm1, hbd1.2.mono hbm1⟩
  obtain ⟨⟨u11, u21, u31, u41⟩, ⟨v11, v21, v31, v41⟩⟩ := hbd1
  simp only at u11 u21 u31 u41 v11 v21 v31 v41
  have hbd1 : (0 ≤ as1 ∧ as1 ≤ 1152921504606846976) ∧ (0 ≤ ad1 ∧ ad1 ≤ 1152921504606846976) ∧ (0 ≤ bs1 ∧ bs1 ≤ 1152921504606846976) ∧ (0 ≤ bd1 ∧ bd1 ≤ 1152921504606846976) := by omega
  have HBD1 := Lib.hid hbd1
  clear u11 u21 u31 u41 v11 v21 v31 v41 hbd1 hbm1
  have P0 := Lib.hid p0
  clear hl1 hr1 hs1 hl hr hs hw
  have HB0 := Lib.hid (show Below w.heap.size w ((w.alloc (.cells #[.int .i64 2, .string n, .int .i64 vl, .string fl, .slice Al al.length cl, .int .i64 vr, .string fr, .slice Ar ar.length cr, .slice (some ⟨b, o, none⟩) 1 c] 27)).alloc (.cells #[.int .i64 0, .int .i64 0, .int .i64 0, .int .i64 0, .int .i64 0, .int .i64 0] 47)) by (repeat' (first | (with_reducible assumption) | (with_reducible exact Below.refl _ _) | (with_reducible refine Below.setCell ?_ ?_ _) | (with_reducible refine Below.alloc ?_ ?_ _) | (with_reducible apply Below.drew) | omega | (simp; done) | (simp; omega))))
  have BK1 := Lib.hid ((Blk.new w 27 [.int .i64 2, .string n, .int .i64 vl, .string fl, .slice Al al.length cl, .int .i64 vr, .string fr, .slice Ar ar.length cr, .slice (some ⟨b, o, none⟩) 1 c]).alloc (.cells #[.int .i64 0, .int .i64 0, .int .i64 0, .int .i64 0, .int .i64 0, .int .i64 0] 47))
  have BK2 := Lib.hid (Blk.new' (w.alloc (.cells #[.int .i64 2, .string n, .int .i64 vl, .string fl, .slice Al al.length cl, .int .i64 vr, .string fr, .slice Ar ar.length cr, .slice (some ⟨b, o, none⟩) 1 c] 27)) (w.heap.size + 1) 47 [.int .i64 0, .int .i64 0, .int .i64 0, .int .i64 0, .int .i64 0, .int .i64 0] (by simp))
  simp only [List.toArray] at BK1 BK2
  go_enter Tryz.func18, Tryz.ntmps18
  go_upto_region 9 with (fail)
  generalize hW : (w.alloc (.cells #[.int .i64 2, .string n, .int .i64 vl, .string fl, .slice Al al.length cl, .int .i64 vr, .string fr, .slice Ar ar.length cr, .slice (some ⟨b, o, none⟩) 1 c] 27)).alloc (.cells #[.int .i64 0, .int .i64 0, .int .i64 0, .int .i64 0, .int .i64 0, .int .i64 0] 47) = W at *
  clear hW
  have z0 := BK1.out.cell 0
  have z1 := BK1.out.cell 1
  have z2 := BK1.out.cell 2
  have z3 := BK1.out.cell 3
  have z4 := BK1.out.cell 4
  have z5 := BK1.out.cell 5
  have z6 := BK1.out.cell 6
  have z7 := BK1.out.cell 7
  have z8 := BK1.out.cell 8
  simp only [List.getElem?_cons_zero, List.getElem?_cons_succ] at z0 z1 z2 z3 z4 z5 z6 z7 z8
  have pc0 := keepc HB0.out p0
  have pc1 := keepc HB0.out p1
  have pc2 := keepc HB0.out p2
  have pc3 := keepc HB0.out p3
  have pc4 := keepc HB0.out p4
  have pc5 := keepc HB0.out p5
  have pc6 := keepc HB0.out p6
  have pc7 := keepc HB0.out p7
  have pc8 := keepc HB0.out p8
  clear p0 p1 p2 p3 p4 p5 p6 p7 p8
  go_wp2_with fail
  refine (HI1.out _ HB0.out).mono ?_
  rintro e w2 ⟨rfl, hb2⟩
  have HB2 := Lib.hid (HB0.out.trans (hb2.mono HB0.out.size))
  have BQ1 := Lib.hid (Blk.go BK1.out hb2)
  have BQ2 := Lib.hid (Blk.go BK2.out hb2)
  clear z0 z1 z2 z3 z4 z5 z6 z7 z8 pc0 pc1 pc2 pc3 pc4 pc5 pc6 pc7 pc8 hb2
  go_upto_region 10 with (fail)
  have BM := Lib.hid (Blk.new w2 47 [.int .i64 ak1, .int .i64 as1, .int .i64 ad1, .int .i64 bk1, .int .i64 bs1, .int .i64 bd1])
  have BS1 := Lib.hid (BQ1.out.alloc (.cells #[.int .i64 ak1, .int .i64 as1, .int .i64 ad1, .int .i64 bk1, .int .i64 bs1, .int .i64 bd1] 47))
  have BS2 := Lib.hid (BQ2.out.alloc (.cells #[.int .i64 ak1, .int .i64 as1, .int .i64 ad1, .int .i64 bk1, .int .i64 bs1, .int .i64 bd1] 47))
  have HB3 := Lib.hid (Below.alloc HB2.out HB2.out.size (.cells #[.int .i64 ak1, .int .i64 as1, .int .i64 ad1, .int .i64 bk1, .int .i64 bs1, .int .i64 bd1] 47))
  have hl1 := BQ1.out.lt
  have hl2 := BQ2.out.lt
  simp only [List.toArray] at BM
  generalize hgm : w2.heap.size = gm at *
  generalize hW3 : w2.alloc (.cells #[.int .i64 ak1, .int .i64 as1, .int .i64 ad1, .int .i64 bk1, .int .i64 bs1, .int .i64 bd1] 47) = W3 at *
  clear hgm hW3
  have hne1 : w.heap.size + 1 ≠ gm := by omega
  have hne2 : gm ≠ w.heap.size + 1 := by omega
  clear hl1 hl2
  have z0 := BS1.out.cell 0
  simp only [List.getElem?_cons_zero] at z0
  have Z0 := Lib.hid z0
  have m0 := BM.out.cell 0
  have m1 := BM.out.cell 1
  have m2 := BM.out.cell 2
  have m3 := BM.out.cell 3
  have m4 := BM.out.cell 4
  have m5 := BM.out.cell 5
  simp only [List.getElem?_cons_zero, List.getElem?_cons_succ] at m0 m1 m2 m3 m4 m5
  have M0 := Lib.hid m0
  have M1 := Lib.hid m1
  have M2 := Lib.hid m2
  have M3 := Lib.hid m3
  have M4 := Lib.hid m4
  have M5 := Lib.hid m5
  have HQ0 := Lib.hid (bel_drew1 W3)
  go_wp2_with fail
  refine (other_any ak1 as1 ad1 bk1 bs1 bd1 _).mono ?_
  rintro e w3 ⟨rfl, hb3⟩
  have hB : Below w.heap.size w w3 := bel_go HB3.out hb3
  have BR := Lib.hid (Blk.go BS2.out hb3)
  clear z0 hb3
  have yr0 := BR.out.cell 0
  have yr1 := BR.out.cell 1
  have yr2 := BR.out.cell 2
  have yr3 := BR.out.cell 3
  have yr4 := BR.out.cell 4
  have yr5 := BR.out.cell 5
  simp only [List.getElem?_cons_zero, List.getElem?_cons_succ] at yr0 yr1 yr2 yr3 yr4 yr5
  have fr0 := BR.out.free 0
  have fr1 := BR.out.free 1
  have fr2 := BR.out.free 2
  have fr3 := BR.out.free 3
  have fr4 := BR.out.free 4
  have fr5 := BR.out.free 5
  go_wp2_with fail
  refine bodyPost_ret (v := .agg #[.int .i64 bk1, .int .i64 bs1, .int .i64 bd1, .int .i64 ak1, .int .i64 as1, .int .i64 ad1]) ?_ rfl ⟨rfl, by (repeat' (first | (with_reducible assumption) | (with_reducible exact Below.refl _ _) | (with_reducible refine Below.setCell ?_ ?_ _) | (with_reducible refine Below.alloc ?_ ?_ _) | (with_reducible apply Below.drew) | omega | (simp; done) | (simp; omega)))⟩
  simp [results, Tryz.results18, go_sem, yr0, yr1, yr2, yr3, yr4, yr5]
set_option maxRecDepth 100000 in
set_option maxHeartbeats 6400000 in
theorem meas7 (N : Nat) (ih : MeasAt 18 N) (k : Int) (n : ByteArray) (vl : Int) (fl : ByteArray) (al : List Tm) (vr : Int) (fr : ByteArray) (ar : List Tm) (ts : List Fm) (Al : Option Addr) (cl : Nat) (Ar : Option Addr) (cr : Nat) (A : Option Addr) (c : Nat) (a1 : Fm) (S : Nat → Prop) (w : World) (h : k = 7) (hts : ts = [a1]) (hN : (Fm.mk k n (.mk vl fl al) (.mk vr fr ar) ts).wt ≤ N + 1) (hNN : N ≤ 1125899906842623) (hsh1 : a1.shape = true) (hl : ST S w Al al.length cl al) (hr : ST S w Ar ar.length cr ar) (hs : SF S w A ts.length c ts) : Calls Tryz.prog 18 #[.agg #[.int .i64 k, .string n, .int .i64 vl, .string fl, .slice Al al.length cl, .int .i64 vr, .string fr, .slice Ar ar.length cr, .slice A ts.length c]] w fun e w' => e = .returned (.agg #[.int .i64 ((Fm.mk k n (.mk vl fl al) (.mk vr fr ar) ts).meas).1.k, .int .i64 ((Fm.mk k n (.mk vl fl al) (.mk vr fr ar) ts).meas).1.s, .int .i64 ((Fm.mk k n (.mk vl fl al) (.mk vr fr ar) ts).meas).1.d, .int .i64 ((Fm.mk k n (.mk vl fl al) (.mk vr fr ar) ts).meas).2.k, .int .i64 ((Fm.mk k n (.mk vl fl al) (.mk vr fr ar) ts).meas).2.s, .int .i64 ((Fm.mk k n (.mk vl fl al) (.mk vr fr ar) ts).meas).2.d]) ∧ Below w.heap.size w w' := by
  subst h hts
  obtain ⟨b, o, hA1, k1, n1, vl1, fl1, al1, vr1, fr1, ar1, ts1, Al1, cl1, Ar1, cr1, A1, c1, hm1, hl1, hr1, hs1, p0, p1, p2, p3, p4, p5, p6, p7, p8⟩ := hs.at 0 (by simp)
  change a1 = _ at hm1
  subst hm1
  subst hA1
  simp only [Nat.zero_mul, Nat.one_mul, Nat.add_zero] at p0 p1 p2 p3 p4 p5 p6 p7 p8
  have hw : (Fm.mk k1 n1 (.mk vl1 fl1 al1) (.mk vr1 fr1 ar1) ts1).wt + 3 ≤ N + 1 := by have hh := hN; rw [Fm.wt, Fm.wts, Fm.wts] at hh; have := (Tm.mk vl fl al).wt_pos; have := (Tm.mk vr fr ar).wt_pos; omega
  have HI1 := Lib.hid (fun w' (hb : Below w.heap.size w w') => ih k1 n1 vl1 fl1 al1 vr1 fr1 ar1 ts1 Al1 cl1 Ar1 cr1 A1 c1 S w' (by omega) (by omega) hsh1 (hl1.stay (Stay.below hb)) (hr1.stay (Stay.below hb)) (hs1.stay (Stay.below hb)))
  have hbd1 := Fm.meas_b (Fm.mk k1 n1 (.mk vl1 fl1 al1) (.mk vr1 fr1 ar1) ts1) (by omega)
  have hbm1 : (2 * ((Fm.mk k1 n1 (.mk vl1 fl1 al1) (.mk vr1 fr1 ar1) ts1).wt : Int)) ≤ 2251799813685248 := by omega
  have hv : Fm.meas (Fm.mk 7 n (.mk vl fl al) (.mk vr fr ar) [(Fm.mk k1 n1 (.mk vl1 fl1 al1) (.mk vr1 fr1 ar1) ts1)]) = ((Fm.mk k1 n1 (.mk vl1 fl1 al1) (.mk vr1 fr1 ar1) ts1).meas.1.under 7, (Fm.mk k1 n1 (.mk vl1 fl1 al1) (.mk vr1 fr1 ar1) ts1).meas.2.under 7) := by rw [Fm.meas, Fm.measL, Fm.measL]; rfl
  rw [hv]
  clear hv hN ih
  generalize hm1 : (Fm.mk k1 n1 (.mk vl1 fl1 al1) (.mk vr1 fr1 ar1) ts1).meas = m1 at *
  clear hm1
  obtain ⟨⟨ak1, as1, ad1⟩, ⟨bk1, bs1, bd1⟩⟩ := m1
  have HIB1 : Hid (InB 2251799813685248 ⟨ak1, as1, ad1⟩ ∧ InB 2251799813685248 ⟨bk1, bs1, bd1⟩) := Lib.hid ⟨hbd1.1.mono hbm1, hbd1.2.mono hbm1⟩
  obtain ⟨⟨u11, u21, u31, u41⟩, ⟨v11, v21, v31, v41⟩⟩ := hbd1
  simp only at u11 u21 u31 u41 v11 v21 v31 v41
  have hbd1 : (0 ≤ as1 ∧ as1 ≤ 1152921504606846976) ∧ (0 ≤ ad1 ∧ ad1 ≤ 1152921504606846976) ∧ (0 ≤ bs1 ∧ bs1 ≤ 1152921504606846976) ∧ (0 ≤ bd1 ∧ bd1 ≤ 1152921504606846976) := by omega
  have HBD1 := Lib.hid hbd1
  clear u11 u21 u31 u41 v11 v21 v31 v41 hbd1 hbm1
  have HU1 := Lib.hid (fun w' => under_any ak1 as1 ad1 7 w' HBD1.out.1 HBD1.out.2.1)
  have HU2 := Lib.hid (fun w' => under_any bk1 bs1 bd1 7 w' HBD1.out.2.2.1 HBD1.out.2.2.2)
  generalize hek : (Fo.under ⟨ak1, as1, ad1⟩ 7).k = ek at *
  clear hek
  generalize hes : (Fo.under ⟨ak1, as1, ad1⟩ 7).s = es at *
  clear hes
  generalize hed : (Fo.under ⟨ak1, as1, ad1⟩ 7).d = ed at *
  clear hed
  generalize hgk : (Fo.under ⟨bk1, bs1, bd1⟩ 7).k = gk at *
  clear hgk
  generalize hgs : (Fo.under ⟨bk1, bs1, bd1⟩ 7).s = gs at *
  clear hgs
  generalize hgd : (Fo.under ⟨bk1, bs1, bd1⟩ 7).d = gd at *
  clear hgd
  have P0 := Lib.hid p0
  clear hl1 hr1 hs1 hl hr hs hw
  have HB0 := Lib.hid (show Below w.heap.size w ((w.alloc (.cells #[.int .i64 7, .string n, .int .i64 vl, .string fl, .slice Al al.length cl, .int .i64 vr, .string fr, .slice Ar ar.length cr, .slice (some ⟨b, o, none⟩) 1 c] 27)).alloc (.cells #[.int .i64 0, .int .i64 0, .int .i64 0, .int .i64 0, .int .i64 0, .int .i64 0] 47)) by (repeat' (first | (with_reducible assumption) | (with_reducible exact Below.refl _ _) | (with_reducible refine Below.setCell ?_ ?_ _) | (with_reducible refine Below.alloc ?_ ?_ _) | (with_reducible apply Below.drew) | omega | (simp; done) | (simp; omega))))
  have BK1 := Lib.hid ((Blk.new w 27 [.int .i64 7, .string n, .int .i64 vl, .string fl, .slice Al al.length cl, .int .i64 vr, .string fr, .slice Ar ar.length cr, .slice (some ⟨b, o, none⟩) 1 c]).alloc (.cells #[.int .i64 0, .int .i64 0, .int .i64 0, .int .i64 0, .int .i64 0, .int .i64 0] 47))
  have BK2 := Lib.hid (Blk.new' (w.alloc (.cells #[.int .i64 7, .string n, .int .i64 vl, .string fl, .slice Al al.length cl, .int .i64 vr, .string fr, .slice Ar ar.length cr, .slice (some ⟨b, o, none⟩) 1 c] 27)) (w.heap.size + 1) 47 [.int .i64 0, .int .i64 0, .int .i64 0, .int .i64 0, .int .i64 0, .int .i64 0] (by simp))
  simp only [List.toArray] at BK1 BK2
  go_enter Tryz.func18, Tryz.ntmps18
  go_upto_region 9 with (fail)
  generalize hW : (w.alloc (.cells #[.int .i64 7, .string n, .int .i64 vl, .string fl, .slice Al al.length cl, .int .i64 vr, .string fr, .slice Ar ar.length cr, .slice (some ⟨b, o, none⟩) 1 c] 27)).alloc (.cells #[.int .i64 0, .int .i64 0, .int .i64 0, .int .i64 0, .int .i64 0, .int .i64 0] 47) = W at *
  clear hW
  have z0 := BK1.out.cell 0
  have z1 := BK1.out.cell 1
  have z2 := BK1.out.cell 2
  have z3 := BK1.out.cell 3
  have z4 := BK1.out.cell 4
  have z5 := BK1.out.cell 5
  have z6 := BK1.out.cell 6
  have z7 := BK1.out.cell 7
  have z8 := BK1.out.cell 8
  simp only [List.getElem?_cons_zero, List.getElem?_cons_succ] at z0 z1 z2 z3 z4 z5 z6 z7 z8
  have pc0 := keepc HB0.out p0
  have pc1 := keepc HB0.out p1
  have pc2 := keepc HB0.out p2
  have pc3 := keepc HB0.out p3
  have pc4 := keepc HB0.out p4
  have pc5 := keepc HB0.out p5
  have pc6 := keepc HB0.out p6
  have pc7 := keepc HB0.out p7
  have pc8 := keepc HB0.out p8
  clear p0 p1 p2 p3 p4 p5 p6 p7 p8
  go_wp2_with fail
  refine (HI1.out _ HB0.out).mono ?_
  rintro e w2 ⟨rfl, hb2⟩
  have HB2 := Lib.hid (HB0.out.trans (hb2.mono HB0.out.size))
  have BQ1 := Lib.hid (Blk.go BK1.out hb2)
  have BQ2 := Lib.hid (Blk.go BK2.out hb2)
  clear z0 z1 z2 z3 z4 z5 z6 z7 z8 pc0 pc1 pc2 pc3 pc4 pc5 pc6 pc7 pc8 hb2
  go_upto_region 10 with (fail)
  have BM := Lib.hid (Blk.new w2 47 [.int .i64 ak1, .int .i64 as1, .int .i64 ad1, .int .i64 bk1, .int .i64 bs1, .int .i64 bd1])
  have BS1 := Lib.hid (BQ1.out.alloc (.cells #[.int .i64 ak1, .int .i64 as1, .int .i64 ad1, .int .i64 bk1, .int .i64 bs1, .int .i64 bd1] 47))
  have BS2 := Lib.hid (BQ2.out.alloc (.cells #[.int .i64 ak1, .int .i64 as1, .int .i64 ad1, .int .i64 bk1, .int .i64 bs1, .int .i64 bd1] 47))
  have HB3 := Lib.hid (Below.alloc HB2.out HB2.out.size (.cells #[.int .i64 ak1, .int .i64 as1, .int .i64 ad1, .int .i64 bk1, .int .i64 bs1, .int .i64 bd1] 47))
  have hl1 := BQ1.out.lt
  have hl2 := BQ2.out.lt
  simp only [List.toArray] at BM
  generalize hgm : w2.heap.size = gm at *
  generalize hW3 : w2.alloc (.cells #[.int .i64 ak1, .int .i64 as1, .int .i64 ad1, .int .i64 bk1, .int .i64 bs1, .int .i64 bd1] 47) = W3 at *
  clear hgm hW3
  have hne1 : w.heap.size + 1 ≠ gm := by omega
  have hne2 : gm ≠ w.heap.size + 1 := by omega
  clear hl1 hl2
  have z0 := BS1.out.cell 0
  simp only [List.getElem?_cons_zero] at z0
  have Z0 := Lib.hid z0
  have m0 := BM.out.cell 0
  have m1 := BM.out.cell 1
  have m2 := BM.out.cell 2
  have m3 := BM.out.cell 3
  have m4 := BM.out.cell 4
  have m5 := BM.out.cell 5
  simp only [List.getElem?_cons_zero, List.getElem?_cons_succ] at m0 m1 m2 m3 m4 m5
  have M0 := Lib.hid m0
  have M1 := Lib.hid m1
  have M2 := Lib.hid m2
  have M3 := Lib.hid m3
  have M4 := Lib.hid m4
  have M5 := Lib.hid m5
  have HQ0 := Lib.hid (bel_drew1 W3)
  go_upto_region 15 with (fail)
  (first | (go_region_held3 (fun w' => w'.cell? ⟨w.heap.size, 0, none⟩ = some (.int .i64 7) ∧ w'.cell? ⟨gm, 0, none⟩ = some (.int .i64 ak1) ∧ w'.cell? ⟨gm, 1, none⟩ = some (.int .i64 as1) ∧ w'.cell? ⟨gm, 2, none⟩ = some (.int .i64 ad1) ∧ w'.cell? ⟨gm, 3, none⟩ = some (.int .i64 bk1) ∧ w'.cell? ⟨gm, 4, none⟩ = some (.int .i64 bs1) ∧ w'.cell? ⟨gm, 5, none⟩ = some (.int .i64 bd1)) (go_keep) (first | (go_at_call_of 38 (Value.agg #[.int .i64 ak1, .int .i64 as1, .int .i64 ad1]); refine (HU1.out _).mono ?_; rintro e w9 ⟨rfl, hb9⟩; have HQ1 := Lib.hid (bel_go (by first | exact HQ1.out | exact HQ0.out) hb9); clear hb9; have z0 := keepc HQ1.out Z0.out; have m0 := keepc HQ1.out M0.out; have m1 := keepc HQ1.out M1.out; have m2 := keepc HQ1.out M2.out; have m3 := keepc HQ1.out M3.out; have m4 := keepc HQ1.out M4.out; have m5 := keepc HQ1.out M5.out; have BR := Lib.hid (BS2.out.below HQ1.out BS2.out.lt); have yr0 := BR.out.cell 0; have fr0 := BR.out.free 0; have yr1 := BR.out.cell 1; have fr1 := BR.out.free 1; have yr2 := BR.out.cell 2; have fr2 := BR.out.free 2; have yr3 := BR.out.cell 3; have fr3 := BR.out.free 3; have yr4 := BR.out.cell 4; have fr4 := BR.out.free 4; have yr5 := BR.out.cell 5; have fr5 := BR.out.free 5; simp only [List.getElem?_cons_zero, List.getElem?_cons_succ] at yr0 yr1 yr2 yr3 yr4 yr5; have hB := bel_go HB3.out HQ1.out) | (go_at_call_of 38 (Value.agg #[.int .i64 bk1, .int .i64 bs1, .int .i64 bd1]); refine (HU2.out _).mono ?_; rintro e w9 ⟨rfl, hb9⟩; have HQ1 := Lib.hid (bel_go (by first | exact HQ1.out | exact HQ0.out) hb9); clear hb9; have z0 := keepc HQ1.out Z0.out; have m0 := keepc HQ1.out M0.out; have m1 := keepc HQ1.out M1.out; have m2 := keepc HQ1.out M2.out; have m3 := keepc HQ1.out M3.out; have m4 := keepc HQ1.out M4.out; have m5 := keepc HQ1.out M5.out; have BR := Lib.hid (BS2.out.below HQ1.out BS2.out.lt); have yr0 := BR.out.cell 0; have fr0 := BR.out.free 0; have yr1 := BR.out.cell 1; have fr1 := BR.out.free 1; have yr2 := BR.out.cell 2; have fr2 := BR.out.free 2; have yr3 := BR.out.cell 3; have fr3 := BR.out.free 3; have yr4 := BR.out.cell 4; have fr4 := BR.out.free 4; have yr5 := BR.out.cell 5; have fr5 := BR.out.free 5; simp only [List.getElem?_cons_zero, List.getElem?_cons_succ] at yr0 yr1 yr2 yr3 yr4 yr5; have hB := bel_go HB3.out HQ1.out))) | fail "held")
  all_goals
    go_wp2_with fail
    refine bodyPost_ret (v := .agg #[.int .i64 ek, .int .i64 es, .int .i64 ed, .int .i64 gk, .int .i64 gs, .int .i64 gd]) ?_ rfl ⟨rfl, by (repeat' (first | (with_reducible assumption) | (with_reducible exact Below.refl _ _) | (with_reducible refine Below.setCell ?_ ?_ _) | (with_reducible refine Below.alloc ?_ ?_ _) | (with_reducible apply Below.drew) | omega | (simp; done) | (simp; omega)))⟩
    simp [results, Tryz.results18, go_sem, yr0, yr1, yr2, yr3, yr4, yr5]
set_option maxRecDepth 100000 in
set_option maxHeartbeats 6400000 in
theorem meas8 (N : Nat) (ih : MeasAt 18 N) (k : Int) (n : ByteArray) (vl : Int) (fl : ByteArray) (al : List Tm) (vr : Int) (fr : ByteArray) (ar : List Tm) (ts : List Fm) (Al : Option Addr) (cl : Nat) (Ar : Option Addr) (cr : Nat) (A : Option Addr) (c : Nat) (a1 : Fm) (S : Nat → Prop) (w : World) (h : k = 8) (hts : ts = [a1]) (hN : (Fm.mk k n (.mk vl fl al) (.mk vr fr ar) ts).wt ≤ N + 1) (hNN : N ≤ 1125899906842623) (hsh1 : a1.shape = true) (hl : ST S w Al al.length cl al) (hr : ST S w Ar ar.length cr ar) (hs : SF S w A ts.length c ts) : Calls Tryz.prog 18 #[.agg #[.int .i64 k, .string n, .int .i64 vl, .string fl, .slice Al al.length cl, .int .i64 vr, .string fr, .slice Ar ar.length cr, .slice A ts.length c]] w fun e w' => e = .returned (.agg #[.int .i64 ((Fm.mk k n (.mk vl fl al) (.mk vr fr ar) ts).meas).1.k, .int .i64 ((Fm.mk k n (.mk vl fl al) (.mk vr fr ar) ts).meas).1.s, .int .i64 ((Fm.mk k n (.mk vl fl al) (.mk vr fr ar) ts).meas).1.d, .int .i64 ((Fm.mk k n (.mk vl fl al) (.mk vr fr ar) ts).meas).2.k, .int .i64 ((Fm.mk k n (.mk vl fl al) (.mk vr fr ar) ts).meas).2.s, .int .i64 ((Fm.mk k n (.mk vl fl al) (.mk vr fr ar) ts).meas).2.d]) ∧ Below w.heap.size w w' := by
  subst h hts
  obtain ⟨b, o, hA1, k1, n1, vl1, fl1, al1, vr1, fr1, ar1, ts1, Al1, cl1, Ar1, cr1, A1, c1, hm1, hl1, hr1, hs1, p0, p1, p2, p3, p4, p5, p6, p7, p8⟩ := hs.at 0 (by simp)
  change a1 = _ at hm1
  subst hm1
  subst hA1
  simp only [Nat.zero_mul, Nat.one_mul, Nat.add_zero] at p0 p1 p2 p3 p4 p5 p6 p7 p8
  have hw : (Fm.mk k1 n1 (.mk vl1 fl1 al1) (.mk vr1 fr1 ar1) ts1).wt + 3 ≤ N + 1 := by have hh := hN; rw [Fm.wt, Fm.wts, Fm.wts] at hh; have := (Tm.mk vl fl al).wt_pos; have := (Tm.mk vr fr ar).wt_pos; omega
  have HI1 := Lib.hid (fun w' (hb : Below w.heap.size w w') => ih k1 n1 vl1 fl1 al1 vr1 fr1 ar1 ts1 Al1 cl1 Ar1 cr1 A1 c1 S w' (by omega) (by omega) hsh1 (hl1.stay (Stay.below hb)) (hr1.stay (Stay.below hb)) (hs1.stay (Stay.below hb)))
  have hbd1 := Fm.meas_b (Fm.mk k1 n1 (.mk vl1 fl1 al1) (.mk vr1 fr1 ar1) ts1) (by omega)
  have hbm1 : (2 * ((Fm.mk k1 n1 (.mk vl1 fl1 al1) (.mk vr1 fr1 ar1) ts1).wt : Int)) ≤ 2251799813685248 := by omega
  have hv : Fm.meas (Fm.mk 8 n (.mk vl fl al) (.mk vr fr ar) [(Fm.mk k1 n1 (.mk vl1 fl1 al1) (.mk vr1 fr1 ar1) ts1)]) = ((Fm.mk k1 n1 (.mk vl1 fl1 al1) (.mk vr1 fr1 ar1) ts1).meas.1.under 8, (Fm.mk k1 n1 (.mk vl1 fl1 al1) (.mk vr1 fr1 ar1) ts1).meas.2.under 8) := by rw [Fm.meas, Fm.measL, Fm.measL]; rfl
  rw [hv]
  clear hv hN ih
  generalize hm1 : (Fm.mk k1 n1 (.mk vl1 fl1 al1) (.mk vr1 fr1 ar1) ts1).meas = m1 at *
  clear hm1
  obtain ⟨⟨ak1, as1, ad1⟩, ⟨bk1, bs1, bd1⟩⟩ := m1
  have HIB1 : Hid (InB 2251799813685248 ⟨ak1, as1, ad1⟩ ∧ InB 2251799813685248 ⟨bk1, bs1, bd1⟩) := Lib.hid ⟨hbd1.1.mono hbm1, hbd1.2.mono hbm1⟩
  obtain ⟨⟨u11, u21, u31, u41⟩, ⟨v11, v21, v31, v41⟩⟩ := hbd1
  simp only at u11 u21 u31 u41 v11 v21 v31 v41
  have hbd1 : (0 ≤ as1 ∧ as1 ≤ 1152921504606846976) ∧ (0 ≤ ad1 ∧ ad1 ≤ 1152921504606846976) ∧ (0 ≤ bs1 ∧ bs1 ≤ 1152921504606846976) ∧ (0 ≤ bd1 ∧ bd1 ≤ 1152921504606846976) := by omega
  have HBD1 := Lib.hid hbd1
  clear u11 u21 u31 u41 v11 v21 v31 v41 hbd1 hbm1
  have HU1 := Lib.hid (fun w' => under_any ak1 as1 ad1 8 w' HBD1.out.1 HBD1.out.2.1)
  have HU2 := Lib.hid (fun w' => under_any bk1 bs1 bd1 8 w' HBD1.out.2.2.1 HBD1.out.2.2.2)
  generalize hek : (Fo.under ⟨ak1, as1, ad1⟩ 8).k = ek at *
  clear hek
  generalize hes : (Fo.under ⟨ak1, as1, ad1⟩ 8).s = es at *
  clear hes
  generalize hed : (Fo.under ⟨ak1, as1, ad1⟩ 8).d = ed at *
  clear hed
  generalize hgk : (Fo.under ⟨bk1, bs1, bd1⟩ 8).k = gk at *
  clear hgk
  generalize hgs : (Fo.under ⟨bk1, bs1, bd1⟩ 8).s = gs at *
  clear hgs
  generalize hgd : (Fo.under ⟨bk1, bs1, bd1⟩ 8).d = gd at *
  clear hgd
  have P0 := Lib.hid p0
  clear hl1 hr1 hs1 hl hr hs hw
  have HB0 := Lib.hid (show Below w.heap.size w ((w.alloc (.cells #[.int .i64 8, .string n, .int .i64 vl, .string fl, .slice Al al.length cl, .int .i64 vr, .string fr, .slice Ar ar.length cr, .slice (some ⟨b, o, none⟩) 1 c] 27)).alloc (.cells #[.int .i64 0, .int .i64 0, .int .i64 0, .int .i64 0, .int .i64 0, .int .i64 0] 47)) by (repeat' (first | (with_reducible assumption) | (with_reducible exact Below.refl _ _) | (with_reducible refine Below.setCell ?_ ?_ _) | (with_reducible refine Below.alloc ?_ ?_ _) | (with_reducible apply Below.drew) | omega | (simp; done) | (simp; omega))))
  have BK1 := Lib.hid ((Blk.new w 27 [.int .i64 8, .string n, .int .i64 vl, .string fl, .slice Al al.length cl, .int .i64 vr, .string fr, .slice Ar ar.length cr, .slice (some ⟨b, o, none⟩) 1 c]).alloc (.cells #[.int .i64 0, .int .i64 0, .int .i64 0, .int .i64 0, .int .i64 0, .int .i64 0] 47))
  have BK2 := Lib.hid (Blk.new' (w.alloc (.cells #[.int .i64 8, .string n, .int .i64 vl, .string fl, .slice Al al.length cl, .int .i64 vr, .string fr, .slice Ar ar.length cr, .slice (some ⟨b, o, none⟩) 1 c] 27)) (w.heap.size + 1) 47 [.int .i64 0, .int .i64 0, .int .i64 0, .int .i64 0, .int .i64 0, .int .i64 0] (by simp))
  simp only [List.toArray] at BK1 BK2
  go_enter Tryz.func18, Tryz.ntmps18
  go_upto_region 9 with (fail)
  generalize hW : (w.alloc (.cells #[.int .i64 8, .string n, .int .i64 vl, .string fl, .slice Al al.length cl, .int .i64 vr, .string fr, .slice Ar ar.length cr, .slice (some ⟨b, o, none⟩) 1 c] 27)).alloc (.cells #[.int .i64 0, .int .i64 0, .int .i64 0, .int .i64 0, .int .i64 0, .int .i64 0] 47) = W at *
  clear hW
  have z0 := BK1.out.cell 0
  have z1 := BK1.out.cell 1
  have z2 := BK1.out.cell 2
  have z3 := BK1.out.cell 3
  have z4 := BK1.out.cell 4
  have z5 := BK1.out.cell 5
  have z6 := BK1.out.cell 6
  have z7 := BK1.out.cell 7
  have z8 := BK1.out.cell 8
  simp only [List.getElem?_cons_zero, List.getElem?_cons_succ] at z0 z1 z2 z3 z4 z5 z6 z7 z8
  have pc0 := keepc HB0.out p0
  have pc1 := keepc HB0.out p1
  have pc2 := keepc HB0.out p2
  have pc3 := keepc HB0.out p3
  have pc4 := keepc HB0.out p4
  have pc5 := keepc HB0.out p5
  have pc6 := keepc HB0.out p6
  have pc7 := keepc HB0.out p7
  have pc8 := keepc HB0.out p8
  clear p0 p1 p2 p3 p4 p5 p6 p7 p8
  go_wp2_with fail
  refine (HI1.out _ HB0.out).mono ?_
  rintro e w2 ⟨rfl, hb2⟩
  have HB2 := Lib.hid (HB0.out.trans (hb2.mono HB0.out.size))
  have BQ1 := Lib.hid (Blk.go BK1.out hb2)
  have BQ2 := Lib.hid (Blk.go BK2.out hb2)
  clear z0 z1 z2 z3 z4 z5 z6 z7 z8 pc0 pc1 pc2 pc3 pc4 pc5 pc6 pc7 pc8 hb2
  go_upto_region 10 with (fail)
  have BM := Lib.hid (Blk.new w2 47 [.int .i64 ak1, .int .i64 as1, .int .i64 ad1, .int .i64 bk1, .int .i64 bs1, .int .i64 bd1])
  have BS1 := Lib.hid (BQ1.out.alloc (.cells #[.int .i64 ak1, .int .i64 as1, .int .i64 ad1, .int .i64 bk1, .int .i64 bs1, .int .i64 bd1] 47))
  have BS2 := Lib.hid (BQ2.out.alloc (.cells #[.int .i64 ak1, .int .i64 as1, .int .i64 ad1, .int .i64 bk1, .int .i64 bs1, .int .i64 bd1] 47))
  have HB3 := Lib.hid (Below.alloc HB2.out HB2.out.size (.cells #[.int .i64 ak1, .int .i64 as1, .int .i64 ad1, .int .i64 bk1, .int .i64 bs1, .int .i64 bd1] 47))
  have hl1 := BQ1.out.lt
  have hl2 := BQ2.out.lt
  simp only [List.toArray] at BM
  generalize hgm : w2.heap.size = gm at *
  generalize hW3 : w2.alloc (.cells #[.int .i64 ak1, .int .i64 as1, .int .i64 ad1, .int .i64 bk1, .int .i64 bs1, .int .i64 bd1] 47) = W3 at *
  clear hgm hW3
  have hne1 : w.heap.size + 1 ≠ gm := by omega
  have hne2 : gm ≠ w.heap.size + 1 := by omega
  clear hl1 hl2
  have z0 := BS1.out.cell 0
  simp only [List.getElem?_cons_zero] at z0
  have Z0 := Lib.hid z0
  have m0 := BM.out.cell 0
  have m1 := BM.out.cell 1
  have m2 := BM.out.cell 2
  have m3 := BM.out.cell 3
  have m4 := BM.out.cell 4
  have m5 := BM.out.cell 5
  simp only [List.getElem?_cons_zero, List.getElem?_cons_succ] at m0 m1 m2 m3 m4 m5
  have M0 := Lib.hid m0
  have M1 := Lib.hid m1
  have M2 := Lib.hid m2
  have M3 := Lib.hid m3
  have M4 := Lib.hid m4
  have M5 := Lib.hid m5
  have HQ0 := Lib.hid (bel_drew1 W3)
  go_upto_region 15 with (fail)
  (first | (go_region_held3 (fun w' => w'.cell? ⟨w.heap.size, 0, none⟩ = some (.int .i64 8) ∧ w'.cell? ⟨gm, 0, none⟩ = some (.int .i64 ak1) ∧ w'.cell? ⟨gm, 1, none⟩ = some (.int .i64 as1) ∧ w'.cell? ⟨gm, 2, none⟩ = some (.int .i64 ad1) ∧ w'.cell? ⟨gm, 3, none⟩ = some (.int .i64 bk1) ∧ w'.cell? ⟨gm, 4, none⟩ = some (.int .i64 bs1) ∧ w'.cell? ⟨gm, 5, none⟩ = some (.int .i64 bd1)) (go_keep) (first | (go_at_call_of 38 (Value.agg #[.int .i64 ak1, .int .i64 as1, .int .i64 ad1]); refine (HU1.out _).mono ?_; rintro e w9 ⟨rfl, hb9⟩; have HQ1 := Lib.hid (bel_go (by first | exact HQ1.out | exact HQ0.out) hb9); clear hb9; have z0 := keepc HQ1.out Z0.out; have m0 := keepc HQ1.out M0.out; have m1 := keepc HQ1.out M1.out; have m2 := keepc HQ1.out M2.out; have m3 := keepc HQ1.out M3.out; have m4 := keepc HQ1.out M4.out; have m5 := keepc HQ1.out M5.out; have BR := Lib.hid (BS2.out.below HQ1.out BS2.out.lt); have yr0 := BR.out.cell 0; have fr0 := BR.out.free 0; have yr1 := BR.out.cell 1; have fr1 := BR.out.free 1; have yr2 := BR.out.cell 2; have fr2 := BR.out.free 2; have yr3 := BR.out.cell 3; have fr3 := BR.out.free 3; have yr4 := BR.out.cell 4; have fr4 := BR.out.free 4; have yr5 := BR.out.cell 5; have fr5 := BR.out.free 5; simp only [List.getElem?_cons_zero, List.getElem?_cons_succ] at yr0 yr1 yr2 yr3 yr4 yr5; have hB := bel_go HB3.out HQ1.out) | (go_at_call_of 38 (Value.agg #[.int .i64 bk1, .int .i64 bs1, .int .i64 bd1]); refine (HU2.out _).mono ?_; rintro e w9 ⟨rfl, hb9⟩; have HQ1 := Lib.hid (bel_go (by first | exact HQ1.out | exact HQ0.out) hb9); clear hb9; have z0 := keepc HQ1.out Z0.out; have m0 := keepc HQ1.out M0.out; have m1 := keepc HQ1.out M1.out; have m2 := keepc HQ1.out M2.out; have m3 := keepc HQ1.out M3.out; have m4 := keepc HQ1.out M4.out; have m5 := keepc HQ1.out M5.out; have BR := Lib.hid (BS2.out.below HQ1.out BS2.out.lt); have yr0 := BR.out.cell 0; have fr0 := BR.out.free 0; have yr1 := BR.out.cell 1; have fr1 := BR.out.free 1; have yr2 := BR.out.cell 2; have fr2 := BR.out.free 2; have yr3 := BR.out.cell 3; have fr3 := BR.out.free 3; have yr4 := BR.out.cell 4; have fr4 := BR.out.free 4; have yr5 := BR.out.cell 5; have fr5 := BR.out.free 5; simp only [List.getElem?_cons_zero, List.getElem?_cons_succ] at yr0 yr1 yr2 yr3 yr4 yr5; have hB := bel_go HB3.out HQ1.out))) | fail "held")
  all_goals
    go_wp2_with fail
    refine bodyPost_ret (v := .agg #[.int .i64 ek, .int .i64 es, .int .i64 ed, .int .i64 gk, .int .i64 gs, .int .i64 gd]) ?_ rfl ⟨rfl, by (repeat' (first | (with_reducible assumption) | (with_reducible exact Below.refl _ _) | (with_reducible refine Below.setCell ?_ ?_ _) | (with_reducible refine Below.alloc ?_ ?_ _) | (with_reducible apply Below.drew) | omega | (simp; done) | (simp; omega)))⟩
    simp [results, Tryz.results18, go_sem, yr0, yr1, yr2, yr3, yr4, yr5]
set_option maxRecDepth 100000 in
set_option maxHeartbeats 6400000 in
theorem meas3 (N : Nat) (ih : MeasAt 18 N) (k : Int) (n : ByteArray) (vl : Int) (fl : ByteArray) (al : List Tm) (vr : Int) (fr : ByteArray) (ar : List Tm) (ts : List Fm) (Al : Option Addr) (cl : Nat) (Ar : Option Addr) (cr : Nat) (A : Option Addr) (c : Nat) (a1 a2 : Fm) (S : Nat → Prop) (w : World) (h : k = 3) (hts : ts = [a1, a2]) (hN : (Fm.mk k n (.mk vl fl al) (.mk vr fr ar) ts).wt ≤ N + 1) (hNN : N ≤ 1125899906842623) (hsh1 : a1.shape = true) (hsh2 : a2.shape = true) (hl : ST S w Al al.length cl al) (hr : ST S w Ar ar.length cr ar) (hs : SF S w A ts.length c ts) : Calls Tryz.prog 18 #[.agg #[.int .i64 k, .string n, .int .i64 vl, .string fl, .slice Al al.length cl, .int .i64 vr, .string fr, .slice Ar ar.length cr, .slice A ts.length c]] w fun e w' => e = .returned (.agg #[.int .i64 ((Fm.mk k n (.mk vl fl al) (.mk vr fr ar) ts).meas).1.k, .int .i64 ((Fm.mk k n (.mk vl fl al) (.mk vr fr ar) ts).meas).1.s, .int .i64 ((Fm.mk k n (.mk vl fl al) (.mk vr fr ar) ts).meas).1.d, .int .i64 ((Fm.mk k n (.mk vl fl al) (.mk vr fr ar) ts).meas).2.k, .int .i64 ((Fm.mk k n (.mk vl fl al) (.mk vr fr ar) ts).meas).2.s, .int .i64 ((Fm.mk k n (.mk vl fl al) (.mk vr fr ar) ts).meas).2.d]) ∧ Below w.heap.size w w' := by
  subst h hts
  obtain ⟨b, o, hA1, k1, n1, vl1, fl1, al1, vr1, fr1, ar1, ts1, Al1, cl1, Ar1, cr1, A1, c1, hm1, hl1, hr1, hs1, p0, p1, p2, p3, p4, p5, p6, p7, p8⟩ := hs.at 0 (by simp)
  change a1 = _ at hm1
  subst hm1
  subst hA1
  simp only [Nat.zero_mul, Nat.one_mul, Nat.add_zero] at p0 p1 p2 p3 p4 p5 p6 p7 p8
  obtain ⟨b', o', hA2, k2, n2, vl2, fl2, al2, vr2, fr2, ar2, ts2, Al2, cl2, Ar2, cr2, A2, c2, hm2, hl2, hr2, hs2, q0, q1, q2, q3, q4, q5, q6, q7, q8⟩ := hs.at 1 (by simp)
  change a2 = _ at hm2
  subst hm2
  injection hA2 with hA2
  injection hA2 with hb2 ho2
  subst hb2 ho2
  simp only [Nat.zero_mul, Nat.one_mul, Nat.add_zero] at q0 q1 q2 q3 q4 q5 q6 q7 q8
  have hw : (Fm.mk k1 n1 (.mk vl1 fl1 al1) (.mk vr1 fr1 ar1) ts1).wt + (Fm.mk k2 n2 (.mk vl2 fl2 al2) (.mk vr2 fr2 ar2) ts2).wt + 3 ≤ N + 1 := by have hh := hN; rw [Fm.wt, Fm.wts, Fm.wts, Fm.wts] at hh; have := (Tm.mk vl fl al).wt_pos; have := (Tm.mk vr fr ar).wt_pos; omega
  have HI1 := Lib.hid (fun w' (hb : Below w.heap.size w w') => ih k1 n1 vl1 fl1 al1 vr1 fr1 ar1 ts1 Al1 cl1 Ar1 cr1 A1 c1 S w' (by omega) (by omega) hsh1 (hl1.stay (Stay.below hb)) (hr1.stay (Stay.below hb)) (hs1.stay (Stay.below hb)))
  have hbd1 := Fm.meas_b (Fm.mk k1 n1 (.mk vl1 fl1 al1) (.mk vr1 fr1 ar1) ts1) (by omega)
  have hbm1 : (2 * ((Fm.mk k1 n1 (.mk vl1 fl1 al1) (.mk vr1 fr1 ar1) ts1).wt : Int)) ≤ 2251799813685248 := by omega
  have HI2 := Lib.hid (fun w' (hb : Below w.heap.size w w') => ih k2 n2 vl2 fl2 al2 vr2 fr2 ar2 ts2 Al2 cl2 Ar2 cr2 A2 c2 S w' (by omega) (by omega) hsh2 (hl2.stay (Stay.below hb)) (hr2.stay (Stay.below hb)) (hs2.stay (Stay.below hb)))
  have hbd2 := Fm.meas_b (Fm.mk k2 n2 (.mk vl2 fl2 al2) (.mk vr2 fr2 ar2) ts2) (by omega)
  have hbm2 : (2 * ((Fm.mk k2 n2 (.mk vl2 fl2 al2) (.mk vr2 fr2 ar2) ts2).wt : Int)) ≤ 2251799813685248 := by omega
  have hv : Fm.meas (Fm.mk 3 n (.mk vl fl al) (.mk vr fr ar) [(Fm.mk k1 n1 (.mk vl1 fl1 al1) (.mk vr1 fr1 ar1) ts1), (Fm.mk k2 n2 (.mk vl2 fl2 al2) (.mk vr2 fr2 ar2) ts2)]) = (((Fm.mk k1 n1 (.mk vl1 fl1 al1) (.mk vr1 fr1 ar1) ts1).meas.1.with 3 (Fm.mk k2 n2 (.mk vl2 fl2 al2) (.mk vr2 fr2 ar2) ts2).meas.1), ((Fm.mk k1 n1 (.mk vl1 fl1 al1) (.mk vr1 fr1 ar1) ts1).meas.2.with 4 (Fm.mk k2 n2 (.mk vl2 fl2 al2) (.mk vr2 fr2 ar2) ts2).meas.2)) := by rw [Fm.meas, Fm.measL, Fm.measL, Fm.measL]; rfl
  rw [hv]
  clear hv hN ih
  generalize hm1 : (Fm.mk k1 n1 (.mk vl1 fl1 al1) (.mk vr1 fr1 ar1) ts1).meas = m1 at *
  clear hm1
  obtain ⟨⟨ak1, as1, ad1⟩, ⟨bk1, bs1, bd1⟩⟩ := m1
  have HIB1 : Hid (InB 2251799813685248 ⟨ak1, as1, ad1⟩ ∧ InB 2251799813685248 ⟨bk1, bs1, bd1⟩) := Lib.hid ⟨hbd1.1.mono hbm1, hbd1.2.mono hbm1⟩
  obtain ⟨⟨u11, u21, u31, u41⟩, ⟨v11, v21, v31, v41⟩⟩ := hbd1
  simp only at u11 u21 u31 u41 v11 v21 v31 v41
  have hbd1 : (0 ≤ as1 ∧ as1 ≤ 1152921504606846976) ∧ (0 ≤ ad1 ∧ ad1 ≤ 1152921504606846976) ∧ (0 ≤ bs1 ∧ bs1 ≤ 1152921504606846976) ∧ (0 ≤ bd1 ∧ bd1 ≤ 1152921504606846976) := by omega
  have HBD1 := Lib.hid hbd1
  clear u11 u21 u31 u41 v11 v21 v31 v41 hbd1 hbm1
  generalize hm2 : (Fm.mk k2 n2 (.mk vl2 fl2 al2) (.mk vr2 fr2 ar2) ts2).meas = m2 at *
  clear hm2
  obtain ⟨⟨ak2, as2, ad2⟩, ⟨bk2, bs2, bd2⟩⟩ := m2
  have HIB2 : Hid (InB 2251799813685248 ⟨ak2, as2, ad2⟩ ∧ InB 2251799813685248 ⟨bk2, bs2, bd2⟩) := Lib.hid ⟨hbd2.1.mono hbm2, hbd2.2.mono hbm2⟩
  obtain ⟨⟨u12, u22, u32, u42⟩, ⟨v12, v22, v32, v42⟩⟩ := hbd2
  simp only at u12 u22 u32 u42 v12 v22 v32 v42
  have hbd2 : (0 ≤ as2 ∧ as2 ≤ 1152921504606846976) ∧ (0 ≤ ad2 ∧ ad2 ≤ 1152921504606846976) ∧ (0 ≤ bs2 ∧ bs2 ≤ 1152921504606846976) ∧ (0 ≤ bd2 ∧ bd2 ≤ 1152921504606846976) := by omega
  have HBD2 := Lib.hid hbd2
  clear u12 u22 u32 u42 v12 v22 v32 v42 hbd2 hbm2
  have HWe := Lib.hid (fun w' => with_any ak1 as1 ad1 3 ak2 as2 ad2 w' HBD1.out.1 HBD1.out.2.1 HBD2.out.1 HBD2.out.2.1)
  generalize hek : (Fo.with ⟨ak1, as1, ad1⟩ 3 ⟨ak2, as2, ad2⟩).k = ek at *
  clear hek
  generalize hes : (Fo.with ⟨ak1, as1, ad1⟩ 3 ⟨ak2, as2, ad2⟩).s = es at *
  clear hes
  generalize hed : (Fo.with ⟨ak1, as1, ad1⟩ 3 ⟨ak2, as2, ad2⟩).d = ed at *
  clear hed
  have HWg := Lib.hid (fun w' => with_any bk1 bs1 bd1 4 bk2 bs2 bd2 w' HBD1.out.2.2.1 HBD1.out.2.2.2 HBD2.out.2.2.1 HBD2.out.2.2.2)
  generalize hgk : (Fo.with ⟨bk1, bs1, bd1⟩ 4 ⟨bk2, bs2, bd2⟩).k = gk at *
  clear hgk
  generalize hgs : (Fo.with ⟨bk1, bs1, bd1⟩ 4 ⟨bk2, bs2, bd2⟩).s = gs at *
  clear hgs
  generalize hgd : (Fo.with ⟨bk1, bs1, bd1⟩ 4 ⟨bk2, bs2, bd2⟩).d = gd at *
  clear hgd
  clear hl1 hr1 hs1 hl2 hr2 hs2 hl hr hs hw
  have Q0 := Lib.hid q0
  have Q1 := Lib.hid q1
  have Q2 := Lib.hid q2
  have Q3 := Lib.hid q3
  have Q4 := Lib.hid q4
  have Q5 := Lib.hid q5
  have Q6 := Lib.hid q6
  have Q7 := Lib.hid q7
  have Q8 := Lib.hid q8
  have HB0 := Lib.hid (show Below w.heap.size w ((w.alloc (.cells #[.int .i64 3, .string n, .int .i64 vl, .string fl, .slice Al al.length cl, .int .i64 vr, .string fr, .slice Ar ar.length cr, .slice (some ⟨b, o, none⟩) 2 c] 27)).alloc (.cells #[.int .i64 0, .int .i64 0, .int .i64 0, .int .i64 0, .int .i64 0, .int .i64 0] 47)) by (repeat' (first | (with_reducible assumption) | (with_reducible exact Below.refl _ _) | (with_reducible refine Below.setCell ?_ ?_ _) | (with_reducible refine Below.alloc ?_ ?_ _) | (with_reducible apply Below.drew) | omega | (simp; done) | (simp; omega))))
  have BK1 := Lib.hid ((Blk.new w 27 [.int .i64 3, .string n, .int .i64 vl, .string fl, .slice Al al.length cl, .int .i64 vr, .string fr, .slice Ar ar.length cr, .slice (some ⟨b, o, none⟩) 2 c]).alloc (.cells #[.int .i64 0, .int .i64 0, .int .i64 0, .int .i64 0, .int .i64 0, .int .i64 0] 47))
  have BK2 := Lib.hid (Blk.new' (w.alloc (.cells #[.int .i64 3, .string n, .int .i64 vl, .string fl, .slice Al al.length cl, .int .i64 vr, .string fr, .slice Ar ar.length cr, .slice (some ⟨b, o, none⟩) 2 c] 27)) (w.heap.size + 1) 47 [.int .i64 0, .int .i64 0, .int .i64 0, .int .i64 0, .int .i64 0, .int .i64 0] (by simp))
  simp only [List.toArray] at BK1 BK2
  clear q0 q1 q2 q3 q4 q5 q6 q7 q8
  go_enter Tryz.func18, Tryz.ntmps18
  go_upto_region 9 with (fail)
  generalize hW : (w.alloc (.cells #[.int .i64 3, .string n, .int .i64 vl, .string fl, .slice Al al.length cl, .int .i64 vr, .string fr, .slice Ar ar.length cr, .slice (some ⟨b, o, none⟩) 2 c] 27)).alloc (.cells #[.int .i64 0, .int .i64 0, .int .i64 0, .int .i64 0, .int .i64 0, .int .i64 0] 47) = W at *
  clear hW
  have z0 := BK1.out.cell 0
  have z1 := BK1.out.cell 1
  have z2 := BK1.out.cell 2
  have z3 := BK1.out.cell 3
  have z4 := BK1.out.cell 4
  have z5 := BK1.out.cell 5
  have z6 := BK1.out.cell 6
  have z7 := BK1.out.cell 7
  have z8 := BK1.out.cell 8
  simp only [List.getElem?_cons_zero, List.getElem?_cons_succ] at z0 z1 z2 z3 z4 z5 z6 z7 z8
  have pc0 := keepc HB0.out p0
  have pc1 := keepc HB0.out p1
  have pc2 := keepc HB0.out p2
  have pc3 := keepc HB0.out p3
  have pc4 := keepc HB0.out p4
  have pc5 := keepc HB0.out p5
  have pc6 := keepc HB0.out p6
  have pc7 := keepc HB0.out p7
  have pc8 := keepc HB0.out p8
  clear p0 p1 p2 p3 p4 p5 p6 p7 p8
  go_wp2_with fail
  refine (HI1.out _ HB0.out).mono ?_
  rintro e w2 ⟨rfl, hb2⟩
  have HB2 := Lib.hid (HB0.out.trans (hb2.mono HB0.out.size))
  have BQ1 := Lib.hid (Blk.go BK1.out hb2)
  have BQ2 := Lib.hid (Blk.go BK2.out hb2)
  clear z0 z1 z2 z3 z4 z5 z6 z7 z8 pc0 pc1 pc2 pc3 pc4 pc5 pc6 pc7 pc8 hb2 BK1 BK2
  go_upto_region 10 with (fail)
  have BM := Lib.hid (Blk.new w2 47 [.int .i64 ak1, .int .i64 as1, .int .i64 ad1, .int .i64 bk1, .int .i64 bs1, .int .i64 bd1])
  have BS1 := Lib.hid (BQ1.out.alloc (.cells #[.int .i64 ak1, .int .i64 as1, .int .i64 ad1, .int .i64 bk1, .int .i64 bs1, .int .i64 bd1] 47))
  have BS2 := Lib.hid (BQ2.out.alloc (.cells #[.int .i64 ak1, .int .i64 as1, .int .i64 ad1, .int .i64 bk1, .int .i64 bs1, .int .i64 bd1] 47))
  have HB3 := Lib.hid (Below.alloc HB2.out HB2.out.size (.cells #[.int .i64 ak1, .int .i64 as1, .int .i64 ad1, .int .i64 bk1, .int .i64 bs1, .int .i64 bd1] 47))
  have hl1 := BQ1.out.lt
  have hl2 := BQ2.out.lt
  simp only [List.toArray] at BM
  generalize hgm : w2.heap.size = gm at *
  generalize hW3 : w2.alloc (.cells #[.int .i64 ak1, .int .i64 as1, .int .i64 ad1, .int .i64 bk1, .int .i64 bs1, .int .i64 bd1] 47) = W3 at *
  clear hgm hW3
  have hne1 : w.heap.size + 1 ≠ gm := by omega
  have hne2 : gm ≠ w.heap.size + 1 := by omega
  have hne0 : gm ≠ w.heap.size := by omega
  have hgw : w.heap.size ≤ gm := by omega
  clear hl1 hl2 BQ1 BQ2
  have z0 := BS1.out.cell 0
  have z1 := BS1.out.cell 1
  have z2 := BS1.out.cell 2
  have z3 := BS1.out.cell 3
  have z4 := BS1.out.cell 4
  have z5 := BS1.out.cell 5
  have z6 := BS1.out.cell 6
  have z7 := BS1.out.cell 7
  have z8 := BS1.out.cell 8
  simp only [List.getElem?_cons_zero, List.getElem?_cons_succ] at z0 z1 z2 z3 z4 z5 z6 z7 z8
  have pc0 := keepc HB3.out Q0.out
  have pc1 := keepc HB3.out Q1.out
  have pc2 := keepc HB3.out Q2.out
  have pc3 := keepc HB3.out Q3.out
  have pc4 := keepc HB3.out Q4.out
  have pc5 := keepc HB3.out Q5.out
  have pc6 := keepc HB3.out Q6.out
  have pc7 := keepc HB3.out Q7.out
  have pc8 := keepc HB3.out Q8.out
  go_wp2_with fail
  refine (HI2.out _ HB3.out).mono ?_
  rintro e w4 ⟨rfl, hb4⟩
  have HB4 := Lib.hid (bel_go HB3.out hb4)
  have BT1 := Lib.hid (Blk.go BS1.out hb4)
  have BT2 := Lib.hid (Blk.go BS2.out hb4)
  have BTM := Lib.hid (Blk.go BM.out hb4)
  clear z0 z1 z2 z3 z4 z5 z6 z7 z8 pc0 pc1 pc2 pc3 pc4 pc5 pc6 pc7 pc8 hb4 BS1 BS2 BM
  go_upto_region 17 with (fail)
  have BU5 := Lib.hid (Blk.new w4 47 [.int .i64 ak2, .int .i64 as2, .int .i64 ad2, .int .i64 bk2, .int .i64 bs2, .int .i64 bd2])
  have BU1 := Lib.hid (BT1.out.alloc (.cells #[.int .i64 ak2, .int .i64 as2, .int .i64 ad2, .int .i64 bk2, .int .i64 bs2, .int .i64 bd2] 47))
  have BU2 := Lib.hid (BT2.out.alloc (.cells #[.int .i64 ak2, .int .i64 as2, .int .i64 ad2, .int .i64 bk2, .int .i64 bs2, .int .i64 bd2] 47))
  have BUM := Lib.hid (BTM.out.alloc (.cells #[.int .i64 ak2, .int .i64 as2, .int .i64 ad2, .int .i64 bk2, .int .i64 bs2, .int .i64 bd2] 47))
  have HB5 := Lib.hid (Below.alloc HB4.out HB4.out.size (.cells #[.int .i64 ak2, .int .i64 as2, .int .i64 ad2, .int .i64 bk2, .int .i64 bs2, .int .i64 bd2] 47))
  have hl1 := BT1.out.lt
  have hl2 := BT2.out.lt
  have hl3 := BTM.out.lt
  simp only [List.toArray] at BU5
  generalize hgn : w4.heap.size = gn at *
  generalize hW5 : w4.alloc (.cells #[.int .i64 ak2, .int .i64 as2, .int .i64 ad2, .int .i64 bk2, .int .i64 bs2, .int .i64 bd2] 47) = W5 at *
  clear hgn hW5
  have hne3 : w.heap.size + 1 ≠ gn := by omega
  have hne4 : gn ≠ w.heap.size + 1 := by omega
  have hne5 : gm ≠ gn := by omega
  have hne6 : gn ≠ gm := by omega
  clear hl1 hl2 hl3 BT1 BT2 BTM
  have z0 := BU1.out.cell 0
  simp only [List.getElem?_cons_zero] at z0
  go_upto_region 23 with (fail)
  clear z0
  have m0 := BUM.out.cell 0
  have m1 := BUM.out.cell 1
  have m2 := BUM.out.cell 2
  have m3 := BUM.out.cell 3
  have m4 := BUM.out.cell 4
  have m5 := BUM.out.cell 5
  simp only [List.getElem?_cons_zero, List.getElem?_cons_succ] at m0 m1 m2 m3 m4 m5
  have M0 := Lib.hid m0
  have M1 := Lib.hid m1
  have M2 := Lib.hid m2
  have M3 := Lib.hid m3
  have M4 := Lib.hid m4
  have M5 := Lib.hid m5
  have n0 := BU5.out.cell 0
  have n1 := BU5.out.cell 1
  have n2 := BU5.out.cell 2
  have n3 := BU5.out.cell 3
  have n4 := BU5.out.cell 4
  have n5 := BU5.out.cell 5
  simp only [List.getElem?_cons_zero, List.getElem?_cons_succ] at n0 n1 n2 n3 n4 n5
  have N0 := Lib.hid n0
  have N1 := Lib.hid n1
  have N2 := Lib.hid n2
  have N3 := Lib.hid n3
  have N4 := Lib.hid n4
  have N5 := Lib.hid n5
  have HQ0 := Lib.hid (bel_drew1 W5)
  (first | (go_region_held3 (fun w' => w'.cell? ⟨gm, 0, none⟩ = some (.int .i64 ak1) ∧ w'.cell? ⟨gm, 1, none⟩ = some (.int .i64 as1) ∧ w'.cell? ⟨gm, 2, none⟩ = some (.int .i64 ad1) ∧ w'.cell? ⟨gm, 3, none⟩ = some (.int .i64 bk1) ∧ w'.cell? ⟨gm, 4, none⟩ = some (.int .i64 bs1) ∧ w'.cell? ⟨gm, 5, none⟩ = some (.int .i64 bd1) ∧ w'.cell? ⟨gn, 0, none⟩ = some (.int .i64 ak2) ∧ w'.cell? ⟨gn, 1, none⟩ = some (.int .i64 as2) ∧ w'.cell? ⟨gn, 2, none⟩ = some (.int .i64 ad2) ∧ w'.cell? ⟨gn, 3, none⟩ = some (.int .i64 bk2) ∧ w'.cell? ⟨gn, 4, none⟩ = some (.int .i64 bs2) ∧ w'.cell? ⟨gn, 5, none⟩ = some (.int .i64 bd2)) (go_keep) (first | (go_at_call_of 39 (Value.agg #[.int .i64 ak1, .int .i64 as1, .int .i64 ad1]); refine (HWe.out _).mono ?_; rintro e w9 ⟨rfl, hb9⟩; have HQ1 := Lib.hid (bel_go (by first | exact HQ1.out | exact HQ0.out) hb9); clear hb9; have m0 := keepc HQ1.out M0.out; have m1 := keepc HQ1.out M1.out; have m2 := keepc HQ1.out M2.out; have m3 := keepc HQ1.out M3.out; have m4 := keepc HQ1.out M4.out; have m5 := keepc HQ1.out M5.out; have n0 := keepc HQ1.out N0.out; have n1 := keepc HQ1.out N1.out; have n2 := keepc HQ1.out N2.out; have n3 := keepc HQ1.out N3.out; have n4 := keepc HQ1.out N4.out; have n5 := keepc HQ1.out N5.out; have BR := Lib.hid (BU2.out.below HQ1.out BU2.out.lt); have yr0 := BR.out.cell 0; have fr0 := BR.out.free 0; have yr1 := BR.out.cell 1; have fr1 := BR.out.free 1; have yr2 := BR.out.cell 2; have fr2 := BR.out.free 2; have yr3 := BR.out.cell 3; have fr3 := BR.out.free 3; have yr4 := BR.out.cell 4; have fr4 := BR.out.free 4; have yr5 := BR.out.cell 5; have fr5 := BR.out.free 5; simp only [List.getElem?_cons_zero, List.getElem?_cons_succ] at yr0 yr1 yr2 yr3 yr4 yr5; have hB := bel_go HB5.out HQ1.out) | (go_at_call_of 39 (Value.agg #[.int .i64 bk1, .int .i64 bs1, .int .i64 bd1]); refine (HWg.out _).mono ?_; rintro e w9 ⟨rfl, hb9⟩; have HQ1 := Lib.hid (bel_go (by first | exact HQ1.out | exact HQ0.out) hb9); clear hb9; have m0 := keepc HQ1.out M0.out; have m1 := keepc HQ1.out M1.out; have m2 := keepc HQ1.out M2.out; have m3 := keepc HQ1.out M3.out; have m4 := keepc HQ1.out M4.out; have m5 := keepc HQ1.out M5.out; have n0 := keepc HQ1.out N0.out; have n1 := keepc HQ1.out N1.out; have n2 := keepc HQ1.out N2.out; have n3 := keepc HQ1.out N3.out; have n4 := keepc HQ1.out N4.out; have n5 := keepc HQ1.out N5.out; have BR := Lib.hid (BU2.out.below HQ1.out BU2.out.lt); have yr0 := BR.out.cell 0; have fr0 := BR.out.free 0; have yr1 := BR.out.cell 1; have fr1 := BR.out.free 1; have yr2 := BR.out.cell 2; have fr2 := BR.out.free 2; have yr3 := BR.out.cell 3; have fr3 := BR.out.free 3; have yr4 := BR.out.cell 4; have fr4 := BR.out.free 4; have yr5 := BR.out.cell 5; have fr5 := BR.out.free 5; simp only [List.getElem?_cons_zero, List.getElem?_cons_succ] at yr0 yr1 yr2 yr3 yr4 yr5; have hB := bel_go HB5.out HQ1.out))) | fail "held")
  all_goals
    go_wp2_with fail
    refine bodyPost_ret (v := .agg #[.int .i64 ek, .int .i64 es, .int .i64 ed, .int .i64 gk, .int .i64 gs, .int .i64 gd]) ?_ rfl ⟨rfl, by (repeat' (first | (with_reducible assumption) | (with_reducible exact Below.refl _ _) | (with_reducible refine Below.setCell ?_ ?_ _) | (with_reducible refine Below.alloc ?_ ?_ _) | (with_reducible apply Below.drew) | omega | (simp; done) | (simp; omega)))⟩
    simp [results, Tryz.results18, go_sem, yr0, yr1, yr2, yr3, yr4, yr5]
set_option maxRecDepth 100000 in
set_option maxHeartbeats 6400000 in
theorem meas4 (N : Nat) (ih : MeasAt 18 N) (k : Int) (n : ByteArray) (vl : Int) (fl : ByteArray) (al : List Tm) (vr : Int) (fr : ByteArray) (ar : List Tm) (ts : List Fm) (Al : Option Addr) (cl : Nat) (Ar : Option Addr) (cr : Nat) (A : Option Addr) (c : Nat) (a1 a2 : Fm) (S : Nat → Prop) (w : World) (h : k = 4) (hts : ts = [a1, a2]) (hN : (Fm.mk k n (.mk vl fl al) (.mk vr fr ar) ts).wt ≤ N + 1) (hNN : N ≤ 1125899906842623) (hsh1 : a1.shape = true) (hsh2 : a2.shape = true) (hl : ST S w Al al.length cl al) (hr : ST S w Ar ar.length cr ar) (hs : SF S w A ts.length c ts) : Calls Tryz.prog 18 #[.agg #[.int .i64 k, .string n, .int .i64 vl, .string fl, .slice Al al.length cl, .int .i64 vr, .string fr, .slice Ar ar.length cr, .slice A ts.length c]] w fun e w' => e = .returned (.agg #[.int .i64 ((Fm.mk k n (.mk vl fl al) (.mk vr fr ar) ts).meas).1.k, .int .i64 ((Fm.mk k n (.mk vl fl al) (.mk vr fr ar) ts).meas).1.s, .int .i64 ((Fm.mk k n (.mk vl fl al) (.mk vr fr ar) ts).meas).1.d, .int .i64 ((Fm.mk k n (.mk vl fl al) (.mk vr fr ar) ts).meas).2.k, .int .i64 ((Fm.mk k n (.mk vl fl al) (.mk vr fr ar) ts).meas).2.s, .int .i64 ((Fm.mk k n (.mk vl fl al) (.mk vr fr ar) ts).meas).2.d]) ∧ Below w.heap.size w w' := by
  subst h hts
  obtain ⟨b, o, hA1, k1, n1, vl1, fl1, al1, vr1, fr1, ar1, ts1, Al1, cl1, Ar1, cr1, A1, c1, hm1, hl1, hr1, hs1, p0, p1, p2, p3, p4, p5, p6, p7, p8⟩ := hs.at 0 (by simp)
  change a1 = _ at hm1
  subst hm1
  subst hA1
  simp only [Nat.zero_mul, Nat.one_mul, Nat.add_zero] at p0 p1 p2 p3 p4 p5 p6 p7 p8
  obtain ⟨b', o', hA2, k2, n2, vl2, fl2, al2, vr2, fr2, ar2, ts2, Al2, cl2, Ar2, cr2, A2, c2, hm2, hl2, hr2, hs2, q0, q1, q2, q3, q4, q5, q6, q7, q8⟩ := hs.at 1 (by simp)
  change a2 = _ at hm2
  subst hm2
  injection hA2 with hA2
  injection hA2 with hb2 ho2
  subst hb2 ho2
  simp only [Nat.zero_mul, Nat.one_mul, Nat.add_zero] at q0 q1 q2 q3 q4 q5 q6 q7 q8
  have hw : (Fm.mk k1 n1 (.mk vl1 fl1 al1) (.mk vr1 fr1 ar1) ts1).wt + (Fm.mk k2 n2 (.mk vl2 fl2 al2) (.mk vr2 fr2 ar2) ts2).wt + 3 ≤ N + 1 := by have hh := hN; rw [Fm.wt, Fm.wts, Fm.wts, Fm.wts] at hh; have := (Tm.mk vl fl al).wt_pos; have := (Tm.mk vr fr ar).wt_pos; omega
  have HI1 := Lib.hid (fun w' (hb : Below w.heap.size w w') => ih k1 n1 vl1 fl1 al1 vr1 fr1 ar1 ts1 Al1 cl1 Ar1 cr1 A1 c1 S w' (by omega) (by omega) hsh1 (hl1.stay (Stay.below hb)) (hr1.stay (Stay.below hb)) (hs1.stay (Stay.below hb)))
  have hbd1 := Fm.meas_b (Fm.mk k1 n1 (.mk vl1 fl1 al1) (.mk vr1 fr1 ar1) ts1) (by omega)
  have hbm1 : (2 * ((Fm.mk k1 n1 (.mk vl1 fl1 al1) (.mk vr1 fr1 ar1) ts1).wt : Int)) ≤ 2251799813685248 := by omega
  have HI2 := Lib.hid (fun w' (hb : Below w.heap.size w w') => ih k2 n2 vl2 fl2 al2 vr2 fr2 ar2 ts2 Al2 cl2 Ar2 cr2 A2 c2 S w' (by omega) (by omega) hsh2 (hl2.stay (Stay.below hb)) (hr2.stay (Stay.below hb)) (hs2.stay (Stay.below hb)))
  have hbd2 := Fm.meas_b (Fm.mk k2 n2 (.mk vl2 fl2 al2) (.mk vr2 fr2 ar2) ts2) (by omega)
  have hbm2 : (2 * ((Fm.mk k2 n2 (.mk vl2 fl2 al2) (.mk vr2 fr2 ar2) ts2).wt : Int)) ≤ 2251799813685248 := by omega
  have hv : Fm.meas (Fm.mk 4 n (.mk vl fl al) (.mk vr fr ar) [(Fm.mk k1 n1 (.mk vl1 fl1 al1) (.mk vr1 fr1 ar1) ts1), (Fm.mk k2 n2 (.mk vl2 fl2 al2) (.mk vr2 fr2 ar2) ts2)]) = (((Fm.mk k1 n1 (.mk vl1 fl1 al1) (.mk vr1 fr1 ar1) ts1).meas.1.with 4 (Fm.mk k2 n2 (.mk vl2 fl2 al2) (.mk vr2 fr2 ar2) ts2).meas.1), ((Fm.mk k1 n1 (.mk vl1 fl1 al1) (.mk vr1 fr1 ar1) ts1).meas.2.with 3 (Fm.mk k2 n2 (.mk vl2 fl2 al2) (.mk vr2 fr2 ar2) ts2).meas.2)) := by rw [Fm.meas, Fm.measL, Fm.measL, Fm.measL]; rfl
  rw [hv]
  clear hv hN ih
  generalize hm1 : (Fm.mk k1 n1 (.mk vl1 fl1 al1) (.mk vr1 fr1 ar1) ts1).meas = m1 at *
  clear hm1
  obtain ⟨⟨ak1, as1, ad1⟩, ⟨bk1, bs1, bd1⟩⟩ := m1
  have HIB1 : Hid (InB 2251799813685248 ⟨ak1, as1, ad1⟩ ∧ InB 2251799813685248 ⟨bk1, bs1, bd1⟩) := Lib.hid ⟨hbd1.1.mono hbm1, hbd1.2.mono hbm1⟩
  obtain ⟨⟨u11, u21, u31, u41⟩, ⟨v11, v21, v31, v41⟩⟩ := hbd1
  simp only at u11 u21 u31 u41 v11 v21 v31 v41
  have hbd1 : (0 ≤ as1 ∧ as1 ≤ 1152921504606846976) ∧ (0 ≤ ad1 ∧ ad1 ≤ 1152921504606846976) ∧ (0 ≤ bs1 ∧ bs1 ≤ 1152921504606846976) ∧ (0 ≤ bd1 ∧ bd1 ≤ 1152921504606846976) := by omega
  have HBD1 := Lib.hid hbd1
  clear u11 u21 u31 u41 v11 v21 v31 v41 hbd1 hbm1
  generalize hm2 : (Fm.mk k2 n2 (.mk vl2 fl2 al2) (.mk vr2 fr2 ar2) ts2).meas = m2 at *
  clear hm2
  obtain ⟨⟨ak2, as2, ad2⟩, ⟨bk2, bs2, bd2⟩⟩ := m2
  have HIB2 : Hid (InB 2251799813685248 ⟨ak2, as2, ad2⟩ ∧ InB 2251799813685248 ⟨bk2, bs2, bd2⟩) := Lib.hid ⟨hbd2.1.mono hbm2, hbd2.2.mono hbm2⟩
  obtain ⟨⟨u12, u22, u32, u42⟩, ⟨v12, v22, v32, v42⟩⟩ := hbd2
  simp only at u12 u22 u32 u42 v12 v22 v32 v42
  have hbd2 : (0 ≤ as2 ∧ as2 ≤ 1152921504606846976) ∧ (0 ≤ ad2 ∧ ad2 ≤ 1152921504606846976) ∧ (0 ≤ bs2 ∧ bs2 ≤ 1152921504606846976) ∧ (0 ≤ bd2 ∧ bd2 ≤ 1152921504606846976) := by omega
  have HBD2 := Lib.hid hbd2
  clear u12 u22 u32 u42 v12 v22 v32 v42 hbd2 hbm2
  have HWe := Lib.hid (fun w' => with_any ak1 as1 ad1 4 ak2 as2 ad2 w' HBD1.out.1 HBD1.out.2.1 HBD2.out.1 HBD2.out.2.1)
  generalize hek : (Fo.with ⟨ak1, as1, ad1⟩ 4 ⟨ak2, as2, ad2⟩).k = ek at *
  clear hek
  generalize hes : (Fo.with ⟨ak1, as1, ad1⟩ 4 ⟨ak2, as2, ad2⟩).s = es at *
  clear hes
  generalize hed : (Fo.with ⟨ak1, as1, ad1⟩ 4 ⟨ak2, as2, ad2⟩).d = ed at *
  clear hed
  have HWg := Lib.hid (fun w' => with_any bk1 bs1 bd1 3 bk2 bs2 bd2 w' HBD1.out.2.2.1 HBD1.out.2.2.2 HBD2.out.2.2.1 HBD2.out.2.2.2)
  generalize hgk : (Fo.with ⟨bk1, bs1, bd1⟩ 3 ⟨bk2, bs2, bd2⟩).k = gk at *
  clear hgk
  generalize hgs : (Fo.with ⟨bk1, bs1, bd1⟩ 3 ⟨bk2, bs2, bd2⟩).s = gs at *
  clear hgs
  generalize hgd : (Fo.with ⟨bk1, bs1, bd1⟩ 3 ⟨bk2, bs2, bd2⟩).d = gd at *
  clear hgd
  clear hl1 hr1 hs1 hl2 hr2 hs2 hl hr hs hw
  have Q0 := Lib.hid q0
  have Q1 := Lib.hid q1
  have Q2 := Lib.hid q2
  have Q3 := Lib.hid q3
  have Q4 := Lib.hid q4
  have Q5 := Lib.hid q5
  have Q6 := Lib.hid q6
  have Q7 := Lib.hid q7
  have Q8 := Lib.hid q8
  have HB0 := Lib.hid (show Below w.heap.size w ((w.alloc (.cells #[.int .i64 4, .string n, .int .i64 vl, .string fl, .slice Al al.length cl, .int .i64 vr, .string fr, .slice Ar ar.length cr, .slice (some ⟨b, o, none⟩) 2 c] 27)).alloc (.cells #[.int .i64 0, .int .i64 0, .int .i64 0, .int .i64 0, .int .i64 0, .int .i64 0] 47)) by (repeat' (first | (with_reducible assumption) | (with_reducible exact Below.refl _ _) | (with_reducible refine Below.setCell ?_ ?_ _) | (with_reducible refine Below.alloc ?_ ?_ _) | (with_reducible apply Below.drew) | omega | (simp; done) | (simp; omega))))
  have BK1 := Lib.hid ((Blk.new w 27 [.int .i64 4, .string n, .int .i64 vl, .string fl, .slice Al al.length cl, .int .i64 vr, .string fr, .slice Ar ar.length cr, .slice (some ⟨b, o, none⟩) 2 c]).alloc (.cells #[.int .i64 0, .int .i64 0, .int .i64 0, .int .i64 0, .int .i64 0, .int .i64 0] 47))
  have BK2 := Lib.hid (Blk.new' (w.alloc (.cells #[.int .i64 4, .string n, .int .i64 vl, .string fl, .slice Al al.length cl, .int .i64 vr, .string fr, .slice Ar ar.length cr, .slice (some ⟨b, o, none⟩) 2 c] 27)) (w.heap.size + 1) 47 [.int .i64 0, .int .i64 0, .int .i64 0, .int .i64 0, .int .i64 0, .int .i64 0] (by simp))
  simp only [List.toArray] at BK1 BK2
  clear q0 q1 q2 q3 q4 q5 q6 q7 q8
  go_enter Tryz.func18, Tryz.ntmps18
  go_upto_region 9 with (fail)
  generalize hW : (w.alloc (.cells #[.int .i64 4, .string n, .int .i64 vl, .string fl, .slice Al al.length cl, .int .i64 vr, .string fr, .slice Ar ar.length cr, .slice (some ⟨b, o, none⟩) 2 c] 27)).alloc (.cells #[.int .i64 0, .int .i64 0, .int .i64 0, .int .i64 0, .int .i64 0, .int .i64 0] 47) = W at *
  clear hW
  have z0 := BK1.out.cell 0
  have z1 := BK1.out.cell 1
  have z2 := BK1.out.cell 2
  have z3 := BK1.out.cell 3
  have z4 := BK1.out.cell 4
  have z5 := BK1.out.cell 5
  have z6 := BK1.out.cell 6
  have z7 := BK1.out.cell 7
  have z8 := BK1.out.cell 8
  simp only [List.getElem?_cons_zero, List.getElem?_cons_succ] at z0 z1 z2 z3 z4 z5 z6 z7 z8
  have pc0 := keepc HB0.out p0
  have pc1 := keepc HB0.out p1
  have pc2 := keepc HB0.out p2
  have pc3 := keepc HB0.out p3
  have pc4 := keepc HB0.out p4
  have pc5 := keepc HB0.out p5
  have pc6 := keepc HB0.out p6
  have pc7 := keepc HB0.out p7
  have pc8 := keepc HB0.out p8
  clear p0 p1 p2 p3 p4 p5 p6 p7 p8
  go_wp2_with fail
  refine (HI1.out _ HB0.out).mono ?_
  rintro e w2 ⟨rfl, hb2⟩
  have HB2 := Lib.hid (HB0.out.trans (hb2.mono HB0.out.size))
  have BQ1 := Lib.hid (Blk.go BK1.out hb2)
  have BQ2 := Lib.hid (Blk.go BK2.out hb2)
  clear z0 z1 z2 z3 z4 z5 z6 z7 z8 pc0 pc1 pc2 pc3 pc4 pc5 pc6 pc7 pc8 hb2 BK1 BK2
  go_upto_region 10 with (fail)
  have BM := Lib.hid (Blk.new w2 47 [.int .i64 ak1, .int .i64 as1, .int .i64 ad1, .int .i64 bk1, .int .i64 bs1, .int .i64 bd1])
  have BS1 := Lib.hid (BQ1.out.alloc (.cells #[.int .i64 ak1, .int .i64 as1, .int .i64 ad1, .int .i64 bk1, .int .i64 bs1, .int .i64 bd1] 47))
  have BS2 := Lib.hid (BQ2.out.alloc (.cells #[.int .i64 ak1, .int .i64 as1, .int .i64 ad1, .int .i64 bk1, .int .i64 bs1, .int .i64 bd1] 47))
  have HB3 := Lib.hid (Below.alloc HB2.out HB2.out.size (.cells #[.int .i64 ak1, .int .i64 as1, .int .i64 ad1, .int .i64 bk1, .int .i64 bs1, .int .i64 bd1] 47))
  have hl1 := BQ1.out.lt
  have hl2 := BQ2.out.lt
  simp only [List.toArray] at BM
  generalize hgm : w2.heap.size = gm at *
  generalize hW3 : w2.alloc (.cells #[.int .i64 ak1, .int .i64 as1, .int .i64 ad1, .int .i64 bk1, .int .i64 bs1, .int .i64 bd1] 47) = W3 at *
  clear hgm hW3
  have hne1 : w.heap.size + 1 ≠ gm := by omega
  have hne2 : gm ≠ w.heap.size + 1 := by omega
  have hne0 : gm ≠ w.heap.size := by omega
  have hgw : w.heap.size ≤ gm := by omega
  clear hl1 hl2 BQ1 BQ2
  have z0 := BS1.out.cell 0
  have z1 := BS1.out.cell 1
  have z2 := BS1.out.cell 2
  have z3 := BS1.out.cell 3
  have z4 := BS1.out.cell 4
  have z5 := BS1.out.cell 5
  have z6 := BS1.out.cell 6
  have z7 := BS1.out.cell 7
  have z8 := BS1.out.cell 8
  simp only [List.getElem?_cons_zero, List.getElem?_cons_succ] at z0 z1 z2 z3 z4 z5 z6 z7 z8
  have pc0 := keepc HB3.out Q0.out
  have pc1 := keepc HB3.out Q1.out
  have pc2 := keepc HB3.out Q2.out
  have pc3 := keepc HB3.out Q3.out
  have pc4 := keepc HB3.out Q4.out
  have pc5 := keepc HB3.out Q5.out
  have pc6 := keepc HB3.out Q6.out
  have pc7 := keepc HB3.out Q7.out
  have pc8 := keepc HB3.out Q8.out
  go_wp2_with fail
  refine (HI2.out _ HB3.out).mono ?_
  rintro e w4 ⟨rfl, hb4⟩
  have HB4 := Lib.hid (bel_go HB3.out hb4)
  have BT1 := Lib.hid (Blk.go BS1.out hb4)
  have BT2 := Lib.hid (Blk.go BS2.out hb4)
  have BTM := Lib.hid (Blk.go BM.out hb4)
  clear z0 z1 z2 z3 z4 z5 z6 z7 z8 pc0 pc1 pc2 pc3 pc4 pc5 pc6 pc7 pc8 hb4 BS1 BS2 BM
  go_upto_region 17 with (fail)
  have BU5 := Lib.hid (Blk.new w4 47 [.int .i64 ak2, .int .i64 as2, .int .i64 ad2, .int .i64 bk2, .int .i64 bs2, .int .i64 bd2])
  have BU1 := Lib.hid (BT1.out.alloc (.cells #[.int .i64 ak2, .int .i64 as2, .int .i64 ad2, .int .i64 bk2, .int .i64 bs2, .int .i64 bd2] 47))
  have BU2 := Lib.hid (BT2.out.alloc (.cells #[.int .i64 ak2, .int .i64 as2, .int .i64 ad2, .int .i64 bk2, .int .i64 bs2, .int .i64 bd2] 47))
  have BUM := Lib.hid (BTM.out.alloc (.cells #[.int .i64 ak2, .int .i64 as2, .int .i64 ad2, .int .i64 bk2, .int .i64 bs2, .int .i64 bd2] 47))
  have HB5 := Lib.hid (Below.alloc HB4.out HB4.out.size (.cells #[.int .i64 ak2, .int .i64 as2, .int .i64 ad2, .int .i64 bk2, .int .i64 bs2, .int .i64 bd2] 47))
  have hl1 := BT1.out.lt
  have hl2 := BT2.out.lt
  have hl3 := BTM.out.lt
  simp only [List.toArray] at BU5
  generalize hgn : w4.heap.size = gn at *
  generalize hW5 : w4.alloc (.cells #[.int .i64 ak2, .int .i64 as2, .int .i64 ad2, .int .i64 bk2, .int .i64 bs2, .int .i64 bd2] 47) = W5 at *
  clear hgn hW5
  have hne3 : w.heap.size + 1 ≠ gn := by omega
  have hne4 : gn ≠ w.heap.size + 1 := by omega
  have hne5 : gm ≠ gn := by omega
  have hne6 : gn ≠ gm := by omega
  clear hl1 hl2 hl3 BT1 BT2 BTM
  have z0 := BU1.out.cell 0
  simp only [List.getElem?_cons_zero] at z0
  go_upto_region 22 with (fail)
  clear z0
  have m0 := BUM.out.cell 0
  have m1 := BUM.out.cell 1
  have m2 := BUM.out.cell 2
  have m3 := BUM.out.cell 3
  have m4 := BUM.out.cell 4
  have m5 := BUM.out.cell 5
  simp only [List.getElem?_cons_zero, List.getElem?_cons_succ] at m0 m1 m2 m3 m4 m5
  have M0 := Lib.hid m0
  have M1 := Lib.hid m1
  have M2 := Lib.hid m2
  have M3 := Lib.hid m3
  have M4 := Lib.hid m4
  have M5 := Lib.hid m5
  have n0 := BU5.out.cell 0
  have n1 := BU5.out.cell 1
  have n2 := BU5.out.cell 2
  have n3 := BU5.out.cell 3
  have n4 := BU5.out.cell 4
  have n5 := BU5.out.cell 5
  simp only [List.getElem?_cons_zero, List.getElem?_cons_succ] at n0 n1 n2 n3 n4 n5
  have N0 := Lib.hid n0
  have N1 := Lib.hid n1
  have N2 := Lib.hid n2
  have N3 := Lib.hid n3
  have N4 := Lib.hid n4
  have N5 := Lib.hid n5
  have HQ0 := Lib.hid (bel_drew1 W5)
  (first | (go_region_held3 (fun w' => w'.cell? ⟨gm, 0, none⟩ = some (.int .i64 ak1) ∧ w'.cell? ⟨gm, 1, none⟩ = some (.int .i64 as1) ∧ w'.cell? ⟨gm, 2, none⟩ = some (.int .i64 ad1) ∧ w'.cell? ⟨gm, 3, none⟩ = some (.int .i64 bk1) ∧ w'.cell? ⟨gm, 4, none⟩ = some (.int .i64 bs1) ∧ w'.cell? ⟨gm, 5, none⟩ = some (.int .i64 bd1) ∧ w'.cell? ⟨gn, 0, none⟩ = some (.int .i64 ak2) ∧ w'.cell? ⟨gn, 1, none⟩ = some (.int .i64 as2) ∧ w'.cell? ⟨gn, 2, none⟩ = some (.int .i64 ad2) ∧ w'.cell? ⟨gn, 3, none⟩ = some (.int .i64 bk2) ∧ w'.cell? ⟨gn, 4, none⟩ = some (.int .i64 bs2) ∧ w'.cell? ⟨gn, 5, none⟩ = some (.int .i64 bd2)) (go_keep) (first | (go_at_call_of 39 (Value.agg #[.int .i64 ak1, .int .i64 as1, .int .i64 ad1]); refine (HWe.out _).mono ?_; rintro e w9 ⟨rfl, hb9⟩; have HQ1 := Lib.hid (bel_go (by first | exact HQ1.out | exact HQ0.out) hb9); clear hb9; have m0 := keepc HQ1.out M0.out; have m1 := keepc HQ1.out M1.out; have m2 := keepc HQ1.out M2.out; have m3 := keepc HQ1.out M3.out; have m4 := keepc HQ1.out M4.out; have m5 := keepc HQ1.out M5.out; have n0 := keepc HQ1.out N0.out; have n1 := keepc HQ1.out N1.out; have n2 := keepc HQ1.out N2.out; have n3 := keepc HQ1.out N3.out; have n4 := keepc HQ1.out N4.out; have n5 := keepc HQ1.out N5.out; have BR := Lib.hid (BU2.out.below HQ1.out BU2.out.lt); have yr0 := BR.out.cell 0; have fr0 := BR.out.free 0; have yr1 := BR.out.cell 1; have fr1 := BR.out.free 1; have yr2 := BR.out.cell 2; have fr2 := BR.out.free 2; have yr3 := BR.out.cell 3; have fr3 := BR.out.free 3; have yr4 := BR.out.cell 4; have fr4 := BR.out.free 4; have yr5 := BR.out.cell 5; have fr5 := BR.out.free 5; simp only [List.getElem?_cons_zero, List.getElem?_cons_succ] at yr0 yr1 yr2 yr3 yr4 yr5; have hB := bel_go HB5.out HQ1.out) | (go_at_call_of 39 (Value.agg #[.int .i64 bk1, .int .i64 bs1, .int .i64 bd1]); refine (HWg.out _).mono ?_; rintro e w9 ⟨rfl, hb9⟩; have HQ1 := Lib.hid (bel_go (by first | exact HQ1.out | exact HQ0.out) hb9); clear hb9; have m0 := keepc HQ1.out M0.out; have m1 := keepc HQ1.out M1.out; have m2 := keepc HQ1.out M2.out; have m3 := keepc HQ1.out M3.out; have m4 := keepc HQ1.out M4.out; have m5 := keepc HQ1.out M5.out; have n0 := keepc HQ1.out N0.out; have n1 := keepc HQ1.out N1.out; have n2 := keepc HQ1.out N2.out; have n3 := keepc HQ1.out N3.out; have n4 := keepc HQ1.out N4.out; have n5 := keepc HQ1.out N5.out; have BR := Lib.hid (BU2.out.below HQ1.out BU2.out.lt); have yr0 := BR.out.cell 0; have fr0 := BR.out.free 0; have yr1 := BR.out.cell 1; have fr1 := BR.out.free 1; have yr2 := BR.out.cell 2; have fr2 := BR.out.free 2; have yr3 := BR.out.cell 3; have fr3 := BR.out.free 3; have yr4 := BR.out.cell 4; have fr4 := BR.out.free 4; have yr5 := BR.out.cell 5; have fr5 := BR.out.free 5; simp only [List.getElem?_cons_zero, List.getElem?_cons_succ] at yr0 yr1 yr2 yr3 yr4 yr5; have hB := bel_go HB5.out HQ1.out))) | fail "held")
  all_goals
    go_wp2_with fail
    refine bodyPost_ret (v := .agg #[.int .i64 ek, .int .i64 es, .int .i64 ed, .int .i64 gk, .int .i64 gs, .int .i64 gd]) ?_ rfl ⟨rfl, by (repeat' (first | (with_reducible assumption) | (with_reducible exact Below.refl _ _) | (with_reducible refine Below.setCell ?_ ?_ _) | (with_reducible refine Below.alloc ?_ ?_ _) | (with_reducible apply Below.drew) | omega | (simp; done) | (simp; omega)))⟩
    simp [results, Tryz.results18, go_sem, yr0, yr1, yr2, yr3, yr4, yr5]
set_option maxRecDepth 100000 in
set_option maxHeartbeats 6400000 in
theorem meas5 (N : Nat) (ih : MeasAt 18 N) (k : Int) (n : ByteArray) (vl : Int) (fl : ByteArray) (al : List Tm) (vr : Int) (fr : ByteArray) (ar : List Tm) (ts : List Fm) (Al : Option Addr) (cl : Nat) (Ar : Option Addr) (cr : Nat) (A : Option Addr) (c : Nat) (a1 a2 : Fm) (S : Nat → Prop) (w : World) (h : k = 5) (hts : ts = [a1, a2]) (hN : (Fm.mk k n (.mk vl fl al) (.mk vr fr ar) ts).wt ≤ N + 1) (hNN : N ≤ 1125899906842623) (hsh1 : a1.shape = true) (hsh2 : a2.shape = true) (hl : ST S w Al al.length cl al) (hr : ST S w Ar ar.length cr ar) (hs : SF S w A ts.length c ts) : Calls Tryz.prog 18 #[.agg #[.int .i64 k, .string n, .int .i64 vl, .string fl, .slice Al al.length cl, .int .i64 vr, .string fr, .slice Ar ar.length cr, .slice A ts.length c]] w fun e w' => e = .returned (.agg #[.int .i64 ((Fm.mk k n (.mk vl fl al) (.mk vr fr ar) ts).meas).1.k, .int .i64 ((Fm.mk k n (.mk vl fl al) (.mk vr fr ar) ts).meas).1.s, .int .i64 ((Fm.mk k n (.mk vl fl al) (.mk vr fr ar) ts).meas).1.d, .int .i64 ((Fm.mk k n (.mk vl fl al) (.mk vr fr ar) ts).meas).2.k, .int .i64 ((Fm.mk k n (.mk vl fl al) (.mk vr fr ar) ts).meas).2.s, .int .i64 ((Fm.mk k n (.mk vl fl al) (.mk vr fr ar) ts).meas).2.d]) ∧ Below w.heap.size w w' := by
  subst h hts
  obtain ⟨b, o, hA1, k1, n1, vl1, fl1, al1, vr1, fr1, ar1, ts1, Al1, cl1, Ar1, cr1, A1, c1, hm1, hl1, hr1, hs1, p0, p1, p2, p3, p4, p5, p6, p7, p8⟩ := hs.at 0 (by simp)
  change a1 = _ at hm1
  subst hm1
  subst hA1
  simp only [Nat.zero_mul, Nat.one_mul, Nat.add_zero] at p0 p1 p2 p3 p4 p5 p6 p7 p8
  obtain ⟨b', o', hA2, k2, n2, vl2, fl2, al2, vr2, fr2, ar2, ts2, Al2, cl2, Ar2, cr2, A2, c2, hm2, hl2, hr2, hs2, q0, q1, q2, q3, q4, q5, q6, q7, q8⟩ := hs.at 1 (by simp)
  change a2 = _ at hm2
  subst hm2
  injection hA2 with hA2
  injection hA2 with hb2 ho2
  subst hb2 ho2
  simp only [Nat.zero_mul, Nat.one_mul, Nat.add_zero] at q0 q1 q2 q3 q4 q5 q6 q7 q8
  have hw : (Fm.mk k1 n1 (.mk vl1 fl1 al1) (.mk vr1 fr1 ar1) ts1).wt + (Fm.mk k2 n2 (.mk vl2 fl2 al2) (.mk vr2 fr2 ar2) ts2).wt + 3 ≤ N + 1 := by have hh := hN; rw [Fm.wt, Fm.wts, Fm.wts, Fm.wts] at hh; have := (Tm.mk vl fl al).wt_pos; have := (Tm.mk vr fr ar).wt_pos; omega
  have HI1 := Lib.hid (fun w' (hb : Below w.heap.size w w') => ih k1 n1 vl1 fl1 al1 vr1 fr1 ar1 ts1 Al1 cl1 Ar1 cr1 A1 c1 S w' (by omega) (by omega) hsh1 (hl1.stay (Stay.below hb)) (hr1.stay (Stay.below hb)) (hs1.stay (Stay.below hb)))
  have hbd1 := Fm.meas_b (Fm.mk k1 n1 (.mk vl1 fl1 al1) (.mk vr1 fr1 ar1) ts1) (by omega)
  have hbm1 : (2 * ((Fm.mk k1 n1 (.mk vl1 fl1 al1) (.mk vr1 fr1 ar1) ts1).wt : Int)) ≤ 2251799813685248 := by omega
  have HI2 := Lib.hid (fun w' (hb : Below w.heap.size w w') => ih k2 n2 vl2 fl2 al2 vr2 fr2 ar2 ts2 Al2 cl2 Ar2 cr2 A2 c2 S w' (by omega) (by omega) hsh2 (hl2.stay (Stay.below hb)) (hr2.stay (Stay.below hb)) (hs2.stay (Stay.below hb)))
  have hbd2 := Fm.meas_b (Fm.mk k2 n2 (.mk vl2 fl2 al2) (.mk vr2 fr2 ar2) ts2) (by omega)
  have hbm2 : (2 * ((Fm.mk k2 n2 (.mk vl2 fl2 al2) (.mk vr2 fr2 ar2) ts2).wt : Int)) ≤ 2251799813685248 := by omega
  have hv : Fm.meas (Fm.mk 5 n (.mk vl fl al) (.mk vr fr ar) [(Fm.mk k1 n1 (.mk vl1 fl1 al1) (.mk vr1 fr1 ar1) ts1), (Fm.mk k2 n2 (.mk vl2 fl2 al2) (.mk vr2 fr2 ar2) ts2)]) = (((Fm.mk k1 n1 (.mk vl1 fl1 al1) (.mk vr1 fr1 ar1) ts1).meas.2.with 4 (Fm.mk k2 n2 (.mk vl2 fl2 al2) (.mk vr2 fr2 ar2) ts2).meas.1), ((Fm.mk k1 n1 (.mk vl1 fl1 al1) (.mk vr1 fr1 ar1) ts1).meas.1.with 3 (Fm.mk k2 n2 (.mk vl2 fl2 al2) (.mk vr2 fr2 ar2) ts2).meas.2)) := by rw [Fm.meas, Fm.measL, Fm.measL, Fm.measL]; rfl
  rw [hv]
  clear hv hN ih
  generalize hm1 : (Fm.mk k1 n1 (.mk vl1 fl1 al1) (.mk vr1 fr1 ar1) ts1).meas = m1 at *
  clear hm1
  obtain ⟨⟨ak1, as1, ad1⟩, ⟨bk1, bs1, bd1⟩⟩ := m1
  have HIB1 : Hid (InB 2251799813685248 ⟨ak1, as1, ad1⟩ ∧ InB 2251799813685248 ⟨bk1, bs1, bd1⟩) := Lib.hid ⟨hbd1.1.mono hbm1, hbd1.2.mono hbm1⟩
  obtain ⟨⟨u11, u21, u31, u41⟩, ⟨v11, v21, v31, v41⟩⟩ := hbd1
  simp only at u11 u21 u31 u41 v11 v21 v31 v41
  have hbd1 : (0 ≤ as1 ∧ as1 ≤ 1152921504606846976) ∧ (0 ≤ ad1 ∧ ad1 ≤ 1152921504606846976) ∧ (0 ≤ bs1 ∧ bs1 ≤ 1152921504606846976) ∧ (0 ≤ bd1 ∧ bd1 ≤ 1152921504606846976) := by omega
  have HBD1 := Lib.hid hbd1
  clear u11 u21 u31 u41 v11 v21 v31 v41 hbd1 hbm1
  generalize hm2 : (Fm.mk k2 n2 (.mk vl2 fl2 al2) (.mk vr2 fr2 ar2) ts2).meas = m2 at *
  clear hm2
  obtain ⟨⟨ak2, as2, ad2⟩, ⟨bk2, bs2, bd2⟩⟩ := m2
  have HIB2 : Hid (InB 2251799813685248 ⟨ak2, as2, ad2⟩ ∧ InB 2251799813685248 ⟨bk2, bs2, bd2⟩) := Lib.hid ⟨hbd2.1.mono hbm2, hbd2.2.mono hbm2⟩
  obtain ⟨⟨u12, u22, u32, u42⟩, ⟨v12, v22, v32, v42⟩⟩ := hbd2
  simp only at u12 u22 u32 u42 v12 v22 v32 v42
  have hbd2 : (0 ≤ as2 ∧ as2 ≤ 1152921504606846976) ∧ (0 ≤ ad2 ∧ ad2 ≤ 1152921504606846976) ∧ (0 ≤ bs2 ∧ bs2 ≤ 1152921504606846976) ∧ (0 ≤ bd2 ∧ bd2 ≤ 1152921504606846976) := by omega
  have HBD2 := Lib.hid hbd2
  clear u12 u22 u32 u42 v12 v22 v32 v42 hbd2 hbm2
  have HWe := Lib.hid (fun w' => with_any bk1 bs1 bd1 4 ak2 as2 ad2 w' HBD1.out.2.2.1 HBD1.out.2.2.2 HBD2.out.1 HBD2.out.2.1)
  generalize hek : (Fo.with ⟨bk1, bs1, bd1⟩ 4 ⟨ak2, as2, ad2⟩).k = ek at *
  clear hek
  generalize hes : (Fo.with ⟨bk1, bs1, bd1⟩ 4 ⟨ak2, as2, ad2⟩).s = es at *
  clear hes
  generalize hed : (Fo.with ⟨bk1, bs1, bd1⟩ 4 ⟨ak2, as2, ad2⟩).d = ed at *
  clear hed
  have HWg := Lib.hid (fun w' => with_any ak1 as1 ad1 3 bk2 bs2 bd2 w' HBD1.out.1 HBD1.out.2.1 HBD2.out.2.2.1 HBD2.out.2.2.2)
  generalize hgk : (Fo.with ⟨ak1, as1, ad1⟩ 3 ⟨bk2, bs2, bd2⟩).k = gk at *
  clear hgk
  generalize hgs : (Fo.with ⟨ak1, as1, ad1⟩ 3 ⟨bk2, bs2, bd2⟩).s = gs at *
  clear hgs
  generalize hgd : (Fo.with ⟨ak1, as1, ad1⟩ 3 ⟨bk2, bs2, bd2⟩).d = gd at *
  clear hgd
  clear hl1 hr1 hs1 hl2 hr2 hs2 hl hr hs hw
  have Q0 := Lib.hid q0
  have Q1 := Lib.hid q1
  have Q2 := Lib.hid q2
  have Q3 := Lib.hid q3
  have Q4 := Lib.hid q4
  have Q5 := Lib.hid q5
  have Q6 := Lib.hid q6
  have Q7 := Lib.hid q7
  have Q8 := Lib.hid q8
  have HB0 := Lib.hid (show Below w.heap.size w ((w.alloc (.cells #[.int .i64 5, .string n, .int .i64 vl, .string fl, .slice Al al.length cl, .int .i64 vr, .string fr, .slice Ar ar.length cr, .slice (some ⟨b, o, none⟩) 2 c] 27)).alloc (.cells #[.int .i64 0, .int .i64 0, .int .i64 0, .int .i64 0, .int .i64 0, .int .i64 0] 47)) by (repeat' (first | (with_reducible assumption) | (with_reducible exact Below.refl _ _) | (with_reducible refine Below.setCell ?_ ?_ _) | (with_reducible refine Below.alloc ?_ ?_ _) | (with_reducible apply Below.drew) | omega | (simp; done) | (simp; omega))))
  have BK1 := Lib.hid ((Blk.new w 27 [.int .i64 5, .string n, .int .i64 vl, .string fl, .slice Al al.length cl, .int .i64 vr, .string fr, .slice Ar ar.length cr, .slice (some ⟨b, o, none⟩) 2 c]).alloc (.cells #[.int .i64 0, .int .i64 0, .int .i64 0, .int .i64 0, .int .i64 0, .int .i64 0] 47))
  have BK2 := Lib.hid (Blk.new' (w.alloc (.cells #[.int .i64 5, .string n, .int .i64 vl, .string fl, .slice Al al.length cl, .int .i64 vr, .string fr, .slice Ar ar.length cr, .slice (some ⟨b, o, none⟩) 2 c] 27)) (w.heap.size + 1) 47 [.int .i64 0, .int .i64 0, .int .i64 0, .int .i64 0, .int .i64 0, .int .i64 0] (by simp))
  simp only [List.toArray] at BK1 BK2
  clear q0 q1 q2 q3 q4 q5 q6 q7 q8
  go_enter Tryz.func18, Tryz.ntmps18
  go_upto_region 9 with (fail)
  generalize hW : (w.alloc (.cells #[.int .i64 5, .string n, .int .i64 vl, .string fl, .slice Al al.length cl, .int .i64 vr, .string fr, .slice Ar ar.length cr, .slice (some ⟨b, o, none⟩) 2 c] 27)).alloc (.cells #[.int .i64 0, .int .i64 0, .int .i64 0, .int .i64 0, .int .i64 0, .int .i64 0] 47) = W at *
  clear hW
  have z0 := BK1.out.cell 0
  have z1 := BK1.out.cell 1
  have z2 := BK1.out.cell 2
  have z3 := BK1.out.cell 3
  have z4 := BK1.out.cell 4
  have z5 := BK1.out.cell 5
  have z6 := BK1.out.cell 6
  have z7 := BK1.out.cell 7
  have z8 := BK1.out.cell 8
  simp only [List.getElem?_cons_zero, List.getElem?_cons_succ] at z0 z1 z2 z3 z4 z5 z6 z7 z8
  have pc0 := keepc HB0.out p0
  have pc1 := keepc HB0.out p1
  have pc2 := keepc HB0.out p2
  have pc3 := keepc HB0.out p3
  have pc4 := keepc HB0.out p4
  have pc5 := keepc HB0.out p5
  have pc6 := keepc HB0.out p6
  have pc7 := keepc HB0.out p7
  have pc8 := keepc HB0.out p8
  clear p0 p1 p2 p3 p4 p5 p6 p7 p8
  go_wp2_with fail
  refine (HI1.out _ HB0.out).mono ?_
  rintro e w2 ⟨rfl, hb2⟩
  have HB2 := Lib.hid (HB0.out.trans (hb2.mono HB0.out.size))
  have BQ1 := Lib.hid (Blk.go BK1.out hb2)
  have BQ2 := Lib.hid (Blk.go BK2.out hb2)
  clear z0 z1 z2 z3 z4 z5 z6 z7 z8 pc0 pc1 pc2 pc3 pc4 pc5 pc6 pc7 pc8 hb2 BK1 BK2
  go_upto_region 10 with (fail)
  have BM := Lib.hid (Blk.new w2 47 [.int .i64 ak1, .int .i64 as1, .int .i64 ad1, .int .i64 bk1, .int .i64 bs1, .int .i64 bd1])
  have BS1 := Lib.hid (BQ1.out.alloc (.cells #[.int .i64 ak1, .int .i64 as1, .int .i64 ad1, .int .i64 bk1, .int .i64 bs1, .int .i64 bd1] 47))
  have BS2 := Lib.hid (BQ2.out.alloc (.cells #[.int .i64 ak1, .int .i64 as1, .int .i64 ad1, .int .i64 bk1, .int .i64 bs1, .int .i64 bd1] 47))
  have HB3 := Lib.hid (Below.alloc HB2.out HB2.out.size (.cells #[.int .i64 ak1, .int .i64 as1, .int .i64 ad1, .int .i64 bk1, .int .i64 bs1, .int .i64 bd1] 47))
  have hl1 := BQ1.out.lt
  have hl2 := BQ2.out.lt
  simp only [List.toArray] at BM
  generalize hgm : w2.heap.size = gm at *
  generalize hW3 : w2.alloc (.cells #[.int .i64 ak1, .int .i64 as1, .int .i64 ad1, .int .i64 bk1, .int .i64 bs1, .int .i64 bd1] 47) = W3 at *
  clear hgm hW3
  have hne1 : w.heap.size + 1 ≠ gm := by omega
  have hne2 : gm ≠ w.heap.size + 1 := by omega
  have hne0 : gm ≠ w.heap.size := by omega
  have hgw : w.heap.size ≤ gm := by omega
  clear hl1 hl2 BQ1 BQ2
  have z0 := BS1.out.cell 0
  have z1 := BS1.out.cell 1
  have z2 := BS1.out.cell 2
  have z3 := BS1.out.cell 3
  have z4 := BS1.out.cell 4
  have z5 := BS1.out.cell 5
  have z6 := BS1.out.cell 6
  have z7 := BS1.out.cell 7
  have z8 := BS1.out.cell 8
  simp only [List.getElem?_cons_zero, List.getElem?_cons_succ] at z0 z1 z2 z3 z4 z5 z6 z7 z8
  have pc0 := keepc HB3.out Q0.out
  have pc1 := keepc HB3.out Q1.out
  have pc2 := keepc HB3.out Q2.out
  have pc3 := keepc HB3.out Q3.out
  have pc4 := keepc HB3.out Q4.out
  have pc5 := keepc HB3.out Q5.out
  have pc6 := keepc HB3.out Q6.out
  have pc7 := keepc HB3.out Q7.out
  have pc8 := keepc HB3.out Q8.out
  go_wp2_with fail
  refine (HI2.out _ HB3.out).mono ?_
  rintro e w4 ⟨rfl, hb4⟩
  have HB4 := Lib.hid (bel_go HB3.out hb4)
  have BT1 := Lib.hid (Blk.go BS1.out hb4)
  have BT2 := Lib.hid (Blk.go BS2.out hb4)
  have BTM := Lib.hid (Blk.go BM.out hb4)
  clear z0 z1 z2 z3 z4 z5 z6 z7 z8 pc0 pc1 pc2 pc3 pc4 pc5 pc6 pc7 pc8 hb4 BS1 BS2 BM
  go_upto_region 17 with (fail)
  have BU5 := Lib.hid (Blk.new w4 47 [.int .i64 ak2, .int .i64 as2, .int .i64 ad2, .int .i64 bk2, .int .i64 bs2, .int .i64 bd2])
  have BU1 := Lib.hid (BT1.out.alloc (.cells #[.int .i64 ak2, .int .i64 as2, .int .i64 ad2, .int .i64 bk2, .int .i64 bs2, .int .i64 bd2] 47))
  have BU2 := Lib.hid (BT2.out.alloc (.cells #[.int .i64 ak2, .int .i64 as2, .int .i64 ad2, .int .i64 bk2, .int .i64 bs2, .int .i64 bd2] 47))
  have BUM := Lib.hid (BTM.out.alloc (.cells #[.int .i64 ak2, .int .i64 as2, .int .i64 ad2, .int .i64 bk2, .int .i64 bs2, .int .i64 bd2] 47))
  have HB5 := Lib.hid (Below.alloc HB4.out HB4.out.size (.cells #[.int .i64 ak2, .int .i64 as2, .int .i64 ad2, .int .i64 bk2, .int .i64 bs2, .int .i64 bd2] 47))
  have hl1 := BT1.out.lt
  have hl2 := BT2.out.lt
  have hl3 := BTM.out.lt
  simp only [List.toArray] at BU5
  generalize hgn : w4.heap.size = gn at *
  generalize hW5 : w4.alloc (.cells #[.int .i64 ak2, .int .i64 as2, .int .i64 ad2, .int .i64 bk2, .int .i64 bs2, .int .i64 bd2] 47) = W5 at *
  clear hgn hW5
  have hne3 : w.heap.size + 1 ≠ gn := by omega
  have hne4 : gn ≠ w.heap.size + 1 := by omega
  have hne5 : gm ≠ gn := by omega
  have hne6 : gn ≠ gm := by omega
  clear hl1 hl2 hl3 BT1 BT2 BTM
  have z0 := BU1.out.cell 0
  simp only [List.getElem?_cons_zero] at z0
  have m0 := BUM.out.cell 0
  have m1 := BUM.out.cell 1
  have m2 := BUM.out.cell 2
  have m3 := BUM.out.cell 3
  have m4 := BUM.out.cell 4
  have m5 := BUM.out.cell 5
  simp only [List.getElem?_cons_zero, List.getElem?_cons_succ] at m0 m1 m2 m3 m4 m5
  go_wp2_with fail
  refine (other_any ak1 as1 ad1 bk1 bs1 bd1 _).mono ?_
  rintro e w6 ⟨rfl, hb6⟩
  have BV1 := Lib.hid (Blk.go BU1.out hb6)
  have BV2 := Lib.hid (Blk.go BU2.out hb6)
  have BVM := Lib.hid (Blk.go BUM.out hb6)
  have BV5 := Lib.hid (Blk.go BU5.out hb6)
  have HB6 := Lib.hid (bel_go HB5.out hb6)
  clear z0 m0 m1 m2 m3 m4 m5 hb6 BU1 BU2 BUM BU5
  have m0 := BVM.out.cell 0
  have m1 := BVM.out.cell 1
  have m2 := BVM.out.cell 2
  have m3 := BVM.out.cell 3
  have m4 := BVM.out.cell 4
  have m5 := BVM.out.cell 5
  simp only [List.getElem?_cons_zero, List.getElem?_cons_succ] at m0 m1 m2 m3 m4 m5
  have mf0 := BVM.out.free 0
  have mf1 := BVM.out.free 1
  have mf2 := BVM.out.free 2
  have mf3 := BVM.out.free 3
  have mf4 := BVM.out.free 4
  have mf5 := BVM.out.free 5
  go_upto_region 22 with (fail)
  clear m0 mf0 m1 mf1 m2 mf2 m3 mf3 m4 mf4 m5 mf5
  have BUM := Lib.hid (blk6 BVM.out (.int .i64 bk1) (.int .i64 bs1) (.int .i64 bd1) (.int .i64 ak1) (.int .i64 as1) (.int .i64 ad1))
  have BU1 := Lib.hid (blk6o BV1.out hne0 (.int .i64 bk1) (.int .i64 bs1) (.int .i64 bd1) (.int .i64 ak1) (.int .i64 as1) (.int .i64 ad1))
  have BU2 := Lib.hid (blk6o BV2.out hne2 (.int .i64 bk1) (.int .i64 bs1) (.int .i64 bd1) (.int .i64 ak1) (.int .i64 as1) (.int .i64 ad1))
  have BU5 := Lib.hid (blk6o BV5.out hne5 (.int .i64 bk1) (.int .i64 bs1) (.int .i64 bd1) (.int .i64 ak1) (.int .i64 as1) (.int .i64 ad1))
  have HB7 := Lib.hid (((((((HB6.out.setCell (p := ⟨gm, 0, none⟩) hgw (.int .i64 bk1)).setCell (p := ⟨gm, 1, none⟩) hgw (.int .i64 bs1)).setCell (p := ⟨gm, 2, none⟩) hgw (.int .i64 bd1)).setCell (p := ⟨gm, 3, none⟩) hgw (.int .i64 ak1)).setCell (p := ⟨gm, 4, none⟩) hgw (.int .i64 as1)).setCell (p := ⟨gm, 5, none⟩) hgw (.int .i64 ad1)))
  generalize hW7 : (World.setCell (World.setCell (World.setCell (World.setCell (World.setCell (World.setCell w6 ⟨gm, 0, none⟩ (.int .i64 bk1)) ⟨gm, 1, none⟩ (.int .i64 bs1)) ⟨gm, 2, none⟩ (.int .i64 bd1)) ⟨gm, 3, none⟩ (.int .i64 ak1)) ⟨gm, 4, none⟩ (.int .i64 as1)) ⟨gm, 5, none⟩ (.int .i64 ad1)) = W7 at *
  clear hW7 BV1 BV2 BVM BV5
  have m0 := BUM.out.cell 0
  have m1 := BUM.out.cell 1
  have m2 := BUM.out.cell 2
  have m3 := BUM.out.cell 3
  have m4 := BUM.out.cell 4
  have m5 := BUM.out.cell 5
  simp only [List.getElem?_cons_zero, List.getElem?_cons_succ] at m0 m1 m2 m3 m4 m5
  have M0 := Lib.hid m0
  have M1 := Lib.hid m1
  have M2 := Lib.hid m2
  have M3 := Lib.hid m3
  have M4 := Lib.hid m4
  have M5 := Lib.hid m5
  have n0 := BU5.out.cell 0
  have n1 := BU5.out.cell 1
  have n2 := BU5.out.cell 2
  have n3 := BU5.out.cell 3
  have n4 := BU5.out.cell 4
  have n5 := BU5.out.cell 5
  simp only [List.getElem?_cons_zero, List.getElem?_cons_succ] at n0 n1 n2 n3 n4 n5
  have N0 := Lib.hid n0
  have N1 := Lib.hid n1
  have N2 := Lib.hid n2
  have N3 := Lib.hid n3
  have N4 := Lib.hid n4
  have N5 := Lib.hid n5
  have HQ0 := Lib.hid (bel_drew1 W7)
  (first | (go_region_held3 (fun w' => w'.cell? ⟨gm, 0, none⟩ = some (.int .i64 bk1) ∧ w'.cell? ⟨gm, 1, none⟩ = some (.int .i64 bs1) ∧ w'.cell? ⟨gm, 2, none⟩ = some (.int .i64 bd1) ∧ w'.cell? ⟨gm, 3, none⟩ = some (.int .i64 ak1) ∧ w'.cell? ⟨gm, 4, none⟩ = some (.int .i64 as1) ∧ w'.cell? ⟨gm, 5, none⟩ = some (.int .i64 ad1) ∧ w'.cell? ⟨gn, 0, none⟩ = some (.int .i64 ak2) ∧ w'.cell? ⟨gn, 1, none⟩ = some (.int .i64 as2) ∧ w'.cell? ⟨gn, 2, none⟩ = some (.int .i64 ad2) ∧ w'.cell? ⟨gn, 3, none⟩ = some (.int .i64 bk2) ∧ w'.cell? ⟨gn, 4, none⟩ = some (.int .i64 bs2) ∧ w'.cell? ⟨gn, 5, none⟩ = some (.int .i64 bd2)) (go_keep) (first | (go_at_call_of 39 (Value.agg #[.int .i64 bk1, .int .i64 bs1, .int .i64 bd1]); refine (HWe.out _).mono ?_; rintro e w9 ⟨rfl, hb9⟩; have HQ1 := Lib.hid (bel_go (by first | exact HQ1.out | exact HQ0.out) hb9); clear hb9; have m0 := keepc HQ1.out M0.out; have m1 := keepc HQ1.out M1.out; have m2 := keepc HQ1.out M2.out; have m3 := keepc HQ1.out M3.out; have m4 := keepc HQ1.out M4.out; have m5 := keepc HQ1.out M5.out; have n0 := keepc HQ1.out N0.out; have n1 := keepc HQ1.out N1.out; have n2 := keepc HQ1.out N2.out; have n3 := keepc HQ1.out N3.out; have n4 := keepc HQ1.out N4.out; have n5 := keepc HQ1.out N5.out; have BR := Lib.hid (BU2.out.below HQ1.out BU2.out.lt); have yr0 := BR.out.cell 0; have fr0 := BR.out.free 0; have yr1 := BR.out.cell 1; have fr1 := BR.out.free 1; have yr2 := BR.out.cell 2; have fr2 := BR.out.free 2; have yr3 := BR.out.cell 3; have fr3 := BR.out.free 3; have yr4 := BR.out.cell 4; have fr4 := BR.out.free 4; have yr5 := BR.out.cell 5; have fr5 := BR.out.free 5; simp only [List.getElem?_cons_zero, List.getElem?_cons_succ] at yr0 yr1 yr2 yr3 yr4 yr5; have hB := bel_go HB7.out HQ1.out) | (go_at_call_of 39 (Value.agg #[.int .i64 ak1, .int .i64 as1, .int .i64 ad1]); refine (HWg.out _).mono ?_; rintro e w9 ⟨rfl, hb9⟩; have HQ1 := Lib.hid (bel_go (by first | exact HQ1.out | exact HQ0.out) hb9); clear hb9; have m0 := keepc HQ1.out M0.out; have m1 := keepc HQ1.out M1.out; have m2 := keepc HQ1.out M2.out; have m3 := keepc HQ1.out M3.out; have m4 := keepc HQ1.out M4.out; have m5 := keepc HQ1.out M5.out; have n0 := keepc HQ1.out N0.out; have n1 := keepc HQ1.out N1.out; have n2 := keepc HQ1.out N2.out; have n3 := keepc HQ1.out N3.out; have n4 := keepc HQ1.out N4.out; have n5 := keepc HQ1.out N5.out; have BR := Lib.hid (BU2.out.below HQ1.out BU2.out.lt); have yr0 := BR.out.cell 0; have fr0 := BR.out.free 0; have yr1 := BR.out.cell 1; have fr1 := BR.out.free 1; have yr2 := BR.out.cell 2; have fr2 := BR.out.free 2; have yr3 := BR.out.cell 3; have fr3 := BR.out.free 3; have yr4 := BR.out.cell 4; have fr4 := BR.out.free 4; have yr5 := BR.out.cell 5; have fr5 := BR.out.free 5; simp only [List.getElem?_cons_zero, List.getElem?_cons_succ] at yr0 yr1 yr2 yr3 yr4 yr5; have hB := bel_go HB7.out HQ1.out))) | fail "held")
  all_goals
    go_wp2_with fail
    refine bodyPost_ret (v := .agg #[.int .i64 ek, .int .i64 es, .int .i64 ed, .int .i64 gk, .int .i64 gs, .int .i64 gd]) ?_ rfl ⟨rfl, by (repeat' (first | (with_reducible assumption) | (with_reducible exact Below.refl _ _) | (with_reducible refine Below.setCell ?_ ?_ _) | (with_reducible refine Below.alloc ?_ ?_ _) | (with_reducible apply Below.drew) | omega | (simp; done) | (simp; omega)))⟩
    simp [results, Tryz.results18, go_sem, yr0, yr1, yr2, yr3, yr4, yr5]
set_option maxRecDepth 100000 in
set_option maxHeartbeats 6400000 in
theorem meas6 (N : Nat) (ih : MeasAt 18 N) (k : Int) (n : ByteArray) (vl : Int) (fl : ByteArray) (al : List Tm) (vr : Int) (fr : ByteArray) (ar : List Tm) (ts : List Fm) (Al : Option Addr) (cl : Nat) (Ar : Option Addr) (cr : Nat) (A : Option Addr) (c : Nat) (a1 a2 : Fm) (S : Nat → Prop) (w : World) (h : k = 6) (hts : ts = [a1, a2]) (hN : (Fm.mk k n (.mk vl fl al) (.mk vr fr ar) ts).wt ≤ N + 1) (hNN : N ≤ 1125899906842623) (hsh1 : a1.shape = true) (hsh2 : a2.shape = true) (hl : ST S w Al al.length cl al) (hr : ST S w Ar ar.length cr ar) (hs : SF S w A ts.length c ts) : Calls Tryz.prog 18 #[.agg #[.int .i64 k, .string n, .int .i64 vl, .string fl, .slice Al al.length cl, .int .i64 vr, .string fr, .slice Ar ar.length cr, .slice A ts.length c]] w fun e w' => e = .returned (.agg #[.int .i64 ((Fm.mk k n (.mk vl fl al) (.mk vr fr ar) ts).meas).1.k, .int .i64 ((Fm.mk k n (.mk vl fl al) (.mk vr fr ar) ts).meas).1.s, .int .i64 ((Fm.mk k n (.mk vl fl al) (.mk vr fr ar) ts).meas).1.d, .int .i64 ((Fm.mk k n (.mk vl fl al) (.mk vr fr ar) ts).meas).2.k, .int .i64 ((Fm.mk k n (.mk vl fl al) (.mk vr fr ar) ts).meas).2.s, .int .i64 ((Fm.mk k n (.mk vl fl al) (.mk vr fr ar) ts).meas).2.d]) ∧ Below w.heap.size w w' := by
  subst h hts
  obtain ⟨b, o, hA1, k1, n1, vl1, fl1, al1, vr1, fr1, ar1, ts1, Al1, cl1, Ar1, cr1, A1, c1, hm1, hl1, hr1, hs1, p0, p1, p2, p3, p4, p5, p6, p7, p8⟩ := hs.at 0 (by simp)
  change a1 = _ at hm1
  subst hm1
  subst hA1
  simp only [Nat.zero_mul, Nat.one_mul, Nat.add_zero] at p0 p1 p2 p3 p4 p5 p6 p7 p8
  obtain ⟨b', o', hA2, k2, n2, vl2, fl2, al2, vr2, fr2, ar2, ts2, Al2, cl2, Ar2, cr2, A2, c2, hm2, hl2, hr2, hs2, q0, q1, q2, q3, q4, q5, q6, q7, q8⟩ := hs.at 1 (by simp)
  change a2 = _ at hm2
  subst hm2
  injection hA2 with hA2
  injection hA2 with hb2 ho2
  subst hb2 ho2
  simp only [Nat.zero_mul, Nat.one_mul, Nat.add_zero] at q0 q1 q2 q3 q4 q5 q6 q7 q8
  have hw : (Fm.mk k1 n1 (.mk vl1 fl1 al1) (.mk vr1 fr1 ar1) ts1).wt + (Fm.mk k2 n2 (.mk vl2 fl2 al2) (.mk vr2 fr2 ar2) ts2).wt + 3 ≤ N + 1 := by have hh := hN; rw [Fm.wt, Fm.wts, Fm.wts, Fm.wts] at hh; have := (Tm.mk vl fl al).wt_pos; have := (Tm.mk vr fr ar).wt_pos; omega
  have HI1 := Lib.hid (fun w' (hb : Below w.heap.size w w') => ih k1 n1 vl1 fl1 al1 vr1 fr1 ar1 ts1 Al1 cl1 Ar1 cr1 A1 c1 S w' (by omega) (by omega) hsh1 (hl1.stay (Stay.below hb)) (hr1.stay (Stay.below hb)) (hs1.stay (Stay.below hb)))
  have hbd1 := Fm.meas_b (Fm.mk k1 n1 (.mk vl1 fl1 al1) (.mk vr1 fr1 ar1) ts1) (by omega)
  have hbm1 : (2 * ((Fm.mk k1 n1 (.mk vl1 fl1 al1) (.mk vr1 fr1 ar1) ts1).wt : Int)) ≤ 2251799813685248 := by omega
  have HI2 := Lib.hid (fun w' (hb : Below w.heap.size w w') => ih k2 n2 vl2 fl2 al2 vr2 fr2 ar2 ts2 Al2 cl2 Ar2 cr2 A2 c2 S w' (by omega) (by omega) hsh2 (hl2.stay (Stay.below hb)) (hr2.stay (Stay.below hb)) (hs2.stay (Stay.below hb)))
  have hbd2 := Fm.meas_b (Fm.mk k2 n2 (.mk vl2 fl2 al2) (.mk vr2 fr2 ar2) ts2) (by omega)
  have hbm2 : (2 * ((Fm.mk k2 n2 (.mk vl2 fl2 al2) (.mk vr2 fr2 ar2) ts2).wt : Int)) ≤ 2251799813685248 := by omega
  have hv : Fm.meas (Fm.mk 6 n (.mk vl fl al) (.mk vr fr ar) [(Fm.mk k1 n1 (.mk vl1 fl1 al1) (.mk vr1 fr1 ar1) ts1), (Fm.mk k2 n2 (.mk vl2 fl2 al2) (.mk vr2 fr2 ar2) ts2)]) = ((((Fm.mk k1 n1 (.mk vl1 fl1 al1) (.mk vr1 fr1 ar1) ts1).meas.2.with 4 (Fm.mk k2 n2 (.mk vl2 fl2 al2) (.mk vr2 fr2 ar2) ts2).meas.1)).with 3 ((Fm.mk k1 n1 (.mk vl1 fl1 al1) (.mk vr1 fr1 ar1) ts1).meas.1.with 4 (Fm.mk k2 n2 (.mk vl2 fl2 al2) (.mk vr2 fr2 ar2) ts2).meas.2), (((Fm.mk k1 n1 (.mk vl1 fl1 al1) (.mk vr1 fr1 ar1) ts1).meas.1.with 4 (Fm.mk k2 n2 (.mk vl2 fl2 al2) (.mk vr2 fr2 ar2) ts2).meas.1)).with 3 ((Fm.mk k1 n1 (.mk vl1 fl1 al1) (.mk vr1 fr1 ar1) ts1).meas.2.with 4 (Fm.mk k2 n2 (.mk vl2 fl2 al2) (.mk vr2 fr2 ar2) ts2).meas.2)) := by rw [Fm.meas, Fm.measL, Fm.measL, Fm.measL]; rfl
  rw [hv]
  clear hv hN ih
  generalize hm1 : (Fm.mk k1 n1 (.mk vl1 fl1 al1) (.mk vr1 fr1 ar1) ts1).meas = m1 at *
  clear hm1
  obtain ⟨⟨ak1, as1, ad1⟩, ⟨bk1, bs1, bd1⟩⟩ := m1
  have HIB1 : Hid (InB 2251799813685248 ⟨ak1, as1, ad1⟩ ∧ InB 2251799813685248 ⟨bk1, bs1, bd1⟩) := Lib.hid ⟨hbd1.1.mono hbm1, hbd1.2.mono hbm1⟩
  obtain ⟨⟨u11, u21, u31, u41⟩, ⟨v11, v21, v31, v41⟩⟩ := hbd1
  simp only at u11 u21 u31 u41 v11 v21 v31 v41
  have hbd1 : (0 ≤ as1 ∧ as1 ≤ 1152921504606846976) ∧ (0 ≤ ad1 ∧ ad1 ≤ 1152921504606846976) ∧ (0 ≤ bs1 ∧ bs1 ≤ 1152921504606846976) ∧ (0 ≤ bd1 ∧ bd1 ≤ 1152921504606846976) := by omega
  have HBD1 := Lib.hid hbd1
  clear u11 u21 u31 u41 v11 v21 v31 v41 hbd1 hbm1
  generalize hm2 : (Fm.mk k2 n2 (.mk vl2 fl2 al2) (.mk vr2 fr2 ar2) ts2).meas = m2 at *
  clear hm2
  obtain ⟨⟨ak2, as2, ad2⟩, ⟨bk2, bs2, bd2⟩⟩ := m2
  have HIB2 : Hid (InB 2251799813685248 ⟨ak2, as2, ad2⟩ ∧ InB 2251799813685248 ⟨bk2, bs2, bd2⟩) := Lib.hid ⟨hbd2.1.mono hbm2, hbd2.2.mono hbm2⟩
  obtain ⟨⟨u12, u22, u32, u42⟩, ⟨v12, v22, v32, v42⟩⟩ := hbd2
  simp only at u12 u22 u32 u42 v12 v22 v32 v42
  have hbd2 : (0 ≤ as2 ∧ as2 ≤ 1152921504606846976) ∧ (0 ≤ ad2 ∧ ad2 ≤ 1152921504606846976) ∧ (0 ≤ bs2 ∧ bs2 ≤ 1152921504606846976) ∧ (0 ≤ bd2 ∧ bd2 ≤ 1152921504606846976) := by omega
  have HBD2 := Lib.hid hbd2
  clear u12 u22 u32 u42 v12 v22 v32 v42 hbd2 hbm2
  have HWP := Lib.hid (fun w' => with_any bk1 bs1 bd1 4 ak2 as2 ad2 w' HBD1.out.2.2.1 HBD1.out.2.2.2 HBD2.out.1 HBD2.out.2.1)
  have hBP := with_b (kind := 4) (by decide) HIB1.out.2 HIB2.out.1
  generalize hP : (Fo.with ⟨bk1, bs1, bd1⟩ 4 ⟨ak2, as2, ad2⟩) = fP at *
  clear hP
  obtain ⟨xpk, xps, xpd⟩ := fP
  obtain ⟨hP1, hP2, hP3, hP4⟩ := hBP
  simp only at hP1 hP2 hP3 hP4 HWP
  have HWQ := Lib.hid (fun w' => with_any ak1 as1 ad1 4 bk2 bs2 bd2 w' HBD1.out.1 HBD1.out.2.1 HBD2.out.2.2.1 HBD2.out.2.2.2)
  have hBQ := with_b (kind := 4) (by decide) HIB1.out.1 HIB2.out.2
  generalize hQ : (Fo.with ⟨ak1, as1, ad1⟩ 4 ⟨bk2, bs2, bd2⟩) = fQ at *
  clear hQ
  obtain ⟨xqk, xqs, xqd⟩ := fQ
  obtain ⟨hQ1, hQ2, hQ3, hQ4⟩ := hBQ
  simp only at hQ1 hQ2 hQ3 hQ4 HWQ
  have HWR := Lib.hid (fun w' => with_any ak1 as1 ad1 4 ak2 as2 ad2 w' HBD1.out.1 HBD1.out.2.1 HBD2.out.1 HBD2.out.2.1)
  have hBR := with_b (kind := 4) (by decide) HIB1.out.1 HIB2.out.1
  generalize hR : (Fo.with ⟨ak1, as1, ad1⟩ 4 ⟨ak2, as2, ad2⟩) = fR at *
  clear hR
  obtain ⟨xrk, xrs, xrd⟩ := fR
  obtain ⟨hR1, hR2, hR3, hR4⟩ := hBR
  simp only at hR1 hR2 hR3 hR4 HWR
  have HWT := Lib.hid (fun w' => with_any bk1 bs1 bd1 4 bk2 bs2 bd2 w' HBD1.out.2.2.1 HBD1.out.2.2.2 HBD2.out.2.2.1 HBD2.out.2.2.2)
  have hBT := with_b (kind := 4) (by decide) HIB1.out.2 HIB2.out.2
  generalize hT : (Fo.with ⟨bk1, bs1, bd1⟩ 4 ⟨bk2, bs2, bd2⟩) = fT at *
  clear hT
  obtain ⟨xtk, xts, xtd⟩ := fT
  obtain ⟨hT1, hT2, hT3, hT4⟩ := hBT
  simp only at hT1 hT2 hT3 hT4 HWT
  have HWe := Lib.hid (fun w' => with_any xpk xps xpd 3 xqk xqs xqd w' (by omega) (by omega) (by omega) (by omega))
  generalize hek : (Fo.with ⟨xpk, xps, xpd⟩ 3 ⟨xqk, xqs, xqd⟩).k = ek at *
  clear hek
  generalize hes : (Fo.with ⟨xpk, xps, xpd⟩ 3 ⟨xqk, xqs, xqd⟩).s = es at *
  clear hes
  generalize hed : (Fo.with ⟨xpk, xps, xpd⟩ 3 ⟨xqk, xqs, xqd⟩).d = ed at *
  clear hed
  have HWg := Lib.hid (fun w' => with_any xrk xrs xrd 3 xtk xts xtd w' (by omega) (by omega) (by omega) (by omega))
  generalize hgk : (Fo.with ⟨xrk, xrs, xrd⟩ 3 ⟨xtk, xts, xtd⟩).k = gk at *
  clear hgk
  generalize hgs : (Fo.with ⟨xrk, xrs, xrd⟩ 3 ⟨xtk, xts, xtd⟩).s = gs at *
  clear hgs
  generalize hgd : (Fo.with ⟨xrk, xrs, xrd⟩ 3 ⟨xtk, xts, xtd⟩).d = gd at *
  clear hgd
  clear hP1 hP2 hP3 hP4 hQ1 hQ2 hQ3 hQ4 hR1 hR2 hR3 hR4 hT1 hT2 hT3 hT4
  clear hl1 hr1 hs1 hl2 hr2 hs2 hl hr hs hw
  have Q0 := Lib.hid q0
  have Q1 := Lib.hid q1
  have Q2 := Lib.hid q2
  have Q3 := Lib.hid q3
  have Q4 := Lib.hid q4
  have Q5 := Lib.hid q5
  have Q6 := Lib.hid q6
  have Q7 := Lib.hid q7
  have Q8 := Lib.hid q8
  have HB0 := Lib.hid (show Below w.heap.size w ((w.alloc (.cells #[.int .i64 6, .string n, .int .i64 vl, .string fl, .slice Al al.length cl, .int .i64 vr, .string fr, .slice Ar ar.length cr, .slice (some ⟨b, o, none⟩) 2 c] 27)).alloc (.cells #[.int .i64 0, .int .i64 0, .int .i64 0, .int .i64 0, .int .i64 0, .int .i64 0] 47)) by (repeat' (first | (with_reducible assumption) | (with_reducible exact Below.refl _ _) | (with_reducible refine Below.setCell ?_ ?_ _) | (with_reducible refine Below.alloc ?_ ?_ _) | (with_reducible apply Below.drew) | omega | (simp; done) | (simp; omega))))
  have BK1 := Lib.hid ((Blk.new w 27 [.int .i64 6, .string n, .int .i64 vl, .string fl, .slice Al al.length cl, .int .i64 vr, .string fr, .slice Ar ar.length cr, .slice (some ⟨b, o, none⟩) 2 c]).alloc (.cells #[.int .i64 0, .int .i64 0, .int .i64 0, .int .i64 0, .int .i64 0, .int .i64 0] 47))
  have BK2 := Lib.hid (Blk.new' (w.alloc (.cells #[.int .i64 6, .string n, .int .i64 vl, .string fl, .slice Al al.length cl, .int .i64 vr, .string fr, .slice Ar ar.length cr, .slice (some ⟨b, o, none⟩) 2 c] 27)) (w.heap.size + 1) 47 [.int .i64 0, .int .i64 0, .int .i64 0, .int .i64 0, .int .i64 0, .int .i64 0] (by simp))
  simp only [List.toArray] at BK1 BK2
  clear q0 q1 q2 q3 q4 q5 q6 q7 q8
  go_enter Tryz.func18, Tryz.ntmps18
  go_upto_region 9 with (fail)
  generalize hW : (w.alloc (.cells #[.int .i64 6, .string n, .int .i64 vl, .string fl, .slice Al al.length cl, .int .i64 vr, .string fr, .slice Ar ar.length cr, .slice (some ⟨b, o, none⟩) 2 c] 27)).alloc (.cells #[.int .i64 0, .int .i64 0, .int .i64 0, .int .i64 0, .int .i64 0, .int .i64 0] 47) = W at *
  clear hW
  have z0 := BK1.out.cell 0
  have z1 := BK1.out.cell 1
  have z2 := BK1.out.cell 2
  have z3 := BK1.out.cell 3
  have z4 := BK1.out.cell 4
  have z5 := BK1.out.cell 5
  have z6 := BK1.out.cell 6
  have z7 := BK1.out.cell 7
  have z8 := BK1.out.cell 8
  simp only [List.getElem?_cons_zero, List.getElem?_cons_succ] at z0 z1 z2 z3 z4 z5 z6 z7 z8
  have pc0 := keepc HB0.out p0
  have pc1 := keepc HB0.out p1
  have pc2 := keepc HB0.out p2
  have pc3 := keepc HB0.out p3
  have pc4 := keepc HB0.out p4
  have pc5 := keepc HB0.out p5
  have pc6 := keepc HB0.out p6
  have pc7 := keepc HB0.out p7
  have pc8 := keepc HB0.out p8
  clear p0 p1 p2 p3 p4 p5 p6 p7 p8
  go_wp2_with fail
  refine (HI1.out _ HB0.out).mono ?_
  rintro e w2 ⟨rfl, hb2⟩
  have HB2 := Lib.hid (HB0.out.trans (hb2.mono HB0.out.size))
  have BQ1 := Lib.hid (Blk.go BK1.out hb2)
  have BQ2 := Lib.hid (Blk.go BK2.out hb2)
  clear z0 z1 z2 z3 z4 z5 z6 z7 z8 pc0 pc1 pc2 pc3 pc4 pc5 pc6 pc7 pc8 hb2 BK1 BK2
  go_upto_region 10 with (fail)
  have BM := Lib.hid (Blk.new w2 47 [.int .i64 ak1, .int .i64 as1, .int .i64 ad1, .int .i64 bk1, .int .i64 bs1, .int .i64 bd1])
  have BS1 := Lib.hid (BQ1.out.alloc (.cells #[.int .i64 ak1, .int .i64 as1, .int .i64 ad1, .int .i64 bk1, .int .i64 bs1, .int .i64 bd1] 47))
  have BS2 := Lib.hid (BQ2.out.alloc (.cells #[.int .i64 ak1, .int .i64 as1, .int .i64 ad1, .int .i64 bk1, .int .i64 bs1, .int .i64 bd1] 47))
  have HB3 := Lib.hid (Below.alloc HB2.out HB2.out.size (.cells #[.int .i64 ak1, .int .i64 as1, .int .i64 ad1, .int .i64 bk1, .int .i64 bs1, .int .i64 bd1] 47))
  have hl1 := BQ1.out.lt
  have hl2 := BQ2.out.lt
  simp only [List.toArray] at BM
  generalize hgm : w2.heap.size = gm at *
  generalize hW3 : w2.alloc (.cells #[.int .i64 ak1, .int .i64 as1, .int .i64 ad1, .int .i64 bk1, .int .i64 bs1, .int .i64 bd1] 47) = W3 at *
  clear hgm hW3
  have hne1 : w.heap.size + 1 ≠ gm := by omega
  have hne2 : gm ≠ w.heap.size + 1 := by omega
  have hne0 : gm ≠ w.heap.size := by omega
  have hgw : w.heap.size ≤ gm := by omega
  clear hl1 hl2 BQ1 BQ2
  have z0 := BS1.out.cell 0
  have z1 := BS1.out.cell 1
  have z2 := BS1.out.cell 2
  have z3 := BS1.out.cell 3
  have z4 := BS1.out.cell 4
  have z5 := BS1.out.cell 5
  have z6 := BS1.out.cell 6
  have z7 := BS1.out.cell 7
  have z8 := BS1.out.cell 8
  simp only [List.getElem?_cons_zero, List.getElem?_cons_succ] at z0 z1 z2 z3 z4 z5 z6 z7 z8
  have pc0 := keepc HB3.out Q0.out
  have pc1 := keepc HB3.out Q1.out
  have pc2 := keepc HB3.out Q2.out
  have pc3 := keepc HB3.out Q3.out
  have pc4 := keepc HB3.out Q4.out
  have pc5 := keepc HB3.out Q5.out
  have pc6 := keepc HB3.out Q6.out
  have pc7 := keepc HB3.out Q7.out
  have pc8 := keepc HB3.out Q8.out
  go_wp2_with fail
  refine (HI2.out _ HB3.out).mono ?_
  rintro e w4 ⟨rfl, hb4⟩
  have HB4 := Lib.hid (bel_go HB3.out hb4)
  have BT1 := Lib.hid (Blk.go BS1.out hb4)
  have BT2 := Lib.hid (Blk.go BS2.out hb4)
  have BTM := Lib.hid (Blk.go BM.out hb4)
  clear z0 z1 z2 z3 z4 z5 z6 z7 z8 pc0 pc1 pc2 pc3 pc4 pc5 pc6 pc7 pc8 hb4 BS1 BS2 BM
  go_upto_region 17 with (fail)
  have BU5 := Lib.hid (Blk.new w4 47 [.int .i64 ak2, .int .i64 as2, .int .i64 ad2, .int .i64 bk2, .int .i64 bs2, .int .i64 bd2])
  have BU1 := Lib.hid (BT1.out.alloc (.cells #[.int .i64 ak2, .int .i64 as2, .int .i64 ad2, .int .i64 bk2, .int .i64 bs2, .int .i64 bd2] 47))
  have BU2 := Lib.hid (BT2.out.alloc (.cells #[.int .i64 ak2, .int .i64 as2, .int .i64 ad2, .int .i64 bk2, .int .i64 bs2, .int .i64 bd2] 47))
  have BUM := Lib.hid (BTM.out.alloc (.cells #[.int .i64 ak2, .int .i64 as2, .int .i64 ad2, .int .i64 bk2, .int .i64 bs2, .int .i64 bd2] 47))
  have HB5 := Lib.hid (Below.alloc HB4.out HB4.out.size (.cells #[.int .i64 ak2, .int .i64 as2, .int .i64 ad2, .int .i64 bk2, .int .i64 bs2, .int .i64 bd2] 47))
  have hl1 := BT1.out.lt
  have hl2 := BT2.out.lt
  have hl3 := BTM.out.lt
  simp only [List.toArray] at BU5
  generalize hgn : w4.heap.size = gn at *
  generalize hW5 : w4.alloc (.cells #[.int .i64 ak2, .int .i64 as2, .int .i64 ad2, .int .i64 bk2, .int .i64 bs2, .int .i64 bd2] 47) = W5 at *
  clear hgn hW5
  have hne3 : w.heap.size + 1 ≠ gn := by omega
  have hne4 : gn ≠ w.heap.size + 1 := by omega
  have hne5 : gm ≠ gn := by omega
  have hne6 : gn ≠ gm := by omega
  clear hl1 hl2 hl3 BT1 BT2 BTM
  have z0 := BU1.out.cell 0
  simp only [List.getElem?_cons_zero] at z0
  go_upto_region 24 with (fail)
  clear z0
  have m0 := BUM.out.cell 0
  have m1 := BUM.out.cell 1
  have m2 := BUM.out.cell 2
  have m3 := BUM.out.cell 3
  have m4 := BUM.out.cell 4
  have m5 := BUM.out.cell 5
  simp only [List.getElem?_cons_zero, List.getElem?_cons_succ] at m0 m1 m2 m3 m4 m5
  have M0 := Lib.hid m0
  have M1 := Lib.hid m1
  have M2 := Lib.hid m2
  have M3 := Lib.hid m3
  have M4 := Lib.hid m4
  have M5 := Lib.hid m5
  have n0 := BU5.out.cell 0
  have n1 := BU5.out.cell 1
  have n2 := BU5.out.cell 2
  have n3 := BU5.out.cell 3
  have n4 := BU5.out.cell 4
  have n5 := BU5.out.cell 5
  simp only [List.getElem?_cons_zero, List.getElem?_cons_succ] at n0 n1 n2 n3 n4 n5
  have N0 := Lib.hid n0
  have N1 := Lib.hid n1
  have N2 := Lib.hid n2
  have N3 := Lib.hid n3
  have N4 := Lib.hid n4
  have N5 := Lib.hid n5
  have hltm := BUM.out.lt
  have hltn := BU5.out.lt
  have HQ0 := Lib.hid (bel_drew1 W5)
  go_cut [6] (fun va wx => ∃ g, va = .pointer (some ⟨g, 0, none⟩) ∧ W5.heap.size ≤ g ∧ Blk wx g 45 [.int .i64 ek, .int .i64 es, .int .i64 ed] ∧ Below W5.heap.size W5 wx)
  case first =>
    (first | (go_region_held3 (fun w' => w'.cell? ⟨gm, 0, none⟩ = some (.int .i64 ak1) ∧ w'.cell? ⟨gm, 1, none⟩ = some (.int .i64 as1) ∧ w'.cell? ⟨gm, 2, none⟩ = some (.int .i64 ad1) ∧ w'.cell? ⟨gm, 3, none⟩ = some (.int .i64 bk1) ∧ w'.cell? ⟨gm, 4, none⟩ = some (.int .i64 bs1) ∧ w'.cell? ⟨gm, 5, none⟩ = some (.int .i64 bd1) ∧ w'.cell? ⟨gn, 0, none⟩ = some (.int .i64 ak2) ∧ w'.cell? ⟨gn, 1, none⟩ = some (.int .i64 as2) ∧ w'.cell? ⟨gn, 2, none⟩ = some (.int .i64 ad2) ∧ w'.cell? ⟨gn, 3, none⟩ = some (.int .i64 bk2) ∧ w'.cell? ⟨gn, 4, none⟩ = some (.int .i64 bs2) ∧ w'.cell? ⟨gn, 5, none⟩ = some (.int .i64 bd2)) (go_keep) (first | (go_at_call_of 39 (Value.agg #[.int .i64 bk1, .int .i64 bs1, .int .i64 bd1]); refine (HWP.out _).mono ?_; rintro e w9 ⟨rfl, hb9⟩; have BN0 := BN; clear BN; have BN := Lib.hid (Blk.go BN0.out hb9); have yn0 := BN.out.cell 0; have fn0 := BN.out.free 0; have yn1 := BN.out.cell 1; have fn1 := BN.out.free 1; have yn2 := BN.out.cell 2; have fn2 := BN.out.free 2; simp only [List.getElem?_cons_zero, List.getElem?_cons_succ] at yn0 yn1 yn2; have HQ1 := Lib.hid (bel_go (by first | exact HQ1.out | exact HQ0.out) hb9); clear hb9; have m0 := keepc HQ1.out M0.out; have m1 := keepc HQ1.out M1.out; have m2 := keepc HQ1.out M2.out; have m3 := keepc HQ1.out M3.out; have m4 := keepc HQ1.out M4.out; have m5 := keepc HQ1.out M5.out; have n0 := keepc HQ1.out N0.out; have n1 := keepc HQ1.out N1.out; have n2 := keepc HQ1.out N2.out; have n3 := keepc HQ1.out N3.out; have n4 := keepc HQ1.out N4.out; have n5 := keepc HQ1.out N5.out;) | (go_at_call_of 39 (Value.agg #[.int .i64 bk1, .int .i64 bs1, .int .i64 bd1]); refine (HWP.out _).mono ?_; rintro e w9 ⟨rfl, hb9⟩; have BN := Lib.hid (Blk.go (Blk.new _ 45 [.int .i64 0, .int .i64 0, .int .i64 0]) hb9); have hgn := HQ1.out.size; have hna0 := Nat.ne_of_gt (Nat.lt_of_lt_of_le hltm hgn); have hnb0 := hna0.symm; have hna1 := Nat.ne_of_gt (Nat.lt_of_lt_of_le hltn hgn); have hnb1 := hna1.symm; have yn0 := BN.out.cell 0; have fn0 := BN.out.free 0; have yn1 := BN.out.cell 1; have fn1 := BN.out.free 1; have yn2 := BN.out.cell 2; have fn2 := BN.out.free 2; simp only [List.getElem?_cons_zero, List.getElem?_cons_succ] at yn0 yn1 yn2; have HQ1 := Lib.hid (bel_go (HQ1.out.alloc HQ1.out.size (.cells #[.int .i64 0, .int .i64 0, .int .i64 0] 45)) hb9); clear hb9; have m0 := keepc HQ1.out M0.out; have m1 := keepc HQ1.out M1.out; have m2 := keepc HQ1.out M2.out; have m3 := keepc HQ1.out M3.out; have m4 := keepc HQ1.out M4.out; have m5 := keepc HQ1.out M5.out; have n0 := keepc HQ1.out N0.out; have n1 := keepc HQ1.out N1.out; have n2 := keepc HQ1.out N2.out; have n3 := keepc HQ1.out N3.out; have n4 := keepc HQ1.out N4.out; have n5 := keepc HQ1.out N5.out;) | (go_at_call_of 39 (Value.agg #[.int .i64 bk1, .int .i64 bs1, .int .i64 bd1]); refine (HWP.out _).mono ?_; rintro e w9 ⟨rfl, hb9⟩; have BN : Hid (Blk w9 W5.heap.size 45 [.int .i64 0, .int .i64 0, .int .i64 0]) := Lib.hid (Blk.go (Blk.new W5.drew _ _) hb9); have hgn := Nat.le_refl W5.heap.size; have hna0 := Nat.ne_of_gt (Nat.lt_of_lt_of_le hltm hgn); have hnb0 := hna0.symm; have hna1 := Nat.ne_of_gt (Nat.lt_of_lt_of_le hltn hgn); have hnb1 := hna1.symm; have yn0 := BN.out.cell 0; have fn0 := BN.out.free 0; have yn1 := BN.out.cell 1; have fn1 := BN.out.free 1; have yn2 := BN.out.cell 2; have fn2 := BN.out.free 2; simp only [List.getElem?_cons_zero, List.getElem?_cons_succ] at yn0 yn1 yn2; have HQ1 := Lib.hid (bel_go (HQ0.out.alloc HQ0.out.size (.cells #[.int .i64 0, .int .i64 0, .int .i64 0] 45)) hb9); clear hb9; have m0 := keepc HQ1.out M0.out; have m1 := keepc HQ1.out M1.out; have m2 := keepc HQ1.out M2.out; have m3 := keepc HQ1.out M3.out; have m4 := keepc HQ1.out M4.out; have m5 := keepc HQ1.out M5.out; have n0 := keepc HQ1.out N0.out; have n1 := keepc HQ1.out N1.out; have n2 := keepc HQ1.out N2.out; have n3 := keepc HQ1.out N3.out; have n4 := keepc HQ1.out N4.out; have n5 := keepc HQ1.out N5.out;) | (go_at_call_of 39 (Value.agg #[.int .i64 bk1, .int .i64 bs1, .int .i64 bd1]); refine (HWP.out _).mono ?_; rintro e w9 ⟨rfl, hb9⟩;  have HQ1 := Lib.hid (bel_go (by first | exact HQ1.out | exact HQ0.out) hb9); clear hb9; have m0 := keepc HQ1.out M0.out; have m1 := keepc HQ1.out M1.out; have m2 := keepc HQ1.out M2.out; have m3 := keepc HQ1.out M3.out; have m4 := keepc HQ1.out M4.out; have m5 := keepc HQ1.out M5.out; have n0 := keepc HQ1.out N0.out; have n1 := keepc HQ1.out N1.out; have n2 := keepc HQ1.out N2.out; have n3 := keepc HQ1.out N3.out; have n4 := keepc HQ1.out N4.out; have n5 := keepc HQ1.out N5.out;) | (go_at_call_of 39 (Value.agg #[.int .i64 ak1, .int .i64 as1, .int .i64 ad1]); refine (HWQ.out _).mono ?_; rintro e w9 ⟨rfl, hb9⟩; have BN0 := BN; clear BN; have BN := Lib.hid (Blk.go BN0.out hb9); have yn0 := BN.out.cell 0; have fn0 := BN.out.free 0; have yn1 := BN.out.cell 1; have fn1 := BN.out.free 1; have yn2 := BN.out.cell 2; have fn2 := BN.out.free 2; simp only [List.getElem?_cons_zero, List.getElem?_cons_succ] at yn0 yn1 yn2; have HQ1 := Lib.hid (bel_go (by first | exact HQ1.out | exact HQ0.out) hb9); clear hb9; have m0 := keepc HQ1.out M0.out; have m1 := keepc HQ1.out M1.out; have m2 := keepc HQ1.out M2.out; have m3 := keepc HQ1.out M3.out; have m4 := keepc HQ1.out M4.out; have m5 := keepc HQ1.out M5.out; have n0 := keepc HQ1.out N0.out; have n1 := keepc HQ1.out N1.out; have n2 := keepc HQ1.out N2.out; have n3 := keepc HQ1.out N3.out; have n4 := keepc HQ1.out N4.out; have n5 := keepc HQ1.out N5.out;) | (go_at_call_of 39 (Value.agg #[.int .i64 ak1, .int .i64 as1, .int .i64 ad1]); refine (HWQ.out _).mono ?_; rintro e w9 ⟨rfl, hb9⟩; have BN := Lib.hid (Blk.go (Blk.new _ 45 [.int .i64 0, .int .i64 0, .int .i64 0]) hb9); have hgn := HQ1.out.size; have hna0 := Nat.ne_of_gt (Nat.lt_of_lt_of_le hltm hgn); have hnb0 := hna0.symm; have hna1 := Nat.ne_of_gt (Nat.lt_of_lt_of_le hltn hgn); have hnb1 := hna1.symm; have yn0 := BN.out.cell 0; have fn0 := BN.out.free 0; have yn1 := BN.out.cell 1; have fn1 := BN.out.free 1; have yn2 := BN.out.cell 2; have fn2 := BN.out.free 2; simp only [List.getElem?_cons_zero, List.getElem?_cons_succ] at yn0 yn1 yn2; have HQ1 := Lib.hid (bel_go (HQ1.out.alloc HQ1.out.size (.cells #[.int .i64 0, .int .i64 0, .int .i64 0] 45)) hb9); clear hb9; have m0 := keepc HQ1.out M0.out; have m1 := keepc HQ1.out M1.out; have m2 := keepc HQ1.out M2.out; have m3 := keepc HQ1.out M3.out; have m4 := keepc HQ1.out M4.out; have m5 := keepc HQ1.out M5.out; have n0 := keepc HQ1.out N0.out; have n1 := keepc HQ1.out N1.out; have n2 := keepc HQ1.out N2.out; have n3 := keepc HQ1.out N3.out; have n4 := keepc HQ1.out N4.out; have n5 := keepc HQ1.out N5.out;) | (go_at_call_of 39 (Value.agg #[.int .i64 ak1, .int .i64 as1, .int .i64 ad1]); refine (HWQ.out _).mono ?_; rintro e w9 ⟨rfl, hb9⟩; have BN : Hid (Blk w9 W5.heap.size 45 [.int .i64 0, .int .i64 0, .int .i64 0]) := Lib.hid (Blk.go (Blk.new W5.drew _ _) hb9); have hgn := Nat.le_refl W5.heap.size; have hna0 := Nat.ne_of_gt (Nat.lt_of_lt_of_le hltm hgn); have hnb0 := hna0.symm; have hna1 := Nat.ne_of_gt (Nat.lt_of_lt_of_le hltn hgn); have hnb1 := hna1.symm; have yn0 := BN.out.cell 0; have fn0 := BN.out.free 0; have yn1 := BN.out.cell 1; have fn1 := BN.out.free 1; have yn2 := BN.out.cell 2; have fn2 := BN.out.free 2; simp only [List.getElem?_cons_zero, List.getElem?_cons_succ] at yn0 yn1 yn2; have HQ1 := Lib.hid (bel_go (HQ0.out.alloc HQ0.out.size (.cells #[.int .i64 0, .int .i64 0, .int .i64 0] 45)) hb9); clear hb9; have m0 := keepc HQ1.out M0.out; have m1 := keepc HQ1.out M1.out; have m2 := keepc HQ1.out M2.out; have m3 := keepc HQ1.out M3.out; have m4 := keepc HQ1.out M4.out; have m5 := keepc HQ1.out M5.out; have n0 := keepc HQ1.out N0.out; have n1 := keepc HQ1.out N1.out; have n2 := keepc HQ1.out N2.out; have n3 := keepc HQ1.out N3.out; have n4 := keepc HQ1.out N4.out; have n5 := keepc HQ1.out N5.out;) | (go_at_call_of 39 (Value.agg #[.int .i64 ak1, .int .i64 as1, .int .i64 ad1]); refine (HWQ.out _).mono ?_; rintro e w9 ⟨rfl, hb9⟩;  have HQ1 := Lib.hid (bel_go (by first | exact HQ1.out | exact HQ0.out) hb9); clear hb9; have m0 := keepc HQ1.out M0.out; have m1 := keepc HQ1.out M1.out; have m2 := keepc HQ1.out M2.out; have m3 := keepc HQ1.out M3.out; have m4 := keepc HQ1.out M4.out; have m5 := keepc HQ1.out M5.out; have n0 := keepc HQ1.out N0.out; have n1 := keepc HQ1.out N1.out; have n2 := keepc HQ1.out N2.out; have n3 := keepc HQ1.out N3.out; have n4 := keepc HQ1.out N4.out; have n5 := keepc HQ1.out N5.out;) | (go_at_call_of 39 (Value.agg #[.int .i64 xpk, .int .i64 xps, .int .i64 xpd]); refine (HWe.out _).mono ?_; rintro e w9 ⟨rfl, hb9⟩; have BN0 := BN; clear BN; have BN := Lib.hid (Blk.go BN0.out hb9); have yn0 := BN.out.cell 0; have fn0 := BN.out.free 0; have yn1 := BN.out.cell 1; have fn1 := BN.out.free 1; have yn2 := BN.out.cell 2; have fn2 := BN.out.free 2; simp only [List.getElem?_cons_zero, List.getElem?_cons_succ] at yn0 yn1 yn2; have HQ1 := Lib.hid (bel_go (by first | exact HQ1.out | exact HQ0.out) hb9); clear hb9; have m0 := keepc HQ1.out M0.out; have m1 := keepc HQ1.out M1.out; have m2 := keepc HQ1.out M2.out; have m3 := keepc HQ1.out M3.out; have m4 := keepc HQ1.out M4.out; have m5 := keepc HQ1.out M5.out; have n0 := keepc HQ1.out N0.out; have n1 := keepc HQ1.out N1.out; have n2 := keepc HQ1.out N2.out; have n3 := keepc HQ1.out N3.out; have n4 := keepc HQ1.out N4.out; have n5 := keepc HQ1.out N5.out;) | (go_at_call_of 39 (Value.agg #[.int .i64 xpk, .int .i64 xps, .int .i64 xpd]); refine (HWe.out _).mono ?_; rintro e w9 ⟨rfl, hb9⟩; have BN := Lib.hid (Blk.go (Blk.new _ 45 [.int .i64 0, .int .i64 0, .int .i64 0]) hb9); have hgn := HQ1.out.size; have hna0 := Nat.ne_of_gt (Nat.lt_of_lt_of_le hltm hgn); have hnb0 := hna0.symm; have hna1 := Nat.ne_of_gt (Nat.lt_of_lt_of_le hltn hgn); have hnb1 := hna1.symm; have yn0 := BN.out.cell 0; have fn0 := BN.out.free 0; have yn1 := BN.out.cell 1; have fn1 := BN.out.free 1; have yn2 := BN.out.cell 2; have fn2 := BN.out.free 2; simp only [List.getElem?_cons_zero, List.getElem?_cons_succ] at yn0 yn1 yn2; have HQ1 := Lib.hid (bel_go (HQ1.out.alloc HQ1.out.size (.cells #[.int .i64 0, .int .i64 0, .int .i64 0] 45)) hb9); clear hb9; have m0 := keepc HQ1.out M0.out; have m1 := keepc HQ1.out M1.out; have m2 := keepc HQ1.out M2.out; have m3 := keepc HQ1.out M3.out; have m4 := keepc HQ1.out M4.out; have m5 := keepc HQ1.out M5.out; have n0 := keepc HQ1.out N0.out; have n1 := keepc HQ1.out N1.out; have n2 := keepc HQ1.out N2.out; have n3 := keepc HQ1.out N3.out; have n4 := keepc HQ1.out N4.out; have n5 := keepc HQ1.out N5.out;) | (go_at_call_of 39 (Value.agg #[.int .i64 xpk, .int .i64 xps, .int .i64 xpd]); refine (HWe.out _).mono ?_; rintro e w9 ⟨rfl, hb9⟩; have BN : Hid (Blk w9 W5.heap.size 45 [.int .i64 0, .int .i64 0, .int .i64 0]) := Lib.hid (Blk.go (Blk.new W5.drew _ _) hb9); have hgn := Nat.le_refl W5.heap.size; have hna0 := Nat.ne_of_gt (Nat.lt_of_lt_of_le hltm hgn); have hnb0 := hna0.symm; have hna1 := Nat.ne_of_gt (Nat.lt_of_lt_of_le hltn hgn); have hnb1 := hna1.symm; have yn0 := BN.out.cell 0; have fn0 := BN.out.free 0; have yn1 := BN.out.cell 1; have fn1 := BN.out.free 1; have yn2 := BN.out.cell 2; have fn2 := BN.out.free 2; simp only [List.getElem?_cons_zero, List.getElem?_cons_succ] at yn0 yn1 yn2; have HQ1 := Lib.hid (bel_go (HQ0.out.alloc HQ0.out.size (.cells #[.int .i64 0, .int .i64 0, .int .i64 0] 45)) hb9); clear hb9; have m0 := keepc HQ1.out M0.out; have m1 := keepc HQ1.out M1.out; have m2 := keepc HQ1.out M2.out; have m3 := keepc HQ1.out M3.out; have m4 := keepc HQ1.out M4.out; have m5 := keepc HQ1.out M5.out; have n0 := keepc HQ1.out N0.out; have n1 := keepc HQ1.out N1.out; have n2 := keepc HQ1.out N2.out; have n3 := keepc HQ1.out N3.out; have n4 := keepc HQ1.out N4.out; have n5 := keepc HQ1.out N5.out;) | (go_at_call_of 39 (Value.agg #[.int .i64 xpk, .int .i64 xps, .int .i64 xpd]); refine (HWe.out _).mono ?_; rintro e w9 ⟨rfl, hb9⟩;  have HQ1 := Lib.hid (bel_go (by first | exact HQ1.out | exact HQ0.out) hb9); clear hb9; have m0 := keepc HQ1.out M0.out; have m1 := keepc HQ1.out M1.out; have m2 := keepc HQ1.out M2.out; have m3 := keepc HQ1.out M3.out; have m4 := keepc HQ1.out M4.out; have m5 := keepc HQ1.out M5.out; have n0 := keepc HQ1.out N0.out; have n1 := keepc HQ1.out N1.out; have n2 := keepc HQ1.out N2.out; have n3 := keepc HQ1.out N3.out; have n4 := keepc HQ1.out N4.out; have n5 := keepc HQ1.out N5.out;))) | fail "held")
    all_goals
      go_wp2_with fail
      go_meet
      first
      | exact ⟨_, rfl, HQ1.out.size, Blk.new _ _ _, HQ1.out.alloc HQ1.out.size _⟩
      | exact ⟨_, rfl, hgn, blk3 BN.out _ _ _, (((HQ1.out.setCell hgn _).setCell hgn _).setCell hgn _)⟩
  case rest =>
    obtain ⟨g6, rfl, hg6, hbk6, hbw6⟩ := hcut
    have B6 := Lib.hid hbk6
    have BXM := Lib.hid (BUM.out.below hbw6 BUM.out.lt)
    have BX5 := Lib.hid (BU5.out.below hbw6 BU5.out.lt)
    have BX2 := Lib.hid (BU2.out.below hbw6 BU2.out.lt)
    have HB6 := Lib.hid (bel_go HB5.out hbw6)
    have hlr := BU2.out.lt
    clear m0 n0 m1 n1 m2 n2 m3 n3 m4 n4 m5 n5 hltm hltn hbk6 hbw6 BUM BU5 BU2 BU1
    generalize wc = W6 at *
    have m0 := BXM.out.cell 0
    have m1 := BXM.out.cell 1
    have m2 := BXM.out.cell 2
    have m3 := BXM.out.cell 3
    have m4 := BXM.out.cell 4
    have m5 := BXM.out.cell 5
    simp only [List.getElem?_cons_zero, List.getElem?_cons_succ] at m0 m1 m2 m3 m4 m5
    have M0 := Lib.hid m0
    have M1 := Lib.hid m1
    have M2 := Lib.hid m2
    have M3 := Lib.hid m3
    have M4 := Lib.hid m4
    have M5 := Lib.hid m5
    have n0 := BX5.out.cell 0
    have n1 := BX5.out.cell 1
    have n2 := BX5.out.cell 2
    have n3 := BX5.out.cell 3
    have n4 := BX5.out.cell 4
    have n5 := BX5.out.cell 5
    simp only [List.getElem?_cons_zero, List.getElem?_cons_succ] at n0 n1 n2 n3 n4 n5
    have N0 := Lib.hid n0
    have N1 := Lib.hid n1
    have N2 := Lib.hid n2
    have N3 := Lib.hid n3
    have N4 := Lib.hid n4
    have N5 := Lib.hid n5
    have hltm := BXM.out.lt
    have hltn := BX5.out.lt
    have HQ0 := Lib.hid (bel_drew1 W6)
    go_upto_region 25 with (fail)
    go_cut [7] (fun va wx => ∃ g, va = .pointer (some ⟨g, 0, none⟩) ∧ W6.heap.size ≤ g ∧ Blk wx g 45 [.int .i64 gk, .int .i64 gs, .int .i64 gd] ∧ Below W6.heap.size W6 wx)
    case first =>
      (first | (go_region_held3 (fun w' => w'.cell? ⟨gm, 0, none⟩ = some (.int .i64 ak1) ∧ w'.cell? ⟨gm, 1, none⟩ = some (.int .i64 as1) ∧ w'.cell? ⟨gm, 2, none⟩ = some (.int .i64 ad1) ∧ w'.cell? ⟨gm, 3, none⟩ = some (.int .i64 bk1) ∧ w'.cell? ⟨gm, 4, none⟩ = some (.int .i64 bs1) ∧ w'.cell? ⟨gm, 5, none⟩ = some (.int .i64 bd1) ∧ w'.cell? ⟨gn, 0, none⟩ = some (.int .i64 ak2) ∧ w'.cell? ⟨gn, 1, none⟩ = some (.int .i64 as2) ∧ w'.cell? ⟨gn, 2, none⟩ = some (.int .i64 ad2) ∧ w'.cell? ⟨gn, 3, none⟩ = some (.int .i64 bk2) ∧ w'.cell? ⟨gn, 4, none⟩ = some (.int .i64 bs2) ∧ w'.cell? ⟨gn, 5, none⟩ = some (.int .i64 bd2)) (go_keep) (first | (go_at_call_of 39 (Value.agg #[.int .i64 ak1, .int .i64 as1, .int .i64 ad1]); refine (HWR.out _).mono ?_; rintro e w9 ⟨rfl, hb9⟩; have BN0 := BN; clear BN; have BN := Lib.hid (Blk.go BN0.out hb9); have yn0 := BN.out.cell 0; have fn0 := BN.out.free 0; have yn1 := BN.out.cell 1; have fn1 := BN.out.free 1; have yn2 := BN.out.cell 2; have fn2 := BN.out.free 2; simp only [List.getElem?_cons_zero, List.getElem?_cons_succ] at yn0 yn1 yn2; have HQ1 := Lib.hid (bel_go (by first | exact HQ1.out | exact HQ0.out) hb9); clear hb9; have m0 := keepc HQ1.out M0.out; have m1 := keepc HQ1.out M1.out; have m2 := keepc HQ1.out M2.out; have m3 := keepc HQ1.out M3.out; have m4 := keepc HQ1.out M4.out; have m5 := keepc HQ1.out M5.out; have n0 := keepc HQ1.out N0.out; have n1 := keepc HQ1.out N1.out; have n2 := keepc HQ1.out N2.out; have n3 := keepc HQ1.out N3.out; have n4 := keepc HQ1.out N4.out; have n5 := keepc HQ1.out N5.out;) | (go_at_call_of 39 (Value.agg #[.int .i64 ak1, .int .i64 as1, .int .i64 ad1]); refine (HWR.out _).mono ?_; rintro e w9 ⟨rfl, hb9⟩; have BN := Lib.hid (Blk.go (Blk.new _ 45 [.int .i64 0, .int .i64 0, .int .i64 0]) hb9); have hgn := HQ1.out.size; have hna0 := Nat.ne_of_gt (Nat.lt_of_lt_of_le hltm hgn); have hnb0 := hna0.symm; have hna1 := Nat.ne_of_gt (Nat.lt_of_lt_of_le hltn hgn); have hnb1 := hna1.symm; have yn0 := BN.out.cell 0; have fn0 := BN.out.free 0; have yn1 := BN.out.cell 1; have fn1 := BN.out.free 1; have yn2 := BN.out.cell 2; have fn2 := BN.out.free 2; simp only [List.getElem?_cons_zero, List.getElem?_cons_succ] at yn0 yn1 yn2; have HQ1 := Lib.hid (bel_go (HQ1.out.alloc HQ1.out.size (.cells #[.int .i64 0, .int .i64 0, .int .i64 0] 45)) hb9); clear hb9; have m0 := keepc HQ1.out M0.out; have m1 := keepc HQ1.out M1.out; have m2 := keepc HQ1.out M2.out; have m3 := keepc HQ1.out M3.out; have m4 := keepc HQ1.out M4.out; have m5 := keepc HQ1.out M5.out; have n0 := keepc HQ1.out N0.out; have n1 := keepc HQ1.out N1.out; have n2 := keepc HQ1.out N2.out; have n3 := keepc HQ1.out N3.out; have n4 := keepc HQ1.out N4.out; have n5 := keepc HQ1.out N5.out;) | (go_at_call_of 39 (Value.agg #[.int .i64 ak1, .int .i64 as1, .int .i64 ad1]); refine (HWR.out _).mono ?_; rintro e w9 ⟨rfl, hb9⟩; have BN : Hid (Blk w9 W6.heap.size 45 [.int .i64 0, .int .i64 0, .int .i64 0]) := Lib.hid (Blk.go (Blk.new W6.drew _ _) hb9); have hgn := Nat.le_refl W6.heap.size; have hna0 := Nat.ne_of_gt (Nat.lt_of_lt_of_le hltm hgn); have hnb0 := hna0.symm; have hna1 := Nat.ne_of_gt (Nat.lt_of_lt_of_le hltn hgn); have hnb1 := hna1.symm; have yn0 := BN.out.cell 0; have fn0 := BN.out.free 0; have yn1 := BN.out.cell 1; have fn1 := BN.out.free 1; have yn2 := BN.out.cell 2; have fn2 := BN.out.free 2; simp only [List.getElem?_cons_zero, List.getElem?_cons_succ] at yn0 yn1 yn2; have HQ1 := Lib.hid (bel_go (HQ0.out.alloc HQ0.out.size (.cells #[.int .i64 0, .int .i64 0, .int .i64 0] 45)) hb9); clear hb9; have m0 := keepc HQ1.out M0.out; have m1 := keepc HQ1.out M1.out; have m2 := keepc HQ1.out M2.out; have m3 := keepc HQ1.out M3.out; have m4 := keepc HQ1.out M4.out; have m5 := keepc HQ1.out M5.out; have n0 := keepc HQ1.out N0.out; have n1 := keepc HQ1.out N1.out; have n2 := keepc HQ1.out N2.out; have n3 := keepc HQ1.out N3.out; have n4 := keepc HQ1.out N4.out; have n5 := keepc HQ1.out N5.out;) | (go_at_call_of 39 (Value.agg #[.int .i64 ak1, .int .i64 as1, .int .i64 ad1]); refine (HWR.out _).mono ?_; rintro e w9 ⟨rfl, hb9⟩;  have HQ1 := Lib.hid (bel_go (by first | exact HQ1.out | exact HQ0.out) hb9); clear hb9; have m0 := keepc HQ1.out M0.out; have m1 := keepc HQ1.out M1.out; have m2 := keepc HQ1.out M2.out; have m3 := keepc HQ1.out M3.out; have m4 := keepc HQ1.out M4.out; have m5 := keepc HQ1.out M5.out; have n0 := keepc HQ1.out N0.out; have n1 := keepc HQ1.out N1.out; have n2 := keepc HQ1.out N2.out; have n3 := keepc HQ1.out N3.out; have n4 := keepc HQ1.out N4.out; have n5 := keepc HQ1.out N5.out;) | (go_at_call_of 39 (Value.agg #[.int .i64 bk1, .int .i64 bs1, .int .i64 bd1]); refine (HWT.out _).mono ?_; rintro e w9 ⟨rfl, hb9⟩; have BN0 := BN; clear BN; have BN := Lib.hid (Blk.go BN0.out hb9); have yn0 := BN.out.cell 0; have fn0 := BN.out.free 0; have yn1 := BN.out.cell 1; have fn1 := BN.out.free 1; have yn2 := BN.out.cell 2; have fn2 := BN.out.free 2; simp only [List.getElem?_cons_zero, List.getElem?_cons_succ] at yn0 yn1 yn2; have HQ1 := Lib.hid (bel_go (by first | exact HQ1.out | exact HQ0.out) hb9); clear hb9; have m0 := keepc HQ1.out M0.out; have m1 := keepc HQ1.out M1.out; have m2 := keepc HQ1.out M2.out; have m3 := keepc HQ1.out M3.out; have m4 := keepc HQ1.out M4.out; have m5 := keepc HQ1.out M5.out; have n0 := keepc HQ1.out N0.out; have n1 := keepc HQ1.out N1.out; have n2 := keepc HQ1.out N2.out; have n3 := keepc HQ1.out N3.out; have n4 := keepc HQ1.out N4.out; have n5 := keepc HQ1.out N5.out;) | (go_at_call_of 39 (Value.agg #[.int .i64 bk1, .int .i64 bs1, .int .i64 bd1]); refine (HWT.out _).mono ?_; rintro e w9 ⟨rfl, hb9⟩; have BN := Lib.hid (Blk.go (Blk.new _ 45 [.int .i64 0, .int .i64 0, .int .i64 0]) hb9); have hgn := HQ1.out.size; have hna0 := Nat.ne_of_gt (Nat.lt_of_lt_of_le hltm hgn); have hnb0 := hna0.symm; have hna1 := Nat.ne_of_gt (Nat.lt_of_lt_of_le hltn hgn); have hnb1 := hna1.symm; have yn0 := BN.out.cell 0; have fn0 := BN.out.free 0; have yn1 := BN.out.cell 1; have fn1 := BN.out.free 1; have yn2 := BN.out.cell 2; have fn2 := BN.out.free 2; simp only [List.getElem?_cons_zero, List.getElem?_cons_succ] at yn0 yn1 yn2; have HQ1 := Lib.hid (bel_go (HQ1.out.alloc HQ1.out.size (.cells #[.int .i64 0, .int .i64 0, .int .i64 0] 45)) hb9); clear hb9; have m0 := keepc HQ1.out M0.out; have m1 := keepc HQ1.out M1.out; have m2 := keepc HQ1.out M2.out; have m3 := keepc HQ1.out M3.out; have m4 := keepc HQ1.out M4.out; have m5 := keepc HQ1.out M5.out; have n0 := keepc HQ1.out N0.out; have n1 := keepc HQ1.out N1.out; have n2 := keepc HQ1.out N2.out; have n3 := keepc HQ1.out N3.out; have n4 := keepc HQ1.out N4.out; have n5 := keepc HQ1.out N5.out;) | (go_at_call_of 39 (Value.agg #[.int .i64 bk1, .int .i64 bs1, .int .i64 bd1]); refine (HWT.out _).mono ?_; rintro e w9 ⟨rfl, hb9⟩; have BN : Hid (Blk w9 W6.heap.size 45 [.int .i64 0, .int .i64 0, .int .i64 0]) := Lib.hid (Blk.go (Blk.new W6.drew _ _) hb9); have hgn := Nat.le_refl W6.heap.size; have hna0 := Nat.ne_of_gt (Nat.lt_of_lt_of_le hltm hgn); have hnb0 := hna0.symm; have hna1 := Nat.ne_of_gt (Nat.lt_of_lt_of_le hltn hgn); have hnb1 := hna1.symm; have yn0 := BN.out.cell 0; have fn0 := BN.out.free 0; have yn1 := BN.out.cell 1; have fn1 := BN.out.free 1; have yn2 := BN.out.cell 2; have fn2 := BN.out.free 2; simp only [List.getElem?_cons_zero, List.getElem?_cons_succ] at yn0 yn1 yn2; have HQ1 := Lib.hid (bel_go (HQ0.out.alloc HQ0.out.size (.cells #[.int .i64 0, .int .i64 0, .int .i64 0] 45)) hb9); clear hb9; have m0 := keepc HQ1.out M0.out; have m1 := keepc HQ1.out M1.out; have m2 := keepc HQ1.out M2.out; have m3 := keepc HQ1.out M3.out; have m4 := keepc HQ1.out M4.out; have m5 := keepc HQ1.out M5.out; have n0 := keepc HQ1.out N0.out; have n1 := keepc HQ1.out N1.out; have n2 := keepc HQ1.out N2.out; have n3 := keepc HQ1.out N3.out; have n4 := keepc HQ1.out N4.out; have n5 := keepc HQ1.out N5.out;) | (go_at_call_of 39 (Value.agg #[.int .i64 bk1, .int .i64 bs1, .int .i64 bd1]); refine (HWT.out _).mono ?_; rintro e w9 ⟨rfl, hb9⟩;  have HQ1 := Lib.hid (bel_go (by first | exact HQ1.out | exact HQ0.out) hb9); clear hb9; have m0 := keepc HQ1.out M0.out; have m1 := keepc HQ1.out M1.out; have m2 := keepc HQ1.out M2.out; have m3 := keepc HQ1.out M3.out; have m4 := keepc HQ1.out M4.out; have m5 := keepc HQ1.out M5.out; have n0 := keepc HQ1.out N0.out; have n1 := keepc HQ1.out N1.out; have n2 := keepc HQ1.out N2.out; have n3 := keepc HQ1.out N3.out; have n4 := keepc HQ1.out N4.out; have n5 := keepc HQ1.out N5.out;) | (go_at_call_of 39 (Value.agg #[.int .i64 xrk, .int .i64 xrs, .int .i64 xrd]); refine (HWg.out _).mono ?_; rintro e w9 ⟨rfl, hb9⟩; have BN0 := BN; clear BN; have BN := Lib.hid (Blk.go BN0.out hb9); have yn0 := BN.out.cell 0; have fn0 := BN.out.free 0; have yn1 := BN.out.cell 1; have fn1 := BN.out.free 1; have yn2 := BN.out.cell 2; have fn2 := BN.out.free 2; simp only [List.getElem?_cons_zero, List.getElem?_cons_succ] at yn0 yn1 yn2; have HQ1 := Lib.hid (bel_go (by first | exact HQ1.out | exact HQ0.out) hb9); clear hb9; have m0 := keepc HQ1.out M0.out; have m1 := keepc HQ1.out M1.out; have m2 := keepc HQ1.out M2.out; have m3 := keepc HQ1.out M3.out; have m4 := keepc HQ1.out M4.out; have m5 := keepc HQ1.out M5.out; have n0 := keepc HQ1.out N0.out; have n1 := keepc HQ1.out N1.out; have n2 := keepc HQ1.out N2.out; have n3 := keepc HQ1.out N3.out; have n4 := keepc HQ1.out N4.out; have n5 := keepc HQ1.out N5.out;) | (go_at_call_of 39 (Value.agg #[.int .i64 xrk, .int .i64 xrs, .int .i64 xrd]); refine (HWg.out _).mono ?_; rintro e w9 ⟨rfl, hb9⟩; have BN := Lib.hid (Blk.go (Blk.new _ 45 [.int .i64 0, .int .i64 0, .int .i64 0]) hb9); have hgn := HQ1.out.size; have hna0 := Nat.ne_of_gt (Nat.lt_of_lt_of_le hltm hgn); have hnb0 := hna0.symm; have hna1 := Nat.ne_of_gt (Nat.lt_of_lt_of_le hltn hgn); have hnb1 := hna1.symm; have yn0 := BN.out.cell 0; have fn0 := BN.out.free 0; have yn1 := BN.out.cell 1; have fn1 := BN.out.free 1; have yn2 := BN.out.cell 2; have fn2 := BN.out.free 2; simp only [List.getElem?_cons_zero, List.getElem?_cons_succ] at yn0 yn1 yn2; have HQ1 := Lib.hid (bel_go (HQ1.out.alloc HQ1.out.size (.cells #[.int .i64 0, .int .i64 0, .int .i64 0] 45)) hb9); clear hb9; have m0 := keepc HQ1.out M0.out; have m1 := keepc HQ1.out M1.out; have m2 := keepc HQ1.out M2.out; have m3 := keepc HQ1.out M3.out; have m4 := keepc HQ1.out M4.out; have m5 := keepc HQ1.out M5.out; have n0 := keepc HQ1.out N0.out; have n1 := keepc HQ1.out N1.out; have n2 := keepc HQ1.out N2.out; have n3 := keepc HQ1.out N3.out; have n4 := keepc HQ1.out N4.out; have n5 := keepc HQ1.out N5.out;) | (go_at_call_of 39 (Value.agg #[.int .i64 xrk, .int .i64 xrs, .int .i64 xrd]); refine (HWg.out _).mono ?_; rintro e w9 ⟨rfl, hb9⟩; have BN : Hid (Blk w9 W6.heap.size 45 [.int .i64 0, .int .i64 0, .int .i64 0]) := Lib.hid (Blk.go (Blk.new W6.drew _ _) hb9); have hgn := Nat.le_refl W6.heap.size; have hna0 := Nat.ne_of_gt (Nat.lt_of_lt_of_le hltm hgn); have hnb0 := hna0.symm; have hna1 := Nat.ne_of_gt (Nat.lt_of_lt_of_le hltn hgn); have hnb1 := hna1.symm; have yn0 := BN.out.cell 0; have fn0 := BN.out.free 0; have yn1 := BN.out.cell 1; have fn1 := BN.out.free 1; have yn2 := BN.out.cell 2; have fn2 := BN.out.free 2; simp only [List.getElem?_cons_zero, List.getElem?_cons_succ] at yn0 yn1 yn2; have HQ1 := Lib.hid (bel_go (HQ0.out.alloc HQ0.out.size (.cells #[.int .i64 0, .int .i64 0, .int .i64 0] 45)) hb9); clear hb9; have m0 := keepc HQ1.out M0.out; have m1 := keepc HQ1.out M1.out; have m2 := keepc HQ1.out M2.out; have m3 := keepc HQ1.out M3.out; have m4 := keepc HQ1.out M4.out; have m5 := keepc HQ1.out M5.out; have n0 := keepc HQ1.out N0.out; have n1 := keepc HQ1.out N1.out; have n2 := keepc HQ1.out N2.out; have n3 := keepc HQ1.out N3.out; have n4 := keepc HQ1.out N4.out; have n5 := keepc HQ1.out N5.out;) | (go_at_call_of 39 (Value.agg #[.int .i64 xrk, .int .i64 xrs, .int .i64 xrd]); refine (HWg.out _).mono ?_; rintro e w9 ⟨rfl, hb9⟩;  have HQ1 := Lib.hid (bel_go (by first | exact HQ1.out | exact HQ0.out) hb9); clear hb9; have m0 := keepc HQ1.out M0.out; have m1 := keepc HQ1.out M1.out; have m2 := keepc HQ1.out M2.out; have m3 := keepc HQ1.out M3.out; have m4 := keepc HQ1.out M4.out; have m5 := keepc HQ1.out M5.out; have n0 := keepc HQ1.out N0.out; have n1 := keepc HQ1.out N1.out; have n2 := keepc HQ1.out N2.out; have n3 := keepc HQ1.out N3.out; have n4 := keepc HQ1.out N4.out; have n5 := keepc HQ1.out N5.out;))) | fail "held")
      all_goals
        go_wp2_with fail
        go_meet
        first
        | exact ⟨_, rfl, HQ1.out.size, Blk.new _ _ _, HQ1.out.alloc HQ1.out.size _⟩
        | exact ⟨_, rfl, hgn, blk3 BN.out _ _ _, (((HQ1.out.setCell hgn _).setCell hgn _).setCell hgn _)⟩
    case rest =>
      obtain ⟨g7, rfl, hg7, hbk7, hbw7⟩ := hcut
      have B7 := Lib.hid hbk7
      have B6' := Lib.hid (B6.out.below hbw7 B6.out.lt)
      have BR := Lib.hid (BX2.out.below hbw7 BX2.out.lt)
      have hB := bel_go HB6.out hbw7
      clear hltm hltn hbk7 hbw7 m0 n0 m1 n1 m2 n2 m3 n3 m4 n4 m5 n5
      have m0 := B6'.out.cell 0
      have m1 := B6'.out.cell 1
      have m2 := B6'.out.cell 2
      simp only [List.getElem?_cons_zero, List.getElem?_cons_succ] at m0 m1 m2
      have n0 := B7.out.cell 0
      have n1 := B7.out.cell 1
      have n2 := B7.out.cell 2
      simp only [List.getElem?_cons_zero, List.getElem?_cons_succ] at n0 n1 n2
      have yr0 := BR.out.cell 0
      have yr1 := BR.out.cell 1
      have yr2 := BR.out.cell 2
      have yr3 := BR.out.cell 3
      have yr4 := BR.out.cell 4
      have yr5 := BR.out.cell 5
      simp only [List.getElem?_cons_zero, List.getElem?_cons_succ] at yr0 yr1 yr2 yr3 yr4 yr5
      have fr0 := BR.out.free 0
      have fr1 := BR.out.free 1
      have fr2 := BR.out.free 2
      have fr3 := BR.out.free 3
      have fr4 := BR.out.free 4
      have fr5 := BR.out.free 5
      go_wp2_with fail
      refine bodyPost_ret (v := .agg #[.int .i64 ek, .int .i64 es, .int .i64 ed, .int .i64 gk, .int .i64 gs, .int .i64 gd]) ?_ rfl ⟨rfl, by (repeat' (first | (with_reducible assumption) | (with_reducible exact Below.refl _ _) | (with_reducible refine Below.setCell ?_ ?_ _) | (with_reducible refine Below.alloc ?_ ?_ _) | (with_reducible apply Below.drew) | omega | (simp; done) | (simp; omega)))⟩
      simp [results, Tryz.results18, go_sem, yr0, yr1, yr2, yr3, yr4, yr5]
theorem measured0 : ∀ N, MeasAt 18 N := by
  intro N
  induction N with
  | zero => intro k n vl fl al vr fr ar ts Al cl Ar cr A c S w h; have := Fm.wt_pos (Fm.mk k n (.mk vl fl al) (.mk vr fr ar) ts); omega
  | succ N ih =>
    intro k n vl fl al vr fr ar ts Al cl Ar cr A c S w h hN hsh h1 h2 h3
    rcases shape_cases hsh with ⟨hk, hts⟩ | ⟨hk, a, hts, ha⟩ | ⟨hk, a, a', hts, ha, ha'⟩
    · rcases hk with hk | hk | hk
      · exact meas1 k n vl fl al vr fr ar ts Al cl Ar cr A c S w hk (by omega) h1 h2 h3
      · have hv : Fm.meas (Fm.mk k n (.mk vl fl al) (.mk vr fr ar) ts) = (⟨9, 1, 1⟩, ⟨10, 1, 1⟩) := by subst hk; rw [Fm.meas]; rfl
        rw [hv]
        exact meas9 k n vl fl al vr fr ar ts Al cl Ar cr A c w hk
      · have hv : Fm.meas (Fm.mk k n (.mk vl fl al) (.mk vr fr ar) ts) = (⟨10, 1, 1⟩, ⟨9, 1, 1⟩) := by subst hk; rw [Fm.meas]; rfl
        rw [hv]
        exact meas10 k n vl fl al vr fr ar ts Al cl Ar cr A c w hk
    · rcases hk with hk | hk | hk
      · exact meas2 N ih k n vl fl al vr fr ar ts Al cl Ar cr A c a S w hk hts h (by omega) ha h1 h2 h3
      · exact meas7 N ih k n vl fl al vr fr ar ts Al cl Ar cr A c a S w hk hts h (by omega) ha h1 h2 h3
      · exact meas8 N ih k n vl fl al vr fr ar ts Al cl Ar cr A c a S w hk hts h (by omega) ha h1 h2 h3
    · rcases hk with hk | hk | hk | hk
      · exact meas3 N ih k n vl fl al vr fr ar ts Al cl Ar cr A c a a' S w hk hts h (by omega) ha ha' h1 h2 h3
      · exact meas4 N ih k n vl fl al vr fr ar ts Al cl Ar cr A c a a' S w hk hts h (by omega) ha ha' h1 h2 h3
      · exact meas5 N ih k n vl fl al vr fr ar ts Al cl Ar cr A c a a' S w hk hts h (by omega) ha ha' h1 h2 h3
      · exact meas6 N ih k n vl fl al vr fr ar ts Al cl Ar cr A c a a' S w hk hts h (by omega) ha ha' h1 h2 h3
end Go.Proofs.YtndjjnnljihmnaaGreat
