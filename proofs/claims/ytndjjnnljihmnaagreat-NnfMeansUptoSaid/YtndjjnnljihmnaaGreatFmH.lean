/- Formulas that are told: joined, two. -/
import Derived.Test.YtndjjnnljihmnaaGreatFmG
namespace Go.Proofs.YtndjjnnljihmnaaGreat
open Go.RowKit
set_option linter.unusedVariables false
set_option linter.unusedSimpArgs false
def Fm.c (k : Int) : Fm := .mk k ⟨#[]⟩ (.mk 0 ⟨#[]⟩ []) (.mk 0 ⟨#[]⟩ []) []
def Fm.kind : Fm → Int
  | .mk k _ _ _ _ => k
def Fm.one (k : Int) (n : ByteArray) (f : Fm) : Fm := .mk k n (.mk 0 ⟨#[]⟩ []) (.mk 0 ⟨#[]⟩ []) [f]
def joinF (kind : Int) (a b : Fm) : Fm :=
  if takenI kind a.kind b.kind = 1 then a else if takenI kind a.kind b.kind = 2 then b else if takenI kind a.kind b.kind = 3 then Fm.c (zeroI kind) else .mk kind ⟨#[]⟩ (.mk 0 ⟨#[]⟩ []) (.mk 0 ⟨#[]⟩ []) [a, b]
/-- A call's end tells a formula. -/
def FRes (S : Nat → Prop) (w : World) (g : Fm) (e : Ending) : Prop := ∃ k n vl fl al vr fr ar ts Al cl Ar cr A c, g = (Fm.mk k n (.mk vl fl al) (.mk vr fr ar) ts) ∧ e = .returned (.agg #[.int .i64 k, .string n, .int .i64 vl, .string fl, .slice Al al.length cl, .int .i64 vr, .string fr, .slice Ar ar.length cr, .slice A ts.length c]) ∧ ST S w Al al.length cl al ∧ ST S w Ar ar.length cr ar ∧ SF S w A ts.length c ts
/-- What is new, or was told. -/
def Up (S : Nat → Prop) (w : World) : Nat → Prop := fun b => S b ∨ w.heap.size ≤ b
theorem Stay.up {S : Nat → Prop} {w w' : World} (hb : Below w.heap.size w w') : Stay S (Up S w) w w' := (Stay.below hb).trans (Stay.mono fun b h => Or.inl h)
theorem FRes.stay {S S' : Nat → Prop} {w w' : World} {g : Fm} {e : Ending} (h : FRes S w g e) (hs : Stay S S' w w') : FRes S' w' g e := by
  obtain ⟨k, n, vl, fl, al, vr, fr, ar, ts, Al, cl, Ar, cr, A, c, h1, h2, h3, h4, h5⟩ := h
  exact ⟨k, n, vl, fl, al, vr, fr, ar, ts, Al, cl, Ar, cr, A, c, h1, h2, h3.stay hs, h4.stay hs, h5.stay hs⟩
theorem FRes.const (S : Nat → Prop) (w : World) (k : Int) : FRes S w (Fm.c k) (.returned (.agg #[.int .i64 k, .string ⟨#[]⟩, .int .i64 0, .string ⟨#[]⟩, .slice none 0 0, .int .i64 0, .string ⟨#[]⟩, .slice none 0 0, .slice none 0 0])) :=
  ⟨k, ⟨#[]⟩, 0, ⟨#[]⟩, [], 0, ⟨#[]⟩, [], [], none, 0, none, 0, none, 0, rfl, rfl, ST.nil _ _ _, ST.nil _ _ _, SF.nil _ _ _⟩
/-- A slice of one formula, of two. -/
theorem SF.one {S : Nat → Prop} {w : World} {g : Nat} (k1 : Int) (n1 : ByteArray) (vl1 : Int) (fl1 : ByteArray) (al1 : List Tm) (vr1 : Int) (fr1 : ByteArray) (ar1 : List Tm) (ts1 : List Fm) (Al1 : Option Addr) (cl1 : Nat) (Ar1 : Option Addr) (cr1 : Nat) (A1 : Option Addr) (c1 : Nat) {T : TypeId} {more : List Value} (hb : Blk w g T ([.int .i64 k1, .string n1, .int .i64 vl1, .string fl1, .slice Al1 al1.length cl1, .int .i64 vr1, .string fr1, .slice Ar1 ar1.length cr1, .slice A1 ts1.length c1] ++ more)) (hS : S g) (hl1 : ST S w Al1 al1.length cl1 al1) (hr1 : ST S w Ar1 ar1.length cr1 ar1) (hs1 : SF S w A1 ts1.length c1 ts1) (cap : Nat) (hc : 1 ≤ cap) : SF S w (some ⟨g, 0, none⟩) 1 cap [(Fm.mk k1 n1 (.mk vl1 fl1 al1) (.mk vr1 fr1 ar1) ts1)] := by
  refine ⟨rfl, hc, by omega, fun _ => ⟨g, 0, rfl, hS, ⟨_, RF.shut _ _ _ _ _ _ hl1 hr1 hs1, ?_⟩, trivial⟩⟩
  intro i u hu
  rw [show (0 : Nat) + i = i by omega, hb.cell]
  have hi : i < 9 := by have := (List.getElem?_eq_some_iff.1 hu).1; simpa using this
  rw [List.getElem?_append_left (by simpa using hi)]
  exact hu
theorem SF.two {S : Nat → Prop} {w : World} {g : Nat} (k1 : Int) (n1 : ByteArray) (vl1 : Int) (fl1 : ByteArray) (al1 : List Tm) (vr1 : Int) (fr1 : ByteArray) (ar1 : List Tm) (ts1 : List Fm) (Al1 : Option Addr) (cl1 : Nat) (Ar1 : Option Addr) (cr1 : Nat) (A1 : Option Addr) (c1 : Nat) (k2 : Int) (n2 : ByteArray) (vl2 : Int) (fl2 : ByteArray) (al2 : List Tm) (vr2 : Int) (fr2 : ByteArray) (ar2 : List Tm) (ts2 : List Fm) (Al2 : Option Addr) (cl2 : Nat) (Ar2 : Option Addr) (cr2 : Nat) (A2 : Option Addr) (c2 : Nat) {T : TypeId} (hb : Blk w g T ([.int .i64 k1, .string n1, .int .i64 vl1, .string fl1, .slice Al1 al1.length cl1, .int .i64 vr1, .string fr1, .slice Ar1 ar1.length cr1, .slice A1 ts1.length c1] ++ [.int .i64 k2, .string n2, .int .i64 vl2, .string fl2, .slice Al2 al2.length cl2, .int .i64 vr2, .string fr2, .slice Ar2 ar2.length cr2, .slice A2 ts2.length c2])) (hS : S g) (hl1 : ST S w Al1 al1.length cl1 al1) (hr1 : ST S w Ar1 ar1.length cr1 ar1) (hs1 : SF S w A1 ts1.length c1 ts1) (hl2 : ST S w Al2 al2.length cl2 al2) (hr2 : ST S w Ar2 ar2.length cr2 ar2) (hs2 : SF S w A2 ts2.length c2 ts2) (cap : Nat) (hc : 2 ≤ cap) : SF S w (some ⟨g, 0, none⟩) 2 cap [(Fm.mk k1 n1 (.mk vl1 fl1 al1) (.mk vr1 fr1 ar1) ts1), (Fm.mk k2 n2 (.mk vl2 fl2 al2) (.mk vr2 fr2 ar2) ts2)] := by
  refine ⟨rfl, hc, by omega, fun _ => ⟨g, 0, rfl, hS, ⟨_, RF.shut _ _ _ _ _ _ hl1 hr1 hs1, ?_⟩, ⟨_, RF.shut _ _ _ _ _ _ hl2 hr2 hs2, ?_⟩, trivial⟩⟩
  · intro i u hu
    rw [show (0 : Nat) + i = i by omega, hb.cell]
    have hi : i < 9 := by have := (List.getElem?_eq_some_iff.1 hu).1; simpa using this
    rw [List.getElem?_append_left (by simpa using hi)]
    exact hu
  · intro i u hu
    rw [show (0 : Nat) + 9 + i = 9 + i by omega, hb.cell, List.getElem?_append_right (by simp)]
    simpa using hu
set_option maxHeartbeats 3200000 in
theorem joined_any (kind : Int) (k1 : Int) (n1 : ByteArray) (vl1 : Int) (fl1 : ByteArray) (al1 : List Tm) (vr1 : Int) (fr1 : ByteArray) (ar1 : List Tm) (ts1 : List Fm) (Al1 : Option Addr) (cl1 : Nat) (Ar1 : Option Addr) (cr1 : Nat) (A1 : Option Addr) (c1 : Nat) (k2 : Int) (n2 : ByteArray) (vl2 : Int) (fl2 : ByteArray) (al2 : List Tm) (vr2 : Int) (fr2 : ByteArray) (ar2 : List Tm) (ts2 : List Fm) (Al2 : Option Addr) (cl2 : Nat) (Ar2 : Option Addr) (cr2 : Nat) (A2 : Option Addr) (c2 : Nat) (S : Nat → Prop) (w : World) (hl1 : ST S w Al1 al1.length cl1 al1) (hr1 : ST S w Ar1 ar1.length cr1 ar1) (hs1 : SF S w A1 ts1.length c1 ts1) (hl2 : ST S w Al2 al2.length cl2 al2) (hr2 : ST S w Ar2 ar2.length cr2 ar2) (hs2 : SF S w A2 ts2.length c2 ts2) :
    Calls Tryz.prog 42 #[.int .i64 kind, .agg #[.int .i64 k1, .string n1, .int .i64 vl1, .string fl1, .slice Al1 al1.length cl1, .int .i64 vr1, .string fr1, .slice Ar1 ar1.length cr1, .slice A1 ts1.length c1], .agg #[.int .i64 k2, .string n2, .int .i64 vl2, .string fl2, .slice Al2 al2.length cl2, .int .i64 vr2, .string fr2, .slice Ar2 ar2.length cr2, .slice A2 ts2.length c2]] w fun e w' => FRes (Up S w) w' (joinF kind (Fm.mk k1 n1 (.mk vl1 fl1 al1) (.mk vr1 fr1 ar1) ts1) (Fm.mk k2 n2 (.mk vl2 fl2 al2) (.mk vr2 fr2 ar2) ts2)) e ∧ Below w.heap.size w w' := by
  have hv : joinF kind (Fm.mk k1 n1 (.mk vl1 fl1 al1) (.mk vr1 fr1 ar1) ts1) (Fm.mk k2 n2 (.mk vl2 fl2 al2) (.mk vr2 fr2 ar2) ts2) = if takenI kind k1 k2 = 1 then (Fm.mk k1 n1 (.mk vl1 fl1 al1) (.mk vr1 fr1 ar1) ts1) else if takenI kind k1 k2 = 2 then (Fm.mk k2 n2 (.mk vl2 fl2 al2) (.mk vr2 fr2 ar2) ts2) else if takenI kind k1 k2 = 3 then Fm.c (zeroI kind) else .mk kind ⟨#[]⟩ (.mk 0 ⟨#[]⟩ []) (.mk 0 ⟨#[]⟩ []) [(Fm.mk k1 n1 (.mk vl1 fl1 al1) (.mk vr1 fr1 ar1) ts1), (Fm.mk k2 n2 (.mk vl2 fl2 al2) (.mk vr2 fr2 ar2) ts2)] := rfl
  have G0 := Lib.hid hl1
  have G1 := Lib.hid hr1
  have G2 := Lib.hid hs1
  have G3 := Lib.hid hl2
  have G4 := Lib.hid hr2
  have G5 := Lib.hid hs2
  clear hl1 hr1 hs1 hl2 hr2 hs2
  generalize joinF kind (Fm.mk k1 n1 (.mk vl1 fl1 al1) (.mk vr1 fr1 ar1) ts1) (Fm.mk k2 n2 (.mk vl2 fl2 al2) (.mk vr2 fr2 ar2) ts2) = res at *
  have HC := Lib.hid (fun w' => taken_any kind k1 k2 w')
  have HZ := Lib.hid (fun w' => zero_any kind w')
  have ht := taken_cases kind k1 k2
  generalize takenI kind k1 k2 = t at *
  generalize zeroI kind = z at *
  rcases ht with rfl | rfl | rfl | rfl
  · have HR := Lib.hid hv
    clear hv
    go_enter Tryz.func42, Tryz.ntmps42
    go_wp2_with fail
    refine (HC.out _).mono ?_
    rintro e w2 ⟨rfl, rfl⟩
    go_wp2_with fail
    have HB : Hid (Below w.heap.size w ((((w.alloc (.cells #[.int .i64 k1, .string n1, .int .i64 vl1, .string fl1, .slice Al1 al1.length cl1, .int .i64 vr1, .string fr1, .slice Ar1 ar1.length cr1, .slice A1 ts1.length c1] 27)).alloc (.cells #[.int .i64 k2, .string n2, .int .i64 vl2, .string fl2, .slice Al2 al2.length cl2, .int .i64 vr2, .string fr2, .slice Ar2 ar2.length cr2, .slice A2 ts2.length c2] 27)).alloc (.cells #[.int .i64 kind, .string ⟨#[]⟩, .int .i64 0, .string ⟨#[]⟩, .slice none 0 0, .int .i64 0, .string ⟨#[]⟩, .slice none 0 0, .slice (some ⟨w.heap.size + 1 + 1 + 1, 0, none⟩) 2 2] 27)).alloc (.cells #[.int .i64 k1, .string n1, .int .i64 vl1, .string fl1, .slice Al1 al1.length cl1, .int .i64 vr1, .string fr1, .slice Ar1 ar1.length cr1, .slice A1 ts1.length c1, .int .i64 k2, .string n2, .int .i64 vl2, .string fl2, .slice Al2 al2.length cl2, .int .i64 vr2, .string fr2, .slice Ar2 ar2.length cr2, .slice A2 ts2.length c2] 27))) := Lib.hid (by (repeat' (first | (with_reducible assumption) | (with_reducible exact Below.refl _ _) | (with_reducible refine Below.setCell ?_ ?_ _) | (with_reducible refine Below.alloc ?_ ?_ _) | (with_reducible apply Below.drew) | omega | (simp; done) | (simp; omega))))
    refine bodyPost_ret (v := .agg #[.int .i64 kind, .string ⟨#[]⟩, .int .i64 0, .string ⟨#[]⟩, .slice none 0 0, .int .i64 0, .string ⟨#[]⟩, .slice none 0 0, .slice (some ⟨w.heap.size + 1 + 1 + 1, 0, none⟩) 2 2]) ?_ rfl ⟨?_, HB.out⟩
    · simp [results, Tryz.results42, go_sem]
    · rw [HR.out]
      refine ⟨kind, ⟨#[]⟩, 0, ⟨#[]⟩, [], 0, ⟨#[]⟩, [], [(Fm.mk k1 n1 (.mk vl1 fl1 al1) (.mk vr1 fr1 ar1) ts1), (Fm.mk k2 n2 (.mk vl2 fl2 al2) (.mk vr2 fr2 ar2) ts2)], none, 0, none, 0, some ⟨w.heap.size + 1 + 1 + 1, 0, none⟩, 2, rfl, rfl, ST.nil _ _ _, ST.nil _ _ _, ?_⟩
      exact SF.two k1 n1 vl1 fl1 al1 vr1 fr1 ar1 ts1 Al1 cl1 Ar1 cr1 A1 c1 k2 n2 vl2 fl2 al2 vr2 fr2 ar2 ts2 Al2 cl2 Ar2 cr2 A2 c2 (Blk.new' ((((w.alloc (.cells #[.int .i64 k1, .string n1, .int .i64 vl1, .string fl1, .slice Al1 al1.length cl1, .int .i64 vr1, .string fr1, .slice Ar1 ar1.length cr1, .slice A1 ts1.length c1] 27)).alloc (.cells #[.int .i64 k2, .string n2, .int .i64 vl2, .string fl2, .slice Al2 al2.length cl2, .int .i64 vr2, .string fr2, .slice Ar2 ar2.length cr2, .slice A2 ts2.length c2] 27)).alloc (.cells #[.int .i64 kind, .string ⟨#[]⟩, .int .i64 0, .string ⟨#[]⟩, .slice none 0 0, .int .i64 0, .string ⟨#[]⟩, .slice none 0 0, .slice (some ⟨w.heap.size + 1 + 1 + 1, 0, none⟩) 2 2] 27))) _ _ [.int .i64 k1, .string n1, .int .i64 vl1, .string fl1, .slice Al1 al1.length cl1, .int .i64 vr1, .string fr1, .slice Ar1 ar1.length cr1, .slice A1 ts1.length c1, .int .i64 k2, .string n2, .int .i64 vl2, .string fl2, .slice Al2 al2.length cl2, .int .i64 vr2, .string fr2, .slice Ar2 ar2.length cr2, .slice A2 ts2.length c2] (by simp)) (Or.inr (by omega)) (G0.out.stay (Stay.up HB.out)) (G1.out.stay (Stay.up HB.out)) (G2.out.stay (Stay.up HB.out)) (G3.out.stay (Stay.up HB.out)) (G4.out.stay (Stay.up HB.out)) (G5.out.stay (Stay.up HB.out)) 2 (by omega)
  · have HR := Lib.hid hv
    clear hv
    go_enter Tryz.func42, Tryz.ntmps42
    go_wp2_with fail
    refine (HC.out _).mono ?_
    rintro e w2 ⟨rfl, rfl⟩
    go_wp2_with fail
    have HB : Hid (Below w.heap.size w (((w.alloc (.cells #[.int .i64 k1, .string n1, .int .i64 vl1, .string fl1, .slice Al1 al1.length cl1, .int .i64 vr1, .string fr1, .slice Ar1 ar1.length cr1, .slice A1 ts1.length c1] 27)).alloc (.cells #[.int .i64 k2, .string n2, .int .i64 vl2, .string fl2, .slice Al2 al2.length cl2, .int .i64 vr2, .string fr2, .slice Ar2 ar2.length cr2, .slice A2 ts2.length c2] 27)).alloc (.cells #[.int .i64 k1, .string n1, .int .i64 vl1, .string fl1, .slice Al1 al1.length cl1, .int .i64 vr1, .string fr1, .slice Ar1 ar1.length cr1, .slice A1 ts1.length c1] 27))) := Lib.hid (by (repeat' (first | (with_reducible assumption) | (with_reducible exact Below.refl _ _) | (with_reducible refine Below.setCell ?_ ?_ _) | (with_reducible refine Below.alloc ?_ ?_ _) | (with_reducible apply Below.drew) | omega | (simp; done) | (simp; omega))))
    refine bodyPost_ret (v := .agg #[.int .i64 k1, .string n1, .int .i64 vl1, .string fl1, .slice Al1 al1.length cl1, .int .i64 vr1, .string fr1, .slice Ar1 ar1.length cr1, .slice A1 ts1.length c1]) ?_ rfl ⟨?_, HB.out⟩
    · simp [results, Tryz.results42, go_sem]
    · rw [HR.out]; exact ⟨k1, n1, vl1, fl1, al1, vr1, fr1, ar1, ts1, Al1, cl1, Ar1, cr1, A1, c1, rfl, rfl, G0.out.stay (Stay.up HB.out), G1.out.stay (Stay.up HB.out), G2.out.stay (Stay.up HB.out)⟩
  · have HR := Lib.hid hv
    clear hv
    go_enter Tryz.func42, Tryz.ntmps42
    go_wp2_with fail
    refine (HC.out _).mono ?_
    rintro e w2 ⟨rfl, rfl⟩
    go_wp2_with fail
    have HB : Hid (Below w.heap.size w (((w.alloc (.cells #[.int .i64 k1, .string n1, .int .i64 vl1, .string fl1, .slice Al1 al1.length cl1, .int .i64 vr1, .string fr1, .slice Ar1 ar1.length cr1, .slice A1 ts1.length c1] 27)).alloc (.cells #[.int .i64 k2, .string n2, .int .i64 vl2, .string fl2, .slice Al2 al2.length cl2, .int .i64 vr2, .string fr2, .slice Ar2 ar2.length cr2, .slice A2 ts2.length c2] 27)).alloc (.cells #[.int .i64 k2, .string n2, .int .i64 vl2, .string fl2, .slice Al2 al2.length cl2, .int .i64 vr2, .string fr2, .slice Ar2 ar2.length cr2, .slice A2 ts2.length c2] 27))) := Lib.hid (by (repeat' (first | (with_reducible assumption) | (with_reducible exact Below.refl _ _) | (with_reducible refine Below.setCell ?_ ?_ _) | (with_reducible refine Below.alloc ?_ ?_ _) | (with_reducible apply Below.drew) | omega | (simp; done) | (simp; omega))))
    refine bodyPost_ret (v := .agg #[.int .i64 k2, .string n2, .int .i64 vl2, .string fl2, .slice Al2 al2.length cl2, .int .i64 vr2, .string fr2, .slice Ar2 ar2.length cr2, .slice A2 ts2.length c2]) ?_ rfl ⟨?_, HB.out⟩
    · simp [results, Tryz.results42, go_sem]
    · rw [HR.out]; exact ⟨k2, n2, vl2, fl2, al2, vr2, fr2, ar2, ts2, Al2, cl2, Ar2, cr2, A2, c2, rfl, rfl, G3.out.stay (Stay.up HB.out), G4.out.stay (Stay.up HB.out), G5.out.stay (Stay.up HB.out)⟩
  · have HR := Lib.hid hv
    clear hv
    go_enter Tryz.func42, Tryz.ntmps42
    go_wp2_with fail
    refine (HC.out _).mono ?_
    rintro e w2 ⟨rfl, rfl⟩
    go_wp2_with fail
    refine (HZ.out _).mono ?_
    rintro e w3 ⟨rfl, rfl⟩
    go_wp2_with fail
    have HB : Hid (Below w.heap.size w (((w.alloc (.cells #[.int .i64 k1, .string n1, .int .i64 vl1, .string fl1, .slice Al1 al1.length cl1, .int .i64 vr1, .string fr1, .slice Ar1 ar1.length cr1, .slice A1 ts1.length c1] 27)).alloc (.cells #[.int .i64 k2, .string n2, .int .i64 vl2, .string fl2, .slice Al2 al2.length cl2, .int .i64 vr2, .string fr2, .slice Ar2 ar2.length cr2, .slice A2 ts2.length c2] 27)).alloc (.cells #[.int .i64 z, .string ⟨#[]⟩, .int .i64 0, .string ⟨#[]⟩, .slice none 0 0, .int .i64 0, .string ⟨#[]⟩, .slice none 0 0, .slice none 0 0] 27))) := Lib.hid (by (repeat' (first | (with_reducible assumption) | (with_reducible exact Below.refl _ _) | (with_reducible refine Below.setCell ?_ ?_ _) | (with_reducible refine Below.alloc ?_ ?_ _) | (with_reducible apply Below.drew) | omega | (simp; done) | (simp; omega))))
    refine bodyPost_ret (v := .agg #[.int .i64 z, .string ⟨#[]⟩, .int .i64 0, .string ⟨#[]⟩, .slice none 0 0, .int .i64 0, .string ⟨#[]⟩, .slice none 0 0, .slice none 0 0]) ?_ rfl ⟨?_, HB.out⟩
    · simp [results, Tryz.results42, go_sem]
    · rw [HR.out]; exact FRes.const _ _ _
end Go.Proofs.YtndjjnnljihmnaaGreat
