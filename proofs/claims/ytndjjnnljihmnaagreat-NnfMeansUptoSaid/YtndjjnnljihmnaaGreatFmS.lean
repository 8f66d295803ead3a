/- push of a conjunction, a disjunction; push, whole. -/
import Derived.Test.YtndjjnnljihmnaaGreatFmR
namespace Go.Proofs.YtndjjnnljihmnaaGreat
open Go.RowKit
set_option linter.unusedVariables false
set_option linter.unusedSimpArgs false
theorem FRes.two {S : Nat → Prop} {w : World} {g : Nat} (k : Int) {k1 : Int} {n1 : ByteArray} {vl1 : Int} {fl1 : ByteArray} {al1 : List Tm} {vr1 : Int} {fr1 : ByteArray} {ar1 : List Tm} {ts1 : List Fm} {Al1 : Option Addr} {cl1 : Nat} {Ar1 : Option Addr} {cr1 : Nat} {A1 : Option Addr} {c1 : Nat} {k2 : Int} {n2 : ByteArray} {vl2 : Int} {fl2 : ByteArray} {al2 : List Tm} {vr2 : Int} {fr2 : ByteArray} {ar2 : List Tm} {ts2 : List Fm} {Al2 : Option Addr} {cl2 : Nat} {Ar2 : Option Addr} {cr2 : Nat} {A2 : Option Addr} {c2 : Nat} (hb : Blk w g 27 ([.int .i64 k1, .string n1, .int .i64 vl1, .string fl1, .slice Al1 al1.length cl1, .int .i64 vr1, .string fr1, .slice Ar1 ar1.length cr1, .slice A1 ts1.length c1] ++ [.int .i64 k2, .string n2, .int .i64 vl2, .string fl2, .slice Al2 al2.length cl2, .int .i64 vr2, .string fr2, .slice Ar2 ar2.length cr2, .slice A2 ts2.length c2])) (hS : S g) (h : ST S w Al1 al1.length cl1 al1 ∧ ST S w Ar1 ar1.length cr1 ar1 ∧ SF S w A1 ts1.length c1 ts1) (h' : ST S w Al2 al2.length cl2 al2 ∧ ST S w Ar2 ar2.length cr2 ar2 ∧ SF S w A2 ts2.length c2 ts2) : FRes S w (.mk k ⟨#[]⟩ (.mk 0 ⟨#[]⟩ []) (.mk 0 ⟨#[]⟩ []) [(Fm.mk k1 n1 (.mk vl1 fl1 al1) (.mk vr1 fr1 ar1) ts1), (Fm.mk k2 n2 (.mk vl2 fl2 al2) (.mk vr2 fr2 ar2) ts2)]) (.returned (.agg #[.int .i64 k, .string ⟨#[]⟩, .int .i64 0, .string ⟨#[]⟩, .slice none 0 0, .int .i64 0, .string ⟨#[]⟩, .slice none 0 0, .slice (some ⟨g, 0, none⟩) 2 2])) :=
  ⟨k, ⟨#[]⟩, 0, ⟨#[]⟩, [], 0, ⟨#[]⟩, [], [(Fm.mk k1 n1 (.mk vl1 fl1 al1) (.mk vr1 fr1 ar1) ts1), (Fm.mk k2 n2 (.mk vl2 fl2 al2) (.mk vr2 fr2 ar2) ts2)], none, 0, none, 0, some ⟨g, 0, none⟩, 2, rfl, rfl, ST.nil _ _ _, ST.nil _ _ _, SF.two k1 n1 vl1 fl1 al1 vr1 fr1 ar1 ts1 Al1 cl1 Ar1 cr1 A1 c1 k2 n2 vl2 fl2 al2 vr2 fr2 ar2 ts2 Al2 cl2 Ar2 cr2 A2 c2 hb hS h.1 h.2.1 h.2.2 h'.1 h'.2.1 h'.2.2 2 (by omega)⟩
set_option maxRecDepth 100000 in
set_option maxHeartbeats 25600000 in
theorem pushY (N : Nat) (ih : PushAt 50 N) (kind : Int) (x : ByteArray) (k : Int) (n : ByteArray) (vl : Int) (fl : ByteArray) (al : List Tm) (vr : Int) (fr : ByteArray) (ar : List Tm) (ts : List Fm) (Al : Option Addr) (cl : Nat) (Ar : Option Addr) (cr : Nat) (A : Option Addr) (c : Nat) (a1 a2 : Fm) (S : Nat → Prop) (w : World) (h : k = 3 ∨ k = 4) (hts : ts = [a1, a2]) (hw : (Fm.mk k n (.mk vl fl al) (.mk vr fr ar) ts).wt ≤ N + 1) (hN : N + 1 ≤ 4398046511104) (hsh1 : a1.shape = true) (hsh2 : a2.shape = true) (hl : ST S w Al al.length cl al) (hr : ST S w Ar ar.length cr ar) (hs : SF S w A ts.length c ts) : Calls Tryz.prog 50 #[.int .i64 kind, .string x, .agg #[.int .i64 k, .string n, .int .i64 vl, .string fl, .slice Al al.length cl, .int .i64 vr, .string fr, .slice Ar ar.length cr, .slice A ts.length c]] w fun e w' => FRes (Up S w) w' (Fm.push kind x (Fm.mk k n (.mk vl fl al) (.mk vr fr ar) ts)) e ∧ Below w.heap.size w w' := by
  subst hts
  have hs0 := hs
  have hs := hs.stay Stay.low'
  obtain ⟨b, o, hA1, k1, n1, vl1, fl1, al1, vr1, fr1, ar1, ts1, Al1, cl1, Ar1, cr1, A1, c1, hm1, hl1, hr1, hs1, p0, p1, p2, p3, p4, p5, p6, p7, p8⟩ := hs.at 0 (by simp)
  change a1 = _ at hm1
  subst hm1
  subst hA1
  simp only [Nat.zero_mul, Nat.one_mul, Nat.add_zero] at p0 p1 p2 p3 p4 p5 p6 p7 p8
  obtain ⟨b', o', hA2, k2, n2, vl2, fl2, al2, vr2, fr2, ar2, ts2, Al2, cl2, Ar2, cr2, A2, c2, hm2, hl2, hr2, hs2, q0, q1, q2, q3, q4, q5, q6, q7, q8⟩ := hs.at 1 (by simp)
  change a2 = _ at hm2
  subst hm2
  injection hA2 with hA2
  injection hA2 with hb2 ho2
  subst hb2 ho2
  simp only [Nat.zero_mul, Nat.one_mul, Nat.add_zero] at q0 q1 q2 q3 q4 q5 q6 q7 q8
  have hwk : (Fm.mk k1 n1 (.mk vl1 fl1 al1) (.mk vr1 fr1 ar1) ts1).wt + (Fm.mk k2 n2 (.mk vl2 fl2 al2) (.mk vr2 fr2 ar2) ts2).wt + 3 ≤ N + 1 := by have hh := hw; rw [Fm.wt, Fm.wts, Fm.wts, Fm.wts] at hh; have := (Tm.mk vl fl al).wt_pos; have := (Tm.mk vr fr ar).wt_pos; omega
  have HP := Lib.hid (show C9 w b o (.int .i64 k1) (.string n1) (.int .i64 vl1) (.string fl1) (.slice Al1 al1.length cl1) (.int .i64 vr1) (.string fr1) (.slice Ar1 ar1.length cr1) (.slice A1 ts1.length c1) from ⟨p0, p1, p2, p3, p4, p5, p6, p7, p8⟩)
  have HQ := Lib.hid (show C9 w b (o + 9) (.int .i64 k2) (.string n2) (.int .i64 vl2) (.string fl2) (.slice Al2 al2.length cl2) (.int .i64 vr2) (.string fr2) (.slice Ar2 ar2.length cr2) (.slice A2 ts2.length c2) from ⟨q0, q1, q2, q3, q4, q5, q6, q7, q8⟩)
  have hbw : b < w.heap.size := World.block_lt_of_cell? w _ p0
  clear p0 q0 p1 q1 p2 q2 p3 q3 p4 q4 p5 q5 p6 q6 p7 q7 p8 q8
  generalize hW : (((((w.alloc (.cells #[.int .i64 kind] 3)).alloc (.cells #[.string x] 9)).alloc (.cells #[.int .i64 k, .string n, .int .i64 vl, .string fl, .slice Al al.length cl, .int .i64 vr, .string fr, .slice Ar ar.length cr, .slice (some ⟨b, o, none⟩) 2 c] 27)).alloc (.cells #[.int .i64 0, .string ⟨#[]⟩, .int .i64 0, .string ⟨#[]⟩, .slice none 0 0, .int .i64 0, .string ⟨#[]⟩, .slice none 0 0, .slice none 0 0] 27)).alloc (.cells #[(.func (.func 68) #[] #[.pointer (some ⟨w.heap.size + 1, 0, none⟩)])] 33)) = W
  have HB0 : Hid (Below w.heap.size w W) := Lib.hid (by rw [← hW]; exact (((((Below.refl _ w).alloc (Nat.le_refl _) _).alloc (by simp) _).alloc (by simp; omega) _).alloc (by simp; omega) _).alloc (by simp; omega) _)
  have BKK : Hid (Blk W w.heap.size 3 [.int .i64 kind]) := Lib.hid (by rw [← hW]; exact ((((Blk.new w 3 [.int .i64 kind]).alloc _).alloc _).alloc _).alloc _)
  have BKX : Hid (Blk W (w.heap.size + 1) 9 [.string x]) := Lib.hid (by rw [← hW]; exact (((Blk.new' _ (w.heap.size + 1) 9 [.string x] (by simp)).alloc _).alloc _).alloc _)
  have BKF : Hid (Blk W (w.heap.size + 1 + 1) 27 [.int .i64 k, .string n, .int .i64 vl, .string fl, .slice Al al.length cl, .int .i64 vr, .string fr, .slice Ar ar.length cr, .slice (some ⟨b, o, none⟩) 2 c]) := Lib.hid (by rw [← hW]; exact ((Blk.new' _ (w.heap.size + 1 + 1) 27 [.int .i64 k, .string n, .int .i64 vl, .string fl, .slice Al al.length cl, .int .i64 vr, .string fr, .slice Ar ar.length cr, .slice (some ⟨b, o, none⟩) 2 c] (by simp)).alloc _).alloc _)
  have BKR : Hid (Blk W (w.heap.size + 1 + 1 + 1) 27 [.int .i64 0, .string ⟨#[]⟩, .int .i64 0, .string ⟨#[]⟩, .slice none 0 0, .int .i64 0, .string ⟨#[]⟩, .slice none 0 0, .slice none 0 0]) := Lib.hid (by rw [← hW]; exact (Blk.new' _ (w.heap.size + 1 + 1 + 1) 27 [.int .i64 0, .string ⟨#[]⟩, .int .i64 0, .string ⟨#[]⟩, .slice none 0 0, .int .i64 0, .string ⟨#[]⟩, .slice none 0 0, .slice none 0 0] (by simp)).alloc _)
  have BKS : Hid (Blk W (w.heap.size + 1 + 1 + 1 + 1) 33 [(.func (.func 68) #[] #[.pointer (some ⟨w.heap.size + 1, 0, none⟩)])]) := Lib.hid (by rw [← hW]; exact Blk.new' _ (w.heap.size + 1 + 1 + 1 + 1) 33 [(.func (.func 68) #[] #[.pointer (some ⟨w.heap.size + 1, 0, none⟩)])] (by simp))
  have HST := Lib.hid (fun w' (hb : Below W.heap.size W w') => stands_any x (w.heap.size + 1) k n vl fl al vr fr ar [(Fm.mk k1 n1 (.mk vl1 fl1 al1) (.mk vr1 fr1 ar1) ts1), (Fm.mk k2 n2 (.mk vl2 fl2 al2) (.mk vr2 fr2 ar2) ts2)] Al cl Ar cr (some ⟨b, o, none⟩) c S w' (by omega) (BKX.out.go hb) (hl.stay (Stay.below (bel_go HB0.out hb))) (hr.stay (Stay.below (bel_go HB0.out hb))) (hs0.stay (Stay.below (bel_go HB0.out hb))))
  have HG := Lib.hid (⟨hl, hr, hs0⟩ : ST S w Al al.length cl al ∧ ST S w Ar ar.length cr ar ∧ SF S w (some ⟨b, o, none⟩) 2 c [(Fm.mk k1 n1 (.mk vl1 fl1 al1) (.mk vr1 fr1 ar1) ts1), (Fm.mk k2 n2 (.mk vl2 fl2 al2) (.mk vr2 fr2 ar2) ts2)])
  have HS1 := Lib.hid (fun w' (hb : Below W.heap.size W w') => stands_any x (w.heap.size + 1) k1 n1 vl1 fl1 al1 vr1 fr1 ar1 ts1 Al1 cl1 Ar1 cr1 A1 c1 _ w' (by omega) (BKX.out.go hb) (hl1.stay (Stay.below (bel_go HB0.out hb))) (hr1.stay (Stay.below (bel_go HB0.out hb))) (hs1.stay (Stay.below (bel_go HB0.out hb))))
  have HO1 := Lib.hid (fun w' (hb : Below W.heap.size W w') => (show Calls Tryz.prog 71 #[.agg #[.int .i64 k1, .string n1, .int .i64 vl1, .string fl1, .slice Al1 al1.length cl1, .int .i64 vr1, .string fr1, .slice Ar1 ar1.length cr1, .slice A1 ts1.length c1], .pointer (some ⟨w.heap.size + 1 + 1 + 1 + 1, 0, none⟩), .pointer (some ⟨w.heap.size, 0, none⟩), .pointer (some ⟨w.heap.size + 1, 0, none⟩)] w' fun e w2 => FRes (Lo S w w') w2 (Fm.push kind x (Fm.mk k1 n1 (.mk vl1 fl1 al1) (.mk vr1 fr1 ar1) ts1)) e ∧ Below w'.heap.size w' w2 from over_any N ih kind x _ _ _ k1 n1 vl1 fl1 al1 vr1 fr1 ar1 ts1 Al1 cl1 Ar1 cr1 A1 c1 _ w' (by omega) (by omega) hsh1 (BKS.out.go hb) (BKK.out.go hb) (BKX.out.go hb) (hl1.stay (Stay.below (bel_go HB0.out hb))) (hr1.stay (Stay.below (bel_go HB0.out hb))) (hs1.stay (Stay.below (bel_go HB0.out hb)))))
  have HS2 := Lib.hid (fun w' (hb : Below W.heap.size W w') => stands_any x (w.heap.size + 1) k2 n2 vl2 fl2 al2 vr2 fr2 ar2 ts2 Al2 cl2 Ar2 cr2 A2 c2 _ w' (by omega) (BKX.out.go hb) (hl2.stay (Stay.below (bel_go HB0.out hb))) (hr2.stay (Stay.below (bel_go HB0.out hb))) (hs2.stay (Stay.below (bel_go HB0.out hb))))
  have HO2 := Lib.hid (fun w' (hb : Below W.heap.size W w') => (show Calls Tryz.prog 71 #[.agg #[.int .i64 k2, .string n2, .int .i64 vl2, .string fl2, .slice Al2 al2.length cl2, .int .i64 vr2, .string fr2, .slice Ar2 ar2.length cr2, .slice A2 ts2.length c2], .pointer (some ⟨w.heap.size + 1 + 1 + 1 + 1, 0, none⟩), .pointer (some ⟨w.heap.size, 0, none⟩), .pointer (some ⟨w.heap.size + 1, 0, none⟩)] w' fun e w2 => FRes (Lo S w w') w2 (Fm.push kind x (Fm.mk k2 n2 (.mk vl2 fl2 al2) (.mk vr2 fr2 ar2) ts2)) e ∧ Below w'.heap.size w' w2 from over_any N ih kind x _ _ _ k2 n2 vl2 fl2 al2 vr2 fr2 ar2 ts2 Al2 cl2 Ar2 cr2 A2 c2 _ w' (by omega) (by omega) hsh2 (BKS.out.go hb) (BKK.out.go hb) (BKX.out.go hb) (hl2.stay (Stay.below (bel_go HB0.out hb))) (hr2.stay (Stay.below (bel_go HB0.out hb))) (hs2.stay (Stay.below (bel_go HB0.out hb)))))
  have HRV := Lib.hid (push_not kind x (Fm.mk k n (.mk vl fl al) (.mk vr fr ar) [(Fm.mk k1 n1 (.mk vl1 fl1 al1) (.mk vr1 fr1 ar1) ts1), (Fm.mk k2 n2 (.mk vl2 fl2 al2) (.mk vr2 fr2 ar2) ts2)]))
  have HSP : Hid (splitB kind k [(Fm.mk k1 n1 (.mk vl1 fl1 al1) (.mk vr1 fr1 ar1) ts1), (Fm.mk k2 n2 (.mk vl2 fl2 al2) (.mk vr2 fr2 ar2) ts2)] x = ((k == 3 || k == 4) && (((kind == 7) == (k == 3)) || (!((Fm.mk k1 n1 (.mk vl1 fl1 al1) (.mk vr1 fr1 ar1) ts1).has x) || !((Fm.mk k2 n2 (.mk vl2 fl2 al2) (.mk vr2 fr2 ar2) ts2).has x))))) := Lib.hid rfl
  have HRS := Lib.hid (show (Fm.mk k n (.mk vl fl al) (.mk vr fr ar) [(Fm.mk k1 n1 (.mk vl1 fl1 al1) (.mk vr1 fr1 ar1) ts1), (Fm.mk k2 n2 (.mk vl2 fl2 al2) (.mk vr2 fr2 ar2) ts2)]).has x = true → Fm.push kind x (Fm.mk k n (.mk vl fl al) (.mk vr fr ar) [(Fm.mk k1 n1 (.mk vl1 fl1 al1) (.mk vr1 fr1 ar1) ts1), (Fm.mk k2 n2 (.mk vl2 fl2 al2) (.mk vr2 fr2 ar2) ts2)]) = if splitB kind k [(Fm.mk k1 n1 (.mk vl1 fl1 al1) (.mk vr1 fr1 ar1) ts1), (Fm.mk k2 n2 (.mk vl2 fl2 al2) (.mk vr2 fr2 ar2) ts2)] x then .mk k ⟨#[]⟩ (.mk 0 ⟨#[]⟩ []) (.mk 0 ⟨#[]⟩ []) [Fm.push kind x (Fm.mk k1 n1 (.mk vl1 fl1 al1) (.mk vr1 fr1 ar1) ts1), Fm.push kind x (Fm.mk k2 n2 (.mk vl2 fl2 al2) (.mk vr2 fr2 ar2) ts2)] else Fm.one kind x (Fm.mk k n (.mk vl fl al) (.mk vr fr ar) [(Fm.mk k1 n1 (.mk vl1 fl1 al1) (.mk vr1 fr1 ar1) ts1), (Fm.mk k2 n2 (.mk vl2 fl2 al2) (.mk vr2 fr2 ar2) ts2)]) from fun h => by rw [Fm.push, if_pos h, Fm.pushL, Fm.pushL, Fm.pushL])
  clear hl hr hs hs0 hw hN hwk hl1 hr1 hs1 hl2 hr2 hs2 hsh1 hsh2 ih
  generalize Fm.push kind x (Fm.mk k n (.mk vl fl al) (.mk vr fr ar) [(Fm.mk k1 n1 (.mk vl1 fl1 al1) (.mk vr1 fr1 ar1) ts1), (Fm.mk k2 n2 (.mk vl2 fl2 al2) (.mk vr2 fr2 ar2) ts2)]) = res at *
  generalize Fm.push kind x (Fm.mk k1 n1 (.mk vl1 fl1 al1) (.mk vr1 fr1 ar1) ts1) = t1 at *
  generalize Fm.push kind x (Fm.mk k2 n2 (.mk vl2 fl2 al2) (.mk vr2 fr2 ar2) ts2) = t2 at *
  generalize splitB kind k [(Fm.mk k1 n1 (.mk vl1 fl1 al1) (.mk vr1 fr1 ar1) ts1), (Fm.mk k2 n2 (.mk vl2 fl2 al2) (.mk vr2 fr2 ar2) ts2)] x = sp at *
  generalize (Fm.mk k1 n1 (.mk vl1 fl1 al1) (.mk vr1 fr1 ar1) ts1).has x = h1 at *
  generalize (Fm.mk k2 n2 (.mk vl2 fl2 al2) (.mk vr2 fr2 ar2) ts2).has x = h2 at *
  have HK := Lib.hid h
  clear h
  cases hh : (Fm.mk k n (.mk vl fl al) (.mk vr fr ar) [(Fm.mk k1 n1 (.mk vl1 fl1 al1) (.mk vr1 fr1 ar1) ts1), (Fm.mk k2 n2 (.mk vl2 fl2 al2) (.mk vr2 fr2 ar2) ts2)]).has x
  all_goals
    rw [hh] at HST
    go_enter Tryz.func50, Tryz.ntmps50
    go_upto_region 3 with (fail)
    clear hW
    have tk := BKF.out.nine; have z0 := tk.c0; have z1 := tk.c1; have z2 := tk.c2; have z3 := tk.c3; have z4 := tk.c4; have z5 := tk.c5; have z6 := tk.c6; have z7 := tk.c7; have z8 := tk.c8; clear tk
    have s0 := BKS.out.cell 0
    simp only [List.getElem?_cons_zero] at s0
    go_wp2_with fail
    refine (HST.out _ (Below.refl _ _)).mono ?_
    rintro e w2 ⟨rfl, hb2⟩
    have HB2 := Lib.hid (bel_go HB0.out hb2)
    have HBW := Lib.hid hb2
    have BQK := Lib.hid (Blk.go BKK.out hb2)
    have BQX := Lib.hid (Blk.go BKX.out hb2)
    have BQF := Lib.hid (Blk.go BKF.out hb2)
    have BQR := Lib.hid (Blk.go BKR.out hb2)
    have BQS := Lib.hid (Blk.go BKS.out hb2)
    clear z0 z1 z2 z3 z4 z5 z6 z7 z8 s0 hb2 BKK BKX BKF BKR BKS
  · have HR := Lib.hid (HRV.out hh)
    have hB := HB2.out
    have tk := BQF.out.nine; have z0 := tk.c0; have z1 := tk.c1; have z2 := tk.c2; have z3 := tk.c3; have z4 := tk.c4; have z5 := tk.c5; have z6 := tk.c6; have z7 := tk.c7; have z8 := tk.c8; clear tk
    have tk := BQR.out.nine; have yr0 := tk.c0; have yr1 := tk.c1; have yr2 := tk.c2; have yr3 := tk.c3; have yr4 := tk.c4; have yr5 := tk.c5; have yr6 := tk.c6; have yr7 := tk.c7; have yr8 := tk.c8; clear tk
    have tk := BQR.out.free9; have yf0 := tk.c0; have yf1 := tk.c1; have yf2 := tk.c2; have yf3 := tk.c3; have yf4 := tk.c4; have yf5 := tk.c5; have yf6 := tk.c6; have yf7 := tk.c7; have yf8 := tk.c8; clear tk
    go_wp2_with fail
    refine bodyPost_ret (v := .agg #[.int .i64 k, .string n, .int .i64 vl, .string fl, .slice Al al.length cl, .int .i64 vr, .string fr, .slice Ar ar.length cr, .slice (some ⟨b, o, none⟩) 2 c]) ?_ rfl ⟨?_, bel9 hB (by omega) _ _ _ _ _ _ _ _ _⟩
    · simp [results, Tryz.results50, go_sem, yr0, yr1, yr2, yr3, yr4, yr5, yr6, yr7, yr8]
    · rw [HR.out]; exact FRes.of (r3 HG.out (Stay.up (bel9 hB (by omega) _ _ _ _ _ _ _ _ _)))
  have HRT := Lib.hid (HRS.out hh)
  clear HRS HRV hh
  have z0 := BQF.out.nine.c0
  have k0 := BQK.out.cell 0
  simp only [List.getElem?_cons_zero] at k0
  have hez : ∃ ez, ez = ((kind == 7) == (k == 3)) := ⟨_, rfl⟩
  obtain ⟨ez, hez⟩ := hez
  have HEZ := Lib.hid hez
  clear hez
  have HSQ : Hid (sp = (ez || (!h1 || !h2))) := Lib.hid (by rw [HSP.out, HEZ.out]; rcases HK.out with rfl | rfl <;> rfl)
  clear HSP
  go_upto_region 5 with (fail)
  go_cut [9, 33, 35, 44] (fun v9 v33 v35 v44 wx => v9 = .bool true ∧ v33 = undef ∧ v35 = undef ∧ v44 = undef ∧ wx = w2)
  case first =>
    rcases HK.out with rfl | rfl
    all_goals
      go_wp2_with fail
      go_meet
      exact ⟨rfl, rfl, rfl, rfl, rfl⟩
  case rest =>
    obtain ⟨rfl, rfl, rfl, rfl, rfl⟩ := hcut
    go_upto_region 6 with (fail)
    go_cut [10, 33, 35, 44] (fun v10 v33 v35 v44 wx => v10 = .bool ez ∧ v33 = undef ∧ v35 = undef ∧ v44 = undef ∧ wx = wc)
    case first =>
      cases q7 : (kind == 7)
      all_goals
        rcases HK.out with rfl | rfl
        all_goals
          go_wp2_with fail
          go_meet
          exact ⟨by rw [HEZ.out, q7]; rfl, rfl, rfl, rfl, rfl⟩
    case rest =>
      obtain ⟨rfl, rfl, rfl, rfl, rfl⟩ := hcut
      generalize wc = w2 at *
      go_upto_region 7 with (fail)
      go_cut [53] (fun v53 wx => v53 = .bool sp ∧ Below w2.heap.size w2 wx)
      case first =>
        cases ez
        rotate_left
        · obtain rfl : sp = true := HSQ.out
          go_quiet (fail)
          go_wp2_with fail
          go_meet
          exact ⟨rfl, Below.drewN (Below.refl _ _) nq⟩
        cases h1
        · obtain rfl : sp = true := HSQ.out
          have s0 := BQS.out.cell 0
          have f8 := BQF.out.nine.c8
          simp only [List.getElem?_cons_zero] at s0
          have tk := HP.out.keep HB2.out; have e0 := tk.c0; have e1 := tk.c1; have e2 := tk.c2; have e3 := tk.c3; have e4 := tk.c4; have e5 := tk.c5; have e6 := tk.c6; have e7 := tk.c7; have e8 := tk.c8; clear tk
          have tk := HQ.out.keep HB2.out; have d0 := tk.c0; have d1 := tk.c1; have d2 := tk.c2; have d3 := tk.c3; have d4 := tk.c4; have d5 := tk.c5; have d6 := tk.c6; have d7 := tk.c7; have d8 := tk.c8; clear tk
          have HQ0 := Lib.hid (bel_drew1 w2)
          (first | (go_region_with (first | (go_at_call_of 68 (Value.agg #[.int .i64 k1, .string n1, .int .i64 vl1, .string fl1, .slice Al1 al1.length cl1, .int .i64 vr1, .string fr1, .slice Ar1 ar1.length cr1, .slice A1 ts1.length c1]); refine (HS1.out _ (bel_go HBW.out (by first | exact HQ1.out | exact HQ0.out))).mono ?_; rintro e w9 ⟨rfl, hb9⟩; have HQ1 := Lib.hid (bel_go (by first | exact HQ1.out | exact HQ0.out) hb9); clear hb9; have s0 := (BQS.out.below HQ1.out BQS.out.lt).cell 0; have f8 := (BQF.out.below HQ1.out BQF.out.lt).nine.c8; simp only [List.getElem?_cons_zero] at s0; have tk := HP.out.keep (bel_go HB2.out HQ1.out); have e0 := tk.c0; have e1 := tk.c1; have e2 := tk.c2; have e3 := tk.c3; have e4 := tk.c4; have e5 := tk.c5; have e6 := tk.c6; have e7 := tk.c7; have e8 := tk.c8; clear tk; have tk := HQ.out.keep (bel_go HB2.out HQ1.out); have d0 := tk.c0; have d1 := tk.c1; have d2 := tk.c2; have d3 := tk.c3; have d4 := tk.c4; have d5 := tk.c5; have d6 := tk.c6; have d7 := tk.c7; have d8 := tk.c8; clear tk) | (go_at_call_of 68 (Value.agg #[.int .i64 k2, .string n2, .int .i64 vl2, .string fl2, .slice Al2 al2.length cl2, .int .i64 vr2, .string fr2, .slice Ar2 ar2.length cr2, .slice A2 ts2.length c2]); refine (HS2.out _ (bel_go HBW.out (by first | exact HQ1.out | exact HQ0.out))).mono ?_; rintro e w9 ⟨rfl, hb9⟩; have HQ1 := Lib.hid (bel_go (by first | exact HQ1.out | exact HQ0.out) hb9); clear hb9; have s0 := (BQS.out.below HQ1.out BQS.out.lt).cell 0; have f8 := (BQF.out.below HQ1.out BQF.out.lt).nine.c8; simp only [List.getElem?_cons_zero] at s0; have tk := HP.out.keep (bel_go HB2.out HQ1.out); have e0 := tk.c0; have e1 := tk.c1; have e2 := tk.c2; have e3 := tk.c3; have e4 := tk.c4; have e5 := tk.c5; have e6 := tk.c6; have e7 := tk.c7; have e8 := tk.c8; clear tk; have tk := HQ.out.keep (bel_go HB2.out HQ1.out); have d0 := tk.c0; have d1 := tk.c1; have d2 := tk.c2; have d3 := tk.c3; have d4 := tk.c4; have d5 := tk.c5; have d6 := tk.c6; have d7 := tk.c7; have d8 := tk.c8; clear tk))) | fail "held")
          all_goals
            go_wp2_with fail
            go_meet
            exact ⟨rfl, HQ1.out⟩
        cases h2
        · obtain rfl : sp = true := HSQ.out
          have s0 := BQS.out.cell 0
          have f8 := BQF.out.nine.c8
          simp only [List.getElem?_cons_zero] at s0
          have tk := HP.out.keep HB2.out; have e0 := tk.c0; have e1 := tk.c1; have e2 := tk.c2; have e3 := tk.c3; have e4 := tk.c4; have e5 := tk.c5; have e6 := tk.c6; have e7 := tk.c7; have e8 := tk.c8; clear tk
          have tk := HQ.out.keep HB2.out; have d0 := tk.c0; have d1 := tk.c1; have d2 := tk.c2; have d3 := tk.c3; have d4 := tk.c4; have d5 := tk.c5; have d6 := tk.c6; have d7 := tk.c7; have d8 := tk.c8; clear tk
          have HQ0 := Lib.hid (bel_drew1 w2)
          (first | (go_region_held3 (fun w' => w'.cell? ⟨w.heap.size + 1 + 1 + 1 + 1, 0, none⟩ = some (.func (.func 68) #[] #[.pointer (some ⟨w.heap.size + 1, 0, none⟩)]) ∧ w'.cell? ⟨w.heap.size + 1 + 1, 8, none⟩ = some (.slice (some ⟨b, o, none⟩) 2 c) ∧ w'.cell? ⟨b, o, none⟩ = some (.int .i64 k1) ∧ w'.cell? ⟨b, o + 1, none⟩ = some (.string n1) ∧ w'.cell? ⟨b, o + 2, none⟩ = some (.int .i64 vl1) ∧ w'.cell? ⟨b, o + 3, none⟩ = some (.string fl1) ∧ w'.cell? ⟨b, o + 4, none⟩ = some (.slice Al1 al1.length cl1) ∧ w'.cell? ⟨b, o + 5, none⟩ = some (.int .i64 vr1) ∧ w'.cell? ⟨b, o + 6, none⟩ = some (.string fr1) ∧ w'.cell? ⟨b, o + 7, none⟩ = some (.slice Ar1 ar1.length cr1) ∧ w'.cell? ⟨b, o + 8, none⟩ = some (.slice A1 ts1.length c1) ∧ w'.cell? ⟨b, o + 9, none⟩ = some (.int .i64 k2) ∧ w'.cell? ⟨b, o + 10, none⟩ = some (.string n2) ∧ w'.cell? ⟨b, o + 11, none⟩ = some (.int .i64 vl2) ∧ w'.cell? ⟨b, o + 12, none⟩ = some (.string fl2) ∧ w'.cell? ⟨b, o + 13, none⟩ = some (.slice Al2 al2.length cl2) ∧ w'.cell? ⟨b, o + 14, none⟩ = some (.int .i64 vr2) ∧ w'.cell? ⟨b, o + 15, none⟩ = some (.string fr2) ∧ w'.cell? ⟨b, o + 16, none⟩ = some (.slice Ar2 ar2.length cr2) ∧ w'.cell? ⟨b, o + 17, none⟩ = some (.slice A2 ts2.length c2)) (go_keep) (first | (go_at_call_of 68 (Value.agg #[.int .i64 k1, .string n1, .int .i64 vl1, .string fl1, .slice Al1 al1.length cl1, .int .i64 vr1, .string fr1, .slice Ar1 ar1.length cr1, .slice A1 ts1.length c1]); refine (HS1.out _ (bel_go HBW.out (by first | exact HQ1.out | exact HQ0.out))).mono ?_; rintro e w9 ⟨rfl, hb9⟩; have HQ1 := Lib.hid (bel_go (by first | exact HQ1.out | exact HQ0.out) hb9); clear hb9; have s0 := (BQS.out.below HQ1.out BQS.out.lt).cell 0; have f8 := (BQF.out.below HQ1.out BQF.out.lt).nine.c8; simp only [List.getElem?_cons_zero] at s0; have tk := HP.out.keep (bel_go HB2.out HQ1.out); have e0 := tk.c0; have e1 := tk.c1; have e2 := tk.c2; have e3 := tk.c3; have e4 := tk.c4; have e5 := tk.c5; have e6 := tk.c6; have e7 := tk.c7; have e8 := tk.c8; clear tk; have tk := HQ.out.keep (bel_go HB2.out HQ1.out); have d0 := tk.c0; have d1 := tk.c1; have d2 := tk.c2; have d3 := tk.c3; have d4 := tk.c4; have d5 := tk.c5; have d6 := tk.c6; have d7 := tk.c7; have d8 := tk.c8; clear tk) | (go_at_call_of 68 (Value.agg #[.int .i64 k2, .string n2, .int .i64 vl2, .string fl2, .slice Al2 al2.length cl2, .int .i64 vr2, .string fr2, .slice Ar2 ar2.length cr2, .slice A2 ts2.length c2]); refine (HS2.out _ (bel_go HBW.out (by first | exact HQ1.out | exact HQ0.out))).mono ?_; rintro e w9 ⟨rfl, hb9⟩; have HQ1 := Lib.hid (bel_go (by first | exact HQ1.out | exact HQ0.out) hb9); clear hb9; have s0 := (BQS.out.below HQ1.out BQS.out.lt).cell 0; have f8 := (BQF.out.below HQ1.out BQF.out.lt).nine.c8; simp only [List.getElem?_cons_zero] at s0; have tk := HP.out.keep (bel_go HB2.out HQ1.out); have e0 := tk.c0; have e1 := tk.c1; have e2 := tk.c2; have e3 := tk.c3; have e4 := tk.c4; have e5 := tk.c5; have e6 := tk.c6; have e7 := tk.c7; have e8 := tk.c8; clear tk; have tk := HQ.out.keep (bel_go HB2.out HQ1.out); have d0 := tk.c0; have d1 := tk.c1; have d2 := tk.c2; have d3 := tk.c3; have d4 := tk.c4; have d5 := tk.c5; have d6 := tk.c6; have d7 := tk.c7; have d8 := tk.c8; clear tk))) | fail "held")
          all_goals
            go_wp2_with fail
            go_meet
            exact ⟨rfl, HQ1.out⟩
        · obtain rfl : sp = false := HSQ.out
          have s0 := BQS.out.cell 0
          have f8 := BQF.out.nine.c8
          simp only [List.getElem?_cons_zero] at s0
          have tk := HP.out.keep HB2.out; have e0 := tk.c0; have e1 := tk.c1; have e2 := tk.c2; have e3 := tk.c3; have e4 := tk.c4; have e5 := tk.c5; have e6 := tk.c6; have e7 := tk.c7; have e8 := tk.c8; clear tk
          have tk := HQ.out.keep HB2.out; have d0 := tk.c0; have d1 := tk.c1; have d2 := tk.c2; have d3 := tk.c3; have d4 := tk.c4; have d5 := tk.c5; have d6 := tk.c6; have d7 := tk.c7; have d8 := tk.c8; clear tk
          have HQ0 := Lib.hid (bel_drew1 w2)
          (first | (go_region_held3 (fun w' => w'.cell? ⟨w.heap.size + 1 + 1 + 1 + 1, 0, none⟩ = some (.func (.func 68) #[] #[.pointer (some ⟨w.heap.size + 1, 0, none⟩)]) ∧ w'.cell? ⟨w.heap.size + 1 + 1, 8, none⟩ = some (.slice (some ⟨b, o, none⟩) 2 c) ∧ w'.cell? ⟨b, o, none⟩ = some (.int .i64 k1) ∧ w'.cell? ⟨b, o + 1, none⟩ = some (.string n1) ∧ w'.cell? ⟨b, o + 2, none⟩ = some (.int .i64 vl1) ∧ w'.cell? ⟨b, o + 3, none⟩ = some (.string fl1) ∧ w'.cell? ⟨b, o + 4, none⟩ = some (.slice Al1 al1.length cl1) ∧ w'.cell? ⟨b, o + 5, none⟩ = some (.int .i64 vr1) ∧ w'.cell? ⟨b, o + 6, none⟩ = some (.string fr1) ∧ w'.cell? ⟨b, o + 7, none⟩ = some (.slice Ar1 ar1.length cr1) ∧ w'.cell? ⟨b, o + 8, none⟩ = some (.slice A1 ts1.length c1) ∧ w'.cell? ⟨b, o + 9, none⟩ = some (.int .i64 k2) ∧ w'.cell? ⟨b, o + 10, none⟩ = some (.string n2) ∧ w'.cell? ⟨b, o + 11, none⟩ = some (.int .i64 vl2) ∧ w'.cell? ⟨b, o + 12, none⟩ = some (.string fl2) ∧ w'.cell? ⟨b, o + 13, none⟩ = some (.slice Al2 al2.length cl2) ∧ w'.cell? ⟨b, o + 14, none⟩ = some (.int .i64 vr2) ∧ w'.cell? ⟨b, o + 15, none⟩ = some (.string fr2) ∧ w'.cell? ⟨b, o + 16, none⟩ = some (.slice Ar2 ar2.length cr2) ∧ w'.cell? ⟨b, o + 17, none⟩ = some (.slice A2 ts2.length c2)) (go_keep) (first | (go_at_call_of 68 (Value.agg #[.int .i64 k1, .string n1, .int .i64 vl1, .string fl1, .slice Al1 al1.length cl1, .int .i64 vr1, .string fr1, .slice Ar1 ar1.length cr1, .slice A1 ts1.length c1]); refine (HS1.out _ (bel_go HBW.out (by first | exact HQ1.out | exact HQ0.out))).mono ?_; rintro e w9 ⟨rfl, hb9⟩; have HQ1 := Lib.hid (bel_go (by first | exact HQ1.out | exact HQ0.out) hb9); clear hb9; have s0 := (BQS.out.below HQ1.out BQS.out.lt).cell 0; have f8 := (BQF.out.below HQ1.out BQF.out.lt).nine.c8; simp only [List.getElem?_cons_zero] at s0; have tk := HP.out.keep (bel_go HB2.out HQ1.out); have e0 := tk.c0; have e1 := tk.c1; have e2 := tk.c2; have e3 := tk.c3; have e4 := tk.c4; have e5 := tk.c5; have e6 := tk.c6; have e7 := tk.c7; have e8 := tk.c8; clear tk; have tk := HQ.out.keep (bel_go HB2.out HQ1.out); have d0 := tk.c0; have d1 := tk.c1; have d2 := tk.c2; have d3 := tk.c3; have d4 := tk.c4; have d5 := tk.c5; have d6 := tk.c6; have d7 := tk.c7; have d8 := tk.c8; clear tk) | (go_at_call_of 68 (Value.agg #[.int .i64 k2, .string n2, .int .i64 vl2, .string fl2, .slice Al2 al2.length cl2, .int .i64 vr2, .string fr2, .slice Ar2 ar2.length cr2, .slice A2 ts2.length c2]); refine (HS2.out _ (bel_go HBW.out (by first | exact HQ1.out | exact HQ0.out))).mono ?_; rintro e w9 ⟨rfl, hb9⟩; have HQ1 := Lib.hid (bel_go (by first | exact HQ1.out | exact HQ0.out) hb9); clear hb9; have s0 := (BQS.out.below HQ1.out BQS.out.lt).cell 0; have f8 := (BQF.out.below HQ1.out BQF.out.lt).nine.c8; simp only [List.getElem?_cons_zero] at s0; have tk := HP.out.keep (bel_go HB2.out HQ1.out); have e0 := tk.c0; have e1 := tk.c1; have e2 := tk.c2; have e3 := tk.c3; have e4 := tk.c4; have e5 := tk.c5; have e6 := tk.c6; have e7 := tk.c7; have e8 := tk.c8; clear tk; have tk := HQ.out.keep (bel_go HB2.out HQ1.out); have d0 := tk.c0; have d1 := tk.c1; have d2 := tk.c2; have d3 := tk.c3; have d4 := tk.c4; have d5 := tk.c5; have d6 := tk.c6; have d7 := tk.c7; have d8 := tk.c8; clear tk))) | fail "held")
          all_goals
            go_wp2_with fail
            go_meet
            exact ⟨rfl, HQ1.out⟩
      case rest =>
        obtain ⟨rfl, hbw⟩ := hcut
        have BQF := Lib.hid (BQF.out.below hbw BQF.out.lt)
        have BQR := Lib.hid (BQR.out.below hbw BQR.out.lt)
        have BQK := Lib.hid (BQK.out.below hbw BQK.out.lt)
        have BQX := Lib.hid (BQX.out.below hbw BQX.out.lt)
        have BQS := Lib.hid (BQS.out.below hbw BQS.out.lt)
        have HB2 := Lib.hid (bel_go HB2.out hbw)
        have HBW := Lib.hid (bel_go HBW.out hbw)
        clear hbw z0 k0
        generalize wc = W9 at *
        cases sp
        · have HR := Lib.hid (show res = _ from HRT.out)
          rw [if_neg (by simp)] at HR
          have hWz := HB2.out.size
          have hn5 : w.heap.size + 1 + 1 + 1 ≠ W9.heap.size := by have := BQR.out.lt; omega
          have BA2 := Lib.hid (BQR.out.alloc (.cells #[.int .i64 k, .string n, .int .i64 vl, .string fl, .slice Al al.length cl, .int .i64 vr, .string fr, .slice Ar ar.length cr, .slice (some ⟨b, o, none⟩) 2 c] 27))
          have hB := HB2.out.alloc HB2.out.size (.cells #[.int .i64 k, .string n, .int .i64 vl, .string fl, .slice Al al.length cl, .int .i64 vr, .string fr, .slice Ar ar.length cr, .slice (some ⟨b, o, none⟩) 2 c] 27)
          have tk := BQF.out.nine; have z0 := tk.c0; have z1 := tk.c1; have z2 := tk.c2; have z3 := tk.c3; have z4 := tk.c4; have z5 := tk.c5; have z6 := tk.c6; have z7 := tk.c7; have z8 := tk.c8; clear tk
          have tk := BA2.out.nine; have yr0 := tk.c0; have yr1 := tk.c1; have yr2 := tk.c2; have yr3 := tk.c3; have yr4 := tk.c4; have yr5 := tk.c5; have yr6 := tk.c6; have yr7 := tk.c7; have yr8 := tk.c8; clear tk
          have tk := BA2.out.free9; have yf0 := tk.c0; have yf1 := tk.c1; have yf2 := tk.c2; have yf3 := tk.c3; have yf4 := tk.c4; have yf5 := tk.c5; have yf6 := tk.c6; have yf7 := tk.c7; have yf8 := tk.c8; clear tk
          have k0 := BQK.out.cell 0
          have x0 := BQX.out.cell 0
          simp only [List.getElem?_cons_zero] at k0 x0
          go_wp2_with fail
          refine bodyPost_ret (v := .agg #[.int .i64 kind, .string x, .int .i64 0, .string ⟨#[]⟩, .slice none 0 0, .int .i64 0, .string ⟨#[]⟩, .slice none 0 0, .slice (some ⟨W9.heap.size, 0, none⟩) 1 1]) ?_ rfl ⟨?_, bel9 hB (by omega) _ _ _ _ _ _ _ _ _⟩
          · simp [results, Tryz.results50, go_sem, yr0, yr1, yr2, yr3, yr4, yr5, yr6, yr7, yr8]
          · rw [HR.out]; exact FRes.one kind x (blk9o (Blk.new W9 27 [.int .i64 k, .string n, .int .i64 vl, .string fl, .slice Al al.length cl, .int .i64 vr, .string fr, .slice Ar ar.length cr, .slice (some ⟨b, o, none⟩) 2 c]) hn5 _ _ _ _ _ _ _ _ _) (Or.inr hWz) (r3 HG.out (Stay.up (bel9 hB (by omega) _ _ _ _ _ _ _ _ _)))
        · have HR := Lib.hid (show res = _ from HRT.out)
          rw [if_pos rfl] at HR
          clear HRT HSQ
          have f0 := BQF.out.nine.c0
          have f8 := BQF.out.nine.c8
          have tk := HP.out.keep HB2.out; have e0 := tk.c0; have e1 := tk.c1; have e2 := tk.c2; have e3 := tk.c3; have e4 := tk.c4; have e5 := tk.c5; have e6 := tk.c6; have e7 := tk.c7; have e8 := tk.c8; clear tk
          have tk := HQ.out.keep HB2.out; have d0 := tk.c0; have d1 := tk.c1; have d2 := tk.c2; have d3 := tk.c3; have d4 := tk.c4; have d5 := tk.c5; have d6 := tk.c6; have d7 := tk.c7; have d8 := tk.c8; clear tk
          go_upto_region 8 with (fail)
          have hbn1 : w.heap.size + 1 + 1 + 1 ≠ b := by omega
          have hbn2 := hbn1.symm
          have HQ0 := Lib.hid (bel_drew1 W9)
          have hno : ¬ Lo S w W9 (w.heap.size + 1 + 1 + 1) := lo_not (by omega) BQR.out.lt
          have hsz := HB2.out.size
          (first | (go_region_held3 (fun w' => w'.cell? ⟨w.heap.size + 1 + 1, 0, none⟩ = some (.int .i64 k) ∧ w'.cell? ⟨w.heap.size + 1 + 1, 8, none⟩ = some (.slice (some ⟨b, o, none⟩) 2 c) ∧ w'.cell? ⟨b, o, none⟩ = some (.int .i64 k1) ∧ w'.cell? ⟨b, o + 1, none⟩ = some (.string n1) ∧ w'.cell? ⟨b, o + 2, none⟩ = some (.int .i64 vl1) ∧ w'.cell? ⟨b, o + 3, none⟩ = some (.string fl1) ∧ w'.cell? ⟨b, o + 4, none⟩ = some (.slice Al1 al1.length cl1) ∧ w'.cell? ⟨b, o + 5, none⟩ = some (.int .i64 vr1) ∧ w'.cell? ⟨b, o + 6, none⟩ = some (.string fr1) ∧ w'.cell? ⟨b, o + 7, none⟩ = some (.slice Ar1 ar1.length cr1) ∧ w'.cell? ⟨b, o + 8, none⟩ = some (.slice A1 ts1.length c1) ∧ w'.cell? ⟨b, o + 9, none⟩ = some (.int .i64 k2) ∧ w'.cell? ⟨b, o + 10, none⟩ = some (.string n2) ∧ w'.cell? ⟨b, o + 11, none⟩ = some (.int .i64 vl2) ∧ w'.cell? ⟨b, o + 12, none⟩ = some (.string fl2) ∧ w'.cell? ⟨b, o + 13, none⟩ = some (.slice Al2 al2.length cl2) ∧ w'.cell? ⟨b, o + 14, none⟩ = some (.int .i64 vr2) ∧ w'.cell? ⟨b, o + 15, none⟩ = some (.string fr2) ∧ w'.cell? ⟨b, o + 16, none⟩ = some (.slice Ar2 ar2.length cr2) ∧ w'.cell? ⟨b, o + 17, none⟩ = some (.slice A2 ts2.length c2)) (go_keep) (first | (go_at_call_of 71 (Value.agg #[.int .i64 k2, .string n2, .int .i64 vl2, .string fl2, .slice Al2 al2.length cl2, .int .i64 vr2, .string fr2, .slice Ar2 ar2.length cr2, .slice A2 ts2.length c2]); refine (HO2.out _ (bel_go HBW.out (by first | exact HQ1.out | exact HQ0.out))).mono ?_; rintro e w9 ⟨⟨gk8, gn8, gvl8, gfl8, gal8, gvr8, gfr8, gar8, gts8, gAl8, gcl8, gAr8, gcr8, gA8, gc8, hg8, rfl, gr8⟩, hb9⟩; have G8 := Lib.hid (r3 gr8 (Stay.lo_lo ((by first | exact HQ1.out | exact HQ0.out) : Below W9.heap.size W9 _).size)); have GG8 := Lib.hid hg8; clear gr8 hg8; have G7 := Lib.hid (r3 G7.out (Stay.below hb9)); have HQ1 := Lib.hid (bel_go (by first | exact HQ1.out | exact HQ0.out) hb9); clear hb9; have f0 := (BQF.out.below HQ1.out BQF.out.lt).nine.c0; have f8 := (BQF.out.below HQ1.out BQF.out.lt).nine.c8; have tk := HP.out.keep (bel_go HB2.out HQ1.out); have e0 := tk.c0; have e1 := tk.c1; have e2 := tk.c2; have e3 := tk.c3; have e4 := tk.c4; have e5 := tk.c5; have e6 := tk.c6; have e7 := tk.c7; have e8 := tk.c8; clear tk; have tk := HQ.out.keep (bel_go HB2.out HQ1.out); have d0 := tk.c0; have d1 := tk.c1; have d2 := tk.c2; have d3 := tk.c3; have d4 := tk.c4; have d5 := tk.c5; have d6 := tk.c6; have d7 := tk.c7; have d8 := tk.c8; clear tk; have BR := Lib.hid (BQR.out.below HQ1.out BQR.out.lt); have tk := BR.out.nine; have yr0 := tk.c0; have yr1 := tk.c1; have yr2 := tk.c2; have yr3 := tk.c3; have yr4 := tk.c4; have yr5 := tk.c5; have yr6 := tk.c6; have yr7 := tk.c7; have yr8 := tk.c8; clear tk; have tk := BR.out.free9; have yf0 := tk.c0; have yf1 := tk.c1; have yf2 := tk.c2; have yf3 := tk.c3; have yf4 := tk.c4; have yf5 := tk.c5; have yf6 := tk.c6; have yf7 := tk.c7; have yf8 := tk.c8; clear tk; have hlr := BR.out.lt; have hn5 := Nat.ne_of_lt BR.out.lt; have hn6 := hn5.symm; have hB := bel_go HB2.out HQ1.out) | (go_at_call_of 71 (Value.agg #[.int .i64 k1, .string n1, .int .i64 vl1, .string fl1, .slice Al1 al1.length cl1, .int .i64 vr1, .string fr1, .slice Ar1 ar1.length cr1, .slice A1 ts1.length c1]); refine (HO1.out _ (bel_go HBW.out (by first | exact HQ1.out | exact HQ0.out))).mono ?_; rintro e w9 ⟨⟨gk7, gn7, gvl7, gfl7, gal7, gvr7, gfr7, gar7, gts7, gAl7, gcl7, gAr7, gcr7, gA7, gc7, hg7, rfl, gr7⟩, hb9⟩; have G7 := Lib.hid (r3 gr7 (Stay.lo_lo ((by first | exact HQ1.out | exact HQ0.out) : Below W9.heap.size W9 _).size)); have GG7 := Lib.hid hg7; clear gr7 hg7; have HQ1 := Lib.hid (bel_go (by first | exact HQ1.out | exact HQ0.out) hb9); clear hb9; have f0 := (BQF.out.below HQ1.out BQF.out.lt).nine.c0; have f8 := (BQF.out.below HQ1.out BQF.out.lt).nine.c8; have tk := HP.out.keep (bel_go HB2.out HQ1.out); have e0 := tk.c0; have e1 := tk.c1; have e2 := tk.c2; have e3 := tk.c3; have e4 := tk.c4; have e5 := tk.c5; have e6 := tk.c6; have e7 := tk.c7; have e8 := tk.c8; clear tk; have tk := HQ.out.keep (bel_go HB2.out HQ1.out); have d0 := tk.c0; have d1 := tk.c1; have d2 := tk.c2; have d3 := tk.c3; have d4 := tk.c4; have d5 := tk.c5; have d6 := tk.c6; have d7 := tk.c7; have d8 := tk.c8; clear tk; have BR := Lib.hid (BQR.out.below HQ1.out BQR.out.lt); have tk := BR.out.nine; have yr0 := tk.c0; have yr1 := tk.c1; have yr2 := tk.c2; have yr3 := tk.c3; have yr4 := tk.c4; have yr5 := tk.c5; have yr6 := tk.c6; have yr7 := tk.c7; have yr8 := tk.c8; clear tk; have tk := BR.out.free9; have yf0 := tk.c0; have yf1 := tk.c1; have yf2 := tk.c2; have yf3 := tk.c3; have yf4 := tk.c4; have yf5 := tk.c5; have yf6 := tk.c6; have yf7 := tk.c7; have yf8 := tk.c8; clear tk; have hlr := BR.out.lt; have hn5 := Nat.ne_of_lt BR.out.lt; have hn6 := hn5.symm; have hB := bel_go HB2.out HQ1.out))) | fail "held")
          all_goals
            go_wp2_with fail
            have hB2 := bel9 hB (show w.heap.size ≤ w.heap.size + 1 + 1 + 1 by omega) (.int .i64 k) (.string ⟨#[]⟩) (.int .i64 0) (.string ⟨#[]⟩) (.slice none 0 0) (.int .i64 0) (.string ⟨#[]⟩) (.slice none 0 0) (.slice (some ⟨w9.heap.size, 0, none⟩) 2 2)
            clear f0 f8 e0 e1 e2 e3 e4 e5 e6 e7 e8 d0 d1 d2 d3 d4 d5 d6 d7 d8
            refine bodyPost_ret (v := .agg #[.int .i64 k, .string ⟨#[]⟩, .int .i64 0, .string ⟨#[]⟩, .slice none 0 0, .int .i64 0, .string ⟨#[]⟩, .slice none 0 0, .slice (some ⟨w9.heap.size, 0, none⟩) 2 2]) ?_ rfl ⟨?_, hB2.alloc hB2.size _⟩
            · simp [results, Tryz.results50, go_sem, yr0, yr1, yr2, yr3, yr4, yr5, yr6, yr7, yr8, hlr, hn5, hn6]
            · rw [HR.out, GG7.out, GG8.out]; exact FRes.two k (Blk.new' _ w9.heap.size 27 [.int .i64 gk7, .string gn7, .int .i64 gvl7, .string gfl7, .slice gAl7 gal7.length gcl7, .int .i64 gvr7, .string gfr7, .slice gAr7 gar7.length gcr7, .slice gA7 gts7.length gc7, .int .i64 gk8, .string gn8, .int .i64 gvl8, .string gfl8, .slice gAl8 gal8.length gcl8, .int .i64 gvr8, .string gfr8, .slice gAr8 gar8.length gcr8, .slice gA8 gts8.length gc8] (by simp)) (Or.inr hB.size) (r3 G7.out (((Stay.set9 hno _ _ _ _ _ _ _ _ _).trans (Stay.al _)).trans (Stay.lo_up hsz))) (r3 G8.out (((Stay.set9 hno _ _ _ _ _ _ _ _ _).trans (Stay.al _)).trans (Stay.lo_up hsz)))
end Go.Proofs.YtndjjnnljihmnaaGreat
