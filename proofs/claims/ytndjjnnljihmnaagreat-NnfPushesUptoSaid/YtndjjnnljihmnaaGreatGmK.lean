/- The reference's push. -/
import Derived.Test.YtndjjnnljihmnaaGreatGmI
import Derived.Test.YtndjjnnljihmnaaGreatFmS
namespace Go.Proofs.YtndjjnnljihmnaaGreat
open Go.RowKit
set_option linter.unusedVariables false
set_option linter.unusedSimpArgs false
def RPushAt (fn : Nat) (N : Nat) : Prop := ∀ (kind : Int) (x : ByteArray) (k : Int) (n : ByteArray) (vl : Int) (fl : ByteArray) (al : List Tm) (vr : Int) (fr : ByteArray) (ar : List Tm) (ts : List Fm) (Al : Option Addr) (cl : Nat) (Ar : Option Addr) (cr : Nat) (A : Option Addr) (c : Nat) (S : Nat → Prop) (w : World), (kind = 7 ∨ kind = 8) → (Fm.mk k n (.mk vl fl al) (.mk vr fr ar) ts).wt ≤ N → N ≤ 4398046510000 → (Fm.mk k n (.mk vl fl al) (.mk vr fr ar) ts).shape = true → ST S w Al al.length cl al → ST S w Ar ar.length cr ar → SF S w A ts.length c ts →
    Calls Tryz.prog fn #[.int .i64 kind, .string x, .agg #[.int .i64 k, .string n, .int .i64 vl, .string fl, .slice Al al.length cl, .int .i64 vr, .string fr, .slice Ar ar.length cr, .slice A ts.length c]] w fun e w' => FRes (Up S w) w' (Fm.push kind x (Fm.mk k n (.mk vl fl al) (.mk vr fr ar) ts)) e ∧ Below w.heap.size w w'
theorem Stay.lo0 {S : Nat → Prop} {w W w' : World} : Stay (fun b => S b ∧ b < w.heap.size) (Lo S w W) w' w' := Stay.mono fun b hb => Or.inl hb
set_option maxRecDepth 100000 in
set_option maxHeartbeats 25600000 in
theorem rpushX (N : Nat) (kind : Int) (x : ByteArray) (k : Int) (n : ByteArray) (vl : Int) (fl : ByteArray) (al : List Tm) (vr : Int) (fr : ByteArray) (ar : List Tm) (ts : List Fm) (Al : Option Addr) (cl : Nat) (Ar : Option Addr) (cr : Nat) (A : Option Addr) (c : Nat) (S : Nat → Prop) (w : World) (hkd : kind = 7 ∨ kind = 8) (hw : (Fm.mk k n (.mk vl fl al) (.mk vr fr ar) ts).wt ≤ N) (hN : N ≤ 4398046510000) (hk3 : k ≠ 3) (hk4 : k ≠ 4) (hl : ST S w Al al.length cl al) (hr : ST S w Ar ar.length cr ar) (hs : SF S w A ts.length c ts) : Calls Tryz.prog 51 #[.int .i64 kind, .string x, .agg #[.int .i64 k, .string n, .int .i64 vl, .string fl, .slice Al al.length cl, .int .i64 vr, .string fr, .slice Ar ar.length cr, .slice A ts.length c]] w fun e w' => FRes (Up S w) w' (Fm.push kind x (Fm.mk k n (.mk vl fl al) (.mk vr fr ar) ts)) e ∧ Below w.heap.size w w' := by
  generalize hW : ((w.alloc (.cells #[.int .i64 k, .string n, .int .i64 vl, .string fl, .slice Al al.length cl, .int .i64 vr, .string fr, .slice Ar ar.length cr, .slice A ts.length c] 27)).alloc (.cells #[.int .i64 0, .string ⟨#[]⟩, .int .i64 0, .string ⟨#[]⟩, .slice none 0 0, .int .i64 0, .string ⟨#[]⟩, .slice none 0 0, .slice none 0 0] 27)) = W
  have HB0 : Hid (Below w.heap.size w W) := Lib.hid (by rw [← hW]; exact bel_two)
  have BKF : Hid (Blk W w.heap.size 27 [.int .i64 k, .string n, .int .i64 vl, .string fl, .slice Al al.length cl, .int .i64 vr, .string fr, .slice Ar ar.length cr, .slice A ts.length c]) := Lib.hid (by rw [← hW]; exact (Blk.new w 27 [.int .i64 k, .string n, .int .i64 vl, .string fl, .slice Al al.length cl, .int .i64 vr, .string fr, .slice Ar ar.length cr, .slice A ts.length c]).alloc _)
  have BKR : Hid (Blk W (w.heap.size + 1) 27 [.int .i64 0, .string ⟨#[]⟩, .int .i64 0, .string ⟨#[]⟩, .slice none 0 0, .int .i64 0, .string ⟨#[]⟩, .slice none 0 0, .slice none 0 0]) := Lib.hid (by rw [← hW]; exact Blk.new' _ (w.heap.size + 1) 27 [.int .i64 0, .string ⟨#[]⟩, .int .i64 0, .string ⟨#[]⟩, .slice none 0 0, .int .i64 0, .string ⟨#[]⟩, .slice none 0 0, .slice none 0 0] (by simp))
  have HST := Lib.hid (fun w' (hb : Below W.heap.size W w') => rhas_any x k n vl fl al vr fr ar ts Al cl Ar cr A c S w' (by omega) (hl.stay (Stay.below (bel_go HB0.out hb))) (hr.stay (Stay.below (bel_go HB0.out hb))) (hs.stay (Stay.below (bel_go HB0.out hb))))
  have HG := Lib.hid (And.intro hl (And.intro hr hs))
  have HRV := Lib.hid (push_not kind x (Fm.mk k n (.mk vl fl al) (.mk vr fr ar) ts))
  have HRS := Lib.hid (show (Fm.mk k n (.mk vl fl al) (.mk vr fr ar) ts).has x = true → Fm.push kind x (Fm.mk k n (.mk vl fl al) (.mk vr fr ar) ts) = Fm.one kind x (Fm.mk k n (.mk vl fl al) (.mk vr fr ar) ts) from fun h => by rw [Fm.push, if_pos h, if_neg (by unfold splitB; simp [hk3, hk4])])
  have q3 : (k == 3) = false := by simpa using hk3
  have q4 : (k == 4) = false := by simpa using hk4
  have HKD := Lib.hid hkd
  clear hl hr hs hw hN hk3 hk4 hkd
  generalize Fm.push kind x (Fm.mk k n (.mk vl fl al) (.mk vr fr ar) ts) = res at *
  cases hh : (Fm.mk k n (.mk vl fl al) (.mk vr fr ar) ts).has x
  all_goals rw [hh] at HST
  · have HR := Lib.hid (HRV.out hh)
    clear HRS HRV hh
    go_enter Tryz.func51, Tryz.ntmps51
    go_upto_region 1 with (fail)
    try rw [hW]
    clear hW
    have tk := BKF.out.nine; have z0 := tk.c0; have z1 := tk.c1; have z2 := tk.c2; have z3 := tk.c3; have z4 := tk.c4; have z5 := tk.c5; have z6 := tk.c6; have z7 := tk.c7; have z8 := tk.c8; clear tk
    go_wp2_with fail
    refine (HST.out _ (Below.refl _ _)).mono ?_
    rintro e w2 ⟨rfl, hb2⟩
    have HB2 := Lib.hid (bel_go HB0.out hb2)
    have HBW := Lib.hid hb2
    have BQF := Lib.hid (Blk.go BKF.out hb2)
    have BQR := Lib.hid (Blk.go BKR.out hb2)
    clear z0 z1 z2 z3 z4 z5 z6 z7 z8 hb2 BKF BKR HST
    have hB := HB2.out
    have tk := BQF.out.nine; have z0 := tk.c0; have z1 := tk.c1; have z2 := tk.c2; have z3 := tk.c3; have z4 := tk.c4; have z5 := tk.c5; have z6 := tk.c6; have z7 := tk.c7; have z8 := tk.c8; clear tk
    have tk := BQR.out.nine; have yr0 := tk.c0; have yr1 := tk.c1; have yr2 := tk.c2; have yr3 := tk.c3; have yr4 := tk.c4; have yr5 := tk.c5; have yr6 := tk.c6; have yr7 := tk.c7; have yr8 := tk.c8; clear tk
    have tk := BQR.out.free9; have yf0 := tk.c0; have yf1 := tk.c1; have yf2 := tk.c2; have yf3 := tk.c3; have yf4 := tk.c4; have yf5 := tk.c5; have yf6 := tk.c6; have yf7 := tk.c7; have yf8 := tk.c8; clear tk
    go_wp2_with fail
    refine bodyPost_ret (v := .agg #[.int .i64 k, .string n, .int .i64 vl, .string fl, .slice Al al.length cl, .int .i64 vr, .string fr, .slice Ar ar.length cr, .slice A ts.length c]) ?_ rfl ⟨?_, bel9 hB (Nat.le_succ _) _ _ _ _ _ _ _ _ _⟩
    · simp [results, Tryz.results51, go_sem, yr0, yr1, yr2, yr3, yr4, yr5, yr6, yr7, yr8]
    · rw [HR.out]; exact FRes.of (r3 HG.out (Stay.up (bel9 hB (Nat.le_succ _) _ _ _ _ _ _ _ _ _)))
  · have HR := Lib.hid (HRS.out hh)
    clear HRS HRV hh
    rcases HKD.out with rfl | rfl
    · go_enter Tryz.func51, Tryz.ntmps51
      go_upto_region 1 with (fail)
      try rw [hW]
      clear hW
      have tk := BKF.out.nine; have z0 := tk.c0; have z1 := tk.c1; have z2 := tk.c2; have z3 := tk.c3; have z4 := tk.c4; have z5 := tk.c5; have z6 := tk.c6; have z7 := tk.c7; have z8 := tk.c8; clear tk
      go_wp2_with fail
      refine (HST.out _ (Below.refl _ _)).mono ?_
      rintro e w2 ⟨rfl, hb2⟩
      have HB2 := Lib.hid (bel_go HB0.out hb2)
      have HBW := Lib.hid hb2
      have BQF := Lib.hid (Blk.go BKF.out hb2)
      have BQR := Lib.hid (Blk.go BKR.out hb2)
      clear z0 z1 z2 z3 z4 z5 z6 z7 z8 hb2 BKF BKR HST
      have hWz := HB2.out.size
      have hn5 : w.heap.size + 1 ≠ w2.heap.size := by have := BQR.out.lt; omega
      have BA2 := Lib.hid (BQR.out.alloc (.cells #[.int .i64 k, .string n, .int .i64 vl, .string fl, .slice Al al.length cl, .int .i64 vr, .string fr, .slice Ar ar.length cr, .slice A ts.length c] 27))
      have hB := HB2.out.alloc HB2.out.size (.cells #[.int .i64 k, .string n, .int .i64 vl, .string fl, .slice Al al.length cl, .int .i64 vr, .string fr, .slice Ar ar.length cr, .slice A ts.length c] 27)
      have tk := BQF.out.nine; have z0 := tk.c0; have z1 := tk.c1; have z2 := tk.c2; have z3 := tk.c3; have z4 := tk.c4; have z5 := tk.c5; have z6 := tk.c6; have z7 := tk.c7; have z8 := tk.c8; clear tk
      have tk := BA2.out.nine; have yr0 := tk.c0; have yr1 := tk.c1; have yr2 := tk.c2; have yr3 := tk.c3; have yr4 := tk.c4; have yr5 := tk.c5; have yr6 := tk.c6; have yr7 := tk.c7; have yr8 := tk.c8; clear tk
      have tk := BA2.out.free9; have yf0 := tk.c0; have yf1 := tk.c1; have yf2 := tk.c2; have yf3 := tk.c3; have yf4 := tk.c4; have yf5 := tk.c5; have yf6 := tk.c6; have yf7 := tk.c7; have yf8 := tk.c8; clear tk
      go_wp2_with fail
      refine bodyPost_ret (v := .agg #[.int .i64 7, .string x, .int .i64 0, .string ⟨#[]⟩, .slice none 0 0, .int .i64 0, .string ⟨#[]⟩, .slice none 0 0, .slice (some ⟨w2.heap.size, 0, none⟩) 1 1]) ?_ rfl ⟨?_, bel9 hB (Nat.le_succ _) _ _ _ _ _ _ _ _ _⟩
      · simp [results, Tryz.results51, go_sem, yr0, yr1, yr2, yr3, yr4, yr5, yr6, yr7, yr8]
      · rw [HR.out]; exact FRes.one 7 x (blk9o (Blk.new w2 27 [.int .i64 k, .string n, .int .i64 vl, .string fl, .slice Al al.length cl, .int .i64 vr, .string fr, .slice Ar ar.length cr, .slice A ts.length c]) hn5 _ _ _ _ _ _ _ _ _) (Or.inr hWz) (r3 HG.out (Stay.up (bel9 hB (Nat.le_succ _) _ _ _ _ _ _ _ _ _)))
    · go_enter Tryz.func51, Tryz.ntmps51
      go_upto_region 1 with (fail)
      try rw [hW]
      clear hW
      have tk := BKF.out.nine; have z0 := tk.c0; have z1 := tk.c1; have z2 := tk.c2; have z3 := tk.c3; have z4 := tk.c4; have z5 := tk.c5; have z6 := tk.c6; have z7 := tk.c7; have z8 := tk.c8; clear tk
      go_wp2_with fail
      refine (HST.out _ (Below.refl _ _)).mono ?_
      rintro e w2 ⟨rfl, hb2⟩
      have HB2 := Lib.hid (bel_go HB0.out hb2)
      have HBW := Lib.hid hb2
      have BQF := Lib.hid (Blk.go BKF.out hb2)
      have BQR := Lib.hid (Blk.go BKR.out hb2)
      clear z0 z1 z2 z3 z4 z5 z6 z7 z8 hb2 BKF BKR HST
      have hWz := HB2.out.size
      have hn5 : w.heap.size + 1 ≠ w2.heap.size := by have := BQR.out.lt; omega
      have BA2 := Lib.hid (BQR.out.alloc (.cells #[.int .i64 k, .string n, .int .i64 vl, .string fl, .slice Al al.length cl, .int .i64 vr, .string fr, .slice Ar ar.length cr, .slice A ts.length c] 27))
      have hB := HB2.out.alloc HB2.out.size (.cells #[.int .i64 k, .string n, .int .i64 vl, .string fl, .slice Al al.length cl, .int .i64 vr, .string fr, .slice Ar ar.length cr, .slice A ts.length c] 27)
      have tk := BQF.out.nine; have z0 := tk.c0; have z1 := tk.c1; have z2 := tk.c2; have z3 := tk.c3; have z4 := tk.c4; have z5 := tk.c5; have z6 := tk.c6; have z7 := tk.c7; have z8 := tk.c8; clear tk
      have tk := BA2.out.nine; have yr0 := tk.c0; have yr1 := tk.c1; have yr2 := tk.c2; have yr3 := tk.c3; have yr4 := tk.c4; have yr5 := tk.c5; have yr6 := tk.c6; have yr7 := tk.c7; have yr8 := tk.c8; clear tk
      have tk := BA2.out.free9; have yf0 := tk.c0; have yf1 := tk.c1; have yf2 := tk.c2; have yf3 := tk.c3; have yf4 := tk.c4; have yf5 := tk.c5; have yf6 := tk.c6; have yf7 := tk.c7; have yf8 := tk.c8; clear tk
      go_wp2_with fail
      refine bodyPost_ret (v := .agg #[.int .i64 8, .string x, .int .i64 0, .string ⟨#[]⟩, .slice none 0 0, .int .i64 0, .string ⟨#[]⟩, .slice none 0 0, .slice (some ⟨w2.heap.size, 0, none⟩) 1 1]) ?_ rfl ⟨?_, bel9 hB (Nat.le_succ _) _ _ _ _ _ _ _ _ _⟩
      · simp [results, Tryz.results51, go_sem, yr0, yr1, yr2, yr3, yr4, yr5, yr6, yr7, yr8]
      · rw [HR.out]; exact FRes.one 8 x (blk9o (Blk.new w2 27 [.int .i64 k, .string n, .int .i64 vl, .string fl, .slice Al al.length cl, .int .i64 vr, .string fr, .slice Ar ar.length cr, .slice A ts.length c]) hn5 _ _ _ _ _ _ _ _ _) (Or.inr hWz) (r3 HG.out (Stay.up (bel9 hB (Nat.le_succ _) _ _ _ _ _ _ _ _ _)))
set_option maxRecDepth 100000 in
set_option maxHeartbeats 25600000 in
theorem rpushE (N : Nat) (ih : RPushAt 51 N) (kind : Int) (x : ByteArray) (k : Int) (n : ByteArray) (vl : Int) (fl : ByteArray) (al : List Tm) (vr : Int) (fr : ByteArray) (ar : List Tm) (ts : List Fm) (Al : Option Addr) (cl : Nat) (Ar : Option Addr) (cr : Nat) (A : Option Addr) (c : Nat) (a1 a2 : Fm) (S : Nat → Prop) (w : World) (hkd : kind = 7 ∨ kind = 8) (h : (kind = 7 ∧ k = 3) ∨ (kind = 8 ∧ k = 4)) (hts : ts = [a1, a2]) (hw : (Fm.mk k n (.mk vl fl al) (.mk vr fr ar) ts).wt ≤ N + 1) (hN : N + 1 ≤ 4398046510000) (hsh1 : a1.shape = true) (hsh2 : a2.shape = true) (hl : ST S w Al al.length cl al) (hr : ST S w Ar ar.length cr ar) (hs : SF S w A ts.length c ts) : Calls Tryz.prog 51 #[.int .i64 kind, .string x, .agg #[.int .i64 k, .string n, .int .i64 vl, .string fl, .slice Al al.length cl, .int .i64 vr, .string fr, .slice Ar ar.length cr, .slice A ts.length c]] w fun e w' => FRes (Up S w) w' (Fm.push kind x (Fm.mk k n (.mk vl fl al) (.mk vr fr ar) ts)) e ∧ Below w.heap.size w w' := by
  subst hts
  have hs0 := hs
  have hs := hs.stay Stay.low'
  obtain ⟨b, o, hA1, k1, n1, vl1, fl1, al1, vr1, fr1, ar1, ts1, Al1, cl1, Ar1, cr1, A1, c1, hm1, hl1, hr1, hs1, p0, p1, p2, p3, p4, p5, p6, p7, p8⟩ := hs.at 0 (by simp)
  change a1 = _ at hm1
  subst hm1
  subst hA1
  simp only [Nat.zero_mul, Nat.one_mul, Nat.add_zero] at p0 p1 p2 p3 p4 p5 p6 p7 p8
  obtain ⟨b', o', hA2, k2, n2, vl2, fl2, al2, vr2, fr2, ar2, ts2, Al2, cl2, Ar2, cr2, A2, c2, hm2, hl2, hr2, hs2, q0, q1, q2, q3, q4, q5, q6, q7, q8⟩ := hs.at 1 (by simp)
  change a2 = _ at hm2
  subst hm2
  injection hA2 with hA2
  injection hA2 with hb2 ho2
  subst hb2 ho2
  simp only [Nat.zero_mul, Nat.one_mul, Nat.add_zero] at q0 q1 q2 q3 q4 q5 q6 q7 q8
  have hwk : (Fm.mk k1 n1 (.mk vl1 fl1 al1) (.mk vr1 fr1 ar1) ts1).wt + (Fm.mk k2 n2 (.mk vl2 fl2 al2) (.mk vr2 fr2 ar2) ts2).wt + 3 ≤ N + 1 := by have hh := hw; rw [Fm.wt, Fm.wts, Fm.wts, Fm.wts] at hh; have := (Tm.mk vl fl al).wt_pos; have := (Tm.mk vr fr ar).wt_pos; omega
  have HP := Lib.hid (show C9 w b o (.int .i64 k1) (.string n1) (.int .i64 vl1) (.string fl1) (.slice Al1 al1.length cl1) (.int .i64 vr1) (.string fr1) (.slice Ar1 ar1.length cr1) (.slice A1 ts1.length c1) from ⟨p0, p1, p2, p3, p4, p5, p6, p7, p8⟩)
  have HQ := Lib.hid (show C9 w b (o + 9) (.int .i64 k2) (.string n2) (.int .i64 vl2) (.string fl2) (.slice Al2 al2.length cl2) (.int .i64 vr2) (.string fr2) (.slice Ar2 ar2.length cr2) (.slice A2 ts2.length c2) from ⟨q0, q1, q2, q3, q4, q5, q6, q7, q8⟩)
  have hbw : b < w.heap.size := World.block_lt_of_cell? w _ p0
  clear p0 q0 p1 q1 p2 q2 p3 q3 p4 q4 p5 q5 p6 q6 p7 q7 p8 q8
  generalize hW : ((w.alloc (.cells #[.int .i64 k, .string n, .int .i64 vl, .string fl, .slice Al al.length cl, .int .i64 vr, .string fr, .slice Ar ar.length cr, .slice (some ⟨b, o, none⟩) 2 c] 27)).alloc (.cells #[.int .i64 0, .string ⟨#[]⟩, .int .i64 0, .string ⟨#[]⟩, .slice none 0 0, .int .i64 0, .string ⟨#[]⟩, .slice none 0 0, .slice none 0 0] 27)) = W
  have HB0 : Hid (Below w.heap.size w W) := Lib.hid (by rw [← hW]; exact bel_two)
  have BKF : Hid (Blk W w.heap.size 27 [.int .i64 k, .string n, .int .i64 vl, .string fl, .slice Al al.length cl, .int .i64 vr, .string fr, .slice Ar ar.length cr, .slice (some ⟨b, o, none⟩) 2 c]) := Lib.hid (by rw [← hW]; exact (Blk.new w 27 [.int .i64 k, .string n, .int .i64 vl, .string fl, .slice Al al.length cl, .int .i64 vr, .string fr, .slice Ar ar.length cr, .slice (some ⟨b, o, none⟩) 2 c]).alloc _)
  have BKR : Hid (Blk W (w.heap.size + 1) 27 [.int .i64 0, .string ⟨#[]⟩, .int .i64 0, .string ⟨#[]⟩, .slice none 0 0, .int .i64 0, .string ⟨#[]⟩, .slice none 0 0, .slice none 0 0]) := Lib.hid (by rw [← hW]; exact Blk.new' _ (w.heap.size + 1) 27 [.int .i64 0, .string ⟨#[]⟩, .int .i64 0, .string ⟨#[]⟩, .slice none 0 0, .int .i64 0, .string ⟨#[]⟩, .slice none 0 0, .slice none 0 0] (by simp))
  have HST := Lib.hid (fun w' (hb : Below W.heap.size W w') => rhas_any x k n vl fl al vr fr ar [(Fm.mk k1 n1 (.mk vl1 fl1 al1) (.mk vr1 fr1 ar1) ts1), (Fm.mk k2 n2 (.mk vl2 fl2 al2) (.mk vr2 fr2 ar2) ts2)] Al cl Ar cr (some ⟨b, o, none⟩) c S w' (by omega) (hl.stay (Stay.below (bel_go HB0.out hb))) (hr.stay (Stay.below (bel_go HB0.out hb))) (hs0.stay (Stay.below (bel_go HB0.out hb))))
  have HG := Lib.hid (And.intro hl (And.intro hr hs0))
  have HS1 := Lib.hid (fun w' (hb : Below w.heap.size w w') => rhas_any x k1 n1 vl1 fl1 al1 vr1 fr1 ar1 ts1 Al1 cl1 Ar1 cr1 A1 c1 _ w' (by omega) (hl1.stay (Stay.below hb)) (hr1.stay (Stay.below hb)) (hs1.stay (Stay.below hb)))
  have HO1 := Lib.hid (fun w' (hb : Below w.heap.size w w') => (show Calls Tryz.prog 51 #[.int .i64 kind, .string x, .agg #[.int .i64 k1, .string n1, .int .i64 vl1, .string fl1, .slice Al1 al1.length cl1, .int .i64 vr1, .string fr1, .slice Ar1 ar1.length cr1, .slice A1 ts1.length c1]] w' fun e w2 => FRes (Lo S w w') w2 (Fm.push kind x (Fm.mk k1 n1 (.mk vl1 fl1 al1) (.mk vr1 fr1 ar1) ts1)) e ∧ Below w'.heap.size w' w2 from ih kind x k1 n1 vl1 fl1 al1 vr1 fr1 ar1 ts1 Al1 cl1 Ar1 cr1 A1 c1 _ w' hkd (by omega) (by omega) hsh1 (hl1.stay (Stay.below hb)) (hr1.stay (Stay.below hb)) (hs1.stay (Stay.below hb))))
  have R1 := Lib.hid (show ST (fun b => S b ∧ b < w.heap.size) w Al1 al1.length cl1 al1 ∧ ST (fun b => S b ∧ b < w.heap.size) w Ar1 ar1.length cr1 ar1 ∧ SF (fun b => S b ∧ b < w.heap.size) w A1 ts1.length c1 ts1 from ⟨hl1, hr1, hs1⟩)
  have HN1 := Lib.hid (push_not kind x (Fm.mk k1 n1 (.mk vl1 fl1 al1) (.mk vr1 fr1 ar1) ts1))
  have HS2 := Lib.hid (fun w' (hb : Below w.heap.size w w') => rhas_any x k2 n2 vl2 fl2 al2 vr2 fr2 ar2 ts2 Al2 cl2 Ar2 cr2 A2 c2 _ w' (by omega) (hl2.stay (Stay.below hb)) (hr2.stay (Stay.below hb)) (hs2.stay (Stay.below hb)))
  have HO2 := Lib.hid (fun w' (hb : Below w.heap.size w w') => (show Calls Tryz.prog 51 #[.int .i64 kind, .string x, .agg #[.int .i64 k2, .string n2, .int .i64 vl2, .string fl2, .slice Al2 al2.length cl2, .int .i64 vr2, .string fr2, .slice Ar2 ar2.length cr2, .slice A2 ts2.length c2]] w' fun e w2 => FRes (Lo S w w') w2 (Fm.push kind x (Fm.mk k2 n2 (.mk vl2 fl2 al2) (.mk vr2 fr2 ar2) ts2)) e ∧ Below w'.heap.size w' w2 from ih kind x k2 n2 vl2 fl2 al2 vr2 fr2 ar2 ts2 Al2 cl2 Ar2 cr2 A2 c2 _ w' hkd (by omega) (by omega) hsh2 (hl2.stay (Stay.below hb)) (hr2.stay (Stay.below hb)) (hs2.stay (Stay.below hb))))
  have R2 := Lib.hid (show ST (fun b => S b ∧ b < w.heap.size) w Al2 al2.length cl2 al2 ∧ ST (fun b => S b ∧ b < w.heap.size) w Ar2 ar2.length cr2 ar2 ∧ SF (fun b => S b ∧ b < w.heap.size) w A2 ts2.length c2 ts2 from ⟨hl2, hr2, hs2⟩)
  have HN2 := Lib.hid (push_not kind x (Fm.mk k2 n2 (.mk vl2 fl2 al2) (.mk vr2 fr2 ar2) ts2))
  have HRV := Lib.hid (push_not kind x (Fm.mk k n (.mk vl fl al) (.mk vr fr ar) [(Fm.mk k1 n1 (.mk vl1 fl1 al1) (.mk vr1 fr1 ar1) ts1), (Fm.mk k2 n2 (.mk vl2 fl2 al2) (.mk vr2 fr2 ar2) ts2)]))
  have HRS := Lib.hid (show (Fm.mk k n (.mk vl fl al) (.mk vr fr ar) [(Fm.mk k1 n1 (.mk vl1 fl1 al1) (.mk vr1 fr1 ar1) ts1), (Fm.mk k2 n2 (.mk vl2 fl2 al2) (.mk vr2 fr2 ar2) ts2)]).has x = true → Fm.push kind x (Fm.mk k n (.mk vl fl al) (.mk vr fr ar) [(Fm.mk k1 n1 (.mk vl1 fl1 al1) (.mk vr1 fr1 ar1) ts1), (Fm.mk k2 n2 (.mk vl2 fl2 al2) (.mk vr2 fr2 ar2) ts2)]) = .mk k ⟨#[]⟩ (.mk 0 ⟨#[]⟩ []) (.mk 0 ⟨#[]⟩ []) [Fm.push kind x (Fm.mk k1 n1 (.mk vl1 fl1 al1) (.mk vr1 fr1 ar1) ts1), Fm.push kind x (Fm.mk k2 n2 (.mk vl2 fl2 al2) (.mk vr2 fr2 ar2) ts2)] from fun hh => by rw [Fm.push, if_pos hh, if_pos (by unfold splitB; rcases h with ⟨rfl, rfl⟩ | ⟨rfl, rfl⟩ <;> rfl), Fm.pushL, Fm.pushL, Fm.pushL])
  have HKK := Lib.hid h
  clear h
  clear hl hr hs hs0 hw hN hwk hl1 hr1 hs1 hl2 hr2 hs2 hsh1 hsh2 ih hkd
  generalize Fm.push kind x (Fm.mk k n (.mk vl fl al) (.mk vr fr ar) [(Fm.mk k1 n1 (.mk vl1 fl1 al1) (.mk vr1 fr1 ar1) ts1), (Fm.mk k2 n2 (.mk vl2 fl2 al2) (.mk vr2 fr2 ar2) ts2)]) = res at *
  generalize hp1 : Fm.push kind x (Fm.mk k1 n1 (.mk vl1 fl1 al1) (.mk vr1 fr1 ar1) ts1) = t1 at *
  generalize hp2 : Fm.push kind x (Fm.mk k2 n2 (.mk vl2 fl2 al2) (.mk vr2 fr2 ar2) ts2) = t2 at *
  clear hp1 hp2
  generalize (Fm.mk k1 n1 (.mk vl1 fl1 al1) (.mk vr1 fr1 ar1) ts1).has x = h1 at *
  generalize (Fm.mk k2 n2 (.mk vl2 fl2 al2) (.mk vr2 fr2 ar2) ts2).has x = h2 at *
  cases hh : (Fm.mk k n (.mk vl fl al) (.mk vr fr ar) [(Fm.mk k1 n1 (.mk vl1 fl1 al1) (.mk vr1 fr1 ar1) ts1), (Fm.mk k2 n2 (.mk vl2 fl2 al2) (.mk vr2 fr2 ar2) ts2)]).has x
  all_goals rw [hh] at HST
  · have HR := Lib.hid (HRV.out hh)
    clear HRS HRV hh
    go_enter Tryz.func51, Tryz.ntmps51
    go_upto_region 1 with (fail)
    try rw [hW]
    clear hW
    have tk := BKF.out.nine; have z0 := tk.c0; have z1 := tk.c1; have z2 := tk.c2; have z3 := tk.c3; have z4 := tk.c4; have z5 := tk.c5; have z6 := tk.c6; have z7 := tk.c7; have z8 := tk.c8; clear tk
    go_wp2_with fail
    refine (HST.out _ (Below.refl _ _)).mono ?_
    rintro e w2 ⟨rfl, hb2⟩
    have HB2 := Lib.hid (bel_go HB0.out hb2)
    have HBW := Lib.hid hb2
    have BQF := Lib.hid (Blk.go BKF.out hb2)
    have BQR := Lib.hid (Blk.go BKR.out hb2)
    clear z0 z1 z2 z3 z4 z5 z6 z7 z8 hb2 BKF BKR HST
    have hB := HB2.out
    have tk := BQF.out.nine; have z0 := tk.c0; have z1 := tk.c1; have z2 := tk.c2; have z3 := tk.c3; have z4 := tk.c4; have z5 := tk.c5; have z6 := tk.c6; have z7 := tk.c7; have z8 := tk.c8; clear tk
    have tk := BQR.out.nine; have yr0 := tk.c0; have yr1 := tk.c1; have yr2 := tk.c2; have yr3 := tk.c3; have yr4 := tk.c4; have yr5 := tk.c5; have yr6 := tk.c6; have yr7 := tk.c7; have yr8 := tk.c8; clear tk
    have tk := BQR.out.free9; have yf0 := tk.c0; have yf1 := tk.c1; have yf2 := tk.c2; have yf3 := tk.c3; have yf4 := tk.c4; have yf5 := tk.c5; have yf6 := tk.c6; have yf7 := tk.c7; have yf8 := tk.c8; clear tk
    go_wp2_with fail
    refine bodyPost_ret (v := .agg #[.int .i64 k, .string n, .int .i64 vl, .string fl, .slice Al al.length cl, .int .i64 vr, .string fr, .slice Ar ar.length cr, .slice (some ⟨b, o, none⟩) 2 c]) ?_ rfl ⟨?_, bel9 hB (Nat.le_succ _) _ _ _ _ _ _ _ _ _⟩
    · simp [results, Tryz.results51, go_sem, yr0, yr1, yr2, yr3, yr4, yr5, yr6, yr7, yr8]
    · rw [HR.out]; exact FRes.of (r3 HG.out (Stay.up (bel9 hB (Nat.le_succ _) _ _ _ _ _ _ _ _ _)))
  · have HR := Lib.hid (HRS.out hh)
    clear HRS HRV hh
    rcases HKK.out with ⟨rfl, rfl⟩ | ⟨rfl, rfl⟩
    all_goals
      go_enter Tryz.func51, Tryz.ntmps51
      go_upto_region 1 with (fail)
      try rw [hW]
      clear hW
      have tk := BKF.out.nine; have z0 := tk.c0; have z1 := tk.c1; have z2 := tk.c2; have z3 := tk.c3; have z4 := tk.c4; have z5 := tk.c5; have z6 := tk.c6; have z7 := tk.c7; have z8 := tk.c8; clear tk
      go_wp2_with fail
      refine (HST.out _ (Below.refl _ _)).mono ?_
      rintro e w2 ⟨rfl, hb2⟩
      have HB2 := Lib.hid (bel_go HB0.out hb2)
      have HBW := Lib.hid hb2
      have BQF := Lib.hid (Blk.go BKF.out hb2)
      have BQR := Lib.hid (Blk.go BKR.out hb2)
      clear z0 z1 z2 z3 z4 z5 z6 z7 z8 hb2 BKF BKR HST
      have tk := BQF.out.nine; have z0 := tk.c0; have z1 := tk.c1; have z2 := tk.c2; have z3 := tk.c3; have z4 := tk.c4; have z5 := tk.c5; have z6 := tk.c6; have z7 := tk.c7; have z8 := tk.c8; clear tk
      have tk := HP.out.keep HB2.out; have e0 := tk.c0; have e1 := tk.c1; have e2 := tk.c2; have e3 := tk.c3; have e4 := tk.c4; have e5 := tk.c5; have e6 := tk.c6; have e7 := tk.c7; have e8 := tk.c8; clear tk
      have tk := HQ.out.keep HB2.out; have d0 := tk.c0; have d1 := tk.c1; have d2 := tk.c2; have d3 := tk.c3; have d4 := tk.c4; have d5 := tk.c5; have d6 := tk.c6; have d7 := tk.c7; have d8 := tk.c8; clear tk
      go_upto_region 7 with (fail)
      have hbn1 : w.heap.size + 1 ≠ b := by omega
      have hbn2 := hbn1.symm
      have HQ0 := Lib.hid (bel_drew1 w2)
      have hno : ¬ Lo S w w2 (w.heap.size + 1) := lo_not (by omega) BQR.out.lt
      have hsz := HB2.out.size
      (first | (go_region_held3 (fun w' => w'.cell? ⟨w.heap.size, 8, none⟩ = some (.slice (some ⟨b, o, none⟩) 2 c) ∧ w'.cell? ⟨b, o, none⟩ = some (.int .i64 k1) ∧ w'.cell? ⟨b, o + 1, none⟩ = some (.string n1) ∧ w'.cell? ⟨b, o + 2, none⟩ = some (.int .i64 vl1) ∧ w'.cell? ⟨b, o + 3, none⟩ = some (.string fl1) ∧ w'.cell? ⟨b, o + 4, none⟩ = some (.slice Al1 al1.length cl1) ∧ w'.cell? ⟨b, o + 5, none⟩ = some (.int .i64 vr1) ∧ w'.cell? ⟨b, o + 6, none⟩ = some (.string fr1) ∧ w'.cell? ⟨b, o + 7, none⟩ = some (.slice Ar1 ar1.length cr1) ∧ w'.cell? ⟨b, o + 8, none⟩ = some (.slice A1 ts1.length c1) ∧ w'.cell? ⟨b, o + 9, none⟩ = some (.int .i64 k2) ∧ w'.cell? ⟨b, o + 10, none⟩ = some (.string n2) ∧ w'.cell? ⟨b, o + 11, none⟩ = some (.int .i64 vl2) ∧ w'.cell? ⟨b, o + 12, none⟩ = some (.string fl2) ∧ w'.cell? ⟨b, o + 13, none⟩ = some (.slice Al2 al2.length cl2) ∧ w'.cell? ⟨b, o + 14, none⟩ = some (.int .i64 vr2) ∧ w'.cell? ⟨b, o + 15, none⟩ = some (.string fr2) ∧ w'.cell? ⟨b, o + 16, none⟩ = some (.slice Ar2 ar2.length cr2) ∧ w'.cell? ⟨b, o + 17, none⟩ = some (.slice A2 ts2.length c2)) (go_keep) (first | (go_at_call_of 51 (Value.agg #[.int .i64 k2, .string n2, .int .i64 vl2, .string fl2, .slice Al2 al2.length cl2, .int .i64 vr2, .string fr2, .slice Ar2 ar2.length cr2, .slice A2 ts2.length c2]); refine (HO2.out _ (bel_go HB2.out (by first | exact HQ1.out | exact HQ0.out))).mono ?_; rintro e w9 ⟨⟨gk8, gn8, gvl8, gfl8, gal8, gvr8, gfr8, gar8, gts8, gAl8, gcl8, gAr8, gcr8, gA8, gc8, hg8, rfl, gr8⟩, hb9⟩; have G8 := Lib.hid (r3 gr8 (Stay.lo_lo ((by first | exact HQ1.out | exact HQ0.out) : Below w2.heap.size w2 _).size)); have GG8 := Lib.hid hg8; clear gr8 hg8; have G7 := Lib.hid (r3 G7.out (Stay.below hb9)); have HQ1 := Lib.hid (bel_go (by first | exact HQ1.out | exact HQ0.out) hb9); clear hb9; have z8 := (BQF.out.below HQ1.out BQF.out.lt).nine.c8; have tk := HP.out.keep (bel_go HB2.out HQ1.out); have e0 := tk.c0; have e1 := tk.c1; have e2 := tk.c2; have e3 := tk.c3; have e4 := tk.c4; have e5 := tk.c5; have e6 := tk.c6; have e7 := tk.c7; have e8 := tk.c8; clear tk; have tk := HQ.out.keep (bel_go HB2.out HQ1.out); have d0 := tk.c0; have d1 := tk.c1; have d2 := tk.c2; have d3 := tk.c3; have d4 := tk.c4; have d5 := tk.c5; have d6 := tk.c6; have d7 := tk.c7; have d8 := tk.c8; clear tk; have BR := Lib.hid (BQR.out.below HQ1.out BQR.out.lt); have tk := BR.out.nine; have yr0 := tk.c0; have yr1 := tk.c1; have yr2 := tk.c2; have yr3 := tk.c3; have yr4 := tk.c4; have yr5 := tk.c5; have yr6 := tk.c6; have yr7 := tk.c7; have yr8 := tk.c8; clear tk; have tk := BR.out.free9; have yf0 := tk.c0; have yf1 := tk.c1; have yf2 := tk.c2; have yf3 := tk.c3; have yf4 := tk.c4; have yf5 := tk.c5; have yf6 := tk.c6; have yf7 := tk.c7; have yf8 := tk.c8; clear tk; have hlr := BR.out.lt; have hn5 := Nat.ne_of_lt BR.out.lt; have hn6 := hn5.symm; have hB := bel_go HB2.out HQ1.out) | (go_at_call_of 51 (Value.agg #[.int .i64 k1, .string n1, .int .i64 vl1, .string fl1, .slice Al1 al1.length cl1, .int .i64 vr1, .string fr1, .slice Ar1 ar1.length cr1, .slice A1 ts1.length c1]); refine (HO1.out _ (bel_go HB2.out (by first | exact HQ1.out | exact HQ0.out))).mono ?_; rintro e w9 ⟨⟨gk7, gn7, gvl7, gfl7, gal7, gvr7, gfr7, gar7, gts7, gAl7, gcl7, gAr7, gcr7, gA7, gc7, hg7, rfl, gr7⟩, hb9⟩; have G7 := Lib.hid (r3 gr7 (Stay.lo_lo ((by first | exact HQ1.out | exact HQ0.out) : Below w2.heap.size w2 _).size)); have GG7 := Lib.hid hg7; clear gr7 hg7; have HQ1 := Lib.hid (bel_go (by first | exact HQ1.out | exact HQ0.out) hb9); clear hb9; have z8 := (BQF.out.below HQ1.out BQF.out.lt).nine.c8; have tk := HP.out.keep (bel_go HB2.out HQ1.out); have e0 := tk.c0; have e1 := tk.c1; have e2 := tk.c2; have e3 := tk.c3; have e4 := tk.c4; have e5 := tk.c5; have e6 := tk.c6; have e7 := tk.c7; have e8 := tk.c8; clear tk; have tk := HQ.out.keep (bel_go HB2.out HQ1.out); have d0 := tk.c0; have d1 := tk.c1; have d2 := tk.c2; have d3 := tk.c3; have d4 := tk.c4; have d5 := tk.c5; have d6 := tk.c6; have d7 := tk.c7; have d8 := tk.c8; clear tk; have BR := Lib.hid (BQR.out.below HQ1.out BQR.out.lt); have tk := BR.out.nine; have yr0 := tk.c0; have yr1 := tk.c1; have yr2 := tk.c2; have yr3 := tk.c3; have yr4 := tk.c4; have yr5 := tk.c5; have yr6 := tk.c6; have yr7 := tk.c7; have yr8 := tk.c8; clear tk; have tk := BR.out.free9; have yf0 := tk.c0; have yf1 := tk.c1; have yf2 := tk.c2; have yf3 := tk.c3; have yf4 := tk.c4; have yf5 := tk.c5; have yf6 := tk.c6; have yf7 := tk.c7; have yf8 := tk.c8; clear tk; have hlr := BR.out.lt; have hn5 := Nat.ne_of_lt BR.out.lt; have hn6 := hn5.symm; have hB := bel_go HB2.out HQ1.out))) | fail "held")
      all_goals
        go_wp2_with fail
        clear z8 e0 e1 e2 e3 e4 e5 e6 e7 e8 d0 d1 d2 d3 d4 d5 d6 d7 d8
        first
        | (refine bodyPost_ret (v := .agg #[.int .i64 3, .string ⟨#[]⟩, .int .i64 0, .string ⟨#[]⟩, .slice none 0 0, .int .i64 0, .string ⟨#[]⟩, .slice none 0 0, .slice (some ⟨w9.heap.size, 0, none⟩) 2 2]) ?_ rfl ⟨?_, (bel9 hB (show w.heap.size ≤ w.heap.size + 1 by omega) _ _ _ _ _ _ _ _ _).alloc (bel9 hB (show w.heap.size ≤ w.heap.size + 1 by omega) _ _ _ _ _ _ _ _ _).size _⟩
           · simp [results, Tryz.results51, go_sem, yr0, yr1, yr2, yr3, yr4, yr5, yr6, yr7, yr8, hlr, hn5, hn6]
           · rw [HR.out, GG7.out, GG8.out]; exact FRes.two _ (Blk.new' _ w9.heap.size 27 [.int .i64 gk7, .string gn7, .int .i64 gvl7, .string gfl7, .slice gAl7 gal7.length gcl7, .int .i64 gvr7, .string gfr7, .slice gAr7 gar7.length gcr7, .slice gA7 gts7.length gc7, .int .i64 gk8, .string gn8, .int .i64 gvl8, .string gfl8, .slice gAl8 gal8.length gcl8, .int .i64 gvr8, .string gfr8, .slice gAr8 gar8.length gcr8, .slice gA8 gts8.length gc8] (by simp)) (Or.inr hB.size) (r3 G7.out (((Stay.set9 hno _ _ _ _ _ _ _ _ _).trans (Stay.al _)).trans (Stay.lo_up hsz))) (r3 G8.out (((Stay.set9 hno _ _ _ _ _ _ _ _ _).trans (Stay.al _)).trans (Stay.lo_up hsz))))
        | (refine bodyPost_ret (v := .agg #[.int .i64 4, .string ⟨#[]⟩, .int .i64 0, .string ⟨#[]⟩, .slice none 0 0, .int .i64 0, .string ⟨#[]⟩, .slice none 0 0, .slice (some ⟨w9.heap.size, 0, none⟩) 2 2]) ?_ rfl ⟨?_, (bel9 hB (show w.heap.size ≤ w.heap.size + 1 by omega) _ _ _ _ _ _ _ _ _).alloc (bel9 hB (show w.heap.size ≤ w.heap.size + 1 by omega) _ _ _ _ _ _ _ _ _).size _⟩
           · simp [results, Tryz.results51, go_sem, yr0, yr1, yr2, yr3, yr4, yr5, yr6, yr7, yr8, hlr, hn5, hn6]
           · rw [HR.out, GG7.out, GG8.out]; exact FRes.two _ (Blk.new' _ w9.heap.size 27 [.int .i64 gk7, .string gn7, .int .i64 gvl7, .string gfl7, .slice gAl7 gal7.length gcl7, .int .i64 gvr7, .string gfr7, .slice gAr7 gar7.length gcr7, .slice gA7 gts7.length gc7, .int .i64 gk8, .string gn8, .int .i64 gvl8, .string gfl8, .slice gAl8 gal8.length gcl8, .int .i64 gvr8, .string gfr8, .slice gAr8 gar8.length gcr8, .slice gA8 gts8.length gc8] (by simp)) (Or.inr hB.size) (r3 G7.out (((Stay.set9 hno _ _ _ _ _ _ _ _ _).trans (Stay.al _)).trans (Stay.lo_up hsz))) (r3 G8.out (((Stay.set9 hno _ _ _ _ _ _ _ _ _).trans (Stay.al _)).trans (Stay.lo_up hsz))))
set_option maxRecDepth 100000 in
set_option maxHeartbeats 25600000 in
theorem rpushH (N : Nat) (ih : RPushAt 51 N) (kind : Int) (x : ByteArray) (k : Int) (n : ByteArray) (vl : Int) (fl : ByteArray) (al : List Tm) (vr : Int) (fr : ByteArray) (ar : List Tm) (ts : List Fm) (Al : Option Addr) (cl : Nat) (Ar : Option Addr) (cr : Nat) (A : Option Addr) (c : Nat) (a1 a2 : Fm) (S : Nat → Prop) (w : World) (hkd : kind = 7 ∨ kind = 8) (h : (kind = 7 ∧ k = 4) ∨ (kind = 8 ∧ k = 3)) (hts : ts = [a1, a2]) (hw : (Fm.mk k n (.mk vl fl al) (.mk vr fr ar) ts).wt ≤ N + 1) (hN : N + 1 ≤ 4398046510000) (hsh1 : a1.shape = true) (hsh2 : a2.shape = true) (hl : ST S w Al al.length cl al) (hr : ST S w Ar ar.length cr ar) (hs : SF S w A ts.length c ts) : Calls Tryz.prog 51 #[.int .i64 kind, .string x, .agg #[.int .i64 k, .string n, .int .i64 vl, .string fl, .slice Al al.length cl, .int .i64 vr, .string fr, .slice Ar ar.length cr, .slice A ts.length c]] w fun e w' => FRes (Up S w) w' (Fm.push kind x (Fm.mk k n (.mk vl fl al) (.mk vr fr ar) ts)) e ∧ Below w.heap.size w w' := by
  subst hts
  have hs0 := hs
  have hs := hs.stay Stay.low'
  obtain ⟨b, o, hA1, k1, n1, vl1, fl1, al1, vr1, fr1, ar1, ts1, Al1, cl1, Ar1, cr1, A1, c1, hm1, hl1, hr1, hs1, p0, p1, p2, p3, p4, p5, p6, p7, p8⟩ := hs.at 0 (by simp)
  change a1 = _ at hm1
  subst hm1
  subst hA1
  simp only [Nat.zero_mul, Nat.one_mul, Nat.add_zero] at p0 p1 p2 p3 p4 p5 p6 p7 p8
  obtain ⟨b', o', hA2, k2, n2, vl2, fl2, al2, vr2, fr2, ar2, ts2, Al2, cl2, Ar2, cr2, A2, c2, hm2, hl2, hr2, hs2, q0, q1, q2, q3, q4, q5, q6, q7, q8⟩ := hs.at 1 (by simp)
  change a2 = _ at hm2
  subst hm2
  injection hA2 with hA2
  injection hA2 with hb2 ho2
  subst hb2 ho2
  simp only [Nat.zero_mul, Nat.one_mul, Nat.add_zero] at q0 q1 q2 q3 q4 q5 q6 q7 q8
  have hwk : (Fm.mk k1 n1 (.mk vl1 fl1 al1) (.mk vr1 fr1 ar1) ts1).wt + (Fm.mk k2 n2 (.mk vl2 fl2 al2) (.mk vr2 fr2 ar2) ts2).wt + 3 ≤ N + 1 := by have hh := hw; rw [Fm.wt, Fm.wts, Fm.wts, Fm.wts] at hh; have := (Tm.mk vl fl al).wt_pos; have := (Tm.mk vr fr ar).wt_pos; omega
  have HP := Lib.hid (show C9 w b o (.int .i64 k1) (.string n1) (.int .i64 vl1) (.string fl1) (.slice Al1 al1.length cl1) (.int .i64 vr1) (.string fr1) (.slice Ar1 ar1.length cr1) (.slice A1 ts1.length c1) from ⟨p0, p1, p2, p3, p4, p5, p6, p7, p8⟩)
  have HQ := Lib.hid (show C9 w b (o + 9) (.int .i64 k2) (.string n2) (.int .i64 vl2) (.string fl2) (.slice Al2 al2.length cl2) (.int .i64 vr2) (.string fr2) (.slice Ar2 ar2.length cr2) (.slice A2 ts2.length c2) from ⟨q0, q1, q2, q3, q4, q5, q6, q7, q8⟩)
  have hbw : b < w.heap.size := World.block_lt_of_cell? w _ p0
  clear p0 q0 p1 q1 p2 q2 p3 q3 p4 q4 p5 q5 p6 q6 p7 q7 p8 q8
  generalize hW : ((w.alloc (.cells #[.int .i64 k, .string n, .int .i64 vl, .string fl, .slice Al al.length cl, .int .i64 vr, .string fr, .slice Ar ar.length cr, .slice (some ⟨b, o, none⟩) 2 c] 27)).alloc (.cells #[.int .i64 0, .string ⟨#[]⟩, .int .i64 0, .string ⟨#[]⟩, .slice none 0 0, .int .i64 0, .string ⟨#[]⟩, .slice none 0 0, .slice none 0 0] 27)) = W
  have HB0 : Hid (Below w.heap.size w W) := Lib.hid (by rw [← hW]; exact bel_two)
  have BKF : Hid (Blk W w.heap.size 27 [.int .i64 k, .string n, .int .i64 vl, .string fl, .slice Al al.length cl, .int .i64 vr, .string fr, .slice Ar ar.length cr, .slice (some ⟨b, o, none⟩) 2 c]) := Lib.hid (by rw [← hW]; exact (Blk.new w 27 [.int .i64 k, .string n, .int .i64 vl, .string fl, .slice Al al.length cl, .int .i64 vr, .string fr, .slice Ar ar.length cr, .slice (some ⟨b, o, none⟩) 2 c]).alloc _)
  have BKR : Hid (Blk W (w.heap.size + 1) 27 [.int .i64 0, .string ⟨#[]⟩, .int .i64 0, .string ⟨#[]⟩, .slice none 0 0, .int .i64 0, .string ⟨#[]⟩, .slice none 0 0, .slice none 0 0]) := Lib.hid (by rw [← hW]; exact Blk.new' _ (w.heap.size + 1) 27 [.int .i64 0, .string ⟨#[]⟩, .int .i64 0, .string ⟨#[]⟩, .slice none 0 0, .int .i64 0, .string ⟨#[]⟩, .slice none 0 0, .slice none 0 0] (by simp))
  have HST := Lib.hid (fun w' (hb : Below W.heap.size W w') => rhas_any x k n vl fl al vr fr ar [(Fm.mk k1 n1 (.mk vl1 fl1 al1) (.mk vr1 fr1 ar1) ts1), (Fm.mk k2 n2 (.mk vl2 fl2 al2) (.mk vr2 fr2 ar2) ts2)] Al cl Ar cr (some ⟨b, o, none⟩) c S w' (by omega) (hl.stay (Stay.below (bel_go HB0.out hb))) (hr.stay (Stay.below (bel_go HB0.out hb))) (hs0.stay (Stay.below (bel_go HB0.out hb))))
  have HG := Lib.hid (And.intro hl (And.intro hr hs0))
  have HS1 := Lib.hid (fun w' (hb : Below w.heap.size w w') => rhas_any x k1 n1 vl1 fl1 al1 vr1 fr1 ar1 ts1 Al1 cl1 Ar1 cr1 A1 c1 _ w' (by omega) (hl1.stay (Stay.below hb)) (hr1.stay (Stay.below hb)) (hs1.stay (Stay.below hb)))
  have HO1 := Lib.hid (fun w' (hb : Below w.heap.size w w') => (show Calls Tryz.prog 51 #[.int .i64 kind, .string x, .agg #[.int .i64 k1, .string n1, .int .i64 vl1, .string fl1, .slice Al1 al1.length cl1, .int .i64 vr1, .string fr1, .slice Ar1 ar1.length cr1, .slice A1 ts1.length c1]] w' fun e w2 => FRes (Lo S w w') w2 (Fm.push kind x (Fm.mk k1 n1 (.mk vl1 fl1 al1) (.mk vr1 fr1 ar1) ts1)) e ∧ Below w'.heap.size w' w2 from ih kind x k1 n1 vl1 fl1 al1 vr1 fr1 ar1 ts1 Al1 cl1 Ar1 cr1 A1 c1 _ w' hkd (by omega) (by omega) hsh1 (hl1.stay (Stay.below hb)) (hr1.stay (Stay.below hb)) (hs1.stay (Stay.below hb))))
  have R1 := Lib.hid (show ST (fun b => S b ∧ b < w.heap.size) w Al1 al1.length cl1 al1 ∧ ST (fun b => S b ∧ b < w.heap.size) w Ar1 ar1.length cr1 ar1 ∧ SF (fun b => S b ∧ b < w.heap.size) w A1 ts1.length c1 ts1 from ⟨hl1, hr1, hs1⟩)
  have HN1 := Lib.hid (push_not kind x (Fm.mk k1 n1 (.mk vl1 fl1 al1) (.mk vr1 fr1 ar1) ts1))
  have HS2 := Lib.hid (fun w' (hb : Below w.heap.size w w') => rhas_any x k2 n2 vl2 fl2 al2 vr2 fr2 ar2 ts2 Al2 cl2 Ar2 cr2 A2 c2 _ w' (by omega) (hl2.stay (Stay.below hb)) (hr2.stay (Stay.below hb)) (hs2.stay (Stay.below hb)))
  have HO2 := Lib.hid (fun w' (hb : Below w.heap.size w w') => (show Calls Tryz.prog 51 #[.int .i64 kind, .string x, .agg #[.int .i64 k2, .string n2, .int .i64 vl2, .string fl2, .slice Al2 al2.length cl2, .int .i64 vr2, .string fr2, .slice Ar2 ar2.length cr2, .slice A2 ts2.length c2]] w' fun e w2 => FRes (Lo S w w') w2 (Fm.push kind x (Fm.mk k2 n2 (.mk vl2 fl2 al2) (.mk vr2 fr2 ar2) ts2)) e ∧ Below w'.heap.size w' w2 from ih kind x k2 n2 vl2 fl2 al2 vr2 fr2 ar2 ts2 Al2 cl2 Ar2 cr2 A2 c2 _ w' hkd (by omega) (by omega) hsh2 (hl2.stay (Stay.below hb)) (hr2.stay (Stay.below hb)) (hs2.stay (Stay.below hb))))
  have R2 := Lib.hid (show ST (fun b => S b ∧ b < w.heap.size) w Al2 al2.length cl2 al2 ∧ ST (fun b => S b ∧ b < w.heap.size) w Ar2 ar2.length cr2 ar2 ∧ SF (fun b => S b ∧ b < w.heap.size) w A2 ts2.length c2 ts2 from ⟨hl2, hr2, hs2⟩)
  have HN2 := Lib.hid (push_not kind x (Fm.mk k2 n2 (.mk vl2 fl2 al2) (.mk vr2 fr2 ar2) ts2))
  have HRV := Lib.hid (push_not kind x (Fm.mk k n (.mk vl fl al) (.mk vr fr ar) [(Fm.mk k1 n1 (.mk vl1 fl1 al1) (.mk vr1 fr1 ar1) ts1), (Fm.mk k2 n2 (.mk vl2 fl2 al2) (.mk vr2 fr2 ar2) ts2)]))
  have HRS := Lib.hid (show (Fm.mk k n (.mk vl fl al) (.mk vr fr ar) [(Fm.mk k1 n1 (.mk vl1 fl1 al1) (.mk vr1 fr1 ar1) ts1), (Fm.mk k2 n2 (.mk vl2 fl2 al2) (.mk vr2 fr2 ar2) ts2)]).has x = true → Fm.push kind x (Fm.mk k n (.mk vl fl al) (.mk vr fr ar) [(Fm.mk k1 n1 (.mk vl1 fl1 al1) (.mk vr1 fr1 ar1) ts1), (Fm.mk k2 n2 (.mk vl2 fl2 al2) (.mk vr2 fr2 ar2) ts2)]) = if (!((Fm.mk k1 n1 (.mk vl1 fl1 al1) (.mk vr1 fr1 ar1) ts1).has x) || !((Fm.mk k2 n2 (.mk vl2 fl2 al2) (.mk vr2 fr2 ar2) ts2).has x)) = true then .mk k ⟨#[]⟩ (.mk 0 ⟨#[]⟩ []) (.mk 0 ⟨#[]⟩ []) [Fm.push kind x (Fm.mk k1 n1 (.mk vl1 fl1 al1) (.mk vr1 fr1 ar1) ts1), Fm.push kind x (Fm.mk k2 n2 (.mk vl2 fl2 al2) (.mk vr2 fr2 ar2) ts2)] else Fm.one kind x (Fm.mk k n (.mk vl fl al) (.mk vr fr ar) [(Fm.mk k1 n1 (.mk vl1 fl1 al1) (.mk vr1 fr1 ar1) ts1), (Fm.mk k2 n2 (.mk vl2 fl2 al2) (.mk vr2 fr2 ar2) ts2)]) from fun hh => by rw [Fm.push, if_pos hh, Fm.pushL, Fm.pushL, Fm.pushL, show splitB kind k [(Fm.mk k1 n1 (.mk vl1 fl1 al1) (.mk vr1 fr1 ar1) ts1), (Fm.mk k2 n2 (.mk vl2 fl2 al2) (.mk vr2 fr2 ar2) ts2)] x = (!((Fm.mk k1 n1 (.mk vl1 fl1 al1) (.mk vr1 fr1 ar1) ts1).has x) || !((Fm.mk k2 n2 (.mk vl2 fl2 al2) (.mk vr2 fr2 ar2) ts2).has x)) from by unfold splitB; rcases h with ⟨rfl, rfl⟩ | ⟨rfl, rfl⟩ <;> rfl])
  have HKK := Lib.hid h
  clear h
  clear hl hr hs hs0 hw hN hwk hl1 hr1 hs1 hl2 hr2 hs2 hsh1 hsh2 ih hkd
  generalize Fm.push kind x (Fm.mk k n (.mk vl fl al) (.mk vr fr ar) [(Fm.mk k1 n1 (.mk vl1 fl1 al1) (.mk vr1 fr1 ar1) ts1), (Fm.mk k2 n2 (.mk vl2 fl2 al2) (.mk vr2 fr2 ar2) ts2)]) = res at *
  generalize hp1 : Fm.push kind x (Fm.mk k1 n1 (.mk vl1 fl1 al1) (.mk vr1 fr1 ar1) ts1) = t1 at *
  generalize hp2 : Fm.push kind x (Fm.mk k2 n2 (.mk vl2 fl2 al2) (.mk vr2 fr2 ar2) ts2) = t2 at *
  clear hp1 hp2
  generalize (Fm.mk k1 n1 (.mk vl1 fl1 al1) (.mk vr1 fr1 ar1) ts1).has x = h1 at *
  generalize (Fm.mk k2 n2 (.mk vl2 fl2 al2) (.mk vr2 fr2 ar2) ts2).has x = h2 at *
  cases hh : (Fm.mk k n (.mk vl fl al) (.mk vr fr ar) [(Fm.mk k1 n1 (.mk vl1 fl1 al1) (.mk vr1 fr1 ar1) ts1), (Fm.mk k2 n2 (.mk vl2 fl2 al2) (.mk vr2 fr2 ar2) ts2)]).has x
  all_goals rw [hh] at HST
  · have HR := Lib.hid (HRV.out hh)
    clear HRS HRV hh
    go_enter Tryz.func51, Tryz.ntmps51
    go_upto_region 1 with (fail)
    try rw [hW]
    clear hW
    have tk := BKF.out.nine; have z0 := tk.c0; have z1 := tk.c1; have z2 := tk.c2; have z3 := tk.c3; have z4 := tk.c4; have z5 := tk.c5; have z6 := tk.c6; have z7 := tk.c7; have z8 := tk.c8; clear tk
    go_wp2_with fail
    refine (HST.out _ (Below.refl _ _)).mono ?_
    rintro e w2 ⟨rfl, hb2⟩
    have HB2 := Lib.hid (bel_go HB0.out hb2)
    have HBW := Lib.hid hb2
    have BQF := Lib.hid (Blk.go BKF.out hb2)
    have BQR := Lib.hid (Blk.go BKR.out hb2)
    clear z0 z1 z2 z3 z4 z5 z6 z7 z8 hb2 BKF BKR HST
    have hB := HB2.out
    have tk := BQF.out.nine; have z0 := tk.c0; have z1 := tk.c1; have z2 := tk.c2; have z3 := tk.c3; have z4 := tk.c4; have z5 := tk.c5; have z6 := tk.c6; have z7 := tk.c7; have z8 := tk.c8; clear tk
    have tk := BQR.out.nine; have yr0 := tk.c0; have yr1 := tk.c1; have yr2 := tk.c2; have yr3 := tk.c3; have yr4 := tk.c4; have yr5 := tk.c5; have yr6 := tk.c6; have yr7 := tk.c7; have yr8 := tk.c8; clear tk
    have tk := BQR.out.free9; have yf0 := tk.c0; have yf1 := tk.c1; have yf2 := tk.c2; have yf3 := tk.c3; have yf4 := tk.c4; have yf5 := tk.c5; have yf6 := tk.c6; have yf7 := tk.c7; have yf8 := tk.c8; clear tk
    go_wp2_with fail
    refine bodyPost_ret (v := .agg #[.int .i64 k, .string n, .int .i64 vl, .string fl, .slice Al al.length cl, .int .i64 vr, .string fr, .slice Ar ar.length cr, .slice (some ⟨b, o, none⟩) 2 c]) ?_ rfl ⟨?_, bel9 hB (Nat.le_succ _) _ _ _ _ _ _ _ _ _⟩
    · simp [results, Tryz.results51, go_sem, yr0, yr1, yr2, yr3, yr4, yr5, yr6, yr7, yr8]
    · rw [HR.out]; exact FRes.of (r3 HG.out (Stay.up (bel9 hB (Nat.le_succ _) _ _ _ _ _ _ _ _ _)))
  · have HRT := Lib.hid (HRS.out hh)
    clear HRS HRV hh
    rcases HKK.out with ⟨rfl, rfl⟩ | ⟨rfl, rfl⟩
    all_goals
      go_enter Tryz.func51, Tryz.ntmps51
      go_upto_region 1 with (fail)
      try rw [hW]
      clear hW
      have tk := BKF.out.nine; have z0 := tk.c0; have z1 := tk.c1; have z2 := tk.c2; have z3 := tk.c3; have z4 := tk.c4; have z5 := tk.c5; have z6 := tk.c6; have z7 := tk.c7; have z8 := tk.c8; clear tk
      go_wp2_with fail
      refine (HST.out _ (Below.refl _ _)).mono ?_
      rintro e w2 ⟨rfl, hb2⟩
      have HB2 := Lib.hid (bel_go HB0.out hb2)
      have HBW := Lib.hid hb2
      have BQF := Lib.hid (Blk.go BKF.out hb2)
      have BQR := Lib.hid (Blk.go BKR.out hb2)
      clear z0 z1 z2 z3 z4 z5 z6 z7 z8 hb2 BKF BKR HST
      have tk := BQF.out.nine; have z0 := tk.c0; have z1 := tk.c1; have z2 := tk.c2; have z3 := tk.c3; have z4 := tk.c4; have z5 := tk.c5; have z6 := tk.c6; have z7 := tk.c7; have z8 := tk.c8; clear tk
      have tk := HP.out.keep HB2.out; have e0 := tk.c0; have e1 := tk.c1; have e2 := tk.c2; have e3 := tk.c3; have e4 := tk.c4; have e5 := tk.c5; have e6 := tk.c6; have e7 := tk.c7; have e8 := tk.c8; clear tk
      have tk := HQ.out.keep HB2.out; have d0 := tk.c0; have d1 := tk.c1; have d2 := tk.c2; have d3 := tk.c3; have d4 := tk.c4; have d5 := tk.c5; have d6 := tk.c6; have d7 := tk.c7; have d8 := tk.c8; clear tk
      go_upto_region 8 with (fail)
      go_wp2_with fail
      refine (HS1.out _ HB2.out).mono ?_
      rintro e w3 ⟨rfl, hb3⟩
      have BQF := Lib.hid (Blk.go BQF.out hb3)
      have BQR := Lib.hid (Blk.go BQR.out hb3)
      have HB2 := Lib.hid (bel_go HB2.out hb3)
      clear hb3 z0 z1 z2 z3 z4 z5 z6 z7 z8 e0 e1 e2 e3 e4 e5 e6 e7 e8 d0 d1 d2 d3 d4 d5 d6 d7 d8
      generalize w3 = w2 at *
      cases h1
      · have HR := Lib.hid (show res = .mk _ ⟨#[]⟩ (.mk 0 ⟨#[]⟩ []) (.mk 0 ⟨#[]⟩ []) [t1, t2] from HRT.out)
        have HN := Lib.hid (HN1.out rfl)
        have tk := BQF.out.nine; have z0 := tk.c0; have z1 := tk.c1; have z2 := tk.c2; have z3 := tk.c3; have z4 := tk.c4; have z5 := tk.c5; have z6 := tk.c6; have z7 := tk.c7; have z8 := tk.c8; clear tk
        have tk := HP.out.keep HB2.out; have e0 := tk.c0; have e1 := tk.c1; have e2 := tk.c2; have e3 := tk.c3; have e4 := tk.c4; have e5 := tk.c5; have e6 := tk.c6; have e7 := tk.c7; have e8 := tk.c8; clear tk
        have tk := HQ.out.keep HB2.out; have d0 := tk.c0; have d1 := tk.c1; have d2 := tk.c2; have d3 := tk.c3; have d4 := tk.c4; have d5 := tk.c5; have d6 := tk.c6; have d7 := tk.c7; have d8 := tk.c8; clear tk
        go_upto_region 9 with (fail)
        have hbn1 : w.heap.size + 1 ≠ b := by omega
        have hbn2 := hbn1.symm
        have HQ0 := Lib.hid (bel_drew1 w2)
        have hno : ¬ Lo S w w2 (w.heap.size + 1) := lo_not (by omega) BQR.out.lt
        have hsz := HB2.out.size
        (first | (go_region_held3 (fun w' => w'.cell? ⟨w.heap.size, 8, none⟩ = some (.slice (some ⟨b, o, none⟩) 2 c) ∧ w'.cell? ⟨b, o, none⟩ = some (.int .i64 k1) ∧ w'.cell? ⟨b, o + 1, none⟩ = some (.string n1) ∧ w'.cell? ⟨b, o + 2, none⟩ = some (.int .i64 vl1) ∧ w'.cell? ⟨b, o + 3, none⟩ = some (.string fl1) ∧ w'.cell? ⟨b, o + 4, none⟩ = some (.slice Al1 al1.length cl1) ∧ w'.cell? ⟨b, o + 5, none⟩ = some (.int .i64 vr1) ∧ w'.cell? ⟨b, o + 6, none⟩ = some (.string fr1) ∧ w'.cell? ⟨b, o + 7, none⟩ = some (.slice Ar1 ar1.length cr1) ∧ w'.cell? ⟨b, o + 8, none⟩ = some (.slice A1 ts1.length c1) ∧ w'.cell? ⟨b, o + 9, none⟩ = some (.int .i64 k2) ∧ w'.cell? ⟨b, o + 10, none⟩ = some (.string n2) ∧ w'.cell? ⟨b, o + 11, none⟩ = some (.int .i64 vl2) ∧ w'.cell? ⟨b, o + 12, none⟩ = some (.string fl2) ∧ w'.cell? ⟨b, o + 13, none⟩ = some (.slice Al2 al2.length cl2) ∧ w'.cell? ⟨b, o + 14, none⟩ = some (.int .i64 vr2) ∧ w'.cell? ⟨b, o + 15, none⟩ = some (.string fr2) ∧ w'.cell? ⟨b, o + 16, none⟩ = some (.slice Ar2 ar2.length cr2) ∧ w'.cell? ⟨b, o + 17, none⟩ = some (.slice A2 ts2.length c2)) (go_keep) (first | (go_at_call_of 51 (Value.agg #[.int .i64 k2, .string n2, .int .i64 vl2, .string fl2, .slice Al2 al2.length cl2, .int .i64 vr2, .string fr2, .slice Ar2 ar2.length cr2, .slice A2 ts2.length c2]); refine (HO2.out _ (bel_go HB2.out (by first | exact HQ1.out | exact HQ0.out))).mono ?_; rintro e w9 ⟨⟨gk8, gn8, gvl8, gfl8, gal8, gvr8, gfr8, gar8, gts8, gAl8, gcl8, gAr8, gcr8, gA8, gc8, hg8, rfl, gr8⟩, hb9⟩; have G8 := Lib.hid (r3 gr8 (Stay.lo_lo ((by first | exact HQ1.out | exact HQ0.out) : Below w2.heap.size w2 _).size)); have GG8 := Lib.hid hg8; clear gr8 hg8; have HQ1 := Lib.hid (bel_go (by first | exact HQ1.out | exact HQ0.out) hb9); clear hb9; have z8 := (BQF.out.below HQ1.out BQF.out.lt).nine.c8; have tk := HP.out.keep (bel_go HB2.out HQ1.out); have e0 := tk.c0; have e1 := tk.c1; have e2 := tk.c2; have e3 := tk.c3; have e4 := tk.c4; have e5 := tk.c5; have e6 := tk.c6; have e7 := tk.c7; have e8 := tk.c8; clear tk; have tk := HQ.out.keep (bel_go HB2.out HQ1.out); have d0 := tk.c0; have d1 := tk.c1; have d2 := tk.c2; have d3 := tk.c3; have d4 := tk.c4; have d5 := tk.c5; have d6 := tk.c6; have d7 := tk.c7; have d8 := tk.c8; clear tk; have BR := Lib.hid (BQR.out.below HQ1.out BQR.out.lt); have tk := BR.out.nine; have yr0 := tk.c0; have yr1 := tk.c1; have yr2 := tk.c2; have yr3 := tk.c3; have yr4 := tk.c4; have yr5 := tk.c5; have yr6 := tk.c6; have yr7 := tk.c7; have yr8 := tk.c8; clear tk; have tk := BR.out.free9; have yf0 := tk.c0; have yf1 := tk.c1; have yf2 := tk.c2; have yf3 := tk.c3; have yf4 := tk.c4; have yf5 := tk.c5; have yf6 := tk.c6; have yf7 := tk.c7; have yf8 := tk.c8; clear tk; have hlr := BR.out.lt; have hn5 := Nat.ne_of_lt BR.out.lt; have hn6 := hn5.symm; have hB := bel_go HB2.out HQ1.out))) | fail "held")
        all_goals
          go_wp2_with fail
          clear z8 e0 e1 e2 e3 e4 e5 e6 e7 e8 d0 d1 d2 d3 d4 d5 d6 d7 d8
          first
          | (refine bodyPost_ret (v := .agg #[.int .i64 3, .string ⟨#[]⟩, .int .i64 0, .string ⟨#[]⟩, .slice none 0 0, .int .i64 0, .string ⟨#[]⟩, .slice none 0 0, .slice (some ⟨w9.heap.size, 0, none⟩) 2 2]) ?_ rfl ⟨?_, (bel9 hB (show w.heap.size ≤ w.heap.size + 1 by omega) _ _ _ _ _ _ _ _ _).alloc (bel9 hB (show w.heap.size ≤ w.heap.size + 1 by omega) _ _ _ _ _ _ _ _ _).size _⟩
             · simp [results, Tryz.results51, go_sem, yr0, yr1, yr2, yr3, yr4, yr5, yr6, yr7, yr8, hlr, hn5, hn6]
             · rw [HR.out, HN.out, GG8.out]; exact FRes.two _ (Blk.new' _ w9.heap.size 27 [.int .i64 k1, .string n1, .int .i64 vl1, .string fl1, .slice Al1 al1.length cl1, .int .i64 vr1, .string fr1, .slice Ar1 ar1.length cr1, .slice A1 ts1.length c1, .int .i64 gk8, .string gn8, .int .i64 gvl8, .string gfl8, .slice gAl8 gal8.length gcl8, .int .i64 gvr8, .string gfr8, .slice gAr8 gar8.length gcr8, .slice gA8 gts8.length gc8] (by simp)) (Or.inr hB.size) (r3 (r3 R1.out ((Stay.below hB).trans Stay.lo0)) (((Stay.set9 hno _ _ _ _ _ _ _ _ _).trans (Stay.al _)).trans (Stay.lo_up hsz))) (r3 G8.out (((Stay.set9 hno _ _ _ _ _ _ _ _ _).trans (Stay.al _)).trans (Stay.lo_up hsz))))
          | (refine bodyPost_ret (v := .agg #[.int .i64 4, .string ⟨#[]⟩, .int .i64 0, .string ⟨#[]⟩, .slice none 0 0, .int .i64 0, .string ⟨#[]⟩, .slice none 0 0, .slice (some ⟨w9.heap.size, 0, none⟩) 2 2]) ?_ rfl ⟨?_, (bel9 hB (show w.heap.size ≤ w.heap.size + 1 by omega) _ _ _ _ _ _ _ _ _).alloc (bel9 hB (show w.heap.size ≤ w.heap.size + 1 by omega) _ _ _ _ _ _ _ _ _).size _⟩
             · simp [results, Tryz.results51, go_sem, yr0, yr1, yr2, yr3, yr4, yr5, yr6, yr7, yr8, hlr, hn5, hn6]
             · rw [HR.out, HN.out, GG8.out]; exact FRes.two _ (Blk.new' _ w9.heap.size 27 [.int .i64 k1, .string n1, .int .i64 vl1, .string fl1, .slice Al1 al1.length cl1, .int .i64 vr1, .string fr1, .slice Ar1 ar1.length cr1, .slice A1 ts1.length c1, .int .i64 gk8, .string gn8, .int .i64 gvl8, .string gfl8, .slice gAl8 gal8.length gcl8, .int .i64 gvr8, .string gfr8, .slice gAr8 gar8.length gcr8, .slice gA8 gts8.length gc8] (by simp)) (Or.inr hB.size) (r3 (r3 R1.out ((Stay.below hB).trans Stay.lo0)) (((Stay.set9 hno _ _ _ _ _ _ _ _ _).trans (Stay.al _)).trans (Stay.lo_up hsz))) (r3 G8.out (((Stay.set9 hno _ _ _ _ _ _ _ _ _).trans (Stay.al _)).trans (Stay.lo_up hsz))))
      · have tk := BQF.out.nine; have z0 := tk.c0; have z1 := tk.c1; have z2 := tk.c2; have z3 := tk.c3; have z4 := tk.c4; have z5 := tk.c5; have z6 := tk.c6; have z7 := tk.c7; have z8 := tk.c8; clear tk
        have tk := HP.out.keep HB2.out; have e0 := tk.c0; have e1 := tk.c1; have e2 := tk.c2; have e3 := tk.c3; have e4 := tk.c4; have e5 := tk.c5; have e6 := tk.c6; have e7 := tk.c7; have e8 := tk.c8; clear tk
        have tk := HQ.out.keep HB2.out; have d0 := tk.c0; have d1 := tk.c1; have d2 := tk.c2; have d3 := tk.c3; have d4 := tk.c4; have d5 := tk.c5; have d6 := tk.c6; have d7 := tk.c7; have d8 := tk.c8; clear tk
        go_upto_region 10 with (fail)
        go_wp2_with fail
        refine (HS2.out _ HB2.out).mono ?_
        rintro e w4 ⟨rfl, hb4⟩
        have BQF := Lib.hid (Blk.go BQF.out hb4)
        have BQR := Lib.hid (Blk.go BQR.out hb4)
        have HB2 := Lib.hid (bel_go HB2.out hb4)
        clear hb4 z0 z1 z2 z3 z4 z5 z6 z7 z8 e0 e1 e2 e3 e4 e5 e6 e7 e8 d0 d1 d2 d3 d4 d5 d6 d7 d8
        generalize w4 = w2 at *
        cases h2
        · have HR := Lib.hid (show res = .mk _ ⟨#[]⟩ (.mk 0 ⟨#[]⟩ []) (.mk 0 ⟨#[]⟩ []) [t1, t2] from HRT.out)
          have HN := Lib.hid (HN2.out rfl)
          have tk := BQF.out.nine; have z0 := tk.c0; have z1 := tk.c1; have z2 := tk.c2; have z3 := tk.c3; have z4 := tk.c4; have z5 := tk.c5; have z6 := tk.c6; have z7 := tk.c7; have z8 := tk.c8; clear tk
          have tk := HP.out.keep HB2.out; have e0 := tk.c0; have e1 := tk.c1; have e2 := tk.c2; have e3 := tk.c3; have e4 := tk.c4; have e5 := tk.c5; have e6 := tk.c6; have e7 := tk.c7; have e8 := tk.c8; clear tk
          have tk := HQ.out.keep HB2.out; have d0 := tk.c0; have d1 := tk.c1; have d2 := tk.c2; have d3 := tk.c3; have d4 := tk.c4; have d5 := tk.c5; have d6 := tk.c6; have d7 := tk.c7; have d8 := tk.c8; clear tk
          go_upto_region 11 with (fail)
          have hbn1 : w.heap.size + 1 ≠ b := by omega
          have hbn2 := hbn1.symm
          have HQ0 := Lib.hid (bel_drew1 w2)
          have hno : ¬ Lo S w w2 (w.heap.size + 1) := lo_not (by omega) BQR.out.lt
          have hsz := HB2.out.size
          (first | (go_region_held3 (fun w' => w'.cell? ⟨w.heap.size, 8, none⟩ = some (.slice (some ⟨b, o, none⟩) 2 c) ∧ w'.cell? ⟨b, o, none⟩ = some (.int .i64 k1) ∧ w'.cell? ⟨b, o + 1, none⟩ = some (.string n1) ∧ w'.cell? ⟨b, o + 2, none⟩ = some (.int .i64 vl1) ∧ w'.cell? ⟨b, o + 3, none⟩ = some (.string fl1) ∧ w'.cell? ⟨b, o + 4, none⟩ = some (.slice Al1 al1.length cl1) ∧ w'.cell? ⟨b, o + 5, none⟩ = some (.int .i64 vr1) ∧ w'.cell? ⟨b, o + 6, none⟩ = some (.string fr1) ∧ w'.cell? ⟨b, o + 7, none⟩ = some (.slice Ar1 ar1.length cr1) ∧ w'.cell? ⟨b, o + 8, none⟩ = some (.slice A1 ts1.length c1) ∧ w'.cell? ⟨b, o + 9, none⟩ = some (.int .i64 k2) ∧ w'.cell? ⟨b, o + 10, none⟩ = some (.string n2) ∧ w'.cell? ⟨b, o + 11, none⟩ = some (.int .i64 vl2) ∧ w'.cell? ⟨b, o + 12, none⟩ = some (.string fl2) ∧ w'.cell? ⟨b, o + 13, none⟩ = some (.slice Al2 al2.length cl2) ∧ w'.cell? ⟨b, o + 14, none⟩ = some (.int .i64 vr2) ∧ w'.cell? ⟨b, o + 15, none⟩ = some (.string fr2) ∧ w'.cell? ⟨b, o + 16, none⟩ = some (.slice Ar2 ar2.length cr2) ∧ w'.cell? ⟨b, o + 17, none⟩ = some (.slice A2 ts2.length c2)) (go_keep) (first | (go_at_call_of 51 (Value.agg #[.int .i64 k1, .string n1, .int .i64 vl1, .string fl1, .slice Al1 al1.length cl1, .int .i64 vr1, .string fr1, .slice Ar1 ar1.length cr1, .slice A1 ts1.length c1]); refine (HO1.out _ (bel_go HB2.out (by first | exact HQ1.out | exact HQ0.out))).mono ?_; rintro e w9 ⟨⟨gk7, gn7, gvl7, gfl7, gal7, gvr7, gfr7, gar7, gts7, gAl7, gcl7, gAr7, gcr7, gA7, gc7, hg7, rfl, gr7⟩, hb9⟩; have G7 := Lib.hid (r3 gr7 (Stay.lo_lo ((by first | exact HQ1.out | exact HQ0.out) : Below w2.heap.size w2 _).size)); have GG7 := Lib.hid hg7; clear gr7 hg7; have HQ1 := Lib.hid (bel_go (by first | exact HQ1.out | exact HQ0.out) hb9); clear hb9; have z8 := (BQF.out.below HQ1.out BQF.out.lt).nine.c8; have tk := HP.out.keep (bel_go HB2.out HQ1.out); have e0 := tk.c0; have e1 := tk.c1; have e2 := tk.c2; have e3 := tk.c3; have e4 := tk.c4; have e5 := tk.c5; have e6 := tk.c6; have e7 := tk.c7; have e8 := tk.c8; clear tk; have tk := HQ.out.keep (bel_go HB2.out HQ1.out); have d0 := tk.c0; have d1 := tk.c1; have d2 := tk.c2; have d3 := tk.c3; have d4 := tk.c4; have d5 := tk.c5; have d6 := tk.c6; have d7 := tk.c7; have d8 := tk.c8; clear tk; have BR := Lib.hid (BQR.out.below HQ1.out BQR.out.lt); have tk := BR.out.nine; have yr0 := tk.c0; have yr1 := tk.c1; have yr2 := tk.c2; have yr3 := tk.c3; have yr4 := tk.c4; have yr5 := tk.c5; have yr6 := tk.c6; have yr7 := tk.c7; have yr8 := tk.c8; clear tk; have tk := BR.out.free9; have yf0 := tk.c0; have yf1 := tk.c1; have yf2 := tk.c2; have yf3 := tk.c3; have yf4 := tk.c4; have yf5 := tk.c5; have yf6 := tk.c6; have yf7 := tk.c7; have yf8 := tk.c8; clear tk; have hlr := BR.out.lt; have hn5 := Nat.ne_of_lt BR.out.lt; have hn6 := hn5.symm; have hB := bel_go HB2.out HQ1.out))) | fail "held")
          all_goals
            go_wp2_with fail
            clear z8 e0 e1 e2 e3 e4 e5 e6 e7 e8 d0 d1 d2 d3 d4 d5 d6 d7 d8
            first
            | (refine bodyPost_ret (v := .agg #[.int .i64 3, .string ⟨#[]⟩, .int .i64 0, .string ⟨#[]⟩, .slice none 0 0, .int .i64 0, .string ⟨#[]⟩, .slice none 0 0, .slice (some ⟨w9.heap.size, 0, none⟩) 2 2]) ?_ rfl ⟨?_, (bel9 hB (show w.heap.size ≤ w.heap.size + 1 by omega) _ _ _ _ _ _ _ _ _).alloc (bel9 hB (show w.heap.size ≤ w.heap.size + 1 by omega) _ _ _ _ _ _ _ _ _).size _⟩
               · simp [results, Tryz.results51, go_sem, yr0, yr1, yr2, yr3, yr4, yr5, yr6, yr7, yr8, hlr, hn5, hn6]
               · rw [HR.out, GG7.out, HN.out]; exact FRes.two _ (Blk.new' _ w9.heap.size 27 [.int .i64 gk7, .string gn7, .int .i64 gvl7, .string gfl7, .slice gAl7 gal7.length gcl7, .int .i64 gvr7, .string gfr7, .slice gAr7 gar7.length gcr7, .slice gA7 gts7.length gc7, .int .i64 k2, .string n2, .int .i64 vl2, .string fl2, .slice Al2 al2.length cl2, .int .i64 vr2, .string fr2, .slice Ar2 ar2.length cr2, .slice A2 ts2.length c2] (by simp)) (Or.inr hB.size) (r3 G7.out (((Stay.set9 hno _ _ _ _ _ _ _ _ _).trans (Stay.al _)).trans (Stay.lo_up hsz))) (r3 (r3 R2.out ((Stay.below hB).trans Stay.lo0)) (((Stay.set9 hno _ _ _ _ _ _ _ _ _).trans (Stay.al _)).trans (Stay.lo_up hsz))))
            | (refine bodyPost_ret (v := .agg #[.int .i64 4, .string ⟨#[]⟩, .int .i64 0, .string ⟨#[]⟩, .slice none 0 0, .int .i64 0, .string ⟨#[]⟩, .slice none 0 0, .slice (some ⟨w9.heap.size, 0, none⟩) 2 2]) ?_ rfl ⟨?_, (bel9 hB (show w.heap.size ≤ w.heap.size + 1 by omega) _ _ _ _ _ _ _ _ _).alloc (bel9 hB (show w.heap.size ≤ w.heap.size + 1 by omega) _ _ _ _ _ _ _ _ _).size _⟩
               · simp [results, Tryz.results51, go_sem, yr0, yr1, yr2, yr3, yr4, yr5, yr6, yr7, yr8, hlr, hn5, hn6]
               · rw [HR.out, GG7.out, HN.out]; exact FRes.two _ (Blk.new' _ w9.heap.size 27 [.int .i64 gk7, .string gn7, .int .i64 gvl7, .string gfl7, .slice gAl7 gal7.length gcl7, .int .i64 gvr7, .string gfr7, .slice gAr7 gar7.length gcr7, .slice gA7 gts7.length gc7, .int .i64 k2, .string n2, .int .i64 vl2, .string fl2, .slice Al2 al2.length cl2, .int .i64 vr2, .string fr2, .slice Ar2 ar2.length cr2, .slice A2 ts2.length c2] (by simp)) (Or.inr hB.size) (r3 G7.out (((Stay.set9 hno _ _ _ _ _ _ _ _ _).trans (Stay.al _)).trans (Stay.lo_up hsz))) (r3 (r3 R2.out ((Stay.below hB).trans Stay.lo0)) (((Stay.set9 hno _ _ _ _ _ _ _ _ _).trans (Stay.al _)).trans (Stay.lo_up hsz))))
        · have HR := Lib.hid (show res = _ from HRT.out)
          rw [if_neg (by simp)] at HR
          go_upto_region 12 with (fail)
          first
          | (have hWz := HB2.out.size
             have hn5 : w.heap.size + 1 ≠ w2.heap.size := by have := BQR.out.lt; omega
             have BA2 := Lib.hid (BQR.out.alloc (.cells #[.int .i64 4, .string n, .int .i64 vl, .string fl, .slice Al al.length cl, .int .i64 vr, .string fr, .slice Ar ar.length cr, .slice (some ⟨b, o, none⟩) 2 c] 27))
             have hB := HB2.out.alloc HB2.out.size (.cells #[.int .i64 4, .string n, .int .i64 vl, .string fl, .slice Al al.length cl, .int .i64 vr, .string fr, .slice Ar ar.length cr, .slice (some ⟨b, o, none⟩) 2 c] 27)
             have tk := BQF.out.nine; have z0 := tk.c0; have z1 := tk.c1; have z2 := tk.c2; have z3 := tk.c3; have z4 := tk.c4; have z5 := tk.c5; have z6 := tk.c6; have z7 := tk.c7; have z8 := tk.c8; clear tk
             have tk := BA2.out.nine; have yr0 := tk.c0; have yr1 := tk.c1; have yr2 := tk.c2; have yr3 := tk.c3; have yr4 := tk.c4; have yr5 := tk.c5; have yr6 := tk.c6; have yr7 := tk.c7; have yr8 := tk.c8; clear tk
             have tk := BA2.out.free9; have yf0 := tk.c0; have yf1 := tk.c1; have yf2 := tk.c2; have yf3 := tk.c3; have yf4 := tk.c4; have yf5 := tk.c5; have yf6 := tk.c6; have yf7 := tk.c7; have yf8 := tk.c8; clear tk
             go_wp2_with fail
             refine bodyPost_ret (v := .agg #[.int .i64 7, .string x, .int .i64 0, .string ⟨#[]⟩, .slice none 0 0, .int .i64 0, .string ⟨#[]⟩, .slice none 0 0, .slice (some ⟨w2.heap.size, 0, none⟩) 1 1]) ?_ rfl ⟨?_, bel9 hB (Nat.le_succ _) _ _ _ _ _ _ _ _ _⟩
             · simp [results, Tryz.results51, go_sem, yr0, yr1, yr2, yr3, yr4, yr5, yr6, yr7, yr8]
             · rw [HR.out]; exact FRes.one _ x (blk9o (Blk.new w2 27 [.int .i64 4, .string n, .int .i64 vl, .string fl, .slice Al al.length cl, .int .i64 vr, .string fr, .slice Ar ar.length cr, .slice (some ⟨b, o, none⟩) 2 c]) hn5 _ _ _ _ _ _ _ _ _) (Or.inr hWz) (r3 HG.out (Stay.up (bel9 hB (Nat.le_succ _) _ _ _ _ _ _ _ _ _))))
          | (have hWz := HB2.out.size
             have hn5 : w.heap.size + 1 ≠ w2.heap.size := by have := BQR.out.lt; omega
             have BA2 := Lib.hid (BQR.out.alloc (.cells #[.int .i64 3, .string n, .int .i64 vl, .string fl, .slice Al al.length cl, .int .i64 vr, .string fr, .slice Ar ar.length cr, .slice (some ⟨b, o, none⟩) 2 c] 27))
             have hB := HB2.out.alloc HB2.out.size (.cells #[.int .i64 3, .string n, .int .i64 vl, .string fl, .slice Al al.length cl, .int .i64 vr, .string fr, .slice Ar ar.length cr, .slice (some ⟨b, o, none⟩) 2 c] 27)
             have tk := BQF.out.nine; have z0 := tk.c0; have z1 := tk.c1; have z2 := tk.c2; have z3 := tk.c3; have z4 := tk.c4; have z5 := tk.c5; have z6 := tk.c6; have z7 := tk.c7; have z8 := tk.c8; clear tk
             have tk := BA2.out.nine; have yr0 := tk.c0; have yr1 := tk.c1; have yr2 := tk.c2; have yr3 := tk.c3; have yr4 := tk.c4; have yr5 := tk.c5; have yr6 := tk.c6; have yr7 := tk.c7; have yr8 := tk.c8; clear tk
             have tk := BA2.out.free9; have yf0 := tk.c0; have yf1 := tk.c1; have yf2 := tk.c2; have yf3 := tk.c3; have yf4 := tk.c4; have yf5 := tk.c5; have yf6 := tk.c6; have yf7 := tk.c7; have yf8 := tk.c8; clear tk
             go_wp2_with fail
             refine bodyPost_ret (v := .agg #[.int .i64 8, .string x, .int .i64 0, .string ⟨#[]⟩, .slice none 0 0, .int .i64 0, .string ⟨#[]⟩, .slice none 0 0, .slice (some ⟨w2.heap.size, 0, none⟩) 1 1]) ?_ rfl ⟨?_, bel9 hB (Nat.le_succ _) _ _ _ _ _ _ _ _ _⟩
             · simp [results, Tryz.results51, go_sem, yr0, yr1, yr2, yr3, yr4, yr5, yr6, yr7, yr8]
             · rw [HR.out]; exact FRes.one _ x (blk9o (Blk.new w2 27 [.int .i64 3, .string n, .int .i64 vl, .string fl, .slice Al al.length cl, .int .i64 vr, .string fr, .slice Ar ar.length cr, .slice (some ⟨b, o, none⟩) 2 c]) hn5 _ _ _ _ _ _ _ _ _) (Or.inr hWz) (r3 HG.out (Stay.up (bel9 hB (Nat.le_succ _) _ _ _ _ _ _ _ _ _))))
theorem rpush0 : ∀ N, RPushAt 51 N := by
  intro N
  induction N with
  | zero => intro kind x k n vl fl al vr fr ar ts Al cl Ar cr A c S w hkd h; have := Fm.wt_pos (Fm.mk k n (.mk vl fl al) (.mk vr fr ar) ts); omega
  | succ N ih =>
    intro kind x k n vl fl al vr fr ar ts Al cl Ar cr A c S w hkd h hN hsh h1 h2 h3
    rcases shape_cases hsh with ⟨hk, hts⟩ | ⟨hk, a, hts, ha⟩ | ⟨hk, a, a', hts, ha, ha'⟩
    · exact rpushX (N + 1) kind x k n vl fl al vr fr ar ts Al cl Ar cr A c S w hkd h hN (by omega) (by omega) h1 h2 h3
    · exact rpushX (N + 1) kind x k n vl fl al vr fr ar ts Al cl Ar cr A c S w hkd h hN (by omega) (by omega) h1 h2 h3
    · rcases hk with hk | hk | hk | hk
      · rcases hkd with hd | hd
        · exact rpushE N ih kind x k n vl fl al vr fr ar ts Al cl Ar cr A c a a' S w (Or.inl hd) (Or.inl ⟨hd, hk⟩) hts h hN ha ha' h1 h2 h3
        · exact rpushH N ih kind x k n vl fl al vr fr ar ts Al cl Ar cr A c a a' S w (Or.inr hd) (Or.inr ⟨hd, hk⟩) hts h hN ha ha' h1 h2 h3
      · rcases hkd with hd | hd
        · exact rpushH N ih kind x k n vl fl al vr fr ar ts Al cl Ar cr A c a a' S w (Or.inl hd) (Or.inl ⟨hd, hk⟩) hts h hN ha ha' h1 h2 h3
        · exact rpushE N ih kind x k n vl fl al vr fr ar ts Al cl Ar cr A c a a' S w (Or.inr hd) (Or.inr ⟨hd, hk⟩) hts h hN ha ha' h1 h2 h3
      · exact rpushX (N + 1) kind x k n vl fl al vr fr ar ts Al cl Ar cr A c S w hkd h hN (by omega) (by omega) h1 h2 h3
      · exact rpushX (N + 1) kind x k n vl fl al vr fr ar ts Al cl Ar cr A c S w hkd h hN (by omega) (by omega) h1 h2 h3
end Go.Proofs.YtndjjnnljihmnaaGreat
