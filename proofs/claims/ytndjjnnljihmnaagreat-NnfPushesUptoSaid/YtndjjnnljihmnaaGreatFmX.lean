/- Formulas turned, by the reference, whole. -/
import Derived.Test.YtndjjnnljihmnaaGreatFmL
namespace Go.Proofs.YtndjjnnljihmnaaGreat
open Go.RowKit
set_option linter.unusedVariables false
set_option linter.unusedSimpArgs false
set_option maxRecDepth 100000 in
set_option maxHeartbeats 25600000 in
theorem rturn2a (N : Nat) (ih : TurnAt 21 N) (k : Int) (n : ByteArray) (vl : Int) (fl : ByteArray) (al : List Tm) (vr : Int) (fr : ByteArray) (ar : List Tm) (ts : List Fm) (Al : Option Addr) (cl : Nat) (Ar : Option Addr) (cr : Nat) (A : Option Addr) (c : Nat) (a1 : Fm) (a2 : Fm) (S : Nat → Prop) (w : World) (neg : Bool) (h : k = 3 ∨ k = 4 ∨ k = 5) (hts : ts = [a1, a2]) (hN : (Fm.mk k n (.mk vl fl al) (.mk vr fr ar) ts).wt ≤ N + 1) (hNN : N ≤ 1125899906842623) (hsh : (Fm.mk k n (.mk vl fl al) (.mk vr fr ar) ts).shape = true) (hsh1 : a1.shape = true) (hsh2 : a2.shape = true) (hl : ST S w Al al.length cl al) (hr : ST S w Ar ar.length cr ar) (hs : SF S w A ts.length c ts) : Calls Tryz.prog 21 #[.agg #[.int .i64 k, .string n, .int .i64 vl, .string fl, .slice Al al.length cl, .int .i64 vr, .string fr, .slice Ar ar.length cr, .slice A ts.length c], .bool neg] w fun e w' => FRes (Up S w) w' (sel neg (Fm.turn (Fm.mk k n (.mk vl fl al) (.mk vr fr ar) ts))) e ∧ Below w.heap.size w w' := by
  have HK := Lib.hid h
  clear h
  have hN' : (Fm.mk k n (.mk vl fl al) (.mk vr fr ar) ts).wt ≤ 1125899906842624 := by omega
  have HME := Lib.hid (fun w' (hb : Below w.heap.size w w') => sizes0 1125899906842624 k n vl fl al vr fr ar ts Al cl Ar cr A c S w' hN' (Nat.le_refl _) hsh (hl.stay (Stay.below hb)) (hr.stay (Stay.below hb)) (hs.stay (Stay.below hb)))
  have HREL := Lib.hid (show (sel neg (Fm.rsz (Fm.mk k n (.mk vl fl al) (.mk vr fr ar) ts))).k = (if (sel neg (Fm.meas (Fm.mk k n (.mk vl fl al) (.mk vr fr ar) ts))).k = 9 then 1 else if (sel neg (Fm.meas (Fm.mk k n (.mk vl fl al) (.mk vr fr ar) ts))).k = 10 then 2 else 0) by cases neg; exact (Fm.rel _ hN').1.1; exact (Fm.rel _ hN').2.1)
  have HV := Lib.hid (turn_sel neg k n (.mk vl fl al) (.mk vr fr ar) ts)
  generalize sel neg (Fm.turn (Fm.mk k n (.mk vl fl al) (.mk vr fr ar) ts)) = res at *
  generalize hmm : sel neg (Fm.meas (Fm.mk k n (.mk vl fl al) (.mk vr fr ar) ts)) = will at *
  clear hmm
  generalize hmm : Fm.rsz (Fm.mk k n (.mk vl fl al) (.mk vr fr ar) ts) = m at *
  clear hmm
  obtain ⟨⟨ak1, as1, ad1⟩, ⟨bk1, bs1, bd1⟩⟩ := m
  simp only at HME
  clear hN' hsh
  subst hts
  have hs := hs.stay Stay.low'
  obtain ⟨b, o, hA1, k1, n1, vl1, fl1, al1, vr1, fr1, ar1, ts1, Al1, cl1, Ar1, cr1, A1, c1, hm1, hl1, hr1, hs1, p0, p1, p2, p3, p4, p5, p6, p7, p8⟩ := hs.at 0 (by simp)
  change a1 = _ at hm1
  subst hm1
  subst hA1
  simp only [Nat.zero_mul, Nat.one_mul, Nat.add_zero] at p0 p1 p2 p3 p4 p5 p6 p7 p8
  obtain ⟨b', o', hA2, k2, n2, vl2, fl2, al2, vr2, fr2, ar2, ts2, Al2, cl2, Ar2, cr2, A2, c2, hm2, hl2, hr2, hs2, q0, q1, q2, q3, q4, q5, q6, q7, q8⟩ := hs.at 1 (by simp)
  change a2 = _ at hm2
  subst hm2
  injection hA2 with hA2
  injection hA2 with hb2 ho2
  subst hb2 ho2
  simp only [Nat.zero_mul, Nat.one_mul, Nat.add_zero] at q0 q1 q2 q3 q4 q5 q6 q7 q8
  have hw : (Fm.mk k1 n1 (.mk vl1 fl1 al1) (.mk vr1 fr1 ar1) ts1).wt + (Fm.mk k2 n2 (.mk vl2 fl2 al2) (.mk vr2 fr2 ar2) ts2).wt + 3 ≤ N + 1 := by have hh := hN; rw [Fm.wt, Fm.wts, Fm.wts, Fm.wts] at hh; have := (Tm.mk vl fl al).wt_pos; have := (Tm.mk vr fr ar).wt_pos; omega
  have HI1 := Lib.hid (fun w' (hb : Below w.heap.size w w') neg => (show Calls Tryz.prog 21 #[.agg #[.int .i64 k1, .string n1, .int .i64 vl1, .string fl1, .slice Al1 al1.length cl1, .int .i64 vr1, .string fr1, .slice Ar1 ar1.length cr1, .slice A1 ts1.length c1], .bool neg] w' fun e w2 => FRes (Lo S w w') w2 (sel neg (Fm.turn (Fm.mk k1 n1 (.mk vl1 fl1 al1) (.mk vr1 fr1 ar1) ts1))) e ∧ Below w'.heap.size w' w2 from ih k1 n1 vl1 fl1 al1 vr1 fr1 ar1 ts1 Al1 cl1 Ar1 cr1 A1 c1 _ w' neg (by omega) (by omega) hsh1 (hl1.stay (Stay.below hb)) (hr1.stay (Stay.below hb)) (hs1.stay (Stay.below hb))))
  have HI2 := Lib.hid (fun w' (hb : Below w.heap.size w w') neg => (show Calls Tryz.prog 21 #[.agg #[.int .i64 k2, .string n2, .int .i64 vl2, .string fl2, .slice Al2 al2.length cl2, .int .i64 vr2, .string fr2, .slice Ar2 ar2.length cr2, .slice A2 ts2.length c2], .bool neg] w' fun e w2 => FRes (Lo S w w') w2 (sel neg (Fm.turn (Fm.mk k2 n2 (.mk vl2 fl2 al2) (.mk vr2 fr2 ar2) ts2))) e ∧ Below w'.heap.size w' w2 from ih k2 n2 vl2 fl2 al2 vr2 fr2 ar2 ts2 Al2 cl2 Ar2 cr2 A2 c2 _ w' neg (by omega) (by omega) hsh2 (hl2.stay (Stay.below hb)) (hr2.stay (Stay.below hb)) (hs2.stay (Stay.below hb))))
  rw [Fm.turnL, Fm.turnL, Fm.turnL] at HV
  generalize Fm.turn (Fm.mk k1 n1 (.mk vl1 fl1 al1) (.mk vr1 fr1 ar1) ts1) = t1 at *
  generalize Fm.turn (Fm.mk k2 n2 (.mk vl2 fl2 al2) (.mk vr2 fr2 ar2) ts2) = t2 at *
  have hbw := World.block_lt_of_cell? w _ p0
  have HP := Lib.hid (show C9 w b o (.int .i64 k1) (.string n1) (.int .i64 vl1) (.string fl1) (.slice Al1 al1.length cl1) (.int .i64 vr1) (.string fr1) (.slice Ar1 ar1.length cr1) (.slice A1 ts1.length c1) from ⟨p0, p1, p2, p3, p4, p5, p6, p7, p8⟩)
  have HQ := Lib.hid (show C9 w b (o + 9) (.int .i64 k2) (.string n2) (.int .i64 vl2) (.string fl2) (.slice Al2 al2.length cl2) (.int .i64 vr2) (.string fr2) (.slice Ar2 ar2.length cr2) (.slice A2 ts2.length c2) from ⟨q0, q1, q2, q3, q4, q5, q6, q7, q8⟩)
  clear p0 q0 p1 q1 p2 q2 p3 q3 p4 q4 p5 q5 p6 q6 p7 q7 p8 q8
  have hbw : b < w.heap.size := hbw
  clear ih hN hNN hw hsh1 hl1 hr1 hs1 hsh2 hl2 hr2 hs2 hl hr hs
  have HB0 := Lib.hid (show Below w.heap.size w ((w.alloc (.cells #[.int .i64 k, .string n, .int .i64 vl, .string fl, .slice Al al.length cl, .int .i64 vr, .string fr, .slice Ar ar.length cr, .slice (some ⟨b, o, none⟩) 2 c] 27)).alloc (.cells #[.int .i64 0, .string ⟨#[]⟩, .int .i64 0, .string ⟨#[]⟩, .slice none 0 0, .int .i64 0, .string ⟨#[]⟩, .slice none 0 0, .slice none 0 0] 27)) from bel_two)
  have BK1 := Lib.hid ((Blk.new w 27 [.int .i64 k, .string n, .int .i64 vl, .string fl, .slice Al al.length cl, .int .i64 vr, .string fr, .slice Ar ar.length cr, .slice (some ⟨b, o, none⟩) 2 c]).alloc (.cells #[.int .i64 0, .string ⟨#[]⟩, .int .i64 0, .string ⟨#[]⟩, .slice none 0 0, .int .i64 0, .string ⟨#[]⟩, .slice none 0 0, .slice none 0 0] 27))
  have BK2 := Lib.hid (Blk.new' (w.alloc (.cells #[.int .i64 k, .string n, .int .i64 vl, .string fl, .slice Al al.length cl, .int .i64 vr, .string fr, .slice Ar ar.length cr, .slice (some ⟨b, o, none⟩) 2 c] 27)) (w.heap.size + 1) 27 [.int .i64 0, .string ⟨#[]⟩, .int .i64 0, .string ⟨#[]⟩, .slice none 0 0, .int .i64 0, .string ⟨#[]⟩, .slice none 0 0, .slice none 0 0] (by simp))
  simp only [List.toArray] at BK1 BK2
  cases neg
  all_goals
    go_enter Tryz.func21, Tryz.ntmps21
    go_upto_region 1 with (fail)
    generalize hW : (w.alloc (.cells #[.int .i64 k, .string n, .int .i64 vl, .string fl, .slice Al al.length cl, .int .i64 vr, .string fr, .slice Ar ar.length cr, .slice (some ⟨b, o, none⟩) 2 c] 27)).alloc (.cells #[.int .i64 0, .string ⟨#[]⟩, .int .i64 0, .string ⟨#[]⟩, .slice none 0 0, .int .i64 0, .string ⟨#[]⟩, .slice none 0 0, .slice none 0 0] 27) = W at *
    clear hW
    have tk := BK1.out.nine; have z0 := tk.c0; have z1 := tk.c1; have z2 := tk.c2; have z3 := tk.c3; have z4 := tk.c4; have z5 := tk.c5; have z6 := tk.c6; have z7 := tk.c7; have z8 := tk.c8; clear tk
    go_wp2_with fail
    refine (HME.out _ HB0.out).mono ?_
    rintro e w2 ⟨rfl, hb2⟩
    have HB2 := Lib.hid (bel_go HB0.out hb2)
    have BQ1 := Lib.hid (Blk.go BK1.out hb2)
    have BQ2 := Lib.hid (Blk.go BK2.out hb2)
    clear z0 z1 z2 z3 z4 z5 z6 z7 z8 hb2 BK1 BK2
    go_upto_region 2 with (fail)
    have Ba := Lib.hid ((Blk.new w2 51 [.int .i64 ak1, .int .i64 as1, .int .i64 ad1]).alloc (.cells #[.int .i64 bk1, .int .i64 bs1, .int .i64 bd1] 51))
    have Bb := Lib.hid (Blk.new' (w2.alloc (.cells #[.int .i64 ak1, .int .i64 as1, .int .i64 ad1] 51)) (w2.heap.size + 1) 51 [.int .i64 bk1, .int .i64 bs1, .int .i64 bd1] (by simp))
    simp only [List.toArray] at Ba Bb
    have BS1 := Lib.hid ((BQ1.out.alloc (.cells #[.int .i64 ak1, .int .i64 as1, .int .i64 ad1] 51)).alloc (.cells #[.int .i64 bk1, .int .i64 bs1, .int .i64 bd1] 51))
    have BS2 := Lib.hid ((BQ2.out.alloc (.cells #[.int .i64 ak1, .int .i64 as1, .int .i64 ad1] 51)).alloc (.cells #[.int .i64 bk1, .int .i64 bs1, .int .i64 bd1] 51))
    have HB3 := Lib.hid (bel_go HB2.out (show Below w2.heap.size w2 ((w2.alloc (.cells #[.int .i64 ak1, .int .i64 as1, .int .i64 ad1] 51)).alloc (.cells #[.int .i64 bk1, .int .i64 bs1, .int .i64 bd1] 51)) from bel_two))
    have hl1 := BQ1.out.lt
    have hl2 := BQ2.out.lt
    generalize hgb : w2.heap.size + 1 = gb at *
    generalize hga : w2.heap.size = ga at *
    generalize hWW : (w2.alloc (.cells #[.int .i64 ak1, .int .i64 as1, .int .i64 ad1] 51)).alloc (.cells #[.int .i64 bk1, .int .i64 bs1, .int .i64 bd1] 51) = W3 at *
    clear hWW
    have hna1 : w.heap.size + 1 ≠ ga := by omega
    have hna2 : ga ≠ w.heap.size + 1 := by omega
    have hne0 : ga ≠ w.heap.size := by omega
    have hab : ga ≠ gb := by omega
    have hgw : w.heap.size ≤ ga := by omega
    clear hl1 hl2 hga hgb BQ1 BQ2
    obtain ⟨m0, m1, m2⟩ := Ba.out.three
    obtain ⟨n0, n1, n2⟩ := Bb.out.three
    have mf0 := Ba.out.free 0
    have mf1 := Ba.out.free 1
    have mf2 := Ba.out.free 2
    go_upto_region 4 with (fail)
    clear m0 m1 m2 mf0 mf1 mf2 n0 n1 n2
  case' _ =>
    have BU1 := BS1
    have BU2 := BS2
    have BUN := Ba
    have HB5 := HB3
    clear BS1 BS2 Ba Bb HB3
    generalize W3 = W5 at *
    have hx : (will.k = 9 ∧ ak1 = 1) ∨ (will.k = 10 ∧ ak1 = 2) ∨ (constI will.k = false ∧ ak1 = 0) := rel_cases HREL.out
  rotate_left
  case' _ =>
    have BU1 := Lib.hid (blk3o BS1.out hne0 (.int .i64 bk1) (.int .i64 bs1) (.int .i64 bd1))
    have BU2 := Lib.hid (blk3o BS2.out hna2 (.int .i64 bk1) (.int .i64 bs1) (.int .i64 bd1))
    have BUN := Lib.hid (blk3 Ba.out (.int .i64 bk1) (.int .i64 bs1) (.int .i64 bd1))
    have HB5 := Lib.hid (((HB3.out.setCell (p := ⟨ga, 0, none⟩) hgw (.int .i64 bk1)).setCell (p := ⟨ga, 1, none⟩) hgw (.int .i64 bs1)).setCell (p := ⟨ga, 2, none⟩) hgw (.int .i64 bd1))
    generalize hW5 : (World.setCell (World.setCell (World.setCell W3 ⟨ga, 0, none⟩ (.int .i64 bk1)) ⟨ga, 1, none⟩ (.int .i64 bs1)) ⟨ga, 2, none⟩ (.int .i64 bd1)) = W5 at *
    clear hW5 BS1 BS2 Ba Bb HB3
    have hx : (will.k = 9 ∧ bk1 = 1) ∨ (will.k = 10 ∧ bk1 = 2) ∨ (constI will.k = false ∧ bk1 = 0) := rel_cases HREL.out
  rotate_left
  all_goals
    clear HREL HME HB0
    rcases hx with ⟨hc, rfl⟩ | ⟨hc, rfl⟩ | ⟨hc, rfl⟩
    · have HR := Lib.hid (show res = Fm.c 9 by rw [HV.out]; unfold turnC; simp [constI, hc])
      clear hc
      have tk := BU2.out.nine; have yr0 := tk.c0; have yr1 := tk.c1; have yr2 := tk.c2; have yr3 := tk.c3; have yr4 := tk.c4; have yr5 := tk.c5; have yr6 := tk.c6; have yr7 := tk.c7; have yr8 := tk.c8; clear tk
      have tk := BU2.out.free9; have yf0 := tk.c0; have yf1 := tk.c1; have yf2 := tk.c2; have yf3 := tk.c3; have yf4 := tk.c4; have yf5 := tk.c5; have yf6 := tk.c6; have yf7 := tk.c7; have yf8 := tk.c8; clear tk
      obtain ⟨m0, m1, m2⟩ := BUN.out.three
      have hB := HB5.out
      go_wp2_with fail
      refine bodyPost_ret (v := .agg #[.int .i64 9, .string ⟨#[]⟩, .int .i64 0, .string ⟨#[]⟩, .slice none 0 0, .int .i64 0, .string ⟨#[]⟩, .slice none 0 0, .slice none 0 0]) ?_ rfl ⟨?_, bel9 hB (Nat.le_succ _) _ _ _ _ _ _ _ _ _⟩
      · simp [results, Tryz.results21, go_sem, yr0, yr1, yr2, yr3, yr4, yr5, yr6, yr7, yr8]
      · rw [HR.out]; exact FRes.const _ _ _
    · have HR := Lib.hid (show res = Fm.c 10 by rw [HV.out]; unfold turnC; simp [constI, hc])
      clear hc
      have tk := BU2.out.nine; have yr0 := tk.c0; have yr1 := tk.c1; have yr2 := tk.c2; have yr3 := tk.c3; have yr4 := tk.c4; have yr5 := tk.c5; have yr6 := tk.c6; have yr7 := tk.c7; have yr8 := tk.c8; clear tk
      have tk := BU2.out.free9; have yf0 := tk.c0; have yf1 := tk.c1; have yf2 := tk.c2; have yf3 := tk.c3; have yf4 := tk.c4; have yf5 := tk.c5; have yf6 := tk.c6; have yf7 := tk.c7; have yf8 := tk.c8; clear tk
      obtain ⟨m0, m1, m2⟩ := BUN.out.three
      have hB := HB5.out
      go_wp2_with fail
      refine bodyPost_ret (v := .agg #[.int .i64 10, .string ⟨#[]⟩, .int .i64 0, .string ⟨#[]⟩, .slice none 0 0, .int .i64 0, .string ⟨#[]⟩, .slice none 0 0, .slice none 0 0]) ?_ rfl ⟨?_, bel9 hB (Nat.le_succ _) _ _ _ _ _ _ _ _ _⟩
      · simp [results, Tryz.results21, go_sem, yr0, yr1, yr2, yr3, yr4, yr5, yr6, yr7, yr8]
      · rw [HR.out]; exact FRes.const _ _ _
    have HCB := Lib.hid hc
    clear hc
    obtain ⟨m0, m1, m2⟩ := BUN.out.three
    have z0 := BU1.out.nine.c0
    go_upto_region 12 with (fail)
    clear m0 m1 m2 BUN
  all_goals
    have tk := BU1.out.nine; have z0 := tk.c0; have z1 := tk.c1; have z2 := tk.c2; have z3 := tk.c3; have z4 := tk.c4; have z5 := tk.c5; have z6 := tk.c6; have z7 := tk.c7; have z8 := tk.c8; clear tk
    have tk := HP.out.keep HB5.out; have e0 := tk.c0; have e1 := tk.c1; have e2 := tk.c2; have e3 := tk.c3; have e4 := tk.c4; have e5 := tk.c5; have e6 := tk.c6; have e7 := tk.c7; have e8 := tk.c8; clear tk
    have tk := HQ.out.keep HB5.out; have d0 := tk.c0; have d1 := tk.c1; have d2 := tk.c2; have d3 := tk.c3; have d4 := tk.c4; have d5 := tk.c5; have d6 := tk.c6; have d7 := tk.c7; have d8 := tk.c8; clear tk
    have hno : ¬ Lo S w W5 (w.heap.size + 1) := lo_not (by omega) BU2.out.lt
    have hsz := HB5.out.size
    rcases HK.out with rfl | rfl | rfl
    all_goals
      have hlw : w.heap.size < W5.heap.size := BU1.out.lt
      have hlb : b < W5.heap.size := by omega
      have hk1 := Nat.ne_of_gt hlw
      have hk2 := hk1.symm
      have hk3 := Nat.ne_of_gt hlb
      have hk4 := hk3.symm
      have hk5 : W5.heap.size + 1 ≠ w.heap.size := by omega
      have hk6 := hk5.symm
      have hk7 : W5.heap.size + 1 ≠ b := by omega
      have hk8 := hk7.symm
      go_upto_region 33 with (fail)
      go_cut [13, 14] (fun va vb wx => ∃ ge gd, va = .pointer (some ⟨ge, 0, none⟩) ∧ vb = .pointer (some ⟨gd, 0, none⟩) ∧ W5.heap.size ≤ ge ∧ W5.heap.size ≤ gd ∧ Blk wx ge 27 [.int .i64 k1, .string n1, .int .i64 vl1, .string fl1, .slice Al1 al1.length cl1, .int .i64 vr1, .string fr1, .slice Ar1 ar1.length cr1, .slice A1 ts1.length c1] ∧ Blk wx gd 27 [.int .i64 k2, .string n2, .int .i64 vl2, .string fl2, .slice Al2 al2.length cl2, .int .i64 vr2, .string fr2, .slice Ar2 ar2.length cr2, .slice A2 ts2.length c2] ∧ Below W5.heap.size W5 wx)
      case first =>
        (first | (go_region_held3 (fun w' => w'.cell? ⟨w.heap.size, 8, none⟩ = some (.slice (some ⟨b, o, none⟩) 2 c) ∧ w'.cell? ⟨b, o, none⟩ = some (.int .i64 k1) ∧ w'.cell? ⟨b, o + 1, none⟩ = some (.string n1) ∧ w'.cell? ⟨b, o + 2, none⟩ = some (.int .i64 vl1) ∧ w'.cell? ⟨b, o + 3, none⟩ = some (.string fl1) ∧ w'.cell? ⟨b, o + 4, none⟩ = some (.slice Al1 al1.length cl1) ∧ w'.cell? ⟨b, o + 5, none⟩ = some (.int .i64 vr1) ∧ w'.cell? ⟨b, o + 6, none⟩ = some (.string fr1) ∧ w'.cell? ⟨b, o + 7, none⟩ = some (.slice Ar1 ar1.length cr1) ∧ w'.cell? ⟨b, o + 8, none⟩ = some (.slice A1 ts1.length c1) ∧ w'.cell? ⟨b, o + 9, none⟩ = some (.int .i64 k2) ∧ w'.cell? ⟨b, o + 10, none⟩ = some (.string n2) ∧ w'.cell? ⟨b, o + 11, none⟩ = some (.int .i64 vl2) ∧ w'.cell? ⟨b, o + 12, none⟩ = some (.string fl2) ∧ w'.cell? ⟨b, o + 13, none⟩ = some (.slice Al2 al2.length cl2) ∧ w'.cell? ⟨b, o + 14, none⟩ = some (.int .i64 vr2) ∧ w'.cell? ⟨b, o + 15, none⟩ = some (.string fr2) ∧ w'.cell? ⟨b, o + 16, none⟩ = some (.slice Ar2 ar2.length cr2) ∧ w'.cell? ⟨b, o + 17, none⟩ = some (.slice A2 ts2.length c2)) (go_keep) (first | fail)) | fail "held")
        all_goals
          go_wp2_with fail
          go_meet
          first
          | exact ⟨_, _, rfl, rfl, Nat.le_refl _, Nat.le_succ _, Blk.drew ((Blk.new W5 27 [.int .i64 k1, .string n1, .int .i64 vl1, .string fl1, .slice Al1 al1.length cl1, .int .i64 vr1, .string fr1, .slice Ar1 ar1.length cr1, .slice A1 ts1.length c1]).alloc _), Blk.drew (Blk.new' (W5.alloc _) _ 27 [.int .i64 k2, .string n2, .int .i64 vl2, .string fl2, .slice Al2 al2.length cl2, .int .i64 vr2, .string fr2, .slice Ar2 ar2.length cr2, .slice A2 ts2.length c2] (by simp)), Below.drew bel_two⟩
          | exact ⟨_, _, rfl, rfl, Nat.le_succ _, Nat.le_refl _, Blk.drew (Blk.new' (W5.alloc _) _ 27 [.int .i64 k1, .string n1, .int .i64 vl1, .string fl1, .slice Al1 al1.length cl1, .int .i64 vr1, .string fr1, .slice Ar1 ar1.length cr1, .slice A1 ts1.length c1] (by simp)), Blk.drew ((Blk.new W5 27 [.int .i64 k2, .string n2, .int .i64 vl2, .string fl2, .slice Al2 al2.length cl2, .int .i64 vr2, .string fr2, .slice Ar2 ar2.length cr2, .slice A2 ts2.length c2]).alloc _), Below.drew bel_two⟩
      case rest =>
        obtain ⟨ge, gd, rfl, rfl, hge, hgd, hbe, hbd, hbw6⟩ := hcut
        have Ba := Lib.hid hbe
        have Bb := Lib.hid hbd
        have BV1 := Lib.hid (BU1.out.below hbw6 BU1.out.lt)
        have BV2 := Lib.hid (BU2.out.below hbw6 BU2.out.lt)
        have HB6 := Lib.hid (bel_go HB5.out hbw6)
        have h56 := hbw6.size
        have l2 := BU2.out.lt
        have hna1 : w.heap.size + 1 ≠ ge := by omega
        have hna2 := hna1.symm
        have hnb1 : w.heap.size + 1 ≠ gd := by omega
        have hnb2 := hnb1.symm
        clear l2 hbe hbd hbw6 BU1 hk1 hk2 hk3 hk4 hk5 hk6 hk7 hk8 z0 e0 d0 z1 e1 d1 z2 e2 d2 z3 e3 d3 z4 e4 d4 z5 e5 d5 z6 e6 d6 z7 e7 d7 z8 e8 d8
        generalize wc = W6 at *
        have tk := Ba.out.nine; have e0 := tk.c0; have e1 := tk.c1; have e2 := tk.c2; have e3 := tk.c3; have e4 := tk.c4; have e5 := tk.c5; have e6 := tk.c6; have e7 := tk.c7; have e8 := tk.c8; clear tk
        have tk := Bb.out.nine; have d0 := tk.c0; have d1 := tk.c1; have d2 := tk.c2; have d3 := tk.c3; have d4 := tk.c4; have d5 := tk.c5; have d6 := tk.c6; have d7 := tk.c7; have d8 := tk.c8; clear tk
        have z0 := BV1.out.nine.c0
        have HQ0 := Lib.hid (bel_drew1 W6)
        first | go_upto_region 36 with (fail) | go_upto_region 38 with (fail) | go_upto_region 40 with (fail)
        clear z0
        (first | (go_region_held3 (fun w' => w'.cell? ⟨ge, 0, none⟩ = some (.int .i64 k1) ∧ w'.cell? ⟨ge, 1, none⟩ = some (.string n1) ∧ w'.cell? ⟨ge, 2, none⟩ = some (.int .i64 vl1) ∧ w'.cell? ⟨ge, 3, none⟩ = some (.string fl1) ∧ w'.cell? ⟨ge, 4, none⟩ = some (.slice Al1 al1.length cl1) ∧ w'.cell? ⟨ge, 5, none⟩ = some (.int .i64 vr1) ∧ w'.cell? ⟨ge, 6, none⟩ = some (.string fr1) ∧ w'.cell? ⟨ge, 7, none⟩ = some (.slice Ar1 ar1.length cr1) ∧ w'.cell? ⟨ge, 8, none⟩ = some (.slice A1 ts1.length c1) ∧ w'.cell? ⟨gd, 0, none⟩ = some (.int .i64 k2) ∧ w'.cell? ⟨gd, 1, none⟩ = some (.string n2) ∧ w'.cell? ⟨gd, 2, none⟩ = some (.int .i64 vl2) ∧ w'.cell? ⟨gd, 3, none⟩ = some (.string fl2) ∧ w'.cell? ⟨gd, 4, none⟩ = some (.slice Al2 al2.length cl2) ∧ w'.cell? ⟨gd, 5, none⟩ = some (.int .i64 vr2) ∧ w'.cell? ⟨gd, 6, none⟩ = some (.string fr2) ∧ w'.cell? ⟨gd, 7, none⟩ = some (.slice Ar2 ar2.length cr2) ∧ w'.cell? ⟨gd, 8, none⟩ = some (.slice A2 ts2.length c2)) (go_keep) (first | (go_at_call_of 21 (Value.agg #[.int .i64 k2, .string n2, .int .i64 vl2, .string fl2, .slice Al2 al2.length cl2, .int .i64 vr2, .string fr2, .slice Ar2 ar2.length cr2, .slice A2 ts2.length c2]); refine (HI2.out _ (bel_go HB6.out (by first | exact HQ1.out | exact HQ0.out)) _).mono ?_; rintro e w9 ⟨⟨gk8, gn8, gvl8, gfl8, gal8, gvr8, gfr8, gar8, gts8, gAl8, gcl8, gAr8, gcr8, gA8, gc8, hg8, rfl, gr8⟩, hb9⟩; have G8 := Lib.hid (r3 gr8 (Stay.lo_lo (Nat.le_trans h56 ((by first | exact HQ1.out | exact HQ0.out) : Below W6.heap.size W6 _).size))); have GG8 := Lib.hid hg8; clear gr8 hg8; have G7 := Lib.hid (r3 G7.out (Stay.below hb9)); have HQ1 := Lib.hid (bel_go (by first | exact HQ1.out | exact HQ0.out) hb9); clear hb9; have tk := (Ba.out.below HQ1.out Ba.out.lt).nine; have e0 := tk.c0; have e1 := tk.c1; have e2 := tk.c2; have e3 := tk.c3; have e4 := tk.c4; have e5 := tk.c5; have e6 := tk.c6; have e7 := tk.c7; have e8 := tk.c8; clear tk; have tk := (Bb.out.below HQ1.out Bb.out.lt).nine; have d0 := tk.c0; have d1 := tk.c1; have d2 := tk.c2; have d3 := tk.c3; have d4 := tk.c4; have d5 := tk.c5; have d6 := tk.c6; have d7 := tk.c7; have d8 := tk.c8; clear tk; have BR := Lib.hid (BV2.out.below HQ1.out BV2.out.lt); have tk := BR.out.nine; have yr0 := tk.c0; have yr1 := tk.c1; have yr2 := tk.c2; have yr3 := tk.c3; have yr4 := tk.c4; have yr5 := tk.c5; have yr6 := tk.c6; have yr7 := tk.c7; have yr8 := tk.c8; clear tk; have tk := BR.out.free9; have yf0 := tk.c0; have yf1 := tk.c1; have yf2 := tk.c2; have yf3 := tk.c3; have yf4 := tk.c4; have yf5 := tk.c5; have yf6 := tk.c6; have yf7 := tk.c7; have yf8 := tk.c8; clear tk; have hB := bel_go HB6.out HQ1.out) | (go_at_call_of 46 (Value.agg #[.int .i64 gk7, .string gn7, .int .i64 gvl7, .string gfl7, .slice gAl7 gal7.length gcl7, .int .i64 gvr7, .string gfr7, .slice gAr7 gar7.length gcr7, .slice gA7 gts7.length gc7]); refine (twoR _ (Lo S w W5) _ G7.out G8.out).mono ?_; rintro e w9 ⟨⟨gk9, gn9, gvl9, gfl9, gal9, gvr9, gfr9, gar9, gts9, gAl9, gcl9, gAr9, gcr9, gA9, gc9, hg9, rfl, gr9⟩, hb9⟩; have G9 := Lib.hid (r3 gr9 (Stay.up_lo (Nat.le_trans h56 ((by first | exact HQ1.out | exact HQ0.out) : Below W6.heap.size W6 _).size))); have GG9 := Lib.hid hg9; clear gr9 hg9; have HQ1 := Lib.hid (bel_go (by first | exact HQ1.out | exact HQ0.out) hb9); clear hb9; have tk := (Ba.out.below HQ1.out Ba.out.lt).nine; have e0 := tk.c0; have e1 := tk.c1; have e2 := tk.c2; have e3 := tk.c3; have e4 := tk.c4; have e5 := tk.c5; have e6 := tk.c6; have e7 := tk.c7; have e8 := tk.c8; clear tk; have tk := (Bb.out.below HQ1.out Bb.out.lt).nine; have d0 := tk.c0; have d1 := tk.c1; have d2 := tk.c2; have d3 := tk.c3; have d4 := tk.c4; have d5 := tk.c5; have d6 := tk.c6; have d7 := tk.c7; have d8 := tk.c8; clear tk; have BR := Lib.hid (BV2.out.below HQ1.out BV2.out.lt); have tk := BR.out.nine; have yr0 := tk.c0; have yr1 := tk.c1; have yr2 := tk.c2; have yr3 := tk.c3; have yr4 := tk.c4; have yr5 := tk.c5; have yr6 := tk.c6; have yr7 := tk.c7; have yr8 := tk.c8; clear tk; have tk := BR.out.free9; have yf0 := tk.c0; have yf1 := tk.c1; have yf2 := tk.c2; have yf3 := tk.c3; have yf4 := tk.c4; have yf5 := tk.c5; have yf6 := tk.c6; have yf7 := tk.c7; have yf8 := tk.c8; clear tk; have hB := bel_go HB6.out HQ1.out) | (go_at_call_of 21 (Value.agg #[.int .i64 k1, .string n1, .int .i64 vl1, .string fl1, .slice Al1 al1.length cl1, .int .i64 vr1, .string fr1, .slice Ar1 ar1.length cr1, .slice A1 ts1.length c1]); refine (HI1.out _ (bel_go HB6.out (by first | exact HQ1.out | exact HQ0.out)) _).mono ?_; rintro e w9 ⟨⟨gk7, gn7, gvl7, gfl7, gal7, gvr7, gfr7, gar7, gts7, gAl7, gcl7, gAr7, gcr7, gA7, gc7, hg7, rfl, gr7⟩, hb9⟩; have G7 := Lib.hid (r3 gr7 (Stay.lo_lo (Nat.le_trans h56 ((by first | exact HQ1.out | exact HQ0.out) : Below W6.heap.size W6 _).size))); have GG7 := Lib.hid hg7; clear gr7 hg7; have HQ1 := Lib.hid (bel_go (by first | exact HQ1.out | exact HQ0.out) hb9); clear hb9; have tk := (Ba.out.below HQ1.out Ba.out.lt).nine; have e0 := tk.c0; have e1 := tk.c1; have e2 := tk.c2; have e3 := tk.c3; have e4 := tk.c4; have e5 := tk.c5; have e6 := tk.c6; have e7 := tk.c7; have e8 := tk.c8; clear tk; have tk := (Bb.out.below HQ1.out Bb.out.lt).nine; have d0 := tk.c0; have d1 := tk.c1; have d2 := tk.c2; have d3 := tk.c3; have d4 := tk.c4; have d5 := tk.c5; have d6 := tk.c6; have d7 := tk.c7; have d8 := tk.c8; clear tk; have BR := Lib.hid (BV2.out.below HQ1.out BV2.out.lt); have tk := BR.out.nine; have yr0 := tk.c0; have yr1 := tk.c1; have yr2 := tk.c2; have yr3 := tk.c3; have yr4 := tk.c4; have yr5 := tk.c5; have yr6 := tk.c6; have yr7 := tk.c7; have yr8 := tk.c8; clear tk; have tk := BR.out.free9; have yf0 := tk.c0; have yf1 := tk.c1; have yf2 := tk.c2; have yf3 := tk.c3; have yf4 := tk.c4; have yf5 := tk.c5; have yf6 := tk.c6; have yf7 := tk.c7; have yf8 := tk.c8; clear tk; have hB := bel_go HB6.out HQ1.out))) | fail "held")
        all_goals
          have HR := Lib.hid (show res = (Fm.mk gk9 gn9 (.mk gvl9 gfl9 gal9) (.mk gvr9 gfr9 gar9) gts9) by rw [HV.out, ← GG9.out, ← GG7.out, ← GG8.out]; unfold turnC; simp [HCB.out, sel_f, sel_t, kd1, kd2, dualI])
          go_wp2_with fail
          refine bodyPost_ret (v := .agg #[.int .i64 gk9, .string gn9, .int .i64 gvl9, .string gfl9, .slice gAl9 gal9.length gcl9, .int .i64 gvr9, .string gfr9, .slice gAr9 gar9.length gcr9, .slice gA9 gts9.length gc9]) ?_ rfl ⟨?_, bel9 hB (Nat.le_succ _) _ _ _ _ _ _ _ _ _⟩
          · simp [results, Tryz.results21, go_sem, yr0, yr1, yr2, yr3, yr4, yr5, yr6, yr7, yr8]
          · rw [HR.out]; exact FRes.of (r3 G9.out ((Stay.set9 hno _ _ _ _ _ _ _ _ _).trans (Stay.lo_up hsz)))
theorem rturn0 : ∀ N, TurnAt 21 N := by
  intro N
  induction N with
  | zero => intro k n vl fl al vr fr ar ts Al cl Ar cr A c S w neg h; have := Fm.wt_pos (Fm.mk k n (.mk vl fl al) (.mk vr fr ar) ts); omega
  | succ N ih =>
    intro k n vl fl al vr fr ar ts Al cl Ar cr A c S w neg h hN hsh h1 h2 h3
    rcases shape_cases hsh with ⟨hk, hts⟩ | ⟨hk, a, hts, ha⟩ | ⟨hk, a, a', hts, ha, ha'⟩
    · rcases hk with hk | hk | hk
      · exact rturnA k n vl fl al vr fr ar ts Al cl Ar cr A c S w neg hk (by omega) hsh h1 h2 h3
      · exact rturnZ k n vl fl al vr fr ar ts Al cl Ar cr A c S w neg (Or.inl hk) (by omega) hsh h1 h2 h3
      · exact rturnZ k n vl fl al vr fr ar ts Al cl Ar cr A c S w neg (Or.inr hk) (by omega) hsh h1 h2 h3
    · exact rturnB N ih k n vl fl al vr fr ar ts Al cl Ar cr A c a S w neg hk hts h (by omega) hsh ha h1 h2 h3
    · rcases hk with hk | hk | hk | hk
      · exact rturn2a N ih k n vl fl al vr fr ar ts Al cl Ar cr A c a a' S w neg (Or.inl hk) hts h (by omega) hsh ha ha' h1 h2 h3
      · exact rturn2a N ih k n vl fl al vr fr ar ts Al cl Ar cr A c a a' S w neg (Or.inr (Or.inl hk)) hts h (by omega) hsh ha ha' h1 h2 h3
      · exact rturn2a N ih k n vl fl al vr fr ar ts Al cl Ar cr A c a a' S w neg (Or.inr (Or.inr hk)) hts h (by omega) hsh ha ha' h1 h2 h3
      · exact rturn2c N ih k n vl fl al vr fr ar ts Al cl Ar cr A c a a' S w neg hk hts h (by omega) hsh ha ha' h1 h2 h3
end Go.Proofs.YtndjjnnljihmnaaGreat
