/- The law NnfPushes: the walk. -/
import Derived.Test.YtndjjnnljihmnaaGreatGmD
import Derived.Test.YtndjjnnljihmnaaGreatGmM
namespace Go.Proofs.YtndjjnnljihmnaaGreat
open Go.RowKit
set_option linter.unusedVariables false
set_option linter.unusedSimpArgs false
theorem mini_bounds2 {M : Nat} {f : Fm} (hM : M ≤ 1048576) (hs : f.shape = true) (h : f.le M) (hz : f.size ≤ 4000) : f.wt + f.lf * f.qs ≤ 4398046510000 ∧ f.wt ≤ 4398046511 := by
  have h1 := Fm.wt_le f hs h
  have h2 := Fm.lf_qn f hs
  have h3 := Fm.qs_qn f hs h
  have h4 := mul_four f.lf f.qn (by omega)
  have h5 : f.size * (M + 3) ≤ 4000 * 1048579 := Nat.mul_le_mul hz (by omega)
  have h6 : f.lf * f.qs ≤ f.lf * (f.qn * 1048576 + 12000) := Nat.mul_le_mul_left _ (by
    have : f.qn * M ≤ f.qn * 1048576 := Nat.mul_le_mul_left _ hM
    omega)
  rw [Nat.mul_add, ← Nat.mul_assoc] at h6
  have h7 : f.lf * f.qn * 1048576 ≤ 4000000 * 1048576 := Nat.mul_le_mul_right _ h4
  omega
theorem mini_bounds0 {f : Fm} (h : f.wt ≤ 1048576) : f.wt + f.lf * f.qs ≤ 4398046510000 ∧ f.wt ≤ 4398046511 := by
  have h1 := Nat.mul_le_mul (Nat.le_trans (Fm.lf_le f) h) (Nat.le_trans (Fm.qs_le f) h)
  omega
set_option maxRecDepth 100000 in
set_option maxHeartbeats 12800000 in
theorem pushes_any (k : Int) (n : ByteArray) (vl : Int) (fl : ByteArray) (al : List Tm) (vr : Int) (fr : ByteArray) (ar : List Tm) (ts : List Fm) (Al : Option Addr) (cl : Nat) (Ar : Option Addr) (cr : Nat) (A : Option Addr) (c : Nat) (w : World) (hN : (Fm.mk k n (.mk vl fl al) (.mk vr fr ar) ts).wt ≤ 1048576) (hl : ST All w Al al.length cl al) (hr : ST All w Ar ar.length cr ar) (hs : SF All w A ts.length c ts) : Calls Tryz.prog 4 #[.agg #[.int .i64 k, .string n, .int .i64 vl, .string fl, .slice Al al.length cl, .int .i64 vr, .string fr, .slice Ar ar.length cr, .slice A ts.length c]] w fun e w' => e = .returned (.bool true) ∧ Below w.heap.size w w' := by
  have hb0 := mini_bounds0 hN
  have HMI := Lib.hid (fun w' (hb : Below w.heap.size w w') => mini_at k n vl fl al vr fr ar ts Al cl Ar cr A c All w' (by omega) hb0.2 (hl.stay (Stay.below hb)) (hr.stay (Stay.below hb)) (hs.stay (Stay.below hb)))
  have HRM := Lib.hid (fun w' (hb : Below w.heap.size w w') => rmini_at k n vl fl al vr fr ar ts Al cl Ar cr A c All w' hb0.1 hb0.2 (hl.stay (Stay.below hb)) (hr.stay (Stay.below hb)) (hs.stay (Stay.below hb)))
  have HRN := Lib.hid (fun w' (hb : Below w.heap.size w w') => rnnf_any k n vl fl al vr fr ar ts Al cl Ar cr A c All w' (by omega) (hl.stay (Stay.below hb)) (hr.stay (Stay.below hb)) (hs.stay (Stay.below hb)))
  have HS := Lib.hid (fun h : (Fm.mk k n (.mk vl fl al) (.mk vr fr ar) ts).nnfE = 0 => nnf_said h hN)
  have HB0 := Lib.hid (Below.alloc (Below.refl _ w) (Nat.le_refl _) (.cells #[.int .i64 k, .string n, .int .i64 vl, .string fl, .slice Al al.length cl, .int .i64 vr, .string fr, .slice Ar ar.length cr, .slice A ts.length c] 27))
  have BK1 := Lib.hid (Blk.new w 27 [.int .i64 k, .string n, .int .i64 vl, .string fl, .slice Al al.length cl, .int .i64 vr, .string fr, .slice Ar ar.length cr, .slice A ts.length c])
  simp only [List.toArray] at BK1
  generalize Fm.miniR (Fm.mk k n (.mk vl fl al) (.mk vr fr ar) ts) = mr at *
  generalize Fm.miniE (Fm.mk k n (.mk vl fl al) (.mk vr fr ar) ts) = me at *
  generalize Fm.nnfR (Fm.mk k n (.mk vl fl al) (.mk vr fr ar) ts) = nr at *
  generalize Fm.nnfE (Fm.mk k n (.mk vl fl al) (.mk vr fr ar) ts) = ne at *
  clear hl hr hs hN hb0
  go_enter Tryz.func4, Tryz.ntmps4
  go_upto_region 1 with (fail)
  generalize w.alloc (.cells #[.int .i64 k, .string n, .int .i64 vl, .string fl, .slice Al al.length cl, .int .i64 vr, .string fr, .slice Ar ar.length cr, .slice A ts.length c] 27) = W at *
  have tk := BK1.out.nine; have z0 := tk.c0; have z1 := tk.c1; have z2 := tk.c2; have z3 := tk.c3; have z4 := tk.c4; have z5 := tk.c5; have z6 := tk.c6; have z7 := tk.c7; have z8 := tk.c8; clear tk
  go_wp2_with fail
  refine (HMI.out _ HB0.out).mono ?_
  rintro e wv ⟨hres, hbv⟩
  obtain ⟨gk1, gn1, gvl1, gfl1, gal1, gvr1, gfr1, gar1, gts1, gAl1, gcl1, gAr1, gcr1, gA1, gc1, hg1, rfl, gr1⟩ := hres.all
  clear hres
  go_upto_region 2 with (fail)
  have hBv := bel_go HB0.out hbv
  have HB1 := Lib.hid (Below.alloc hBv hBv.size (.cells #[.int .i64 gk1, .string gn1, .int .i64 gvl1, .string gfl1, .slice gAl1 gal1.length gcl1, .int .i64 gvr1, .string gfr1, .slice gAr1 gar1.length gcr1, .slice gA1 gts1.length gc1] 27))
  have GR1 := Lib.hid (r3 gr1 (Stay.al (.cells #[.int .i64 gk1, .string gn1, .int .i64 gvl1, .string gfl1, .slice gAl1 gal1.length gcl1, .int .i64 gvr1, .string gfr1, .slice gAr1 gar1.length gcr1, .slice gA1 gts1.length gc1] 27)))
  have B1 := Lib.hid (Blk.new wv 27 [.int .i64 gk1, .string gn1, .int .i64 gvl1, .string gfl1, .slice gAl1 gal1.length gcl1, .int .i64 gvr1, .string gfr1, .slice gAr1 gar1.length gcr1, .slice gA1 gts1.length gc1])
  have HG1 := Lib.hid hg1
  have BK2 := Lib.hid ((Blk.go BK1.out hbv).alloc (.cells #[.int .i64 gk1, .string gn1, .int .i64 gvl1, .string gfl1, .slice gAl1 gal1.length gcl1, .int .i64 gvr1, .string gfr1, .slice gAr1 gar1.length gcr1, .slice gA1 gts1.length gc1] 27))
  simp only [List.toArray] at B1
  generalize hgz : wv.heap.size = g4 at *
  generalize hWz : wv.alloc (.cells #[.int .i64 gk1, .string gn1, .int .i64 gvl1, .string gfl1, .slice gAl1 gal1.length gcl1, .int .i64 gvr1, .string gfr1, .slice gAr1 gar1.length gcr1, .slice gA1 gts1.length gc1] 27) = W4 at *
  clear hgz hWz hbv hBv gr1 hg1
  clear z0 z1 z2 z3 z4 z5 z6 z7 z8 HB0 BK1 HMI
  have tk := BK2.out.nine; have z0 := tk.c0; have z1 := tk.c1; have z2 := tk.c2; have z3 := tk.c3; have z4 := tk.c4; have z5 := tk.c5; have z6 := tk.c6; have z7 := tk.c7; have z8 := tk.c8; clear tk
  go_wp2_with fail
  refine (HRM.out _ HB1.out).mono ?_
  rintro e wv ⟨hres, hbv⟩
  obtain ⟨gk2, gn2, gvl2, gfl2, gal2, gvr2, gfr2, gar2, gts2, gAl2, gcl2, gAr2, gcr2, gA2, gc2, hg2, rfl, gr2⟩ := hres.all
  clear hres
  go_upto_region 3 with (fail)
  have hBv := bel_go HB1.out hbv
  have HB2 := Lib.hid (Below.alloc hBv hBv.size (.cells #[.int .i64 gk2, .string gn2, .int .i64 gvl2, .string gfl2, .slice gAl2 gal2.length gcl2, .int .i64 gvr2, .string gfr2, .slice gAr2 gar2.length gcr2, .slice gA2 gts2.length gc2] 27))
  have GR2 := Lib.hid (r3 gr2 (Stay.al (.cells #[.int .i64 gk2, .string gn2, .int .i64 gvl2, .string gfl2, .slice gAl2 gal2.length gcl2, .int .i64 gvr2, .string gfr2, .slice gAr2 gar2.length gcr2, .slice gA2 gts2.length gc2] 27)))
  have B2 := Lib.hid (Blk.new wv 27 [.int .i64 gk2, .string gn2, .int .i64 gvl2, .string gfl2, .slice gAl2 gal2.length gcl2, .int .i64 gvr2, .string gfr2, .slice gAr2 gar2.length gcr2, .slice gA2 gts2.length gc2])
  have HG2 := Lib.hid hg2
  have BK3 := Lib.hid ((Blk.go BK2.out hbv).alloc (.cells #[.int .i64 gk2, .string gn2, .int .i64 gvl2, .string gfl2, .slice gAl2 gal2.length gcl2, .int .i64 gvr2, .string gfr2, .slice gAr2 gar2.length gcr2, .slice gA2 gts2.length gc2] 27))
  have C1 := Lib.hid ((Blk.go B1.out hbv).alloc (.cells #[.int .i64 gk2, .string gn2, .int .i64 gvl2, .string gfl2, .slice gAl2 gal2.length gcl2, .int .i64 gvr2, .string gfr2, .slice gAr2 gar2.length gcr2, .slice gA2 gts2.length gc2] 27))
  have D1 := Lib.hid (r3 GR1.out ((Stay.below hbv).trans (Stay.al (.cells #[.int .i64 gk2, .string gn2, .int .i64 gvl2, .string gfl2, .slice gAl2 gal2.length gcl2, .int .i64 gvr2, .string gfr2, .slice gAr2 gar2.length gcr2, .slice gA2 gts2.length gc2] 27))))
  simp only [List.toArray] at B2
  generalize hgz : wv.heap.size = g6 at *
  generalize hWz : wv.alloc (.cells #[.int .i64 gk2, .string gn2, .int .i64 gvl2, .string gfl2, .slice gAl2 gal2.length gcl2, .int .i64 gvr2, .string gfr2, .slice gAr2 gar2.length gcr2, .slice gA2 gts2.length gc2] 27) = W6 at *
  clear hgz hWz hbv hBv gr2 hg2
  clear z0 z1 z2 z3 z4 z5 z6 z7 z8 HB1 BK2 B1 GR1 HRM
  have tk := BK3.out.nine; have z0 := tk.c0; have z1 := tk.c1; have z2 := tk.c2; have z3 := tk.c3; have z4 := tk.c4; have z5 := tk.c5; have z6 := tk.c6; have z7 := tk.c7; have z8 := tk.c8; clear tk
  go_wp2_with fail
  refine (HRN.out _ HB2.out).mono ?_
  rintro e wv ⟨hres, hbv⟩
  obtain ⟨gk3, gn3, gvl3, gfl3, gal3, gvr3, gfr3, gar3, gts3, gAl3, gcl3, gAr3, gcr3, gA3, gc3, hg3, rfl, gr3⟩ := hres.all
  clear hres
  go_upto_region 4 with (fail)
  have hBv := bel_go HB2.out hbv
  have HB3 := Lib.hid (Below.alloc hBv hBv.size (.cells #[.int .i64 gk3, .string gn3, .int .i64 gvl3, .string gfl3, .slice gAl3 gal3.length gcl3, .int .i64 gvr3, .string gfr3, .slice gAr3 gar3.length gcr3, .slice gA3 gts3.length gc3] 27))
  have GR3 := Lib.hid (r3 gr3 (Stay.al (.cells #[.int .i64 gk3, .string gn3, .int .i64 gvl3, .string gfl3, .slice gAl3 gal3.length gcl3, .int .i64 gvr3, .string gfr3, .slice gAr3 gar3.length gcr3, .slice gA3 gts3.length gc3] 27)))
  have B3 := Lib.hid (Blk.new wv 27 [.int .i64 gk3, .string gn3, .int .i64 gvl3, .string gfl3, .slice gAl3 gal3.length gcl3, .int .i64 gvr3, .string gfr3, .slice gAr3 gar3.length gcr3, .slice gA3 gts3.length gc3])
  have HG3 := Lib.hid hg3
  have C2 := Lib.hid ((Blk.go B2.out hbv).alloc (.cells #[.int .i64 gk3, .string gn3, .int .i64 gvl3, .string gfl3, .slice gAl3 gal3.length gcl3, .int .i64 gvr3, .string gfr3, .slice gAr3 gar3.length gcr3, .slice gA3 gts3.length gc3] 27))
  have E1 := Lib.hid ((Blk.go C1.out hbv).alloc (.cells #[.int .i64 gk3, .string gn3, .int .i64 gvl3, .string gfl3, .slice gAl3 gal3.length gcl3, .int .i64 gvr3, .string gfr3, .slice gAr3 gar3.length gcr3, .slice gA3 gts3.length gc3] 27))
  have D2 := Lib.hid (r3 GR2.out ((Stay.below hbv).trans (Stay.al (.cells #[.int .i64 gk3, .string gn3, .int .i64 gvl3, .string gfl3, .slice gAl3 gal3.length gcl3, .int .i64 gvr3, .string gfr3, .slice gAr3 gar3.length gcr3, .slice gA3 gts3.length gc3] 27))))
  have F1 := Lib.hid (r3 D1.out ((Stay.below hbv).trans (Stay.al (.cells #[.int .i64 gk3, .string gn3, .int .i64 gvl3, .string gfl3, .slice gAl3 gal3.length gcl3, .int .i64 gvr3, .string gfr3, .slice gAr3 gar3.length gcr3, .slice gA3 gts3.length gc3] 27))))
  simp only [List.toArray] at B3
  generalize hgz : wv.heap.size = g8 at *
  generalize hWz : wv.alloc (.cells #[.int .i64 gk3, .string gn3, .int .i64 gvl3, .string gfl3, .slice gAl3 gal3.length gcl3, .int .i64 gvr3, .string gfr3, .slice gAr3 gar3.length gcr3, .slice gA3 gts3.length gc3] 27) = W8 at *
  clear hgz hWz hbv hBv gr3 hg3
  clear z0 z1 z2 z3 z4 z5 z6 z7 z8 HB2 BK3 B2 C1 GR2 D1 HRN
  have q : (me == me) = true := by simp
  by_cases hn : ne = 0
  rotate_left
  · have q1 : (ne == 0) = false := by simpa using hn
    clear hn HS HG3 GR3 B3
    have hsm := rfsame _ gk1 gn1 gvl1 gfl1 gal1 gvr1 gfr1 gar1 gts1 gk2 gn2 gvl2 gfl2 gal2 gvr2 gfr2 gar2 gts2 All All W8 gAl1 gcl1 gAr1 gcr1 gA1 gc1 gAl2 gcl2 gAr2 gcr2 gA2 gc2 (Nat.le_refl _) F1.out.1 F1.out.2.1 F1.out.2.2 D2.out.1 D2.out.2.1 D2.out.2.2
    rw [show Fm.same (Fm.mk gk1 gn1 (.mk gvl1 gfl1 gal1) (.mk gvr1 gfr1 gar1) gts1) (Fm.mk gk2 gn2 (.mk gvl2 gfl2 gal2) (.mk gvr2 gfr2 gar2) gts2) = true by rw [← (HG1.out.symm.trans HG2.out)]; exact Fm.same_refl _] at hsm
    have HSM := Lib.hid hsm
    clear hsm
    clear HG1 HG2 F1 D2
    have tk := E1.out.nine; have m0 := tk.c0; have m1 := tk.c1; have m2 := tk.c2; have m3 := tk.c3; have m4 := tk.c4; have m5 := tk.c5; have m6 := tk.c6; have m7 := tk.c7; have m8 := tk.c8; clear tk
    have tk := C2.out.nine; have n0 := tk.c0; have n1 := tk.c1; have n2 := tk.c2; have n3 := tk.c3; have n4 := tk.c4; have n5 := tk.c5; have n6 := tk.c6; have n7 := tk.c7; have n8 := tk.c8; clear tk
    go_wp2_with fail
    refine HSM.out.mono ?_
    rintro e wz ⟨rfl, hbz⟩
    have HBZ := bel_go HB3.out hbz
    clear hbz HSM m0 m1 m2 m3 m4 m5 m6 m7 m8 n0 n1 n2 n3 n4 n5 n6 n7 n8
    go_wp2_with fail
    refine (alive_any _).mono ?_
    rintro e w9 ⟨rfl, hb9⟩
    have hB := bel_go HBZ hb9
    go_wp2_with fail
    exact bodyPost_ret (v := .bool true) (by simp [results, Tryz.results4]) rfl ⟨rfl, hB⟩
  · subst hn
    have hsd := HS.out rfl
    rw [HG3.out] at hsd
    obtain ⟨s1, s2, s3, s4, s5, s6, s7⟩ := hsd
    have hmb := mini_bounds2 (Nat.le_refl _) s1 s5 s3
    have HM3 := Lib.hid (fun w' (hb : Below W8.heap.size W8 w') => mini_at gk3 gn3 gvl3 gfl3 gal3 gvr3 gfr3 gar3 gts3 gAl3 gcl3 gAr3 gcr3 gA3 gc3 All w' (by omega) hmb.2 (GR3.out.1.stay (Stay.below hb)) (GR3.out.2.1.stay (Stay.below hb)) (GR3.out.2.2.stay (Stay.below hb)))
    have HR3 := Lib.hid (fun w' (hb : Below W8.heap.size W8 w') => rmini_at gk3 gn3 gvl3 gfl3 gal3 gvr3 gfr3 gar3 gts3 gAl3 gcl3 gAr3 gcr3 gA3 gc3 All w' hmb.1 hmb.2 (GR3.out.1.stay (Stay.below hb)) (GR3.out.2.1.stay (Stay.below hb)) (GR3.out.2.2.stay (Stay.below hb)))
    generalize Fm.miniR (Fm.mk gk3 gn3 (.mk gvl3 gfl3 gal3) (.mk gvr3 gfr3 gar3) gts3) = mx at *
    generalize Fm.miniE (Fm.mk gk3 gn3 (.mk gvl3 gfl3 gal3) (.mk gvr3 gfr3 gar3) gts3) = ex at *
    clear s1 s2 s3 s4 s5 s6 s7 hmb HS HG3
    have HBz := Lib.hid (Below.refl W8.heap.size W8)
    have q2 : (ex != ex) = false := by simp
    have tk := B3.out.nine; have z0 := tk.c0; have z1 := tk.c1; have z2 := tk.c2; have z3 := tk.c3; have z4 := tk.c4; have z5 := tk.c5; have z6 := tk.c6; have z7 := tk.c7; have z8 := tk.c8; clear tk
    go_wp2_with fail
    refine (HM3.out _ HBz.out).mono ?_
    rintro e wv ⟨hres, hbv⟩
    obtain ⟨gk4, gn4, gvl4, gfl4, gal4, gvr4, gfr4, gar4, gts4, gAl4, gcl4, gAr4, gcr4, gA4, gc4, hg4, rfl, gr4⟩ := hres.all
    clear hres
    go_upto_region 6 with (fail)
    have hBv := bel_go HBz.out hbv
    have HB4 := Lib.hid (Below.alloc hBv hBv.size (.cells #[.int .i64 gk4, .string gn4, .int .i64 gvl4, .string gfl4, .slice gAl4 gal4.length gcl4, .int .i64 gvr4, .string gfr4, .slice gAr4 gar4.length gcr4, .slice gA4 gts4.length gc4] 27))
    have GR4 := Lib.hid (r3 gr4 (Stay.al (.cells #[.int .i64 gk4, .string gn4, .int .i64 gvl4, .string gfl4, .slice gAl4 gal4.length gcl4, .int .i64 gvr4, .string gfr4, .slice gAr4 gar4.length gcr4, .slice gA4 gts4.length gc4] 27)))
    have B4 := Lib.hid (Blk.new wv 27 [.int .i64 gk4, .string gn4, .int .i64 gvl4, .string gfl4, .slice gAl4 gal4.length gcl4, .int .i64 gvr4, .string gfr4, .slice gAr4 gar4.length gcr4, .slice gA4 gts4.length gc4])
    have HG4 := Lib.hid hg4
    have P1 := Lib.hid ((Blk.go E1.out hbv).alloc (.cells #[.int .i64 gk4, .string gn4, .int .i64 gvl4, .string gfl4, .slice gAl4 gal4.length gcl4, .int .i64 gvr4, .string gfr4, .slice gAr4 gar4.length gcr4, .slice gA4 gts4.length gc4] 27))
    have P2 := Lib.hid ((Blk.go C2.out hbv).alloc (.cells #[.int .i64 gk4, .string gn4, .int .i64 gvl4, .string gfl4, .slice gAl4 gal4.length gcl4, .int .i64 gvr4, .string gfr4, .slice gAr4 gar4.length gcr4, .slice gA4 gts4.length gc4] 27))
    have P3 := Lib.hid ((Blk.go B3.out hbv).alloc (.cells #[.int .i64 gk4, .string gn4, .int .i64 gvl4, .string gfl4, .slice gAl4 gal4.length gcl4, .int .i64 gvr4, .string gfr4, .slice gAr4 gar4.length gcr4, .slice gA4 gts4.length gc4] 27))
    have Q1 := Lib.hid (r3 F1.out ((Stay.below hbv).trans (Stay.al (.cells #[.int .i64 gk4, .string gn4, .int .i64 gvl4, .string gfl4, .slice gAl4 gal4.length gcl4, .int .i64 gvr4, .string gfr4, .slice gAr4 gar4.length gcr4, .slice gA4 gts4.length gc4] 27))))
    have Q2 := Lib.hid (r3 D2.out ((Stay.below hbv).trans (Stay.al (.cells #[.int .i64 gk4, .string gn4, .int .i64 gvl4, .string gfl4, .slice gAl4 gal4.length gcl4, .int .i64 gvr4, .string gfr4, .slice gAr4 gar4.length gcr4, .slice gA4 gts4.length gc4] 27))))
    simp only [List.toArray] at B4
    generalize hgz : wv.heap.size = ga at *
    generalize hWz : wv.alloc (.cells #[.int .i64 gk4, .string gn4, .int .i64 gvl4, .string gfl4, .slice gAl4 gal4.length gcl4, .int .i64 gvr4, .string gfr4, .slice gAr4 gar4.length gcr4, .slice gA4 gts4.length gc4] 27) = W10 at *
    clear hgz hWz hbv hBv gr4 hg4
    clear z0 z1 z2 z3 z4 z5 z6 z7 z8 HBz E1 C2 B3 F1 D2 GR3 HM3
    have tk := P3.out.nine; have z0 := tk.c0; have z1 := tk.c1; have z2 := tk.c2; have z3 := tk.c3; have z4 := tk.c4; have z5 := tk.c5; have z6 := tk.c6; have z7 := tk.c7; have z8 := tk.c8; clear tk
    go_wp2_with fail
    refine (HR3.out _ HB4.out).mono ?_
    rintro e wv ⟨hres, hbv⟩
    obtain ⟨gk5, gn5, gvl5, gfl5, gal5, gvr5, gfr5, gar5, gts5, gAl5, gcl5, gAr5, gcr5, gA5, gc5, hg5, rfl, gr5⟩ := hres.all
    clear hres
    go_upto_region 7 with (fail)
    have hBv := bel_go HB4.out hbv
    have HB5 := Lib.hid (Below.alloc hBv hBv.size (.cells #[.int .i64 gk5, .string gn5, .int .i64 gvl5, .string gfl5, .slice gAl5 gal5.length gcl5, .int .i64 gvr5, .string gfr5, .slice gAr5 gar5.length gcr5, .slice gA5 gts5.length gc5] 27))
    have GR5 := Lib.hid (r3 gr5 (Stay.al (.cells #[.int .i64 gk5, .string gn5, .int .i64 gvl5, .string gfl5, .slice gAl5 gal5.length gcl5, .int .i64 gvr5, .string gfr5, .slice gAr5 gar5.length gcr5, .slice gA5 gts5.length gc5] 27)))
    have B5 := Lib.hid (Blk.new wv 27 [.int .i64 gk5, .string gn5, .int .i64 gvl5, .string gfl5, .slice gAl5 gal5.length gcl5, .int .i64 gvr5, .string gfr5, .slice gAr5 gar5.length gcr5, .slice gA5 gts5.length gc5])
    have HG5 := Lib.hid hg5
    have R1 := Lib.hid ((Blk.go P1.out hbv).alloc (.cells #[.int .i64 gk5, .string gn5, .int .i64 gvl5, .string gfl5, .slice gAl5 gal5.length gcl5, .int .i64 gvr5, .string gfr5, .slice gAr5 gar5.length gcr5, .slice gA5 gts5.length gc5] 27))
    have R2 := Lib.hid ((Blk.go P2.out hbv).alloc (.cells #[.int .i64 gk5, .string gn5, .int .i64 gvl5, .string gfl5, .slice gAl5 gal5.length gcl5, .int .i64 gvr5, .string gfr5, .slice gAr5 gar5.length gcr5, .slice gA5 gts5.length gc5] 27))
    have R4 := Lib.hid ((Blk.go B4.out hbv).alloc (.cells #[.int .i64 gk5, .string gn5, .int .i64 gvl5, .string gfl5, .slice gAl5 gal5.length gcl5, .int .i64 gvr5, .string gfr5, .slice gAr5 gar5.length gcr5, .slice gA5 gts5.length gc5] 27))
    have T1 := Lib.hid (r3 Q1.out ((Stay.below hbv).trans (Stay.al (.cells #[.int .i64 gk5, .string gn5, .int .i64 gvl5, .string gfl5, .slice gAl5 gal5.length gcl5, .int .i64 gvr5, .string gfr5, .slice gAr5 gar5.length gcr5, .slice gA5 gts5.length gc5] 27))))
    have T2 := Lib.hid (r3 Q2.out ((Stay.below hbv).trans (Stay.al (.cells #[.int .i64 gk5, .string gn5, .int .i64 gvl5, .string gfl5, .slice gAl5 gal5.length gcl5, .int .i64 gvr5, .string gfr5, .slice gAr5 gar5.length gcr5, .slice gA5 gts5.length gc5] 27))))
    have T4 := Lib.hid (r3 GR4.out ((Stay.below hbv).trans (Stay.al (.cells #[.int .i64 gk5, .string gn5, .int .i64 gvl5, .string gfl5, .slice gAl5 gal5.length gcl5, .int .i64 gvr5, .string gfr5, .slice gAr5 gar5.length gcr5, .slice gA5 gts5.length gc5] 27))))
    simp only [List.toArray] at B5
    generalize hgz : wv.heap.size = gb at *
    generalize hWz : wv.alloc (.cells #[.int .i64 gk5, .string gn5, .int .i64 gvl5, .string gfl5, .slice gAl5 gal5.length gcl5, .int .i64 gvr5, .string gfr5, .slice gAr5 gar5.length gcr5, .slice gA5 gts5.length gc5] 27) = W12 at *
    clear hgz hWz hbv hBv gr5 hg5
    clear z0 z1 z2 z3 z4 z5 z6 z7 z8 HB4 P1 P2 P3 B4 Q1 Q2 GR4 HR3
    have hsm := rfsame _ gk4 gn4 gvl4 gfl4 gal4 gvr4 gfr4 gar4 gts4 gk5 gn5 gvl5 gfl5 gal5 gvr5 gfr5 gar5 gts5 All All W12 gAl4 gcl4 gAr4 gcr4 gA4 gc4 gAl5 gcl5 gAr5 gcr5 gA5 gc5 (Nat.le_refl _) T4.out.1 T4.out.2.1 T4.out.2.2 GR5.out.1 GR5.out.2.1 GR5.out.2.2
    rw [show Fm.same (Fm.mk gk4 gn4 (.mk gvl4 gfl4 gal4) (.mk gvr4 gfr4 gar4) gts4) (Fm.mk gk5 gn5 (.mk gvl5 gfl5 gal5) (.mk gvr5 gfr5 gar5) gts5) = true by rw [← (HG4.out.symm.trans HG5.out)]; exact Fm.same_refl _] at hsm
    have HSM := Lib.hid hsm
    clear hsm
    clear HG4 HG5 T4 GR5
    have tk := R4.out.nine; have x0 := tk.c0; have x1 := tk.c1; have x2 := tk.c2; have x3 := tk.c3; have x4 := tk.c4; have x5 := tk.c5; have x6 := tk.c6; have x7 := tk.c7; have x8 := tk.c8; clear tk
    have tk := B5.out.nine; have y0 := tk.c0; have y1 := tk.c1; have y2 := tk.c2; have y3 := tk.c3; have y4 := tk.c4; have y5 := tk.c5; have y6 := tk.c6; have y7 := tk.c7; have y8 := tk.c8; clear tk
    go_wp2_with fail
    refine HSM.out.mono ?_
    rintro e wy ⟨rfl, hby⟩
    have HBY := Lib.hid (bel_go HB3.out (bel_go HB5.out hby))
    have X1 := Lib.hid (Blk.go R1.out hby)
    have X2 := Lib.hid (Blk.go R2.out hby)
    have Y1 := Lib.hid (r3 T1.out (Stay.below hby))
    have Y2 := Lib.hid (r3 T2.out (Stay.below hby))
    clear hby HSM x0 x1 x2 x3 x4 x5 x6 x7 x8 y0 y1 y2 y3 y4 y5 y6 y7 y8 R1 R2 R4 B5 T1 T2 HB3 HB5
    have hsm := rfsame _ gk1 gn1 gvl1 gfl1 gal1 gvr1 gfr1 gar1 gts1 gk2 gn2 gvl2 gfl2 gal2 gvr2 gfr2 gar2 gts2 All All wy gAl1 gcl1 gAr1 gcr1 gA1 gc1 gAl2 gcl2 gAr2 gcr2 gA2 gc2 (Nat.le_refl _) Y1.out.1 Y1.out.2.1 Y1.out.2.2 Y2.out.1 Y2.out.2.1 Y2.out.2.2
    rw [show Fm.same (Fm.mk gk1 gn1 (.mk gvl1 gfl1 gal1) (.mk gvr1 gfr1 gar1) gts1) (Fm.mk gk2 gn2 (.mk gvl2 gfl2 gal2) (.mk gvr2 gfr2 gar2) gts2) = true by rw [← (HG1.out.symm.trans HG2.out)]; exact Fm.same_refl _] at hsm
    have HSM := Lib.hid hsm
    clear hsm
    clear HG1 HG2 Y1 Y2
    have tk := X1.out.nine; have m0 := tk.c0; have m1 := tk.c1; have m2 := tk.c2; have m3 := tk.c3; have m4 := tk.c4; have m5 := tk.c5; have m6 := tk.c6; have m7 := tk.c7; have m8 := tk.c8; clear tk
    have tk := X2.out.nine; have n0 := tk.c0; have n1 := tk.c1; have n2 := tk.c2; have n3 := tk.c3; have n4 := tk.c4; have n5 := tk.c5; have n6 := tk.c6; have n7 := tk.c7; have n8 := tk.c8; clear tk
    go_wp2_with fail
    refine HSM.out.mono ?_
    rintro e wz ⟨rfl, hbz⟩
    have HBZ := bel_go HBY.out hbz
    clear hbz HSM m0 m1 m2 m3 m4 m5 m6 m7 m8 n0 n1 n2 n3 n4 n5 n6 n7 n8
    go_wp2_with fail
    refine (alive_any _).mono ?_
    rintro e w9 ⟨rfl, hb9⟩
    have hB := bel_go HBZ hb9
    go_wp2_with fail
    exact bodyPost_ret (v := .bool true) (by simp [results, Tryz.results4]) rfl ⟨rfl, hB⟩
end Go.Proofs.YtndjjnnljihmnaaGreat
