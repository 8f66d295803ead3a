/- The law NnfTwice: the walk. -/
import Derived.Test.YtndjjnnljihmnaaGmD
import Derived.Test.YtndjjnnljihmnaaGmF
namespace Go.Proofs.Ytndjjnnljihmnaa
open Go.RowKit
set_option linter.unusedVariables false
set_option linter.unusedSimpArgs false
theorem mini_said {M : Nat} {f : Fm} (h : f.miniE = 0) (hM : f.le M) : f.miniR.miniE = 0 ∧ f.miniR.miniR = f.miniR ∧ f.miniR.shape = true ∧ f.miniR.size ≤ 4000 ∧ f.miniR.le M := by
  obtain ⟨h1, h2, h3, h4⟩ := mini_zero h
  obtain ⟨e1, e2⟩ := mini_again h
  obtain ⟨s1, s2, _⟩ := right_zero h3
  exact ⟨e1, e2, by rw [h4]; exact s1, by rw [h4]; exact s2, by rw [h4]; exact Fm.mini_le f hM⟩
set_option maxRecDepth 100000 in
set_option maxHeartbeats 12800000 in
theorem twice_any (k : Int) (n : ByteArray) (vl : Int) (fl : ByteArray) (al : List Tm) (vr : Int) (fr : ByteArray) (ar : List Tm) (ts : List Fm) (Al : Option Addr) (cl : Nat) (Ar : Option Addr) (cr : Nat) (A : Option Addr) (c : Nat) (w : World) (hN : (Fm.mk k n (.mk vl fl al) (.mk vr fr ar) ts).wt ≤ 1048576) (hl : ST All w Al al.length cl al) (hr : ST All w Ar ar.length cr ar) (hs : SF All w A ts.length c ts) : Calls Try.prog 3 #[.agg #[.int .i64 k, .string n, .int .i64 vl, .string fl, .slice Al al.length cl, .int .i64 vr, .string fr, .slice Ar ar.length cr, .slice A ts.length c]] w fun e w' => e = .returned (.bool true) ∧ Below w.heap.size w w' := by
  have HNN := Lib.hid (fun w' (hb : Below w.heap.size w w') => nnf_any k n vl fl al vr fr ar ts Al cl Ar cr A c All w' (by omega) (hl.stay (Stay.below hb)) (hr.stay (Stay.below hb)) (hs.stay (Stay.below hb)))
  have HZ := Lib.hid (fun h : (Fm.mk k n (.mk vl fl al) (.mk vr fr ar) ts).nnfE ≠ 0 => show (Fm.mk k n (.mk vl fl al) (.mk vr fr ar) ts).nnfR = Fm.c 0 by unfold Fm.nnfR; rw [if_neg h])
  have HS := Lib.hid (fun h : (Fm.mk k n (.mk vl fl al) (.mk vr fr ar) ts).nnfE = 0 => nnf_said h hN)
  have HB0 := Lib.hid (Below.alloc (Below.refl _ w) (Nat.le_refl _) (.cells #[.int .i64 k, .string n, .int .i64 vl, .string fl, .slice Al al.length cl, .int .i64 vr, .string fr, .slice Ar ar.length cr, .slice A ts.length c] 27))
  have BK1 := Lib.hid (Blk.new w 27 [.int .i64 k, .string n, .int .i64 vl, .string fl, .slice Al al.length cl, .int .i64 vr, .string fr, .slice Ar ar.length cr, .slice A ts.length c])
  simp only [List.toArray] at BK1
  generalize Fm.nnfR (Fm.mk k n (.mk vl fl al) (.mk vr fr ar) ts) = res at *
  generalize Fm.nnfE (Fm.mk k n (.mk vl fl al) (.mk vr fr ar) ts) = en at *
  clear hl hr hs hN
  go_enter Try.func3, Try.ntmps3
  go_upto_region 1 with (fail)
  generalize w.alloc (.cells #[.int .i64 k, .string n, .int .i64 vl, .string fl, .slice Al al.length cl, .int .i64 vr, .string fr, .slice Ar ar.length cr, .slice A ts.length c] 27) = W at *
  have tk := BK1.out.nine; have z0 := tk.c0; have z1 := tk.c1; have z2 := tk.c2; have z3 := tk.c3; have z4 := tk.c4; have z5 := tk.c5; have z6 := tk.c6; have z7 := tk.c7; have z8 := tk.c8; clear tk
  go_wp2_with fail
  refine (HNN.out _ HB0.out).mono ?_
  rintro e wv ⟨hres, hbv⟩
  obtain ⟨gk1, gn1, gvl1, gfl1, gal1, gvr1, gfr1, gar1, gts1, gAl1, gcl1, gAr1, gcr1, gA1, gc1, hg1, rfl, gr1⟩ := hres.all
  clear hres
  go_upto_region 2 with (fail)
  have hBv := bel_go HB0.out hbv
  have HB1 := Lib.hid (Below.alloc hBv hBv.size (.cells #[.int .i64 gk1, .string gn1, .int .i64 gvl1, .string gfl1, .slice gAl1 gal1.length gcl1, .int .i64 gvr1, .string gfr1, .slice gAr1 gar1.length gcr1, .slice gA1 gts1.length gc1] 27))
  have GR1 := Lib.hid (r3 gr1 (Stay.al (.cells #[.int .i64 gk1, .string gn1, .int .i64 gvl1, .string gfl1, .slice gAl1 gal1.length gcl1, .int .i64 gvr1, .string gfr1, .slice gAr1 gar1.length gcr1, .slice gA1 gts1.length gc1] 27)))
  have B1 := Lib.hid (Blk.new wv 27 [.int .i64 gk1, .string gn1, .int .i64 gvl1, .string gfl1, .slice gAl1 gal1.length gcl1, .int .i64 gvr1, .string gfr1, .slice gAr1 gar1.length gcr1, .slice gA1 gts1.length gc1])
  have HG1 := Lib.hid hg1
  simp only [List.toArray] at B1
  generalize hgz : wv.heap.size = g4 at *
  generalize hWz : wv.alloc (.cells #[.int .i64 gk1, .string gn1, .int .i64 gvl1, .string gfl1, .slice gAl1 gal1.length gcl1, .int .i64 gvr1, .string gfr1, .slice gAr1 gar1.length gcr1, .slice gA1 gts1.length gc1] 27) = W4 at *
  clear hgz hWz hbv hBv gr1 hg1
  clear z0 z1 z2 z3 z4 z5 z6 z7 z8 HB0 BK1 HNN
  by_cases he : en = 0
  rotate_left
  · have hz : (Fm.mk gk1 gn1 (.mk gvl1 gfl1 gal1) (.mk gvr1 gfr1 gar1) gts1) = Fm.c 0 := HG1.out.symm.trans (HZ.out he)
    have hsm := rfsame _ gk1 gn1 gvl1 gfl1 gal1 gvr1 gfr1 gar1 gts1 0 ⟨#[]⟩ 0 ⟨#[]⟩ [] 0 ⟨#[]⟩ [] [] All All W4 gAl1 gcl1 gAr1 gcr1 gA1 gc1 none 0 none 0 none 0 (Nat.le_refl _) GR1.out.1 GR1.out.2.1 GR1.out.2.2 (ST.nil _ _ _) (ST.nil _ _ _) (SF.nil _ _ _)
    rw [show Fm.same (Fm.mk gk1 gn1 (.mk gvl1 gfl1 gal1) (.mk gvr1 gfr1 gar1) gts1) (.mk 0 ⟨#[]⟩ (.mk 0 ⟨#[]⟩ []) (.mk 0 ⟨#[]⟩ []) []) = true by rw [hz]; exact Fm.same_refl _] at hsm
    have HSM := Lib.hid hsm
    clear hsm hz HG1 GR1 HZ HS
    have q1 : (en == 0) = false := by simpa using he
    have q2 : (en != 0) = true := by simpa using he
    clear he
    have tk := B1.out.nine; have m0 := tk.c0; have m1 := tk.c1; have m2 := tk.c2; have m3 := tk.c3; have m4 := tk.c4; have m5 := tk.c5; have m6 := tk.c6; have m7 := tk.c7; have m8 := tk.c8; clear tk
    go_wp2_with fail
    refine HSM.out.mono ?_
    rintro e w8 ⟨rfl, hb8⟩
    have HB8 := Lib.hid (bel_go HB1.out hb8)
    clear hb8 HSM m0 m1 m2 m3 m4 m5 m6 m7 m8
    go_wp2_with fail
    refine (alive_any _).mono ?_
    rintro e w9 ⟨rfl, hb9⟩
    have hB := bel_go HB8.out hb9
    go_wp2_with fail
    exact bodyPost_ret (v := .bool true) (by simp [results, Try.results3]) rfl ⟨rfl, hB⟩
  have hsd := HS.out he
  subst he
  rw [HG1.out] at hsd
  obtain ⟨hsh, his, hsz, hdp, hle, hne, hnr⟩ := hsd
  clear HS HZ
  have hwt : (Fm.mk gk1 gn1 (.mk gvl1 gfl1 gal1) (.mk gvr1 gfr1 gar1) gts1).wt ≤ 4194316000 := Nat.le_trans (Fm.wt_le _ hsh hle) (by have := Nat.mul_le_mul hsz (Nat.le_refl (1048576 + 3)); omega)
  have hmb := mini_bounds (Nat.le_refl _) hsh hle hsz
  have HMS := Lib.hid (fun h : (Fm.mk gk1 gn1 (.mk gvl1 gfl1 gal1) (.mk gvr1 gfr1 gar1) gts1).miniE = 0 => mini_said h hle)
  have HN2 := Lib.hid (fun w' (hb : Below W4.heap.size W4 w') => nnf_any gk1 gn1 gvl1 gfl1 gal1 gvr1 gfr1 gar1 gts1 gAl1 gcl1 gAr1 gcr1 gA1 gc1 All w' (by omega) (GR1.out.1.stay (Stay.below hb)) (GR1.out.2.1.stay (Stay.below hb)) (GR1.out.2.2.stay (Stay.below hb)))
  have HM2 := Lib.hid (fun w' (hb : Below W4.heap.size W4 w') => mini_at gk1 gn1 gvl1 gfl1 gal1 gvr1 gfr1 gar1 gts1 gAl1 gcl1 gAr1 gcr1 gA1 gc1 All w' hmb.1 hmb.2 (GR1.out.1.stay (Stay.below hb)) (GR1.out.2.1.stay (Stay.below hb)) (GR1.out.2.2.stay (Stay.below hb)))
  have HI2 := Lib.hid (fun w' (hb : Below W4.heap.size W4 w') => ris0 4398046511 gk1 gn1 gvl1 gfl1 gal1 gvr1 gfr1 gar1 gts1 All w' gAl1 gcl1 gAr1 gcr1 gA1 gc1 hmb.2 (by decide) hsh (GR1.out.1.stay (Stay.below hb)) (GR1.out.2.1.stay (Stay.below hb)) (GR1.out.2.2.stay (Stay.below hb)))
  rw [hne, hnr] at HN2
  rw [his] at HI2
  clear hsh his hsz hdp hle hne hnr hwt hmb
  have HBa := Lib.hid (Below.refl W4.heap.size W4)
  have q : ((0 : Int) != 0) = false := rfl
  generalize hmr : Fm.miniR (Fm.mk gk1 gn1 (.mk gvl1 gfl1 gal1) (.mk gvr1 gfr1 gar1) gts1) = mr at *
  generalize hme : Fm.miniE (Fm.mk gk1 gn1 (.mk gvl1 gfl1 gal1) (.mk gvr1 gfr1 gar1) gts1) = me at *
  clear hmr hme
  have tk := B1.out.nine; have z0 := tk.c0; have z1 := tk.c1; have z2 := tk.c2; have z3 := tk.c3; have z4 := tk.c4; have z5 := tk.c5; have z6 := tk.c6; have z7 := tk.c7; have z8 := tk.c8; clear tk
  go_wp2_with fail
  refine (HN2.out _ HBa.out).mono ?_
  rintro e wv ⟨hres, hbv⟩
  obtain ⟨gk2, gn2, gvl2, gfl2, gal2, gvr2, gfr2, gar2, gts2, gAl2, gcl2, gAr2, gcr2, gA2, gc2, hg2, rfl, gr2⟩ := hres.all
  clear hres
  go_upto_region 5 with (fail)
  have hBv := bel_go HBa.out hbv
  have HB2 := Lib.hid (Below.alloc hBv hBv.size (.cells #[.int .i64 gk2, .string gn2, .int .i64 gvl2, .string gfl2, .slice gAl2 gal2.length gcl2, .int .i64 gvr2, .string gfr2, .slice gAr2 gar2.length gcr2, .slice gA2 gts2.length gc2] 27))
  have GR2 := Lib.hid (r3 gr2 (Stay.al (.cells #[.int .i64 gk2, .string gn2, .int .i64 gvl2, .string gfl2, .slice gAl2 gal2.length gcl2, .int .i64 gvr2, .string gfr2, .slice gAr2 gar2.length gcr2, .slice gA2 gts2.length gc2] 27)))
  have B2 := Lib.hid (Blk.new wv 27 [.int .i64 gk2, .string gn2, .int .i64 gvl2, .string gfl2, .slice gAl2 gal2.length gcl2, .int .i64 gvr2, .string gfr2, .slice gAr2 gar2.length gcr2, .slice gA2 gts2.length gc2])
  have HG2 := Lib.hid hg2
  have P1 := Lib.hid ((Blk.go B1.out hbv).alloc (.cells #[.int .i64 gk2, .string gn2, .int .i64 gvl2, .string gfl2, .slice gAl2 gal2.length gcl2, .int .i64 gvr2, .string gfr2, .slice gAr2 gar2.length gcr2, .slice gA2 gts2.length gc2] 27))
  have Q1 := Lib.hid (r3 GR1.out ((Stay.below hbv).trans (Stay.al (.cells #[.int .i64 gk2, .string gn2, .int .i64 gvl2, .string gfl2, .slice gAl2 gal2.length gcl2, .int .i64 gvr2, .string gfr2, .slice gAr2 gar2.length gcr2, .slice gA2 gts2.length gc2] 27))))
  simp only [List.toArray] at B2
  generalize hgz : wv.heap.size = g6 at *
  generalize hWz : wv.alloc (.cells #[.int .i64 gk2, .string gn2, .int .i64 gvl2, .string gfl2, .slice gAl2 gal2.length gcl2, .int .i64 gvr2, .string gfr2, .slice gAr2 gar2.length gcr2, .slice gA2 gts2.length gc2] 27) = W6 at *
  clear hgz hWz hbv hBv gr2 hg2
  clear z0 z1 z2 z3 z4 z5 z6 z7 z8 B1 GR1 HN2
  have tk := P1.out.nine; have z0 := tk.c0; have z1 := tk.c1; have z2 := tk.c2; have z3 := tk.c3; have z4 := tk.c4; have z5 := tk.c5; have z6 := tk.c6; have z7 := tk.c7; have z8 := tk.c8; clear tk
  go_wp2_with fail
  refine (HM2.out _ HB2.out).mono ?_
  rintro e wv ⟨hres, hbv⟩
  obtain ⟨gk4, gn4, gvl4, gfl4, gal4, gvr4, gfr4, gar4, gts4, gAl4, gcl4, gAr4, gcr4, gA4, gc4, hg4, rfl, gr4⟩ := hres.all
  clear hres
  go_upto_region 6 with (fail)
  have hBv := bel_go HB2.out hbv
  have HB4 := Lib.hid (Below.alloc hBv hBv.size (.cells #[.int .i64 gk4, .string gn4, .int .i64 gvl4, .string gfl4, .slice gAl4 gal4.length gcl4, .int .i64 gvr4, .string gfr4, .slice gAr4 gar4.length gcr4, .slice gA4 gts4.length gc4] 27))
  have GR4 := Lib.hid (r3 gr4 (Stay.al (.cells #[.int .i64 gk4, .string gn4, .int .i64 gvl4, .string gfl4, .slice gAl4 gal4.length gcl4, .int .i64 gvr4, .string gfr4, .slice gAr4 gar4.length gcr4, .slice gA4 gts4.length gc4] 27)))
  have B4 := Lib.hid (Blk.new wv 27 [.int .i64 gk4, .string gn4, .int .i64 gvl4, .string gfl4, .slice gAl4 gal4.length gcl4, .int .i64 gvr4, .string gfr4, .slice gAr4 gar4.length gcr4, .slice gA4 gts4.length gc4])
  have HG4 := Lib.hid hg4
  have R1 := Lib.hid ((Blk.go P1.out hbv).alloc (.cells #[.int .i64 gk4, .string gn4, .int .i64 gvl4, .string gfl4, .slice gAl4 gal4.length gcl4, .int .i64 gvr4, .string gfr4, .slice gAr4 gar4.length gcr4, .slice gA4 gts4.length gc4] 27))
  have R2 := Lib.hid ((Blk.go B2.out hbv).alloc (.cells #[.int .i64 gk4, .string gn4, .int .i64 gvl4, .string gfl4, .slice gAl4 gal4.length gcl4, .int .i64 gvr4, .string gfr4, .slice gAr4 gar4.length gcr4, .slice gA4 gts4.length gc4] 27))
  have T1 := Lib.hid (r3 Q1.out ((Stay.below hbv).trans (Stay.al (.cells #[.int .i64 gk4, .string gn4, .int .i64 gvl4, .string gfl4, .slice gAl4 gal4.length gcl4, .int .i64 gvr4, .string gfr4, .slice gAr4 gar4.length gcr4, .slice gA4 gts4.length gc4] 27))))
  have T2 := Lib.hid (r3 GR2.out ((Stay.below hbv).trans (Stay.al (.cells #[.int .i64 gk4, .string gn4, .int .i64 gvl4, .string gfl4, .slice gAl4 gal4.length gcl4, .int .i64 gvr4, .string gfr4, .slice gAr4 gar4.length gcr4, .slice gA4 gts4.length gc4] 27))))
  simp only [List.toArray] at B4
  generalize hgz : wv.heap.size = g8 at *
  generalize hWz : wv.alloc (.cells #[.int .i64 gk4, .string gn4, .int .i64 gvl4, .string gfl4, .slice gAl4 gal4.length gcl4, .int .i64 gvr4, .string gfr4, .slice gAr4 gar4.length gcr4, .slice gA4 gts4.length gc4] 27) = W8 at *
  clear hgz hWz hbv hBv gr4 hg4
  clear z0 z1 z2 z3 z4 z5 z6 z7 z8 P1 B2 Q1 GR2 HM2
  have tk := R1.out.nine; have z0 := tk.c0; have z1 := tk.c1; have z2 := tk.c2; have z3 := tk.c3; have z4 := tk.c4; have z5 := tk.c5; have z6 := tk.c6; have z7 := tk.c7; have z8 := tk.c8; clear tk
  go_wp2_with fail
  refine (HI2.out _ HB4.out).mono ?_
  rintro e wi ⟨rfl, hbi⟩
  have HB5 := Lib.hid (bel_go HB4.out hbi)
  have U1 := Lib.hid (Blk.go R1.out hbi)
  have U2 := Lib.hid (Blk.go R2.out hbi)
  have U4 := Lib.hid (Blk.go B4.out hbi)
  have V1 := Lib.hid (r3 T1.out (Stay.below hbi))
  have V2 := Lib.hid (r3 T2.out (Stay.below hbi))
  have V4 := Lib.hid (r3 GR4.out (Stay.below hbi))
  clear z0 z1 z2 z3 z4 z5 z6 z7 z8 hbi R1 R2 B4 T1 T2 GR4 HI2
  have hsm := rfsame _ gk1 gn1 gvl1 gfl1 gal1 gvr1 gfr1 gar1 gts1 gk2 gn2 gvl2 gfl2 gal2 gvr2 gfr2 gar2 gts2 All All wi gAl1 gcl1 gAr1 gcr1 gA1 gc1 gAl2 gcl2 gAr2 gcr2 gA2 gc2 (Nat.le_refl _) V1.out.1 V1.out.2.1 V1.out.2.2 V2.out.1 V2.out.2.1 V2.out.2.2
  rw [show Fm.same (Fm.mk gk1 gn1 (.mk gvl1 gfl1 gal1) (.mk gvr1 gfr1 gar1) gts1) (Fm.mk gk2 gn2 (.mk gvl2 gfl2 gal2) (.mk gvr2 gfr2 gar2) gts2) = true by rw [← HG2.out]; exact Fm.same_refl _] at hsm
  have HSM := Lib.hid hsm
  clear hsm
  clear HG2 V1 V2
  have tk := U1.out.nine; have z0 := tk.c0; have z1 := tk.c1; have z2 := tk.c2; have z3 := tk.c3; have z4 := tk.c4; have z5 := tk.c5; have z6 := tk.c6; have z7 := tk.c7; have z8 := tk.c8; clear tk
  have tk := U2.out.nine; have y0 := tk.c0; have y1 := tk.c1; have y2 := tk.c2; have y3 := tk.c3; have y4 := tk.c4; have y5 := tk.c5; have y6 := tk.c6; have y7 := tk.c7; have y8 := tk.c8; clear tk
  go_wp2_with fail
  refine HSM.out.mono ?_
  rintro e ws ⟨rfl, hbs⟩
  have HBw := Lib.hid (bel_go HB1.out (bel_go HB5.out hbs))
  have BM := Lib.hid (Blk.go U4.out hbs)
  have GM := Lib.hid (r3 V4.out (Stay.below hbs))
  clear z0 z1 z2 z3 z4 z5 z6 z7 z8 y0 y1 y2 y3 y4 y5 y6 y7 y8 hbs U1 U2 U4 V4 HSM HB5 HB4 HB2 HB1 HBa
  by_cases hm : me = 0
  rotate_left
  · have q3 : (me == 0) = false := by simpa using hm
    have q4 : (me != 0) = true := by simpa using hm
    clear hm
    go_wp2_with fail
    refine (alive_any _).mono ?_
    rintro e w9 ⟨rfl, hb9⟩
    have hB := bel_go HBw.out hb9
    go_wp2_with fail
    exact bodyPost_ret (v := .bool true) (by simp [results, Try.results3]) rfl ⟨rfl, hB⟩
  subst hm
  have hms := HMS.out rfl
  rw [HG4.out] at hms
  obtain ⟨m1, m2, m3, m4, m5⟩ := hms
  have hmb := mini_bounds (Nat.le_refl _) m3 m5 m4
  have HM4 := Lib.hid (mini_at gk4 gn4 gvl4 gfl4 gal4 gvr4 gfr4 gar4 gts4 gAl4 gcl4 gAr4 gcr4 gA4 gc4 All ws hmb.1 hmb.2 GM.out.1 GM.out.2.1 GM.out.2.2)
  rw [m1, m2] at HM4
  clear m1 m2 m3 m4 m5 hmb HMS HG4
  have HBs := Lib.hid (Below.refl ws.heap.size ws)
  have tk := BM.out.nine; have z0 := tk.c0; have z1 := tk.c1; have z2 := tk.c2; have z3 := tk.c3; have z4 := tk.c4; have z5 := tk.c5; have z6 := tk.c6; have z7 := tk.c7; have z8 := tk.c8; clear tk
  go_wp2_with fail
  refine (HM4.out).mono ?_
  rintro e wv ⟨hres, hbv⟩
  obtain ⟨gk6, gn6, gvl6, gfl6, gal6, gvr6, gfr6, gar6, gts6, gAl6, gcl6, gAr6, gcr6, gA6, gc6, hg6, rfl, gr6⟩ := hres.all
  clear hres
  go_upto_region 11 with (fail)
  have hBv := bel_go HBs.out hbv
  have HB6 := Lib.hid (Below.alloc hBv hBv.size (.cells #[.int .i64 gk6, .string gn6, .int .i64 gvl6, .string gfl6, .slice gAl6 gal6.length gcl6, .int .i64 gvr6, .string gfr6, .slice gAr6 gar6.length gcr6, .slice gA6 gts6.length gc6] 27))
  have GR6 := Lib.hid (r3 gr6 (Stay.al (.cells #[.int .i64 gk6, .string gn6, .int .i64 gvl6, .string gfl6, .slice gAl6 gal6.length gcl6, .int .i64 gvr6, .string gfr6, .slice gAr6 gar6.length gcr6, .slice gA6 gts6.length gc6] 27)))
  have B6 := Lib.hid (Blk.new wv 27 [.int .i64 gk6, .string gn6, .int .i64 gvl6, .string gfl6, .slice gAl6 gal6.length gcl6, .int .i64 gvr6, .string gfr6, .slice gAr6 gar6.length gcr6, .slice gA6 gts6.length gc6])
  have HG6 := Lib.hid hg6
  have X4 := Lib.hid ((Blk.go BM.out hbv).alloc (.cells #[.int .i64 gk6, .string gn6, .int .i64 gvl6, .string gfl6, .slice gAl6 gal6.length gcl6, .int .i64 gvr6, .string gfr6, .slice gAr6 gar6.length gcr6, .slice gA6 gts6.length gc6] 27))
  have Y4 := Lib.hid (r3 GM.out ((Stay.below hbv).trans (Stay.al (.cells #[.int .i64 gk6, .string gn6, .int .i64 gvl6, .string gfl6, .slice gAl6 gal6.length gcl6, .int .i64 gvr6, .string gfr6, .slice gAr6 gar6.length gcr6, .slice gA6 gts6.length gc6] 27))))
  simp only [List.toArray] at B6
  generalize hgz : wv.heap.size = ga at *
  generalize hWz : wv.alloc (.cells #[.int .i64 gk6, .string gn6, .int .i64 gvl6, .string gfl6, .slice gAl6 gal6.length gcl6, .int .i64 gvr6, .string gfr6, .slice gAr6 gar6.length gcr6, .slice gA6 gts6.length gc6] 27) = Wa at *
  clear hgz hWz hbv hBv gr6 hg6
  clear z0 z1 z2 z3 z4 z5 z6 z7 z8 BM GM HM4 HBs
  have hsm := rfsame _ gk4 gn4 gvl4 gfl4 gal4 gvr4 gfr4 gar4 gts4 gk6 gn6 gvl6 gfl6 gal6 gvr6 gfr6 gar6 gts6 All All Wa gAl4 gcl4 gAr4 gcr4 gA4 gc4 gAl6 gcl6 gAr6 gcr6 gA6 gc6 (Nat.le_refl _) Y4.out.1 Y4.out.2.1 Y4.out.2.2 GR6.out.1 GR6.out.2.1 GR6.out.2.2
  rw [show Fm.same (Fm.mk gk4 gn4 (.mk gvl4 gfl4 gal4) (.mk gvr4 gfr4 gar4) gts4) (Fm.mk gk6 gn6 (.mk gvl6 gfl6 gal6) (.mk gvr6 gfr6 gar6) gts6) = true by rw [← HG6.out]; exact Fm.same_refl _] at hsm
  have HSM := Lib.hid hsm
  clear hsm
  clear HG6 Y4 GR6
  have tk := X4.out.nine; have z0 := tk.c0; have z1 := tk.c1; have z2 := tk.c2; have z3 := tk.c3; have z4 := tk.c4; have z5 := tk.c5; have z6 := tk.c6; have z7 := tk.c7; have z8 := tk.c8; clear tk
  have tk := B6.out.nine; have y0 := tk.c0; have y1 := tk.c1; have y2 := tk.c2; have y3 := tk.c3; have y4 := tk.c4; have y5 := tk.c5; have y6 := tk.c6; have y7 := tk.c7; have y8 := tk.c8; clear tk
  go_wp2_with fail
  refine HSM.out.mono ?_
  rintro e wt ⟨rfl, hbt⟩
  have HBt := Lib.hid (bel_go HBw.out (bel_go HB6.out hbt))
  clear z0 z1 z2 z3 z4 z5 z6 z7 z8 y0 y1 y2 y3 y4 y5 y6 y7 y8 hbt
  go_wp2_with fail
  refine (alive_any _).mono ?_
  rintro e w9 ⟨rfl, hb9⟩
  have hB := bel_go HBt.out hb9
  go_wp2_with fail
  exact bodyPost_ret (v := .bool true) (by simp [results, Try.results3]) rfl ⟨rfl, hB⟩
end Go.Proofs.Ytndjjnnljihmnaa
