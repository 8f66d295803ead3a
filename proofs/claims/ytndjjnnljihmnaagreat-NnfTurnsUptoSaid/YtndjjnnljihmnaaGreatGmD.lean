/- The law NnfTurns: the walk. -/
import Derived.Test.YtndjjnnljihmnaaGreatGmC
import Derived.Test.YtndjjnnljihmnaaGreatGmB
import Derived.Test.YtndjjnnljihmnaaGreatGmO
namespace Go.Proofs.YtndjjnnljihmnaaGreat
open Go.RowKit
set_option linter.unusedVariables false
set_option linter.unusedSimpArgs false
theorem seq_refl (a : ByteArray) : seq a a = true := by unfold seq; simp
mutual
theorem Tm.same_refl : ∀ t : Tm, t.same t = true
  | .mk v f ts => by rw [Tm.same, seq_refl, Tm.sames_refl ts]; simp
theorem Tm.sames_refl : ∀ ts : List Tm, Tm.sames ts ts = true
  | [] => by rw [Tm.sames]
  | t :: r => by rw [Tm.sames, Tm.same_refl t, Tm.sames_refl r]; rfl
end
mutual
theorem Fm.same_refl : ∀ t : Fm, t.same t = true
  | .mk k n l r ts => by rw [Fm.same, seq_refl, l.same_refl, r.same_refl, Fm.sames_refl ts]; simp
theorem Fm.sames_refl : ∀ ts : List Fm, Fm.sames ts ts = true
  | [] => by rw [Fm.sames]
  | t :: r => by rw [Fm.sames, Fm.same_refl t, Fm.sames_refl r]; rfl
end
theorem NRes.all {S : Nat → Prop} {w : World} {g : Fm} {en : Int} {e : Ending} (h : NRes S w g en e) : NRes All w g en e := h.lift (Stay.mono fun _ _ => trivial)
set_option maxRecDepth 100000 in
set_option maxHeartbeats 12800000 in
theorem turns_any (k : Int) (n : ByteArray) (vl : Int) (fl : ByteArray) (al : List Tm) (vr : Int) (fr : ByteArray) (ar : List Tm) (ts : List Fm) (Al : Option Addr) (cl : Nat) (Ar : Option Addr) (cr : Nat) (A : Option Addr) (c : Nat) (w : World) (hN : (Fm.mk k n (.mk vl fl al) (.mk vr fr ar) ts).wt ≤ 1048576) (hl : ST All w Al al.length cl al) (hr : ST All w Ar ar.length cr ar) (hs : SF All w A ts.length c ts) : Calls Tryz.prog 3 #[.agg #[.int .i64 k, .string n, .int .i64 vl, .string fl, .slice Al al.length cl, .int .i64 vr, .string fr, .slice Ar ar.length cr, .slice A ts.length c]] w fun e w' => e = .returned (.bool true) ∧ Below w.heap.size w w' := by
  have HNN := Lib.hid (fun w' (hb : Below w.heap.size w w') => nnf_any k n vl fl al vr fr ar ts Al cl Ar cr A c All w' (by omega) (hl.stay (Stay.below hb)) (hr.stay (Stay.below hb)) (hs.stay (Stay.below hb)))
  have HRN := Lib.hid (fun w' (hb : Below w.heap.size w w') => rnnf_any k n vl fl al vr fr ar ts Al cl Ar cr A c All w' (by omega) (hl.stay (Stay.below hb)) (hr.stay (Stay.below hb)) (hs.stay (Stay.below hb)))
  have HB0 := Lib.hid (Below.alloc (Below.refl _ w) (Nat.le_refl _) (.cells #[.int .i64 k, .string n, .int .i64 vl, .string fl, .slice Al al.length cl, .int .i64 vr, .string fr, .slice Ar ar.length cr, .slice A ts.length c] 27))
  have BK1 := Lib.hid (Blk.new w 27 [.int .i64 k, .string n, .int .i64 vl, .string fl, .slice Al al.length cl, .int .i64 vr, .string fr, .slice Ar ar.length cr, .slice A ts.length c])
  simp only [List.toArray] at BK1
  generalize Fm.nnfR (Fm.mk k n (.mk vl fl al) (.mk vr fr ar) ts) = res at *
  generalize Fm.nnfE (Fm.mk k n (.mk vl fl al) (.mk vr fr ar) ts) = en at *
  clear hl hr hs hN
  go_enter Tryz.func3, Tryz.ntmps3
  go_upto_region 1 with (fail)
  generalize w.alloc (.cells #[.int .i64 k, .string n, .int .i64 vl, .string fl, .slice Al al.length cl, .int .i64 vr, .string fr, .slice Ar ar.length cr, .slice A ts.length c] 27) = W at *
  have tk := BK1.out.nine; have z0 := tk.c0; have z1 := tk.c1; have z2 := tk.c2; have z3 := tk.c3; have z4 := tk.c4; have z5 := tk.c5; have z6 := tk.c6; have z7 := tk.c7; have z8 := tk.c8; clear tk
  go_wp2_with fail
  refine (HNN.out _ HB0.out).mono ?_
  rintro e wv ⟨hres, hbv⟩
  obtain ⟨gk1, gn1, gvl1, gfl1, gal1, gvr1, gfr1, gar1, gts1, gAl1, gcl1, gAr1, gcr1, gA1, gc1, hg1, rfl, gr1⟩ := hres.all
  clear hres
  go_upto_region 2 with (fail)
  have hBv := bel_go HB0.out hbv
  have HB1 := Lib.hid (Below.alloc hBv hBv.size (.cells #[.int .i64 gk1, .string gn1, .int .i64 gvl1, .string gfl1, .slice gAl1 gal1.length gcl1, .int .i64 gvr1, .string gfr1, .slice gAr1 gar1.length gcr1, .slice gA1 gts1.length gc1] 27))
  have GR1 := Lib.hid (r3 gr1 (Stay.al (.cells #[.int .i64 gk1, .string gn1, .int .i64 gvl1, .string gfl1, .slice gAl1 gal1.length gcl1, .int .i64 gvr1, .string gfr1, .slice gAr1 gar1.length gcr1, .slice gA1 gts1.length gc1] 27)))
  have B1 := Lib.hid (Blk.new wv 27 [.int .i64 gk1, .string gn1, .int .i64 gvl1, .string gfl1, .slice gAl1 gal1.length gcl1, .int .i64 gvr1, .string gfr1, .slice gAr1 gar1.length gcr1, .slice gA1 gts1.length gc1])
  have HG1 := Lib.hid hg1
  have BK2 := Lib.hid ((Blk.go BK1.out hbv).alloc (.cells #[.int .i64 gk1, .string gn1, .int .i64 gvl1, .string gfl1, .slice gAl1 gal1.length gcl1, .int .i64 gvr1, .string gfr1, .slice gAr1 gar1.length gcr1, .slice gA1 gts1.length gc1] 27))
  simp only [List.toArray] at B1
  generalize hgz : wv.heap.size = g4 at *
  generalize hWz : wv.alloc (.cells #[.int .i64 gk1, .string gn1, .int .i64 gvl1, .string gfl1, .slice gAl1 gal1.length gcl1, .int .i64 gvr1, .string gfr1, .slice gAr1 gar1.length gcr1, .slice gA1 gts1.length gc1] 27) = W4 at *
  clear hgz hWz hbv hBv gr1 hg1
  clear z0 z1 z2 z3 z4 z5 z6 z7 z8 HB0 BK1 HNN
  have tk := BK2.out.nine; have z0 := tk.c0; have z1 := tk.c1; have z2 := tk.c2; have z3 := tk.c3; have z4 := tk.c4; have z5 := tk.c5; have z6 := tk.c6; have z7 := tk.c7; have z8 := tk.c8; clear tk
  go_wp2_with fail
  refine (HRN.out _ HB1.out).mono ?_
  rintro e wv ⟨hres, hbv⟩
  obtain ⟨gk2, gn2, gvl2, gfl2, gal2, gvr2, gfr2, gar2, gts2, gAl2, gcl2, gAr2, gcr2, gA2, gc2, hg2, rfl, gr2⟩ := hres.all
  clear hres
  go_upto_region 3 with (fail)
  have hBv := bel_go HB1.out hbv
  have HB2 := Lib.hid (Below.alloc hBv hBv.size (.cells #[.int .i64 gk2, .string gn2, .int .i64 gvl2, .string gfl2, .slice gAl2 gal2.length gcl2, .int .i64 gvr2, .string gfr2, .slice gAr2 gar2.length gcr2, .slice gA2 gts2.length gc2] 27))
  have GR2 := Lib.hid (r3 gr2 (Stay.al (.cells #[.int .i64 gk2, .string gn2, .int .i64 gvl2, .string gfl2, .slice gAl2 gal2.length gcl2, .int .i64 gvr2, .string gfr2, .slice gAr2 gar2.length gcr2, .slice gA2 gts2.length gc2] 27)))
  have B2 := Lib.hid (Blk.new wv 27 [.int .i64 gk2, .string gn2, .int .i64 gvl2, .string gfl2, .slice gAl2 gal2.length gcl2, .int .i64 gvr2, .string gfr2, .slice gAr2 gar2.length gcr2, .slice gA2 gts2.length gc2])
  have HG2 := Lib.hid hg2
  have B3 := Lib.hid ((Blk.go B1.out hbv).alloc (.cells #[.int .i64 gk2, .string gn2, .int .i64 gvl2, .string gfl2, .slice gAl2 gal2.length gcl2, .int .i64 gvr2, .string gfr2, .slice gAr2 gar2.length gcr2, .slice gA2 gts2.length gc2] 27))
  have GR3 := Lib.hid (r3 GR1.out ((Stay.below hbv).trans (Stay.al (.cells #[.int .i64 gk2, .string gn2, .int .i64 gvl2, .string gfl2, .slice gAl2 gal2.length gcl2, .int .i64 gvr2, .string gfr2, .slice gAr2 gar2.length gcr2, .slice gA2 gts2.length gc2] 27))))
  simp only [List.toArray] at B2
  generalize hgz : wv.heap.size = g6 at *
  generalize hWz : wv.alloc (.cells #[.int .i64 gk2, .string gn2, .int .i64 gvl2, .string gfl2, .slice gAl2 gal2.length gcl2, .int .i64 gvr2, .string gfr2, .slice gAr2 gar2.length gcr2, .slice gA2 gts2.length gc2] 27) = W6 at *
  clear hgz hWz hbv hBv gr2 hg2
  clear z0 z1 z2 z3 z4 z5 z6 z7 z8 BK2 HRN
  have hsm := rfsame _ gk1 gn1 gvl1 gfl1 gal1 gvr1 gfr1 gar1 gts1 gk2 gn2 gvl2 gfl2 gal2 gvr2 gfr2 gar2 gts2 All All W6 gAl1 gcl1 gAr1 gcr1 gA1 gc1 gAl2 gcl2 gAr2 gcr2 gA2 gc2 (Nat.le_refl _) GR3.out.1 GR3.out.2.1 GR3.out.2.2 GR2.out.1 GR2.out.2.1 GR2.out.2.2
  rw [show Fm.same (Fm.mk gk1 gn1 (.mk gvl1 gfl1 gal1) (.mk gvr1 gfr1 gar1) gts1) (Fm.mk gk2 gn2 (.mk gvl2 gfl2 gal2) (.mk gvr2 gfr2 gar2) gts2) = true by rw [← HG1.out, ← HG2.out]; exact Fm.same_refl _] at hsm
  have hsm := Lib.hid hsm
  clear HG1 HG2 GR2
  have tk := B3.out.nine; have m0 := tk.c0; have m1 := tk.c1; have m2 := tk.c2; have m3 := tk.c3; have m4 := tk.c4; have m5 := tk.c5; have m6 := tk.c6; have m7 := tk.c7; have m8 := tk.c8; clear tk
  have tk := B2.out.nine; have n0 := tk.c0; have n1 := tk.c1; have n2 := tk.c2; have n3 := tk.c3; have n4 := tk.c4; have n5 := tk.c5; have n6 := tk.c6; have n7 := tk.c7; have n8 := tk.c8; clear tk
  have q : (en == en) = true := by simp
  go_wp2_with fail
  refine hsm.out.mono ?_
  rintro e w8 ⟨rfl, hb8⟩
  have HB8 := Lib.hid (bel_go HB2.out hb8)
  clear hb8 hsm m0 m1 m2 m3 m4 m5 m6 m7 m8 n0 n1 n2 n3 n4 n5 n6 n7 n8
  go_wp2_with fail
  refine (alive_any _).mono ?_
  rintro e w9 ⟨rfl, hb9⟩
  have hB := bel_go HB8.out hb9
  go_wp2_with fail
  exact bodyPost_ret (v := .bool true) (by simp [results, Tryz.results3]) rfl ⟨rfl, hB⟩
end Go.Proofs.YtndjjnnljihmnaaGreat
