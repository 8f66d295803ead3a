/- What Mini tells, the package's. -/
import Derived.Test.YtndjjnnljihmnaaGreatFmN
import Derived.Test.YtndjjnnljihmnaaGreatFmU
import Derived.Test.YtndjjnnljihmnaaGreatFmW
namespace Go.Proofs.YtndjjnnljihmnaaGreat
open Go.RowKit
set_option linter.unusedVariables false
set_option linter.unusedSimpArgs false
def Fm.miniE (f : Fm) : Int := if f.rightE = 0 then (if f.is then f.mini.rightE else 1) else f.rightE
def Fm.miniR (f : Fm) : Fm := if f.miniE = 0 then f.mini else Fm.c 0
set_option maxRecDepth 100000 in
set_option maxHeartbeats 12800000 in
theorem mini_any (hp : PushAt 50 4398046511104) (k : Int) (n : ByteArray) (vl : Int) (fl : ByteArray) (al : List Tm) (vr : Int) (fr : ByteArray) (ar : List Tm) (ts : List Fm) (Al : Option Addr) (cl : Nat) (Ar : Option Addr) (cr : Nat) (A : Option Addr) (c : Nat) (S : Nat → Prop) (w : World) (hB : (Fm.mk k n (.mk vl fl al) (.mk vr fr ar) ts).wt + (Fm.mk k n (.mk vl fl al) (.mk vr fr ar) ts).lf * (Fm.mk k n (.mk vl fl al) (.mk vr fr ar) ts).qs ≤ 4398046511104) (hW : (Fm.mk k n (.mk vl fl al) (.mk vr fr ar) ts).wt ≤ 4398046511) (hl : ST S w Al al.length cl al) (hr : ST S w Ar ar.length cr ar) (hs : SF S w A ts.length c ts) : Calls Tryz.prog 10 #[.agg #[.int .i64 k, .string n, .int .i64 vl, .string fl, .slice Al al.length cl, .int .i64 vr, .string fr, .slice Ar ar.length cr, .slice A ts.length c]] w fun e w' => NRes (Up S w) w' (Fm.miniR (Fm.mk k n (.mk vl fl al) (.mk vr fr ar) ts)) (Fm.miniE (Fm.mk k n (.mk vl fl al) (.mk vr fr ar) ts)) e ∧ Below w.heap.size w w' := by
  have HRT := Lib.hid (fun w' (hb : Below w.heap.size w w') => right_any k n vl fl al vr fr ar ts S w' Al cl Ar cr A c (by omega) (hl.stay (Stay.below hb)) (hr.stay (Stay.below hb)) (hs.stay (Stay.below hb)))
  have HS := rightE_shape (Fm.mk k n (.mk vl fl al) (.mk vr fr ar) ts)
  have HE : Hid (Fm.miniE (Fm.mk k n (.mk vl fl al) (.mk vr fr ar) ts) = if (Fm.mk k n (.mk vl fl al) (.mk vr fr ar) ts).rightE = 0 then (if (Fm.mk k n (.mk vl fl al) (.mk vr fr ar) ts).is then (Fm.mk k n (.mk vl fl al) (.mk vr fr ar) ts).mini.rightE else 1) else (Fm.mk k n (.mk vl fl al) (.mk vr fr ar) ts).rightE) := Lib.hid rfl
  have HR : Hid (Fm.miniR (Fm.mk k n (.mk vl fl al) (.mk vr fr ar) ts) = if Fm.miniE (Fm.mk k n (.mk vl fl al) (.mk vr fr ar) ts) = 0 then (Fm.mk k n (.mk vl fl al) (.mk vr fr ar) ts).mini else Fm.c 0) := Lib.hid rfl
  have HIS := Lib.hid (fun (hsh : (Fm.mk k n (.mk vl fl al) (.mk vr fr ar) ts).shape = true) w' (hb : Below w.heap.size w w') => is0 1152921504606846976 k n vl fl al vr fr ar ts Al cl Ar cr A c S w' (by omega) (Nat.le_refl _) hsh (hl.stay (Stay.below hb)) (hr.stay (Stay.below hb)) (hs.stay (Stay.below hb)))
  have HMI := Lib.hid (fun (hsh : (Fm.mk k n (.mk vl fl al) (.mk vr fr ar) ts).shape = true) w' (hb : Below w.heap.size w w') => (show Calls Tryz.prog 25 #[.agg #[.int .i64 k, .string n, .int .i64 vl, .string fl, .slice Al al.length cl, .int .i64 vr, .string fr, .slice Ar ar.length cr, .slice A ts.length c]] w' fun e w2 => FRes (Lo S w w') w2 (Fm.mk k n (.mk vl fl al) (.mk vr fr ar) ts).mini e ∧ Below w'.heap.size w' w2 from mini0 hp (Fm.mk k n (.mk vl fl al) (.mk vr fr ar) ts).wt k n vl fl al vr fr ar ts Al cl Ar cr A c _ w' (Nat.le_refl _) hB hW hsh (hl.stay (Stay.low.trans (Stay.below hb))) (hr.stay (Stay.low.trans (Stay.below hb))) (hs.stay (Stay.low.trans (Stay.below hb)))))
  have HMW := Lib.hid (fun (hsh : (Fm.mk k n (.mk vl fl al) (.mk vr fr ar) ts).shape = true) => Nat.le_trans (Fm.mini_wt (Fm.mk k n (.mk vl fl al) (.mk vr fr ar) ts) hsh) hB)
  generalize Fm.miniR (Fm.mk k n (.mk vl fl al) (.mk vr fr ar) ts) = res at *
  generalize Fm.miniE (Fm.mk k n (.mk vl fl al) (.mk vr fr ar) ts) = en at *
  generalize (Fm.mk k n (.mk vl fl al) (.mk vr fr ar) ts).is = isb at *
  generalize (Fm.mk k n (.mk vl fl al) (.mk vr fr ar) ts).rightE = E at *
  generalize (Fm.mk k n (.mk vl fl al) (.mk vr fr ar) ts).mini = mm at *
  clear hl hr hs hB hW hp
  have HB0 := Lib.hid (show Below w.heap.size w ((w.alloc (.cells #[.int .i64 k, .string n, .int .i64 vl, .string fl, .slice Al al.length cl, .int .i64 vr, .string fr, .slice Ar ar.length cr, .slice A ts.length c] 27)).alloc (.cells #[.int .i64 0, .string ⟨#[]⟩, .int .i64 0, .string ⟨#[]⟩, .slice none 0 0, .int .i64 0, .string ⟨#[]⟩, .slice none 0 0, .slice none 0 0] 27)) from bel_two)
  have BK1 := Lib.hid ((Blk.new w 27 [.int .i64 k, .string n, .int .i64 vl, .string fl, .slice Al al.length cl, .int .i64 vr, .string fr, .slice Ar ar.length cr, .slice A ts.length c]).alloc (.cells #[.int .i64 0, .string ⟨#[]⟩, .int .i64 0, .string ⟨#[]⟩, .slice none 0 0, .int .i64 0, .string ⟨#[]⟩, .slice none 0 0, .slice none 0 0] 27))
  have BK2 := Lib.hid (Blk.new' (w.alloc (.cells #[.int .i64 k, .string n, .int .i64 vl, .string fl, .slice Al al.length cl, .int .i64 vr, .string fr, .slice Ar ar.length cr, .slice A ts.length c] 27)) (w.heap.size + 1) 27 [.int .i64 0, .string ⟨#[]⟩, .int .i64 0, .string ⟨#[]⟩, .slice none 0 0, .int .i64 0, .string ⟨#[]⟩, .slice none 0 0, .slice none 0 0] (by simp))
  simp only [List.toArray] at BK1 BK2
  by_cases hE : E = 0
  rotate_left
  · have HE2 := Lib.hid (show en = E by rw [HE.out, if_neg hE])
    have HR2 := Lib.hid (show res = Fm.c 0 by rw [HR.out, HE2.out, if_neg hE])
    have q1 : (E == 0) = false := by simpa using hE
    have q2 : (E != 0) = true := by simpa using hE
    clear HS hE HIS HMI HMW
    go_enter Tryz.func10, Tryz.ntmps10
    go_upto_region 1 with (fail)
    generalize ((w.alloc (.cells #[.int .i64 k, .string n, .int .i64 vl, .string fl, .slice Al al.length cl, .int .i64 vr, .string fr, .slice Ar ar.length cr, .slice A ts.length c] 27)).alloc (.cells #[.int .i64 0, .string ⟨#[]⟩, .int .i64 0, .string ⟨#[]⟩, .slice none 0 0, .int .i64 0, .string ⟨#[]⟩, .slice none 0 0, .slice none 0 0] 27)) = W at *
    have tk := BK1.out.nine; have z0 := tk.c0; have z1 := tk.c1; have z2 := tk.c2; have z3 := tk.c3; have z4 := tk.c4; have z5 := tk.c5; have z6 := tk.c6; have z7 := tk.c7; have z8 := tk.c8; clear tk
    go_wp2_with fail
    refine (HRT.out _ HB0.out).mono ?_
    rintro e w2 ⟨rfl, hb2⟩
    have HB2 := Lib.hid (bel_go HB0.out hb2)
    have BQ1 := Lib.hid (Blk.go BK1.out hb2)
    have BQ2 := Lib.hid (Blk.go BK2.out hb2)
    clear z0 z1 z2 z3 z4 z5 z6 z7 z8 hb2 BK1 BK2 HRT HB0
    have tk := BQ2.out.nine; have yr0 := tk.c0; have yr1 := tk.c1; have yr2 := tk.c2; have yr3 := tk.c3; have yr4 := tk.c4; have yr5 := tk.c5; have yr6 := tk.c6; have yr7 := tk.c7; have yr8 := tk.c8; clear tk
    have tk := BQ2.out.free9; have yf0 := tk.c0; have yf1 := tk.c1; have yf2 := tk.c2; have yf3 := tk.c3; have yf4 := tk.c4; have yf5 := tk.c5; have yf6 := tk.c6; have yf7 := tk.c7; have yf8 := tk.c8; clear tk
    have hB := HB2.out
    go_wp2_with fail
    refine bodyPost_ret (v := .tuple #[.agg #[.int .i64 0, .string ⟨#[]⟩, .int .i64 0, .string ⟨#[]⟩, .slice none 0 0, .int .i64 0, .string ⟨#[]⟩, .slice none 0 0, .slice none 0 0], .int .i64 E]) ?_ rfl ⟨?_, bel9 hB (Nat.le_succ _) _ _ _ _ _ _ _ _ _⟩
    · simp [results, Tryz.results10, go_sem, yr0, yr1, yr2, yr3, yr4, yr5, yr6, yr7, yr8]
    · rw [HR2.out, HE2.out]; exact NRes.zero _ _ _
  have hsh := HS hE
  have HIS2 := Lib.hid (HIS.out hsh)
  have HMI2 := Lib.hid (HMI.out hsh)
  have HMW2 := Lib.hid (HMW.out hsh)
  have HE3 := Lib.hid (show en = if isb then mm.rightE else 1 by rw [HE.out, if_pos hE])
  subst hE
  clear HS hsh HMI HMW HIS HE
  go_enter Tryz.func10, Tryz.ntmps10
  go_upto_region 1 with (fail)
  generalize ((w.alloc (.cells #[.int .i64 k, .string n, .int .i64 vl, .string fl, .slice Al al.length cl, .int .i64 vr, .string fr, .slice Ar ar.length cr, .slice A ts.length c] 27)).alloc (.cells #[.int .i64 0, .string ⟨#[]⟩, .int .i64 0, .string ⟨#[]⟩, .slice none 0 0, .int .i64 0, .string ⟨#[]⟩, .slice none 0 0, .slice none 0 0] 27)) = W at *
  have tk := BK1.out.nine; have z0 := tk.c0; have z1 := tk.c1; have z2 := tk.c2; have z3 := tk.c3; have z4 := tk.c4; have z5 := tk.c5; have z6 := tk.c6; have z7 := tk.c7; have z8 := tk.c8; clear tk
  go_wp2_with fail
  refine (HRT.out _ HB0.out).mono ?_
  rintro e w2 ⟨rfl, hb2⟩
  have HB2 := Lib.hid (bel_go HB0.out hb2)
  have BQ1 := Lib.hid (Blk.go BK1.out hb2)
  have BQ2 := Lib.hid (Blk.go BK2.out hb2)
  clear z0 z1 z2 z3 z4 z5 z6 z7 z8 hb2 BK1 BK2 HRT HB0
  have tk := BQ1.out.nine; have z0 := tk.c0; have z1 := tk.c1; have z2 := tk.c2; have z3 := tk.c3; have z4 := tk.c4; have z5 := tk.c5; have z6 := tk.c6; have z7 := tk.c7; have z8 := tk.c8; clear tk
  go_wp2_with fail
  refine (HIS2.out _ HB2.out).mono ?_
  rintro e w3 ⟨rfl, hb3⟩
  have HB3 := Lib.hid (bel_go HB2.out hb3)
  have BT1 := Lib.hid (Blk.go BQ1.out hb3)
  have BT2 := Lib.hid (Blk.go BQ2.out hb3)
  clear z0 z1 z2 z3 z4 z5 z6 z7 z8 hb3 BQ1 BQ2 HB2 HIS2
  cases isb
  · have HE2 := Lib.hid (show en = 1 from HE3.out)
    have HR2 := Lib.hid (show res = Fm.c 0 by rw [HR.out, HE2.out]; rfl)
    have tk := BT2.out.nine; have yr0 := tk.c0; have yr1 := tk.c1; have yr2 := tk.c2; have yr3 := tk.c3; have yr4 := tk.c4; have yr5 := tk.c5; have yr6 := tk.c6; have yr7 := tk.c7; have yr8 := tk.c8; clear tk
    have tk := BT2.out.free9; have yf0 := tk.c0; have yf1 := tk.c1; have yf2 := tk.c2; have yf3 := tk.c3; have yf4 := tk.c4; have yf5 := tk.c5; have yf6 := tk.c6; have yf7 := tk.c7; have yf8 := tk.c8; clear tk
    have hB := HB3.out
    go_wp2_with fail
    refine bodyPost_ret (v := .tuple #[.agg #[.int .i64 0, .string ⟨#[]⟩, .int .i64 0, .string ⟨#[]⟩, .slice none 0 0, .int .i64 0, .string ⟨#[]⟩, .slice none 0 0, .slice none 0 0], .int .i64 1]) ?_ rfl ⟨?_, bel9 hB (Nat.le_succ _) _ _ _ _ _ _ _ _ _⟩
    · simp [results, Tryz.results10, go_sem, yr0, yr1, yr2, yr3, yr4, yr5, yr6, yr7, yr8]
    · rw [HR2.out, HE2.out]; exact NRes.zero _ _ _
  have tk := BT1.out.nine; have z0 := tk.c0; have z1 := tk.c1; have z2 := tk.c2; have z3 := tk.c3; have z4 := tk.c4; have z5 := tk.c5; have z6 := tk.c6; have z7 := tk.c7; have z8 := tk.c8; clear tk
  go_wp2_with fail
  refine (HMI2.out _ HB3.out).mono ?_
  rintro e w7 ⟨⟨gk7, gn7, gvl7, gfl7, gal7, gvr7, gfr7, gar7, gts7, gAl7, gcl7, gAr7, gcr7, gA7, gc7, hg7, rfl, gr7⟩, hb9⟩
  have hno : ¬ Lo S w w3 (w.heap.size + 1) := lo_not (by omega) BT2.out.lt
  have hsz := HB3.out.size
  have HB7 := Lib.hid (bel_go HB3.out hb9)
  have BR := Lib.hid (Blk.go BT2.out hb9)
  have hmw := HMW2.out
  rw [hg7] at hmw
  have HG := Lib.hid hg7
  clear hg7 hb9 z0 z1 z2 z3 z4 z5 z6 z7 z8 BT1 HMI2 HMW2
  go_upto_region 7 with (fail)
  have BN := Lib.hid (Blk.new w7 27 [.int .i64 gk7, .string gn7, .int .i64 gvl7, .string gfl7, .slice gAl7 gal7.length gcl7, .int .i64 gvr7, .string gfr7, .slice gAr7 gar7.length gcr7, .slice gA7 gts7.length gc7])
  have BY2 := Lib.hid (BR.out.alloc (.cells #[.int .i64 gk7, .string gn7, .int .i64 gvl7, .string gfl7, .slice gAl7 gal7.length gcl7, .int .i64 gvr7, .string gfr7, .slice gAr7 gar7.length gcr7, .slice gA7 gts7.length gc7] 27))
  have HB8 := Lib.hid (Below.alloc HB7.out HB7.out.size (.cells #[.int .i64 gk7, .string gn7, .int .i64 gvl7, .string gfl7, .slice gAl7 gal7.length gcl7, .int .i64 gvr7, .string gfr7, .slice gAr7 gar7.length gcr7, .slice gA7 gts7.length gc7] 27))
  have GR := Lib.hid (r3 gr7 (Stay.al (.cells #[.int .i64 gk7, .string gn7, .int .i64 gvl7, .string gfl7, .slice gAl7 gal7.length gcl7, .int .i64 gvr7, .string gfr7, .slice gAr7 gar7.length gcr7, .slice gA7 gts7.length gc7] 27)))
  have hlt := BR.out.lt
  simp only [List.toArray] at BN
  generalize hgm : w7.heap.size = g7 at *
  generalize hW8 : w7.alloc (.cells #[.int .i64 gk7, .string gn7, .int .i64 gvl7, .string gfl7, .slice gAl7 gal7.length gcl7, .int .i64 gvr7, .string gfr7, .slice gAr7 gar7.length gcr7, .slice gA7 gts7.length gc7] 27) = W8 at *
  have hna : w.heap.size + 1 ≠ g7 := by omega
  have hnb : g7 ≠ w.heap.size + 1 := by omega
  clear hgm hW8 BR hlt gr7
  have HRT := Lib.hid (right_any gk7 gn7 gvl7 gfl7 gal7 gvr7 gfr7 gar7 gts7 (Lo S w w3) W8 gAl7 gcl7 gAr7 gcr7 gA7 gc7 (by omega) GR.out.1 GR.out.2.1 GR.out.2.2)
  clear hmw
  have tk := BN.out.nine; have m0 := tk.c0; have m1 := tk.c1; have m2 := tk.c2; have m3 := tk.c3; have m4 := tk.c4; have m5 := tk.c5; have m6 := tk.c6; have m7 := tk.c7; have m8 := tk.c8; clear tk
  go_wp2_with fail
  refine HRT.out.mono ?_
  rintro e w9 ⟨rfl, hb9⟩
  have HB9 := Lib.hid (bel_go HB8.out hb9)
  have BN2 := Lib.hid (Blk.go BN.out hb9)
  have BZ2 := Lib.hid (Blk.go BY2.out hb9)
  have GR2 := Lib.hid (r3 GR.out (Stay.below hb9))
  clear hb9 m0 m1 m2 m3 m4 m5 m6 m7 m8 BN BY2
  have HE4 := Lib.hid (show en = (Fm.mk gk7 gn7 (.mk gvl7 gfl7 gal7) (.mk gvr7 gfr7 gar7) gts7).rightE by rw [HE3.out, ← HG.out]; rfl)
  generalize (Fm.mk gk7 gn7 (.mk gvl7 gfl7 gal7) (.mk gvr7 gfr7 gar7) gts7).rightE = E2 at *
  by_cases hE2 : E2 = 0
  rotate_left
  · have HE2 := Lib.hid (show en = E2 from HE4.out)
    have HR2 := Lib.hid (show res = Fm.c 0 by rw [HR.out, HE2.out, if_neg hE2])
    have q1 : (E2 == 0) = false := by simpa using hE2
    have q2 : (E2 != 0) = true := by simpa using hE2
    clear hE2
    have tk := BZ2.out.nine; have yr0 := tk.c0; have yr1 := tk.c1; have yr2 := tk.c2; have yr3 := tk.c3; have yr4 := tk.c4; have yr5 := tk.c5; have yr6 := tk.c6; have yr7 := tk.c7; have yr8 := tk.c8; clear tk
    have tk := BZ2.out.free9; have yf0 := tk.c0; have yf1 := tk.c1; have yf2 := tk.c2; have yf3 := tk.c3; have yf4 := tk.c4; have yf5 := tk.c5; have yf6 := tk.c6; have yf7 := tk.c7; have yf8 := tk.c8; clear tk
    have hB := HB9.out
    go_wp2_with fail
    refine bodyPost_ret (v := .tuple #[.agg #[.int .i64 0, .string ⟨#[]⟩, .int .i64 0, .string ⟨#[]⟩, .slice none 0 0, .int .i64 0, .string ⟨#[]⟩, .slice none 0 0, .slice none 0 0], .int .i64 E2]) ?_ rfl ⟨?_, bel9 hB (Nat.le_succ _) _ _ _ _ _ _ _ _ _⟩
    · simp [results, Tryz.results10, go_sem, yr0, yr1, yr2, yr3, yr4, yr5, yr6, yr7, yr8]
    · rw [HR2.out, HE2.out]; exact NRes.zero _ _ _
  subst hE2
  have HE2 := Lib.hid (show en = 0 from HE4.out)
  have HR4 := Lib.hid (show res = (Fm.mk gk7 gn7 (.mk gvl7 gfl7 gal7) (.mk gvr7 gfr7 gar7) gts7) by rw [HR.out, HE2.out, HG.out]; rfl)
  have tk := BN2.out.nine; have m0 := tk.c0; have m1 := tk.c1; have m2 := tk.c2; have m3 := tk.c3; have m4 := tk.c4; have m5 := tk.c5; have m6 := tk.c6; have m7 := tk.c7; have m8 := tk.c8; clear tk
  have tk := BZ2.out.nine; have yr0 := tk.c0; have yr1 := tk.c1; have yr2 := tk.c2; have yr3 := tk.c3; have yr4 := tk.c4; have yr5 := tk.c5; have yr6 := tk.c6; have yr7 := tk.c7; have yr8 := tk.c8; clear tk
  have tk := BZ2.out.free9; have yf0 := tk.c0; have yf1 := tk.c1; have yf2 := tk.c2; have yf3 := tk.c3; have yf4 := tk.c4; have yf5 := tk.c5; have yf6 := tk.c6; have yf7 := tk.c7; have yf8 := tk.c8; clear tk
  have hB := HB9.out
  go_wp2_with fail
  refine bodyPost_ret (v := .tuple #[.agg #[.int .i64 gk7, .string gn7, .int .i64 gvl7, .string gfl7, .slice gAl7 gal7.length gcl7, .int .i64 gvr7, .string gfr7, .slice gAr7 gar7.length gcr7, .slice gA7 gts7.length gc7], .int .i64 0]) ?_ rfl ⟨?_, bel9 hB (Nat.le_succ _) _ _ _ _ _ _ _ _ _⟩
  · simp [results, Tryz.results10, go_sem, yr0, yr1, yr2, yr3, yr4, yr5, yr6, yr7, yr8]
  · rw [HR4.out, HE2.out]; exact NRes.of (r3 GR2.out ((Stay.set9 hno _ _ _ _ _ _ _ _ _).trans (Stay.lo_up hsz)))
end Go.Proofs.YtndjjnnljihmnaaGreat
