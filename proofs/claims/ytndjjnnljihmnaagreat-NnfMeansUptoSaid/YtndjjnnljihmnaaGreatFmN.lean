/- What Nnf tells, the package's and the reference's. -/
import Derived.Test.YtndjjnnljihmnaaGreatFmJ
import Derived.Test.YtndjjnnljihmnaaGreatFmK
import Derived.Test.YtndjjnnljihmnaaGreatFmV
namespace Go.Proofs.YtndjjnnljihmnaaGreat
open Go.RowKit
set_option linter.unusedVariables false
set_option linter.unusedSimpArgs false
theorem rightE_shape (f : Fm) (h : f.rightE = 0) : f.shape = true := by
  unfold Fm.rightE at h
  cases hs : f.shape
  · rw [hs] at h; simp at h
  · rfl
def Fm.nnfE (f : Fm) : Int := if f.rightE = 0 then (if 4000 < f.meas.1.s then 3 else if 60 < f.meas.1.d then 22 else 0) else f.rightE
def Fm.nnfR (f : Fm) : Fm := if f.nnfE = 0 then (Fm.turn f).1 else Fm.c 0
/-- A call's end tells a formula and an error's number. -/
def NRes (S : Nat → Prop) (w : World) (g : Fm) (en : Int) (e : Ending) : Prop := ∃ k n vl fl al vr fr ar ts Al cl Ar cr A c, g = (Fm.mk k n (.mk vl fl al) (.mk vr fr ar) ts) ∧ e = .returned (.tuple #[.agg #[.int .i64 k, .string n, .int .i64 vl, .string fl, .slice Al al.length cl, .int .i64 vr, .string fr, .slice Ar ar.length cr, .slice A ts.length c], .int .i64 en]) ∧ (ST S w Al al.length cl al ∧ ST S w Ar ar.length cr ar ∧ SF S w A ts.length c ts)
theorem NRes.of {S : Nat → Prop} {w : World} {en : Int} {k1 : Int} {n1 : ByteArray} {vl1 : Int} {fl1 : ByteArray} {al1 : List Tm} {vr1 : Int} {fr1 : ByteArray} {ar1 : List Tm} {ts1 : List Fm} {Al1 : Option Addr} {cl1 : Nat} {Ar1 : Option Addr} {cr1 : Nat} {A1 : Option Addr} {c1 : Nat} (h : ST S w Al1 al1.length cl1 al1 ∧ ST S w Ar1 ar1.length cr1 ar1 ∧ SF S w A1 ts1.length c1 ts1) : NRes S w (Fm.mk k1 n1 (.mk vl1 fl1 al1) (.mk vr1 fr1 ar1) ts1) en (.returned (.tuple #[.agg #[.int .i64 k1, .string n1, .int .i64 vl1, .string fl1, .slice Al1 al1.length cl1, .int .i64 vr1, .string fr1, .slice Ar1 ar1.length cr1, .slice A1 ts1.length c1], .int .i64 en])) := ⟨k1, n1, vl1, fl1, al1, vr1, fr1, ar1, ts1, Al1, cl1, Ar1, cr1, A1, c1, rfl, rfl, h⟩
theorem NRes.zero (S : Nat → Prop) (w : World) (en : Int) : NRes S w (Fm.c 0) en (.returned (.tuple #[.agg #[.int .i64 0, .string ⟨#[]⟩, .int .i64 0, .string ⟨#[]⟩, .slice none 0 0, .int .i64 0, .string ⟨#[]⟩, .slice none 0 0, .slice none 0 0], .int .i64 en])) := ⟨0, ⟨#[]⟩, 0, ⟨#[]⟩, [], 0, ⟨#[]⟩, [], [], none, 0, none, 0, none, 0, rfl, rfl, ST.nil _ _ _, ST.nil _ _ _, SF.nil _ _ _⟩
set_option maxRecDepth 100000 in
set_option maxHeartbeats 12800000 in
theorem nnf_any (k : Int) (n : ByteArray) (vl : Int) (fl : ByteArray) (al : List Tm) (vr : Int) (fr : ByteArray) (ar : List Tm) (ts : List Fm) (Al : Option Addr) (cl : Nat) (Ar : Option Addr) (cr : Nat) (A : Option Addr) (c : Nat) (S : Nat → Prop) (w : World) (hN' : (Fm.mk k n (.mk vl fl al) (.mk vr fr ar) ts).wt ≤ 1125899906842624) (hl : ST S w Al al.length cl al) (hr : ST S w Ar ar.length cr ar) (hs : SF S w A ts.length c ts) : Calls Tryz.prog 6 #[.agg #[.int .i64 k, .string n, .int .i64 vl, .string fl, .slice Al al.length cl, .int .i64 vr, .string fr, .slice Ar ar.length cr, .slice A ts.length c]] w fun e w' => NRes (Up S w) w' (Fm.nnfR (Fm.mk k n (.mk vl fl al) (.mk vr fr ar) ts)) (Fm.nnfE (Fm.mk k n (.mk vl fl al) (.mk vr fr ar) ts)) e ∧ Below w.heap.size w w' := by
  have HRT := Lib.hid (fun w' (hb : Below w.heap.size w w') => right_any k n vl fl al vr fr ar ts S w' Al cl Ar cr A c (by omega) (hl.stay (Stay.below hb)) (hr.stay (Stay.below hb)) (hs.stay (Stay.below hb)))
  have HS := rightE_shape (Fm.mk k n (.mk vl fl al) (.mk vr fr ar) ts)
  have hz : 0 ≤ (Fm.mk k n (.mk vl fl al) (.mk vr fr ar) ts).meas.1.s ∧ 0 ≤ (Fm.mk k n (.mk vl fl al) (.mk vr fr ar) ts).meas.1.d := by have := (Fm.meas_b (Fm.mk k n (.mk vl fl al) (.mk vr fr ar) ts) hN').1; exact ⟨this.1, this.2.2.1⟩
  have HE : Hid (Fm.nnfE (Fm.mk k n (.mk vl fl al) (.mk vr fr ar) ts) = if (Fm.mk k n (.mk vl fl al) (.mk vr fr ar) ts).rightE = 0 then (if 4000 < (Fm.mk k n (.mk vl fl al) (.mk vr fr ar) ts).meas.1.s then 3 else if 60 < (Fm.mk k n (.mk vl fl al) (.mk vr fr ar) ts).meas.1.d then 22 else 0) else (Fm.mk k n (.mk vl fl al) (.mk vr fr ar) ts).rightE) := Lib.hid rfl
  have HR : Hid (Fm.nnfR (Fm.mk k n (.mk vl fl al) (.mk vr fr ar) ts) = if Fm.nnfE (Fm.mk k n (.mk vl fl al) (.mk vr fr ar) ts) = 0 then (Fm.turn (Fm.mk k n (.mk vl fl al) (.mk vr fr ar) ts)).1 else Fm.c 0) := Lib.hid rfl
  have HME := Lib.hid (fun (hsh : (Fm.mk k n (.mk vl fl al) (.mk vr fr ar) ts).shape = true) w' (hb : Below w.heap.size w w') => measured0 1125899906842624 k n vl fl al vr fr ar ts Al cl Ar cr A c S w' hN' (Nat.le_refl _) hsh (hl.stay (Stay.below hb)) (hr.stay (Stay.below hb)) (hs.stay (Stay.below hb)))
  have HT := Lib.hid (fun (hsh : (Fm.mk k n (.mk vl fl al) (.mk vr fr ar) ts).shape = true) w' (hb : Below w.heap.size w w') => (show Calls Tryz.prog 19 #[.agg #[.int .i64 k, .string n, .int .i64 vl, .string fl, .slice Al al.length cl, .int .i64 vr, .string fr, .slice Ar ar.length cr, .slice A ts.length c], .bool false] w' fun e w2 => FRes (Lo S w w') w2 (Fm.turn (Fm.mk k n (.mk vl fl al) (.mk vr fr ar) ts)).1 e ∧ Below w'.heap.size w' w2 from turn0 1125899906842624 k n vl fl al vr fr ar ts Al cl Ar cr A c _ w' false hN' (Nat.le_refl _) hsh (hl.stay (Stay.low.trans (Stay.below hb))) (hr.stay (Stay.low.trans (Stay.below hb))) (hs.stay (Stay.low.trans (Stay.below hb)))))
  generalize Fm.nnfR (Fm.mk k n (.mk vl fl al) (.mk vr fr ar) ts) = res at *
  generalize Fm.nnfE (Fm.mk k n (.mk vl fl al) (.mk vr fr ar) ts) = en at *
  generalize (Fm.turn (Fm.mk k n (.mk vl fl al) (.mk vr fr ar) ts)).1 = tt at *
  generalize (Fm.mk k n (.mk vl fl al) (.mk vr fr ar) ts).rightE = E at *
  generalize (Fm.mk k n (.mk vl fl al) (.mk vr fr ar) ts).meas = m at *
  obtain ⟨⟨pk, ps, pd⟩, ⟨nk, ns, nd⟩⟩ := m
  simp only at hz HME HE
  have HZ := Lib.hid hz
  clear hz hl hr hs hN'
  have HB0 := Lib.hid (show Below w.heap.size w ((w.alloc (.cells #[.int .i64 k, .string n, .int .i64 vl, .string fl, .slice Al al.length cl, .int .i64 vr, .string fr, .slice Ar ar.length cr, .slice A ts.length c] 27)).alloc (.cells #[.int .i64 0, .string ⟨#[]⟩, .int .i64 0, .string ⟨#[]⟩, .slice none 0 0, .int .i64 0, .string ⟨#[]⟩, .slice none 0 0, .slice none 0 0] 27)) from bel_two)
  have BK1 := Lib.hid ((Blk.new w 27 [.int .i64 k, .string n, .int .i64 vl, .string fl, .slice Al al.length cl, .int .i64 vr, .string fr, .slice Ar ar.length cr, .slice A ts.length c]).alloc (.cells #[.int .i64 0, .string ⟨#[]⟩, .int .i64 0, .string ⟨#[]⟩, .slice none 0 0, .int .i64 0, .string ⟨#[]⟩, .slice none 0 0, .slice none 0 0] 27))
  have BK2 := Lib.hid (Blk.new' (w.alloc (.cells #[.int .i64 k, .string n, .int .i64 vl, .string fl, .slice Al al.length cl, .int .i64 vr, .string fr, .slice Ar ar.length cr, .slice A ts.length c] 27)) (w.heap.size + 1) 27 [.int .i64 0, .string ⟨#[]⟩, .int .i64 0, .string ⟨#[]⟩, .slice none 0 0, .int .i64 0, .string ⟨#[]⟩, .slice none 0 0, .slice none 0 0] (by simp))
  simp only [List.toArray] at BK1 BK2
  by_cases hE : E = 0
  rotate_left
  · have HE2 := Lib.hid (show en = E by rw [HE.out, if_neg hE])
    have HR2 := Lib.hid (show res = Fm.c 0 by rw [HR.out, HE2.out, if_neg hE])
    have q1 : (E == 0) = false := by simpa using hE
    have q2 : (E != 0) = true := by simpa using hE
    clear HS hE
    go_enter Tryz.func6, Tryz.ntmps6
    go_upto_region 1 with (fail)
    generalize hW : (w.alloc (.cells #[.int .i64 k, .string n, .int .i64 vl, .string fl, .slice Al al.length cl, .int .i64 vr, .string fr, .slice Ar ar.length cr, .slice A ts.length c] 27)).alloc (.cells #[.int .i64 0, .string ⟨#[]⟩, .int .i64 0, .string ⟨#[]⟩, .slice none 0 0, .int .i64 0, .string ⟨#[]⟩, .slice none 0 0, .slice none 0 0] 27) = W at *
    clear hW
    have tk := BK1.out.nine; have z0 := tk.c0; have z1 := tk.c1; have z2 := tk.c2; have z3 := tk.c3; have z4 := tk.c4; have z5 := tk.c5; have z6 := tk.c6; have z7 := tk.c7; have z8 := tk.c8; clear tk
    go_wp2_with fail
    refine (HRT.out _ HB0.out).mono ?_
    rintro e w2 ⟨rfl, hb2⟩
    have HB2 := Lib.hid (bel_go HB0.out hb2)
    have BQ1 := Lib.hid (Blk.go BK1.out hb2)
    have BQ2 := Lib.hid (Blk.go BK2.out hb2)
    clear z0 z1 z2 z3 z4 z5 z6 z7 z8 hb2 BK1 BK2 HRT
    have tk := BQ2.out.nine; have yr0 := tk.c0; have yr1 := tk.c1; have yr2 := tk.c2; have yr3 := tk.c3; have yr4 := tk.c4; have yr5 := tk.c5; have yr6 := tk.c6; have yr7 := tk.c7; have yr8 := tk.c8; clear tk
    have tk := BQ2.out.free9; have yf0 := tk.c0; have yf1 := tk.c1; have yf2 := tk.c2; have yf3 := tk.c3; have yf4 := tk.c4; have yf5 := tk.c5; have yf6 := tk.c6; have yf7 := tk.c7; have yf8 := tk.c8; clear tk
    have hB := HB2.out
    go_wp2_with fail
    refine bodyPost_ret (v := .tuple #[.agg #[.int .i64 0, .string ⟨#[]⟩, .int .i64 0, .string ⟨#[]⟩, .slice none 0 0, .int .i64 0, .string ⟨#[]⟩, .slice none 0 0, .slice none 0 0], .int .i64 E]) ?_ rfl ⟨?_, bel9 hB (Nat.le_succ _) _ _ _ _ _ _ _ _ _⟩
    · simp [results, Tryz.results6, go_sem, yr0, yr1, yr2, yr3, yr4, yr5, yr6, yr7, yr8]
    · rw [HR2.out, HE2.out]; exact NRes.zero _ _ _
  have hsh := HS hE
  have HM2 := Lib.hid (HME.out hsh)
  have HT2 := Lib.hid (HT.out hsh)
  have HE3 := Lib.hid (show en = if 4000 < ps then 3 else if 60 < pd then 22 else 0 by rw [HE.out, if_pos hE])
  subst hE
  clear HS hsh HME HT HE
  go_enter Tryz.func6, Tryz.ntmps6
  go_upto_region 1 with (fail)
  generalize hW : (w.alloc (.cells #[.int .i64 k, .string n, .int .i64 vl, .string fl, .slice Al al.length cl, .int .i64 vr, .string fr, .slice Ar ar.length cr, .slice A ts.length c] 27)).alloc (.cells #[.int .i64 0, .string ⟨#[]⟩, .int .i64 0, .string ⟨#[]⟩, .slice none 0 0, .int .i64 0, .string ⟨#[]⟩, .slice none 0 0, .slice none 0 0] 27) = W at *
  clear hW
  have tk := BK1.out.nine; have z0 := tk.c0; have z1 := tk.c1; have z2 := tk.c2; have z3 := tk.c3; have z4 := tk.c4; have z5 := tk.c5; have z6 := tk.c6; have z7 := tk.c7; have z8 := tk.c8; clear tk
  go_wp2_with fail
  refine (HRT.out _ HB0.out).mono ?_
  rintro e w2 ⟨rfl, hb2⟩
  have HB2 := Lib.hid (bel_go HB0.out hb2)
  have BQ1 := Lib.hid (Blk.go BK1.out hb2)
  have BQ2 := Lib.hid (Blk.go BK2.out hb2)
  clear z0 z1 z2 z3 z4 z5 z6 z7 z8 hb2 BK1 BK2 HRT
  have tk := BQ1.out.nine; have z0 := tk.c0; have z1 := tk.c1; have z2 := tk.c2; have z3 := tk.c3; have z4 := tk.c4; have z5 := tk.c5; have z6 := tk.c6; have z7 := tk.c7; have z8 := tk.c8; clear tk
  go_wp2_with fail
  refine (HM2.out _ HB2.out).mono ?_
  rintro e w3 ⟨rfl, hb3⟩
  have HB3 := Lib.hid (bel_go HB2.out hb3)
  have BT1 := Lib.hid (Blk.go BQ1.out hb3)
  have BT2 := Lib.hid (Blk.go BQ2.out hb3)
  clear z0 z1 z2 z3 z4 z5 z6 z7 z8 hb3 BQ1 BQ2 HB2 HM2 HB0
  have hfd : ∀ w : World, (Instr.field 47 (.agg #[.int .i64 pk, .int .i64 ps, .int .i64 pd, .int .i64 nk, .int .i64 ns, .int .i64 nd]) 0).run Tryz.prog w = .ok (.agg #[.int .i64 pk, .int .i64 ps, .int .i64 pd]) w := fun _ => by kernel_rfl
  go_upto_region 5 with (fail)
  have Ba := Lib.hid (Blk.new w3 45 [.int .i64 pk, .int .i64 ps, .int .i64 pd])
  simp only [List.toArray] at Ba
  have BU1 := Lib.hid (BT1.out.alloc (.cells #[.int .i64 pk, .int .i64 ps, .int .i64 pd] 45))
  have BU2 := Lib.hid (BT2.out.alloc (.cells #[.int .i64 pk, .int .i64 ps, .int .i64 pd] 45))
  have HB5 := Lib.hid (Below.alloc HB3.out HB3.out.size (.cells #[.int .i64 pk, .int .i64 ps, .int .i64 pd] 45))
  generalize hga : w3.heap.size = ga at *
  generalize hWW : w3.alloc (.cells #[.int .i64 pk, .int .i64 ps, .int .i64 pd] 45) = W5 at *
  clear hWW hga
  clear BT1 BT2 HB3
  obtain ⟨m0, m1, m2⟩ := Ba.out.three
  have hp : 4000 < ps ∨ ¬ 4000 < ps := Decidable.em _
  have hq : 60 < pd ∨ ¬ 60 < pd := Decidable.em _
  rcases hp with hp | hp
  · have q4 : decide (ps > 4000) = true := by simp; omega
    have q4x : decide (4000 < ps) = true := q4
    have HE2 := Lib.hid (show en = 3 by rw [HE3.out, if_pos hp])
    have HR2 := Lib.hid (show res = Fm.c 0 by rw [HR.out, HE2.out]; rfl)
    clear hp hq
    have tk := BU2.out.nine; have yr0 := tk.c0; have yr1 := tk.c1; have yr2 := tk.c2; have yr3 := tk.c3; have yr4 := tk.c4; have yr5 := tk.c5; have yr6 := tk.c6; have yr7 := tk.c7; have yr8 := tk.c8; clear tk
    have tk := BU2.out.free9; have yf0 := tk.c0; have yf1 := tk.c1; have yf2 := tk.c2; have yf3 := tk.c3; have yf4 := tk.c4; have yf5 := tk.c5; have yf6 := tk.c6; have yf7 := tk.c7; have yf8 := tk.c8; clear tk
    have hB := HB5.out
    go_wp2_with fail
    refine bodyPost_ret (v := .tuple #[.agg #[.int .i64 0, .string ⟨#[]⟩, .int .i64 0, .string ⟨#[]⟩, .slice none 0 0, .int .i64 0, .string ⟨#[]⟩, .slice none 0 0, .slice none 0 0], .int .i64 3]) ?_ rfl ⟨?_, bel9 hB (Nat.le_succ _) _ _ _ _ _ _ _ _ _⟩
    · simp [results, Tryz.results6, go_sem, yr0, yr1, yr2, yr3, yr4, yr5, yr6, yr7, yr8]
    · rw [HR2.out, HE2.out]; exact NRes.zero _ _ _
  have q4 : decide (ps > 4000) = false := by simp; omega
  have q4x : decide (4000 < ps) = false := q4
  rcases hq with hq | hq
  · have q5 : decide (pd > 60) = true := by simp; omega
    have q5x : decide (60 < pd) = true := q5
    have HE2 := Lib.hid (show en = 22 by rw [HE3.out, if_neg hp, if_pos hq])
    have HR2 := Lib.hid (show res = Fm.c 0 by rw [HR.out, HE2.out]; rfl)
    clear hp hq
    have tk := BU2.out.nine; have yr0 := tk.c0; have yr1 := tk.c1; have yr2 := tk.c2; have yr3 := tk.c3; have yr4 := tk.c4; have yr5 := tk.c5; have yr6 := tk.c6; have yr7 := tk.c7; have yr8 := tk.c8; clear tk
    have tk := BU2.out.free9; have yf0 := tk.c0; have yf1 := tk.c1; have yf2 := tk.c2; have yf3 := tk.c3; have yf4 := tk.c4; have yf5 := tk.c5; have yf6 := tk.c6; have yf7 := tk.c7; have yf8 := tk.c8; clear tk
    have hB := HB5.out
    go_wp2_with fail
    refine bodyPost_ret (v := .tuple #[.agg #[.int .i64 0, .string ⟨#[]⟩, .int .i64 0, .string ⟨#[]⟩, .slice none 0 0, .int .i64 0, .string ⟨#[]⟩, .slice none 0 0, .slice none 0 0], .int .i64 22]) ?_ rfl ⟨?_, bel9 hB (Nat.le_succ _) _ _ _ _ _ _ _ _ _⟩
    · simp [results, Tryz.results6, go_sem, yr0, yr1, yr2, yr3, yr4, yr5, yr6, yr7, yr8]
    · rw [HR2.out, HE2.out]; exact NRes.zero _ _ _
  have q5 : decide (pd > 60) = false := by simp; omega
  have q5x : decide (60 < pd) = false := q5
  have HE2 := Lib.hid (show en = 0 by rw [HE3.out, if_neg hp, if_neg hq])
  have HR2 := Lib.hid (show res = tt by rw [HR.out, HE2.out]; rfl)
  clear hp hq
  have tk := BU1.out.nine; have z0 := tk.c0; have z1 := tk.c1; have z2 := tk.c2; have z3 := tk.c3; have z4 := tk.c4; have z5 := tk.c5; have z6 := tk.c6; have z7 := tk.c7; have z8 := tk.c8; clear tk
  go_wp2_with fail
  refine (HT2.out _ HB5.out).mono ?_
  rintro e w7 ⟨⟨gk7, gn7, gvl7, gfl7, gal7, gvr7, gfr7, gar7, gts7, gAl7, gcl7, gAr7, gcr7, gA7, gc7, hg7, rfl, gr7⟩, hb9⟩
  have hno : ¬ Lo S w W5 (w.heap.size + 1) := lo_not (by omega) BU2.out.lt
  have hsz := HB5.out.size
  have HR4 := Lib.hid (show res = (Fm.mk gk7 gn7 (.mk gvl7 gfl7 gal7) (.mk gvr7 gfr7 gar7) gts7) by rw [HR2.out, hg7])
  have hB := bel_go HB5.out hb9
  have BR := Lib.hid (Blk.go BU2.out hb9)
  have GR := Lib.hid gr7
  clear hg7 hb9 gr7 z0 z1 z2 z3 z4 z5 z6 z7 z8 m0 m1 m2
  have tk := BR.out.nine; have yr0 := tk.c0; have yr1 := tk.c1; have yr2 := tk.c2; have yr3 := tk.c3; have yr4 := tk.c4; have yr5 := tk.c5; have yr6 := tk.c6; have yr7 := tk.c7; have yr8 := tk.c8; clear tk
  have tk := BR.out.free9; have yf0 := tk.c0; have yf1 := tk.c1; have yf2 := tk.c2; have yf3 := tk.c3; have yf4 := tk.c4; have yf5 := tk.c5; have yf6 := tk.c6; have yf7 := tk.c7; have yf8 := tk.c8; clear tk
  go_wp2_with fail
  refine bodyPost_ret (v := .tuple #[.agg #[.int .i64 gk7, .string gn7, .int .i64 gvl7, .string gfl7, .slice gAl7 gal7.length gcl7, .int .i64 gvr7, .string gfr7, .slice gAr7 gar7.length gcr7, .slice gA7 gts7.length gc7], .int .i64 0]) ?_ rfl ⟨?_, bel9 hB (Nat.le_succ _) _ _ _ _ _ _ _ _ _⟩
  · simp [results, Tryz.results6, go_sem, yr0, yr1, yr2, yr3, yr4, yr5, yr6, yr7, yr8]
  · rw [HR4.out, HE2.out]; exact NRes.of (r3 GR.out ((Stay.set9 hno _ _ _ _ _ _ _ _ _).trans (Stay.lo_up hsz)))
end Go.Proofs.YtndjjnnljihmnaaGreat
