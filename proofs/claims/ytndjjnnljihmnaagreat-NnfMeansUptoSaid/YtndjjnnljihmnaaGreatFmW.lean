/- Has a formula the form that Nnf gives? The package's turned. -/
import Derived.Test.YtndjjnnljihmnaaGreatFmJ
namespace Go.Proofs.YtndjjnnljihmnaaGreat
open Go.RowKit Go.Proofs.YtndjjnnljihmnaaGreat.Lx
set_option linter.unusedVariables false
set_option linter.unusedSimpArgs false
def headIs (k : Int) (ks : List Fm) : Bool := !(k == 5 || k == 6 || (k == 2 && !(match ks with | [] => false | f :: _ => f.kind == 1)))
mutual
def Fm.is : Fm → Bool
  | .mk k _ _ _ ks => headIs k ks && Fm.iss ks
def Fm.iss : List Fm → Bool
  | [] => true
  | f :: r => Fm.is f && Fm.iss r
end
theorem Fm.iss_all : ∀ ts : List Fm, Fm.iss ts = ts.all Fm.is
  | [] => rfl
  | f :: r => by rw [Fm.iss, List.all_cons, Fm.iss_all r]
theorem Fm.shapes_mem : ∀ (ts : List Fm) (i : Nat) (h : i < ts.length), Fm.shapes ts = true → ts[i].shape = true
  | t :: r, 0, _, h => by rw [Fm.shapes, Bool.and_eq_true] at h; exact h.1
  | t :: r, i + 1, hi, h => by rw [Fm.shapes, Bool.and_eq_true] at h; exact Fm.shapes_mem r i (by simpa using hi) h.2
/-- A closure that answers the opposite of a test, at formulas of which P holds. -/
def ClT (P : Fm → Prop) (p : Fm → Bool) : Prop := ∀ (k : Int) (n : ByteArray) (vl : Int) (fl : ByteArray) (al : List Tm) (vr : Int) (fr : ByteArray) (ar : List Tm) (ts : List Fm) (S : Nat → Prop) (w : World) (Al : Option Addr) (cl : Nat) (Ar : Option Addr) (cr : Nat) (A : Option Addr) (c : Nat), P (Fm.mk k n (.mk vl fl al) (.mk vr fr ar) ts) → ST S w Al al.length cl al → ST S w Ar ar.length cr ar → SF S w A ts.length c ts →
    Calls Tryz.prog 49 #[.agg #[.int .i64 k, .string n, .int .i64 vl, .string fl, .slice Al al.length cl, .int .i64 vr, .string fr, .slice Ar ar.length cr, .slice A ts.length c]] w fun e w' => e = .returned (.bool (!p (Fm.mk k n (.mk vl fl al) (.mk vr fr ar) ts))) ∧ Below w.heap.size w w'
set_option maxHeartbeats 1600000 in
theorem indexT (P : Fm → Prop) (p : Fm → Bool) (hcl : ClT P p) (ts : List Fm) (hP : ∀ (i : Nat) (h : i < ts.length), P ts[i]) (S : Nat → Prop) (w : World) (A : Option Addr) (c : Nat) (h : SF S w A ts.length c ts) :
    Calls Tryz.prog 67 #[.slice A ts.length c, .func (.func 49) #[] #[]] w fun e w' => e = .returned (.int .i64 (fstBad p ts 0)) ∧ Below w.heap.size w w' := by
  have HST := Lib.hid h
  have HCL := Lib.hid hcl
  have HP := Lib.hid hP
  have hl := h.2.2.1
  clear h hcl hP
  go_enter Tryz.func67, Tryz.ntmps67
  go_wp2_with fail
  go_loopw [8] (fun vi wl => ∃ i : Nat, i ≤ ts.length ∧ vi = .int .i64 i ∧ fstBad p ts 0 = fstBad p (ts.drop i) i ∧ Below w.heap.size w wl) (fun vi _ => ts.length - (intOf vi).toNat)
  case atStart => exact ⟨0, by omega, rfl, rfl, Below.refl _ _⟩
  case round =>
    obtain ⟨i, hi, rfl, hk, hb⟩ := hrel
    have HK := Lib.hid hk
    have HB := Lib.hid hb
    clear hk hb
    by_cases hlt : i < ts.length
    · obtain ⟨b, o, hA, k', n', vl', fl', al', vr', fr', ar', us, Al', cl', Ar', cr', Ai, ci, hm, hs1, hs2, hs3, k0, k1, k2, k3, k4, k5, k6, k7, k8⟩ := (HST.out.stay (Stay.below HB.out)).at i hlt
      have HS1 := Lib.hid hs1
      have HS2 := Lib.hid hs2
      have HS3 := Lib.hid hs3
      clear hs1 hs2 hs3
      subst hA
      have HM := Lib.hid hm
      have HD := Lib.hid (fst_drop p ts i hlt)
      clear hm
      go_wp2_with fail
      refine (HCL.out k' n' vl' fl' al' vr' fr' ar' us S wr Al' cl' Ar' cr' Ai ci (by have := HP.out i hlt; rw [HM.out] at this; exact this) HS1.out HS2.out HS3.out).mono ?_
      rintro e w2 ⟨rfl, hb2⟩
      have HB2 := Lib.hid (HB.out.trans (hb2.mono HB.out.size))
      clear hb2
      cases hq : p (Fm.mk k' n' (.mk vl' fl' al') (.mk vr' fr' ar') us)
      · have HF := Lib.hid (show fstBad p ts 0 = i by rw [HK.out, HD.out, HM.out, hq]; rfl)
        go_wp2_with fail
        go_ret
        exact ⟨ret_int (by rw [HF.out]), HB2.out⟩
      · have HF := Lib.hid (show fstBad p ts 0 = fstBad p (ts.drop (i + 1)) (i + 1) by rw [HK.out, HD.out, HM.out, hq]; rfl)
        have HI := Lib.hid hlt
        go_wp2_with fail
        go_roundw
        case rel => exact ⟨i + 1, HI.out, by go_num, HF.out, HB2.out⟩
        case measure => have := HI.out; simp [intOf]; omega
    · obtain rfl : i = ts.length := by omega
      have HF := Lib.hid (show fstBad p ts 0 = -1 by rw [HK.out, List.drop_length]; rfl)
      have d3 : decide (ts.length < ts.length) = false := by simp
      go_wp2_with fail
      go_ret
      exact ⟨ret_int (by rw [HF.out]), HB.out⟩
theorem someT (P : Fm → Prop) (p : Fm → Bool) (hcl : ClT P p) (ts : List Fm) (hP : ∀ (i : Nat) (h : i < ts.length), P ts[i]) (S : Nat → Prop) (w : World) (A : Option Addr) (c : Nat) (h : SF S w A ts.length c ts) :
    Calls Tryz.prog 48 #[.slice A ts.length c, .func (.func 49) #[] #[]] w fun e w' => e = .returned (.bool (!(ts.all p))) ∧ Below w.heap.size w w' := by
  have HI := Lib.hid (indexT P p hcl ts hP S w A c h)
  have HF := Lib.hid (fst_all p ts 0)
  clear hcl hP h
  go_enter Tryz.func48, Tryz.ntmps48
  go_wp2_with fail
  refine HI.out.mono ?_
  rintro e w2 ⟨rfl, hb2⟩
  go_wp2_with fail
  go_ret
  exact ⟨ret_bool (by rw [← HF.out]), hb2⟩
def IsAt (fn : Nat) (N : Nat) : Prop := ∀ (k : Int) (n : ByteArray) (vl : Int) (fl : ByteArray) (al : List Tm) (vr : Int) (fr : ByteArray) (ar : List Tm) (ts : List Fm) (Al : Option Addr) (cl : Nat) (Ar : Option Addr) (cr : Nat) (A : Option Addr) (c : Nat) (S : Nat → Prop) (w : World), (Fm.mk k n (.mk vl fl al) (.mk vr fr ar) ts).wt ≤ N → N ≤ 1152921504606846976 → (Fm.mk k n (.mk vl fl al) (.mk vr fr ar) ts).shape = true → ST S w Al al.length cl al → ST S w Ar ar.length cr ar → SF S w A ts.length c ts →
    Calls Tryz.prog fn #[.agg #[.int .i64 k, .string n, .int .i64 vl, .string fl, .slice Al al.length cl, .int .i64 vr, .string fr, .slice Ar ar.length cr, .slice A ts.length c]] w fun e w' => e = .returned (.bool (Fm.mk k n (.mk vl fl al) (.mk vr fr ar) ts).is) ∧ Below w.heap.size w w'
set_option maxRecDepth 100000 in
set_option maxHeartbeats 6400000 in
theorem is0 : ∀ N, IsAt 24 N := by
  intro N
  induction N with
  | zero => intro k n vl fl al vr fr ar ts Al cl Ar cr A c S w h; have := Fm.wt_pos (Fm.mk k n (.mk vl fl al) (.mk vr fr ar) ts); omega
  | succ N ih =>
    intro k n vl fl al vr fr ar ts Al cl Ar cr A c S w h hN hsh h1 h2 h3
    have hw : 1 + n.size + ((Tm.mk vl fl al).wt + (Tm.mk vr fr ar).wt) + Fm.wts ts ≤ N + 1 := by rw [Fm.wt] at h; omega
    have hks : Fm.shapes ts = true := by have hh := hsh; rw [Fm.shape, Bool.and_eq_true] at hh; exact hh.2
    have hsc := shape_cases hsh
    have hv : (Fm.mk k n (.mk vl fl al) (.mk vr fr ar) ts).is = (headIs k ts && Fm.iss ts) := by rw [Fm.is]
    have hal := Fm.iss_all ts
    have hcl : ClT (fun t => t.wt ≤ N ∧ t.shape = true) Fm.is := by
      intro k n vl fl al vr fr ar ts S' w' Al cl Ar cr A c hwt g1 g2 g3
      have HI := Lib.hid (fun w2 (hb : Below w'.heap.size w' w2) => ih k n vl fl al vr fr ar ts Al cl Ar cr A c S' w2 hwt.1 (by omega) hwt.2 (g1.stay (Stay.below hb)) (g2.stay (Stay.below hb)) (g3.stay (Stay.below hb)))
      clear g1 g2 g3 h1 h2 h3 h hw hv ih hsh hks hsc hal
      go_enter Tryz.func49, Tryz.ntmps49
      go_wp2_with fail
      refine (HI.out _ ((Below.refl _ w').alloc (Nat.le_refl _) _)).mono ?_
      rintro e w2 ⟨rfl, hb2⟩
      have HB2 := Lib.hid (((Below.refl _ w').alloc (Nat.le_refl _) _).trans (hb2.mono (by simp)))
      clear hb2
      go_wp2_with fail
      go_ret
      exact ⟨rfl, HB2.out⟩
    have HSOME := Lib.hid (fun w' (hb : Below w.heap.size w w') => someT _ Fm.is hcl ts (fun i h => ⟨by have := Fm.wts_le ts i h; omega, Fm.shapes_mem ts i h hks⟩) S w' A c (h3.stay (Stay.below hb)))
    rw [← hal] at HSOME
    have HB0 := Lib.hid (show Below w.heap.size w (w.alloc (.cells #[.int .i64 k, .string n, .int .i64 vl, .string fl, .slice Al al.length cl, .int .i64 vr, .string fr, .slice Ar ar.length cr, .slice A ts.length c] 27)) from Below.alloc (Below.refl _ _) (Nat.le_refl _) _)
    have BK := Lib.hid (Blk.new w 27 [.int .i64 k, .string n, .int .i64 vl, .string fl, .slice Al al.length cl, .int .i64 vr, .string fr, .slice Ar ar.length cr, .slice A ts.length c])
    simp only [List.toArray] at BK
    have HV := Lib.hid hv
    have H3 := Lib.hid h3
    clear hv hal hcl h hN hw hks ih h1 h2 hsh
    generalize Fm.iss ts = al' at *
    generalize (Fm.mk k n (.mk vl fl al) (.mk vr fr ar) ts).is = res at *
    generalize hW : (w.alloc (.cells #[.int .i64 k, .string n, .int .i64 vl, .string fl, .slice Al al.length cl, .int .i64 vr, .string fr, .slice Ar ar.length cr, .slice A ts.length c] 27)) = W at *
    rcases hsc with ⟨hk, hts⟩ | ⟨hk, a1, hts, ha⟩ | ⟨hk, a1, a2, hts, ha, ha'⟩
    · clear h3 hts
      rcases hk with rfl | rfl | rfl
      all_goals
        go_enter Tryz.func24, Tryz.ntmps24
        go_upto_region 1 with (fail)
        clear hW
        have tk := BK.out.nine; have z0 := tk.c0; have z1 := tk.c1; have z2 := tk.c2; have z3 := tk.c3; have z4 := tk.c4; have z5 := tk.c5; have z6 := tk.c6; have z7 := tk.c7; have z8 := tk.c8; clear tk
        go_wp2_with fail
        refine (HSOME.out _ HB0.out).mono ?_
        rintro e w2 ⟨rfl, hb2⟩
        have HB2 := Lib.hid (bel_go HB0.out hb2)
        clear hb2
        go_wp2_with fail
        go_ret
        exact ⟨by rw [HV.out]; simp [headIs], HB2.out⟩
    · rcases hk with rfl | hk
      · subst hts
        have hs := H3.out
        obtain ⟨b, o, hA1, k1, n1, vl1, fl1, al1, vr1, fr1, ar1, ts1, Al1, cl1, Ar1, cr1, A1, c1, hm1, hl1, hr1, hs1, p0, p1, p2, p3, p4, p5, p6, p7, p8⟩ := hs.at 0 (by simp)
        change a1 = _ at hm1
        subst hm1
        subst hA1
        simp only [Nat.zero_mul, Nat.one_mul, Nat.add_zero] at p0 p1 p2 p3 p4 p5 p6 p7 p8
        simp only [List.length_cons, List.length_nil, Nat.zero_add] at hW BK HSOME
        have hbw := World.block_lt_of_cell? w _ p0
        have P0 := Lib.hid (keepc HB0.out p0)
        clear hl1 hr1 hs1 hs ha h3 p0 p1 p2 p3 p4 p5 p6 p7 p8
        have hvv : res = (!(!(k1 == 1)) && al') := by rw [HV.out]; rfl
        clear HV
        have HV := Lib.hid hvv
        clear hvv
        cases q1 : (k1 == 1)
        · have q1x : (k1 != 1) = true := by simp [bne, q1]
          rw [q1] at HV
          go_enter Tryz.func24, Tryz.ntmps24
          go_upto_region 1 with (fail)
          clear hW
          have tk := BK.out.nine; have z0 := tk.c0; have z1 := tk.c1; have z2 := tk.c2; have z3 := tk.c3; have z4 := tk.c4; have z5 := tk.c5; have z6 := tk.c6; have z7 := tk.c7; have z8 := tk.c8; clear tk
          have p0 := P0.out
          go_wp2_with fail
          go_ret
          exact ⟨by rw [HV.out]; simp, HB0.out⟩
        · have q1x : (k1 != 1) = false := by simp [bne, q1]
          rw [q1] at HV
          go_enter Tryz.func24, Tryz.ntmps24
          go_upto_region 1 with (fail)
          clear hW
          have tk := BK.out.nine; have z0 := tk.c0; have z1 := tk.c1; have z2 := tk.c2; have z3 := tk.c3; have z4 := tk.c4; have z5 := tk.c5; have z6 := tk.c6; have z7 := tk.c7; have z8 := tk.c8; clear tk
          have p0 := P0.out
          go_wp2_with fail
          refine (HSOME.out _ HB0.out).mono ?_
          rintro e w2 ⟨rfl, hb2⟩
          have HB2 := Lib.hid (bel_go HB0.out hb2)
          clear hb2
          go_wp2_with fail
          go_ret
          exact ⟨by rw [HV.out]; simp, HB2.out⟩
      · clear h3 hts ha
        rcases hk with rfl | rfl
        all_goals
          go_enter Tryz.func24, Tryz.ntmps24
          go_upto_region 1 with (fail)
          clear hW
          have tk := BK.out.nine; have z0 := tk.c0; have z1 := tk.c1; have z2 := tk.c2; have z3 := tk.c3; have z4 := tk.c4; have z5 := tk.c5; have z6 := tk.c6; have z7 := tk.c7; have z8 := tk.c8; clear tk
          go_wp2_with fail
          refine (HSOME.out _ HB0.out).mono ?_
          rintro e w2 ⟨rfl, hb2⟩
          have HB2 := Lib.hid (bel_go HB0.out hb2)
          clear hb2
          go_wp2_with fail
          go_ret
          exact ⟨by rw [HV.out]; simp [headIs], HB2.out⟩
    · clear h3 hts ha ha'
      rcases hk with rfl | rfl | rfl | rfl
      · go_enter Tryz.func24, Tryz.ntmps24
        go_upto_region 1 with (fail)
        clear hW
        have tk := BK.out.nine; have z0 := tk.c0; have z1 := tk.c1; have z2 := tk.c2; have z3 := tk.c3; have z4 := tk.c4; have z5 := tk.c5; have z6 := tk.c6; have z7 := tk.c7; have z8 := tk.c8; clear tk
        go_wp2_with fail
        refine (HSOME.out _ HB0.out).mono ?_
        rintro e w2 ⟨rfl, hb2⟩
        have HB2 := Lib.hid (bel_go HB0.out hb2)
        clear hb2
        go_wp2_with fail
        go_ret
        exact ⟨by rw [HV.out]; simp [headIs], HB2.out⟩
      · go_enter Tryz.func24, Tryz.ntmps24
        go_upto_region 1 with (fail)
        clear hW
        have tk := BK.out.nine; have z0 := tk.c0; have z1 := tk.c1; have z2 := tk.c2; have z3 := tk.c3; have z4 := tk.c4; have z5 := tk.c5; have z6 := tk.c6; have z7 := tk.c7; have z8 := tk.c8; clear tk
        go_wp2_with fail
        refine (HSOME.out _ HB0.out).mono ?_
        rintro e w2 ⟨rfl, hb2⟩
        have HB2 := Lib.hid (bel_go HB0.out hb2)
        clear hb2
        go_wp2_with fail
        go_ret
        exact ⟨by rw [HV.out]; simp [headIs], HB2.out⟩
      · go_enter Tryz.func24, Tryz.ntmps24
        go_upto_region 1 with (fail)
        clear hW
        have tk := BK.out.nine; have z0 := tk.c0; have z1 := tk.c1; have z2 := tk.c2; have z3 := tk.c3; have z4 := tk.c4; have z5 := tk.c5; have z6 := tk.c6; have z7 := tk.c7; have z8 := tk.c8; clear tk
        go_wp2_with fail
        go_ret
        exact ⟨by rw [HV.out]; simp [headIs], HB0.out⟩
      · go_enter Tryz.func24, Tryz.ntmps24
        go_upto_region 1 with (fail)
        clear hW
        have tk := BK.out.nine; have z0 := tk.c0; have z1 := tk.c1; have z2 := tk.c2; have z3 := tk.c3; have z4 := tk.c4; have z5 := tk.c5; have z6 := tk.c6; have z7 := tk.c7; have z8 := tk.c8; clear tk
        go_wp2_with fail
        go_ret
        exact ⟨by rw [HV.out]; simp [headIs], HB0.out⟩
end Go.Proofs.YtndjjnnljihmnaaGreat
