/- Formulas of a right shape, and Right: the package's and the reference's. -/
import Derived.Test.YtndjjnnljihmnaaGreatFmE
namespace Go.Proofs.YtndjjnnljihmnaaGreat
open Go.RowKit Go.Proofs.YtndjjnnljihmnaaGreat.Lx
set_option linter.unusedVariables false
set_option linter.unusedSimpArgs false
def headF (k : Int) (n : ByteArray) (l r : Tm) (m : Nat) : Bool := (kidsI k == (m : Int)) && ((if k == 7 || k == 8 then isVarB (bs n) else n.toList.isEmpty) && (if k == 1 then atomOK l r else l.none && r.none))
mutual
def Fm.shape : Fm → Bool
  | .mk k n l r ks => headF k n l r ks.length && Fm.shapes ks
def Fm.shapes : List Fm → Bool
  | [] => true
  | f :: r => Fm.shape f && Fm.shapes r
end
theorem Fm.shapes_all : ∀ ts : List Fm, Fm.shapes ts = ts.all Fm.shape
  | [] => rfl
  | t :: r => by rw [Fm.shapes, Fm.shapes_all r]; rfl
theorem Fm.shapes_drop (ts : List Fm) (i : Nat) (h : i < ts.length) : Fm.shapes (ts.drop i) = (Fm.shape ts[i] && Fm.shapes (ts.drop (i + 1))) := by
  rw [List.drop_eq_getElem_cons h, Fm.shapes]
theorem same_nil (v : Int) (f : ByteArray) (ts : List Tm) : (Tm.mk v f ts).same (.mk 0 ⟨#[]⟩ []) = (Tm.mk v f ts).none := by
  rw [Tm.same, Tm.none]
  have h1 : seq f ⟨#[]⟩ = f.toList.isEmpty := by
    unfold seq
    have : (⟨#[]⟩ : ByteArray).toList = [] := by rw [Lib.toList_data]
    rw [this]; cases f.toList <;> rfl
  have h2 : Tm.sames ts [] = (ts.length == 0) := by cases ts <;> simp [Tm.sames]
  rw [h1, h2]
  cases (v == 0) <;> cases f.toList.isEmpty <;> rfl
mutual
theorem Fm.size_wt : ∀ f : Fm, f.size ≤ f.wt
  | .mk k n l r ks => by
    have := Fm.sizes_wts ks
    have := l.size_wt
    have := r.size_wt
    rw [Fm.size, Fm.wt]; split <;> omega
theorem Fm.sizes_wts : ∀ ks : List Fm, Fm.sizes ks ≤ Fm.wts ks
  | [] => Nat.le_refl _
  | f :: r => by
    have := Fm.size_wt f
    have := Fm.sizes_wts r
    rw [Fm.sizes, Fm.wts]; omega
end
/-- A formula's remark: none (0), of a wrong shape (1), too great (3), too deep (22). -/
def Fm.rightE (f : Fm) : Int := if f.shape then if 4000 < f.size then 3 else if 60 < f.depth then 22 else 0 else 1
/-- A right shape, up to a weight. -/
def ShapeAt (fn : Nat) (N : Nat) : Prop := ∀ (k : Int) (n : ByteArray) (vl : Int) (fl : ByteArray) (al : List Tm) (vr : Int) (fr : ByteArray) (ar : List Tm) (ts : List Fm) (S : Nat → Prop) (w : World) (Al : Option Addr) (cl : Nat) (Ar : Option Addr) (cr : Nat) (A : Option Addr) (c : Nat), (Fm.mk k n (.mk vl fl al) (.mk vr fr ar) ts).wt ≤ N → N ≤ 1152921504606846976 → ST S w Al al.length cl al → ST S w Ar ar.length cr ar → SF S w A ts.length c ts →
    Calls Tryz.prog fn #[.agg #[.int .i64 k, .string n, .int .i64 vl, .string fl, .slice Al al.length cl, .int .i64 vr, .string fr, .slice Ar ar.length cr, .slice A ts.length c]] w fun e w' => e = .returned (.bool (Fm.mk k n (.mk vl fl al) (.mk vr fr ar) ts).shape) ∧ Below w.heap.size w w'
/-- A closure that answers the opposite of a test, at formulas of which P holds. -/
def ClS (P : Fm → Prop) (p : Fm → Bool) : Prop := ∀ (k : Int) (n : ByteArray) (vl : Int) (fl : ByteArray) (al : List Tm) (vr : Int) (fr : ByteArray) (ar : List Tm) (ts : List Fm) (S : Nat → Prop) (w : World) (Al : Option Addr) (cl : Nat) (Ar : Option Addr) (cr : Nat) (A : Option Addr) (c : Nat), P (Fm.mk k n (.mk vl fl al) (.mk vr fr ar) ts) → ST S w Al al.length cl al → ST S w Ar ar.length cr ar → SF S w A ts.length c ts →
    Calls Tryz.prog 62 #[.agg #[.int .i64 k, .string n, .int .i64 vl, .string fl, .slice Al al.length cl, .int .i64 vr, .string fr, .slice Ar ar.length cr, .slice A ts.length c]] w fun e w' => e = .returned (.bool (!p (Fm.mk k n (.mk vl fl al) (.mk vr fr ar) ts))) ∧ Below w.heap.size w w'
set_option maxHeartbeats 1600000 in
theorem indexS (P : Fm → Prop) (p : Fm → Bool) (hcl : ClS P p) (ts : List Fm) (hP : ∀ (i : Nat) (h : i < ts.length), P ts[i]) (S : Nat → Prop) (w : World) (A : Option Addr) (c : Nat) (h : SF S w A ts.length c ts) :
    Calls Tryz.prog 67 #[.slice A ts.length c, .func (.func 62) #[] #[]] w fun e w' => e = .returned (.int .i64 (fstBad p ts 0)) ∧ Below w.heap.size w w' := by
  have HST := Lib.hid h
  have HCL := Lib.hid hcl
  have HP := Lib.hid hP
  have hl := h.2.2.1
  clear h hcl hP
  go_enter Tryz.func67, Tryz.ntmps67
  go_wp2_with fail
  go_loopw [8] (fun vi wl => ∃ i : Nat, i ≤ ts.length ∧ vi = .int .i64 i ∧ fstBad p ts 0 = fstBad p (ts.drop i) i ∧ Below w.heap.size w wl) (fun vi _ => ts.length - (intOf vi).toNat)
  case atStart => exact ⟨0, by omega, rfl, rfl, Below.refl _ _⟩
  case round =>
    obtain ⟨i, hi, rfl, hk, hb⟩ := hrel
    have HK := Lib.hid hk
    have HB := Lib.hid hb
    clear hk hb
    by_cases hlt : i < ts.length
    · obtain ⟨b, o, hA, k', n', vl', fl', al', vr', fr', ar', us, Al', cl', Ar', cr', Ai, ci, hm, hs1, hs2, hs3, k0, k1, k2, k3, k4, k5, k6, k7, k8⟩ := (HST.out.stay (Stay.below HB.out)).at i hlt
      have HS1 := Lib.hid hs1
      have HS2 := Lib.hid hs2
      have HS3 := Lib.hid hs3
      clear hs1 hs2 hs3
      subst hA
      have HM := Lib.hid hm
      have HD := Lib.hid (fst_drop p ts i hlt)
      clear hm
      go_wp2_with fail
      refine (HCL.out k' n' vl' fl' al' vr' fr' ar' us S wr Al' cl' Ar' cr' Ai ci (by have := HP.out i hlt; rw [HM.out] at this; exact this) HS1.out HS2.out HS3.out).mono ?_
      rintro e w2 ⟨rfl, hb2⟩
      have HB2 := Lib.hid (HB.out.trans (hb2.mono HB.out.size))
      clear hb2
      cases hq : p (Fm.mk k' n' (.mk vl' fl' al') (.mk vr' fr' ar') us)
      · have HF := Lib.hid (show fstBad p ts 0 = i by rw [HK.out, HD.out, HM.out, hq]; rfl)
        go_wp2_with fail
        go_ret
        exact ⟨ret_int (by rw [HF.out]), HB2.out⟩
      · have HF := Lib.hid (show fstBad p ts 0 = fstBad p (ts.drop (i + 1)) (i + 1) by rw [HK.out, HD.out, HM.out, hq]; rfl)
        have HI := Lib.hid hlt
        go_wp2_with fail
        go_roundw
        case rel => exact ⟨i + 1, HI.out, by go_num, HF.out, HB2.out⟩
        case measure => have := HI.out; simp [intOf]; omega
    · obtain rfl : i = ts.length := by omega
      have HF := Lib.hid (show fstBad p ts 0 = -1 by rw [HK.out, List.drop_length]; rfl)
      have d3 : decide (ts.length < ts.length) = false := by simp
      go_wp2_with fail
      go_ret
      exact ⟨ret_int (by rw [HF.out]), HB.out⟩
theorem someS (P : Fm → Prop) (p : Fm → Bool) (hcl : ClS P p) (ts : List Fm) (hP : ∀ (i : Nat) (h : i < ts.length), P ts[i]) (S : Nat → Prop) (w : World) (A : Option Addr) (c : Nat) (h : SF S w A ts.length c ts) :
    Calls Tryz.prog 48 #[.slice A ts.length c, .func (.func 62) #[] #[]] w fun e w' => e = .returned (.bool (!(ts.all p))) ∧ Below w.heap.size w w' := by
  have HI := Lib.hid (indexS P p hcl ts hP S w A c h)
  have HF := Lib.hid (fst_all p ts 0)
  clear hcl hP h
  go_enter Tryz.func48, Tryz.ntmps48
  go_wp2_with fail
  refine HI.out.mono ?_
  rintro e w2 ⟨rfl, hb2⟩
  go_wp2_with fail
  go_ret
  exact ⟨ret_bool (by rw [← HF.out]), hb2⟩
set_option maxRecDepth 100000 in
set_option maxHeartbeats 6400000 in
theorem shape0 : ∀ N, ShapeAt 33 N := by
  intro N
  induction N with
  | zero => intro k n vl fl al vr fr ar ts S w Al cl Ar cr A c h; simp [Fm.wt] at h
  | succ N ih =>
    intro k n vl fl al vr fr ar ts S w Al cl Ar cr A c h hN h1 h2 h3
    have hw : 1 + n.size + ((Tm.mk vl fl al).wt + (Tm.mk vr fr ar).wt) + Fm.wts ts ≤ N + 1 := by rw [Fm.wt] at h; omega
    have hv : (Fm.mk k n (.mk vl fl al) (.mk vr fr ar) ts).shape = (headF k n (.mk vl fl al) (.mk vr fr ar) ts.length && Fm.shapes ts) := by rw [Fm.shape]
    have HK := Lib.hid (fun w' => (kids_any k w').mono (fun e w2 h => (show e = .returned (.int .i64 (kidsI k)) ∧ w2 = w' from ⟨h.1, h.2.symm⟩)))
    have HVN := Lib.hid (fun w' => isVar_any n w' (by omega))
    have HAT := Lib.hid (fun w' (hb : Below w.heap.size w w') => atom_any k n vl fl al vr fr ar ts S w' Al cl Ar cr A c (by omega) (by omega) (h1.stay (Stay.below hb)) (h2.stay (Stay.below hb)))
    have HNL := Lib.hid (fun w' (hb : Below w.heap.size w w') => tsame _ vl fl al 0 ⟨#[]⟩ [] S (fun _ => False) w' Al cl none 0 (Nat.le_refl _) (h1.stay (Stay.below hb)) (ST.nil _ _ _))
    rw [same_nil] at HNL
    have HNR := Lib.hid (fun w' (hb : Below w.heap.size w w') => tsame _ vr fr ar 0 ⟨#[]⟩ [] S (fun _ => False) w' Ar cr none 0 (Nat.le_refl _) (h2.stay (Stay.below hb)) (ST.nil _ _ _))
    rw [same_nil] at HNR
    have hcl : ClS (fun t => t.wt ≤ N) Fm.shape := by
      intro k n vl fl al vr fr ar ts S' w' Al cl Ar cr A c hwt g1 g2 g3
      have HI := Lib.hid (fun w2 (hb : Below w'.heap.size w' w2) => ih k n vl fl al vr fr ar ts S' w2 Al cl Ar cr A c hwt (by omega) (g1.stay (Stay.below hb)) (g2.stay (Stay.below hb)) (g3.stay (Stay.below hb)))
      clear g1 g2 g3 h1 h2 h3 h hw hv ih HK HVN HAT HNL HNR
      go_enter Tryz.func62, Tryz.ntmps62
      go_wp2_with fail
      refine (HI.out _ ((Below.refl _ w').alloc (Nat.le_refl _) _)).mono ?_
      rintro e w2 ⟨rfl, hb2⟩
      have HB2 := Lib.hid (((Below.refl _ w').alloc (Nat.le_refl _) _).trans (hb2.mono (by simp)))
      clear hb2
      go_wp2_with fail
      go_ret
      exact ⟨rfl, HB2.out⟩
    have HSOME := Lib.hid (fun w' (hb : Below w.heap.size w w') => someS _ Fm.shape hcl ts (fun i h => by have := Fm.wts_le ts i h; show Fm.wt _ ≤ N; omega) S w' A c (h3.stay (Stay.below hb)))
    have HALL := Lib.hid (Fm.shapes_all ts)
    clear hcl
    have HQ := Lib.hid (Below.refl (w.heap.size + 1) (w.alloc (.cells #[.int .i64 k, .string n, .int .i64 vl, .string fl, .slice Al al.length cl, .int .i64 vr, .string fr, .slice Ar ar.length cr, .slice A ts.length c] 27)))
    have HH : Hid (headF k n (.mk vl fl al) (.mk vr fr ar) ts.length = ((kidsI k == (ts.length : Int)) && ((if k == 7 || k == 8 then isVarB (bs n) else n.toList.isEmpty) && (if k == 1 then atomOK (.mk vl fl al) (.mk vr fr ar) else (Tm.mk vl fl al).none && (Tm.mk vr fr ar).none)))) := Lib.hid rfl
    have HV := Lib.hid hv
    generalize (Fm.mk k n (.mk vl fl al) (.mk vr fr ar) ts).shape = res at *
    clear hv h1 h2 h3 h hN hw ih
    generalize headF k n (.mk vl fl al) (.mk vr fr ar) ts.length = hd at *
    generalize kidsI k = kz at *
    generalize isVarB (bs n) = bv at *
    generalize atomOK (.mk vl fl al) (.mk vr fr ar) = ba at *
    generalize (Tm.mk vl fl al).none = bl at *
    generalize (Tm.mk vr fr ar).none = br at *
    have hqk : (kz != (ts.length : Int)) = !(kz == (ts.length : Int)) := rfl
    generalize hk0 : (kz == (ts.length : Int)) = bk at *
    have hk1 : (k != 1) = !(k == 1) := rfl
    cases d7 : (k == 7)
    rotate_left
    · have d1 : (k == 1) = false := by simp at d7 ⊢; omega
      rw [d1] at hk1
      simp only [Bool.not_false] at hk1
      simp only [d7, d1, Bool.true_or, Bool.false_eq_true, if_true, if_false] at HH
      cases bk
      · simp only [Bool.not_false] at hqk
        have HD := Lib.hid (show hd = false by rw [HH.out]; simp)
        go_enter Tryz.func33, Tryz.ntmps33
        go_upto_region 2 with (fail)
        go_quiet ((go_at_call 58; exact Calls.quiet_of_same (HK.out _)))
        have HQ2 := Lib.hid (Below.drewN HQ.out nq)
        clear HQ
        generalize (w.alloc (.cells #[.int .i64 k, .string n, .int .i64 vl, .string fl, .slice Al al.length cl, .int .i64 vr, .string fr, .slice Ar ar.length cr, .slice A ts.length c] 27)).drewN nq = W at *
        have HQ := HQ2
        clear HQ2
        have z0 := box_cell HQ.out 0 _ rfl
        have z1 := box_cell HQ.out 1 _ rfl
        have z2 := box_cell HQ.out 2 _ rfl
        have z3 := box_cell HQ.out 3 _ rfl
        have z4 := box_cell HQ.out 4 _ rfl
        have z5 := box_cell HQ.out 5 _ rfl
        have z6 := box_cell HQ.out 6 _ rfl
        have z7 := box_cell HQ.out 7 _ rfl
        have z8 := box_cell HQ.out 8 _ rfl
        go_wp2_with fail
        go_ret
        exact ⟨ret_bool (by rw [HV.out, HD.out]; rfl), bel_box HQ.out⟩
      simp only [Bool.not_true] at hqk
      cases bv
      · have HD := Lib.hid (show hd = false by rw [HH.out]; simp)
        go_enter Tryz.func33, Tryz.ntmps33
        go_upto_region 2 with (fail)
        go_quiet ((go_at_call 58; exact Calls.quiet_of_same (HK.out _)))
        have HQ2 := Lib.hid (Below.drewN HQ.out nq)
        clear HQ
        generalize (w.alloc (.cells #[.int .i64 k, .string n, .int .i64 vl, .string fl, .slice Al al.length cl, .int .i64 vr, .string fr, .slice Ar ar.length cr, .slice A ts.length c] 27)).drewN nq = W at *
        have HQ := HQ2
        clear HQ2
        have z0 := box_cell HQ.out 0 _ rfl
        have z1 := box_cell HQ.out 1 _ rfl
        have z2 := box_cell HQ.out 2 _ rfl
        have z3 := box_cell HQ.out 3 _ rfl
        have z4 := box_cell HQ.out 4 _ rfl
        have z5 := box_cell HQ.out 5 _ rfl
        have z6 := box_cell HQ.out 6 _ rfl
        have z7 := box_cell HQ.out 7 _ rfl
        have z8 := box_cell HQ.out 8 _ rfl
        go_wp2_with fail
        refine (HVN.out _).mono ?_
        rintro e w9 ⟨rfl, rfl⟩
        go_wp2_with fail
        go_ret
        exact ⟨ret_bool (by rw [HV.out, HD.out]; rfl), bel_box HQ.out⟩
      cases bl
      · have HD := Lib.hid (show hd = false by rw [HH.out]; simp)
        go_enter Tryz.func33, Tryz.ntmps33
        go_upto_region 2 with (fail)
        go_quiet ((go_at_call 58; exact Calls.quiet_of_same (HK.out _)))
        have HQ2 := Lib.hid (Below.drewN HQ.out nq)
        clear HQ
        generalize (w.alloc (.cells #[.int .i64 k, .string n, .int .i64 vl, .string fl, .slice Al al.length cl, .int .i64 vr, .string fr, .slice Ar ar.length cr, .slice A ts.length c] 27)).drewN nq = W at *
        have HQ := HQ2
        clear HQ2
        have z0 := box_cell HQ.out 0 _ rfl
        have z1 := box_cell HQ.out 1 _ rfl
        have z2 := box_cell HQ.out 2 _ rfl
        have z3 := box_cell HQ.out 3 _ rfl
        have z4 := box_cell HQ.out 4 _ rfl
        have z5 := box_cell HQ.out 5 _ rfl
        have z6 := box_cell HQ.out 6 _ rfl
        have z7 := box_cell HQ.out 7 _ rfl
        have z8 := box_cell HQ.out 8 _ rfl
        go_wp2_with fail
        refine (HVN.out _).mono ?_
        rintro e w9 ⟨rfl, rfl⟩
        go_wp2_with fail
        refine (HNL.out _ (bel_box HQ.out)).mono ?_
        rintro e w9 ⟨rfl, hb9⟩
        have HQ2 := Lib.hid (bel_step HQ.out hb9)
        clear hb9 HQ z0 z1 z2 z3 z4 z5 z6 z7 z8
        have HQ := HQ2
        clear HQ2
        have z0 := box_cell HQ.out 0 _ rfl
        have z1 := box_cell HQ.out 1 _ rfl
        have z2 := box_cell HQ.out 2 _ rfl
        have z3 := box_cell HQ.out 3 _ rfl
        have z4 := box_cell HQ.out 4 _ rfl
        have z5 := box_cell HQ.out 5 _ rfl
        have z6 := box_cell HQ.out 6 _ rfl
        have z7 := box_cell HQ.out 7 _ rfl
        have z8 := box_cell HQ.out 8 _ rfl
        go_wp2_with fail
        go_ret
        exact ⟨ret_bool (by rw [HV.out, HD.out]; rfl), bel_box HQ.out⟩
      cases br
      · have HD := Lib.hid (show hd = false by rw [HH.out]; simp)
        go_enter Tryz.func33, Tryz.ntmps33
        go_upto_region 2 with (fail)
        go_quiet ((go_at_call 58; exact Calls.quiet_of_same (HK.out _)))
        have HQ2 := Lib.hid (Below.drewN HQ.out nq)
        clear HQ
        generalize (w.alloc (.cells #[.int .i64 k, .string n, .int .i64 vl, .string fl, .slice Al al.length cl, .int .i64 vr, .string fr, .slice Ar ar.length cr, .slice A ts.length c] 27)).drewN nq = W at *
        have HQ := HQ2
        clear HQ2
        have z0 := box_cell HQ.out 0 _ rfl
        have z1 := box_cell HQ.out 1 _ rfl
        have z2 := box_cell HQ.out 2 _ rfl
        have z3 := box_cell HQ.out 3 _ rfl
        have z4 := box_cell HQ.out 4 _ rfl
        have z5 := box_cell HQ.out 5 _ rfl
        have z6 := box_cell HQ.out 6 _ rfl
        have z7 := box_cell HQ.out 7 _ rfl
        have z8 := box_cell HQ.out 8 _ rfl
        go_wp2_with fail
        refine (HVN.out _).mono ?_
        rintro e w9 ⟨rfl, rfl⟩
        go_wp2_with fail
        refine (HNL.out _ (bel_box HQ.out)).mono ?_
        rintro e w9 ⟨rfl, hb9⟩
        have HQ2 := Lib.hid (bel_step HQ.out hb9)
        clear hb9 HQ z0 z1 z2 z3 z4 z5 z6 z7 z8
        have HQ := HQ2
        clear HQ2
        have z0 := box_cell HQ.out 0 _ rfl
        have z1 := box_cell HQ.out 1 _ rfl
        have z2 := box_cell HQ.out 2 _ rfl
        have z3 := box_cell HQ.out 3 _ rfl
        have z4 := box_cell HQ.out 4 _ rfl
        have z5 := box_cell HQ.out 5 _ rfl
        have z6 := box_cell HQ.out 6 _ rfl
        have z7 := box_cell HQ.out 7 _ rfl
        have z8 := box_cell HQ.out 8 _ rfl
        go_wp2_with fail
        refine (HNR.out _ (bel_box HQ.out)).mono ?_
        rintro e w9 ⟨rfl, hb9⟩
        have HQ2 := Lib.hid (bel_step HQ.out hb9)
        clear hb9 HQ z0 z1 z2 z3 z4 z5 z6 z7 z8
        have HQ := HQ2
        clear HQ2
        have z0 := box_cell HQ.out 0 _ rfl
        have z1 := box_cell HQ.out 1 _ rfl
        have z2 := box_cell HQ.out 2 _ rfl
        have z3 := box_cell HQ.out 3 _ rfl
        have z4 := box_cell HQ.out 4 _ rfl
        have z5 := box_cell HQ.out 5 _ rfl
        have z6 := box_cell HQ.out 6 _ rfl
        have z7 := box_cell HQ.out 7 _ rfl
        have z8 := box_cell HQ.out 8 _ rfl
        go_wp2_with fail
        go_ret
        exact ⟨ret_bool (by rw [HV.out, HD.out]; rfl), bel_box HQ.out⟩
      have HD := Lib.hid (show hd = true by rw [HH.out]; simp)
      go_enter Tryz.func33, Tryz.ntmps33
      go_upto_region 2 with (fail)
      go_quiet ((go_at_call 58; exact Calls.quiet_of_same (HK.out _)))
      have HQ2 := Lib.hid (Below.drewN HQ.out nq)
      clear HQ
      generalize (w.alloc (.cells #[.int .i64 k, .string n, .int .i64 vl, .string fl, .slice Al al.length cl, .int .i64 vr, .string fr, .slice Ar ar.length cr, .slice A ts.length c] 27)).drewN nq = W at *
      have HQ := HQ2
      clear HQ2
      have z0 := box_cell HQ.out 0 _ rfl
      have z1 := box_cell HQ.out 1 _ rfl
      have z2 := box_cell HQ.out 2 _ rfl
      have z3 := box_cell HQ.out 3 _ rfl
      have z4 := box_cell HQ.out 4 _ rfl
      have z5 := box_cell HQ.out 5 _ rfl
      have z6 := box_cell HQ.out 6 _ rfl
      have z7 := box_cell HQ.out 7 _ rfl
      have z8 := box_cell HQ.out 8 _ rfl
      go_wp2_with fail
      refine (HVN.out _).mono ?_
      rintro e w9 ⟨rfl, rfl⟩
      go_wp2_with fail
      refine (HNL.out _ (bel_box HQ.out)).mono ?_
      rintro e w9 ⟨rfl, hb9⟩
      have HQ2 := Lib.hid (bel_step HQ.out hb9)
      clear hb9 HQ z0 z1 z2 z3 z4 z5 z6 z7 z8
      have HQ := HQ2
      clear HQ2
      have z0 := box_cell HQ.out 0 _ rfl
      have z1 := box_cell HQ.out 1 _ rfl
      have z2 := box_cell HQ.out 2 _ rfl
      have z3 := box_cell HQ.out 3 _ rfl
      have z4 := box_cell HQ.out 4 _ rfl
      have z5 := box_cell HQ.out 5 _ rfl
      have z6 := box_cell HQ.out 6 _ rfl
      have z7 := box_cell HQ.out 7 _ rfl
      have z8 := box_cell HQ.out 8 _ rfl
      go_wp2_with fail
      refine (HNR.out _ (bel_box HQ.out)).mono ?_
      rintro e w9 ⟨rfl, hb9⟩
      have HQ2 := Lib.hid (bel_step HQ.out hb9)
      clear hb9 HQ z0 z1 z2 z3 z4 z5 z6 z7 z8
      have HQ := HQ2
      clear HQ2
      have z0 := box_cell HQ.out 0 _ rfl
      have z1 := box_cell HQ.out 1 _ rfl
      have z2 := box_cell HQ.out 2 _ rfl
      have z3 := box_cell HQ.out 3 _ rfl
      have z4 := box_cell HQ.out 4 _ rfl
      have z5 := box_cell HQ.out 5 _ rfl
      have z6 := box_cell HQ.out 6 _ rfl
      have z7 := box_cell HQ.out 7 _ rfl
      have z8 := box_cell HQ.out 8 _ rfl
      go_wp2_with fail
      refine (HSOME.out _ (bel_box HQ.out)).mono ?_
      rintro e w9 ⟨rfl, hb9⟩
      have HQ2 := Lib.hid (bel_step HQ.out hb9)
      clear hb9
      go_wp2_with fail
      go_ret
      exact ⟨ret_bool (by rw [HV.out, HD.out, HALL.out]; simp), bel_box HQ2.out⟩
    cases d8 : (k == 8)
    rotate_left
    · have d1 : (k == 1) = false := by simp at d8 ⊢; omega
      rw [d1] at hk1
      simp only [Bool.not_false] at hk1
      simp only [d7, d8, d1, Bool.or_true, Bool.false_eq_true, if_true, if_false] at HH
      cases bk
      · simp only [Bool.not_false] at hqk
        have HD := Lib.hid (show hd = false by rw [HH.out]; simp)
        go_enter Tryz.func33, Tryz.ntmps33
        go_upto_region 2 with (fail)
        go_quiet ((go_at_call 58; exact Calls.quiet_of_same (HK.out _)))
        have HQ2 := Lib.hid (Below.drewN HQ.out nq)
        clear HQ
        generalize (w.alloc (.cells #[.int .i64 k, .string n, .int .i64 vl, .string fl, .slice Al al.length cl, .int .i64 vr, .string fr, .slice Ar ar.length cr, .slice A ts.length c] 27)).drewN nq = W at *
        have HQ := HQ2
        clear HQ2
        have z0 := box_cell HQ.out 0 _ rfl
        have z1 := box_cell HQ.out 1 _ rfl
        have z2 := box_cell HQ.out 2 _ rfl
        have z3 := box_cell HQ.out 3 _ rfl
        have z4 := box_cell HQ.out 4 _ rfl
        have z5 := box_cell HQ.out 5 _ rfl
        have z6 := box_cell HQ.out 6 _ rfl
        have z7 := box_cell HQ.out 7 _ rfl
        have z8 := box_cell HQ.out 8 _ rfl
        go_wp2_with fail
        go_ret
        exact ⟨ret_bool (by rw [HV.out, HD.out]; rfl), bel_box HQ.out⟩
      simp only [Bool.not_true] at hqk
      cases bv
      · have HD := Lib.hid (show hd = false by rw [HH.out]; simp)
        go_enter Tryz.func33, Tryz.ntmps33
        go_upto_region 2 with (fail)
        go_quiet ((go_at_call 58; exact Calls.quiet_of_same (HK.out _)))
        have HQ2 := Lib.hid (Below.drewN HQ.out nq)
        clear HQ
        generalize (w.alloc (.cells #[.int .i64 k, .string n, .int .i64 vl, .string fl, .slice Al al.length cl, .int .i64 vr, .string fr, .slice Ar ar.length cr, .slice A ts.length c] 27)).drewN nq = W at *
        have HQ := HQ2
        clear HQ2
        have z0 := box_cell HQ.out 0 _ rfl
        have z1 := box_cell HQ.out 1 _ rfl
        have z2 := box_cell HQ.out 2 _ rfl
        have z3 := box_cell HQ.out 3 _ rfl
        have z4 := box_cell HQ.out 4 _ rfl
        have z5 := box_cell HQ.out 5 _ rfl
        have z6 := box_cell HQ.out 6 _ rfl
        have z7 := box_cell HQ.out 7 _ rfl
        have z8 := box_cell HQ.out 8 _ rfl
        go_wp2_with fail
        refine (HVN.out _).mono ?_
        rintro e w9 ⟨rfl, rfl⟩
        go_wp2_with fail
        go_ret
        exact ⟨ret_bool (by rw [HV.out, HD.out]; rfl), bel_box HQ.out⟩
      cases bl
      · have HD := Lib.hid (show hd = false by rw [HH.out]; simp)
        go_enter Tryz.func33, Tryz.ntmps33
        go_upto_region 2 with (fail)
        go_quiet ((go_at_call 58; exact Calls.quiet_of_same (HK.out _)))
        have HQ2 := Lib.hid (Below.drewN HQ.out nq)
        clear HQ
        generalize (w.alloc (.cells #[.int .i64 k, .string n, .int .i64 vl, .string fl, .slice Al al.length cl, .int .i64 vr, .string fr, .slice Ar ar.length cr, .slice A ts.length c] 27)).drewN nq = W at *
        have HQ := HQ2
        clear HQ2
        have z0 := box_cell HQ.out 0 _ rfl
        have z1 := box_cell HQ.out 1 _ rfl
        have z2 := box_cell HQ.out 2 _ rfl
        have z3 := box_cell HQ.out 3 _ rfl
        have z4 := box_cell HQ.out 4 _ rfl
        have z5 := box_cell HQ.out 5 _ rfl
        have z6 := box_cell HQ.out 6 _ rfl
        have z7 := box_cell HQ.out 7 _ rfl
        have z8 := box_cell HQ.out 8 _ rfl
        go_wp2_with fail
        refine (HVN.out _).mono ?_
        rintro e w9 ⟨rfl, rfl⟩
        go_wp2_with fail
        refine (HNL.out _ (bel_box HQ.out)).mono ?_
        rintro e w9 ⟨rfl, hb9⟩
        have HQ2 := Lib.hid (bel_step HQ.out hb9)
        clear hb9 HQ z0 z1 z2 z3 z4 z5 z6 z7 z8
        have HQ := HQ2
        clear HQ2
        have z0 := box_cell HQ.out 0 _ rfl
        have z1 := box_cell HQ.out 1 _ rfl
        have z2 := box_cell HQ.out 2 _ rfl
        have z3 := box_cell HQ.out 3 _ rfl
        have z4 := box_cell HQ.out 4 _ rfl
        have z5 := box_cell HQ.out 5 _ rfl
        have z6 := box_cell HQ.out 6 _ rfl
        have z7 := box_cell HQ.out 7 _ rfl
        have z8 := box_cell HQ.out 8 _ rfl
        go_wp2_with fail
        go_ret
        exact ⟨ret_bool (by rw [HV.out, HD.out]; rfl), bel_box HQ.out⟩
      cases br
      · have HD := Lib.hid (show hd = false by rw [HH.out]; simp)
        go_enter Tryz.func33, Tryz.ntmps33
        go_upto_region 2 with (fail)
        go_quiet ((go_at_call 58; exact Calls.quiet_of_same (HK.out _)))
        have HQ2 := Lib.hid (Below.drewN HQ.out nq)
        clear HQ
        generalize (w.alloc (.cells #[.int .i64 k, .string n, .int .i64 vl, .string fl, .slice Al al.length cl, .int .i64 vr, .string fr, .slice Ar ar.length cr, .slice A ts.length c] 27)).drewN nq = W at *
        have HQ := HQ2
        clear HQ2
        have z0 := box_cell HQ.out 0 _ rfl
        have z1 := box_cell HQ.out 1 _ rfl
        have z2 := box_cell HQ.out 2 _ rfl
        have z3 := box_cell HQ.out 3 _ rfl
        have z4 := box_cell HQ.out 4 _ rfl
        have z5 := box_cell HQ.out 5 _ rfl
        have z6 := box_cell HQ.out 6 _ rfl
        have z7 := box_cell HQ.out 7 _ rfl
        have z8 := box_cell HQ.out 8 _ rfl
        go_wp2_with fail
        refine (HVN.out _).mono ?_
        rintro e w9 ⟨rfl, rfl⟩
        go_wp2_with fail
        refine (HNL.out _ (bel_box HQ.out)).mono ?_
        rintro e w9 ⟨rfl, hb9⟩
        have HQ2 := Lib.hid (bel_step HQ.out hb9)
        clear hb9 HQ z0 z1 z2 z3 z4 z5 z6 z7 z8
        have HQ := HQ2
        clear HQ2
        have z0 := box_cell HQ.out 0 _ rfl
        have z1 := box_cell HQ.out 1 _ rfl
        have z2 := box_cell HQ.out 2 _ rfl
        have z3 := box_cell HQ.out 3 _ rfl
        have z4 := box_cell HQ.out 4 _ rfl
        have z5 := box_cell HQ.out 5 _ rfl
        have z6 := box_cell HQ.out 6 _ rfl
        have z7 := box_cell HQ.out 7 _ rfl
        have z8 := box_cell HQ.out 8 _ rfl
        go_wp2_with fail
        refine (HNR.out _ (bel_box HQ.out)).mono ?_
        rintro e w9 ⟨rfl, hb9⟩
        have HQ2 := Lib.hid (bel_step HQ.out hb9)
        clear hb9 HQ z0 z1 z2 z3 z4 z5 z6 z7 z8
        have HQ := HQ2
        clear HQ2
        have z0 := box_cell HQ.out 0 _ rfl
        have z1 := box_cell HQ.out 1 _ rfl
        have z2 := box_cell HQ.out 2 _ rfl
        have z3 := box_cell HQ.out 3 _ rfl
        have z4 := box_cell HQ.out 4 _ rfl
        have z5 := box_cell HQ.out 5 _ rfl
        have z6 := box_cell HQ.out 6 _ rfl
        have z7 := box_cell HQ.out 7 _ rfl
        have z8 := box_cell HQ.out 8 _ rfl
        go_wp2_with fail
        go_ret
        exact ⟨ret_bool (by rw [HV.out, HD.out]; rfl), bel_box HQ.out⟩
      have HD := Lib.hid (show hd = true by rw [HH.out]; simp)
      go_enter Tryz.func33, Tryz.ntmps33
      go_upto_region 2 with (fail)
      go_quiet ((go_at_call 58; exact Calls.quiet_of_same (HK.out _)))
      have HQ2 := Lib.hid (Below.drewN HQ.out nq)
      clear HQ
      generalize (w.alloc (.cells #[.int .i64 k, .string n, .int .i64 vl, .string fl, .slice Al al.length cl, .int .i64 vr, .string fr, .slice Ar ar.length cr, .slice A ts.length c] 27)).drewN nq = W at *
      have HQ := HQ2
      clear HQ2
      have z0 := box_cell HQ.out 0 _ rfl
      have z1 := box_cell HQ.out 1 _ rfl
      have z2 := box_cell HQ.out 2 _ rfl
      have z3 := box_cell HQ.out 3 _ rfl
      have z4 := box_cell HQ.out 4 _ rfl
      have z5 := box_cell HQ.out 5 _ rfl
      have z6 := box_cell HQ.out 6 _ rfl
      have z7 := box_cell HQ.out 7 _ rfl
      have z8 := box_cell HQ.out 8 _ rfl
      go_wp2_with fail
      refine (HVN.out _).mono ?_
      rintro e w9 ⟨rfl, rfl⟩
      go_wp2_with fail
      refine (HNL.out _ (bel_box HQ.out)).mono ?_
      rintro e w9 ⟨rfl, hb9⟩
      have HQ2 := Lib.hid (bel_step HQ.out hb9)
      clear hb9 HQ z0 z1 z2 z3 z4 z5 z6 z7 z8
      have HQ := HQ2
      clear HQ2
      have z0 := box_cell HQ.out 0 _ rfl
      have z1 := box_cell HQ.out 1 _ rfl
      have z2 := box_cell HQ.out 2 _ rfl
      have z3 := box_cell HQ.out 3 _ rfl
      have z4 := box_cell HQ.out 4 _ rfl
      have z5 := box_cell HQ.out 5 _ rfl
      have z6 := box_cell HQ.out 6 _ rfl
      have z7 := box_cell HQ.out 7 _ rfl
      have z8 := box_cell HQ.out 8 _ rfl
      go_wp2_with fail
      refine (HNR.out _ (bel_box HQ.out)).mono ?_
      rintro e w9 ⟨rfl, hb9⟩
      have HQ2 := Lib.hid (bel_step HQ.out hb9)
      clear hb9 HQ z0 z1 z2 z3 z4 z5 z6 z7 z8
      have HQ := HQ2
      clear HQ2
      have z0 := box_cell HQ.out 0 _ rfl
      have z1 := box_cell HQ.out 1 _ rfl
      have z2 := box_cell HQ.out 2 _ rfl
      have z3 := box_cell HQ.out 3 _ rfl
      have z4 := box_cell HQ.out 4 _ rfl
      have z5 := box_cell HQ.out 5 _ rfl
      have z6 := box_cell HQ.out 6 _ rfl
      have z7 := box_cell HQ.out 7 _ rfl
      have z8 := box_cell HQ.out 8 _ rfl
      go_wp2_with fail
      refine (HSOME.out _ (bel_box HQ.out)).mono ?_
      rintro e w9 ⟨rfl, hb9⟩
      have HQ2 := Lib.hid (bel_step HQ.out hb9)
      clear hb9
      go_wp2_with fail
      go_ret
      exact ⟨ret_bool (by rw [HV.out, HD.out, HALL.out]; simp), bel_box HQ2.out⟩
    cases d1 : (k == 1)
    rotate_left
    · rw [d1] at hk1
      simp only [Bool.not_true] at hk1
      simp only [d7, d8, d1, Bool.or_self, Bool.false_eq_true, if_true, if_false] at HH
      cases bk
      · simp only [Bool.not_false] at hqk
        have HD := Lib.hid (show hd = false by rw [HH.out]; simp)
        go_enter Tryz.func33, Tryz.ntmps33
        go_upto_region 2 with (fail)
        go_quiet ((go_at_call 58; exact Calls.quiet_of_same (HK.out _)))
        have HQ2 := Lib.hid (Below.drewN HQ.out nq)
        clear HQ
        generalize (w.alloc (.cells #[.int .i64 k, .string n, .int .i64 vl, .string fl, .slice Al al.length cl, .int .i64 vr, .string fr, .slice Ar ar.length cr, .slice A ts.length c] 27)).drewN nq = W at *
        have HQ := HQ2
        clear HQ2
        have z0 := box_cell HQ.out 0 _ rfl
        have z1 := box_cell HQ.out 1 _ rfl
        have z2 := box_cell HQ.out 2 _ rfl
        have z3 := box_cell HQ.out 3 _ rfl
        have z4 := box_cell HQ.out 4 _ rfl
        have z5 := box_cell HQ.out 5 _ rfl
        have z6 := box_cell HQ.out 6 _ rfl
        have z7 := box_cell HQ.out 7 _ rfl
        have z8 := box_cell HQ.out 8 _ rfl
        go_wp2_with fail
        go_ret
        exact ⟨ret_bool (by rw [HV.out, HD.out]; rfl), bel_box HQ.out⟩
      simp only [Bool.not_true] at hqk
      cases hne : n.toList.isEmpty
      · have HNE := Lib.hid hne
        have HD := Lib.hid (show hd = false by rw [HH.out]; simp [HNE.out])
        go_enter Tryz.func33, Tryz.ntmps33
        go_upto_region 2 with (fail)
        go_quiet ((go_at_call 58; exact Calls.quiet_of_same (HK.out _)))
        have HQ2 := Lib.hid (Below.drewN HQ.out nq)
        clear HQ
        generalize (w.alloc (.cells #[.int .i64 k, .string n, .int .i64 vl, .string fl, .slice Al al.length cl, .int .i64 vr, .string fr, .slice Ar ar.length cr, .slice A ts.length c] 27)).drewN nq = W at *
        have HQ := HQ2
        clear HQ2
        have z0 := box_cell HQ.out 0 _ rfl
        have z1 := box_cell HQ.out 1 _ rfl
        have z2 := box_cell HQ.out 2 _ rfl
        have z3 := box_cell HQ.out 3 _ rfl
        have z4 := box_cell HQ.out 4 _ rfl
        have z5 := box_cell HQ.out 5 _ rfl
        have z6 := box_cell HQ.out 6 _ rfl
        have z7 := box_cell HQ.out 7 _ rfl
        have z8 := box_cell HQ.out 8 _ rfl
        go_wp2_with fail
        go_ret
        exact ⟨ret_bool (by rw [HV.out, HD.out]; rfl), bel_box HQ.out⟩
      have HNE := Lib.hid hne
      cases ba
      · have HD := Lib.hid (show hd = false by rw [HH.out]; simp [HNE.out])
        go_enter Tryz.func33, Tryz.ntmps33
        go_upto_region 2 with (fail)
        go_quiet ((go_at_call 58; exact Calls.quiet_of_same (HK.out _)))
        have HQ2 := Lib.hid (Below.drewN HQ.out nq)
        clear HQ
        generalize (w.alloc (.cells #[.int .i64 k, .string n, .int .i64 vl, .string fl, .slice Al al.length cl, .int .i64 vr, .string fr, .slice Ar ar.length cr, .slice A ts.length c] 27)).drewN nq = W at *
        have HQ := HQ2
        clear HQ2
        have z0 := box_cell HQ.out 0 _ rfl
        have z1 := box_cell HQ.out 1 _ rfl
        have z2 := box_cell HQ.out 2 _ rfl
        have z3 := box_cell HQ.out 3 _ rfl
        have z4 := box_cell HQ.out 4 _ rfl
        have z5 := box_cell HQ.out 5 _ rfl
        have z6 := box_cell HQ.out 6 _ rfl
        have z7 := box_cell HQ.out 7 _ rfl
        have z8 := box_cell HQ.out 8 _ rfl
        go_wp2_with fail
        refine (HAT.out _ (bel_box HQ.out)).mono ?_
        rintro e w9 ⟨rfl, hb9⟩
        have HQ2 := Lib.hid (bel_step HQ.out hb9)
        clear hb9 HQ z0 z1 z2 z3 z4 z5 z6 z7 z8
        have HQ := HQ2
        clear HQ2
        have z0 := box_cell HQ.out 0 _ rfl
        have z1 := box_cell HQ.out 1 _ rfl
        have z2 := box_cell HQ.out 2 _ rfl
        have z3 := box_cell HQ.out 3 _ rfl
        have z4 := box_cell HQ.out 4 _ rfl
        have z5 := box_cell HQ.out 5 _ rfl
        have z6 := box_cell HQ.out 6 _ rfl
        have z7 := box_cell HQ.out 7 _ rfl
        have z8 := box_cell HQ.out 8 _ rfl
        go_wp2_with fail
        go_ret
        exact ⟨ret_bool (by rw [HV.out, HD.out]; rfl), bel_box HQ.out⟩
      have HD := Lib.hid (show hd = true by rw [HH.out]; simp [HNE.out])
      go_enter Tryz.func33, Tryz.ntmps33
      go_upto_region 2 with (fail)
      go_quiet ((go_at_call 58; exact Calls.quiet_of_same (HK.out _)))
      have HQ2 := Lib.hid (Below.drewN HQ.out nq)
      clear HQ
      generalize (w.alloc (.cells #[.int .i64 k, .string n, .int .i64 vl, .string fl, .slice Al al.length cl, .int .i64 vr, .string fr, .slice Ar ar.length cr, .slice A ts.length c] 27)).drewN nq = W at *
      have HQ := HQ2
      clear HQ2
      have z0 := box_cell HQ.out 0 _ rfl
      have z1 := box_cell HQ.out 1 _ rfl
      have z2 := box_cell HQ.out 2 _ rfl
      have z3 := box_cell HQ.out 3 _ rfl
      have z4 := box_cell HQ.out 4 _ rfl
      have z5 := box_cell HQ.out 5 _ rfl
      have z6 := box_cell HQ.out 6 _ rfl
      have z7 := box_cell HQ.out 7 _ rfl
      have z8 := box_cell HQ.out 8 _ rfl
      go_wp2_with fail
      refine (HAT.out _ (bel_box HQ.out)).mono ?_
      rintro e w9 ⟨rfl, hb9⟩
      have HQ2 := Lib.hid (bel_step HQ.out hb9)
      clear hb9 HQ z0 z1 z2 z3 z4 z5 z6 z7 z8
      have HQ := HQ2
      clear HQ2
      have z0 := box_cell HQ.out 0 _ rfl
      have z1 := box_cell HQ.out 1 _ rfl
      have z2 := box_cell HQ.out 2 _ rfl
      have z3 := box_cell HQ.out 3 _ rfl
      have z4 := box_cell HQ.out 4 _ rfl
      have z5 := box_cell HQ.out 5 _ rfl
      have z6 := box_cell HQ.out 6 _ rfl
      have z7 := box_cell HQ.out 7 _ rfl
      have z8 := box_cell HQ.out 8 _ rfl
      go_wp2_with fail
      refine (HSOME.out _ (bel_box HQ.out)).mono ?_
      rintro e w9 ⟨rfl, hb9⟩
      have HQ2 := Lib.hid (bel_step HQ.out hb9)
      clear hb9
      go_wp2_with fail
      go_ret
      exact ⟨ret_bool (by rw [HV.out, HD.out, HALL.out]; simp), bel_box HQ2.out⟩
    · rw [d1] at hk1
      simp only [Bool.not_false] at hk1
      simp only [d7, d8, d1, Bool.or_self, Bool.false_eq_true, if_true, if_false] at HH
      cases bk
      · simp only [Bool.not_false] at hqk
        have HD := Lib.hid (show hd = false by rw [HH.out]; simp)
        go_enter Tryz.func33, Tryz.ntmps33
        go_upto_region 2 with (fail)
        go_quiet ((go_at_call 58; exact Calls.quiet_of_same (HK.out _)))
        have HQ2 := Lib.hid (Below.drewN HQ.out nq)
        clear HQ
        generalize (w.alloc (.cells #[.int .i64 k, .string n, .int .i64 vl, .string fl, .slice Al al.length cl, .int .i64 vr, .string fr, .slice Ar ar.length cr, .slice A ts.length c] 27)).drewN nq = W at *
        have HQ := HQ2
        clear HQ2
        have z0 := box_cell HQ.out 0 _ rfl
        have z1 := box_cell HQ.out 1 _ rfl
        have z2 := box_cell HQ.out 2 _ rfl
        have z3 := box_cell HQ.out 3 _ rfl
        have z4 := box_cell HQ.out 4 _ rfl
        have z5 := box_cell HQ.out 5 _ rfl
        have z6 := box_cell HQ.out 6 _ rfl
        have z7 := box_cell HQ.out 7 _ rfl
        have z8 := box_cell HQ.out 8 _ rfl
        go_wp2_with fail
        go_ret
        exact ⟨ret_bool (by rw [HV.out, HD.out]; rfl), bel_box HQ.out⟩
      simp only [Bool.not_true] at hqk
      cases hne : n.toList.isEmpty
      · have HNE := Lib.hid hne
        have HD := Lib.hid (show hd = false by rw [HH.out]; simp [HNE.out])
        go_enter Tryz.func33, Tryz.ntmps33
        go_upto_region 2 with (fail)
        go_quiet ((go_at_call 58; exact Calls.quiet_of_same (HK.out _)))
        have HQ2 := Lib.hid (Below.drewN HQ.out nq)
        clear HQ
        generalize (w.alloc (.cells #[.int .i64 k, .string n, .int .i64 vl, .string fl, .slice Al al.length cl, .int .i64 vr, .string fr, .slice Ar ar.length cr, .slice A ts.length c] 27)).drewN nq = W at *
        have HQ := HQ2
        clear HQ2
        have z0 := box_cell HQ.out 0 _ rfl
        have z1 := box_cell HQ.out 1 _ rfl
        have z2 := box_cell HQ.out 2 _ rfl
        have z3 := box_cell HQ.out 3 _ rfl
        have z4 := box_cell HQ.out 4 _ rfl
        have z5 := box_cell HQ.out 5 _ rfl
        have z6 := box_cell HQ.out 6 _ rfl
        have z7 := box_cell HQ.out 7 _ rfl
        have z8 := box_cell HQ.out 8 _ rfl
        go_wp2_with fail
        go_ret
        exact ⟨ret_bool (by rw [HV.out, HD.out]; rfl), bel_box HQ.out⟩
      have HNE := Lib.hid hne
      cases bl
      · have HD := Lib.hid (show hd = false by rw [HH.out]; simp [HNE.out])
        go_enter Tryz.func33, Tryz.ntmps33
        go_upto_region 2 with (fail)
        go_quiet ((go_at_call 58; exact Calls.quiet_of_same (HK.out _)))
        have HQ2 := Lib.hid (Below.drewN HQ.out nq)
        clear HQ
        generalize (w.alloc (.cells #[.int .i64 k, .string n, .int .i64 vl, .string fl, .slice Al al.length cl, .int .i64 vr, .string fr, .slice Ar ar.length cr, .slice A ts.length c] 27)).drewN nq = W at *
        have HQ := HQ2
        clear HQ2
        have z0 := box_cell HQ.out 0 _ rfl
        have z1 := box_cell HQ.out 1 _ rfl
        have z2 := box_cell HQ.out 2 _ rfl
        have z3 := box_cell HQ.out 3 _ rfl
        have z4 := box_cell HQ.out 4 _ rfl
        have z5 := box_cell HQ.out 5 _ rfl
        have z6 := box_cell HQ.out 6 _ rfl
        have z7 := box_cell HQ.out 7 _ rfl
        have z8 := box_cell HQ.out 8 _ rfl
        go_wp2_with fail
        refine (HNL.out _ (bel_box HQ.out)).mono ?_
        rintro e w9 ⟨rfl, hb9⟩
        have HQ2 := Lib.hid (bel_step HQ.out hb9)
        clear hb9 HQ z0 z1 z2 z3 z4 z5 z6 z7 z8
        have HQ := HQ2
        clear HQ2
        have z0 := box_cell HQ.out 0 _ rfl
        have z1 := box_cell HQ.out 1 _ rfl
        have z2 := box_cell HQ.out 2 _ rfl
        have z3 := box_cell HQ.out 3 _ rfl
        have z4 := box_cell HQ.out 4 _ rfl
        have z5 := box_cell HQ.out 5 _ rfl
        have z6 := box_cell HQ.out 6 _ rfl
        have z7 := box_cell HQ.out 7 _ rfl
        have z8 := box_cell HQ.out 8 _ rfl
        go_wp2_with fail
        go_ret
        exact ⟨ret_bool (by rw [HV.out, HD.out]; rfl), bel_box HQ.out⟩
      cases br
      · have HD := Lib.hid (show hd = false by rw [HH.out]; simp [HNE.out])
        go_enter Tryz.func33, Tryz.ntmps33
        go_upto_region 2 with (fail)
        go_quiet ((go_at_call 58; exact Calls.quiet_of_same (HK.out _)))
        have HQ2 := Lib.hid (Below.drewN HQ.out nq)
        clear HQ
        generalize (w.alloc (.cells #[.int .i64 k, .string n, .int .i64 vl, .string fl, .slice Al al.length cl, .int .i64 vr, .string fr, .slice Ar ar.length cr, .slice A ts.length c] 27)).drewN nq = W at *
        have HQ := HQ2
        clear HQ2
        have z0 := box_cell HQ.out 0 _ rfl
        have z1 := box_cell HQ.out 1 _ rfl
        have z2 := box_cell HQ.out 2 _ rfl
        have z3 := box_cell HQ.out 3 _ rfl
        have z4 := box_cell HQ.out 4 _ rfl
        have z5 := box_cell HQ.out 5 _ rfl
        have z6 := box_cell HQ.out 6 _ rfl
        have z7 := box_cell HQ.out 7 _ rfl
        have z8 := box_cell HQ.out 8 _ rfl
        go_wp2_with fail
        refine (HNL.out _ (bel_box HQ.out)).mono ?_
        rintro e w9 ⟨rfl, hb9⟩
        have HQ2 := Lib.hid (bel_step HQ.out hb9)
        clear hb9 HQ z0 z1 z2 z3 z4 z5 z6 z7 z8
        have HQ := HQ2
        clear HQ2
        have z0 := box_cell HQ.out 0 _ rfl
        have z1 := box_cell HQ.out 1 _ rfl
        have z2 := box_cell HQ.out 2 _ rfl
        have z3 := box_cell HQ.out 3 _ rfl
        have z4 := box_cell HQ.out 4 _ rfl
        have z5 := box_cell HQ.out 5 _ rfl
        have z6 := box_cell HQ.out 6 _ rfl
        have z7 := box_cell HQ.out 7 _ rfl
        have z8 := box_cell HQ.out 8 _ rfl
        go_wp2_with fail
        refine (HNR.out _ (bel_box HQ.out)).mono ?_
        rintro e w9 ⟨rfl, hb9⟩
        have HQ2 := Lib.hid (bel_step HQ.out hb9)
        clear hb9 HQ z0 z1 z2 z3 z4 z5 z6 z7 z8
        have HQ := HQ2
        clear HQ2
        have z0 := box_cell HQ.out 0 _ rfl
        have z1 := box_cell HQ.out 1 _ rfl
        have z2 := box_cell HQ.out 2 _ rfl
        have z3 := box_cell HQ.out 3 _ rfl
        have z4 := box_cell HQ.out 4 _ rfl
        have z5 := box_cell HQ.out 5 _ rfl
        have z6 := box_cell HQ.out 6 _ rfl
        have z7 := box_cell HQ.out 7 _ rfl
        have z8 := box_cell HQ.out 8 _ rfl
        go_wp2_with fail
        go_ret
        exact ⟨ret_bool (by rw [HV.out, HD.out]; rfl), bel_box HQ.out⟩
      have HD := Lib.hid (show hd = true by rw [HH.out]; simp [HNE.out])
      go_enter Tryz.func33, Tryz.ntmps33
      go_upto_region 2 with (fail)
      go_quiet ((go_at_call 58; exact Calls.quiet_of_same (HK.out _)))
      have HQ2 := Lib.hid (Below.drewN HQ.out nq)
      clear HQ
      generalize (w.alloc (.cells #[.int .i64 k, .string n, .int .i64 vl, .string fl, .slice Al al.length cl, .int .i64 vr, .string fr, .slice Ar ar.length cr, .slice A ts.length c] 27)).drewN nq = W at *
      have HQ := HQ2
      clear HQ2
      have z0 := box_cell HQ.out 0 _ rfl
      have z1 := box_cell HQ.out 1 _ rfl
      have z2 := box_cell HQ.out 2 _ rfl
      have z3 := box_cell HQ.out 3 _ rfl
      have z4 := box_cell HQ.out 4 _ rfl
      have z5 := box_cell HQ.out 5 _ rfl
      have z6 := box_cell HQ.out 6 _ rfl
      have z7 := box_cell HQ.out 7 _ rfl
      have z8 := box_cell HQ.out 8 _ rfl
      go_wp2_with fail
      refine (HNL.out _ (bel_box HQ.out)).mono ?_
      rintro e w9 ⟨rfl, hb9⟩
      have HQ2 := Lib.hid (bel_step HQ.out hb9)
      clear hb9 HQ z0 z1 z2 z3 z4 z5 z6 z7 z8
      have HQ := HQ2
      clear HQ2
      have z0 := box_cell HQ.out 0 _ rfl
      have z1 := box_cell HQ.out 1 _ rfl
      have z2 := box_cell HQ.out 2 _ rfl
      have z3 := box_cell HQ.out 3 _ rfl
      have z4 := box_cell HQ.out 4 _ rfl
      have z5 := box_cell HQ.out 5 _ rfl
      have z6 := box_cell HQ.out 6 _ rfl
      have z7 := box_cell HQ.out 7 _ rfl
      have z8 := box_cell HQ.out 8 _ rfl
      go_wp2_with fail
      refine (HNR.out _ (bel_box HQ.out)).mono ?_
      rintro e w9 ⟨rfl, hb9⟩
      have HQ2 := Lib.hid (bel_step HQ.out hb9)
      clear hb9 HQ z0 z1 z2 z3 z4 z5 z6 z7 z8
      have HQ := HQ2
      clear HQ2
      have z0 := box_cell HQ.out 0 _ rfl
      have z1 := box_cell HQ.out 1 _ rfl
      have z2 := box_cell HQ.out 2 _ rfl
      have z3 := box_cell HQ.out 3 _ rfl
      have z4 := box_cell HQ.out 4 _ rfl
      have z5 := box_cell HQ.out 5 _ rfl
      have z6 := box_cell HQ.out 6 _ rfl
      have z7 := box_cell HQ.out 7 _ rfl
      have z8 := box_cell HQ.out 8 _ rfl
      go_wp2_with fail
      refine (HSOME.out _ (bel_box HQ.out)).mono ?_
      rintro e w9 ⟨rfl, hb9⟩
      have HQ2 := Lib.hid (bel_step HQ.out hb9)
      clear hb9
      go_wp2_with fail
      go_ret
      exact ⟨ret_bool (by rw [HV.out, HD.out, HALL.out]; simp), bel_box HQ2.out⟩
set_option maxRecDepth 100000 in
set_option maxHeartbeats 6400000 in
theorem rshape0 : ∀ N, ShapeAt 29 N := by
  intro N
  induction N with
  | zero => intro k n vl fl al vr fr ar ts S w Al cl Ar cr A c h; simp [Fm.wt] at h
  | succ N ih =>
    intro k n vl fl al vr fr ar ts S w Al cl Ar cr A c h hN h1 h2 h3
    have hw : 1 + n.size + ((Tm.mk vl fl al).wt + (Tm.mk vr fr ar).wt) + Fm.wts ts ≤ N + 1 := by rw [Fm.wt] at h; omega
    have hv : (Fm.mk k n (.mk vl fl al) (.mk vr fr ar) ts).shape = (headF k n (.mk vl fl al) (.mk vr fr ar) ts.length && Fm.shapes ts) := by rw [Fm.shape]
    have HK := Lib.hid (fun w' => (rkids_any k w').mono (fun e w2 h => (show e = .returned (.int .i64 (kidsI k)) ∧ w2 = w' from ⟨h.1, h.2.symm⟩)))
    have HVN := Lib.hid (fun w' => risVar_any n w' (by omega))
    have HAT := Lib.hid (fun w' (hb : Below w.heap.size w w') => ratom_any k n vl fl al vr fr ar ts S w' Al cl Ar cr A c (by omega) (by omega) (h1.stay (Stay.below hb)) (h2.stay (Stay.below hb)))
    have hl : ts.length ≤ 9223372036854775807 := h3.2.2.1
    have hl1 := h1.2.2.1
    have hl2 := h2.2.2.1
    have HNL := Lib.hid (fun w' (hb : Below w.heap.size w w') => rnone_any vl fl al w' Al cl hl1)
    have HNR := Lib.hid (fun w' (hb : Below w.heap.size w w') => rnone_any vr fr ar w' Ar cr hl2)
    have HST := Lib.hid h3
    have IH := Lib.hid ih
    have HS := Lib.hid (show Fm.wts ts ≤ N by omega)
    have HNB := Lib.hid (show N ≤ 1152921504606846976 by omega)
    clear hl1 hl2
    have HQ := Lib.hid (Below.refl (w.heap.size + 1) (w.alloc (.cells #[.int .i64 k, .string n, .int .i64 vl, .string fl, .slice Al al.length cl, .int .i64 vr, .string fr, .slice Ar ar.length cr, .slice A ts.length c] 27)))
    have HH : Hid (headF k n (.mk vl fl al) (.mk vr fr ar) ts.length = ((kidsI k == (ts.length : Int)) && ((if k == 7 || k == 8 then isVarB (bs n) else n.toList.isEmpty) && (if k == 1 then atomOK (.mk vl fl al) (.mk vr fr ar) else (Tm.mk vl fl al).none && (Tm.mk vr fr ar).none)))) := Lib.hid rfl
    have HV := Lib.hid hv
    generalize (Fm.mk k n (.mk vl fl al) (.mk vr fr ar) ts).shape = res at *
    clear hv h1 h2 h3 h hN hw ih
    generalize headF k n (.mk vl fl al) (.mk vr fr ar) ts.length = hd at *
    generalize kidsI k = kz at *
    generalize isVarB (bs n) = bv at *
    generalize atomOK (.mk vl fl al) (.mk vr fr ar) = ba at *
    generalize (Tm.mk vl fl al).none = bl at *
    generalize (Tm.mk vr fr ar).none = br at *
    have hqk : (kz != (ts.length : Int)) = !(kz == (ts.length : Int)) := rfl
    generalize hk0 : (kz == (ts.length : Int)) = bk at *
    have hk1 : (k != 1) = !(k == 1) := rfl
    cases d7 : (k == 7)
    rotate_left
    · have d1 : (k == 1) = false := by simp at d7 ⊢; omega
      rw [d1] at hk1
      simp only [Bool.not_false] at hk1
      simp only [d7, d1, Bool.true_or, Bool.false_eq_true, if_true, if_false] at HH
      cases bk
      · simp only [Bool.not_false] at hqk
        have HD := Lib.hid (show hd = false by rw [HH.out]; simp)
        go_enter Tryz.func29, Tryz.ntmps29
        go_upto_region 1 with (fail)
        go_quiet ((go_at_call 52; exact Calls.quiet_of_same (HK.out _)))
        have HQ2 := Lib.hid (Below.drewN HQ.out nq)
        clear HQ
        generalize (w.alloc (.cells #[.int .i64 k, .string n, .int .i64 vl, .string fl, .slice Al al.length cl, .int .i64 vr, .string fr, .slice Ar ar.length cr, .slice A ts.length c] 27)).drewN nq = W at *
        have HQ := HQ2
        clear HQ2
        have z0 := box_cell HQ.out 0 _ rfl
        have z1 := box_cell HQ.out 1 _ rfl
        have z2 := box_cell HQ.out 2 _ rfl
        have z3 := box_cell HQ.out 3 _ rfl
        have z4 := box_cell HQ.out 4 _ rfl
        have z5 := box_cell HQ.out 5 _ rfl
        have z6 := box_cell HQ.out 6 _ rfl
        have z7 := box_cell HQ.out 7 _ rfl
        have z8 := box_cell HQ.out 8 _ rfl
        go_wp2_with fail
        go_ret
        exact ⟨ret_bool (by rw [HV.out, HD.out]; rfl), bel_box HQ.out⟩
      simp only [Bool.not_true] at hqk
      cases bv
      · have HD := Lib.hid (show hd = false by rw [HH.out]; simp)
        go_enter Tryz.func29, Tryz.ntmps29
        go_upto_region 1 with (fail)
        go_quiet ((go_at_call 52; exact Calls.quiet_of_same (HK.out _)))
        have HQ2 := Lib.hid (Below.drewN HQ.out nq)
        clear HQ
        generalize (w.alloc (.cells #[.int .i64 k, .string n, .int .i64 vl, .string fl, .slice Al al.length cl, .int .i64 vr, .string fr, .slice Ar ar.length cr, .slice A ts.length c] 27)).drewN nq = W at *
        have HQ := HQ2
        clear HQ2
        have z0 := box_cell HQ.out 0 _ rfl
        have z1 := box_cell HQ.out 1 _ rfl
        have z2 := box_cell HQ.out 2 _ rfl
        have z3 := box_cell HQ.out 3 _ rfl
        have z4 := box_cell HQ.out 4 _ rfl
        have z5 := box_cell HQ.out 5 _ rfl
        have z6 := box_cell HQ.out 6 _ rfl
        have z7 := box_cell HQ.out 7 _ rfl
        have z8 := box_cell HQ.out 8 _ rfl
        go_wp2_with fail
        refine (HVN.out _).mono ?_
        rintro e w9 ⟨rfl, rfl⟩
        go_wp2_with fail
        go_ret
        exact ⟨ret_bool (by rw [HV.out, HD.out]; rfl), bel_box HQ.out⟩
      cases bl
      · have HD := Lib.hid (show hd = false by rw [HH.out]; simp)
        go_enter Tryz.func29, Tryz.ntmps29
        go_upto_region 1 with (fail)
        go_quiet ((go_at_call 52; exact Calls.quiet_of_same (HK.out _)))
        have HQ2 := Lib.hid (Below.drewN HQ.out nq)
        clear HQ
        generalize (w.alloc (.cells #[.int .i64 k, .string n, .int .i64 vl, .string fl, .slice Al al.length cl, .int .i64 vr, .string fr, .slice Ar ar.length cr, .slice A ts.length c] 27)).drewN nq = W at *
        have HQ := HQ2
        clear HQ2
        have z0 := box_cell HQ.out 0 _ rfl
        have z1 := box_cell HQ.out 1 _ rfl
        have z2 := box_cell HQ.out 2 _ rfl
        have z3 := box_cell HQ.out 3 _ rfl
        have z4 := box_cell HQ.out 4 _ rfl
        have z5 := box_cell HQ.out 5 _ rfl
        have z6 := box_cell HQ.out 6 _ rfl
        have z7 := box_cell HQ.out 7 _ rfl
        have z8 := box_cell HQ.out 8 _ rfl
        go_wp2_with fail
        refine (HVN.out _).mono ?_
        rintro e w9 ⟨rfl, rfl⟩
        go_wp2_with fail
        refine (HNL.out _ (bel_box HQ.out)).mono ?_
        rintro e w9 ⟨rfl, hb9⟩
        have HQ2 := Lib.hid (bel_step HQ.out hb9)
        clear hb9 HQ z0 z1 z2 z3 z4 z5 z6 z7 z8
        have HQ := HQ2
        clear HQ2
        have z0 := box_cell HQ.out 0 _ rfl
        have z1 := box_cell HQ.out 1 _ rfl
        have z2 := box_cell HQ.out 2 _ rfl
        have z3 := box_cell HQ.out 3 _ rfl
        have z4 := box_cell HQ.out 4 _ rfl
        have z5 := box_cell HQ.out 5 _ rfl
        have z6 := box_cell HQ.out 6 _ rfl
        have z7 := box_cell HQ.out 7 _ rfl
        have z8 := box_cell HQ.out 8 _ rfl
        go_wp2_with fail
        go_ret
        exact ⟨ret_bool (by rw [HV.out, HD.out]; rfl), bel_box HQ.out⟩
      cases br
      · have HD := Lib.hid (show hd = false by rw [HH.out]; simp)
        go_enter Tryz.func29, Tryz.ntmps29
        go_upto_region 1 with (fail)
        go_quiet ((go_at_call 52; exact Calls.quiet_of_same (HK.out _)))
        have HQ2 := Lib.hid (Below.drewN HQ.out nq)
        clear HQ
        generalize (w.alloc (.cells #[.int .i64 k, .string n, .int .i64 vl, .string fl, .slice Al al.length cl, .int .i64 vr, .string fr, .slice Ar ar.length cr, .slice A ts.length c] 27)).drewN nq = W at *
        have HQ := HQ2
        clear HQ2
        have z0 := box_cell HQ.out 0 _ rfl
        have z1 := box_cell HQ.out 1 _ rfl
        have z2 := box_cell HQ.out 2 _ rfl
        have z3 := box_cell HQ.out 3 _ rfl
        have z4 := box_cell HQ.out 4 _ rfl
        have z5 := box_cell HQ.out 5 _ rfl
        have z6 := box_cell HQ.out 6 _ rfl
        have z7 := box_cell HQ.out 7 _ rfl
        have z8 := box_cell HQ.out 8 _ rfl
        go_wp2_with fail
        refine (HVN.out _).mono ?_
        rintro e w9 ⟨rfl, rfl⟩
        go_wp2_with fail
        refine (HNL.out _ (bel_box HQ.out)).mono ?_
        rintro e w9 ⟨rfl, hb9⟩
        have HQ2 := Lib.hid (bel_step HQ.out hb9)
        clear hb9 HQ z0 z1 z2 z3 z4 z5 z6 z7 z8
        have HQ := HQ2
        clear HQ2
        have z0 := box_cell HQ.out 0 _ rfl
        have z1 := box_cell HQ.out 1 _ rfl
        have z2 := box_cell HQ.out 2 _ rfl
        have z3 := box_cell HQ.out 3 _ rfl
        have z4 := box_cell HQ.out 4 _ rfl
        have z5 := box_cell HQ.out 5 _ rfl
        have z6 := box_cell HQ.out 6 _ rfl
        have z7 := box_cell HQ.out 7 _ rfl
        have z8 := box_cell HQ.out 8 _ rfl
        go_wp2_with fail
        refine (HNR.out _ (bel_box HQ.out)).mono ?_
        rintro e w9 ⟨rfl, hb9⟩
        have HQ2 := Lib.hid (bel_step HQ.out hb9)
        clear hb9 HQ z0 z1 z2 z3 z4 z5 z6 z7 z8
        have HQ := HQ2
        clear HQ2
        have z0 := box_cell HQ.out 0 _ rfl
        have z1 := box_cell HQ.out 1 _ rfl
        have z2 := box_cell HQ.out 2 _ rfl
        have z3 := box_cell HQ.out 3 _ rfl
        have z4 := box_cell HQ.out 4 _ rfl
        have z5 := box_cell HQ.out 5 _ rfl
        have z6 := box_cell HQ.out 6 _ rfl
        have z7 := box_cell HQ.out 7 _ rfl
        have z8 := box_cell HQ.out 8 _ rfl
        go_wp2_with fail
        go_ret
        exact ⟨ret_bool (by rw [HV.out, HD.out]; rfl), bel_box HQ.out⟩
      have HD := Lib.hid (show hd = true by rw [HH.out]; simp)
      go_enter Tryz.func29, Tryz.ntmps29
      go_upto_region 1 with (fail)
      go_quiet ((go_at_call 52; exact Calls.quiet_of_same (HK.out _)))
      have HQ2 := Lib.hid (Below.drewN HQ.out nq)
      clear HQ
      generalize (w.alloc (.cells #[.int .i64 k, .string n, .int .i64 vl, .string fl, .slice Al al.length cl, .int .i64 vr, .string fr, .slice Ar ar.length cr, .slice A ts.length c] 27)).drewN nq = W at *
      have HQ := HQ2
      clear HQ2
      have z0 := box_cell HQ.out 0 _ rfl
      have z1 := box_cell HQ.out 1 _ rfl
      have z2 := box_cell HQ.out 2 _ rfl
      have z3 := box_cell HQ.out 3 _ rfl
      have z4 := box_cell HQ.out 4 _ rfl
      have z5 := box_cell HQ.out 5 _ rfl
      have z6 := box_cell HQ.out 6 _ rfl
      have z7 := box_cell HQ.out 7 _ rfl
      have z8 := box_cell HQ.out 8 _ rfl
      go_wp2_with fail
      refine (HVN.out _).mono ?_
      rintro e w9 ⟨rfl, rfl⟩
      go_wp2_with fail
      refine (HNL.out _ (bel_box HQ.out)).mono ?_
      rintro e w9 ⟨rfl, hb9⟩
      have HQ2 := Lib.hid (bel_step HQ.out hb9)
      clear hb9 HQ z0 z1 z2 z3 z4 z5 z6 z7 z8
      have HQ := HQ2
      clear HQ2
      have z0 := box_cell HQ.out 0 _ rfl
      have z1 := box_cell HQ.out 1 _ rfl
      have z2 := box_cell HQ.out 2 _ rfl
      have z3 := box_cell HQ.out 3 _ rfl
      have z4 := box_cell HQ.out 4 _ rfl
      have z5 := box_cell HQ.out 5 _ rfl
      have z6 := box_cell HQ.out 6 _ rfl
      have z7 := box_cell HQ.out 7 _ rfl
      have z8 := box_cell HQ.out 8 _ rfl
      go_wp2_with fail
      refine (HNR.out _ (bel_box HQ.out)).mono ?_
      rintro e w9 ⟨rfl, hb9⟩
      have HQ2 := Lib.hid (bel_step HQ.out hb9)
      clear hb9 HQ z0 z1 z2 z3 z4 z5 z6 z7 z8
      have HQ := HQ2
      clear HQ2
      have z0 := box_cell HQ.out 0 _ rfl
      have z1 := box_cell HQ.out 1 _ rfl
      have z2 := box_cell HQ.out 2 _ rfl
      have z3 := box_cell HQ.out 3 _ rfl
      have z4 := box_cell HQ.out 4 _ rfl
      have z5 := box_cell HQ.out 5 _ rfl
      have z6 := box_cell HQ.out 6 _ rfl
      have z7 := box_cell HQ.out 7 _ rfl
      have z8 := box_cell HQ.out 8 _ rfl
      have HT := Lib.hid (show res = Fm.shapes ts by rw [HV.out, HD.out]; rfl)
      go_wp2_with fail
      clear z0 z1 z2 z3 z4 z5 z6 z7 z8
      go_loopw [4] (fun vi wl => ∃ i : Nat, i ≤ ts.length ∧ vi = .int .i64 i ∧ Fm.shapes ts = Fm.shapes (ts.drop i) ∧ Below (w.heap.size + 1) (w.alloc (.cells #[.int .i64 k, .string n, .int .i64 vl, .string fl, .slice Al al.length cl, .int .i64 vr, .string fr, .slice Ar ar.length cr, .slice A ts.length c] 27)) wl) (fun vi _ => ts.length - (intOf vi).toNat)
      case atStart => exact ⟨0, by omega, rfl, rfl, HQ.out⟩
      case round =>
        obtain ⟨i, hi, rfl, hk, hb⟩ := hrel
        have HK := Lib.hid hk
        have HB := Lib.hid hb
        have r0 := box_cell hb 8 _ rfl
        clear hk hb
        by_cases hlt : i < ts.length
        · obtain ⟨b, o, hA, k1, n1, vl1, fl1, al1, vr1, fr1, ar1, us, Al1, cl1, Ar1, cr1, Ai, ci, hm, hi1, hi2, hsti, p0, p1, p2, p3, p4, p5, p6, p7, p8⟩ := (HST.out.stay (Stay.below (bel_box HB.out))).at i hlt
          have H1 := Lib.hid hsti
          have H2 := Lib.hid hi1
          have H3 := Lib.hid hi2
          clear hi1 hi2
          subst hA
          have hd := Fm.shapes_drop ts i hlt
          rw [hm] at hd
          have hIN : Fm.wt (Fm.mk k1 n1 (.mk vl1 fl1 al1) (.mk vr1 fr1 ar1) us) ≤ N := by
            have h1 := Fm.wts_le ts i hlt
            rw [hm] at h1
            have := HS.out; omega
          have HI := Lib.hid (And.intro hIN hlt)
          have HD := Lib.hid hd
          clear hd hIN hm hsti
          go_wp2_with fail
          refine (IH.out k1 n1 vl1 fl1 al1 vr1 fr1 ar1 us S wr Al1 cl1 Ar1 cr1 Ai ci HI.out.1 HNB.out H2.out H3.out H1.out).mono ?_
          rintro e w2 ⟨rfl, hb2⟩
          have HB2 := Lib.hid (bel_step HB.out hb2)
          clear hb2
          cases hq : Fm.shape (Fm.mk k1 n1 (.mk vl1 fl1 al1) (.mk vr1 fr1 ar1) us)
          · have HF := Lib.hid (show Fm.shapes ts = false by rw [HK.out, HD.out, hq]; rfl)
            go_wp2_with fail
            go_ret
            exact ⟨ret_bool (by rw [HT.out, HF.out]), bel_box HB2.out⟩
          · have HF := Lib.hid (show Fm.shapes ts = Fm.shapes (ts.drop (i + 1)) by rw [HK.out, HD.out, hq]; rfl)
            go_wp2_with fail
            go_roundw
            case rel => exact ⟨i + 1, HI.out.2, by go_num, HF.out, HB2.out⟩
            case measure => have := HI.out.2; simp [intOf]; omega
        · obtain rfl : i = ts.length := by omega
          have HF := Lib.hid (show Fm.shapes ts = true by rw [HK.out, List.drop_length]; rfl)
          have d3 : decide (ts.length < ts.length) = false := by simp
          go_wp2_with fail
          go_ret
          exact ⟨ret_bool (by rw [HT.out, HF.out]), bel_box HB.out⟩
    cases d8 : (k == 8)
    rotate_left
    · have d1 : (k == 1) = false := by simp at d8 ⊢; omega
      rw [d1] at hk1
      simp only [Bool.not_false] at hk1
      simp only [d7, d8, d1, Bool.or_true, Bool.false_eq_true, if_true, if_false] at HH
      cases bk
      · simp only [Bool.not_false] at hqk
        have HD := Lib.hid (show hd = false by rw [HH.out]; simp)
        go_enter Tryz.func29, Tryz.ntmps29
        go_upto_region 1 with (fail)
        go_quiet ((go_at_call 52; exact Calls.quiet_of_same (HK.out _)))
        have HQ2 := Lib.hid (Below.drewN HQ.out nq)
        clear HQ
        generalize (w.alloc (.cells #[.int .i64 k, .string n, .int .i64 vl, .string fl, .slice Al al.length cl, .int .i64 vr, .string fr, .slice Ar ar.length cr, .slice A ts.length c] 27)).drewN nq = W at *
        have HQ := HQ2
        clear HQ2
        have z0 := box_cell HQ.out 0 _ rfl
        have z1 := box_cell HQ.out 1 _ rfl
        have z2 := box_cell HQ.out 2 _ rfl
        have z3 := box_cell HQ.out 3 _ rfl
        have z4 := box_cell HQ.out 4 _ rfl
        have z5 := box_cell HQ.out 5 _ rfl
        have z6 := box_cell HQ.out 6 _ rfl
        have z7 := box_cell HQ.out 7 _ rfl
        have z8 := box_cell HQ.out 8 _ rfl
        go_wp2_with fail
        go_ret
        exact ⟨ret_bool (by rw [HV.out, HD.out]; rfl), bel_box HQ.out⟩
      simp only [Bool.not_true] at hqk
      cases bv
      · have HD := Lib.hid (show hd = false by rw [HH.out]; simp)
        go_enter Tryz.func29, Tryz.ntmps29
        go_upto_region 1 with (fail)
        go_quiet ((go_at_call 52; exact Calls.quiet_of_same (HK.out _)))
        have HQ2 := Lib.hid (Below.drewN HQ.out nq)
        clear HQ
        generalize (w.alloc (.cells #[.int .i64 k, .string n, .int .i64 vl, .string fl, .slice Al al.length cl, .int .i64 vr, .string fr, .slice Ar ar.length cr, .slice A ts.length c] 27)).drewN nq = W at *
        have HQ := HQ2
        clear HQ2
        have z0 := box_cell HQ.out 0 _ rfl
        have z1 := box_cell HQ.out 1 _ rfl
        have z2 := box_cell HQ.out 2 _ rfl
        have z3 := box_cell HQ.out 3 _ rfl
        have z4 := box_cell HQ.out 4 _ rfl
        have z5 := box_cell HQ.out 5 _ rfl
        have z6 := box_cell HQ.out 6 _ rfl
        have z7 := box_cell HQ.out 7 _ rfl
        have z8 := box_cell HQ.out 8 _ rfl
        go_wp2_with fail
        refine (HVN.out _).mono ?_
        rintro e w9 ⟨rfl, rfl⟩
        go_wp2_with fail
        go_ret
        exact ⟨ret_bool (by rw [HV.out, HD.out]; rfl), bel_box HQ.out⟩
      cases bl
      · have HD := Lib.hid (show hd = false by rw [HH.out]; simp)
        go_enter Tryz.func29, Tryz.ntmps29
        go_upto_region 1 with (fail)
        go_quiet ((go_at_call 52; exact Calls.quiet_of_same (HK.out _)))
        have HQ2 := Lib.hid (Below.drewN HQ.out nq)
        clear HQ
        generalize (w.alloc (.cells #[.int .i64 k, .string n, .int .i64 vl, .string fl, .slice Al al.length cl, .int .i64 vr, .string fr, .slice Ar ar.length cr, .slice A ts.length c] 27)).drewN nq = W at *
        have HQ := HQ2
        clear HQ2
        have z0 := box_cell HQ.out 0 _ rfl
        have z1 := box_cell HQ.out 1 _ rfl
        have z2 := box_cell HQ.out 2 _ rfl
        have z3 := box_cell HQ.out 3 _ rfl
        have z4 := box_cell HQ.out 4 _ rfl
        have z5 := box_cell HQ.out 5 _ rfl
        have z6 := box_cell HQ.out 6 _ rfl
        have z7 := box_cell HQ.out 7 _ rfl
        have z8 := box_cell HQ.out 8 _ rfl
        go_wp2_with fail
        refine (HVN.out _).mono ?_
        rintro e w9 ⟨rfl, rfl⟩
        go_wp2_with fail
        refine (HNL.out _ (bel_box HQ.out)).mono ?_
        rintro e w9 ⟨rfl, hb9⟩
        have HQ2 := Lib.hid (bel_step HQ.out hb9)
        clear hb9 HQ z0 z1 z2 z3 z4 z5 z6 z7 z8
        have HQ := HQ2
        clear HQ2
        have z0 := box_cell HQ.out 0 _ rfl
        have z1 := box_cell HQ.out 1 _ rfl
        have z2 := box_cell HQ.out 2 _ rfl
        have z3 := box_cell HQ.out 3 _ rfl
        have z4 := box_cell HQ.out 4 _ rfl
        have z5 := box_cell HQ.out 5 _ rfl
        have z6 := box_cell HQ.out 6 _ rfl
        have z7 := box_cell HQ.out 7 _ rfl
        have z8 := box_cell HQ.out 8 _ rfl
        go_wp2_with fail
        go_ret
        exact ⟨ret_bool (by rw [HV.out, HD.out]; rfl), bel_box HQ.out⟩
      cases br
      · have HD := Lib.hid (show hd = false by rw [HH.out]; simp)
        go_enter Tryz.func29, Tryz.ntmps29
        go_upto_region 1 with (fail)
        go_quiet ((go_at_call 52; exact Calls.quiet_of_same (HK.out _)))
        have HQ2 := Lib.hid (Below.drewN HQ.out nq)
        clear HQ
        generalize (w.alloc (.cells #[.int .i64 k, .string n, .int .i64 vl, .string fl, .slice Al al.length cl, .int .i64 vr, .string fr, .slice Ar ar.length cr, .slice A ts.length c] 27)).drewN nq = W at *
        have HQ := HQ2
        clear HQ2
        have z0 := box_cell HQ.out 0 _ rfl
        have z1 := box_cell HQ.out 1 _ rfl
        have z2 := box_cell HQ.out 2 _ rfl
        have z3 := box_cell HQ.out 3 _ rfl
        have z4 := box_cell HQ.out 4 _ rfl
        have z5 := box_cell HQ.out 5 _ rfl
        have z6 := box_cell HQ.out 6 _ rfl
        have z7 := box_cell HQ.out 7 _ rfl
        have z8 := box_cell HQ.out 8 _ rfl
        go_wp2_with fail
        refine (HVN.out _).mono ?_
        rintro e w9 ⟨rfl, rfl⟩
        go_wp2_with fail
        refine (HNL.out _ (bel_box HQ.out)).mono ?_
        rintro e w9 ⟨rfl, hb9⟩
        have HQ2 := Lib.hid (bel_step HQ.out hb9)
        clear hb9 HQ z0 z1 z2 z3 z4 z5 z6 z7 z8
        have HQ := HQ2
        clear HQ2
        have z0 := box_cell HQ.out 0 _ rfl
        have z1 := box_cell HQ.out 1 _ rfl
        have z2 := box_cell HQ.out 2 _ rfl
        have z3 := box_cell HQ.out 3 _ rfl
        have z4 := box_cell HQ.out 4 _ rfl
        have z5 := box_cell HQ.out 5 _ rfl
        have z6 := box_cell HQ.out 6 _ rfl
        have z7 := box_cell HQ.out 7 _ rfl
        have z8 := box_cell HQ.out 8 _ rfl
        go_wp2_with fail
        refine (HNR.out _ (bel_box HQ.out)).mono ?_
        rintro e w9 ⟨rfl, hb9⟩
        have HQ2 := Lib.hid (bel_step HQ.out hb9)
        clear hb9 HQ z0 z1 z2 z3 z4 z5 z6 z7 z8
        have HQ := HQ2
        clear HQ2
        have z0 := box_cell HQ.out 0 _ rfl
        have z1 := box_cell HQ.out 1 _ rfl
        have z2 := box_cell HQ.out 2 _ rfl
        have z3 := box_cell HQ.out 3 _ rfl
        have z4 := box_cell HQ.out 4 _ rfl
        have z5 := box_cell HQ.out 5 _ rfl
        have z6 := box_cell HQ.out 6 _ rfl
        have z7 := box_cell HQ.out 7 _ rfl
        have z8 := box_cell HQ.out 8 _ rfl
        go_wp2_with fail
        go_ret
        exact ⟨ret_bool (by rw [HV.out, HD.out]; rfl), bel_box HQ.out⟩
      have HD := Lib.hid (show hd = true by rw [HH.out]; simp)
      go_enter Tryz.func29, Tryz.ntmps29
      go_upto_region 1 with (fail)
      go_quiet ((go_at_call 52; exact Calls.quiet_of_same (HK.out _)))
      have HQ2 := Lib.hid (Below.drewN HQ.out nq)
      clear HQ
      generalize (w.alloc (.cells #[.int .i64 k, .string n, .int .i64 vl, .string fl, .slice Al al.length cl, .int .i64 vr, .string fr, .slice Ar ar.length cr, .slice A ts.length c] 27)).drewN nq = W at *
      have HQ := HQ2
      clear HQ2
      have z0 := box_cell HQ.out 0 _ rfl
      have z1 := box_cell HQ.out 1 _ rfl
      have z2 := box_cell HQ.out 2 _ rfl
      have z3 := box_cell HQ.out 3 _ rfl
      have z4 := box_cell HQ.out 4 _ rfl
      have z5 := box_cell HQ.out 5 _ rfl
      have z6 := box_cell HQ.out 6 _ rfl
      have z7 := box_cell HQ.out 7 _ rfl
      have z8 := box_cell HQ.out 8 _ rfl
      go_wp2_with fail
      refine (HVN.out _).mono ?_
      rintro e w9 ⟨rfl, rfl⟩
      go_wp2_with fail
      refine (HNL.out _ (bel_box HQ.out)).mono ?_
      rintro e w9 ⟨rfl, hb9⟩
      have HQ2 := Lib.hid (bel_step HQ.out hb9)
      clear hb9 HQ z0 z1 z2 z3 z4 z5 z6 z7 z8
      have HQ := HQ2
      clear HQ2
      have z0 := box_cell HQ.out 0 _ rfl
      have z1 := box_cell HQ.out 1 _ rfl
      have z2 := box_cell HQ.out 2 _ rfl
      have z3 := box_cell HQ.out 3 _ rfl
      have z4 := box_cell HQ.out 4 _ rfl
      have z5 := box_cell HQ.out 5 _ rfl
      have z6 := box_cell HQ.out 6 _ rfl
      have z7 := box_cell HQ.out 7 _ rfl
      have z8 := box_cell HQ.out 8 _ rfl
      go_wp2_with fail
      refine (HNR.out _ (bel_box HQ.out)).mono ?_
      rintro e w9 ⟨rfl, hb9⟩
      have HQ2 := Lib.hid (bel_step HQ.out hb9)
      clear hb9 HQ z0 z1 z2 z3 z4 z5 z6 z7 z8
      have HQ := HQ2
      clear HQ2
      have z0 := box_cell HQ.out 0 _ rfl
      have z1 := box_cell HQ.out 1 _ rfl
      have z2 := box_cell HQ.out 2 _ rfl
      have z3 := box_cell HQ.out 3 _ rfl
      have z4 := box_cell HQ.out 4 _ rfl
      have z5 := box_cell HQ.out 5 _ rfl
      have z6 := box_cell HQ.out 6 _ rfl
      have z7 := box_cell HQ.out 7 _ rfl
      have z8 := box_cell HQ.out 8 _ rfl
      have HT := Lib.hid (show res = Fm.shapes ts by rw [HV.out, HD.out]; rfl)
      go_wp2_with fail
      clear z0 z1 z2 z3 z4 z5 z6 z7 z8
      go_loopw [4] (fun vi wl => ∃ i : Nat, i ≤ ts.length ∧ vi = .int .i64 i ∧ Fm.shapes ts = Fm.shapes (ts.drop i) ∧ Below (w.heap.size + 1) (w.alloc (.cells #[.int .i64 k, .string n, .int .i64 vl, .string fl, .slice Al al.length cl, .int .i64 vr, .string fr, .slice Ar ar.length cr, .slice A ts.length c] 27)) wl) (fun vi _ => ts.length - (intOf vi).toNat)
      case atStart => exact ⟨0, by omega, rfl, rfl, HQ.out⟩
      case round =>
        obtain ⟨i, hi, rfl, hk, hb⟩ := hrel
        have HK := Lib.hid hk
        have HB := Lib.hid hb
        have r0 := box_cell hb 8 _ rfl
        clear hk hb
        by_cases hlt : i < ts.length
        · obtain ⟨b, o, hA, k1, n1, vl1, fl1, al1, vr1, fr1, ar1, us, Al1, cl1, Ar1, cr1, Ai, ci, hm, hi1, hi2, hsti, p0, p1, p2, p3, p4, p5, p6, p7, p8⟩ := (HST.out.stay (Stay.below (bel_box HB.out))).at i hlt
          have H1 := Lib.hid hsti
          have H2 := Lib.hid hi1
          have H3 := Lib.hid hi2
          clear hi1 hi2
          subst hA
          have hd := Fm.shapes_drop ts i hlt
          rw [hm] at hd
          have hIN : Fm.wt (Fm.mk k1 n1 (.mk vl1 fl1 al1) (.mk vr1 fr1 ar1) us) ≤ N := by
            have h1 := Fm.wts_le ts i hlt
            rw [hm] at h1
            have := HS.out; omega
          have HI := Lib.hid (And.intro hIN hlt)
          have HD := Lib.hid hd
          clear hd hIN hm hsti
          go_wp2_with fail
          refine (IH.out k1 n1 vl1 fl1 al1 vr1 fr1 ar1 us S wr Al1 cl1 Ar1 cr1 Ai ci HI.out.1 HNB.out H2.out H3.out H1.out).mono ?_
          rintro e w2 ⟨rfl, hb2⟩
          have HB2 := Lib.hid (bel_step HB.out hb2)
          clear hb2
          cases hq : Fm.shape (Fm.mk k1 n1 (.mk vl1 fl1 al1) (.mk vr1 fr1 ar1) us)
          · have HF := Lib.hid (show Fm.shapes ts = false by rw [HK.out, HD.out, hq]; rfl)
            go_wp2_with fail
            go_ret
            exact ⟨ret_bool (by rw [HT.out, HF.out]), bel_box HB2.out⟩
          · have HF := Lib.hid (show Fm.shapes ts = Fm.shapes (ts.drop (i + 1)) by rw [HK.out, HD.out, hq]; rfl)
            go_wp2_with fail
            go_roundw
            case rel => exact ⟨i + 1, HI.out.2, by go_num, HF.out, HB2.out⟩
            case measure => have := HI.out.2; simp [intOf]; omega
        · obtain rfl : i = ts.length := by omega
          have HF := Lib.hid (show Fm.shapes ts = true by rw [HK.out, List.drop_length]; rfl)
          have d3 : decide (ts.length < ts.length) = false := by simp
          go_wp2_with fail
          go_ret
          exact ⟨ret_bool (by rw [HT.out, HF.out]), bel_box HB.out⟩
    cases d1 : (k == 1)
    rotate_left
    · rw [d1] at hk1
      simp only [Bool.not_true] at hk1
      simp only [d7, d8, d1, Bool.or_self, Bool.false_eq_true, if_true, if_false] at HH
      cases bk
      · simp only [Bool.not_false] at hqk
        have HD := Lib.hid (show hd = false by rw [HH.out]; simp)
        go_enter Tryz.func29, Tryz.ntmps29
        go_upto_region 1 with (fail)
        go_quiet ((go_at_call 52; exact Calls.quiet_of_same (HK.out _)))
        have HQ2 := Lib.hid (Below.drewN HQ.out nq)
        clear HQ
        generalize (w.alloc (.cells #[.int .i64 k, .string n, .int .i64 vl, .string fl, .slice Al al.length cl, .int .i64 vr, .string fr, .slice Ar ar.length cr, .slice A ts.length c] 27)).drewN nq = W at *
        have HQ := HQ2
        clear HQ2
        have z0 := box_cell HQ.out 0 _ rfl
        have z1 := box_cell HQ.out 1 _ rfl
        have z2 := box_cell HQ.out 2 _ rfl
        have z3 := box_cell HQ.out 3 _ rfl
        have z4 := box_cell HQ.out 4 _ rfl
        have z5 := box_cell HQ.out 5 _ rfl
        have z6 := box_cell HQ.out 6 _ rfl
        have z7 := box_cell HQ.out 7 _ rfl
        have z8 := box_cell HQ.out 8 _ rfl
        go_wp2_with fail
        go_ret
        exact ⟨ret_bool (by rw [HV.out, HD.out]; rfl), bel_box HQ.out⟩
      simp only [Bool.not_true] at hqk
      cases hne : n.toList.isEmpty
      · have HNE := Lib.hid hne
        have HD := Lib.hid (show hd = false by rw [HH.out]; simp [HNE.out])
        go_enter Tryz.func29, Tryz.ntmps29
        go_upto_region 1 with (fail)
        go_quiet ((go_at_call 52; exact Calls.quiet_of_same (HK.out _)))
        have HQ2 := Lib.hid (Below.drewN HQ.out nq)
        clear HQ
        generalize (w.alloc (.cells #[.int .i64 k, .string n, .int .i64 vl, .string fl, .slice Al al.length cl, .int .i64 vr, .string fr, .slice Ar ar.length cr, .slice A ts.length c] 27)).drewN nq = W at *
        have HQ := HQ2
        clear HQ2
        have z0 := box_cell HQ.out 0 _ rfl
        have z1 := box_cell HQ.out 1 _ rfl
        have z2 := box_cell HQ.out 2 _ rfl
        have z3 := box_cell HQ.out 3 _ rfl
        have z4 := box_cell HQ.out 4 _ rfl
        have z5 := box_cell HQ.out 5 _ rfl
        have z6 := box_cell HQ.out 6 _ rfl
        have z7 := box_cell HQ.out 7 _ rfl
        have z8 := box_cell HQ.out 8 _ rfl
        go_wp2_with fail
        go_ret
        exact ⟨ret_bool (by rw [HV.out, HD.out]; rfl), bel_box HQ.out⟩
      have HNE := Lib.hid hne
      cases ba
      · have HD := Lib.hid (show hd = false by rw [HH.out]; simp [HNE.out])
        go_enter Tryz.func29, Tryz.ntmps29
        go_upto_region 1 with (fail)
        go_quiet ((go_at_call 52; exact Calls.quiet_of_same (HK.out _)))
        have HQ2 := Lib.hid (Below.drewN HQ.out nq)
        clear HQ
        generalize (w.alloc (.cells #[.int .i64 k, .string n, .int .i64 vl, .string fl, .slice Al al.length cl, .int .i64 vr, .string fr, .slice Ar ar.length cr, .slice A ts.length c] 27)).drewN nq = W at *
        have HQ := HQ2
        clear HQ2
        have z0 := box_cell HQ.out 0 _ rfl
        have z1 := box_cell HQ.out 1 _ rfl
        have z2 := box_cell HQ.out 2 _ rfl
        have z3 := box_cell HQ.out 3 _ rfl
        have z4 := box_cell HQ.out 4 _ rfl
        have z5 := box_cell HQ.out 5 _ rfl
        have z6 := box_cell HQ.out 6 _ rfl
        have z7 := box_cell HQ.out 7 _ rfl
        have z8 := box_cell HQ.out 8 _ rfl
        go_wp2_with fail
        refine (HAT.out _ (bel_box HQ.out)).mono ?_
        rintro e w9 ⟨rfl, hb9⟩
        have HQ2 := Lib.hid (bel_step HQ.out hb9)
        clear hb9 HQ z0 z1 z2 z3 z4 z5 z6 z7 z8
        have HQ := HQ2
        clear HQ2
        have z0 := box_cell HQ.out 0 _ rfl
        have z1 := box_cell HQ.out 1 _ rfl
        have z2 := box_cell HQ.out 2 _ rfl
        have z3 := box_cell HQ.out 3 _ rfl
        have z4 := box_cell HQ.out 4 _ rfl
        have z5 := box_cell HQ.out 5 _ rfl
        have z6 := box_cell HQ.out 6 _ rfl
        have z7 := box_cell HQ.out 7 _ rfl
        have z8 := box_cell HQ.out 8 _ rfl
        go_wp2_with fail
        go_ret
        exact ⟨ret_bool (by rw [HV.out, HD.out]; rfl), bel_box HQ.out⟩
      have HD := Lib.hid (show hd = true by rw [HH.out]; simp [HNE.out])
      go_enter Tryz.func29, Tryz.ntmps29
      go_upto_region 1 with (fail)
      go_quiet ((go_at_call 52; exact Calls.quiet_of_same (HK.out _)))
      have HQ2 := Lib.hid (Below.drewN HQ.out nq)
      clear HQ
      generalize (w.alloc (.cells #[.int .i64 k, .string n, .int .i64 vl, .string fl, .slice Al al.length cl, .int .i64 vr, .string fr, .slice Ar ar.length cr, .slice A ts.length c] 27)).drewN nq = W at *
      have HQ := HQ2
      clear HQ2
      have z0 := box_cell HQ.out 0 _ rfl
      have z1 := box_cell HQ.out 1 _ rfl
      have z2 := box_cell HQ.out 2 _ rfl
      have z3 := box_cell HQ.out 3 _ rfl
      have z4 := box_cell HQ.out 4 _ rfl
      have z5 := box_cell HQ.out 5 _ rfl
      have z6 := box_cell HQ.out 6 _ rfl
      have z7 := box_cell HQ.out 7 _ rfl
      have z8 := box_cell HQ.out 8 _ rfl
      go_wp2_with fail
      refine (HAT.out _ (bel_box HQ.out)).mono ?_
      rintro e w9 ⟨rfl, hb9⟩
      have HQ2 := Lib.hid (bel_step HQ.out hb9)
      clear hb9 HQ z0 z1 z2 z3 z4 z5 z6 z7 z8
      have HQ := HQ2
      clear HQ2
      have z0 := box_cell HQ.out 0 _ rfl
      have z1 := box_cell HQ.out 1 _ rfl
      have z2 := box_cell HQ.out 2 _ rfl
      have z3 := box_cell HQ.out 3 _ rfl
      have z4 := box_cell HQ.out 4 _ rfl
      have z5 := box_cell HQ.out 5 _ rfl
      have z6 := box_cell HQ.out 6 _ rfl
      have z7 := box_cell HQ.out 7 _ rfl
      have z8 := box_cell HQ.out 8 _ rfl
      have HT := Lib.hid (show res = Fm.shapes ts by rw [HV.out, HD.out]; rfl)
      go_wp2_with fail
      clear z0 z1 z2 z3 z4 z5 z6 z7 z8
      go_loopw [4] (fun vi wl => ∃ i : Nat, i ≤ ts.length ∧ vi = .int .i64 i ∧ Fm.shapes ts = Fm.shapes (ts.drop i) ∧ Below (w.heap.size + 1) (w.alloc (.cells #[.int .i64 k, .string n, .int .i64 vl, .string fl, .slice Al al.length cl, .int .i64 vr, .string fr, .slice Ar ar.length cr, .slice A ts.length c] 27)) wl) (fun vi _ => ts.length - (intOf vi).toNat)
      case atStart => exact ⟨0, by omega, rfl, rfl, HQ.out⟩
      case round =>
        obtain ⟨i, hi, rfl, hk, hb⟩ := hrel
        have HK := Lib.hid hk
        have HB := Lib.hid hb
        have r0 := box_cell hb 8 _ rfl
        clear hk hb
        by_cases hlt : i < ts.length
        · obtain ⟨b, o, hA, k1, n1, vl1, fl1, al1, vr1, fr1, ar1, us, Al1, cl1, Ar1, cr1, Ai, ci, hm, hi1, hi2, hsti, p0, p1, p2, p3, p4, p5, p6, p7, p8⟩ := (HST.out.stay (Stay.below (bel_box HB.out))).at i hlt
          have H1 := Lib.hid hsti
          have H2 := Lib.hid hi1
          have H3 := Lib.hid hi2
          clear hi1 hi2
          subst hA
          have hd := Fm.shapes_drop ts i hlt
          rw [hm] at hd
          have hIN : Fm.wt (Fm.mk k1 n1 (.mk vl1 fl1 al1) (.mk vr1 fr1 ar1) us) ≤ N := by
            have h1 := Fm.wts_le ts i hlt
            rw [hm] at h1
            have := HS.out; omega
          have HI := Lib.hid (And.intro hIN hlt)
          have HD := Lib.hid hd
          clear hd hIN hm hsti
          go_wp2_with fail
          refine (IH.out k1 n1 vl1 fl1 al1 vr1 fr1 ar1 us S wr Al1 cl1 Ar1 cr1 Ai ci HI.out.1 HNB.out H2.out H3.out H1.out).mono ?_
          rintro e w2 ⟨rfl, hb2⟩
          have HB2 := Lib.hid (bel_step HB.out hb2)
          clear hb2
          cases hq : Fm.shape (Fm.mk k1 n1 (.mk vl1 fl1 al1) (.mk vr1 fr1 ar1) us)
          · have HF := Lib.hid (show Fm.shapes ts = false by rw [HK.out, HD.out, hq]; rfl)
            go_wp2_with fail
            go_ret
            exact ⟨ret_bool (by rw [HT.out, HF.out]), bel_box HB2.out⟩
          · have HF := Lib.hid (show Fm.shapes ts = Fm.shapes (ts.drop (i + 1)) by rw [HK.out, HD.out, hq]; rfl)
            go_wp2_with fail
            go_roundw
            case rel => exact ⟨i + 1, HI.out.2, by go_num, HF.out, HB2.out⟩
            case measure => have := HI.out.2; simp [intOf]; omega
        · obtain rfl : i = ts.length := by omega
          have HF := Lib.hid (show Fm.shapes ts = true by rw [HK.out, List.drop_length]; rfl)
          have d3 : decide (ts.length < ts.length) = false := by simp
          go_wp2_with fail
          go_ret
          exact ⟨ret_bool (by rw [HT.out, HF.out]), bel_box HB.out⟩
    · rw [d1] at hk1
      simp only [Bool.not_false] at hk1
      simp only [d7, d8, d1, Bool.or_self, Bool.false_eq_true, if_true, if_false] at HH
      cases bk
      · simp only [Bool.not_false] at hqk
        have HD := Lib.hid (show hd = false by rw [HH.out]; simp)
        go_enter Tryz.func29, Tryz.ntmps29
        go_upto_region 1 with (fail)
        go_quiet ((go_at_call 52; exact Calls.quiet_of_same (HK.out _)))
        have HQ2 := Lib.hid (Below.drewN HQ.out nq)
        clear HQ
        generalize (w.alloc (.cells #[.int .i64 k, .string n, .int .i64 vl, .string fl, .slice Al al.length cl, .int .i64 vr, .string fr, .slice Ar ar.length cr, .slice A ts.length c] 27)).drewN nq = W at *
        have HQ := HQ2
        clear HQ2
        have z0 := box_cell HQ.out 0 _ rfl
        have z1 := box_cell HQ.out 1 _ rfl
        have z2 := box_cell HQ.out 2 _ rfl
        have z3 := box_cell HQ.out 3 _ rfl
        have z4 := box_cell HQ.out 4 _ rfl
        have z5 := box_cell HQ.out 5 _ rfl
        have z6 := box_cell HQ.out 6 _ rfl
        have z7 := box_cell HQ.out 7 _ rfl
        have z8 := box_cell HQ.out 8 _ rfl
        go_wp2_with fail
        go_ret
        exact ⟨ret_bool (by rw [HV.out, HD.out]; rfl), bel_box HQ.out⟩
      simp only [Bool.not_true] at hqk
      cases hne : n.toList.isEmpty
      · have HNE := Lib.hid hne
        have HD := Lib.hid (show hd = false by rw [HH.out]; simp [HNE.out])
        go_enter Tryz.func29, Tryz.ntmps29
        go_upto_region 1 with (fail)
        go_quiet ((go_at_call 52; exact Calls.quiet_of_same (HK.out _)))
        have HQ2 := Lib.hid (Below.drewN HQ.out nq)
        clear HQ
        generalize (w.alloc (.cells #[.int .i64 k, .string n, .int .i64 vl, .string fl, .slice Al al.length cl, .int .i64 vr, .string fr, .slice Ar ar.length cr, .slice A ts.length c] 27)).drewN nq = W at *
        have HQ := HQ2
        clear HQ2
        have z0 := box_cell HQ.out 0 _ rfl
        have z1 := box_cell HQ.out 1 _ rfl
        have z2 := box_cell HQ.out 2 _ rfl
        have z3 := box_cell HQ.out 3 _ rfl
        have z4 := box_cell HQ.out 4 _ rfl
        have z5 := box_cell HQ.out 5 _ rfl
        have z6 := box_cell HQ.out 6 _ rfl
        have z7 := box_cell HQ.out 7 _ rfl
        have z8 := box_cell HQ.out 8 _ rfl
        go_wp2_with fail
        go_ret
        exact ⟨ret_bool (by rw [HV.out, HD.out]; rfl), bel_box HQ.out⟩
      have HNE := Lib.hid hne
      cases bl
      · have HD := Lib.hid (show hd = false by rw [HH.out]; simp [HNE.out])
        go_enter Tryz.func29, Tryz.ntmps29
        go_upto_region 1 with (fail)
        go_quiet ((go_at_call 52; exact Calls.quiet_of_same (HK.out _)))
        have HQ2 := Lib.hid (Below.drewN HQ.out nq)
        clear HQ
        generalize (w.alloc (.cells #[.int .i64 k, .string n, .int .i64 vl, .string fl, .slice Al al.length cl, .int .i64 vr, .string fr, .slice Ar ar.length cr, .slice A ts.length c] 27)).drewN nq = W at *
        have HQ := HQ2
        clear HQ2
        have z0 := box_cell HQ.out 0 _ rfl
        have z1 := box_cell HQ.out 1 _ rfl
        have z2 := box_cell HQ.out 2 _ rfl
        have z3 := box_cell HQ.out 3 _ rfl
        have z4 := box_cell HQ.out 4 _ rfl
        have z5 := box_cell HQ.out 5 _ rfl
        have z6 := box_cell HQ.out 6 _ rfl
        have z7 := box_cell HQ.out 7 _ rfl
        have z8 := box_cell HQ.out 8 _ rfl
        go_wp2_with fail
        refine (HNL.out _ (bel_box HQ.out)).mono ?_
        rintro e w9 ⟨rfl, hb9⟩
        have HQ2 := Lib.hid (bel_step HQ.out hb9)
        clear hb9 HQ z0 z1 z2 z3 z4 z5 z6 z7 z8
        have HQ := HQ2
        clear HQ2
        have z0 := box_cell HQ.out 0 _ rfl
        have z1 := box_cell HQ.out 1 _ rfl
        have z2 := box_cell HQ.out 2 _ rfl
        have z3 := box_cell HQ.out 3 _ rfl
        have z4 := box_cell HQ.out 4 _ rfl
        have z5 := box_cell HQ.out 5 _ rfl
        have z6 := box_cell HQ.out 6 _ rfl
        have z7 := box_cell HQ.out 7 _ rfl
        have z8 := box_cell HQ.out 8 _ rfl
        go_wp2_with fail
        go_ret
        exact ⟨ret_bool (by rw [HV.out, HD.out]; rfl), bel_box HQ.out⟩
      cases br
      · have HD := Lib.hid (show hd = false by rw [HH.out]; simp [HNE.out])
        go_enter Tryz.func29, Tryz.ntmps29
        go_upto_region 1 with (fail)
        go_quiet ((go_at_call 52; exact Calls.quiet_of_same (HK.out _)))
        have HQ2 := Lib.hid (Below.drewN HQ.out nq)
        clear HQ
        generalize (w.alloc (.cells #[.int .i64 k, .string n, .int .i64 vl, .string fl, .slice Al al.length cl, .int .i64 vr, .string fr, .slice Ar ar.length cr, .slice A ts.length c] 27)).drewN nq = W at *
        have HQ := HQ2
        clear HQ2
        have z0 := box_cell HQ.out 0 _ rfl
        have z1 := box_cell HQ.out 1 _ rfl
        have z2 := box_cell HQ.out 2 _ rfl
        have z3 := box_cell HQ.out 3 _ rfl
        have z4 := box_cell HQ.out 4 _ rfl
        have z5 := box_cell HQ.out 5 _ rfl
        have z6 := box_cell HQ.out 6 _ rfl
        have z7 := box_cell HQ.out 7 _ rfl
        have z8 := box_cell HQ.out 8 _ rfl
        go_wp2_with fail
        refine (HNL.out _ (bel_box HQ.out)).mono ?_
        rintro e w9 ⟨rfl, hb9⟩
        have HQ2 := Lib.hid (bel_step HQ.out hb9)
        clear hb9 HQ z0 z1 z2 z3 z4 z5 z6 z7 z8
        have HQ := HQ2
        clear HQ2
        have z0 := box_cell HQ.out 0 _ rfl
        have z1 := box_cell HQ.out 1 _ rfl
        have z2 := box_cell HQ.out 2 _ rfl
        have z3 := box_cell HQ.out 3 _ rfl
        have z4 := box_cell HQ.out 4 _ rfl
        have z5 := box_cell HQ.out 5 _ rfl
        have z6 := box_cell HQ.out 6 _ rfl
        have z7 := box_cell HQ.out 7 _ rfl
        have z8 := box_cell HQ.out 8 _ rfl
        go_wp2_with fail
        refine (HNR.out _ (bel_box HQ.out)).mono ?_
        rintro e w9 ⟨rfl, hb9⟩
        have HQ2 := Lib.hid (bel_step HQ.out hb9)
        clear hb9 HQ z0 z1 z2 z3 z4 z5 z6 z7 z8
        have HQ := HQ2
        clear HQ2
        have z0 := box_cell HQ.out 0 _ rfl
        have z1 := box_cell HQ.out 1 _ rfl
        have z2 := box_cell HQ.out 2 _ rfl
        have z3 := box_cell HQ.out 3 _ rfl
        have z4 := box_cell HQ.out 4 _ rfl
        have z5 := box_cell HQ.out 5 _ rfl
        have z6 := box_cell HQ.out 6 _ rfl
        have z7 := box_cell HQ.out 7 _ rfl
        have z8 := box_cell HQ.out 8 _ rfl
        go_wp2_with fail
        go_ret
        exact ⟨ret_bool (by rw [HV.out, HD.out]; rfl), bel_box HQ.out⟩
      have HD := Lib.hid (show hd = true by rw [HH.out]; simp [HNE.out])
      go_enter Tryz.func29, Tryz.ntmps29
      go_upto_region 1 with (fail)
      go_quiet ((go_at_call 52; exact Calls.quiet_of_same (HK.out _)))
      have HQ2 := Lib.hid (Below.drewN HQ.out nq)
      clear HQ
      generalize (w.alloc (.cells #[.int .i64 k, .string n, .int .i64 vl, .string fl, .slice Al al.length cl, .int .i64 vr, .string fr, .slice Ar ar.length cr, .slice A ts.length c] 27)).drewN nq = W at *
      have HQ := HQ2
      clear HQ2
      have z0 := box_cell HQ.out 0 _ rfl
      have z1 := box_cell HQ.out 1 _ rfl
      have z2 := box_cell HQ.out 2 _ rfl
      have z3 := box_cell HQ.out 3 _ rfl
      have z4 := box_cell HQ.out 4 _ rfl
      have z5 := box_cell HQ.out 5 _ rfl
      have z6 := box_cell HQ.out 6 _ rfl
      have z7 := box_cell HQ.out 7 _ rfl
      have z8 := box_cell HQ.out 8 _ rfl
      go_wp2_with fail
      refine (HNL.out _ (bel_box HQ.out)).mono ?_
      rintro e w9 ⟨rfl, hb9⟩
      have HQ2 := Lib.hid (bel_step HQ.out hb9)
      clear hb9 HQ z0 z1 z2 z3 z4 z5 z6 z7 z8
      have HQ := HQ2
      clear HQ2
      have z0 := box_cell HQ.out 0 _ rfl
      have z1 := box_cell HQ.out 1 _ rfl
      have z2 := box_cell HQ.out 2 _ rfl
      have z3 := box_cell HQ.out 3 _ rfl
      have z4 := box_cell HQ.out 4 _ rfl
      have z5 := box_cell HQ.out 5 _ rfl
      have z6 := box_cell HQ.out 6 _ rfl
      have z7 := box_cell HQ.out 7 _ rfl
      have z8 := box_cell HQ.out 8 _ rfl
      go_wp2_with fail
      refine (HNR.out _ (bel_box HQ.out)).mono ?_
      rintro e w9 ⟨rfl, hb9⟩
      have HQ2 := Lib.hid (bel_step HQ.out hb9)
      clear hb9 HQ z0 z1 z2 z3 z4 z5 z6 z7 z8
      have HQ := HQ2
      clear HQ2
      have z0 := box_cell HQ.out 0 _ rfl
      have z1 := box_cell HQ.out 1 _ rfl
      have z2 := box_cell HQ.out 2 _ rfl
      have z3 := box_cell HQ.out 3 _ rfl
      have z4 := box_cell HQ.out 4 _ rfl
      have z5 := box_cell HQ.out 5 _ rfl
      have z6 := box_cell HQ.out 6 _ rfl
      have z7 := box_cell HQ.out 7 _ rfl
      have z8 := box_cell HQ.out 8 _ rfl
      have HT := Lib.hid (show res = Fm.shapes ts by rw [HV.out, HD.out]; rfl)
      go_wp2_with fail
      clear z0 z1 z2 z3 z4 z5 z6 z7 z8
      go_loopw [4] (fun vi wl => ∃ i : Nat, i ≤ ts.length ∧ vi = .int .i64 i ∧ Fm.shapes ts = Fm.shapes (ts.drop i) ∧ Below (w.heap.size + 1) (w.alloc (.cells #[.int .i64 k, .string n, .int .i64 vl, .string fl, .slice Al al.length cl, .int .i64 vr, .string fr, .slice Ar ar.length cr, .slice A ts.length c] 27)) wl) (fun vi _ => ts.length - (intOf vi).toNat)
      case atStart => exact ⟨0, by omega, rfl, rfl, HQ.out⟩
      case round =>
        obtain ⟨i, hi, rfl, hk, hb⟩ := hrel
        have HK := Lib.hid hk
        have HB := Lib.hid hb
        have r0 := box_cell hb 8 _ rfl
        clear hk hb
        by_cases hlt : i < ts.length
        · obtain ⟨b, o, hA, k1, n1, vl1, fl1, al1, vr1, fr1, ar1, us, Al1, cl1, Ar1, cr1, Ai, ci, hm, hi1, hi2, hsti, p0, p1, p2, p3, p4, p5, p6, p7, p8⟩ := (HST.out.stay (Stay.below (bel_box HB.out))).at i hlt
          have H1 := Lib.hid hsti
          have H2 := Lib.hid hi1
          have H3 := Lib.hid hi2
          clear hi1 hi2
          subst hA
          have hd := Fm.shapes_drop ts i hlt
          rw [hm] at hd
          have hIN : Fm.wt (Fm.mk k1 n1 (.mk vl1 fl1 al1) (.mk vr1 fr1 ar1) us) ≤ N := by
            have h1 := Fm.wts_le ts i hlt
            rw [hm] at h1
            have := HS.out; omega
          have HI := Lib.hid (And.intro hIN hlt)
          have HD := Lib.hid hd
          clear hd hIN hm hsti
          go_wp2_with fail
          refine (IH.out k1 n1 vl1 fl1 al1 vr1 fr1 ar1 us S wr Al1 cl1 Ar1 cr1 Ai ci HI.out.1 HNB.out H2.out H3.out H1.out).mono ?_
          rintro e w2 ⟨rfl, hb2⟩
          have HB2 := Lib.hid (bel_step HB.out hb2)
          clear hb2
          cases hq : Fm.shape (Fm.mk k1 n1 (.mk vl1 fl1 al1) (.mk vr1 fr1 ar1) us)
          · have HF := Lib.hid (show Fm.shapes ts = false by rw [HK.out, HD.out, hq]; rfl)
            go_wp2_with fail
            go_ret
            exact ⟨ret_bool (by rw [HT.out, HF.out]), bel_box HB2.out⟩
          · have HF := Lib.hid (show Fm.shapes ts = Fm.shapes (ts.drop (i + 1)) by rw [HK.out, HD.out, hq]; rfl)
            go_wp2_with fail
            go_roundw
            case rel => exact ⟨i + 1, HI.out.2, by go_num, HF.out, HB2.out⟩
            case measure => have := HI.out.2; simp [intOf]; omega
        · obtain rfl : i = ts.length := by omega
          have HF := Lib.hid (show Fm.shapes ts = true by rw [HK.out, List.drop_length]; rfl)
          have d3 : decide (ts.length < ts.length) = false := by simp
          go_wp2_with fail
          go_ret
          exact ⟨ret_bool (by rw [HT.out, HF.out]), bel_box HB.out⟩
def FInts (f : Fm) : Int := if 4000 < f.size then 3 else if 60 < f.depth then 22 else 0
theorem rightE_eq (f : Fm) : f.rightE = if f.shape then FInts f else 1 := rfl
theorem fits_any (k : Int) (n : ByteArray) (vl : Int) (fl : ByteArray) (al : List Tm) (vr : Int) (fr : ByteArray) (ar : List Tm) (ts : List Fm) (S : Nat → Prop) (w : World) (Al : Option Addr) (cl : Nat) (Ar : Option Addr) (cr : Nat) (A : Option Addr) (c : Nat) (hN : (Fm.mk k n (.mk vl fl al) (.mk vr fr ar) ts).wt ≤ 1152921504606846976) (h1 : ST S w Al al.length cl al) (h2 : ST S w Ar ar.length cr ar) (h3 : SF S w A ts.length c ts) :
    Calls Tryz.prog 34 #[.agg #[.int .i64 k, .string n, .int .i64 vl, .string fl, .slice Al al.length cl, .int .i64 vr, .string fr, .slice Ar ar.length cr, .slice A ts.length c]] w fun e w' => e = .returned (.int .i64 (FInts (Fm.mk k n (.mk vl fl al) (.mk vr fr ar) ts))) ∧ Below w.heap.size w w' := by
  have hsw := Fm.size_wt (Fm.mk k n (.mk vl fl al) (.mk vr fr ar) ts)
  have hdl := Fm.depth_le (Fm.mk k n (.mk vl fl al) (.mk vr fr ar) ts)
  have HSZ := Lib.hid (fun w' (hb : Below w.heap.size w w') => fsize0 1152921504606846976 k n vl fl al vr fr ar ts S w' Al cl Ar cr A c (by omega) (Nat.le_refl _) (h1.stay (Stay.below hb)) (h2.stay (Stay.below hb)) (h3.stay (Stay.below hb)))
  have HDP := Lib.hid (fun w' (hb : Below w.heap.size w w') => fdepth0 1152921504606846976 k n vl fl al vr fr ar ts S w' Al cl Ar cr A c (by omega) (Nat.le_refl _) (h1.stay (Stay.below hb)) (h2.stay (Stay.below hb)) (h3.stay (Stay.below hb)))
  have HV : Hid (FInts (Fm.mk k n (.mk vl fl al) (.mk vr fr ar) ts) = if 4000 < (Fm.mk k n (.mk vl fl al) (.mk vr fr ar) ts).size then 3 else if 60 < (Fm.mk k n (.mk vl fl al) (.mk vr fr ar) ts).depth then 22 else 0) := Lib.hid rfl
  have HQ := Lib.hid (Below.refl (w.heap.size + 1) (w.alloc (.cells #[.int .i64 k, .string n, .int .i64 vl, .string fl, .slice Al al.length cl, .int .i64 vr, .string fr, .slice Ar ar.length cr, .slice A ts.length c] 27)))
  generalize FInts (Fm.mk k n (.mk vl fl al) (.mk vr fr ar) ts) = res at *
  generalize (Fm.mk k n (.mk vl fl al) (.mk vr fr ar) ts).size = q at *
  generalize (Fm.mk k n (.mk vl fl al) (.mk vr fr ar) ts).depth = dd at *
  clear hsw hdl h1 h2 h3 hN
  cases q1 : decide (4000 < q)
  rotate_left
  · have p1 : 4000 < q := by simpa using q1
    have p1' : decide ((q : Int) > 4000) = true := by simp; omega
    have HR := Lib.hid (show res = 3 by rw [HV.out]; simp only [if_pos p1])
    clear p1 q1
    go_enter Tryz.func34, Tryz.ntmps34
    go_wp2_with fail
    refine (HSZ.out _ (bel_box HQ.out)).mono ?_
    rintro e w9 ⟨rfl, hb9⟩
    have HQ2 := Lib.hid (bel_step HQ.out hb9)
    clear hb9
    go_wp2_with fail
    go_ret
    exact ⟨ret_int (by rw [HR.out]), bel_box HQ2.out⟩
  have p1 : ¬ 4000 < q := by simpa using q1
  have p1' : decide ((q : Int) > 4000) = false := by simp; omega
  cases q2 : decide (60 < dd)
  · have p2 : ¬ 60 < dd := by simpa using q2
    have p2' : decide ((dd : Int) > 60) = false := by simp; omega
    have HR := Lib.hid (show res = 0 by rw [HV.out]; simp only [if_neg p1, if_neg p2])
    clear p1 p2 q1 q2
    go_enter Tryz.func34, Tryz.ntmps34
    go_wp2_with fail
    refine (HSZ.out _ (bel_box HQ.out)).mono ?_
    rintro e w9 ⟨rfl, hb9⟩
    have HQ2 := Lib.hid (bel_step HQ.out hb9)
    clear hb9
    have z0 := box_cell HQ2.out 0 _ rfl
    have z1 := box_cell HQ2.out 1 _ rfl
    have z2 := box_cell HQ2.out 2 _ rfl
    have z3 := box_cell HQ2.out 3 _ rfl
    have z4 := box_cell HQ2.out 4 _ rfl
    have z5 := box_cell HQ2.out 5 _ rfl
    have z6 := box_cell HQ2.out 6 _ rfl
    have z7 := box_cell HQ2.out 7 _ rfl
    have z8 := box_cell HQ2.out 8 _ rfl
    go_wp2_with fail
    refine (HDP.out _ (bel_box HQ2.out)).mono ?_
    rintro e w10 ⟨rfl, hb10⟩
    have HQ3 := Lib.hid (bel_step HQ2.out hb10)
    clear hb10
    go_wp2_with fail
    go_ret
    exact ⟨ret_int (by rw [HR.out]), bel_box HQ3.out⟩
  · have p2 : 60 < dd := by simpa using q2
    have p2' : decide ((dd : Int) > 60) = true := by simp; omega
    have HR := Lib.hid (show res = 22 by rw [HV.out]; simp only [if_neg p1, if_pos p2])
    clear p1 p2 q1 q2
    go_enter Tryz.func34, Tryz.ntmps34
    go_wp2_with fail
    refine (HSZ.out _ (bel_box HQ.out)).mono ?_
    rintro e w9 ⟨rfl, hb9⟩
    have HQ2 := Lib.hid (bel_step HQ.out hb9)
    clear hb9
    have z0 := box_cell HQ2.out 0 _ rfl
    have z1 := box_cell HQ2.out 1 _ rfl
    have z2 := box_cell HQ2.out 2 _ rfl
    have z3 := box_cell HQ2.out 3 _ rfl
    have z4 := box_cell HQ2.out 4 _ rfl
    have z5 := box_cell HQ2.out 5 _ rfl
    have z6 := box_cell HQ2.out 6 _ rfl
    have z7 := box_cell HQ2.out 7 _ rfl
    have z8 := box_cell HQ2.out 8 _ rfl
    go_wp2_with fail
    refine (HDP.out _ (bel_box HQ2.out)).mono ?_
    rintro e w10 ⟨rfl, hb10⟩
    have HQ3 := Lib.hid (bel_step HQ2.out hb10)
    clear hb10
    go_wp2_with fail
    go_ret
    exact ⟨ret_int (by rw [HR.out]), bel_box HQ3.out⟩
theorem right_any (k : Int) (n : ByteArray) (vl : Int) (fl : ByteArray) (al : List Tm) (vr : Int) (fr : ByteArray) (ar : List Tm) (ts : List Fm) (S : Nat → Prop) (w : World) (Al : Option Addr) (cl : Nat) (Ar : Option Addr) (cr : Nat) (A : Option Addr) (c : Nat) (hN : (Fm.mk k n (.mk vl fl al) (.mk vr fr ar) ts).wt ≤ 1152921504606846976) (h1 : ST S w Al al.length cl al) (h2 : ST S w Ar ar.length cr ar) (h3 : SF S w A ts.length c ts) :
    Calls Tryz.prog 17 #[.agg #[.int .i64 k, .string n, .int .i64 vl, .string fl, .slice Al al.length cl, .int .i64 vr, .string fr, .slice Ar ar.length cr, .slice A ts.length c]] w fun e w' => e = .returned (.int .i64 (Fm.mk k n (.mk vl fl al) (.mk vr fr ar) ts).rightE) ∧ Below w.heap.size w w' := by
  have HSH := Lib.hid (fun w' (hb : Below w.heap.size w w') => shape0 _ k n vl fl al vr fr ar ts S w' Al cl Ar cr A c hN (Nat.le_refl _) (h1.stay (Stay.below hb)) (h2.stay (Stay.below hb)) (h3.stay (Stay.below hb)))
  have HFT := Lib.hid (fun w' (hb : Below w.heap.size w w') => fits_any k n vl fl al vr fr ar ts S w' Al cl Ar cr A c hN (h1.stay (Stay.below hb)) (h2.stay (Stay.below hb)) (h3.stay (Stay.below hb)))
  have HV := Lib.hid (rightE_eq (Fm.mk k n (.mk vl fl al) (.mk vr fr ar) ts))
  have HQ := Lib.hid (Below.refl (w.heap.size + 1) (w.alloc (.cells #[.int .i64 k, .string n, .int .i64 vl, .string fl, .slice Al al.length cl, .int .i64 vr, .string fr, .slice Ar ar.length cr, .slice A ts.length c] 27)))
  generalize (Fm.mk k n (.mk vl fl al) (.mk vr fr ar) ts).rightE = res at *
  generalize FInts (Fm.mk k n (.mk vl fl al) (.mk vr fr ar) ts) = fi at *
  generalize (Fm.mk k n (.mk vl fl al) (.mk vr fr ar) ts).shape = bs' at *
  clear h1 h2 h3 hN
  cases bs'
  · have HR := Lib.hid (show res = 1 by rw [HV.out]; rfl)
    go_enter Tryz.func17, Tryz.ntmps17
    go_wp2_with fail
    refine (HSH.out _ (bel_box HQ.out)).mono ?_
    rintro e w9 ⟨rfl, hb9⟩
    have HQ2 := Lib.hid (bel_step HQ.out hb9)
    clear hb9
    go_wp2_with fail
    go_ret
    exact ⟨ret_int (by rw [HR.out]), bel_box HQ2.out⟩
  · have HR := Lib.hid (show res = fi by rw [HV.out]; rfl)
    go_enter Tryz.func17, Tryz.ntmps17
    go_wp2_with fail
    refine (HSH.out _ (bel_box HQ.out)).mono ?_
    rintro e w9 ⟨rfl, hb9⟩
    have HQ2 := Lib.hid (bel_step HQ.out hb9)
    clear hb9
    have z0 := box_cell HQ2.out 0 _ rfl
    have z1 := box_cell HQ2.out 1 _ rfl
    have z2 := box_cell HQ2.out 2 _ rfl
    have z3 := box_cell HQ2.out 3 _ rfl
    have z4 := box_cell HQ2.out 4 _ rfl
    have z5 := box_cell HQ2.out 5 _ rfl
    have z6 := box_cell HQ2.out 6 _ rfl
    have z7 := box_cell HQ2.out 7 _ rfl
    have z8 := box_cell HQ2.out 8 _ rfl
    go_wp2_with fail
    refine (HFT.out _ (bel_box HQ2.out)).mono ?_
    rintro e w10 ⟨rfl, hb10⟩
    have HQ3 := Lib.hid (bel_step HQ2.out hb10)
    clear hb10
    go_wp2_with fail
    go_ret
    exact ⟨ret_int (by rw [HR.out]), bel_box HQ3.out⟩
theorem rright_any (k : Int) (n : ByteArray) (vl : Int) (fl : ByteArray) (al : List Tm) (vr : Int) (fr : ByteArray) (ar : List Tm) (ts : List Fm) (S : Nat → Prop) (w : World) (Al : Option Addr) (cl : Nat) (Ar : Option Addr) (cr : Nat) (A : Option Addr) (c : Nat) (hN : (Fm.mk k n (.mk vl fl al) (.mk vr fr ar) ts).wt ≤ 1152921504606846976) (h1 : ST S w Al al.length cl al) (h2 : ST S w Ar ar.length cr ar) (h3 : SF S w A ts.length c ts) :
    Calls Tryz.prog 14 #[.agg #[.int .i64 k, .string n, .int .i64 vl, .string fl, .slice Al al.length cl, .int .i64 vr, .string fr, .slice Ar ar.length cr, .slice A ts.length c]] w fun e w' => e = .returned (.int .i64 (Fm.mk k n (.mk vl fl al) (.mk vr fr ar) ts).rightE) ∧ Below w.heap.size w w' := by
  have HSH := Lib.hid (fun w' (hb : Below w.heap.size w w') => rshape0 _ k n vl fl al vr fr ar ts S w' Al cl Ar cr A c hN (Nat.le_refl _) (h1.stay (Stay.below hb)) (h2.stay (Stay.below hb)) (h3.stay (Stay.below hb)))
  have HVR := Lib.hid (rightE_eq (Fm.mk k n (.mk vl fl al) (.mk vr fr ar) ts))
  generalize (Fm.mk k n (.mk vl fl al) (.mk vr fr ar) ts).rightE = re at *
  generalize (Fm.mk k n (.mk vl fl al) (.mk vr fr ar) ts).shape = bs' at *
  have hsw := Fm.size_wt (Fm.mk k n (.mk vl fl al) (.mk vr fr ar) ts)
  have hdl := Fm.depth_le (Fm.mk k n (.mk vl fl al) (.mk vr fr ar) ts)
  have HSZ := Lib.hid (fun w' (hb : Below w.heap.size w w') => rfsize0 1152921504606846976 k n vl fl al vr fr ar ts S w' Al cl Ar cr A c (by omega) (Nat.le_refl _) (h1.stay (Stay.below hb)) (h2.stay (Stay.below hb)) (h3.stay (Stay.below hb)))
  have HDP := Lib.hid (fun w' (hb : Below w.heap.size w w') => rfdepth0 1152921504606846976 k n vl fl al vr fr ar ts S w' Al cl Ar cr A c (by omega) (Nat.le_refl _) (h1.stay (Stay.below hb)) (h2.stay (Stay.below hb)) (h3.stay (Stay.below hb)))
  have HV : Hid (FInts (Fm.mk k n (.mk vl fl al) (.mk vr fr ar) ts) = if 4000 < (Fm.mk k n (.mk vl fl al) (.mk vr fr ar) ts).size then 3 else if 60 < (Fm.mk k n (.mk vl fl al) (.mk vr fr ar) ts).depth then 22 else 0) := Lib.hid rfl
  have HQ := Lib.hid (Below.refl (w.heap.size + 1) (w.alloc (.cells #[.int .i64 k, .string n, .int .i64 vl, .string fl, .slice Al al.length cl, .int .i64 vr, .string fr, .slice Ar ar.length cr, .slice A ts.length c] 27)))
  generalize FInts (Fm.mk k n (.mk vl fl al) (.mk vr fr ar) ts) = res at *
  generalize (Fm.mk k n (.mk vl fl al) (.mk vr fr ar) ts).size = q at *
  generalize (Fm.mk k n (.mk vl fl al) (.mk vr fr ar) ts).depth = dd at *
  clear hsw hdl h1 h2 h3 hN
  cases bs'
  · have HR := Lib.hid (show re = 1 by rw [HVR.out]; rfl)
    go_enter Tryz.func14, Tryz.ntmps14
    go_wp2_with fail
    refine (HSH.out _ (bel_box HQ.out)).mono ?_
    rintro e w9 ⟨rfl, hb9⟩
    have HQ2 := Lib.hid (bel_step HQ.out hb9)
    clear hb9
    go_wp2_with fail
    go_ret
    exact ⟨ret_int (by rw [HR.out]), bel_box HQ2.out⟩
  have HR0 := Lib.hid (show re = res by rw [HVR.out]; rfl)
  cases q1 : decide (4000 < q)
  rotate_left
  · have p1 : 4000 < q := by simpa using q1
    have p1' : decide ((q : Int) > 4000) = true := by simp; omega
    have HR := Lib.hid (show re = 3 by rw [HR0.out, HV.out]; simp only [if_pos p1])
    clear p1 q1
    go_enter Tryz.func14, Tryz.ntmps14
    go_wp2_with fail
    refine (HSH.out _ (bel_box HQ.out)).mono ?_
    rintro e w9 ⟨rfl, hb9⟩
    have HQ1 := Lib.hid (bel_step HQ.out hb9)
    clear hb9
    have z0 := box_cell HQ1.out 0 _ rfl
    have z1 := box_cell HQ1.out 1 _ rfl
    have z2 := box_cell HQ1.out 2 _ rfl
    have z3 := box_cell HQ1.out 3 _ rfl
    have z4 := box_cell HQ1.out 4 _ rfl
    have z5 := box_cell HQ1.out 5 _ rfl
    have z6 := box_cell HQ1.out 6 _ rfl
    have z7 := box_cell HQ1.out 7 _ rfl
    have z8 := box_cell HQ1.out 8 _ rfl
    go_wp2_with fail
    refine (HSZ.out _ (bel_box HQ1.out)).mono ?_
    rintro e w9 ⟨rfl, hb9⟩
    have HQ2 := Lib.hid (bel_step HQ1.out hb9)
    clear hb9
    go_wp2_with fail
    go_ret
    exact ⟨ret_int (by rw [HR.out]), bel_box HQ2.out⟩
  have p1 : ¬ 4000 < q := by simpa using q1
  have p1' : decide ((q : Int) > 4000) = false := by simp; omega
  cases q2 : decide (60 < dd)
  · have p2 : ¬ 60 < dd := by simpa using q2
    have p2' : decide ((dd : Int) > 60) = false := by simp; omega
    have HR := Lib.hid (show re = 0 by rw [HR0.out, HV.out]; simp only [if_neg p1, if_neg p2])
    clear p1 p2 q1 q2
    go_enter Tryz.func14, Tryz.ntmps14
    go_wp2_with fail
    refine (HSH.out _ (bel_box HQ.out)).mono ?_
    rintro e w9 ⟨rfl, hb9⟩
    have HQ1 := Lib.hid (bel_step HQ.out hb9)
    clear hb9
    have z0 := box_cell HQ1.out 0 _ rfl
    have z1 := box_cell HQ1.out 1 _ rfl
    have z2 := box_cell HQ1.out 2 _ rfl
    have z3 := box_cell HQ1.out 3 _ rfl
    have z4 := box_cell HQ1.out 4 _ rfl
    have z5 := box_cell HQ1.out 5 _ rfl
    have z6 := box_cell HQ1.out 6 _ rfl
    have z7 := box_cell HQ1.out 7 _ rfl
    have z8 := box_cell HQ1.out 8 _ rfl
    go_wp2_with fail
    refine (HSZ.out _ (bel_box HQ1.out)).mono ?_
    rintro e w9 ⟨rfl, hb9⟩
    have HQ2 := Lib.hid (bel_step HQ1.out hb9)
    clear hb9
    clear z0 z1 z2 z3 z4 z5 z6 z7 z8
    have z0 := box_cell HQ2.out 0 _ rfl
    have z1 := box_cell HQ2.out 1 _ rfl
    have z2 := box_cell HQ2.out 2 _ rfl
    have z3 := box_cell HQ2.out 3 _ rfl
    have z4 := box_cell HQ2.out 4 _ rfl
    have z5 := box_cell HQ2.out 5 _ rfl
    have z6 := box_cell HQ2.out 6 _ rfl
    have z7 := box_cell HQ2.out 7 _ rfl
    have z8 := box_cell HQ2.out 8 _ rfl
    go_wp2_with fail
    refine (HDP.out _ (bel_box HQ2.out)).mono ?_
    rintro e w10 ⟨rfl, hb10⟩
    have HQ3 := Lib.hid (bel_step HQ2.out hb10)
    clear hb10
    go_wp2_with fail
    go_ret
    exact ⟨ret_int (by rw [HR.out]), bel_box HQ3.out⟩
  · have p2 : 60 < dd := by simpa using q2
    have p2' : decide ((dd : Int) > 60) = true := by simp; omega
    have HR := Lib.hid (show re = 22 by rw [HR0.out, HV.out]; simp only [if_neg p1, if_pos p2])
    clear p1 p2 q1 q2
    go_enter Tryz.func14, Tryz.ntmps14
    go_wp2_with fail
    refine (HSH.out _ (bel_box HQ.out)).mono ?_
    rintro e w9 ⟨rfl, hb9⟩
    have HQ1 := Lib.hid (bel_step HQ.out hb9)
    clear hb9
    have z0 := box_cell HQ1.out 0 _ rfl
    have z1 := box_cell HQ1.out 1 _ rfl
    have z2 := box_cell HQ1.out 2 _ rfl
    have z3 := box_cell HQ1.out 3 _ rfl
    have z4 := box_cell HQ1.out 4 _ rfl
    have z5 := box_cell HQ1.out 5 _ rfl
    have z6 := box_cell HQ1.out 6 _ rfl
    have z7 := box_cell HQ1.out 7 _ rfl
    have z8 := box_cell HQ1.out 8 _ rfl
    go_wp2_with fail
    refine (HSZ.out _ (bel_box HQ1.out)).mono ?_
    rintro e w9 ⟨rfl, hb9⟩
    have HQ2 := Lib.hid (bel_step HQ1.out hb9)
    clear hb9
    clear z0 z1 z2 z3 z4 z5 z6 z7 z8
    have z0 := box_cell HQ2.out 0 _ rfl
    have z1 := box_cell HQ2.out 1 _ rfl
    have z2 := box_cell HQ2.out 2 _ rfl
    have z3 := box_cell HQ2.out 3 _ rfl
    have z4 := box_cell HQ2.out 4 _ rfl
    have z5 := box_cell HQ2.out 5 _ rfl
    have z6 := box_cell HQ2.out 6 _ rfl
    have z7 := box_cell HQ2.out 7 _ rfl
    have z8 := box_cell HQ2.out 8 _ rfl
    go_wp2_with fail
    refine (HDP.out _ (bel_box HQ2.out)).mono ?_
    rintro e w10 ⟨rfl, hb10⟩
    have HQ3 := Lib.hid (bel_step HQ2.out hb10)
    clear hb10
    go_wp2_with fail
    go_ret
    exact ⟨ret_int (by rw [HR.out]), bel_box HQ3.out⟩
end Go.Proofs.YtndjjnnljihmnaaGreat
