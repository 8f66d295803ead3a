/- The reference's Is. -/
import Derived.Test.YtndjjnnljihmnaaGreatFmW
namespace Go.Proofs.YtndjjnnljihmnaaGreat
open Go.RowKit
set_option linter.unusedVariables false
set_option linter.unusedSimpArgs false
theorem Fm.iss_drop (ts : List Fm) (i : Nat) (h : i < ts.length) : Fm.iss (ts.drop i) = (Fm.is ts[i] && Fm.iss (ts.drop (i + 1))) := by
  rw [List.drop_eq_getElem_cons h, Fm.iss]
def fstIs (ts : List Fm) : Bool := match ts with | [] => false | f :: _ => f.kind == 1
theorem headIs_eq (k : Int) (ts : List Fm) : headIs k ts = !(k == 5 || k == 6 || (k == 2 && !fstIs ts)) := rfl
theorem fstIs_get (ts : List Fm) (h : 0 < ts.length) : fstIs ts = (ts[0].kind == 1) := by
  cases ts with
  | nil => simp at h
  | cons a r => rfl
def RIsAt (fn : Nat) (N : Nat) : Prop := ∀ (k : Int) (n : ByteArray) (vl : Int) (fl : ByteArray) (al : List Tm) (vr : Int) (fr : ByteArray) (ar : List Tm) (ts : List Fm) (S : Nat → Prop) (w : World) (Al : Option Addr) (cl : Nat) (Ar : Option Addr) (cr : Nat) (A : Option Addr) (c : Nat), (Fm.mk k n (.mk vl fl al) (.mk vr fr ar) ts).wt ≤ N → N ≤ 1152921504606846976 → (Fm.mk k n (.mk vl fl al) (.mk vr fr ar) ts).shape = true → ST S w Al al.length cl al → ST S w Ar ar.length cr ar → SF S w A ts.length c ts →
    Calls Tryz.prog fn #[.agg #[.int .i64 k, .string n, .int .i64 vl, .string fl, .slice Al al.length cl, .int .i64 vr, .string fr, .slice Ar ar.length cr, .slice A ts.length c]] w fun e w' => e = .returned (.bool (Fm.mk k n (.mk vl fl al) (.mk vr fr ar) ts).is) ∧ Below w.heap.size w w'
set_option maxRecDepth 100000 in
set_option maxHeartbeats 6400000 in
theorem ris0 : ∀ N, RIsAt 26 N := by
  intro N
  induction N with
  | zero => intro k n vl fl al vr fr ar ts S w Al cl Ar cr A c h; have := Fm.wt_pos (Fm.mk k n (.mk vl fl al) (.mk vr fr ar) ts); omega
  | succ N ih =>
    intro k n vl fl al vr fr ar ts S w Al cl Ar cr A c h hN hsh h1 h2 h3
    have hw : 1 + n.size + ((Tm.mk vl fl al).wt + (Tm.mk vr fr ar).wt) + Fm.wts ts ≤ N + 1 := by rw [Fm.wt] at h; omega
    have hks : Fm.shapes ts = true := by have hh := hsh; rw [Fm.shape, Bool.and_eq_true] at hh; exact hh.2
    have hsc := shape_cases hsh
    have hv : (Fm.mk k n (.mk vl fl al) (.mk vr fr ar) ts).is = (headIs k ts && Fm.iss ts) := by rw [Fm.is]
    have hl : ts.length ≤ 9223372036854775807 := h3.2.2.1
    have HST := Lib.hid h3
    have IH := Lib.hid ih
    have HS := Lib.hid (show Fm.wts ts ≤ N by omega)
    have HNB := Lib.hid (show N ≤ 1152921504606846976 by omega)
    have HKS := Lib.hid hks
    rw [headIs_eq] at hv
    have HV := Lib.hid hv
    have HQ := Lib.hid (Below.refl (w.heap.size + 1) (w.alloc (.cells #[.int .i64 k, .string n, .int .i64 vl, .string fl, .slice Al al.length cl, .int .i64 vr, .string fr, .slice Ar ar.length cr, .slice A ts.length c] 27)))
    generalize (Fm.mk k n (.mk vl fl al) (.mk vr fr ar) ts).is = res at *
    clear hv h1 h2 h3 h hN hw ih hks hsh
    have hkk : (k ≠ 5 ∧ k ≠ 6 ∧ k ≠ 2) ∨ (k = 2 ∧ 0 < ts.length) ∨ k = 5 ∨ k = 6 := by rcases hsc with ⟨hk, hts⟩ | ⟨hk, a1, hts, ha⟩ | ⟨hk, a1, a2, hts, ha, ha'⟩ <;> (try (subst hts; simp)) <;> omega
    rcases hkk with hk | ⟨hk, hlen⟩ | hk | hk
    · have q5 : (k == 5) = false := by rw [beq_eq_false_iff_ne]; omega
      have q6 : (k == 6) = false := by rw [beq_eq_false_iff_ne]; omega
      have q2 : (k == 2) = false := by rw [beq_eq_false_iff_ne]; omega
      rw [q5, q6, q2] at HV
      clear hsc
      clear hk
      have HT := Lib.hid (show res = Fm.iss ts by rw [HV.out]; rfl)
      go_enter Tryz.func26, Tryz.ntmps26
      have z0 := box_cell HQ.out 0 _ rfl
      have z1 := box_cell HQ.out 1 _ rfl
      have z2 := box_cell HQ.out 2 _ rfl
      have z3 := box_cell HQ.out 3 _ rfl
      have z4 := box_cell HQ.out 4 _ rfl
      have z5 := box_cell HQ.out 5 _ rfl
      have z6 := box_cell HQ.out 6 _ rfl
      have z7 := box_cell HQ.out 7 _ rfl
      have z8 := box_cell HQ.out 8 _ rfl
      go_wp2_with fail
      clear z0 z1 z2 z3 z4 z5 z6 z7 z8
      go_loopw [3] (fun vi wl => ∃ i : Nat, i ≤ ts.length ∧ vi = .int .i64 i ∧ Fm.iss ts = Fm.iss (ts.drop i) ∧ Below (w.heap.size + 1) (w.alloc (.cells #[.int .i64 k, .string n, .int .i64 vl, .string fl, .slice Al al.length cl, .int .i64 vr, .string fr, .slice Ar ar.length cr, .slice A ts.length c] 27)) wl) (fun vi _ => ts.length - (intOf vi).toNat)
      case atStart => exact ⟨0, by omega, rfl, rfl, HQ.out⟩
      case round =>
        obtain ⟨i, hi, rfl, hk, hb⟩ := hrel
        have HK := Lib.hid hk
        have HB := Lib.hid hb
        have r0 := box_cell hb 8 _ rfl
        clear hk hb
        by_cases hlt : i < ts.length
        · obtain ⟨b, o, hA, k1, n1, vl1, fl1, al1, vr1, fr1, ar1, us, Al1, cl1, Ar1, cr1, Ai, ci, hm, hi1, hi2, hsti, p0, p1, p2, p3, p4, p5, p6, p7, p8⟩ := (HST.out.stay (Stay.below (bel_box HB.out))).at i hlt
          have H1 := Lib.hid hsti
          have H2 := Lib.hid hi1
          have H3 := Lib.hid hi2
          clear hi1 hi2
          subst hA
          have hd := Fm.iss_drop ts i hlt
          rw [hm] at hd
          have hIN : Fm.wt (Fm.mk k1 n1 (.mk vl1 fl1 al1) (.mk vr1 fr1 ar1) us) ≤ N := by
            have h1 := Fm.wts_le ts i hlt
            rw [hm] at h1
            have := HS.out; omega
          have HI := Lib.hid (And.intro hIN hlt)
          have HSK := Lib.hid (show (Fm.mk k1 n1 (.mk vl1 fl1 al1) (.mk vr1 fr1 ar1) us).shape = true by have h1 := Fm.shapes_mem ts i hlt HKS.out; rw [hm] at h1; exact h1)
          have HD := Lib.hid hd
          clear hd hIN hm hsti
          go_wp2_with fail
          refine (IH.out k1 n1 vl1 fl1 al1 vr1 fr1 ar1 us S wr Al1 cl1 Ar1 cr1 Ai ci HI.out.1 HNB.out HSK.out H2.out H3.out H1.out).mono ?_
          rintro e w2 ⟨rfl, hb2⟩
          have HB2 := Lib.hid (bel_step HB.out hb2)
          clear hb2
          cases hq : Fm.is (Fm.mk k1 n1 (.mk vl1 fl1 al1) (.mk vr1 fr1 ar1) us)
          · have HF := Lib.hid (show Fm.iss ts = false by rw [HK.out, HD.out, hq]; rfl)
            go_wp2_with fail
            go_ret
            exact ⟨ret_bool (by rw [HT.out, HF.out]), bel_box HB2.out⟩
          · have HF := Lib.hid (show Fm.iss ts = Fm.iss (ts.drop (i + 1)) by rw [HK.out, HD.out, hq]; rfl)
            go_wp2_with fail
            go_roundw
            case rel => exact ⟨i + 1, HI.out.2, by go_num, HF.out, HB2.out⟩
            case measure => have := HI.out.2; simp [intOf]; omega
        · obtain rfl : i = ts.length := by omega
          have HF := Lib.hid (show Fm.iss ts = true by rw [HK.out, List.drop_length]; rfl)
          have d3 : decide (ts.length < ts.length) = false := by simp
          go_wp2_with fail
          go_ret
          exact ⟨ret_bool (by rw [HT.out, HF.out]), bel_box HB.out⟩
    · have q5 : (k == 5) = false := by rw [beq_eq_false_iff_ne]; omega
      have q6 : (k == 6) = false := by rw [beq_eq_false_iff_ne]; omega
      have q2 : (k == 2) = true := by rw [beq_iff_eq]; omega
      rw [q5, q6, q2] at HV
      clear hsc
      have hvv : Hid (res = (fstIs ts && Fm.iss ts)) := Lib.hid (by rw [HV.out]; simp)
      clear HV hk
      obtain ⟨g1, o1, hA, k1, n1, vl1, fl1, al1, vr1, fr1, ar1, us, Al1, cl1, Ar1, cr1, Ai, ci, hm, hi1, hi2, hsti, p0, p1, p2, p3, p4, p5, p6, p7, p8⟩ := (HST.out.stay (Stay.below (bel_box HQ.out))).at 0 hlen
      clear p1 p2 p3 p4 p5 p6 p7 p8 hi1 hi2 hsti
      subst hA
      rw [fstIs_get ts hlen, hm] at hvv
      have HU2 : Hid (res = ((k1 == 1) && Fm.iss ts)) := Lib.hid hvv.out
      clear hm hvv
      simp only [Nat.zero_mul, Nat.add_zero] at p0
      have P0 := Lib.hid p0
      clear p0
      cases q1 : (k1 == 1)
      · have q1x : (k1 != 1) = true := by simp [bne, q1]
        rw [q1] at HU2
        go_enter Tryz.func26, Tryz.ntmps26
        have z0 := box_cell HQ.out 0 _ rfl
        have z1 := box_cell HQ.out 1 _ rfl
        have z2 := box_cell HQ.out 2 _ rfl
        have z3 := box_cell HQ.out 3 _ rfl
        have z4 := box_cell HQ.out 4 _ rfl
        have z5 := box_cell HQ.out 5 _ rfl
        have z6 := box_cell HQ.out 6 _ rfl
        have z7 := box_cell HQ.out 7 _ rfl
        have z8 := box_cell HQ.out 8 _ rfl
        have p0 := P0.out
        go_wp2_with fail
        go_ret
        exact ⟨ret_bool (by rw [HU2.out]; rfl), bel_box HQ.out⟩
      · have q1x : (k1 != 1) = false := by simp [bne, q1]
        rw [q1] at HU2
        have HT := Lib.hid (show res = Fm.iss ts by rw [HU2.out]; rfl)
        go_enter Tryz.func26, Tryz.ntmps26
        have z0 := box_cell HQ.out 0 _ rfl
        have z1 := box_cell HQ.out 1 _ rfl
        have z2 := box_cell HQ.out 2 _ rfl
        have z3 := box_cell HQ.out 3 _ rfl
        have z4 := box_cell HQ.out 4 _ rfl
        have z5 := box_cell HQ.out 5 _ rfl
        have z6 := box_cell HQ.out 6 _ rfl
        have z7 := box_cell HQ.out 7 _ rfl
        have z8 := box_cell HQ.out 8 _ rfl
        have p0 := P0.out
        go_wp2_with fail
        clear p0 P0 q1 q1x z0 z1 z2 z3 z4 z5 z6 z7 z8
        go_loopw [3] (fun vi wl => ∃ i : Nat, i ≤ ts.length ∧ vi = .int .i64 i ∧ Fm.iss ts = Fm.iss (ts.drop i) ∧ Below (w.heap.size + 1) (w.alloc (.cells #[.int .i64 k, .string n, .int .i64 vl, .string fl, .slice Al al.length cl, .int .i64 vr, .string fr, .slice Ar ar.length cr, .slice (some ⟨g1, o1, none⟩) ts.length c] 27)) wl) (fun vi _ => ts.length - (intOf vi).toNat)
        case atStart => exact ⟨0, by omega, rfl, rfl, HQ.out⟩
        case round =>
          obtain ⟨i, hi, rfl, hk, hb⟩ := hrel
          have HK := Lib.hid hk
          have HB := Lib.hid hb
          have r0 := box_cell hb 8 _ rfl
          clear hk hb
          by_cases hlt : i < ts.length
          · obtain ⟨b, o, hA, k1, n1, vl1, fl1, al1, vr1, fr1, ar1, us, Al1, cl1, Ar1, cr1, Ai, ci, hm, hi1, hi2, hsti, p0, p1, p2, p3, p4, p5, p6, p7, p8⟩ := (HST.out.stay (Stay.below (bel_box HB.out))).at i hlt
            have H1 := Lib.hid hsti
            have H2 := Lib.hid hi1
            have H3 := Lib.hid hi2
            clear hi1 hi2
            obtain ⟨rfl, rfl⟩ : g1 = b ∧ o1 = o := by injection hA with h1; injection h1 with h2 h3; exact ⟨h2, h3⟩
            have hd := Fm.iss_drop ts i hlt
            rw [hm] at hd
            have hIN : Fm.wt (Fm.mk k1 n1 (.mk vl1 fl1 al1) (.mk vr1 fr1 ar1) us) ≤ N := by
              have h1 := Fm.wts_le ts i hlt
              rw [hm] at h1
              have := HS.out; omega
            have HI := Lib.hid (And.intro hIN hlt)
            have HSK := Lib.hid (show (Fm.mk k1 n1 (.mk vl1 fl1 al1) (.mk vr1 fr1 ar1) us).shape = true by have h1 := Fm.shapes_mem ts i hlt HKS.out; rw [hm] at h1; exact h1)
            have HD := Lib.hid hd
            clear hd hIN hm hsti
            go_wp2_with fail
            refine (IH.out k1 n1 vl1 fl1 al1 vr1 fr1 ar1 us S wr Al1 cl1 Ar1 cr1 Ai ci HI.out.1 HNB.out HSK.out H2.out H3.out H1.out).mono ?_
            rintro e w2 ⟨rfl, hb2⟩
            have HB2 := Lib.hid (bel_step HB.out hb2)
            clear hb2
            cases hq : Fm.is (Fm.mk k1 n1 (.mk vl1 fl1 al1) (.mk vr1 fr1 ar1) us)
            · have HF := Lib.hid (show Fm.iss ts = false by rw [HK.out, HD.out, hq]; rfl)
              go_wp2_with fail
              go_ret
              exact ⟨ret_bool (by rw [HT.out, HF.out]), bel_box HB2.out⟩
            · have HF := Lib.hid (show Fm.iss ts = Fm.iss (ts.drop (i + 1)) by rw [HK.out, HD.out, hq]; rfl)
              go_wp2_with fail
              go_roundw
              case rel => exact ⟨i + 1, HI.out.2, by go_num, HF.out, HB2.out⟩
              case measure => have := HI.out.2; simp [intOf]; omega
          · obtain rfl : i = ts.length := by omega
            have HF := Lib.hid (show Fm.iss ts = true by rw [HK.out, List.drop_length]; rfl)
            have d3 : decide (ts.length < ts.length) = false := by simp
            go_wp2_with fail
            go_ret
            exact ⟨ret_bool (by rw [HT.out, HF.out]), bel_box HB.out⟩
    · have q5 : (k == 5) = true := by rw [beq_iff_eq]; omega
      rw [q5] at HV
      clear hsc
      clear hk
      go_enter Tryz.func26, Tryz.ntmps26
      have z0 := box_cell HQ.out 0 _ rfl
      have z1 := box_cell HQ.out 1 _ rfl
      have z2 := box_cell HQ.out 2 _ rfl
      have z3 := box_cell HQ.out 3 _ rfl
      have z4 := box_cell HQ.out 4 _ rfl
      have z5 := box_cell HQ.out 5 _ rfl
      have z6 := box_cell HQ.out 6 _ rfl
      have z7 := box_cell HQ.out 7 _ rfl
      have z8 := box_cell HQ.out 8 _ rfl
      go_wp2_with fail
      go_ret
      exact ⟨ret_bool (by rw [HV.out]; rfl), bel_box HQ.out⟩
    · have q5 : (k == 5) = false := by rw [beq_eq_false_iff_ne]; omega
      have q6 : (k == 6) = true := by rw [beq_iff_eq]; omega
      rw [q5, q6] at HV
      clear hsc
      clear hk
      go_enter Tryz.func26, Tryz.ntmps26
      have z0 := box_cell HQ.out 0 _ rfl
      have z1 := box_cell HQ.out 1 _ rfl
      have z2 := box_cell HQ.out 2 _ rfl
      have z3 := box_cell HQ.out 3 _ rfl
      have z4 := box_cell HQ.out 4 _ rfl
      have z5 := box_cell HQ.out 5 _ rfl
      have z6 := box_cell HQ.out 6 _ rfl
      have z7 := box_cell HQ.out 7 _ rfl
      have z8 := box_cell HQ.out 8 _ rfl
      go_wp2_with fail
      go_ret
      exact ⟨ret_bool (by rw [HV.out]; rfl), bel_box HQ.out⟩
end Go.Proofs.YtndjjnnljihmnaaGreat
