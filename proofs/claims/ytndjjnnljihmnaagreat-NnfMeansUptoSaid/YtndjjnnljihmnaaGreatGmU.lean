/- Few: it tells some truth. -/
import Derived.Test.YtndjjnnljihmnaaGreatFmP
namespace Go.Proofs.YtndjjnnljihmnaaGreat
open Go.RowKit Go.Proofs.YtndjjnnljihmnaaGreat.Lx
set_option linter.unusedVariables false
set_option linter.unusedSimpArgs false
/-- The call tells some truth. -/
def SomeB (e : Ending) : Prop := ∃ r : Bool, e = .returned (.bool r)
def NestAt (fn : Nat) (N : Nat) : Prop := ∀ (k : Int) (n : ByteArray) (vl : Int) (fl : ByteArray) (al : List Tm) (vr : Int) (fr : ByteArray) (ar : List Tm) (ts : List Fm) (Al : Option Addr) (cl : Nat) (Ar : Option Addr) (cr : Nat) (A : Option Addr) (c : Nat) (S : Nat → Prop) (w : World), (Fm.mk k n (.mk vl fl al) (.mk vr fr ar) ts).wt ≤ N → (Fm.mk k n (.mk vl fl al) (.mk vr fr ar) ts).wt ≤ 1125899906842624 → ST S w Al al.length cl al → ST S w Ar ar.length cr ar → SF S w A ts.length c ts →
    Calls Tryz.prog fn #[.agg #[.int .i64 k, .string n, .int .i64 vl, .string fl, .slice Al al.length cl, .int .i64 vr, .string fr, .slice Ar ar.length cr, .slice A ts.length c]] w fun e w' => (∃ r : Int, e = .returned (.int .i64 r)) ∧ Below w.heap.size w w'
set_option maxRecDepth 100000 in
set_option maxHeartbeats 6400000 in
theorem nest0 : ∀ N, NestAt 28 N := by
  intro N
  induction N with
  | zero => intro k n vl fl al vr fr ar ts Al cl Ar cr A c S w h; have := Fm.wt_pos (Fm.mk k n (.mk vl fl al) (.mk vr fr ar) ts); omega
  | succ N ih =>
    intro k n vl fl al vr fr ar ts Al cl Ar cr A c S w h hB hl hr hs
    have hwo := Fm.wt_other k n vl fl al vr fr ar ts
    have hln := Fm.len_wts ts
    have hlen : ts.length ≤ 1152921504606846976 := by omega
    have HIH := Lib.hid ih
    have HWT := Lib.hid (show Fm.wts ts ≤ N ∧ Fm.wts ts ≤ 1125899906842624 by omega)
    generalize hWW : w.alloc (.cells #[.int .i64 k, .string n, .int .i64 vl, .string fl, .slice Al al.length cl, .int .i64 vr, .string fr, .slice Ar ar.length cr, .slice A ts.length c] 27) = W
    have HB0 : Hid (Below w.heap.size w W) := Lib.hid (by rw [← hWW]; exact Below.alloc (Below.refl _ _) (Nat.le_refl _) _)
    have B0 : Hid (Blk W w.heap.size 27 [.int .i64 k, .string n, .int .i64 vl, .string fl, .slice Al al.length cl, .int .i64 vr, .string fr, .slice Ar ar.length cr, .slice A ts.length c]) := Lib.hid (by rw [← hWW]; exact Blk.new _ _ _)
    have HWW := Lib.hid hWW
    clear hWW
    have HSS := Lib.hid (hs.stay (Stay.below HB0.out))
    clear hl hr hs hwo hln h hB ih
    go_enter Tryz.func28, Tryz.ntmps28
    go_upto_region 1 with (fail)
    rw [HWW.out]
    have tk := B0.out.nine; have z0 := tk.c0; have z1 := tk.c1; have z2 := tk.c2; have z3 := tk.c3; have z4 := tk.c4; have z5 := tk.c5; have z6 := tk.c6; have z7 := tk.c7; have z8 := tk.c8; clear tk
    go_wp2_with fail
    go_loopw [3, 4] (fun vn vi wl => ∃ (i : Nat) (r : Int), vn = .int .i64 r ∧ vi = .int .i64 i ∧ i ≤ ts.length ∧ Below W.heap.size W wl) (fun _ vi _ => ts.length - (intOf vi).toNat)
    case atStart => exact ⟨0, 0, rfl, rfl, by omega, Below.refl _ _⟩
    case round =>
      obtain ⟨i, r, rfl, rfl, hi, hb⟩ := hrel
      have HB := Lib.hid hb
      clear hb z0 z1 z2 z3 z4 z5 z6 z7 z8
      have C0 := Lib.hid (B0.out.below HB.out B0.out.lt)
      have tk := C0.out.nine; have z0 := tk.c0; have z1 := tk.c1; have z2 := tk.c2; have z3 := tk.c3; have z4 := tk.c4; have z5 := tk.c5; have z6 := tk.c6; have z7 := tk.c7; have z8 := tk.c8; clear tk
      by_cases hlt : i < ts.length
      · obtain ⟨b, o, hA, k1, n1, vl1, fl1, al1, vr1, fr1, ar1, ts1, Al1, cl1, Ar1, cr1, A1, c1, hm1, hl1, hr1, hs1, p0, p1, p2, p3, p4, p5, p6, p7, p8⟩ := (HSS.out.stay (Stay.below HB.out)).at i hlt
        subst hA
        have hwi := Fm.wts_le ts i hlt
        rw [hm1] at hwi
        have hwt := HWT.out
        have HC := Lib.hid (HIH.out k1 n1 vl1 fl1 al1 vr1 fr1 ar1 ts1 Al1 cl1 Ar1 cr1 A1 c1 S wr (by omega) (by omega) hl1 hr1 hs1)
        have HLT := Lib.hid hlt
        clear hm1 hl1 hr1 hs1 hwi hwt
        go_wp2_with fail
        refine HC.out.mono ?_
        rintro e w2 ⟨⟨r2, rfl⟩, hb2⟩
        have HB2 := Lib.hid (bel_go HB.out hb2)
        clear hb2 HC HB
        go_wp2_with fail
        go_roundw
        case rel => exact ⟨i + 1, _, rfl, by go_num, HLT.out, HB2.out⟩
        case measure => have := HLT.out; simp [intOf]; omega
      · obtain rfl : i = ts.length := by omega
        have d1 : decide (ts.length < ts.length) = false := by simp
        have HBB := Lib.hid (bel_go HB0.out HB.out)
        by_cases h7 : k = 7
        · subst h7
          go_wp2_with fail
          go_ret
          exact ⟨⟨_, rfl⟩, HBB.out⟩
        have q7 : (k == 7) = false := by simpa using h7
        by_cases h8 : k = 8
        · subst h8
          go_wp2_with fail
          go_ret
          exact ⟨⟨_, rfl⟩, HBB.out⟩
        · have q8 : (k == 8) = false := by simpa using h8
          go_wp2_with fail
          go_ret
          exact ⟨⟨_, rfl⟩, HBB.out⟩
set_option maxHeartbeats 1600000 in
theorem few_any (k : Int) (n : ByteArray) (vl : Int) (fl : ByteArray) (al : List Tm) (vr : Int) (fr : ByteArray) (ar : List Tm) (ts : List Fm) (Al : Option Addr) (cl : Nat) (Ar : Option Addr) (cr : Nat) (A : Option Addr) (c : Nat) (S : Nat → Prop) (w : World) (hB : (Fm.mk k n (.mk vl fl al) (.mk vr fr ar) ts).wt ≤ 1125899906842624) (hl : ST S w Al al.length cl al) (hr : ST S w Ar ar.length cr ar) (hs : SF S w A ts.length c ts) : Calls Tryz.prog 13 #[.agg #[.int .i64 k, .string n, .int .i64 vl, .string fl, .slice Al al.length cl, .int .i64 vr, .string fr, .slice Ar ar.length cr, .slice A ts.length c]] w fun e w' => SomeB e ∧ Below w.heap.size w w' := by
  generalize hWW : w.alloc (.cells #[.int .i64 k, .string n, .int .i64 vl, .string fl, .slice Al al.length cl, .int .i64 vr, .string fr, .slice Ar ar.length cr, .slice A ts.length c] 27) = W
  have HB0 : Hid (Below w.heap.size w W) := Lib.hid (by rw [← hWW]; exact Below.alloc (Below.refl _ _) (Nat.le_refl _) _)
  have B0 : Hid (Blk W w.heap.size 27 [.int .i64 k, .string n, .int .i64 vl, .string fl, .slice Al al.length cl, .int .i64 vr, .string fr, .slice Ar ar.length cr, .slice A ts.length c]) := Lib.hid (by rw [← hWW]; exact Blk.new _ _ _)
  have HWW := Lib.hid hWW
  clear hWW
  have hsw := Fm.size_wt (Fm.mk k n (.mk vl fl al) (.mk vr fr ar) ts)
  have HN := Lib.hid (nest0 _ k n vl fl al vr fr ar ts Al cl Ar cr A c S W (Nat.le_refl _) hB (hl.stay (Stay.below HB0.out)) (hr.stay (Stay.below HB0.out)) (hs.stay (Stay.below HB0.out)))
  have HZ := Lib.hid (fun w' (hb : Below W.heap.size W w') => rfsize0 1125899906842624 k n vl fl al vr fr ar ts S w' Al cl Ar cr A c (by omega) (by omega) ((hl.stay (Stay.below HB0.out)).stay (Stay.below hb)) ((hr.stay (Stay.below HB0.out)).stay (Stay.below hb)) ((hs.stay (Stay.below HB0.out)).stay (Stay.below hb)))
  clear hl hr hs hB hsw
  generalize ((Fm.mk k n (.mk vl fl al) (.mk vr fr ar) ts).size : Nat) = res at *
  go_enter Tryz.func13, Tryz.ntmps13
  go_upto_region 1 with (fail)
  rw [HWW.out]
  have tk := B0.out.nine; have z0 := tk.c0; have z1 := tk.c1; have z2 := tk.c2; have z3 := tk.c3; have z4 := tk.c4; have z5 := tk.c5; have z6 := tk.c6; have z7 := tk.c7; have z8 := tk.c8; clear tk
  go_wp2_with fail
  refine HN.out.mono ?_
  rintro e w2 ⟨⟨r2, rfl⟩, hb2⟩
  have HB2 := Lib.hid hb2
  have C0 := Lib.hid (B0.out.below hb2 B0.out.lt)
  clear hb2 z0 z1 z2 z3 z4 z5 z6 z7 z8
  have tk := C0.out.nine; have z0 := tk.c0; have z1 := tk.c1; have z2 := tk.c2; have z3 := tk.c3; have z4 := tk.c4; have z5 := tk.c5; have z6 := tk.c6; have z7 := tk.c7; have z8 := tk.c8; clear tk
  by_cases h6 : r2 ≤ 6
  rotate_left
  · have HBB := Lib.hid (bel_go HB0.out HB2.out)
    go_wp2_with fail
    go_ret
    exact ⟨⟨_, rfl⟩, HBB.out⟩
  · go_wp2_with fail
    refine (HZ.out _ HB2.out).mono ?_
    rintro e w3 ⟨rfl, hb3⟩
    have HBB := Lib.hid (bel_go HB0.out (bel_go HB2.out hb3))
    clear hb3
    go_wp2_with fail
    go_ret
    exact ⟨⟨_, rfl⟩, HBB.out⟩
end Go.Proofs.YtndjjnnljihmnaaGreat
