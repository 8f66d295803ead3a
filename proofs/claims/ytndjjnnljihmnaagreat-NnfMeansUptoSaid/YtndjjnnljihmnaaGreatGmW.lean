/- Does a formula hold, in a world? Holds: atoms, constants, formulas of one and of two formulas. -/
import Derived.Test.YtndjjnnljihmnaaGreatGmT
namespace Go.Proofs.YtndjjnnljihmnaaGreat
open Go.RowKit Go.Proofs.YtndjjnnljihmnaaGreat.Lx
set_option linter.unusedVariables false
set_option linter.unusedSimpArgs false
def HoldsAt (fn : Nat) (N : Nat) : Prop := ∀ (k : Int) (n : ByteArray) (vl : Int) (fl : ByteArray) (al : List Tm) (vr : Int) (fr : ByteArray) (ar : List Tm) (ts : List Fm) (Al : Option Addr) (cl : Nat) (Ar : Option Addr) (cr : Nat) (A : Option Addr) (c : Nat) (S : Nat → Prop) (w : World) (B : Option Addr) (cB : Nat) (l : List (ByteArray × Int)) (nn : Nat) (Aw : Option Addr) (cw : Nat) (rl : List Int), (Fm.mk k n (.mk vl fl al) (.mk vr fr ar) ts).wt ≤ N → (Fm.mk k n (.mk vl fl al) (.mk vr fr ar) ts).wt + l.length ≤ 1099511627776 → (Fm.mk k n (.mk vl fl al) (.mk vr fr ar) ts).shape = true → 1 ≤ nn ∧ nn ≤ 3 → 0 < rl.length ∧ rl.length ≤ 64 → Nts w Aw rl → Ths w B l → ((B = none ∧ l = [] ∧ cB = 0) ∨ ∃ a, B = some a) → ST S w Al al.length cl al → ST S w Ar ar.length cr ar → SF S w A ts.length c ts →
    Calls Tryz.prog fn #[.agg #[.int .i64 nn, .slice Aw rl.length cw], .agg #[.int .i64 k, .string n, .int .i64 vl, .string fl, .slice Al al.length cl, .int .i64 vr, .string fr, .slice Ar ar.length cr, .slice A ts.length c], .slice B l.length cB] w fun e w' => e = .returned (.bool ((Fm.mk k n (.mk vl fl al) (.mk vr fr ar) ts).tru (pkW nn rl) nn (envL l))) ∧ Below w.heap.size w w'
set_option maxRecDepth 100000 in
set_option maxHeartbeats 12800000 in
theorem holds9 (N : Nat) (ih : HoldsAt 15 N) (k : Int) (n : ByteArray) (vl : Int) (fl : ByteArray) (al : List Tm) (vr : Int) (fr : ByteArray) (ar : List Tm) (ts : List Fm) (Al : Option Addr) (cl : Nat) (Ar : Option Addr) (cr : Nat) (A : Option Addr) (c : Nat) (S : Nat → Prop) (w : World) (B : Option Addr) (cB : Nat) (l : List (ByteArray × Int)) (nn : Nat) (Aw : Option Addr) (cw : Nat) (rl : List Int) (hk : k = 9) (hN : (Fm.mk k n (.mk vl fl al) (.mk vr fr ar) ts).wt ≤ N + 1) (hB : (Fm.mk k n (.mk vl fl al) (.mk vr fr ar) ts).wt + l.length ≤ 1099511627776) (hn : 1 ≤ nn ∧ nn ≤ 3) (hr : 0 < rl.length ∧ rl.length ≤ 64) (hNt : Nts w Aw rl) (hT : Ths w B l) (hBB : (B = none ∧ l = [] ∧ cB = 0) ∨ ∃ a, B = some a) (hl : ST S w Al al.length cl al) (hrr : ST S w Ar ar.length cr ar) (hs : SF S w A ts.length c ts) : Calls Tryz.prog 15 #[.agg #[.int .i64 nn, .slice Aw rl.length cw], .agg #[.int .i64 k, .string n, .int .i64 vl, .string fl, .slice Al al.length cl, .int .i64 vr, .string fr, .slice Ar ar.length cr, .slice A ts.length c], .slice B l.length cB] w fun e w' => e = .returned (.bool ((Fm.mk k n (.mk vl fl al) (.mk vr fr ar) ts).tru (pkW nn rl) nn (envL l))) ∧ Below w.heap.size w w' := by
  subst hk
  have hv : (Fm.mk 9 n (.mk vl fl al) (.mk vr fr ar) ts).tru (pkW nn rl) nn (envL l) = true := by rw [Fm.tru]; simp
  rw [hv]
  generalize hWW : (w.alloc (.cells #[.int .i64 nn, .slice Aw rl.length cw] 36)).alloc (.cells #[.int .i64 9, .string n, .int .i64 vl, .string fl, .slice Al al.length cl, .int .i64 vr, .string fr, .slice Ar ar.length cr, .slice A ts.length c] 27) = W
  have HB0 : Hid (Below w.heap.size w W) := Lib.hid (by rw [← hWW]; exact bel_two)
  have B0 : Hid (Blk W w.heap.size 36 [.int .i64 nn, .slice Aw rl.length cw]) := Lib.hid (by rw [← hWW]; exact (Blk.new w 36 [.int .i64 nn, .slice Aw rl.length cw]).alloc _)
  have B1 : Hid (Blk W (w.heap.size + 1) 27 [.int .i64 9, .string n, .int .i64 vl, .string fl, .slice Al al.length cl, .int .i64 vr, .string fr, .slice Ar ar.length cr, .slice A ts.length c]) := Lib.hid (by rw [← hWW]; exact Blk.new' _ (w.heap.size + 1) 27 [.int .i64 9, .string n, .int .i64 vl, .string fl, .slice Al al.length cl, .int .i64 vr, .string fr, .slice Ar ar.length cr, .slice A ts.length c] (by simp))
  have HWW := Lib.hid hWW
  clear hWW
  have hl := hl.stay (Stay.below HB0.out)
  have hrr := hrr.stay (Stay.below HB0.out)
  have hs := hs.stay (Stay.below HB0.out)
  have hNt := hNt.below HB0.out
  have hT := hT.below HB0.out
  clear hv hN hB hs hl hrr hNt hT hBB ih hn hr
  go_enter Tryz.func15, Tryz.ntmps15
  go_upto_region 1 with (fail)
  rw [HWW.out]
  have z0 := B0.out.cell 0
  have z1 := B0.out.cell 1
  simp only [List.getElem?_cons_zero, List.getElem?_cons_succ] at z0 z1
  have tk := B1.out.nine; have y0 := tk.c0; have y1 := tk.c1; have y2 := tk.c2; have y3 := tk.c3; have y4 := tk.c4; have y5 := tk.c5; have y6 := tk.c6; have y7 := tk.c7; have y8 := tk.c8; clear tk
  go_wp2_with fail
  go_ret
  exact ⟨rfl, HB0.out⟩
set_option maxRecDepth 100000 in
set_option maxHeartbeats 12800000 in
theorem holds10 (N : Nat) (ih : HoldsAt 15 N) (k : Int) (n : ByteArray) (vl : Int) (fl : ByteArray) (al : List Tm) (vr : Int) (fr : ByteArray) (ar : List Tm) (ts : List Fm) (Al : Option Addr) (cl : Nat) (Ar : Option Addr) (cr : Nat) (A : Option Addr) (c : Nat) (S : Nat → Prop) (w : World) (B : Option Addr) (cB : Nat) (l : List (ByteArray × Int)) (nn : Nat) (Aw : Option Addr) (cw : Nat) (rl : List Int) (hk : k = 10) (hN : (Fm.mk k n (.mk vl fl al) (.mk vr fr ar) ts).wt ≤ N + 1) (hB : (Fm.mk k n (.mk vl fl al) (.mk vr fr ar) ts).wt + l.length ≤ 1099511627776) (hn : 1 ≤ nn ∧ nn ≤ 3) (hr : 0 < rl.length ∧ rl.length ≤ 64) (hNt : Nts w Aw rl) (hT : Ths w B l) (hBB : (B = none ∧ l = [] ∧ cB = 0) ∨ ∃ a, B = some a) (hl : ST S w Al al.length cl al) (hrr : ST S w Ar ar.length cr ar) (hs : SF S w A ts.length c ts) : Calls Tryz.prog 15 #[.agg #[.int .i64 nn, .slice Aw rl.length cw], .agg #[.int .i64 k, .string n, .int .i64 vl, .string fl, .slice Al al.length cl, .int .i64 vr, .string fr, .slice Ar ar.length cr, .slice A ts.length c], .slice B l.length cB] w fun e w' => e = .returned (.bool ((Fm.mk k n (.mk vl fl al) (.mk vr fr ar) ts).tru (pkW nn rl) nn (envL l))) ∧ Below w.heap.size w w' := by
  subst hk
  have hv : (Fm.mk 10 n (.mk vl fl al) (.mk vr fr ar) ts).tru (pkW nn rl) nn (envL l) = false := by rw [Fm.tru]; simp
  rw [hv]
  generalize hWW : (w.alloc (.cells #[.int .i64 nn, .slice Aw rl.length cw] 36)).alloc (.cells #[.int .i64 10, .string n, .int .i64 vl, .string fl, .slice Al al.length cl, .int .i64 vr, .string fr, .slice Ar ar.length cr, .slice A ts.length c] 27) = W
  have HB0 : Hid (Below w.heap.size w W) := Lib.hid (by rw [← hWW]; exact bel_two)
  have B0 : Hid (Blk W w.heap.size 36 [.int .i64 nn, .slice Aw rl.length cw]) := Lib.hid (by rw [← hWW]; exact (Blk.new w 36 [.int .i64 nn, .slice Aw rl.length cw]).alloc _)
  have B1 : Hid (Blk W (w.heap.size + 1) 27 [.int .i64 10, .string n, .int .i64 vl, .string fl, .slice Al al.length cl, .int .i64 vr, .string fr, .slice Ar ar.length cr, .slice A ts.length c]) := Lib.hid (by rw [← hWW]; exact Blk.new' _ (w.heap.size + 1) 27 [.int .i64 10, .string n, .int .i64 vl, .string fl, .slice Al al.length cl, .int .i64 vr, .string fr, .slice Ar ar.length cr, .slice A ts.length c] (by simp))
  have HWW := Lib.hid hWW
  clear hWW
  have hl := hl.stay (Stay.below HB0.out)
  have hrr := hrr.stay (Stay.below HB0.out)
  have hs := hs.stay (Stay.below HB0.out)
  have hNt := hNt.below HB0.out
  have hT := hT.below HB0.out
  clear hv hN hB hs hl hrr hNt hT hBB ih hn hr
  go_enter Tryz.func15, Tryz.ntmps15
  go_upto_region 1 with (fail)
  rw [HWW.out]
  have z0 := B0.out.cell 0
  have z1 := B0.out.cell 1
  simp only [List.getElem?_cons_zero, List.getElem?_cons_succ] at z0 z1
  have tk := B1.out.nine; have y0 := tk.c0; have y1 := tk.c1; have y2 := tk.c2; have y3 := tk.c3; have y4 := tk.c4; have y5 := tk.c5; have y6 := tk.c6; have y7 := tk.c7; have y8 := tk.c8; clear tk
  go_wp2_with fail
  go_ret
  exact ⟨rfl, HB0.out⟩
set_option maxRecDepth 100000 in
set_option maxHeartbeats 12800000 in
theorem holds1 (N : Nat) (ih : HoldsAt 15 N) (k : Int) (n : ByteArray) (vl : Int) (fl : ByteArray) (al : List Tm) (vr : Int) (fr : ByteArray) (ar : List Tm) (ts : List Fm) (Al : Option Addr) (cl : Nat) (Ar : Option Addr) (cr : Nat) (A : Option Addr) (c : Nat) (S : Nat → Prop) (w : World) (B : Option Addr) (cB : Nat) (l : List (ByteArray × Int)) (nn : Nat) (Aw : Option Addr) (cw : Nat) (rl : List Int) (hk : k = 1) (hN : (Fm.mk k n (.mk vl fl al) (.mk vr fr ar) ts).wt ≤ N + 1) (hB : (Fm.mk k n (.mk vl fl al) (.mk vr fr ar) ts).wt + l.length ≤ 1099511627776) (hn : 1 ≤ nn ∧ nn ≤ 3) (hr : 0 < rl.length ∧ rl.length ≤ 64) (hNt : Nts w Aw rl) (hT : Ths w B l) (hBB : (B = none ∧ l = [] ∧ cB = 0) ∨ ∃ a, B = some a) (hl : ST S w Al al.length cl al) (hrr : ST S w Ar ar.length cr ar) (hs : SF S w A ts.length c ts) : Calls Tryz.prog 15 #[.agg #[.int .i64 nn, .slice Aw rl.length cw], .agg #[.int .i64 k, .string n, .int .i64 vl, .string fl, .slice Al al.length cl, .int .i64 vr, .string fr, .slice Ar ar.length cr, .slice A ts.length c], .slice B l.length cB] w fun e w' => e = .returned (.bool ((Fm.mk k n (.mk vl fl al) (.mk vr fr ar) ts).tru (pkW nn rl) nn (envL l))) ∧ Below w.heap.size w w' := by
  subst hk
  have hv : (Fm.mk 1 n (.mk vl fl al) (.mk vr fr ar) ts).tru (pkW nn rl) nn (envL l) = ((Tm.mk vl fl al).val (pkW nn rl) (envL l) == (Tm.mk vr fr ar).val (pkW nn rl) (envL l)) := by rw [Fm.tru, if_pos rfl]
  have hw1 := Fm.wt_atom n vl fl al vr fr ar ts
  generalize (Fm.mk 1 n (.mk vl fl al) (.mk vr fr ar) ts).tru (pkW nn rl) nn (envL l) = res at *
  have HV0 := Lib.hid hv
  generalize hWW : (w.alloc (.cells #[.int .i64 nn, .slice Aw rl.length cw] 36)).alloc (.cells #[.int .i64 1, .string n, .int .i64 vl, .string fl, .slice Al al.length cl, .int .i64 vr, .string fr, .slice Ar ar.length cr, .slice A ts.length c] 27) = W
  have HB0 : Hid (Below w.heap.size w W) := Lib.hid (by rw [← hWW]; exact bel_two)
  have B0 : Hid (Blk W w.heap.size 36 [.int .i64 nn, .slice Aw rl.length cw]) := Lib.hid (by rw [← hWW]; exact (Blk.new w 36 [.int .i64 nn, .slice Aw rl.length cw]).alloc _)
  have B1 : Hid (Blk W (w.heap.size + 1) 27 [.int .i64 1, .string n, .int .i64 vl, .string fl, .slice Al al.length cl, .int .i64 vr, .string fr, .slice Ar ar.length cr, .slice A ts.length c]) := Lib.hid (by rw [← hWW]; exact Blk.new' _ (w.heap.size + 1) 27 [.int .i64 1, .string n, .int .i64 vl, .string fl, .slice Al al.length cl, .int .i64 vr, .string fr, .slice Ar ar.length cr, .slice A ts.length c] (by simp))
  have HWW := Lib.hid hWW
  clear hWW
  have hl := hl.stay (Stay.below HB0.out)
  have hrr := hrr.stay (Stay.below HB0.out)
  have hs := hs.stay (Stay.below HB0.out)
  have hNt := hNt.below HB0.out
  have hT := hT.below HB0.out
  clear hv
  have HC1 : Hid (∀ w', Below W.heap.size W w' → Calls Tryz.prog 31 #[.agg #[.int .i64 nn, .slice Aw rl.length cw], .agg #[.int .i64 vl, .string fl, .slice Al al.length cl], .slice B l.length cB] w' fun e w2 => e = .returned (.int .i64 ((Tm.mk vl fl al).val (pkW nn rl) (envL l))) ∧ Below w'.heap.size w' w2) := Lib.hid (fun w' hb => val0 _ vl fl al S w' Al cl B cB l nn Aw cw rl (Nat.le_refl _) (by omega) (by omega) hr (hNt.below hb) (hT.below hb) (by omega) (hl.stay (Stay.below hb)))
  have HC2 : Hid (∀ w', Below W.heap.size W w' → Calls Tryz.prog 31 #[.agg #[.int .i64 nn, .slice Aw rl.length cw], .agg #[.int .i64 vr, .string fr, .slice Ar ar.length cr], .slice B l.length cB] w' fun e w2 => e = .returned (.int .i64 ((Tm.mk vr fr ar).val (pkW nn rl) (envL l))) ∧ Below w'.heap.size w' w2) := Lib.hid (fun w' hb => val0 _ vr fr ar S w' Ar cr B cB l nn Aw cw rl (Nat.le_refl _) (by omega) (by omega) hr (hNt.below hb) (hT.below hb) (by omega) (hrr.stay (Stay.below hb)))
  generalize (Tm.mk vl fl al).val (pkW nn rl) (envL l) = b1 at *
  generalize (Tm.mk vr fr ar).val (pkW nn rl) (envL l) = b2 at *
  have HV : Hid (res = (b1 == b2)) := Lib.hid HV0.out
  clear HV0 hw1 hN hB hs hl hrr hNt hT hBB ih hn hr
  go_enter Tryz.func15, Tryz.ntmps15
  go_upto_region 1 with (fail)
  rw [HWW.out]
  have z0 := B0.out.cell 0
  have z1 := B0.out.cell 1
  simp only [List.getElem?_cons_zero, List.getElem?_cons_succ] at z0 z1
  have tk := B1.out.nine; have y0 := tk.c0; have y1 := tk.c1; have y2 := tk.c2; have y3 := tk.c3; have y4 := tk.c4; have y5 := tk.c5; have y6 := tk.c6; have y7 := tk.c7; have y8 := tk.c8; clear tk
  have HQ0 := Lib.hid (bel_drew1 W)
  go_upto_region 3 with (fail)
  have Z0 := Lib.hid z0
  have Z1 := Lib.hid z1
  have Y2 := Lib.hid y2
  have Y3 := Lib.hid y3
  have Y4 := Lib.hid y4
  have Y5 := Lib.hid y5
  have Y6 := Lib.hid y6
  have Y7 := Lib.hid y7
  (first | (go_region_held3 (fun w' => w'.cell? ⟨w.heap.size, 0, none⟩ = some (.int .i64 nn) ∧ w'.cell? ⟨w.heap.size, 1, none⟩ = some (.slice Aw rl.length cw) ∧ w'.cell? ⟨w.heap.size + 1, 2, none⟩ = some (.int .i64 vl) ∧ w'.cell? ⟨w.heap.size + 1, 3, none⟩ = some (.string fl) ∧ w'.cell? ⟨w.heap.size + 1, 4, none⟩ = some (.slice Al al.length cl) ∧ w'.cell? ⟨w.heap.size + 1, 5, none⟩ = some (.int .i64 vr) ∧ w'.cell? ⟨w.heap.size + 1, 6, none⟩ = some (.string fr) ∧ w'.cell? ⟨w.heap.size + 1, 7, none⟩ = some (.slice Ar ar.length cr)) (go_keep) (first | (go_at_call_of 31 (Value.agg #[.int .i64 vl, .string fl, .slice Al al.length cl]); refine (HC1.out _ HQ0.out).mono ?_; rintro e w1x ⟨rfl, hb9⟩; have HQ1 := Lib.hid (bel_go HQ0.out hb9); clear hb9; have z0 := keepc HQ1.out Z0.out; have z1 := keepc HQ1.out Z1.out; have y2 := keepc HQ1.out Y2.out; have y3 := keepc HQ1.out Y3.out; have y4 := keepc HQ1.out Y4.out; have y5 := keepc HQ1.out Y5.out; have y6 := keepc HQ1.out Y6.out; have y7 := keepc HQ1.out Y7.out) | (go_at_call_of 31 (Value.agg #[.int .i64 vr, .string fr, .slice Ar ar.length cr]); refine (HC2.out _ HQ1.out).mono ?_; rintro e w2x ⟨rfl, hb9⟩; have HQ2 := Lib.hid (bel_go HQ1.out hb9); clear hb9; have z0 := keepc HQ2.out Z0.out; have z1 := keepc HQ2.out Z1.out; have y2 := keepc HQ2.out Y2.out; have y3 := keepc HQ2.out Y3.out; have y4 := keepc HQ2.out Y4.out; have y5 := keepc HQ2.out Y5.out; have y6 := keepc HQ2.out Y6.out; have y7 := keepc HQ2.out Y7.out))) | fail "held")
  all_goals
    have HBB := Lib.hid (bel_go HB0.out HQ2.out)
    go_wp2_with fail
    go_ret
    exact ⟨ret_bool (by rw [HV.out]), HBB.out⟩
set_option maxRecDepth 100000 in
set_option maxHeartbeats 12800000 in
theorem holds2 (N : Nat) (ih : HoldsAt 15 N) (k : Int) (n : ByteArray) (vl : Int) (fl : ByteArray) (al : List Tm) (vr : Int) (fr : ByteArray) (ar : List Tm) (ts : List Fm) (Al : Option Addr) (cl : Nat) (Ar : Option Addr) (cr : Nat) (A : Option Addr) (c : Nat) (S : Nat → Prop) (w : World) (B : Option Addr) (cB : Nat) (l : List (ByteArray × Int)) (nn : Nat) (Aw : Option Addr) (cw : Nat) (rl : List Int) (hk : k = 2) (a1 : Fm) (hts : ts = [a1]) (hsh1 : a1.shape = true) (hN : (Fm.mk k n (.mk vl fl al) (.mk vr fr ar) ts).wt ≤ N + 1) (hB : (Fm.mk k n (.mk vl fl al) (.mk vr fr ar) ts).wt + l.length ≤ 1099511627776) (hn : 1 ≤ nn ∧ nn ≤ 3) (hr : 0 < rl.length ∧ rl.length ≤ 64) (hNt : Nts w Aw rl) (hT : Ths w B l) (hBB : (B = none ∧ l = [] ∧ cB = 0) ∨ ∃ a, B = some a) (hl : ST S w Al al.length cl al) (hrr : ST S w Ar ar.length cr ar) (hs : SF S w A ts.length c ts) : Calls Tryz.prog 15 #[.agg #[.int .i64 nn, .slice Aw rl.length cw], .agg #[.int .i64 k, .string n, .int .i64 vl, .string fl, .slice Al al.length cl, .int .i64 vr, .string fr, .slice Ar ar.length cr, .slice A ts.length c], .slice B l.length cB] w fun e w' => e = .returned (.bool ((Fm.mk k n (.mk vl fl al) (.mk vr fr ar) ts).tru (pkW nn rl) nn (envL l))) ∧ Below w.heap.size w w' := by
  subst hk
  have hv : (Fm.mk 2 n (.mk vl fl al) (.mk vr fr ar) ts).tru (pkW nn rl) nn (envL l) = !(a1.tru (pkW nn rl) nn (envL l)) := by rw [hts, Fm.tru]; simp [Fm.trus, fst1, snd1]
  have hw1 : a1.wt ≤ N ∧ a1.wt + l.length ≤ 1099511627776 := by have := hB; rw [Fm.wt, hts, Fm.wts, Fm.wts] at hB hN; omega
  generalize (Fm.mk 2 n (.mk vl fl al) (.mk vr fr ar) ts).tru (pkW nn rl) nn (envL l) = res at *
  have HV := Lib.hid hv
  generalize hWW : (w.alloc (.cells #[.int .i64 nn, .slice Aw rl.length cw] 36)).alloc (.cells #[.int .i64 2, .string n, .int .i64 vl, .string fl, .slice Al al.length cl, .int .i64 vr, .string fr, .slice Ar ar.length cr, .slice A ts.length c] 27) = W
  have HB0 : Hid (Below w.heap.size w W) := Lib.hid (by rw [← hWW]; exact bel_two)
  have B0 : Hid (Blk W w.heap.size 36 [.int .i64 nn, .slice Aw rl.length cw]) := Lib.hid (by rw [← hWW]; exact (Blk.new w 36 [.int .i64 nn, .slice Aw rl.length cw]).alloc _)
  have B1 : Hid (Blk W (w.heap.size + 1) 27 [.int .i64 2, .string n, .int .i64 vl, .string fl, .slice Al al.length cl, .int .i64 vr, .string fr, .slice Ar ar.length cr, .slice A ts.length c]) := Lib.hid (by rw [← hWW]; exact Blk.new' _ (w.heap.size + 1) 27 [.int .i64 2, .string n, .int .i64 vl, .string fl, .slice Al al.length cl, .int .i64 vr, .string fr, .slice Ar ar.length cr, .slice A ts.length c] (by simp))
  have HWW := Lib.hid hWW
  clear hWW
  have hl := hl.stay (Stay.below HB0.out)
  have hrr := hrr.stay (Stay.below HB0.out)
  have hs := hs.stay (Stay.below HB0.out)
  have hNt := hNt.below HB0.out
  have hT := hT.below HB0.out
  clear hv hN hB
  obtain ⟨b, o, hA1, k1, n1, vl1, fl1, al1, vr1, fr1, ar1, ts1, Al1, cl1, Ar1, cr1, A1, c1, hm1, hl1, hr1, hs1, p0, p1, p2, p3, p4, p5, p6, p7, p8⟩ := hs.at 0 (by rw [hts]; simp)
  simp only [hts, List.getElem_cons_zero, List.getElem_cons_succ] at hm1
  subst hA1
  simp only [Nat.zero_mul, Nat.one_mul, Nat.add_zero] at p0 p1 p2 p3 p4 p5 p6 p7 p8
  have hw1 : (Fm.mk k1 n1 (.mk vl1 fl1 al1) (.mk vr1 fr1 ar1) ts1).wt ≤ N ∧ (Fm.mk k1 n1 (.mk vl1 fl1 al1) (.mk vr1 fr1 ar1) ts1).wt + l.length ≤ 1099511627776 := by rw [← hm1]; exact hw1
  have hsh1 : (Fm.mk k1 n1 (.mk vl1 fl1 al1) (.mk vr1 fr1 ar1) ts1).shape = true := by rw [← hm1]; exact hsh1
  have HC1 : Hid (∀ w', Below W.heap.size W w' → Calls Tryz.prog 15 #[.agg #[.int .i64 nn, .slice Aw rl.length cw], .agg #[.int .i64 k1, .string n1, .int .i64 vl1, .string fl1, .slice Al1 al1.length cl1, .int .i64 vr1, .string fr1, .slice Ar1 ar1.length cr1, .slice A1 ts1.length c1], .slice B l.length cB] w' fun e w2 => e = .returned (.bool (a1.tru (pkW nn rl) nn (envL l))) ∧ Below w'.heap.size w' w2) := Lib.hid (fun w' hb => by rw [hm1]; exact ih k1 n1 vl1 fl1 al1 vr1 fr1 ar1 ts1 Al1 cl1 Ar1 cr1 A1 c1 S w' B cB l nn Aw cw rl hw1.1 hw1.2 hsh1 hn hr (hNt.below hb) (hT.below hb) hBB (hl1.stay (Stay.below hb)) (hr1.stay (Stay.below hb)) (hs1.stay (Stay.below hb)))
  generalize a1.tru (pkW nn rl) nn (envL l) = b1 at *
  clear hm1 hl1 hr1 hs1 hw1 hsh1
  have hi0 : (0 : Int) < (ts.length : Int) := by rw [hts]; simp
  have hj0 : 0 < ts.length := by rw [hts]; simp
  clear hts hs hl hrr hNt hT hBB ih hn hr
  go_enter Tryz.func15, Tryz.ntmps15
  go_upto_region 1 with (fail)
  rw [HWW.out]
  have z0 := B0.out.cell 0
  have z1 := B0.out.cell 1
  simp only [List.getElem?_cons_zero, List.getElem?_cons_succ] at z0 z1
  have tk := B1.out.nine; have y0 := tk.c0; have y1 := tk.c1; have y2 := tk.c2; have y3 := tk.c3; have y4 := tk.c4; have y5 := tk.c5; have y6 := tk.c6; have y7 := tk.c7; have y8 := tk.c8; clear tk
  have HQ0 := Lib.hid (bel_drew1 W)
  go_upto_region 9 with (fail)
  have Z0 := Lib.hid z0
  have Z1 := Lib.hid z1
  have Y8 := Lib.hid y8
  have P0 := Lib.hid p0
  have P1 := Lib.hid p1
  have P2 := Lib.hid p2
  have P3 := Lib.hid p3
  have P4 := Lib.hid p4
  have P5 := Lib.hid p5
  have P6 := Lib.hid p6
  have P7 := Lib.hid p7
  have P8 := Lib.hid p8
  (first | (go_region_held3 (fun w' => w'.cell? ⟨w.heap.size, 0, none⟩ = some (.int .i64 nn) ∧ w'.cell? ⟨w.heap.size, 1, none⟩ = some (.slice Aw rl.length cw) ∧ w'.cell? ⟨w.heap.size + 1, 8, none⟩ = some (.slice (some ⟨b, o, none⟩) ts.length c) ∧ w'.cell? ⟨b, o, none⟩ = some (.int .i64 k1) ∧ w'.cell? ⟨b, o + 1, none⟩ = some (.string n1) ∧ w'.cell? ⟨b, o + 2, none⟩ = some (.int .i64 vl1) ∧ w'.cell? ⟨b, o + 3, none⟩ = some (.string fl1) ∧ w'.cell? ⟨b, o + 4, none⟩ = some (.slice Al1 al1.length cl1) ∧ w'.cell? ⟨b, o + 5, none⟩ = some (.int .i64 vr1) ∧ w'.cell? ⟨b, o + 6, none⟩ = some (.string fr1) ∧ w'.cell? ⟨b, o + 7, none⟩ = some (.slice Ar1 ar1.length cr1) ∧ w'.cell? ⟨b, o + 8, none⟩ = some (.slice A1 ts1.length c1)) (go_keep) (first | (go_at_call_of 15 (Value.agg #[.int .i64 k1, .string n1, .int .i64 vl1, .string fl1, .slice Al1 al1.length cl1, .int .i64 vr1, .string fr1, .slice Ar1 ar1.length cr1, .slice A1 ts1.length c1]); refine (HC1.out _ HQ0.out).mono ?_; rintro e w1x ⟨rfl, hb9⟩; have HQ1 := Lib.hid (bel_go HQ0.out hb9); clear hb9; have z0 := keepc HQ1.out Z0.out; have z1 := keepc HQ1.out Z1.out; have y8 := keepc HQ1.out Y8.out; have p0 := keepc HQ1.out P0.out; have p1 := keepc HQ1.out P1.out; have p2 := keepc HQ1.out P2.out; have p3 := keepc HQ1.out P3.out; have p4 := keepc HQ1.out P4.out; have p5 := keepc HQ1.out P5.out; have p6 := keepc HQ1.out P6.out; have p7 := keepc HQ1.out P7.out; have p8 := keepc HQ1.out P8.out))) | fail "held")
  all_goals
    have HBB := Lib.hid (bel_go HB0.out HQ1.out)
    go_wp2_with fail
    go_ret
    exact ⟨ret_bool (by rw [HV.out]), HBB.out⟩
set_option maxRecDepth 100000 in
set_option maxHeartbeats 12800000 in
theorem holds3 (N : Nat) (ih : HoldsAt 15 N) (k : Int) (n : ByteArray) (vl : Int) (fl : ByteArray) (al : List Tm) (vr : Int) (fr : ByteArray) (ar : List Tm) (ts : List Fm) (Al : Option Addr) (cl : Nat) (Ar : Option Addr) (cr : Nat) (A : Option Addr) (c : Nat) (S : Nat → Prop) (w : World) (B : Option Addr) (cB : Nat) (l : List (ByteArray × Int)) (nn : Nat) (Aw : Option Addr) (cw : Nat) (rl : List Int) (hk : k = 3) (a1 a2 : Fm) (hts : ts = [a1, a2]) (hsh1 : a1.shape = true) (hsh2 : a2.shape = true) (hN : (Fm.mk k n (.mk vl fl al) (.mk vr fr ar) ts).wt ≤ N + 1) (hB : (Fm.mk k n (.mk vl fl al) (.mk vr fr ar) ts).wt + l.length ≤ 1099511627776) (hn : 1 ≤ nn ∧ nn ≤ 3) (hr : 0 < rl.length ∧ rl.length ≤ 64) (hNt : Nts w Aw rl) (hT : Ths w B l) (hBB : (B = none ∧ l = [] ∧ cB = 0) ∨ ∃ a, B = some a) (hl : ST S w Al al.length cl al) (hrr : ST S w Ar ar.length cr ar) (hs : SF S w A ts.length c ts) : Calls Tryz.prog 15 #[.agg #[.int .i64 nn, .slice Aw rl.length cw], .agg #[.int .i64 k, .string n, .int .i64 vl, .string fl, .slice Al al.length cl, .int .i64 vr, .string fr, .slice Ar ar.length cr, .slice A ts.length c], .slice B l.length cB] w fun e w' => e = .returned (.bool ((Fm.mk k n (.mk vl fl al) (.mk vr fr ar) ts).tru (pkW nn rl) nn (envL l))) ∧ Below w.heap.size w w' := by
  subst hk
  have hv : (Fm.mk 3 n (.mk vl fl al) (.mk vr fr ar) ts).tru (pkW nn rl) nn (envL l) = ((a1.tru (pkW nn rl) nn (envL l)) && (a2.tru (pkW nn rl) nn (envL l))) := by rw [hts, Fm.tru]; simp [Fm.trus, fst1, snd1]
  have hw1 : a1.wt ≤ N ∧ a1.wt + l.length ≤ 1099511627776 := by rw [Fm.wt, hts, Fm.wts, Fm.wts, Fm.wts] at hB hN; have := a2.wt_pos; omega
  have hw2 : a2.wt ≤ N ∧ a2.wt + l.length ≤ 1099511627776 := by rw [Fm.wt, hts, Fm.wts, Fm.wts, Fm.wts] at hB hN; have := a1.wt_pos; omega
  generalize (Fm.mk 3 n (.mk vl fl al) (.mk vr fr ar) ts).tru (pkW nn rl) nn (envL l) = res at *
  have HV := Lib.hid hv
  generalize hWW : (w.alloc (.cells #[.int .i64 nn, .slice Aw rl.length cw] 36)).alloc (.cells #[.int .i64 3, .string n, .int .i64 vl, .string fl, .slice Al al.length cl, .int .i64 vr, .string fr, .slice Ar ar.length cr, .slice A ts.length c] 27) = W
  have HB0 : Hid (Below w.heap.size w W) := Lib.hid (by rw [← hWW]; exact bel_two)
  have B0 : Hid (Blk W w.heap.size 36 [.int .i64 nn, .slice Aw rl.length cw]) := Lib.hid (by rw [← hWW]; exact (Blk.new w 36 [.int .i64 nn, .slice Aw rl.length cw]).alloc _)
  have B1 : Hid (Blk W (w.heap.size + 1) 27 [.int .i64 3, .string n, .int .i64 vl, .string fl, .slice Al al.length cl, .int .i64 vr, .string fr, .slice Ar ar.length cr, .slice A ts.length c]) := Lib.hid (by rw [← hWW]; exact Blk.new' _ (w.heap.size + 1) 27 [.int .i64 3, .string n, .int .i64 vl, .string fl, .slice Al al.length cl, .int .i64 vr, .string fr, .slice Ar ar.length cr, .slice A ts.length c] (by simp))
  have HWW := Lib.hid hWW
  clear hWW
  have hl := hl.stay (Stay.below HB0.out)
  have hrr := hrr.stay (Stay.below HB0.out)
  have hs := hs.stay (Stay.below HB0.out)
  have hNt := hNt.below HB0.out
  have hT := hT.below HB0.out
  clear hv hN hB
  obtain ⟨b, o, hA1, k1, n1, vl1, fl1, al1, vr1, fr1, ar1, ts1, Al1, cl1, Ar1, cr1, A1, c1, hm1, hl1, hr1, hs1, p0, p1, p2, p3, p4, p5, p6, p7, p8⟩ := hs.at 0 (by rw [hts]; simp)
  simp only [hts, List.getElem_cons_zero, List.getElem_cons_succ] at hm1
  subst hA1
  simp only [Nat.zero_mul, Nat.one_mul, Nat.add_zero] at p0 p1 p2 p3 p4 p5 p6 p7 p8
  have hw1 : (Fm.mk k1 n1 (.mk vl1 fl1 al1) (.mk vr1 fr1 ar1) ts1).wt ≤ N ∧ (Fm.mk k1 n1 (.mk vl1 fl1 al1) (.mk vr1 fr1 ar1) ts1).wt + l.length ≤ 1099511627776 := by rw [← hm1]; exact hw1
  have hsh1 : (Fm.mk k1 n1 (.mk vl1 fl1 al1) (.mk vr1 fr1 ar1) ts1).shape = true := by rw [← hm1]; exact hsh1
  have HC1 : Hid (∀ w', Below W.heap.size W w' → Calls Tryz.prog 15 #[.agg #[.int .i64 nn, .slice Aw rl.length cw], .agg #[.int .i64 k1, .string n1, .int .i64 vl1, .string fl1, .slice Al1 al1.length cl1, .int .i64 vr1, .string fr1, .slice Ar1 ar1.length cr1, .slice A1 ts1.length c1], .slice B l.length cB] w' fun e w2 => e = .returned (.bool (a1.tru (pkW nn rl) nn (envL l))) ∧ Below w'.heap.size w' w2) := Lib.hid (fun w' hb => by rw [hm1]; exact ih k1 n1 vl1 fl1 al1 vr1 fr1 ar1 ts1 Al1 cl1 Ar1 cr1 A1 c1 S w' B cB l nn Aw cw rl hw1.1 hw1.2 hsh1 hn hr (hNt.below hb) (hT.below hb) hBB (hl1.stay (Stay.below hb)) (hr1.stay (Stay.below hb)) (hs1.stay (Stay.below hb)))
  generalize a1.tru (pkW nn rl) nn (envL l) = b1 at *
  clear hm1 hl1 hr1 hs1 hw1 hsh1
  obtain ⟨b', o', hA2, k2, n2, vl2, fl2, al2, vr2, fr2, ar2, ts2, Al2, cl2, Ar2, cr2, A2, c2, hm2, hl2, hr2, hs2, q0, q1, q2, q3, q4, q5, q6, q7, q8⟩ := hs.at 1 (by rw [hts]; simp)
  simp only [hts, List.getElem_cons_zero, List.getElem_cons_succ] at hm2
  injection hA2 with hA2
  injection hA2 with hb2 ho2
  subst hb2 ho2
  simp only [Nat.zero_mul, Nat.one_mul, Nat.add_zero] at q0 q1 q2 q3 q4 q5 q6 q7 q8
  have hw2 : (Fm.mk k2 n2 (.mk vl2 fl2 al2) (.mk vr2 fr2 ar2) ts2).wt ≤ N ∧ (Fm.mk k2 n2 (.mk vl2 fl2 al2) (.mk vr2 fr2 ar2) ts2).wt + l.length ≤ 1099511627776 := by rw [← hm2]; exact hw2
  have hsh2 : (Fm.mk k2 n2 (.mk vl2 fl2 al2) (.mk vr2 fr2 ar2) ts2).shape = true := by rw [← hm2]; exact hsh2
  have HC2 : Hid (∀ w', Below W.heap.size W w' → Calls Tryz.prog 15 #[.agg #[.int .i64 nn, .slice Aw rl.length cw], .agg #[.int .i64 k2, .string n2, .int .i64 vl2, .string fl2, .slice Al2 al2.length cl2, .int .i64 vr2, .string fr2, .slice Ar2 ar2.length cr2, .slice A2 ts2.length c2], .slice B l.length cB] w' fun e w2 => e = .returned (.bool (a2.tru (pkW nn rl) nn (envL l))) ∧ Below w'.heap.size w' w2) := Lib.hid (fun w' hb => by rw [hm2]; exact ih k2 n2 vl2 fl2 al2 vr2 fr2 ar2 ts2 Al2 cl2 Ar2 cr2 A2 c2 S w' B cB l nn Aw cw rl hw2.1 hw2.2 hsh2 hn hr (hNt.below hb) (hT.below hb) hBB (hl2.stay (Stay.below hb)) (hr2.stay (Stay.below hb)) (hs2.stay (Stay.below hb)))
  generalize a2.tru (pkW nn rl) nn (envL l) = b2 at *
  clear hm2 hl2 hr2 hs2 hw2 hsh2
  have hi0 : (0 : Int) < (ts.length : Int) := by rw [hts]; simp
  have hj0 : 0 < ts.length := by rw [hts]; simp
  have hi1 : (1 : Int) < (ts.length : Int) := by rw [hts]; simp
  have hj1 : 1 < ts.length := by rw [hts]; simp
  clear hts hs hl hrr hNt hT hBB ih hn hr
  cases b1
  case false =>
    go_enter Tryz.func15, Tryz.ntmps15
    go_upto_region 1 with (fail)
    rw [HWW.out]
    have z0 := B0.out.cell 0
    have z1 := B0.out.cell 1
    simp only [List.getElem?_cons_zero, List.getElem?_cons_succ] at z0 z1
    have tk := B1.out.nine; have y0 := tk.c0; have y1 := tk.c1; have y2 := tk.c2; have y3 := tk.c3; have y4 := tk.c4; have y5 := tk.c5; have y6 := tk.c6; have y7 := tk.c7; have y8 := tk.c8; clear tk
    have HQ0 := Lib.hid (bel_drew1 W)
    go_upto_region 11 with (fail)
    have Z0 := Lib.hid z0
    have Z1 := Lib.hid z1
    have Y8 := Lib.hid y8
    have P0 := Lib.hid p0
    have P1 := Lib.hid p1
    have P2 := Lib.hid p2
    have P3 := Lib.hid p3
    have P4 := Lib.hid p4
    have P5 := Lib.hid p5
    have P6 := Lib.hid p6
    have P7 := Lib.hid p7
    have P8 := Lib.hid p8
    have Q0 := Lib.hid q0
    have Q1 := Lib.hid q1
    have Q2 := Lib.hid q2
    have Q3 := Lib.hid q3
    have Q4 := Lib.hid q4
    have Q5 := Lib.hid q5
    have Q6 := Lib.hid q6
    have Q7 := Lib.hid q7
    have Q8 := Lib.hid q8
    refine wp_region_held_drew (S := (fun w' => w'.cell? ⟨w.heap.size, 0, none⟩ = some (.int .i64 nn) ∧ w'.cell? ⟨w.heap.size, 1, none⟩ = some (.slice Aw rl.length cw) ∧ w'.cell? ⟨w.heap.size + 1, 8, none⟩ = some (.slice (some ⟨b, o, none⟩) ts.length c) ∧ w'.cell? ⟨b, o, none⟩ = some (.int .i64 k1) ∧ w'.cell? ⟨b, o + 1, none⟩ = some (.string n1) ∧ w'.cell? ⟨b, o + 2, none⟩ = some (.int .i64 vl1) ∧ w'.cell? ⟨b, o + 3, none⟩ = some (.string fl1) ∧ w'.cell? ⟨b, o + 4, none⟩ = some (.slice Al1 al1.length cl1) ∧ w'.cell? ⟨b, o + 5, none⟩ = some (.int .i64 vr1) ∧ w'.cell? ⟨b, o + 6, none⟩ = some (.string fr1) ∧ w'.cell? ⟨b, o + 7, none⟩ = some (.slice Ar1 ar1.length cr1) ∧ w'.cell? ⟨b, o + 8, none⟩ = some (.slice A1 ts1.length c1) ∧ w'.cell? ⟨b, o + 9, none⟩ = some (.int .i64 k2) ∧ w'.cell? ⟨b, o + 9 + 1, none⟩ = some (.string n2) ∧ w'.cell? ⟨b, o + 9 + 2, none⟩ = some (.int .i64 vl2) ∧ w'.cell? ⟨b, o + 9 + 3, none⟩ = some (.string fl2) ∧ w'.cell? ⟨b, o + 9 + 4, none⟩ = some (.slice Al2 al2.length cl2) ∧ w'.cell? ⟨b, o + 9 + 5, none⟩ = some (.int .i64 vr2) ∧ w'.cell? ⟨b, o + 9 + 6, none⟩ = some (.string fr2) ∧ w'.cell? ⟨b, o + 9 + 7, none⟩ = some (.slice Ar2 ar2.length cr2) ∧ w'.cell? ⟨b, o + 9 + 8, none⟩ = some (.slice A2 ts2.length c2))) (by kernel_rfl) ?_ (fun hHeld => ?_)
    · (try dsimp only); go_keep
    refine wpAnyH_take (i := 0) (v := ?_) (by (simp only [List.getElem?_toArray, List.getElem?_cons_succ, List.getElem?_cons_zero]; rfl)) (by kernel_rfl) (by kernel_rfl) (by kernel_rfl) (by exact fun _ _ _ h => h) (Or.inl ⟨by rfl, ?_⟩) (by assumption) ?_
    rotate_left
    · (intro w' hSw; (try dsimp only at hSw); go_simp); all_goals (with_reducible rfl)
    (try simp only [Act.put, List.setIfInBounds_toArray, List.set_cons_zero, List.set_cons_succ])
    refine wpAnyH_take (i := 1) (v := ?_) (by (simp only [List.getElem?_toArray, List.getElem?_cons_succ, List.getElem?_cons_zero]; rfl)) (by kernel_rfl) (by kernel_rfl) (by kernel_rfl) (by exact fun _ _ _ h => h) (Or.inl ⟨by rfl, ?_⟩) (by assumption) ?_
    rotate_left
    · (intro w' hSw; (try dsimp only at hSw); go_simp); all_goals (with_reducible rfl)
    (try simp only [Act.put, List.setIfInBounds_toArray, List.set_cons_zero, List.set_cons_succ])
    refine wpAnyH_take (i := 2) (v := ?_) (by (simp only [List.getElem?_toArray, List.getElem?_cons_succ, List.getElem?_cons_zero]; rfl)) (by kernel_rfl) (by kernel_rfl) (by kernel_rfl) (by exact fun _ _ _ h => h) (Or.inl ⟨by rfl, ?_⟩) (by assumption) ?_
    rotate_left
    · (intro w' hSw; (try dsimp only at hSw); go_simp); all_goals (with_reducible rfl)
    (try simp only [Act.put, List.setIfInBounds_toArray, List.set_cons_zero, List.set_cons_succ])
    refine wpAnyH_take (i := 3) (v := ?_) (by (simp only [List.getElem?_toArray, List.getElem?_cons_succ, List.getElem?_cons_zero]; rfl)) (by kernel_rfl) (by kernel_rfl) (by kernel_rfl) (by exact fun _ _ _ h => h) (Or.inl ⟨by rfl, ?_⟩) (by assumption) ?_
    rotate_left
    · (intro w' hSw; (try dsimp only at hSw); go_simp); all_goals (with_reducible rfl)
    (try simp only [Act.put, List.setIfInBounds_toArray, List.set_cons_zero, List.set_cons_succ])
    refine wpAnyH_take (i := 4) (v := ?_) (by (simp only [List.getElem?_toArray, List.getElem?_cons_succ, List.getElem?_cons_zero]; rfl)) (by kernel_rfl) (by kernel_rfl) (by kernel_rfl) (by exact fun _ _ _ h => h) (Or.inl ⟨by rfl, ?_⟩) (by assumption) ?_
    rotate_left
    · (intro w' hSw; (try dsimp only at hSw); go_simp); all_goals (with_reducible rfl)
    (try simp only [Act.put, List.setIfInBounds_toArray, List.set_cons_zero, List.set_cons_succ])
    refine wpAnyH_take (i := 5) (v := ?_) (by (simp only [List.getElem?_toArray, List.getElem?_cons_succ, List.getElem?_cons_zero]; rfl)) (by kernel_rfl) (by kernel_rfl) (by kernel_rfl) (by exact fun _ _ _ h => h) (Or.inl ⟨by rfl, ?_⟩) (by assumption) ?_
    rotate_left
    · (intro w' hSw; (try dsimp only at hSw); go_simp); all_goals (with_reducible rfl)
    (try simp only [Act.put, List.setIfInBounds_toArray, List.set_cons_zero, List.set_cons_succ])
    refine wpAnyH_ready (rs := [6]) (by kernel_rfl) (by simp) ?_
    refine AllReadyH.cons (by (simp only [List.getElem?_toArray, List.getElem?_cons_succ, List.getElem?_cons_zero]; rfl)) (fun K hK => ?_) AllReadyH.nil
    go_simp
    (go_at_call_of 15 (Value.agg #[.int .i64 k1, .string n1, .int .i64 vl1, .string fl1, .slice Al1 al1.length cl1, .int .i64 vr1, .string fr1, .slice Ar1 ar1.length cr1, .slice A1 ts1.length c1]); refine (HC1.out _ HQ0.out).mono ?_; rintro e w1x ⟨rfl, hb9⟩; have HQ1 := Lib.hid (bel_go HQ0.out hb9); clear hb9; have z0 := keepc HQ1.out Z0.out; have z1 := keepc HQ1.out Z1.out; have y8 := keepc HQ1.out Y8.out; have p0 := keepc HQ1.out P0.out; have p1 := keepc HQ1.out P1.out; have p2 := keepc HQ1.out P2.out; have p3 := keepc HQ1.out P3.out; have p4 := keepc HQ1.out P4.out; have p5 := keepc HQ1.out P5.out; have p6 := keepc HQ1.out P6.out; have p7 := keepc HQ1.out P7.out; have p8 := keepc HQ1.out P8.out; have q0 := keepc HQ1.out Q0.out; have q1 := keepc HQ1.out Q1.out; have q2 := keepc HQ1.out Q2.out; have q3 := keepc HQ1.out Q3.out; have q4 := keepc HQ1.out Q4.out; have q5 := keepc HQ1.out Q5.out; have q6 := keepc HQ1.out Q6.out; have q7 := keepc HQ1.out Q7.out; have q8 := keepc HQ1.out Q8.out)
    go_wp2_with fail
    refine hK.out _ _ ?_ (fun hHeld2 => ?_)
    · (try dsimp only); go_keep
    clear hK K hHeld
    (try simp only [Act.put, List.setIfInBounds_toArray, List.set_cons_zero, List.set_cons_succ])
    refine wpAnyH_take (i := 7) (v := ?_) (by (simp only [List.getElem?_toArray, List.getElem?_cons_succ, List.getElem?_cons_zero]; rfl)) (by kernel_rfl) (by kernel_rfl) (by kernel_rfl) (by exact fun _ _ _ h => h) (Or.inl ⟨by rfl, ?_⟩) (by assumption) ?_
    rotate_left
    · (intro w' hSw; (try dsimp only at hSw); go_simp); all_goals (with_reducible rfl)
    (try simp only [Act.put, List.setIfInBounds_toArray, List.set_cons_zero, List.set_cons_succ])
    refine wpAnyH_take (i := 8) (v := undef) (by (simp only [List.getElem?_toArray, List.getElem?_cons_succ, List.getElem?_cons_zero]; rfl)) (by kernel_rfl) (by kernel_rfl) (by kernel_rfl) (by exact fun _ _ _ h => h) (Or.inr ⟨by rfl, rfl⟩) (by assumption) ?_
    (try simp only [Act.put, List.setIfInBounds_toArray, List.set_cons_zero, List.set_cons_succ])
    refine wpAnyH_take (i := 9) (v := undef) (by (simp only [List.getElem?_toArray, List.getElem?_cons_succ, List.getElem?_cons_zero]; rfl)) (by kernel_rfl) (by kernel_rfl) (by kernel_rfl) (by exact fun _ _ _ h => h) (Or.inr ⟨by rfl, rfl⟩) (by assumption) ?_
    (try simp only [Act.put, List.setIfInBounds_toArray, List.set_cons_zero, List.set_cons_succ])
    refine wpAnyH_take (i := 10) (v := undef) (by (simp only [List.getElem?_toArray, List.getElem?_cons_succ, List.getElem?_cons_zero]; rfl)) (by kernel_rfl) (by kernel_rfl) (by kernel_rfl) (by exact fun _ _ _ h => h) (Or.inr ⟨by rfl, rfl⟩) (by assumption) ?_
    (try simp only [Act.put, List.setIfInBounds_toArray, List.set_cons_zero, List.set_cons_succ])
    refine wpAnyH_take (i := 11) (v := undef) (by (simp only [List.getElem?_toArray, List.getElem?_cons_succ, List.getElem?_cons_zero]; rfl)) (by kernel_rfl) (by kernel_rfl) (by kernel_rfl) (by exact fun _ _ _ h => h) (Or.inr ⟨by rfl, rfl⟩) (by assumption) ?_
    (try simp only [Act.put, List.setIfInBounds_toArray, List.set_cons_zero, List.set_cons_succ])
    refine wpAnyH_take (i := 12) (v := undef) (by (simp only [List.getElem?_toArray, List.getElem?_cons_succ, List.getElem?_cons_zero]; rfl)) (by kernel_rfl) (by kernel_rfl) (by kernel_rfl) (by exact fun _ _ _ h => h) (Or.inr ⟨by rfl, rfl⟩) (by assumption) ?_
    (try simp only [Act.put, List.setIfInBounds_toArray, List.set_cons_zero, List.set_cons_succ])
    refine wpAnyH_take (i := 13) (v := undef) (by (simp only [List.getElem?_toArray, List.getElem?_cons_succ, List.getElem?_cons_zero]; rfl)) (by kernel_rfl) (by kernel_rfl) (by kernel_rfl) (by exact fun _ _ _ h => h) (Or.inr ⟨by rfl, rfl⟩) (by assumption) ?_
    (try simp only [Act.put, List.setIfInBounds_toArray, List.set_cons_zero, List.set_cons_succ])
    refine wpAnyH_take (i := 14) (v := undef) (by (simp only [List.getElem?_toArray, List.getElem?_cons_succ, List.getElem?_cons_zero]; rfl)) (by kernel_rfl) (by kernel_rfl) (by kernel_rfl) (by exact fun _ _ _ h => h) (Or.inr ⟨by rfl, rfl⟩) (by assumption) ?_
    (try simp only [Act.put, List.setIfInBounds_toArray, List.set_cons_zero, List.set_cons_succ])
    refine wpAnyH_take (i := 15) (v := ?_) (by (simp only [List.getElem?_toArray, List.getElem?_cons_succ, List.getElem?_cons_zero]; rfl)) (by kernel_rfl) (by kernel_rfl) (by kernel_rfl) (by exact fun _ _ _ h => h) (Or.inl ⟨by rfl, ?_⟩) (by assumption) ?_
    rotate_left
    · (intro w' hSw; (try dsimp only at hSw); go_simp); all_goals (with_reducible rfl)
    (try simp only [Act.put, List.setIfInBounds_toArray, List.set_cons_zero, List.set_cons_succ])
    refine wpAnyH_take (i := 16) (v := ?_) (by (simp only [List.getElem?_toArray, List.getElem?_cons_succ, List.getElem?_cons_zero]; rfl)) (by kernel_rfl) (by kernel_rfl) (by kernel_rfl) (by exact fun _ _ _ h => h) (Or.inl ⟨by rfl, ?_⟩) (by assumption) ?_
    rotate_left
    · (intro w' hSw; (try dsimp only at hSw); go_simp); all_goals (with_reducible rfl)
    (try simp only [Act.put, List.setIfInBounds_toArray, List.set_cons_zero, List.set_cons_succ])
    refine wpAnyH_done (by kernel_rfl) ?_ _
    clear hHeld2
    all_goals
      have HBB := Lib.hid (bel_go HB0.out HQ1.out)
      go_wp2_with fail
      go_ret
      exact ⟨ret_bool (by first | (rw [HV.out]; done) | (rw [HV.out]; rfl) | (rw [HV.out]; simp; done)), HBB.out⟩
  case true =>
    go_enter Tryz.func15, Tryz.ntmps15
    go_upto_region 1 with (fail)
    rw [HWW.out]
    have z0 := B0.out.cell 0
    have z1 := B0.out.cell 1
    simp only [List.getElem?_cons_zero, List.getElem?_cons_succ] at z0 z1
    have tk := B1.out.nine; have y0 := tk.c0; have y1 := tk.c1; have y2 := tk.c2; have y3 := tk.c3; have y4 := tk.c4; have y5 := tk.c5; have y6 := tk.c6; have y7 := tk.c7; have y8 := tk.c8; clear tk
    have HQ0 := Lib.hid (bel_drew1 W)
    go_upto_region 11 with (fail)
    have Z0 := Lib.hid z0
    have Z1 := Lib.hid z1
    have Y8 := Lib.hid y8
    have P0 := Lib.hid p0
    have P1 := Lib.hid p1
    have P2 := Lib.hid p2
    have P3 := Lib.hid p3
    have P4 := Lib.hid p4
    have P5 := Lib.hid p5
    have P6 := Lib.hid p6
    have P7 := Lib.hid p7
    have P8 := Lib.hid p8
    have Q0 := Lib.hid q0
    have Q1 := Lib.hid q1
    have Q2 := Lib.hid q2
    have Q3 := Lib.hid q3
    have Q4 := Lib.hid q4
    have Q5 := Lib.hid q5
    have Q6 := Lib.hid q6
    have Q7 := Lib.hid q7
    have Q8 := Lib.hid q8
    (first | (go_region_held3 (fun w' => w'.cell? ⟨w.heap.size, 0, none⟩ = some (.int .i64 nn) ∧ w'.cell? ⟨w.heap.size, 1, none⟩ = some (.slice Aw rl.length cw) ∧ w'.cell? ⟨w.heap.size + 1, 8, none⟩ = some (.slice (some ⟨b, o, none⟩) ts.length c) ∧ w'.cell? ⟨b, o, none⟩ = some (.int .i64 k1) ∧ w'.cell? ⟨b, o + 1, none⟩ = some (.string n1) ∧ w'.cell? ⟨b, o + 2, none⟩ = some (.int .i64 vl1) ∧ w'.cell? ⟨b, o + 3, none⟩ = some (.string fl1) ∧ w'.cell? ⟨b, o + 4, none⟩ = some (.slice Al1 al1.length cl1) ∧ w'.cell? ⟨b, o + 5, none⟩ = some (.int .i64 vr1) ∧ w'.cell? ⟨b, o + 6, none⟩ = some (.string fr1) ∧ w'.cell? ⟨b, o + 7, none⟩ = some (.slice Ar1 ar1.length cr1) ∧ w'.cell? ⟨b, o + 8, none⟩ = some (.slice A1 ts1.length c1) ∧ w'.cell? ⟨b, o + 9, none⟩ = some (.int .i64 k2) ∧ w'.cell? ⟨b, o + 9 + 1, none⟩ = some (.string n2) ∧ w'.cell? ⟨b, o + 9 + 2, none⟩ = some (.int .i64 vl2) ∧ w'.cell? ⟨b, o + 9 + 3, none⟩ = some (.string fl2) ∧ w'.cell? ⟨b, o + 9 + 4, none⟩ = some (.slice Al2 al2.length cl2) ∧ w'.cell? ⟨b, o + 9 + 5, none⟩ = some (.int .i64 vr2) ∧ w'.cell? ⟨b, o + 9 + 6, none⟩ = some (.string fr2) ∧ w'.cell? ⟨b, o + 9 + 7, none⟩ = some (.slice Ar2 ar2.length cr2) ∧ w'.cell? ⟨b, o + 9 + 8, none⟩ = some (.slice A2 ts2.length c2)) (go_keep) (first | (go_at_call_of 15 (Value.agg #[.int .i64 k1, .string n1, .int .i64 vl1, .string fl1, .slice Al1 al1.length cl1, .int .i64 vr1, .string fr1, .slice Ar1 ar1.length cr1, .slice A1 ts1.length c1]); refine (HC1.out _ HQ0.out).mono ?_; rintro e w1x ⟨rfl, hb9⟩; have HQ1 := Lib.hid (bel_go HQ0.out hb9); clear hb9; have z0 := keepc HQ1.out Z0.out; have z1 := keepc HQ1.out Z1.out; have y8 := keepc HQ1.out Y8.out; have p0 := keepc HQ1.out P0.out; have p1 := keepc HQ1.out P1.out; have p2 := keepc HQ1.out P2.out; have p3 := keepc HQ1.out P3.out; have p4 := keepc HQ1.out P4.out; have p5 := keepc HQ1.out P5.out; have p6 := keepc HQ1.out P6.out; have p7 := keepc HQ1.out P7.out; have p8 := keepc HQ1.out P8.out; have q0 := keepc HQ1.out Q0.out; have q1 := keepc HQ1.out Q1.out; have q2 := keepc HQ1.out Q2.out; have q3 := keepc HQ1.out Q3.out; have q4 := keepc HQ1.out Q4.out; have q5 := keepc HQ1.out Q5.out; have q6 := keepc HQ1.out Q6.out; have q7 := keepc HQ1.out Q7.out; have q8 := keepc HQ1.out Q8.out) | (go_at_call_of 15 (Value.agg #[.int .i64 k2, .string n2, .int .i64 vl2, .string fl2, .slice Al2 al2.length cl2, .int .i64 vr2, .string fr2, .slice Ar2 ar2.length cr2, .slice A2 ts2.length c2]); refine (HC2.out _ HQ1.out).mono ?_; rintro e w2x ⟨rfl, hb9⟩; have HQ2 := Lib.hid (bel_go HQ1.out hb9); clear hb9; have z0 := keepc HQ2.out Z0.out; have z1 := keepc HQ2.out Z1.out; have y8 := keepc HQ2.out Y8.out; have p0 := keepc HQ2.out P0.out; have p1 := keepc HQ2.out P1.out; have p2 := keepc HQ2.out P2.out; have p3 := keepc HQ2.out P3.out; have p4 := keepc HQ2.out P4.out; have p5 := keepc HQ2.out P5.out; have p6 := keepc HQ2.out P6.out; have p7 := keepc HQ2.out P7.out; have p8 := keepc HQ2.out P8.out; have q0 := keepc HQ2.out Q0.out; have q1 := keepc HQ2.out Q1.out; have q2 := keepc HQ2.out Q2.out; have q3 := keepc HQ2.out Q3.out; have q4 := keepc HQ2.out Q4.out; have q5 := keepc HQ2.out Q5.out; have q6 := keepc HQ2.out Q6.out; have q7 := keepc HQ2.out Q7.out; have q8 := keepc HQ2.out Q8.out))) | fail "held")
    all_goals
      have HBB := Lib.hid (bel_go HB0.out HQ2.out)
      go_wp2_with fail
      go_ret
      exact ⟨ret_bool (by first | (rw [HV.out]; done) | (rw [HV.out]; rfl) | (rw [HV.out]; simp; done)), HBB.out⟩
set_option maxRecDepth 100000 in
set_option maxHeartbeats 12800000 in
theorem holds4 (N : Nat) (ih : HoldsAt 15 N) (k : Int) (n : ByteArray) (vl : Int) (fl : ByteArray) (al : List Tm) (vr : Int) (fr : ByteArray) (ar : List Tm) (ts : List Fm) (Al : Option Addr) (cl : Nat) (Ar : Option Addr) (cr : Nat) (A : Option Addr) (c : Nat) (S : Nat → Prop) (w : World) (B : Option Addr) (cB : Nat) (l : List (ByteArray × Int)) (nn : Nat) (Aw : Option Addr) (cw : Nat) (rl : List Int) (hk : k = 4) (a1 a2 : Fm) (hts : ts = [a1, a2]) (hsh1 : a1.shape = true) (hsh2 : a2.shape = true) (hN : (Fm.mk k n (.mk vl fl al) (.mk vr fr ar) ts).wt ≤ N + 1) (hB : (Fm.mk k n (.mk vl fl al) (.mk vr fr ar) ts).wt + l.length ≤ 1099511627776) (hn : 1 ≤ nn ∧ nn ≤ 3) (hr : 0 < rl.length ∧ rl.length ≤ 64) (hNt : Nts w Aw rl) (hT : Ths w B l) (hBB : (B = none ∧ l = [] ∧ cB = 0) ∨ ∃ a, B = some a) (hl : ST S w Al al.length cl al) (hrr : ST S w Ar ar.length cr ar) (hs : SF S w A ts.length c ts) : Calls Tryz.prog 15 #[.agg #[.int .i64 nn, .slice Aw rl.length cw], .agg #[.int .i64 k, .string n, .int .i64 vl, .string fl, .slice Al al.length cl, .int .i64 vr, .string fr, .slice Ar ar.length cr, .slice A ts.length c], .slice B l.length cB] w fun e w' => e = .returned (.bool ((Fm.mk k n (.mk vl fl al) (.mk vr fr ar) ts).tru (pkW nn rl) nn (envL l))) ∧ Below w.heap.size w w' := by
  subst hk
  have hv : (Fm.mk 4 n (.mk vl fl al) (.mk vr fr ar) ts).tru (pkW nn rl) nn (envL l) = ((a1.tru (pkW nn rl) nn (envL l)) || (a2.tru (pkW nn rl) nn (envL l))) := by rw [hts, Fm.tru]; simp [Fm.trus, fst1, snd1]
  have hw1 : a1.wt ≤ N ∧ a1.wt + l.length ≤ 1099511627776 := by rw [Fm.wt, hts, Fm.wts, Fm.wts, Fm.wts] at hB hN; have := a2.wt_pos; omega
  have hw2 : a2.wt ≤ N ∧ a2.wt + l.length ≤ 1099511627776 := by rw [Fm.wt, hts, Fm.wts, Fm.wts, Fm.wts] at hB hN; have := a1.wt_pos; omega
  generalize (Fm.mk 4 n (.mk vl fl al) (.mk vr fr ar) ts).tru (pkW nn rl) nn (envL l) = res at *
  have HV := Lib.hid hv
  generalize hWW : (w.alloc (.cells #[.int .i64 nn, .slice Aw rl.length cw] 36)).alloc (.cells #[.int .i64 4, .string n, .int .i64 vl, .string fl, .slice Al al.length cl, .int .i64 vr, .string fr, .slice Ar ar.length cr, .slice A ts.length c] 27) = W
  have HB0 : Hid (Below w.heap.size w W) := Lib.hid (by rw [← hWW]; exact bel_two)
  have B0 : Hid (Blk W w.heap.size 36 [.int .i64 nn, .slice Aw rl.length cw]) := Lib.hid (by rw [← hWW]; exact (Blk.new w 36 [.int .i64 nn, .slice Aw rl.length cw]).alloc _)
  have B1 : Hid (Blk W (w.heap.size + 1) 27 [.int .i64 4, .string n, .int .i64 vl, .string fl, .slice Al al.length cl, .int .i64 vr, .string fr, .slice Ar ar.length cr, .slice A ts.length c]) := Lib.hid (by rw [← hWW]; exact Blk.new' _ (w.heap.size + 1) 27 [.int .i64 4, .string n, .int .i64 vl, .string fl, .slice Al al.length cl, .int .i64 vr, .string fr, .slice Ar ar.length cr, .slice A ts.length c] (by simp))
  have HWW := Lib.hid hWW
  clear hWW
  have hl := hl.stay (Stay.below HB0.out)
  have hrr := hrr.stay (Stay.below HB0.out)
  have hs := hs.stay (Stay.below HB0.out)
  have hNt := hNt.below HB0.out
  have hT := hT.below HB0.out
  clear hv hN hB
  obtain ⟨b, o, hA1, k1, n1, vl1, fl1, al1, vr1, fr1, ar1, ts1, Al1, cl1, Ar1, cr1, A1, c1, hm1, hl1, hr1, hs1, p0, p1, p2, p3, p4, p5, p6, p7, p8⟩ := hs.at 0 (by rw [hts]; simp)
  simp only [hts, List.getElem_cons_zero, List.getElem_cons_succ] at hm1
  subst hA1
  simp only [Nat.zero_mul, Nat.one_mul, Nat.add_zero] at p0 p1 p2 p3 p4 p5 p6 p7 p8
  have hw1 : (Fm.mk k1 n1 (.mk vl1 fl1 al1) (.mk vr1 fr1 ar1) ts1).wt ≤ N ∧ (Fm.mk k1 n1 (.mk vl1 fl1 al1) (.mk vr1 fr1 ar1) ts1).wt + l.length ≤ 1099511627776 := by rw [← hm1]; exact hw1
  have hsh1 : (Fm.mk k1 n1 (.mk vl1 fl1 al1) (.mk vr1 fr1 ar1) ts1).shape = true := by rw [← hm1]; exact hsh1
  have HC1 : Hid (∀ w', Below W.heap.size W w' → Calls Tryz.prog 15 #[.agg #[.int .i64 nn, .slice Aw rl.length cw], .agg #[.int .i64 k1, .string n1, .int .i64 vl1, .string fl1, .slice Al1 al1.length cl1, .int .i64 vr1, .string fr1, .slice Ar1 ar1.length cr1, .slice A1 ts1.length c1], .slice B l.length cB] w' fun e w2 => e = .returned (.bool (a1.tru (pkW nn rl) nn (envL l))) ∧ Below w'.heap.size w' w2) := Lib.hid (fun w' hb => by rw [hm1]; exact ih k1 n1 vl1 fl1 al1 vr1 fr1 ar1 ts1 Al1 cl1 Ar1 cr1 A1 c1 S w' B cB l nn Aw cw rl hw1.1 hw1.2 hsh1 hn hr (hNt.below hb) (hT.below hb) hBB (hl1.stay (Stay.below hb)) (hr1.stay (Stay.below hb)) (hs1.stay (Stay.below hb)))
  generalize a1.tru (pkW nn rl) nn (envL l) = b1 at *
  clear hm1 hl1 hr1 hs1 hw1 hsh1
  obtain ⟨b', o', hA2, k2, n2, vl2, fl2, al2, vr2, fr2, ar2, ts2, Al2, cl2, Ar2, cr2, A2, c2, hm2, hl2, hr2, hs2, q0, q1, q2, q3, q4, q5, q6, q7, q8⟩ := hs.at 1 (by rw [hts]; simp)
  simp only [hts, List.getElem_cons_zero, List.getElem_cons_succ] at hm2
  injection hA2 with hA2
  injection hA2 with hb2 ho2
  subst hb2 ho2
  simp only [Nat.zero_mul, Nat.one_mul, Nat.add_zero] at q0 q1 q2 q3 q4 q5 q6 q7 q8
  have hw2 : (Fm.mk k2 n2 (.mk vl2 fl2 al2) (.mk vr2 fr2 ar2) ts2).wt ≤ N ∧ (Fm.mk k2 n2 (.mk vl2 fl2 al2) (.mk vr2 fr2 ar2) ts2).wt + l.length ≤ 1099511627776 := by rw [← hm2]; exact hw2
  have hsh2 : (Fm.mk k2 n2 (.mk vl2 fl2 al2) (.mk vr2 fr2 ar2) ts2).shape = true := by rw [← hm2]; exact hsh2
  have HC2 : Hid (∀ w', Below W.heap.size W w' → Calls Tryz.prog 15 #[.agg #[.int .i64 nn, .slice Aw rl.length cw], .agg #[.int .i64 k2, .string n2, .int .i64 vl2, .string fl2, .slice Al2 al2.length cl2, .int .i64 vr2, .string fr2, .slice Ar2 ar2.length cr2, .slice A2 ts2.length c2], .slice B l.length cB] w' fun e w2 => e = .returned (.bool (a2.tru (pkW nn rl) nn (envL l))) ∧ Below w'.heap.size w' w2) := Lib.hid (fun w' hb => by rw [hm2]; exact ih k2 n2 vl2 fl2 al2 vr2 fr2 ar2 ts2 Al2 cl2 Ar2 cr2 A2 c2 S w' B cB l nn Aw cw rl hw2.1 hw2.2 hsh2 hn hr (hNt.below hb) (hT.below hb) hBB (hl2.stay (Stay.below hb)) (hr2.stay (Stay.below hb)) (hs2.stay (Stay.below hb)))
  generalize a2.tru (pkW nn rl) nn (envL l) = b2 at *
  clear hm2 hl2 hr2 hs2 hw2 hsh2
  have hi0 : (0 : Int) < (ts.length : Int) := by rw [hts]; simp
  have hj0 : 0 < ts.length := by rw [hts]; simp
  have hi1 : (1 : Int) < (ts.length : Int) := by rw [hts]; simp
  have hj1 : 1 < ts.length := by rw [hts]; simp
  clear hts hs hl hrr hNt hT hBB ih hn hr
  cases b1
  case false =>
    go_enter Tryz.func15, Tryz.ntmps15
    go_upto_region 1 with (fail)
    rw [HWW.out]
    have z0 := B0.out.cell 0
    have z1 := B0.out.cell 1
    simp only [List.getElem?_cons_zero, List.getElem?_cons_succ] at z0 z1
    have tk := B1.out.nine; have y0 := tk.c0; have y1 := tk.c1; have y2 := tk.c2; have y3 := tk.c3; have y4 := tk.c4; have y5 := tk.c5; have y6 := tk.c6; have y7 := tk.c7; have y8 := tk.c8; clear tk
    have HQ0 := Lib.hid (bel_drew1 W)
    go_upto_region 13 with (fail)
    have Z0 := Lib.hid z0
    have Z1 := Lib.hid z1
    have Y8 := Lib.hid y8
    have P0 := Lib.hid p0
    have P1 := Lib.hid p1
    have P2 := Lib.hid p2
    have P3 := Lib.hid p3
    have P4 := Lib.hid p4
    have P5 := Lib.hid p5
    have P6 := Lib.hid p6
    have P7 := Lib.hid p7
    have P8 := Lib.hid p8
    have Q0 := Lib.hid q0
    have Q1 := Lib.hid q1
    have Q2 := Lib.hid q2
    have Q3 := Lib.hid q3
    have Q4 := Lib.hid q4
    have Q5 := Lib.hid q5
    have Q6 := Lib.hid q6
    have Q7 := Lib.hid q7
    have Q8 := Lib.hid q8
    (first | (go_region_held3 (fun w' => w'.cell? ⟨w.heap.size, 0, none⟩ = some (.int .i64 nn) ∧ w'.cell? ⟨w.heap.size, 1, none⟩ = some (.slice Aw rl.length cw) ∧ w'.cell? ⟨w.heap.size + 1, 8, none⟩ = some (.slice (some ⟨b, o, none⟩) ts.length c) ∧ w'.cell? ⟨b, o, none⟩ = some (.int .i64 k1) ∧ w'.cell? ⟨b, o + 1, none⟩ = some (.string n1) ∧ w'.cell? ⟨b, o + 2, none⟩ = some (.int .i64 vl1) ∧ w'.cell? ⟨b, o + 3, none⟩ = some (.string fl1) ∧ w'.cell? ⟨b, o + 4, none⟩ = some (.slice Al1 al1.length cl1) ∧ w'.cell? ⟨b, o + 5, none⟩ = some (.int .i64 vr1) ∧ w'.cell? ⟨b, o + 6, none⟩ = some (.string fr1) ∧ w'.cell? ⟨b, o + 7, none⟩ = some (.slice Ar1 ar1.length cr1) ∧ w'.cell? ⟨b, o + 8, none⟩ = some (.slice A1 ts1.length c1) ∧ w'.cell? ⟨b, o + 9, none⟩ = some (.int .i64 k2) ∧ w'.cell? ⟨b, o + 9 + 1, none⟩ = some (.string n2) ∧ w'.cell? ⟨b, o + 9 + 2, none⟩ = some (.int .i64 vl2) ∧ w'.cell? ⟨b, o + 9 + 3, none⟩ = some (.string fl2) ∧ w'.cell? ⟨b, o + 9 + 4, none⟩ = some (.slice Al2 al2.length cl2) ∧ w'.cell? ⟨b, o + 9 + 5, none⟩ = some (.int .i64 vr2) ∧ w'.cell? ⟨b, o + 9 + 6, none⟩ = some (.string fr2) ∧ w'.cell? ⟨b, o + 9 + 7, none⟩ = some (.slice Ar2 ar2.length cr2) ∧ w'.cell? ⟨b, o + 9 + 8, none⟩ = some (.slice A2 ts2.length c2)) (go_keep) (first | (go_at_call_of 15 (Value.agg #[.int .i64 k1, .string n1, .int .i64 vl1, .string fl1, .slice Al1 al1.length cl1, .int .i64 vr1, .string fr1, .slice Ar1 ar1.length cr1, .slice A1 ts1.length c1]); refine (HC1.out _ HQ0.out).mono ?_; rintro e w1x ⟨rfl, hb9⟩; have HQ1 := Lib.hid (bel_go HQ0.out hb9); clear hb9; have z0 := keepc HQ1.out Z0.out; have z1 := keepc HQ1.out Z1.out; have y8 := keepc HQ1.out Y8.out; have p0 := keepc HQ1.out P0.out; have p1 := keepc HQ1.out P1.out; have p2 := keepc HQ1.out P2.out; have p3 := keepc HQ1.out P3.out; have p4 := keepc HQ1.out P4.out; have p5 := keepc HQ1.out P5.out; have p6 := keepc HQ1.out P6.out; have p7 := keepc HQ1.out P7.out; have p8 := keepc HQ1.out P8.out; have q0 := keepc HQ1.out Q0.out; have q1 := keepc HQ1.out Q1.out; have q2 := keepc HQ1.out Q2.out; have q3 := keepc HQ1.out Q3.out; have q4 := keepc HQ1.out Q4.out; have q5 := keepc HQ1.out Q5.out; have q6 := keepc HQ1.out Q6.out; have q7 := keepc HQ1.out Q7.out; have q8 := keepc HQ1.out Q8.out) | (go_at_call_of 15 (Value.agg #[.int .i64 k2, .string n2, .int .i64 vl2, .string fl2, .slice Al2 al2.length cl2, .int .i64 vr2, .string fr2, .slice Ar2 ar2.length cr2, .slice A2 ts2.length c2]); refine (HC2.out _ HQ1.out).mono ?_; rintro e w2x ⟨rfl, hb9⟩; have HQ2 := Lib.hid (bel_go HQ1.out hb9); clear hb9; have z0 := keepc HQ2.out Z0.out; have z1 := keepc HQ2.out Z1.out; have y8 := keepc HQ2.out Y8.out; have p0 := keepc HQ2.out P0.out; have p1 := keepc HQ2.out P1.out; have p2 := keepc HQ2.out P2.out; have p3 := keepc HQ2.out P3.out; have p4 := keepc HQ2.out P4.out; have p5 := keepc HQ2.out P5.out; have p6 := keepc HQ2.out P6.out; have p7 := keepc HQ2.out P7.out; have p8 := keepc HQ2.out P8.out; have q0 := keepc HQ2.out Q0.out; have q1 := keepc HQ2.out Q1.out; have q2 := keepc HQ2.out Q2.out; have q3 := keepc HQ2.out Q3.out; have q4 := keepc HQ2.out Q4.out; have q5 := keepc HQ2.out Q5.out; have q6 := keepc HQ2.out Q6.out; have q7 := keepc HQ2.out Q7.out; have q8 := keepc HQ2.out Q8.out))) | fail "held")
    all_goals
      have HBB := Lib.hid (bel_go HB0.out HQ2.out)
      go_wp2_with fail
      go_ret
      exact ⟨ret_bool (by first | (rw [HV.out]; done) | (rw [HV.out]; rfl) | (rw [HV.out]; simp; done)), HBB.out⟩
  case true =>
    go_enter Tryz.func15, Tryz.ntmps15
    go_upto_region 1 with (fail)
    rw [HWW.out]
    have z0 := B0.out.cell 0
    have z1 := B0.out.cell 1
    simp only [List.getElem?_cons_zero, List.getElem?_cons_succ] at z0 z1
    have tk := B1.out.nine; have y0 := tk.c0; have y1 := tk.c1; have y2 := tk.c2; have y3 := tk.c3; have y4 := tk.c4; have y5 := tk.c5; have y6 := tk.c6; have y7 := tk.c7; have y8 := tk.c8; clear tk
    have HQ0 := Lib.hid (bel_drew1 W)
    go_upto_region 13 with (fail)
    have Z0 := Lib.hid z0
    have Z1 := Lib.hid z1
    have Y8 := Lib.hid y8
    have P0 := Lib.hid p0
    have P1 := Lib.hid p1
    have P2 := Lib.hid p2
    have P3 := Lib.hid p3
    have P4 := Lib.hid p4
    have P5 := Lib.hid p5
    have P6 := Lib.hid p6
    have P7 := Lib.hid p7
    have P8 := Lib.hid p8
    have Q0 := Lib.hid q0
    have Q1 := Lib.hid q1
    have Q2 := Lib.hid q2
    have Q3 := Lib.hid q3
    have Q4 := Lib.hid q4
    have Q5 := Lib.hid q5
    have Q6 := Lib.hid q6
    have Q7 := Lib.hid q7
    have Q8 := Lib.hid q8
    refine wp_region_held_drew (S := (fun w' => w'.cell? ⟨w.heap.size, 0, none⟩ = some (.int .i64 nn) ∧ w'.cell? ⟨w.heap.size, 1, none⟩ = some (.slice Aw rl.length cw) ∧ w'.cell? ⟨w.heap.size + 1, 8, none⟩ = some (.slice (some ⟨b, o, none⟩) ts.length c) ∧ w'.cell? ⟨b, o, none⟩ = some (.int .i64 k1) ∧ w'.cell? ⟨b, o + 1, none⟩ = some (.string n1) ∧ w'.cell? ⟨b, o + 2, none⟩ = some (.int .i64 vl1) ∧ w'.cell? ⟨b, o + 3, none⟩ = some (.string fl1) ∧ w'.cell? ⟨b, o + 4, none⟩ = some (.slice Al1 al1.length cl1) ∧ w'.cell? ⟨b, o + 5, none⟩ = some (.int .i64 vr1) ∧ w'.cell? ⟨b, o + 6, none⟩ = some (.string fr1) ∧ w'.cell? ⟨b, o + 7, none⟩ = some (.slice Ar1 ar1.length cr1) ∧ w'.cell? ⟨b, o + 8, none⟩ = some (.slice A1 ts1.length c1) ∧ w'.cell? ⟨b, o + 9, none⟩ = some (.int .i64 k2) ∧ w'.cell? ⟨b, o + 9 + 1, none⟩ = some (.string n2) ∧ w'.cell? ⟨b, o + 9 + 2, none⟩ = some (.int .i64 vl2) ∧ w'.cell? ⟨b, o + 9 + 3, none⟩ = some (.string fl2) ∧ w'.cell? ⟨b, o + 9 + 4, none⟩ = some (.slice Al2 al2.length cl2) ∧ w'.cell? ⟨b, o + 9 + 5, none⟩ = some (.int .i64 vr2) ∧ w'.cell? ⟨b, o + 9 + 6, none⟩ = some (.string fr2) ∧ w'.cell? ⟨b, o + 9 + 7, none⟩ = some (.slice Ar2 ar2.length cr2) ∧ w'.cell? ⟨b, o + 9 + 8, none⟩ = some (.slice A2 ts2.length c2))) (by kernel_rfl) ?_ (fun hHeld => ?_)
    · (try dsimp only); go_keep
    refine wpAnyH_take (i := 0) (v := ?_) (by (simp only [List.getElem?_toArray, List.getElem?_cons_succ, List.getElem?_cons_zero]; rfl)) (by kernel_rfl) (by kernel_rfl) (by kernel_rfl) (by exact fun _ _ _ h => h) (Or.inl ⟨by rfl, ?_⟩) (by assumption) ?_
    rotate_left
    · (intro w' hSw; (try dsimp only at hSw); go_simp); all_goals (with_reducible rfl)
    (try simp only [Act.put, List.setIfInBounds_toArray, List.set_cons_zero, List.set_cons_succ])
    refine wpAnyH_take (i := 1) (v := ?_) (by (simp only [List.getElem?_toArray, List.getElem?_cons_succ, List.getElem?_cons_zero]; rfl)) (by kernel_rfl) (by kernel_rfl) (by kernel_rfl) (by exact fun _ _ _ h => h) (Or.inl ⟨by rfl, ?_⟩) (by assumption) ?_
    rotate_left
    · (intro w' hSw; (try dsimp only at hSw); go_simp); all_goals (with_reducible rfl)
    (try simp only [Act.put, List.setIfInBounds_toArray, List.set_cons_zero, List.set_cons_succ])
    refine wpAnyH_take (i := 2) (v := ?_) (by (simp only [List.getElem?_toArray, List.getElem?_cons_succ, List.getElem?_cons_zero]; rfl)) (by kernel_rfl) (by kernel_rfl) (by kernel_rfl) (by exact fun _ _ _ h => h) (Or.inl ⟨by rfl, ?_⟩) (by assumption) ?_
    rotate_left
    · (intro w' hSw; (try dsimp only at hSw); go_simp); all_goals (with_reducible rfl)
    (try simp only [Act.put, List.setIfInBounds_toArray, List.set_cons_zero, List.set_cons_succ])
    refine wpAnyH_take (i := 3) (v := ?_) (by (simp only [List.getElem?_toArray, List.getElem?_cons_succ, List.getElem?_cons_zero]; rfl)) (by kernel_rfl) (by kernel_rfl) (by kernel_rfl) (by exact fun _ _ _ h => h) (Or.inl ⟨by rfl, ?_⟩) (by assumption) ?_
    rotate_left
    · (intro w' hSw; (try dsimp only at hSw); go_simp); all_goals (with_reducible rfl)
    (try simp only [Act.put, List.setIfInBounds_toArray, List.set_cons_zero, List.set_cons_succ])
    refine wpAnyH_take (i := 4) (v := ?_) (by (simp only [List.getElem?_toArray, List.getElem?_cons_succ, List.getElem?_cons_zero]; rfl)) (by kernel_rfl) (by kernel_rfl) (by kernel_rfl) (by exact fun _ _ _ h => h) (Or.inl ⟨by rfl, ?_⟩) (by assumption) ?_
    rotate_left
    · (intro w' hSw; (try dsimp only at hSw); go_simp); all_goals (with_reducible rfl)
    (try simp only [Act.put, List.setIfInBounds_toArray, List.set_cons_zero, List.set_cons_succ])
    refine wpAnyH_take (i := 5) (v := ?_) (by (simp only [List.getElem?_toArray, List.getElem?_cons_succ, List.getElem?_cons_zero]; rfl)) (by kernel_rfl) (by kernel_rfl) (by kernel_rfl) (by exact fun _ _ _ h => h) (Or.inl ⟨by rfl, ?_⟩) (by assumption) ?_
    rotate_left
    · (intro w' hSw; (try dsimp only at hSw); go_simp); all_goals (with_reducible rfl)
    (try simp only [Act.put, List.setIfInBounds_toArray, List.set_cons_zero, List.set_cons_succ])
    refine wpAnyH_ready (rs := [6]) (by kernel_rfl) (by simp) ?_
    refine AllReadyH.cons (by (simp only [List.getElem?_toArray, List.getElem?_cons_succ, List.getElem?_cons_zero]; rfl)) (fun K hK => ?_) AllReadyH.nil
    go_simp
    (go_at_call_of 15 (Value.agg #[.int .i64 k1, .string n1, .int .i64 vl1, .string fl1, .slice Al1 al1.length cl1, .int .i64 vr1, .string fr1, .slice Ar1 ar1.length cr1, .slice A1 ts1.length c1]); refine (HC1.out _ HQ0.out).mono ?_; rintro e w1x ⟨rfl, hb9⟩; have HQ1 := Lib.hid (bel_go HQ0.out hb9); clear hb9; have z0 := keepc HQ1.out Z0.out; have z1 := keepc HQ1.out Z1.out; have y8 := keepc HQ1.out Y8.out; have p0 := keepc HQ1.out P0.out; have p1 := keepc HQ1.out P1.out; have p2 := keepc HQ1.out P2.out; have p3 := keepc HQ1.out P3.out; have p4 := keepc HQ1.out P4.out; have p5 := keepc HQ1.out P5.out; have p6 := keepc HQ1.out P6.out; have p7 := keepc HQ1.out P7.out; have p8 := keepc HQ1.out P8.out; have q0 := keepc HQ1.out Q0.out; have q1 := keepc HQ1.out Q1.out; have q2 := keepc HQ1.out Q2.out; have q3 := keepc HQ1.out Q3.out; have q4 := keepc HQ1.out Q4.out; have q5 := keepc HQ1.out Q5.out; have q6 := keepc HQ1.out Q6.out; have q7 := keepc HQ1.out Q7.out; have q8 := keepc HQ1.out Q8.out)
    go_wp2_with fail
    refine hK.out _ _ ?_ (fun hHeld2 => ?_)
    · (try dsimp only); go_keep
    clear hK K hHeld
    (try simp only [Act.put, List.setIfInBounds_toArray, List.set_cons_zero, List.set_cons_succ])
    refine wpAnyH_take (i := 7) (v := ?_) (by (simp only [List.getElem?_toArray, List.getElem?_cons_succ, List.getElem?_cons_zero]; rfl)) (by kernel_rfl) (by kernel_rfl) (by kernel_rfl) (by exact fun _ _ _ h => h) (Or.inl ⟨by rfl, ?_⟩) (by assumption) ?_
    rotate_left
    · (intro w' hSw; (try dsimp only at hSw); go_simp); all_goals (with_reducible rfl)
    (try simp only [Act.put, List.setIfInBounds_toArray, List.set_cons_zero, List.set_cons_succ])
    refine wpAnyH_take (i := 8) (v := undef) (by (simp only [List.getElem?_toArray, List.getElem?_cons_succ, List.getElem?_cons_zero]; rfl)) (by kernel_rfl) (by kernel_rfl) (by kernel_rfl) (by exact fun _ _ _ h => h) (Or.inr ⟨by rfl, rfl⟩) (by assumption) ?_
    (try simp only [Act.put, List.setIfInBounds_toArray, List.set_cons_zero, List.set_cons_succ])
    refine wpAnyH_take (i := 9) (v := undef) (by (simp only [List.getElem?_toArray, List.getElem?_cons_succ, List.getElem?_cons_zero]; rfl)) (by kernel_rfl) (by kernel_rfl) (by kernel_rfl) (by exact fun _ _ _ h => h) (Or.inr ⟨by rfl, rfl⟩) (by assumption) ?_
    (try simp only [Act.put, List.setIfInBounds_toArray, List.set_cons_zero, List.set_cons_succ])
    refine wpAnyH_take (i := 10) (v := undef) (by (simp only [List.getElem?_toArray, List.getElem?_cons_succ, List.getElem?_cons_zero]; rfl)) (by kernel_rfl) (by kernel_rfl) (by kernel_rfl) (by exact fun _ _ _ h => h) (Or.inr ⟨by rfl, rfl⟩) (by assumption) ?_
    (try simp only [Act.put, List.setIfInBounds_toArray, List.set_cons_zero, List.set_cons_succ])
    refine wpAnyH_take (i := 11) (v := undef) (by (simp only [List.getElem?_toArray, List.getElem?_cons_succ, List.getElem?_cons_zero]; rfl)) (by kernel_rfl) (by kernel_rfl) (by kernel_rfl) (by exact fun _ _ _ h => h) (Or.inr ⟨by rfl, rfl⟩) (by assumption) ?_
    (try simp only [Act.put, List.setIfInBounds_toArray, List.set_cons_zero, List.set_cons_succ])
    refine wpAnyH_take (i := 12) (v := undef) (by (simp only [List.getElem?_toArray, List.getElem?_cons_succ, List.getElem?_cons_zero]; rfl)) (by kernel_rfl) (by kernel_rfl) (by kernel_rfl) (by exact fun _ _ _ h => h) (Or.inr ⟨by rfl, rfl⟩) (by assumption) ?_
    (try simp only [Act.put, List.setIfInBounds_toArray, List.set_cons_zero, List.set_cons_succ])
    refine wpAnyH_take (i := 13) (v := undef) (by (simp only [List.getElem?_toArray, List.getElem?_cons_succ, List.getElem?_cons_zero]; rfl)) (by kernel_rfl) (by kernel_rfl) (by kernel_rfl) (by exact fun _ _ _ h => h) (Or.inr ⟨by rfl, rfl⟩) (by assumption) ?_
    (try simp only [Act.put, List.setIfInBounds_toArray, List.set_cons_zero, List.set_cons_succ])
    refine wpAnyH_take (i := 14) (v := undef) (by (simp only [List.getElem?_toArray, List.getElem?_cons_succ, List.getElem?_cons_zero]; rfl)) (by kernel_rfl) (by kernel_rfl) (by kernel_rfl) (by exact fun _ _ _ h => h) (Or.inr ⟨by rfl, rfl⟩) (by assumption) ?_
    (try simp only [Act.put, List.setIfInBounds_toArray, List.set_cons_zero, List.set_cons_succ])
    refine wpAnyH_take (i := 15) (v := ?_) (by (simp only [List.getElem?_toArray, List.getElem?_cons_succ, List.getElem?_cons_zero]; rfl)) (by kernel_rfl) (by kernel_rfl) (by kernel_rfl) (by exact fun _ _ _ h => h) (Or.inl ⟨by rfl, ?_⟩) (by assumption) ?_
    rotate_left
    · (intro w' hSw; (try dsimp only at hSw); go_simp); all_goals (with_reducible rfl)
    (try simp only [Act.put, List.setIfInBounds_toArray, List.set_cons_zero, List.set_cons_succ])
    refine wpAnyH_take (i := 16) (v := ?_) (by (simp only [List.getElem?_toArray, List.getElem?_cons_succ, List.getElem?_cons_zero]; rfl)) (by kernel_rfl) (by kernel_rfl) (by kernel_rfl) (by exact fun _ _ _ h => h) (Or.inl ⟨by rfl, ?_⟩) (by assumption) ?_
    rotate_left
    · (intro w' hSw; (try dsimp only at hSw); go_simp); all_goals (with_reducible rfl)
    (try simp only [Act.put, List.setIfInBounds_toArray, List.set_cons_zero, List.set_cons_succ])
    refine wpAnyH_done (by kernel_rfl) ?_ _
    clear hHeld2
    all_goals
      have HBB := Lib.hid (bel_go HB0.out HQ1.out)
      go_wp2_with fail
      go_ret
      exact ⟨ret_bool (by first | (rw [HV.out]; done) | (rw [HV.out]; rfl) | (rw [HV.out]; simp; done)), HBB.out⟩
set_option maxRecDepth 100000 in
set_option maxHeartbeats 12800000 in
theorem holds5 (N : Nat) (ih : HoldsAt 15 N) (k : Int) (n : ByteArray) (vl : Int) (fl : ByteArray) (al : List Tm) (vr : Int) (fr : ByteArray) (ar : List Tm) (ts : List Fm) (Al : Option Addr) (cl : Nat) (Ar : Option Addr) (cr : Nat) (A : Option Addr) (c : Nat) (S : Nat → Prop) (w : World) (B : Option Addr) (cB : Nat) (l : List (ByteArray × Int)) (nn : Nat) (Aw : Option Addr) (cw : Nat) (rl : List Int) (hk : k = 5) (a1 a2 : Fm) (hts : ts = [a1, a2]) (hsh1 : a1.shape = true) (hsh2 : a2.shape = true) (hN : (Fm.mk k n (.mk vl fl al) (.mk vr fr ar) ts).wt ≤ N + 1) (hB : (Fm.mk k n (.mk vl fl al) (.mk vr fr ar) ts).wt + l.length ≤ 1099511627776) (hn : 1 ≤ nn ∧ nn ≤ 3) (hr : 0 < rl.length ∧ rl.length ≤ 64) (hNt : Nts w Aw rl) (hT : Ths w B l) (hBB : (B = none ∧ l = [] ∧ cB = 0) ∨ ∃ a, B = some a) (hl : ST S w Al al.length cl al) (hrr : ST S w Ar ar.length cr ar) (hs : SF S w A ts.length c ts) : Calls Tryz.prog 15 #[.agg #[.int .i64 nn, .slice Aw rl.length cw], .agg #[.int .i64 k, .string n, .int .i64 vl, .string fl, .slice Al al.length cl, .int .i64 vr, .string fr, .slice Ar ar.length cr, .slice A ts.length c], .slice B l.length cB] w fun e w' => e = .returned (.bool ((Fm.mk k n (.mk vl fl al) (.mk vr fr ar) ts).tru (pkW nn rl) nn (envL l))) ∧ Below w.heap.size w w' := by
  subst hk
  have hv : (Fm.mk 5 n (.mk vl fl al) (.mk vr fr ar) ts).tru (pkW nn rl) nn (envL l) = (!(a1.tru (pkW nn rl) nn (envL l)) || (a2.tru (pkW nn rl) nn (envL l))) := by rw [hts, Fm.tru]; simp [Fm.trus, fst1, snd1]
  have hw1 : a1.wt ≤ N ∧ a1.wt + l.length ≤ 1099511627776 := by rw [Fm.wt, hts, Fm.wts, Fm.wts, Fm.wts] at hB hN; have := a2.wt_pos; omega
  have hw2 : a2.wt ≤ N ∧ a2.wt + l.length ≤ 1099511627776 := by rw [Fm.wt, hts, Fm.wts, Fm.wts, Fm.wts] at hB hN; have := a1.wt_pos; omega
  generalize (Fm.mk 5 n (.mk vl fl al) (.mk vr fr ar) ts).tru (pkW nn rl) nn (envL l) = res at *
  have HV := Lib.hid hv
  generalize hWW : (w.alloc (.cells #[.int .i64 nn, .slice Aw rl.length cw] 36)).alloc (.cells #[.int .i64 5, .string n, .int .i64 vl, .string fl, .slice Al al.length cl, .int .i64 vr, .string fr, .slice Ar ar.length cr, .slice A ts.length c] 27) = W
  have HB0 : Hid (Below w.heap.size w W) := Lib.hid (by rw [← hWW]; exact bel_two)
  have B0 : Hid (Blk W w.heap.size 36 [.int .i64 nn, .slice Aw rl.length cw]) := Lib.hid (by rw [← hWW]; exact (Blk.new w 36 [.int .i64 nn, .slice Aw rl.length cw]).alloc _)
  have B1 : Hid (Blk W (w.heap.size + 1) 27 [.int .i64 5, .string n, .int .i64 vl, .string fl, .slice Al al.length cl, .int .i64 vr, .string fr, .slice Ar ar.length cr, .slice A ts.length c]) := Lib.hid (by rw [← hWW]; exact Blk.new' _ (w.heap.size + 1) 27 [.int .i64 5, .string n, .int .i64 vl, .string fl, .slice Al al.length cl, .int .i64 vr, .string fr, .slice Ar ar.length cr, .slice A ts.length c] (by simp))
  have HWW := Lib.hid hWW
  clear hWW
  have hl := hl.stay (Stay.below HB0.out)
  have hrr := hrr.stay (Stay.below HB0.out)
  have hs := hs.stay (Stay.below HB0.out)
  have hNt := hNt.below HB0.out
  have hT := hT.below HB0.out
  clear hv hN hB
  obtain ⟨b, o, hA1, k1, n1, vl1, fl1, al1, vr1, fr1, ar1, ts1, Al1, cl1, Ar1, cr1, A1, c1, hm1, hl1, hr1, hs1, p0, p1, p2, p3, p4, p5, p6, p7, p8⟩ := hs.at 0 (by rw [hts]; simp)
  simp only [hts, List.getElem_cons_zero, List.getElem_cons_succ] at hm1
  subst hA1
  simp only [Nat.zero_mul, Nat.one_mul, Nat.add_zero] at p0 p1 p2 p3 p4 p5 p6 p7 p8
  have hw1 : (Fm.mk k1 n1 (.mk vl1 fl1 al1) (.mk vr1 fr1 ar1) ts1).wt ≤ N ∧ (Fm.mk k1 n1 (.mk vl1 fl1 al1) (.mk vr1 fr1 ar1) ts1).wt + l.length ≤ 1099511627776 := by rw [← hm1]; exact hw1
  have hsh1 : (Fm.mk k1 n1 (.mk vl1 fl1 al1) (.mk vr1 fr1 ar1) ts1).shape = true := by rw [← hm1]; exact hsh1
  have HC1 : Hid (∀ w', Below W.heap.size W w' → Calls Tryz.prog 15 #[.agg #[.int .i64 nn, .slice Aw rl.length cw], .agg #[.int .i64 k1, .string n1, .int .i64 vl1, .string fl1, .slice Al1 al1.length cl1, .int .i64 vr1, .string fr1, .slice Ar1 ar1.length cr1, .slice A1 ts1.length c1], .slice B l.length cB] w' fun e w2 => e = .returned (.bool (a1.tru (pkW nn rl) nn (envL l))) ∧ Below w'.heap.size w' w2) := Lib.hid (fun w' hb => by rw [hm1]; exact ih k1 n1 vl1 fl1 al1 vr1 fr1 ar1 ts1 Al1 cl1 Ar1 cr1 A1 c1 S w' B cB l nn Aw cw rl hw1.1 hw1.2 hsh1 hn hr (hNt.below hb) (hT.below hb) hBB (hl1.stay (Stay.below hb)) (hr1.stay (Stay.below hb)) (hs1.stay (Stay.below hb)))
  generalize a1.tru (pkW nn rl) nn (envL l) = b1 at *
  clear hm1 hl1 hr1 hs1 hw1 hsh1
  obtain ⟨b', o', hA2, k2, n2, vl2, fl2, al2, vr2, fr2, ar2, ts2, Al2, cl2, Ar2, cr2, A2, c2, hm2, hl2, hr2, hs2, q0, q1, q2, q3, q4, q5, q6, q7, q8⟩ := hs.at 1 (by rw [hts]; simp)
  simp only [hts, List.getElem_cons_zero, List.getElem_cons_succ] at hm2
  injection hA2 with hA2
  injection hA2 with hb2 ho2
  subst hb2 ho2
  simp only [Nat.zero_mul, Nat.one_mul, Nat.add_zero] at q0 q1 q2 q3 q4 q5 q6 q7 q8
  have hw2 : (Fm.mk k2 n2 (.mk vl2 fl2 al2) (.mk vr2 fr2 ar2) ts2).wt ≤ N ∧ (Fm.mk k2 n2 (.mk vl2 fl2 al2) (.mk vr2 fr2 ar2) ts2).wt + l.length ≤ 1099511627776 := by rw [← hm2]; exact hw2
  have hsh2 : (Fm.mk k2 n2 (.mk vl2 fl2 al2) (.mk vr2 fr2 ar2) ts2).shape = true := by rw [← hm2]; exact hsh2
  have HC2 : Hid (∀ w', Below W.heap.size W w' → Calls Tryz.prog 15 #[.agg #[.int .i64 nn, .slice Aw rl.length cw], .agg #[.int .i64 k2, .string n2, .int .i64 vl2, .string fl2, .slice Al2 al2.length cl2, .int .i64 vr2, .string fr2, .slice Ar2 ar2.length cr2, .slice A2 ts2.length c2], .slice B l.length cB] w' fun e w2 => e = .returned (.bool (a2.tru (pkW nn rl) nn (envL l))) ∧ Below w'.heap.size w' w2) := Lib.hid (fun w' hb => by rw [hm2]; exact ih k2 n2 vl2 fl2 al2 vr2 fr2 ar2 ts2 Al2 cl2 Ar2 cr2 A2 c2 S w' B cB l nn Aw cw rl hw2.1 hw2.2 hsh2 hn hr (hNt.below hb) (hT.below hb) hBB (hl2.stay (Stay.below hb)) (hr2.stay (Stay.below hb)) (hs2.stay (Stay.below hb)))
  generalize a2.tru (pkW nn rl) nn (envL l) = b2 at *
  clear hm2 hl2 hr2 hs2 hw2 hsh2
  have hi0 : (0 : Int) < (ts.length : Int) := by rw [hts]; simp
  have hj0 : 0 < ts.length := by rw [hts]; simp
  have hi1 : (1 : Int) < (ts.length : Int) := by rw [hts]; simp
  have hj1 : 1 < ts.length := by rw [hts]; simp
  clear hts hs hl hrr hNt hT hBB ih hn hr
  cases b1
  case false =>
    go_enter Tryz.func15, Tryz.ntmps15
    go_upto_region 1 with (fail)
    rw [HWW.out]
    have z0 := B0.out.cell 0
    have z1 := B0.out.cell 1
    simp only [List.getElem?_cons_zero, List.getElem?_cons_succ] at z0 z1
    have tk := B1.out.nine; have y0 := tk.c0; have y1 := tk.c1; have y2 := tk.c2; have y3 := tk.c3; have y4 := tk.c4; have y5 := tk.c5; have y6 := tk.c6; have y7 := tk.c7; have y8 := tk.c8; clear tk
    have HQ0 := Lib.hid (bel_drew1 W)
    go_upto_region 15 with (fail)
    have Z0 := Lib.hid z0
    have Z1 := Lib.hid z1
    have Y8 := Lib.hid y8
    have P0 := Lib.hid p0
    have P1 := Lib.hid p1
    have P2 := Lib.hid p2
    have P3 := Lib.hid p3
    have P4 := Lib.hid p4
    have P5 := Lib.hid p5
    have P6 := Lib.hid p6
    have P7 := Lib.hid p7
    have P8 := Lib.hid p8
    have Q0 := Lib.hid q0
    have Q1 := Lib.hid q1
    have Q2 := Lib.hid q2
    have Q3 := Lib.hid q3
    have Q4 := Lib.hid q4
    have Q5 := Lib.hid q5
    have Q6 := Lib.hid q6
    have Q7 := Lib.hid q7
    have Q8 := Lib.hid q8
    refine wp_region_held_drew (S := (fun w' => w'.cell? ⟨w.heap.size, 0, none⟩ = some (.int .i64 nn) ∧ w'.cell? ⟨w.heap.size, 1, none⟩ = some (.slice Aw rl.length cw) ∧ w'.cell? ⟨w.heap.size + 1, 8, none⟩ = some (.slice (some ⟨b, o, none⟩) ts.length c) ∧ w'.cell? ⟨b, o, none⟩ = some (.int .i64 k1) ∧ w'.cell? ⟨b, o + 1, none⟩ = some (.string n1) ∧ w'.cell? ⟨b, o + 2, none⟩ = some (.int .i64 vl1) ∧ w'.cell? ⟨b, o + 3, none⟩ = some (.string fl1) ∧ w'.cell? ⟨b, o + 4, none⟩ = some (.slice Al1 al1.length cl1) ∧ w'.cell? ⟨b, o + 5, none⟩ = some (.int .i64 vr1) ∧ w'.cell? ⟨b, o + 6, none⟩ = some (.string fr1) ∧ w'.cell? ⟨b, o + 7, none⟩ = some (.slice Ar1 ar1.length cr1) ∧ w'.cell? ⟨b, o + 8, none⟩ = some (.slice A1 ts1.length c1) ∧ w'.cell? ⟨b, o + 9, none⟩ = some (.int .i64 k2) ∧ w'.cell? ⟨b, o + 9 + 1, none⟩ = some (.string n2) ∧ w'.cell? ⟨b, o + 9 + 2, none⟩ = some (.int .i64 vl2) ∧ w'.cell? ⟨b, o + 9 + 3, none⟩ = some (.string fl2) ∧ w'.cell? ⟨b, o + 9 + 4, none⟩ = some (.slice Al2 al2.length cl2) ∧ w'.cell? ⟨b, o + 9 + 5, none⟩ = some (.int .i64 vr2) ∧ w'.cell? ⟨b, o + 9 + 6, none⟩ = some (.string fr2) ∧ w'.cell? ⟨b, o + 9 + 7, none⟩ = some (.slice Ar2 ar2.length cr2) ∧ w'.cell? ⟨b, o + 9 + 8, none⟩ = some (.slice A2 ts2.length c2))) (by kernel_rfl) ?_ (fun hHeld => ?_)
    · (try dsimp only); go_keep
    refine wpAnyH_take (i := 0) (v := ?_) (by (simp only [List.getElem?_toArray, List.getElem?_cons_succ, List.getElem?_cons_zero]; rfl)) (by kernel_rfl) (by kernel_rfl) (by kernel_rfl) (by exact fun _ _ _ h => h) (Or.inl ⟨by rfl, ?_⟩) (by assumption) ?_
    rotate_left
    · (intro w' hSw; (try dsimp only at hSw); go_simp); all_goals (with_reducible rfl)
    (try simp only [Act.put, List.setIfInBounds_toArray, List.set_cons_zero, List.set_cons_succ])
    refine wpAnyH_take (i := 1) (v := ?_) (by (simp only [List.getElem?_toArray, List.getElem?_cons_succ, List.getElem?_cons_zero]; rfl)) (by kernel_rfl) (by kernel_rfl) (by kernel_rfl) (by exact fun _ _ _ h => h) (Or.inl ⟨by rfl, ?_⟩) (by assumption) ?_
    rotate_left
    · (intro w' hSw; (try dsimp only at hSw); go_simp); all_goals (with_reducible rfl)
    (try simp only [Act.put, List.setIfInBounds_toArray, List.set_cons_zero, List.set_cons_succ])
    refine wpAnyH_take (i := 2) (v := ?_) (by (simp only [List.getElem?_toArray, List.getElem?_cons_succ, List.getElem?_cons_zero]; rfl)) (by kernel_rfl) (by kernel_rfl) (by kernel_rfl) (by exact fun _ _ _ h => h) (Or.inl ⟨by rfl, ?_⟩) (by assumption) ?_
    rotate_left
    · (intro w' hSw; (try dsimp only at hSw); go_simp); all_goals (with_reducible rfl)
    (try simp only [Act.put, List.setIfInBounds_toArray, List.set_cons_zero, List.set_cons_succ])
    refine wpAnyH_take (i := 3) (v := ?_) (by (simp only [List.getElem?_toArray, List.getElem?_cons_succ, List.getElem?_cons_zero]; rfl)) (by kernel_rfl) (by kernel_rfl) (by kernel_rfl) (by exact fun _ _ _ h => h) (Or.inl ⟨by rfl, ?_⟩) (by assumption) ?_
    rotate_left
    · (intro w' hSw; (try dsimp only at hSw); go_simp); all_goals (with_reducible rfl)
    (try simp only [Act.put, List.setIfInBounds_toArray, List.set_cons_zero, List.set_cons_succ])
    refine wpAnyH_take (i := 4) (v := ?_) (by (simp only [List.getElem?_toArray, List.getElem?_cons_succ, List.getElem?_cons_zero]; rfl)) (by kernel_rfl) (by kernel_rfl) (by kernel_rfl) (by exact fun _ _ _ h => h) (Or.inl ⟨by rfl, ?_⟩) (by assumption) ?_
    rotate_left
    · (intro w' hSw; (try dsimp only at hSw); go_simp); all_goals (with_reducible rfl)
    (try simp only [Act.put, List.setIfInBounds_toArray, List.set_cons_zero, List.set_cons_succ])
    refine wpAnyH_take (i := 5) (v := ?_) (by (simp only [List.getElem?_toArray, List.getElem?_cons_succ, List.getElem?_cons_zero]; rfl)) (by kernel_rfl) (by kernel_rfl) (by kernel_rfl) (by exact fun _ _ _ h => h) (Or.inl ⟨by rfl, ?_⟩) (by assumption) ?_
    rotate_left
    · (intro w' hSw; (try dsimp only at hSw); go_simp); all_goals (with_reducible rfl)
    (try simp only [Act.put, List.setIfInBounds_toArray, List.set_cons_zero, List.set_cons_succ])
    refine wpAnyH_ready (rs := [6]) (by kernel_rfl) (by simp) ?_
    refine AllReadyH.cons (by (simp only [List.getElem?_toArray, List.getElem?_cons_succ, List.getElem?_cons_zero]; rfl)) (fun K hK => ?_) AllReadyH.nil
    go_simp
    (go_at_call_of 15 (Value.agg #[.int .i64 k1, .string n1, .int .i64 vl1, .string fl1, .slice Al1 al1.length cl1, .int .i64 vr1, .string fr1, .slice Ar1 ar1.length cr1, .slice A1 ts1.length c1]); refine (HC1.out _ HQ0.out).mono ?_; rintro e w1x ⟨rfl, hb9⟩; have HQ1 := Lib.hid (bel_go HQ0.out hb9); clear hb9; have z0 := keepc HQ1.out Z0.out; have z1 := keepc HQ1.out Z1.out; have y8 := keepc HQ1.out Y8.out; have p0 := keepc HQ1.out P0.out; have p1 := keepc HQ1.out P1.out; have p2 := keepc HQ1.out P2.out; have p3 := keepc HQ1.out P3.out; have p4 := keepc HQ1.out P4.out; have p5 := keepc HQ1.out P5.out; have p6 := keepc HQ1.out P6.out; have p7 := keepc HQ1.out P7.out; have p8 := keepc HQ1.out P8.out; have q0 := keepc HQ1.out Q0.out; have q1 := keepc HQ1.out Q1.out; have q2 := keepc HQ1.out Q2.out; have q3 := keepc HQ1.out Q3.out; have q4 := keepc HQ1.out Q4.out; have q5 := keepc HQ1.out Q5.out; have q6 := keepc HQ1.out Q6.out; have q7 := keepc HQ1.out Q7.out; have q8 := keepc HQ1.out Q8.out)
    go_wp2_with fail
    refine hK.out _ _ ?_ (fun hHeld2 => ?_)
    · (try dsimp only); go_keep
    clear hK K hHeld
    (try simp only [Act.put, List.setIfInBounds_toArray, List.set_cons_zero, List.set_cons_succ])
    refine wpAnyH_take (i := 7) (v := ?_) (by (simp only [List.getElem?_toArray, List.getElem?_cons_succ, List.getElem?_cons_zero]; rfl)) (by kernel_rfl) (by kernel_rfl) (by kernel_rfl) (by exact fun _ _ _ h => h) (Or.inl ⟨by rfl, ?_⟩) (by assumption) ?_
    rotate_left
    · (intro w' hSw; (try dsimp only at hSw); go_simp); all_goals (with_reducible rfl)
    (try simp only [Act.put, List.setIfInBounds_toArray, List.set_cons_zero, List.set_cons_succ])
    refine wpAnyH_take (i := 8) (v := ?_) (by (simp only [List.getElem?_toArray, List.getElem?_cons_succ, List.getElem?_cons_zero]; rfl)) (by kernel_rfl) (by kernel_rfl) (by kernel_rfl) (by exact fun _ _ _ h => h) (Or.inl ⟨by rfl, ?_⟩) (by assumption) ?_
    rotate_left
    · (intro w' hSw; (try dsimp only at hSw); go_simp); all_goals (with_reducible rfl)
    (try simp only [Act.put, List.setIfInBounds_toArray, List.set_cons_zero, List.set_cons_succ])
    refine wpAnyH_take (i := 9) (v := undef) (by (simp only [List.getElem?_toArray, List.getElem?_cons_succ, List.getElem?_cons_zero]; rfl)) (by kernel_rfl) (by kernel_rfl) (by kernel_rfl) (by exact fun _ _ _ h => h) (Or.inr ⟨by rfl, rfl⟩) (by assumption) ?_
    (try simp only [Act.put, List.setIfInBounds_toArray, List.set_cons_zero, List.set_cons_succ])
    refine wpAnyH_take (i := 10) (v := undef) (by (simp only [List.getElem?_toArray, List.getElem?_cons_succ, List.getElem?_cons_zero]; rfl)) (by kernel_rfl) (by kernel_rfl) (by kernel_rfl) (by exact fun _ _ _ h => h) (Or.inr ⟨by rfl, rfl⟩) (by assumption) ?_
    (try simp only [Act.put, List.setIfInBounds_toArray, List.set_cons_zero, List.set_cons_succ])
    refine wpAnyH_take (i := 11) (v := undef) (by (simp only [List.getElem?_toArray, List.getElem?_cons_succ, List.getElem?_cons_zero]; rfl)) (by kernel_rfl) (by kernel_rfl) (by kernel_rfl) (by exact fun _ _ _ h => h) (Or.inr ⟨by rfl, rfl⟩) (by assumption) ?_
    (try simp only [Act.put, List.setIfInBounds_toArray, List.set_cons_zero, List.set_cons_succ])
    refine wpAnyH_take (i := 12) (v := undef) (by (simp only [List.getElem?_toArray, List.getElem?_cons_succ, List.getElem?_cons_zero]; rfl)) (by kernel_rfl) (by kernel_rfl) (by kernel_rfl) (by exact fun _ _ _ h => h) (Or.inr ⟨by rfl, rfl⟩) (by assumption) ?_
    (try simp only [Act.put, List.setIfInBounds_toArray, List.set_cons_zero, List.set_cons_succ])
    refine wpAnyH_take (i := 13) (v := undef) (by (simp only [List.getElem?_toArray, List.getElem?_cons_succ, List.getElem?_cons_zero]; rfl)) (by kernel_rfl) (by kernel_rfl) (by kernel_rfl) (by exact fun _ _ _ h => h) (Or.inr ⟨by rfl, rfl⟩) (by assumption) ?_
    (try simp only [Act.put, List.setIfInBounds_toArray, List.set_cons_zero, List.set_cons_succ])
    refine wpAnyH_take (i := 14) (v := undef) (by (simp only [List.getElem?_toArray, List.getElem?_cons_succ, List.getElem?_cons_zero]; rfl)) (by kernel_rfl) (by kernel_rfl) (by kernel_rfl) (by exact fun _ _ _ h => h) (Or.inr ⟨by rfl, rfl⟩) (by assumption) ?_
    (try simp only [Act.put, List.setIfInBounds_toArray, List.set_cons_zero, List.set_cons_succ])
    refine wpAnyH_take (i := 15) (v := undef) (by (simp only [List.getElem?_toArray, List.getElem?_cons_succ, List.getElem?_cons_zero]; rfl)) (by kernel_rfl) (by kernel_rfl) (by kernel_rfl) (by exact fun _ _ _ h => h) (Or.inr ⟨by rfl, rfl⟩) (by assumption) ?_
    (try simp only [Act.put, List.setIfInBounds_toArray, List.set_cons_zero, List.set_cons_succ])
    refine wpAnyH_take (i := 16) (v := ?_) (by (simp only [List.getElem?_toArray, List.getElem?_cons_succ, List.getElem?_cons_zero]; rfl)) (by kernel_rfl) (by kernel_rfl) (by kernel_rfl) (by exact fun _ _ _ h => h) (Or.inl ⟨by rfl, ?_⟩) (by assumption) ?_
    rotate_left
    · (intro w' hSw; (try dsimp only at hSw); go_simp); all_goals (with_reducible rfl)
    (try simp only [Act.put, List.setIfInBounds_toArray, List.set_cons_zero, List.set_cons_succ])
    refine wpAnyH_take (i := 17) (v := ?_) (by (simp only [List.getElem?_toArray, List.getElem?_cons_succ, List.getElem?_cons_zero]; rfl)) (by kernel_rfl) (by kernel_rfl) (by kernel_rfl) (by exact fun _ _ _ h => h) (Or.inl ⟨by rfl, ?_⟩) (by assumption) ?_
    rotate_left
    · (intro w' hSw; (try dsimp only at hSw); go_simp); all_goals (with_reducible rfl)
    (try simp only [Act.put, List.setIfInBounds_toArray, List.set_cons_zero, List.set_cons_succ])
    refine wpAnyH_done (by kernel_rfl) ?_ _
    clear hHeld2
    all_goals
      have HBB := Lib.hid (bel_go HB0.out HQ1.out)
      go_wp2_with fail
      go_ret
      exact ⟨ret_bool (by first | (rw [HV.out]; done) | (rw [HV.out]; rfl) | (rw [HV.out]; simp; done)), HBB.out⟩
  case true =>
    go_enter Tryz.func15, Tryz.ntmps15
    go_upto_region 1 with (fail)
    rw [HWW.out]
    have z0 := B0.out.cell 0
    have z1 := B0.out.cell 1
    simp only [List.getElem?_cons_zero, List.getElem?_cons_succ] at z0 z1
    have tk := B1.out.nine; have y0 := tk.c0; have y1 := tk.c1; have y2 := tk.c2; have y3 := tk.c3; have y4 := tk.c4; have y5 := tk.c5; have y6 := tk.c6; have y7 := tk.c7; have y8 := tk.c8; clear tk
    have HQ0 := Lib.hid (bel_drew1 W)
    go_upto_region 15 with (fail)
    have Z0 := Lib.hid z0
    have Z1 := Lib.hid z1
    have Y8 := Lib.hid y8
    have P0 := Lib.hid p0
    have P1 := Lib.hid p1
    have P2 := Lib.hid p2
    have P3 := Lib.hid p3
    have P4 := Lib.hid p4
    have P5 := Lib.hid p5
    have P6 := Lib.hid p6
    have P7 := Lib.hid p7
    have P8 := Lib.hid p8
    have Q0 := Lib.hid q0
    have Q1 := Lib.hid q1
    have Q2 := Lib.hid q2
    have Q3 := Lib.hid q3
    have Q4 := Lib.hid q4
    have Q5 := Lib.hid q5
    have Q6 := Lib.hid q6
    have Q7 := Lib.hid q7
    have Q8 := Lib.hid q8
    (first | (go_region_held3 (fun w' => w'.cell? ⟨w.heap.size, 0, none⟩ = some (.int .i64 nn) ∧ w'.cell? ⟨w.heap.size, 1, none⟩ = some (.slice Aw rl.length cw) ∧ w'.cell? ⟨w.heap.size + 1, 8, none⟩ = some (.slice (some ⟨b, o, none⟩) ts.length c) ∧ w'.cell? ⟨b, o, none⟩ = some (.int .i64 k1) ∧ w'.cell? ⟨b, o + 1, none⟩ = some (.string n1) ∧ w'.cell? ⟨b, o + 2, none⟩ = some (.int .i64 vl1) ∧ w'.cell? ⟨b, o + 3, none⟩ = some (.string fl1) ∧ w'.cell? ⟨b, o + 4, none⟩ = some (.slice Al1 al1.length cl1) ∧ w'.cell? ⟨b, o + 5, none⟩ = some (.int .i64 vr1) ∧ w'.cell? ⟨b, o + 6, none⟩ = some (.string fr1) ∧ w'.cell? ⟨b, o + 7, none⟩ = some (.slice Ar1 ar1.length cr1) ∧ w'.cell? ⟨b, o + 8, none⟩ = some (.slice A1 ts1.length c1) ∧ w'.cell? ⟨b, o + 9, none⟩ = some (.int .i64 k2) ∧ w'.cell? ⟨b, o + 9 + 1, none⟩ = some (.string n2) ∧ w'.cell? ⟨b, o + 9 + 2, none⟩ = some (.int .i64 vl2) ∧ w'.cell? ⟨b, o + 9 + 3, none⟩ = some (.string fl2) ∧ w'.cell? ⟨b, o + 9 + 4, none⟩ = some (.slice Al2 al2.length cl2) ∧ w'.cell? ⟨b, o + 9 + 5, none⟩ = some (.int .i64 vr2) ∧ w'.cell? ⟨b, o + 9 + 6, none⟩ = some (.string fr2) ∧ w'.cell? ⟨b, o + 9 + 7, none⟩ = some (.slice Ar2 ar2.length cr2) ∧ w'.cell? ⟨b, o + 9 + 8, none⟩ = some (.slice A2 ts2.length c2)) (go_keep) (first | (go_at_call_of 15 (Value.agg #[.int .i64 k1, .string n1, .int .i64 vl1, .string fl1, .slice Al1 al1.length cl1, .int .i64 vr1, .string fr1, .slice Ar1 ar1.length cr1, .slice A1 ts1.length c1]); refine (HC1.out _ HQ0.out).mono ?_; rintro e w1x ⟨rfl, hb9⟩; have HQ1 := Lib.hid (bel_go HQ0.out hb9); clear hb9; have z0 := keepc HQ1.out Z0.out; have z1 := keepc HQ1.out Z1.out; have y8 := keepc HQ1.out Y8.out; have p0 := keepc HQ1.out P0.out; have p1 := keepc HQ1.out P1.out; have p2 := keepc HQ1.out P2.out; have p3 := keepc HQ1.out P3.out; have p4 := keepc HQ1.out P4.out; have p5 := keepc HQ1.out P5.out; have p6 := keepc HQ1.out P6.out; have p7 := keepc HQ1.out P7.out; have p8 := keepc HQ1.out P8.out; have q0 := keepc HQ1.out Q0.out; have q1 := keepc HQ1.out Q1.out; have q2 := keepc HQ1.out Q2.out; have q3 := keepc HQ1.out Q3.out; have q4 := keepc HQ1.out Q4.out; have q5 := keepc HQ1.out Q5.out; have q6 := keepc HQ1.out Q6.out; have q7 := keepc HQ1.out Q7.out; have q8 := keepc HQ1.out Q8.out) | (go_at_call_of 15 (Value.agg #[.int .i64 k2, .string n2, .int .i64 vl2, .string fl2, .slice Al2 al2.length cl2, .int .i64 vr2, .string fr2, .slice Ar2 ar2.length cr2, .slice A2 ts2.length c2]); refine (HC2.out _ HQ1.out).mono ?_; rintro e w2x ⟨rfl, hb9⟩; have HQ2 := Lib.hid (bel_go HQ1.out hb9); clear hb9; have z0 := keepc HQ2.out Z0.out; have z1 := keepc HQ2.out Z1.out; have y8 := keepc HQ2.out Y8.out; have p0 := keepc HQ2.out P0.out; have p1 := keepc HQ2.out P1.out; have p2 := keepc HQ2.out P2.out; have p3 := keepc HQ2.out P3.out; have p4 := keepc HQ2.out P4.out; have p5 := keepc HQ2.out P5.out; have p6 := keepc HQ2.out P6.out; have p7 := keepc HQ2.out P7.out; have p8 := keepc HQ2.out P8.out; have q0 := keepc HQ2.out Q0.out; have q1 := keepc HQ2.out Q1.out; have q2 := keepc HQ2.out Q2.out; have q3 := keepc HQ2.out Q3.out; have q4 := keepc HQ2.out Q4.out; have q5 := keepc HQ2.out Q5.out; have q6 := keepc HQ2.out Q6.out; have q7 := keepc HQ2.out Q7.out; have q8 := keepc HQ2.out Q8.out))) | fail "held")
    all_goals
      have HBB := Lib.hid (bel_go HB0.out HQ2.out)
      go_wp2_with fail
      go_ret
      exact ⟨ret_bool (by first | (rw [HV.out]; done) | (rw [HV.out]; rfl) | (rw [HV.out]; simp; done)), HBB.out⟩
set_option maxRecDepth 100000 in
set_option maxHeartbeats 12800000 in
theorem holds6 (N : Nat) (ih : HoldsAt 15 N) (k : Int) (n : ByteArray) (vl : Int) (fl : ByteArray) (al : List Tm) (vr : Int) (fr : ByteArray) (ar : List Tm) (ts : List Fm) (Al : Option Addr) (cl : Nat) (Ar : Option Addr) (cr : Nat) (A : Option Addr) (c : Nat) (S : Nat → Prop) (w : World) (B : Option Addr) (cB : Nat) (l : List (ByteArray × Int)) (nn : Nat) (Aw : Option Addr) (cw : Nat) (rl : List Int) (hk : k = 6) (a1 a2 : Fm) (hts : ts = [a1, a2]) (hsh1 : a1.shape = true) (hsh2 : a2.shape = true) (hN : (Fm.mk k n (.mk vl fl al) (.mk vr fr ar) ts).wt ≤ N + 1) (hB : (Fm.mk k n (.mk vl fl al) (.mk vr fr ar) ts).wt + l.length ≤ 1099511627776) (hn : 1 ≤ nn ∧ nn ≤ 3) (hr : 0 < rl.length ∧ rl.length ≤ 64) (hNt : Nts w Aw rl) (hT : Ths w B l) (hBB : (B = none ∧ l = [] ∧ cB = 0) ∨ ∃ a, B = some a) (hl : ST S w Al al.length cl al) (hrr : ST S w Ar ar.length cr ar) (hs : SF S w A ts.length c ts) : Calls Tryz.prog 15 #[.agg #[.int .i64 nn, .slice Aw rl.length cw], .agg #[.int .i64 k, .string n, .int .i64 vl, .string fl, .slice Al al.length cl, .int .i64 vr, .string fr, .slice Ar ar.length cr, .slice A ts.length c], .slice B l.length cB] w fun e w' => e = .returned (.bool ((Fm.mk k n (.mk vl fl al) (.mk vr fr ar) ts).tru (pkW nn rl) nn (envL l))) ∧ Below w.heap.size w w' := by
  subst hk
  have hv : (Fm.mk 6 n (.mk vl fl al) (.mk vr fr ar) ts).tru (pkW nn rl) nn (envL l) = ((a1.tru (pkW nn rl) nn (envL l)) == (a2.tru (pkW nn rl) nn (envL l))) := by rw [hts, Fm.tru]; simp [Fm.trus, fst1, snd1]
  have hw1 : a1.wt ≤ N ∧ a1.wt + l.length ≤ 1099511627776 := by rw [Fm.wt, hts, Fm.wts, Fm.wts, Fm.wts] at hB hN; have := a2.wt_pos; omega
  have hw2 : a2.wt ≤ N ∧ a2.wt + l.length ≤ 1099511627776 := by rw [Fm.wt, hts, Fm.wts, Fm.wts, Fm.wts] at hB hN; have := a1.wt_pos; omega
  generalize (Fm.mk 6 n (.mk vl fl al) (.mk vr fr ar) ts).tru (pkW nn rl) nn (envL l) = res at *
  have HV := Lib.hid hv
  generalize hWW : (w.alloc (.cells #[.int .i64 nn, .slice Aw rl.length cw] 36)).alloc (.cells #[.int .i64 6, .string n, .int .i64 vl, .string fl, .slice Al al.length cl, .int .i64 vr, .string fr, .slice Ar ar.length cr, .slice A ts.length c] 27) = W
  have HB0 : Hid (Below w.heap.size w W) := Lib.hid (by rw [← hWW]; exact bel_two)
  have B0 : Hid (Blk W w.heap.size 36 [.int .i64 nn, .slice Aw rl.length cw]) := Lib.hid (by rw [← hWW]; exact (Blk.new w 36 [.int .i64 nn, .slice Aw rl.length cw]).alloc _)
  have B1 : Hid (Blk W (w.heap.size + 1) 27 [.int .i64 6, .string n, .int .i64 vl, .string fl, .slice Al al.length cl, .int .i64 vr, .string fr, .slice Ar ar.length cr, .slice A ts.length c]) := Lib.hid (by rw [← hWW]; exact Blk.new' _ (w.heap.size + 1) 27 [.int .i64 6, .string n, .int .i64 vl, .string fl, .slice Al al.length cl, .int .i64 vr, .string fr, .slice Ar ar.length cr, .slice A ts.length c] (by simp))
  have HWW := Lib.hid hWW
  clear hWW
  have hl := hl.stay (Stay.below HB0.out)
  have hrr := hrr.stay (Stay.below HB0.out)
  have hs := hs.stay (Stay.below HB0.out)
  have hNt := hNt.below HB0.out
  have hT := hT.below HB0.out
  clear hv hN hB
  obtain ⟨b, o, hA1, k1, n1, vl1, fl1, al1, vr1, fr1, ar1, ts1, Al1, cl1, Ar1, cr1, A1, c1, hm1, hl1, hr1, hs1, p0, p1, p2, p3, p4, p5, p6, p7, p8⟩ := hs.at 0 (by rw [hts]; simp)
  simp only [hts, List.getElem_cons_zero, List.getElem_cons_succ] at hm1
  subst hA1
  simp only [Nat.zero_mul, Nat.one_mul, Nat.add_zero] at p0 p1 p2 p3 p4 p5 p6 p7 p8
  have hw1 : (Fm.mk k1 n1 (.mk vl1 fl1 al1) (.mk vr1 fr1 ar1) ts1).wt ≤ N ∧ (Fm.mk k1 n1 (.mk vl1 fl1 al1) (.mk vr1 fr1 ar1) ts1).wt + l.length ≤ 1099511627776 := by rw [← hm1]; exact hw1
  have hsh1 : (Fm.mk k1 n1 (.mk vl1 fl1 al1) (.mk vr1 fr1 ar1) ts1).shape = true := by rw [← hm1]; exact hsh1
  have HC1 : Hid (∀ w', Below W.heap.size W w' → Calls Tryz.prog 15 #[.agg #[.int .i64 nn, .slice Aw rl.length cw], .agg #[.int .i64 k1, .string n1, .int .i64 vl1, .string fl1, .slice Al1 al1.length cl1, .int .i64 vr1, .string fr1, .slice Ar1 ar1.length cr1, .slice A1 ts1.length c1], .slice B l.length cB] w' fun e w2 => e = .returned (.bool (a1.tru (pkW nn rl) nn (envL l))) ∧ Below w'.heap.size w' w2) := Lib.hid (fun w' hb => by rw [hm1]; exact ih k1 n1 vl1 fl1 al1 vr1 fr1 ar1 ts1 Al1 cl1 Ar1 cr1 A1 c1 S w' B cB l nn Aw cw rl hw1.1 hw1.2 hsh1 hn hr (hNt.below hb) (hT.below hb) hBB (hl1.stay (Stay.below hb)) (hr1.stay (Stay.below hb)) (hs1.stay (Stay.below hb)))
  generalize a1.tru (pkW nn rl) nn (envL l) = b1 at *
  clear hm1 hl1 hr1 hs1 hw1 hsh1
  obtain ⟨b', o', hA2, k2, n2, vl2, fl2, al2, vr2, fr2, ar2, ts2, Al2, cl2, Ar2, cr2, A2, c2, hm2, hl2, hr2, hs2, q0, q1, q2, q3, q4, q5, q6, q7, q8⟩ := hs.at 1 (by rw [hts]; simp)
  simp only [hts, List.getElem_cons_zero, List.getElem_cons_succ] at hm2
  injection hA2 with hA2
  injection hA2 with hb2 ho2
  subst hb2 ho2
  simp only [Nat.zero_mul, Nat.one_mul, Nat.add_zero] at q0 q1 q2 q3 q4 q5 q6 q7 q8
  have hw2 : (Fm.mk k2 n2 (.mk vl2 fl2 al2) (.mk vr2 fr2 ar2) ts2).wt ≤ N ∧ (Fm.mk k2 n2 (.mk vl2 fl2 al2) (.mk vr2 fr2 ar2) ts2).wt + l.length ≤ 1099511627776 := by rw [← hm2]; exact hw2
  have hsh2 : (Fm.mk k2 n2 (.mk vl2 fl2 al2) (.mk vr2 fr2 ar2) ts2).shape = true := by rw [← hm2]; exact hsh2
  have HC2 : Hid (∀ w', Below W.heap.size W w' → Calls Tryz.prog 15 #[.agg #[.int .i64 nn, .slice Aw rl.length cw], .agg #[.int .i64 k2, .string n2, .int .i64 vl2, .string fl2, .slice Al2 al2.length cl2, .int .i64 vr2, .string fr2, .slice Ar2 ar2.length cr2, .slice A2 ts2.length c2], .slice B l.length cB] w' fun e w2 => e = .returned (.bool (a2.tru (pkW nn rl) nn (envL l))) ∧ Below w'.heap.size w' w2) := Lib.hid (fun w' hb => by rw [hm2]; exact ih k2 n2 vl2 fl2 al2 vr2 fr2 ar2 ts2 Al2 cl2 Ar2 cr2 A2 c2 S w' B cB l nn Aw cw rl hw2.1 hw2.2 hsh2 hn hr (hNt.below hb) (hT.below hb) hBB (hl2.stay (Stay.below hb)) (hr2.stay (Stay.below hb)) (hs2.stay (Stay.below hb)))
  generalize a2.tru (pkW nn rl) nn (envL l) = b2 at *
  clear hm2 hl2 hr2 hs2 hw2 hsh2
  have hi0 : (0 : Int) < (ts.length : Int) := by rw [hts]; simp
  have hj0 : 0 < ts.length := by rw [hts]; simp
  have hi1 : (1 : Int) < (ts.length : Int) := by rw [hts]; simp
  have hj1 : 1 < ts.length := by rw [hts]; simp
  clear hts hs hl hrr hNt hT hBB ih hn hr
  go_enter Tryz.func15, Tryz.ntmps15
  go_upto_region 1 with (fail)
  rw [HWW.out]
  have z0 := B0.out.cell 0
  have z1 := B0.out.cell 1
  simp only [List.getElem?_cons_zero, List.getElem?_cons_succ] at z0 z1
  have tk := B1.out.nine; have y0 := tk.c0; have y1 := tk.c1; have y2 := tk.c2; have y3 := tk.c3; have y4 := tk.c4; have y5 := tk.c5; have y6 := tk.c6; have y7 := tk.c7; have y8 := tk.c8; clear tk
  have HQ0 := Lib.hid (bel_drew1 W)
  go_upto_region 17 with (fail)
  have Z0 := Lib.hid z0
  have Z1 := Lib.hid z1
  have Y8 := Lib.hid y8
  have P0 := Lib.hid p0
  have P1 := Lib.hid p1
  have P2 := Lib.hid p2
  have P3 := Lib.hid p3
  have P4 := Lib.hid p4
  have P5 := Lib.hid p5
  have P6 := Lib.hid p6
  have P7 := Lib.hid p7
  have P8 := Lib.hid p8
  have Q0 := Lib.hid q0
  have Q1 := Lib.hid q1
  have Q2 := Lib.hid q2
  have Q3 := Lib.hid q3
  have Q4 := Lib.hid q4
  have Q5 := Lib.hid q5
  have Q6 := Lib.hid q6
  have Q7 := Lib.hid q7
  have Q8 := Lib.hid q8
  (first | (go_region_held3 (fun w' => w'.cell? ⟨w.heap.size, 0, none⟩ = some (.int .i64 nn) ∧ w'.cell? ⟨w.heap.size, 1, none⟩ = some (.slice Aw rl.length cw) ∧ w'.cell? ⟨w.heap.size + 1, 8, none⟩ = some (.slice (some ⟨b, o, none⟩) ts.length c) ∧ w'.cell? ⟨b, o, none⟩ = some (.int .i64 k1) ∧ w'.cell? ⟨b, o + 1, none⟩ = some (.string n1) ∧ w'.cell? ⟨b, o + 2, none⟩ = some (.int .i64 vl1) ∧ w'.cell? ⟨b, o + 3, none⟩ = some (.string fl1) ∧ w'.cell? ⟨b, o + 4, none⟩ = some (.slice Al1 al1.length cl1) ∧ w'.cell? ⟨b, o + 5, none⟩ = some (.int .i64 vr1) ∧ w'.cell? ⟨b, o + 6, none⟩ = some (.string fr1) ∧ w'.cell? ⟨b, o + 7, none⟩ = some (.slice Ar1 ar1.length cr1) ∧ w'.cell? ⟨b, o + 8, none⟩ = some (.slice A1 ts1.length c1) ∧ w'.cell? ⟨b, o + 9, none⟩ = some (.int .i64 k2) ∧ w'.cell? ⟨b, o + 9 + 1, none⟩ = some (.string n2) ∧ w'.cell? ⟨b, o + 9 + 2, none⟩ = some (.int .i64 vl2) ∧ w'.cell? ⟨b, o + 9 + 3, none⟩ = some (.string fl2) ∧ w'.cell? ⟨b, o + 9 + 4, none⟩ = some (.slice Al2 al2.length cl2) ∧ w'.cell? ⟨b, o + 9 + 5, none⟩ = some (.int .i64 vr2) ∧ w'.cell? ⟨b, o + 9 + 6, none⟩ = some (.string fr2) ∧ w'.cell? ⟨b, o + 9 + 7, none⟩ = some (.slice Ar2 ar2.length cr2) ∧ w'.cell? ⟨b, o + 9 + 8, none⟩ = some (.slice A2 ts2.length c2)) (go_keep) (first | (go_at_call_of 15 (Value.agg #[.int .i64 k1, .string n1, .int .i64 vl1, .string fl1, .slice Al1 al1.length cl1, .int .i64 vr1, .string fr1, .slice Ar1 ar1.length cr1, .slice A1 ts1.length c1]); refine (HC1.out _ HQ0.out).mono ?_; rintro e w1x ⟨rfl, hb9⟩; have HQ1 := Lib.hid (bel_go HQ0.out hb9); clear hb9; have z0 := keepc HQ1.out Z0.out; have z1 := keepc HQ1.out Z1.out; have y8 := keepc HQ1.out Y8.out; have p0 := keepc HQ1.out P0.out; have p1 := keepc HQ1.out P1.out; have p2 := keepc HQ1.out P2.out; have p3 := keepc HQ1.out P3.out; have p4 := keepc HQ1.out P4.out; have p5 := keepc HQ1.out P5.out; have p6 := keepc HQ1.out P6.out; have p7 := keepc HQ1.out P7.out; have p8 := keepc HQ1.out P8.out; have q0 := keepc HQ1.out Q0.out; have q1 := keepc HQ1.out Q1.out; have q2 := keepc HQ1.out Q2.out; have q3 := keepc HQ1.out Q3.out; have q4 := keepc HQ1.out Q4.out; have q5 := keepc HQ1.out Q5.out; have q6 := keepc HQ1.out Q6.out; have q7 := keepc HQ1.out Q7.out; have q8 := keepc HQ1.out Q8.out) | (go_at_call_of 15 (Value.agg #[.int .i64 k2, .string n2, .int .i64 vl2, .string fl2, .slice Al2 al2.length cl2, .int .i64 vr2, .string fr2, .slice Ar2 ar2.length cr2, .slice A2 ts2.length c2]); refine (HC2.out _ HQ1.out).mono ?_; rintro e w2x ⟨rfl, hb9⟩; have HQ2 := Lib.hid (bel_go HQ1.out hb9); clear hb9; have z0 := keepc HQ2.out Z0.out; have z1 := keepc HQ2.out Z1.out; have y8 := keepc HQ2.out Y8.out; have p0 := keepc HQ2.out P0.out; have p1 := keepc HQ2.out P1.out; have p2 := keepc HQ2.out P2.out; have p3 := keepc HQ2.out P3.out; have p4 := keepc HQ2.out P4.out; have p5 := keepc HQ2.out P5.out; have p6 := keepc HQ2.out P6.out; have p7 := keepc HQ2.out P7.out; have p8 := keepc HQ2.out P8.out; have q0 := keepc HQ2.out Q0.out; have q1 := keepc HQ2.out Q1.out; have q2 := keepc HQ2.out Q2.out; have q3 := keepc HQ2.out Q3.out; have q4 := keepc HQ2.out Q4.out; have q5 := keepc HQ2.out Q5.out; have q6 := keepc HQ2.out Q6.out; have q7 := keepc HQ2.out Q7.out; have q8 := keepc HQ2.out Q8.out))) | fail "held")
  all_goals
    have HBB := Lib.hid (bel_go HB0.out HQ2.out)
    go_wp2_with fail
    go_ret
    exact ⟨ret_bool (by first | (rw [HV.out]; done) | (rw [HV.out]; rfl) | (rw [HV.out]; simp; done)), HBB.out⟩
end Go.Proofs.YtndjjnnljihmnaaGreat
