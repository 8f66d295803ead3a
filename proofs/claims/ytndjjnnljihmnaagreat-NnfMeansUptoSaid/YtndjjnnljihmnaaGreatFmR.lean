/- push: a quantifier over a formula. -/
import Derived.Test.YtndjjnnljihmnaaGreatFmQ
namespace Go.Proofs.YtndjjnnljihmnaaGreat
open Go.RowKit
set_option linter.unusedVariables false
set_option linter.unusedSimpArgs false
def hasAt (ks : List Fm) (i : Nat) (x : ByteArray) : Bool := match ks[i]? with | some f => f.has x | none => false
def splitB (kind k : Int) (ks : List Fm) (x : ByteArray) : Bool := (k == 3 || k == 4) && (((kind == 7) == (k == 3)) || (!(hasAt ks 0 x) || !(hasAt ks 1 x)))
mutual
/-- A quantifier pushed into a formula. -/
def Fm.push (kind : Int) (x : ByteArray) : Fm → Fm
  | .mk k n l r ks => if (Fm.mk k n l r ks).has x then (if splitB kind k ks x then .mk k ⟨#[]⟩ (.mk 0 ⟨#[]⟩ []) (.mk 0 ⟨#[]⟩ []) (Fm.pushL kind x ks) else Fm.one kind x (.mk k n l r ks)) else .mk k n l r ks
def Fm.pushL (kind : Int) (x : ByteArray) : List Fm → List Fm
  | [] => []
  | f :: r => Fm.push kind x f :: Fm.pushL kind x r
end
theorem push_not (kind : Int) (x : ByteArray) (f : Fm) (h : f.has x = false) : f.push kind x = f := by
  obtain ⟨k, n, l, r, ks⟩ := f
  rw [Fm.push, if_neg (by rw [h]; simp)]
/-- Is a name free? The closure. -/
theorem stands_any (x : ByteArray) (gn : Nat) (k : Int) (n : ByteArray) (vl : Int) (fl : ByteArray) (al : List Tm) (vr : Int) (fr : ByteArray) (ar : List Tm) (ts : List Fm) (Al : Option Addr) (cl : Nat) (Ar : Option Addr) (cr : Nat) (A : Option Addr) (c : Nat) (S : Nat → Prop) (w : World) (hN : (Fm.mk k n (.mk vl fl al) (.mk vr fr ar) ts).wt ≤ 4398046511104) (hx : Blk w gn 9 [.string x]) (hl : ST S w Al al.length cl al) (hr : ST S w Ar ar.length cr ar) (hs : SF S w A ts.length c ts) : Calls Tryz.prog 68 #[.agg #[.int .i64 k, .string n, .int .i64 vl, .string fl, .slice Al al.length cl, .int .i64 vr, .string fr, .slice Ar ar.length cr, .slice A ts.length c], .pointer (some ⟨gn, 0, none⟩)] w fun e w' => e = .returned (.bool ((Fm.mk k n (.mk vl fl al) (.mk vr fr ar) ts).has x)) ∧ Below w.heap.size w w' := by
  have HF := Lib.hid (fun w' (hb : Below w.heap.size w w') => free_any k n vl fl al vr fr ar ts Al cl Ar cr A c S w' hN (hl.stay (Stay.below hb)) (hr.stay (Stay.below hb)) (hs.stay (Stay.below hb)))
  have hb0 : Below w.heap.size w (w.alloc (.cells #[.int .i64 k, .string n, .int .i64 vl, .string fl, .slice Al al.length cl, .int .i64 vr, .string fr, .slice Ar ar.length cr, .slice A ts.length c] 27)) := Below.alloc (Below.refl _ _) (Nat.le_refl _) _
  have HB0 := Lib.hid hb0
  have BKf := Lib.hid (Blk.new w 27 [.int .i64 k, .string n, .int .i64 vl, .string fl, .slice Al al.length cl, .int .i64 vr, .string fr, .slice Ar ar.length cr, .slice A ts.length c])
  have BX := Lib.hid (hx.go hb0)
  simp only [List.toArray] at BKf

  clear hl hr hs hN hx hb0
  go_enter Tryz.func68, Tryz.ntmps68
  go_upto_region 1 with (fail)
  generalize w.alloc (.cells #[.int .i64 k, .string n, .int .i64 vl, .string fl, .slice Al al.length cl, .int .i64 vr, .string fr, .slice Ar ar.length cr, .slice A ts.length c] 27) = W at *
  have tk := BKf.out.nine; have z0 := tk.c0; have z1 := tk.c1; have z2 := tk.c2; have z3 := tk.c3; have z4 := tk.c4; have z5 := tk.c5; have z6 := tk.c6; have z7 := tk.c7; have z8 := tk.c8; clear tk
  have x0 := BX.out.cell 0
  simp only [List.getElem?_cons_zero] at x0
  have HQ0 := Lib.hid (bel_drew1 W)
  (first | (go_region_held3 (fun w' => w'.cell? ⟨w.heap.size, 0, none⟩ = some (.int .i64 k) ∧ w'.cell? ⟨w.heap.size, 1, none⟩ = some (.string n) ∧ w'.cell? ⟨w.heap.size, 2, none⟩ = some (.int .i64 vl) ∧ w'.cell? ⟨w.heap.size, 3, none⟩ = some (.string fl) ∧ w'.cell? ⟨w.heap.size, 4, none⟩ = some (.slice Al al.length cl) ∧ w'.cell? ⟨w.heap.size, 5, none⟩ = some (.int .i64 vr) ∧ w'.cell? ⟨w.heap.size, 6, none⟩ = some (.string fr) ∧ w'.cell? ⟨w.heap.size, 7, none⟩ = some (.slice Ar ar.length cr) ∧ w'.cell? ⟨w.heap.size, 8, none⟩ = some (.slice A ts.length c) ∧ w'.cell? ⟨gn, 0, none⟩ = some (.string x)) (go_keep) (first | (go_at_call 69; refine (has_any A9 c9 l9 x _ HN9.out HL9.out).mono ?_; rintro e w10 ⟨rfl, rfl⟩; rw [HC9.out]) | (go_at_call 70; refine (HF.out _ (bel_go HB0.out (by first | exact HQ1.out | exact HQ0.out))).mono ?_; rintro e w9 ⟨A9, c9, l9, rfl, hnm9, hlen9, hc9, hb9⟩; have HQ1 := Lib.hid (bel_go (by first | exact HQ1.out | exact HQ0.out) hb9); have HN9 := Lib.hid hnm9; have HC9 := Lib.hid hc9; have HL9 := Lib.hid hlen9; clear hb9 hnm9 hlen9 hc9; have x0 := (BX.out.below HQ1.out BX.out.lt).cell 0; simp only [List.getElem?_cons_zero] at x0; have tk := (BKf.out.below HQ1.out BKf.out.lt).nine; have z0 := tk.c0; have z1 := tk.c1; have z2 := tk.c2; have z3 := tk.c3; have z4 := tk.c4; have z5 := tk.c5; have z6 := tk.c6; have z7 := tk.c7; have z8 := tk.c8; clear tk))) | fail "held")
  all_goals
    go_wp2_with fail
    go_ret
    exact ⟨rfl, bel_go HB0.out HQ1.out⟩
def PushAt (fn : Nat) (N : Nat) : Prop := ∀ (kind : Int) (x : ByteArray) (k : Int) (n : ByteArray) (vl : Int) (fl : ByteArray) (al : List Tm) (vr : Int) (fr : ByteArray) (ar : List Tm) (ts : List Fm) (Al : Option Addr) (cl : Nat) (Ar : Option Addr) (cr : Nat) (A : Option Addr) (c : Nat) (S : Nat → Prop) (w : World), (Fm.mk k n (.mk vl fl al) (.mk vr fr ar) ts).wt ≤ N → N ≤ 4398046511104 → (Fm.mk k n (.mk vl fl al) (.mk vr fr ar) ts).shape = true → ST S w Al al.length cl al → ST S w Ar ar.length cr ar → SF S w A ts.length c ts →
    Calls Tryz.prog fn #[.int .i64 kind, .string x, .agg #[.int .i64 k, .string n, .int .i64 vl, .string fl, .slice Al al.length cl, .int .i64 vr, .string fr, .slice Ar ar.length cr, .slice A ts.length c]] w fun e w' => FRes (Up S w) w' (Fm.push kind x (Fm.mk k n (.mk vl fl al) (.mk vr fr ar) ts)) e ∧ Below w.heap.size w w'
set_option maxHeartbeats 6400000 in
theorem over_any (N : Nat) (ih : PushAt 50 N) (kind : Int) (x : ByteArray) (gs gk gn : Nat) (k : Int) (n : ByteArray) (vl : Int) (fl : ByteArray) (al : List Tm) (vr : Int) (fr : ByteArray) (ar : List Tm) (ts : List Fm) (Al : Option Addr) (cl : Nat) (Ar : Option Addr) (cr : Nat) (A : Option Addr) (c : Nat) (S : Nat → Prop) (w : World) (hw : (Fm.mk k n (.mk vl fl al) (.mk vr fr ar) ts).wt ≤ N) (hN : N ≤ 4398046511104) (hsh : (Fm.mk k n (.mk vl fl al) (.mk vr fr ar) ts).shape = true) (hbs : Blk w gs 33 [(.func (.func 68) #[] #[.pointer (some ⟨gn, 0, none⟩)])]) (hbk : Blk w gk 3 [.int .i64 kind]) (hbx : Blk w gn 9 [.string x]) (hl : ST S w Al al.length cl al) (hr : ST S w Ar ar.length cr ar) (hs : SF S w A ts.length c ts) : Calls Tryz.prog 71 #[.agg #[.int .i64 k, .string n, .int .i64 vl, .string fl, .slice Al al.length cl, .int .i64 vr, .string fr, .slice Ar ar.length cr, .slice A ts.length c], .pointer (some ⟨gs, 0, none⟩), .pointer (some ⟨gk, 0, none⟩), .pointer (some ⟨gn, 0, none⟩)] w fun e w' => FRes (Up S w) w' (Fm.push kind x (Fm.mk k n (.mk vl fl al) (.mk vr fr ar) ts)) e ∧ Below w.heap.size w w' := by
  have hb0 : Below w.heap.size w ((w.alloc (.cells #[.int .i64 k, .string n, .int .i64 vl, .string fl, .slice Al al.length cl, .int .i64 vr, .string fr, .slice Ar ar.length cr, .slice A ts.length c] 27)).alloc (.cells #[.int .i64 0, .string ⟨#[]⟩, .int .i64 0, .string ⟨#[]⟩, .slice none 0 0, .int .i64 0, .string ⟨#[]⟩, .slice none 0 0, .slice none 0 0] 27)) := bel_two
  have HG := Lib.hid (⟨hl, hr, hs⟩ : ST S w Al al.length cl al ∧ ST S w Ar ar.length cr ar ∧ SF S w A ts.length c ts)
  have HST := Lib.hid (stands_any x gn k n vl fl al vr fr ar ts Al cl Ar cr A c S ((w.alloc (.cells #[.int .i64 k, .string n, .int .i64 vl, .string fl, .slice Al al.length cl, .int .i64 vr, .string fr, .slice Ar ar.length cr, .slice A ts.length c] 27)).alloc (.cells #[.int .i64 0, .string ⟨#[]⟩, .int .i64 0, .string ⟨#[]⟩, .slice none 0 0, .int .i64 0, .string ⟨#[]⟩, .slice none 0 0, .slice none 0 0] 27)) (by omega) (hbx.go hb0) (hl.stay (Stay.below hb0)) (hr.stay (Stay.below hb0)) (hs.stay (Stay.below hb0)))
  have HIH := Lib.hid (fun w' (hb : Below w.heap.size w w') => (show Calls Tryz.prog 50 #[.int .i64 kind, .string x, .agg #[.int .i64 k, .string n, .int .i64 vl, .string fl, .slice Al al.length cl, .int .i64 vr, .string fr, .slice Ar ar.length cr, .slice A ts.length c]] w' fun e w2 => FRes (Lo S w w') w2 (Fm.push kind x (Fm.mk k n (.mk vl fl al) (.mk vr fr ar) ts)) e ∧ Below w'.heap.size w' w2 from ih kind x k n vl fl al vr fr ar ts Al cl Ar cr A c _ w' hw hN hsh (hl.stay (Stay.low'.trans (Stay.below hb))) (hr.stay (Stay.low'.trans (Stay.below hb))) (hs.stay (Stay.low'.trans (Stay.below hb)))))
  have HB0 := Lib.hid hb0
  have BK1 := Lib.hid ((Blk.new w 27 [.int .i64 k, .string n, .int .i64 vl, .string fl, .slice Al al.length cl, .int .i64 vr, .string fr, .slice Ar ar.length cr, .slice A ts.length c]).alloc (.cells #[.int .i64 0, .string ⟨#[]⟩, .int .i64 0, .string ⟨#[]⟩, .slice none 0 0, .int .i64 0, .string ⟨#[]⟩, .slice none 0 0, .slice none 0 0] 27))
  have BK2 := Lib.hid (Blk.new' (w.alloc (.cells #[.int .i64 k, .string n, .int .i64 vl, .string fl, .slice Al al.length cl, .int .i64 vr, .string fr, .slice Ar ar.length cr, .slice A ts.length c] 27)) (w.heap.size + 1) 27 [.int .i64 0, .string ⟨#[]⟩, .int .i64 0, .string ⟨#[]⟩, .slice none 0 0, .int .i64 0, .string ⟨#[]⟩, .slice none 0 0, .slice none 0 0] (by simp))
  have BKS := Lib.hid (hbs.go hb0)
  have BKK := Lib.hid (hbk.go hb0)
  have BKX := Lib.hid (hbx.go hb0)
  simp only [List.toArray] at BK1 BK2
  have hlw := (Blk.new w 27 [.int .i64 k, .string n, .int .i64 vl, .string fl, .slice Al al.length cl, .int .i64 vr, .string fr, .slice Ar ar.length cr, .slice A ts.length c]).lt
  have HRV := Lib.hid (push_not kind x (Fm.mk k n (.mk vl fl al) (.mk vr fr ar) ts))
  clear hl hr hs hw hN hsh hbs hbk hbx hb0 ih hlw
  generalize hres : Fm.push kind x (Fm.mk k n (.mk vl fl al) (.mk vr fr ar) ts) = res at *
  clear hres
  cases hh : (Fm.mk k n (.mk vl fl al) (.mk vr fr ar) ts).has x
  all_goals
    rw [hh] at HST
    go_enter Tryz.func71, Tryz.ntmps71
    go_upto_region 1 with (fail)
    generalize ((w.alloc (.cells #[.int .i64 k, .string n, .int .i64 vl, .string fl, .slice Al al.length cl, .int .i64 vr, .string fr, .slice Ar ar.length cr, .slice A ts.length c] 27)).alloc (.cells #[.int .i64 0, .string ⟨#[]⟩, .int .i64 0, .string ⟨#[]⟩, .slice none 0 0, .int .i64 0, .string ⟨#[]⟩, .slice none 0 0, .slice none 0 0] 27)) = W at *
    have tk := BK1.out.nine; have z0 := tk.c0; have z1 := tk.c1; have z2 := tk.c2; have z3 := tk.c3; have z4 := tk.c4; have z5 := tk.c5; have z6 := tk.c6; have z7 := tk.c7; have z8 := tk.c8; clear tk
    have s0 := BKS.out.cell 0
    simp only [List.getElem?_cons_zero] at s0
    go_wp2_with fail
    refine HST.out.mono ?_
    rintro e w2 ⟨rfl, hb2⟩
    have HB2 := Lib.hid (bel_go HB0.out hb2)
    have BQ1 := Lib.hid (Blk.go BK1.out hb2)
    have BQ2 := Lib.hid (Blk.go BK2.out hb2)
    have BQK := Lib.hid (Blk.go BKK.out hb2)
    have BQX := Lib.hid (Blk.go BKX.out hb2)
    clear z0 z1 z2 z3 z4 z5 z6 z7 z8 s0 hb2 BK1 BK2 BKK BKX BKS HB0 HST
    have tk := BQ1.out.nine; have z0 := tk.c0; have z1 := tk.c1; have z2 := tk.c2; have z3 := tk.c3; have z4 := tk.c4; have z5 := tk.c5; have z6 := tk.c6; have z7 := tk.c7; have z8 := tk.c8; clear tk
  · have HR := Lib.hid (HRV.out hh)
    have hB := HB2.out
    have tk := BQ2.out.nine; have yr0 := tk.c0; have yr1 := tk.c1; have yr2 := tk.c2; have yr3 := tk.c3; have yr4 := tk.c4; have yr5 := tk.c5; have yr6 := tk.c6; have yr7 := tk.c7; have yr8 := tk.c8; clear tk
    have tk := BQ2.out.free9; have yf0 := tk.c0; have yf1 := tk.c1; have yf2 := tk.c2; have yf3 := tk.c3; have yf4 := tk.c4; have yf5 := tk.c5; have yf6 := tk.c6; have yf7 := tk.c7; have yf8 := tk.c8; clear tk
    go_wp2_with fail
    refine bodyPost_ret (v := .agg #[.int .i64 k, .string n, .int .i64 vl, .string fl, .slice Al al.length cl, .int .i64 vr, .string fr, .slice Ar ar.length cr, .slice A ts.length c]) ?_ rfl ⟨?_, bel9 hB (Nat.le_succ _) _ _ _ _ _ _ _ _ _⟩
    · simp [results, Tryz.results71, go_sem, yr0, yr1, yr2, yr3, yr4, yr5, yr6, yr7, yr8]
    · rw [HR.out]; exact FRes.of (r3 HG.out (Stay.up (bel9 hB (Nat.le_succ _) _ _ _ _ _ _ _ _ _)))
  · have k0 := BQK.out.cell 0
    have x0 := BQX.out.cell 0
    simp only [List.getElem?_cons_zero] at k0 x0
    go_wp2_with fail
    refine (HIH.out _ HB2.out).mono ?_
    rintro e w7 ⟨⟨gk7, gn7, gvl7, gfl7, gal7, gvr7, gfr7, gar7, gts7, gAl7, gcl7, gAr7, gcr7, gA7, gc7, hg7, rfl, gr7⟩, hb9⟩
    have HR := Lib.hid (show res = (Fm.mk gk7 gn7 (.mk gvl7 gfl7 gal7) (.mk gvr7 gfr7 gar7) gts7) from hg7)
    have hno : ¬ Lo S w w2 (w.heap.size + 1) := lo_not (by omega) BQ2.out.lt
    have hsz := HB2.out.size
    have hB := bel_go HB2.out hb9
    have BR := Lib.hid (Blk.go BQ2.out hb9)
    have GR := Lib.hid gr7
    clear hg7 gr7 hb9 k0 x0 z0 z1 z2 z3 z4 z5 z6 z7 z8
    have tk := BR.out.nine; have yr0 := tk.c0; have yr1 := tk.c1; have yr2 := tk.c2; have yr3 := tk.c3; have yr4 := tk.c4; have yr5 := tk.c5; have yr6 := tk.c6; have yr7 := tk.c7; have yr8 := tk.c8; clear tk
    have tk := BR.out.free9; have yf0 := tk.c0; have yf1 := tk.c1; have yf2 := tk.c2; have yf3 := tk.c3; have yf4 := tk.c4; have yf5 := tk.c5; have yf6 := tk.c6; have yf7 := tk.c7; have yf8 := tk.c8; clear tk
    go_wp2_with fail
    refine bodyPost_ret (v := .agg #[.int .i64 gk7, .string gn7, .int .i64 gvl7, .string gfl7, .slice gAl7 gal7.length gcl7, .int .i64 gvr7, .string gfr7, .slice gAr7 gar7.length gcr7, .slice gA7 gts7.length gc7]) ?_ rfl ⟨?_, bel9 hB (Nat.le_succ _) _ _ _ _ _ _ _ _ _⟩
    · simp [results, Tryz.results71, go_sem, yr0, yr1, yr2, yr3, yr4, yr5, yr6, yr7, yr8]
    · rw [HR.out]; exact FRes.of (r3 GR.out ((Stay.set9 hno _ _ _ _ _ _ _ _ _).trans (Stay.lo_up hsz)))
set_option maxRecDepth 100000 in
set_option maxHeartbeats 12800000 in
theorem pushX (N : Nat) (kind : Int) (x : ByteArray) (k : Int) (n : ByteArray) (vl : Int) (fl : ByteArray) (al : List Tm) (vr : Int) (fr : ByteArray) (ar : List Tm) (ts : List Fm) (Al : Option Addr) (cl : Nat) (Ar : Option Addr) (cr : Nat) (A : Option Addr) (c : Nat) (S : Nat → Prop) (w : World) (hw : (Fm.mk k n (.mk vl fl al) (.mk vr fr ar) ts).wt ≤ N) (hN : N ≤ 4398046511104) (hk3 : k ≠ 3) (hk4 : k ≠ 4) (hl : ST S w Al al.length cl al) (hr : ST S w Ar ar.length cr ar) (hs : SF S w A ts.length c ts) : Calls Tryz.prog 50 #[.int .i64 kind, .string x, .agg #[.int .i64 k, .string n, .int .i64 vl, .string fl, .slice Al al.length cl, .int .i64 vr, .string fr, .slice Ar ar.length cr, .slice A ts.length c]] w fun e w' => FRes (Up S w) w' (Fm.push kind x (Fm.mk k n (.mk vl fl al) (.mk vr fr ar) ts)) e ∧ Below w.heap.size w w' := by
  generalize hW : (((((w.alloc (.cells #[.int .i64 kind] 3)).alloc (.cells #[.string x] 9)).alloc (.cells #[.int .i64 k, .string n, .int .i64 vl, .string fl, .slice Al al.length cl, .int .i64 vr, .string fr, .slice Ar ar.length cr, .slice A ts.length c] 27)).alloc (.cells #[.int .i64 0, .string ⟨#[]⟩, .int .i64 0, .string ⟨#[]⟩, .slice none 0 0, .int .i64 0, .string ⟨#[]⟩, .slice none 0 0, .slice none 0 0] 27)).alloc (.cells #[(.func (.func 68) #[] #[.pointer (some ⟨w.heap.size + 1, 0, none⟩)])] 33)) = W
  have HB0 : Hid (Below w.heap.size w W) := Lib.hid (by rw [← hW]; exact (((((Below.refl _ w).alloc (Nat.le_refl _) _).alloc (by simp) _).alloc (by simp; omega) _).alloc (by simp; omega) _).alloc (by simp; omega) _)
  have BKK : Hid (Blk W w.heap.size 3 [.int .i64 kind]) := Lib.hid (by rw [← hW]; exact ((((Blk.new w 3 [.int .i64 kind]).alloc _).alloc _).alloc _).alloc _)
  have BKX : Hid (Blk W (w.heap.size + 1) 9 [.string x]) := Lib.hid (by rw [← hW]; exact (((Blk.new' _ (w.heap.size + 1) 9 [.string x] (by simp)).alloc _).alloc _).alloc _)
  have BKF : Hid (Blk W (w.heap.size + 1 + 1) 27 [.int .i64 k, .string n, .int .i64 vl, .string fl, .slice Al al.length cl, .int .i64 vr, .string fr, .slice Ar ar.length cr, .slice A ts.length c]) := Lib.hid (by rw [← hW]; exact ((Blk.new' _ (w.heap.size + 1 + 1) 27 [.int .i64 k, .string n, .int .i64 vl, .string fl, .slice Al al.length cl, .int .i64 vr, .string fr, .slice Ar ar.length cr, .slice A ts.length c] (by simp)).alloc _).alloc _)
  have BKR : Hid (Blk W (w.heap.size + 1 + 1 + 1) 27 [.int .i64 0, .string ⟨#[]⟩, .int .i64 0, .string ⟨#[]⟩, .slice none 0 0, .int .i64 0, .string ⟨#[]⟩, .slice none 0 0, .slice none 0 0]) := Lib.hid (by rw [← hW]; exact (Blk.new' _ (w.heap.size + 1 + 1 + 1) 27 [.int .i64 0, .string ⟨#[]⟩, .int .i64 0, .string ⟨#[]⟩, .slice none 0 0, .int .i64 0, .string ⟨#[]⟩, .slice none 0 0, .slice none 0 0] (by simp)).alloc _)
  have BKS : Hid (Blk W (w.heap.size + 1 + 1 + 1 + 1) 33 [(.func (.func 68) #[] #[.pointer (some ⟨w.heap.size + 1, 0, none⟩)])]) := Lib.hid (by rw [← hW]; exact Blk.new' _ (w.heap.size + 1 + 1 + 1 + 1) 33 [(.func (.func 68) #[] #[.pointer (some ⟨w.heap.size + 1, 0, none⟩)])] (by simp))
  have HST := Lib.hid (fun w' (hb : Below W.heap.size W w') => stands_any x (w.heap.size + 1) k n vl fl al vr fr ar ts Al cl Ar cr A c S w' (by omega) (BKX.out.go hb) (hl.stay (Stay.below (bel_go HB0.out hb))) (hr.stay (Stay.below (bel_go HB0.out hb))) (hs.stay (Stay.below (bel_go HB0.out hb))))
  have HG := Lib.hid (⟨hl, hr, hs⟩ : ST S w Al al.length cl al ∧ ST S w Ar ar.length cr ar ∧ SF S w A ts.length c ts)
  have HRV := Lib.hid (push_not kind x (Fm.mk k n (.mk vl fl al) (.mk vr fr ar) ts))
  have HRS := Lib.hid (show (Fm.mk k n (.mk vl fl al) (.mk vr fr ar) ts).has x = true → Fm.push kind x (Fm.mk k n (.mk vl fl al) (.mk vr fr ar) ts) = Fm.one kind x (Fm.mk k n (.mk vl fl al) (.mk vr fr ar) ts) from fun h => by rw [Fm.push, if_pos h, if_neg (by unfold splitB; simp [hk3, hk4])])
  have q3 : (k == 3) = false := by simpa using hk3
  have q4 : (k == 4) = false := by simpa using hk4
  clear hl hr hs hw hN hk3 hk4
  generalize Fm.push kind x (Fm.mk k n (.mk vl fl al) (.mk vr fr ar) ts) = res at *
  cases q7 : (kind == 7)
  all_goals
    cases hh : (Fm.mk k n (.mk vl fl al) (.mk vr fr ar) ts).has x
    all_goals
      rw [hh] at HST
      go_enter Tryz.func50, Tryz.ntmps50
      go_upto_region 3 with (fail)
      clear hW
      have tk := BKF.out.nine; have z0 := tk.c0; have z1 := tk.c1; have z2 := tk.c2; have z3 := tk.c3; have z4 := tk.c4; have z5 := tk.c5; have z6 := tk.c6; have z7 := tk.c7; have z8 := tk.c8; clear tk
      have s0 := BKS.out.cell 0
      simp only [List.getElem?_cons_zero] at s0
      go_wp2_with fail
      refine (HST.out _ (Below.refl _ _)).mono ?_
      rintro e w2 ⟨rfl, hb2⟩
      have HB2 := Lib.hid (bel_go HB0.out hb2)
      have HBW := Lib.hid hb2
      have BQK := Lib.hid (Blk.go BKK.out hb2)
      have BQX := Lib.hid (Blk.go BKX.out hb2)
      have BQF := Lib.hid (Blk.go BKF.out hb2)
      have BQR := Lib.hid (Blk.go BKR.out hb2)
      have BQS := Lib.hid (Blk.go BKS.out hb2)
      clear z0 z1 z2 z3 z4 z5 z6 z7 z8 s0 hb2 BKK BKX BKF BKR BKS
    · have HR := Lib.hid (HRV.out hh)
      have hB := HB2.out
      have tk := BQF.out.nine; have z0 := tk.c0; have z1 := tk.c1; have z2 := tk.c2; have z3 := tk.c3; have z4 := tk.c4; have z5 := tk.c5; have z6 := tk.c6; have z7 := tk.c7; have z8 := tk.c8; clear tk
      have tk := BQR.out.nine; have yr0 := tk.c0; have yr1 := tk.c1; have yr2 := tk.c2; have yr3 := tk.c3; have yr4 := tk.c4; have yr5 := tk.c5; have yr6 := tk.c6; have yr7 := tk.c7; have yr8 := tk.c8; clear tk
      have tk := BQR.out.free9; have yf0 := tk.c0; have yf1 := tk.c1; have yf2 := tk.c2; have yf3 := tk.c3; have yf4 := tk.c4; have yf5 := tk.c5; have yf6 := tk.c6; have yf7 := tk.c7; have yf8 := tk.c8; clear tk
      go_wp2_with fail
      refine bodyPost_ret (v := .agg #[.int .i64 k, .string n, .int .i64 vl, .string fl, .slice Al al.length cl, .int .i64 vr, .string fr, .slice Ar ar.length cr, .slice A ts.length c]) ?_ rfl ⟨?_, bel9 hB (by omega) _ _ _ _ _ _ _ _ _⟩
      · simp [results, Tryz.results50, go_sem, yr0, yr1, yr2, yr3, yr4, yr5, yr6, yr7, yr8]
      · rw [HR.out]; exact FRes.of (r3 HG.out (Stay.up (bel9 hB (by omega) _ _ _ _ _ _ _ _ _)))
    · have HR := Lib.hid (HRS.out hh)
      have z0 := BQF.out.nine.c0
      have k0 := BQK.out.cell 0
      simp only [List.getElem?_cons_zero] at k0
      go_upto_region 7 with (fail)
      clear z0 k0
      go_quiet (fail)
      clear q3 q4 q7
      have BQF := Lib.hid (BQF.out.drewN nq)
      have BQR := Lib.hid (BQR.out.drewN nq)
      have BQK := Lib.hid (BQK.out.drewN nq)
      have BQX := Lib.hid (BQX.out.drewN nq)
      have BQS := Lib.hid (BQS.out.drewN nq)
      have HB2 := Lib.hid (Below.drewN HB2.out nq)
      generalize w2.drewN nq = W9 at *
      have hWz := HB2.out.size
      have hn5 : w.heap.size + 1 + 1 + 1 ≠ W9.heap.size := by have := BQR.out.lt; omega
      have BA2 := Lib.hid (BQR.out.alloc (.cells #[.int .i64 k, .string n, .int .i64 vl, .string fl, .slice Al al.length cl, .int .i64 vr, .string fr, .slice Ar ar.length cr, .slice A ts.length c] 27))
      have hB := HB2.out.alloc HB2.out.size (.cells #[.int .i64 k, .string n, .int .i64 vl, .string fl, .slice Al al.length cl, .int .i64 vr, .string fr, .slice Ar ar.length cr, .slice A ts.length c] 27)
      have tk := BQF.out.nine; have z0 := tk.c0; have z1 := tk.c1; have z2 := tk.c2; have z3 := tk.c3; have z4 := tk.c4; have z5 := tk.c5; have z6 := tk.c6; have z7 := tk.c7; have z8 := tk.c8; clear tk
      have tk := BA2.out.nine; have yr0 := tk.c0; have yr1 := tk.c1; have yr2 := tk.c2; have yr3 := tk.c3; have yr4 := tk.c4; have yr5 := tk.c5; have yr6 := tk.c6; have yr7 := tk.c7; have yr8 := tk.c8; clear tk
      have tk := BA2.out.free9; have yf0 := tk.c0; have yf1 := tk.c1; have yf2 := tk.c2; have yf3 := tk.c3; have yf4 := tk.c4; have yf5 := tk.c5; have yf6 := tk.c6; have yf7 := tk.c7; have yf8 := tk.c8; clear tk
      have k0 := BQK.out.cell 0
      have x0 := BQX.out.cell 0
      simp only [List.getElem?_cons_zero] at k0 x0
      go_wp2_with fail
      refine bodyPost_ret (v := .agg #[.int .i64 kind, .string x, .int .i64 0, .string ⟨#[]⟩, .slice none 0 0, .int .i64 0, .string ⟨#[]⟩, .slice none 0 0, .slice (some ⟨W9.heap.size, 0, none⟩) 1 1]) ?_ rfl ⟨?_, bel9 hB (by omega) _ _ _ _ _ _ _ _ _⟩
      · simp [results, Tryz.results50, go_sem, yr0, yr1, yr2, yr3, yr4, yr5, yr6, yr7, yr8]
      · rw [HR.out]; exact FRes.one kind x (blk9o (Blk.new W9 27 [.int .i64 k, .string n, .int .i64 vl, .string fl, .slice Al al.length cl, .int .i64 vr, .string fr, .slice Ar ar.length cr, .slice A ts.length c]) hn5 _ _ _ _ _ _ _ _ _) (Or.inr hWz) (r3 HG.out (Stay.up (bel9 hB (by omega) _ _ _ _ _ _ _ _ _)))
end Go.Proofs.YtndjjnnljihmnaaGreat
