/- The reference's mini. -/
import Derived.Test.YtndjjnnljihmnaaGreatGmK
import Derived.Test.YtndjjnnljihmnaaGreatFmU
namespace Go.Proofs.YtndjjnnljihmnaaGreat
open Go.RowKit Go.Proofs.YtndjjnnljihmnaaGreat.Lx
set_option linter.unusedVariables false
set_option linter.unusedSimpArgs false
def RMiniAt (fn : Nat) (N : Nat) : Prop := ∀ (k : Int) (n : ByteArray) (vl : Int) (fl : ByteArray) (al : List Tm) (vr : Int) (fr : ByteArray) (ar : List Tm) (ts : List Fm) (Al : Option Addr) (cl : Nat) (Ar : Option Addr) (cr : Nat) (A : Option Addr) (c : Nat) (S : Nat → Prop) (w : World), (Fm.mk k n (.mk vl fl al) (.mk vr fr ar) ts).wt ≤ N → (Fm.mk k n (.mk vl fl al) (.mk vr fr ar) ts).wt + (Fm.mk k n (.mk vl fl al) (.mk vr fr ar) ts).lf * (Fm.mk k n (.mk vl fl al) (.mk vr fr ar) ts).qs ≤ 4398046510000 → (Fm.mk k n (.mk vl fl al) (.mk vr fr ar) ts).wt ≤ 4398046511 → (Fm.mk k n (.mk vl fl al) (.mk vr fr ar) ts).shape = true → ST S w Al al.length cl al → ST S w Ar ar.length cr ar → SF S w A ts.length c ts →
    Calls Tryz.prog fn #[.agg #[.int .i64 k, .string n, .int .i64 vl, .string fl, .slice Al al.length cl, .int .i64 vr, .string fr, .slice Ar ar.length cr, .slice A ts.length c]] w fun e w' => FRes (Up S w) w' (Fm.mk k n (.mk vl fl al) (.mk vr fr ar) ts).mini e ∧ Below w.heap.size w w'
theorem Stay.w_up1 {S : Nat → Prop} {w w1 w' : World} (h : w.heap.size ≤ w1.heap.size) : Stay (LoW S w1) (Up S w) w' w' := Stay.mono fun b hb => by
  rcases hb with h | h
  · exact Or.inl h.1
  · exact Or.inr (by omega)
theorem Blk.two_ne {w : World} {g h : Nat} {T T' : TypeId} {vs vs' : List Value} (hb : Blk w g T vs) (hh : Blk w h T' vs') (hl : vs.length ≠ vs'.length) : g ≠ h := fun e => by
  subst e
  have := hb.symm.trans hh
  injection this with this
  injection this with e1
  exact hl (by have := congrArg Array.size e1; simpa using this)
set_option maxRecDepth 100000 in
set_option maxHeartbeats 12800000 in
theorem rmini0 : ∀ N, RMiniAt 27 N := by
  intro N
  induction N with
  | zero => intro k n vl fl al vr fr ar ts Al cl Ar cr A c S w h; have := Fm.wt_pos (Fm.mk k n (.mk vl fl al) (.mk vr fr ar) ts); omega
  | succ N ih =>
    intro k n vl fl al vr fr ar ts Al cl Ar cr A c S w h hB hW hsh hl hr hs
    have hsh' := hsh
    rw [Fm.shape, Bool.and_eq_true] at hsh'
    obtain ⟨hhd, hks⟩ := hsh'
    have hwo := Fm.wt_other k n vl fl al vr fr ar ts
    have hln := Fm.len_wts ts
    have HLEN := Lib.hid (show ts.length ≤ 4398046511 by omega)
    have hlen : ts.length ≤ 1152921504606846976 := by omega
    have HKS := Lib.hid hks
    have HHD := Lib.hid hhd
    have HIH := Lib.hid ih
    have HKB := Lib.hid (fun i (hi : i < ts.length) => Fm.kid_bound (k := k) (n := n) (l := .mk vl fl al) (r := .mk vr fr ar) i hi)
    have HBB := Lib.hid (And.intro hB (And.intro hW h))
    have HMW := Lib.hid (Fm.miniL_wt ts hks)
    generalize hw1 : w.alloc (.cells #[.int .i64 k, .string n, .int .i64 vl, .string fl, .slice Al al.length cl, .int .i64 vr, .string fr, .slice Ar ar.length cr, .slice A ts.length c] 27) = w1
    have hz1 : w1.heap.size = w.heap.size + 1 := by rw [← hw1]; simp
    have hb1 : Below w.heap.size w w1 := by rw [← hw1]; exact Below.alloc (Below.refl _ _) (Nat.le_refl _) _
    have hbk : Blk w1 w.heap.size 27 [.int .i64 k, .string n, .int .i64 vl, .string fl, .slice Al al.length cl, .int .i64 vr, .string fr, .slice Ar ar.length cr, .slice A ts.length c] := by rw [← hw1]; exact Blk.new _ _ _
    have HL := Lib.hid (show ST S w1 Al al.length cl al ∧ ST S w1 Ar ar.length cr ar from ⟨hl.stay (Stay.below hb1), hr.stay (Stay.below hb1)⟩)
    have HSS := Lib.hid ((hs.stay (Stay.below hb1)).stay (Stay.low' (S := S)))
    have HB1 := Lib.hid hb1
    have HBOX := Lib.hid hbk
    have HZ1 := Lib.hid hz1
    generalize hWW : ((w1.alloc (.cells #[.int .i64 0, .string ⟨#[]⟩, .int .i64 0, .string ⟨#[]⟩, .slice none 0 0, .int .i64 0, .string ⟨#[]⟩, .slice none 0 0, .slice none 0 0] 27)).alloc (.cells #[.int .i64 k, .string n, .int .i64 vl, .string fl, .slice Al al.length cl, .int .i64 vr, .string fr, .slice Ar ar.length cr, .slice A ts.length c] 27)) = W
    have HB0 : Hid (Below w1.heap.size w1 W) := Lib.hid (by rw [← hWW]; exact bel_two)
    have BR0 : Hid (Blk W w1.heap.size 27 [.int .i64 0, .string ⟨#[]⟩, .int .i64 0, .string ⟨#[]⟩, .slice none 0 0, .int .i64 0, .string ⟨#[]⟩, .slice none 0 0, .slice none 0 0]) := Lib.hid (by rw [← hWW]; exact (Blk.new w1 27 [.int .i64 0, .string ⟨#[]⟩, .int .i64 0, .string ⟨#[]⟩, .slice none 0 0, .int .i64 0, .string ⟨#[]⟩, .slice none 0 0, .slice none 0 0]).alloc _)
    have BO0 : Hid (Blk W (w1.heap.size + 1) 27 [.int .i64 k, .string n, .int .i64 vl, .string fl, .slice Al al.length cl, .int .i64 vr, .string fr, .slice Ar ar.length cr, .slice A ts.length c]) := Lib.hid (by rw [← hWW]; exact Blk.new' _ (w1.heap.size + 1) 27 [.int .i64 k, .string n, .int .i64 vl, .string fl, .slice Al al.length cl, .int .i64 vr, .string fr, .slice Ar ar.length cr, .slice A ts.length c] (by simp))
    have hmv : (Fm.mk k n (.mk vl fl al) (.mk vr fr ar) ts).mini = if k = 7 ∨ k = 8 then (match Fm.miniL ts with | [] => Fm.c 0 | g :: _ => g.push k n) else .mk k n (.mk vl fl al) (.mk vr fr ar) (Fm.miniL ts) := by rw [Fm.mini]; rfl
    have HMV := Lib.hid hmv
    clear hl hr hs hsh hhd hks hwo hln hB hW h ih hmv hb1 hbk
    generalize (Fm.mk k n (.mk vl fl al) (.mk vr fr ar) ts).mini = res at *
    go_enter Tryz.func27, Tryz.ntmps27
    go_upto_region 1 with (fail)
    try rw [hw1]
    have z0b : Hid (Blk (w1.alloc (.cells #[.int .i64 0, .string ⟨#[]⟩, .int .i64 0, .string ⟨#[]⟩, .slice none 0 0, .int .i64 0, .string ⟨#[]⟩, .slice none 0 0, .slice none 0 0] 27)) w.heap.size 27 [.int .i64 k, .string n, .int .i64 vl, .string fl, .slice Al al.length cl, .int .i64 vr, .string fr, .slice Ar ar.length cr, .slice A ts.length c]) := Lib.hid (HBOX.out.alloc _)
    have tk := z0b.out.nine; have z0 := tk.c0; have z1 := tk.c1; have z2 := tk.c2; have z3 := tk.c3; have z4 := tk.c4; have z5 := tk.c5; have z6 := tk.c6; have z7 := tk.c7; have z8 := tk.c8; clear tk
    go_upto_region 2 with (fail)
    try rw [hz1]
    simp only [← hz1]
    try rw [hWW]
    clear hw1 hWW z0b hz1
    have tk := BO0.out.nine; have y0 := tk.c0; have y1 := tk.c1; have y2 := tk.c2; have y3 := tk.c3; have y4 := tk.c4; have y5 := tk.c5; have y6 := tk.c6; have y7 := tk.c7; have y8 := tk.c8; clear tk
    have tk := BO0.out.free9; have fy0 := tk.c0; have fy1 := tk.c1; have fy2 := tk.c2; have fy3 := tk.c3; have fy4 := tk.c4; have fy5 := tk.c5; have fy6 := tk.c6; have fy7 := tk.c7; have fy8 := tk.c8; clear tk
    go_upto_region 3 with (fail)
    have BO1 := Lib.hid (BO0.out.set 8 (.slice none 0 0))
    have BR1 := Lib.hid (BR0.out.other ⟨w1.heap.size + 1, 8, none⟩ (.slice none 0 0) (by simp))
    have HB2 := Lib.hid (HB0.out.setCell (p := ⟨w1.heap.size + 1, 8, none⟩) (by simp) (.slice none 0 0))
    simp only [List.set_cons_zero, List.set_cons_succ] at BO1
    generalize W.setCell ⟨w1.heap.size + 1, 8, none⟩ (.slice none 0 0) = W2 at *
    clear y0 y1 y2 y3 y4 y5 y6 y7 y8 fy0 fy1 fy2 fy3 fy4 fy5 fy6 fy7 fy8 BO0 BR0 HB0 z0 z1 z2 z3 z4 z5 z6 z7 z8
    go_wp2_with fail
    go_loopw [4] (fun vi wl => ∃ i : Nat, ∃ v3 : Value, vi = .int .i64 i ∧ i ≤ ts.length ∧ (∃ xs, wl.ownsRow (w1.heap.size + 1 + 1) 27 9 v3 i xs ∧ RL (LoV S w1 v3) wl (Fm.miniL (ts.take i)) xs) ∧ Blk wl (w1.heap.size + 1) 27 [.int .i64 k, .string n, .int .i64 vl, .string fl, .slice Al al.length cl, .int .i64 vr, .string fr, .slice Ar ar.length cr, v3] ∧ Blk wl w1.heap.size 27 [.int .i64 0, .string ⟨#[]⟩, .int .i64 0, .string ⟨#[]⟩, .slice none 0 0, .int .i64 0, .string ⟨#[]⟩, .slice none 0 0, .slice none 0 0] ∧ Below w1.heap.size w1 wl) (fun vi _ => ts.length - (intOf vi).toNat)
    case atStart => exact ⟨0, .slice none 0 0, rfl, by omega, ⟨[], World.ownsRow_nil _ _ _ _, by rw [List.take_zero, Fm.miniL]; rfl⟩, BO1.out, BR1.out, HB2.out⟩
    case round =>
      obtain ⟨i, v3, rfl, hi, ⟨xs, hro, hrl⟩, hk1, hk2, hb⟩ := hrel
      obtain ⟨Av, cv, rfl⟩ := row_slice hro
      have HRO := Lib.hid hro
      have HRL := Lib.hid hrl
      have BO := Lib.hid hk1
      have BR := Lib.hid hk2
      have HB := Lib.hid hb
      have BX := Lib.hid (HBOX.out.below hb HBOX.out.lt)
      clear hro hrl hk1 hk2 hb BO1 BR1 HB2
      by_cases hlt : i < ts.length
      · obtain ⟨b, o, hA, k1, n1, vl1, fl1, al1, vr1, fr1, ar1, ts1, Al1, cl1, Ar1, cr1, A1, c1, hm1, hl1, hr1, hs1, p0, p1, p2, p3, p4, p5, p6, p7, p8⟩ := (HSS.out.stay (Stay.below HB.out)).at i hlt
        subst hA
        have hkb := HKB.out i hlt
        have hsk := Fm.shapes_get ts i hlt HKS.out
        have hmt := Fm.miniL_take ts i hlt
        rw [hm1] at hkb hsk hmt
        have hbb := HBB.out
        have HMT := Lib.hid hmt
        have hwd : Below wr.heap.size wr wr.drew := bel_drew1 wr
        have HC := Lib.hid (show Calls Tryz.prog 27 #[.agg #[.int .i64 k1, .string n1, .int .i64 vl1, .string fl1, .slice Al1 al1.length cl1, .int .i64 vr1, .string fr1, .slice Ar1 ar1.length cr1, .slice A1 ts1.length c1]] wr.drew fun e w2 => FRes (Lo S w1 wr.drew) w2 (Fm.mini (Fm.mk k1 n1 (.mk vl1 fl1 al1) (.mk vr1 fr1 ar1) ts1)) e ∧ Below wr.drew.heap.size wr.drew w2 from HIH.out k1 n1 vl1 fl1 al1 vr1 fr1 ar1 ts1 Al1 cl1 Ar1 cr1 A1 c1 _ _ (by omega) (by omega) (by omega) hsk (hl1.stay (Stay.below hwd)) (hr1.stay (Stay.below hwd)) (hs1.stay (Stay.below hwd)))
        have HLT := Lib.hid hlt
        have HQ0 := Lib.hid hwd
        have hIL : (i : Int) ≤ 1152921504606846976 := by omega
        clear hm1 hl1 hr1 hs1 hkb hsk hmt hbb hwd
        have z8 := BX.out.nine.c8
        have y8 := BO.out.nine.c8
        go_upto_region 6 with (fail)
        obtain ⟨i0, hi0, hz0, hz1, hz2⟩ := info_parts infoF
        go_region_law (first | (refine step_append_lies _ (by rfl) _ _ _ (by rfl) (w1.heap.size + 1 + 1) 27 i0 _ 9 144 Tryz.underlying25 hi0 hz0 hz1 hz2 rfl (by omega) (.slice Av i cv) i xs rfl ((row_fr HRO.out (Fr.of_below (S := fun _ => False) HB3.out (Nat.le_refl _)) (fun k hk hs => hs)).alloc _) ⟨w2.heap.size, 0, none⟩ 1 1 [.int .i64 gk7, .string gn7, .int .i64 gvl7, .string gfl7, .slice gAl7 gal7.length gcl7, .int .i64 gvr7, .string gfr7, .slice gAr7 gar7.length gcr7, .slice gA7 gts7.length gc7] rfl rfl (World.news_of_block (cs := #[.int .i64 gk7, .string gn7, .int .i64 gvl7, .string gfl7, .slice gAl7 gal7.length gcl7, .int .i64 gvr7, .string gfr7, .slice gAr7 gar7.length gcr7, .slice gA7 gts7.length gc7]) (t := 27) (fr := (0, 0)) (heap_alloc_new w2 _)) (RF.one_cells (RF.shut gk7 gn7 gvl7 gvr7 gfl7 gfr7 HG7.out.1 HG7.out.2.1 HG7.out.2.2)) (by omega) (by have := HLEN.out; unfold maxLen; omega) (by have := HLEN.out; omega) (by have h1 := BO3.out.lt; simp; omega) _ rfl ?_; intro g5 c5 w10 hro5 hgr5 hat5 hlt5; have HRO5 := Lib.hid hro5; have HGR5 := Lib.hid hgr5; have HAT5 := Lib.hid hat5; have BO10 := Lib.hid ((BO3.out.alloc (.cells #[.int .i64 gk7, .string gn7, .int .i64 gvl7, .string gfl7, .slice gAl7 gal7.length gcl7, .int .i64 gvr7, .string gfr7, .slice gAr7 gar7.length gcr7, .slice gA7 gts7.length gc7] 27)).grown hgr5 (fun e => by have := row_low HRO.out e; omega)); clear hro5 hgr5 hat5 hlt5; have y8 := BO10.out.nine.c8; have fy8 := BO10.out.free9.c8) | (go_simp; go_at_call 27; refine HC.out.mono ?_; rintro e w2 ⟨⟨gk7, gn7, gvl7, gfl7, gal7, gvr7, gfr7, gar7, gts7, gAl7, gcl7, gAr7, gcr7, gA7, gc7, hg7, rfl, gr7⟩, hb9⟩; have HB3 := Lib.hid (bel_go HQ0.out hb9); have BO3 := Lib.hid (BO.out.below HB3.out BO.out.lt); have y8 := BO3.out.nine.c8; have hlo := BO3.out.lt; have hna := Nat.ne_of_lt hlo; have hnb := hna.symm; have HG7 := Lib.hid gr7; have HGG := Lib.hid hg7; clear hg7 gr7 hb9))
        all_goals
          have hvl : ∀ g, (Value.slice Av i cv).ownBlock = some g → w1.heap.size + 1 + 1 ≤ g ∧ g < wr.heap.size := fun g hg => ⟨row_low HRO.out hg, by obtain ⟨vs, q⟩ := row_blk HRO.out hg; exact q.lt⟩
          have hzz := HB3.out.size
          have hbo := BO.out.lt
          have HF7 : RF (Lo S w1 wr.drew) w2 (Fm.mk gk7 gn7 (.mk gvl7 gfl7 gal7) (.mk gvr7 gfr7 gar7) gts7) [.int .i64 gk7, .string gn7, .int .i64 gvl7, .string gfl7, .slice gAl7 gal7.length gcl7, .int .i64 gvr7, .string gfr7, .slice gAr7 gar7.length gcr7, .slice gA7 gts7.length gc7] := RF.shut _ _ _ _ _ _ HG7.out.1 HG7.out.2.1 HG7.out.2.2
          have HRL2 := RL.snoc (HF7.stay (Stay.lo_v (v := .slice Av i cv) (by show _ ≤ wr.heap.size; omega) (fun g hg => by have := hvl g hg; exact ⟨by omega, this.2⟩))) (HRL.out.stay (Stay.below HB3.out))
          have hown : (Value.slice (some ⟨g5, 0, none⟩) (i + 1) c5).ownBlock = (Value.slice Av i cv).ownBlock ∨ (Value.slice (some ⟨g5, 0, none⟩) (i + 1) c5).ownBlock = some (w2.alloc (.cells #[.int .i64 gk7, .string gn7, .int .i64 gvl7, .string gfl7, .slice gAl7 gal7.length gcl7, .int .i64 gvr7, .string gfr7, .slice gAr7 gar7.length gcr7, .slice gA7 gts7.length gc7] 27)).heap.size := by
            rcases HAT5.out with e | e
            · exact Or.inl (by rw [e]; rfl)
            · exact Or.inr (by rw [e]; rfl)
          have hmt := HMT.out
          rw [HGG.out] at hmt
          have HRL4 := (HRL2.stay (Stay.al (.cells #[.int .i64 gk7, .string gn7, .int .i64 gvl7, .string gfl7, .slice gAl7 gal7.length gcl7, .int .i64 gvr7, .string gfr7, .slice gAr7 gar7.length gcr7, .slice gA7 gts7.length gc7] 27))).stay (Stay.v_step HGR5.out hown)
          rw [← hmt] at HRL4
          have hg5 : w1.heap.size + 1 + 1 ≤ g5 := row_low HRO5.out rfl
          have HRL5 := Lib.hid (HRL4.stay (Stay.set (S := LoV S w1 (.slice (some ⟨g5, 0, none⟩) (i + 1) c5)) (g := w1.heap.size + 1) (fun h => by rcases h.1 with h | h <;> omega) 8 (.slice (some ⟨g5, 0, none⟩) (i + 1) c5)))
          have hgk : ∀ k, (Value.slice (some ⟨g5, 0, none⟩) (i + 1) c5).ownBlock = some k → g5 = k := fun k hk => by simpa [Value.ownBlock] using hk
          have HRO6 := Lib.hid (row_fr HRO5.out ((Fr.refl (fun j => j = w1.heap.size + 1) w10).set (w1.heap.size + 1) 8 (.slice (some ⟨g5, 0, none⟩) (i + 1) c5) rfl) (fun k hk e => by have := hgk k hk; omega))
          have BO11 := BO10.out.set 8 (.slice (some ⟨g5, 0, none⟩) (i + 1) c5)
          simp only [List.set_cons_zero, List.set_cons_succ] at BO11
          have BO12 := Lib.hid BO11
          have BR10 := Lib.hid ((((BR.out.below HB3.out BR.out.lt).alloc (.cells #[.int .i64 gk7, .string gn7, .int .i64 gvl7, .string gfl7, .slice gAl7 gal7.length gcl7, .int .i64 gvr7, .string gfr7, .slice gAr7 gar7.length gcr7, .slice gA7 gts7.length gc7] 27)).grown HGR5.out (fun e => by have := hvl _ e; omega)).other ⟨w1.heap.size + 1, 8, none⟩ (.slice (some ⟨g5, 0, none⟩) (i + 1) c5) (by simp))
          have HB6 := Lib.hid ((((bel_go HB.out HB3.out).alloc (bel_go HB.out HB3.out).size (.cells #[.int .i64 gk7, .string gn7, .int .i64 gvl7, .string gfl7, .slice gAl7 gal7.length gcl7, .int .i64 gvr7, .string gfr7, .slice gAr7 gar7.length gcr7, .slice gA7 gts7.length gc7] 27)).trans ((Fr.of_grown HGR5.out).below (B := w1.heap.size) (by have := HB.out.size; simp; omega) (fun k hk => by have := hvl k hk; omega))).setCell (p := ⟨w1.heap.size + 1, 8, none⟩) (by simp) (.slice (some ⟨g5, 0, none⟩) (i + 1) c5))
          clear HRL2 HRL4 HF7 hown hvl hgk BO11 hmt hzz hbo HRO5 HGR5 HAT5 BO10 BO3 HB3 HC HG7 HGG HRL HRO BO BR
          go_wp2_with fail
          go_roundw
          case rel => exact ⟨i + 1, (.slice (some ⟨g5, 0, none⟩) (i + 1) c5), by go_num, HLT.out, ⟨_, HRO6.out, HRL5.out⟩, BO12.out, BR10.out, HB6.out⟩
          case measure => have := HLT.out; simp [intOf]; omega
      · obtain rfl : i = ts.length := by omega
        have hrl := HRL.out
        rw [List.take_length] at hrl
        have HSF := Lib.hid (row_sf HRO.out hrl (by rw [Fm.miniL_len]) (by have := HLEN.out; omega))
        have hbo := BO.out.lt
        have d1 : decide (ts.length < ts.length) = false := by simp
        have HWW := Lib.hid (show w.heap.size ≤ w1.heap.size from HB1.out.size)
        have HLR := Lib.hid (show ST (LoW S w1) wr Al al.length cl al ∧ ST (LoW S w1) wr Ar ar.length cr ar from ⟨((HL.out.1.stay Stay.low').stay (Stay.below HB.out)).stay Stay.low_w, ((HL.out.2.stay Stay.low').stay (Stay.below HB.out)).stay Stay.low_w⟩)
        by_cases hk : k = 7 ∨ k = 8
        · obtain ⟨hvar, hl1⟩ := head_var hk HHD.out
          have HSL := Fm.miniL_shape ts HKS.out
          have hmw := HMW.out
          have hml := Fm.miniL_len ts
          have HR0 := Lib.hid (HMV.out.trans (if_pos hk))
          rw [hl1] at hml
          obtain ⟨g, hg⟩ : ∃ g, Fm.miniL ts = [g] := by
            match hq : Fm.miniL ts, hml with
            | [g], _ => exact ⟨g, rfl⟩
          rw [hg] at hrl HR0 HSL hmw
          have HK := Lib.hid hk
          obtain ⟨cs, ys, hxs, hrf, _⟩ := hrl
          obtain ⟨k1, n1, ⟨vl1, fl1, al1⟩, ⟨vr1, fr1, ar1⟩, ts1⟩ := g
          obtain ⟨Al1, cl1, Ar1, cr1, A1, c1, hcs, hl1', hr1', hs1'⟩ := hrf.open
          obtain ⟨gg, cc, hgg, _, hgb, hcell⟩ := row_cells HRO.out (by omega)
          injection hgg with hgg _ hcc
          subst hgg hcc
          rw [hxs, hcs] at hcell
          have p0 := hcell 0 _ rfl
          have p1 := hcell 1 _ rfl
          have p2 := hcell 2 _ rfl
          have p3 := hcell 3 _ rfl
          have p4 := hcell 4 _ rfl
          have p5 := hcell 5 _ rfl
          have p6 := hcell 6 _ rfl
          have p7 := hcell 7 _ rfl
          have p8 := hcell 8 _ rfl
          rw [Fm.wts, Fm.wts] at hmw
          rw [Fm.shapes, Bool.and_eq_true] at HSL
          have hbb := HBB.out
          have hlq : Fm.lfs ts * Fm.qss ts ≤ (Fm.mk k n (.mk vl fl al) (.mk vr fr ar) ts).lf * (Fm.mk k n (.mk vl fl al) (.mk vr fr ar) ts).qs := Nat.mul_le_mul (by rw [Fm.lf]; omega) (by rw [Fm.qs]; omega)
          have hwo := Fm.wt_other k n vl fl al vr fr ar ts
          have hw1 : (Fm.mk k1 n1 (.mk vl1 fl1 al1) (.mk vr1 fr1 ar1) ts1).wt ≤ 4398046510000 := by omega
          have hsl := HSL.1
          have HC := Lib.hid (fun w' (hb : Below wr.heap.size wr w') => rpush0 4398046510000 k n k1 n1 vl1 fl1 al1 vr1 fr1 ar1 ts1 Al1 cl1 Ar1 cr1 A1 c1 (LoW S w1) w' HK.out hw1 (Nat.le_refl _) hsl ((hl1'.stay Stay.v_w).stay (Stay.below hb)) ((hr1'.stay Stay.v_w).stay (Stay.below hb)) ((hs1'.stay Stay.v_w).stay (Stay.below hb)))
          have hgg1 : w1.heap.size ≠ gg := by omega
          have hgg2 := hgg1.symm
          have hww1 : w1.heap.size ≠ w.heap.size := by have := HZ1.out; omega
          have hww2 := hww1.symm
          clear hk hvar HSL hsl hw1 hmw hml hxs hrf hcs hl1' hr1' hs1' hgb hcell hbb hlq hwo hg
          have hi0 : (0 : Int) < (ts.length : Int) := by omega
          have hkk : (k == 7) = true ∨ ((k == 7) = false ∧ (k == 8) = true) := by rcases HK.out with h | h <;> subst h <;> simp
          rcases hkk with q7 | ⟨q7, q8⟩
          all_goals
            have P0 := Lib.hid p0
            have P1 := Lib.hid p1
            have P2 := Lib.hid p2
            have P3 := Lib.hid p3
            have P4 := Lib.hid p4
            have P5 := Lib.hid p5
            have P6 := Lib.hid p6
            have P7 := Lib.hid p7
            have P8 := Lib.hid p8
            have tk := BX.out.nine; have z0 := tk.c0; have z1 := tk.c1; have z2 := tk.c2; have z3 := tk.c3; have z4 := tk.c4; have z5 := tk.c5; have z6 := tk.c6; have z7 := tk.c7; have z8 := tk.c8; clear tk
            have y8 := BO.out.nine.c8
            go_upto_region 8 with (fail)
            have HQ0 := Lib.hid (bel_drew1 wr)
            (first | (go_region_held3 (fun w' => w'.cell? ⟨w.heap.size, 0, none⟩ = some (.int .i64 k) ∧ w'.cell? ⟨w.heap.size, 1, none⟩ = some (.string n) ∧ w'.cell? ⟨w1.heap.size + 1, 8, none⟩ = some (.slice (some ⟨gg, 0, none⟩) ts.length cv) ∧ w'.cell? ⟨gg, 0, none⟩ = some (.int .i64 k1) ∧ w'.cell? ⟨gg, 1, none⟩ = some (.string n1) ∧ w'.cell? ⟨gg, 2, none⟩ = some (.int .i64 vl1) ∧ w'.cell? ⟨gg, 3, none⟩ = some (.string fl1) ∧ w'.cell? ⟨gg, 4, none⟩ = some (.slice Al1 al1.length cl1) ∧ w'.cell? ⟨gg, 5, none⟩ = some (.int .i64 vr1) ∧ w'.cell? ⟨gg, 6, none⟩ = some (.string fr1) ∧ w'.cell? ⟨gg, 7, none⟩ = some (.slice Ar1 ar1.length cr1) ∧ w'.cell? ⟨gg, 8, none⟩ = some (.slice A1 ts1.length c1)) (go_keep) (first | (go_at_call 51; refine (HC.out _ HQ0.out).mono ?_; rintro e w5 ⟨⟨gk7, gn7, gvl7, gfl7, gal7, gvr7, gfr7, gar7, gts7, gAl7, gcl7, gAr7, gcr7, gA7, gc7, hg7, rfl, gr7⟩, hb9⟩; have HQ1 := Lib.hid (bel_go HQ0.out hb9); have HR := Lib.hid (show res = (Fm.mk gk7 gn7 (.mk gvl7 gfl7 gal7) (.mk gvr7 gfr7 gar7) gts7) from HR0.out.trans hg7); have hB := bel_go HB1.out (bel_go HB.out HQ1.out); have BR5 := Lib.hid (BR.out.below HQ1.out BR.out.lt); have GR := Lib.hid (r3 gr7 (Stay.up_w (by have h1 := HQ0.out.size; have h2 := BO.out.lt; omega))); clear hg7 gr7 hb9; have z0 := (BX.out.below HQ1.out BX.out.lt).nine.c0; have z1 := (BX.out.below HQ1.out BX.out.lt).nine.c1; have y8 := (BO.out.below HQ1.out BO.out.lt).nine.c8; have p0 := keepc HQ1.out P0.out; have p1 := keepc HQ1.out P1.out; have p2 := keepc HQ1.out P2.out; have p3 := keepc HQ1.out P3.out; have p4 := keepc HQ1.out P4.out; have p5 := keepc HQ1.out P5.out; have p6 := keepc HQ1.out P6.out; have p7 := keepc HQ1.out P7.out; have p8 := keepc HQ1.out P8.out; have tk := BR5.out.nine; have yr0 := tk.c0; have yr1 := tk.c1; have yr2 := tk.c2; have yr3 := tk.c3; have yr4 := tk.c4; have yr5 := tk.c5; have yr6 := tk.c6; have yr7 := tk.c7; have yr8 := tk.c8; clear tk; have tk := BR5.out.free9; have yf0 := tk.c0; have yf1 := tk.c1; have yf2 := tk.c2; have yf3 := tk.c3; have yf4 := tk.c4; have yf5 := tk.c5; have yf6 := tk.c6; have yf7 := tk.c7; have yf8 := tk.c8; clear tk))) | fail "held")
            all_goals
              go_wp2_with fail
              refine bodyPost_ret (v := .agg #[.int .i64 gk7, .string gn7, .int .i64 gvl7, .string gfl7, .slice gAl7 gal7.length gcl7, .int .i64 gvr7, .string gfr7, .slice gAr7 gar7.length gcr7, .slice gA7 gts7.length gc7]) ?_ rfl ⟨?_, bel9 hB HWW.out _ _ _ _ _ _ _ _ _⟩
              · simp [results, Tryz.results27, go_sem, yr0, yr1, yr2, yr3, yr4, yr5, yr6, yr7, yr8]
              · rw [HR.out]; exact FRes.of (r3 GR.out ((Stay.set9 w_not0 _ _ _ _ _ _ _ _ _).trans (Stay.w_up1 HWW.out)))
        · have HR := Lib.hid (HMV.out.trans (if_neg hk))
          have q7 : (k == 7) = false := by simp; omega
          have q8 : (k == 8) = false := by simp; omega
          clear hk hrl
          have hB := bel_go HB1.out HB.out
          have tk := BX.out.nine; have z0 := tk.c0; have z1 := tk.c1; have z2 := tk.c2; have z3 := tk.c3; have z4 := tk.c4; have z5 := tk.c5; have z6 := tk.c6; have z7 := tk.c7; have z8 := tk.c8; clear tk
          have tk := BO.out.nine; have y0 := tk.c0; have y1 := tk.c1; have y2 := tk.c2; have y3 := tk.c3; have y4 := tk.c4; have y5 := tk.c5; have y6 := tk.c6; have y7 := tk.c7; have y8 := tk.c8; clear tk
          have tk := BR.out.nine; have yr0 := tk.c0; have yr1 := tk.c1; have yr2 := tk.c2; have yr3 := tk.c3; have yr4 := tk.c4; have yr5 := tk.c5; have yr6 := tk.c6; have yr7 := tk.c7; have yr8 := tk.c8; clear tk
          have tk := BR.out.free9; have yf0 := tk.c0; have yf1 := tk.c1; have yf2 := tk.c2; have yf3 := tk.c3; have yf4 := tk.c4; have yf5 := tk.c5; have yf6 := tk.c6; have yf7 := tk.c7; have yf8 := tk.c8; clear tk
          go_wp2_with fail
          refine bodyPost_ret (v := .agg #[.int .i64 k, .string n, .int .i64 vl, .string fl, .slice Al al.length cl, .int .i64 vr, .string fr, .slice Ar ar.length cr, .slice Av ts.length cv]) ?_ rfl ⟨?_, bel9 hB HWW.out _ _ _ _ _ _ _ _ _⟩
          · simp [results, Tryz.results27, go_sem, yr0, yr1, yr2, yr3, yr4, yr5, yr6, yr7, yr8]
          · rw [HR.out]; exact ⟨k, n, vl, fl, al, vr, fr, ar, Fm.miniL ts, Al, cl, Ar, cr, Av, cv, rfl, by rw [Fm.miniL_len], (by rw [Fm.miniL_len]; exact r3 ⟨HLR.out.1, HLR.out.2, HSF.out⟩ ((Stay.set9 w_not0 _ _ _ _ _ _ _ _ _).trans (Stay.w_up1 HWW.out)))⟩
end Go.Proofs.YtndjjnnljihmnaaGreat
