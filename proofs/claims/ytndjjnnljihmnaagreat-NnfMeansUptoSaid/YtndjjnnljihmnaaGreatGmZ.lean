/- The law NnfMeans: the walk. -/
import Derived.Test.YtndjjnnljihmnaaGreatGmD
import Derived.Test.YtndjjnnljihmnaaGreatGmQ
import Derived.Test.YtndjjnnljihmnaaGreatGmU
import Derived.Test.YtndjjnnljihmnaaGreatGmX
namespace Go.Proofs.YtndjjnnljihmnaaGreat
open Go.RowKit
set_option linter.unusedVariables false
set_option linter.unusedSimpArgs false
theorem mul_two (a b : Nat) (h : a + b ≤ 2000) : a * b ≤ 1000000 := by
  rcases Nat.le_total a b with h1 | h1
  · obtain ⟨c, rfl⟩ := Nat.exists_eq_add_of_le h1
    have h2 := Nat.mul_self_le_mul_self h
    simp only [Nat.mul_add, Nat.add_mul, Nat.mul_comm c a] at h2 ⊢
    omega
  · obtain ⟨c, rfl⟩ := Nat.exists_eq_add_of_le h1
    have h2 := Nat.mul_self_le_mul_self h
    simp only [Nat.mul_add, Nat.add_mul, Nat.mul_comm c b] at h2 ⊢
    omega
theorem means_bounds {M : Nat} {f : Fm} (hM : M ≤ 1048576) (hs : f.shape = true) (h : f.le M) (hz : f.size ≤ 2000) : f.wt + f.lf * f.qs ≤ 1090000000000 ∧ f.wt ≤ 4398046511 := by
  have h1 := Fm.wt_le f hs h
  have h2 := Fm.lf_qn f hs
  have h3 := Fm.qs_qn f hs h
  have h4 := mul_two f.lf f.qn (by omega)
  have h5 : f.size * (M + 3) ≤ 2000 * 1048579 := Nat.mul_le_mul hz (by omega)
  have h6 : f.lf * f.qs ≤ f.lf * (f.qn * 1048576 + 6000) := Nat.mul_le_mul_left _ (by
    have : f.qn * M ≤ f.qn * 1048576 := Nat.mul_le_mul_left _ hM
    omega)
  rw [Nat.mul_add, ← Nat.mul_assoc] at h6
  have h7 : f.lf * f.qn * 1048576 ≤ 1000000 * 1048576 := Nat.mul_le_mul_right _ h4
  omega
theorem right_world {s : Int} {m : Nat} (h : rightW s m = true) : (1 ≤ s ∧ s ≤ 3) ∧ 0 < m ∧ m ≤ 64 := by
  unfold rightW at h
  simp only [Bool.and_eq_true, decide_eq_true_eq] at h
  omega
set_option maxRecDepth 100000 in
set_option maxHeartbeats 12800000 in
theorem means_any (k : Int) (n : ByteArray) (vl : Int) (fl : ByteArray) (al : List Tm) (vr : Int) (fr : ByteArray) (ar : List Tm) (ts : List Fm) (Al : Option Addr) (cl : Nat) (Ar : Option Addr) (cr : Nat) (A : Option Addr) (c : Nat) (s : Int) (Aw : Option Addr) (cw : Nat) (rl : List Int) (B : Option Addr) (cB : Nat) (l : List (ByteArray × Int)) (w : World) (hN : (Fm.mk k n (.mk vl fl al) (.mk vr fr ar) ts).wt ≤ 1048576) (hNt : Nts w Aw rl) (hT : Ths w B l) (hBB : (B = none ∧ l = [] ∧ cB = 0) ∨ ∃ a, B = some a) (hl : ST All w Al al.length cl al) (hrr : ST All w Ar ar.length cr ar) (hs : SF All w A ts.length c ts) : Calls Tryz.prog 5 #[.agg #[.int .i64 k, .string n, .int .i64 vl, .string fl, .slice Al al.length cl, .int .i64 vr, .string fr, .slice Ar ar.length cr, .slice A ts.length c], .agg #[.int .i64 s, .slice Aw rl.length cw], .slice B l.length cB] w fun e w' => e = .returned (.bool true) ∧ Below w.heap.size w w' := by
  cases hR : rightW s rl.length
  case false =>
    have HRC := rightW_any s Aw rl.length cw
    rw [hR] at HRC
    have HRC := Lib.hid HRC
    generalize hWW : (w.alloc (.cells #[.int .i64 k, .string n, .int .i64 vl, .string fl, .slice Al al.length cl, .int .i64 vr, .string fr, .slice Ar ar.length cr, .slice A ts.length c] 27)).alloc (.cells #[.int .i64 s, .slice Aw rl.length cw] 36) = W
    have HB0 : Hid (Below w.heap.size w W) := Lib.hid (by rw [← hWW]; exact bel_two)
    have BF : Hid (Blk W w.heap.size 27 [.int .i64 k, .string n, .int .i64 vl, .string fl, .slice Al al.length cl, .int .i64 vr, .string fr, .slice Ar ar.length cr, .slice A ts.length c]) := Lib.hid (by rw [← hWW]; exact (Blk.new w 27 [.int .i64 k, .string n, .int .i64 vl, .string fl, .slice Al al.length cl, .int .i64 vr, .string fr, .slice Ar ar.length cr, .slice A ts.length c]).alloc _)
    have BW : Hid (Blk W (w.heap.size + 1) 36 [.int .i64 s, .slice Aw rl.length cw]) := Lib.hid (by rw [← hWW]; exact Blk.new' _ (w.heap.size + 1) 36 [.int .i64 s, .slice Aw rl.length cw] (by simp))
    have HWW := Lib.hid hWW
    clear hWW
    clear hNt hT hBB hl hrr hs hN hR
    go_enter Tryz.func5, Tryz.ntmps5
    go_upto_region 1 with (fail)
    rw [HWW.out]
    have tk := BF.out.nine; have z0 := tk.c0; have z1 := tk.c1; have z2 := tk.c2; have z3 := tk.c3; have z4 := tk.c4; have z5 := tk.c5; have z6 := tk.c6; have z7 := tk.c7; have z8 := tk.c8; clear tk
    have x0 := BW.out.cell 0
    have x1 := BW.out.cell 1
    simp only [List.getElem?_cons_zero, List.getElem?_cons_succ] at x0 x1
    go_wp2_with fail
    refine (HRC.out _).mono ?_
    rintro e w1 ⟨rfl, hb1⟩
    have HB1 := Lib.hid (bel_go HB0.out hb1)
    clear hb1 HRC
    go_wp2_with fail
    refine (alive_any _).mono ?_
    rintro e w9 ⟨rfl, hb9⟩
    have hB := bel_go HB1.out hb9
    go_wp2_with fail
    exact bodyPost_ret (v := .bool true) (by simp [results, Tryz.results5]) rfl ⟨rfl, hB⟩
  case true =>
    obtain ⟨hs1, hr1⟩ := right_world hR
    obtain ⟨nn, rfl⟩ : ∃ nn : Nat, s = nn := ⟨s.toNat, by omega⟩
    have hn1 : 1 ≤ nn ∧ nn ≤ 3 := by omega
    have HRC := rightW_any (nn : Int) Aw rl.length cw
    rw [hR] at HRC
    have HRC := Lib.hid HRC
    clear hR
    have HFW := Lib.hid (fun w' (hb : Below w.heap.size w w') => few_any k n vl fl al vr fr ar ts Al cl Ar cr A c All w' (by omega) (hl.stay (Stay.below hb)) (hrr.stay (Stay.below hb)) (hs.stay (Stay.below hb)))
    have HRT := Lib.hid (fun w' (hb : Below w.heap.size w w') => rright_any k n vl fl al vr fr ar ts All w' Al cl Ar cr A c (by omega) (hl.stay (Stay.below hb)) (hrr.stay (Stay.below hb)) (hs.stay (Stay.below hb)))
    have HNN := Lib.hid (fun w' (hb : Below w.heap.size w w') => nnf_any k n vl fl al vr fr ar ts Al cl Ar cr A c All w' (by omega) (hl.stay (Stay.below hb)) (hrr.stay (Stay.below hb)) (hs.stay (Stay.below hb)))
    have HHO := Lib.hid (fun w' (hb : Below w.heap.size w w') (hz : (Fm.mk k n (.mk vl fl al) (.mk vr fr ar) ts).rightE = 0) (hll : l.length ≤ 10) => holds0 _ k n vl fl al vr fr ar ts Al cl Ar cr A c All w' B cB l nn Aw cw rl (Nat.le_refl _) (by omega) (right_zero hz).1 hn1 hr1 (hNt.below hb) (hT.below hb) hBB (hl.stay (Stay.below hb)) (hrr.stay (Stay.below hb)) (hs.stay (Stay.below hb)))
    have HM := Lib.hid (fun h : (Fm.mk k n (.mk vl fl al) (.mk vr fr ar) ts).nnfE = 0 => And.intro (means_said (pk := pkW nn rl) (n := nn) (e := envL l) hn1.1 h) (nnf_said h hN))
    have HNT := Lib.hid hNt
    have HTH := Lib.hid hT
    have HBB := Lib.hid hBB
    have HN1 := Lib.hid (And.intro hn1 hr1)
    generalize hWW : (w.alloc (.cells #[.int .i64 k, .string n, .int .i64 vl, .string fl, .slice Al al.length cl, .int .i64 vr, .string fr, .slice Ar ar.length cr, .slice A ts.length c] 27)).alloc (.cells #[.int .i64 nn, .slice Aw rl.length cw] 36) = W
    have HB0 : Hid (Below w.heap.size w W) := Lib.hid (by rw [← hWW]; exact bel_two)
    have BF : Hid (Blk W w.heap.size 27 [.int .i64 k, .string n, .int .i64 vl, .string fl, .slice Al al.length cl, .int .i64 vr, .string fr, .slice Ar ar.length cr, .slice A ts.length c]) := Lib.hid (by rw [← hWW]; exact (Blk.new w 27 [.int .i64 k, .string n, .int .i64 vl, .string fl, .slice Al al.length cl, .int .i64 vr, .string fr, .slice Ar ar.length cr, .slice A ts.length c]).alloc _)
    have BW : Hid (Blk W (w.heap.size + 1) 36 [.int .i64 nn, .slice Aw rl.length cw]) := Lib.hid (by rw [← hWW]; exact Blk.new' _ (w.heap.size + 1) 36 [.int .i64 nn, .slice Aw rl.length cw] (by simp))
    have HWW := Lib.hid hWW
    clear hWW
    generalize (Fm.mk k n (.mk vl fl al) (.mk vr fr ar) ts).tru (pkW nn rl) nn (envL l) = b0 at *
    generalize Fm.nnfR (Fm.mk k n (.mk vl fl al) (.mk vr fr ar) ts) = nr at *
    generalize Fm.nnfE (Fm.mk k n (.mk vl fl al) (.mk vr fr ar) ts) = ne at *
    generalize Fm.rightE (Fm.mk k n (.mk vl fl al) (.mk vr fr ar) ts) = re at *
    clear hl hrr hs hN hs1 hr1 hn1 hNt hT hBB
    go_enter Tryz.func5, Tryz.ntmps5
    go_upto_region 1 with (fail)
    rw [HWW.out]
    have tk := BF.out.nine; have z0 := tk.c0; have z1 := tk.c1; have z2 := tk.c2; have z3 := tk.c3; have z4 := tk.c4; have z5 := tk.c5; have z6 := tk.c6; have z7 := tk.c7; have z8 := tk.c8; clear tk
    have x0 := BW.out.cell 0
    have x1 := BW.out.cell 1
    simp only [List.getElem?_cons_zero, List.getElem?_cons_succ] at x0 x1
    go_wp2_with fail
    refine (HRC.out _).mono ?_
    rintro e w1 ⟨rfl, hb1⟩
    have HB1 := Lib.hid (bel_go HB0.out hb1)
    have BF1 := Lib.hid (Blk.go BF.out hb1)
    have BW1 := Lib.hid (Blk.go BW.out hb1)
    clear hb1 HRC HB0 BF BW x0 x1 z0 z1 z2 z3 z4 z5 z6 z7 z8
    have tk := BF1.out.nine; have z0 := tk.c0; have z1 := tk.c1; have z2 := tk.c2; have z3 := tk.c3; have z4 := tk.c4; have z5 := tk.c5; have z6 := tk.c6; have z7 := tk.c7; have z8 := tk.c8; clear tk
    have x0 := BW1.out.cell 0
    have x1 := BW1.out.cell 1
    simp only [List.getElem?_cons_zero, List.getElem?_cons_succ] at x0 x1
    go_wp2_with fail
    refine (HFW.out _ HB1.out).mono ?_
    rintro e w2 ⟨⟨fb, rfl⟩, hb2⟩
    have HB2 := Lib.hid (bel_go HB1.out hb2)
    have BF2 := Lib.hid (Blk.go BF1.out hb2)
    have BW2 := Lib.hid (Blk.go BW1.out hb2)
    clear hb2 HFW HB1 BF1 BW1 x0 x1 z0 z1 z2 z3 z4 z5 z6 z7 z8
    cases fb
    case false =>
      go_wp2_with fail
      refine (alive_any _).mono ?_
      rintro e w9 ⟨rfl, hb9⟩
      have hB := bel_go HB2.out hb9
      go_wp2_with fail
      exact bodyPost_ret (v := .bool true) (by simp [results, Tryz.results5]) rfl ⟨rfl, hB⟩
    case true =>
      have tk := BF2.out.nine; have z0 := tk.c0; have z1 := tk.c1; have z2 := tk.c2; have z3 := tk.c3; have z4 := tk.c4; have z5 := tk.c5; have z6 := tk.c6; have z7 := tk.c7; have z8 := tk.c8; clear tk
      have x0 := BW2.out.cell 0
      have x1 := BW2.out.cell 1
      simp only [List.getElem?_cons_zero, List.getElem?_cons_succ] at x0 x1
      go_wp2_with fail
      refine (HRT.out _ HB2.out).mono ?_
      rintro e w3 ⟨rfl, hb3⟩
      have HB3 := Lib.hid (bel_go HB2.out hb3)
      have BF3 := Lib.hid (Blk.go BF2.out hb3)
      have BW3 := Lib.hid (Blk.go BW2.out hb3)
      clear hb3 HRT HB2 BF2 BW2 x0 x1 z0 z1 z2 z3 z4 z5 z6 z7 z8
      by_cases hre : re = 0
      rotate_left
      · have q1 : (re == 0) = false := by simpa using hre
        have q2 : (re != 0) = true := by simpa using hre
        go_wp2_with fail
        refine (alive_any _).mono ?_
        rintro e w9 ⟨rfl, hb9⟩
        have hB := bel_go HB3.out hb9
        go_wp2_with fail
        exact bodyPost_ret (v := .bool true) (by simp [results, Tryz.results5]) rfl ⟨rfl, hB⟩
      subst hre
      by_cases hlen : (l.length : Int) > 10
      · go_wp2_with fail
        refine (alive_any _).mono ?_
        rintro e w9 ⟨rfl, hb9⟩
        have hB := bel_go HB3.out hb9
        go_wp2_with fail
        exact bodyPost_ret (v := .bool true) (by simp [results, Tryz.results5]) rfl ⟨rfl, hB⟩
      have hll : l.length ≤ 10 := by omega
      have HLL := Lib.hid hll
      go_wp2_with fail
      go_loopw [7] (fun vi wl => ∃ i : Nat, vi = .int .i64 i ∧ i ≤ l.length ∧ Below w3.heap.size w3 wl) (fun vi _ => l.length - (intOf vi).toNat)
      case atStart => exact ⟨0, rfl, by omega, Below.refl _ _⟩
      case round =>
        obtain ⟨i, rfl, hi, hb⟩ := hrel
        have HB := Lib.hid hb
        clear hb
        have BF4 := Lib.hid (BF3.out.below HB.out BF3.out.lt)
        have BW4 := Lib.hid (BW3.out.below HB.out BW3.out.lt)
        by_cases hlt : i < l.length
        · obtain ⟨g, o, hB, hc⟩ := (HTH.out.below (bel_go HB3.out HB.out)) (by omega)
          obtain ⟨p0, p1⟩ := hc i hlt
          subst hB
          clear hc p0
          generalize l[i].2 = x at *
          have x0 := BW4.out.cell 0
          have x1 := BW4.out.cell 1
          simp only [List.getElem?_cons_zero, List.getElem?_cons_succ] at x0 x1
          have hi0 : (0 : Int) ≤ (i : Int) := by omega
          have hi1 : (i : Int) < (l.length : Int) := by omega
          have HLT := Lib.hid hlt
          go_upto_region 6 with (fail)
          by_cases hx : x < 0
          · have dx : decide (x < 0) = true := by simpa using hx
            have HD := Lib.hid (bel_go HB3.out (bel_go HB.out (bel_drew1 wr)))
            refine wp_region_held_drew (S := fun w' => Below wr.heap.size wr w') (by kernel_rfl) (bel_drew1 wr) (fun hHeld => ?_)
            refine wpAnyH_take (i := 0) (v := ?_) (by (simp only [List.getElem?_toArray, List.getElem?_cons_succ, List.getElem?_cons_zero]; rfl)) (by kernel_rfl) (by kernel_rfl) (by kernel_rfl) (by exact fun _ _ _ h => h) (Or.inl ⟨by rfl, ?_⟩) (by assumption) ?_
            rotate_left
            · (intro w' hSw; go_simp); all_goals (with_reducible rfl)
            (try simp only [Act.put, List.setIfInBounds_toArray, List.set_cons_zero, List.set_cons_succ])
            refine wpAnyH_take (i := 1) (v := ?_) (by (simp only [List.getElem?_toArray, List.getElem?_cons_succ, List.getElem?_cons_zero]; rfl)) (by kernel_rfl) (by kernel_rfl) (by kernel_rfl) (by exact fun _ _ _ h => h) (Or.inl ⟨by rfl, ?_⟩) (by assumption) ?_
            rotate_left
            · (intro w' hSw; go_simp); all_goals (with_reducible rfl)
            (try simp only [Act.put, List.setIfInBounds_toArray, List.set_cons_zero, List.set_cons_succ])
            refine wpAnyH_take (i := 2) (v := ?_) (by (simp only [List.getElem?_toArray, List.getElem?_cons_succ, List.getElem?_cons_zero]; rfl)) (by kernel_rfl) (by kernel_rfl) (by kernel_rfl) (by exact fun _ _ _ h => h) (Or.inl ⟨by rfl, ?_⟩) (by assumption) ?_
            rotate_left
            · (intro w' hSw; go_simp); all_goals (with_reducible rfl)
            (try simp only [Act.put, List.setIfInBounds_toArray, List.set_cons_zero, List.set_cons_succ])
            refine wpAnyH_take (i := 3) (v := ?_) (by (simp only [List.getElem?_toArray, List.getElem?_cons_succ, List.getElem?_cons_zero]; rfl)) (by kernel_rfl) (by kernel_rfl) (by kernel_rfl) (by exact fun _ _ _ h => h) (Or.inl ⟨by rfl, ?_⟩) (by assumption) ?_
            rotate_left
            · (intro w' hSw; go_simp); all_goals (with_reducible rfl)
            (try simp only [Act.put, List.setIfInBounds_toArray, List.set_cons_zero, List.set_cons_succ])
            refine wpAnyH_take (i := 4) (v := ?_) (by (simp only [List.getElem?_toArray, List.getElem?_cons_succ, List.getElem?_cons_zero]; rfl)) (by kernel_rfl) (by kernel_rfl) (by kernel_rfl) (by exact fun _ _ _ h => h) (Or.inl ⟨by rfl, ?_⟩) (by assumption) ?_
            rotate_left
            · (intro w' hSw; (try dsimp only at hSw); have x0 := keepc hSw x0; have p1 := keepc hSw p1; go_simp); all_goals (with_reducible rfl)
            (try simp only [Act.put, List.setIfInBounds_toArray, List.set_cons_zero, List.set_cons_succ])
            refine wpAnyH_take (i := 5) (v := ?_) (by (simp only [List.getElem?_toArray, List.getElem?_cons_succ, List.getElem?_cons_zero]; rfl)) (by kernel_rfl) (by kernel_rfl) (by kernel_rfl) (by exact fun _ _ _ h => h) (Or.inl ⟨by rfl, ?_⟩) (by assumption) ?_
            rotate_left
            · (intro w' hSw; go_simp); all_goals (with_reducible rfl)
            (try simp only [Act.put, List.setIfInBounds_toArray, List.set_cons_zero, List.set_cons_succ])
            refine wpAnyH_take (i := 6) (v := ?_) (by (simp only [List.getElem?_toArray, List.getElem?_cons_succ, List.getElem?_cons_zero]; rfl)) (by kernel_rfl) (by kernel_rfl) (by kernel_rfl) (by exact fun _ _ _ h => h) (Or.inl ⟨by rfl, ?_⟩) (by assumption) ?_
            rotate_left
            · (intro w' hSw; go_simp); all_goals (with_reducible rfl)
            (try simp only [Act.put, List.setIfInBounds_toArray, List.set_cons_zero, List.set_cons_succ])
            refine wpAnyH_take (i := 7) (v := undef) (by (simp only [List.getElem?_toArray, List.getElem?_cons_succ, List.getElem?_cons_zero]; rfl)) (by kernel_rfl) (by kernel_rfl) (by kernel_rfl) (by exact fun _ _ _ h => h) (Or.inr ⟨by rfl, rfl⟩) (by assumption) ?_
            (try simp only [Act.put, List.setIfInBounds_toArray, List.set_cons_zero, List.set_cons_succ])
            refine wpAnyH_take (i := 8) (v := undef) (by (simp only [List.getElem?_toArray, List.getElem?_cons_succ, List.getElem?_cons_zero]; rfl)) (by kernel_rfl) (by kernel_rfl) (by kernel_rfl) (by exact fun _ _ _ h => h) (Or.inr ⟨by rfl, rfl⟩) (by assumption) ?_
            (try simp only [Act.put, List.setIfInBounds_toArray, List.set_cons_zero, List.set_cons_succ])
            refine wpAnyH_take (i := 9) (v := undef) (by (simp only [List.getElem?_toArray, List.getElem?_cons_succ, List.getElem?_cons_zero]; rfl)) (by kernel_rfl) (by kernel_rfl) (by kernel_rfl) (by exact fun _ _ _ h => h) (Or.inr ⟨by rfl, rfl⟩) (by assumption) ?_
            (try simp only [Act.put, List.setIfInBounds_toArray, List.set_cons_zero, List.set_cons_succ])
            refine wpAnyH_take (i := 10) (v := undef) (by (simp only [List.getElem?_toArray, List.getElem?_cons_succ, List.getElem?_cons_zero]; rfl)) (by kernel_rfl) (by kernel_rfl) (by kernel_rfl) (by exact fun _ _ _ h => h) (Or.inr ⟨by rfl, rfl⟩) (by assumption) ?_
            (try simp only [Act.put, List.setIfInBounds_toArray, List.set_cons_zero, List.set_cons_succ])
            refine wpAnyH_take (i := 11) (v := undef) (by (simp only [List.getElem?_toArray, List.getElem?_cons_succ, List.getElem?_cons_zero]; rfl)) (by kernel_rfl) (by kernel_rfl) (by kernel_rfl) (by exact fun _ _ _ h => h) (Or.inr ⟨by rfl, rfl⟩) (by assumption) ?_
            (try simp only [Act.put, List.setIfInBounds_toArray, List.set_cons_zero, List.set_cons_succ])
            refine wpAnyH_take (i := 12) (v := undef) (by (simp only [List.getElem?_toArray, List.getElem?_cons_succ, List.getElem?_cons_zero]; rfl)) (by kernel_rfl) (by kernel_rfl) (by kernel_rfl) (by exact fun _ _ _ h => h) (Or.inr ⟨by rfl, rfl⟩) (by assumption) ?_
            (try simp only [Act.put, List.setIfInBounds_toArray, List.set_cons_zero, List.set_cons_succ])
            refine wpAnyH_take (i := 13) (v := undef) (by (simp only [List.getElem?_toArray, List.getElem?_cons_succ, List.getElem?_cons_zero]; rfl)) (by kernel_rfl) (by kernel_rfl) (by kernel_rfl) (by exact fun _ _ _ h => h) (Or.inr ⟨by rfl, rfl⟩) (by assumption) ?_
            (try simp only [Act.put, List.setIfInBounds_toArray, List.set_cons_zero, List.set_cons_succ])
            refine wpAnyH_take (i := 14) (v := undef) (by (simp only [List.getElem?_toArray, List.getElem?_cons_succ, List.getElem?_cons_zero]; rfl)) (by kernel_rfl) (by kernel_rfl) (by kernel_rfl) (by exact fun _ _ _ h => h) (Or.inr ⟨by rfl, rfl⟩) (by assumption) ?_
            (try simp only [Act.put, List.setIfInBounds_toArray, List.set_cons_zero, List.set_cons_succ])
            refine wpAnyH_take (i := 15) (v := ?_) (by (simp only [List.getElem?_toArray, List.getElem?_cons_succ, List.getElem?_cons_zero]; rfl)) (by kernel_rfl) (by kernel_rfl) (by kernel_rfl) (by exact fun _ _ _ h => h) (Or.inl ⟨by rfl, ?_⟩) (by assumption) ?_
            rotate_left
            · (intro w' hSw; go_simp); all_goals (with_reducible rfl)
            (try simp only [Act.put, List.setIfInBounds_toArray, List.set_cons_zero, List.set_cons_succ])
            refine wpAnyH_done (by kernel_rfl) ?_ _
            clear hHeld
            go_wp2_with fail
            refine (alive_any _).mono ?_
            rintro e w9 ⟨rfl, hb9⟩
            have hB := bel_go HD.out hb9
            go_wp2_with fail
            exact bodyPost_ret (v := .bool true) (by simp [results, Tryz.results5]) rfl ⟨rfl, hB⟩
          · have dx : decide (x < 0) = false := by simpa using hx
            have HD := Lib.hid (bel_go HB.out (bel_drew1 wr))
            have HD2 := Lib.hid (bel_go HB3.out HD.out)
            refine wp_region_held_drew (S := fun w' => Below wr.heap.size wr w') (by kernel_rfl) (bel_drew1 wr) (fun hHeld => ?_)
            refine wpAnyH_take (i := 0) (v := ?_) (by (simp only [List.getElem?_toArray, List.getElem?_cons_succ, List.getElem?_cons_zero]; rfl)) (by kernel_rfl) (by kernel_rfl) (by kernel_rfl) (by exact fun _ _ _ h => h) (Or.inl ⟨by rfl, ?_⟩) (by assumption) ?_
            rotate_left
            · (intro w' hSw; go_simp); all_goals (with_reducible rfl)
            (try simp only [Act.put, List.setIfInBounds_toArray, List.set_cons_zero, List.set_cons_succ])
            refine wpAnyH_take (i := 1) (v := ?_) (by (simp only [List.getElem?_toArray, List.getElem?_cons_succ, List.getElem?_cons_zero]; rfl)) (by kernel_rfl) (by kernel_rfl) (by kernel_rfl) (by exact fun _ _ _ h => h) (Or.inl ⟨by rfl, ?_⟩) (by assumption) ?_
            rotate_left
            · (intro w' hSw; go_simp); all_goals (with_reducible rfl)
            (try simp only [Act.put, List.setIfInBounds_toArray, List.set_cons_zero, List.set_cons_succ])
            refine wpAnyH_take (i := 2) (v := ?_) (by (simp only [List.getElem?_toArray, List.getElem?_cons_succ, List.getElem?_cons_zero]; rfl)) (by kernel_rfl) (by kernel_rfl) (by kernel_rfl) (by exact fun _ _ _ h => h) (Or.inl ⟨by rfl, ?_⟩) (by assumption) ?_
            rotate_left
            · (intro w' hSw; go_simp); all_goals (with_reducible rfl)
            (try simp only [Act.put, List.setIfInBounds_toArray, List.set_cons_zero, List.set_cons_succ])
            refine wpAnyH_take (i := 3) (v := ?_) (by (simp only [List.getElem?_toArray, List.getElem?_cons_succ, List.getElem?_cons_zero]; rfl)) (by kernel_rfl) (by kernel_rfl) (by kernel_rfl) (by exact fun _ _ _ h => h) (Or.inl ⟨by rfl, ?_⟩) (by assumption) ?_
            rotate_left
            · (intro w' hSw; go_simp); all_goals (with_reducible rfl)
            (try simp only [Act.put, List.setIfInBounds_toArray, List.set_cons_zero, List.set_cons_succ])
            refine wpAnyH_take (i := 4) (v := ?_) (by (simp only [List.getElem?_toArray, List.getElem?_cons_succ, List.getElem?_cons_zero]; rfl)) (by kernel_rfl) (by kernel_rfl) (by kernel_rfl) (by exact fun _ _ _ h => h) (Or.inl ⟨by rfl, ?_⟩) (by assumption) ?_
            rotate_left
            · (intro w' hSw; (try dsimp only at hSw); have x0 := keepc hSw x0; have p1 := keepc hSw p1; go_simp); all_goals (with_reducible rfl)
            (try simp only [Act.put, List.setIfInBounds_toArray, List.set_cons_zero, List.set_cons_succ])
            refine wpAnyH_take (i := 5) (v := ?_) (by (simp only [List.getElem?_toArray, List.getElem?_cons_succ, List.getElem?_cons_zero]; rfl)) (by kernel_rfl) (by kernel_rfl) (by kernel_rfl) (by exact fun _ _ _ h => h) (Or.inl ⟨by rfl, ?_⟩) (by assumption) ?_
            rotate_left
            · (intro w' hSw; go_simp); all_goals (with_reducible rfl)
            (try simp only [Act.put, List.setIfInBounds_toArray, List.set_cons_zero, List.set_cons_succ])
            refine wpAnyH_take (i := 6) (v := ?_) (by (simp only [List.getElem?_toArray, List.getElem?_cons_succ, List.getElem?_cons_zero]; rfl)) (by kernel_rfl) (by kernel_rfl) (by kernel_rfl) (by exact fun _ _ _ h => h) (Or.inl ⟨by rfl, ?_⟩) (by assumption) ?_
            rotate_left
            · (intro w' hSw; go_simp); all_goals (with_reducible rfl)
            (try simp only [Act.put, List.setIfInBounds_toArray, List.set_cons_zero, List.set_cons_succ])
            refine wpAnyH_take (i := 7) (v := ?_) (by (simp only [List.getElem?_toArray, List.getElem?_cons_succ, List.getElem?_cons_zero]; rfl)) (by kernel_rfl) (by kernel_rfl) (by kernel_rfl) (by exact fun _ _ _ h => h) (Or.inl ⟨by rfl, ?_⟩) (by assumption) ?_
            rotate_left
            · (intro w' hSw; go_simp); all_goals (with_reducible rfl)
            (try simp only [Act.put, List.setIfInBounds_toArray, List.set_cons_zero, List.set_cons_succ])
            refine wpAnyH_take (i := 8) (v := ?_) (by (simp only [List.getElem?_toArray, List.getElem?_cons_succ, List.getElem?_cons_zero]; rfl)) (by kernel_rfl) (by kernel_rfl) (by kernel_rfl) (by exact fun _ _ _ h => h) (Or.inl ⟨by rfl, ?_⟩) (by assumption) ?_
            rotate_left
            · (intro w' hSw; go_simp); all_goals (with_reducible rfl)
            (try simp only [Act.put, List.setIfInBounds_toArray, List.set_cons_zero, List.set_cons_succ])
            refine wpAnyH_take (i := 9) (v := ?_) (by (simp only [List.getElem?_toArray, List.getElem?_cons_succ, List.getElem?_cons_zero]; rfl)) (by kernel_rfl) (by kernel_rfl) (by kernel_rfl) (by exact fun _ _ _ h => h) (Or.inl ⟨by rfl, ?_⟩) (by assumption) ?_
            rotate_left
            · (intro w' hSw; go_simp); all_goals (with_reducible rfl)
            (try simp only [Act.put, List.setIfInBounds_toArray, List.set_cons_zero, List.set_cons_succ])
            refine wpAnyH_take (i := 10) (v := ?_) (by (simp only [List.getElem?_toArray, List.getElem?_cons_succ, List.getElem?_cons_zero]; rfl)) (by kernel_rfl) (by kernel_rfl) (by kernel_rfl) (by exact fun _ _ _ h => h) (Or.inl ⟨by rfl, ?_⟩) (by assumption) ?_
            rotate_left
            · (intro w' hSw; go_simp); all_goals (with_reducible rfl)
            (try simp only [Act.put, List.setIfInBounds_toArray, List.set_cons_zero, List.set_cons_succ])
            refine wpAnyH_take (i := 11) (v := ?_) (by (simp only [List.getElem?_toArray, List.getElem?_cons_succ, List.getElem?_cons_zero]; rfl)) (by kernel_rfl) (by kernel_rfl) (by kernel_rfl) (by exact fun _ _ _ h => h) (Or.inl ⟨by rfl, ?_⟩) (by assumption) ?_
            rotate_left
            · (intro w' hSw; (try dsimp only at hSw); have x0 := keepc hSw x0; have p1 := keepc hSw p1; go_simp); all_goals (with_reducible rfl)
            (try simp only [Act.put, List.setIfInBounds_toArray, List.set_cons_zero, List.set_cons_succ])
            refine wpAnyH_take (i := 12) (v := ?_) (by (simp only [List.getElem?_toArray, List.getElem?_cons_succ, List.getElem?_cons_zero]; rfl)) (by kernel_rfl) (by kernel_rfl) (by kernel_rfl) (by exact fun _ _ _ h => h) (Or.inl ⟨by rfl, ?_⟩) (by assumption) ?_
            rotate_left
            · (intro w' hSw; go_simp); all_goals (with_reducible rfl)
            (try simp only [Act.put, List.setIfInBounds_toArray, List.set_cons_zero, List.set_cons_succ])
            refine wpAnyH_take (i := 13) (v := ?_) (by (simp only [List.getElem?_toArray, List.getElem?_cons_succ, List.getElem?_cons_zero]; rfl)) (by kernel_rfl) (by kernel_rfl) (by kernel_rfl) (by exact fun _ _ _ h => h) (Or.inl ⟨by rfl, ?_⟩) (by assumption) ?_
            rotate_left
            · (intro w' hSw; (try dsimp only at hSw); have x0 := keepc hSw x0; have p1 := keepc hSw p1; go_simp); all_goals (with_reducible rfl)
            (try simp only [Act.put, List.setIfInBounds_toArray, List.set_cons_zero, List.set_cons_succ])
            refine wpAnyH_take (i := 14) (v := ?_) (by (simp only [List.getElem?_toArray, List.getElem?_cons_succ, List.getElem?_cons_zero]; rfl)) (by kernel_rfl) (by kernel_rfl) (by kernel_rfl) (by exact fun _ _ _ h => h) (Or.inl ⟨by rfl, ?_⟩) (by assumption) ?_
            rotate_left
            · (intro w' hSw; go_simp); all_goals (with_reducible rfl)
            (try simp only [Act.put, List.setIfInBounds_toArray, List.set_cons_zero, List.set_cons_succ])
            refine wpAnyH_take (i := 15) (v := ?_) (by (simp only [List.getElem?_toArray, List.getElem?_cons_succ, List.getElem?_cons_zero]; rfl)) (by kernel_rfl) (by kernel_rfl) (by kernel_rfl) (by exact fun _ _ _ h => h) (Or.inl ⟨by rfl, ?_⟩) (by assumption) ?_
            rotate_left
            · (intro w' hSw; go_simp); all_goals (with_reducible rfl)
            (try simp only [Act.put, List.setIfInBounds_toArray, List.set_cons_zero, List.set_cons_succ])
            refine wpAnyH_done (by kernel_rfl) ?_ _
            clear hHeld
            by_cases hx2 : x ≥ (nn : Int)
            · go_wp2_with fail
              refine (alive_any _).mono ?_
              rintro e w9 ⟨rfl, hb9⟩
              have hB := bel_go HD2.out hb9
              go_wp2_with fail
              exact bodyPost_ret (v := .bool true) (by simp [results, Tryz.results5]) rfl ⟨rfl, hB⟩
            · go_wp2_with fail
              go_roundw
              case rel => exact ⟨i + 1, by go_num, HLT.out, HD.out⟩
              case measure => have := HLT.out; simp [intOf]; omega
        · obtain rfl : i = l.length := by omega
          have d1 : decide (l.length < l.length) = false := by simp
          have HB4 := Lib.hid (bel_go HB3.out HB.out)
          have HC1 := Lib.hid (HHO.out wr HB4.out (by trivial) HLL.out)
          clear HHO HB3 HB BF3 BW3
          have tk := BF4.out.nine; have z0 := tk.c0; have z1 := tk.c1; have z2 := tk.c2; have z3 := tk.c3; have z4 := tk.c4; have z5 := tk.c5; have z6 := tk.c6; have z7 := tk.c7; have z8 := tk.c8; clear tk
          have x0 := BW4.out.cell 0
          have x1 := BW4.out.cell 1
          simp only [List.getElem?_cons_zero, List.getElem?_cons_succ] at x0 x1
          go_wp2_with fail
          refine HC1.out.mono ?_
          rintro e w5 ⟨rfl, hb5⟩
          have HB5 := Lib.hid (bel_go HB4.out hb5)
          have BF5 := Lib.hid (Blk.go BF4.out hb5)
          have BW5 := Lib.hid (Blk.go BW4.out hb5)
          clear hb5 HC1 HB4 BF4 BW4 x0 x1 z0 z1 z2 z3 z4 z5 z6 z7 z8
          have tk := BF5.out.nine; have z0 := tk.c0; have z1 := tk.c1; have z2 := tk.c2; have z3 := tk.c3; have z4 := tk.c4; have z5 := tk.c5; have z6 := tk.c6; have z7 := tk.c7; have z8 := tk.c8; clear tk
          go_wp2_with fail
          refine (HNN.out _ HB5.out).mono ?_
          rintro e wv ⟨hres, hbv⟩
          obtain ⟨gk1, gn1, gvl1, gfl1, gal1, gvr1, gfr1, gar1, gts1, gAl1, gcl1, gAr1, gcr1, gA1, gc1, hg1, rfl, gr1⟩ := hres.all
          clear hres
          go_upto_region 10 with (fail)
          have hBv := bel_go HB5.out hbv
          have HB1 := Lib.hid (Below.alloc hBv hBv.size (.cells #[.int .i64 gk1, .string gn1, .int .i64 gvl1, .string gfl1, .slice gAl1 gal1.length gcl1, .int .i64 gvr1, .string gfr1, .slice gAr1 gar1.length gcr1, .slice gA1 gts1.length gc1] 27))
          have GR1 := Lib.hid (r3 gr1 (Stay.al (.cells #[.int .i64 gk1, .string gn1, .int .i64 gvl1, .string gfl1, .slice gAl1 gal1.length gcl1, .int .i64 gvr1, .string gfr1, .slice gAr1 gar1.length gcr1, .slice gA1 gts1.length gc1] 27)))
          have B1 := Lib.hid (Blk.new wv 27 [.int .i64 gk1, .string gn1, .int .i64 gvl1, .string gfl1, .slice gAl1 gal1.length gcl1, .int .i64 gvr1, .string gfr1, .slice gAr1 gar1.length gcr1, .slice gA1 gts1.length gc1])
          have HG1 := Lib.hid hg1
          have BF6 := Lib.hid ((Blk.go BF5.out hbv).alloc (.cells #[.int .i64 gk1, .string gn1, .int .i64 gvl1, .string gfl1, .slice gAl1 gal1.length gcl1, .int .i64 gvr1, .string gfr1, .slice gAr1 gar1.length gcr1, .slice gA1 gts1.length gc1] 27))
          have BW6 := Lib.hid ((Blk.go BW5.out hbv).alloc (.cells #[.int .i64 gk1, .string gn1, .int .i64 gvl1, .string gfl1, .slice gAl1 gal1.length gcl1, .int .i64 gvr1, .string gfr1, .slice gAr1 gar1.length gcr1, .slice gA1 gts1.length gc1] 27))
          simp only [List.toArray] at B1
          generalize hgz : wv.heap.size = g6 at *
          generalize hWz : wv.alloc (.cells #[.int .i64 gk1, .string gn1, .int .i64 gvl1, .string gfl1, .slice gAl1 gal1.length gcl1, .int .i64 gvr1, .string gfr1, .slice gAr1 gar1.length gcr1, .slice gA1 gts1.length gc1] 27) = W6 at *
          clear hgz hWz hbv hBv gr1 hg1
          clear z0 z1 z2 z3 z4 z5 z6 z7 z8 HB5 BF5 BW5 BF6 HNN
          by_cases hne : ne = 0
          rotate_left
          · have q1 : (ne == 0) = false := by simpa using hne
            have q2 : (ne != 0) = true := by simpa using hne
            go_wp2_with fail
            refine (alive_any _).mono ?_
            rintro e w9 ⟨rfl, hb9⟩
            have hB := bel_go HB1.out hb9
            go_wp2_with fail
            exact bodyPost_ret (v := .bool true) (by simp [results, Tryz.results5]) rfl ⟨rfl, hB⟩
          · subst hne
            have hm := HM.out rfl
            rw [HG1.out] at hm
            obtain ⟨⟨t1, t2, t3⟩, s1, s2, s3, s4, s5, s6, s7⟩ := hm
            clear s2 s4 s6 s7 HM HG1
            have HBz := Lib.hid (Below.refl W6.heap.size W6)
            have HZ := Lib.hid (fun w' (hb : Below W6.heap.size W6 w') => rfsize0 1125899906842624 gk1 gn1 gvl1 gfl1 gal1 gvr1 gfr1 gar1 gts1 All w' gAl1 gcl1 gAr1 gcr1 gA1 gc1 (by omega) (by omega) (GR1.out.1.stay (Stay.below hb)) (GR1.out.2.1.stay (Stay.below hb)) (GR1.out.2.2.stay (Stay.below hb)))
            have HS := Lib.hid (And.intro s1 (And.intro s5 (And.intro t1 (And.intro t2 t3))))
            clear s1 s3 s5 t1 t2 t3
            generalize hsz : Fm.size (Fm.mk gk1 gn1 (.mk gvl1 gfl1 gal1) (.mk gvr1 gfr1 gar1) gts1) = sz at HZ
            have HSZ := Lib.hid hsz
            clear hsz
            have tk := B1.out.nine; have z0 := tk.c0; have z1 := tk.c1; have z2 := tk.c2; have z3 := tk.c3; have z4 := tk.c4; have z5 := tk.c5; have z6 := tk.c6; have z7 := tk.c7; have z8 := tk.c8; clear tk
            go_wp2_with fail
            refine (HZ.out _ HBz.out).mono ?_
            rintro e w7 ⟨rfl, hb7⟩
            have HC7 := Lib.hid hb7
            have HB7 := Lib.hid (bel_go HB1.out hb7)
            have B17 := Lib.hid (Blk.go B1.out hb7)
            have BW7 := Lib.hid (Blk.go BW6.out hb7)
            clear hb7 HZ B1 BW6 z0 z1 z2 z3 z4 z5 z6 z7 z8
            by_cases hz : (sz : Int) > 2000
            · go_wp2_with fail
              refine (alive_any _).mono ?_
              rintro e w9 ⟨rfl, hb9⟩
              have hB := bel_go HB7.out hb9
              go_wp2_with fail
              exact bodyPost_ret (v := .bool true) (by simp [results, Tryz.results5]) rfl ⟨rfl, hB⟩
            · obtain ⟨s1, s5, t1, t2, t3⟩ := HS.out
              have hmb := means_bounds (Nat.le_refl _) s1 s5 (by have := HSZ.out; omega)
              have hmi : Fm.miniE (Fm.mk gk1 gn1 (.mk gvl1 gfl1 gal1) (.mk gvr1 gfr1 gar1) gts1) = 0 → (Fm.miniR (Fm.mk gk1 gn1 (.mk gvl1 gfl1 gal1) (.mk gvr1 gfr1 gar1) gts1)).tru (pkW nn rl) nn (envL l) = b0 ∧ (Fm.miniR (Fm.mk gk1 gn1 (.mk gvl1 gfl1 gal1) (.mk gvr1 gfr1 gar1) gts1)).rightE = 0 ∧ (Fm.miniR (Fm.mk gk1 gn1 (.mk gvl1 gfl1 gal1) (.mk gvr1 gfr1 gar1) gts1)).wt ≤ 1090000000000 := fun h => ⟨(t3 h).1, (t3 h).2, by rw [(mini_zero h).2.2.2]; have := Fm.mini_wt _ s1; omega⟩
              have HRG := fun w' (hb : Below W6.heap.size W6 w') => rright_any gk1 gn1 gvl1 gfl1 gal1 gvr1 gfr1 gar1 gts1 All w' gAl1 gcl1 gAr1 gcr1 gA1 gc1 (by omega) (GR1.out.1.stay (Stay.below hb)) (GR1.out.2.1.stay (Stay.below hb)) (GR1.out.2.2.stay (Stay.below hb))
              rw [t2] at HRG
              have HRG := Lib.hid HRG
              have HHG := fun w' (hb : Below w.heap.size w w') (hb6 : Below W6.heap.size W6 w') => holds0 _ gk1 gn1 gvl1 gfl1 gal1 gvr1 gfr1 gar1 gts1 gAl1 gcl1 gAr1 gcr1 gA1 gc1 All w' B cB l nn Aw cw rl (Nat.le_refl _) (by have := HLL.out; omega) s1 HN1.out.1 HN1.out.2 (HNT.out.below hb) (HTH.out.below hb) HBB.out (GR1.out.1.stay (Stay.below hb6)) (GR1.out.2.1.stay (Stay.below hb6)) (GR1.out.2.2.stay (Stay.below hb6))
              rw [t1] at HHG
              have HHG := Lib.hid HHG
              have HMI := Lib.hid (fun w' (hb : Below W6.heap.size W6 w') => mini_at gk1 gn1 gvl1 gfl1 gal1 gvr1 gfr1 gar1 gts1 gAl1 gcl1 gAr1 gcr1 gA1 gc1 All w' (by omega) hmb.2 (GR1.out.1.stay (Stay.below hb)) (GR1.out.2.1.stay (Stay.below hb)) (GR1.out.2.2.stay (Stay.below hb)))
              have HMX := Lib.hid hmi
              generalize Fm.miniR (Fm.mk gk1 gn1 (.mk gvl1 gfl1 gal1) (.mk gvr1 gfr1 gar1) gts1) = mx at *
              generalize Fm.miniE (Fm.mk gk1 gn1 (.mk gvl1 gfl1 gal1) (.mk gvr1 gfr1 gar1) gts1) = ex at *
              clear s1 s5 t1 t2 t3 hmb hmi HS HSZ
              have tk := B17.out.nine; have z0 := tk.c0; have z1 := tk.c1; have z2 := tk.c2; have z3 := tk.c3; have z4 := tk.c4; have z5 := tk.c5; have z6 := tk.c6; have z7 := tk.c7; have z8 := tk.c8; clear tk
              go_wp2_with fail
              refine (HRG.out _ HC7.out).mono ?_
              rintro e w8 ⟨rfl, hb8⟩
              have HC8 := Lib.hid (bel_go HC7.out hb8)
              have HB8 := Lib.hid (bel_go HB7.out hb8)
              have B18 := Lib.hid (Blk.go B17.out hb8)
              have BW8 := Lib.hid (Blk.go BW7.out hb8)
              clear hb8 HRG HB7 HC7 B17 BW7 z0 z1 z2 z3 z4 z5 z6 z7 z8
              have tk := B18.out.nine; have z0 := tk.c0; have z1 := tk.c1; have z2 := tk.c2; have z3 := tk.c3; have z4 := tk.c4; have z5 := tk.c5; have z6 := tk.c6; have z7 := tk.c7; have z8 := tk.c8; clear tk
              go_wp2_with fail
              refine (HMI.out _ HC8.out).mono ?_
              rintro e wv ⟨hres, hbv⟩
              obtain ⟨gk2, gn2, gvl2, gfl2, gal2, gvr2, gfr2, gar2, gts2, gAl2, gcl2, gAr2, gcr2, gA2, gc2, hg2, rfl, gr2⟩ := hres.all
              clear hres
              go_upto_region 15 with (fail)
              have hBv := bel_go HB8.out hbv
              have HB2 := Lib.hid (Below.alloc hBv hBv.size (.cells #[.int .i64 gk2, .string gn2, .int .i64 gvl2, .string gfl2, .slice gAl2 gal2.length gcl2, .int .i64 gvr2, .string gfr2, .slice gAr2 gar2.length gcr2, .slice gA2 gts2.length gc2] 27))
              have HC9 := Lib.hid (Below.alloc (bel_go HC8.out hbv) (bel_go HC8.out hbv).size (.cells #[.int .i64 gk2, .string gn2, .int .i64 gvl2, .string gfl2, .slice gAl2 gal2.length gcl2, .int .i64 gvr2, .string gfr2, .slice gAr2 gar2.length gcr2, .slice gA2 gts2.length gc2] 27))
              have GR2 := Lib.hid (r3 gr2 (Stay.al (.cells #[.int .i64 gk2, .string gn2, .int .i64 gvl2, .string gfl2, .slice gAl2 gal2.length gcl2, .int .i64 gvr2, .string gfr2, .slice gAr2 gar2.length gcr2, .slice gA2 gts2.length gc2] 27)))
              have B2 := Lib.hid (Blk.new wv 27 [.int .i64 gk2, .string gn2, .int .i64 gvl2, .string gfl2, .slice gAl2 gal2.length gcl2, .int .i64 gvr2, .string gfr2, .slice gAr2 gar2.length gcr2, .slice gA2 gts2.length gc2])
              have HG2 := Lib.hid hg2
              have B19 := Lib.hid ((Blk.go B18.out hbv).alloc (.cells #[.int .i64 gk2, .string gn2, .int .i64 gvl2, .string gfl2, .slice gAl2 gal2.length gcl2, .int .i64 gvr2, .string gfr2, .slice gAr2 gar2.length gcr2, .slice gA2 gts2.length gc2] 27))
              have BW9 := Lib.hid ((Blk.go BW8.out hbv).alloc (.cells #[.int .i64 gk2, .string gn2, .int .i64 gvl2, .string gfl2, .slice gAl2 gal2.length gcl2, .int .i64 gvr2, .string gfr2, .slice gAr2 gar2.length gcr2, .slice gA2 gts2.length gc2] 27))
              simp only [List.toArray] at B2
              generalize hgz : wv.heap.size = ga at *
              generalize hWz : wv.alloc (.cells #[.int .i64 gk2, .string gn2, .int .i64 gvl2, .string gfl2, .slice gAl2 gal2.length gcl2, .int .i64 gvr2, .string gfr2, .slice gAr2 gar2.length gcr2, .slice gA2 gts2.length gc2] 27) = Wa at *
              clear hgz hWz hbv hBv gr2 hg2
              clear z0 z1 z2 z3 z4 z5 z6 z7 z8 HB8 HC8 B18 BW8 HMI
              have q0 : (b0 == b0) = true := by simp
              by_cases hex : ex = 0
              rotate_left
              · have q1 : (ex == 0) = false := by simpa using hex
                have q2 : (ex != 0) = true := by simpa using hex
                have tk := B19.out.nine; have z0 := tk.c0; have z1 := tk.c1; have z2 := tk.c2; have z3 := tk.c3; have z4 := tk.c4; have z5 := tk.c5; have z6 := tk.c6; have z7 := tk.c7; have z8 := tk.c8; clear tk
                have x0 := BW9.out.cell 0
                have x1 := BW9.out.cell 1
                simp only [List.getElem?_cons_zero, List.getElem?_cons_succ] at x0 x1
                go_wp2_with fail
                refine (HHG.out _ HB2.out HC9.out).mono ?_
                rintro e wc ⟨rfl, hbc⟩
                have HBc := Lib.hid (bel_go HB2.out hbc)
                clear hbc
                go_wp2_with fail
                refine (alive_any _).mono ?_
                rintro e w9 ⟨rfl, hb9⟩
                have hB := bel_go HBc.out hb9
                go_wp2_with fail
                exact bodyPost_ret (v := .bool true) (by simp [results, Tryz.results5]) rfl ⟨rfl, hB⟩
              · subst hex
                have hmx := HMX.out rfl
                rw [HG2.out] at hmx
                obtain ⟨m1, m2, m3⟩ := hmx
                have HRH := fun w' (hb : Below Wa.heap.size Wa w') => rright_any gk2 gn2 gvl2 gfl2 gal2 gvr2 gfr2 gar2 gts2 All w' gAl2 gcl2 gAr2 gcr2 gA2 gc2 (by omega) (GR2.out.1.stay (Stay.below hb)) (GR2.out.2.1.stay (Stay.below hb)) (GR2.out.2.2.stay (Stay.below hb))
                rw [m2] at HRH
                have HRH := Lib.hid HRH
                have HHH := fun w' (hb : Below w.heap.size w w') (hb6 : Below Wa.heap.size Wa w') => holds0 _ gk2 gn2 gvl2 gfl2 gal2 gvr2 gfr2 gar2 gts2 gAl2 gcl2 gAr2 gcr2 gA2 gc2 All w' B cB l nn Aw cw rl (Nat.le_refl _) (by have := HLL.out; omega) (right_zero m2).1 HN1.out.1 HN1.out.2 (HNT.out.below hb) (HTH.out.below hb) HBB.out (GR2.out.1.stay (Stay.below hb6)) (GR2.out.2.1.stay (Stay.below hb6)) (GR2.out.2.2.stay (Stay.below hb6))
                rw [m1] at HHH
                have HHH := Lib.hid HHH
                clear m1 m2 m3 HMX HG2
                have tk := B2.out.nine; have z0 := tk.c0; have z1 := tk.c1; have z2 := tk.c2; have z3 := tk.c3; have z4 := tk.c4; have z5 := tk.c5; have z6 := tk.c6; have z7 := tk.c7; have z8 := tk.c8; clear tk
                go_wp2_with fail
                refine (HRH.out _ (Below.refl _ _)).mono ?_
                rintro e wb ⟨rfl, hbb⟩
                have HBb := Lib.hid (bel_go HB2.out hbb)
                have HCb := Lib.hid (bel_go HC9.out hbb)
                have HDb := Lib.hid hbb
                have B1b := Lib.hid (Blk.go B19.out hbb)
                have B2b := Lib.hid (Blk.go B2.out hbb)
                have BWb := Lib.hid (Blk.go BW9.out hbb)
                clear hbb HRH HB2 HC9 B19 B2 BW9 z0 z1 z2 z3 z4 z5 z6 z7 z8
                have tk := B1b.out.nine; have z0 := tk.c0; have z1 := tk.c1; have z2 := tk.c2; have z3 := tk.c3; have z4 := tk.c4; have z5 := tk.c5; have z6 := tk.c6; have z7 := tk.c7; have z8 := tk.c8; clear tk
                have x0 := BWb.out.cell 0
                have x1 := BWb.out.cell 1
                simp only [List.getElem?_cons_zero, List.getElem?_cons_succ] at x0 x1
                go_wp2_with fail
                refine (HHG.out _ HBb.out HCb.out).mono ?_
                rintro e wc ⟨rfl, hbc⟩
                have HBc := Lib.hid (bel_go HBb.out hbc)
                have HDc := Lib.hid (bel_go HDb.out hbc)
                have B2c := Lib.hid (Blk.go B2b.out hbc)
                have BWc := Lib.hid (Blk.go BWb.out hbc)
                clear hbc HHG HBb HCb B1b B2b BWb x0 x1 z0 z1 z2 z3 z4 z5 z6 z7 z8
                have tk := B2c.out.nine; have z0 := tk.c0; have z1 := tk.c1; have z2 := tk.c2; have z3 := tk.c3; have z4 := tk.c4; have z5 := tk.c5; have z6 := tk.c6; have z7 := tk.c7; have z8 := tk.c8; clear tk
                have x0 := BWc.out.cell 0
                have x1 := BWc.out.cell 1
                simp only [List.getElem?_cons_zero, List.getElem?_cons_succ] at x0 x1
                go_wp2_with fail
                refine (HHH.out _ HBc.out HDc.out).mono ?_
                rintro e wd ⟨rfl, hbd⟩
                have HBd := Lib.hid (bel_go HBc.out hbd)
                clear hbd
                go_wp2_with fail
                refine (alive_any _).mono ?_
                rintro e w9 ⟨rfl, hb9⟩
                have hB := bel_go HBd.out hb9
                go_wp2_with fail
                exact bodyPost_ret (v := .bool true) (by simp [results, Tryz.results5]) rfl ⟨rfl, hB⟩
end Go.Proofs.YtndjjnnljihmnaaGreat
