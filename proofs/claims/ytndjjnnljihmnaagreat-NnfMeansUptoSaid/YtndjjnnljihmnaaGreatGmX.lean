/- Does a formula hold, in a world? Holds: quantifiers, and all. -/
import Derived.Test.YtndjjnnljihmnaaGreatGmW
namespace Go.Proofs.YtndjjnnljihmnaaGreat
open Go.RowKit Go.Proofs.YtndjjnnljihmnaaGreat.Lx
set_option linter.unusedVariables false
set_option linter.unusedSimpArgs false
section
variable {P : Program}
/-- An append, at a step of a region that draws: what its run is known to leave. -/
theorem step_app {w : World} {ops : Array Oper} {o : Oper} {a : Act} {K : Act → World → Prop} {Q : Exit → Act → World → Prop} {E : Prop} (R : Value → World → Prop) (hgd : o.guard = none) (s x : Operand) (t : TypeId)
    (ho : o.op = .call { callee := .builtin .append, args := #[s, x], argTypes := #[t, t] }) (v xv : Value) (hs : a.eval s = v) (hx : a.eval x = xv) (hr : ∃ v' w', (Builtin.append_ #[t, t] o.type #[v, xv]).run P w = .ok v' w' ∧ R v' w')
    (h : ∀ v' w', R v' w' → K (a.put o.dst v') w') : if Region.wanted o (yielded ops a.tmps) = true then Oper.wp P o a w K Q else E := by
  have hw : Region.wanted o (yielded ops a.tmps) = true := by simp [Region.wanted, hgd]
  rw [if_pos hw]
  obtain ⟨v', w', hr, h2⟩ := hr
  unfold Oper.wp execOp
  simp only [ho, resolve, invoke, builtin, Sem.run_bind, Sem.run_pure, Result.andThen_ok, List.map_toArray, List.map_cons, List.map_nil, hs, hx, hr]
  exact h v' w' h2
end
theorem infoH : (Tryz.prog.info? 40).map (fun i => (i.zero, i.size, i.bytes)) = some (some (.agg #[.string ⟨#[]⟩, .int .i64 0]), 2, 24) := by kernel_rfl
def hcells (l : List (ByteArray × Int)) : List Value := l.flatMap fun p => [.string p.1, .int .i64 p.2]
theorem hcells_cons (p : ByteArray × Int) (l : List (ByteArray × Int)) : hcells (p :: l) = .string p.1 :: .int .i64 p.2 :: hcells l := by simp [hcells]
theorem hcells_snoc (l : List (ByteArray × Int)) (p : ByteArray × Int) : hcells (l ++ [p]) = hcells l ++ [.string p.1, .int .i64 p.2] := by simp [hcells]
theorem hcells_len : ∀ l : List (ByteArray × Int), (hcells l).length = l.length * 2
  | [] => rfl
  | p :: l => by rw [hcells_cons, List.length_cons, List.length_cons, hcells_len l, List.length_cons]; omega
theorem hcells_one : ∀ l : List (ByteArray × Int), ∀ u ∈ hcells l, u.oneCell' = true
  | [], u, h => by simp [hcells] at h
  | p :: l, u, h => by
    rw [hcells_cons, List.mem_cons, List.mem_cons] at h
    rcases h with rfl | rfl | h
    · rfl
    · rfl
    · exact hcells_one l u h
theorem hcells_lies {W : World} {g : Nat} : ∀ (l : List (ByteArray × Int)) (o : Nat), (∀ (j : Nat) (h : j < l.length), W.cell? ⟨g, o + j * 2, none⟩ = some (.string l[j].1) ∧ W.cell? ⟨g, o + j * 2 + 1, none⟩ = some (.int .i64 l[j].2)) → ∀ j u, (hcells l)[j]? = some u → W.cell? ⟨g, o + j, none⟩ = some u
  | [], o, _, j, u, hu => by simp [hcells] at hu
  | p :: l, o, h, j, u, hu => by
    rw [hcells_cons] at hu
    have h0 := h 0 (by simp)
    match j, hu with
    | 0, hu => cases hu; simpa using h0.1
    | 1, hu => cases hu; simpa using h0.2
    | j + 2, hu =>
      have := hcells_lies l (o + 2) (fun i hi => by
        have h1 := h (i + 1) (by simpa using hi)
        rw [show o + (i + 1) * 2 = o + 2 + i * 2 by omega] at h1
        simpa using h1) j u (by simpa using hu)
      rw [show o + (j + 2) = o + 2 + j by omega]
      exact this
theorem hcells_at : ∀ (l : List (ByteArray × Int)) (j : Nat) (h : j < l.length), (hcells l)[j * 2]? = some (.string l[j].1) ∧ (hcells l)[j * 2 + 1]? = some (.int .i64 l[j].2)
  | p :: l, 0, _ => by rw [hcells_cons]; exact ⟨rfl, rfl⟩
  | p :: l, j + 1, h => by
    have := hcells_at l j (by simpa using h)
    rw [hcells_cons, show (j + 1) * 2 = j * 2 + 1 + 1 by omega]
    simpa using this
theorem add_none (g o j : Nat) : (⟨g, o, none⟩ : Addr).add j = ⟨g, o + j, none⟩ := by
  by_cases h0 : j = 0
  · subst h0; rfl
  · simp [Addr.add, h0]
theorem row_ths {W : World} {base : Nat} {v : Value} {l : List (ByteArray × Int)} {n : Nat} (hn : n = l.length) (h : W.ownsRow base 40 2 v n (hcells l)) : ∃ A c, v = .slice A n c ∧ Ths W A l := by
  obtain ⟨A, c, rfl⟩ := row_slice h
  refine ⟨A, c, rfl, fun h0 => ?_⟩
  obtain ⟨g, c', e, _, _, hc⟩ := row_cells h (by omega)
  injection e with e1 _ e2
  subst e1
  exact ⟨g, 0, rfl, fun j hj => ⟨by rw [Nat.zero_add]; exact hc _ _ (hcells_at l j hj).1, by rw [Nat.zero_add]; exact hc _ _ (hcells_at l j hj).2⟩⟩
theorem grown_refl (w : World) (row : Option Nat) : w.grownBy w row := ⟨rfl, rfl, rfl, Nat.le_refl _, fun _ _ _ => rfl⟩
set_option maxRecDepth 20000 in
theorem app_all {W : World} {base g0 : Nat} (HO : W.ownsRow base 40 2 (.slice (some ⟨g0, 0, none⟩) 0 0) 0 []) (hb : base ≤ W.heap.size) (B : Option Addr) (cB : Nat) (l : List (ByteArray × Int)) (hB : (B = none ∧ l = [] ∧ cB = 0) ∨ ∃ a, B = some a) (hT : Ths W B l) (hl : l.length ≤ 1099511627776) :
    ∃ v' w', (Builtin.append_ #[37, 37] 37 #[.slice (some ⟨g0, 0, none⟩) 0 0, .slice B l.length cB]).run Tryz.prog W = .ok v' w' ∧ (w'.ownsRow base 40 2 v' l.length (hcells l) ∧ W.grownBy w' (some g0)) := by
  obtain ⟨i0, hi, hz0, hz1, hz2⟩ := info_parts infoH
  rcases hB with ⟨rfl, rfl, rfl⟩ | ⟨ad, rfl⟩
  · refine ⟨_, W, ?_, HO, grown_refl _ _⟩
    simp [Builtin.append_, run_underlying Tryz.underlying37, sizeOf, typeInfo, hi, Builtin.lenOf, Builtin.firstCells, storeCells]
  · obtain ⟨v', w', h1, h2, h3, _, h5⟩ := run_append_own_at (P := Tryz.prog) W base 37 37 40 i0 _ 2 24 Tryz.underlying37 hi hz0 hz1 hz2 rfl (by decide) _ 0 [] HO ad l.length cB (hcells l) (hcells_len l)
      (fun j u hu => by
        by_cases h0 : 0 < l.length
        · obtain ⟨g', o', e, hc⟩ := hT h0
          injection e with e
          subst e
          rw [add_none]
          exact hcells_lies l _ hc j u hu
        · have : l = [] := List.eq_nil_of_length_eq_zero (by omega)
          subst this
          simp [hcells] at hu) (hcells_one l) (by unfold maxLen; omega) (by omega) hb
    exact ⟨v', w', h1, by simpa using h2, h3⟩
theorem qsem_hit {k : Int} {n : Nat} {p : Nat → Bool} {x : Nat} (hx : x < n) (h : p x = (k == 8)) : qsem k n p = (k == 8) := by
  unfold qsem
  by_cases h8 : k = 8
  · rw [if_pos h8]
    subst h8
    have : p x = true := h
    rw [show ((8 : Int) == 8) = true from rfl, List.any_eq_true]
    exact ⟨x, by simpa using hx, this⟩
  · have e : (k == 8) = false := by simpa using h8
    rw [e] at h ⊢
    rw [if_neg h8]
    rw [← Bool.not_eq_true, List.all_eq_true]
    intro hall
    have := hall x (by simpa using hx)
    rw [h] at this; cases this
theorem qsem_end {k : Int} {n : Nat} {p : Nat → Bool} (h : ∀ y, y < n → p y = !(k == 8)) : qsem k n p = !(k == 8) := by
  unfold qsem
  by_cases h8 : k = 8
  · rw [if_pos h8]
    subst h8
    rw [show (!((8 : Int) == 8)) = false from rfl, ← Bool.not_eq_true, List.any_eq_true]
    rintro ⟨y, hy, hp⟩
    have := h y (by simpa using hy)
    rw [show (!((8 : Int) == 8)) = false from rfl] at this
    rw [this] at hp; cases hp
  · have e : (k == 8) = false := by simpa using h8
    rw [if_neg h8, e]
    rw [e] at h
    rw [show (!false) = true from rfl, List.all_eq_true]
    intro y hy
    exact h y (by simpa using hy)
theorem own_empty {W : World} {base g : Nat} (h : Blk W g 40 []) (hb : base ≤ g) : W.ownsRow base 40 2 (.slice (some ⟨g, 0, none⟩) 0 0) 0 [] := ⟨rfl, .inr ⟨g, 0, #[], rfl, hb, h, Nat.le_refl _, by unfold maxLen; omega, rfl, rfl⟩⟩
set_option maxRecDepth 100000 in
set_option maxHeartbeats 12800000 in
theorem holdsQ (N : Nat) (ih : HoldsAt 15 N) (k : Int) (n : ByteArray) (vl : Int) (fl : ByteArray) (al : List Tm) (vr : Int) (fr : ByteArray) (ar : List Tm) (ts : List Fm) (Al : Option Addr) (cl : Nat) (Ar : Option Addr) (cr : Nat) (A : Option Addr) (c : Nat) (S : Nat → Prop) (w : World) (B : Option Addr) (cB : Nat) (l : List (ByteArray × Int)) (nn : Nat) (Aw : Option Addr) (cw : Nat) (rl : List Int) (hk : k = 7 ∨ k = 8) (a1 : Fm) (hts : ts = [a1]) (hsh1 : a1.shape = true) (hN : (Fm.mk k n (.mk vl fl al) (.mk vr fr ar) ts).wt ≤ N + 1) (hB : (Fm.mk k n (.mk vl fl al) (.mk vr fr ar) ts).wt + l.length ≤ 1099511627776) (hn : 1 ≤ nn ∧ nn ≤ 3) (hr : 0 < rl.length ∧ rl.length ≤ 64) (hNt : Nts w Aw rl) (hT : Ths w B l) (hBB : (B = none ∧ l = [] ∧ cB = 0) ∨ ∃ a, B = some a) (hl : ST S w Al al.length cl al) (hrr : ST S w Ar ar.length cr ar) (hs : SF S w A ts.length c ts) : Calls Tryz.prog 15 #[.agg #[.int .i64 nn, .slice Aw rl.length cw], .agg #[.int .i64 k, .string n, .int .i64 vl, .string fl, .slice Al al.length cl, .int .i64 vr, .string fr, .slice Ar ar.length cr, .slice A ts.length c], .slice B l.length cB] w fun e w' => e = .returned (.bool ((Fm.mk k n (.mk vl fl al) (.mk vr fr ar) ts).tru (pkW nn rl) nn (envL l))) ∧ Below w.heap.size w w' := by
  have hv : (Fm.mk k n (.mk vl fl al) (.mk vr fr ar) ts).tru (pkW nn rl) nn (envL l) = qsem k nn (fun x : Nat => a1.tru (pkW nn rl) nn (envL (l ++ [(n, (x : Int))]))) := by
    rw [hts, Fm.tru]
    rcases hk with rfl | rfl <;> (rw [if_neg (by decide), if_neg (by decide), if_neg (by decide), if_neg (by decide), if_neg (by decide), if_neg (by decide), if_neg (by decide), if_neg (by decide)]; simp only [Fm.trus, fst1, envL_snoc])
  have hw1 : a1.wt ≤ N ∧ a1.wt + (l.length + 1) ≤ 1099511627776 := by rw [Fm.wt, hts, Fm.wts, Fm.wts] at hB hN; omega
  generalize (Fm.mk k n (.mk vl fl al) (.mk vr fr ar) ts).tru (pkW nn rl) nn (envL l) = res at *
  have HV0 := Lib.hid hv
  have HLB := Lib.hid (show l.length ≤ 1099511627776 by omega)
  generalize hWW : (w.alloc (.cells #[.int .i64 nn, .slice Aw rl.length cw] 36)).alloc (.cells #[.int .i64 k, .string n, .int .i64 vl, .string fl, .slice Al al.length cl, .int .i64 vr, .string fr, .slice Ar ar.length cr, .slice A ts.length c] 27) = W
  have HB0 : Hid (Below w.heap.size w W) := Lib.hid (by rw [← hWW]; exact bel_two)
  have B0 : Hid (Blk W w.heap.size 36 [.int .i64 nn, .slice Aw rl.length cw]) := Lib.hid (by rw [← hWW]; exact (Blk.new w 36 [.int .i64 nn, .slice Aw rl.length cw]).alloc _)
  have B1 : Hid (Blk W (w.heap.size + 1) 27 [.int .i64 k, .string n, .int .i64 vl, .string fl, .slice Al al.length cl, .int .i64 vr, .string fr, .slice Ar ar.length cr, .slice A ts.length c]) := Lib.hid (by rw [← hWW]; exact Blk.new' _ (w.heap.size + 1) 27 [.int .i64 k, .string n, .int .i64 vl, .string fl, .slice Al al.length cl, .int .i64 vr, .string fr, .slice Ar ar.length cr, .slice A ts.length c] (by simp))
  have HWW := Lib.hid hWW
  clear hWW
  have hl := hl.stay (Stay.below HB0.out)
  have hrr := hrr.stay (Stay.below HB0.out)
  have hs := hs.stay (Stay.below HB0.out)
  have hNt := hNt.below HB0.out
  have hT := hT.below HB0.out
  clear hv hN hB
  obtain ⟨b, o, hA1, k1, n1, vl1, fl1, al1, vr1, fr1, ar1, ts1, Al1, cl1, Ar1, cr1, A1, c1, hm1, hl1, hr1, hs1, hp⟩ := hs.at 0 (by rw [hts]; simp)
  simp only [hts, List.getElem_cons_zero] at hm1
  subst hA1
  simp only [Nat.zero_mul, Nat.add_zero] at hp
  have hw1' : (Fm.mk k1 n1 (.mk vl1 fl1 al1) (.mk vr1 fr1 ar1) ts1).wt ≤ N ∧ (Fm.mk k1 n1 (.mk vl1 fl1 al1) (.mk vr1 fr1 ar1) ts1).wt + (l.length + 1) ≤ 1099511627776 := by rw [← hm1]; exact hw1
  have hsh1' : (Fm.mk k1 n1 (.mk vl1 fl1 al1) (.mk vr1 fr1 ar1) ts1).shape = true := by rw [← hm1]; exact hsh1
  have hBB0 := hBB
  have HC : Hid (∀ w' g5 c5 (x : Nat), Below W.heap.size W w' → Ths w' (some ⟨g5, 0, none⟩) (l ++ [(n, (x : Int))]) → Calls Tryz.prog 15 #[.agg #[.int .i64 nn, .slice Aw rl.length cw], .agg #[.int .i64 k1, .string n1, .int .i64 vl1, .string fl1, .slice Al1 al1.length cl1, .int .i64 vr1, .string fr1, .slice Ar1 ar1.length cr1, .slice A1 ts1.length c1], .slice (some ⟨g5, 0, none⟩) (l.length + 1) c5] w' fun e w2 => e = .returned (.bool ((fun x : Nat => a1.tru (pkW nn rl) nn (envL (l ++ [(n, (x : Int))]))) x)) ∧ Below w'.heap.size w' w2) := Lib.hid (fun w' g5 c5 x hb hth => by
    have h := ih k1 n1 vl1 fl1 al1 vr1 fr1 ar1 ts1 Al1 cl1 Ar1 cr1 A1 c1 S w' (some ⟨g5, 0, none⟩) c5 (l ++ [(n, (x : Int))]) nn Aw cw rl hw1'.1 (by rw [List.length_append]; exact hw1'.2) hsh1' hn hr (hNt.below hb) hth (Or.inr ⟨_, rfl⟩) (hl1.stay (Stay.below hb)) (hr1.stay (Stay.below hb)) (hs1.stay (Stay.below hb))
    rw [List.length_append] at h
    rw [hm1]
    exact h)
  generalize hp0 : (fun x : Nat => a1.tru (pkW nn rl) nn (envL (l ++ [(n, (x : Int))]))) = p at *
  clear hp0
  have HPP := Lib.hid hp
  have HTH := Lib.hid hT
  have HBB := Lib.hid hBB
  have HN := Lib.hid hn
  have HV : Hid (res = qsem k nn p) := HV0
  have hi0 : (0 : Int) < (ts.length : Int) := by rw [hts]; simp
  have hj0 : 0 < ts.length := by rw [hts]; simp
  clear hts hs hl hrr hNt hT hBB hBB0 ih hn hr HV0 hp hm1 hl1 hr1 hs1 hw1 hw1' hsh1 hsh1'
  have HKK := Lib.hid hk
  have e1 : (k == 1) = false := by rcases hk with rfl | rfl <;> rfl
  have e9 : (k == 9) = false := by rcases hk with rfl | rfl <;> rfl
  have e10 : (k == 10) = false := by rcases hk with rfl | rfl <;> rfl
  have e2 : (k == 2) = false := by rcases hk with rfl | rfl <;> rfl
  have e3 : (k == 3) = false := by rcases hk with rfl | rfl <;> rfl
  have e4 : (k == 4) = false := by rcases hk with rfl | rfl <;> rfl
  have e5 : (k == 5) = false := by rcases hk with rfl | rfl <;> rfl
  have e6 : (k == 6) = false := by rcases hk with rfl | rfl <;> rfl
  clear hk
  go_enter Tryz.func15, Tryz.ntmps15
  go_upto_region 1 with (fail)
  rw [HWW.out]
  have z0 := B0.out.cell 0
  have z1 := B0.out.cell 1
  simp only [List.getElem?_cons_zero, List.getElem?_cons_succ] at z0 z1
  have tk := B1.out.nine; have y0 := tk.c0; have y1 := tk.c1; have y2 := tk.c2; have y3 := tk.c3; have y4 := tk.c4; have y5 := tk.c5; have y6 := tk.c6; have y7 := tk.c7; have y8 := tk.c8; clear tk
  go_wp2_with fail
  go_loopw [7] (fun vi wl => ∃ x : Nat, vi = .int .i64 x ∧ x ≤ nn ∧ (∀ y, y < x → p y = !(k == 8)) ∧ Below W.heap.size W wl) (fun vi _ => nn - (intOf vi).toNat)
  case atStart => exact ⟨0, rfl, by omega, fun y hy => absurd hy (by omega), Below.refl _ _⟩
  case round =>
    obtain ⟨x, rfl, hx, hq, hb⟩ := hrel
    have HQ := Lib.hid hq
    have HB := Lib.hid hb
    clear hq hb z0 z1 y0 y1 y2 y3 y4 y5 y6 y7 y8
    have C0 := Lib.hid (B0.out.below HB.out B0.out.lt)
    have C1 := Lib.hid (B1.out.below HB.out B1.out.lt)
    have z0 := C0.out.cell 0
    have z1 := C0.out.cell 1
    simp only [List.getElem?_cons_zero, List.getElem?_cons_succ] at z0 z1
    have tk := C1.out.nine; have y0 := tk.c0; have y1 := tk.c1; have y2 := tk.c2; have y3 := tk.c3; have y4 := tk.c4; have y5 := tk.c5; have y6 := tk.c6; have y7 := tk.c7; have y8 := tk.c8; clear tk
    by_cases hlt : x < nn
    · have hp := HPP.out
      obtain ⟨p0, p1, p2, p3, p4, p5, p6, p7, p8⟩ := hp
      have p0 := keepc HB.out p0
      have p1 := keepc HB.out p1
      have p2 := keepc HB.out p2
      have p3 := keepc HB.out p3
      have p4 := keepc HB.out p4
      have p5 := keepc HB.out p5
      have p6 := keepc HB.out p6
      have p7 := keepc HB.out p7
      have p8 := keepc HB.out p8
      have HLT := Lib.hid hlt
      have HCX := Lib.hid (fun w' g5 c5 (hb : Below wr.heap.size wr w') => HC.out w' g5 c5 x (bel_go HB.out hb))
      have hTr := HTH.out.below HB.out
      have hn3 : (x : Int) ≤ 1152921504606846976 := by have := HN.out; omega
      have HT1 := Lib.hid hTr
      clear hTr
      generalize hpx : p x = bx at HCX
      have HPX : Hid (p x = bx) := Lib.hid hpx
      clear hpx
      go_upto_region 21 with (fail)
      refine wp_region_held_drew (S := (fun w' => Below wr.heap.size wr w')) (by kernel_rfl) (bel_drew1 wr) (fun hHeld => ?_)
      refine wpAnyH_take (i := 0) (v := ?_) (by (simp only [List.getElem?_toArray, List.getElem?_cons_succ, List.getElem?_cons_zero]; rfl)) (by kernel_rfl) (by kernel_rfl) (by kernel_rfl) (by exact fun _ _ _ h => h) (Or.inl ⟨by rfl, ?_⟩) (by assumption) ?_
      rotate_left
      · (intro w' hSw; (try dsimp only at hSw); have z0 := keepc hSw z0; have z1 := keepc hSw z1; have y0 := keepc hSw y0; have y1 := keepc hSw y1; have y8 := keepc hSw y8; have p0 := keepc hSw p0; have p1 := keepc hSw p1; have p2 := keepc hSw p2; have p3 := keepc hSw p3; have p4 := keepc hSw p4; have p5 := keepc hSw p5; have p6 := keepc hSw p6; have p7 := keepc hSw p7; have p8 := keepc hSw p8; go_simp); all_goals (with_reducible rfl)
      (try simp only [Act.put, List.setIfInBounds_toArray, List.set_cons_zero, List.set_cons_succ])
      refine wpAnyH_take (i := 1) (v := ?_) (by (simp only [List.getElem?_toArray, List.getElem?_cons_succ, List.getElem?_cons_zero]; rfl)) (by kernel_rfl) (by kernel_rfl) (by kernel_rfl) (by exact fun _ _ _ h => h) (Or.inl ⟨by rfl, ?_⟩) (by assumption) ?_
      rotate_left
      · (intro w' hSw; go_simp); all_goals (with_reducible rfl)
      (try simp only [Act.put, List.setIfInBounds_toArray, List.set_cons_zero, List.set_cons_succ])
      refine wpAnyH_take (i := 2) (v := ?_) (by (simp only [List.getElem?_toArray, List.getElem?_cons_succ, List.getElem?_cons_zero]; rfl)) (by kernel_rfl) (by kernel_rfl) (by kernel_rfl) (by exact fun _ _ _ h => h) (Or.inl ⟨by rfl, ?_⟩) (by assumption) ?_
      rotate_left
      · (intro w' hSw; (try dsimp only at hSw); have z0 := keepc hSw z0; have z1 := keepc hSw z1; have y0 := keepc hSw y0; have y1 := keepc hSw y1; have y8 := keepc hSw y8; have p0 := keepc hSw p0; have p1 := keepc hSw p1; have p2 := keepc hSw p2; have p3 := keepc hSw p3; have p4 := keepc hSw p4; have p5 := keepc hSw p5; have p6 := keepc hSw p6; have p7 := keepc hSw p7; have p8 := keepc hSw p8; go_simp); all_goals (with_reducible rfl)
      (try simp only [Act.put, List.setIfInBounds_toArray, List.set_cons_zero, List.set_cons_succ])
      refine wpAnyH_take (i := 3) (v := ?_) (by (simp only [List.getElem?_toArray, List.getElem?_cons_succ, List.getElem?_cons_zero]; rfl)) (by kernel_rfl) (by kernel_rfl) (by kernel_rfl) (by exact fun _ _ _ h => h) (Or.inl ⟨by rfl, ?_⟩) (by assumption) ?_
      rotate_left
      · (intro w' hSw; go_simp); all_goals (with_reducible rfl)
      (try simp only [Act.put, List.setIfInBounds_toArray, List.set_cons_zero, List.set_cons_succ])
      refine wpAnyH_take (i := 4) (v := ?_) (by (simp only [List.getElem?_toArray, List.getElem?_cons_succ, List.getElem?_cons_zero]; rfl)) (by kernel_rfl) (by kernel_rfl) (by kernel_rfl) (by exact fun _ _ _ h => h) (Or.inl ⟨by rfl, ?_⟩) (by assumption) ?_
      rotate_left
      · (intro w' hSw; (try dsimp only at hSw); have z0 := keepc hSw z0; have z1 := keepc hSw z1; have y0 := keepc hSw y0; have y1 := keepc hSw y1; have y8 := keepc hSw y8; have p0 := keepc hSw p0; have p1 := keepc hSw p1; have p2 := keepc hSw p2; have p3 := keepc hSw p3; have p4 := keepc hSw p4; have p5 := keepc hSw p5; have p6 := keepc hSw p6; have p7 := keepc hSw p7; have p8 := keepc hSw p8; go_simp); all_goals (with_reducible rfl)
      (try simp only [Act.put, List.setIfInBounds_toArray, List.set_cons_zero, List.set_cons_succ])
      refine wpAnyH_take (i := 6) (v := ?_) (by (simp only [List.getElem?_toArray, List.getElem?_cons_succ, List.getElem?_cons_zero]; rfl)) (by kernel_rfl) (by kernel_rfl) (by kernel_rfl) (by exact fun _ _ _ h => h) (Or.inl ⟨by rfl, ?_⟩) (by assumption) ?_
      rotate_left
      · (intro w' hSw; go_simp); all_goals (with_reducible rfl)
      (try simp only [Act.put, List.setIfInBounds_toArray, List.set_cons_zero, List.set_cons_succ])
      refine wpAnyH_take (i := 8) (v := ?_) (by (simp only [List.getElem?_toArray, List.getElem?_cons_succ, List.getElem?_cons_zero]; rfl)) (by kernel_rfl) (by kernel_rfl) (by kernel_rfl) (by exact fun _ _ _ h => h) (Or.inl ⟨by rfl, ?_⟩) (by assumption) ?_
      rotate_left
      · (intro w' hSw; go_simp); all_goals (with_reducible rfl)
      (try simp only [Act.put, List.setIfInBounds_toArray, List.set_cons_zero, List.set_cons_succ])
      refine wpAnyH_take (i := 9) (v := ?_) (by (simp only [List.getElem?_toArray, List.getElem?_cons_succ, List.getElem?_cons_zero]; rfl)) (by kernel_rfl) (by kernel_rfl) (by kernel_rfl) (by exact fun _ _ _ h => h) (Or.inl ⟨by rfl, ?_⟩) (by assumption) ?_
      rotate_left
      · (intro w' hSw; (try dsimp only at hSw); have z0 := keepc hSw z0; have z1 := keepc hSw z1; have y0 := keepc hSw y0; have y1 := keepc hSw y1; have y8 := keepc hSw y8; have p0 := keepc hSw p0; have p1 := keepc hSw p1; have p2 := keepc hSw p2; have p3 := keepc hSw p3; have p4 := keepc hSw p4; have p5 := keepc hSw p5; have p6 := keepc hSw p6; have p7 := keepc hSw p7; have p8 := keepc hSw p8; go_simp); all_goals (with_reducible rfl)
      (try simp only [Act.put, List.setIfInBounds_toArray, List.set_cons_zero, List.set_cons_succ])
      refine wpAnyH_take (i := 10) (v := ?_) (by (simp only [List.getElem?_toArray, List.getElem?_cons_succ, List.getElem?_cons_zero]; rfl)) (by kernel_rfl) (by kernel_rfl) (by kernel_rfl) (by exact fun _ _ _ h => h) (Or.inl ⟨by rfl, ?_⟩) (by assumption) ?_
      rotate_left
      · (intro w' hSw; go_simp); all_goals (with_reducible rfl)
      (try simp only [Act.put, List.setIfInBounds_toArray, List.set_cons_zero, List.set_cons_succ])
      refine wpAnyH_take (i := 11) (v := ?_) (by (simp only [List.getElem?_toArray, List.getElem?_cons_succ, List.getElem?_cons_zero]; rfl)) (by kernel_rfl) (by kernel_rfl) (by kernel_rfl) (by exact fun _ _ _ h => h) (Or.inl ⟨by rfl, ?_⟩) (by assumption) ?_
      rotate_left
      · (intro w' hSw; go_simp); all_goals (with_reducible rfl)
      (try simp only [Act.put, List.setIfInBounds_toArray, List.set_cons_zero, List.set_cons_succ])
      refine wpAnyH_take (i := 15) (v := ?_) (by (simp only [List.getElem?_toArray, List.getElem?_cons_succ, List.getElem?_cons_zero]; rfl)) (by kernel_rfl) (by kernel_rfl) (by kernel_rfl) (by exact fun _ _ _ h => h) (Or.inl ⟨by rfl, ?_⟩) (by assumption) ?_
      rotate_left
      · (intro w' hSw; go_simp); all_goals (with_reducible rfl)
      (try simp only [Act.put, List.setIfInBounds_toArray, List.set_cons_zero, List.set_cons_succ])
      refine wpAnyH_take (i := 16) (v := ?_) (by (simp only [List.getElem?_toArray, List.getElem?_cons_succ, List.getElem?_cons_zero]; rfl)) (by kernel_rfl) (by kernel_rfl) (by kernel_rfl) (by exact fun _ _ _ h => h) (Or.inl ⟨by rfl, ?_⟩) (by assumption) ?_
      rotate_left
      · (intro w' hSw; (try dsimp only at hSw); have z0 := keepc hSw z0; have z1 := keepc hSw z1; have y0 := keepc hSw y0; have y1 := keepc hSw y1; have y8 := keepc hSw y8; have p0 := keepc hSw p0; have p1 := keepc hSw p1; have p2 := keepc hSw p2; have p3 := keepc hSw p3; have p4 := keepc hSw p4; have p5 := keepc hSw p5; have p6 := keepc hSw p6; have p7 := keepc hSw p7; have p8 := keepc hSw p8; go_simp); all_goals (with_reducible rfl)
      (try simp only [Act.put, List.setIfInBounds_toArray, List.set_cons_zero, List.set_cons_succ])
      refine wpAnyH_take (i := 17) (v := ?_) (by (simp only [List.getElem?_toArray, List.getElem?_cons_succ, List.getElem?_cons_zero]; rfl)) (by kernel_rfl) (by kernel_rfl) (by kernel_rfl) (by exact fun _ _ _ h => h) (Or.inl ⟨by rfl, ?_⟩) (by assumption) ?_
      rotate_left
      · (intro w' hSw; go_simp); all_goals (with_reducible rfl)
      (try simp only [Act.put, List.setIfInBounds_toArray, List.set_cons_zero, List.set_cons_succ])
      obtain ⟨i0, hi0', hz0, hz1, hz2⟩ := info_parts infoH
      refine wpAnyH_ready (rs := [5, 12]) (by kernel_rfl) (by simp) ?_
      refine AllReadyH.cons (by (simp only [List.getElem?_toArray, List.getElem?_cons_succ, List.getElem?_cons_zero]; rfl)) (fun K hK => ?_) (AllReadyH.cons (by (simp only [List.getElem?_toArray, List.getElem?_cons_succ, List.getElem?_cons_zero]; rfl)) (fun K hK => ?_) AllReadyH.nil)
      · go_simp
        refine hK.out _ _ ((bel_drew1 wr).alloc (bel_drew1 wr).size (.cells #[] 40)) (fun hHeld => ?_)
        clear hK K
        (try simp only [Act.put, List.setIfInBounds_toArray, List.set_cons_zero, List.set_cons_succ])
        refine wpAnyH_ready (rs := [7, 12]) (by kernel_rfl) (by simp) ?_
        refine AllReadyH.cons (by (simp only [List.getElem?_toArray, List.getElem?_cons_succ, List.getElem?_cons_zero]; rfl)) (fun K hK => ?_) (AllReadyH.cons (by (simp only [List.getElem?_toArray, List.getElem?_cons_succ, List.getElem?_cons_zero]; rfl)) (fun K hK => ?_) AllReadyH.nil)
        · refine step_app (fun v' w' => w'.ownsRow wr.heap.size 40 2 v' l.length (hcells l) ∧ (wr.drew.alloc (.cells #[] 40)).grownBy w' (some (wr.heap.size))) (by rfl) _ _ _ (by rfl) (.slice (some ⟨wr.heap.size, 0, none⟩) 0 0) (.slice B l.length cB) (by rfl) (by rfl) (app_all (own_empty ((Blk.new wr.drew 40 [])) (by simp)) ((bel_drew1 wr).alloc (bel_drew1 wr).size (.cells #[] 40)).size B cB l HBB.out (HT1.out.below ((bel_drew1 wr).alloc (bel_drew1 wr).size (.cells #[] 40))) HLB.out) ?_
          rintro v9 w10 ⟨hro9, hgr9⟩
          have hb10 : Below wr.heap.size wr w10 := ((bel_drew1 wr).alloc (bel_drew1 wr).size (.cells #[] 40)).trans ((Fr.of_grown hgr9).below (B := wr.heap.size) ((bel_drew1 wr).alloc (bel_drew1 wr).size (.cells #[] 40)).size (fun k hk => by injection hk with hk; omega))
          refine hK.out _ _ (hb10) (fun hHeld => ?_)
          clear hK K
          (try simp only [Act.put, List.setIfInBounds_toArray, List.set_cons_zero, List.set_cons_succ])
          refine wpAnyH_ready (rs := [12]) (by kernel_rfl) (by simp) ?_
          refine AllReadyH.cons (by (simp only [List.getElem?_toArray, List.getElem?_cons_succ, List.getElem?_cons_zero]; rfl)) (fun K hK => ?_) AllReadyH.nil
          go_simp
          refine hK.out _ _ ((hb10.alloc hb10.size (.cells #[.string n, .int .i64 x] 40))) (fun hHeld => ?_)
          clear hK K
          (try simp only [Act.put, List.setIfInBounds_toArray, List.set_cons_zero, List.set_cons_succ])
          refine wpAnyH_ready (rs := [13]) (by kernel_rfl) (by simp) ?_
          refine AllReadyH.cons (by (simp only [List.getElem?_toArray, List.getElem?_cons_succ, List.getElem?_cons_zero]; rfl)) (fun K hK => ?_) AllReadyH.nil
          have HSZ := (hb10.alloc hb10.size (.cells #[.string n, .int .i64 x] 40)).size
          refine step_append_lies _ (by rfl) _ _ _ (by rfl) wr.heap.size 40 i0 _ 2 24 Tryz.underlying37 hi0' hz0 hz1 hz2 (by rfl) (by omega) v9 l.length (hcells l) (by rfl) (hro9.alloc _) ⟨w10.heap.size, 0, none⟩ 1 1 [.string n, .int .i64 x] (by rfl) (by rfl) (World.news_of_block (cs := #[.string n, .int .i64 x]) (t := 40) (fr := (0, 0)) (heap_alloc_new w10 _)) (by intro u hu; simp at hu; rcases hu with rfl | rfl <;> rfl) (by omega) (by have := HLB.out; unfold maxLen; omega) (by have := HLB.out; omega) HSZ _ rfl ?_
          intro g5 c5 w11 hro5 hgr5 hat5 hlt5
          have hb11 : Below wr.heap.size wr w11 := ((hb10.alloc hb10.size (.cells #[.string n, .int .i64 x] 40))).trans ((Fr.of_grown hgr5).below (B := wr.heap.size) ((hb10.alloc hb10.size (.cells #[.string n, .int .i64 x] 40))).size (fun k hk => row_low hro9 hk))
          have hth5 : Ths w11 (some ⟨g5, 0, none⟩) (l ++ [(n, (x : Int))]) := by
            obtain ⟨A9, c9, e9, h9⟩ := row_ths (l := l ++ [(n, (x : Int))]) (by rw [List.length_append]) (by rw [hcells_snoc]; exact hro5)
            injection e9 with e9 _ _
            subst e9
            exact h9
          have HC11 := Lib.hid (HCX.out w11 g5 c5 hb11 hth5)
          have HB11 := Lib.hid hb11
          clear hro5 hgr5 hat5 hlt5 hro9 hgr9 hth5
          refine hK.out _ _ (hb11) (fun hHeld => ?_)
          clear hK K
          (try simp only [Act.put, List.setIfInBounds_toArray, List.set_cons_zero, List.set_cons_succ])
          clear hb11
          refine wpAnyH_ready (rs := [14]) (by kernel_rfl) (by simp) ?_
          refine AllReadyH.cons (by (simp only [List.getElem?_toArray, List.getElem?_cons_succ, List.getElem?_cons_zero]; rfl)) (fun K hK => ?_) AllReadyH.nil
          go_simp
          go_at_call 15
          refine HC11.out.mono ?_
          rintro e w12 ⟨rfl, hb12⟩
          have HB12 := Lib.hid (bel_go HB11.out hb12)
          clear hb12
          go_wp2_with fail
          refine hK.out _ _ (HB12.out) (fun hHeld => ?_)
          clear hK K
          (try simp only [Act.put, List.setIfInBounds_toArray, List.set_cons_zero, List.set_cons_succ])
          refine wpAnyH_take (i := 18) (v := ?_) (by (simp only [List.getElem?_toArray, List.getElem?_cons_succ, List.getElem?_cons_zero]; rfl)) (by kernel_rfl) (by kernel_rfl) (by kernel_rfl) (by exact fun _ _ _ h => h) (Or.inl ⟨by rfl, ?_⟩) (by assumption) ?_
          rotate_left
          · (intro w' hSw; go_simp); all_goals (with_reducible rfl)
          (try simp only [Act.put, List.setIfInBounds_toArray, List.set_cons_zero, List.set_cons_succ])
          refine wpAnyH_done (by kernel_rfl) ?_ _
          clear hHeld
          have HB2 := Lib.hid (bel_go HB.out HB12.out)
          clear HB12 HC11 HB11
          have y0 := (B1.out.below HB2.out B1.out.lt).nine.c0
          go_wp2_with fail
          rotate_left
          · rename_i hx9
            have hx8 : (bx == (k == 8)) = false := hx9
            have HX8 := Lib.hid (show p x = !(k == 8) by rw [HPX.out]; revert hx8; cases bx <;> cases (k == 8) <;> simp)
            clear hx8
            go_roundw
            case rel =>
              exact ⟨x + 1, by go_num, HLT.out, fun y hy => by
                by_cases hyx : y = x
                · subst hyx; exact HX8.out
                · exact HQ.out y (by omega), HB2.out⟩
            case measure => have := HLT.out; simp [intOf]; omega
          · rename_i hx9
            have hx8 : (bx == (k == 8)) = true := hx9
            have HR := Lib.hid (HV.out.trans (qsem_hit HLT.out (HPX.out.trans (eq_of_beq hx8))))
            have HB3 := Lib.hid (bel_go HB0.out HB2.out)
            go_ret
            exact ⟨ret_bool (by rw [HR.out]), HB3.out⟩
        · go_simp
          refine hK.out _ _ (((bel_drew1 wr).alloc (bel_drew1 wr).size (.cells #[] 40)).alloc ((bel_drew1 wr).alloc (bel_drew1 wr).size (.cells #[] 40)).size (.cells #[.string n, .int .i64 x] 40)) (fun hHeld => ?_)
          clear hK K
          (try simp only [Act.put, List.setIfInBounds_toArray, List.set_cons_zero, List.set_cons_succ])
          refine wpAnyH_ready (rs := [7]) (by kernel_rfl) (by simp) ?_
          refine AllReadyH.cons (by (simp only [List.getElem?_toArray, List.getElem?_cons_succ, List.getElem?_cons_zero]; rfl)) (fun K hK => ?_) AllReadyH.nil
          refine step_app (fun v' w' => w'.ownsRow wr.heap.size 40 2 v' l.length (hcells l) ∧ ((wr.drew.alloc (.cells #[] 40)).alloc (.cells #[.string n, .int .i64 x] 40)).grownBy w' (some (wr.heap.size))) (by rfl) _ _ _ (by rfl) (.slice (some ⟨wr.heap.size, 0, none⟩) 0 0) (.slice B l.length cB) (by rfl) (by rfl) (app_all (own_empty (((Blk.new wr.drew 40 []).alloc (.cells #[.string n, .int .i64 x] 40))) (by simp)) (((bel_drew1 wr).alloc (bel_drew1 wr).size (.cells #[] 40)).alloc ((bel_drew1 wr).alloc (bel_drew1 wr).size (.cells #[] 40)).size (.cells #[.string n, .int .i64 x] 40)).size B cB l HBB.out (HT1.out.below (((bel_drew1 wr).alloc (bel_drew1 wr).size (.cells #[] 40)).alloc ((bel_drew1 wr).alloc (bel_drew1 wr).size (.cells #[] 40)).size (.cells #[.string n, .int .i64 x] 40))) HLB.out) ?_
          rintro v9 w10 ⟨hro9, hgr9⟩
          have hb10 : Below wr.heap.size wr w10 := (((bel_drew1 wr).alloc (bel_drew1 wr).size (.cells #[] 40)).alloc ((bel_drew1 wr).alloc (bel_drew1 wr).size (.cells #[] 40)).size (.cells #[.string n, .int .i64 x] 40)).trans ((Fr.of_grown hgr9).below (B := wr.heap.size) (((bel_drew1 wr).alloc (bel_drew1 wr).size (.cells #[] 40)).alloc ((bel_drew1 wr).alloc (bel_drew1 wr).size (.cells #[] 40)).size (.cells #[.string n, .int .i64 x] 40)).size (fun k hk => by injection hk with hk; omega))
          have bn := (Blk.new' (wr.drew.alloc (.cells #[] 40)) (wr.heap.size + 1) 40 [.string n, .int .i64 x] (by simp)).grown hgr9 (fun e => by injection e with e; omega)
          refine hK.out _ _ (hb10) (fun hHeld => ?_)
          clear hK K
          (try simp only [Act.put, List.setIfInBounds_toArray, List.set_cons_zero, List.set_cons_succ])
          refine wpAnyH_ready (rs := [13]) (by kernel_rfl) (by simp) ?_
          refine AllReadyH.cons (by (simp only [List.getElem?_toArray, List.getElem?_cons_succ, List.getElem?_cons_zero]; rfl)) (fun K hK => ?_) AllReadyH.nil
          have HSZ := hb10.size
          refine step_append_lies _ (by rfl) _ _ _ (by rfl) wr.heap.size 40 i0 _ 2 24 Tryz.underlying37 hi0' hz0 hz1 hz2 (by rfl) (by omega) v9 l.length (hcells l) (by rfl) (hro9) ⟨wr.heap.size + 1, 0, none⟩ 1 1 [.string n, .int .i64 x] (by rfl) (by rfl) (World.news_of_block (cs := #[.string n, .int .i64 x]) (t := 40) (fr := (0, 0)) bn) (by intro u hu; simp at hu; rcases hu with rfl | rfl <;> rfl) (by omega) (by have := HLB.out; unfold maxLen; omega) (by have := HLB.out; omega) HSZ _ rfl ?_
          intro g5 c5 w11 hro5 hgr5 hat5 hlt5
          clear bn
          have hb11 : Below wr.heap.size wr w11 := (hb10).trans ((Fr.of_grown hgr5).below (B := wr.heap.size) (hb10).size (fun k hk => row_low hro9 hk))
          have hth5 : Ths w11 (some ⟨g5, 0, none⟩) (l ++ [(n, (x : Int))]) := by
            obtain ⟨A9, c9, e9, h9⟩ := row_ths (l := l ++ [(n, (x : Int))]) (by rw [List.length_append]) (by rw [hcells_snoc]; exact hro5)
            injection e9 with e9 _ _
            subst e9
            exact h9
          have HC11 := Lib.hid (HCX.out w11 g5 c5 hb11 hth5)
          have HB11 := Lib.hid hb11
          clear hro5 hgr5 hat5 hlt5 hro9 hgr9 hth5
          refine hK.out _ _ (hb11) (fun hHeld => ?_)
          clear hK K
          (try simp only [Act.put, List.setIfInBounds_toArray, List.set_cons_zero, List.set_cons_succ])
          clear hb11
          refine wpAnyH_ready (rs := [14]) (by kernel_rfl) (by simp) ?_
          refine AllReadyH.cons (by (simp only [List.getElem?_toArray, List.getElem?_cons_succ, List.getElem?_cons_zero]; rfl)) (fun K hK => ?_) AllReadyH.nil
          go_simp
          go_at_call 15
          refine HC11.out.mono ?_
          rintro e w12 ⟨rfl, hb12⟩
          have HB12 := Lib.hid (bel_go HB11.out hb12)
          clear hb12
          go_wp2_with fail
          refine hK.out _ _ (HB12.out) (fun hHeld => ?_)
          clear hK K
          (try simp only [Act.put, List.setIfInBounds_toArray, List.set_cons_zero, List.set_cons_succ])
          refine wpAnyH_take (i := 18) (v := ?_) (by (simp only [List.getElem?_toArray, List.getElem?_cons_succ, List.getElem?_cons_zero]; rfl)) (by kernel_rfl) (by kernel_rfl) (by kernel_rfl) (by exact fun _ _ _ h => h) (Or.inl ⟨by rfl, ?_⟩) (by assumption) ?_
          rotate_left
          · (intro w' hSw; go_simp); all_goals (with_reducible rfl)
          (try simp only [Act.put, List.setIfInBounds_toArray, List.set_cons_zero, List.set_cons_succ])
          refine wpAnyH_done (by kernel_rfl) ?_ _
          clear hHeld
          have HB2 := Lib.hid (bel_go HB.out HB12.out)
          clear HB12 HC11 HB11
          have y0 := (B1.out.below HB2.out B1.out.lt).nine.c0
          go_wp2_with fail
          rotate_left
          · rename_i hx9
            have hx8 : (bx == (k == 8)) = false := hx9
            have HX8 := Lib.hid (show p x = !(k == 8) by rw [HPX.out]; revert hx8; cases bx <;> cases (k == 8) <;> simp)
            clear hx8
            go_roundw
            case rel =>
              exact ⟨x + 1, by go_num, HLT.out, fun y hy => by
                by_cases hyx : y = x
                · subst hyx; exact HX8.out
                · exact HQ.out y (by omega), HB2.out⟩
            case measure => have := HLT.out; simp [intOf]; omega
          · rename_i hx9
            have hx8 : (bx == (k == 8)) = true := hx9
            have HR := Lib.hid (HV.out.trans (qsem_hit HLT.out (HPX.out.trans (eq_of_beq hx8))))
            have HB3 := Lib.hid (bel_go HB0.out HB2.out)
            go_ret
            exact ⟨ret_bool (by rw [HR.out]), HB3.out⟩
      · go_simp
        refine hK.out _ _ ((bel_drew1 wr).alloc (bel_drew1 wr).size (.cells #[.string n, .int .i64 x] 40)) (fun hHeld => ?_)
        clear hK K
        (try simp only [Act.put, List.setIfInBounds_toArray, List.set_cons_zero, List.set_cons_succ])
        refine wpAnyH_ready (rs := [5]) (by kernel_rfl) (by simp) ?_
        refine AllReadyH.cons (by (simp only [List.getElem?_toArray, List.getElem?_cons_succ, List.getElem?_cons_zero]; rfl)) (fun K hK => ?_) AllReadyH.nil
        go_simp
        refine hK.out _ _ (((bel_drew1 wr).alloc (bel_drew1 wr).size (.cells #[.string n, .int .i64 x] 40)).alloc ((bel_drew1 wr).alloc (bel_drew1 wr).size (.cells #[.string n, .int .i64 x] 40)).size (.cells #[] 40)) (fun hHeld => ?_)
        clear hK K
        (try simp only [Act.put, List.setIfInBounds_toArray, List.set_cons_zero, List.set_cons_succ])
        refine wpAnyH_ready (rs := [7]) (by kernel_rfl) (by simp) ?_
        refine AllReadyH.cons (by (simp only [List.getElem?_toArray, List.getElem?_cons_succ, List.getElem?_cons_zero]; rfl)) (fun K hK => ?_) AllReadyH.nil
        refine step_app (fun v' w' => w'.ownsRow wr.heap.size 40 2 v' l.length (hcells l) ∧ ((wr.drew.alloc (.cells #[.string n, .int .i64 x] 40)).alloc (.cells #[] 40)).grownBy w' (some (wr.heap.size + 1))) (by rfl) _ _ _ (by rfl) (.slice (some ⟨wr.heap.size + 1, 0, none⟩) 0 0) (.slice B l.length cB) (by rfl) (by rfl) (app_all (own_empty (Blk.new' (wr.drew.alloc (.cells #[.string n, .int .i64 x] 40)) (wr.heap.size + 1) 40 [] (by simp)) (by simp)) (((bel_drew1 wr).alloc (bel_drew1 wr).size (.cells #[.string n, .int .i64 x] 40)).alloc ((bel_drew1 wr).alloc (bel_drew1 wr).size (.cells #[.string n, .int .i64 x] 40)).size (.cells #[] 40)).size B cB l HBB.out (HT1.out.below (((bel_drew1 wr).alloc (bel_drew1 wr).size (.cells #[.string n, .int .i64 x] 40)).alloc ((bel_drew1 wr).alloc (bel_drew1 wr).size (.cells #[.string n, .int .i64 x] 40)).size (.cells #[] 40))) HLB.out) ?_
        rintro v9 w10 ⟨hro9, hgr9⟩
        have hb10 : Below wr.heap.size wr w10 := (((bel_drew1 wr).alloc (bel_drew1 wr).size (.cells #[.string n, .int .i64 x] 40)).alloc ((bel_drew1 wr).alloc (bel_drew1 wr).size (.cells #[.string n, .int .i64 x] 40)).size (.cells #[] 40)).trans ((Fr.of_grown hgr9).below (B := wr.heap.size) (((bel_drew1 wr).alloc (bel_drew1 wr).size (.cells #[.string n, .int .i64 x] 40)).alloc ((bel_drew1 wr).alloc (bel_drew1 wr).size (.cells #[.string n, .int .i64 x] 40)).size (.cells #[] 40)).size (fun k hk => by injection hk with hk; omega))
        have bn := (((Blk.new wr.drew 40 [.string n, .int .i64 x]).alloc (.cells #[] 40))).grown hgr9 (fun e => by injection e with e; have e1 : wr.drew.heap.size = wr.heap.size := rfl; omega)
        refine hK.out _ _ (hb10) (fun hHeld => ?_)
        clear hK K
        (try simp only [Act.put, List.setIfInBounds_toArray, List.set_cons_zero, List.set_cons_succ])
        refine wpAnyH_ready (rs := [13]) (by kernel_rfl) (by simp) ?_
        refine AllReadyH.cons (by (simp only [List.getElem?_toArray, List.getElem?_cons_succ, List.getElem?_cons_zero]; rfl)) (fun K hK => ?_) AllReadyH.nil
        have HSZ := hb10.size
        refine step_append_lies _ (by rfl) _ _ _ (by rfl) wr.heap.size 40 i0 _ 2 24 Tryz.underlying37 hi0' hz0 hz1 hz2 (by rfl) (by omega) v9 l.length (hcells l) (by rfl) (hro9) ⟨wr.heap.size, 0, none⟩ 1 1 [.string n, .int .i64 x] (by rfl) (by rfl) (World.news_of_block (cs := #[.string n, .int .i64 x]) (t := 40) (fr := (0, 0)) bn) (by intro u hu; simp at hu; rcases hu with rfl | rfl <;> rfl) (by omega) (by have := HLB.out; unfold maxLen; omega) (by have := HLB.out; omega) HSZ _ rfl ?_
        intro g5 c5 w11 hro5 hgr5 hat5 hlt5
        clear bn
        have hb11 : Below wr.heap.size wr w11 := (hb10).trans ((Fr.of_grown hgr5).below (B := wr.heap.size) (hb10).size (fun k hk => row_low hro9 hk))
        have hth5 : Ths w11 (some ⟨g5, 0, none⟩) (l ++ [(n, (x : Int))]) := by
          obtain ⟨A9, c9, e9, h9⟩ := row_ths (l := l ++ [(n, (x : Int))]) (by rw [List.length_append]) (by rw [hcells_snoc]; exact hro5)
          injection e9 with e9 _ _
          subst e9
          exact h9
        have HC11 := Lib.hid (HCX.out w11 g5 c5 hb11 hth5)
        have HB11 := Lib.hid hb11
        clear hro5 hgr5 hat5 hlt5 hro9 hgr9 hth5
        refine hK.out _ _ (hb11) (fun hHeld => ?_)
        clear hK K
        (try simp only [Act.put, List.setIfInBounds_toArray, List.set_cons_zero, List.set_cons_succ])
        clear hb11
        refine wpAnyH_ready (rs := [14]) (by kernel_rfl) (by simp) ?_
        refine AllReadyH.cons (by (simp only [List.getElem?_toArray, List.getElem?_cons_succ, List.getElem?_cons_zero]; rfl)) (fun K hK => ?_) AllReadyH.nil
        go_simp
        go_at_call 15
        refine HC11.out.mono ?_
        rintro e w12 ⟨rfl, hb12⟩
        have HB12 := Lib.hid (bel_go HB11.out hb12)
        clear hb12
        go_wp2_with fail
        refine hK.out _ _ (HB12.out) (fun hHeld => ?_)
        clear hK K
        (try simp only [Act.put, List.setIfInBounds_toArray, List.set_cons_zero, List.set_cons_succ])
        refine wpAnyH_take (i := 18) (v := ?_) (by (simp only [List.getElem?_toArray, List.getElem?_cons_succ, List.getElem?_cons_zero]; rfl)) (by kernel_rfl) (by kernel_rfl) (by kernel_rfl) (by exact fun _ _ _ h => h) (Or.inl ⟨by rfl, ?_⟩) (by assumption) ?_
        rotate_left
        · (intro w' hSw; go_simp); all_goals (with_reducible rfl)
        (try simp only [Act.put, List.setIfInBounds_toArray, List.set_cons_zero, List.set_cons_succ])
        refine wpAnyH_done (by kernel_rfl) ?_ _
        clear hHeld
        have HB2 := Lib.hid (bel_go HB.out HB12.out)
        clear HB12 HC11 HB11
        have y0 := (B1.out.below HB2.out B1.out.lt).nine.c0
        go_wp2_with fail
        rotate_left
        · rename_i hx9
          have hx8 : (bx == (k == 8)) = false := hx9
          have HX8 := Lib.hid (show p x = !(k == 8) by rw [HPX.out]; revert hx8; cases bx <;> cases (k == 8) <;> simp)
          clear hx8
          go_roundw
          case rel =>
            exact ⟨x + 1, by go_num, HLT.out, fun y hy => by
              by_cases hyx : y = x
              · subst hyx; exact HX8.out
              · exact HQ.out y (by omega), HB2.out⟩
          case measure => have := HLT.out; simp [intOf]; omega
        · rename_i hx9
          have hx8 : (bx == (k == 8)) = true := hx9
          have HR := Lib.hid (HV.out.trans (qsem_hit HLT.out (HPX.out.trans (eq_of_beq hx8))))
          have HB3 := Lib.hid (bel_go HB0.out HB2.out)
          go_ret
          exact ⟨ret_bool (by rw [HR.out]), HB3.out⟩
    · obtain rfl : x = nn := by omega
      have HE := Lib.hid (HV.out.trans (qsem_end HQ.out))
      have HR : Hid (res = (k == 7)) := Lib.hid (by rw [HE.out]; rcases HKK.out with rfl | rfl <;> rfl)
      have d1 : decide (x < x) = false := by simp
      have HB3 := Lib.hid (bel_go HB0.out HB.out)
      go_wp2_with fail
      go_ret
      exact ⟨ret_bool (by rw [HR.out]), HB3.out⟩
theorem holds0 : ∀ N, HoldsAt 15 N := by
  intro N
  induction N with
  | zero => intro k n vl fl al vr fr ar ts Al cl Ar cr A c S w B cB l nn Aw cw rl h; have := Fm.wt_pos (Fm.mk k n (.mk vl fl al) (.mk vr fr ar) ts); omega
  | succ N ih =>
    intro k n vl fl al vr fr ar ts Al cl Ar cr A c S w B cB l nn Aw cw rl hN hB hsh hn hr hNt hT hBB hl hrr hs
    rcases shape_cases hsh with ⟨hk, hts⟩ | ⟨hk, a, hts, ha⟩ | ⟨hk, a, b, hts, ha, hb⟩
    · rcases hk with hk | hk | hk
      · exact holds1 N ih k n vl fl al vr fr ar ts Al cl Ar cr A c S w B cB l nn Aw cw rl hk hN hB hn hr hNt hT hBB hl hrr hs
      · exact holds9 N ih k n vl fl al vr fr ar ts Al cl Ar cr A c S w B cB l nn Aw cw rl hk hN hB hn hr hNt hT hBB hl hrr hs
      · exact holds10 N ih k n vl fl al vr fr ar ts Al cl Ar cr A c S w B cB l nn Aw cw rl hk hN hB hn hr hNt hT hBB hl hrr hs
    · rcases hk with hk | hk | hk
      · exact holds2 N ih k n vl fl al vr fr ar ts Al cl Ar cr A c S w B cB l nn Aw cw rl hk a hts ha hN hB hn hr hNt hT hBB hl hrr hs
      · exact holdsQ N ih k n vl fl al vr fr ar ts Al cl Ar cr A c S w B cB l nn Aw cw rl (Or.inl hk) a hts ha hN hB hn hr hNt hT hBB hl hrr hs
      · exact holdsQ N ih k n vl fl al vr fr ar ts Al cl Ar cr A c S w B cB l nn Aw cw rl (Or.inr hk) a hts ha hN hB hn hr hNt hT hBB hl hrr hs
    · rcases hk with hk | hk | hk | hk
      · exact holds3 N ih k n vl fl al vr fr ar ts Al cl Ar cr A c S w B cB l nn Aw cw rl hk a b hts ha hb hN hB hn hr hNt hT hBB hl hrr hs
      · exact holds4 N ih k n vl fl al vr fr ar ts Al cl Ar cr A c S w B cB l nn Aw cw rl hk a b hts ha hb hN hB hn hr hNt hT hBB hl hrr hs
      · exact holds5 N ih k n vl fl al vr fr ar ts Al cl Ar cr A c S w B cB l nn Aw cw rl hk a b hts ha hb hN hB hn hr hNt hT hBB hl hrr hs
      · exact holds6 N ih k n vl fl al vr fr ar ts Al cl Ar cr A c S w B cB l nn Aw cw rl hk a b hts ha hb hN hB hn hr hNt hT hBB hl hrr hs
end Go.Proofs.YtndjjnnljihmnaaGreat
