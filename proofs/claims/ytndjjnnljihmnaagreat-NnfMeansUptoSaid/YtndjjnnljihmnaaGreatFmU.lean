/- mini: quantifiers pushed, the innermost first. -/
import Derived.Test.YtndjjnnljihmnaaGreatFmT
namespace Go.Proofs.YtndjjnnljihmnaaGreat
open Go.RowKit Go.Proofs.YtndjjnnljihmnaaGreat.Lx
set_option linter.unusedVariables false
set_option linter.unusedSimpArgs false
attribute [local go_sem ↓] app_block
/-- A row of formulas. -/
def RL (S : Nat → Prop) (w : World) : List Fm → List Value → Prop
  | [], xs => xs = []
  | f :: r, xs => ∃ cs ys, xs = cs ++ ys ∧ RF S w f cs ∧ RL S w r ys
theorem RL.stay {S S' : Nat → Prop} {w w' : World} (hs : Stay S S' w w') : ∀ {ks : List Fm} {xs : List Value}, RL S w ks xs → RL S' w' ks xs
  | [], _, h => h
  | f :: r, _, h => by obtain ⟨cs, ys, e, h1, h2⟩ := h; exact ⟨cs, ys, e, h1.stay hs, RL.stay hs h2⟩
theorem RL.snoc {S : Nat → Prop} {w : World} {f : Fm} {cs : List Value} (hf : RF S w f cs) : ∀ {ks : List Fm} {xs : List Value}, RL S w ks xs → RL S w (ks ++ [f]) (xs ++ cs)
  | [], _, h => by cases h; exact ⟨cs, [], by simp, hf, rfl⟩
  | g :: r, _, h => by obtain ⟨ds, ys, e, h1, h2⟩ := h; exact ⟨ds, ys ++ cs, by rw [e, List.append_assoc], h1, RL.snoc hf h2⟩
theorem RL.len {S : Nat → Prop} {w : World} : ∀ {ks : List Fm} {xs : List Value}, RL S w ks xs → xs.length = ks.length * 9
  | [], _, h => by cases h; rfl
  | f :: r, _, h => by obtain ⟨cs, ys, e, h1, h2⟩ := h; rw [e, List.length_append, RF_len h1, RL.len h2, List.length_cons]; omega
theorem RL.read {S : Nat → Prop} {w : World} {g : Nat} : ∀ {ks : List Fm} {xs : List Value} {o : Nat}, RL S w ks xs → (∀ j u, xs[j]? = some u → w.cell? ⟨g, o + j, none⟩ = some u) → RFs S w g o ks
  | [], _, _, _, _ => trivial
  | f :: r, xs, o, h, hc => by
    obtain ⟨cs, ys, e, h1, h2⟩ := h
    subst e
    have hl := RF_len h1
    refine ⟨⟨cs, h1, fun i u hu => hc i u ?_⟩, RL.read h2 (fun j u hu => ?_)⟩
    · rw [List.getElem?_append_left (by have := (List.getElem?_eq_some_iff.1 hu).1; exact this)]; exact hu
    · rw [show o + 9 + j = o + (9 + j) by omega]
      refine hc (9 + j) u ?_
      rw [List.getElem?_append_right (by omega), hl, show 9 + j - 9 = j by omega]; exact hu
/-- What was told at w, or made since, but for the row's own block. -/
def LoV (S : Nat → Prop) (w : World) (v : Value) : Nat → Prop := fun b => ((S b ∧ b < w.heap.size) ∨ w.heap.size + 1 + 1 ≤ b) ∧ v.ownBlock ≠ some b
theorem Stay.lo_v {S : Nat → Prop} {w W w' : World} {v : Value} (h : w.heap.size + 1 + 1 ≤ W.heap.size) (hv : ∀ g, v.ownBlock = some g → w.heap.size ≤ g ∧ g < W.heap.size) : Stay (Lo S w W) (LoV S w v) w' w' := Stay.mono fun b hb => by
  refine ⟨?_, fun e => ?_⟩
  · rcases hb with hb | hb
    · exact Or.inl hb
    · exact Or.inr (by omega)
  · have := hv b e
    rcases hb with hb | hb <;> omega
theorem Stay.v_step {S : Nat → Prop} {w W W' : World} {v v' : Value} (hg : W.grownBy W' v.ownBlock) (ho : v'.ownBlock = v.ownBlock ∨ v'.ownBlock = some W.heap.size) : Stay (LoV S w v) (LoV S w v') W W' := fun b o u hS hc => by
  have hl := World.block_lt_of_cell? W _ hc
  refine ⟨⟨hS.1, fun e => ?_⟩, (hg.cell_far _ hl (fun e => hS.2 e.symm)).trans hc⟩
  rcases ho with ho | ho
  · exact hS.2 (ho.symm.trans e)
  · have := ho.symm.trans e
    simp at this hl; omega
/-- The same, but for the call's own boxes. -/
def LoW (S : Nat → Prop) (w : World) : Nat → Prop := fun b => (S b ∧ b < w.heap.size) ∨ w.heap.size + 1 + 1 ≤ b
theorem Stay.v_w {S : Nat → Prop} {w w' : World} {v : Value} : Stay (LoV S w v) (LoW S w) w' w' := Stay.mono fun b hb => hb.1
theorem Stay.low_w {S : Nat → Prop} {w w' : World} : Stay (fun b => S b ∧ b < w.heap.size) (LoW S w) w' w' := Stay.mono fun b hb => Or.inl hb
theorem Stay.w_up {S : Nat → Prop} {w w' : World} : Stay (LoW S w) (Up S w) w' w' := Stay.mono fun b hb => by
  rcases hb with h | h
  · exact Or.inl h.1
  · exact Or.inr (by omega)
theorem Stay.up_w {S : Nat → Prop} {w W w' : World} (h : w.heap.size + 1 + 1 ≤ W.heap.size) : Stay (Up (LoW S w) W) (LoW S w) w' w' := Stay.mono fun b hb => by
  rcases hb with h1 | h1
  · exact h1
  · exact Or.inr (by omega)
theorem w_not0 {S : Nat → Prop} {w : World} : ¬ LoW S w w.heap.size := fun h => by rcases h with h | h <;> omega
theorem w_not1 {S : Nat → Prop} {w : World} : ¬ LoW S w (w.heap.size + 1) := fun h => by rcases h with h | h <;> omega
theorem row_sf {S : Nat → Prop} {w W : World} {A : Option Addr} {n c : Nat} {ks : List Fm} {xs : List Value} (ho : W.ownsRow (w.heap.size + 1 + 1) 27 9 (.slice A n c) n xs) (hr : RL (LoV S w (.slice A n c)) W ks xs) (hn : n = ks.length) (hm : n ≤ 9223372036854775807) : SF (LoW S w) W A n c ks := by
  refine ⟨hn, ?_, hm, fun h0 => ?_⟩
  · rcases ho.2 with ⟨e, h0⟩ | ⟨g, cap, cur, e, _, _, hc, _⟩
    · injection e with e1 e2 e3; subst e3; omega
    · injection e with e1 e2 e3; subst e3; exact hc
  · obtain ⟨g, c', e, _, hg, hc⟩ := row_cells ho h0
    injection e with e1 _ _
    subst e1
    exact ⟨g, 0, rfl, Or.inr hg, RL.read (hr.stay Stay.v_w) (fun j u hu => by rw [Nat.zero_add]; exact hc j u hu)⟩
/-- A formula appended to a row. -/
theorem app_fm {W : World} {base n : Nat} {v : Value} {xs cs : List Value} (HO : W.ownsRow base 27 9 v n xs) (hc : cs.length = 9) (h1 : ∀ u ∈ cs, u.oneCell' = true) (hk : n ≤ 4398046511) (hb : base ≤ W.heap.size) :
    ∃ v' w', (appOp #[25, 25] 25 #[v, .slice (some ⟨W.heap.size, 0, none⟩) 1 1]).run Tryz.prog (W.alloc (.cells cs.toArray 27)) = .ok v' w' ∧ w'.ownsRow base 27 9 v' (n + 1) (xs ++ cs) ∧ (W.alloc (.cells cs.toArray 27)).grownBy w' v.ownBlock ∧ (v'.ownBlock = v.ownBlock ∨ v'.ownBlock = some (W.alloc (.cells cs.toArray 27)).heap.size) := by
  obtain ⟨i0, hi, hz0, hz1, hz2⟩ := info_parts infoF
  obtain ⟨v', w', g1, g2, g3, _, g5⟩ := run_append_own_at (P := Tryz.prog) (W.alloc (.cells cs.toArray 27)) base 25 25 27 i0 (.agg #[.int .i64 0, .string ⟨#[]⟩, .int .i64 0, .string ⟨#[]⟩, .slice none 0 0, .int .i64 0, .string ⟨#[]⟩, .slice none 0 0, .slice none 0 0]) 9 144 Tryz.underlying25 hi hz0 hz1 hz2 rfl (by decide) v n xs (HO.alloc _) ⟨W.heap.size, 0, none⟩ 1 1 cs (by rw [hc])
    (fun j u hj => World.news_of_block (cs := cs.toArray) (t := 27) (fr := (0, 0)) (heap_alloc_new W _) j u (by simpa using hj)) h1 (by unfold maxLen; omega) (by omega) (by simp; omega)
  exact ⟨v', w', g1, g2, g3, g5⟩
theorem RF.one_cells {S : Nat → Prop} {w : World} {f : Fm} {cs : List Value} (h : RF S w f cs) : ∀ u ∈ cs, u.oneCell' = true := by
  obtain ⟨k, n, ⟨vl, fl, al⟩, ⟨vr, fr, ar⟩, ks⟩ := f
  obtain ⟨Al, cl, Ar, cr, A, c, e, _⟩ := h.open
  subst e
  intro u hu
  simp at hu
  rcases hu with rfl | rfl | rfl | rfl | rfl | rfl | rfl | rfl | rfl <;> rfl
def MiniAt (fn : Nat) (N : Nat) : Prop := ∀ (k : Int) (n : ByteArray) (vl : Int) (fl : ByteArray) (al : List Tm) (vr : Int) (fr : ByteArray) (ar : List Tm) (ts : List Fm) (Al : Option Addr) (cl : Nat) (Ar : Option Addr) (cr : Nat) (A : Option Addr) (c : Nat) (S : Nat → Prop) (w : World), (Fm.mk k n (.mk vl fl al) (.mk vr fr ar) ts).wt ≤ N → (Fm.mk k n (.mk vl fl al) (.mk vr fr ar) ts).wt + (Fm.mk k n (.mk vl fl al) (.mk vr fr ar) ts).lf * (Fm.mk k n (.mk vl fl al) (.mk vr fr ar) ts).qs ≤ 4398046511104 → (Fm.mk k n (.mk vl fl al) (.mk vr fr ar) ts).wt ≤ 4398046511 → (Fm.mk k n (.mk vl fl al) (.mk vr fr ar) ts).shape = true → ST S w Al al.length cl al → ST S w Ar ar.length cr ar → SF S w A ts.length c ts →
    Calls Tryz.prog fn #[.agg #[.int .i64 k, .string n, .int .i64 vl, .string fl, .slice Al al.length cl, .int .i64 vr, .string fr, .slice Ar ar.length cr, .slice A ts.length c]] w fun e w' => FRes (Up S w) w' (Fm.mk k n (.mk vl fl al) (.mk vr fr ar) ts).mini e ∧ Below w.heap.size w w'
theorem Fm.miniL_take : ∀ (ts : List Fm) (i : Nat) (h : i < ts.length), Fm.miniL (ts.take (i + 1)) = Fm.miniL (ts.take i) ++ [Fm.mini ts[i]]
  | t :: r, 0, _ => by simp [Fm.miniL]
  | t :: r, i + 1, h => by simpa [Fm.miniL] using Fm.miniL_take r i (by simpa using h)
theorem Fm.shapes_get : ∀ (ts : List Fm) (i : Nat) (h : i < ts.length), Fm.shapes ts = true → ts[i].shape = true
  | t :: r, 0, _, h => by rw [Fm.shapes, Bool.and_eq_true] at h; exact h.1
  | t :: r, i + 1, hi, h => by rw [Fm.shapes, Bool.and_eq_true] at h; exact Fm.shapes_get r i (by simpa using hi) h.2
theorem Fm.lfs_get : ∀ (ts : List Fm) (i : Nat) (h : i < ts.length), ts[i].lf ≤ Fm.lfs ts ∧ ts[i].qs ≤ Fm.qss ts ∧ ts[i].wt ≤ Fm.wts ts
  | t :: r, 0, _ => by rw [Fm.lfs, Fm.qss, Fm.wts]; simp <;> omega
  | t :: r, i + 1, h => by
    have := Fm.lfs_get r i (by simpa using h)
    rw [Fm.lfs, Fm.qss, Fm.wts]; simp; omega
theorem Fm.kid_bound {k : Int} {n : ByteArray} {l r : Tm} {ts : List Fm} (i : Nat) (h : i < ts.length) : ts[i].wt + ts[i].lf * ts[i].qs ≤ (Fm.mk k n l r ts).wt + (Fm.mk k n l r ts).lf * (Fm.mk k n l r ts).qs ∧ ts[i].wt + 3 ≤ (Fm.mk k n l r ts).wt := by
  obtain ⟨h1, h2, h3⟩ := Fm.lfs_get ts i h
  have hm : ts[i].lf * ts[i].qs ≤ (Fm.mk k n l r ts).lf * (Fm.mk k n l r ts).qs := Nat.mul_le_mul (by rw [Fm.lf]; omega) (by rw [Fm.qs]; omega)
  have h4 := l.wt_pos
  have h5 := r.wt_pos
  have e : (Fm.mk k n l r ts).wt = 1 + n.size + (l.wt + r.wt) + Fm.wts ts := by rw [Fm.wt]
  exact ⟨by omega, by omega⟩
set_option maxRecDepth 100000 in
set_option maxHeartbeats 12800000 in
theorem mini0 (hp : PushAt 50 4398046511104) : ∀ N, MiniAt 25 N := by
  intro N
  induction N with
  | zero => intro k n vl fl al vr fr ar ts Al cl Ar cr A c S w h; have := Fm.wt_pos (Fm.mk k n (.mk vl fl al) (.mk vr fr ar) ts); omega
  | succ N ih =>
    intro k n vl fl al vr fr ar ts Al cl Ar cr A c S w h hB hW hsh hl hr hs
    have hsh' := hsh
    rw [Fm.shape, Bool.and_eq_true] at hsh'
    obtain ⟨hhd, hks⟩ := hsh'
    have hwo := Fm.wt_other k n vl fl al vr fr ar ts
    have hln := Fm.len_wts ts
    have HLEN := Lib.hid (show ts.length ≤ 4398046511 by omega)
    have hlen : ts.length ≤ 1152921504606846976 := by omega
    have HKS := Lib.hid hks
    have HHD := Lib.hid hhd
    have HIH := Lib.hid ih
    have HP := Lib.hid hp
    have HKB := Lib.hid (fun i (hi : i < ts.length) => Fm.kid_bound (k := k) (n := n) (l := .mk vl fl al) (r := .mk vr fr ar) i hi)
    have HBB := Lib.hid (And.intro hB (And.intro hW h))
    have HMW := Lib.hid (Fm.miniL_wt ts hks)
    have HSH := Lib.hid hsh
    have HL := Lib.hid (show ST S w Al al.length cl al ∧ ST S w Ar ar.length cr ar from ⟨hl, hr⟩)
    have HSS := Lib.hid (hs.stay (Stay.low' (S := S)))
    have HBS : Hid (w.heap.size + 1 + 1 ≤ (((w.alloc (.cells #[.int .i64 k, .string n, .int .i64 vl, .string fl, .slice Al al.length cl, .int .i64 vr, .string fr, .slice Ar ar.length cr, .slice A ts.length c] 27)).alloc (.cells #[.int .i64 0, .string ⟨#[]⟩, .int .i64 0, .string ⟨#[]⟩, .slice none 0 0, .int .i64 0, .string ⟨#[]⟩, .slice none 0 0, .slice none 0 0] 27))).heap.size) := Lib.hid (by simp)
    have HB0 := Lib.hid (show Below w.heap.size w ((w.alloc (.cells #[.int .i64 k, .string n, .int .i64 vl, .string fl, .slice Al al.length cl, .int .i64 vr, .string fr, .slice Ar ar.length cr, .slice A ts.length c] 27)).alloc (.cells #[.int .i64 0, .string ⟨#[]⟩, .int .i64 0, .string ⟨#[]⟩, .slice none 0 0, .int .i64 0, .string ⟨#[]⟩, .slice none 0 0, .slice none 0 0] 27)) from bel_two)
    have BK1 := Lib.hid ((Blk.new w 27 [.int .i64 k, .string n, .int .i64 vl, .string fl, .slice Al al.length cl, .int .i64 vr, .string fr, .slice Ar ar.length cr, .slice A ts.length c]).alloc (.cells #[.int .i64 0, .string ⟨#[]⟩, .int .i64 0, .string ⟨#[]⟩, .slice none 0 0, .int .i64 0, .string ⟨#[]⟩, .slice none 0 0, .slice none 0 0] 27))
    have BK2 := Lib.hid (Blk.new' (w.alloc (.cells #[.int .i64 k, .string n, .int .i64 vl, .string fl, .slice Al al.length cl, .int .i64 vr, .string fr, .slice Ar ar.length cr, .slice A ts.length c] 27)) (w.heap.size + 1) 27 [.int .i64 0, .string ⟨#[]⟩, .int .i64 0, .string ⟨#[]⟩, .slice none 0 0, .int .i64 0, .string ⟨#[]⟩, .slice none 0 0, .slice none 0 0] (by simp))
    simp only [List.toArray] at BK1 BK2
    have hmv : (Fm.mk k n (.mk vl fl al) (.mk vr fr ar) ts).mini = if k = 7 ∨ k = 8 then (match Fm.miniL ts with | [] => Fm.c 0 | g :: _ => g.push k n) else .mk k n (.mk vl fl al) (.mk vr fr ar) (Fm.miniL ts) := by rw [Fm.mini]; rfl
    have HMV := Lib.hid hmv
    clear hl hr hs hsh hhd hks hwo hln hB hW h ih hp hmv
    generalize (Fm.mk k n (.mk vl fl al) (.mk vr fr ar) ts).mini = res at *
    go_enter Tryz.func25, Tryz.ntmps25
    go_upto_region 2 with (fail)
    generalize ((w.alloc (.cells #[.int .i64 k, .string n, .int .i64 vl, .string fl, .slice Al al.length cl, .int .i64 vr, .string fr, .slice Ar ar.length cr, .slice A ts.length c] 27)).alloc (.cells #[.int .i64 0, .string ⟨#[]⟩, .int .i64 0, .string ⟨#[]⟩, .slice none 0 0, .int .i64 0, .string ⟨#[]⟩, .slice none 0 0, .slice none 0 0] 27)) = W at *
    have tk := BK1.out.nine; have z0 := tk.c0; have z1 := tk.c1; have z2 := tk.c2; have z3 := tk.c3; have z4 := tk.c4; have z5 := tk.c5; have z6 := tk.c6; have z7 := tk.c7; have z8 := tk.c8; clear tk
    go_wp2_with fail
    clear z0 z1 z2 z3 z4 z5 z6 z7 z8
    go_loopw [3, 9] (fun v3 vi wl => ∃ i, vi = .int .i64 (i : Nat) ∧ i ≤ ts.length ∧ (∃ xs, wl.ownsRow (w.heap.size + 1 + 1) 27 9 v3 i xs ∧ RL (LoV S w v3) wl (Fm.miniL (ts.take i)) xs) ∧ Blk wl w.heap.size 27 [.int .i64 k, .string n, .int .i64 vl, .string fl, .slice Al al.length cl, .int .i64 vr, .string fr, .slice Ar ar.length cr, .slice A ts.length c] ∧ Blk wl (w.heap.size + 1) 27 [.int .i64 0, .string ⟨#[]⟩, .int .i64 0, .string ⟨#[]⟩, .slice none 0 0, .int .i64 0, .string ⟨#[]⟩, .slice none 0 0, .slice none 0 0] ∧ Below w.heap.size w wl) (fun _ vi _ => ts.length - (intOf vi).toNat)
    case atStart => exact ⟨0, rfl, by omega, ⟨[], World.ownsRow_nil _ _ _ _, by rw [List.take_zero, Fm.miniL]; rfl⟩, BK1.out, BK2.out, HB0.out⟩
    case round =>
      obtain ⟨i, rfl, hi, ⟨xs, hro, hrl⟩, hk1, hk2, hb⟩ := hrel
      have HRO := Lib.hid hro
      have HRL := Lib.hid hrl
      have B1 := Lib.hid hk1
      have B2 := Lib.hid hk2
      have HB := Lib.hid hb
      clear hro hrl hk1 hk2 hb BK1 BK2 HB0
      by_cases hlt : i < ts.length
      · obtain ⟨b, o, hA, k1, n1, vl1, fl1, al1, vr1, fr1, ar1, ts1, Al1, cl1, Ar1, cr1, A1, c1, hm1, hl1, hr1, hs1, p0, p1, p2, p3, p4, p5, p6, p7, p8⟩ := (HSS.out.stay (Stay.below HB.out)).at i hlt
        subst hA
        have hkb := HKB.out i hlt
        have hsk := Fm.shapes_get ts i hlt HKS.out
        have hmt := Fm.miniL_take ts i hlt
        rw [hm1] at hkb hsk hmt
        have hbb := HBB.out
        have HMT := Lib.hid hmt
        obtain ⟨Av, cv, rfl⟩ := row_slice HRO.out
        have HB2 := Lib.hid (show Below wr.heap.size wr (wr.alloc (.cells #[.int .i64 k1, .string n1, .int .i64 vl1, .string fl1, .slice Al1 al1.length cl1, .int .i64 vr1, .string fr1, .slice Ar1 ar1.length cr1, .slice A1 ts1.length c1] 27)) from Below.alloc (Below.refl _ _) (Nat.le_refl _) _)
        have HC := Lib.hid (show Calls Tryz.prog 25 #[.agg #[.int .i64 k1, .string n1, .int .i64 vl1, .string fl1, .slice Al1 al1.length cl1, .int .i64 vr1, .string fr1, .slice Ar1 ar1.length cr1, .slice A1 ts1.length c1]] (wr.alloc (.cells #[.int .i64 k1, .string n1, .int .i64 vl1, .string fl1, .slice Al1 al1.length cl1, .int .i64 vr1, .string fr1, .slice Ar1 ar1.length cr1, .slice A1 ts1.length c1] 27)) fun e w2 => FRes (Lo S w (wr.alloc (.cells #[.int .i64 k1, .string n1, .int .i64 vl1, .string fl1, .slice Al1 al1.length cl1, .int .i64 vr1, .string fr1, .slice Ar1 ar1.length cr1, .slice A1 ts1.length c1] 27))) w2 (Fm.mini (Fm.mk k1 n1 (.mk vl1 fl1 al1) (.mk vr1 fr1 ar1) ts1)) e ∧ Below (wr.alloc (.cells #[.int .i64 k1, .string n1, .int .i64 vl1, .string fl1, .slice Al1 al1.length cl1, .int .i64 vr1, .string fr1, .slice Ar1 ar1.length cr1, .slice A1 ts1.length c1] 27)).heap.size (wr.alloc (.cells #[.int .i64 k1, .string n1, .int .i64 vl1, .string fl1, .slice Al1 al1.length cl1, .int .i64 vr1, .string fr1, .slice Ar1 ar1.length cr1, .slice A1 ts1.length c1] 27)) w2 from HIH.out k1 n1 vl1 fl1 al1 vr1 fr1 ar1 ts1 Al1 cl1 Ar1 cr1 A1 c1 _ _ (by omega) (by omega) (by omega) hsk (hl1.stay (Stay.below HB2.out)) (hr1.stay (Stay.below HB2.out)) (hs1.stay (Stay.below HB2.out)))
        have HLT := Lib.hid hlt
        have hIL : (i : Int) ≤ 1152921504606846976 := by omega
        clear hm1 hl1 hr1 hs1 hkb hsk hmt hbb
        go_wp2_with fail
        refine HC.out.mono ?_
        rintro e w2 ⟨⟨gk7, gn7, gvl7, gfl7, gal7, gvr7, gfr7, gar7, gts7, gAl7, gcl7, gAr7, gcr7, gA7, gc7, hg7, rfl, gr7⟩, hb9⟩
        have HB3 := Lib.hid (HB2.out.trans (hb9.mono HB2.out.size))
        have HS0 := B2.out.lt
        have HS1 := HB.out.size
        have HS2 := HB2.out.size
        have hvl : ∀ g, (Value.slice Av i cv).ownBlock = some g → w.heap.size + 1 + 1 ≤ g ∧ g < wr.heap.size := fun g hg => ⟨row_low HRO.out hg, by obtain ⟨vs, q⟩ := row_blk HRO.out hg; exact q.lt⟩
        have HF7 : RF (Lo S w (wr.alloc (.cells #[.int .i64 k1, .string n1, .int .i64 vl1, .string fl1, .slice Al1 al1.length cl1, .int .i64 vr1, .string fr1, .slice Ar1 ar1.length cr1, .slice A1 ts1.length c1] 27))) w2 (Fm.mk gk7 gn7 (.mk gvl7 gfl7 gal7) (.mk gvr7 gfr7 gar7) gts7) [.int .i64 gk7, .string gn7, .int .i64 gvl7, .string gfl7, .slice gAl7 gal7.length gcl7, .int .i64 gvr7, .string gfr7, .slice gAr7 gar7.length gcr7, .slice gA7 gts7.length gc7] := RF.shut _ _ _ _ _ _ gr7.1 gr7.2.1 gr7.2.2
        have HRL2 := RL.snoc (HF7.stay (Stay.lo_v (by omega) (fun g hg => by have := hvl g hg; omega))) (HRL.out.stay (Stay.below HB3.out))
        have HRO2 : w2.ownsRow (w.heap.size + 1 + 1) 27 9 (.slice Av i cv) i xs := row_fr HRO.out (Fr.of_below HB3.out (Nat.le_refl _)) (fun k hk hs => hs)
        obtain ⟨v', w3, hrun, hro3, hgr, hown⟩ := app_fm HRO2 (cs := [.int .i64 gk7, .string gn7, .int .i64 gvl7, .string gfl7, .slice gAl7 gal7.length gcl7, .int .i64 gvr7, .string gfr7, .slice gAr7 gar7.length gcr7, .slice gA7 gts7.length gc7]) rfl HF7.one_cells (by have := HLEN.out; omega) (by have := HB3.out.size; have := B2.out.lt; omega)
        obtain ⟨A', c', rfl⟩ := row_slice hro3
        simp only [List.toArray] at hrun hgr hown
        rw [hg7] at HMT
        have HRL4 := Lib.hid ((HRL2.stay (Stay.al _)).stay (Stay.v_step hgr hown))
        rw [← HMT.out] at HRL4
        have HRO4 := Lib.hid hro3
        have B5 := Lib.hid ((((B1.out.go HB3.out).alloc _).grown hgr (fun e => by have := hvl _ e; omega)))
        have B6 := Lib.hid ((((B2.out.go HB3.out).alloc _).grown hgr (fun e => by have := hvl _ e; omega)))
        have HB6 := Lib.hid (((bel_go HB.out HB3.out).alloc (bel_go HB.out HB3.out).size _).trans ((Fr.of_grown hgr).below (B := w.heap.size) (by have := HB3.out.size; simp; omega) (fun k hk => by have := hvl k hk; omega)))
        clear HS0 hgr hown hro3 HRL2 HRO2 HF7 gr7 hg7 hb9 hvl HS1 HS2 HC HB2 HB3 HB HRO HRL B1 B2 p0 p1 p2 p3 p4 p5 p6 p7 p8
        go_wp2_with fail
        go_roundw
        case rel => exact ⟨i + 1, by go_num, HLT.out, ⟨_, HRO4.out, HRL4.out⟩, B5.out, B6.out, HB6.out⟩
        case measure => have := HLT.out; simp [intOf]; omega
      · obtain rfl : i = ts.length := by omega
        have hrl := HRL.out
        rw [List.take_length] at hrl
        obtain ⟨Av, cv, rfl⟩ := row_slice HRO.out
        have HSF := Lib.hid (row_sf HRO.out hrl (by rw [Fm.miniL_len]) (by have := HLEN.out; omega))
        have HS0 := B2.out.lt
        have d1 : decide (ts.length < ts.length) = false := by simp
        have HLR := Lib.hid (show ST (LoW S w) wr Al al.length cl al ∧ ST (LoW S w) wr Ar ar.length cr ar from ⟨((HL.out.1.stay Stay.low').stay (Stay.below HB.out)).stay Stay.low_w, ((HL.out.2.stay Stay.low').stay (Stay.below HB.out)).stay Stay.low_w⟩)
        by_cases hk : k = 7 ∨ k = 8
        · obtain ⟨hvar, hl1⟩ := head_var hk HHD.out
          have HSL := Fm.miniL_shape ts HKS.out
          have hmw := HMW.out
          have hml := Fm.miniL_len ts
          have HR0 := Lib.hid (HMV.out.trans (if_pos hk))
          rw [hl1] at hml
          obtain ⟨g, hg⟩ : ∃ g, Fm.miniL ts = [g] := by
            match hq : Fm.miniL ts, hml with
            | [g], _ => exact ⟨g, rfl⟩
          rw [hg] at hrl HR0 HSL hmw
          have HK := Lib.hid hk
          obtain ⟨cs, ys, hxs, hrf, _⟩ := hrl
          obtain ⟨k1, n1, ⟨vl1, fl1, al1⟩, ⟨vr1, fr1, ar1⟩, ts1⟩ := g
          obtain ⟨Al1, cl1, Ar1, cr1, A1, c1, hcs, hl1', hr1', hs1'⟩ := hrf.open
          obtain ⟨gg, cc, hgg, _, hgb, hcell⟩ := row_cells HRO.out (by omega)
          injection hgg with hgg _ hcc
          subst hgg hcc
          rw [hxs, hcs] at hcell
          have p0 := hcell 0 _ rfl
          have p1 := hcell 1 _ rfl
          have p2 := hcell 2 _ rfl
          have p3 := hcell 3 _ rfl
          have p4 := hcell 4 _ rfl
          have p5 := hcell 5 _ rfl
          have p6 := hcell 6 _ rfl
          have p7 := hcell 7 _ rfl
          have p8 := hcell 8 _ rfl
          rw [Fm.wts, Fm.wts] at hmw
          rw [Fm.shapes, Bool.and_eq_true] at HSL
          have hbb := HBB.out
          have hlq : Fm.lfs ts * Fm.qss ts ≤ (Fm.mk k n (.mk vl fl al) (.mk vr fr ar) ts).lf * (Fm.mk k n (.mk vl fl al) (.mk vr fr ar) ts).qs := Nat.mul_le_mul (by rw [Fm.lf]; omega) (by rw [Fm.qs]; omega)
          have hwo := Fm.wt_other k n vl fl al vr fr ar ts
          have hw1 : (Fm.mk k1 n1 (.mk vl1 fl1 al1) (.mk vr1 fr1 ar1) ts1).wt ≤ 4398046511104 := by omega
          have hsl := HSL.1
          have HC := Lib.hid (fun w' (hb : Below wr.heap.size wr w') => HP.out k n k1 n1 vl1 fl1 al1 vr1 fr1 ar1 ts1 Al1 cl1 Ar1 cr1 A1 c1 (LoW S w) w' hw1 (Nat.le_refl _) hsl ((hl1'.stay Stay.v_w).stay (Stay.below hb)) ((hr1'.stay Stay.v_w).stay (Stay.below hb)) ((hs1'.stay Stay.v_w).stay (Stay.below hb)))
          have hgl : gg < wr.heap.size := World.block_lt_of_cell? wr _ p0
          have hgb2 : w.heap.size + 1 ≠ gg := by omega
          have hgb3 := hgb2.symm
          clear hk hvar HSL hsl hw1 hmw hml hxs hrf hcs hl1' hr1' hs1' hgb hcell hbb hlq hwo hg
          have hi0 : (0 : Int) < (ts.length : Int) := by omega
          rcases HK.out with rfl | rfl
          · have P0 := Lib.hid p0
            have P1 := Lib.hid p1
            have P2 := Lib.hid p2
            have P3 := Lib.hid p3
            have P4 := Lib.hid p4
            have P5 := Lib.hid p5
            have P6 := Lib.hid p6
            have P7 := Lib.hid p7
            have P8 := Lib.hid p8
            have tk := B1.out.nine; have z0 := tk.c0; have z1 := tk.c1; have z2 := tk.c2; have z3 := tk.c3; have z4 := tk.c4; have z5 := tk.c5; have z6 := tk.c6; have z7 := tk.c7; have z8 := tk.c8; clear tk
            go_upto_region 8 with (fail)
            have HQ0 := Lib.hid (bel_drew1 wr)
            (first | (go_region_held3 (fun w' => w'.cell? ⟨w.heap.size, 0, none⟩ = some (.int .i64 7) ∧ w'.cell? ⟨w.heap.size, 1, none⟩ = some (.string n) ∧ w'.cell? ⟨gg, 0, none⟩ = some (.int .i64 k1) ∧ w'.cell? ⟨gg, 1, none⟩ = some (.string n1) ∧ w'.cell? ⟨gg, 2, none⟩ = some (.int .i64 vl1) ∧ w'.cell? ⟨gg, 3, none⟩ = some (.string fl1) ∧ w'.cell? ⟨gg, 4, none⟩ = some (.slice Al1 al1.length cl1) ∧ w'.cell? ⟨gg, 5, none⟩ = some (.int .i64 vr1) ∧ w'.cell? ⟨gg, 6, none⟩ = some (.string fr1) ∧ w'.cell? ⟨gg, 7, none⟩ = some (.slice Ar1 ar1.length cr1) ∧ w'.cell? ⟨gg, 8, none⟩ = some (.slice A1 ts1.length c1)) (go_keep) (first | (go_at_call 50; refine (HC.out _ HQ0.out).mono ?_; rintro e w5 ⟨⟨gk7, gn7, gvl7, gfl7, gal7, gvr7, gfr7, gar7, gts7, gAl7, gcl7, gAr7, gcr7, gA7, gc7, hg7, rfl, gr7⟩, hb9⟩; have HQ1 := Lib.hid (bel_go HQ0.out hb9); have HR := Lib.hid (show res = (Fm.mk gk7 gn7 (.mk gvl7 gfl7 gal7) (.mk gvr7 gfr7 gar7) gts7) from HR0.out.trans hg7); have hB := bel_go HB.out HQ1.out; have BR := Lib.hid (B2.out.below HQ1.out B2.out.lt); have GR := Lib.hid (r3 gr7 (Stay.up_w (by have := HQ0.out.size; omega))); clear hg7 gr7 hb9; have tz := (B1.out.below HQ1.out B1.out.lt).nine; have z0 := tz.c0; have z1 := tz.c1; clear tz; have p0 := keepc HQ1.out P0.out; have p1 := keepc HQ1.out P1.out; have p2 := keepc HQ1.out P2.out; have p3 := keepc HQ1.out P3.out; have p4 := keepc HQ1.out P4.out; have p5 := keepc HQ1.out P5.out; have p6 := keepc HQ1.out P6.out; have p7 := keepc HQ1.out P7.out; have p8 := keepc HQ1.out P8.out; have tk := BR.out.nine; have yr0 := tk.c0; have yr1 := tk.c1; have yr2 := tk.c2; have yr3 := tk.c3; have yr4 := tk.c4; have yr5 := tk.c5; have yr6 := tk.c6; have yr7 := tk.c7; have yr8 := tk.c8; clear tk; have tk := BR.out.free9; have yf0 := tk.c0; have yf1 := tk.c1; have yf2 := tk.c2; have yf3 := tk.c3; have yf4 := tk.c4; have yf5 := tk.c5; have yf6 := tk.c6; have yf7 := tk.c7; have yf8 := tk.c8; clear tk))) | fail "held")
            all_goals
              go_wp2_with fail
              refine bodyPost_ret (v := .agg #[.int .i64 gk7, .string gn7, .int .i64 gvl7, .string gfl7, .slice gAl7 gal7.length gcl7, .int .i64 gvr7, .string gfr7, .slice gAr7 gar7.length gcr7, .slice gA7 gts7.length gc7]) ?_ rfl ⟨?_, bel9 hB (Nat.le_succ _) _ _ _ _ _ _ _ _ _⟩
              · simp [results, Tryz.results25, go_sem, yr0, yr1, yr2, yr3, yr4, yr5, yr6, yr7, yr8]
              · rw [HR.out]; exact FRes.of (r3 GR.out ((Stay.set9 w_not1 _ _ _ _ _ _ _ _ _).trans Stay.w_up))
          · have P0 := Lib.hid p0
            have P1 := Lib.hid p1
            have P2 := Lib.hid p2
            have P3 := Lib.hid p3
            have P4 := Lib.hid p4
            have P5 := Lib.hid p5
            have P6 := Lib.hid p6
            have P7 := Lib.hid p7
            have P8 := Lib.hid p8
            have tk := B1.out.nine; have z0 := tk.c0; have z1 := tk.c1; have z2 := tk.c2; have z3 := tk.c3; have z4 := tk.c4; have z5 := tk.c5; have z6 := tk.c6; have z7 := tk.c7; have z8 := tk.c8; clear tk
            go_upto_region 8 with (fail)
            have HQ0 := Lib.hid (bel_drew1 wr)
            (first | (go_region_held3 (fun w' => w'.cell? ⟨w.heap.size, 0, none⟩ = some (.int .i64 8) ∧ w'.cell? ⟨w.heap.size, 1, none⟩ = some (.string n) ∧ w'.cell? ⟨gg, 0, none⟩ = some (.int .i64 k1) ∧ w'.cell? ⟨gg, 1, none⟩ = some (.string n1) ∧ w'.cell? ⟨gg, 2, none⟩ = some (.int .i64 vl1) ∧ w'.cell? ⟨gg, 3, none⟩ = some (.string fl1) ∧ w'.cell? ⟨gg, 4, none⟩ = some (.slice Al1 al1.length cl1) ∧ w'.cell? ⟨gg, 5, none⟩ = some (.int .i64 vr1) ∧ w'.cell? ⟨gg, 6, none⟩ = some (.string fr1) ∧ w'.cell? ⟨gg, 7, none⟩ = some (.slice Ar1 ar1.length cr1) ∧ w'.cell? ⟨gg, 8, none⟩ = some (.slice A1 ts1.length c1)) (go_keep) (first | (go_at_call 50; refine (HC.out _ HQ0.out).mono ?_; rintro e w5 ⟨⟨gk7, gn7, gvl7, gfl7, gal7, gvr7, gfr7, gar7, gts7, gAl7, gcl7, gAr7, gcr7, gA7, gc7, hg7, rfl, gr7⟩, hb9⟩; have HQ1 := Lib.hid (bel_go HQ0.out hb9); have HR := Lib.hid (show res = (Fm.mk gk7 gn7 (.mk gvl7 gfl7 gal7) (.mk gvr7 gfr7 gar7) gts7) from HR0.out.trans hg7); have hB := bel_go HB.out HQ1.out; have BR := Lib.hid (B2.out.below HQ1.out B2.out.lt); have GR := Lib.hid (r3 gr7 (Stay.up_w (by have := HQ0.out.size; omega))); clear hg7 gr7 hb9; have tz := (B1.out.below HQ1.out B1.out.lt).nine; have z0 := tz.c0; have z1 := tz.c1; clear tz; have p0 := keepc HQ1.out P0.out; have p1 := keepc HQ1.out P1.out; have p2 := keepc HQ1.out P2.out; have p3 := keepc HQ1.out P3.out; have p4 := keepc HQ1.out P4.out; have p5 := keepc HQ1.out P5.out; have p6 := keepc HQ1.out P6.out; have p7 := keepc HQ1.out P7.out; have p8 := keepc HQ1.out P8.out; have tk := BR.out.nine; have yr0 := tk.c0; have yr1 := tk.c1; have yr2 := tk.c2; have yr3 := tk.c3; have yr4 := tk.c4; have yr5 := tk.c5; have yr6 := tk.c6; have yr7 := tk.c7; have yr8 := tk.c8; clear tk; have tk := BR.out.free9; have yf0 := tk.c0; have yf1 := tk.c1; have yf2 := tk.c2; have yf3 := tk.c3; have yf4 := tk.c4; have yf5 := tk.c5; have yf6 := tk.c6; have yf7 := tk.c7; have yf8 := tk.c8; clear tk))) | fail "held")
            all_goals
              go_wp2_with fail
              refine bodyPost_ret (v := .agg #[.int .i64 gk7, .string gn7, .int .i64 gvl7, .string gfl7, .slice gAl7 gal7.length gcl7, .int .i64 gvr7, .string gfr7, .slice gAr7 gar7.length gcr7, .slice gA7 gts7.length gc7]) ?_ rfl ⟨?_, bel9 hB (Nat.le_succ _) _ _ _ _ _ _ _ _ _⟩
              · simp [results, Tryz.results25, go_sem, yr0, yr1, yr2, yr3, yr4, yr5, yr6, yr7, yr8]
              · rw [HR.out]; exact FRes.of (r3 GR.out ((Stay.set9 w_not1 _ _ _ _ _ _ _ _ _).trans Stay.w_up))
        · have HR := Lib.hid (HMV.out.trans (if_neg hk))
          have q7 : (k == 7) = false := by simp; omega
          have q8 : (k == 8) = false := by simp; omega
          clear hk hrl
          have tk := B1.out.nine; have z0 := tk.c0; have z1 := tk.c1; have z2 := tk.c2; have z3 := tk.c3; have z4 := tk.c4; have z5 := tk.c5; have z6 := tk.c6; have z7 := tk.c7; have z8 := tk.c8; clear tk
          have tk := B1.out.free9; have zf0 := tk.c0; have zf1 := tk.c1; have zf2 := tk.c2; have zf3 := tk.c3; have zf4 := tk.c4; have zf5 := tk.c5; have zf6 := tk.c6; have zf7 := tk.c7; have zf8 := tk.c8; clear tk
          go_upto_region 10 with (fail)
          have B7 := Lib.hid (B1.out.set 8 (.slice Av ts.length cv))
          have B8 := Lib.hid (B2.out.other ⟨w.heap.size, 8, none⟩ (.slice Av ts.length cv) (by simp))
          have HB7 := Lib.hid (HB.out.setCell (p := ⟨w.heap.size, 8, none⟩) (Nat.le_refl _) (.slice Av ts.length cv))
          have HR7 := Lib.hid (r3 ⟨HLR.out.1, HLR.out.2, HSF.out⟩ (Stay.set w_not0 8 (.slice Av ts.length cv)))
          simp only [List.set_cons_zero, List.set_cons_succ] at B7
          generalize wr.setCell ⟨w.heap.size, 8, none⟩ (.slice Av ts.length cv) = W9 at *
          clear z0 zf0 z1 zf1 z2 zf2 z3 zf3 z4 zf4 z5 zf5 z6 zf6 z7 zf7 z8 zf8 B1 B2 HB HSF HLR HRO HRL d1 q7 q8
          have hB := HB7.out
          have tk := B7.out.nine; have z0 := tk.c0; have z1 := tk.c1; have z2 := tk.c2; have z3 := tk.c3; have z4 := tk.c4; have z5 := tk.c5; have z6 := tk.c6; have z7 := tk.c7; have z8 := tk.c8; clear tk
          have tk := B8.out.nine; have yr0 := tk.c0; have yr1 := tk.c1; have yr2 := tk.c2; have yr3 := tk.c3; have yr4 := tk.c4; have yr5 := tk.c5; have yr6 := tk.c6; have yr7 := tk.c7; have yr8 := tk.c8; clear tk
          have tk := B8.out.free9; have yf0 := tk.c0; have yf1 := tk.c1; have yf2 := tk.c2; have yf3 := tk.c3; have yf4 := tk.c4; have yf5 := tk.c5; have yf6 := tk.c6; have yf7 := tk.c7; have yf8 := tk.c8; clear tk
          go_wp2_with fail
          refine bodyPost_ret (v := .agg #[.int .i64 k, .string n, .int .i64 vl, .string fl, .slice Al al.length cl, .int .i64 vr, .string fr, .slice Ar ar.length cr, .slice Av ts.length cv]) ?_ rfl ⟨?_, bel9 hB (Nat.le_succ _) _ _ _ _ _ _ _ _ _⟩
          · simp [results, Tryz.results25, go_sem, yr0, yr1, yr2, yr3, yr4, yr5, yr6, yr7, yr8]
          · rw [HR.out]; exact ⟨k, n, vl, fl, al, vr, fr, ar, Fm.miniL ts, Al, cl, Ar, cr, Av, cv, rfl, by rw [Fm.miniL_len], (by rw [Fm.miniL_len]; exact r3 HR7.out ((Stay.set9 w_not1 _ _ _ _ _ _ _ _ _).trans Stay.w_up))⟩
end Go.Proofs.YtndjjnnljihmnaaGreat
