/- The reference's Met. -/
import Derived.Test.YtndjjnnljihmnaaGreatGmG
import Derived.Deep.AppendLies
namespace Go.Proofs.YtndjjnnljihmnaaGreat
open Go.RowKit Go.Proofs.YtndjjnnljihmnaaGreat.Lx
set_option linter.unusedVariables false
set_option linter.unusedSimpArgs false
attribute [local go_sem ↓] app_block
theorem app_nil (w : World) (g : Nat) : (appOp #[77, 77] 77 #[.slice (some ⟨g, 0, none⟩) 0 0, .slice none 0 0]).run Tryz.prog w = .ok (.slice (some ⟨g, 0, none⟩) 0 0) w := by
  obtain ⟨i0, hi0, hz0, hz1, hz2⟩ := info_parts infoS
  show (Builtin.append_ _ _ _).run _ _ = _
  simp [Builtin.append_, run_underlying Tryz.underlying77, sizeOf, typeInfo, hi0, Builtin.lenOf, Builtin.firstCells, storeCells]
theorem own_empty {W' : World} {B g : Nat} (hb : B ≤ g) (h : Blk W' g 9 []) : W'.ownsRow B 9 1 (.slice (some ⟨g, 0, none⟩) 0 0) 0 [] := ⟨rfl, .inr ⟨g, 0, #[], rfl, hb, by unfold Blk at h; simpa using h, Nat.le_refl _, by unfold maxLen; omega, rfl, rfl⟩⟩
theorem row_end {W Wc w10 : World} {g0 m c g5 c5 N : Nat} {XS : List Value} (hb : Below W.heap.size W Wc) (hg : W.heap.size ≤ g0) (hgr : Wc.grownBy w10 (Value.slice (some ⟨g0, 0, none⟩) m c).ownBlock) (hro : w10.ownsRow W.heap.size 9 1 (.slice (some ⟨g5, 0, none⟩) N c5) N XS) : W.heap.size ≤ g5 ∧ Below W.heap.size W w10 := by
  refine ⟨row_low hro rfl, ?_⟩
  have h1 : Fr (fun i => (Value.slice (some ⟨g0, 0, none⟩) m c).ownBlock = some i) W Wc := Fr.of_below hb (Nat.le_refl _)
  have h2 := h1.trans (Fr.of_grown hgr) (fun i _ e => e)
  exact h2.below (Nat.le_refl _) (fun i e => by have : g0 = i := by simpa [Value.ownBlock] using e
                                                omega)
theorem nm_end {w10 : World} {B g5 c5 N : Nat} {XS : List Value} {l : List ByteArray} (hro : w10.ownsRow B 9 1 (.slice (some ⟨g5, 0, none⟩) N c5) N XS) (hN : N = l.length) (hX : XS = strs l) : Nm w10 (some ⟨g5, 0, none⟩) l := by
  subst hN
  subst hX
  obtain ⟨A, c, e, h⟩ := row_nm hro
  injection e with e1 _ _
  rw [e1]
  exact h
theorem news_nm {W w' : World} {g o : Nat} {bd : List ByteArray} (h : Nm W (some ⟨g, o, none⟩) bd) (h0 : 0 < bd.length) (hb : Below W.heap.size W w') : ∀ j u, (strs bd)[j]? = some u → w'.cell? ((⟨g, o, none⟩ : Addr).add j) = some u := by
  intro j u hj
  have hl : j < bd.length := by have := (List.getElem?_eq_some_iff.1 hj).1; simpa [strs] using this
  rw [strs_at bd j hl] at hj
  cases hj
  obtain ⟨g', o', e, hc⟩ := h h0
  injection e with e; injection e with e1 e2
  subst e1 e2
  have e3 : (⟨g, o, none⟩ : Addr).add j = ⟨g, o + j, none⟩ := by
    by_cases h0 : j = 0
    · subst h0; rfl
    · simp [Addr.add, h0]
  rw [e3]
  exact keepc hb (hc j hl)
attribute [local go_sem] app_nil
/-- Met, up to a weight. -/
def RMetAt (fn : Nat) (N : Nat) : Prop := ∀ (k : Int) (n : ByteArray) (vl : Int) (fl : ByteArray) (al : List Tm) (vr : Int) (fr : ByteArray) (ar : List Tm) (ts : List Fm) (Al : Option Addr) (cl : Nat) (Ar : Option Addr) (cr : Nat) (A : Option Addr) (c : Nat) (S : Nat → Prop) (w : World) (base : Nat) (Ab : Option Addr) (cb : Nat) (bd out : List ByteArray) (v : Value), (Fm.mk k n (.mk vl fl al) (.mk vr fr ar) ts).wt ≤ N → N ≤ 1125899906842624 → out.length + (Fm.mk k n (.mk vl fl al) (.mk vr fr ar) ts).wt ≤ 4398046511104 → bd.length + (Fm.mk k n (.mk vl fl al) (.mk vr fr ar) ts).wt ≤ 4398046511104 → ST S w Al al.length cl al → ST S w Ar ar.length cr ar → SF S w A ts.length c ts → (∀ b, S b → b < base) → base ≤ w.heap.size → ((Ab = none ∧ bd = [] ∧ cb = 0) ∨ (0 < bd.length ∧ ∃ g o, Ab = some ⟨g, o, none⟩)) → Nm w Ab bd → w.ownsRow base 9 1 v out.length (strs out) → (∀ g o, Ab = some ⟨g, o, none⟩ → 0 < bd.length → v.ownBlock ≠ some g) →
    Calls Tryz.prog fn #[v, .agg #[.int .i64 k, .string n, .int .i64 vl, .string fl, .slice Al al.length cl, .int .i64 vr, .string fr, .slice Ar ar.length cr, .slice A ts.length c], .slice Ab bd.length cb] w fun e w' => ∃ v', e = .returned v' ∧ w'.ownsRow base 9 1 v' ((Fm.mk k n (.mk vl fl al) (.mk vr fr ar) ts).met bd out).length (strs ((Fm.mk k n (.mk vl fl al) (.mk vr fr ar) ts).met bd out)) ∧ Fr (fun i => v.ownBlock = some i) w w' ∧ (∀ g, v'.ownBlock = some g → v.ownBlock = some g ∨ w.heap.size ≤ g)
theorem bd_eq (k : Int) (bd : List ByteArray) (n : ByteArray) : (k = 7 ∨ k = 8) ∧ bdOf k bd n = bd ++ [n] ∨ ((k == 7) = false ∧ (k == 8) = false ∧ bdOf k bd n = bd) := by
  by_cases h7 : k = 7 ∨ k = 8
  · exact Or.inl ⟨h7, by unfold bdOf; rw [if_pos h7]⟩
  · exact Or.inr ⟨by simp; omega, by simp; omega, by unfold bdOf; rw [if_neg h7]⟩
set_option maxRecDepth 100000 in
set_option maxHeartbeats 6400000 in
theorem rmetA (N : Nat) (k : Int) (n : ByteArray) (vl : Int) (fl : ByteArray) (al : List Tm) (vr : Int) (fr : ByteArray) (ar : List Tm) (ts : List Fm) (Al : Option Addr) (cl : Nat) (Ar : Option Addr) (cr : Nat) (A : Option Addr) (c : Nat) (S : Nat → Prop) (w : World) (base : Nat) (Ab : Option Addr) (cb : Nat) (bd out : List ByteArray) (v : Value) (hk : k = 1) (hN : N ≤ 1125899906842624) (hw : (Fm.mk k n (.mk vl fl al) (.mk vr fr ar) ts).wt ≤ N) (hol : out.length + (Fm.mk k n (.mk vl fl al) (.mk vr fr ar) ts).wt ≤ 4398046511104) (hbl : bd.length + (Fm.mk k n (.mk vl fl al) (.mk vr fr ar) ts).wt ≤ 4398046511104) (hl : ST S w Al al.length cl al) (hr : ST S w Ar ar.length cr ar) (hs : SF S w A ts.length c ts) (hS : ∀ b, S b → b < base) (hb : base ≤ w.heap.size) (hcap : (Ab = none ∧ bd = [] ∧ cb = 0) ∨ (0 < bd.length ∧ ∃ g o, Ab = some ⟨g, o, none⟩)) (hnm : Nm w Ab bd) (hro : w.ownsRow base 9 1 v out.length (strs out)) (hsep : ∀ g o, Ab = some ⟨g, o, none⟩ → 0 < bd.length → v.ownBlock ≠ some g) : Calls Tryz.prog 102 #[v, .agg #[.int .i64 k, .string n, .int .i64 vl, .string fl, .slice Al al.length cl, .int .i64 vr, .string fr, .slice Ar ar.length cr, .slice A ts.length c], .slice Ab bd.length cb] w fun e w' => ∃ v', e = .returned v' ∧ w'.ownsRow base 9 1 v' ((Fm.mk k n (.mk vl fl al) (.mk vr fr ar) ts).met bd out).length (strs ((Fm.mk k n (.mk vl fl al) (.mk vr fr ar) ts).met bd out)) ∧ Fr (fun i => v.ownBlock = some i) w w' ∧ (∀ g, v'.ownBlock = some g → v.ownBlock = some g ∨ w.heap.size ≤ g) := by
  subst hk
  obtain ⟨Ao, co, rfl⟩ := row_slice hro
  have hownl : ∀ k, (Value.slice Ao out.length co).ownBlock = some k → base ≤ k ∧ k < w.heap.size := fun k hk => ⟨row_low hro hk, by obtain ⟨vs, q⟩ := row_blk hro hk; exact q.lt⟩
  have hb0 : Below w.heap.size w (w.alloc (.cells #[.int .i64 1, .string n, .int .i64 vl, .string fl, .slice Al al.length cl, .int .i64 vr, .string fr, .slice Ar ar.length cr, .slice A ts.length c] 27)) := Below.alloc (Below.refl _ _) (Nat.le_refl _) _
  have HF0 : Hid (Fr (fun i => (Value.slice Ao out.length co).ownBlock = some i) w (w.alloc (.cells #[.int .i64 1, .string n, .int .i64 vl, .string fl, .slice Al al.length cl, .int .i64 vr, .string fr, .slice Ar ar.length cr, .slice A ts.length c] 27))) := Lib.hid (Fr.of_below hb0 (Nat.le_refl _))
  have BKf := Lib.hid (Blk.new w 27 [.int .i64 1, .string n, .int .i64 vl, .string fl, .slice Al al.length cl, .int .i64 vr, .string fr, .slice Ar ar.length cr, .slice A ts.length c])
  simp only [List.toArray] at BKf
  have HRO := row_fr hro (Fr.of_below (S := fun _ => False) hb0 (Nat.le_refl _)) (fun k hk hs => hs)
  have HV0 : Hid (VS base (Value.slice Ao out.length co).ownBlock (.slice Ao out.length co) out (w.alloc (.cells #[.int .i64 1, .string n, .int .i64 vl, .string fl, .slice Al al.length cl, .int .i64 vr, .string fr, .slice Ar ar.length cr, .slice A ts.length c] 27)) (w.alloc (.cells #[.int .i64 1, .string n, .int .i64 vl, .string fl, .slice Al al.length cl, .int .i64 vr, .string fr, .slice Ar ar.length cr, .slice A ts.length c] 27))) := Lib.hid ⟨HRO, Fr.refl _ _, fun g hg => Or.inl hg⟩
  have HNM := Lib.hid (hnm.below hb0)
  have HSEP := Lib.hid hsep
  have HOL := Lib.hid (fun k hk => (hownl k hk).2)
  have HSS : Hid (∀ b, S b → ¬ (Value.slice Ao out.length co).ownBlock = some b) := Lib.hid (fun b hs e => by have h1 := hS b hs; have h2 := (hownl b e).1; omega)
  have HSL := Lib.hid hS
  have HBS := Lib.hid hb
  have hv := Fm.met_atom n (.mk vl fl al) (.mk vr fr ar) ts bd out
  rw [hv]
  have hlw := Fm.wt_atom n vl fl al vr fr ar ts
  have hm1 := Tm.met_len bd (.mk vl fl al) out
  generalize hW : (w.alloc (.cells #[.int .i64 1, .string n, .int .i64 vl, .string fl, .slice Al al.length cl, .int .i64 vr, .string fr, .slice Ar ar.length cr, .slice A ts.length c] 27)) = W at *
  have HWS := Lib.hid (show W.heap.size = w.heap.size + 1 by rw [← hW]; simp)
  have hwd : Below W.heap.size W W.drew := bel_drew1 W
  have HC1 := Lib.hid (vars0 N vl fl al S W.drew Al cl base Ab cb bd out (.slice Ao out.length co) (by omega) hN (by omega) (by omega) ((hl.stay (Stay.below hb0)).stay (Stay.below hwd)) hS (by have h1 := hb0.size; have h2 := hwd.size; omega) (HNM.out.below hwd) (row_fr HV0.out.ro (Fr.of_below (S := fun _ => False) hwd (Nat.le_refl _)) (fun k hk hs => hs)) hsep)
  have HC2 := Lib.hid (fun w2 v2 (hv : VS base (Value.slice Ao out.length co).ownBlock v2 ((Tm.mk vl fl al).met bd out) W w2) => vars0 N vr fr ar S w2 Ar cr base Ab cb bd ((Tm.mk vl fl al).met bd out) v2 (by omega) hN (by omega) (by omega) ((hr.stay (Stay.below hb0)).stay (hv.fr.stay HSS.out)) hS (by have h1 := hb0.size; have h2 := hv.fr.size; omega) (hv.nm HNM.out hsep).1 hv.ro (hv.nm HNM.out hsep).2)
  have HD := Lib.hid hwd
  clear hv hlw hm1 hl hr hs hN hw hol hbl hownl hb0 HRO hro hsep hnm hS hb hcap hwd
  generalize ((Tm.mk vr fr ar).met bd ((Tm.mk vl fl al).met bd out)) = outr at *
  generalize ((Tm.mk vl fl al).met bd out) = outl at *
  go_enter Tryz.func102, Tryz.ntmps102
  go_upto_region 1 with (fail)
  try rw [hW]
  clear hW
  have tk := BKf.out.nine; have z0 := tk.c0; have z1 := tk.c1; have z2 := tk.c2; have z3 := tk.c3; have z4 := tk.c4; have z5 := tk.c5; have z6 := tk.c6; have z7 := tk.c7; have z8 := tk.c8; clear tk
  go_upto_region 2 with (fail)
  (first | (go_region_held3 (fun w' => w'.cell? ⟨w.heap.size, 2, none⟩ = some (.int .i64 vl) ∧ w'.cell? ⟨w.heap.size, 3, none⟩ = some (.string fl) ∧ w'.cell? ⟨w.heap.size, 4, none⟩ = some (.slice Al al.length cl) ∧ w'.cell? ⟨w.heap.size, 5, none⟩ = some (.int .i64 vr) ∧ w'.cell? ⟨w.heap.size, 6, none⟩ = some (.string fr) ∧ w'.cell? ⟨w.heap.size, 7, none⟩ = some (.slice Ar ar.length cr)) (go_keep) (first | (go_at_call 120; refine HC3.out.mono ?_; rintro e w9 ⟨v3, rfl, hro3, hf3, ho3⟩; have HV3 := Lib.hid (HV2.out.step (Below.refl _ _) hro3 hf3 ho3); obtain ⟨A3, c3, rfl⟩ := row_slice hro3; clear hro3 hf3 ho3; have hbk := BKf.out.fr HV3.out.fr (fun e => by have := HOL.out _ e; omega); have tk := hbk.nine; have z0 := tk.c0; have z1 := tk.c1; have z2 := tk.c2; have z3 := tk.c3; have z4 := tk.c4; have z5 := tk.c5; have z6 := tk.c6; have z7 := tk.c7; have z8 := tk.c8; clear tk; clear hbk) | (go_at_call 120; refine HC1.out.mono ?_; rintro e w9 ⟨v2, rfl, hro2, hf2, ho2⟩; have HV2 := Lib.hid (HV0.out.step HD.out hro2 hf2 ho2); have HC3 := Lib.hid (HC2.out w9 v2 HV2.out); obtain ⟨A2, c2, rfl⟩ := row_slice hro2; clear hro2 hf2 ho2; have hbk := BKf.out.fr HV2.out.fr (fun e => by have := HOL.out _ e; omega); have tk := hbk.nine; have z0 := tk.c0; have z1 := tk.c1; have z2 := tk.c2; have z3 := tk.c3; have z4 := tk.c4; have z5 := tk.c5; have z6 := tk.c6; have z7 := tk.c7; have z8 := tk.c8; clear tk; clear hbk))) | fail "held")
  all_goals
    clear z0 z1 z2 z3 z4 z5 z6 z7 z8
    go_wp2_with fail
    go_ret
    exact ⟨_, rfl, HV3.out.ro, HF0.out.trans HV3.out.fr (fun i _ e => e), fun g hg => by rcases HV3.out.ow g hg with h | h; exact Or.inl h; exact Or.inr (by have := HWS.out; omega)⟩
set_option maxRecDepth 100000 in
set_option maxHeartbeats 12800000 in
theorem rmetB (N : Nat) (ih : RMetAt 102 N) (k : Int) (n : ByteArray) (vl : Int) (fl : ByteArray) (al : List Tm) (vr : Int) (fr : ByteArray) (ar : List Tm) (ts : List Fm) (Al : Option Addr) (cl : Nat) (Ar : Option Addr) (cr : Nat) (A : Option Addr) (c : Nat) (S : Nat → Prop) (w : World) (base : Nat) (Ab : Option Addr) (cb : Nat) (bd out : List ByteArray) (v : Value) (hk : k ≠ 1) (hN : N + 1 ≤ 1125899906842624) (hw : (Fm.mk k n (.mk vl fl al) (.mk vr fr ar) ts).wt ≤ N + 1) (hol : out.length + (Fm.mk k n (.mk vl fl al) (.mk vr fr ar) ts).wt ≤ 4398046511104) (hbl : bd.length + (Fm.mk k n (.mk vl fl al) (.mk vr fr ar) ts).wt ≤ 4398046511104) (hl : ST S w Al al.length cl al) (hr : ST S w Ar ar.length cr ar) (hs : SF S w A ts.length c ts) (hS : ∀ b, S b → b < base) (hb : base ≤ w.heap.size) (hcap : (Ab = none ∧ bd = [] ∧ cb = 0) ∨ (0 < bd.length ∧ ∃ g o, Ab = some ⟨g, o, none⟩)) (hnm : Nm w Ab bd) (hro : w.ownsRow base 9 1 v out.length (strs out)) (hsep : ∀ g o, Ab = some ⟨g, o, none⟩ → 0 < bd.length → v.ownBlock ≠ some g) : Calls Tryz.prog 102 #[v, .agg #[.int .i64 k, .string n, .int .i64 vl, .string fl, .slice Al al.length cl, .int .i64 vr, .string fr, .slice Ar ar.length cr, .slice A ts.length c], .slice Ab bd.length cb] w fun e w' => ∃ v', e = .returned v' ∧ w'.ownsRow base 9 1 v' ((Fm.mk k n (.mk vl fl al) (.mk vr fr ar) ts).met bd out).length (strs ((Fm.mk k n (.mk vl fl al) (.mk vr fr ar) ts).met bd out)) ∧ Fr (fun i => v.ownBlock = some i) w w' ∧ (∀ g, v'.ownBlock = some g → v.ownBlock = some g ∨ w.heap.size ≤ g) := by
  obtain ⟨Ao, co, rfl⟩ := row_slice hro
  have hownl : ∀ k, (Value.slice Ao out.length co).ownBlock = some k → base ≤ k ∧ k < w.heap.size := fun k hk => ⟨row_low hro hk, by obtain ⟨vs, q⟩ := row_blk hro hk; exact q.lt⟩
  have hb0 : Below w.heap.size w (w.alloc (.cells #[.int .i64 k, .string n, .int .i64 vl, .string fl, .slice Al al.length cl, .int .i64 vr, .string fr, .slice Ar ar.length cr, .slice A ts.length c] 27)) := Below.alloc (Below.refl _ _) (Nat.le_refl _) _
  have HF0 : Hid (Fr (fun i => (Value.slice Ao out.length co).ownBlock = some i) w (w.alloc (.cells #[.int .i64 k, .string n, .int .i64 vl, .string fl, .slice Al al.length cl, .int .i64 vr, .string fr, .slice Ar ar.length cr, .slice A ts.length c] 27))) := Lib.hid (Fr.of_below hb0 (Nat.le_refl _))
  have BKf := Lib.hid (Blk.new w 27 [.int .i64 k, .string n, .int .i64 vl, .string fl, .slice Al al.length cl, .int .i64 vr, .string fr, .slice Ar ar.length cr, .slice A ts.length c])
  simp only [List.toArray] at BKf
  have HRO := row_fr hro (Fr.of_below (S := fun _ => False) hb0 (Nat.le_refl _)) (fun k hk hs => hs)
  have HV0 : Hid (VS base (Value.slice Ao out.length co).ownBlock (.slice Ao out.length co) out (w.alloc (.cells #[.int .i64 k, .string n, .int .i64 vl, .string fl, .slice Al al.length cl, .int .i64 vr, .string fr, .slice Ar ar.length cr, .slice A ts.length c] 27)) (w.alloc (.cells #[.int .i64 k, .string n, .int .i64 vl, .string fl, .slice Al al.length cl, .int .i64 vr, .string fr, .slice Ar ar.length cr, .slice A ts.length c] 27))) := Lib.hid ⟨HRO, Fr.refl _ _, fun g hg => Or.inl hg⟩
  have HNM := Lib.hid (hnm.below hb0)
  have HSEP := Lib.hid hsep
  have HOL := Lib.hid (fun k hk => (hownl k hk).2)
  have HSS : Hid (∀ b, S b → ¬ (Value.slice Ao out.length co).ownBlock = some b) := Lib.hid (fun b hs e => by have h1 := hS b hs; have h2 := (hownl b e).1; omega)
  have HSL := Lib.hid hS
  have HBS := Lib.hid hb
  rw [Fm.met_other k n (.mk vl fl al) (.mk vr fr ar) ts bd out hk]
  have hwo := Fm.wt_other k n vl fl al vr fr ar ts
  have hbo := bdOf_len k bd n
  have hlen : ts.length ≤ 1152921504606846976 := by have := Fm.len_wts ts; omega
  have HWN : Hid (Fm.wts ts ≤ N ∧ N + 1 ≤ 1125899906842624 ∧ out.length + Fm.wts ts ≤ 4398046511104 ∧ (bdOf k bd n).length + Fm.wts ts ≤ 4398046511104 ∧ base ≤ w.heap.size) := Lib.hid (by omega)
  have HBB : Hid (bd.length + 1 ≤ 4398046511104) := Lib.hid (by omega)
  have HSR := Lib.hid (hs.stay (Stay.below hb0))
  have HIN := Lib.hid ih
  have hbq := bd_eq k bd n
  have q1 : (k == 1) = false := by simpa using hk
  generalize hbd : bdOf k bd n = bd' at *
  clear hbd
  generalize hW : (w.alloc (.cells #[.int .i64 k, .string n, .int .i64 vl, .string fl, .slice Al al.length cl, .int .i64 vr, .string fr, .slice Ar ar.length cr, .slice A ts.length c] 27)) = W at *
  have HWS := Lib.hid (show W.heap.size = w.heap.size + 1 by rw [← hW]; simp)
  have HCP := Lib.hid hcap
  clear hwo hbo hl hr hs hN hw hol hbl hownl hb0 HRO hro hsep hnm hS hb hcap ih hk
  have HIH : Hid (∀ (A2 : Option Addr) (c2 : Nat) (W5 : World), ((A2 = none ∧ bd' = [] ∧ c2 = 0) ∨ (0 < bd'.length ∧ ∃ g o, A2 = some ⟨g, o, none⟩)) → Nm W5 A2 bd' → (∀ g o, A2 = some ⟨g, o, none⟩ → 0 < bd'.length → (Value.slice Ao out.length co).ownBlock ≠ some g) → Below W.heap.size W W5 → ∀ (i : Nat) (hlt : i < ts.length) (vl_ : Value) (wr : World) k1 n1 vl1 fl1 al1 vr1 fr1 ar1 ts1 Al1 cl1 Ar1 cr1 A1 c1, ts[i] = Fm.mk k1 n1 (.mk vl1 fl1 al1) (.mk vr1 fr1 ar1) ts1 → VS base (Value.slice Ao out.length co).ownBlock vl_ (Fm.mets bd' out (ts.take i)) W5 wr → ST S wr Al1 al1.length cl1 al1 → ST S wr Ar1 ar1.length cr1 ar1 → SF S wr A1 ts1.length c1 ts1 → Calls Tryz.prog 102 #[vl_, .agg #[.int .i64 k1, .string n1, .int .i64 vl1, .string fl1, .slice Al1 al1.length cl1, .int .i64 vr1, .string fr1, .slice Ar1 ar1.length cr1, .slice A1 ts1.length c1], .slice A2 bd'.length c2] wr fun e w' => ∃ v', e = .returned v' ∧ VS base (Value.slice Ao out.length co).ownBlock v' (Fm.mets bd' out (ts.take (i + 1))) W5 w') := Lib.hid (by
    intro A2 c2 W5 hcp hn2 hsp2 hb5 i hlt vl_ wr k1 n1 vl1 fl1 al1 vr1 fr1 ar1 ts1 Al1 cl1 Ar1 cr1 A1 c1 hm hv h1 h2 h3
    have htk := Fm.wts_take ts i hlt
    have hml := Fm.mets_len (ts.take i) bd' out
    have hmt := Fm.mets_take bd' out ts i hlt
    rw [hm] at htk hmt
    rw [hmt]
    obtain ⟨g1, g2, g3, g4, g5⟩ := HWN.out
    obtain ⟨hn3, hs3⟩ := hv.nm hn2 hsp2
    have hz1 := hb5.size
    have hz2 := hv.fr.size
    have hz3 := HWS.out
    refine (HIN.out k1 n1 vl1 fl1 al1 vr1 fr1 ar1 ts1 Al1 cl1 Ar1 cr1 A1 c1 S wr base A2 c2 bd' _ vl_ (by omega) (by omega) (by omega) (by omega) h1 h2 h3 HSL.out (by omega) hcp hn3 hv.ro hs3).mono ?_
    rintro e w2 ⟨v3, rfl, hro3, hf3, ho3⟩
    exact ⟨v3, rfl, hv.step (Below.refl _ _) hro3 hf3 ho3⟩)
  clear HIN HWN
  rcases hbq with ⟨h78, hbd'⟩ | ⟨q7, q8, hbd'⟩
  rotate_left
  · subst hbd'
    have HB5x := (Below.refl W.heap.size W)
    have HF5 : Hid (Fr (fun i => (Value.slice Ao out.length co).ownBlock = some i) W W) := Lib.hid (Fr.of_below HB5x (Nat.le_refl _))
    have BK5 := Lib.hid (BKf.out.below HB5x BKf.out.lt)
    have HSR5 := Lib.hid (HSR.out.stay (Stay.below HB5x))
    have HV5 : Hid (VS base (Value.slice Ao out.length co).ownBlock (.slice Ao out.length co) out W W) := Lib.hid ⟨row_fr HV0.out.ro (Fr.of_below (S := fun _ => False) HB5x (Nat.le_refl _)) (fun k hk hs => hs), Fr.refl _ _, fun g hg => Or.inl hg⟩
    have HIX := HIH.out _ _ W HCP.out HNM.out HSEP.out HB5x
    have HIX := Lib.hid HIX
    clear HB5x HIH HV0
    go_enter Tryz.func102, Tryz.ntmps102
    go_upto_region 1 with (fail)
    try rw [hW]
    clear hW
    have tk := BKf.out.nine; have z0 := tk.c0; have z1 := tk.c1; have z2 := tk.c2; have z3 := tk.c3; have z4 := tk.c4; have z5 := tk.c5; have z6 := tk.c6; have z7 := tk.c7; have z8 := tk.c8; clear tk
    go_wp2_with fail
    clear z0 z1 z2 z3 z4 z5 z6 z7 z8
    go_loopw [0, 7] (fun vl_ vi wl => ∃ i : Nat, vi = .int .i64 i ∧ i ≤ ts.length ∧ VS base (Value.slice Ao out.length co).ownBlock vl_ (Fm.mets bd' out (ts.take i)) W wl) (fun _ vi _ => ts.length - (intOf vi).toNat)
    case atStart => exact ⟨0, rfl, by omega, by rw [List.take_zero, Fm.mets]; exact HV5.out⟩
    case round =>
      obtain ⟨i, rfl, hi, hv⟩ := hrel
      obtain ⟨Av, cv, rfl⟩ := row_slice hv.ro
      have HV := Lib.hid hv
      have hbk := BK5.out.fr hv.fr (fun e => by have := HOL.out _ e; omega)
      have z8 := hbk.nine.c8
      clear hv hbk
      by_cases hlt : i < ts.length
      · have hsr := HSR5.out.stay (HV.out.fr.stay (S := S) HSS.out)
        obtain ⟨b, o, hA, k1, n1, vl1, fl1, al1, vr1, fr1, ar1, ts1, Al1, cl1, Ar1, cr1, A1, c1, hm1, hl1, hr1, hs1, p0, p1, p2, p3, p4, p5, p6, p7, p8⟩ := hsr.at i hlt
        subst hA
        have HC := Lib.hid (HIX.out i hlt _ wr k1 n1 vl1 fl1 al1 vr1 fr1 ar1 ts1 Al1 cl1 Ar1 cr1 A1 c1 hm1 HV.out hl1 hr1 hs1)
        have HLT := Lib.hid hlt
        have hIL : (i : Int) ≤ 1152921504606846976 := by omega
        clear hsr hm1 hl1 hr1 hs1
        go_wp2_with fail
        refine HC.out.mono ?_
        rintro e w2 ⟨v3, rfl, hv3⟩
        obtain ⟨A3, c3, rfl⟩ := row_slice hv3.ro
        have HV3 := Lib.hid hv3
        clear hv3 HC HV p0 p1 p2 p3 p4 p5 p6 p7 p8 z8
        go_wp2_with fail
        go_roundw
        case rel => exact ⟨i + 1, by go_num, HLT.out, HV3.out⟩
        case measure => have := HLT.out; simp [intOf]; omega
      · obtain rfl : i = ts.length := by omega
        simp only [List.take_length] at HV ⊢
        have HQX := HV
        have d1 : decide (ts.length < ts.length) = false := by simp
        clear HV
        go_wp2_with fail
        go_ret
        exact ⟨_, rfl, HQX.out.ro, (HF0.out.trans HF5.out (fun i _ e => e)).trans HQX.out.fr (fun i _ e => e), fun g hg => by rcases HQX.out.ow g hg with h | h; exact Or.inl h; exact Or.inr (by have h1 := HWS.out; have h2 := HF5.out.size; omega)⟩
  subst hbd'
  have HK78 := Lib.hid h78
  clear h78
  rcases HK78.out with rfl | rfl
  all_goals
    go_enter Tryz.func102, Tryz.ntmps102
    go_upto_region 1 with (fail)
    try rw [hW]
    clear hW
    have tk := BKf.out.nine; have z0 := tk.c0; have z1 := tk.c1; have z2 := tk.c2; have z3 := tk.c3; have z4 := tk.c4; have z5 := tk.c5; have z6 := tk.c6; have z7 := tk.c7; have z8 := tk.c8; clear tk
    go_upto_region 4 with (fail)
    go_cut [2] (fun v2 wx => ∃ g5 c5, v2 = .slice (some ⟨g5, 0, none⟩) (bd.length + 1) c5 ∧ W.heap.size ≤ g5 ∧ Nm wx (some ⟨g5, 0, none⟩) (bd ++ [n]) ∧ Below W.heap.size W wx)
    case first =>
      obtain ⟨i0, hi0, hz0, hz1, hz2⟩ := info_parts infoS
      have HQ0 := Lib.hid (bel_drew1 W)
      have hgf : w.heap.size < W.heap.size := BKf.out.lt
      have hk1 := Nat.ne_of_gt hgf
      have hk2 := hk1.symm
      rcases HCP.out with ⟨rfl, rfl, rfl⟩ | ⟨h0, gB, oB, rfl⟩
      · go_region_law (first | (refine step_append_lies _ (by rfl) _ _ _ (by rfl) W.heap.size 9 i0 _ 1 16 Tryz.underlying77 hi0 hz0 hz1 hz2 rfl (by omega) (.slice (some ⟨W.heap.size, 0, none⟩) 0 0) (0) ([]) rfl (own_empty (Nat.le_refl _) ((Blk.new W.drew 9 []).alloc (.cells #[.string n] 9))) ⟨W.heap.size + 1, 0, none⟩ 1 1 ([.string n]) rfl (by rfl) (World.news_of_block (cs := #[.string n]) (t := 9) (fr := (0, 0)) (Blk.new' (W.drew.alloc (.cells #[] 9)) (W.heap.size + 1) 9 [.string n] (by simp))) (by simp [Value.oneCell']) (by omega) (by have := HBB.out; unfold maxLen; omega) (by have := HBB.out; omega) (((HQ0.out.alloc HQ0.out.size (.cells #[] 9)).alloc (HQ0.out.alloc HQ0.out.size (.cells #[] 9)).size (.cells #[.string n] 9)).size) _ rfl ?_; intro g5 c5 w10 hro5 hgr5 hat5 hlt5; have HE5 := Lib.hid (row_end ((HQ0.out.alloc HQ0.out.size (.cells #[] 9)).alloc (HQ0.out.alloc HQ0.out.size (.cells #[] 9)).size (.cells #[.string n] 9)) (Nat.le_refl _) hgr5 hro5); have HN5 := Lib.hid (nm_end (l := [n]) hro5 (by simp) (by simp [strs])); clear hro5 hgr5 hat5 hlt5) | (refine step_append_lies _ (by rfl) _ _ _ (by rfl) W.heap.size 9 i0 _ 1 16 Tryz.underlying77 hi0 hz0 hz1 hz2 rfl (by omega) (.slice (some ⟨W.heap.size + 1, 0, none⟩) 0 0) (0) ([]) rfl (own_empty (Nat.le_succ _) (Blk.new' (W.drew.alloc (.cells #[.string n] 9)) (W.heap.size + 1) 9 [] (by simp))) ⟨W.heap.size, 0, none⟩ 1 1 ([.string n]) rfl (by rfl) (World.news_of_block (cs := #[.string n]) (t := 9) (fr := (0, 0)) ((Blk.new W.drew 9 [.string n]).alloc (.cells #[] 9))) (by simp [Value.oneCell']) (by omega) (by have := HBB.out; unfold maxLen; omega) (by have := HBB.out; omega) (((HQ0.out.alloc HQ0.out.size (.cells #[.string n] 9)).alloc (HQ0.out.alloc HQ0.out.size (.cells #[.string n] 9)).size (.cells #[] 9)).size) _ rfl ?_; intro g5 c5 w10 hro5 hgr5 hat5 hlt5; have HE5 := Lib.hid (row_end ((HQ0.out.alloc HQ0.out.size (.cells #[.string n] 9)).alloc (HQ0.out.alloc HQ0.out.size (.cells #[.string n] 9)).size (.cells #[] 9)) (Nat.le_succ _) hgr5 hro5); have HN5 := Lib.hid (nm_end (l := [n]) hro5 (by simp) (by simp [strs])); clear hro5 hgr5 hat5 hlt5))
        all_goals
          go_wp2_with fail
          go_meet
          exact ⟨_, _, rfl, HE5.out.1, HN5.out, HE5.out.2⟩
      · go_region_law (first | (refine step_append_lies _ (by rfl) _ _ _ (by rfl) W.heap.size 9 i0 _ 1 16 Tryz.underlying77 hi0 hz0 hz1 hz2 rfl (by omega) (.slice (some ⟨g1, 0, none⟩) bd.length c1) (bd.length) (strs bd) rfl (HR1.out.alloc _) ⟨_, 0, none⟩ 1 1 ([.string n]) rfl (by rfl) (World.news_of_block (cs := #[.string n]) (t := 9) (fr := (0, 0)) (heap_alloc_new _ _)) (by simp [Value.oneCell']) (by omega) (by have := HBB.out; unfold maxLen; omega) (by have := HBB.out; omega) ((HE1.out.2.alloc HE1.out.2.size (.cells #[.string n] 9)).size) _ rfl ?_; intro g5 c5 w10 hro5 hgr5 hat5 hlt5; have HE5 := Lib.hid (row_end (HE1.out.2.alloc HE1.out.2.size (.cells #[.string n] 9)) HE1.out.1 hgr5 hro5); have HN5 := Lib.hid (nm_end (l := bd ++ [n]) hro5 (by simp) (by simp [strs])); clear hro5 hgr5 hat5 hlt5) | (refine step_append_lies _ (by rfl) _ _ _ (by rfl) W.heap.size 9 i0 _ 1 16 Tryz.underlying77 hi0 hz0 hz1 hz2 rfl (by omega) (.slice (some ⟨g1, 0, none⟩) bd.length c1) (bd.length) (strs bd) rfl (HR1.out) ⟨_, 0, none⟩ 1 1 ([.string n]) rfl (by rfl) (World.news_of_block (cs := #[.string n]) (t := 9) (fr := (0, 0)) BN.out) (by simp [Value.oneCell']) (by omega) (by have := HBB.out; unfold maxLen; omega) (by have := HBB.out; omega) (HE1.out.2.size) _ rfl ?_; intro g5 c5 w10 hro5 hgr5 hat5 hlt5; have HE5 := Lib.hid (row_end HE1.out.2 HE1.out.1 hgr5 hro5); have HN5 := Lib.hid (nm_end (l := bd ++ [n]) hro5 (by simp) (by simp [strs])); clear hro5 hgr5 hat5 hlt5) | (refine step_append_lies _ (by rfl) _ _ _ (by rfl) W.heap.size 9 i0 _ 1 16 Tryz.underlying77 hi0 hz0 hz1 hz2 rfl (by omega) (.slice (some ⟨W.heap.size + 1, 0, none⟩) 0 0) (0) ([]) rfl (own_empty (Nat.le_succ _) (Blk.new' (W.drew.alloc (.cells #[.string n] 9)) (W.heap.size + 1) 9 [] (by simp))) ⟨gB, oB, none⟩ bd.length cb (strs bd) rfl (by simp [strs]) (news_nm HNM.out h0 ((HQ0.out.alloc HQ0.out.size (.cells #[.string n] 9)).alloc (HQ0.out.alloc HQ0.out.size (.cells #[.string n] 9)).size (.cells #[] 9))) (by intro u hu; simp [strs] at hu; obtain ⟨a, _, rfl⟩ := hu; rfl) (h0) (by have := HBB.out; unfold maxLen; omega) (by have := HBB.out; omega) (((HQ0.out.alloc HQ0.out.size (.cells #[.string n] 9)).alloc (HQ0.out.alloc HQ0.out.size (.cells #[.string n] 9)).size (.cells #[] 9)).size) _ rfl ?_; intro g1 c1 w10 hro1 hgr1 hat1 hlt1; have HE1 := Lib.hid (row_end ((HQ0.out.alloc HQ0.out.size (.cells #[.string n] 9)).alloc (HQ0.out.alloc HQ0.out.size (.cells #[.string n] 9)).size (.cells #[] 9)) (Nat.le_succ _) hgr1 hro1); have BN : Hid (Blk w10 W.heap.size 9 [.string n]) := Lib.hid (Blk.grown ((Blk.new W.drew 9 [.string n]).alloc (.cells #[] 9)) hgr1 (by simp [Value.ownBlock])); have HR1 := Lib.hid hro1; have z1 := (BKf.out.below HE1.out.2 BKf.out.lt).nine.c1; clear hro1 hgr1 hat1 hlt1; simp only [Nat.zero_add, List.nil_append] at HR1 ⊢) | (refine step_append_lies _ (by rfl) _ _ _ (by rfl) W.heap.size 9 i0 _ 1 16 Tryz.underlying77 hi0 hz0 hz1 hz2 rfl (by omega) (.slice (some ⟨W.heap.size, 0, none⟩) 0 0) (0) ([]) rfl (own_empty (Nat.le_refl _) ((Blk.new W.drew 9 []).alloc (.cells #[.string n] 9))) ⟨gB, oB, none⟩ bd.length cb (strs bd) rfl (by simp [strs]) (news_nm HNM.out h0 ((HQ0.out.alloc HQ0.out.size (.cells #[] 9)).alloc (HQ0.out.alloc HQ0.out.size (.cells #[] 9)).size (.cells #[.string n] 9))) (by intro u hu; simp [strs] at hu; obtain ⟨a, _, rfl⟩ := hu; rfl) (h0) (by have := HBB.out; unfold maxLen; omega) (by have := HBB.out; omega) (((HQ0.out.alloc HQ0.out.size (.cells #[] 9)).alloc (HQ0.out.alloc HQ0.out.size (.cells #[] 9)).size (.cells #[.string n] 9)).size) _ rfl ?_; intro g1 c1 w10 hro1 hgr1 hat1 hlt1; have HE1 := Lib.hid (row_end ((HQ0.out.alloc HQ0.out.size (.cells #[] 9)).alloc (HQ0.out.alloc HQ0.out.size (.cells #[] 9)).size (.cells #[.string n] 9)) (Nat.le_refl _) hgr1 hro1); have BN : Hid (Blk w10 (W.heap.size + 1) 9 [.string n]) := Lib.hid (Blk.grown (Blk.new' (W.drew.alloc (.cells #[] 9)) (W.heap.size + 1) 9 [.string n] (by simp)) hgr1 (by simp [Value.ownBlock])); have HR1 := Lib.hid hro1; have z1 := (BKf.out.below HE1.out.2 BKf.out.lt).nine.c1; clear hro1 hgr1 hat1 hlt1; simp only [Nat.zero_add, List.nil_append] at HR1 ⊢) | (refine step_append_lies _ (by rfl) _ _ _ (by rfl) W.heap.size 9 i0 _ 1 16 Tryz.underlying77 hi0 hz0 hz1 hz2 rfl (by omega) (.slice (some ⟨W.heap.size, 0, none⟩) 0 0) (0) ([]) rfl (own_empty (Nat.le_refl _) (Blk.new W.drew 9 [])) ⟨gB, oB, none⟩ bd.length cb (strs bd) rfl (by simp [strs]) (news_nm HNM.out h0 (HQ0.out.alloc HQ0.out.size (.cells #[] 9))) (by intro u hu; simp [strs] at hu; obtain ⟨a, _, rfl⟩ := hu; rfl) (h0) (by have := HBB.out; unfold maxLen; omega) (by have := HBB.out; omega) ((HQ0.out.alloc HQ0.out.size (.cells #[] 9)).size) _ rfl ?_; intro g1 c1 w10 hro1 hgr1 hat1 hlt1; have HE1 := Lib.hid (row_end (HQ0.out.alloc HQ0.out.size (.cells #[] 9)) (Nat.le_refl _) hgr1 hro1); have HR1 := Lib.hid hro1; have z1 := (BKf.out.below HE1.out.2 BKf.out.lt).nine.c1; clear hro1 hgr1 hat1 hlt1; simp only [Nat.zero_add, List.nil_append] at HR1 ⊢))
        all_goals
          go_wp2_with fail
          go_meet
          exact ⟨_, _, rfl, HE5.out.1, HN5.out, HE5.out.2⟩
    case rest =>
      obtain ⟨g5, c5, rfl, hg5, hn5, hb5⟩ := hcut
      generalize hWc : wc = W5 at *
      clear hWc
      have HB5x := hb5
      have HF5 : Hid (Fr (fun i => (Value.slice Ao out.length co).ownBlock = some i) W W5) := Lib.hid (Fr.of_below HB5x (Nat.le_refl _))
      have BK5 := Lib.hid (BKf.out.below HB5x BKf.out.lt)
      have HSR5 := Lib.hid (HSR.out.stay (Stay.below HB5x))
      have HV5 : Hid (VS base (Value.slice Ao out.length co).ownBlock (.slice Ao out.length co) out W5 W5) := Lib.hid ⟨row_fr HV0.out.ro (Fr.of_below (S := fun _ => False) HB5x (Nat.le_refl _)) (fun k hk hs => hs), Fr.refl _ _, fun g hg => Or.inl hg⟩
      have HIX := HIH.out _ c5 W5 (Or.inr ⟨by simp, g5, 0, rfl⟩) hn5 (fun g o e h0 hh => by injection e with e; injection e with e1 e2; subst e1; have h1 := HOL.out _ hh; have h2 := HWS.out; omega) HB5x
      simp only [List.length_append, List.length_cons, List.length_nil, Nat.zero_add] at HIX
      have HIX := Lib.hid HIX
      clear HB5x HIH HV0
      clear hg5 hn5 hb5 z0 z1 z2 z3 z4 z5 z6 z7 z8
      go_wp2_with fail
      go_loopw [0, 7] (fun vl_ vi wl => ∃ i : Nat, vi = .int .i64 i ∧ i ≤ ts.length ∧ VS base (Value.slice Ao out.length co).ownBlock vl_ (Fm.mets (bd ++ [n]) out (ts.take i)) W5 wl) (fun _ vi _ => ts.length - (intOf vi).toNat)
      case atStart => exact ⟨0, rfl, by omega, by rw [List.take_zero, Fm.mets]; exact HV5.out⟩
      case round =>
        obtain ⟨i, rfl, hi, hv⟩ := hrel
        obtain ⟨Av, cv, rfl⟩ := row_slice hv.ro
        have HV := Lib.hid hv
        have hbk := BK5.out.fr hv.fr (fun e => by have := HOL.out _ e; omega)
        have z8 := hbk.nine.c8
        clear hv hbk
        by_cases hlt : i < ts.length
        · have hsr := HSR5.out.stay (HV.out.fr.stay (S := S) HSS.out)
          obtain ⟨b, o, hA, k1, n1, vl1, fl1, al1, vr1, fr1, ar1, ts1, Al1, cl1, Ar1, cr1, A1, c1, hm1, hl1, hr1, hs1, p0, p1, p2, p3, p4, p5, p6, p7, p8⟩ := hsr.at i hlt
          subst hA
          have HC := Lib.hid (HIX.out i hlt _ wr k1 n1 vl1 fl1 al1 vr1 fr1 ar1 ts1 Al1 cl1 Ar1 cr1 A1 c1 hm1 HV.out hl1 hr1 hs1)
          have HLT := Lib.hid hlt
          have hIL : (i : Int) ≤ 1152921504606846976 := by omega
          clear hsr hm1 hl1 hr1 hs1
          go_wp2_with fail
          refine HC.out.mono ?_
          rintro e w2 ⟨v3, rfl, hv3⟩
          obtain ⟨A3, c3, rfl⟩ := row_slice hv3.ro
          have HV3 := Lib.hid hv3
          clear hv3 HC HV p0 p1 p2 p3 p4 p5 p6 p7 p8 z8
          go_wp2_with fail
          go_roundw
          case rel => exact ⟨i + 1, by go_num, HLT.out, HV3.out⟩
          case measure => have := HLT.out; simp [intOf]; omega
        · obtain rfl : i = ts.length := by omega
          simp only [List.take_length] at HV ⊢
          have HQX := HV
          have d1 : decide (ts.length < ts.length) = false := by simp
          clear HV
          go_wp2_with fail
          go_ret
          exact ⟨_, rfl, HQX.out.ro, (HF0.out.trans HF5.out (fun i _ e => e)).trans HQX.out.fr (fun i _ e => e), fun g hg => by rcases HQX.out.ow g hg with h | h; exact Or.inl h; exact Or.inr (by have h1 := HWS.out; have h2 := HF5.out.size; omega)⟩
theorem rmet0 : ∀ N, RMetAt 102 N := by
  intro N
  induction N with
  | zero => intro k n vl fl al vr fr ar ts Al cl Ar cr A c S w base Ab cb bd out v h; have := Fm.wt_pos (Fm.mk k n (.mk vl fl al) (.mk vr fr ar) ts); omega
  | succ N ih =>
    intro k n vl fl al vr fr ar ts Al cl Ar cr A c S w base Ab cb bd out v h hN ho hb h1 h2 h3 hS hbs hc hn hr hsp
    by_cases hk : k = 1
    · exact rmetA (N + 1) k n vl fl al vr fr ar ts Al cl Ar cr A c S w base Ab cb bd out v hk hN h ho hb h1 h2 h3 hS hbs hc hn hr hsp
    · exact rmetB N ih k n vl fl al vr fr ar ts Al cl Ar cr A c S w base Ab cb bd out v hk hN h ho hb h1 h2 h3 hS hbs hc hn hr hsp
end Go.Proofs.YtndjjnnljihmnaaGreat
