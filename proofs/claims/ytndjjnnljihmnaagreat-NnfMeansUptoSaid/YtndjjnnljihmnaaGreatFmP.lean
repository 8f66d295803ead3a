/- Names copied, gathered: Clone, met, Free. -/
import Derived.Test.YtndjjnnljihmnaaGreatFmO
import Derived.Test.YtndjjnnljihmnaaGreatFmJ
import Derived.Deep.AppendLies
import Derived.Deep.CutBlock
import Derived.Laws.EntriesVeiled
import Derived.Lib.SliceRun
namespace Go.Proofs.YtndjjnnljihmnaaGreat
open Go.RowKit Go.Proofs.YtndjjnnljihmnaaGreat.Lx
set_option linter.unusedVariables false
set_option linter.unusedSimpArgs false
attribute [local go_sem ↓] app_block
attribute [local go_sem] Go.Lib.run_eql_slice_nil
theorem strs_at (l : List ByteArray) (j : Nat) (h : j < l.length) : (strs l)[j]? = some (.string (l.getD j ByteArray.empty)) := by simp [strs, h]
/-- Names appended to names. -/
theorem app_strs {W : World} {base : Nat} {v : Value} {xs ys : List ByteArray} {g o c : Nat} (HO : W.ownsRow base 9 1 v xs.length (strs xs)) (hy : ∀ j, j < ys.length → W.cell? ⟨g, o + j, none⟩ = some (.string (ys.getD j ByteArray.empty))) (hk : xs.length + ys.length ≤ 4398046511105) (hb : base ≤ W.heap.size) :
    ∃ v' w', (appOp #[77, 77] 77 #[v, .slice (some ⟨g, o, none⟩) ys.length c]).run Tryz.prog W = .ok v' w' ∧ w'.ownsRow base 9 1 v' (xs ++ ys).length (strs (xs ++ ys)) ∧ W.grownBy w' v.ownBlock ∧ (v'.ownBlock = v.ownBlock ∨ v'.ownBlock = some W.heap.size) := by
  obtain ⟨i0, hi, hz0, hz1, hz2⟩ := info_parts infoS
  obtain ⟨v', w', h1, h2, h3, _, h5⟩ := run_append_own_at (P := Tryz.prog) W base 77 77 9 i0 (.string ⟨#[]⟩) 1 16 Tryz.underlying77 hi hz0 hz1 hz2 rfl (by decide) v xs.length (strs xs) HO ⟨g, o, none⟩ ys.length c (strs ys) (by simp [strs])
    (by
      intro j u hj
      have hl : j < ys.length := by have := (List.getElem?_eq_some_iff.1 hj).1; simpa [strs] using this
      rw [strs_at ys j hl] at hj
      cases hj
      have e : (⟨g, o, none⟩ : Addr).add j = ⟨g, o + j, none⟩ := by
        by_cases h0 : j = 0
        · subst h0; rfl
        · simp [Addr.add, h0]
      rw [e]; exact hy j hl)
    (by intro u hu; simp [strs] at hu; obtain ⟨a, _, rfl⟩ := hu; rfl) (by unfold maxLen; omega) (by omega) hb
  exact ⟨v', w', h1, by rw [strs_app, List.length_append]; exact h2, h3, h5⟩
set_option maxRecDepth 100000 in
theorem clone_any (A : Option Addr) (c : Nat) (l : List ByteArray) (w : World) (h : Nm w A l) (hc : (A = none ∧ l = [] ∧ c = 0) ∨ ∃ g o, A = some ⟨g, o, none⟩) (hl : l.length ≤ 4398046511104) :
    Calls Tryz.prog 99 #[.slice A l.length c] w fun e w' => ∃ v, e = .returned v ∧ w'.ownsRow w.heap.size 9 1 v l.length (strs l) ∧ Below w.heap.size w w' := by
  rcases hc with ⟨rfl, rfl, rfl⟩ | ⟨g, o, rfl⟩
  · go_enter Tryz.func99, Tryz.ntmps99
    go_wp2_with fail
    go_ret
    exact ⟨_, rfl, World.ownsRow_nil _ _ _ _, Below.refl _ _⟩
  · have hy : ∀ j, j < l.length → (w.alloc (.cells #[] 9)).cell? ⟨g, o + j, none⟩ = some (.string (l.getD j ByteArray.empty)) := fun j hj => by
      obtain ⟨g', o', e, hcl⟩ := h (by omega)
      injection e with e; injection e with e1 e2
      subst e1 e2
      exact ((Below.alloc (Below.refl _ w) (Nat.le_refl _) (.cells #[] 9)).cell (p := ⟨g, o + j, none⟩) (World.block_lt_of_cell? w _ (hcl j hj))).trans (hcl j hj)
    have HO : (w.alloc (.cells #[] 9)).ownsRow w.heap.size 9 1 (.slice (some ⟨w.heap.size, 0, none⟩) 0 0) ([] : List ByteArray).length (strs []) := ⟨rfl, .inr ⟨w.heap.size, 0, #[], rfl, Nat.le_refl _, heap_alloc_new w _, Nat.le_refl _, by unfold maxLen; omega, rfl, rfl⟩⟩
    obtain ⟨v', w', hrun, hro, hgr, hown⟩ := app_strs (c := c) HO hy (by simp; omega) (by simp)
    have HB : Hid (Below w.heap.size w w') := Lib.hid ((Below.alloc (Below.refl _ w) (Nat.le_refl _) _).trans ((Fr.of_grown hgr).below (by simp) (fun i hi => by simp [Value.ownBlock] at hi; omega)))
    have HRO := Lib.hid hro
    rw [List.nil_append] at HRO
    clear hy HO hro hgr hown h
    go_enter Tryz.func99, Tryz.ntmps99
    go_wp2_with fail
    go_ret
    exact ⟨_, rfl, HRO.out, HB.out⟩
theorem Fm.met_atom (n : ByteArray) (l r : Tm) (ks : List Fm) (bd out : List ByteArray) : (Fm.mk 1 n l r ks).met bd out = r.met bd (l.met bd out) := by rw [Fm.met, if_pos rfl]
theorem Fm.wt_atom (n : ByteArray) (vl : Int) (fl : ByteArray) (al : List Tm) (vr : Int) (fr : ByteArray) (ar : List Tm) (ks : List Fm) : (Tm.mk vl fl al).wt + (Tm.mk vr fr ar).wt < (Fm.mk 1 n (.mk vl fl al) (.mk vr fr ar) ks).wt := by rw [Fm.wt]; omega
def MetAt (fn : Nat) (N : Nat) : Prop := ∀ (k : Int) (n : ByteArray) (vl : Int) (fl : ByteArray) (al : List Tm) (vr : Int) (fr : ByteArray) (ar : List Tm) (ts : List Fm) (Al : Option Addr) (cl : Nat) (Ar : Option Addr) (cr : Nat) (A : Option Addr) (c : Nat) (S : Nat → Prop) (w : World) (base : Nat) (Ab : Option Addr) (cb : Nat) (bd out : List ByteArray) (v : Value), (Fm.mk k n (.mk vl fl al) (.mk vr fr ar) ts).wt ≤ N → N ≤ 1125899906842624 → out.length + (Fm.mk k n (.mk vl fl al) (.mk vr fr ar) ts).wt ≤ 4398046511104 → bd.length + (Fm.mk k n (.mk vl fl al) (.mk vr fr ar) ts).wt ≤ 4398046511104 → ST S w Al al.length cl al → ST S w Ar ar.length cr ar → SF S w A ts.length c ts →
    (∀ b, S b → b < base) → base ≤ w.heap.size → ((Ab = none ∧ bd = [] ∧ cb = 0) ∨ ∃ g o, Ab = some ⟨g, o, none⟩) → Nm w Ab bd → w.ownsRow base 9 1 v out.length (strs out) → (∀ g o, Ab = some ⟨g, o, none⟩ → 0 < bd.length → v.ownBlock ≠ some g) →
    Calls Tryz.prog fn #[.agg #[.int .i64 k, .string n, .int .i64 vl, .string fl, .slice Al al.length cl, .int .i64 vr, .string fr, .slice Ar ar.length cr, .slice A ts.length c], .slice Ab bd.length cb, v] w fun e w' => ∃ v', e = .returned v' ∧ w'.ownsRow base 9 1 v' ((Fm.mk k n (.mk vl fl al) (.mk vr fr ar) ts).met bd out).length (strs ((Fm.mk k n (.mk vl fl al) (.mk vr fr ar) ts).met bd out)) ∧ Fr (fun i => v.ownBlock = some i) w w' ∧ (∀ g, v'.ownBlock = some g → v.ownBlock = some g ∨ w.heap.size ≤ g)
set_option maxHeartbeats 6400000 in
theorem metA (N : Nat) (k : Int) (n : ByteArray) (vl : Int) (fl : ByteArray) (al : List Tm) (vr : Int) (fr : ByteArray) (ar : List Tm) (ts : List Fm) (Al : Option Addr) (cl : Nat) (Ar : Option Addr) (cr : Nat) (A : Option Addr) (c : Nat) (S : Nat → Prop) (w : World) (base : Nat) (Ab : Option Addr) (cb : Nat) (bd out : List ByteArray) (v : Value) (hk : k = 1) (hN : N ≤ 1125899906842624) (hw : (Fm.mk k n (.mk vl fl al) (.mk vr fr ar) ts).wt ≤ N) (hol : out.length + (Fm.mk k n (.mk vl fl al) (.mk vr fr ar) ts).wt ≤ 4398046511104) (hbl : bd.length + (Fm.mk k n (.mk vl fl al) (.mk vr fr ar) ts).wt ≤ 4398046511104) (hl : ST S w Al al.length cl al) (hr : ST S w Ar ar.length cr ar) (hs : SF S w A ts.length c ts)
    (hS : ∀ b, S b → b < base) (hb : base ≤ w.heap.size) (hnm : Nm w Ab bd) (hro : w.ownsRow base 9 1 v out.length (strs out)) (hsep : ∀ g o, Ab = some ⟨g, o, none⟩ → 0 < bd.length → v.ownBlock ≠ some g) :
    Calls Tryz.prog 87 #[.agg #[.int .i64 k, .string n, .int .i64 vl, .string fl, .slice Al al.length cl, .int .i64 vr, .string fr, .slice Ar ar.length cr, .slice A ts.length c], .slice Ab bd.length cb, v] w fun e w' => ∃ v', e = .returned v' ∧ w'.ownsRow base 9 1 v' ((Fm.mk k n (.mk vl fl al) (.mk vr fr ar) ts).met bd out).length (strs ((Fm.mk k n (.mk vl fl al) (.mk vr fr ar) ts).met bd out)) ∧ Fr (fun i => v.ownBlock = some i) w w' ∧ (∀ g, v'.ownBlock = some g → v.ownBlock = some g ∨ w.heap.size ≤ g) := by
  subst hk
  obtain ⟨Ao, co, rfl⟩ := row_slice hro
  have hvl : ∀ k, (Value.slice Ao out.length co).ownBlock = some k → base ≤ k := fun k hk => row_low hro hk
  have hvb : ∀ k, (Value.slice Ao out.length co).ownBlock = some k → k ≠ w.heap.size := fun k hk e => by obtain ⟨vs, q⟩ := row_blk hro hk; have := q.lt; omega
  have hnl : ∀ g o, Ab = some ⟨g, o, none⟩ → 0 < bd.length → g < w.heap.size := fun g o e h0 => by
    obtain ⟨g', o', e', hc⟩ := hnm h0
    rw [e] at e'
    injection e' with e'; injection e' with e1 e2
    subst e1
    exact World.block_lt_of_cell? w _ (hc 0 h0)
  have hlow := hS
  generalize hW : ((((w.alloc (.cells #[.int .i64 1, .string n, .int .i64 vl, .string fl, .slice Al al.length cl, .int .i64 vr, .string fr, .slice Ar ar.length cr, .slice A ts.length c] 27)).alloc (.cells #[.slice Ab bd.length cb] 77)).alloc (.cells #[.slice Ao out.length co] 77)).alloc (.cells #[.func (.func 98) #[] #[.pointer (some ⟨w.heap.size + 1, 0, none⟩), .pointer (some ⟨w.heap.size + 1 + 1, 0, none⟩), .pointer (some ⟨w.heap.size + 1 + 1 + 1, 0, none⟩)]] 97)) = W
  have HB0 : Hid (Below w.heap.size w W) := Lib.hid (by rw [← hW]; exact ((((Below.refl _ w).alloc (Nat.le_refl _) _).alloc (by simp) _).alloc (by simp; omega) _).alloc (by simp; omega) _)
  have BKf : Hid (Blk W w.heap.size 27 [.int .i64 1, .string n, .int .i64 vl, .string fl, .slice Al al.length cl, .int .i64 vr, .string fr, .slice Ar ar.length cr, .slice A ts.length c]) := Lib.hid (by rw [← hW]; exact (((Blk.new w 27 [.int .i64 1, .string n, .int .i64 vl, .string fl, .slice Al al.length cl, .int .i64 vr, .string fr, .slice Ar ar.length cr, .slice A ts.length c]).alloc _).alloc _).alloc _)
  have hF0 : Fr (fun i => (Value.slice Ao out.length co).ownBlock = some i) w W := Fr.of_below HB0.out (Nat.le_refl _)
  have HM : Hid (MS S base (w.heap.size + 1) (w.heap.size + 1 + 1) (w.heap.size + 1 + 1 + 1) Ab cb bd (.slice Ao out.length co) out W) := Lib.hid ⟨by rw [← hW]; exact ((Blk.new' _ (w.heap.size + 1) _ _ (by simp)).alloc _).alloc _, hnm.below HB0.out, by rw [← hW]; exact (Blk.new' _ (w.heap.size + 1 + 1) _ _ (by simp)).alloc _, row_fr hro (Fr.of_below HB0.out (Nat.le_refl _)) (fun k hk hs => hs), by rw [← hW]; exact Blk.new' _ (w.heap.size + 1 + 1 + 1) _ _ (by simp), Nat.le_trans hb HB0.out.size, by omega, by omega, hS, fun g o e h0 => ⟨hsep g o e h0, by have := hnl g o e h0; omega⟩⟩
  have hv := Fm.met_atom n (.mk vl fl al) (.mk vr fr ar) ts bd out
  rw [hv]
  have hlw := Fm.wt_atom n vl fl al vr fr ar ts
  have hm1 := Tm.met_len bd (.mk vl fl al) out
  have HC1 := Lib.hid (metT0 N vl fl al S W Al cl base (w.heap.size + 1) (w.heap.size + 1 + 1) (w.heap.size + 1 + 1 + 1) Ab cb bd out (.slice Ao out.length co) (by omega) hN (by omega) (by omega) (hl.stay (Stay.below HB0.out)) HM.out)
  have HC2 := Lib.hid (fun w2 v2 (hs2 : Stay S S W w2) hm2 => metT0 N vr fr ar S w2 Ar cr base (w.heap.size + 1) (w.heap.size + 1 + 1) (w.heap.size + 1 + 1 + 1) Ab cb bd ((Tm.mk vl fl al).met bd out) v2 (by omega) hN (by omega) (by omega) ((hr.stay (Stay.below HB0.out)).stay hs2) hm2)
  clear hv hlw hm1 hl hr hs hN hw hol hbl
  generalize ((Tm.mk vr fr ar).met bd ((Tm.mk vl fl al).met bd out)) = outr at *
  generalize ((Tm.mk vl fl al).met bd out) = outl at *
  go_enter Tryz.func87, Tryz.ntmps87
  go_upto_region 3 with (fail)
  clear hW
  have tk := BKf.out.nine; have z0 := tk.c0; have z1 := tk.c1; have z2 := tk.c2; have z3 := tk.c3; have z4 := tk.c4; have z5 := tk.c5; have z6 := tk.c6; have z7 := tk.c7; have z8 := tk.c8; clear tk
  have y0 := HM.out.kg.cell 0
  simp only [List.getElem?_cons_zero] at y0
  go_wp2_with fail
  refine HC1.out.mono ?_
  rintro e w2 ⟨rfl, v2, hm2, hf2, ho2⟩
  have HM2 := Lib.hid hm2
  have HF2 := Lib.hid hf2
  have HO2 := Lib.hid ho2
  have BK2 := Lib.hid (BKf.out.fr hf2 (fun e => by rcases e with e | e; omega; exact hvb _ e rfl))
  have HC3 := Lib.hid (HC2.out w2 v2 (hf2.stay (fun b hb => by have := hlow b hb; intro e; rcases e with e | e; omega; exact absurd (hvl b e) (by omega))) hm2)
  clear hm2 hf2 ho2 HC1 HC2 HM BKf y0 z0 z1 z2 z3 z4 z5 z6 z7 z8
  have tk := BK2.out.nine; have z0 := tk.c0; have z1 := tk.c1; have z2 := tk.c2; have z3 := tk.c3; have z4 := tk.c4; have z5 := tk.c5; have z6 := tk.c6; have z7 := tk.c7; have z8 := tk.c8; clear tk
  have y0 := HM2.out.kg.cell 0
  simp only [List.getElem?_cons_zero] at y0
  go_wp2_with fail
  refine HC3.out.mono ?_
  rintro e w3 ⟨rfl, v3, hm3, hf3, ho3⟩
  have HM3 := Lib.hid hm3
  have HFR := Lib.hid ((hF0.trans HF2.out (fun i hi h => by rcases h with h | h; omega; exact h)).trans hf3 (fun i hi h => by
    rcases h with h | h
    · omega
    · rcases HO2.out i h with h | h
      · exact h
      · have := HB0.out.size; omega))
  have HOW : Hid (∀ g, v3.ownBlock = some g → (Value.slice Ao out.length co).ownBlock = some g ∨ w.heap.size ≤ g) := Lib.hid (fun g hg => by
    have h1 := HB0.out.size
    have h2 := HF2.out.size
    rcases ho3 g hg with h | h
    · rcases HO2.out g h with h | h
      · exact Or.inl h
      · exact Or.inr (by omega)
    · exact Or.inr (by omega))
  have x0 := HM3.out.ko.cell 0
  simp only [List.getElem?_cons_zero] at x0
  clear hm3 hf3 ho3 HM2 HC3 y0 z0 z1 z2 z3 z4 z5 z6 z7 z8
  go_wp2_with fail
  go_ret
  exact ⟨v3, rfl, HM3.out.ro, HFR.out, HOW.out⟩
theorem row_base {W : World} {base base' : Nat} {e : TypeId} {size n : Nat} {v : Value} {xs : List Value} (h : W.ownsRow base e size v n xs) (hb : base' ≤ base) : W.ownsRow base' e size v n xs := by
  refine ⟨h.1, ?_⟩
  rcases h.2 with h | ⟨g, cap, cur, rfl, hg, h2⟩
  · exact .inl h
  · exact .inr ⟨g, cap, cur, rfl, by omega, h2⟩
theorem MS.bind {S : Nat → Prop} {base gb go gg : Nat} {Ab : Option Addr} {cb : Nat} {bd out : List ByteArray} {v : Value} {W w10 : World} {g5 c5 : Nat} {n : ByteArray} (h : MS S base gb go gg Ab cb bd v out W) (hf : Fr (fun _ => False) W w10) (hro : w10.ownsRow W.heap.size 9 1 (.slice (some ⟨g5, 0, none⟩) (bd.length + 1) c5) (bd.length + 1) (strs bd ++ [.string n])) :
    Blk (w10.setCell ⟨gb, 0, none⟩ (.slice (some ⟨g5, 0, none⟩) (bd.length + 1) c5)) gb  77 [.slice (some ⟨g5, 0, none⟩) (bd.length + 1) c5] ∧ Nm (w10.setCell ⟨gb, 0, none⟩ (.slice (some ⟨g5, 0, none⟩) (bd.length + 1) c5)) (some ⟨g5, 0, none⟩) (bd ++ [n]) ∧ W.heap.size ≤ g5 ∧ Fr (fun i => i = gb) W (w10.setCell ⟨gb, 0, none⟩ (.slice (some ⟨g5, 0, none⟩) (bd.length + 1) c5)) := by
  have hg5 : W.heap.size ≤ g5 := row_low hro rfl
  have hgb := h.kb.lt
  refine ⟨(h.kb.fr hf (fun e => e)).set 0 _, fun _ => ⟨g5, 0, rfl, fun j hj => ?_⟩, hg5, (hf.mono (fun i _ e => e.elim)).set gb 0 _ rfl⟩
  obtain ⟨g', c', e, _, _, hc⟩ := row_cells hro (by omega)
  injection e with e1 _ _
  injection e1 with e1; injection e1 with e1
  subst e1
  rw [Nat.zero_add, World.cell?_setCell_far w10 _ _ _ (by simp; omega)]
  refine hc j _ ?_
  have e2 : strs bd ++ [.string n] = strs (bd ++ [n]) := by rw [strs_app]; rfl
  rw [e2]
  exact strs_at _ j hj
/-- What holds within met's loop. -/
structure QS (w : World) (base : Nat) (own : Option Nat) (bd : List ByteArray) (v : Value) (out : List ByteArray) (W : World) : Prop where
  kb : ∃ A c, Blk W (w.heap.size + 1)  77 [.slice A bd.length c] ∧ ((A = none ∧ bd = [] ∧ c = 0) ∨ ∃ g o, A = some ⟨g, o, none⟩) ∧ Nm W A bd ∧ ∀ g o, A = some ⟨g, o, none⟩ → 0 < bd.length → v.ownBlock ≠ some g ∧ g ≠ w.heap.size + 1 + 1
  ko : Blk W (w.heap.size + 1 + 1)  77 [v]
  ro : W.ownsRow base 9 1 v out.length (strs out)
  fr : Fr (fun i => own = some i) w W
  ow : ∀ g, v.ownBlock = some g → own = some g ∨ w.heap.size ≤ g
theorem QS.ne {w : World} {base : Nat} {own : Option Nat} {bd : List ByteArray} {v : Value} {out : List ByteArray} {W : World} (h : QS w base own bd v out W) : v.ownBlock ≠ some (w.heap.size + 1) ∧ v.ownBlock ≠ some (w.heap.size + 1 + 1) := by
  refine ⟨fun e => ?_, fun e => ?_⟩
  · obtain ⟨A, c, hk, _⟩ := h.kb
    obtain ⟨vs, q⟩ := row_blk h.ro e; exact absurd (blk_type q hk) (by decide)
  · obtain ⟨vs, q⟩ := row_blk h.ro e; exact absurd (blk_type q h.ko) (by decide)
/-- A step: a kid's names are gathered, and stored. -/
theorem QS.step {w : World} {base : Nat} {own : Option Nat} {bd : List ByteArray} {v v' : Value} {out out' : List ByteArray} {W W1 W2 : World} (h : QS w base own bd v out W) (hb : Below W.heap.size W W1) (hr : W2.ownsRow base 9 1 v' out'.length (strs out')) (hf : Fr (fun i => v.ownBlock = some i) W1 W2) (ho : ∀ g, v'.ownBlock = some g → v.ownBlock = some g ∨ W1.heap.size ≤ g) :
    QS w base own bd v' out' (W2.setCell ⟨w.heap.size + 1 + 1, 0, none⟩ v') := by
  obtain ⟨n1, n2⟩ := h.ne
  have hs := hb.size
  have hko := h.ko.lt
  have hws := h.fr.size
  have hf1 : Fr (fun i => v.ownBlock = some i) W W2 := (Fr.of_below (S := fun i => v.ownBlock = some i) hb (Nat.le_refl _)).trans hf (fun i _ e => e)
  have hv2 : ∀ k, v'.ownBlock = some k → k ≠ w.heap.size + 1 + 1 := fun k hk e => by
    subst e
    rcases ho _ hk with h1 | h1
    · exact n2 h1
    · omega
  refine ⟨?_, ?_, ?_, ?_, ?_⟩
  · obtain ⟨A, c, hk, hc, hn, hsp⟩ := h.kb
    refine ⟨A, c, (hk.fr hf1 n1).other _ _ (by simp), hc, ?_, fun g o e h0 => ⟨fun hh => ?_, (hsp g o e h0).2⟩⟩
    · by_cases h0 : 0 < bd.length
      · exact (hn.fr hf1 (fun g o e => (hsp g o e h0).1)).fr ((Fr.refl (fun i => i = w.heap.size + 1 + 1) W2).set _ 0 v' rfl) (fun g o e => (hsp g o e h0).2)
      · intro h1; exact absurd h1 h0
    · rcases ho g hh with h1 | h1
      · exact (hsp g o e h0).1 h1
      · obtain ⟨g', o', e', hcl⟩ := hn h0
        rw [e] at e'
        injection e' with e'; injection e' with e1 e2
        subst e1
        have hl := World.block_lt_of_cell? W _ (hcl 0 h0)
        simp only at hl; omega
  · have := (h.ko.fr hf1 n2).set 0 v'
    simpa using this
  · exact row_fr hr ((Fr.refl (fun i => i = w.heap.size + 1 + 1) W2).set _ 0 v' rfl) hv2
  · exact (h.fr.trans hf1 (fun i hi e => by
      rcases h.ow i e with h1 | h1
      · exact h1
      · omega)).trans ((Fr.refl (fun i => i = w.heap.size + 1 + 1) W2).set _ 0 v' rfl) (fun i hi e => by omega)
  · intro g hg
    rcases ho g hg with h1 | h1
    · exact h.ow g h1
    · exact Or.inr (by omega)
theorem Fm.wts_take : ∀ (ts : List Fm) (i : Nat) (h : i < ts.length), Fm.wts (ts.take i) + Fm.wt ts[i] ≤ Fm.wts ts
  | t :: r, 0, _ => by simp [Fm.wts]
  | t :: r, i + 1, h => by
    have := Fm.wts_take r i (by simpa using h)
    simp only [Fm.wts, List.getElem_cons_succ, List.take_succ_cons]; omega
theorem Fm.len_wts : ∀ ts : List Fm, ts.length ≤ Fm.wts ts
  | [] => Nat.zero_le _
  | t :: r => by have := Fm.len_wts r; have := t.wt_pos; rw [Fm.wts, List.length_cons]; omega
def bdOf (k : Int) (bd : List ByteArray) (n : ByteArray) : List ByteArray := if k = 7 ∨ k = 8 then bd ++ [n] else bd
theorem Fm.met_other (k : Int) (n : ByteArray) (l r : Tm) (ks : List Fm) (bd out : List ByteArray) (h : k ≠ 1) : (Fm.mk k n l r ks).met bd out = Fm.mets (bdOf k bd n) out ks := by rw [Fm.met, if_neg h]; rfl
theorem Fm.wt_other (k : Int) (n : ByteArray) (vl : Int) (fl : ByteArray) (al : List Tm) (vr : Int) (fr : ByteArray) (ar : List Tm) (ks : List Fm) : Fm.wts ks + 3 ≤ (Fm.mk k n (.mk vl fl al) (.mk vr fr ar) ks).wt := by rw [Fm.wt, Tm.wt, Tm.wt]; omega
theorem bdOf_len (k : Int) (bd : List ByteArray) (n : ByteArray) : (bdOf k bd n).length ≤ bd.length + 1 := by unfold bdOf; split <;> simp
set_option maxRecDepth 100000 in
set_option maxHeartbeats 6400000 in
theorem metB (N : Nat) (ih : MetAt 87 N) (k : Int) (n : ByteArray) (vl : Int) (fl : ByteArray) (al : List Tm) (vr : Int) (fr : ByteArray) (ar : List Tm) (ts : List Fm) (Al : Option Addr) (cl : Nat) (Ar : Option Addr) (cr : Nat) (A : Option Addr) (c : Nat) (S : Nat → Prop) (w : World) (base : Nat) (Ab : Option Addr) (cb : Nat) (bd out : List ByteArray) (v : Value) (hk : k ≠ 1) (hN : N + 1 ≤ 1125899906842624) (hw : (Fm.mk k n (.mk vl fl al) (.mk vr fr ar) ts).wt ≤ N + 1) (hol : out.length + (Fm.mk k n (.mk vl fl al) (.mk vr fr ar) ts).wt ≤ 4398046511104) (hbl : bd.length + (Fm.mk k n (.mk vl fl al) (.mk vr fr ar) ts).wt ≤ 4398046511104) (hl : ST S w Al al.length cl al) (hr : ST S w Ar ar.length cr ar) (hs : SF S w A ts.length c ts)
    (hS : ∀ b, S b → b < base) (hb : base ≤ w.heap.size) (hcap : (Ab = none ∧ bd = [] ∧ cb = 0) ∨ ∃ g o, Ab = some ⟨g, o, none⟩) (hnm : Nm w Ab bd) (hro : w.ownsRow base 9 1 v out.length (strs out)) (hsep : ∀ g o, Ab = some ⟨g, o, none⟩ → 0 < bd.length → v.ownBlock ≠ some g) :
    Calls Tryz.prog 87 #[.agg #[.int .i64 k, .string n, .int .i64 vl, .string fl, .slice Al al.length cl, .int .i64 vr, .string fr, .slice Ar ar.length cr, .slice A ts.length c], .slice Ab bd.length cb, v] w fun e w' => ∃ v', e = .returned v' ∧ w'.ownsRow base 9 1 v' ((Fm.mk k n (.mk vl fl al) (.mk vr fr ar) ts).met bd out).length (strs ((Fm.mk k n (.mk vl fl al) (.mk vr fr ar) ts).met bd out)) ∧ Fr (fun i => v.ownBlock = some i) w w' ∧ (∀ g, v'.ownBlock = some g → v.ownBlock = some g ∨ w.heap.size ≤ g) := by
  obtain ⟨Ao, co, rfl⟩ := row_slice hro
  have hvl : ∀ k, (Value.slice Ao out.length co).ownBlock = some k → base ≤ k := fun k hk => row_low hro hk
  have hvb : ∀ k, (Value.slice Ao out.length co).ownBlock = some k → k ≠ w.heap.size := fun k hk e => by obtain ⟨vs, q⟩ := row_blk hro hk; have := q.lt; omega
  have hnl : ∀ g o, Ab = some ⟨g, o, none⟩ → 0 < bd.length → g < w.heap.size := fun g o e h0 => by
    obtain ⟨g', o', e', hc⟩ := hnm h0
    rw [e] at e'
    injection e' with e'; injection e' with e1 e2
    subst e1
    exact World.block_lt_of_cell? w _ (hc 0 h0)
  have hlow := hS
  generalize hW : ((((w.alloc (.cells #[.int .i64 k, .string n, .int .i64 vl, .string fl, .slice Al al.length cl, .int .i64 vr, .string fr, .slice Ar ar.length cr, .slice A ts.length c] 27)).alloc (.cells #[.slice Ab bd.length cb] 77)).alloc (.cells #[.slice Ao out.length co] 77)).alloc (.cells #[.func (.func 98) #[] #[.pointer (some ⟨w.heap.size + 1, 0, none⟩), .pointer (some ⟨w.heap.size + 1 + 1, 0, none⟩), .pointer (some ⟨w.heap.size + 1 + 1 + 1, 0, none⟩)]] 97)) = W
  have HB0 : Hid (Below w.heap.size w W) := Lib.hid (by rw [← hW]; exact ((((Below.refl _ w).alloc (Nat.le_refl _) _).alloc (by simp) _).alloc (by simp; omega) _).alloc (by simp; omega) _)
  have BKf : Hid (Blk W w.heap.size 27 [.int .i64 k, .string n, .int .i64 vl, .string fl, .slice Al al.length cl, .int .i64 vr, .string fr, .slice Ar ar.length cr, .slice A ts.length c]) := Lib.hid (by rw [← hW]; exact (((Blk.new w 27 [.int .i64 k, .string n, .int .i64 vl, .string fl, .slice Al al.length cl, .int .i64 vr, .string fr, .slice Ar ar.length cr, .slice A ts.length c]).alloc _).alloc _).alloc _)
  have hF0 : Fr (fun i => (Value.slice Ao out.length co).ownBlock = some i) w W := Fr.of_below HB0.out (Nat.le_refl _)
  have HM : Hid (MS S base (w.heap.size + 1) (w.heap.size + 1 + 1) (w.heap.size + 1 + 1 + 1) Ab cb bd (.slice Ao out.length co) out W) := Lib.hid ⟨by rw [← hW]; exact ((Blk.new' _ (w.heap.size + 1) _ _ (by simp)).alloc _).alloc _, hnm.below HB0.out, by rw [← hW]; exact (Blk.new' _ (w.heap.size + 1 + 1) _ _ (by simp)).alloc _, row_fr hro (Fr.of_below HB0.out (Nat.le_refl _)) (fun k hk hs => hs), by rw [← hW]; exact Blk.new' _ (w.heap.size + 1 + 1 + 1) _ _ (by simp), Nat.le_trans hb HB0.out.size, by omega, by omega, hS, fun g o e h0 => ⟨hsep g o e h0, by have := hnl g o e h0; omega⟩⟩
  rw [Fm.met_other k n (.mk vl fl al) (.mk vr fr ar) ts bd out hk]
  have hwo := Fm.wt_other k n vl fl al vr fr ar ts
  have hbo := bdOf_len k bd n
  have HCL := Lib.hid (fun w' (hb : Below W.heap.size W w') => clone_any Ab cb bd w' (HM.out.rb.below hb) hcap (by omega))
  have HBB : Hid (bd.length + 1 ≤ 4398046511104) := Lib.hid (by omega)
  have HWN : Hid (Fm.wts ts ≤ N ∧ N + 1 ≤ 1125899906842624 ∧ out.length + Fm.wts ts ≤ 4398046511104 ∧ (bdOf k bd n).length + Fm.wts ts ≤ 4398046511104) := Lib.hid (by omega)
  have HSR := Lib.hid hs
  have HBS := Lib.hid hb
  have HLN := Fm.len_wts ts
  have hlen : ts.length ≤ 1152921504606846976 := by omega
  have HSL := Lib.hid hlow
  have HVL := Lib.hid hvl
  have HCP := Lib.hid hcap
  have HF0 := Lib.hid hF0
  have hgb := HM.out.kb.lt
  clear hwo hbo hl hr hs hN hw hol hbl hcap hF0 HLN hnm hro hsep hlow hS hb
  have hbq : (k = 7 ∨ k = 8) ∧ bdOf k bd n = bd ++ [n] ∨ ((k == 7) = false ∧ (k == 8) = false ∧ bdOf k bd n = bd) := by
    by_cases h7 : k = 7 ∨ k = 8
    · exact Or.inl ⟨h7, by unfold bdOf; rw [if_pos h7]⟩
    · exact Or.inr ⟨by simp; omega, by simp; omega, by unfold bdOf; rw [if_neg h7]⟩
  have q1 : (k == 1) = false := by simpa using hk
  generalize bdOf k bd n = bd' at *
  clear hk
  go_enter Tryz.func87, Tryz.ntmps87
  go_upto_region 3 with (fail)
  clear hW
  have tk := BKf.out.nine; have z0 := tk.c0; have z1 := tk.c1; have z2 := tk.c2; have z3 := tk.c3; have z4 := tk.c4; have z5 := tk.c5; have z6 := tk.c6; have z7 := tk.c7; have z8 := tk.c8; clear tk
  go_upto_block 0 with (fail)
  clear z0 z1 z2 z3 z4 z5 z6 z7 z8
  go_cut [] (fun wx => (∃ v2, QS w base (Value.slice Ao out.length co).ownBlock bd' v2 out wx) ∧ Blk wx w.heap.size 27 [.int .i64 k, .string n, .int .i64 vl, .string fl, .slice Al al.length cl, .int .i64 vr, .string fr, .slice Ar ar.length cr, .slice A ts.length c])
  case first =>
    rcases hbq with ⟨h78, hbd'⟩ | ⟨q7, q8, hbd'⟩
    rotate_left
    · go_wp2_with fail
      go_meet
      exact ⟨by rw [hbd']; exact ⟨_, ⟨Ab, cb, HM.out.kb, HCP.out, HM.out.rb, fun g o e h0 => ⟨(HM.out.sep g o e h0).1, (HM.out.sep g o e h0).2⟩⟩, HM.out.ko, HM.out.ro, HF0.out, fun g hg => Or.inl hg⟩, BKf.out⟩
    · have HK78 := Lib.hid h78
      clear h78
      rcases HK78.out with rfl | rfl
      all_goals
        go_upto_region 10 with (fail)
        obtain ⟨i0, hi0, hz0, hz1, hz2⟩ := info_parts infoS
        have y0 := HM.out.kb.cell 0
        simp only [List.getElem?_cons_zero] at y0
        have z1 := BKf.out.nine.c1
        have HQ0 := Lib.hid (bel_drew1 W)
        have hgf : w.heap.size < W.heap.size := BKf.out.lt
        have hk1 := Nat.ne_of_gt hgb
        have hk2 := hk1.symm
        have hk3 := Nat.ne_of_gt hgf
        have hk4 := hk3.symm
        have hk5 : w.heap.size + 1 ≠ w.heap.size := by omega
        have hk6 := hk5.symm
        go_region_law (first | (refine step_append_lies _ (by rfl) _ _ _ (by rfl) W.heap.size 9 i0 _ 1 16 Tryz.underlying77 hi0 hz0 hz1 hz2 rfl (by omega) v9 bd.length (strs bd) (by rfl) HRO.out ⟨W.heap.size, 0, none⟩ 1 1 [.string n] (by rfl) (by rfl) (World.news_of_block (cs := #[.string n]) (t := 9) (fr := (0, 0)) BN.out) (by simp [Value.oneCell']) (by omega) (by have := HBB.out; unfold maxLen; omega) (by have := HBB.out; omega) HQ1.out.size _ rfl ?_; intro g5 c5 w10 hro5 hgr5 hat5 hlt5; have HF10 : Hid (Fr (fun _ => False) W w10) := Lib.hid (((Fr.of_below (S := fun _ => False) HQ1.out (Nat.le_refl _)).trans (Fr.of_grown hgr5) (fun i hi e => by have := row_low HRO.out e; omega))); have HRO5 := Lib.hid hro5; clear hro5 hgr5 hat5 hlt5; have bb := HM.out.kb.fr HF10.out (fun e => e); have y0 := bb.cell 0; have yf0 := bb.free 0; have z1 := (BKf.out.fr HF10.out (fun e => e)).nine.c1; simp only [List.getElem?_cons_zero] at y0) | (refine step_append_lies _ (by rfl) _ _ _ (by rfl) W.heap.size 9 i0 _ 1 16 Tryz.underlying77 hi0 hz0 hz1 hz2 rfl (by omega) v9 bd.length (strs bd) (by rfl) (HRO.out.alloc _) ⟨_, 0, none⟩ 1 1 [.string n] (by rfl) (by rfl) (World.news_of_block (cs := #[.string n]) (t := 9) (fr := (0, 0)) (heap_alloc_new _ _)) (by simp [Value.oneCell']) (by omega) (by have := HBB.out; unfold maxLen; omega) (by have := HBB.out; omega) (by have := HQ1.out.size; simp; omega) _ rfl ?_; intro g5 c5 w10 hro5 hgr5 hat5 hlt5; have HF10 : Hid (Fr (fun _ => False) W w10) := Lib.hid (((Fr.of_below (S := fun _ => False) (HQ1.out.alloc HQ1.out.size _) (Nat.le_refl _)).trans (Fr.of_grown hgr5) (fun i hi e => by have := row_low HRO.out e; omega))); have HRO5 := Lib.hid hro5; clear hro5 hgr5 hat5 hlt5; have bb := HM.out.kb.fr HF10.out (fun e => e); have y0 := bb.cell 0; have yf0 := bb.free 0; have z1 := (BKf.out.fr HF10.out (fun e => e)).nine.c1; simp only [List.getElem?_cons_zero] at y0) | (go_simp; go_at_call 99; refine (HCL.out _ (HQ0.out.alloc HQ0.out.size (.cells #[.string n] 9))).mono ?_; rintro e w9 ⟨v9, rfl, hro9, hb9⟩; have HRO := Lib.hid (row_base hro9 ((HQ0.out.alloc HQ0.out.size (.cells #[.string n] 9)) : Below W.heap.size W _).size); have BN : Hid (Blk w9 W.heap.size 9 [.string n]) := Lib.hid (Blk.go (Blk.new W.drew _ _) hb9); have HQ1 := Lib.hid (bel_go (HQ0.out.alloc HQ0.out.size (.cells #[.string n] 9)) hb9); clear hro9 hb9; have y0 := (HM.out.kb.below HQ1.out HM.out.kb.lt).cell 0; have z1 := (BKf.out.below HQ1.out BKf.out.lt).nine.c1; simp only [List.getElem?_cons_zero] at y0) | (go_simp; go_at_call 99; refine (HCL.out _ (by first | exact HQ1.out | exact HQ0.out)).mono ?_; rintro e w9 ⟨v9, rfl, hro9, hb9⟩; have HRO := Lib.hid (row_base hro9 ((by first | exact HQ1.out | exact HQ0.out) : Below W.heap.size W _).size);  have HQ1 := Lib.hid (bel_go (by first | exact HQ1.out | exact HQ0.out) hb9); clear hro9 hb9; have y0 := (HM.out.kb.below HQ1.out HM.out.kb.lt).cell 0; have z1 := (BKf.out.below HQ1.out BKf.out.lt).nine.c1; simp only [List.getElem?_cons_zero] at y0))
        all_goals
          go_wp2_with fail
          go_meet
          obtain ⟨hbk5, hnm5, hg5, hf5⟩ := HM.out.bind HF10.out HRO5.out
          refine ⟨?_, BKf.out.fr hf5 (by omega)⟩
          rw [hbd']
          refine ⟨.slice Ao out.length co, ⟨some ⟨g5, 0, none⟩, c5, by rw [List.length_append]; exact hbk5, Or.inr ⟨_, _, rfl⟩, hnm5, fun g o e h0 => ?_⟩, HM.out.ko.fr hf5 (by omega), row_fr HM.out.ro hf5 (fun k hk e => HM.out.go_ne.2.1 (by rw [hk, e])), HF0.out.trans hf5 (fun i hi e => by omega), fun g hg => Or.inl hg⟩
          injection e with e; injection e with e1 e2
          subst e1
          refine ⟨fun hh => ?_, by have := HM.out.ko.lt; omega⟩
          obtain ⟨vs, qq⟩ := row_blk HM.out.ro hh
          have := qq.lt; omega
  case rest =>
    obtain ⟨⟨v2, hq⟩, hbf⟩ := hcut
    clear HM HCL hbq q1 BKf hgb HF0
    generalize wc = W9 at *
    have BKf := Lib.hid hbf
    clear hbf
    have tk := BKf.out.nine; have z0 := tk.c0; have z1 := tk.c1; have z2 := tk.c2; have z3 := tk.c3; have z4 := tk.c4; have z5 := tk.c5; have z6 := tk.c6; have z7 := tk.c7; have z8 := tk.c8; clear tk
    go_wp2_with fail
    clear z0 z1 z2 z3 z4 z5 z6 z7 z8 BKf
    go_loopw [36] (fun vi wl => ∃ i v2, vi = .int .i64 (i : Nat) ∧ i ≤ ts.length ∧ QS w base (Value.slice Ao out.length co).ownBlock bd' v2 (Fm.mets bd' out (ts.take i)) wl) (fun vi _ => ts.length - (intOf vi).toNat)
    case atStart => exact ⟨0, v2, rfl, by omega, by rw [List.take_zero, Fm.mets]; exact hq⟩
    case round =>
      obtain ⟨i, v2, rfl, hi, hq2⟩ := hrel
      have HQ2 := Lib.hid hq2
      clear hq2
      by_cases hlt : i < ts.length
      · have hsr := HSR.out.stay (HQ2.out.fr.stay (fun b hb e => by have h1 := HSL.out b hb; have h2 := HVL.out b e; omega))
        obtain ⟨b, o, hA, k1, n1, vl1, fl1, al1, vr1, fr1, ar1, ts1, Al1, cl1, Ar1, cr1, A1, c1, hm1, hl1, hr1, hs1, p0, p1, p2, p3, p4, p5, p6, p7, p8⟩ := hsr.at i hlt
        subst hA
        obtain ⟨Ax, cx, hk, hcx, hnx, hsx⟩ := HQ2.out.kb
        obtain ⟨Av, cv, rfl⟩ := row_slice HQ2.out.ro
        have y0 := hk.cell 0
        have x0 := HQ2.out.ko.cell 0
        simp only [List.getElem?_cons_zero] at y0 x0
        have lg := hk.lt
        have lo := HQ2.out.ko.lt
        have hk1 := Nat.ne_of_lt lg
        have hk2 := hk1.symm
        have hk3 := Nat.ne_of_lt lo
        have hk4 := hk3.symm
        have htk := Fm.wts_take ts i hlt
        have hml := Fm.mets_len (ts.take i) bd' out
        have hmt := Fm.mets_take bd' out ts i hlt
        rw [hm1] at htk hmt
        have HMT := Lib.hid hmt
        have hwn := HWN.out
        have HB2 := Lib.hid (show Below wr.heap.size wr (wr.alloc (.cells #[.int .i64 k1, .string n1, .int .i64 vl1, .string fl1, .slice Al1 al1.length cl1, .int .i64 vr1, .string fr1, .slice Ar1 ar1.length cr1, .slice A1 ts1.length c1] 27)) from Below.alloc (Below.refl _ _) (Nat.le_refl _) _)
        have HC := Lib.hid (ih k1 n1 vl1 fl1 al1 vr1 fr1 ar1 ts1 Al1 cl1 Ar1 cr1 A1 c1 S (wr.alloc (.cells #[.int .i64 k1, .string n1, .int .i64 vl1, .string fl1, .slice Al1 al1.length cl1, .int .i64 vr1, .string fr1, .slice Ar1 ar1.length cr1, .slice A1 ts1.length c1] 27)) base Ax cx bd' _ _ (by omega) (by omega) (by omega) (by omega) (hl1.stay (Stay.below HB2.out)) (hr1.stay (Stay.below HB2.out)) (hs1.stay (Stay.below HB2.out)) HSL.out (by have h1 := HQ2.out.fr.size; have h2 := HB2.out.size; have := HBS.out; omega) hcx (hnx.below HB2.out) (row_fr HQ2.out.ro (Fr.of_below HB2.out (Nat.le_refl _)) (fun k hk hs => hs)) (fun g o e h0 => (hsx g o e h0).1))
        have HLT := Lib.hid hlt
        have hIL : (i : Int) ≤ 1152921504606846976 := by omega
        have HKC := Lib.hid hk
        clear hsr hm1 hl1 hr1 hs1 hk hcx hnx hsx htk hml hmt hwn
        go_wp2_with fail
        refine HC.out.mono ?_
        rintro e w2 ⟨v3, rfl, hro3, hf3, ho3⟩
        have hko := (HQ2.out.ko.go HB2.out).fr hf3 HQ2.out.ne.2
        have x0 := hko.cell 0
        have xf := hko.free 0
        simp only [List.getElem?_cons_zero] at x0
        have HQ3 := Lib.hid (HQ2.out.step HB2.out hro3 hf3 ho3)
        obtain ⟨A3, c3, rfl⟩ := row_slice hro3
        clear hko hro3 hf3 ho3 HC HB2 HQ2 HKC y0 lg lo hk1 hk2 hk3 hk4 p0 p1 p2 p3 p4 p5 p6 p7 p8
        go_wp2_with fail
        go_roundw
        case rel => exact ⟨i + 1, _, by go_num, HLT.out, by rw [HMT.out]; exact HQ3.out⟩
        case measure => have := HLT.out; simp [intOf]; omega
      · obtain rfl : i = ts.length := by omega
        have hq := HQ2.out
        rw [List.take_length] at hq
        have HQX := Lib.hid hq
        have x0 := hq.ko.cell 0
        simp only [List.getElem?_cons_zero] at x0
        have d1 : decide (ts.length < ts.length) = false := by simp
        clear hq HQ2
        go_wp2_with fail
        go_ret
        exact ⟨v2, rfl, HQX.out.ro, HQX.out.fr, HQX.out.ow⟩
theorem met0 : ∀ N, MetAt 87 N := by
  intro N
  induction N with
  | zero => intro k n vl fl al vr fr ar ts Al cl Ar cr A c S w base Ab cb bd out v h; have := Fm.wt_pos (Fm.mk k n (.mk vl fl al) (.mk vr fr ar) ts); omega
  | succ N ih =>
    intro k n vl fl al vr fr ar ts Al cl Ar cr A c S w base Ab cb bd out v h hN ho hb h1 h2 h3 hS hbs hc hn hr hsp
    by_cases hk : k = 1
    · exact metA (N + 1) k n vl fl al vr fr ar ts Al cl Ar cr A c S w base Ab cb bd out v hk hN h ho hb h1 h2 h3 hS hbs hn hr hsp
    · exact metB N ih k n vl fl al vr fr ar ts Al cl Ar cr A c S w base Ab cb bd out v hk hN h ho hb h1 h2 h3 hS hbs hc hn hr hsp
end Go.Proofs.YtndjjnnljihmnaaGreat
