/- The reference's names: in, Vars, Met. -/
import Derived.Test.YtndjjnnljihmnaaGreatFmQ
namespace Go.Proofs.YtndjjnnljihmnaaGreat
open Go.RowKit Go.Proofs.YtndjjnnljihmnaaGreat.Lx
set_option linter.unusedVariables false
set_option linter.unusedSimpArgs false
attribute [local go_sem ↓] app_block
theorem seq_iff (a b : ByteArray) : seq a b = true ↔ a = b := by
  unfold seq
  rw [beq_iff_eq, Lib.toList_data, Lib.toList_data]
  refine ⟨fun h => ?_, fun h => by rw [h]⟩
  obtain ⟨⟨a⟩⟩ := a
  obtain ⟨⟨b⟩⟩ := b
  have e : a = b := h
  rw [e]
theorem contains_drop (l : List ByteArray) (x : ByteArray) (i : Nat) (h : i < l.length) : Lib.containsS (l.drop i) x = (seq l[i] x || Lib.containsS (l.drop (i + 1)) x) := by
  rw [Bool.eq_iff_iff, Bool.or_eq_true, Lib.containsS_iff, Lib.containsS_iff, seq_iff, List.drop_eq_getElem_cons h, List.mem_cons]
  constructor
  · rintro (h | h)
    · exact Or.inl h.symm
    · exact Or.inr h
  · rintro (h | h)
    · exact Or.inl h.symm
    · exact Or.inr h
set_option maxHeartbeats 1600000 in
theorem rin_any (A : Option Addr) (c : Nat) (l : List ByteArray) (x : ByteArray) (w : World) (h : Nm w A l) (hl : l.length ≤ 4398046511104) : Calls Tryz.prog 121 #[.slice A l.length c, .string x] w fun e w' => e = .returned (.bool (Lib.containsS l x)) ∧ w = w' := by
  have HN := Lib.hid h
  have HL := Lib.hid hl
  clear h hl
  go_enter Tryz.func121, Tryz.ntmps121
  go_wp2_with fail
  go_loopw [5] (fun vi wl => ∃ i : Nat, i ≤ l.length ∧ vi = .int .i64 i ∧ Lib.containsS l x = Lib.containsS (l.drop i) x ∧ wl = w) (fun vi _ => l.length - (intOf vi).toNat)
  case atStart => exact ⟨0, by omega, rfl, rfl, rfl⟩
  case round =>
    obtain ⟨i, hi, rfl, hk, rfl⟩ := hrel
    have HK := Lib.hid hk
    clear hk
    by_cases hlt : i < l.length
    · obtain ⟨g, o, rfl, hc⟩ := HN.out (by omega)
      have HCC := Lib.hid hc
      have p0 := hc i hlt
      rw [List.getD_eq_getElem?_getD, List.getElem?_eq_getElem hlt, Option.getD_some] at p0
      have hd := contains_drop l x i hlt
      clear hc
      have HD := Lib.hid hd
      have HI := Lib.hid hlt
      clear hd
      have hl := HL.out
      go_wp2_with fail
      rotate_left
      · rename_i hx
        have hq : seq l[i] x = false := hx
        have HF : Lib.containsS l x = Lib.containsS (l.drop (i + 1)) x := by rw [HK.out]; have hd2 : Lib.containsS (l.drop i) x = (seq l[i] x || Lib.containsS (l.drop (i + 1)) x) := HD.out; rw [hd2, hq]; rfl
        exact ⟨⟨i + 1, HI.out, by go_num, HF, trivial⟩, by have := HI.out; simp [intOf]; omega⟩
      · rename_i hx
        have hq : seq l[i] x = true := hx
        have HF : Lib.containsS l x = true := by rw [HK.out]; have hd2 : Lib.containsS (l.drop i) x = (seq l[i] x || Lib.containsS (l.drop (i + 1)) x) := HD.out; rw [hd2, hq]; rfl
        go_ret
        exact ⟨ret_bool (by rw [HF]), rfl⟩
    · obtain rfl : i = l.length := by omega
      have HF := Lib.hid (show Lib.containsS l x = false by rw [HK.out, List.drop_length]; rfl)
      have d3 : decide (l.length < l.length) = false := by simp
      go_wp2_with fail
      go_ret
      exact ⟨ret_bool (by rw [HF.out]), rfl⟩

/-- What holds of names that are gathered, behind a world. -/
structure VS (base : Nat) (own : Option Nat) (v : Value) (out : List ByteArray) (w1 W : World) : Prop where
  ro : W.ownsRow base 9 1 v out.length (strs out)
  fr : Fr (fun i => own = some i) w1 W
  ow : ∀ g, v.ownBlock = some g → own = some g ∨ w1.heap.size ≤ g
theorem VS.step {base : Nat} {own : Option Nat} {v v' : Value} {out out' : List ByteArray} {w1 W W1 W2 : World} (h : VS base own v out w1 W) (hb : Below W.heap.size W W1) (hr : W2.ownsRow base 9 1 v' out'.length (strs out')) (hf : Fr (fun i => v.ownBlock = some i) W1 W2) (ho : ∀ g, v'.ownBlock = some g → v.ownBlock = some g ∨ W1.heap.size ≤ g) : VS base own v' out' w1 W2 := by
  have hs := hb.size
  have hws := h.fr.size
  have hf1 : Fr (fun i => v.ownBlock = some i) W W2 := (Fr.of_below (S := fun i => v.ownBlock = some i) hb (Nat.le_refl _)).trans hf (fun i _ e => e)
  refine ⟨hr, h.fr.trans hf1 (fun i hi e => by rcases h.ow i e with h1 | h1; exact h1; omega), fun g hg => ?_⟩
  rcases ho g hg with h1 | h1
  · exact h.ow g h1
  · exact Or.inr (by omega)
theorem VS.nm {base : Nat} {own : Option Nat} {v : Value} {out bd : List ByteArray} {w1 W : World} {Ab : Option Addr} (h : VS base own v out w1 W) (hn : Nm w1 Ab bd) (hsep : ∀ g o, Ab = some ⟨g, o, none⟩ → 0 < bd.length → own ≠ some g) : Nm W Ab bd ∧ ∀ g o, Ab = some ⟨g, o, none⟩ → 0 < bd.length → v.ownBlock ≠ some g := by
  refine ⟨?_, fun g o e h0 hh => ?_⟩
  · by_cases h0 : 0 < bd.length
    · exact hn.fr h.fr (fun g o e => hsep g o e h0)
    · intro h1; exact absurd h1 h0
  · rcases h.ow g hh with h1 | h1
    · exact hsep g o e h0 h1
    · obtain ⟨g', o', e', hc⟩ := hn h0
      rw [e] at e'
      injection e' with e'; injection e' with e1 e2
      subst e1
      have hl := World.block_lt_of_cell? w1 _ (hc 0 h0)
      simp only at hl; omega
/-- The reference's Vars, up to a weight. -/
def VarsAt (fn : Nat) (N : Nat) : Prop := ∀ (x : Int) (f : ByteArray) (ts : List Tm) (S : Nat → Prop) (w : World) (A : Option Addr) (c base : Nat) (Ab : Option Addr) (cb : Nat) (bd out : List ByteArray) (v : Value), (Tm.mk x f ts).wt ≤ N → N ≤ 1125899906842624 → out.length + (Tm.mk x f ts).wt ≤ 4398046511104 → bd.length ≤ 4398046511104 → ST S w A ts.length c ts → (∀ b, S b → b < base) → base ≤ w.heap.size → Nm w Ab bd → w.ownsRow base 9 1 v out.length (strs out) → (∀ g o, Ab = some ⟨g, o, none⟩ → 0 < bd.length → v.ownBlock ≠ some g) →
    Calls Tryz.prog fn #[v, .agg #[.int .i64 x, .string f, .slice A ts.length c], .slice Ab bd.length cb] w fun e w' => ∃ v', e = .returned v' ∧ w'.ownsRow base 9 1 v' ((Tm.mk x f ts).met bd out).length (strs ((Tm.mk x f ts).met bd out)) ∧ Fr (fun i => v.ownBlock = some i) w w' ∧ (∀ g, v'.ownBlock = some g → v.ownBlock = some g ∨ w.heap.size ≤ g)
set_option maxRecDepth 100000 in
set_option maxHeartbeats 6400000 in
theorem vars0 : ∀ N, VarsAt 120 N := by
  intro N
  induction N with
  | zero => intro x f ts S w A c base Ab cb bd out v h; have := (Tm.mk x f ts).wt_pos; omega
  | succ N ih =>
    intro x f ts S w A c base Ab cb bd out v h hN ho hbl hst hS hbs hnm hro hsep
    have hwt : (Tm.mk x f ts).wt = 1 + f.size + Tm.wts ts := by rw [Tm.wt]
    rw [Tm.met]
    have hvl := vstep_len bd out f
    have hve := vstep_eq bd out f
    obtain ⟨Ao, co, rfl, hno⟩ := row_nm hro
    have hownl : ∀ k, (Value.slice Ao out.length co).ownBlock = some k → base ≤ k ∧ k < w.heap.size := fun k hk => ⟨row_low hro hk, by obtain ⟨vs, q⟩ := row_blk hro hk; exact q.lt⟩
    have HIV := Lib.hid (fun w' => risVar_any f w' (by omega))
    have hb0 : Below w.heap.size w (w.alloc (.cells #[.int .i64 x, .string f, .slice A ts.length c] 24)) := Below.alloc (Below.refl _ _) (Nat.le_refl _) _
    have HNM := Lib.hid (hnm.below hb0)
    have HH1 := Lib.hid (rin_any Ab cb bd f _ HNM.out hbl)
    have HH2 := Lib.hid (rin_any Ao co out f _ (hno.below hb0) (by omega))
    have HRO := Lib.hid (row_fr hro (Fr.of_below (S := fun _ => False) hb0 (Nat.le_refl _)) (fun k hk hs => hs))
    have HAP := Lib.hid (app_str HRO.out (by omega) (Nat.le_trans hbs hb0.size) f)
    have HF0 : Hid (Fr (fun i => (Value.slice Ao out.length co).ownBlock = some i) w (w.alloc (.cells #[.int .i64 x, .string f, .slice A ts.length c] 24))) := Lib.hid (Fr.of_below hb0 (Nat.le_refl _))
    have BKt := Lib.hid (Blk.new w 24 [.int .i64 x, .string f, .slice A ts.length c])
    simp only [List.toArray] at BKt
    have HST := Lib.hid (hst.stay (Stay.below hb0))
    have HSS : Hid (∀ b, S b → ¬ (Value.slice Ao out.length co).ownBlock = some b) := Lib.hid (fun b hs e => by have h1 := hS b hs; have h2 := (hownl b e).1; omega)
    have HSL := Lib.hid hS
    have HSEP := Lib.hid hsep
    have HBD : Hid ((vstep bd out f).length + Tm.wts ts ≤ 4398046511104 ∧ Tm.wts ts ≤ N ∧ N + 1 ≤ 1125899906842624 ∧ bd.length ≤ 4398046511104 ∧ base ≤ w.heap.size) := Lib.hid (by omega)
    have hlen : ts.length ≤ 1152921504606846976 := by have := Tm.len_wts ts; omega
    have HOL := Lib.hid (fun k hk => (hownl k hk).2)
    have HV0 : Hid (VS base (Value.slice Ao out.length co).ownBlock (.slice Ao out.length co) out (w.alloc (.cells #[.int .i64 x, .string f, .slice A ts.length c] 24)) (w.alloc (.cells #[.int .i64 x, .string f, .slice A ts.length c] 24))) := Lib.hid ⟨HRO.out, Fr.refl _ _, fun g hg => Or.inl hg⟩
    clear hno hst hb0 h ho hbl hN hwt hvl hro hownl hS hsep hnm hbs
    generalize vstep bd out f = out1 at *
    generalize hob2 : (Value.slice Ao out.length co).ownBlock = own at HF0 HOL HV0 HSS HSEP ⊢
    have HOB := Lib.hid hob2
    clear hob2
    go_enter Tryz.func120, Tryz.ntmps120
    go_upto_region 1 with (fail)
    generalize hW : w.alloc (.cells #[.int .i64 x, .string f, .slice A ts.length c] 24) = W at *
    have HWS := Lib.hid (show W.heap.size = w.heap.size + 1 by rw [← hW]; simp)
    clear hW
    have t0 := BKt.out.cell 0
    have t1 := BKt.out.cell 1
    have t2 := BKt.out.cell 2
    simp only [List.getElem?_cons_zero, List.getElem?_cons_succ] at t0 t1 t2
    have HVE := Lib.hid hve
    clear hve
    generalize isVarB (bs f) = q1 at *
    generalize Lib.containsS bd f = q2 at *
    generalize Lib.containsS out f = q3 at *
    cases q1
    case' false =>
      go_wp2_with fail
      refine (HIV.out _).mono ?_
      rintro e w2 ⟨rfl, rfl⟩
      go_upto_region 3 with (fail)
      have HM1 : Hid (VS base own (.slice Ao out.length co) out1 W W) := Lib.hid (by rw [show out1 = out by have := HVE.out; simpa using this]; exact HV0.out)
      clear HV0 HAP HH1 HH2 HVE HRO t0 t1 t2
    case' true =>
      cases q2
      case' true =>
        go_wp2_with fail
        refine (HIV.out _).mono ?_
        rintro e w2 ⟨rfl, rfl⟩
        go_wp2_with fail
        refine HH1.out.mono ?_
        rintro e w2 ⟨rfl, rfl⟩
        go_upto_region 3 with (fail)
        have HM1 : Hid (VS base own (.slice Ao out.length co) out1 W W) := Lib.hid (by rw [show out1 = out by have := HVE.out; simpa using this]; exact HV0.out)
        clear HV0 HAP HH1 HH2 HVE HRO t0 t1 t2
      case' false =>
        go_wp2_with fail
        refine (HIV.out _).mono ?_
        rintro e w2 ⟨rfl, rfl⟩
        go_wp2_with fail
        refine HH1.out.mono ?_
        rintro e w2 ⟨rfl, rfl⟩
        go_wp2_with fail
        refine HH2.out.mono ?_
        rintro e w2 ⟨rfl, rfl⟩
        cases q3
        case' true =>
          go_upto_region 3 with (fail)
          have HM1 : Hid (VS base own (.slice Ao out.length co) out1 W W) := Lib.hid (by rw [show out1 = out by have := HVE.out; simpa using this]; exact HV0.out)
          clear HV0 HAP HH1 HH2 HVE HRO t0 t1 t2
        case' false =>
          obtain ⟨v', w3, hrun, hro, hgr, hown⟩ := HAP.out
          rw [HOB.out] at hgr hown
          obtain ⟨A', c', rfl⟩ := row_slice hro
          have HM1 : Hid (VS base own (.slice A' (out ++ [f]).length c') out1 W w3) := Lib.hid (by
            rw [show out1 = out ++ [f] by have := HVE.out; simpa using this]
            refine ⟨hro, ((Fr.refl (fun i => own = some i) W).alloc _).trans (Fr.of_grown hgr) (fun i _ e => e), fun g hg => ?_⟩
            rcases hown with e | e
            · exact Or.inl (e.symm.trans hg)
            · right; have := e.symm.trans hg; simp at this; omega)
          simp only [List.length_append, List.length_cons, List.length_nil, Nat.zero_add] at hrun HM1
          clear hro hgr hown
          go_upto_region 3 with (fail)
          clear hrun HV0 HAP HH1 HH2 HVE HRO t0 t1 t2
    all_goals
      go_wp2_with fail
      go_loopw [0, 7] (fun vl vi wl => ∃ i : Nat, vi = .int .i64 i ∧ i ≤ ts.length ∧ VS base own vl (Tm.mets bd out1 (ts.take i)) W wl) (fun _ vi _ => ts.length - (intOf vi).toNat)
      case atStart => exact ⟨0, rfl, by omega, by rw [List.take_zero, Tm.mets]; exact HM1.out⟩
      case round =>
        obtain ⟨i, rfl, hi, hv⟩ := hrel
        obtain ⟨Av, cv, rfl⟩ := row_slice hv.ro
        have HV := Lib.hid hv
        have hbk := BKt.out.fr hv.fr (fun e => by have := HOL.out _ e; omega)
        have t2 := hbk.cell 2
        simp only [List.getElem?_cons_zero, List.getElem?_cons_succ] at t2
        clear hv hbk
        by_cases hlt : i < ts.length
        · have hstr := HST.out.stay (HV.out.fr.stay (S := S) HSS.out)
          obtain ⟨b, o, hA, v', f', us, Ai, ci, hme, hsti, k0, k1, k2⟩ := hstr.at i hlt
          subst hA
          have htk := Tm.wts_take ts i hlt
          have hml := Tm.mets_len bd (ts.take i) out1
          have hmt := Tm.mets_take bd out1 ts i hlt
          rw [hme] at htk hmt
          have HMT := Lib.hid hmt
          have hnl := HBD.out
          obtain ⟨hn1, hn2⟩ := HV.out.nm HNM.out HSEP.out
          have hws := HV.out.fr.size
          have hwz := HWS.out
          have HC := Lib.hid (ih v' f' us S wr Ai ci base Ab cb bd _ _ (by omega) (by omega) (by omega) (by omega) hsti HSL.out (by omega) hn1 HV.out.ro hn2)
          have HLT := Lib.hid hlt
          have hIL : (i : Int) ≤ 1152921504606846976 := by omega
          clear hstr hsti hme htk hml hmt hnl hn1 hn2 hws hwz
          go_wp2_with fail
          refine HC.out.mono ?_
          rintro e w2 ⟨v3, rfl, hro3, hf3, ho3⟩
          have HV3 := Lib.hid (HV.out.step (Below.refl _ _) hro3 hf3 ho3)
          obtain ⟨A3, c3, rfl⟩ := row_slice hro3
          clear hro3 hf3 ho3 HC HV k0 k1 k2 t2
          go_wp2_with fail
          go_roundw
          case rel => exact ⟨i + 1, by go_num, HLT.out, by rw [HMT.out]; exact HV3.out⟩
          case measure => have := HLT.out; simp [intOf]; omega
        · obtain rfl : i = ts.length := by omega
          simp only [List.take_length] at HV ⊢
          have HQX := HV
          have d1 : decide (ts.length < ts.length) = false := by simp
          clear HV
          go_wp2_with fail
          go_ret
          exact ⟨_, rfl, HQX.out.ro, HF0.out.trans HQX.out.fr (fun i _ e => e), fun g hg => by rcases HQX.out.ow g hg with h | h; exact Or.inl h; exact Or.inr (by have := HWS.out; omega)⟩
end Go.Proofs.YtndjjnnljihmnaaGreat
