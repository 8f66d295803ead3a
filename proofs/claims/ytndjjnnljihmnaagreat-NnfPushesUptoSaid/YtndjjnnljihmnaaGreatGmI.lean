/- The reference's with, Free, free. -/
import Derived.Test.YtndjjnnljihmnaaGreatGmJ
namespace Go.Proofs.YtndjjnnljihmnaaGreat
open Go.RowKit Go.Proofs.YtndjjnnljihmnaaGreat.Lx
set_option linter.unusedVariables false
set_option linter.unusedSimpArgs false
attribute [local go_sem ↓] app_block
theorem bel_app {w W w' : World} {v : Value} {n : Nat} {xs : List Value} {o : Obj} (hb : Below w.heap.size w W) (hro : W.ownsRow w.heap.size 9 1 v n xs) (hgr : (W.alloc o).grownBy w' v.ownBlock) : Below w.heap.size w w' := by
  have h1 : Fr (fun i => v.ownBlock = some i) w (W.alloc o) := Fr.of_below (hb.alloc hb.size o) (Nat.le_refl _)
  have h2 := h1.trans (Fr.of_grown hgr) (fun i _ e => e)
  exact h2.below (Nat.le_refl _) (fun i e => row_low hro e)
theorem mem_take_succ (l : List ByteArray) (i : Nat) (h : i < l.length) (x : ByteArray) : x ∈ l.take (i + 1) ↔ x ∈ l.take i ∨ x = l[i] := by
  rw [List.take_succ_eq_append_getElem h, List.mem_append, List.mem_singleton]
/-- What holds of names with one more, within the loop. -/
structure WI (w : World) (l : List ByteArray) (s : ByteArray) (i : Nat) (d : Bool) (o : List ByteArray) (vo : Value) (W : World) : Prop where
  ro : W.ownsRow w.heap.size 9 1 vo o.length (strs o)
  mem : ∀ x, x ∈ o ↔ x ∈ l.take i ∨ (d = true ∧ x = s)
  len : o.length = i + (if d then 1 else 0)
  bel : Below w.heap.size w W
theorem WI.more {w W w' : World} {l o : List ByteArray} {s : ByteArray} {i : Nat} {d : Bool} {vo v' : Value} {ob : Obj} (h : WI w l s i d o vo W) (hi : i < l.length) (hro : w'.ownsRow w.heap.size 9 1 v' (o ++ [l[i]]).length (strs (o ++ [l[i]]))) (hgr : (W.alloc ob).grownBy w' vo.ownBlock) : WI w l s (i + 1) d (o ++ [l[i]]) v' w' := by
  refine ⟨hro, fun x => ?_, ?_, bel_app h.bel h.ro hgr⟩
  · rw [List.mem_append, List.mem_singleton, mem_take_succ l i hi, h.mem x]
    constructor
    · rintro ((h | h) | h)
      · exact Or.inl (Or.inl h)
      · exact Or.inr h
      · exact Or.inl (Or.inr h)
    · rintro ((h | h) | h)
      · exact Or.inl (Or.inl h)
      · exact Or.inr h
      · exact Or.inl (Or.inr h)
  · rw [List.length_append, h.len]; simp; omega
theorem WI.put {w W w' : World} {l o : List ByteArray} {s : ByteArray} {i : Nat} {vo v' : Value} {ob : Obj} (h : WI w l s i false o vo W) (hro : w'.ownsRow w.heap.size 9 1 v' (o ++ [s]).length (strs (o ++ [s]))) (hgr : (W.alloc ob).grownBy w' vo.ownBlock) : WI w l s i true (o ++ [s]) v' w' := by
  refine ⟨hro, fun x => ?_, ?_, bel_app h.bel h.ro hgr⟩
  · rw [List.mem_append, List.mem_singleton, h.mem x]
    simp
  · rw [List.length_append, h.len]; simp
set_option maxRecDepth 100000 in
set_option maxHeartbeats 6400000 in
theorem rwith_any (v : Value) (l : List ByteArray) (s : ByteArray) (w : World) (base : Nat) (hro : w.ownsRow base 9 1 v l.length (strs l)) (hb : base ≤ w.heap.size) (hl : l.length ≤ 4398046511000) :
    Calls Tryz.prog 103 #[v, .string s] w fun e w' => ∃ v' l', e = .returned v' ∧ w'.ownsRow base 9 1 v' l'.length (strs l') ∧ (∀ x, x ∈ l' ↔ x ∈ l ∨ x = s) ∧ l'.length ≤ l.length + 1 ∧ Below w.heap.size w w' := by
  obtain ⟨A, c, rfl, hnm⟩ := row_nm hro
  have HIN := Lib.hid (rin_any A c l s w hnm (by omega))
  have HRO := Lib.hid hro
  have HNM := Lib.hid hnm
  have HB := Lib.hid hb
  have HL := Lib.hid hl
  clear hnm hro hb
  cases q : Lib.containsS l s
  rotate_left
  · have hs : s ∈ l := (Lib.containsS_iff l s).1 q
    rw [q] at HIN
    go_enter Tryz.func103, Tryz.ntmps103
    go_wp2_with fail
    refine HIN.out.mono ?_
    rintro e w2 ⟨rfl, rfl⟩
    go_wp2_with fail
    go_ret
    exact ⟨_, l, rfl, HRO.out, fun x => ⟨Or.inl, fun h => by rcases h with h | rfl; exact h; exact hs⟩, by omega, Below.refl _ _⟩
  rw [q] at HIN
  clear q
  go_enter Tryz.func103, Tryz.ntmps103
  go_wp2_with fail
  refine HIN.out.mono ?_
  rintro e w2 ⟨rfl, rfl⟩
  clear HIN
  go_wp2_with fail
  go_loopw [5, 6, 7] (fun vo vd vi wl => ∃ (i : Nat) (d : Bool) (o : List ByteArray), i ≤ l.length ∧ vi = .int .i64 i ∧ vd = .bool d ∧ WI w l s i d o vo wl) (fun _ _ vi _ => l.length - (intOf vi).toNat)
  case atStart => exact ⟨0, false, [], Nat.zero_le _, rfl, rfl, World.ownsRow_nil _ _ _ _, fun x => by simp, rfl, Below.refl _ _⟩
  case round =>
    obtain ⟨i, d, o, hi, rfl, rfl, hw⟩ := hrel
    obtain ⟨Ao, co, rfl⟩ := row_slice hw.ro
    have HW := Lib.hid hw
    clear hw
    by_cases hlt : i < l.length
    · have HLT := Lib.hid hlt
      have hlen := HL.out
      have hol : o.length ≤ 4398046511001 := by have h1 := HW.out.len; split at h1 <;> omega
      obtain ⟨va, wa, hra, roa, gra, owa⟩ := app_str HW.out.ro (by omega) HW.out.bel.size l[i]
      obtain ⟨vb, wb, hrb, rob, grb, owb⟩ := app_str HW.out.ro (by omega) HW.out.bel.size s
      obtain ⟨vc, wc, hrc, roc, grc, owc⟩ := app_str rob (by rw [List.length_append]; simp; omega) (bel_app HW.out.bel HW.out.ro grb).size l[i]
      obtain ⟨g, ofs, rfl, hc⟩ := HNM.out (by omega)
      have p0 := keepc HW.out.bel (hc i hlt)
      have pb := keepc (bel_app HW.out.bel HW.out.ro grb) (hc i hlt)
      rw [List.getD_eq_getElem?_getD, List.getElem?_eq_getElem hlt, Option.getD_some] at p0 pb
      have hwb := World.block_lt_of_cell? _ _ p0
      simp only at hwb
      have hwb1 := Nat.ne_of_lt hwb
      have hwb2 := hwb1.symm
      have hwc := World.block_lt_of_cell? _ _ pb
      simp only at hwc
      have hwc1 := Nat.ne_of_lt hwc
      have hwc2 := hwc1.symm
      have WA := Lib.hid (HW.out.more hlt roa gra)
      obtain ⟨Aa, ca, rfl⟩ := row_slice roa
      have WC : Hid (d = false → WI w l s (i + 1) true (o ++ [s] ++ [l[i]]) vc wc) := Lib.hid (fun hd => by subst hd; exact (HW.out.put rob grb).more hlt roc grc)
      obtain ⟨Ab, cb, rfl⟩ := row_slice rob
      obtain ⟨Ac, cc, rfl⟩ := row_slice roc
      simp only [List.length_append, List.length_cons, List.length_nil, Nat.zero_add] at hra hrb hrc WA WC
      clear roa gra owa rob grb owb roc grc owc hc
      generalize l[i] = y at *
      have hIL : (i : Int) ≤ 1152921504606846976 := by omega
      have d1 : decide ((i : Int) < (l.length : Int)) = true := by simp; omega
      cases d
      · go_wp2_with fail
        · exact ⟨⟨i + 1, true, o ++ [s] ++ [y], HLT.out, by go_num, rfl, WC.out rfl⟩, by have := HLT.out; simp [intOf]; omega⟩
        · exact ⟨⟨i + 1, false, o ++ [y], HLT.out, by go_num, rfl, WA.out⟩, by have := HLT.out; simp [intOf]; omega⟩
      · go_wp2_with fail
        go_roundw
        case rel => exact ⟨i + 1, true, _, HLT.out, by go_num, rfl, WA.out⟩
        case measure => have := HLT.out; simp [intOf]; omega
    · obtain rfl : i = l.length := by omega
      have hw := HW.out
      have hmem := hw.mem
      rw [List.take_length] at hmem
      have HM := Lib.hid hmem
      clear hmem
      have hol : o.length ≤ 4398046511001 := by have h1 := hw.len; have h2 := HL.out; split at h1 <;> omega
      have d1 : decide (l.length < l.length) = false := by simp
      cases d
      · obtain ⟨vb, wb, hrb, rob, grb, owb⟩ := app_str hw.ro (by omega) hw.bel.size s
        have WB := Lib.hid (hw.put rob grb)
        obtain ⟨Ab, cb, rfl⟩ := row_slice rob
        simp only [List.length_append, List.length_cons, List.length_nil, Nat.zero_add] at hrb
        clear rob grb owb hw
        go_wp2_with fail
        go_ret
        have h1 := WB.out.mem
        rw [List.take_length] at h1
        have h2 := WB.out.len
        exact ⟨_, o ++ [s], rfl, by have := row_base WB.out.ro HB.out; simpa using this, fun x => by rw [h1 x]; simp, by rw [h2]; simp, WB.out.bel⟩
      · have WB := Lib.hid hw
        clear hw
        go_wp2_with fail
        go_ret
        have h2 := WB.out.len
        exact ⟨_, rfl, o, row_base WB.out.ro HB.out, fun x => by rw [HM.out x]; simp, by rw [h2]; simp, WB.out.bel⟩
set_option maxHeartbeats 3200000 in
theorem rfree_any (k : Int) (n : ByteArray) (vl : Int) (fl : ByteArray) (al : List Tm) (vr : Int) (fr : ByteArray) (ar : List Tm) (ts : List Fm) (Al : Option Addr) (cl : Nat) (Ar : Option Addr) (cr : Nat) (A : Option Addr) (c : Nat) (S : Nat → Prop) (w : World) (hN : (Fm.mk k n (.mk vl fl al) (.mk vr fr ar) ts).wt ≤ 4398046510000) (hl : ST S w Al al.length cl al) (hr : ST S w Ar ar.length cr ar) (hs : SF S w A ts.length c ts) : Calls Tryz.prog 89 #[.agg #[.int .i64 k, .string n, .int .i64 vl, .string fl, .slice Al al.length cl, .int .i64 vr, .string fr, .slice Ar ar.length cr, .slice A ts.length c]] w fun e w' => FreeP w (Fm.mk k n (.mk vl fl al) (.mk vr fr ar) ts) e w' := by
  have hb0 : Below w.heap.size w (w.alloc (.cells #[.int .i64 k, .string n, .int .i64 vl, .string fl, .slice Al al.length cl, .int .i64 vr, .string fr, .slice Ar ar.length cr, .slice A ts.length c] 27)) := Below.alloc (Below.refl _ _) (Nat.le_refl _) _
  have HM := Lib.hid (rmet0 1125899906842624 k n vl fl al vr fr ar ts Al cl Ar cr A c (fun b => S b ∧ b < w.heap.size) (w.alloc (.cells #[.int .i64 k, .string n, .int .i64 vl, .string fl, .slice Al al.length cl, .int .i64 vr, .string fr, .slice Ar ar.length cr, .slice A ts.length c] 27)) w.heap.size none 0 [] [] (.slice none 0 0) (by omega) (Nat.le_refl _) (by simp; omega) (by simp; omega) (hl.stay (Stay.low.trans (Stay.below hb0))) (hr.stay (Stay.low.trans (Stay.below hb0))) (hs.stay (Stay.low.trans (Stay.below hb0))) (fun b hb => hb.2) (by simp) (Or.inl ⟨rfl, rfl, rfl⟩) (Nm.nil _ _) (World.ownsRow_nil _ _ _ _) (fun g o e => by cases e))
  have HL := Lib.hid (show ((Fm.mk k n (.mk vl fl al) (.mk vr fr ar) ts).met [] []).length ≤ 4398046510000 by have := Fm.met_len (Fm.mk k n (.mk vl fl al) (.mk vr fr ar) ts) [] []; simp at this; omega)
  have HB0 := Lib.hid hb0
  have HH : Hid (∀ x, (Fm.mk k n (.mk vl fl al) (.mk vr fr ar) ts).has x = Lib.containsS ((Fm.mk k n (.mk vl fl al) (.mk vr fr ar) ts).met [] []) x) := Lib.hid (fun x => rfl)
  have BKf := Lib.hid (Blk.new w 27 [.int .i64 k, .string n, .int .i64 vl, .string fl, .slice Al al.length cl, .int .i64 vr, .string fr, .slice Ar ar.length cr, .slice A ts.length c])
  simp only [List.toArray] at BKf
  generalize (Fm.mk k n (.mk vl fl al) (.mk vr fr ar) ts).met [] [] = out at *
  clear hl hr hs hN hb0
  go_enter Tryz.func89, Tryz.ntmps89
  go_upto_region 1 with (fail)
  generalize w.alloc (.cells #[.int .i64 k, .string n, .int .i64 vl, .string fl, .slice Al al.length cl, .int .i64 vr, .string fr, .slice Ar ar.length cr, .slice A ts.length c] 27) = W at *
  have tk := BKf.out.nine; have z0 := tk.c0; have z1 := tk.c1; have z2 := tk.c2; have z3 := tk.c3; have z4 := tk.c4; have z5 := tk.c5; have z6 := tk.c6; have z7 := tk.c7; have z8 := tk.c8; clear tk
  go_wp2_with fail
  refine HM.out.mono ?_
  rintro e w2 ⟨v, rfl, hro, hfr, how⟩
  have HB2 := Lib.hid (HB0.out.trans (hfr.below (B := w.heap.size) (HB0.out.size) (fun i hi => by simp [Value.ownBlock] at hi)))
  obtain ⟨Am, cm, rfl, hnm⟩ := row_nm hro
  have HNM := Lib.hid hnm
  clear hro hfr how hnm HM HB0 z0 z1 z2 z3 z4 z5 z6 z7 z8 BKf
  go_wp2_with fail
  go_loopw [4, 5] (fun vo vi wl => ∃ (i : Nat) (o : List ByteArray), i ≤ out.length ∧ vi = .int .i64 i ∧ wl.ownsRow w.heap.size 9 1 vo o.length (strs o) ∧ (∀ x, x ∈ o ↔ x ∈ out.take i) ∧ o.length ≤ i ∧ Below w2.heap.size w2 wl) (fun _ vi _ => out.length - (intOf vi).toNat)
  case atStart => exact ⟨0, [], Nat.zero_le _, rfl, World.ownsRow_nil _ _ _ _, fun x => by simp, Nat.le_refl _, Below.refl _ _⟩
  case round =>
    obtain ⟨i, o, hi, rfl, hro, hmem, hol, hbl⟩ := hrel
    have HRO := Lib.hid hro
    have HME := Lib.hid hmem
    have HOL := Lib.hid hol
    have HBL := Lib.hid hbl
    obtain ⟨Ao, co, rfl⟩ := row_slice hro
    clear hro hmem hol hbl
    by_cases hlt : i < out.length
    · have HLT := Lib.hid hlt
      obtain ⟨g, ofs, rfl, hc⟩ := HNM.out (by omega)
      have p0 := keepc HBL.out (hc i hlt)
      rw [List.getD_eq_getElem?_getD, List.getElem?_eq_getElem hlt, Option.getD_some] at p0
      have hlen := HL.out
      have HC := Lib.hid (rwith_any _ o out[i] wr w.heap.size HRO.out (Nat.le_trans HB2.out.size HBL.out.size) (by have := HOL.out; omega))
      have hIL : (i : Int) ≤ 1152921504606846976 := by omega
      clear hc
      go_wp2_with fail
      refine HC.out.mono ?_
      rintro e w3 ⟨v3, l3, rfl, hro3, hm3, hl3, hb3⟩
      have HR3 := Lib.hid hro3
      have HM3 : Hid (∀ x, x ∈ l3 ↔ x ∈ out.take (i + 1)) := Lib.hid (fun x => by rw [hm3 x, HME.out x, mem_take_succ out i HLT.out]; exact Iff.rfl)
      have HL3 := Lib.hid (show l3.length ≤ i + 1 by have := HOL.out; omega)
      have HB3 := Lib.hid (bel_go HBL.out hb3)
      obtain ⟨A3, c3, rfl⟩ := row_slice hro3
      clear hro3 hm3 hl3 hb3 HC p0
      go_wp2_with fail
      go_roundw
      case rel => exact ⟨i + 1, l3, HLT.out, by go_num, HR3.out, HM3.out, HL3.out, HB3.out⟩
      case measure => have := HLT.out; simp [intOf]; omega
    · obtain rfl : i = out.length := by omega
      have hm := HME.out
      rw [List.take_length] at hm
      have d1 : decide (out.length < out.length) = false := by simp
      obtain ⟨A3, c3, e3, hn3⟩ := row_nm HRO.out
      injection e3 with e1 e2 e3
      subst e1
      have HMM := Lib.hid hm
      have HN3 := Lib.hid hn3
      clear hm hn3
      go_wp2_with fail
      go_ret
      exact ⟨_, _, o, rfl, HN3.out, by have := HOL.out; have := HL.out; omega, fun x => by rw [HH.out x]; exact containsS_ext HMM.out x, bel_go HB2.out HBL.out⟩
set_option maxHeartbeats 3200000 in
/-- The reference's question: is a name free? -/
theorem rhas_any (x : ByteArray) (k : Int) (n : ByteArray) (vl : Int) (fl : ByteArray) (al : List Tm) (vr : Int) (fr : ByteArray) (ar : List Tm) (ts : List Fm) (Al : Option Addr) (cl : Nat) (Ar : Option Addr) (cr : Nat) (A : Option Addr) (c : Nat) (S : Nat → Prop) (w : World) (hN : (Fm.mk k n (.mk vl fl al) (.mk vr fr ar) ts).wt ≤ 4398046510000) (hl : ST S w Al al.length cl al) (hr : ST S w Ar ar.length cr ar) (hs : SF S w A ts.length c ts) : Calls Tryz.prog 72 #[.string x, .agg #[.int .i64 k, .string n, .int .i64 vl, .string fl, .slice Al al.length cl, .int .i64 vr, .string fr, .slice Ar ar.length cr, .slice A ts.length c]] w fun e w' => e = .returned (.bool ((Fm.mk k n (.mk vl fl al) (.mk vr fr ar) ts).has x)) ∧ Below w.heap.size w w' := by
  have hb0 : Below w.heap.size w (w.alloc (.cells #[.int .i64 k, .string n, .int .i64 vl, .string fl, .slice Al al.length cl, .int .i64 vr, .string fr, .slice Ar ar.length cr, .slice A ts.length c] 27)) := Below.alloc (Below.refl _ _) (Nat.le_refl _) _
  have HM := Lib.hid (rfree_any k n vl fl al vr fr ar ts Al cl Ar cr A c S (w.alloc (.cells #[.int .i64 k, .string n, .int .i64 vl, .string fl, .slice Al al.length cl, .int .i64 vr, .string fr, .slice Ar ar.length cr, .slice A ts.length c] 27)) hN (hl.stay (Stay.below hb0)) (hr.stay (Stay.below hb0)) (hs.stay (Stay.below hb0)))
  have HB0 := Lib.hid hb0
  have BKf := Lib.hid (Blk.new w 27 [.int .i64 k, .string n, .int .i64 vl, .string fl, .slice Al al.length cl, .int .i64 vr, .string fr, .slice Ar ar.length cr, .slice A ts.length c])
  simp only [List.toArray] at BKf
  generalize (Fm.mk k n (.mk vl fl al) (.mk vr fr ar) ts) = fm at *
  clear hl hr hs hN hb0
  go_enter Tryz.func72, Tryz.ntmps72
  go_upto_region 1 with (fail)
  generalize w.alloc (.cells #[.int .i64 k, .string n, .int .i64 vl, .string fl, .slice Al al.length cl, .int .i64 vr, .string fr, .slice Ar ar.length cr, .slice A ts.length c] 27) = W at *
  have tk := BKf.out.nine; have z0 := tk.c0; have z1 := tk.c1; have z2 := tk.c2; have z3 := tk.c3; have z4 := tk.c4; have z5 := tk.c5; have z6 := tk.c6; have z7 := tk.c7; have z8 := tk.c8; clear tk
  go_wp2_with fail
  refine HM.out.mono ?_
  rintro e w2 ⟨Al2, cl2, l, rfl, hn, hl, hh, hb⟩
  have HNM := Lib.hid hn
  have HL := Lib.hid hl
  have HH := Lib.hid (hh x)
  have HB2 := Lib.hid (bel_go HB0.out hb)
  clear hn hl hh hb HM HB0 z0 z1 z2 z3 z4 z5 z6 z7 z8 BKf
  go_wp2_with fail
  go_loopw [6] (fun vi wl => ∃ i : Nat, i ≤ l.length ∧ vi = .int .i64 i ∧ Lib.containsS l x = Lib.containsS (l.drop i) x ∧ wl = w2) (fun vi _ => l.length - (intOf vi).toNat)
  case atStart => exact ⟨0, by omega, rfl, rfl, rfl⟩
  case round =>
    obtain ⟨i, hi, rfl, hk, rfl⟩ := hrel
    have HK := Lib.hid hk
    clear hk
    by_cases hlt : i < l.length
    · obtain ⟨g, o, rfl, hc⟩ := HNM.out (by omega)
      have p0 := hc i hlt
      rw [List.getD_eq_getElem?_getD, List.getElem?_eq_getElem hlt, Option.getD_some] at p0
      have HD := Lib.hid (contains_drop l x i hlt)
      clear hc
      have HI := Lib.hid hlt
      have hl := HL.out
      go_wp2_with fail
      rotate_left
      · rename_i hx
        have hq : seq l[i] x = false := hx
        have HF : Lib.containsS l x = Lib.containsS (l.drop (i + 1)) x := by rw [HK.out]; have hd2 : Lib.containsS (l.drop i) x = (seq l[i] x || Lib.containsS (l.drop (i + 1)) x) := HD.out; rw [hd2, hq]; rfl
        exact ⟨⟨i + 1, HI.out, by go_num, HF, trivial⟩, by have := HI.out; simp [intOf]; omega⟩
      · rename_i hx
        have hq : seq l[i] x = true := hx
        have HF : Lib.containsS l x = true := by rw [HK.out]; have hd2 : Lib.containsS (l.drop i) x = (seq l[i] x || Lib.containsS (l.drop (i + 1)) x) := HD.out; rw [hd2, hq]; rfl
        go_ret
        exact ⟨ret_bool (by rw [← HH.out, HF]), HB2.out⟩
    · obtain rfl : i = l.length := by omega
      have HF := Lib.hid (show Lib.containsS l x = false by rw [HK.out, List.drop_length]; rfl)
      have d3 : decide (l.length < l.length) = false := by simp
      go_wp2_with fail
      go_ret
      exact ⟨ret_bool (by rw [← HH.out, HF.out]), HB2.out⟩
end Go.Proofs.YtndjjnnljihmnaaGreat
