/- Free; what push asks: is a name free? -/
import Derived.Test.YtndjjnnljihmnaaGreatFmP
import Derived.Sort.OwnSorted
namespace Go.Proofs.YtndjjnnljihmnaaGreat
open Go.RowKit Go.Sort
set_option linter.unusedVariables false
set_option linter.unusedSimpArgs false
theorem strs_enc (l : List ByteArray) : strs l = (l.map (fun b => b.data.toList)).map encStr := by
  simp [strs, encStr, Function.comp_def]
theorem enc_strs (l : List (List UInt8)) : l.map encStr = strs (l.map (fun b => (⟨b.toArray⟩ : ByteArray))) := by
  simp [strs, encStr, Function.comp_def]
theorem containsS_ext {l l' : List ByteArray} (h : ∀ x, x ∈ l' ↔ x ∈ l) (x : ByteArray) : Lib.containsS l' x = Lib.containsS l x := by
  rw [Bool.eq_iff_iff, Lib.containsS_iff, Lib.containsS_iff]; exact h x
/-- Sort: the same names, in another order. -/
theorem sort_any (base : Nat) (v : Value) (l : List ByteArray) (w : World) (h : w.ownsRow base 9 1 v l.length (strs l)) (hl : l.length ≤ 4398046511104) :
    Calls Tryz.prog 88 #[v] w fun e w' => e = .returned (.tuple #[]) ∧ ∃ l' : List ByteArray, (∀ x, Lib.containsS l' x = Lib.containsS l x) ∧ l'.length = l.length ∧ w'.ownsRow base 9 1 v l'.length (strs l') ∧ Fr (fun i => v.ownBlock = some i) w w' := by
  have hs := h
  rcases h.2 with ⟨rfl, h0⟩ | ⟨g, cap, cur, rfl, hb, hh, h1, h2, h3, h4⟩
  · refine (Tryz.slices_Sort_string_none none 0 w).mono ?_
    rintro e w' ⟨rfl, rfl⟩
    exact ⟨rfl, l, fun x => rfl, rfl, hs, Fr.refl _ _⟩
  · have e0 : (l.map (fun b => b.data.toList)).length = l.length := by simp
    rw [strs_enc] at h4
    have hH : Holds encStr w g 0 (l.map (fun b => b.data.toList)).toArray := holds_of_block hh (by rw [e0]; rw [Nat.mul_one] at h4; exact h4)
    have hc := Tryz.slices_Sort_string g 0 cap (l.map (fun b => b.data.toList)) w hH (Array.getElem?_eq_some_iff.1 hh).1 (by rw [e0]; omega)
    rw [e0] at hc
    refine hc.mono ?_
    rintro e w' ⟨rfl, n, os, rfl⟩
    have e1 : ((l.map (fun b => b.data.toList)).mergeSort fun x y => decide (x ≤ y)).length = (l.map (fun b => b.data.toList)).length := by simp
    refine ⟨rfl, ((l.map (fun b => b.data.toList)).mergeSort fun x y => decide (x ≤ y)).map (fun b => (⟨b.toArray⟩ : ByteArray)), ?_, by simp, ?_, ?_⟩
    · refine containsS_ext (fun x => ?_)
      simp only [List.mem_map, List.mem_mergeSort]
      constructor
      · rintro ⟨a, ⟨b, hb, rfl⟩, rfl⟩; exact hb
      · intro hx; exact ⟨x.data.toList, ⟨x, hx, rfl⟩, rfl⟩
    · have := ownsRow_sorted (n := n) (os := os) e1 hb hh (by rw [e0]; exact h1) h2 h3
      rw [enc_strs, e0] at this
      simpa using this
    · exact (Fr.of_grown (grownBy_sorted _)).mono (fun i _ e => by simpa [Value.ownBlock] using e)
def FreeP (w : World) (f : Fm) (e : Ending) (w' : World) : Prop := ∃ A c l, e = .returned (.slice A l.length c) ∧ Nm w' A l ∧ l.length ≤ 4398046511104 ∧ (∀ x, Lib.containsS l x = f.has x) ∧ Below w.heap.size w w'
set_option maxHeartbeats 3200000 in
theorem free_any (k : Int) (n : ByteArray) (vl : Int) (fl : ByteArray) (al : List Tm) (vr : Int) (fr : ByteArray) (ar : List Tm) (ts : List Fm) (Al : Option Addr) (cl : Nat) (Ar : Option Addr) (cr : Nat) (A : Option Addr) (c : Nat) (S : Nat → Prop) (w : World) (hN : (Fm.mk k n (.mk vl fl al) (.mk vr fr ar) ts).wt ≤ 4398046511104) (hl : ST S w Al al.length cl al) (hr : ST S w Ar ar.length cr ar) (hs : SF S w A ts.length c ts) : Calls Tryz.prog 70 #[.agg #[.int .i64 k, .string n, .int .i64 vl, .string fl, .slice Al al.length cl, .int .i64 vr, .string fr, .slice Ar ar.length cr, .slice A ts.length c]] w fun e w' => FreeP w (Fm.mk k n (.mk vl fl al) (.mk vr fr ar) ts) e w' := by
  have hb0 : Below w.heap.size w (w.alloc (.cells #[.int .i64 k, .string n, .int .i64 vl, .string fl, .slice Al al.length cl, .int .i64 vr, .string fr, .slice Ar ar.length cr, .slice A ts.length c] 27)) := Below.alloc (Below.refl _ _) (Nat.le_refl _) _
  have HM := Lib.hid (met0 1125899906842624 k n vl fl al vr fr ar ts Al cl Ar cr A c (fun b => S b ∧ b < w.heap.size) (w.alloc (.cells #[.int .i64 k, .string n, .int .i64 vl, .string fl, .slice Al al.length cl, .int .i64 vr, .string fr, .slice Ar ar.length cr, .slice A ts.length c] 27)) w.heap.size none 0 [] [] (.slice none 0 0) (by omega) (Nat.le_refl _) (by simpa using hN) (by simpa using hN) (hl.stay (Stay.low.trans (Stay.below hb0))) (hr.stay (Stay.low.trans (Stay.below hb0))) (hs.stay (Stay.low.trans (Stay.below hb0))) (fun b hb => hb.2) (by simp) (Or.inl ⟨rfl, rfl, rfl⟩) (Nm.nil _ _) (World.ownsRow_nil _ _ _ _) (fun g o e => by cases e))
  have HL := Lib.hid (show ((Fm.mk k n (.mk vl fl al) (.mk vr fr ar) ts).met [] []).length ≤ 4398046511104 by have := Fm.met_len (Fm.mk k n (.mk vl fl al) (.mk vr fr ar) ts) [] []; simp at this; omega)
  have HB0 := Lib.hid hb0
  have HH : Hid (∀ x, (Fm.mk k n (.mk vl fl al) (.mk vr fr ar) ts).has x = Lib.containsS ((Fm.mk k n (.mk vl fl al) (.mk vr fr ar) ts).met [] []) x) := Lib.hid (fun x => rfl)
  generalize (Fm.mk k n (.mk vl fl al) (.mk vr fr ar) ts).met [] [] = out at *
  clear hl hr hs hN hb0
  go_enter Tryz.func70, Tryz.ntmps70
  go_wp2_with fail
  refine HM.out.mono ?_
  rintro e w2 ⟨v, rfl, hro, hfr, how⟩
  have HB2 := Lib.hid (HB0.out.trans (hfr.below (B := w.heap.size) (by simp) (fun i hi => by simp [Value.ownBlock] at hi)))
  have HV := Lib.hid (fun g (hg : v.ownBlock = some g) => (row_low hro hg))
  have HS := Lib.hid (sort_any w.heap.size v out w2 hro HL.out)
  obtain ⟨A, c, rfl⟩ := row_slice hro
  clear hro hfr how HM HB0
  go_wp2_with fail
  refine HS.out.mono ?_
  rintro e w3 ⟨rfl, l', hc, hlen, hro3, hf3⟩
  have HB3 := Lib.hid (HB2.out.trans (hf3.below (B := w.heap.size) (by have := HB2.out.size; exact this) (fun i hi => HV.out i hi)))
  have HRO := Lib.hid hro3
  have HC := Lib.hid hc
  have HLE := Lib.hid hlen
  clear hc hlen hro3 hf3 HS HB2
  go_wp2_with fail
  go_ret
  obtain ⟨A', c', e, hnm⟩ := row_nm HRO.out
  rw [HLE.out] at e
  injection e with e1 _ e2
  subst e1 e2
  exact ⟨_, _, l', by rw [HLE.out]; rfl, hnm, by rw [HLE.out]; exact HL.out, fun x => (HC.out x).trans (HH.out x).symm, HB3.out⟩
end Go.Proofs.YtndjjnnljihmnaaGreat
