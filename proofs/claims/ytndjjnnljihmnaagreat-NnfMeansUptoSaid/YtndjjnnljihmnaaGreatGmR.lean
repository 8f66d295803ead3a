/- The reference's worlds: pick, Value. -/
import Derived.Test.YtndjjnnljihmnaaGreatGmP
namespace Go.Proofs.YtndjjnnljihmnaaGreat
open Go.RowKit
set_option linter.unusedVariables false
set_option linter.unusedSimpArgs false
/-- Whole numbers that lie in memory, to be read. -/
def Nts (w : World) (A : Option Addr) (l : List Int) : Prop := 0 < l.length → ∃ g o, A = some ⟨g, o, none⟩ ∧ ∀ (j : Nat) (h : j < l.length), w.cell? ⟨g, o + j, none⟩ = some (.int .i64 l[j])
theorem Nts.nil (w : World) (A : Option Addr) : Nts w A [] := fun h => absurd h (by simp)
theorem Nts.below {w w' : World} {A : Option Addr} {l : List Int} (h : Nts w A l) (hb : Below w.heap.size w w') : Nts w' A l := fun h0 => by
  obtain ⟨g, o, e, hc⟩ := h h0
  exact ⟨g, o, e, fun j hj => (hb.cell (p := ⟨g, o + j, none⟩) (World.block_lt_of_cell? w _ (hc j hj))).trans (hc j hj)⟩
theorem wrap_u64_nonneg (a : Int) : 0 ≤ IntKind.u64.wrap a := by unfold IntKind.wrap; simp [IntKind.signed, IntKind.bits]; omega
theorem bits_nonneg (a b : Int) : 0 ≤ bits BinOp.xor IntKind.u64 a b := by unfold bits; exact wrap_u64_nonneg _
def stepB (h b : Int) : Int := IntKind.u64.wrap (IntKind.u64.wrap (h * 131) + IntKind.u64.wrap b)
def hashB (fn : ByteArray) (h : Int) : Nat → Int
  | 0 => h
  | i + 1 => stepB (hashB fn h i) (fn[i]!).toNat
def stepA (h a : Int) : Int := IntKind.u64.wrap (IntKind.u64.wrap (IntKind.u64.wrap (h * 7) + IntKind.u64.wrap a) + 1)
def hashA (al : List Int) (h : Int) : Nat → Int
  | 0 => h
  | i + 1 => stepA (hashA al h i) (al.getD i 0)
def hashR (fn : ByteArray) (al : List Int) : Int := bits BinOp.xor IntKind.u64 (hashA al (hashB fn al.length fn.size) al.length) (hashA al (hashB fn al.length fn.size) al.length / 128)
def pickR (s n : Int) (fn : ByteArray) : Int := if fn.toList = [36, 116, 114, 117, 101] then 1001 else if h : 0 < fn.size then (if (fn[0].toNat : Int) = 64 then (if n.tmod 2 ≠ 0 then 1001 else 1000) else thingI s n) else thingI s n
/-- What the name fn is of things. -/
def pickV (s : Int) (rl : List Int) (fn : ByteArray) (al : List Int) : Int := pickR s (rl.getD (Int.tmod (hashR fn al) (rl.length : Int)).toNat 0) fn
theorem pick_any (s : Int) (A : Option Addr) (c : Nat) (rl : List Int) (fn : ByteArray) (Aa : Option Addr) (ca : Nat) (al : List Int) (w : World) (hs : 1 ≤ s ∧ s ≤ 3) (hr : 0 < rl.length ∧ rl.length ≤ 64) (hN : Nts w A rl) (ha : Nts w Aa al) (hf : fn.size ≤ 1125899906842624) (hal : al.length ≤ 1125899906842624) : Calls Tryz.prog 78 #[.agg #[.int .i64 s, .slice A rl.length c], .string fn, .slice Aa al.length ca] w fun e w' => e = .returned (.int .i64 (pickV s rl fn al)) ∧ Below w.heap.size w w' := by
  have HPV0 := Lib.hid (show pickV s rl fn al = pickR s (rl.getD (Int.tmod (bits BinOp.xor IntKind.u64 (hashA al (hashB fn al.length fn.size) al.length) (hashA al (hashB fn al.length fn.size) al.length / 128)) (rl.length : Int)).toNat 0) fn from rfl)
  generalize pickV s rl fn al = res at HPV0 ⊢
  have HB := Lib.hid (Below.alloc (Below.refl _ w) (Nat.le_refl _) (.cells #[.int .i64 s, .slice A rl.length c] 36))
  have BK := Lib.hid (Blk.new w 36 [.int .i64 s, .slice A rl.length c])
  simp only [List.toArray] at BK
  have HN := Lib.hid (hN.below HB.out)
  have HA := Lib.hid (ha.below HB.out)
  clear hN ha
  go_enter Tryz.func78, Tryz.ntmps78
  go_upto_region 1 with (fail)
  generalize w.alloc (.cells #[.int .i64 s, .slice A rl.length c] 36) = W at *
  have z0 := BK.out.cell 0
  have z1 := BK.out.cell 1
  simp only [List.getElem?_cons_zero, List.getElem?_cons_succ] at z0 z1
  go_wp2_with fail
  go_loopw [7, 8] (fun vh vi wl => ∃ i : Nat, i ≤ fn.size ∧ vi = .int .i64 i ∧ vh = .int .u64 (hashB fn al.length i) ∧ wl = W) (fun _ vi _ => fn.size - (intOf vi).toNat)
  case atStart => exact ⟨0, by omega, rfl, rfl, rfl⟩
  case round =>
    obtain ⟨i, hi, rfl, rfl, rfl⟩ := hrel
    by_cases hlt : i < fn.size
    · have HLT := Lib.hid hlt
      have HH := Lib.hid (show hashB fn al.length (i + 1) = stepB (hashB fn al.length i) fn[i].toNat by rw [hashB, getElem!_pos fn i hlt]; rfl)
      unfold stepB at HH
      have hIL : (i : Int) ≤ 1152921504606846976 := by omega
      go_wp2_with fail
      exact ⟨⟨i + 1, HLT.out, by go_num, by rw [HH.out]; rfl, trivial⟩, by have := HLT.out; simp [intOf]; omega⟩
    · obtain rfl : i = fn.size := by omega
      have d1 : decide (fn.size < fn.size) = false := by simp
      have HS0 := Lib.hid hs
      have HR0 := Lib.hid hr
      clear hs hr
      generalize hashB fn al.length fn.size = h1 at *
      go_wp2_with fail
      go_loopw [7, 9] (fun vh vi wl => ∃ i : Nat, i ≤ al.length ∧ vi = .int .i64 i ∧ vh = .int .u64 (hashA al h1 i) ∧ wl = wr) (fun _ vi _ => al.length - (intOf vi).toNat)
      case atStart => exact ⟨0, by omega, rfl, rfl, rfl⟩
      case round =>
        obtain ⟨i, hi, rfl, rfl, rfl⟩ := hrel
        by_cases hlt : i < al.length
        · have HLT := Lib.hid hlt
          have HH := Lib.hid (show hashA al h1 (i + 1) = stepA (hashA al h1 i) al[i] by rw [hashA, List.getD_eq_getElem?_getD, List.getElem?_eq_getElem hlt, Option.getD_some]; rfl)
          unfold stepA at HH
          have hIL : (i : Int) ≤ 1152921504606846976 := by omega
          obtain ⟨g, o, rfl, hc⟩ := HA.out (by omega)
          have p0 := hc i hlt
          clear hc
          go_wp2_with fail
          exact ⟨⟨i + 1, HLT.out, by go_num, by rw [HH.out]; rfl, trivial⟩, by have := HLT.out; simp [intOf]; omega⟩
        · obtain rfl : i = al.length := by omega
          have d2 : decide (al.length < al.length) = false := by simp
          generalize hashA al h1 al.length = h2 at *
          go_upto_region 11 with (fail)
          generalize hq3 : bits BinOp.xor IntKind.u64 h2 (h2 / 128) = h3 at HPV0 ⊢
          have h30 : 0 ≤ h3 := by rw [← hq3]; exact bits_nonneg _ _
          clear hq3
          have hj : Int.tmod h3 (rl.length : Int) = ((Int.tmod h3 (rl.length : Int)).toNat : Int) := (Int.toNat_of_nonneg (Int.tmod_nonneg _ h30)).symm
          have hjl : (Int.tmod h3 (rl.length : Int)).toNat < rl.length := by have h1 := Int.tmod_lt_of_pos h3 (show (0 : Int) < (rl.length : Int) by have := HR0.out.1; omega); have h2 := Int.tmod_nonneg (rl.length : Int) h30; omega
          generalize (Int.tmod h3 (rl.length : Int)).toNat = j at *
          obtain ⟨g, o, rfl, hc⟩ := HN.out HR0.out.1
          have p0 := hc j hjl
          have HPV : Hid (res = pickR s rl[j] fn) := Lib.hid (by rw [HPV0.out, List.getD_eq_getElem?_getD, List.getElem?_eq_getElem hjl, Option.getD_some])
          clear hc
          have HQ0 := Lib.hid (bel_drew1 wr)
          have hn0 : rl ≠ [] := fun e => by rw [e] at hjl; simp at hjl
          have hn1 : rl.length ≠ 0 := by omega
          have hn2 : (rl.length : Int) ≠ 0 := by omega
          have hn3 : rl.length ≤ 64 := HR0.out.2
          have hn4 : IntKind.u64.wrap (rl.length : Int) = (rl.length : Int) := by unfold IntKind.wrap; simp [IntKind.signed, IntKind.bits]; omega
          have hj0 : (0 : Int) ≤ (j : Int) := by omega
          have hj1 : (j : Int) < (rl.length : Int) := by omega
          (first | (go_region_held3 (fun w2 => w2.cell? ⟨w.heap.size, 0, none⟩ = some (.int .i64 s) ∧ w2.cell? ⟨w.heap.size, 1, none⟩ = some (.slice (some ⟨g, o, none⟩) rl.length c) ∧ w2.cell? ⟨g, o + j, none⟩ = some (.int .i64 rl[j])) (go_keep) (first | fail)) | fail "held")
          all_goals
            have z0 := keepc HQ0.out z0
            have z1 := keepc HQ0.out z1
            have HB1 := Lib.hid (bel_go HB.out HQ0.out)
            have HN1 := Lib.hid (thing_any s)
            generalize hnn : rl[j] = n at *
            have HRR : Hid (res = pickR s n fn) := Lib.hid HPV.out
            clear hnn
            generalize wr.drew = w3 at *
            by_cases h1 : fn.toList = [36, 116, 114, 117, 101]
            · have HR := Lib.hid (HRR.out.trans (show pickR s n fn = 1001 by unfold pickR; rw [if_pos h1]))
              go_wp2_with fail
              go_ret
              exact ⟨ret_int (by rw [HR.out]), HB1.out⟩
            have h1' : (fn.toList == [36, 116, 114, 117, 101]) = false := by simpa using h1
            by_cases h2 : 0 < fn.size
            rotate_left
            · have HR := Lib.hid (HRR.out.trans (show pickR s n fn = thingI s n by unfold pickR; rw [if_neg h1, dif_neg h2]))
              go_wp2_with fail
              refine (HN1.out n _ _ _ w3 HS0.out).mono ?_
              rintro e w4 ⟨rfl, hb4⟩
              have HB4 := Lib.hid (bel_go HB1.out hb4)
              clear hb4
              go_wp2_with fail
              go_ret
              exact ⟨ret_int (by rw [HR.out]), HB4.out⟩
            by_cases h3 : (fn[0].toNat : Int) = 64
            rotate_left
            · have HR := Lib.hid (HRR.out.trans (show pickR s n fn = thingI s n by unfold pickR; rw [if_neg h1, dif_pos h2, if_neg h3]))
              go_wp2_with fail
              refine (HN1.out n _ _ _ w3 HS0.out).mono ?_
              rintro e w4 ⟨rfl, hb4⟩
              have HB4 := Lib.hid (bel_go HB1.out hb4)
              clear hb4
              go_wp2_with fail
              go_ret
              exact ⟨ret_int (by rw [HR.out]), HB4.out⟩
            by_cases h4 : n.tmod 2 = 0
            · have HR := Lib.hid (HRR.out.trans (show pickR s n fn = 1000 by unfold pickR; rw [if_neg h1, dif_pos h2, if_pos h3, if_neg (by simpa using h4)]))
              have h4' : (n.tmod 2 != 0) = false := by simpa using h4
              go_wp2_with fail
              go_ret
              exact ⟨ret_int (by rw [HR.out]), HB1.out⟩
            · have HR := Lib.hid (HRR.out.trans (show pickR s n fn = 1001 by unfold pickR; rw [if_neg h1, dif_pos h2, if_pos h3, if_pos (by simpa using h4)]))
              have h4' : (n.tmod 2 != 0) = true := by simpa using h4
              go_wp2_with fail
              go_ret
              exact ⟨ret_int (by rw [HR.out]), HB1.out⟩
end Go.Proofs.YtndjjnnljihmnaaGreat
