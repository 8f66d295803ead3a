/- Contract of package text's Valid. -/
import Derived.Test.YtelhkbanohhjhaaDoorTxtC
import Derived.WalkKit
import Derived.WalkSpells
import Derived.RegionTactic
import Derived.LoopTactic
import Derived.Deep.QuietTactic
import Derived.BigQuiet
import Derived.Lib.Hide
namespace Go.Proofs.YtelhkbanohhjhaaDoor.Tx
open Go.RowKit Go.Proofs.YtelhkbanohhjhaaDoorW.PrintWords
set_option linter.unusedVariables false
set_option linter.unusedSimpArgs false
theorem validF_fuel (l : List Int) : ∀ (d d' i : Nat), l.length ≤ i + d → l.length ≤ i + d' → validF d l i = validF d' l i
  | 0, 0, i, _, _ => rfl
  | 0, d' + 1, i, h, _ => by rw [validF, validF, if_neg (by omega)]
  | d + 1, 0, i, _, h => by rw [validF, validF, if_neg (by omega)]
  | d + 1, d' + 1, i, h, h' => by
    rw [validF, validF]
    by_cases hi : i < l.length
    · rw [if_pos hi, if_pos hi]
      by_cases hz : charN l i = 0
      · rw [if_pos hz, if_pos hz]
      · rw [if_neg hz, if_neg hz]
        exact validF_fuel l d d' _ (by omega) (by omega)
    · rw [if_neg hi, if_neg hi]
theorem valid_end (l : List Int) (i : Nat) (h : l.length ≤ i) : validF l.length l i = true := by
  rw [validF_fuel l l.length 0 i (by omega) (by omega)]; rfl
theorem valid_step (l : List Int) (i : Nat) (h : i < l.length) : validF l.length l i = if charN l i = 0 then false else validF l.length l (i + charN l i) := by
  rw [validF_fuel l l.length (l.length + 1) i (by omega) (by omega), validF, if_pos h]
theorem w_drawn {w w1 w2 : World} (h : Drawn0 w w1) (h' : Drawn0 w1 w2) : Drawn0 w w2 := by
  obtain ⟨n, rfl⟩ := h
  obtain ⟨m, rfl⟩ := h'
  exact ⟨n + m, World.drewN_drewN ..⟩
theorem c_drawn {w w1 : World} {A : Option Addr} {n : Nat} {l : List Int} (h : Kd.C (Kd.int .u8) w A n l) (hd : Drawn0 w w1) : Kd.C (Kd.int .u8) w1 A n l := by
  obtain ⟨m, rfl⟩ := hd
  exact Kd.C_drewN h m
theorem tail_any (A : Option Addr) (c : Nat) (l : List Int) (n : Int) (w : World) (hc : l.length ≤ c) (hr : Kd.C (Kd.int .u8) w A l.length l) :
    Calls Tryd.prog 22 #[.slice A l.length c, .int .i64 1, .int .i64 n] w fun e w' => e = .returned (.bool (tailB l n)) ∧ Drawn0 w w' :=
  Ptail.text_tail.calls 1 A c l 1 n _ w hr hc (p_tail l n)
theorem next_C {w2 : World} {ad : Addr} {c2 i n : Nat} {l : List Int} (h : Kd.C (Kd.int .u8) w2 (some ad) (l.drop i).length (l.drop i)) (hm : n + 1 ≤ l.length - i) (hc : l.length - i ≤ c2) :
    Kd.C (Kd.int .u8) w2 (if c2 = 1 + n then some ad else some (ad.add (1 + n))) (l.drop (i + (n + 1))).length (l.drop (i + (n + 1))) := by
  have h1 := Kd.C_drop h (m := n + 1) (by rw [List.length_drop]; exact hm) (by rw [List.length_drop]; exact hc)
  rw [List.drop_drop] at h1
  have e : (if c2 = 1 + n then some ad else some (ad.add (1 + n))) = (if c2 = n + 1 then some ad else (some ad).map (fun x => x.add ((n + 1) * (Kd.int .u8).sz))) := by
    rw [Nat.add_comm 1 n, show (n + 1) * (Kd.int IntKind.u8).sz = n + 1 from Nat.mul_one _]; rfl
  rw [e]; exact h1
theorem step_plain (L : List Int) (n : Nat) (ht : tailB L (restI (rd L 0)) = true) (hn : restI (rd L 0) = n) (q1 : rd L 0 ≠ 224) (q2 : rd L 0 ≠ 237) (q3 : rd L 0 ≠ 240) (q4 : rd L 0 ≠ 244) : stepB L = n := by
  unfold stepB
  rw [show L.getD 0 0 = rd L 0 from rfl, if_neg (by rw [ht, hn]; simp), if_neg q1, if_neg q2, if_neg q3, if_neg q4, hn]
theorem bound_t (n : Int) (w : World) : Calls Tryd.prog 23 #[.int .i64 n, .bool true] w fun e w' => e = .returned (.int .i64 n) ∧ Drawn0 w w' := Pbound.text_bound.calls n true n w (p_bound n true)
theorem bound_f (n : Int) (w : World) : Calls Tryd.prog 23 #[.int .i64 n, .bool false] w fun e w' => e = .returned (.int .i64 (-1)) ∧ Drawn0 w w' := Pbound.text_bound.calls n false (-1) w (p_bound n false)
theorem step_q (L : List Int) (n : Nat) (ht : tailB L (restI (rd L 0)) = true) (hn : restI (rd L 0) = n) :
    (rd L 0 = 224 → 1 ≤ n ∧ stepB L = if 160 ≤ rd L 1 then (n : Int) else -1) ∧ (rd L 0 = 237 → 1 ≤ n ∧ stepB L = if rd L 1 ≤ 159 then (n : Int) else -1) ∧
    (rd L 0 = 240 → 1 ≤ n ∧ stepB L = if 144 ≤ rd L 1 then (n : Int) else -1) ∧ (rd L 0 = 244 → 1 ≤ n ∧ stepB L = if rd L 1 ≤ 143 then (n : Int) else -1) := by
  have e0 : L.getD 0 0 = rd L 0 := rfl
  have e1 : L.getD 1 0 = rd L 1 := rfl
  unfold stepB
  rw [e0, e1, if_neg (by rw [ht, hn]; simp), hn]
  refine ⟨fun h => ⟨?_, ?_⟩, fun h => ⟨?_, ?_⟩, fun h => ⟨?_, ?_⟩, fun h => ⟨?_, ?_⟩⟩
  all_goals first
    | (rw [h] at hn; simp [restI] at hn; omega)
    | (rw [h]; simp)
theorem rest_le (c : Int) : restI c ≤ 3 := by unfold restI; repeat' split
                                              all_goals omega
theorem tail_len (l : List Int) (n : Nat) (h : tailB l n = true) (h3 : (n : Int) ≤ 3) (h0 : 0 < l.length) : n + 1 ≤ l.length := by
  unfold tailB at h
  have i1 := inB_iff l 1 128 191
  have i2 := inB_iff l 2 128 191
  have i3 := inB_iff l 3 128 191
  split at h
  · simp only [Bool.and_eq_true] at h; have := (i3.1 h.1).1; omega
  · split at h
    · simp only [Bool.and_eq_true] at h; have := (i2.1 h.1).1; omega
    · split at h
      · have := (i1.1 h).1; omega
      · simp at h; omega
theorem valid_fail (l : List Int) (i : Nat) (h : i < l.length) (hs : stepB (l.drop i) = -1) : validF l.length l i = false := by
  have h1 := step_law (l.drop i)
  rw [charN_drop, hs] at h1
  rw [valid_step l i h, if_pos (by omega)]
theorem valid_next (l : List Int) (i : Nat) (h : i < l.length) (n : Nat) (hs : stepB (l.drop i) = n) : validF l.length l i = validF l.length l (i + (n + 1)) := by
  have h1 := step_law (l.drop i)
  rw [charN_drop, hs] at h1
  rw [valid_step l i h, if_neg (by omega), show charN l i = n + 1 by omega]
set_option maxRecDepth 100000 in
set_option maxHeartbeats 1600000 in
theorem valid_any (A : Option Addr) (c : Nat) (l : List Int) (w : World) (hl : l.length ≤ 1048576) (hc : l.length ≤ c) (hr : Kd.C (Kd.int .u8) w A l.length l) :
    Calls Tryd.prog 8 #[.slice A l.length c] w fun e w' => e = .returned (.bool (validB l)) ∧ Drawn0 w w' := by
  have HR := Lib.hid hr
  clear hr
  go_enter Tryd.func8, Tryd.ntmps8
  go_wp2_with fail
  go_loopw [0] (fun v wl => ∃ (i : Nat) (A2 : Option Addr) (c2 : Nat), i ≤ l.length ∧ v = .slice A2 (l.length - i) c2 ∧ l.length - i ≤ c2 ∧ Kd.C (Kd.int .u8) wl A2 (l.drop i).length (l.drop i) ∧ validB l = validF l.length l i ∧ Drawn0 w wl) (fun v _ => match v with | .slice _ n _ => n | _ => 0)
  case atStart => exact ⟨0, A, c, Nat.zero_le _, rfl, hc, HR.out, rfl, Drawn0.refl _⟩
  case round =>
    obtain ⟨i, A2, c2, hi, rfl, hc2, hr2, hv, hd⟩ := hrel
    have HV := Lib.hid hv
    have HD := Lib.hid hd
    have HR2 := Lib.hid hr2
    clear hv hd hr2
    by_cases hlt : i < l.length
    · have hpos : 0 < l.length - i := by omega
      have hpd : ((0 : Int) < ((l.drop i).length : Nat)) := by rw [List.length_drop]; omega
      obtain ⟨ad, rfl, hcell⟩ := Kd.at_int HR2.out 0 (by omega) hpd
      have hcell0 : wr.cell? ad = some (.int .u8 (rd (l.drop i) 0)) := by simpa [Addr.add] using hcell
      have HB1 := Lib.hid (Prest.text_rest.calls 2 (rd (l.drop i) 0) _ wr (p_rest _))
      clear hcell
      go_wp2_with fail
      refine HB1.out.mono ?_
      rintro e w1 ⟨rfl, hd1⟩
      have HD1 := Lib.hid hd1
      clear hd1
      by_cases hneg : restI (rd (l.drop i) 0) < 0
      · have d1 : decide (restI (rd (l.drop i) 0) < 0) = true := decide_eq_true hneg
        go_wp2_with fail
        go_ret
        exact ⟨by rw [HV.out, valid_fail l i hlt (by unfold stepB; rw [if_pos (.inl (show restI ((l.drop i).getD 0 0) < 0 from hneg))])]; rfl, w_drawn HD.out HD1.out⟩
      · have d1 : decide (restI (rd (l.drop i) 0) < 0) = false := decide_eq_false hneg
        have HB2 := Lib.hid (tail_any (some ad) c2 (l.drop i) (restI (rd (l.drop i) 0)) w1 (by rw [List.length_drop]; exact hc2) (c_drawn HR2.out HD1.out))
        rw [List.length_drop] at HB2
        go_wp2_with fail
        refine HB2.out.mono ?_
        rintro e w2 ⟨rfl, hd2⟩
        have HD2 := Lib.hid (w_drawn HD1.out hd2)
        have HR3 := Lib.hid (c_drawn HR2.out HD2.out)
        clear hd2
        cases ht : tailB (l.drop i) (restI (rd (l.drop i) 0))
        · have HT := Lib.hid ht
          clear ht
          go_wp2_with fail
          go_ret
          exact ⟨by rw [HV.out, valid_fail l i hlt (by unfold stepB; rw [if_pos (.inr (show tailB (l.drop i) (restI ((l.drop i).getD 0 0)) = false from HT.out))])]; rfl, w_drawn HD.out HD2.out⟩
        · have HT := Lib.hid ht
          clear ht
          have hcell2 : w2.cell? ad = some (.int .u8 (rd (l.drop i) 0)) := by obtain ⟨m, rfl⟩ := HD2.out; exact hcell0
          obtain ⟨n, hn⟩ : ∃ n : Nat, restI (rd (l.drop i) 0) = n := ⟨(restI (rd (l.drop i) 0)).toNat, by omega⟩
          have HN := Lib.hid hn
          have hnl : n + 1 ≤ l.length - i := by
            rw [← List.length_drop]; exact tail_len (l.drop i) n (by rw [← hn]; exact HT.out) (by rw [← hn]; exact rest_le _) (by rw [List.length_drop]; omega)
          have HSQ := Lib.hid (step_q (l.drop i) n HT.out hn)
          have HSP := Lib.hid (step_plain (l.drop i) n HT.out hn)
          rw [hn] at *
          clear hn hneg d1
          by_cases q1 : rd (l.drop i) 0 = 224
          · obtain ⟨h1n, hst⟩ := HSQ.out.1 q1
            have HST := Lib.hid hst
            clear hst
            have hp1 : (1 : Int) < ((l.drop i).length : Nat) := by rw [List.length_drop]; omega
            obtain ⟨ad2, had, hy⟩ := Kd.at_int HR3.out 1 (by omega) hp1
            cases had
            have hy1 : w2.cell? ⟨ad.block, ad.off + 1, none⟩ = some (.int .u8 (rd (l.drop i) 1)) := hy
            clear hy
            have f1 : (rd (l.drop i) 0 == 224) = true := beq_iff_eq.mpr q1
            by_cases z : 160 ≤ rd (l.drop i) 1
            · have z1 : decide (160 ≤ rd (l.drop i) 1) = true := decide_eq_true z
              have HQ := Lib.hid (show stepB (l.drop i) = n by rw [HST.out, if_pos z])
              go_wp2_with fail
              refine (bound_t _ _).mono ?_
              rintro e w3 ⟨rfl, hd3⟩
              have HD3 := Lib.hid (w_drawn HD2.out hd3)
              have HR4 := Lib.hid (c_drawn HR2.out HD3.out)
              clear hd3
              go_wp2_with fail
              go_roundw
              case rel => exact ⟨i + (n + 1), _, _, by omega, by rw [show l.length - i - (1 + n) = l.length - (i + (n + 1)) by omega], by omega, next_C HR4.out hnl hc2, by rw [HV.out, valid_next l i hlt n HQ.out], w_drawn HD.out HD3.out⟩
              case measure => show l.length - i - (1 + n) < l.length - i; omega
            · have z1 : decide (160 ≤ rd (l.drop i) 1) = false := decide_eq_false z
              have HQ := Lib.hid (show stepB (l.drop i) = -1 by rw [HST.out, if_neg z])
              go_wp2_with fail
              refine (bound_f _ _).mono ?_
              rintro e w3 ⟨rfl, hd3⟩
              have HD3 := Lib.hid (w_drawn HD2.out hd3)
              clear hd3
              go_wp2_with fail
              go_ret
              exact ⟨by rw [HV.out, valid_fail l i hlt HQ.out]; rfl, w_drawn HD.out HD3.out⟩
          by_cases q2 : rd (l.drop i) 0 = 237
          · obtain ⟨h1n, hst⟩ := HSQ.out.2.1 q2
            have HST := Lib.hid hst
            clear hst
            have hp1 : (1 : Int) < ((l.drop i).length : Nat) := by rw [List.length_drop]; omega
            obtain ⟨ad2, had, hy⟩ := Kd.at_int HR3.out 1 (by omega) hp1
            cases had
            have hy1 : w2.cell? ⟨ad.block, ad.off + 1, none⟩ = some (.int .u8 (rd (l.drop i) 1)) := hy
            clear hy
            have f1 : (rd (l.drop i) 0 == 224) = false := beq_eq_false_iff_ne.mpr q1
            have f2 : (rd (l.drop i) 0 == 237) = true := beq_iff_eq.mpr q2
            by_cases z : rd (l.drop i) 1 ≤ 159
            · have z1 : decide (rd (l.drop i) 1 ≤ 159) = true := decide_eq_true z
              have HQ := Lib.hid (show stepB (l.drop i) = n by rw [HST.out, if_pos z])
              go_wp2_with fail
              refine (bound_t _ _).mono ?_
              rintro e w3 ⟨rfl, hd3⟩
              have HD3 := Lib.hid (w_drawn HD2.out hd3)
              have HR4 := Lib.hid (c_drawn HR2.out HD3.out)
              clear hd3
              go_wp2_with fail
              go_roundw
              case rel => exact ⟨i + (n + 1), _, _, by omega, by rw [show l.length - i - (1 + n) = l.length - (i + (n + 1)) by omega], by omega, next_C HR4.out hnl hc2, by rw [HV.out, valid_next l i hlt n HQ.out], w_drawn HD.out HD3.out⟩
              case measure => show l.length - i - (1 + n) < l.length - i; omega
            · have z1 : decide (rd (l.drop i) 1 ≤ 159) = false := decide_eq_false z
              have HQ := Lib.hid (show stepB (l.drop i) = -1 by rw [HST.out, if_neg z])
              go_wp2_with fail
              refine (bound_f _ _).mono ?_
              rintro e w3 ⟨rfl, hd3⟩
              have HD3 := Lib.hid (w_drawn HD2.out hd3)
              clear hd3
              go_wp2_with fail
              go_ret
              exact ⟨by rw [HV.out, valid_fail l i hlt HQ.out]; rfl, w_drawn HD.out HD3.out⟩
          by_cases q3 : rd (l.drop i) 0 = 240
          · obtain ⟨h1n, hst⟩ := HSQ.out.2.2.1 q3
            have HST := Lib.hid hst
            clear hst
            have hp1 : (1 : Int) < ((l.drop i).length : Nat) := by rw [List.length_drop]; omega
            obtain ⟨ad2, had, hy⟩ := Kd.at_int HR3.out 1 (by omega) hp1
            cases had
            have hy1 : w2.cell? ⟨ad.block, ad.off + 1, none⟩ = some (.int .u8 (rd (l.drop i) 1)) := hy
            clear hy
            have f1 : (rd (l.drop i) 0 == 224) = false := beq_eq_false_iff_ne.mpr q1
            have f2 : (rd (l.drop i) 0 == 237) = false := beq_eq_false_iff_ne.mpr q2
            have f3 : (rd (l.drop i) 0 == 240) = true := beq_iff_eq.mpr q3
            by_cases z : 144 ≤ rd (l.drop i) 1
            · have z1 : decide (144 ≤ rd (l.drop i) 1) = true := decide_eq_true z
              have HQ := Lib.hid (show stepB (l.drop i) = n by rw [HST.out, if_pos z])
              go_wp2_with fail
              refine (bound_t _ _).mono ?_
              rintro e w3 ⟨rfl, hd3⟩
              have HD3 := Lib.hid (w_drawn HD2.out hd3)
              have HR4 := Lib.hid (c_drawn HR2.out HD3.out)
              clear hd3
              go_wp2_with fail
              go_roundw
              case rel => exact ⟨i + (n + 1), _, _, by omega, by rw [show l.length - i - (1 + n) = l.length - (i + (n + 1)) by omega], by omega, next_C HR4.out hnl hc2, by rw [HV.out, valid_next l i hlt n HQ.out], w_drawn HD.out HD3.out⟩
              case measure => show l.length - i - (1 + n) < l.length - i; omega
            · have z1 : decide (144 ≤ rd (l.drop i) 1) = false := decide_eq_false z
              have HQ := Lib.hid (show stepB (l.drop i) = -1 by rw [HST.out, if_neg z])
              go_wp2_with fail
              refine (bound_f _ _).mono ?_
              rintro e w3 ⟨rfl, hd3⟩
              have HD3 := Lib.hid (w_drawn HD2.out hd3)
              clear hd3
              go_wp2_with fail
              go_ret
              exact ⟨by rw [HV.out, valid_fail l i hlt HQ.out]; rfl, w_drawn HD.out HD3.out⟩
          by_cases q4 : rd (l.drop i) 0 = 244
          · obtain ⟨h1n, hst⟩ := HSQ.out.2.2.2 q4
            have HST := Lib.hid hst
            clear hst
            have hp1 : (1 : Int) < ((l.drop i).length : Nat) := by rw [List.length_drop]; omega
            obtain ⟨ad2, had, hy⟩ := Kd.at_int HR3.out 1 (by omega) hp1
            cases had
            have hy1 : w2.cell? ⟨ad.block, ad.off + 1, none⟩ = some (.int .u8 (rd (l.drop i) 1)) := hy
            clear hy
            have f1 : (rd (l.drop i) 0 == 224) = false := beq_eq_false_iff_ne.mpr q1
            have f2 : (rd (l.drop i) 0 == 237) = false := beq_eq_false_iff_ne.mpr q2
            have f3 : (rd (l.drop i) 0 == 240) = false := beq_eq_false_iff_ne.mpr q3
            have f4 : (rd (l.drop i) 0 == 244) = true := beq_iff_eq.mpr q4
            by_cases z : rd (l.drop i) 1 ≤ 143
            · have z1 : decide (rd (l.drop i) 1 ≤ 143) = true := decide_eq_true z
              have HQ := Lib.hid (show stepB (l.drop i) = n by rw [HST.out, if_pos z])
              go_wp2_with fail
              refine (bound_t _ _).mono ?_
              rintro e w3 ⟨rfl, hd3⟩
              have HD3 := Lib.hid (w_drawn HD2.out hd3)
              have HR4 := Lib.hid (c_drawn HR2.out HD3.out)
              clear hd3
              go_wp2_with fail
              go_roundw
              case rel => exact ⟨i + (n + 1), _, _, by omega, by rw [show l.length - i - (1 + n) = l.length - (i + (n + 1)) by omega], by omega, next_C HR4.out hnl hc2, by rw [HV.out, valid_next l i hlt n HQ.out], w_drawn HD.out HD3.out⟩
              case measure => show l.length - i - (1 + n) < l.length - i; omega
            · have z1 : decide (rd (l.drop i) 1 ≤ 143) = false := decide_eq_false z
              have HQ := Lib.hid (show stepB (l.drop i) = -1 by rw [HST.out, if_neg z])
              go_wp2_with fail
              refine (bound_f _ _).mono ?_
              rintro e w3 ⟨rfl, hd3⟩
              have HD3 := Lib.hid (w_drawn HD2.out hd3)
              clear hd3
              go_wp2_with fail
              go_ret
              exact ⟨by rw [HV.out, valid_fail l i hlt HQ.out]; rfl, w_drawn HD.out HD3.out⟩
          have f1 : (rd (l.drop i) 0 == 224) = false := beq_eq_false_iff_ne.mpr q1
          have f2 : (rd (l.drop i) 0 == 237) = false := beq_eq_false_iff_ne.mpr q2
          have f3 : (rd (l.drop i) 0 == 240) = false := beq_eq_false_iff_ne.mpr q3
          have f4 : (rd (l.drop i) 0 == 244) = false := beq_eq_false_iff_ne.mpr q4
          have HQ := Lib.hid (HSP.out q1 q2 q3 q4)
          go_wp2_with fail
          go_roundw
          case rel => exact ⟨i + (n + 1), _, _, by omega, by rw [show l.length - i - (1 + n) = l.length - (i + (n + 1)) by omega], by omega, next_C HR3.out hnl hc2, by rw [HV.out, valid_next l i hlt n HQ.out], w_drawn HD.out HD2.out⟩
          case measure => show l.length - i - (1 + n) < l.length - i; omega
    · have h0 : l.length - i = 0 := by omega
      have HF := Lib.hid (show validB l = true by rw [HV.out]; exact valid_end l i (by omega))
      go_wp2_with fail
      go_ret
      exact ⟨by rw [HF.out]; rfl, HD.out⟩
end Go.Proofs.YtelhkbanohhjhaaDoor.Tx
