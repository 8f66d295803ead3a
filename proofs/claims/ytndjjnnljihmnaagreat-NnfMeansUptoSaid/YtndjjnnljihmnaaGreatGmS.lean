/- The reference's worlds: a term's value. -/
import Derived.Test.YtndjjnnljihmnaaGreatGmR
namespace Go.Proofs.YtndjjnnljihmnaaGreat
open Go.RowKit
set_option linter.unusedVariables false
set_option linter.unusedSimpArgs false
theorem infoI : (Tryz.prog.info? 3).map (fun i => (i.zero, i.size, i.bytes)) = some (some (.int .i64 0), 1, 8) := by kernel_rfl
def ints (l : List Int) : List Value := l.map fun n => .int .i64 n
theorem ints_app (l : List Int) (n : Int) : ints (l ++ [n]) = ints l ++ [.int .i64 n] := by simp [ints]
theorem row_nts {W : World} {base : Nat} {v : Value} {xs : List Int} (h : W.ownsRow base 3 1 v xs.length (ints xs)) : ∃ A c, v = .slice A xs.length c ∧ Nts W A xs := by
  obtain ⟨A, c, rfl⟩ := row_slice h
  refine ⟨A, c, rfl, fun h0 => ?_⟩
  obtain ⟨g, c', e, _, _, hc⟩ := row_cells h h0
  injection e with e1 _ e2
  subst e1
  refine ⟨g, 0, rfl, fun j hj => ?_⟩
  rw [Nat.zero_add]
  exact hc j _ (by simp [ints, hj])
/-- A variable's value. -/
def al0 (s : Int) (al : List Int) (i : Nat) : Int := if h : i < al.length then thingI s al[i] else 0
def vars (n : Nat) : List Tm := (List.range n).map fun (j : Nat) => Tm.mk (j : Int) ⟨#[]⟩ []
/-- What a function is of things. -/
def pkW (s : Int) (rl : List Int) (f : ByteArray) (al : List Int) : Int := if f = ⟨#[]⟩ then al0 s al 0 else pickV s rl f (al.map (thingI s))
theorem ba_ne {f : ByteArray} (h : f ≠ ⟨#[]⟩) : f.toList ≠ [] ∧ f.size ≠ 0 := by
  have h0 : f.size ≠ 0 := fun e => h (by
    obtain ⟨⟨l⟩⟩ := f
    have : l.length = 0 := e
    rw [List.eq_nil_of_length_eq_zero this])
  refine ⟨fun e => h0 ?_, h0⟩
  rw [Lib.toList_data] at e
  have : f.size = f.data.toList.length := rfl
  rw [this, e]; rfl
theorem valueV (s : Int) (A : Option Addr) (m c : Nat) (i : Nat) (B : Option Addr) (cB : Nat) (al : List Int) (A' : Option Addr) (n' c' : Nat) (w : World) (hs : 1 ≤ s ∧ s ≤ 3) (hi : i ≤ 1152921504606846976) (ha : Nts w B al) (hal : al.length ≤ 1152921504606846976) : Calls Tryz.prog 57 #[.agg #[.int .i64 s, .slice A m c], .agg #[.int .i64 i, .string ⟨#[]⟩, .slice A' n' c'], .slice B al.length cB] w fun e w' => e = .returned (.int .i64 (al0 s al i)) ∧ Below w.heap.size w w' := by
  have HV : Hid (al0 s al i = if h : i < al.length then thingI s al[i] else 0) := Lib.hid rfl
  generalize al0 s al i = res at *
  generalize hWW : (w.alloc (.cells #[.int .i64 s, .slice A m c] 36)).alloc (.cells #[.int .i64 i, .string ⟨#[]⟩, .slice A' n' c'] 24) = W
  have HB0 : Hid (Below w.heap.size w W) := Lib.hid (by rw [← hWW]; exact bel_two)
  have B0 : Hid (Blk W w.heap.size 36 [.int .i64 s, .slice A m c]) := Lib.hid (by rw [← hWW]; exact (Blk.new w 36 [.int .i64 s, .slice A m c]).alloc _)
  have B1 : Hid (Blk W (w.heap.size + 1) 24 [.int .i64 i, .string ⟨#[]⟩, .slice A' n' c']) := Lib.hid (by rw [← hWW]; exact Blk.new' _ (w.heap.size + 1) 24 [.int .i64 i, .string ⟨#[]⟩, .slice A' n' c'] (by simp))
  have HZ : Hid (W.heap.size = w.heap.size + 1 + 1) := Lib.hid (by rw [← hWW]; simp)
  have HWW := Lib.hid hWW
  clear hWW
  have HA := Lib.hid (ha.below HB0.out)
  have HS := Lib.hid hs
  clear ha hs
  by_cases hlt : i < al.length
  · obtain ⟨g, o, rfl, hc⟩ := HA.out (by omega)
    have p0 := hc i hlt
    have HR : Hid (res = thingI s al[i]) := Lib.hid (by rw [HV.out, dif_pos hlt])
    clear hc
    generalize al[i] = n at *
    go_enter Tryz.func57, Tryz.ntmps57
    go_upto_region 1 with (fail)
    rw [HWW.out]
    have z0 := B0.out.cell 0
    have z1 := B0.out.cell 1
    have y0 := B1.out.cell 0
    have y1 := B1.out.cell 1
    have y2 := B1.out.cell 2
    simp only [List.getElem?_cons_zero, List.getElem?_cons_succ] at z0 z1 y0 y1 y2
    have hi0 : (0 : Int) ≤ (i : Int) := by omega
    have hi1 : (i : Int) < (al.length : Int) := by omega
    go_upto_region 3 with (fail)
    have HQ0 := Lib.hid (bel_drew1 W)
    have HT := Lib.hid (thing_any s n A m c W.drew HS.out)
    (first | (go_region_held3 (fun w' => w'.cell? ⟨w.heap.size, 0, none⟩ = some (.int .i64 s) ∧ w'.cell? ⟨w.heap.size, 1, none⟩ = some (.slice A m c) ∧ w'.cell? ⟨w.heap.size + 1, 0, none⟩ = some (.int .i64 i) ∧ w'.cell? ⟨g, o + i, none⟩ = some (.int .i64 n)) (go_keep) (first | (go_at_call 77; refine HT.out.mono ?_; rintro e w5 ⟨rfl, hb9⟩; have hq5 := bel_go HQ0.out hb9; have HQ1 := Lib.hid (bel_go HB0.out hq5); have z0 := keepc hq5 z0; have z1 := keepc hq5 z1; have y0 := keepc hq5 y0; have p0 := keepc hq5 p0; clear hb9 hq5))) | fail "held")
    all_goals
      go_wp2_with fail
      go_ret
      exact ⟨ret_int (by rw [HR.out]), HQ1.out⟩
  · have HR : Hid (res = 0) := Lib.hid (by rw [HV.out, dif_neg hlt])
    have hi0 : (0 : Int) ≤ (i : Int) := by omega
    have hi1 : ¬ (i : Int) < (al.length : Int) := by omega
    go_enter Tryz.func57, Tryz.ntmps57
    go_upto_region 1 with (fail)
    rw [HWW.out]
    have z0 := B0.out.cell 0
    have z1 := B0.out.cell 1
    have y0 := B1.out.cell 0
    have y1 := B1.out.cell 1
    have y2 := B1.out.cell 2
    simp only [List.getElem?_cons_zero, List.getElem?_cons_succ] at z0 z1 y0 y1 y2
    go_wp2_with fail
    go_ret
    exact ⟨ret_int (by rw [HR.out]), HB0.out⟩
set_option maxRecDepth 100000 in
set_option maxHeartbeats 3200000 in
theorem valueW_any (s : Int) (A : Option Addr) (c : Nat) (rl : List Int) (f : ByteArray) (At : Option Addr) (ct : Nat) (B : Option Addr) (cB : Nat) (al : List Int) (S : Nat → Prop) (w : World) (hs : 1 ≤ s ∧ s ≤ 3) (hr : 0 < rl.length ∧ rl.length ≤ 64) (hN : Nts w A rl) (ha : Nts w B al) (hal : al.length ≤ 4398046511104) (hf : f.size ≤ 1125899906842624) (ht : ST S w At al.length ct (vars al.length)) : Calls Tryz.prog 57 #[.agg #[.int .i64 s, .slice A rl.length c], .agg #[.int .i64 0, .string f, .slice At al.length ct], .slice B al.length cB] w fun e w' => e = .returned (.int .i64 (pkW s rl f al)) ∧ Below w.heap.size w w' := by
  by_cases hf0 : f = ⟨#[]⟩
  · subst hf0
    have h := valueV s A rl.length c 0 B cB al At al.length ct w hs (by omega) ha (by omega)
    unfold pkW
    rw [if_pos rfl]
    exact h
  obtain ⟨hf1, hf2⟩ := ba_ne hf0
  have hf4 : decide (f = ⟨#[]⟩) = false := by simpa using hf0
  have HV : Hid (pkW s rl f al = pickV s rl f (al.map (thingI s))) := Lib.hid (by unfold pkW; rw [if_neg hf0])
  generalize pkW s rl f al = res at *
  generalize hWW : (w.alloc (.cells #[.int .i64 s, .slice A rl.length c] 36)).alloc (.cells #[.int .i64 0, .string f, .slice At al.length ct] 24) = W
  have HB0 : Hid (Below w.heap.size w W) := Lib.hid (by rw [← hWW]; exact bel_two)
  have B0 : Hid (Blk W w.heap.size 36 [.int .i64 s, .slice A rl.length c]) := Lib.hid (by rw [← hWW]; exact (Blk.new w 36 [.int .i64 s, .slice A rl.length c]).alloc _)
  have B1 : Hid (Blk W (w.heap.size + 1) 24 [.int .i64 0, .string f, .slice At al.length ct]) := Lib.hid (by rw [← hWW]; exact Blk.new' _ (w.heap.size + 1) 24 [.int .i64 0, .string f, .slice At al.length ct] (by simp))
  have HZ : Hid (W.heap.size = w.heap.size + 1 + 1) := Lib.hid (by rw [← hWW]; simp)
  have HWW := Lib.hid hWW
  clear hWW
  have HA := Lib.hid (ha.below HB0.out)
  have HN := Lib.hid (hN.below HB0.out)
  have HS := Lib.hid hs
  have HR0 := Lib.hid hr
  have HT := Lib.hid (ht.stay (Stay.below HB0.out))
  have HL := Lib.hid hal
  have hal1 : al.length ≤ 1152921504606846976 := by omega
  have HF := Lib.hid hf
  clear ha hs hN hr ht hal hf hf0
  have hf3 : (f.toList == []) = false := by simpa using hf1
  go_enter Tryz.func57, Tryz.ntmps57
  go_upto_region 1 with (fail)
  rw [HWW.out]
  have z0 := B0.out.cell 0
  have z1 := B0.out.cell 1
  have y0 := B1.out.cell 0
  have y1 := B1.out.cell 1
  have y2 := B1.out.cell 2
  simp only [List.getElem?_cons_zero, List.getElem?_cons_succ] at z0 z1 y0 y1 y2
  go_wp2_with fail
  go_loopw [7, 8] (fun va vi wl => ∃ i : Nat, vi = .int .i64 i ∧ i ≤ al.length ∧ wl.ownsRow W.heap.size 3 1 va i (ints ((al.take i).map (thingI s))) ∧ Below W.heap.size W wl) (fun _ vi _ => al.length - (intOf vi).toNat)
  case atStart => exact ⟨0, rfl, by omega, World.ownsRow_nil _ _ _ _, Below.refl _ _⟩
  case round =>
    obtain ⟨i, rfl, hi, hro, hb⟩ := hrel
    obtain ⟨Av, cv, rfl⟩ := row_slice hro
    have HRO := Lib.hid hro
    have HB := Lib.hid hb
    clear hro hb z0 z1 y0 y1 y2
    have C0 := Lib.hid (B0.out.below HB.out B0.out.lt)
    have C1 := Lib.hid (B1.out.below HB.out B1.out.lt)
    have z0 := C0.out.cell 0
    have z1 := C0.out.cell 1
    have y0 := C1.out.cell 0
    have y1 := C1.out.cell 1
    have y2 := C1.out.cell 2
    simp only [List.getElem?_cons_zero, List.getElem?_cons_succ] at z0 z1 y0 y1 y2
    by_cases hlt : i < al.length
    · obtain ⟨b, o, hA, v', f', us, Ai, ci, hm, hs1, p0, p1, p2⟩ := (HT.out.stay (Stay.below HB.out)).at i (by simpa [vars] using hlt)
      obtain ⟨rfl, rfl, rfl⟩ : v' = i ∧ f' = ⟨#[]⟩ ∧ us = [] := by simp [vars] at hm; obtain ⟨h1, h2, h3⟩ := hm; exact ⟨h1.symm, h2.symm, h3⟩
      subst hA
      clear hm hs1
      have hwd : Below wr.heap.size wr wr.drew := bel_drew1 wr
      have HC := Lib.hid (valueV s A rl.length c i B cB al Ai 0 ci wr.drew HS.out (by omega) ((HA.out.below HB.out).below hwd) (by omega))
      have HAL : Hid (al0 s al i = thingI s al[i]) := Lib.hid (by unfold al0; rw [dif_pos hlt])
      have HTK : Hid ((al.take (i + 1)).map (thingI s) = (al.take i).map (thingI s) ++ [thingI s al[i]]) := Lib.hid (by rw [List.take_succ_eq_append_getElem hlt, List.map_append]; rfl)
      have HLT := Lib.hid hlt
      have HQ0 := Lib.hid hwd
      clear hwd
      generalize al0 s al i = vi at *
      have hi0 : (0 : Int) ≤ (i : Int) := by omega
      have hi1 : (i : Int) < (al.length : Int) := by omega
      go_upto_region 9 with (fail)
      obtain ⟨i0, hi0', hz0, hz1, hz2⟩ := info_parts infoI
      go_region_law (first | (refine step_append_lies _ (by rfl) _ _ _ (by rfl) W.heap.size 3 i0 _ 1 8 Tryz.underlying34 hi0' hz0 hz1 hz2 rfl (by omega) (.slice Av i cv) i (ints ((al.take i).map (thingI s))) rfl ((row_fr HRO.out (Fr.of_below (S := fun _ => False) HB3.out (Nat.le_refl _)) (fun k hk hs => hs)).alloc _) ⟨w2.heap.size, 0, none⟩ 1 1 [.int .i64 vi] rfl rfl (World.news_of_block (cs := #[.int .i64 vi]) (t := 3) (fr := (0, 0)) (heap_alloc_new w2 _)) (by intro u hu; simp at hu; subst hu; rfl) (by omega) (by have := HL.out; unfold maxLen; omega) (by have := HL.out; omega) (by have h1 := HB3.out.size; have h2 := HB.out.size; simp; omega) _ rfl ?_; intro g5 c5 w10 hro5 hgr5 hat5 hlt5; have HRO5 := Lib.hid hro5; have HGR5 := Lib.hid hgr5; have HAT5 := Lib.hid hat5; clear hro5 hgr5 hat5 hlt5) | (go_simp; go_at_call 57; refine HC.out.mono ?_; rintro e w2 ⟨rfl, hb9⟩; have HB3 := Lib.hid (bel_go HQ0.out hb9); clear hb9))
      all_goals
        have HB4 := Lib.hid (show Below W.heap.size W w10 from (((bel_go HB.out HB3.out).alloc (bel_go HB.out HB3.out).size (.cells #[.int .i64 vi] 3))).trans ((Fr.of_grown HGR5.out).below (B := W.heap.size) (by have h1 := HB.out.size; have h2 := HB3.out.size; simp; omega) (fun k hk => row_low HRO.out hk)))
        have HRO6 := Lib.hid (show w10.ownsRow W.heap.size 3 1 (.slice (some ⟨g5, 0, none⟩) (i + 1) c5) (i + 1) (ints ((al.take (i + 1)).map (thingI s))) by rw [HTK.out, ints_app, ← HAL.out]; exact HRO5.out)
        clear HRO5 HGR5 HAT5 HRO HB HB3
        go_wp2_with fail
        go_roundw
        case rel => exact ⟨i + 1, by go_num, HLT.out, HRO6.out, HB4.out⟩
        case measure => have := HLT.out; simp [intOf]; omega
    · obtain rfl : i = al.length := by omega
      have d1 : decide (al.length < al.length) = false := by simp
      have hro := HRO.out
      rw [List.take_length] at hro
      have hml : (al.map (thingI s)).length = al.length := by simp
      obtain ⟨Av', cv', he, hnt⟩ := row_nts (xs := al.map (thingI s)) (by rw [hml]; exact hro)
      rw [hml] at he
      injection he with h1 _ h2
      subst h1 h2
      have HP := pick_any s A c rl f Av cv (al.map (thingI s)) wr HS.out HR0.out (HN.out.below HB.out) hnt HF.out (by rw [hml]; have := HL.out; omega)
      rw [hml] at HP
      have HP := Lib.hid HP
      have HBB := Lib.hid (bel_go HB0.out HB.out)
      clear hro hnt hml HRO
      go_wp2_with fail
      refine HP.out.mono ?_
      rintro e w2 ⟨rfl, hb9⟩
      have HB9 := Lib.hid (bel_go HBB.out hb9)
      clear hb9
      go_wp2_with fail
      go_ret
      exact ⟨ret_int (by rw [HV.out]), HB9.out⟩
end Go.Proofs.YtndjjnnljihmnaaGreat
