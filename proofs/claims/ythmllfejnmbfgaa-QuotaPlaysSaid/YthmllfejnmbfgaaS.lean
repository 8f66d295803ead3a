/- The walk of the law QuotaPlays. -/
import Derived.Test.YthmllfejnmbfgaaR
import Derived.Deep.RegionHeld3
namespace Go.Proofs.Ythmllfejnmbfgaa
open Go.RowKit
set_option linter.unusedVariables false
set_option linter.unusedSimpArgs false

theorem Fr.undrew {S : Nat → Prop} {w w' : World} (h : Fr S w.drew w') : Fr S w w' := ⟨h.os, h.tape, h.output, h.size, h.block⟩
theorem back_yes {w : World} {a g : Nat} {cs : List Cnt} (av : Option Addr) (mc : Nat) (ms : List Int) (ha : Acct w a g cs) (h1 : 1 ≤ cs.length) (hm : ms.length ≤ 9223372036854775807) (hz : ICells w av ms) (ho : backOK cs ms) :
    Calls Try.prog 24 #[.pointer (some ⟨a, 0, none⟩), .slice av ms.length mc] w fun e w' => e = .returned (.int .i64 0) ∧ ∃ g', w.heap.size ≤ g' ∧ Acct w' a g' (updC cs ms cs.length) ∧ Fr (· = a) w w' := by
  refine (back_any av mc ms ha h1 hm hz).mono ?_
  rintro e w' (⟨_, h⟩ | ⟨hn, _⟩)
  · exact h
  · exact absurd ho hn
theorem back_no {w : World} {a g : Nat} {cs : List Cnt} (av : Option Addr) (mc : Nat) (ms : List Int) (ha : Acct w a g cs) (h1 : 1 ≤ cs.length) (hm : ms.length ≤ 9223372036854775807) (hz : ICells w av ms) (ho : ¬ backOK cs ms) :
    Calls Try.prog 24 #[.pointer (some ⟨a, 0, none⟩), .slice av ms.length mc] w fun e w' => e = .returned (.int .i64 1) ∧ Fr (fun _ => False) w w' := by
  refine (back_any av mc ms ha h1 hm hz).mono ?_
  rintro e w' (⟨hn, _⟩ | ⟨_, h⟩)
  · exact absurd hn ho
  · exact h
theorem rback_yes {w : World} {b gl gu gp : Nat} {cs : List Cnt} (av : Option Addr) (mc : Nat) (ms : List Int) (ha : RAC w b gl gu gp cs) (h1 : 1 ≤ cs.length) (hm : ms.length ≤ 9223372036854775807) (hz : ICells w av ms) (ho : backOK cs ms) :
    Calls Try.prog 25 #[.pointer (some ⟨b, 0, none⟩), .slice av ms.length mc] w fun e w' => e = .returned (.int .i64 0) ∧ ∃ gu', w.heap.size ≤ gu' ∧ RAC w' b gl gu' gp (updC cs ms cs.length) ∧ Fr (· = b) w w' := by
  refine (rback_any av mc ms ha h1 hm hz).mono ?_
  rintro e w' (⟨_, h⟩ | ⟨hn, _⟩)
  · exact h
  · exact absurd ho hn
theorem rback_no {w : World} {b gl gu gp : Nat} {cs : List Cnt} (av : Option Addr) (mc : Nat) (ms : List Int) (ha : RAC w b gl gu gp cs) (h1 : 1 ≤ cs.length) (hm : ms.length ≤ 9223372036854775807) (hz : ICells w av ms) (ho : ¬ backOK cs ms) :
    Calls Try.prog 25 #[.pointer (some ⟨b, 0, none⟩), .slice av ms.length mc] w fun e w' => e = .returned (.int .i64 1) ∧ Fr (fun _ => False) w w' := by
  refine (rback_any av mc ms ha h1 hm hz).mono ?_
  rintro e w' (⟨hn, _⟩ | ⟨_, h⟩)
  · exact absurd hn ho
  · exact h
theorem icells_low {B : Nat} {w W0 w' : World} {a : Option Addr} {xs : List Int} {S : Nat → Prop} (h : ICells w a xs) (hB : B = w.heap.size) (hb : Below B w W0) (hs : B ≤ W0.heap.size) (hf : Fr S W0 w') (hS : ∀ i, i < B → ¬ S i) : ICells w' a xs := fun hp => by
  obtain ⟨lb, lo, rfl, hl, hc⟩ := h hp
  refine ⟨lb, lo, rfl, Nat.lt_of_lt_of_le (by omega) (Nat.le_trans hs hf.size), fun j hj => ?_⟩
  exact (hf.cell (a := ⟨lb, lo + j, none⟩) (by show lb < _; omega) (hS lb (by omega))).trans ((hb.cell (p := ⟨lb, lo + j, none⟩) (by show lb < _; omega)).trans (hc j hj))
theorem icells_fr {w w' : World} {a : Option Addr} {xs : List Int} {S : Nat → Prop} (h : ICells w a xs) (hf : Fr S w w') (hS : ∀ i o, a = some ⟨i, o, none⟩ → i < w.heap.size → ¬ S i) : ICells w' a xs := fun hp => by
  obtain ⟨lb, lo, rfl, hl, hc⟩ := h hp
  exact ⟨lb, lo, rfl, Nat.lt_of_lt_of_le hl hf.size, fun j hj => (hf.cell (a := ⟨lb, lo + j, none⟩) hl (hS lb lo rfl hl)).trans (hc j hj)⟩
theorem updC_lim (cs : List Cnt) (ms : List Int) (h : backOK cs ms) : (updC cs ms cs.length).map (·.lim) = cs.map (·.lim) := (updC_maps cs ms h.1).1
set_option maxHeartbeats 4000000 in
set_option maxRecDepth 100000 in
theorem plays_walk (lb lo lc : Nat) (zs : List Int) (so : Option Addr) (sc : Nat) (os : List OpX) (kind : Int) (w : World) (h1 : 1 ≤ zs.length) (h16 : zs.length ≤ 16) (hlb : lb < w.heap.size)
    (hc : ∀ j, j < zs.length → w.cell? ⟨lb, lo + j, none⟩ = some (.int .i64 (zs.getD j 0))) (hpos : ∀ j, j < zs.length → 0 ≤ zs.getD j 0) (hmax : ∀ j, j < zs.length → zs.getD j 0 ≤ 9223372036854775807)
    (hos : os.length ≤ 140737488351232) (hop : 0 < os.length → ∃ sb sf : Nat, so = some ⟨sb, sf, none⟩ ∧ sb < w.heap.size ∧ ∀ j (h : j < os.length), OpAt w sb (sf + j * 4) os[j]) (hmin : 0 ≤ Lib.minOf (zs.take zs.length)) :
    Calls Try.prog 6 #[.slice (some ⟨lb, lo, none⟩) zs.length lc, .slice so os.length sc, .int .i64 kind] w fun e w' => e = .returned (.bool true) ∧ Below w.heap.size w w' := by
  have hmk : ∀ W : World, (Instr.makeSlice 26 (.int .i64 zs.length) (.int .i64 zs.length)).run Try.prog W = .ok (.slice (some ⟨W.heap.size, 0, none⟩) zs.length zs.length) (W.alloc (.cells (Nums (List.replicate zs.length 0)).toArray 3)) := by
    intro W
    rw [← made_zeros]
    exact run_make_row' 26 3 (.int .i64 0) 8 Try.underlying26 (by kernel_rfl) rfl .i64 .i64 zs.length (by omega) (by omega) W
  have HC := Lib.hid hc
  have HPOS := Lib.hid hpos
  have HMAX := Lib.hid hmax
  have HOP := Lib.hid hop
  clear hc hpos hmax hop
  go_enter Try.func6, Try.ntmps6
  go_wp2_with fail
  refine (new_ok (w := w) lb lo lc zs.length zs h1 h16 (Nat.le_refl _) HC.out hlb hmin).mono ?_
  rintro e w1 ⟨rfl, g, hg, ha, hb⟩
  obtain ⟨B, hB⟩ : ∃ B, B = w.heap.size := ⟨_, rfl⟩
  rw [← hB] at hg ha hb ⊢
  have HB := Lib.hid hB
  have hs1 : B ≤ w1.heap.size := by rw [hB]; exact hb.size
  have hc1 : Hid (∀ j, j < zs.length → w1.cell? ⟨lb, lo + j, none⟩ = some (.int .i64 (zs.getD j 0))) := Lib.hid fun j hj => (hb.cell (p := ⟨lb, lo + j, none⟩) (by show lb < B; omega)).trans (HC.out j hj)
  clear hB
  go_wp2_with fail
  refine (rnew_ok (w := w1) lb lo lc zs h1 h16 (by have := HB.out; omega) hc1.out (fun j hj => by have := HPOS.out j hj; omega)).mono ?_
  rintro e w2 ⟨b, rfl, hr, hb2⟩
  obtain ⟨gl, gu, gp, hra, q1, q2, q3, q4⟩ := hr.ra h16 (by simp) (by simp)
  clear hc1 hr
  have hs2 := hb2.size
  go_wp2_with fail
  refine (alive_any _).mono ?_
  rintro e w3 ⟨rfl, hb3⟩
  have hs3 := hb3.size
  have FAIR : Hid (Fair (cnts zs)) := Lib.hid (by
    intro c hc
    simp only [cnts, List.mem_map] at hc
    obtain ⟨z, hz, rfl⟩ := hc
    obtain ⟨j, hj, rfl⟩ := List.mem_iff_getElem.1 hz
    have e1 := HPOS.out j hj
    have e2 := HMAX.out j hj
    simp only [List.getD_eq_getElem?_getD, List.getElem?_eq_getElem hj, Option.getD_some] at e1 e2
    exact ⟨Int.le_refl _, by omega, e2, Int.le_refl _, by omega⟩)
  have F13 : Fr (fun _ => False) w1 w3 := (Fr.of_below hb2 (Nat.le_refl _)).trans (Fr.of_below (S := fun _ => False) hb3 (Nat.le_refl _)) fun _ _ h => h
  have ha3 : Acct w3 B g (cnts zs) := by have := ha.fr F13 id id; rwa [List.take_length] at this
  have hra3 : RAC w3 b gl gu gp (cnts zs) := by
    have e1 : (cnts zs).map (·.lim) = zs := by simp [cnts, Function.comp_def]
    have e2 : (cnts zs).map (·.used) = List.replicate zs.length 0 := by simp [cnts, Function.comp_def, List.map_const']
    have e3 : (cnts zs).map (·.peak) = List.replicate zs.length 0 := by simp [cnts, Function.comp_def, List.map_const']
    unfold RAC; rw [e1, e2, e3]
    exact hra.fr (Fr.of_below (S := fun _ => False) hb3 (Nat.le_refl _)) id id id id
  have P0 : Hid (PlE B w zs B b (.slice (some ⟨w3.heap.size, 0, none⟩) zs.length zs.length) (w3.alloc (.cells (Nums (List.replicate zs.length 0)).toArray 3))) := Lib.hid (by
    have hgl := hra3
    obtain ⟨_, _, _, _, _, _, _, _, k2, k3, _⟩ := hgl
    have l2 := k2.lt
    have l3 := k3.lt
    refine ⟨List.replicate zs.length 0, cnts zs, g, gl, gu, gp, w3.heap.size, zs.length, [], ha3.fr ((Fr.refl (fun _ => False) w3).alloc _) id id, hra3.fr ((Fr.refl (fun _ => False) w3).alloc _) id id id id, by simp, by simpa using Blk.new' w3 _ 3 (Nums (List.replicate zs.length 0)) rfl, ⟨by omega, by omega⟩, ⟨Nat.le_refl _, by omega, by omega, by omega, by omega, by omega, by omega⟩, FAIR.out, by simp [cnts, Function.comp_def], by simpa using h16, ?_⟩
    exact ((hb.trans (hb2.mono hs1)).trans (hb3.mono (by omega))).alloc (by omega) _)
  clear ha ha3 hra hra3 F13 FAIR hb hb2 hb3 q1 q2 q3 q4 hs1 hs2 hs3 hg
  go_wp2_with fail
  clear hmk
  go_loopw [10, 11] (fun mv i wr => ∃ k : Nat, k ≤ os.length ∧ i = .int .i64 k ∧ PlE B w zs B b mv wr) (fun _ i _ => os.length - (intOf i).toNat)
  case atStart => exact ⟨0, Nat.zero_le _, rfl, P0.out⟩
  case round =>
    clear P0
    obtain ⟨k, hk, rfl, hP⟩ := hrel
    have HP := Lib.hid hP
    have hsz : B ≤ wr.heap.size := by obtain ⟨_, _, _, _, _, _, _, _, _, q⟩ := hP; exact q.size
    have hbel : Below B w wr := by obtain ⟨_, _, _, _, _, _, _, _, _, q⟩ := hP; exact q.bel
    clear hP
    obtain ⟨wo, hwo⟩ : ∃ wo : World, wo = wr := ⟨_, rfl⟩
    subst hwo
    by_cases hlt : k < os.length
    · obtain ⟨sb, sf, rfl, hsb, hoa⟩ := HOP.out (by omega)
      have OW := Lib.hid (hoa k hlt)
      have hO := (hoa k hlt).bel (show Below w.heap.size w wo by rw [← HB.out]; exact hbel) hsb
      clear hoa
      generalize os[k] = o at hO OW
      have c0 := hO.c0
      have c1 := hO.c1
      have c2 := hO.c2
      have c3 := hO.c3
      have HO := Lib.hid hO
      clear hO hbel
      obtain ⟨ms, cs, g, gl, gu, gp, mg, mcap, mrest, P⟩ := HP.out
      obtain ⟨_, ⟨l1, l2, l3, l4, l5, l6, l7⟩, lcs, _⟩ := P.ne
      have hmv := P.mark
      subst hmv
      go_upto_block 2 with fail
      have x0 : Blk (wo.alloc (.cells #[.int .i64 o.kind, .int .i64 o.k, .int .i64 o.n, .slice o.la o.ls.length o.lc] 39)) wo.heap.size 39 [.int .i64 o.kind, .int .i64 o.k, .int .i64 o.n, .slice o.la o.ls.length o.lc] := Blk.new' _ _ _ [_, _, _, _] rfl
      have x1 : Fr (fun _ => False) wo (wo.alloc (.cells #[.int .i64 o.kind, .int .i64 o.k, .int .i64 o.n, .slice o.la o.ls.length o.lc] 39)) := (Fr.refl _ _).alloc _
      have x2 : OpAt (wo.alloc (.cells #[.int .i64 o.kind, .int .i64 o.k, .int .i64 o.n, .slice o.la o.ls.length o.lc] 39)) sb (sf + k * 4) o := HO.out.bel (Below.alloc (Below.refl _ _) (Nat.le_refl _) _) (by have := HB.out; omega)
      have x3 := P.fr x1
      have x4 : (wo.alloc (.cells #[.int .i64 o.kind, .int .i64 o.k, .int .i64 o.n, .slice o.la o.ls.length o.lc] 39)).heap.size = wo.heap.size + 1 := by simp
      generalize wo.alloc (.cells #[.int .i64 o.kind, .int .i64 o.k, .int .i64 o.n, .slice o.la o.ls.length o.lc] 39) = W0 at *
      generalize wo.heap.size = bo at *
      have y0 := x0.cell 0
      have y1 := x0.cell 1
      have y2 := x0.cell 2
      have y3 := x0.cell 3
      simp only [List.getElem?_cons_zero, List.getElem?_cons_succ] at y0 y1 y2 y3
      have X0 := Lib.hid x0
      have X2 := Lib.hid x2
      have X3 := Lib.hid x3
      have X4 := Lib.hid x4
      clear c0 c1 c2 c3 x0 x1 x2 x3 x4 P HP HO
      have hcs1 : 1 ≤ cs.length := by omega
      have LCS := Lib.hid lcs
      clear lcs
      have LZ : Hid (∀ w' : World, Fr (fun i => i = B ∨ i = g) W0 w' → ICells w' o.la o.ls) := Lib.hid (fun w' hf => icells_low OW.out.lz HB.out X3.out.bel X3.out.size hf (fun i hi e => by have := X3.out.low; omega))
      go_cut [10, 13, 14] (fun mv x y wx => SameEnd B w zs B b mv x y wx)
      case first =>
        by_cases k1 : o.kind = 1
        · have d1 : (o.kind == 1) = true := by simpa using k1
          clear k1
          go_wp2_with fail
          go_region_held3 (fun w' => w'.cell? ⟨bo, 1, none⟩ = some (.int .i64 o.k) ∧ w'.cell? ⟨bo, 2, none⟩ = some (.int .i64 o.n)) (go_keep)
            (first
              | (go_at_call 15; refine (take_any o.k o.n (by exact X3.out.acct) X3.out.fair).mono ?_; rintro e w' ⟨rfl, hA, hF⟩; have z1 : w'.cell? ⟨bo, 1, none⟩ = some (.int .i64 o.k) := (hF.cell (a := ⟨bo, 1, none⟩) (by have := X4.out; show bo < W0.heap.size; omega) (by show ¬ bo = g; omega)).trans y1; have z2 : w'.cell? ⟨bo, 2, none⟩ = some (.int .i64 o.n) := (hF.cell (a := ⟨bo, 2, none⟩) (by have := X4.out; show bo < W0.heap.size; omega) (by show ¬ bo = g; omega)).trans y2; have hw : bo < w'.heap.size := (by have := hF.size; have := X4.out; have : W0.drew.heap.size = W0.heap.size := rfl; omega); have HA := Lib.hid hA; have HF := Lib.hid (Fr.undrew hF); clear hA hF)
              | (go_at_call 20; refine (rtake_any o.k o.n (by exact (X3.out.half (fr_or1 HF.out)).1) X3.out.fair).mono ?_; rintro e w4 ⟨rfl, hR, hF2⟩; have z3 : w4.cell? ⟨bo, 1, none⟩ = some (.int .i64 o.k) := (hF2.cell (a := ⟨bo, 1, none⟩) hw (by show ¬ (bo = gu ∨ bo = gp); omega)).trans z1; have z4 : w4.cell? ⟨bo, 2, none⟩ = some (.int .i64 o.n) := (hF2.cell (a := ⟨bo, 2, none⟩) hw (by show ¬ (bo = gu ∨ bo = gp); omega)).trans z2; have HR2 := Lib.hid hR; have HF2 := Lib.hid hF2; clear hR hF2))
          all_goals
            go_wp2
            go_meet
            exact ⟨_, rfl, rfl, ms, _, g, gl, gu, gp, mg, mcap, mrest, X3.out.full (fr_or1 HF.out) HA.out (.inl rfl) (fr_or3 HF2.out) HR2.out (.inl rfl) (take_fair X3.out.fair _ _).1 (take_fair X3.out.fair _ _).2.2⟩
        have D1 : (o.kind == 1) = false := beq_eq_false_iff_ne.2 k1
        by_cases k2 : o.kind = 2
        · have d2 : (o.kind == 2) = true := by simpa using k2
          clear k1 k2
          go_wp2_with fail
          refine (give_any o.k o.n X3.out.acct X3.out.fair).mono ?_
          rintro e w' ⟨rfl, hA, hF⟩
          have z1 : w'.cell? ⟨bo, 1, none⟩ = some (.int .i64 o.k) := (hF.cell (a := ⟨bo, 1, none⟩) (by have := X4.out; show bo < W0.heap.size; omega) (by show ¬ bo = g; omega)).trans y1
          have z2 : w'.cell? ⟨bo, 2, none⟩ = some (.int .i64 o.n) := (hF.cell (a := ⟨bo, 2, none⟩) (by have := X4.out; show bo < W0.heap.size; omega) (by show ¬ bo = g; omega)).trans y2
          have HA := Lib.hid hA
          have HF := Lib.hid hF
          clear hA hF
          go_wp2_with fail
          refine (rgive_any o.k o.n (X3.out.half (fr_or1 HF.out)).1 X3.out.fair X2.out.nn).mono ?_
          rintro e w4 ⟨rfl, hR, hF2⟩
          have HR2 := Lib.hid hR
          have HF2 := Lib.hid hF2
          clear hR hF2
          go_wp2
          go_meet
          exact ⟨_, rfl, rfl, ms, _, g, gl, gu, gp, mg, mcap, mrest, X3.out.full (fr_or1 HF.out) HA.out (.inl rfl) (fr_or3 HF2.out) HR2.out (.inl rfl) (give_fair X3.out.fair _ _).1 (give_fair X3.out.fair _ _).2.2⟩
        have D2 : (o.kind == 2) = false := beq_eq_false_iff_ne.2 k2
        by_cases k3 : o.kind = 3
        · have d3 : (o.kind == 3) = true := by simpa using k3
          clear k1 k2 k3
          go_wp2_with fail
          refine (mark_any X3.out.acct hcs1).mono ?_
          rintro e w' ⟨v, rfl, ⟨mg', mcap', mrest', rfl, hge, hcap, hcm, hblk⟩, hbl⟩
          have P' := X3.out.fr (Fr.of_below hbl (Nat.le_refl _))
          have HBLK := Lib.hid hblk
          have HP' := Lib.hid P'
          obtain ⟨cl, cu, cp, rl, ru, rp, a0, a1, a2, a3, hn, hl, hu, hp⟩ := P'.rac
          have HI := ints_eq (w := w') (some ⟨mg', 0, none⟩) (some ⟨gu, 0, none⟩) mcap' cu (cs.map (·.used)) (icells_blk hblk) (icells_blk a2) (by simp only [List.length_map]; have := LCS.out; omega)
          simp only [List.length_map] at HI a0
          have HI2 := Lib.hid HI
          have e1 := a0.cell 1
          simp only [List.getElem?_cons_zero, List.getElem?_cons_succ] at e1
          have NP : Hid (mg' ≠ gu ∧ mg' ≠ gp ∧ B ≤ mg') := Lib.hid (by have := X4.out; exact ⟨by omega, by omega, by omega⟩)
          clear P' hblk HI a0 a1 a2 a3 hbl hl hu hp
          go_wp2_with fail
          refine HI2.out.mono ?_
          rintro e w4 ⟨rfl, m, rfl⟩
          go_wp2
          go_meet
          have P4 := HP'.out.fr ((Fr.refl (fun _ => False) w').drewN m)
          refine ⟨_, rfl, rfl, cs.map (·.used), cs, g, gl, gu, gp, mg', mcap', mrest', P4.acct, P4.rac, by simp, HBLK.out.drewN m, ⟨NP.out.1, NP.out.2.1⟩, ?_, P4.fair, P4.lim, by simp only [List.length_map]; have := LCS.out; omega, P4.bel⟩
          have q1 := P4.low
          have q2 := NP.out.2.2
          exact ⟨q1.1, q1.2.1, q1.2.2.1, q1.2.2.2.1, q1.2.2.2.2.1, q1.2.2.2.2.2.1, q2⟩
        have D3 : (o.kind == 3) = false := beq_eq_false_iff_ne.2 k3
        by_cases k4 : o.kind = 4
        · have d4 : (o.kind == 4) = true := by simpa using k4
          clear k1 k2 k3 k4
          by_cases hok : backOK cs ms
          · have HOK := Lib.hid hok
            clear hok
            go_wp2_with fail
            refine (back_yes (some ⟨mg, 0, none⟩) mcap ms X3.out.acct hcs1 (by have := X3.out.mlen; omega) (icells_blk X3.out.mblk) HOK.out).mono ?_
            rintro e w' ⟨rfl, g', hg', hA, hF⟩
            have HA := Lib.hid hA
            have HF := Lib.hid hF
            have HG := Lib.hid hg'
            clear hA hF hg'
            go_wp2_with fail
            refine (rback_yes (some ⟨mg, 0, none⟩) mcap ms (X3.out.half (fr_or2 HF.out)).1 hcs1 (by have := X3.out.mlen; omega) (icells_blk (X3.out.half (fr_or2 HF.out)).2.1) HOK.out).mono ?_
            rintro e w4 ⟨rfl, gu', hgu, hR, hF2⟩
            have HR2 := Lib.hid hR
            have HF2 := Lib.hid hF2
            have HGU := Lib.hid hgu
            clear hR hF2 hgu
            go_wp2
            go_meet
            exact ⟨_, rfl, rfl, ms, _, g', gl, gu', gp, mg, mcap, mrest, X3.out.full (fr_or2 HF.out) HA.out (.inr HG.out) (fr_or4 HF2.out) HR2.out (.inr HGU.out) (updC_fair X3.out.fair HOK.out) (updC_lim _ _ HOK.out)⟩
          · have HOK := Lib.hid hok
            clear hok
            go_wp2_with fail
            refine (back_no (some ⟨mg, 0, none⟩) mcap ms X3.out.acct hcs1 (by have := X3.out.mlen; omega) (icells_blk X3.out.mblk) HOK.out).mono ?_
            rintro e w' ⟨rfl, hF⟩
            have P' := Lib.hid (X3.out.fr hF)
            clear hF
            go_wp2_with fail
            refine (rback_no (some ⟨mg, 0, none⟩) mcap ms P'.out.rac hcs1 (by have := X3.out.mlen; omega) (icells_blk P'.out.mblk) HOK.out).mono ?_
            rintro e w4 ⟨rfl, hF2⟩
            have P'' := Lib.hid (P'.out.fr hF2)
            clear hF2
            go_wp2
            go_meet
            exact ⟨_, rfl, rfl, ms, _, g, gl, gu, gp, mg, mcap, mrest, P''.out⟩
        have D4 : (o.kind == 4) = false := beq_eq_false_iff_ne.2 k4
        by_cases k5 : o.kind = 5
        · have d5 : (o.kind == 5) = true := by simpa using k5
          clear k1 k2 k3 k4 k5
          by_cases hok : backOK cs o.ls
          · have HOK := Lib.hid hok
            clear hok
            go_wp2_with fail
            go_region_held3 (fun w' => w'.cell? ⟨bo, 3, none⟩ = some (.slice o.la o.ls.length o.lc)) (go_keep)
              (first
                | (go_at_call 24; refine (back_yes o.la o.lc o.ls (by exact X3.out.acct) hcs1 X2.out.ln (by exact X2.out.lz) HOK.out).mono ?_; rintro e w' ⟨rfl, g', hg', hA, hF⟩; have z1 : w'.cell? ⟨bo, 3, none⟩ = some (.slice o.la o.ls.length o.lc) := (hF.cell (a := ⟨bo, 3, none⟩) (by have := X4.out; show bo < W0.heap.size; omega) (by show ¬ bo = B; omega)).trans y3; have hw : bo < w'.heap.size := (by have := hF.size; have := X4.out; have : W0.drew.heap.size = W0.heap.size := rfl; omega); have HA := Lib.hid hA; have HF := Lib.hid (Fr.undrew hF); have HG : Hid (W0.heap.size ≤ g') := Lib.hid hg'; clear hA hF hg')
                | (go_at_call 25; refine (rback_yes o.la o.lc o.ls (by exact (X3.out.half (fr_or2 HF.out)).1) hcs1 X2.out.ln (by exact LZ.out _ (fr_or2 HF.out)) HOK.out).mono ?_; rintro e w4 ⟨rfl, gu', hgu, hR, hF2⟩; have z3 : w4.cell? ⟨bo, 3, none⟩ = some (.slice o.la o.ls.length o.lc) := (hF2.cell (a := ⟨bo, 3, none⟩) hw (by show ¬ (bo = b); omega)).trans z1; have HR2 := Lib.hid hR; have HF2 := Lib.hid hF2; have HGU := Lib.hid hgu; clear hR hF2 hgu))
            all_goals
              go_wp2
              go_meet
              exact ⟨_, rfl, rfl, ms, _, g', gl, gu', gp, mg, mcap, mrest, X3.out.full (fr_or2 HF.out) HA.out (.inr HG.out) (fr_or4 HF2.out) HR2.out (.inr HGU.out) (updC_fair X3.out.fair HOK.out) (updC_lim _ _ HOK.out)⟩
          · have HOK := Lib.hid hok
            clear hok
            go_wp2_with fail
            go_region_held3 (fun w' => w'.cell? ⟨bo, 3, none⟩ = some (.slice o.la o.ls.length o.lc)) (go_keep)
              (first
                | (go_at_call 24; refine (back_no o.la o.lc o.ls (by exact X3.out.acct) hcs1 X2.out.ln (by exact X2.out.lz) HOK.out).mono ?_; rintro e w' ⟨rfl, hF⟩; have z1 : w'.cell? ⟨bo, 3, none⟩ = some (.slice o.la o.ls.length o.lc) := (hF.cell (a := ⟨bo, 3, none⟩) (by have := X4.out; show bo < W0.heap.size; omega) id).trans y3; have hw : bo < w'.heap.size := (by have := hF.size; have := X4.out; have : W0.drew.heap.size = W0.heap.size := rfl; omega); have HF := Lib.hid (Fr.undrew hF); clear hF)
                | (go_at_call 25; refine (rback_no o.la o.lc o.ls (by exact (X3.out.fr HF.out).rac) hcs1 X2.out.ln (by exact LZ.out _ (fr_or0 HF.out)) HOK.out).mono ?_; rintro e w4 ⟨rfl, hF2⟩; have z3 : w4.cell? ⟨bo, 3, none⟩ = some (.slice o.la o.ls.length o.lc) := (hF2.cell (a := ⟨bo, 3, none⟩) hw id).trans z1; have HF2 := Lib.hid hF2; clear hF2))
            all_goals
              go_wp2
              go_meet
              exact ⟨_, rfl, rfl, ms, _, g, gl, gu, gp, mg, mcap, mrest, (X3.out.fr HF.out).fr HF2.out⟩
        have D5 : (o.kind == 5) = false := beq_eq_false_iff_ne.2 k5
        go_wp2
        go_meet
        exact ⟨_, rfl, rfl, ms, _, g, gl, gu, gp, mg, mcap, mrest, X3.out⟩
      case rest =>
        clear X0 X2 X3 X4 LZ OW y0 y1 y2 y3 l1 l2 l3 l4 l5 l6 l7 hcs1 LCS
        obtain ⟨r, rfl, rfl, ms', cs', g', gl', gu', gp', mg', mcap', mrest', P⟩ := hcut
        have hmv := P.mark
        subst hmv
        obtain ⟨_, ⟨l1, l2, l3, l4, l5, l6, l7⟩, lcs, _⟩ := P.ne
        have hcs1 : 1 ≤ cs'.length := by omega
        have hrr : (r != r) = false := by simp
        obtain ⟨cl, cu, cp, rl, ru, rp, a0, a1, a2, a3, hn, hl, hu, hp⟩ := P.rac
        simp only [List.length_map] at a0
        have e1 := a0.cell 1
        simp only [List.getElem?_cons_zero, List.getElem?_cons_succ] at e1
        have A0 := Lib.hid a0
        have A2 := Lib.hid a2
        have HP := Lib.hid P
        have LCS := Lib.hid lcs
        clear P a0 a1 a2 a3 hl hu hp lcs hn
        go_wp2_with fail
        go_region_held3 (fun w' => w'.cell? ⟨b, 1, none⟩ = some (.slice (some ⟨gu', 0, none⟩) cs'.length cu)) (go_keep)
          (first
            | (go_at_call 22; refine (mark_any (by exact HP.out.acct) hcs1).mono ?_; rintro e w4 ⟨v, rfl, ⟨mg2, mcap2, mrest2, rfl, hge, hcap, hcm, hblk⟩, hbl⟩; have HF4 : Hid (Fr (fun _ => False) wc w4) := Lib.hid (Fr.undrew (Fr.of_below hbl (Nat.le_refl _))); have HI := ints_eq (w := w4) (some ⟨mg2, 0, none⟩) (some ⟨gu', 0, none⟩) mcap2 cu (cs'.map (·.used)) (icells_blk hblk) (icells_blk (A2.out.fr HF4.out id)) (by simp only [List.length_map]; have := LCS.out; omega); simp only [List.length_map] at HI; have HI2 := Lib.hid HI; have z1 : w4.cell? ⟨b, 1, none⟩ = some (.slice (some ⟨gu', 0, none⟩) cs'.length cu) := ((A0.out.fr HF4.out id).cell 1); clear HI hblk hbl hge hcap hcm)
            | (go_at_call 23; refine HI2.out.mono ?_; rintro e w5 ⟨rfl, m5, rfl⟩))
        all_goals
          have P5 := HP.out.fr (HF4.out.trans (((Fr.refl (fun _ => False) w4).drewN m5)) fun _ _ h => h)
          have HP5 := Lib.hid P5
          obtain ⟨cl5, cu5, cp5, rl5, ru5, rp5, b0, b1, b2, b3, hn5, hl5, hu5, hp5⟩ := P5.rac
          simp only [List.length_map] at b0
          have B0 := Lib.hid b0
          have B2 := Lib.hid b2
          have B3 := Lib.hid b3
          have hcl : Hid (∀ j, j < zs.length → (w4.drewN m5).cell? ⟨lb, lo + j, none⟩ = some (.int .i64 (zs.getD j 0))) := Lib.hid (fun j hj => (HP5.out.bel.cell (p := ⟨lb, lo + j, none⟩) (by show lb < B; have := HB.out; omega)).trans (HC.out j hj))
          generalize w4.drewN m5 = W5 at *
          have d1 := b0.cell 1
          have d2 := b0.cell 2
          simp only [List.getElem?_cons_zero, List.getElem?_cons_succ] at d1 d2
          clear P5 b0 b1 b2 b3 hn5 hl5 hu5 hp5 HI2 z1 HF4 A0 A2 HP e1 hrr
          go_wp2_with fail
          go_loopw [15] (fun i wl => ∃ j : Nat, j ≤ zs.length ∧ i = .int .i64 j ∧ Drw W5 wl) (fun i _ => zs.length - (intOf i).toNat)
          case atStart => exact ⟨0, Nat.zero_le _, rfl, 0, rfl⟩
          case round =>
            obtain ⟨j, hj, rfl, hd6⟩ := hrel
            have HD6 := Lib.hid hd6
            have hP6 : Hid (Pl B w zs B b (.slice (some ⟨mg', 0, none⟩) ms'.length mcap') wr ms' cs' g' gl' gu' gp' mg' mcap' mrest') := Lib.hid (by obtain ⟨m6, rfl⟩ := hd6; exact HP5.out.fr ((Fr.refl (fun _ => False) W5).drewN m6))
            have dd1 : wr.cell? ⟨b, 1, none⟩ = some (.slice (some ⟨gu', 0, none⟩) cs'.length cu5) := by obtain ⟨m6, rfl⟩ := hd6; exact d1
            have dd2 : wr.cell? ⟨b, 2, none⟩ = some (.slice (some ⟨gp', 0, none⟩) cs'.length cp5) := by obtain ⟨m6, rfl⟩ := hd6; exact d2
            have BB2 : Hid (Blk wr gu' 3 (Nums (cs'.map (·.used)) ++ ru5)) := Lib.hid (by obtain ⟨m6, rfl⟩ := hd6; exact B2.out.drewN m6)
            have BB3 : Hid (Blk wr gp' 3 (Nums (cs'.map (·.peak)) ++ rp5)) := Lib.hid (by obtain ⟨m6, rfl⟩ := hd6; exact B3.out.drewN m6)
            have hcl6 : Hid (∀ j, j < zs.length → wr.cell? ⟨lb, lo + j, none⟩ = some (.int .i64 (zs.getD j 0))) := Lib.hid (by obtain ⟨m6, rfl⟩ := hd6; exact hcl.out)
            clear hd6 d1 d2
            by_cases hjl : j < zs.length
            · have hjc : j < cs'.length := by have := LCS.out; omega
              have hz := hcl6.out j hjl
              have g1 := (BB2.out.cell j).trans (nums_at ru5 (show j < (cs'.map (·.used)).length by simp; exact hjc))
              have g2 := (BB3.out.cell j).trans (nums_at rp5 (show j < (cs'.map (·.peak)).length by simp; exact hjc))
              have hlz : Hid (cs'[j].lim = zs.getD j 0) := Lib.hid (by rw [← HP5.out.lim]; exact (map_at cs' (·.lim) j hjc).symm)
              rw [map_at cs' (·.used) j hjc] at g1
              rw [map_at cs' (·.peak) j hjc] at g2
              have C1 : Hid (∀ n, Calls Try.prog 16 #[.pointer (some ⟨B, 0, none⟩), .int .i64 j] (wr.drewN n) fun e w' => e = .returned (.int .i64 cs'[j].used) ∧ wr.drewN n = w') := Lib.hid (fun n => used_in j hjc (hP6.out.acct.drewN n))
              have C2 : Hid (∀ n, Calls Try.prog 17 #[.pointer (some ⟨B, 0, none⟩), .int .i64 j] (wr.drewN n) fun e w' => e = .returned (.int .i64 cs'[j].peak) ∧ wr.drewN n = w') := Lib.hid (fun n => peak_in j hjc (hP6.out.acct.drewN n))
              have C3 : Hid (∀ n, Calls Try.prog 26 #[.pointer (some ⟨B, 0, none⟩), .int .i64 j] (wr.drewN n) fun e w' => e = .returned (.int .i64 (zs.getD j 0)) ∧ wr.drewN n = w') := Lib.hid (fun n => by rw [← hlz.out]; exact limit_in j hjc (hP6.out.acct.drewN n))
              generalize cs'[j].used = U at *
              generalize cs'[j].peak = Pk at *
              generalize zs.getD j 0 = L at *
              have u1 : (U != U) = false := by simp
              have u2 : (Pk != Pk) = false := by simp
              have u3 : (L != L) = false := by simp
              clear hlz
              go_wp2_with fail
              go_quiet (first | ((go_at_call 16; exact quiet_eq (C1.out _))) | ((go_at_call 17; exact quiet_eq (C2.out _))) | ((go_at_call 26; exact quiet_eq (C3.out _))))
              go_wp2
              go_roundw
              case rel => exact ⟨j + 1, by omega, by go_num, HD6.out.step _⟩
              case measure => simp [intOf]; omega
            · go_wp2
              go_roundw
              case rel => exact ⟨k + 1, by omega, by go_num, ms', cs', g', gl', gu', gp', mg', mcap', mrest', hP6.out⟩
              case measure => simp [intOf]; omega
    · obtain ⟨ms, cs, g, gl, gu, gp, mg, mcap, mrest, P⟩ := HP.out
      have hP := Lib.hid P
      obtain ⟨_, _, lcs, _⟩ := P.ne
      have ha := Lib.hid P.acct
      have hra := Lib.hid P.rac
      have hb : Hid (Below w.heap.size w wo) := Lib.hid (by rw [← HB.out]; exact P.bel)
      clear P HP
      by_cases hk2 : kind < 0 ∨ cs.length ≤ kind
      · have HK := Lib.hid hk2
        clear hk2
        go_wp2_with (first
          | (go_at_call 27; refine (is_out kind hra.out (by simp only [List.length_map]; exact HK.out)).mono ?_; rintro e w' ⟨rfl, rfl⟩)
          | (go_at_call 16; refine (used_out kind HK.out ha.out).mono ?_; rintro e w' ⟨rfl, rfl⟩)
          | (go_at_call 26; refine (limit_out kind HK.out ha.out).mono ?_; rintro e w' ⟨rfl, rfl⟩)
          | (go_at_call 17; refine (peak_out kind HK.out ha.out).mono ?_; rintro e w' ⟨rfl, rfl⟩))
        go_ret
        exact ⟨rfl, hb.out⟩
      · obtain ⟨j, rfl⟩ := Int.eq_ofNat_of_zero_le (show 0 ≤ kind by omega)
        have hj : j < cs.length := by omega
        clear hk2
        go_wp2_with (go_at_call 27; refine (is_in j hra.out (by simp only [List.length_map]; exact hj)).mono ?_; rintro e w' ⟨rfl, rfl⟩)
        go_ret
        exact ⟨rfl, hb.out⟩
end Go.Proofs.Ythmllfejnmbfgaa
