/- The walk of TextFeeds. -/
import Derived.Test.YtelhkbanohhjhaaDoorTxtT
import Derived.Deep.DeepCutAuto
import Derived.Outline
import Derived.Deep.QuietTactic
import Derived.BigQuiet
import Derived.Deep.RegionHeld3
namespace Go.Proofs.YtelhkbanohhjhaaDoor.Tx
open Go.RowKit Go.Shelf Go.Proofs.YtelhkbanohhjhaaDoor.PFeed Go.Proofs.YtelhkbanohhjhaaDoorW.PrintWords
set_option linter.unusedVariables false
set_option linter.unusedSimpArgs false
/-- What Feed leaves within TextFeeds' test. -/
def FedP (w4 : World) (bb : Nat) (chs : List (List Int)) (i n had q : Nat) (kept : Int) (v4 : Value) (B : Option Addr) (cw : Nat) (a : Addr) (r : Value) (e : Ending) (w6 : World) : Prop :=
  ∃ A c, e = .returned (.slice A n c) ∧
    (Calls Tryd.prog 13 #[.slice A n c, .slice B n (cw - had)] w6 fun e w' => e = .returned (.bool true) ∧ ∃ n, w' = w6.drewN n) ∧
    (∀ m, Calls Tryd.prog 15 #[.pointer (some ⟨bb, 0, none⟩)] (w6.drewN m) fun e w' => e = .returned (.int .i64 kept) ∧ w' = w6.drewN m) ∧
    FJ w4 bb chs (i + 1) v4 w6 ∧ w6.cell? a = some r
attribute [local go_sem ↓] app_block
set_option maxRecDepth 100000 in
set_option maxHeartbeats 3200000 in
theorem feeds_walk {H : Type} {d0 : DataW H} (A0 : Option Addr) (c0 : Nat) (chs : List (List Int)) (w : World) (m : Int) (b0 : chs.flatten.length + chs.length ≤ 1048576) (H0 : HandR w A0 chs.length c0 d0 chs) (hm : w.cell? ⟨0, 0, none⟩ = some (.int .i64 m)) :
    Calls Tryd.prog 4 #[.slice A0 chs.length c0] w fun e w' => e = .returned (.bool true) ∧ Below w.heap.size w w' := by
  have h0 := World.block_lt_of_cell? w _ hm
  have HM := Lib.hid hm
  have HH0 := Lib.hid H0
  clear hm H0
  go_enter Tryd.func4, Tryd.ntmps4
  go_wp2_with fail
  refine (new_any w).mono ?_
  rintro e w2 ⟨rfl, hw2⟩
  have hb2 : Blk w2 w.heap.size 53 [.slice none 0 0, .bool false] := by rw [hw2]; exact Blk.new' w _ _ [_, _] rfl
  have hs2 : w2.heap.size = w.heap.size + 1 := by rw [hw2]; simp
  have HB2 := Lib.hid hb2
  have HBel2 : Hid (Below w.heap.size w w2) := Lib.hid (by rw [hw2]; exact (Below.refl _ w).alloc (Nat.le_refl _) _)
  have HS2 := Lib.hid hs2
  have hm2 : w2.cell? ⟨0, 0, none⟩ = some (.int .i64 m) := (HBel2.out.cell (p := ⟨0, 0, none⟩) (by exact h0)).trans HM.out
  have HA2 := Lib.hid (alive_any w2 m hm2)
  clear hw2 hb2 hs2 hm2
  go_wp2_with fail
  refine HA2.out.mono ?_
  rintro e w4 ⟨rfl, hb4⟩
  have hs2 := HS2.out
  have hs4' := hb4.size
  have HBel4 : Hid (Below w.heap.size w w4) := Lib.hid (HBel2.out.trans (hb4.mono (by omega)))
  have HBB4 : Hid (BufAt w4 w4.heap.size w.heap.size (.slice none 0 0) []) := Lib.hid ⟨HB2.out.below hb4 (by omega), ⟨rfl, .inl ⟨rfl, rfl⟩⟩⟩
  have HS4 : Hid (w.heap.size + 1 ≤ w4.heap.size) := Lib.hid (by omega)
  clear hb4 hs2 hs4' HA2 HBel2 HB2 HS2
  go_wp2_with fail
  go_loopw [4, 5, 6] (fun v4 v5 v6 wl => ∃ i : Nat, v5 = .int .i64 (spl [] (catL chs i)).1.length ∧ v6 = .int .i64 i ∧ i ≤ chs.length ∧ FJ w4 w.heap.size chs i v4 wl) (fun _ _ v6 _ => chs.length - (intOf v6).toNat)
  case atStart => exact ⟨0, rfl, rfl, by omega, Fr.refl _ _, ⟨rfl, .inl ⟨rfl, rfl⟩⟩, _, HBB4.out, fun k hk => by simp [Value.ownBlock] at hk⟩
  case round =>
    obtain ⟨i, rfl, rfl, hi, hfj⟩ := hrel
    have HFJ := Lib.hid hfj
    have HBelr : Hid (Below w.heap.size w wr) := Lib.hid (HBel4.out.trans (hfj.fm.below (by have := HS4.out; omega) (fun i hi => by have := hi; omega)))
    clear hfj
    obtain ⟨wo, hwo⟩ : ∃ wo : World, wo = wr := ⟨_, rfl⟩
    clear hwo wo
    by_cases hlt : i < chs.length
    · have d1 : decide (i < chs.length) = true := by simpa using hlt
      have d1' : decide ((i : Int) < (chs.length : Int)) = true := by simp; omega
      obtain ⟨ad, A', C', hA, hcell, hle, hC, hbyt, hnil, hblk⟩ := HH0.out.row i hlt
      subst hA
      have hadlt : (ad.add i).block < w.heap.size := World.block_lt_of_cell? w _ hcell
      have r0 : wr.cell? (ad.add i) = _ := (HBelr.out.cell hadlt).trans hcell
      have hCr : Kd.C (Kd.int .u8) wr A' chs[i].length chs[i] := C_move hC (fun a ha h0 => HBelr.out.block _ (hblk a ha h0))
      obtain ⟨v, w1, u, hrun, hfm1⟩ := HFJ.out.app hlt (by omega) hCr hnil
      obtain ⟨A1, c1, rfl, hc1, hC1⟩ := own_C hfm1.all
      have HC1 := Lib.hid hC1
      have HFM1 := Lib.hid hfm1
      have HC := Lib.hid hC
      have HX := Lib.hid (And.intro hle (And.intro hbyt (And.intro hnil hblk)))
      have HLT := Lib.hid hlt
      have HCELL := Lib.hid hcell
      have HC1L := Lib.hid hc1
      obtain ⟨A4, c4, rfl⟩ := own_slice HFJ.out.all
      clear hC1 hfm1 hC hle hbyt hnil hblk hCr hcell hc1
      go_wp2_with fail
      refine (PFeed.assizeref01_Feed.calls ((catL chs (i + 1)).length + (catL chs (i + 1)).length + 9) A1 c1 (catL chs (i + 1)) _ _ w1 HC1.out HC1L.out (p_feed _ (Nat.le_trans (cat_le chs (i + 1)) (by omega)))).mono ?_
      rintro e w3 ⟨v0, rfl, hR, hB⟩
      obtain ⟨inner, ho, hrp⟩ := hR.2
      have hin := reps_cells _ _ hrp
      subst hin
      obtain ⟨Aw, cw, rfl⟩ := own_slice ho
      have hFr : Fr (fun _ => False) w1 w3 := Fr.of_below hB (Nat.le_refl _)
      have HFM3 := Lib.hid (HFM1.out.fr' hFr)
      have HO3 := Lib.hid ho
      have hncw : ((spl [] (catL chs (i + 1))).1.map lnOf).length ≤ cw := by
        rcases ho.2 with ⟨e, h0⟩ | ⟨g, cap, cur, e, _, _, hc, _⟩
        · injection e with _ e1 e2; omega
        · injection e with _ e1 e2; omega
      have hcat := cat_succ chs i hlt
      have hnn : ((spl [] (catL chs (i + 1))).1.map lnOf).length = (spl [] (catL chs i)).1.length + (spl (spl [] (catL chs i)).2 chs[i]).1.length := by
        rw [hcat, spl_app]; simp only [List.length_map, List.length_append]; rfl
      have hsl := fun W => slice_runB W Aw ((spl [] (catL chs (i + 1))).1.map lnOf).length cw (spl [] (catL chs i)).1.length (spl (spl [] (catL chs i)).2 chs[i]).1.length hnn hncw
      have r3 : w3.cell? (ad.add i) = some (.slice A' chs[i].length C') := (HFM3.out.fm.cell (by have := HS4.out; omega) (by omega)).trans ((HBel4.out.cell hadlt).trans HCELL.out)
      simp only [List.length_map] at hsl
      have hs4 := HS4.out
      have HFED : Hid (∀ W', Fr (fun _ => False) w3 W' → Calls Tryd.prog 14 #[.pointer (some ⟨w.heap.size, 0, none⟩), .slice A' chs[i].length C'] W'
          (FedP w4 w.heap.size chs i (spl (spl [] (catL chs i)).2 chs[i]).1.length (spl [] (catL chs i)).1.length 0 (keptN (spl [] (catL chs (i + 1))).2) (.slice A1 (catL chs (i + 1)).length c1) (cutB Aw cw (spl [] (catL chs i)).1.length) cw (ad.add i) (.slice A' chs[i].length C'))) := Lib.hid (fun W' hf => by
        have hm := HFM3.out.fr' hf
        have hsz := hm.fm.size
        have hCW : Kd.C (Kd.int .u8) W' A' chs[i].length chs[i] := C_move HC.out (fun a ha h0 => by
          have hb := HX.out.2.2.2 a ha h0
          exact (hm.fm.block _ (by omega) (by omega)).trans (HBel4.out.block _ hb))
        have hg : It.good W' (TT W' w.heap.size u) ⟨A', C', chs[i], false⟩ := good_of_C hCW (fun a ha h0 => by
          have hb := HX.out.2.2.2 a ha h0
          exact tt_ok (by omega) (by omega) (fun e => by have := row_low hm.buf.row e; omega)) HX.out.1 (by have := cat_le chs (i + 1); rw [cat_succ chs i hlt, List.length_append] at this; omega) HX.out.2.1 HX.out.2.2.1
        refine (feed_any w4.heap.size w.heap.size u (spl [] (catL chs i)).2 A' C' chs[i] W' hm.buf hsz HX.out.2.2.1 hg).mono fun e w6 hF => ?_
        obtain ⟨A, c, rfl, k1, k2, k3, k4⟩ := hm.fed hlt (by omega) (by omega) (row_fr HO3.out hf (fun _ _ => id)) hF
        refine ⟨A, c, rfl, k1 0, k2, k3, ?_⟩
        have hblk : ¬ ((ad.add i).block = w.heap.size ∨ u.ownBlock = some (ad.add i).block) := fun h => by
          rcases h with h | h
          · omega
          · have := row_low hm.buf.row h; omega
        exact (k4.cell (by omega) hblk).trans ((hf.cell (by have := HFM3.out.fm.size; omega) id).trans r3))
      clear ho hrp hR hB hncw hcat hnn hFr r0 hrun hs4
      go_wp2_with fail
      go_region_held3 (fun w' => w'.cell? (ad.add i) = some (.slice A' chs[i].length C')) (go_keep)
        (first
          | (go_at_call 14; refine (HFED.out w3.drew (Fr.drew (Fr.refl _ w3))).mono ?_; rintro e w6 ⟨A6, c6, rfl, k1, k2, k3, k4⟩; have HK1 := Lib.hid k1; have HK2 := Lib.hid k2; have HK3 := Lib.hid k3; clear k1 k2 k3)
          | (go_at_call 13; refine HK1.out.mono ?_; rintro e w7 ⟨rfl, n7, rfl⟩)
          | (go_at_call 15; refine (HK2.out _).mono ?_; rintro e w8 ⟨rfl, rfl⟩))
      have HKD : Hid (FJ w4 w.heap.size chs (i + 1) (.slice A1 (catL chs (i + 1)).length c1) (w6.drewN n7)) := Lib.hid ⟨HK3.out.fm.drewN n7, HK3.out.all, by obtain ⟨u, h1, h2⟩ := HK3.out.buf; exact ⟨u, ⟨h1.blk, h1.row⟩, h2⟩⟩
      clear HK1 HK2 HK3 HFED hsl r3 k4
      generalize w6.drewN n7 = w9 at *
      have hib : (i : Int) ≤ 1048576 := by omega
      go_wp2_with fail
      go_roundw
      case rel => exact ⟨i + 1, rfl, by go_num, HLT.out, HKD.out⟩
      case measure => have := HLT.out; simp [intOf]; omega
    · obtain rfl : i = chs.length := by omega
      have d1 : decide (chs.length < chs.length) = false := by simp
      have d1' : decide ((chs.length : Int) < (chs.length : Int)) = false := by simp
      go_wp2_with fail
      go_ret
      exact ⟨rfl, HBelr.out⟩
end Go.Proofs.YtelhkbanohhjhaaDoor.Tx
