/- The walk of TextParts. -/
import Derived.Test.YtelhkbanohhjhaaDoorTxtR
import Derived.Deep.DeepCutAuto
import Derived.Outline
import Derived.Deep.QuietTactic
import Derived.BigQuiet
namespace Go.Proofs.YtelhkbanohhjhaaDoor.Tx
open Go.RowKit Go.Shelf Go.Proofs.YtelhkbanohhjhaaDoor.PFeed Go.Proofs.YtelhkbanohhjhaaDoorW.PrintWords
set_option linter.unusedVariables false
set_option linter.unusedSimpArgs false
/-- What the test on a cut says. -/
def CutB (cs l : List Int) (fr i : Nat) (v : Value) : Prop := ∃ b : Bool, v = .bool b ∧ (b = true → i < cs.length ∧ (fr : Int) ≤ rd cs (i : Int) ∧ rd cs (i : Int) < (l.length : Int))
attribute [local go_sem ↓] app_block
set_option maxRecDepth 100000 in
set_option maxHeartbeats 3200000 in
theorem parts_walk {H : Type} {d0 d1 : DataW H} (A0 : Option Addr) (c0 : Nat) (l : List Int) (A1 : Option Addr) (c1 : Nat) (cs : List Int) (w : World) (m : Int) (b0 : l.length ≤ 1048576) (H0 : Handed .u8 w A0 l.length c0 d0 l) (b1 : cs.length ≤ 1048576) (H1 : Handed .i64 w A1 cs.length c1 d1 cs) (hm : w.cell? ⟨0, 0, none⟩ = some (.int .i64 m)) :
    Calls Tryd.prog 6 #[.slice A0 l.length c0, .slice A1 cs.length c1] w fun e w' => e = .returned (.bool true) ∧ Below w.heap.size w w' := by
  have h0 := World.block_lt_of_cell? w _ hm
  have HM := Lib.hid hm
  have HH0 := Lib.hid H0
  have HH1 := Lib.hid H1
  clear hm H0 H1
  go_enter Tryd.func6, Tryd.ntmps6
  go_wp2_with fail
  refine (new_any w).mono ?_
  rintro e w1 ⟨rfl, rfl⟩
  go_wp2_with fail
  refine (new_any _).mono ?_
  rintro e w2 ⟨rfl, hw2⟩
  have hb2 : Blk w2 w.heap.size 53 [.slice none 0 0, .bool false] := by rw [hw2]; exact (Blk.new' w _ _ [_, _] rfl).alloc _
  have hb2' : Blk w2 (w.heap.size + 1) 53 [.slice none 0 0, .bool false] := by rw [hw2]; exact Blk.new' _ _ _ [_, _] (by simp)
  have hs2 : w2.heap.size = w.heap.size + 2 := by rw [hw2]; simp
  have HB2 := Lib.hid hb2
  have HB2' := Lib.hid hb2'
  have HBel2 : Hid (Below w.heap.size w w2) := Lib.hid (by rw [hw2]; exact (((Below.refl _ w).alloc (Nat.le_refl _) _).alloc (by simp) _))
  have HS2 := Lib.hid hs2
  have hm2 : w2.cell? ⟨0, 0, none⟩ = some (.int .i64 m) := (HBel2.out.cell (p := ⟨0, 0, none⟩) (by exact h0)).trans HM.out
  have HA2 := Lib.hid (alive_any w2 m hm2)
  clear hw2 hb2 hb2' hs2 hm2
  simp only [World.size_alloc]
  go_wp2_with fail
  refine HA2.out.mono ?_
  rintro e w3 ⟨rfl, hb3⟩
  have hw3s := hb3.size
  have HBel3 : Hid (Below w.heap.size w w3) := Lib.hid (HBel2.out.trans (hb3.mono (by have := HS2.out; omega)))
  have hs2 := HS2.out
  have hba : BufAt w3 (w.heap.size + 2) w.heap.size (.slice none 0 0) [] := ⟨HB2.out.below hb3 (by omega), ⟨rfl, .inl ⟨rfl, rfl⟩⟩⟩
  have HBB3 : Hid (Blk w3 (w.heap.size + 1) 53 [.slice none 0 0, .bool false]) := Lib.hid (HB2'.out.below hb3 (by omega))
  have hC3 : Kd.C (Kd.int .u8) w3 A0 l.length l := C_move HH0.out.cells (fun a ha h0 => HBel3.out.block _ (HH0.out.lt a ha h0))
  have hbyt := byt_of HH0.out.wf
  have hg3 : It.good w3 (TT w3 w.heap.size (.slice none 0 0)) ⟨A0, c0, l, false⟩ := good_of_C hC3 (fun a ha h0 => by have := HH0.out.lt a ha h0; exact tt_ok (by omega) (by omega) (by simp [Value.ownBlock])) HH0.out.le b0 hbyt HH0.out.nil
  have HF3 := Lib.hid (feed_any (w.heap.size + 2) w.heap.size (.slice none 0 0) [] A0 c0 l w3 hba (by omega) HH0.out.nil hg3)
  have HBY := Lib.hid hbyt
  have HS3 : Hid (w.heap.size + 2 ≤ w3.heap.size) := Lib.hid (by omega)
  clear hb3 hw3s hs2 hba hC3 hbyt hg3 HA2 HBel2 HB2 HB2'
  go_wp2_with fail
  refine HF3.out.mono ?_
  clear HF3
  rintro e w4 ⟨v4, u4, rfl, ho4, hbf4, hu4, hf4⟩
  have hs4 := hf4.size
  have hs3 := HS3.out
  have HO4 : Hid (w4.ownsRow w3.heap.size 38 2 v4 (gotL l l.length).length (cellsL (gotL l l.length))) := Lib.hid (by
    unfold gotL; rw [List.take_length, List.length_map]; exact ho4)
  have HBA4 : Hid (BufAt w4 (w.heap.size + 2) w.heap.size u4 (keptL l l.length)) := Lib.hid (by
    unfold keptL; rw [List.take_length]; exact hbf4)
  have HBB4 : Hid (BufAt w4 w4.heap.size (w.heap.size + 1) (.slice none 0 0) (keptL l 0)) := Lib.hid ⟨HBB3.out.fr hf4 (fun h => by rcases h with h | h; omega; simp [Value.ownBlock] at h), ⟨rfl, .inl ⟨rfl, rfl⟩⟩⟩
  have HBel4 : Hid (Below w.heap.size w w4) := Lib.hid (HBel3.out.trans (hf4.below (by omega) (fun i hi => by rcases hi with h | h; (have := h; omega); simp [Value.ownBlock] at h)))
  have HS4 : Hid (w.heap.size + 2 ≤ w4.heap.size) := Lib.hid (by omega)
  obtain ⟨A4, c4, rfl⟩ := own_slice HO4.out
  clear hs4 hs3 ho4 hbf4 hu4 hf4 HBB3 HBel3 HS3
  go_wp2_with fail
  go_loopw [8, 9, 10] (fun v8 v9 v10 wl => ∃ fr i : Nat, v9 = .int .i64 fr ∧ v10 = .int .i64 i ∧ i ≤ cs.length + 1 ∧ fr ≤ l.length ∧ (i = cs.length + 1 → fr = l.length) ∧ PI w4 (w.heap.size + 1) l fr v8 wl) (fun _ _ v10 _ => cs.length + 1 - (intOf v10).toNat)
  case atStart => exact ⟨0, 0, rfl, rfl, by omega, by omega, by omega, Fr.refl _ _, ⟨rfl, .inl ⟨rfl, rfl⟩⟩, _, HBB4.out⟩
  case round =>
    obtain ⟨fr, i, rfl, rfl, hi, hfr, hend, hpi⟩ := hrel
    obtain ⟨wo, hwo⟩ : ∃ wo : World, wo = wr := ⟨_, rfl⟩
    have hW4 : ∀ b, b < w4.heap.size → b ≠ w.heap.size + 1 → wr.heap[b]? = w4.heap[b]? := fun b h1 h2 => hpi.fm.block b h1 h2
    have hCC : Kd.C (Kd.int .i64) wr A1 cs.length cs := C_move HH1.out.cells (fun a ha h0 => by
      have hlt := HH1.out.lt a ha h0
      exact (hW4 _ (by have := HS4.out; omega) (by omega)).trans (HBel4.out.block _ hlt))
    have HCC := Lib.hid hCC
    have HPI := Lib.hid hpi
    have HW4 := Lib.hid hW4
    have HEND := Lib.hid hend
    clear hCC hpi hW4 hend hwo
    by_cases hlt : i ≤ cs.length
    · have d1 : decide ((i : Int) ≤ (cs.length : Int)) = true := by simp; omega
      have d1' : decide (i ≤ cs.length) = true := by simpa using hlt
      go_upto_region 11 with (fail)
      go_cut [56] (fun v wx => CutB cs l fr i v ∧ wx = wr)
      case first =>
        by_cases hic : i < cs.length
        · obtain ⟨ad, hA, hcell⟩ := Kd.at_int HCC.out (i : Int) (by omega) (by omega)
          have e1 : decide (i < cs.length) = true := by simpa using hic
          rw [Int.toNat_natCast] at hcell
          subst hA
          generalize hz : rd cs (i : Int) = z at *
          have HZ := Lib.hid hz
          clear hz
          cases g1 : decide ((fr : Int) ≤ z)
          · go_wp2_with fail
            go_meet
            exact ⟨⟨false, rfl, fun h => by cases h⟩, rfl⟩
          · cases g2 : decide (z < (l.length : Int))
            · go_wp2_with fail
              go_meet
              exact ⟨⟨false, rfl, fun h => by cases h⟩, rfl⟩
            · go_wp2_with fail
              go_meet
              exact ⟨⟨true, rfl, fun _ => by rw [HZ.out]; exact ⟨hic, by simpa using g1, by simpa using g2⟩⟩, rfl⟩
        · have e1 : decide (i < cs.length) = false := by simpa using hic
          go_wp2_with fail
          go_meet
          exact ⟨⟨false, rfl, fun h => by cases h⟩, rfl⟩
      case rest =>
        obtain ⟨⟨b, rfl, hcut1⟩, hwx⟩ := hcut
        have hwx' := hwx.symm
        subst hwx'
        have HCUT := Lib.hid hcut1
        clear hcut1 hwx d1 d1'
        go_upto_if 56 with (fail)
        go_cut [11] (fun v wx => ∃ q : Nat, fr ≤ q ∧ q ≤ l.length ∧ (i = cs.length → q = l.length) ∧ v = .int .i64 q ∧ wx = wr)
        case first =>
          cases b
          · go_wp2_with fail
            go_meet
            exact ⟨l.length, hfr, Nat.le_refl _, fun _ => rfl, rfl, rfl⟩
          · obtain ⟨k1, k2, k3⟩ := HCUT.out rfl
            obtain ⟨ad, hA, hcell⟩ := Kd.at_int HCC.out (i : Int) (by omega) (by omega)
            have e1 : decide (i < cs.length) = true := by simpa using k1
            rw [Int.toNat_natCast] at hcell
            obtain ⟨z, hz⟩ : ∃ z : Nat, rd cs (i : Int) = (z : Int) := ⟨(rd cs (i : Int)).toNat, by omega⟩
            rw [hz] at hcell k2 k3
            subst hA
            clear hz
            go_wp2_with fail
            go_meet
            exact ⟨z, by omega, by omega, fun h => by omega, rfl, rfl⟩
        case rest =>
          obtain ⟨q, hq1, hq2, hq3, rfl, hwx⟩ := hcut
          have hwx' := hwx.symm
          subst hwx'
          have HQ3 := Lib.hid hq3
          have HQ := Lib.hid (And.intro hq1 hq2)
          have hc0 := HH0.out.le
          have hs4 := HS4.out
          have hszr := HPI.out.fm.size
          obtain ⟨u, hu⟩ := HPI.out.buf
          have hCr : Kd.C (Kd.int .u8) wr A0 l.length l := C_move HH0.out.cells (fun a ha h0 => by
            have hlt := HH0.out.lt a ha h0
            exact (HW4.out _ (by omega) (by omega)).trans (HBel4.out.block _ hlt))
          have hgr : It.good wr (TT wr (w.heap.size + 1) u) ⟨A0, c0, l, false⟩ := good_of_C hCr (fun a ha h0 => by
            have hlt := HH0.out.lt a ha h0
            exact tt_ok (by omega) (by omega) (fun e => by have := row_low hu.row e; omega)) hc0 b0 HBY.out HH0.out.nil
          have hgc := cut_good hgr fr q hq1 hq2
          have HF := Lib.hid (feed_any w4.heap.size (w.heap.size + 1) u (keptL l fr) (cutA A0 c0 fr) (c0 - fr) ((l.drop fr).take (q - fr)) wr hu (by omega) hgc.2.2.2.2 hgc)
          rw [cut_len l fr q hq1 hq2] at HF
          have hsl := slice_run wr A0 l.length c0 fr q hq1 (by omega)
          have HUB := Lib.hid hu
          have HCL := Lib.hid hc0
          obtain ⟨A8, c8, rfl⟩ := own_slice HPI.out.got
          clear hq1 hq2 hq3 hfr hc0 hgc hgr hCr hu hszr hwx
          go_wp2_with fail
          refine HF.out.mono ?_
          rintro e w6 hF6
          obtain ⟨A6, n6, c6, v7, w7, rfl, hrun7, hpi7⟩ := HPI.out.step HUB.out (by have := HS4.out; omega) HQ.out.1 b0 hF6
          have HPI7 := Lib.hid hpi7
          clear hF6 hpi7 HF hsl HUB
          obtain ⟨A7, c7, rfl⟩ := own_slice HPI7.out.got
          obtain ⟨u7, hu7⟩ := HPI7.out.buf
          have p7 := hu7.blk.cell 0
          obtain ⟨Au, cu, rfl⟩ := own_slice hu7.row
          have hnb := bufL_len (keptL l q)
          simp only [List.getElem?_cons_zero] at p7
          clear hu7
          generalize (bufL (keptL l q)).length = nb at *
          have HL7 := Lib.hid (len_any w7 (w.heap.size + 1) Au nb cu p7 (by omega))
          have d7 : decide ((65536 : Int) < (nb : Int)) = false := by simp; omega
          clear p7
          go_wp2_with fail
          refine HL7.out.mono ?_
          rintro e w8 ⟨rfl, rfl⟩
          clear hrun7
          go_wp2_with fail
          refine HL7.out.mono ?_
          rintro e w9 ⟨rfl, rfl⟩
          go_wp2_with fail
          go_roundw
          case rel => exact ⟨q, i + 1, rfl, by go_num, by omega, HQ.out.2, fun h => HQ3.out (by omega), HPI7.out⟩
          case measure => simp [intOf]; omega
    · obtain rfl : i = cs.length + 1 := by omega
      have hfe := HEND.out rfl
      subst hfe
      have d1 : decide (((cs.length + 1 : Nat) : Int) ≤ (cs.length : Int)) = false := by simp; omega
      have d1' : decide (((cs.length : Nat) : Int) + 1 ≤ (cs.length : Int)) = false := by simp; omega
      have d1'' : decide (cs.length + 1 ≤ cs.length) = false := by simp
      have hs4 := HS4.out
      have hq4 : wr.ownsRow w3.heap.size 38 2 (.slice A4 (gotL l l.length).length c4) (gotL l l.length).length (cellsL (gotL l l.length)) := row_fr HO4.out HPI.out.fm (fun k hk e => by
        obtain ⟨vs, q⟩ := row_blk HO4.out hk
        subst e
        exact absurd (blk_type q HBB4.out.blk) (by decide))
      have hq8 := HPI.out.got
      obtain ⟨A8, c8, rfl⟩ := own_slice hq8
      have pa := (HBA4.out.blk.fr HPI.out.fm (by omega)).cell 0
      obtain ⟨Aa, ca, rfl⟩ := own_slice HBA4.out.row
      obtain ⟨ub, hub⟩ := HPI.out.buf
      have pb := hub.blk.cell 0
      obtain ⟨Ab, cb, rfl⟩ := own_slice hub.row
      have hnb := bufL_len (keptL l l.length)
      simp only [List.getElem?_cons_zero] at pa pb
      have HBelr : Hid (Below w.heap.size w wr) := Lib.hid (HBel4.out.trans (HPI.out.fm.below (by omega) (fun i hi => by have := hi; omega)))
      have HQ4 := Lib.hid hq4
      have HQ8 := Lib.hid hq8
      clear hub hq4 hq8 hlt
      generalize (bufL (keptL l l.length)).length = nb at *
      have hLn := gotL_len l l.length
      generalize gotL l l.length = L at *
      have hLb : L.length ≤ 1048576 := by omega
      have HLA := Lib.hid (len_any wr w.heap.size Aa nb ca pa (by omega))
      have HLB := Lib.hid (len_any wr (w.heap.size + 1) Ab nb cb pb (by omega))
      clear pa pb hnb
      go_wp2_with fail
      refine HLA.out.mono ?_
      rintro e w9 ⟨rfl, hw9⟩
      subst hw9
      go_wp2_with fail
      refine HLB.out.mono ?_
      rintro e w9 ⟨rfl, hw9⟩
      subst hw9
      go_wp2_with fail
      go_loopw [12] (fun v wl => ∃ j nq : Nat, j ≤ L.length ∧ v = .int .i64 j ∧ wl = w9.drewN nq) (fun v _ => L.length - (intOf v).toNat)
      case atStart => exact ⟨0, 0, by omega, rfl, rfl⟩
      case round =>
        obtain ⟨j, n0, hj, rfl, hwl⟩ := hrel
        subst hwl
        by_cases hjl : j < L.length
        · have d2 : decide (j < L.length) = true := by simpa using hjl
          have d3 : decide ((j : Int) < (L.length : Int)) = true := by simp; omega
          obtain ⟨g8, c8', e8, _, hcell8⟩ := own_cells HQ8.out (by omega)
          obtain ⟨g4, c4', e4, _, hcell4⟩ := own_cells HQ4.out (by omega)
          injection e8 with e8a _ e8b
          injection e4 with e4a _ e4b
          subst e8a e8b e4a e4b
          obtain ⟨k0, k1⟩ := cellsL_at L j hjl
          have a0 : w9.cell? ⟨g8, j * 2, none⟩ = _ := hcell8 (j * 2) _ (by rw [Nat.mul_comm]; exact k0)
          have a1 : w9.cell? ⟨g8, j * 2 + 1, none⟩ = _ := hcell8 (j * 2 + 1) _ (by rw [Nat.mul_comm]; exact k1)
          have a2 : w9.cell? ⟨g4, j * 2, none⟩ = _ := hcell4 (j * 2) _ (by rw [Nat.mul_comm]; exact k0)
          have a3 : w9.cell? ⟨g4, j * 2 + 1, none⟩ = _ := hcell4 (j * 2 + 1) _ (by rw [Nat.mul_comm]; exact k1)
          generalize L[j].f0 = s at *
          generalize L[j].f1 = x at *
          have HJL := Lib.hid hjl
          have hjb : (j : Int) ≤ 1048576 := by omega
          clear hcell8 hcell4 k0 k1
          go_wp2_with fail
          go_quiet (fail)
          go_wp2_with fail
          go_roundw
          case rel => exact ⟨j + 1, n0 + nq, HJL.out, by go_num, rfl⟩
          case measure => have := HJL.out; simp [intOf]; omega
        · obtain rfl : j = L.length := by omega
          have d2 : decide (L.length < L.length) = false := by simp
          have d3 : decide ((L.length : Int) < (L.length : Int)) = false := by simp
          have HBn : Hid (Below w.heap.size w (w9.drewN n0)) := Lib.hid (Below.drewN HBelr.out n0)
          have HFN := Lib.hid (fun wx => feed_nil wx (.slice A0 l.length c0) ⟨_, _, _, rfl⟩)
          clear HLA HLB
          generalize w9.drewN n0 = wn at *
          go_wp2_with fail
          refine (HFN.out wn).mono ?_
          rintro e wx ⟨rfl, hbx⟩
          have HBx := Lib.hid (HBn.out.trans (hbx.mono HBn.out.size))
          clear hbx
          go_wp2_with fail
          refine (len_nil wx).mono ?_
          rintro e wy ⟨rfl, hwy⟩
          subst hwy
          go_wp2_with fail
          go_ret
          exact ⟨rfl, HBx.out⟩
end Go.Proofs.YtelhkbanohhjhaaDoor.Tx
