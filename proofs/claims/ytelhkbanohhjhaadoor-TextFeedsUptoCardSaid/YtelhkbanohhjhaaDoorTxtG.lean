/- Contract of package text's iterator: what 'pieces' of a chunk gives, one by one. -/
import Derived.Test.YtelhkbanohhjhaaDoorTxtD
import Derived.Test.YtelhkbanohhjhaaDoorTxtE
import Derived.Test.YtelhkbanohhjhaaDoorTxtF
import Derived.Test.YtelhkbanohhjhaaDoorShelf
import Derived.RangeFuncNested
import Derived.RangeFuncLeaves
import Derived.Shelf.Abstract
import Derived.OwnWalkIn
import Derived.TacticsInMore
import Derived.LoopNIn
import Derived.LoopIn
import Derived.BigFrameIn
namespace Go.Proofs.YtelhkbanohhjhaaDoor.Tx
open Go.RowKit Go.Shelf Go.Proofs.YtelhkbanohhjhaaDoorW.PrintWords
set_option linter.unusedVariables false
set_option linter.unusedSimpArgs false

structure It where
  A : Option Addr
  c : Nat
  l : List Int
  e : Bool
def It.key (x : It) : List Int × Bool := (x.l, x.e)
/-- A piece that lies in memory kept from world w on. -/
def It.good (w : World) (T : Nat → Prop) (x : It) : Prop := x.l.length ≤ x.c ∧ x.l.length ≤ 1048576 ∧ Byt x.l ∧ (∀ W', KpT T w W' → Kd.C (Kd.int .u8) W' x.A x.l.length x.l) ∧ (x.A = none → x.c = 0)
abbrev ItG (w : World) (T : Nat → Prop) := { x : It // It.good w T x }
abbrev encP {w : World} {T : Nat → Prop} (x : ItG w T) : Array Value := #[.slice x.1.A x.1.l.length x.1.c, .bool x.1.e]

theorem index_ten (A : Option Addr) (c : Nat) (l : List Int) (w : World) (hb : Byt l) (hA : A = none → c = 0) (hr : Kd.C (Kd.int .u8) w A l.length l) :
    Calls Tryd.prog 33 #[.slice A l.length c, .int .u8 10] w fun e w' => e = .returned (.int .i64 (Lib.indexByte (Lib.bytesOf l) 10)) ∧ w = w' := by
  cases A with
  | none =>
    have h0 : l = [] := by
      cases l with
      | nil => rfl
      | cons x l => obtain ⟨ad, h, _⟩ := Kd.at_int hr 0 (by omega) (by simp); cases h
    subst h0
    obtain rfl := hA rfl
    refine (Tryd.bytes_IndexByte_nil 10 w).mono ?_
    rintro e w' ⟨rfl, rfl⟩
    exact ⟨rfl, rfl⟩
  | some a =>
    refine (Tryd.bytes_IndexByte_at a l.length c l 10 w rfl (fun i hi => ?_)).mono ?_
    · obtain ⟨ad, h, hc⟩ := Kd.at_int hr i (by omega) (by omega)
      cases h
      simpa [rd] using hc
    · rintro e w' ⟨rfl, rfl⟩
      exact ⟨rfl, rfl⟩

theorem good_take {w : World} {T : Nat → Prop} {A : Option Addr} {c : Nat} {r : List Int} {b b' : Bool} (h : It.good w T ⟨A, c, r, b⟩) (j : Nat) (hj : j ≤ r.length) : It.good w T ⟨A, c, r.take j, b'⟩ := by
  obtain ⟨h1, h2, h3, h4, h5⟩ := h
  have hl : (r.take j).length ≤ r.length := by simp; omega
  exact ⟨Nat.le_trans hl h1, Nat.le_trans hl h2, h3.take j, fun W' hW => Kd.C_take (h4 W' hW) hj, h5⟩
theorem good_drop {w : World} {T : Nat → Prop} {ad : Addr} {c : Nat} {r : List Int} {b b' : Bool} (h : It.good w T ⟨some ad, c, r, b⟩) (m : Nat) (hm : m ≤ r.length) :
    It.good w T ⟨if c = m then some ad else some (ad.add m), c - m, r.drop m, b'⟩ := by
  obtain ⟨h1, h2, h3, h4, h6⟩ := h
  refine ⟨by simp only [List.length_drop]; simp only at h1; omega, by simp only [List.length_drop]; simp only at h2; omega, h3.drop m, fun W' hW => ?_, fun h => by simp only at h; split at h <;> cases h⟩
  have h5 := Kd.C_drop (h4 W' hW) (m := m) hm h1
  have e : (if c = m then some ad else some (ad.add m)) = (if c = m then some ad else (some ad).map (fun x => x.add (m * (Kd.int .u8).sz))) := by
    rw [show m * (Kd.int IntKind.u8).sz = m from Nat.mul_one _]; rfl
  simp only
  rw [e]; exact h5
set_option maxRecDepth 100000 in
set_option maxHeartbeats 2000000 in
theorem iter_box (n : Nat) (hn : 1 ≤ n) (bx : Nat) (w : World) (T : Nat → Prop) (hT : ∀ k, T k → k < w.heap.size) (hbT : ¬ T bx) (A : Option Addr) (c : Nat) (l : List Int) (hA : A = none → c = 0) (hg : It.good w T ⟨A, c, l, false⟩)
    (w1 : World) (hw1 : KpT T w w1) (hbx : Blk w1 bx 22 [.slice A l.length c]) :
    SeqBox Fence.wide n Tryd.prog 32 #[.pointer (some ⟨bx, 0, none⟩)] (encP (w := w) (T := T)) bx (fun k => T k ∨ k = bx) (fun xs => xs.map (fun x => x.1.key) = pcs [] l) (l.length + 1) w1 := by
  intro lp J W hW hJ hJb hY h0
  refine callsIn_of_wp Tryd.func32 rfl trivial ?_ rfl
  simp only [Tryd.ntmps32, List.size_toArray, List.length_cons, List.length_nil, Nat.reduceAdd, Nat.reduceSub, Array.replicate_succ, Array.replicate_zero, List.push_toArray, List.append_toArray, List.nil_append, List.cons_append]
  have hbW : Blk W bx 22 [.slice A l.length c] := hbx.below hW hbx.lt
  have hkW : KpT T w W := hw1.trans ⟨fun k hk => hW.block k (Nat.lt_of_lt_of_le (hT k hk) hw1.2), hW.size⟩
  have HY := Lib.hid hY
  have HG := Lib.hid hg
  have HJB := Lib.hid hJb
  have H0 := Lib.hid h0
  have HBW := Lib.hid hbW
  have HKW := Lib.hid hkW
  have HA := Lib.hid hA
  clear hY hg hJb h0 hbW hkW hA hw1 hbx hW
  gi_wp2
  gi_loopw [3] (fun i wr => ∃ (r : List Int) (pre : List (ItG w T)) (A2 : Option Addr) (c2 : Nat), It.good w T ⟨A2, c2, r, false⟩ ∧ (A2 = none → c2 = 0) ∧ pre.length + r.length ≤ l.length ∧ pcs [] l = pre.map (fun x => x.1.key) ++ pcs [] r ∧ J pre wr ∧ Blk wr bx 22 [.slice A2 r.length c2] ∧ KpT T w wr)
    (fun _ wr => match wr.cell? ⟨bx, 0, none⟩ with | some (.slice _ n _) => n | _ => 0)
  case atStart => exact ⟨l, [], A, c, HG.out, HA.out, by simp, by simp, H0.out, HBW.out, HKW.out⟩
  case round =>
    obtain ⟨r, pre, A2, c2, hg, ha, hlen, hp, hj, hb, hk⟩ := hrel
    have c0 := hb.cell 0
    have f0 := hb.free 0
    simp only [List.getElem?_cons_zero] at c0
    have HIX := Lib.hid (fun w' (h : Kd.C (Kd.int .u8) w' A2 r.length r) => index_ten A2 c2 r w' hg.2.2.1 ha h)
    have HC := Lib.hid (hg.2.2.2.1 _ hk)
    have HPC := Lib.hid hp
    have HG2 := Lib.hid hg
    have HJ2 := Lib.hid hj
    have HB2 := Lib.hid hb
    have HK2 := Lib.hid hk
    have HB2T := hg.2.1
    have hc2 : r.length ≤ c2 := hg.1
    rcases ix_spec r hg.2.2.1 with ⟨hi, hno⟩ | ⟨j, t, hi, hr, hno, hjl, ht⟩
    · have HI := Lib.hid hi
      have HN := Lib.hid hno
      have HYX := Lib.hid (HY.out pre ⟨⟨A2, c2, r, false⟩, HG2.out⟩ wr hj (by omega))
      clear hi hno hp hg hj hb hk ha
      gi_wp2_with fail
      refine ⟨trivial, (callsIn_wide.2 (HIX.out _ HC.out)).mono ?_⟩
      rintro e w' ⟨rfl, rfl⟩
      rw [HI.out]
      obtain ⟨fn, tmps, assign, body, hy, hR⟩ := HYX.out
      dsimp only [encP] at hy
      gi_wp2
      refine hR.mono ?_
      rintro e W3 ⟨rfl, hJ3, hk3⟩
      gi_wp2
      refine bodyPost_ret (results_none rfl _ _ _) rfl ?_
      refine ⟨⟨_, rfl⟩, _, ?_, hJ3⟩
      rw [HPC.out, pcs_no r [] HN.out]; simp [It.key]
    · have HI := Lib.hid hi
      have HR := Lib.hid hr
      have HN := Lib.hid hno
      have HTT := Lib.hid ht
      obtain ⟨ad, had, _⟩ := Kd.at_int HC.out 0 (Int.le_refl 0) (show (0 : Int) < (r.length : Nat) by omega)
      subst had
      have hlj : (r.take j).length = j := by simp; omega
      have HLJ := Lib.hid hlj
      have HGT : Hid (It.good w T ⟨some ad, c2, r.take j, true⟩) := Lib.hid (good_take HG2.out j (by omega))
      have HGD : Hid (It.good w T ⟨if c2 = j + 1 then some ad else some ⟨ad.block, ad.off + (j + 1), none⟩, c2 - (j + 1), t, false⟩) := Lib.hid (by
        have h := good_drop (b' := false) HG2.out (j + 1) (by omega)
        have e : ad.add (j + 1) = ⟨ad.block, ad.off + (j + 1), none⟩ := by simp [Addr.add]
        rw [e] at h
        rw [ht]; exact h)
      have C0 := Lib.hid c0
      have HYX : Hid _ := Lib.hid (HY.out pre ⟨⟨some ad, c2, r.take j, true⟩, HGT.out⟩ wr hj (by omega))
      have htl : t.length = r.length - (j + 1) := by rw [ht]; simp
      have HTL := Lib.hid htl
      have hd1 : decide ((j : Int) < 0) = false := by simp
      clear hi hr hno ht hp hg hj hb hk ha hlj htl
      gi_wp2_with fail
      refine ⟨trivial, (callsIn_wide.2 (HIX.out _ HC.out)).mono ?_⟩
      rintro e w' ⟨rfl, rfl⟩
      rw [HI.out]
      obtain ⟨fn, tmps, assign, body, hy, hR⟩ := HYX.out
      dsimp only [encP] at hy
      rw [HLJ.out] at hy
      gi_wp2
      refine hR.mono ?_
      rintro e W3 ⟨rfl, hJ3, hk3⟩
      have hb3 : Blk W3 bx 22 [.slice (some ad) r.length c2] := (hk3.1 bx (.inr rfl)).trans HB2.out
      have c3 := hb3.cell 0
      have f3 := hb3.free 0
      simp only [List.getElem?_cons_zero] at c3
      have hk4 : KpT T w W3 := HK2.out.trans (hk3.mono fun k h => .inl h)
      have P : Hid (∀ v, J (pre ++ [⟨⟨some ad, c2, r.take j, true⟩, HGT.out⟩]) (W3.setCell ⟨bx, 0, none⟩ v) ∧ Blk (W3.setCell ⟨bx, 0, none⟩ v) bx 22 [v] ∧ KpT T w (W3.setCell ⟨bx, 0, none⟩ v)) := Lib.hid (fun v =>
        ⟨HJB.out _ _ _ hJ3, by simpa using hb3.set 0 v, hk4.trans (KpT.set _ _ _ _ hbT)⟩)
      clear hk3 hJ3 hb3 hk4 c0 f0
      gi_wp2
      go_roundw
      case rel =>
        refine ⟨t, _, _, _, HGD.out, ?_, ?_, ?_, (P.out _).1, ?_, (P.out _).2.2⟩
        · intro h; split at h <;> cases h
        · simp only [List.length_append, List.length_cons, List.length_nil]; have := HTL.out; omega
        · rw [HPC.out]
          have e : pcs [] r = (r.take j, true) :: pcs [] t := by
            conv => lhs; rw [HR.out]
            rw [pcs_ten _ _ _ HN.out]; rfl
          rw [e]; simp [It.key]
        · rw [HTL.out]; exact (P.out _).2.1
      case measure =>
        have h1 := fun v => (P.out v).2.1.cell 0
        simp only [List.getElem?_cons_zero] at h1
        rw [h1, C0.out]
        show r.length - (j + 1) < r.length
        omega
end Go.Proofs.YtelhkbanohhjhaaDoor.Tx
