/- The statements' common part: alive. -/
import Derived.Test.YtelhkbanohhjhaaDoorTxtJ
import Derived.Lib.SlBytesConst
namespace Go.Proofs.YtelhkbanohhjhaaDoor.Tx
open Go.RowKit Go.Shelf Go.Proofs.YtelhkbanohhjhaaDoor.PFeed Go.Proofs.YtelhkbanohhjhaaDoorW.PrintWords
set_option linter.unusedVariables false
set_option linter.unusedSimpArgs false
/-- A slice of bytes that a block of its own holds (a constant's: its mark stands behind). -/
theorem lit_good {w : World} {T : Nat → Prop} {k : Nat} {l : List Int} {fz : Nat × Nat} (hb : w.heap[k]? = some (.cells (nums .u8 l).toArray 5 fz)) (hT : T k) (hbyt : Byt l) (hl : l.length ≤ 1048576) : It.good w T ⟨some ⟨k, 0, none⟩, l.length, l, false⟩ := by
  refine ⟨Nat.le_refl _, hl, hbyt, fun W' hk => ?_, fun h => by cases h⟩
  have hb' : W'.heap[k]? = some (.cells (nums .u8 l).toArray 5 fz) := (hk.1 k hT).trans hb
  refine ⟨rfl, by show l.length ≤ _; omega, fun _ => ⟨_, rfl, fun j p hp => ⟨[.int .u8 p], rfl, rfl, fun i u hu => ?_⟩⟩⟩
  have hi : i = 0 := by
    have := (List.getElem?_eq_some_iff.1 hu).1
    simp at this; exact this
  subst hi
  simp at hu
  subst hu
  show W'.cell? ((⟨k, 0, none⟩ : Addr).add (j * 1 + 0)) = some (.int .u8 p)
  have e : (⟨k, 0, none⟩ : Addr).add (j * 1 + 0) = ⟨k, j, none⟩ := by rw [Nat.mul_one, Nat.add_zero]; simp [Addr.add]; exact fun h => h.symm
  rw [e]
  have hp' : l[j]? = some p := hp
  simp [World.cell?, hb', nums, hp']
theorem own_cells {W : World} {base : Nat} {e : TypeId} {size n : Nat} {v : Value} {xs : List Value} (h : W.ownsRow base e size v n xs) (hn : 0 < n) : ∃ g c, v = .slice (some ⟨g, 0, none⟩) n c ∧ n ≤ c ∧ ∀ j u, xs[j]? = some u → W.cell? ⟨g, j, none⟩ = some u := by
  rcases h.2 with ⟨_, h0⟩ | ⟨g, cap, cur, rfl, hg, hh, hc, hm, hs, ht⟩
  · omega
  · refine ⟨g, cap, rfl, hc, fun j u hu => ?_⟩
    have hb : Blk W g e cur.toList := by unfold Blk; simpa using hh
    have := hb.cell j
    rw [← ht] at hu
    have hj : cur.toList[j]? = some u := by
      have hlt := (List.getElem?_eq_some_iff.1 hu).1
      rw [List.getElem?_take_of_lt (by simp at hlt; omega)] at hu
      exact hu
    rw [hj] at this
    exact this
theorem tt_ok {w : World} {bb : Nat} {v0 : Value} {k : Nat} (h1 : k < w.heap.size) (h2 : k ≠ bb) (h3 : v0.ownBlock ≠ some k) : TT w bb v0 k := ⟨h1, h2, h3⟩
set_option maxRecDepth 100000 in
set_option maxHeartbeats 1600000 in
theorem alive_any (w : World) (m : Int) (hm : w.cell? ⟨0, 0, none⟩ = some (.int .i64 m)) :
    Calls Tryd.prog 10 #[] w fun e w' => e = .returned (.bool true) ∧ Below w.heap.size w w' := by
  have h0 := World.block_lt_of_cell? w _ hm
  have HM := Lib.hid hm
  clear hm
  go_enter Tryd.func10, Tryd.ntmps10
  go_wp2_with fail
  refine (new_any w).mono ?_
  rintro e w1 ⟨rfl, rfl⟩
  have hb1 : Blk (w.alloc (.cells #[.slice none 0 0, .bool false] 53)) w.heap.size 53 [.slice none 0 0, .bool false] := Blk.new' _ _ _ [_, _] rfl
  have HBel1 : Hid (Below w.heap.size w (w.alloc (.cells #[.slice none 0 0, .bool false] 53))) := Lib.hid ((Below.refl _ w).alloc (Nat.le_refl _) _)
  have hs1 : (w.alloc (.cells #[.slice none 0 0, .bool false] 53)).heap.size = w.heap.size + 1 := by simp
  have HB1 := Lib.hid hb1
  have HS1 := Lib.hid hs1
  clear hb1 hs1
  generalize (w.alloc (.cells #[.slice none 0 0, .bool false] 53)) = w1 at *
  have hcv := Lib.run_convert_bytes_const (P := Tryd.prog) w1 22 5 #[.int .u8 97, .int .u8 98] 2 2 Tryd.underlying22 Tryd.underlying5
  go_wp2_with fail
  clear hcv
  have hw2s : ∃ w2, w2 = w1.alloc (.cells #[.int .u8 97, .int .u8 98] 5 (2, 3)) := ⟨_, rfl⟩
  obtain ⟨w2, hw2⟩ := hw2s
  have hs2 : w2.heap.size = w.heap.size + 2 := by rw [hw2]; simp [HS1.out]
  have hb2 : w2.heap[w1.heap.size]? = some (.cells (nums .u8 [97, 98]).toArray 5 (2, 3)) := by rw [hw2]; exact World.alloc_heap_new _ _
  have hbuf2 : BufAt w2 (w.heap.size + 2) w.heap.size (.slice none 0 0) [] := ⟨by rw [hw2]; exact HB1.out.alloc _, ⟨rfl, .inl ⟨rfl, rfl⟩⟩⟩
  have HBel2 : Hid (Below w.heap.size w w2) := Lib.hid (by rw [hw2]; exact HBel1.out.alloc (by have := HS1.out; omega) _)
  have hw1 := HS1.out
  have hg2 : It.good w2 (TT w2 w.heap.size (.slice none 0 0)) ⟨some ⟨w1.heap.size, 0, none⟩, 2, [97, 98], false⟩ := lit_good (l := [97, 98]) hb2 (tt_ok (by omega) (by omega) (by simp [Value.ownBlock])) (by unfold Byt; decide) (by decide)
  have HF2 := Lib.hid (feed_any (w.heap.size + 2) w.heap.size (.slice none 0 0) [] (some ⟨w1.heap.size, 0, none⟩) 2 [97, 98] w2 hbuf2 (by omega) (fun h => by cases h) hg2)
  have HG2 := Lib.hid hs2
  have hbu : w.heap.size < w1.heap.size := by omega
  rw [← hw2]
  clear hw2 hg2 hbuf2 hb2 hs2
  refine HF2.out.mono ?_
  clear HF2
  rintro e w3 ⟨v3, u3, rfl, ho3, hbf3, hu3, hfr3⟩
  rw [show spl [] [97, 98] = ([], [97, 98]) by kernel_rfl] at ho3 hbf3
  obtain ⟨A3, c3, rfl⟩ := own_slice ho3
  have HBel3 : Hid (Below w.heap.size w w3) := Lib.hid (HBel2.out.trans (hfr3.below (by have := HG2.out; omega) (fun i hi => by rcases hi with hi | hi; (have := hi; omega); simp [Value.ownBlock] at hi)))
  have HS3 : Hid (w.heap.size + 2 ≤ w3.heap.size) := Lib.hid (by have := hfr3.size; have := HG2.out; omega)
  have HBF3 := Lib.hid hbf3
  clear ho3 hbf3 hu3 hfr3 HBel2 HB1 HBel1
  have hcv := Lib.run_convert_bytes_const (P := Tryd.prog) w3 22 5 #[.int .u8 99, .int .u8 10, .int .u8 100, .int .u8 10, .int .u8 10] 5 5 Tryd.underlying22 Tryd.underlying5
  simp only [List.length_nil]
  go_wp2_with fail
  clear hcv
  obtain ⟨w4, hw4⟩ : ∃ w4, w4 = w3.alloc (.cells #[.int .u8 99, .int .u8 10, .int .u8 100, .int .u8 10, .int .u8 10] 5 (5, 6)) := ⟨_, rfl⟩
  have hs4 : w4.heap.size = w3.heap.size + 1 := by rw [hw4]; simp
  have hb4 : w4.heap[w3.heap.size]? = some (.cells (nums .u8 [99, 10, 100, 10, 10]).toArray 5 (5, 6)) := by rw [hw4]; exact World.alloc_heap_new _ _
  have hbuf4 : BufAt w4 (w.heap.size + 2) w.heap.size u3 [97, 98] := by rw [hw4]; exact ⟨HBF3.out.blk.alloc _, HBF3.out.row.alloc _⟩
  have hlt : w.heap.size < w3.heap.size := HBF3.out.blk.lt
  have HBel4 : Hid (Below w.heap.size w w4) := Lib.hid (by rw [hw4]; exact HBel3.out.alloc (by omega) _)
  have hune : u3.ownBlock ≠ some w3.heap.size := fun e => by
    obtain ⟨vs, q⟩ := row_blk HBF3.out.row e
    exact absurd q.lt (Nat.lt_irrefl _)
  have hg4 : It.good w4 (TT w4 w.heap.size u3) ⟨some ⟨w3.heap.size, 0, none⟩, 5, [99, 10, 100, 10, 10], false⟩ := lit_good (l := [99, 10, 100, 10, 10]) hb4 (tt_ok (by omega) (by omega) hune) (by unfold Byt; decide) (by decide)
  have HF4 := Lib.hid (feed_any (w.heap.size + 2) w.heap.size u3 [97, 98] (some ⟨w3.heap.size, 0, none⟩) 5 [99, 10, 100, 10, 10] w4 hbuf4 (by have := HS3.out; omega) (fun h => by cases h) hg4)
  have HG4 : Hid (w.heap.size < w4.heap.size ∧ ∀ k, u3.ownBlock = some k → w.heap.size ≤ k) := Lib.hid ⟨by omega, fun k hk => by
    rcases HBF3.out.row.2 with ⟨e, _⟩ | ⟨g, cap, cur, e, hg, _⟩
    · rw [e] at hk; simp [Value.ownBlock] at hk
    · rw [e] at hk; simp [Value.ownBlock] at hk; omega⟩
  rw [← hw4]
  clear hw4 hg4 hbuf4 hb4 hs4 hune HBF3 HBel3
  refine HF4.out.mono ?_
  clear HF4
  rintro e w5 ⟨v5, u5, rfl, ho5, hbf5, hu5, hfr5⟩
  rw [show spl [97, 98] [99, 10, 100, 10, 10] = ([[97, 98, 99], [100], []], []) by kernel_rfl] at ho5
  rw [show (([[97, 98, 99], [100], []] : List (List Int)).map lnOf) = [⟨⟨#[97, 98, 99]⟩, 0⟩, ⟨⟨#[100]⟩, 0⟩, ⟨⟨#[]⟩, 0⟩] by kernel_rfl] at ho5
  have HBel5 : Hid (Below w.heap.size w w5) := Lib.hid (HBel4.out.trans (hfr5.below (by have := HG4.out.1; omega) (fun i hi => by rcases hi with hi | hi; (have := hi; omega); exact HG4.out.2 i hi)))
  obtain ⟨g5, c5, rfl, hc5, hcell⟩ := own_cells ho5 (by decide)
  have k0 := hcell 0 _ rfl
  have k2 := hcell 2 _ rfl
  have hm5 : w5.cell? ⟨0, 0, none⟩ = some (.int .i64 m) := (HBel5.out.cell (p := ⟨0, 0, none⟩) (by exact h0)).trans HM.out
  have HCUT := Lib.hid (cut_any ⟨#[32, 32, 97, 32, 32, 98]⟩ w5 m (by decide) hm5)
  clear ho5 hbf5 hu5 hfr5 hcell hm5 HBel4 HG4 HS3
  simp only [List.length_cons, List.length_nil]
  go_wp2_with fail
  refine HCUT.out.mono ?_
  rintro e w6 ⟨rfl, n6, rfl⟩
  rw [show (cutTxt ⟨#[32, 32, 97, 32, 32, 98]⟩) = (⟨#[97]⟩, ⟨#[32, 98]⟩) by kernel_rfl]
  have k0' : (w5.drewN n6).cell? ⟨g5, 0, none⟩ = _ := k0
  have k2' : (w5.drewN n6).cell? ⟨g5, 2, none⟩ = _ := k2
  have HBel6 : Hid (Below w.heap.size w (w5.drewN n6)) := Lib.hid (HBel5.out.trans (((Fr.refl (fun _ => False) w5).drewN n6).below HBel5.out.size (fun _ h => h.elim)))
  clear k0 k2 HBel5 HCUT
  generalize w5.drewN n6 = w6 at *
  have hcv := Lib.run_convert_bytes_const (P := Tryd.prog) w6 22 5 #[.int .u8 195, .int .u8 177] 2 2 Tryd.underlying22 Tryd.underlying5
  go_wp2_with fail
  clear hcv
  obtain ⟨w7, hw7⟩ : ∃ w7, w7 = w6.alloc (.cells #[.int .u8 195, .int .u8 177] 5 (2, 3)) := ⟨_, rfl⟩
  have hb7 : w7.heap[w6.heap.size]? = some (.cells (nums .u8 [195, 177]).toArray 5 (2, 3)) := by rw [hw7]; exact World.alloc_heap_new _ _
  have hg7 : It.good w7 (fun k => k = w6.heap.size) ⟨some ⟨w6.heap.size, 0, none⟩, 2, [195, 177], false⟩ := lit_good (l := [195, 177]) hb7 rfl (by unfold Byt; decide) (by decide)
  have HBel7 : Hid (Below w.heap.size w w7) := Lib.hid (by rw [hw7]; exact HBel6.out.alloc HBel6.out.size _)
  have HV := Lib.hid (valid_any (some ⟨w6.heap.size, 0, none⟩) 2 [195, 177] w7 (by decide) (by decide) (hg7.2.2.2.1 w7 (KpT.refl _ _)))
  rw [← hw7]
  clear hw7 hb7 hg7 HBel6
  refine HV.out.mono ?_
  rintro e w8 ⟨rfl, n8, rfl⟩
  rw [show validB [195, 177] = true by kernel_rfl]
  have HBel8 : Hid (Below w.heap.size w (w7.drewN n8)) := Lib.hid (HBel7.out.trans (((Fr.refl (fun _ => False) w7).drewN n8).below HBel7.out.size (fun _ h => h.elim)))
  clear HV HBel7
  go_wp2_with fail
  go_ret
  exact ⟨rfl, HBel8.out⟩
end Go.Proofs.YtelhkbanohhjhaaDoor.Tx
