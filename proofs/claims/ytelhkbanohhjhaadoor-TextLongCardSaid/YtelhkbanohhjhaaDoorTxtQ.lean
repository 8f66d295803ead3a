/- The walk of TextLong where it goes on. -/
import Derived.Test.YtelhkbanohhjhaaDoorTxtO
import Derived.Deep.OwnRows
import Derived.Deep.DeepCutAuto
import Derived.Outline
import Derived.Deep.QuietTactic
import Derived.BigQuiet
namespace Go.Proofs.YtelhkbanohhjhaaDoor.Tx
open Go.RowKit Go.Shelf Go.Proofs.YtelhkbanohhjhaaDoor.PFeed Go.Proofs.YtelhkbanohhjhaaDoorW.PrintWords
set_option linter.unusedVariables false
set_option linter.unusedSimpArgs false
theorem rep_set (n i : Nat) (c : Int) (h : i < n) : (nums .u8 (rep i c ++ rep (n - i) 0)).set i (.int .u8 c) = nums .u8 (rep (i + 1) c ++ rep (n - (i + 1)) 0) := by
  obtain ⟨k, hk⟩ : ∃ k, n - i = k + 1 := ⟨n - i - 1, by omega⟩
  rw [hk, show n - (i + 1) = k by omega, show rep (i + 1) c = rep i c ++ [c] from List.replicate_succ']
  simp [nums, List.set_append, List.replicate_succ]
theorem rep_at (n i : Nat) (c : Int) (h : i < n) : (nums .u8 (rep i c ++ rep (n - i) 0))[i]? = some (.int .u8 0) := by
  simp [nums, List.getElem?_append_right, List.getElem?_replicate]; omega
/-- A part of a block of bytes, as a chunk. -/
theorem pre_good {w : World} {T : Nat → Prop} {B o k c : Nat} {l : List Int} (hb : Blk w B 5 (nums .u8 l)) (hT : T B) (hbyt : Byt l) (ho : o + k ≤ l.length) (hk : k ≤ 1048576) (hc : k ≤ c) : It.good w T ⟨some ⟨B, o, none⟩, c, (l.drop o).take k, false⟩ := by
  have hlen : ((l.drop o).take k).length = k := by simp; omega
  refine ⟨by rw [hlen]; exact hc, by rw [hlen]; exact hk, (hbyt.drop o).take k, fun W' hw => ?_, fun h => by cases h⟩
  have hb' : Blk W' B 5 (nums .u8 l) := (hw.1 B hT).trans hb
  refine ⟨rfl, by show ((l.drop o).take k).length ≤ _; omega, fun _ => ⟨_, rfl, fun j p hp => ⟨[.int .u8 p], rfl, rfl, fun i u hu => ?_⟩⟩⟩
  have hi : i = 0 := by
    have := (List.getElem?_eq_some_iff.1 hu).1
    simp at this; exact this
  subst hi
  simp at hu
  subst hu
  have hj : j < k := by
    have := (List.getElem?_eq_some_iff.1 hp).1
    rw [hlen] at this; exact this
  show W'.cell? ((⟨B, o, none⟩ : Addr).add (j * 1 + 0)) = some (.int .u8 p)
  have e : (⟨B, o, none⟩ : Addr).add (j * 1 + 0) = ⟨B, o + j, none⟩ := by
    rw [Nat.mul_one, Nat.add_zero]
    by_cases h : j = 0
    · subst h; rfl
    · simp [Addr.add, h]
  rw [e, hb'.cell]
  have hp' : l[o + j]? = some p := by
    have hp2 : ((l.drop o).take k)[j]? = some p := hp
    rw [List.getElem?_take_of_lt hj, List.getElem?_drop] at hp2
    exact hp2
  simp [nums, hp']
theorem rep_low' (c : Int) : validF (rep 0 c).length (rep 0 c) 0 = true := rfl
theorem rep_byt (n : Nat) (c : Int) (h0 : 0 ≤ c) (h1 : c ≤ 255) : Byt (rep n c) := fun x hx => by rw [List.eq_of_mem_replicate hx]; exact ⟨h0, h1⟩
attribute [local go_sem ↓] app_block
set_option maxRecDepth 100000 in
set_option maxHeartbeats 1600000 in
theorem long_walk (n : Nat) (c : Int) (cut : Int) (w : World) (m : Int) (hn : n ≤ 70000) (hc0 : 0 ≤ c) (hc1 : c ≤ 255) (hc : c ≠ 10) (hm : w.cell? ⟨0, 0, none⟩ = some (.int .i64 m)) :
    Calls Tryd.prog 5 #[.int .i64 n, .int .u8 c, .int .i64 cut] w fun e w' => e = .returned (.bool true) ∧ Below w.heap.size w w' := by
  have h0 := World.block_lt_of_cell? w _ hm
  have HM := Lib.hid hm
  have HC := Lib.hid hc
  have HN := Lib.hid hn
  have e1 : decide ((n : Int) < 0) = false := by simp
  have e2 : decide ((70000 : Int) < n) = false := by simp; omega
  have e3 : (c == 10) = false := by simpa using hc
  have e4 : (n : Int) ≤ 140737488355328 := by omega
  clear hm hc
  go_enter Tryd.func5, Tryd.ntmps5
  go_wp2_with fail
  refine (new_any w).mono ?_
  rintro e w1 ⟨rfl, rfl⟩
  have hb1 : Blk (w.alloc (.cells #[.slice none 0 0, .bool false] 53)) w.heap.size 53 [.slice none 0 0, .bool false] := Blk.new' _ _ _ [_, _] rfl
  have HBel1 : Hid (Below w.heap.size w (w.alloc (.cells #[.slice none 0 0, .bool false] 53))) := Lib.hid ((Below.refl _ w).alloc (Nat.le_refl _) _)
  have hs1 : (w.alloc (.cells #[.slice none 0 0, .bool false] 53)).heap.size = w.heap.size + 1 := by simp
  have HB1 := Lib.hid hb1
  have HS1 := Lib.hid hs1
  clear hb1 hs1
  generalize (w.alloc (.cells #[.slice none 0 0, .bool false] 53)) = w1 at *
  have hmk : (Instr.makeSlice 22 (.int .i64 (n : Int)) (.int .i64 (n : Int))).run Tryd.prog w1 = .ok (.slice (some ⟨w1.heap.size, 0, none⟩) n n) (w1.alloc (.cells (madeCells #[.int .u8 0] n) 5)) := run_make_row' 22 5 (.int .u8 0) 1 Tryd.underlying22 (by kernel_rfl) rfl .i64 .i64 n (by omega) (by omega) w1
  have hmb : madeCells #[.int .u8 0] n = (nums .u8 (rep n 0)).toArray := by
    apply Array.ext
    · simp [madeCells, nums]
    · intro i h1 h2
      simp [madeCells, nums, Nat.mod_one]
  rw [hmb] at hmk
  clear hmb
  go_wp2_with fail
  obtain ⟨w2, hw2⟩ : ∃ w2, w2 = w1.alloc (.cells (nums .u8 (rep n 0)).toArray 5) := ⟨_, rfl⟩
  have hb2 : Blk w2 w1.heap.size 5 (nums .u8 (rep n 0)) := by rw [hw2]; exact Blk.new' w1 _ _ _ rfl
  have hfr2 : Fr (fun _ => False) w1 w2 := by rw [hw2]; exact (Fr.refl _ w1).alloc _
  have HF2 := Lib.hid hfr2
  have hs2 : w2.heap.size = w1.heap.size + 1 := by rw [hw2]; simp
  have HS2 := Lib.hid hs2
  have HB2 := Lib.hid hb2
  rw [← hw2]
  clear hw2 hmk hb2 hfr2 hs2 e1 e2 e3
  go_loopw [9] (fun v wl => ∃ i : Nat, i ≤ n ∧ v = .int .i64 i ∧ Blk wl w1.heap.size 5 (nums .u8 (rep i c ++ rep (n - i) 0)) ∧ Fr (fun k => k = w1.heap.size) w2 wl ∧ wl.heap.size = w2.heap.size) (fun v _ => match v with | .int _ i => (n : Int).toNat - i.toNat | _ => 0)
  case atStart => exact ⟨0, Nat.zero_le _, rfl, by simpa using HB2.out, Fr.refl _ _, rfl⟩
  case round =>
    obtain ⟨i, hi, rfl, hb, hf, hs⟩ := hrel
    by_cases hlt : i < n
    · have q := (hb.cell i).trans (rep_at n i c hlt)
      have f := hb.free i
      have HBi := Lib.hid hb
      have HFi := Lib.hid hf
      have HSi := Lib.hid hs
      have hi2 : i ≤ 70000 := by omega
      clear hb hf hs
      have d1 : decide (i < n) = true := by simpa using hlt
      have d2 : ((i : Int) < (n : Int)) = True := eq_true (by omega)
      have d3 : decide ((i : Int) < (n : Int)) = true := by simp; omega
      go_wp2
      go_round
      case rel =>
        refine ⟨i + 1, hlt, by go_num, ?_, HFi.out.set _ _ _ rfl, by simpa [World.setCell] using HSi.out⟩
        have := HBi.out.set i (.int .u8 c)
        rw [rep_set n i c hlt] at this
        exact this
      case measure => simp; omega
    · obtain rfl : i = n := by omega
      have HBi := Lib.hid hb
      have HFi := Lib.hid hf
      have HSi := Lib.hid hs
      clear hb hf hs
      have d1 : decide (i < i) = false := by simp
      have d3 : decide ((i : Int) < (i : Int)) = false := by simp
      by_cases hi0 : 0 < i
      · have g1 : decide ((0 : Int) < (i : Int)) = true := by simpa using hi0
        have g4 : decide (0 < i) = true := by simpa using hi0
        have g5 : ((i : Int) == 0) = false := by simp; omega
        have g6 : (i = 0) = False := eq_false (by omega)
        have g7 : (i == 0) = false := by simpa using g6
        go_upto_if 43 with (fail)
        go_cut [10] (fun v wx => ∃ k : Nat, k < i ∧ v = .int .i64 k ∧ wx = wr)
        case first =>
          by_cases hcu : 0 < cut
          · have g8 : decide (0 < cut) = true := by simpa using hcu
            have h1 := Int.tmod_lt_of_pos cut (show (0 : Int) < i by omega)
            have h2 := Int.tmod_nonneg (i : Int) (show 0 ≤ cut by omega)
            obtain ⟨k, hk⟩ : ∃ k : Nat, cut.tmod (i : Int) = (k : Int) := ⟨(cut.tmod (i : Int)).toNat, by omega⟩
            have hk2 : k < i := by omega
            go_wp2_with fail
            go_meet
            exact ⟨k, hk2, rfl, rfl⟩
          · have g8 : decide (0 < cut) = false := by simpa using hcu
            go_wp2_with fail
            go_meet
            exact ⟨0, hi0, rfl, rfl⟩
        case rest =>
          clear g1 g4 g5 g6 g7
          obtain ⟨k, hki2, rfl, hwx⟩ := hcut
          have hk : k ≤ i := by omega
          have hki : (k : Int) ≤ (i : Int) := by omega
          have hk0 : (0 : Int) ≤ (k : Int) := by omega
          have hwx' := hwx.symm
          subst hwx'
          clear hwx
          go_wp2_with fail
          -- tail
          have hw1 := HS1.out
          have hblr : Blk wr w1.heap.size 5 (nums .u8 (rep i c)) := by simpa using HBi.out
          have hbufr : BufAt wr (w.heap.size + 2) w.heap.size (.slice none 0 0) [] := ⟨(HB1.out.fr HF2.out id).fr HFi.out (by omega), ⟨rfl, .inl ⟨rfl, rfl⟩⟩⟩
          have hszr : wr.heap.size = w.heap.size + 2 := by rw [HSi.out, HS2.out, hw1]
          have hBelr : Hid (Below w.heap.size w wr) := Lib.hid (HBel1.out.trans ((HF2.out.below (by omega) (fun _ h => h.elim)).trans (HFi.out.below (by rw [HS2.out]; omega) (fun i hi => by have := hi; omega))))
          have hgr := pre_good (T := TT wr w.heap.size (.slice none 0 0)) (o := 0) (k := k) (c := i) hblr (tt_ok (by omega) (by omega) (by simp [Value.ownBlock])) (rep_byt i c hc0 hc1) (by rw [rep_len]; omega) (by omega) (by omega)
          have hre : ((rep i c).drop 0).take k = rep k c := by simp [rep, List.take_replicate]; omega
          rw [hre] at hgr
          have HF3 := Lib.hid (feed_any (w.heap.size + 2) w.heap.size (.slice none 0 0) [] (some ⟨w1.heap.size, 0, none⟩) i (rep k c) wr hbufr (by omega) (fun h => by cases h) hgr)
          rw [rep_len] at HF3
          clear hgr hre
          refine HF3.out.mono ?_
          clear HF3
          rintro e w3 ⟨v3, u3, rfl, ho3, hbf3, hu3, hfr3⟩
          have hsp : spl [] (rep k c) = ([], rep k c) := spl_no _ _ (fun x hx => by rw [List.eq_of_mem_replicate hx]; exact HC.out)
          rw [hsp] at ho3 hbf3
          obtain ⟨A3, c3, rfl⟩ := own_slice ho3
          have HBel3 : Hid (Below w.heap.size w w3) := Lib.hid (hBelr.out.trans (hfr3.below (by omega) (fun i hi => by rcases hi with hi | hi; (have := hi; omega); simp [Value.ownBlock] at hi)))
          have HBL3 : Hid (Blk w3 w1.heap.size 5 (nums .u8 (rep i c))) := Lib.hid (hblr.fr hfr3 (fun h => by rcases h with h | h; omega; simp [Value.ownBlock] at h))
          have HBF3 := Lib.hid hbf3
          have HS3 : Hid (w.heap.size + 2 ≤ w3.heap.size) := Lib.hid (by have := hfr3.size; omega)
          have HU3 : Hid (∀ k, u3.ownBlock = some k → wr.heap.size ≤ k) := Lib.hid (fun k hk => by rcases hu3 k hk with h | h; exact h; simp [Value.ownBlock] at h)
          clear hsp ho3 hbf3 hu3 hfr3 hblr hbufr hBelr HBi HFi HSi
          simp only [List.length_nil]
          have HO4 : (w3.alloc (.cells #[] 5)).ownsRow w.heap.size 5 1 (.slice (some ⟨w3.heap.size, 0, none⟩) 0 0) ([] : List Int).length (nums .u8 []) :=
            ⟨rfl, .inr ⟨w3.heap.size, 0, #[], rfl, by have := HS3.out; omega, World.alloc_heap_new _ _, Nat.le_refl _, Nat.zero_le _, rfl, rfl⟩⟩
          have hbl4 : Blk (w3.alloc (.cells #[] 5)) w1.heap.size 5 (nums .u8 (rep i c)) := HBL3.out.alloc _
          have hg4 := pre_good (T := fun j => j = w1.heap.size) (o := k) (k := i - k) (c := i - k) hbl4 rfl (rep_byt i c hc0 hc1) (by rw [rep_len]; omega) (by omega) (Nat.le_refl _)
          have hre4 : ((rep i c).drop k).take (i - k) = rep (i - k) c := by simp [rep]
          rw [hre4] at hg4
          have hC4 := hg4.2.2.2.1 _ (KpT.refl _ _)
          obtain ⟨v4, w4, hrun4, ho4, hgr4, hat4⟩ := app_u8 (c := i - k) HO4 hC4 (fun h => by cases h) (by have := HS3.out; simp; omega) (by rw [rep_len]; simp; omega)
          rw [rep_len, hw1] at hrun4
          have hne4 : (k = i) = False := eq_false (by omega)
          have hne5 : (i = k) = False := eq_false (by omega)
          have hne6 : decide (k < i) = true := by simpa using hki2
          clear hg4 hre4 hC4 HO4 hbl4
          rw [List.nil_append] at ho4
          obtain ⟨A4, c4, rfl⟩ := own_slice ho4
          have hb10 : Blk (w4.alloc (.cells #[.int .u8 10] 5)) w4.heap.size 5 (nums .u8 [10]) := Blk.new' w4 _ _ [_] rfl
          have hg10 := pre_good (T := fun j => j = w4.heap.size) (o := 0) (k := 1) (c := 1) hb10 rfl (by unfold Byt; decide) (by decide) (by decide) (Nat.le_refl _)
          have hC10 : Kd.C (Kd.int .u8) (w4.alloc (.cells #[.int .u8 10] 5)) (some ⟨w4.heap.size, 0, none⟩) ([10] : List Int).length [10] := hg10.2.2.2.1 _ (KpT.refl _ _)
          have hF4 : Fr (fun _ => False) w3 w4 := ((Fr.refl _ w3).alloc _).trans (Fr.of_grown hgr4) (fun j hj h => by simp [Value.ownBlock] at h; omega)
          have hs34 := hF4.size
          obtain ⟨v5, w5, hrun5, ho5, hgr5, hat5⟩ := app_u8 (c := 1) (ho4.alloc (.cells #[.int .u8 10] 5)) hC10 (fun h => by cases h) (by have := HS3.out; simp; omega) (by rw [rep_len]; simp; omega)
          have hF5 : Fr (fun _ => False) w3 w5 := (hF4.alloc _).trans (Fr.of_grown hgr5) (fun j hj h => by
            rcases hat4 with e | e
            · rw [e] at h; simp [Value.ownBlock] at h; omega
            · rw [e] at h; simp at h; omega)
          have hs5 := hF5.size
          obtain ⟨g5, c5, rfl, hc5, _⟩ := own_cells ho5 (by simp)
          obtain ⟨A5, c5', e5, _, hC5⟩ := own_C ho5
          injection e5 with e5a e5b e5c
          subst e5a
          subst e5c
          clear e5b
          have hgb : w3.heap.size ≤ g5 := by
            rcases hat5 with e | e
            · rcases hat4 with e' | e'
              · rw [e'] at e; simp [Value.ownBlock] at e; omega
              · rw [e'] at e; simp [Value.ownBlock] at e; omega
            · simp [Value.ownBlock] at e; omega
          have hgl : g5 < w5.heap.size := by
            obtain ⟨vs, q⟩ := row_blk ho5 (k := g5) rfl
            exact q.lt
          have hult : ∀ j, u3.ownBlock = some j → j < w3.heap.size := fun j hj => by
            obtain ⟨vs, q⟩ := row_blk HBF3.out.row hj
            exact q.lt
          have hbb3 := HBF3.out.blk.lt
          have hbuf5 : BufAt w5 (w.heap.size + 2) w.heap.size u3 (rep k c) := ⟨HBF3.out.blk.fr hF5 id, row_fr HBF3.out.row hF5 (fun _ _ => id)⟩
          have hbyt5 : Byt (rep (i - k) c ++ [10]) := fun x hx => by
            rcases List.mem_append.1 hx with h | h
            · exact rep_byt _ c hc0 hc1 x h
            · simp at h; omega
          have hg5 : It.good w5 (TT w5 w.heap.size u3) ⟨some ⟨g5, 0, none⟩, c5, rep (i - k) c ++ [10], false⟩ := good_of_C hC5 (fun a ha _ => by cases ha; exact tt_ok hgl (by show g5 ≠ _; omega) (fun e => by have := hult _ e; simp at this; omega)) hc5 (by rw [List.length_append, rep_len]; simp; omega) hbyt5 (fun h => by cases h)
          have HF6 := Lib.hid (feed_any (w.heap.size + 2) w.heap.size u3 (rep k c) (some ⟨g5, 0, none⟩) c5 (rep (i - k) c ++ [10]) w5 hbuf5 (by have := HS3.out; omega) (fun h => by cases h) hg5)
          have HBel5 : Hid (Below w.heap.size w w5) := Lib.hid (HBel3.out.trans (hF5.below (by omega) (fun _ h => h.elim)))
          have HBL5 : Hid (Blk w5 w1.heap.size 5 (nums .u8 (rep i c))) := Lib.hid (HBL3.out.fr hF5 id)
          have HS5 : Hid (w.heap.size + 2 ≤ w5.heap.size) := Lib.hid (by have := HS3.out; omega)
          have HNE : Hid (u3.ownBlock ≠ some w1.heap.size ∧ ∀ j, u3.ownBlock = some j → w.heap.size ≤ j) := Lib.hid ⟨fun e => by have := HU3.out _ e; omega, fun j hj => by have := HU3.out _ hj; omega⟩
          have hlen5 : (rep (i - k) c ++ [10]).length = i - k + 1 := by simp
          rw [hlen5] at HF6
          rw [rep_len] at hrun5
          rw [hlen5, show ([10] : List Int).length = 1 from rfl] at hrun5
          clear hb10 hg10 hC10 hF4 hF5 hgr5 hgr4 ho4 ho5 hat4 hat5 hgb hgl hult hbuf5 hbyt5 hg5 hC5 hc5 hbb3 hs34 HBF3 HBel3 HBL3 HU3
          go_wp2_with fail
          refine HF6.out.mono ?_
          clear HF6 hrun4 hrun5
          rintro e w6 ⟨v6, u6, rfl, ho6, hbf6, hu6, hfr6⟩
          have hsp : spl (rep k c) (rep (i - k) c ++ [10]) = ([rep i c], []) := by rw [spl_rep _ _ _ HC.out, show k + (i - k) = i by omega]
          rw [hsp] at ho6 hbf6
          obtain ⟨ln, hln⟩ : ∃ ln, ln = lnOf (rep i c) := ⟨_, rfl⟩
          simp only [List.map_cons, List.map_nil, List.length_cons, List.length_nil, Nat.zero_add] at ho6
          rw [← hln] at ho6
          have HLN := Lib.hid hln
          clear hln
          obtain ⟨g6', c6, rfl, hc6, hcell⟩ := own_cells ho6 (by decide)
          have p0 := hcell 0 (.string ln.f0) (by simp [cellsL])
          have p1 := hcell 1 (.int .i64 ln.f1) (by simp [cellsL])
          have HBel6 : Hid (Below w.heap.size w w6) := Lib.hid (HBel5.out.trans (hfr6.below (by have := HS5.out; omega) (fun j hj => by rcases hj with h | h; (have := h; omega); exact HNE.out.2 j h)))
          have HBL6 : Hid (Blk w6 w1.heap.size 5 (nums .u8 (rep i c))) := Lib.hid (HBL5.out.fr hfr6 (fun h => by rcases h with h | h; omega; exact HNE.out.1 h))
          have p2 := hbf6.blk.cell 0
          obtain ⟨A6, c6', rfl⟩ := own_slice hbf6.row
          simp only [List.getElem?_cons_zero, bufL, List.length_nil] at p2
          have HL6 := Lib.hid (len_any w6 w.heap.size A6 0 c6' (by simpa using p2) (by omega))
          have hm6 : w6.cell? ⟨0, 0, none⟩ = some (.int .i64 m) := (HBel6.out.cell (p := ⟨0, 0, none⟩) (by exact h0)).trans HM.out
          have HM6 := Lib.hid hm6
          clear hsp ho6 hbf6 hu6 hfr6 hcell hm6 p2 HBel5 HBL5 HNE
          go_wp2_with fail
          refine HL6.out.mono ?_
          rintro e w7 ⟨rfl, rfl⟩
          go_wp2_with fail
          refine (alive_any w7 m HM6.out).mono ?_
          rintro e w8 ⟨rfl, hb8⟩
          have HBel8 := Lib.hid (HBel6.out.trans (hb8.mono HBel6.out.size))
          obtain ⟨hc8, hf8⟩ : (∀ b o, b < w7.heap.size → w8.cell? ⟨b, o, none⟩ = w7.cell? ⟨b, o, none⟩) ∧ True := ⟨fun b o h => hb8.cell (p := ⟨b, o, none⟩) h, trivial⟩
          have q0 := (hc8 g6' 0 (World.block_lt_of_cell? w7 _ p0)).trans p0
          have q1 := (hc8 g6' 1 (World.block_lt_of_cell? w7 _ p1)).trans p1
          have HBL8 : Hid (Blk w8 w1.heap.size 5 (nums .u8 (rep i c))) := Lib.hid (HBL6.out.below hb8 HBL6.out.lt)
          clear hc8 hf8 hb8 p0 p1 HL6 HM6 HBL6 HBel6
          by_cases hn1 : 65536 < i
          · have d4 : decide ((65536 : Int) < (i : Int)) = true := by simp; omega
            obtain rfl : ln = ⟨⟨#[]⟩, 11⟩ := by rw [HLN.out]; unfold lnOf; rw [if_pos (by rw [rep_len]; exact hn1)]
            clear hn1
            go_wp2_with fail
            go_ret
            exact ⟨rfl, HBel8.out⟩
          · have d4 : decide ((65536 : Int) < (i : Int)) = false := by simp; omega
            have d5 : decide ((0 : Int) < (i : Int)) = true := by simp; omega
            have hlen : ¬ 65536 < (rep i c).length := by rw [rep_len]; exact hn1
            by_cases hc127 : 127 < c
            · have d6 : decide ((127 : Int) < c) = true := by simpa using hc127
              obtain rfl : ln = ⟨⟨#[]⟩, 10⟩ := by rw [HLN.out]; unfold lnOf; rw [if_neg hlen, rep_high i c hc127 hi0]; rfl
              clear hn1 hlen hc127
              go_wp2_with fail
              go_ret
              exact ⟨rfl, HBel8.out⟩
            · have d6 : decide ((127 : Int) < c) = false := by simpa using hc127
              obtain rfl : ln = ⟨strOfNums (rep i c), 0⟩ := by rw [HLN.out]; unfold lnOf validB; rw [if_neg hlen, rep_low i c (by omega)]; rfl
              have hg8 := pre_good (T := fun j => j = w1.heap.size) (o := 0) (k := i) (c := i) HBL8.out rfl (rep_byt i c hc0 hc1) (by rw [rep_len]; omega) (by omega) (Nat.le_refl _)
              have hre8 : ((rep i c).drop 0).take i = rep i c := by simp [rep]
              rw [hre8] at hg8
              have hC8 : Kd.C (Kd.int .u8) w8 (some ⟨w1.heap.size, 0, none⟩) (rep i c).length (rep i c) := hg8.2.2.2.1 _ (KpT.refl _ _)
              have hcv := fun nq => Kd.C_string (P := Tryd.prog) (w := w8.drewN nq) (A := some ⟨w1.heap.size, 0, none⟩) (c := i) Tryd.underlying22 Tryd.underlying5 Tryd.underlying9 (show Kd.C (Kd.int .u8) (w8.drewN nq) _ _ _ from hC8)
              rw [rep_len, hw1] at hcv
              clear hn1 hlen hc127 hg8 hre8 hC8
              go_wp2_with fail
              go_quiet (fail)
              go_wp2
              go_ret
              exact ⟨rfl, Below.drewN HBel8.out nq⟩
      · obtain rfl : i = 0 := by omega
        go_wp2_with fail
        -- tail
        have hw1 := HS1.out
        have hblr : Blk wr w1.heap.size 5 (nums .u8 (rep 0 c)) := by simpa using HBi.out
        have hbufr : BufAt wr (w.heap.size + 2) w.heap.size (.slice none 0 0) [] := ⟨(HB1.out.fr HF2.out id).fr HFi.out (by omega), ⟨rfl, .inl ⟨rfl, rfl⟩⟩⟩
        have hszr : wr.heap.size = w.heap.size + 2 := by rw [HSi.out, HS2.out, hw1]
        have hBelr : Hid (Below w.heap.size w wr) := Lib.hid (HBel1.out.trans ((HF2.out.below (by omega) (fun _ h => h.elim)).trans (HFi.out.below (by rw [HS2.out]; omega) (fun i hi => by have := hi; omega))))
        have hgr := pre_good (T := TT wr w.heap.size (.slice none 0 0)) (o := 0) (k := 0) (c := 0) hblr (tt_ok (by omega) (by omega) (by simp [Value.ownBlock])) (rep_byt 0 c hc0 hc1) (by rw [rep_len]; omega) (by omega) (by omega)
        have hre : ((rep 0 c).drop 0).take 0 = rep 0 c := by simp [rep]
        rw [hre] at hgr
        have HF3 := Lib.hid (feed_any (w.heap.size + 2) w.heap.size (.slice none 0 0) [] (some ⟨w1.heap.size, 0, none⟩) 0 (rep 0 c) wr hbufr (by omega) (fun h => by cases h) hgr)
        rw [rep_len] at HF3
        clear hgr hre
        refine HF3.out.mono ?_
        clear HF3
        rintro e w3 ⟨v3, u3, rfl, ho3, hbf3, hu3, hfr3⟩
        have hsp : spl [] (rep 0 c) = ([], rep 0 c) := spl_no _ _ (fun x hx => by rw [List.eq_of_mem_replicate hx]; exact HC.out)
        rw [hsp] at ho3 hbf3
        obtain ⟨A3, c3, rfl⟩ := own_slice ho3
        have HBel3 : Hid (Below w.heap.size w w3) := Lib.hid (hBelr.out.trans (hfr3.below (by omega) (fun i hi => by rcases hi with hi | hi; (have := hi; omega); simp [Value.ownBlock] at hi)))
        have HBL3 : Hid (Blk w3 w1.heap.size 5 (nums .u8 (rep 0 c))) := Lib.hid (hblr.fr hfr3 (fun h => by rcases h with h | h; omega; simp [Value.ownBlock] at h))
        have HBF3 := Lib.hid hbf3
        have HS3 : Hid (w.heap.size + 2 ≤ w3.heap.size) := Lib.hid (by have := hfr3.size; omega)
        have HU3 : Hid (∀ k, u3.ownBlock = some k → wr.heap.size ≤ k) := Lib.hid (fun k hk => by rcases hu3 k hk with h | h; exact h; simp [Value.ownBlock] at h)
        clear hsp ho3 hbf3 hu3 hfr3 hblr hbufr hBelr HBi HFi HSi
        simp only [List.length_nil]
        have HO4 : (w3.alloc (.cells #[] 5)).ownsRow w.heap.size 5 1 (.slice (some ⟨w3.heap.size, 0, none⟩) 0 0) ([] : List Int).length (nums .u8 []) :=
          ⟨rfl, .inr ⟨w3.heap.size, 0, #[], rfl, by have := HS3.out; omega, World.alloc_heap_new _ _, Nat.le_refl _, Nat.zero_le _, rfl, rfl⟩⟩
        have hbl4 : Blk (w3.alloc (.cells #[] 5)) w1.heap.size 5 (nums .u8 (rep 0 c)) := HBL3.out.alloc _
        have hg4 := pre_good (T := fun j => j = w1.heap.size) (o := 0) (k := 0) (c := 0) hbl4 rfl (rep_byt 0 c hc0 hc1) (by rw [rep_len]; omega) (by omega) (Nat.le_refl _)
        have hre4 : ((rep 0 c).drop 0).take 0 = rep 0 c := by simp [rep]
        rw [hre4] at hg4
        have hC4 := hg4.2.2.2.1 _ (KpT.refl _ _)
        obtain ⟨v4, w4, hrun4, ho4, hgr4, hat4⟩ := app_u8 (c := 0) HO4 hC4 (fun h => by cases h) (by have := HS3.out; simp; omega) (by rw [rep_len]; simp)
        rw [rep_len, hw1] at hrun4
        clear hg4 hre4 hC4 HO4 hbl4
        rw [List.nil_append] at ho4
        obtain ⟨A4, c4, rfl⟩ := own_slice ho4
        have hb10 : Blk (w4.alloc (.cells #[.int .u8 10] 5)) w4.heap.size 5 (nums .u8 [10]) := Blk.new' w4 _ _ [_] rfl
        have hg10 := pre_good (T := fun j => j = w4.heap.size) (o := 0) (k := 1) (c := 1) hb10 rfl (by unfold Byt; decide) (by decide) (by decide) (Nat.le_refl _)
        have hC10 : Kd.C (Kd.int .u8) (w4.alloc (.cells #[.int .u8 10] 5)) (some ⟨w4.heap.size, 0, none⟩) ([10] : List Int).length [10] := hg10.2.2.2.1 _ (KpT.refl _ _)
        have hF4 : Fr (fun _ => False) w3 w4 := ((Fr.refl _ w3).alloc _).trans (Fr.of_grown hgr4) (fun j hj h => by simp [Value.ownBlock] at h; omega)
        have hs34 := hF4.size
        obtain ⟨v5, w5, hrun5, ho5, hgr5, hat5⟩ := app_u8 (c := 1) (ho4.alloc (.cells #[.int .u8 10] 5)) hC10 (fun h => by cases h) (by have := HS3.out; simp; omega) (by rw [rep_len]; simp)
        have hF5 : Fr (fun _ => False) w3 w5 := (hF4.alloc _).trans (Fr.of_grown hgr5) (fun j hj h => by
          rcases hat4 with e | e
          · rw [e] at h; simp [Value.ownBlock] at h; omega
          · rw [e] at h; simp at h; omega)
        have hs5 := hF5.size
        obtain ⟨g5, c5, rfl, hc5, _⟩ := own_cells ho5 (by simp)
        obtain ⟨A5, c5', e5, _, hC5⟩ := own_C ho5
        injection e5 with e5a e5b e5c
        subst e5a
        subst e5c
        clear e5b
        have hgb : w3.heap.size ≤ g5 := by
          rcases hat5 with e | e
          · rcases hat4 with e' | e'
            · rw [e'] at e; simp [Value.ownBlock] at e; omega
            · rw [e'] at e; simp [Value.ownBlock] at e; omega
          · simp [Value.ownBlock] at e; omega
        have hgl : g5 < w5.heap.size := by
          obtain ⟨vs, q⟩ := row_blk ho5 (k := g5) rfl
          exact q.lt
        have hult : ∀ j, u3.ownBlock = some j → j < w3.heap.size := fun j hj => by
          obtain ⟨vs, q⟩ := row_blk HBF3.out.row hj
          exact q.lt
        have hbb3 := HBF3.out.blk.lt
        have hbuf5 : BufAt w5 (w.heap.size + 2) w.heap.size u3 (rep 0 c) := ⟨HBF3.out.blk.fr hF5 id, row_fr HBF3.out.row hF5 (fun _ _ => id)⟩
        have hbyt5 : Byt (rep 0 c ++ [10]) := fun x hx => by
          rcases List.mem_append.1 hx with h | h
          · exact rep_byt _ c hc0 hc1 x h
          · simp at h; omega
        have hg5 : It.good w5 (TT w5 w.heap.size u3) ⟨some ⟨g5, 0, none⟩, c5, rep 0 c ++ [10], false⟩ := good_of_C hC5 (fun a ha _ => by cases ha; exact tt_ok hgl (by show g5 ≠ _; omega) (fun e => by have := hult _ e; simp at this; omega)) hc5 (by rw [List.length_append, rep_len]; simp) hbyt5 (fun h => by cases h)
        have HF6 := Lib.hid (feed_any (w.heap.size + 2) w.heap.size u3 (rep 0 c) (some ⟨g5, 0, none⟩) c5 (rep 0 c ++ [10]) w5 hbuf5 (by have := HS3.out; omega) (fun h => by cases h) hg5)
        have HBel5 : Hid (Below w.heap.size w w5) := Lib.hid (HBel3.out.trans (hF5.below (by omega) (fun _ h => h.elim)))
        have HBL5 : Hid (Blk w5 w1.heap.size 5 (nums .u8 (rep 0 c))) := Lib.hid (HBL3.out.fr hF5 id)
        have HS5 : Hid (w.heap.size + 2 ≤ w5.heap.size) := Lib.hid (by have := HS3.out; omega)
        have HNE : Hid (u3.ownBlock ≠ some w1.heap.size ∧ ∀ j, u3.ownBlock = some j → w.heap.size ≤ j) := Lib.hid ⟨fun e => by have := HU3.out _ e; omega, fun j hj => by have := HU3.out _ hj; omega⟩
        have hlen5 : (rep 0 c ++ [10]).length = 1 := by simp
        rw [hlen5] at HF6
        rw [rep_len] at hrun5
        rw [hlen5, show ([10] : List Int).length = 1 from rfl] at hrun5
        clear hb10 hg10 hC10 hF4 hF5 hgr5 hgr4 ho4 ho5 hat4 hat5 hgb hgl hult hbuf5 hbyt5 hg5 hC5 hc5 hbb3 hs34 HBF3 HBel3 HBL3 HU3
        go_wp2_with fail
        refine HF6.out.mono ?_
        clear HF6 hrun4 hrun5
        rintro e w6 ⟨v6, u6, rfl, ho6, hbf6, hu6, hfr6⟩
        have hsp : spl (rep 0 c) (rep 0 c ++ [10]) = ([rep 0 c], []) := by rw [spl_rep _ _ _ HC.out]
        rw [hsp] at ho6 hbf6
        obtain ⟨ln, hln⟩ : ∃ ln, ln = lnOf (rep 0 c) := ⟨_, rfl⟩
        simp only [List.map_cons, List.map_nil, List.length_cons, List.length_nil, Nat.zero_add] at ho6
        rw [← hln] at ho6
        have HLN := Lib.hid hln
        clear hln
        obtain ⟨g6', c6, rfl, hc6, hcell⟩ := own_cells ho6 (by decide)
        have p0 := hcell 0 (.string ln.f0) (by simp [cellsL])
        have p1 := hcell 1 (.int .i64 ln.f1) (by simp [cellsL])
        have HBel6 : Hid (Below w.heap.size w w6) := Lib.hid (HBel5.out.trans (hfr6.below (by have := HS5.out; omega) (fun j hj => by rcases hj with h | h; (have := h; omega); exact HNE.out.2 j h)))
        have HBL6 : Hid (Blk w6 w1.heap.size 5 (nums .u8 (rep 0 c))) := Lib.hid (HBL5.out.fr hfr6 (fun h => by rcases h with h | h; omega; exact HNE.out.1 h))
        have p2 := hbf6.blk.cell 0
        obtain ⟨A6, c6', rfl⟩ := own_slice hbf6.row
        simp only [List.getElem?_cons_zero, bufL, List.length_nil] at p2
        have HL6 := Lib.hid (len_any w6 w.heap.size A6 0 c6' (by simpa using p2) (by omega))
        have hm6 : w6.cell? ⟨0, 0, none⟩ = some (.int .i64 m) := (HBel6.out.cell (p := ⟨0, 0, none⟩) (by exact h0)).trans HM.out
        have HM6 := Lib.hid hm6
        clear hsp ho6 hbf6 hu6 hfr6 hcell hm6 p2 HBel5 HBL5 HNE
        go_wp2_with fail
        refine HL6.out.mono ?_
        rintro e w7 ⟨rfl, rfl⟩
        go_wp2_with fail
        refine (alive_any w7 m HM6.out).mono ?_
        rintro e w8 ⟨rfl, hb8⟩
        have HBel8 := Lib.hid (HBel6.out.trans (hb8.mono HBel6.out.size))
        obtain ⟨hc8, hf8⟩ : (∀ b o, b < w7.heap.size → w8.cell? ⟨b, o, none⟩ = w7.cell? ⟨b, o, none⟩) ∧ True := ⟨fun b o h => hb8.cell (p := ⟨b, o, none⟩) h, trivial⟩
        have q0 := (hc8 g6' 0 (World.block_lt_of_cell? w7 _ p0)).trans p0
        have q1 := (hc8 g6' 1 (World.block_lt_of_cell? w7 _ p1)).trans p1
        have HBL8 : Hid (Blk w8 w1.heap.size 5 (nums .u8 (rep 0 c))) := Lib.hid (HBL6.out.below hb8 HBL6.out.lt)
        clear hc8 hf8 hb8 p0 p1 HL6 HM6 HBL6 HBel6
        obtain rfl : ln = ⟨strOfNums (rep 0 c), 0⟩ := by rw [HLN.out]; unfold lnOf validB; rw [if_neg (by simp), rep_low' c]; rfl
        have hg8 := pre_good (T := fun j => j = w1.heap.size) (o := 0) (k := 0) (c := 0) HBL8.out rfl (rep_byt 0 c hc0 hc1) (by rw [rep_len]; omega) (by omega) (Nat.le_refl _)
        have hre8 : ((rep 0 c).drop 0).take 0 = rep 0 c := by simp [rep]
        rw [hre8] at hg8
        have hC8 : Kd.C (Kd.int .u8) w8 (some ⟨w1.heap.size, 0, none⟩) (rep 0 c).length (rep 0 c) := hg8.2.2.2.1 _ (KpT.refl _ _)
        have hcv := fun nq => Kd.C_string (P := Tryd.prog) (w := w8.drewN nq) (A := some ⟨w1.heap.size, 0, none⟩) (c := 0) Tryd.underlying22 Tryd.underlying5 Tryd.underlying9 (show Kd.C (Kd.int .u8) (w8.drewN nq) _ _ _ from hC8)
        rw [rep_len, hw1] at hcv
        have d4 : decide ((65536 : Int) < 0) = false := rfl
        have d5 : decide ((0 : Int) < 0) = false := rfl
        clear hg8 hre8 hC8
        cases hd7 : decide ((127 : Int) < c)
        all_goals
          go_wp2_with fail
          go_quiet (fail)
          go_wp2
          go_ret
          exact ⟨rfl, Below.drewN HBel8.out nq⟩
theorem long_row (n c cut : Int) (w : World) (m : Int) (hn : (Lit.int .i64 n).wf = true) (hc : (Lit.int .u8 c).wf = true) (hcut : (Lit.int .i64 cut).wf = true) (hm : w.cell? ⟨0, 0, none⟩ = some (.int .i64 m)) :
    Calls Tryd.prog 5 #[.int .i64 n, .int .u8 c, .int .i64 cut] w fun e w' => e = .returned (.bool true) ∧ Below w.heap.size w w' := by
  by_cases h : n < 0 ∨ 70000 < n ∨ c = 10
  · exact long_walk0 n c cut w m h hm
  · obtain ⟨k, rfl⟩ : ∃ k : Nat, n = k := ⟨n.toNat, by omega⟩
    have hb := byt_of (l := [c]) (fun z hz => by simp at hz; subst hz; exact hc) c (by simp)
    exact long_walk k c cut w m (by omega) hb.1 hb.2 (by omega) hm
end Go.Proofs.YtelhkbanohhjhaaDoor.Tx
