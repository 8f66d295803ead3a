/- Contract of New of package quota. -/
import Derived.Test.YthmllfejnmbfgaaC
namespace Go.Proofs.Ythmllfejnmbfgaa
open Go.RowKit
set_option linter.unusedVariables false
set_option linter.unusedSimpArgs false

theorem Try.info55 : (Try.prog.info? 55).map (fun i => (i.zero, i.size, i.bytes)) = some (some (.agg #[.int .i64 0, .int .i64 0, .int .i64 0]), 3, 24) := by kernel_rfl
def cnts (zs : List Int) : List Cnt := zs.map fun z => ⟨z, 0, 0⟩
theorem flat_snoc (cs : List Cnt) (c : Cnt) : flat (cs ++ [c]) = flat cs ++ [.int .i64 c.lim, .int .i64 c.used, .int .i64 c.peak] := by simp [flat]
theorem cnts_take (zs : List Int) (k : Nat) (h : k < zs.length) : cnts (zs.take (k + 1)) = cnts (zs.take k) ++ [⟨zs.getD k 0, 0, 0⟩] := by
  rw [List.take_succ_eq_append_getElem h]; simp only [cnts, List.map_append, List.map_cons, List.map_nil, List.getD_eq_getElem?_getD, List.getElem?_eq_getElem h, Option.getD_some]
theorem min_any {w : World} (lb lo lc n : Nat) (zs : List Int) (hn : 0 < n) (hz : n ≤ zs.length) (hbig : n ≤ 9223372036854775807)
    (hc : ∀ j, j < zs.length → w.cell? ⟨lb, lo + j, none⟩ = some (.int .i64 (zs.getD j 0))) :
    Calls Try.prog 30 #[.slice (some ⟨lb, lo, none⟩) n lc] w fun e w' => e = .returned (.int .i64 (Lib.minOf (zs.take n))) ∧ w = w' :=
  (Try.slices_Min_int lb lo n lc zs w hn hz hbig hc).mono fun _ _ h => ⟨h.1, h.2.symm⟩
theorem shown {w : World} {base n : Nat} {v : Value} {xs : List Value} (h : w.ownsRow base 55 3 v n xs) (h1 : 1 ≤ n) :
    ∃ g cap rest, v = .slice (some ⟨g, 0, none⟩) n cap ∧ base ≤ g ∧ n ≤ cap ∧ cap ≤ maxLen ∧ Blk w g 55 (xs ++ rest) := by
  rcases h.2 with ⟨_, h0⟩ | ⟨g, cap, cur, rfl, hg, hh, h2, h3, h4, h5⟩
  · omega
  · refine ⟨g, cap, cur.toList.drop (n * 3), rfl, hg, h2, h3, ?_⟩
    unfold Blk; rw [hh, ← h5, List.take_append_drop]

set_option maxHeartbeats 1600000 in
set_option maxRecDepth 100000 in
theorem new_ok {w : World} (lb lo lc n : Nat) (zs : List Int) (h1 : 1 ≤ n) (h16 : n ≤ 16) (hz : n ≤ zs.length)
    (hc : ∀ j, j < zs.length → w.cell? ⟨lb, lo + j, none⟩ = some (.int .i64 (zs.getD j 0))) (hlb : lb < w.heap.size) (hmin : 0 ≤ Lib.minOf (zs.take n)) :
    Calls Try.prog 14 #[.slice (some ⟨lb, lo, none⟩) n lc] w fun e w' => e = .returned (.tuple #[.pointer (some ⟨w.heap.size, 0, none⟩), .int .i64 0]) ∧
      ∃ g, w.heap.size < g ∧ Acct w' w.heap.size g (cnts (zs.take n)) ∧ Below w.heap.size w w' := by
  obtain ⟨i0, hi, hz0, hz1, hz2⟩ := info_parts Try.info55
  obtain ⟨B, hB⟩ : ∃ B, B = w.heap.size := ⟨_, rfl⟩
  rw [← hB] at hlb ⊢
  go_enter Try.func14, Try.ntmps14
  go_wp2_with (go_at_call 30; refine (min_any lb lo lc n zs (by omega) hz (by omega) hc).mono ?_; rintro e w' ⟨rfl, rfl⟩)
  rw [← hB]
  have HB := Lib.hid hB
  clear hB
  go_loopw [24] (fun i wr => ∃ k : Nat, k ≤ n ∧ i = .int .i64 k ∧ ∃ v, Blk wr B 53 [v] ∧ wr.ownsRow (B + 1) 55 3 v k (flat (cnts (zs.take k))) ∧ Below B w wr) (fun i _ => n - (intOf i).toNat)
  case atStart =>
    refine ⟨0, Nat.zero_le _, rfl, .slice none 0 0, ?_, ⟨rfl, .inl ⟨rfl, rfl⟩⟩, ?_⟩
    · unfold Blk; rw [HB.out]; exact Array.getElem?_push_size
    · rw [HB.out]; exact (Below.refl _ _).alloc (Nat.le_refl _) _
  case round =>
    obtain ⟨k, hk, rfl, v, hBv, hown, hbel⟩ := hrel
    have hcx : k < n → wr.cell? ⟨lb, lo + k, none⟩ = some (.int .i64 (zs.getD k 0)) := fun _ => (hbel.cell hlb).trans (hc k (by omega))
    have c0 := hBv.cell 0
    have f0 := hBv.free 0
    have hlt := hBv.lt
    simp only [List.getElem?_cons_zero] at c0
    go_wp2_with (at_builtin; refine wpList_append_own _ rfl _ _ 51 rfl (B + 1) 55 i0 (.agg #[.int .i64 0, .int .i64 0, .int .i64 0]) 3 24 Try.underlying51 hi hz0 hz1 hz2 rfl (by decide) _ _ _ rfl (hown.alloc _) ⟨wr.heap.size, 0, none⟩ 1 1 [.int .i64 (zs.getD k 0), .int .i64 0, .int .i64 0] rfl rfl ?c1 ?c2 ?c3 ?c4 ?c5 ?_)
    case c1 =>
      intro j u hj
      match j, hj with
      | 0, hj => simp at hj; subst hj; simp [Addr.add]
      | 1, hj => simp at hj; subst hj; simp [Addr.add]
      | 2, hj => simp at hj; subst hj; simp [Addr.add]
    case c2 => intro u hu; simp at hu; rcases hu with rfl | rfl <;> rfl
    case c3 => unfold maxLen; omega
    case c4 => omega
    case c5 => simp; omega
    · intro v' w1 hown' hgrow _
      have hlk : k < n := by assumption
      have hB1 : Blk w1 B 53 [v] := by
        have h2 : Blk (wr.alloc (Obj.cells #[Value.int IntKind.i64 (zs[k]?.getD 0), Value.int IntKind.i64 0, Value.int IntKind.i64 0] 55)) B 53 [v] := hBv.alloc _
        refine (hgrow.block B h2.lt fun e => ?_).trans h2
        rcases hown.2 with ⟨rfl, _⟩ | ⟨g, cap, cur, rfl, hg, _⟩
        · simp [Value.ownBlock] at e
        · simp [Value.ownBlock] at e; omega
      have hbel1 : Below B w w1 := (hbel.alloc (by have := hbel.size; have := HB.out; omega) _).grown hgrow (by simp; omega) (fun i hi => by
        rcases hown.2 with ⟨rfl, _⟩ | ⟨g, cap, cur, rfl, hg, _⟩
        · simp [Value.ownBlock] at hi
        · simp [Value.ownBlock] at hi; omega)
      have c1 := hB1.cell 0
      have f1 := hB1.free 0
      simp only [List.getElem?_cons_zero] at c1
      obtain ⟨g', cap', rest', rfl, hg', _, _, _⟩ := shown hown' (by omega)
      have R1 := Lib.hid (ownsRow_setCell_below hown' (a := ⟨B, 0, none⟩) (by simp) (.slice (some ⟨g', 0, none⟩) (k + 1) cap'))
      have R2 := Lib.hid (hbel1.setCell (p := ⟨B, 0, none⟩) (Nat.le_refl _) (.slice (some ⟨g', 0, none⟩) (k + 1) cap'))
      have R3 := Lib.hid (hB1.set 0 (.slice (some ⟨g', 0, none⟩) (k + 1) cap'))
      clear hgrow hown' hcx c0 f0 hown hbel hBv hbel1 hB1
      go_wp2
      go_roundw
      case rel =>
        refine ⟨k + 1, by omega, by go_num, _, R3.out, ?_, R2.out⟩
        have := R1.out
        rw [cnts_take zs k (by omega), flat_snoc]
        simpa using this
      case measure => simp [intOf]; omega
    · have hge : ¬ k < n := by assumption
      obtain rfl : k = n := by omega
      obtain ⟨g, cap, rest, rfl, hg, h4, h5, h6⟩ := shown hown h1
      go_ret2
      refine ⟨rfl, g, by omega, ⟨by omega, ?_, cap, rest, ?_, ?_, ?_, h6⟩, hbel⟩
      · simp [cnts]; omega
      · simp [cnts]; omega
      · unfold maxLen at h5; omega
      · have : (cnts (List.take k zs)).length = k := by simp [cnts]; omega
        rw [this]; exact hBv
end Go.Proofs.Ythmllfejnmbfgaa
