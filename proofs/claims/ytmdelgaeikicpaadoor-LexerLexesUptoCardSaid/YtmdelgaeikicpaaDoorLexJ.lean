/- The lexer statements' common part 'alive' holds. -/
import Derived.Test.YtmdelgaeikicpaaDoorLexH
import Derived.Test.YtmdelgaeikicpaaDoorLexI
namespace Go.Proofs.YtmdelgaeikicpaaDoor.Lx
open Go.RowKit
set_option linter.unusedVariables false
set_option linter.unusedSimpArgs false

/-- The tokens' cells. -/
def cellsT (l : List Tok) : List Value := l.flatMap fun x => [.int .i64 x.kind, .int .i64 x.pos, .string ⟨x.text.toArray⟩]
theorem lex_one : lexB [112, 40, 88, 41, 32, 33, 61, 32, 39, 97, 32, 98, 39] = ([⟨1, 0, [112]⟩, ⟨4, 1, [40]⟩, ⟨2, 2, [88]⟩, ⟨4, 3, [41]⟩, ⟨4, 5, [33, 61]⟩, ⟨1, 8, [97, 32, 98]⟩], 0, 0) := by rfl
theorem lex_two : lexB [112, 40, 88, 41, 32, 33, 61, 32, 39, 65, 39] = ([], 8, 20) := by rfl
theorem show_one : showB [97, 32, 98] = [39, 97, 32, 98, 39] := by rfl
theorem show_two : showB [97, 98] = [97, 98] := by rfl

theorem own_row {w : World} {base n : Nat} {v : Value} {xs : List Value} (h : w.ownsRow base 33 3 v n xs) (h1 : 1 ≤ n) :
    ∃ g cap rest, v = .slice (some ⟨g, 0, none⟩) n cap ∧ base ≤ g ∧ n ≤ cap ∧ cap ≤ maxLen ∧ Blk w g 33 (xs ++ rest) := by
  rcases h.2 with ⟨_, h0⟩ | ⟨g, cap, cur, rfl, hg, hh, h2, h3, h4, h5⟩
  · omega
  · refine ⟨g, cap, cur.toList.drop (n * 3), rfl, hg, h2, h3, ?_⟩
    unfold Blk; rw [hh, ← h5, List.take_append_drop]

set_option maxRecDepth 100000 in
set_option maxHeartbeats 1600000 in
theorem alive_any (w : World) (m : Int) (hm : w.cell? ⟨0, 0, none⟩ = some (.int .i64 m)) :
    Calls Tryd.prog 10 #[] w fun e w' => e = .returned (.bool true) ∧ Below w.heap.size w w' := by
  have h0 := World.block_lt_of_cell? w _ hm
  have HM := Lib.hid hm
  clear hm
  go_enter Tryd.func10, Tryd.ntmps10
  go_wp2_with fail
  refine (lex_any ⟨#[112, 40, 88, 41, 32, 33, 61, 32, 39, 97, 32, 98, 39]⟩ (by decide) w).mono ?_
  rintro e w1 ⟨v, rfl, hb1, ho1⟩
  simp only [show bs ⟨#[112, 40, 88, 41, 32, 33, 61, 32, 39, 97, 32, 98, 39]⟩ = [112, 40, 88, 41, 32, 33, 61, 32, 39, 97, 32, 98, 39] from rfl, lex_one] at ho1 ⊢
  obtain ⟨g, cap, rest, rfl, hg, hc1, hc2, hk⟩ := own_row ho1 (by decide)
  clear ho1
  go_wp2_with fail
  refine (lex_any ⟨#[112, 40, 88, 41, 32, 33, 61, 32, 39, 65, 39]⟩ (by decide) w1).mono ?_
  rintro e w2 ⟨v2, rfl, hb2, ho2⟩
  simp only [show bs ⟨#[112, 40, 88, 41, 32, 33, 61, 32, 39, 65, 39]⟩ = [112, 40, 88, 41, 32, 33, 61, 32, 39, 65, 39] from rfl, lex_two] at ho2 ⊢
  have hk2 := hk.below hb2 hk.lt
  have a6 := hk2.cell 6
  have a14 := hk2.cell 14
  have a16 := hk2.cell 16
  have a17 := hk2.cell 17
  simp at a6 a14 a16 a17
  have hb := hb1.trans (hb2.mono hb1.size)
  have hm2 := (hb.cell (p := ⟨0, 0, none⟩) (by exact h0)).trans HM.out
  have HM2 := Lib.hid hm2
  have HB := Lib.hid hb
  clear hk hk2 hb1 hb2 ho2 hm2 hb
  go_wp2_with fail
  refine (show_any ⟨#[97, 32, 98]⟩ w2 m (by decide) HM2.out).mono ?_
  rintro e w3 ⟨rfl, hb3⟩
  rw [show showV ⟨#[97, 32, 98]⟩ = .string ⟨#[39, 97, 32, 98, 39]⟩ from rfl]
  have HB3 := Lib.hid (HB.out.trans (hb3.mono HB.out.size))
  clear hb3
  go_wp2_with fail
  have hm3 := (HB3.out.cell (p := ⟨0, 0, none⟩) (by exact h0)).trans HM.out
  have HM3 := Lib.hid hm3
  clear hm3
  refine (show_any ⟨#[97, 98]⟩ w3 m (by decide) HM3.out).mono ?_
  rintro e w4 ⟨rfl, hb4⟩
  rw [show showV ⟨#[97, 98]⟩ = .string ⟨#[97, 98]⟩ from rfl]
  have HB4 := Lib.hid (HB3.out.trans (hb4.mono HB3.out.size))
  clear hb4
  go_wp2_with fail
  go_ret
  exact ⟨rfl, HB4.out⟩
end Go.Proofs.YtmdelgaeikicpaaDoor.Lx
