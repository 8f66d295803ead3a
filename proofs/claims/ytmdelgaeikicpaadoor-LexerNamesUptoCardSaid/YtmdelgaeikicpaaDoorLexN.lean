/- The walk of the law LexerNames. -/
import Derived.Test.YtmdelgaeikicpaaDoorLexM
import Derived.Test.YtmdelgaeikicpaaDoorLexJ
namespace Go.Proofs.YtmdelgaeikicpaaDoor.Lx
open Go.RowKit
set_option linter.unusedVariables false
set_option linter.unusedSimpArgs false

set_option maxRecDepth 100000 in
set_option maxHeartbeats 1600000 in
theorem names_walk (s : ByteArray) (w : World) (m : Int) (hs : s.size ≤ 1048576) (hm : w.cell? ⟨0, 0, none⟩ = some (.int .i64 m)) :
    Calls Tryd.prog 6 #[.string s] w fun e w' => e = .returned (.bool true) ∧ Below w.heap.size w w' := by
  have h0 := World.block_lt_of_cell? w _ hm
  have HM := Lib.hid hm
  obtain ⟨T, hT⟩ : ∃ T, showV s = .string T := ⟨_, rfl⟩
  have HT := Lib.hid hT
  have hs2 : s.size ≤ 9223372036854775807 := by omega
  clear hm hT
  go_enter Tryd.func6, Tryd.ntmps6
  go_wp2_with fail
  refine (plain_any s _ hs2).mono ?_
  rintro e w' ⟨rfl, rfl⟩
  go_wp2_with fail
  refine (rplain_any s _ hs2).mono ?_
  rintro e w' ⟨rfl, rfl⟩
  go_wp2_with fail
  refine (isName_any s _ hs2).mono ?_
  rintro e w1 ⟨rfl, hb1⟩
  have HB1 := Lib.hid hb1
  clear hb1
  go_wp2_with fail
  refine (risName_any s _ hs2).mono ?_
  rintro e w' ⟨rfl, rfl⟩
  go_wp2_with fail
  refine (isVar_any s _ hs2).mono ?_
  rintro e w' ⟨rfl, rfl⟩
  go_wp2_with fail
  refine (risVar_any s _ hs2).mono ?_
  rintro e w' ⟨rfl, rfl⟩
  go_wp2_with fail
  have hm1 := (HB1.out.cell (p := ⟨0, 0, none⟩) (by exact h0)).trans HM.out
  have HM1 := Lib.hid hm1
  clear hm1
  refine (show_any s _ m hs HM1.out).mono ?_
  rw [HT.out]
  rintro e w2 ⟨rfl, hb2⟩
  have HB2 := Lib.hid (HB1.out.trans (hb2.mono HB1.out.size))
  clear hb2
  go_wp2_with fail
  refine (rshow_any s _ hs).mono ?_
  rw [HT.out]
  rintro e w' ⟨rfl, rfl⟩
  go_wp2_with fail
  have hm2 := (HB2.out.cell (p := ⟨0, 0, none⟩) (by exact h0)).trans HM.out
  have HM2 := Lib.hid hm2
  clear hm2
  refine (alive_any _ m HM2.out).mono ?_
  rintro e w3 ⟨rfl, hb3⟩
  have HB3 := Lib.hid (HB2.out.trans (hb3.mono HB2.out.size))
  clear hb3
  go_wp2_with fail
  go_ret
  exact ⟨rfl, HB3.out⟩
end Go.Proofs.YtmdelgaeikicpaaDoor.Lx
