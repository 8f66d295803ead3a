/- The contract of (*strings.Builder).WriteByte at this translation (out of the shelf's, with ReplaceAll's numbers). -/
import Derived.Test.YtmdelgaeikicpaaDoorShelf
import Derived.Below
import Derived.Shelf.Strings.Builder1
namespace Go.Proofs
open Go.Shelf Go.RowKit
def Tryd.renWB : Go.Shelf.Ren := ⟨fun | 167 => 52 | n => Tryd.lays155_ren.f n, Tryd.lays155_ren.t, Tryd.lays155_ren.g⟩
theorem Tryd.laysWB : Go.Proofs.Lays.n167 Tryd.prog Tryd.renWB := {
  mixed := Tryd.lays155.mixed
  f167 := Tryd.func52.trans (congrArg some (by kernel_rfl))
  f240 := Tryd.func56.trans (congrArg some (by kernel_rfl))
  f276 := Tryd.func60.trans (congrArg some (by kernel_rfl))
  t0 := Tryd.lays155.t0
  a0 := Tryd.lays155.a0
  z0 := Tryd.lays155.z0
  v0 := Tryd.lays155.v0
  t4 := Tryd.lays155.t4
  a4 := Tryd.lays155.a4
  z4 := Tryd.lays155.z4
  v4 := Tryd.lays155.v4
  t5 := Tryd.lays155.t5
  a5 := Tryd.lays155.a5
  z5 := Tryd.lays155.z5
  v5 := Tryd.lays155.v5
  t9 := Tryd.lays155.t9
  a9 := Tryd.lays155.a9
  z9 := Tryd.lays155.z9
  v9 := Tryd.lays155.v9
  t20 := Tryd.lays155.t20
  a20 := Tryd.lays155.a20
  z20 := Tryd.lays155.z20
  v20 := Tryd.lays155.v20
  t37 := Tryd.lays155.t37
  a37 := Tryd.lays155.a37
  z37 := Tryd.lays155.z37
  v37 := Tryd.lays155.v37
  t70 := Tryd.lays155.t70
  a70 := Tryd.lays155.a70
  z70 := Tryd.lays155.z70
  v70 := Tryd.lays155.v70
  t72 := Tryd.lays155.t72
  a72 := Tryd.lays155.a72
  z72 := Tryd.lays155.z72
  v72 := Tryd.lays155.v72
  t75 := Tryd.lays155.t75
  a75 := Tryd.lays155.a75
  z75 := Tryd.lays155.z75
  v75 := Tryd.lays155.v75
  t164 := Tryd.lays155.t164
  a164 := Tryd.lays155.a164
  z164 := Tryd.lays155.z164
  v164 := Tryd.lays155.v164 }
theorem Tryd.extraWB : Builder.Extra Tryd.prog Tryd.renWB := {
  sizeBuilder := Tryd.Builder_Extra_155.sizeBuilder
  liesBuilder := Tryd.Builder_Extra_155.liesBuilder
  t5 := Tryd.Builder_Extra_155.t5
  a5 := Tryd.Builder_Extra_155.a5
  z5 := Tryd.Builder_Extra_155.z5
  v5 := Tryd.Builder_Extra_155.v5
  infoByte := Tryd.Builder_Extra_155.infoByte
  cellsByte := Tryd.Builder_Extra_155.cellsByte
  sizeByte := Tryd.Builder_Extra_155.sizeByte
  neB5 := Tryd.Builder_Extra_155.neB5 }
theorem Tryd.builder_WriteByte (B b : Nat) (bs : List Value) (c : Int) (w : World) (h : Lib.IsBuilder 67 5 B b bs w) (hlen : bs.length + 1 ≤ 140737488355328) (hBw : B ≤ w.heap.size) :
    Calls Tryd.prog 52 #[.pointer (some ⟨b, 0, none⟩), .int .u8 c] w fun e w' => e = .returned .nilIface ∧ (Lib.BuilderAt 67 5 B b (.pointer (some ⟨b, 0, none⟩)) (bs ++ [.int .u8 c]) w' ∧ Below B w w') :=
  Any.Builder_WriteByte Tryd.laysWB Tryd.extraWB B b bs c w h hlen hBw
end Go.Proofs
