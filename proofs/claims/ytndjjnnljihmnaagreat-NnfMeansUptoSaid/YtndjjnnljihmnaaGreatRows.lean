/-
  NARROWER THAN 'FOR EVERY INPUT', by the rows' own cells (each row's printed sentence says how): NnfTurns: loops · NnfPushes: loops · NnfMeans: loops.
  DERIVED. THE GIVEN ROWS OF THIS SEAT. 3 by the template 'for every input the law returns true; each argument reads behind the call as it read before'; 0 by the template 'total and deterministic' (their statements: YtndjjnnljihmnaaGreatTotals.lean).
  GIVEN WITH THE SEED: the statements are not yours to turn. If you find one false, say at which input.
  Laid BY PROGRAM, IN A SANDBOX (cutbox-rows.mjs): the forced cells as the released guide's own fill.sh prints them over the translation 9c3861ccc88fc5e8… (all of the seat's roots in one cut). By AI agents, Wed Nov 11 2026. No macro, syntax, notation, axiom, sorry.
-/
import Derived.Test.YtndjjnnljihmnaaGreatChecked
import GoSem.Claim
import GoSem.ClaimJoined
import GoSem.ClaimMapViews
import Derived.JoinedTies
import Derived.KernelRfl
namespace Go.Proofs.YtndjjnnljihmnaaGreat
/- THE CELL 'sum', in the pinned program and in every row, IS THE sha256 OF THE DUMP (.gsa) THAT YtndjjnnljihmnaaGreatProg.lean LOADS. Nothing in Lean hashes anything: it is a label: what it is worth is what the hold of that sum in a sandbox is worth. -/
noncomputable def Tryz.pinned : Pinned := { name := "ytndjjnnljihmnaagreat", sum := "9c3861ccc88fc5e816197e96c9dc9293609579f1ec47f22bd48777bfc2542d6c", checked := Tryz.checked }
namespace Rows
def none {H : Type} : Left H := { results := [], args := [] }

/-- 'assizelaw14.NnfTurns': WHATEVER THE INPUT: true; the input reads as it did. -/
def nnfTurnsSpec : ChangeSpec := { name := "nnfTurns", fn := fun _ => fun
  | [d] => { results := [.lit (.bool true)], args := [d] }
  | _ => none }
def nnfTurnsRow : OpenClaim := { program := "ytndjjnnljihmnaagreat", sum := "9c3861ccc88fc5e816197e96c9dc9293609579f1ec47f22bd48777bfc2542d6c", func := "assize/assizelaw14.NnfTurns", spec := "nnfTurns", unfollowed := true, recurses := true, loops := true, apart := false }
def NnfTurnsSaid : Prop := nnfTurnsRow.holds Tryz.pinned (OpenSpec.ofChange nnfTurnsSpec)

/-- ITS FALSE NEIGHBOUR: 'it returns false'. Refute it at one input. -/
def nnfTurnsWrong : ChangeSpec := { name := "nnfTurns", fn := fun _ => fun
  | [d] => { results := [.lit (.bool false)], args := [d] }
  | _ => none }
def NnfTurnsWrongFalsely : Prop := nnfTurnsRow.holds Tryz.pinned (OpenSpec.ofChange nnfTurnsWrong)

/-- 'assizelaw14.NnfPushes': WHATEVER THE INPUT: true; the input reads as it did. -/
def nnfPushesSpec : ChangeSpec := { name := "nnfPushes", fn := fun _ => fun
  | [d] => { results := [.lit (.bool true)], args := [d] }
  | _ => none }
def nnfPushesRow : OpenClaim := { program := "ytndjjnnljihmnaagreat", sum := "9c3861ccc88fc5e816197e96c9dc9293609579f1ec47f22bd48777bfc2542d6c", func := "assize/assizelaw14.NnfPushes", spec := "nnfPushes", unfollowed := true, recurses := true, loops := true, apart := false }
def NnfPushesSaid : Prop := nnfPushesRow.holds Tryz.pinned (OpenSpec.ofChange nnfPushesSpec)

/-- ITS FALSE NEIGHBOUR: 'it returns false'. Refute it at one input. -/
def nnfPushesWrong : ChangeSpec := { name := "nnfPushes", fn := fun _ => fun
  | [d] => { results := [.lit (.bool false)], args := [d] }
  | _ => none }
def NnfPushesWrongFalsely : Prop := nnfPushesRow.holds Tryz.pinned (OpenSpec.ofChange nnfPushesWrong)

/-- 'assizelaw14.NnfMeans': WHATEVER THE INPUT: true; the input reads as it did. -/
def nnfMeansSpec : ChangeSpec := { name := "nnfMeans", fn := fun _ => fun
  | [d1, d2, d3] => { results := [.lit (.bool true)], args := [d1, d2, d3] }
  | _ => none }
def nnfMeansRow : OpenClaim := { program := "ytndjjnnljihmnaagreat", sum := "9c3861ccc88fc5e816197e96c9dc9293609579f1ec47f22bd48777bfc2542d6c", func := "assize/assizelaw14.NnfMeans", spec := "nnfMeans", unfollowed := true, recurses := true, loops := true, apart := false }
def NnfMeansSaid : Prop := nnfMeansRow.holds Tryz.pinned (OpenSpec.ofChange nnfMeansSpec)

/-- ITS FALSE NEIGHBOUR: 'it returns false'. Refute it at one input. -/
def nnfMeansWrong : ChangeSpec := { name := "nnfMeans", fn := fun _ => fun
  | [d1, d2, d3] => { results := [.lit (.bool false)], args := [d1, d2, d3] }
  | _ => none }
def NnfMeansWrongFalsely : Prop := nnfMeansRow.holds Tryz.pinned (OpenSpec.ofChange nnfMeansWrong)

/- THE SECOND FORM. 'bulk': how many values and letters a reading holds, each counted each time it is reached (what is shared counts as often as it is met; a slice's spare places count too). A statement '..UptoSaid' is the law's where the arguments, and the package variables that the reading takes, are together of bulk at most 1048576: NARROWER than '..Said'. Prove '..Said' where nothing that the law and all that it calls make is longer than what came in: it says more and counts as full. Else prove '..UptoSaid'. A law counts once. -/
mutual
def uptoBulk {H : Type} : DataW H → Nat
  | .lit (.string bytes) => bytes.length + 1
  | .lit _ => 1
  | .nil => 1
  | .ptr d => uptoBulk d + 1
  | .slice elems spare => uptoBulkAll elems + uptoBulkAll spare + 1
  | .agg parts => uptoBulkAll parts + 1
  | .iface _ d => uptoBulk d + 1
  | .map entries => uptoBulkEntries entries + 1
  | .held _ => 1
def uptoBulkAll {H : Type} : List (DataW H) → Nat
  | [] => 0
  | d :: r => uptoBulk d + uptoBulkAll r
def uptoBulkEntries {H : Type} : List (Lit × DataW H) → Nat
  | [] => 0
  | x :: r => uptoBulkEntry x + uptoBulkEntries r
def uptoBulkEntry {H : Type} : Lit × DataW H → Nat
  | (.string bytes, d) => bytes.length + uptoBulk d + 1
  | (_, d) => uptoBulk d + 1
 end
def uptoSmall : (H : Type) → List (DataW H) → Bool := fun _ ds => decide (uptoBulkAll ds ≤ 1048576)
def OpenSpec.upto (s : _root_.Go.ChangeSpec) : _root_.Go.OpenSpec := { _root_.Go.OpenSpec.ofChange s with cond := some uptoSmall }

/-- 'assizelaw14.NnfTurns', WHERE WHAT IT READS IS OF BULK AT MOST 1048576: true; the input reads as it did. -/
def nnfTurnsUptoRow : OpenClaim := { program := "ytndjjnnljihmnaagreat", sum := "9c3861ccc88fc5e816197e96c9dc9293609579f1ec47f22bd48777bfc2542d6c", func := "assize/assizelaw14.NnfTurns", spec := "nnfTurns", unfollowed := true, recurses := true, loops := true, apart := false, narrowed := true }
def NnfTurnsUptoSaid : Prop := nnfTurnsUptoRow.holds Tryz.pinned (OpenSpec.upto nnfTurnsSpec)

/-- 'assizelaw14.NnfPushes', WHERE WHAT IT READS IS OF BULK AT MOST 1048576: true; the input reads as it did. -/
def nnfPushesUptoRow : OpenClaim := { program := "ytndjjnnljihmnaagreat", sum := "9c3861ccc88fc5e816197e96c9dc9293609579f1ec47f22bd48777bfc2542d6c", func := "assize/assizelaw14.NnfPushes", spec := "nnfPushes", unfollowed := true, recurses := true, loops := true, apart := false, narrowed := true }
def NnfPushesUptoSaid : Prop := nnfPushesUptoRow.holds Tryz.pinned (OpenSpec.upto nnfPushesSpec)

/-- 'assizelaw14.NnfMeans', WHERE WHAT IT READS IS OF BULK AT MOST 1048576: true; the input reads as it did. -/
def nnfMeansUptoRow : OpenClaim := { program := "ytndjjnnljihmnaagreat", sum := "9c3861ccc88fc5e816197e96c9dc9293609579f1ec47f22bd48777bfc2542d6c", func := "assize/assizelaw14.NnfMeans", spec := "nnfMeans", unfollowed := true, recurses := true, loops := true, apart := false, narrowed := true }
def NnfMeansUptoSaid : Prop := nnfMeansUptoRow.holds Tryz.pinned (OpenSpec.upto nnfMeansSpec)

end Rows
end Go.Proofs.YtndjjnnljihmnaaGreat
