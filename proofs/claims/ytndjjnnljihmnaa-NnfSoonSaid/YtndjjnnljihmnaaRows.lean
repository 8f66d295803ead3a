/-
  NARROWER THAN 'FOR EVERY INPUT', by the rows' own cells (each row's printed sentence says how): NnfTwice: loops.
  DERIVED. THE GIVEN ROWS OF THIS SEAT. 2 by the template 'for every input the law returns true; each argument reads behind the call as it read before'; 0 by the template 'total and deterministic' (their statements: YtndjjnnljihmnaaTotals.lean).
  GIVEN WITH THE SEED: the statements are not yours to turn. If you find one false, say at which input.
  Laid BY PROGRAM, IN A SANDBOX (cutbox-rows.mjs): the forced cells as the released guide's own fill.sh prints them over the translation 2e62720c21f297d9… (all of the seat's roots in one cut). By AI agents, Wed Nov 11 2026. No macro, syntax, notation, axiom, sorry.
-/
import Derived.Test.YtndjjnnljihmnaaChecked
import GoSem.Claim
import GoSem.ClaimJoined
import GoSem.ClaimMapViews
import Derived.JoinedTies
import Derived.KernelRfl
namespace Go.Proofs.Ytndjjnnljihmnaa
/- THE CELL 'sum', in the pinned program and in every row, IS THE sha256 OF THE DUMP (.gsa) THAT YtndjjnnljihmnaaProg.lean LOADS. Nothing in Lean hashes anything: it is a label: what it is worth is what the hold of that sum in a sandbox is worth. -/
noncomputable def Try.pinned : Pinned := { name := "ytndjjnnljihmnaa", sum := "2e62720c21f297d9bfff28884c6b56c1b503d67c2719ae75ace0ddfcc38e3dd9", checked := Try.checked }
namespace Rows
def none {H : Type} : Left H := { results := [], args := [] }

/-- 'assizelaw14.NnfTwice': WHATEVER THE INPUT: true; the input reads as it did. -/
def nnfTwiceSpec : ChangeSpec := { name := "nnfTwice", fn := fun _ => fun
  | [d] => { results := [.lit (.bool true)], args := [d] }
  | _ => none }
def nnfTwiceRow : OpenClaim := { program := "ytndjjnnljihmnaa", sum := "2e62720c21f297d9bfff28884c6b56c1b503d67c2719ae75ace0ddfcc38e3dd9", func := "assize/assizelaw14.NnfTwice", spec := "nnfTwice", unfollowed := true, recurses := true, loops := true, apart := false }
def NnfTwiceSaid : Prop := nnfTwiceRow.holds Try.pinned (OpenSpec.ofChange nnfTwiceSpec)

/-- ITS FALSE NEIGHBOUR: 'it returns false'. Refute it at one input. -/
def nnfTwiceWrong : ChangeSpec := { name := "nnfTwice", fn := fun _ => fun
  | [d] => { results := [.lit (.bool false)], args := [d] }
  | _ => none }
def NnfTwiceWrongFalsely : Prop := nnfTwiceRow.holds Try.pinned (OpenSpec.ofChange nnfTwiceWrong)

/-- 'assizelaw14.NnfSoon': WHATEVER THE INPUT: true; the input reads as it did. -/
def nnfSoonSpec : ChangeSpec := { name := "nnfSoon", fn := fun _ => fun
  | [d] => { results := [.lit (.bool true)], args := [d] }
  | _ => none }
def nnfSoonRow : OpenClaim := { program := "ytndjjnnljihmnaa", sum := "2e62720c21f297d9bfff28884c6b56c1b503d67c2719ae75ace0ddfcc38e3dd9", func := "assize/assizelaw14.NnfSoon", spec := "nnfSoon", unfollowed := true, recurses := true, apart := false }
def NnfSoonSaid : Prop := nnfSoonRow.holds Try.pinned (OpenSpec.ofChange nnfSoonSpec)

/-- ITS FALSE NEIGHBOUR: 'it returns false'. Refute it at one input. -/
def nnfSoonWrong : ChangeSpec := { name := "nnfSoon", fn := fun _ => fun
  | [d] => { results := [.lit (.bool false)], args := [d] }
  | _ => none }
def NnfSoonWrongFalsely : Prop := nnfSoonRow.holds Try.pinned (OpenSpec.ofChange nnfSoonWrong)

/- THE SECOND FORM. 'bulk': how many values and letters a reading holds, each counted each time it is reached (what is shared counts as often as it is met; a slice's spare places count too). A statement '..UptoSaid' is the law's where the arguments, and the package variables that the reading takes, are together of bulk at most 1048576: NARROWER than '..Said'. Prove '..Said' where nothing that the law and all that it calls make is longer than what came in: it says more and counts as full. Else prove '..UptoSaid'. A law counts once. -/
mutual
def uptoBulk {H : Type} : DataW H → Nat
  | .lit (.string bytes) => bytes.length + 1
  | .lit _ => 1
  | .nil => 1
  | .ptr d => uptoBulk d + 1
  | .slice elems spare => uptoBulkAll elems + uptoBulkAll spare + 1
  | .agg parts => uptoBulkAll parts + 1
  | .iface _ d => uptoBulk d + 1
  | .map entries => uptoBulkEntries entries + 1
  | .held _ => 1
def uptoBulkAll {H : Type} : List (DataW H) → Nat
  | [] => 0
  | d :: r => uptoBulk d + uptoBulkAll r
def uptoBulkEntries {H : Type} : List (Lit × DataW H) → Nat
  | [] => 0
  | x :: r => uptoBulkEntry x + uptoBulkEntries r
def uptoBulkEntry {H : Type} : Lit × DataW H → Nat
  | (.string bytes, d) => bytes.length + uptoBulk d + 1
  | (_, d) => uptoBulk d + 1
 end
def uptoSmall : (H : Type) → List (DataW H) → Bool := fun _ ds => decide (uptoBulkAll ds ≤ 1048576)
def OpenSpec.upto (s : _root_.Go.ChangeSpec) : _root_.Go.OpenSpec := { _root_.Go.OpenSpec.ofChange s with cond := some uptoSmall }

/-- 'assizelaw14.NnfTwice', WHERE WHAT IT READS IS OF BULK AT MOST 1048576: true; the input reads as it did. -/
def nnfTwiceUptoRow : OpenClaim := { program := "ytndjjnnljihmnaa", sum := "2e62720c21f297d9bfff28884c6b56c1b503d67c2719ae75ace0ddfcc38e3dd9", func := "assize/assizelaw14.NnfTwice", spec := "nnfTwice", unfollowed := true, recurses := true, loops := true, apart := false, narrowed := true }
def NnfTwiceUptoSaid : Prop := nnfTwiceUptoRow.holds Try.pinned (OpenSpec.upto nnfTwiceSpec)

/-- 'assizelaw14.NnfSoon', WHERE WHAT IT READS IS OF BULK AT MOST 1048576: true; the input reads as it did. -/
def nnfSoonUptoRow : OpenClaim := { program := "ytndjjnnljihmnaa", sum := "2e62720c21f297d9bfff28884c6b56c1b503d67c2719ae75ace0ddfcc38e3dd9", func := "assize/assizelaw14.NnfSoon", spec := "nnfSoon", unfollowed := true, recurses := true, apart := false, narrowed := true }
def NnfSoonUptoSaid : Prop := nnfSoonUptoRow.holds Try.pinned (OpenSpec.upto nnfSoonSpec)

end Rows
end Go.Proofs.Ytndjjnnljihmnaa
