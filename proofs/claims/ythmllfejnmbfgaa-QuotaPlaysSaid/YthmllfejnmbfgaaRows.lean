/-
  No cell of these rows narrows 'for every input' (looked for: loops, veiled, ifaces, maps, wideKeys, modest, calm, conditions, laid).
  DERIVED. THE GIVEN ROWS OF THIS SEAT. 4 by the template 'for every input the law returns true; each argument reads behind the call as it read before'; 0 by the template 'total and deterministic' (their statements: YthmllfejnmbfgaaTotals.lean).
  GIVEN WITH THE SEED: the statements are not yours to turn. If you find one false, say at which input.
  Laid BY PROGRAM, IN A SANDBOX (cutbox-rows.mjs): the forced cells as the released guide's own fill.sh prints them over the translation e428705bb58ccf54… (all of the seat's roots in one cut). By AI agents, Wed Nov 11 2026. No macro, syntax, notation, axiom, sorry.
-/
import Derived.Test.YthmllfejnmbfgaaChecked
import GoSem.Claim
import GoSem.ClaimJoined
import GoSem.ClaimMapViews
import Derived.JoinedTies
import Derived.KernelRfl
namespace Go.Proofs.Ythmllfejnmbfgaa
/- THE CELL 'sum', in the pinned program and in every row, IS THE sha256 OF THE DUMP (.gsa) THAT YthmllfejnmbfgaaProg.lean LOADS. Nothing in Lean hashes anything: it is a label: what it is worth is what the hold of that sum in a sandbox is worth. -/
noncomputable def Try.pinned : Pinned := { name := "ythmllfejnmbfgaa", sum := "e428705bb58ccf54914f0ab0ef6f0951da96997d8b03f42e084a6ade4ed8aad8", checked := Try.checked }
namespace Rows
def none {H : Type} : Left H := { results := [], args := [] }

/-- 'assizelaw02.QuotaNumbers': WHATEVER THE INPUT: true; the input reads as it did. -/
def quotaNumbersSpec : ChangeSpec := { name := "quotaNumbers", fn := fun _ => fun
  | [d1, d2] => { results := [.lit (.bool true)], args := [d1, d2] }
  | _ => none }
def quotaNumbersRow : OpenClaim := { program := "ythmllfejnmbfgaa", sum := "e428705bb58ccf54914f0ab0ef6f0951da96997d8b03f42e084a6ade4ed8aad8", func := "assize/assizelaw02.QuotaNumbers", spec := "quotaNumbers", apart := false }
def QuotaNumbersSaid : Prop := quotaNumbersRow.holds Try.pinned (OpenSpec.ofChange quotaNumbersSpec)

/-- ITS FALSE NEIGHBOUR: 'it returns false'. Refute it at one input. -/
def quotaNumbersWrong : ChangeSpec := { name := "quotaNumbers", fn := fun _ => fun
  | [d1, d2] => { results := [.lit (.bool false)], args := [d1, d2] }
  | _ => none }
def QuotaNumbersWrongFalsely : Prop := quotaNumbersRow.holds Try.pinned (OpenSpec.ofChange quotaNumbersWrong)

/-- 'assizelaw02.QuotaLaws': WHATEVER THE INPUT: true; the input reads as it did. -/
def quotaLawsSpec : ChangeSpec := { name := "quotaLaws", fn := fun _ => fun
  | [d1, d2, d3] => { results := [.lit (.bool true)], args := [d1, d2, d3] }
  | _ => none }
def quotaLawsRow : OpenClaim := { program := "ythmllfejnmbfgaa", sum := "e428705bb58ccf54914f0ab0ef6f0951da96997d8b03f42e084a6ade4ed8aad8", func := "assize/assizelaw02.QuotaLaws", spec := "quotaLaws", apart := false }
def QuotaLawsSaid : Prop := quotaLawsRow.holds Try.pinned (OpenSpec.ofChange quotaLawsSpec)

/-- ITS FALSE NEIGHBOUR: 'it returns false'. Refute it at one input. -/
def quotaLawsWrong : ChangeSpec := { name := "quotaLaws", fn := fun _ => fun
  | [d1, d2, d3] => { results := [.lit (.bool false)], args := [d1, d2, d3] }
  | _ => none }
def QuotaLawsWrongFalsely : Prop := quotaLawsRow.holds Try.pinned (OpenSpec.ofChange quotaLawsWrong)

/-- 'assizelaw02.QuotaBounds': WHATEVER THE INPUT: true; the input reads as it did. -/
def quotaBoundsSpec : ChangeSpec := { name := "quotaBounds", fn := fun _ => fun
  | [d1, d2] => { results := [.lit (.bool true)], args := [d1, d2] }
  | _ => none }
def quotaBoundsRow : OpenClaim := { program := "ythmllfejnmbfgaa", sum := "e428705bb58ccf54914f0ab0ef6f0951da96997d8b03f42e084a6ade4ed8aad8", func := "assize/assizelaw02.QuotaBounds", spec := "quotaBounds", apart := false }
def QuotaBoundsSaid : Prop := quotaBoundsRow.holds Try.pinned (OpenSpec.ofChange quotaBoundsSpec)

/-- ITS FALSE NEIGHBOUR: 'it returns false'. Refute it at one input. -/
def quotaBoundsWrong : ChangeSpec := { name := "quotaBounds", fn := fun _ => fun
  | [d1, d2] => { results := [.lit (.bool false)], args := [d1, d2] }
  | _ => none }
def QuotaBoundsWrongFalsely : Prop := quotaBoundsRow.holds Try.pinned (OpenSpec.ofChange quotaBoundsWrong)

/-- 'assizelaw02.QuotaPlays': WHATEVER THE INPUT: true; the input reads as it did. -/
def quotaPlaysSpec : ChangeSpec := { name := "quotaPlays", fn := fun _ => fun
  | [d1, d2, d3] => { results := [.lit (.bool true)], args := [d1, d2, d3] }
  | _ => none }
def quotaPlaysRow : OpenClaim := { program := "ythmllfejnmbfgaa", sum := "e428705bb58ccf54914f0ab0ef6f0951da96997d8b03f42e084a6ade4ed8aad8", func := "assize/assizelaw02.QuotaPlays", spec := "quotaPlays", unfollowed := true, recurses := true, apart := false }
def QuotaPlaysSaid : Prop := quotaPlaysRow.holds Try.pinned (OpenSpec.ofChange quotaPlaysSpec)

/-- ITS FALSE NEIGHBOUR: 'it returns false'. Refute it at one input. -/
def quotaPlaysWrong : ChangeSpec := { name := "quotaPlays", fn := fun _ => fun
  | [d1, d2, d3] => { results := [.lit (.bool false)], args := [d1, d2, d3] }
  | _ => none }
def QuotaPlaysWrongFalsely : Prop := quotaPlaysRow.holds Try.pinned (OpenSpec.ofChange quotaPlaysWrong)

/- THE SECOND FORM. 'bulk': how many values and letters a reading holds, each counted each time it is reached (what is shared counts as often as it is met; a slice's spare places count too). A statement '..UptoSaid' is the law's where the arguments, and the package variables that the reading takes, are together of bulk at most 1048576: NARROWER than '..Said'. Prove '..Said' where nothing that the law and all that it calls make is longer than what came in: it says more and counts as full. Else prove '..UptoSaid'. A law counts once. -/
mutual
def uptoBulk {H : Type} : DataW H → Nat
  | .lit (.string bytes) => bytes.length + 1
  | .lit _ => 1
  | .nil => 1
  | .ptr d => uptoBulk d + 1
  | .slice elems spare => uptoBulkAll elems + uptoBulkAll spare + 1
  | .agg parts => uptoBulkAll parts + 1
  | .iface _ d => uptoBulk d + 1
  | .map entries => uptoBulkEntries entries + 1
  | .held _ => 1
def uptoBulkAll {H : Type} : List (DataW H) → Nat
  | [] => 0
  | d :: r => uptoBulk d + uptoBulkAll r
def uptoBulkEntries {H : Type} : List (Lit × DataW H) → Nat
  | [] => 0
  | x :: r => uptoBulkEntry x + uptoBulkEntries r
def uptoBulkEntry {H : Type} : Lit × DataW H → Nat
  | (.string bytes, d) => bytes.length + uptoBulk d + 1
  | (_, d) => uptoBulk d + 1
 end
def uptoSmall : (H : Type) → List (DataW H) → Bool := fun _ ds => decide (uptoBulkAll ds ≤ 1048576)
def OpenSpec.upto (s : _root_.Go.ChangeSpec) : _root_.Go.OpenSpec := { _root_.Go.OpenSpec.ofChange s with cond := some uptoSmall }

/-- 'assizelaw02.QuotaNumbers', WHERE WHAT IT READS IS OF BULK AT MOST 1048576: true; the input reads as it did. -/
def quotaNumbersUptoRow : OpenClaim := { program := "ythmllfejnmbfgaa", sum := "e428705bb58ccf54914f0ab0ef6f0951da96997d8b03f42e084a6ade4ed8aad8", func := "assize/assizelaw02.QuotaNumbers", spec := "quotaNumbers", apart := false, narrowed := true }
def QuotaNumbersUptoSaid : Prop := quotaNumbersUptoRow.holds Try.pinned (OpenSpec.upto quotaNumbersSpec)

/-- 'assizelaw02.QuotaLaws', WHERE WHAT IT READS IS OF BULK AT MOST 1048576: true; the input reads as it did. -/
def quotaLawsUptoRow : OpenClaim := { program := "ythmllfejnmbfgaa", sum := "e428705bb58ccf54914f0ab0ef6f0951da96997d8b03f42e084a6ade4ed8aad8", func := "assize/assizelaw02.QuotaLaws", spec := "quotaLaws", apart := false, narrowed := true }
def QuotaLawsUptoSaid : Prop := quotaLawsUptoRow.holds Try.pinned (OpenSpec.upto quotaLawsSpec)

/-- 'assizelaw02.QuotaBounds', WHERE WHAT IT READS IS OF BULK AT MOST 1048576: true; the input reads as it did. -/
def quotaBoundsUptoRow : OpenClaim := { program := "ythmllfejnmbfgaa", sum := "e428705bb58ccf54914f0ab0ef6f0951da96997d8b03f42e084a6ade4ed8aad8", func := "assize/assizelaw02.QuotaBounds", spec := "quotaBounds", apart := false, narrowed := true }
def QuotaBoundsUptoSaid : Prop := quotaBoundsUptoRow.holds Try.pinned (OpenSpec.upto quotaBoundsSpec)

/-- 'assizelaw02.QuotaPlays', WHERE WHAT IT READS IS OF BULK AT MOST 1048576: true; the input reads as it did. -/
def quotaPlaysUptoRow : OpenClaim := { program := "ythmllfejnmbfgaa", sum := "e428705bb58ccf54914f0ab0ef6f0951da96997d8b03f42e084a6ade4ed8aad8", func := "assize/assizelaw02.QuotaPlays", spec := "quotaPlays", unfollowed := true, recurses := true, apart := false, narrowed := true }
def QuotaPlaysUptoSaid : Prop := quotaPlaysUptoRow.holds Try.pinned (OpenSpec.upto quotaPlaysSpec)

end Rows
end Go.Proofs.Ythmllfejnmbfgaa
