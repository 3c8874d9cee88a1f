/-
  No cell of these rows narrows 'for every input' (looked for: loops, veiled, ifaces, maps, wideKeys, modest, calm, conditions, laid).
  DERIVED. THE GIVEN ROWS OF THIS SEAT. 4 by the template 'for every input the law returns true; each argument reads behind the call as it read before'; 0 by the template 'total and deterministic' (their statements: YtfcdldibfdoljaaTotals.lean).
  GIVEN WITH THE SEED: the statements are not yours to turn. If you find one false, say at which input.
  Laid BY PROGRAM, IN A SANDBOX (cutbox-rows.mjs): the forced cells as the released guide's own fill.sh prints them over the translation c4b69c7db31e2642… (all of the seat's roots in one cut). By AI agents, Wed Nov 11 2026. No macro, syntax, notation, axiom, sorry.
-/
import Derived.Test.YtfcdldibfdoljaaChecked
import GoSem.Claim
import GoSem.ClaimJoined
import GoSem.ClaimMapViews
import Derived.JoinedTies
import Derived.KernelRfl
namespace Go.Proofs.Ytfcdldibfdoljaa
/- THE CELL 'sum', in the pinned program and in every row, IS THE sha256 OF THE DUMP (.gsa) THAT YtfcdldibfdoljaaProg.lean LOADS. Nothing in Lean hashes anything: it is a label: what it is worth is what the hold of that sum in a sandbox is worth. -/
noncomputable def Try.pinned : Pinned := { name := "ytfcdldibfdoljaa", sum := "c4b69c7db31e2642ffd9d97477e05c4e60ecf2ac87ed3c3f856ee5ce8c4a9359", checked := Try.checked }
namespace Rows
def none {H : Type} : Left H := { results := [], args := [] }

/-- 'lanternlaw1.BytesWrites': WHATEVER THE INPUT: true; the input reads as it did. -/
def bytesWritesSpec : ChangeSpec := { name := "bytesWrites", fn := fun _ => fun
  | [d] => { results := [.lit (.bool true)], args := [d] }
  | _ => none }
def bytesWritesRow : OpenClaim := { program := "ytfcdldibfdoljaa", sum := "c4b69c7db31e2642ffd9d97477e05c4e60ecf2ac87ed3c3f856ee5ce8c4a9359", func := "lantern/lanternlaw1.BytesWrites", spec := "bytesWrites", apart := false }
def BytesWritesSaid : Prop := bytesWritesRow.holds Try.pinned (OpenSpec.ofChange bytesWritesSpec)

/-- ITS FALSE NEIGHBOUR: 'it returns false'. Refute it at one input. -/
def bytesWritesWrong : ChangeSpec := { name := "bytesWrites", fn := fun _ => fun
  | [d] => { results := [.lit (.bool false)], args := [d] }
  | _ => none }
def BytesWritesWrongFalsely : Prop := bytesWritesRow.holds Try.pinned (OpenSpec.ofChange bytesWritesWrong)

/-- 'lanternlaw1.BytesNumbers': WHATEVER THE INPUT: true; the input reads as it did. -/
def bytesNumbersSpec : ChangeSpec := { name := "bytesNumbers", fn := fun _ => fun
  | [d1, d2, d3, d4] => { results := [.lit (.bool true)], args := [d1, d2, d3, d4] }
  | _ => none }
def bytesNumbersRow : OpenClaim := { program := "ytfcdldibfdoljaa", sum := "c4b69c7db31e2642ffd9d97477e05c4e60ecf2ac87ed3c3f856ee5ce8c4a9359", func := "lantern/lanternlaw1.BytesNumbers", spec := "bytesNumbers", apart := false }
def BytesNumbersSaid : Prop := bytesNumbersRow.holds Try.pinned (OpenSpec.ofChange bytesNumbersSpec)

/-- ITS FALSE NEIGHBOUR: 'it returns false'. Refute it at one input. -/
def bytesNumbersWrong : ChangeSpec := { name := "bytesNumbers", fn := fun _ => fun
  | [d1, d2, d3, d4] => { results := [.lit (.bool false)], args := [d1, d2, d3, d4] }
  | _ => none }
def BytesNumbersWrongFalsely : Prop := bytesNumbersRow.holds Try.pinned (OpenSpec.ofChange bytesNumbersWrong)

/-- 'lanternlaw1.BytesReads': WHATEVER THE INPUT: true; the input reads as it did. -/
def bytesReadsSpec : ChangeSpec := { name := "bytesReads", fn := fun _ => fun
  | [d1, d2] => { results := [.lit (.bool true)], args := [d1, d2] }
  | _ => none }
def bytesReadsRow : OpenClaim := { program := "ytfcdldibfdoljaa", sum := "c4b69c7db31e2642ffd9d97477e05c4e60ecf2ac87ed3c3f856ee5ce8c4a9359", func := "lantern/lanternlaw1.BytesReads", spec := "bytesReads", apart := false }
def BytesReadsSaid : Prop := bytesReadsRow.holds Try.pinned (OpenSpec.ofChange bytesReadsSpec)

/-- ITS FALSE NEIGHBOUR: 'it returns false'. Refute it at one input. -/
def bytesReadsWrong : ChangeSpec := { name := "bytesReads", fn := fun _ => fun
  | [d1, d2] => { results := [.lit (.bool false)], args := [d1, d2] }
  | _ => none }
def BytesReadsWrongFalsely : Prop := bytesReadsRow.holds Try.pinned (OpenSpec.ofChange bytesReadsWrong)

/-- 'lanternlaw1.BytesBack': WHATEVER THE INPUT: true; the input reads as it did. -/
def bytesBackSpec : ChangeSpec := { name := "bytesBack", fn := fun _ => fun
  | [d1, d2] => { results := [.lit (.bool true)], args := [d1, d2] }
  | _ => none }
def bytesBackRow : OpenClaim := { program := "ytfcdldibfdoljaa", sum := "c4b69c7db31e2642ffd9d97477e05c4e60ecf2ac87ed3c3f856ee5ce8c4a9359", func := "lantern/lanternlaw1.BytesBack", spec := "bytesBack", apart := false }
def BytesBackSaid : Prop := bytesBackRow.holds Try.pinned (OpenSpec.ofChange bytesBackSpec)

/-- ITS FALSE NEIGHBOUR: 'it returns false'. Refute it at one input. -/
def bytesBackWrong : ChangeSpec := { name := "bytesBack", fn := fun _ => fun
  | [d1, d2] => { results := [.lit (.bool false)], args := [d1, d2] }
  | _ => none }
def BytesBackWrongFalsely : Prop := bytesBackRow.holds Try.pinned (OpenSpec.ofChange bytesBackWrong)

/- THE SECOND FORM. 'bulk': how many values and letters a reading holds, each counted each time it is reached (what is shared counts as often as it is met; a slice's spare places count too). A statement '..UptoSaid' is the law's where the arguments, and the package variables that the reading takes, are together of bulk at most 1048576: NARROWER than '..Said'. Prove '..Said' where nothing that the law and all that it calls make is longer than what came in: it says more and counts as full. Else prove '..UptoSaid'. A law counts once. -/
mutual
def uptoBulk {H : Type} : DataW H → Nat
  | .lit (.string bytes) => bytes.length + 1
  | .lit _ => 1
  | .nil => 1
  | .ptr d => uptoBulk d + 1
  | .slice elems spare => uptoBulkAll elems + uptoBulkAll spare + 1
  | .agg parts => uptoBulkAll parts + 1
  | .iface _ d => uptoBulk d + 1
  | .map entries => uptoBulkEntries entries + 1
  | .held _ => 1
def uptoBulkAll {H : Type} : List (DataW H) → Nat
  | [] => 0
  | d :: r => uptoBulk d + uptoBulkAll r
def uptoBulkEntries {H : Type} : List (Lit × DataW H) → Nat
  | [] => 0
  | x :: r => uptoBulkEntry x + uptoBulkEntries r
def uptoBulkEntry {H : Type} : Lit × DataW H → Nat
  | (.string bytes, d) => bytes.length + uptoBulk d + 1
  | (_, d) => uptoBulk d + 1
 end
def uptoSmall : (H : Type) → List (DataW H) → Bool := fun _ ds => decide (uptoBulkAll ds ≤ 1048576)
def OpenSpec.upto (s : _root_.Go.ChangeSpec) : _root_.Go.OpenSpec := { _root_.Go.OpenSpec.ofChange s with cond := some uptoSmall }

/-- 'lanternlaw1.BytesWrites', WHERE WHAT IT READS IS OF BULK AT MOST 1048576: true; the input reads as it did. -/
def bytesWritesUptoRow : OpenClaim := { program := "ytfcdldibfdoljaa", sum := "c4b69c7db31e2642ffd9d97477e05c4e60ecf2ac87ed3c3f856ee5ce8c4a9359", func := "lantern/lanternlaw1.BytesWrites", spec := "bytesWrites", apart := false, narrowed := true }
def BytesWritesUptoSaid : Prop := bytesWritesUptoRow.holds Try.pinned (OpenSpec.upto bytesWritesSpec)

/-- 'lanternlaw1.BytesNumbers', WHERE WHAT IT READS IS OF BULK AT MOST 1048576: true; the input reads as it did. -/
def bytesNumbersUptoRow : OpenClaim := { program := "ytfcdldibfdoljaa", sum := "c4b69c7db31e2642ffd9d97477e05c4e60ecf2ac87ed3c3f856ee5ce8c4a9359", func := "lantern/lanternlaw1.BytesNumbers", spec := "bytesNumbers", apart := false, narrowed := true }
def BytesNumbersUptoSaid : Prop := bytesNumbersUptoRow.holds Try.pinned (OpenSpec.upto bytesNumbersSpec)

/-- 'lanternlaw1.BytesReads', WHERE WHAT IT READS IS OF BULK AT MOST 1048576: true; the input reads as it did. -/
def bytesReadsUptoRow : OpenClaim := { program := "ytfcdldibfdoljaa", sum := "c4b69c7db31e2642ffd9d97477e05c4e60ecf2ac87ed3c3f856ee5ce8c4a9359", func := "lantern/lanternlaw1.BytesReads", spec := "bytesReads", apart := false, narrowed := true }
def BytesReadsUptoSaid : Prop := bytesReadsUptoRow.holds Try.pinned (OpenSpec.upto bytesReadsSpec)

/-- 'lanternlaw1.BytesBack', WHERE WHAT IT READS IS OF BULK AT MOST 1048576: true; the input reads as it did. -/
def bytesBackUptoRow : OpenClaim := { program := "ytfcdldibfdoljaa", sum := "c4b69c7db31e2642ffd9d97477e05c4e60ecf2ac87ed3c3f856ee5ce8c4a9359", func := "lantern/lanternlaw1.BytesBack", spec := "bytesBack", apart := false, narrowed := true }
def BytesBackUptoSaid : Prop := bytesBackUptoRow.holds Try.pinned (OpenSpec.upto bytesBackSpec)

end Rows
end Go.Proofs.Ytfcdldibfdoljaa
