/-
  No cell of these rows narrows 'for every input' (looked for: loops, veiled, ifaces, maps, wideKeys, modest, calm, conditions, laid).
  DERIVED. THE GIVEN ROWS OF THIS SEAT. 3 by the template 'for every input the law returns true; each argument reads behind the call as it read before'; 0 by the template 'total and deterministic' (their statements: YtjomgaafnpbmhaaTotals.lean).
  GIVEN WITH THE SEED: the statements are not yours to turn. If you find one false, say at which input.
  Laid BY PROGRAM, IN A SANDBOX (cutbox-rows.mjs): the forced cells as the released guide's own fill.sh prints them over the translation ed1a66c9cd6e4660… (all of the seat's roots in one cut). By AI agents, Wed Nov 11 2026. No macro, syntax, notation, axiom, sorry.
-/
import Derived.Test.YtjomgaafnpbmhaaChecked
import GoSem.Claim
import GoSem.ClaimJoined
import GoSem.ClaimMapViews
import Derived.JoinedTies
import Derived.KernelRfl
namespace Go.Proofs.Ytjomgaafnpbmhaa
/- THE CELL 'sum', in the pinned program and in every row, IS THE sha256 OF THE DUMP (.gsa) THAT YtjomgaafnpbmhaaProg.lean LOADS. Nothing in Lean hashes anything: it is a label: what it is worth is what the hold of that sum in a sandbox is worth. -/
noncomputable def Try.pinned : Pinned := { name := "ytjomgaafnpbmhaa", sum := "ed1a66c9cd6e466033b145b90731df5b286bb04650dee71d24ef0dd5e8c1aaf1", checked := Try.checked }
namespace Rows
def none {H : Type} : Left H := { results := [], args := [] }

/-- 'binnaclelaw19.RingUntil': WHATEVER THE INPUT: true; the input reads as it did. -/
def ringUntilSpec : ChangeSpec := { name := "ringUntil", fn := fun _ => fun
  | [d1, d2, d3, d4] => { results := [.lit (.bool true)], args := [d1, d2, d3, d4] }
  | _ => none }
def ringUntilRow : OpenClaim := { program := "ytjomgaafnpbmhaa", sum := "ed1a66c9cd6e466033b145b90731df5b286bb04650dee71d24ef0dd5e8c1aaf1", func := "binnacle/binnaclelaw19.RingUntil", spec := "ringUntil", unfollowed := true, recurses := true, apart := false }
def RingUntilSaid : Prop := ringUntilRow.holds Try.pinned (OpenSpec.ofChange ringUntilSpec)

/-- ITS FALSE NEIGHBOUR: 'it returns false'. Refute it at one input. -/
def ringUntilWrong : ChangeSpec := { name := "ringUntil", fn := fun _ => fun
  | [d1, d2, d3, d4] => { results := [.lit (.bool false)], args := [d1, d2, d3, d4] }
  | _ => none }
def RingUntilWrongFalsely : Prop := ringUntilRow.holds Try.pinned (OpenSpec.ofChange ringUntilWrong)

/-- 'binnaclelaw19.RingTurns': WHATEVER THE INPUT: true; the input reads as it did. -/
def ringTurnsSpec : ChangeSpec := { name := "ringTurns", fn := fun _ => fun
  | [d1, d2] => { results := [.lit (.bool true)], args := [d1, d2] }
  | _ => none }
def ringTurnsRow : OpenClaim := { program := "ytjomgaafnpbmhaa", sum := "ed1a66c9cd6e466033b145b90731df5b286bb04650dee71d24ef0dd5e8c1aaf1", func := "binnacle/binnaclelaw19.RingTurns", spec := "ringTurns", unfollowed := true, recurses := true, apart := false }
def RingTurnsSaid : Prop := ringTurnsRow.holds Try.pinned (OpenSpec.ofChange ringTurnsSpec)

/-- ITS FALSE NEIGHBOUR: 'it returns false'. Refute it at one input. -/
def ringTurnsWrong : ChangeSpec := { name := "ringTurns", fn := fun _ => fun
  | [d1, d2] => { results := [.lit (.bool false)], args := [d1, d2] }
  | _ => none }
def RingTurnsWrongFalsely : Prop := ringTurnsRow.holds Try.pinned (OpenSpec.ofChange ringTurnsWrong)

/-- 'binnaclelaw19.RingSorts': WHATEVER THE INPUT: true; the input reads as it did. -/
def ringSortsSpec : ChangeSpec := { name := "ringSorts", fn := fun _ => fun
  | [d] => { results := [.lit (.bool true)], args := [d] }
  | _ => none }
def ringSortsRow : OpenClaim := { program := "ytjomgaafnpbmhaa", sum := "ed1a66c9cd6e466033b145b90731df5b286bb04650dee71d24ef0dd5e8c1aaf1", func := "binnacle/binnaclelaw19.RingSorts", spec := "ringSorts", unfollowed := true, recurses := true, apart := false }
def RingSortsSaid : Prop := ringSortsRow.holds Try.pinned (OpenSpec.ofChange ringSortsSpec)

/-- ITS FALSE NEIGHBOUR: 'it returns false'. Refute it at one input. -/
def ringSortsWrong : ChangeSpec := { name := "ringSorts", fn := fun _ => fun
  | [d] => { results := [.lit (.bool false)], args := [d] }
  | _ => none }
def RingSortsWrongFalsely : Prop := ringSortsRow.holds Try.pinned (OpenSpec.ofChange ringSortsWrong)

/- THE SECOND FORM. 'bulk': how many values and letters a reading holds, each counted each time it is reached (what is shared counts as often as it is met; a slice's spare places count too). A statement '..UptoSaid' is the law's where the arguments, and the package variables that the reading takes, are together of bulk at most 1048576: NARROWER than '..Said'. Prove '..Said' where nothing that the law and all that it calls make is longer than what came in: it says more and counts as full. Else prove '..UptoSaid'. A law counts once. -/
mutual
def uptoBulk {H : Type} : DataW H → Nat
  | .lit (.string bytes) => bytes.length + 1
  | .lit _ => 1
  | .nil => 1
  | .ptr d => uptoBulk d + 1
  | .slice elems spare => uptoBulkAll elems + uptoBulkAll spare + 1
  | .agg parts => uptoBulkAll parts + 1
  | .iface _ d => uptoBulk d + 1
  | .map entries => uptoBulkEntries entries + 1
  | .held _ => 1
def uptoBulkAll {H : Type} : List (DataW H) → Nat
  | [] => 0
  | d :: r => uptoBulk d + uptoBulkAll r
def uptoBulkEntries {H : Type} : List (Lit × DataW H) → Nat
  | [] => 0
  | x :: r => uptoBulkEntry x + uptoBulkEntries r
def uptoBulkEntry {H : Type} : Lit × DataW H → Nat
  | (.string bytes, d) => bytes.length + uptoBulk d + 1
  | (_, d) => uptoBulk d + 1
 end
def uptoSmall : (H : Type) → List (DataW H) → Bool := fun _ ds => decide (uptoBulkAll ds ≤ 1048576)
def OpenSpec.upto (s : _root_.Go.ChangeSpec) : _root_.Go.OpenSpec := { _root_.Go.OpenSpec.ofChange s with cond := some uptoSmall }

/-- 'binnaclelaw19.RingUntil', WHERE WHAT IT READS IS OF BULK AT MOST 1048576: true; the input reads as it did. -/
def ringUntilUptoRow : OpenClaim := { program := "ytjomgaafnpbmhaa", sum := "ed1a66c9cd6e466033b145b90731df5b286bb04650dee71d24ef0dd5e8c1aaf1", func := "binnacle/binnaclelaw19.RingUntil", spec := "ringUntil", unfollowed := true, recurses := true, apart := false, narrowed := true }
def RingUntilUptoSaid : Prop := ringUntilUptoRow.holds Try.pinned (OpenSpec.upto ringUntilSpec)

/-- 'binnaclelaw19.RingTurns', WHERE WHAT IT READS IS OF BULK AT MOST 1048576: true; the input reads as it did. -/
def ringTurnsUptoRow : OpenClaim := { program := "ytjomgaafnpbmhaa", sum := "ed1a66c9cd6e466033b145b90731df5b286bb04650dee71d24ef0dd5e8c1aaf1", func := "binnacle/binnaclelaw19.RingTurns", spec := "ringTurns", unfollowed := true, recurses := true, apart := false, narrowed := true }
def RingTurnsUptoSaid : Prop := ringTurnsUptoRow.holds Try.pinned (OpenSpec.upto ringTurnsSpec)

/-- 'binnaclelaw19.RingSorts', WHERE WHAT IT READS IS OF BULK AT MOST 1048576: true; the input reads as it did. -/
def ringSortsUptoRow : OpenClaim := { program := "ytjomgaafnpbmhaa", sum := "ed1a66c9cd6e466033b145b90731df5b286bb04650dee71d24ef0dd5e8c1aaf1", func := "binnacle/binnaclelaw19.RingSorts", spec := "ringSorts", unfollowed := true, recurses := true, apart := false, narrowed := true }
def RingSortsUptoSaid : Prop := ringSortsUptoRow.holds Try.pinned (OpenSpec.upto ringSortsSpec)

end Rows
end Go.Proofs.Ytjomgaafnpbmhaa
