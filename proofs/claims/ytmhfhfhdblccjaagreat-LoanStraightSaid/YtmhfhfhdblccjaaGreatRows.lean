/-
  No cell of these rows narrows 'for every input' (looked for: loops, veiled, ifaces, maps, wideKeys, modest, calm, conditions, laid).
  DERIVED. THE GIVEN ROWS OF THIS SEAT. 4 by the template 'for every input the law returns true; each argument reads behind the call as it read before'; 0 by the template 'total and deterministic' (their statements: YtmhfhfhdblccjaaGreatTotals.lean).
  GIVEN WITH THE SEED: the statements are not yours to turn. If you find one false, say at which input.
  Laid BY PROGRAM, IN A SANDBOX (cutbox-rows.mjs): the forced cells as the released guide's own fill.sh prints them over the translation 70f6c48f2843109c… (all of the seat's roots in one cut). By AI agents, Wed Nov 11 2026. No macro, syntax, notation, axiom, sorry.
-/
import Derived.Test.YtmhfhfhdblccjaaGreatChecked
import GoSem.Claim
import GoSem.ClaimJoined
import GoSem.ClaimMapViews
import Derived.JoinedTies
import Derived.KernelRfl
namespace Go.Proofs.YtmhfhfhdblccjaaGreat
/- THE CELL 'sum', in the pinned program and in every row, IS THE sha256 OF THE DUMP (.gsa) THAT YtmhfhfhdblccjaaGreatProg.lean LOADS. Nothing in Lean hashes anything: it is a label: what it is worth is what the hold of that sum in a sandbox is worth. -/
noncomputable def Tryz.pinned : Pinned := { name := "ytmhfhfhdblccjaagreat", sum := "70f6c48f2843109c9bbd6e4793031a111240004126c8b9d79d6d47e5fb51b81b", checked := Tryz.checked }
namespace Rows
def none {H : Type} : Left H := { results := [], args := [] }

/-- 'staddlelaw10.LoanFewest': WHATEVER THE INPUT: true; the input reads as it did. -/
def loanFewestSpec : ChangeSpec := { name := "loanFewest", fn := fun _ => fun
  | [d1, d2] => { results := [.lit (.bool true)], args := [d1, d2] }
  | _ => none }
def loanFewestRow : OpenClaim := { program := "ytmhfhfhdblccjaagreat", sum := "70f6c48f2843109c9bbd6e4793031a111240004126c8b9d79d6d47e5fb51b81b", func := "staddle/staddlelaw10.LoanFewest", spec := "loanFewest", unfollowed := true, recurses := true, apart := false }
def LoanFewestSaid : Prop := loanFewestRow.holds Tryz.pinned (OpenSpec.ofChange loanFewestSpec)

/-- ITS FALSE NEIGHBOUR: 'it returns false'. Refute it at one input. -/
def loanFewestWrong : ChangeSpec := { name := "loanFewest", fn := fun _ => fun
  | [d1, d2] => { results := [.lit (.bool false)], args := [d1, d2] }
  | _ => none }
def LoanFewestWrongFalsely : Prop := loanFewestRow.holds Tryz.pinned (OpenSpec.ofChange loanFewestWrong)

/-- 'staddlelaw10.LoanCircles': WHATEVER THE INPUT: true; the input reads as it did. -/
def loanCirclesSpec : ChangeSpec := { name := "loanCircles", fn := fun _ => fun
  | [d1, d2] => { results := [.lit (.bool true)], args := [d1, d2] }
  | _ => none }
def loanCirclesRow : OpenClaim := { program := "ytmhfhfhdblccjaagreat", sum := "70f6c48f2843109c9bbd6e4793031a111240004126c8b9d79d6d47e5fb51b81b", func := "staddle/staddlelaw10.LoanCircles", spec := "loanCircles", unfollowed := true, recurses := true, apart := false }
def LoanCirclesSaid : Prop := loanCirclesRow.holds Tryz.pinned (OpenSpec.ofChange loanCirclesSpec)

/-- ITS FALSE NEIGHBOUR: 'it returns false'. Refute it at one input. -/
def loanCirclesWrong : ChangeSpec := { name := "loanCircles", fn := fun _ => fun
  | [d1, d2] => { results := [.lit (.bool false)], args := [d1, d2] }
  | _ => none }
def LoanCirclesWrongFalsely : Prop := loanCirclesRow.holds Tryz.pinned (OpenSpec.ofChange loanCirclesWrong)

/-- 'staddlelaw10.LoanStraight': WHATEVER THE INPUT: true; the input reads as it did. -/
def loanStraightSpec : ChangeSpec := { name := "loanStraight", fn := fun _ => fun
  | [d] => { results := [.lit (.bool true)], args := [d] }
  | _ => none }
def loanStraightRow : OpenClaim := { program := "ytmhfhfhdblccjaagreat", sum := "70f6c48f2843109c9bbd6e4793031a111240004126c8b9d79d6d47e5fb51b81b", func := "staddle/staddlelaw10.LoanStraight", spec := "loanStraight", unfollowed := true, recurses := true, apart := false }
def LoanStraightSaid : Prop := loanStraightRow.holds Tryz.pinned (OpenSpec.ofChange loanStraightSpec)

/-- ITS FALSE NEIGHBOUR: 'it returns false'. Refute it at one input. -/
def loanStraightWrong : ChangeSpec := { name := "loanStraight", fn := fun _ => fun
  | [d] => { results := [.lit (.bool false)], args := [d] }
  | _ => none }
def LoanStraightWrongFalsely : Prop := loanStraightRow.holds Tryz.pinned (OpenSpec.ofChange loanStraightWrong)

/-- 'staddlelaw10.LoanNamed': WHATEVER THE INPUT: true; the input reads as it did. -/
def loanNamedSpec : ChangeSpec := { name := "loanNamed", fn := fun _ => fun
  | [d1, d2] => { results := [.lit (.bool true)], args := [d1, d2] }
  | _ => none }
def loanNamedRow : OpenClaim := { program := "ytmhfhfhdblccjaagreat", sum := "70f6c48f2843109c9bbd6e4793031a111240004126c8b9d79d6d47e5fb51b81b", func := "staddle/staddlelaw10.LoanNamed", spec := "loanNamed", inPlace := ["slices.overlaps[int]"], unfollowed := true, recurses := true, apart := false }
def LoanNamedSaid : Prop := loanNamedRow.holds Tryz.pinned (OpenSpec.ofChange loanNamedSpec)

/-- ITS FALSE NEIGHBOUR: 'it returns false'. Refute it at one input. -/
def loanNamedWrong : ChangeSpec := { name := "loanNamed", fn := fun _ => fun
  | [d1, d2] => { results := [.lit (.bool false)], args := [d1, d2] }
  | _ => none }
def LoanNamedWrongFalsely : Prop := loanNamedRow.holds Tryz.pinned (OpenSpec.ofChange loanNamedWrong)

/- THE SECOND FORM. 'bulk': how many values and letters a reading holds, each counted each time it is reached (what is shared counts as often as it is met; a slice's spare places count too). A statement '..UptoSaid' is the law's where the arguments, and the package variables that the reading takes, are together of bulk at most 1048576: NARROWER than '..Said'. Prove '..Said' where nothing that the law and all that it calls make is longer than what came in: it says more and counts as full. Else prove '..UptoSaid'. A law counts once. -/
mutual
def uptoBulk {H : Type} : DataW H → Nat
  | .lit (.string bytes) => bytes.length + 1
  | .lit _ => 1
  | .nil => 1
  | .ptr d => uptoBulk d + 1
  | .slice elems spare => uptoBulkAll elems + uptoBulkAll spare + 1
  | .agg parts => uptoBulkAll parts + 1
  | .iface _ d => uptoBulk d + 1
  | .map entries => uptoBulkEntries entries + 1
  | .held _ => 1
def uptoBulkAll {H : Type} : List (DataW H) → Nat
  | [] => 0
  | d :: r => uptoBulk d + uptoBulkAll r
def uptoBulkEntries {H : Type} : List (Lit × DataW H) → Nat
  | [] => 0
  | x :: r => uptoBulkEntry x + uptoBulkEntries r
def uptoBulkEntry {H : Type} : Lit × DataW H → Nat
  | (.string bytes, d) => bytes.length + uptoBulk d + 1
  | (_, d) => uptoBulk d + 1
 end
def uptoSmall : (H : Type) → List (DataW H) → Bool := fun _ ds => decide (uptoBulkAll ds ≤ 1048576)
def OpenSpec.upto (s : _root_.Go.ChangeSpec) : _root_.Go.OpenSpec := { _root_.Go.OpenSpec.ofChange s with cond := some uptoSmall }

/-- 'staddlelaw10.LoanFewest', WHERE WHAT IT READS IS OF BULK AT MOST 1048576: true; the input reads as it did. -/
def loanFewestUptoRow : OpenClaim := { program := "ytmhfhfhdblccjaagreat", sum := "70f6c48f2843109c9bbd6e4793031a111240004126c8b9d79d6d47e5fb51b81b", func := "staddle/staddlelaw10.LoanFewest", spec := "loanFewest", unfollowed := true, recurses := true, apart := false, narrowed := true }
def LoanFewestUptoSaid : Prop := loanFewestUptoRow.holds Tryz.pinned (OpenSpec.upto loanFewestSpec)

/-- 'staddlelaw10.LoanCircles', WHERE WHAT IT READS IS OF BULK AT MOST 1048576: true; the input reads as it did. -/
def loanCirclesUptoRow : OpenClaim := { program := "ytmhfhfhdblccjaagreat", sum := "70f6c48f2843109c9bbd6e4793031a111240004126c8b9d79d6d47e5fb51b81b", func := "staddle/staddlelaw10.LoanCircles", spec := "loanCircles", unfollowed := true, recurses := true, apart := false, narrowed := true }
def LoanCirclesUptoSaid : Prop := loanCirclesUptoRow.holds Tryz.pinned (OpenSpec.upto loanCirclesSpec)

/-- 'staddlelaw10.LoanStraight', WHERE WHAT IT READS IS OF BULK AT MOST 1048576: true; the input reads as it did. -/
def loanStraightUptoRow : OpenClaim := { program := "ytmhfhfhdblccjaagreat", sum := "70f6c48f2843109c9bbd6e4793031a111240004126c8b9d79d6d47e5fb51b81b", func := "staddle/staddlelaw10.LoanStraight", spec := "loanStraight", unfollowed := true, recurses := true, apart := false, narrowed := true }
def LoanStraightUptoSaid : Prop := loanStraightUptoRow.holds Tryz.pinned (OpenSpec.upto loanStraightSpec)

/-- 'staddlelaw10.LoanNamed', WHERE WHAT IT READS IS OF BULK AT MOST 1048576: true; the input reads as it did. -/
def loanNamedUptoRow : OpenClaim := { program := "ytmhfhfhdblccjaagreat", sum := "70f6c48f2843109c9bbd6e4793031a111240004126c8b9d79d6d47e5fb51b81b", func := "staddle/staddlelaw10.LoanNamed", spec := "loanNamed", inPlace := ["slices.overlaps[int]"], unfollowed := true, recurses := true, apart := false, narrowed := true }
def LoanNamedUptoSaid : Prop := loanNamedUptoRow.holds Tryz.pinned (OpenSpec.upto loanNamedSpec)

end Rows
end Go.Proofs.YtmhfhfhdblccjaaGreat
