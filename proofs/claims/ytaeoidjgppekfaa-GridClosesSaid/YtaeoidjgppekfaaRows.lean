/-
  No cell of these rows narrows 'for every input' (looked for: loops, veiled, ifaces, maps, wideKeys, modest, calm, conditions, laid).
  DERIVED. THE GIVEN ROWS OF THIS SEAT. 6 by the template 'for every input the law returns true; each argument reads behind the call as it read before'; 0 by the template 'total and deterministic' (their statements: YtaeoidjgppekfaaTotals.lean).
  GIVEN WITH THE SEED: the statements are not yours to turn. If you find one false, say at which input.
  Laid BY PROGRAM, IN A SANDBOX (cutbox-rows.mjs): the forced cells as the released guide's own fill.sh prints them over the translation bb1bd47676085d46… (all of the seat's roots in one cut). By AI agents, Wed Nov 11 2026. No macro, syntax, notation, axiom, sorry.
-/
import Derived.Test.YtaeoidjgppekfaaChecked
import GoSem.Claim
import GoSem.ClaimJoined
import GoSem.ClaimMapViews
import Derived.JoinedTies
import Derived.KernelRfl
namespace Go.Proofs.Ytaeoidjgppekfaa
/- THE CELL 'sum', in the pinned program and in every row, IS THE sha256 OF THE DUMP (.gsa) THAT YtaeoidjgppekfaaProg.lean LOADS. Nothing in Lean hashes anything: it is a label: what it is worth is what the hold of that sum in a sandbox is worth. -/
noncomputable def Try.pinned : Pinned := { name := "ytaeoidjgppekfaa", sum := "bb1bd47676085d467c9a6b403c165f9c04e6562fffef63c637fb554d2128d6c9", checked := Try.checked }
namespace Rows
def none {H : Type} : Left H := { results := [], args := [] }

/-- 'headgatelaw14.GridStarts': WHATEVER THE INPUT: true; the input reads as it did. -/
def gridStartsSpec : ChangeSpec := { name := "gridStarts", fn := fun _ => fun
  | [d1, d2] => { results := [.lit (.bool true)], args := [d1, d2] }
  | _ => none }
def gridStartsRow : OpenClaim := { program := "ytaeoidjgppekfaa", sum := "bb1bd47676085d467c9a6b403c165f9c04e6562fffef63c637fb554d2128d6c9", func := "headgate/headgatelaw14.GridStarts", spec := "gridStarts", apart := false }
def GridStartsSaid : Prop := gridStartsRow.holds Try.pinned (OpenSpec.ofChange gridStartsSpec)

/-- ITS FALSE NEIGHBOUR: 'it returns false'. Refute it at one input. -/
def gridStartsWrong : ChangeSpec := { name := "gridStarts", fn := fun _ => fun
  | [d1, d2] => { results := [.lit (.bool false)], args := [d1, d2] }
  | _ => none }
def GridStartsWrongFalsely : Prop := gridStartsRow.holds Try.pinned (OpenSpec.ofChange gridStartsWrong)

/-- 'headgatelaw14.GridCloses': WHATEVER THE INPUT: true; the input reads as it did. -/
def gridClosesSpec : ChangeSpec := { name := "gridCloses", fn := fun _ => fun
  | [d1, d2, d3] => { results := [.lit (.bool true)], args := [d1, d2, d3] }
  | _ => none }
def gridClosesRow : OpenClaim := { program := "ytaeoidjgppekfaa", sum := "bb1bd47676085d467c9a6b403c165f9c04e6562fffef63c637fb554d2128d6c9", func := "headgate/headgatelaw14.GridCloses", spec := "gridCloses", apart := false }
def GridClosesSaid : Prop := gridClosesRow.holds Try.pinned (OpenSpec.ofChange gridClosesSpec)

/-- ITS FALSE NEIGHBOUR: 'it returns false'. Refute it at one input. -/
def gridClosesWrong : ChangeSpec := { name := "gridCloses", fn := fun _ => fun
  | [d1, d2, d3] => { results := [.lit (.bool false)], args := [d1, d2, d3] }
  | _ => none }
def GridClosesWrongFalsely : Prop := gridClosesRow.holds Try.pinned (OpenSpec.ofChange gridClosesWrong)

/-- 'headgatelaw14.GridHas': WHATEVER THE INPUT: true; the input reads as it did. -/
def gridHasSpec : ChangeSpec := { name := "gridHas", fn := fun _ => fun
  | [d1, d2, d3] => { results := [.lit (.bool true)], args := [d1, d2, d3] }
  | _ => none }
def gridHasRow : OpenClaim := { program := "ytaeoidjgppekfaa", sum := "bb1bd47676085d467c9a6b403c165f9c04e6562fffef63c637fb554d2128d6c9", func := "headgate/headgatelaw14.GridHas", spec := "gridHas", apart := false }
def GridHasSaid : Prop := gridHasRow.holds Try.pinned (OpenSpec.ofChange gridHasSpec)

/-- ITS FALSE NEIGHBOUR: 'it returns false'. Refute it at one input. -/
def gridHasWrong : ChangeSpec := { name := "gridHas", fn := fun _ => fun
  | [d1, d2, d3] => { results := [.lit (.bool false)], args := [d1, d2, d3] }
  | _ => none }
def GridHasWrongFalsely : Prop := gridHasRow.holds Try.pinned (OpenSpec.ofChange gridHasWrong)

/-- 'headgatelaw14.GridCounts': WHATEVER THE INPUT: true; the input reads as it did. -/
def gridCountsSpec : ChangeSpec := { name := "gridCounts", fn := fun _ => fun
  | [d1, d2] => { results := [.lit (.bool true)], args := [d1, d2] }
  | _ => none }
def gridCountsRow : OpenClaim := { program := "ytaeoidjgppekfaa", sum := "bb1bd47676085d467c9a6b403c165f9c04e6562fffef63c637fb554d2128d6c9", func := "headgate/headgatelaw14.GridCounts", spec := "gridCounts", apart := false }
def GridCountsSaid : Prop := gridCountsRow.holds Try.pinned (OpenSpec.ofChange gridCountsSpec)

/-- ITS FALSE NEIGHBOUR: 'it returns false'. Refute it at one input. -/
def gridCountsWrong : ChangeSpec := { name := "gridCounts", fn := fun _ => fun
  | [d1, d2] => { results := [.lit (.bool false)], args := [d1, d2] }
  | _ => none }
def GridCountsWrongFalsely : Prop := gridCountsRow.holds Try.pinned (OpenSpec.ofChange gridCountsWrong)

/-- 'headgatelaw14.GridStays': WHATEVER THE INPUT: true; the input reads as it did. -/
def gridStaysSpec : ChangeSpec := { name := "gridStays", fn := fun _ => fun
  | [d1, d2, d3, d4, d5] => { results := [.lit (.bool true)], args := [d1, d2, d3, d4, d5] }
  | _ => none }
def gridStaysRow : OpenClaim := { program := "ytaeoidjgppekfaa", sum := "bb1bd47676085d467c9a6b403c165f9c04e6562fffef63c637fb554d2128d6c9", func := "headgate/headgatelaw14.GridStays", spec := "gridStays", apart := false }
def GridStaysSaid : Prop := gridStaysRow.holds Try.pinned (OpenSpec.ofChange gridStaysSpec)

/-- ITS FALSE NEIGHBOUR: 'it returns false'. Refute it at one input. -/
def gridStaysWrong : ChangeSpec := { name := "gridStays", fn := fun _ => fun
  | [d1, d2, d3, d4, d5] => { results := [.lit (.bool false)], args := [d1, d2, d3, d4, d5] }
  | _ => none }
def GridStaysWrongFalsely : Prop := gridStaysRow.holds Try.pinned (OpenSpec.ofChange gridStaysWrong)

/-- 'headgatelaw14.GridTumbles': WHATEVER THE INPUT: true; the input reads as it did. -/
def gridTumblesSpec : ChangeSpec := { name := "gridTumbles", fn := fun _ => fun
  | [d1, d2, d3] => { results := [.lit (.bool true)], args := [d1, d2, d3] }
  | _ => none }
def gridTumblesRow : OpenClaim := { program := "ytaeoidjgppekfaa", sum := "bb1bd47676085d467c9a6b403c165f9c04e6562fffef63c637fb554d2128d6c9", func := "headgate/headgatelaw14.GridTumbles", spec := "gridTumbles", apart := false }
def GridTumblesSaid : Prop := gridTumblesRow.holds Try.pinned (OpenSpec.ofChange gridTumblesSpec)

/-- ITS FALSE NEIGHBOUR: 'it returns false'. Refute it at one input. -/
def gridTumblesWrong : ChangeSpec := { name := "gridTumbles", fn := fun _ => fun
  | [d1, d2, d3] => { results := [.lit (.bool false)], args := [d1, d2, d3] }
  | _ => none }
def GridTumblesWrongFalsely : Prop := gridTumblesRow.holds Try.pinned (OpenSpec.ofChange gridTumblesWrong)

/- THE SECOND FORM. 'bulk': how many values and letters a reading holds, each counted each time it is reached (what is shared counts as often as it is met; a slice's spare places count too). A statement '..UptoSaid' is the law's where the arguments, and the package variables that the reading takes, are together of bulk at most 1048576: NARROWER than '..Said'. Prove '..Said' where nothing that the law and all that it calls make is longer than what came in: it says more and counts as full. Else prove '..UptoSaid'. A law counts once. -/
mutual
def uptoBulk {H : Type} : DataW H → Nat
  | .lit (.string bytes) => bytes.length + 1
  | .lit _ => 1
  | .nil => 1
  | .ptr d => uptoBulk d + 1
  | .slice elems spare => uptoBulkAll elems + uptoBulkAll spare + 1
  | .agg parts => uptoBulkAll parts + 1
  | .iface _ d => uptoBulk d + 1
  | .map entries => uptoBulkEntries entries + 1
  | .held _ => 1
def uptoBulkAll {H : Type} : List (DataW H) → Nat
  | [] => 0
  | d :: r => uptoBulk d + uptoBulkAll r
def uptoBulkEntries {H : Type} : List (Lit × DataW H) → Nat
  | [] => 0
  | x :: r => uptoBulkEntry x + uptoBulkEntries r
def uptoBulkEntry {H : Type} : Lit × DataW H → Nat
  | (.string bytes, d) => bytes.length + uptoBulk d + 1
  | (_, d) => uptoBulk d + 1
 end
def uptoSmall : (H : Type) → List (DataW H) → Bool := fun _ ds => decide (uptoBulkAll ds ≤ 1048576)
def OpenSpec.upto (s : _root_.Go.ChangeSpec) : _root_.Go.OpenSpec := { _root_.Go.OpenSpec.ofChange s with cond := some uptoSmall }

/-- 'headgatelaw14.GridStarts', WHERE WHAT IT READS IS OF BULK AT MOST 1048576: true; the input reads as it did. -/
def gridStartsUptoRow : OpenClaim := { program := "ytaeoidjgppekfaa", sum := "bb1bd47676085d467c9a6b403c165f9c04e6562fffef63c637fb554d2128d6c9", func := "headgate/headgatelaw14.GridStarts", spec := "gridStarts", apart := false, narrowed := true }
def GridStartsUptoSaid : Prop := gridStartsUptoRow.holds Try.pinned (OpenSpec.upto gridStartsSpec)

/-- 'headgatelaw14.GridCloses', WHERE WHAT IT READS IS OF BULK AT MOST 1048576: true; the input reads as it did. -/
def gridClosesUptoRow : OpenClaim := { program := "ytaeoidjgppekfaa", sum := "bb1bd47676085d467c9a6b403c165f9c04e6562fffef63c637fb554d2128d6c9", func := "headgate/headgatelaw14.GridCloses", spec := "gridCloses", apart := false, narrowed := true }
def GridClosesUptoSaid : Prop := gridClosesUptoRow.holds Try.pinned (OpenSpec.upto gridClosesSpec)

/-- 'headgatelaw14.GridHas', WHERE WHAT IT READS IS OF BULK AT MOST 1048576: true; the input reads as it did. -/
def gridHasUptoRow : OpenClaim := { program := "ytaeoidjgppekfaa", sum := "bb1bd47676085d467c9a6b403c165f9c04e6562fffef63c637fb554d2128d6c9", func := "headgate/headgatelaw14.GridHas", spec := "gridHas", apart := false, narrowed := true }
def GridHasUptoSaid : Prop := gridHasUptoRow.holds Try.pinned (OpenSpec.upto gridHasSpec)

/-- 'headgatelaw14.GridCounts', WHERE WHAT IT READS IS OF BULK AT MOST 1048576: true; the input reads as it did. -/
def gridCountsUptoRow : OpenClaim := { program := "ytaeoidjgppekfaa", sum := "bb1bd47676085d467c9a6b403c165f9c04e6562fffef63c637fb554d2128d6c9", func := "headgate/headgatelaw14.GridCounts", spec := "gridCounts", apart := false, narrowed := true }
def GridCountsUptoSaid : Prop := gridCountsUptoRow.holds Try.pinned (OpenSpec.upto gridCountsSpec)

/-- 'headgatelaw14.GridStays', WHERE WHAT IT READS IS OF BULK AT MOST 1048576: true; the input reads as it did. -/
def gridStaysUptoRow : OpenClaim := { program := "ytaeoidjgppekfaa", sum := "bb1bd47676085d467c9a6b403c165f9c04e6562fffef63c637fb554d2128d6c9", func := "headgate/headgatelaw14.GridStays", spec := "gridStays", apart := false, narrowed := true }
def GridStaysUptoSaid : Prop := gridStaysUptoRow.holds Try.pinned (OpenSpec.upto gridStaysSpec)

/-- 'headgatelaw14.GridTumbles', WHERE WHAT IT READS IS OF BULK AT MOST 1048576: true; the input reads as it did. -/
def gridTumblesUptoRow : OpenClaim := { program := "ytaeoidjgppekfaa", sum := "bb1bd47676085d467c9a6b403c165f9c04e6562fffef63c637fb554d2128d6c9", func := "headgate/headgatelaw14.GridTumbles", spec := "gridTumbles", apart := false, narrowed := true }
def GridTumblesUptoSaid : Prop := gridTumblesUptoRow.holds Try.pinned (OpenSpec.upto gridTumblesSpec)

end Rows
end Go.Proofs.Ytaeoidjgppekfaa
