/-
  No cell of these rows narrows 'for every input' (looked for: loops, veiled, ifaces, maps, wideKeys, modest, calm, conditions, laid).
  DERIVED. THE GIVEN ROWS OF THIS SEAT. 6 by the template 'for every input the law returns true; each argument reads behind the call as it read before'; 0 by the template 'total and deterministic' (their statements: YtcehlajkpnhdiaaTotals.lean).
  GIVEN WITH THE SEED: the statements are not yours to turn. If you find one false, say at which input.
  Laid BY PROGRAM, IN A SANDBOX (cutbox-rows.mjs): the forced cells as the released guide's own fill.sh prints them over the translation d79780dc925089ac… (all of the seat's roots in one cut). By AI agents, Wed Nov 11 2026. No macro, syntax, notation, axiom, sorry.
-/
import Derived.Test.YtcehlajkpnhdiaaChecked
import GoSem.Claim
import GoSem.ClaimJoined
import GoSem.ClaimMapViews
import Derived.JoinedTies
import Derived.KernelRfl
namespace Go.Proofs.Ytcehlajkpnhdiaa
/- THE CELL 'sum', in the pinned program and in every row, IS THE sha256 OF THE DUMP (.gsa) THAT YtcehlajkpnhdiaaProg.lean LOADS. Nothing in Lean hashes anything: it is a label: what it is worth is what the hold of that sum in a sandbox is worth. -/
noncomputable def Try.pinned : Pinned := { name := "ytcehlajkpnhdiaa", sum := "d79780dc925089ac14c429d18b93a28d8fd7e686a6464ef9c60fd8043faa89d5", checked := Try.checked }
namespace Rows
def none {H : Type} : Left H := { results := [], args := [] }

/-- 'headgatelaw34.ReplicaCatches': WHATEVER THE INPUT: true; the input reads as it did. -/
def replicaCatchesSpec : ChangeSpec := { name := "replicaCatches", fn := fun _ => fun
  | [d1, d2] => { results := [.lit (.bool true)], args := [d1, d2] }
  | _ => none }
def replicaCatchesRow : OpenClaim := { program := "ytcehlajkpnhdiaa", sum := "d79780dc925089ac14c429d18b93a28d8fd7e686a6464ef9c60fd8043faa89d5", func := "headgate/headgatelaw34.ReplicaCatches", spec := "replicaCatches", apart := false }
def ReplicaCatchesSaid : Prop := replicaCatchesRow.holds Try.pinned (OpenSpec.ofChange replicaCatchesSpec)

/-- ITS FALSE NEIGHBOUR: 'it returns false'. Refute it at one input. -/
def replicaCatchesWrong : ChangeSpec := { name := "replicaCatches", fn := fun _ => fun
  | [d1, d2] => { results := [.lit (.bool false)], args := [d1, d2] }
  | _ => none }
def ReplicaCatchesWrongFalsely : Prop := replicaCatchesRow.holds Try.pinned (OpenSpec.ofChange replicaCatchesWrong)

/-- 'headgatelaw34.ReplicaNone': WHATEVER THE INPUT: true; the input reads as it did. -/
def replicaNoneSpec : ChangeSpec := { name := "replicaNone", fn := fun _ => fun
  | [d1, d2] => { results := [.lit (.bool true)], args := [d1, d2] }
  | _ => none }
def replicaNoneRow : OpenClaim := { program := "ytcehlajkpnhdiaa", sum := "d79780dc925089ac14c429d18b93a28d8fd7e686a6464ef9c60fd8043faa89d5", func := "headgate/headgatelaw34.ReplicaNone", spec := "replicaNone", apart := false }
def ReplicaNoneSaid : Prop := replicaNoneRow.holds Try.pinned (OpenSpec.ofChange replicaNoneSpec)

/-- ITS FALSE NEIGHBOUR: 'it returns false'. Refute it at one input. -/
def replicaNoneWrong : ChangeSpec := { name := "replicaNone", fn := fun _ => fun
  | [d1, d2] => { results := [.lit (.bool false)], args := [d1, d2] }
  | _ => none }
def ReplicaNoneWrongFalsely : Prop := replicaNoneRow.holds Try.pinned (OpenSpec.ofChange replicaNoneWrong)

/-- 'headgatelaw34.ReplicaAgrees': WHATEVER THE INPUT: true; the input reads as it did. -/
def replicaAgreesSpec : ChangeSpec := { name := "replicaAgrees", fn := fun _ => fun
  | [d1, d2] => { results := [.lit (.bool true)], args := [d1, d2] }
  | _ => none }
def replicaAgreesRow : OpenClaim := { program := "ytcehlajkpnhdiaa", sum := "d79780dc925089ac14c429d18b93a28d8fd7e686a6464ef9c60fd8043faa89d5", func := "headgate/headgatelaw34.ReplicaAgrees", spec := "replicaAgrees", apart := false }
def ReplicaAgreesSaid : Prop := replicaAgreesRow.holds Try.pinned (OpenSpec.ofChange replicaAgreesSpec)

/-- ITS FALSE NEIGHBOUR: 'it returns false'. Refute it at one input. -/
def replicaAgreesWrong : ChangeSpec := { name := "replicaAgrees", fn := fun _ => fun
  | [d1, d2] => { results := [.lit (.bool false)], args := [d1, d2] }
  | _ => none }
def ReplicaAgreesWrongFalsely : Prop := replicaAgreesRow.holds Try.pinned (OpenSpec.ofChange replicaAgreesWrong)

/-- 'headgatelaw34.ReplicaPlays': WHATEVER THE INPUT: true; the input reads as it did. -/
def replicaPlaysSpec : ChangeSpec := { name := "replicaPlays", fn := fun _ => fun
  | [d1, d2] => { results := [.lit (.bool true)], args := [d1, d2] }
  | _ => none }
def replicaPlaysRow : OpenClaim := { program := "ytcehlajkpnhdiaa", sum := "d79780dc925089ac14c429d18b93a28d8fd7e686a6464ef9c60fd8043faa89d5", func := "headgate/headgatelaw34.ReplicaPlays", spec := "replicaPlays", apart := false }
def ReplicaPlaysSaid : Prop := replicaPlaysRow.holds Try.pinned (OpenSpec.ofChange replicaPlaysSpec)

/-- ITS FALSE NEIGHBOUR: 'it returns false'. Refute it at one input. -/
def replicaPlaysWrong : ChangeSpec := { name := "replicaPlays", fn := fun _ => fun
  | [d1, d2] => { results := [.lit (.bool false)], args := [d1, d2] }
  | _ => none }
def ReplicaPlaysWrongFalsely : Prop := replicaPlaysRow.holds Try.pinned (OpenSpec.ofChange replicaPlaysWrong)

/-- 'headgatelaw34.ReplicaLeads': WHATEVER THE INPUT: true; the input reads as it did. -/
def replicaLeadsSpec : ChangeSpec := { name := "replicaLeads", fn := fun _ => fun
  | [d1, d2] => { results := [.lit (.bool true)], args := [d1, d2] }
  | _ => none }
def replicaLeadsRow : OpenClaim := { program := "ytcehlajkpnhdiaa", sum := "d79780dc925089ac14c429d18b93a28d8fd7e686a6464ef9c60fd8043faa89d5", func := "headgate/headgatelaw34.ReplicaLeads", spec := "replicaLeads", apart := false }
def ReplicaLeadsSaid : Prop := replicaLeadsRow.holds Try.pinned (OpenSpec.ofChange replicaLeadsSpec)

/-- ITS FALSE NEIGHBOUR: 'it returns false'. Refute it at one input. -/
def replicaLeadsWrong : ChangeSpec := { name := "replicaLeads", fn := fun _ => fun
  | [d1, d2] => { results := [.lit (.bool false)], args := [d1, d2] }
  | _ => none }
def ReplicaLeadsWrongFalsely : Prop := replicaLeadsRow.holds Try.pinned (OpenSpec.ofChange replicaLeadsWrong)

/-- 'headgatelaw34.ReplicaKeeps': WHATEVER THE INPUT: true; the input reads as it did. -/
def replicaKeepsSpec : ChangeSpec := { name := "replicaKeeps", fn := fun _ => fun
  | [d1, d2] => { results := [.lit (.bool true)], args := [d1, d2] }
  | _ => none }
def replicaKeepsRow : OpenClaim := { program := "ytcehlajkpnhdiaa", sum := "d79780dc925089ac14c429d18b93a28d8fd7e686a6464ef9c60fd8043faa89d5", func := "headgate/headgatelaw34.ReplicaKeeps", spec := "replicaKeeps", apart := false }
def ReplicaKeepsSaid : Prop := replicaKeepsRow.holds Try.pinned (OpenSpec.ofChange replicaKeepsSpec)

/-- ITS FALSE NEIGHBOUR: 'it returns false'. Refute it at one input. -/
def replicaKeepsWrong : ChangeSpec := { name := "replicaKeeps", fn := fun _ => fun
  | [d1, d2] => { results := [.lit (.bool false)], args := [d1, d2] }
  | _ => none }
def ReplicaKeepsWrongFalsely : Prop := replicaKeepsRow.holds Try.pinned (OpenSpec.ofChange replicaKeepsWrong)

/- THE SECOND FORM. 'bulk': how many values and letters a reading holds, each counted each time it is reached (what is shared counts as often as it is met; a slice's spare places count too). A statement '..UptoSaid' is the law's where the arguments, and the package variables that the reading takes, are together of bulk at most 1048576: NARROWER than '..Said'. Prove '..Said' where nothing that the law and all that it calls make is longer than what came in: it says more and counts as full. Else prove '..UptoSaid'. A law counts once. -/
mutual
def uptoBulk {H : Type} : DataW H → Nat
  | .lit (.string bytes) => bytes.length + 1
  | .lit _ => 1
  | .nil => 1
  | .ptr d => uptoBulk d + 1
  | .slice elems spare => uptoBulkAll elems + uptoBulkAll spare + 1
  | .agg parts => uptoBulkAll parts + 1
  | .iface _ d => uptoBulk d + 1
  | .map entries => uptoBulkEntries entries + 1
  | .held _ => 1
def uptoBulkAll {H : Type} : List (DataW H) → Nat
  | [] => 0
  | d :: r => uptoBulk d + uptoBulkAll r
def uptoBulkEntries {H : Type} : List (Lit × DataW H) → Nat
  | [] => 0
  | x :: r => uptoBulkEntry x + uptoBulkEntries r
def uptoBulkEntry {H : Type} : Lit × DataW H → Nat
  | (.string bytes, d) => bytes.length + uptoBulk d + 1
  | (_, d) => uptoBulk d + 1
 end
def uptoSmall : (H : Type) → List (DataW H) → Bool := fun _ ds => decide (uptoBulkAll ds ≤ 1048576)
def OpenSpec.upto (s : _root_.Go.ChangeSpec) : _root_.Go.OpenSpec := { _root_.Go.OpenSpec.ofChange s with cond := some uptoSmall }

/-- 'headgatelaw34.ReplicaCatches', WHERE WHAT IT READS IS OF BULK AT MOST 1048576: true; the input reads as it did. -/
def replicaCatchesUptoRow : OpenClaim := { program := "ytcehlajkpnhdiaa", sum := "d79780dc925089ac14c429d18b93a28d8fd7e686a6464ef9c60fd8043faa89d5", func := "headgate/headgatelaw34.ReplicaCatches", spec := "replicaCatches", apart := false, narrowed := true }
def ReplicaCatchesUptoSaid : Prop := replicaCatchesUptoRow.holds Try.pinned (OpenSpec.upto replicaCatchesSpec)

/-- 'headgatelaw34.ReplicaNone', WHERE WHAT IT READS IS OF BULK AT MOST 1048576: true; the input reads as it did. -/
def replicaNoneUptoRow : OpenClaim := { program := "ytcehlajkpnhdiaa", sum := "d79780dc925089ac14c429d18b93a28d8fd7e686a6464ef9c60fd8043faa89d5", func := "headgate/headgatelaw34.ReplicaNone", spec := "replicaNone", apart := false, narrowed := true }
def ReplicaNoneUptoSaid : Prop := replicaNoneUptoRow.holds Try.pinned (OpenSpec.upto replicaNoneSpec)

/-- 'headgatelaw34.ReplicaAgrees', WHERE WHAT IT READS IS OF BULK AT MOST 1048576: true; the input reads as it did. -/
def replicaAgreesUptoRow : OpenClaim := { program := "ytcehlajkpnhdiaa", sum := "d79780dc925089ac14c429d18b93a28d8fd7e686a6464ef9c60fd8043faa89d5", func := "headgate/headgatelaw34.ReplicaAgrees", spec := "replicaAgrees", apart := false, narrowed := true }
def ReplicaAgreesUptoSaid : Prop := replicaAgreesUptoRow.holds Try.pinned (OpenSpec.upto replicaAgreesSpec)

/-- 'headgatelaw34.ReplicaPlays', WHERE WHAT IT READS IS OF BULK AT MOST 1048576: true; the input reads as it did. -/
def replicaPlaysUptoRow : OpenClaim := { program := "ytcehlajkpnhdiaa", sum := "d79780dc925089ac14c429d18b93a28d8fd7e686a6464ef9c60fd8043faa89d5", func := "headgate/headgatelaw34.ReplicaPlays", spec := "replicaPlays", apart := false, narrowed := true }
def ReplicaPlaysUptoSaid : Prop := replicaPlaysUptoRow.holds Try.pinned (OpenSpec.upto replicaPlaysSpec)

/-- 'headgatelaw34.ReplicaLeads', WHERE WHAT IT READS IS OF BULK AT MOST 1048576: true; the input reads as it did. -/
def replicaLeadsUptoRow : OpenClaim := { program := "ytcehlajkpnhdiaa", sum := "d79780dc925089ac14c429d18b93a28d8fd7e686a6464ef9c60fd8043faa89d5", func := "headgate/headgatelaw34.ReplicaLeads", spec := "replicaLeads", apart := false, narrowed := true }
def ReplicaLeadsUptoSaid : Prop := replicaLeadsUptoRow.holds Try.pinned (OpenSpec.upto replicaLeadsSpec)

/-- 'headgatelaw34.ReplicaKeeps', WHERE WHAT IT READS IS OF BULK AT MOST 1048576: true; the input reads as it did. -/
def replicaKeepsUptoRow : OpenClaim := { program := "ytcehlajkpnhdiaa", sum := "d79780dc925089ac14c429d18b93a28d8fd7e686a6464ef9c60fd8043faa89d5", func := "headgate/headgatelaw34.ReplicaKeeps", spec := "replicaKeeps", apart := false, narrowed := true }
def ReplicaKeepsUptoSaid : Prop := replicaKeepsUptoRow.holds Try.pinned (OpenSpec.upto replicaKeepsSpec)

end Rows
end Go.Proofs.Ytcehlajkpnhdiaa
