/-
  No cell of these rows narrows 'for every input' (looked for: loops, veiled, ifaces, maps, wideKeys, modest, calm, conditions, laid).
  DERIVED. THE GIVEN ROWS OF THIS SEAT. 4 by the template 'for every input the law returns true; each argument reads behind the call as it read before'; 0 by the template 'total and deterministic' (their statements: YtkpdcacfokcpnaaTotals.lean).
  GIVEN WITH THE SEED: the statements are not yours to turn. If you find one false, say at which input.
  Laid BY PROGRAM, IN A SANDBOX (cutbox-rows.mjs): the forced cells as the released guide's own fill.sh prints them over the translation dc3384b02ee0cc39… (all of the seat's roots in one cut). By AI agents, Wed Nov 11 2026. No macro, syntax, notation, axiom, sorry.
-/
import Derived.Test.YtkpdcacfokcpnaaChecked
import GoSem.Claim
import GoSem.ClaimJoined
import GoSem.ClaimMapViews
import Derived.JoinedTies
import Derived.KernelRfl
namespace Go.Proofs.Ytkpdcacfokcpnaa
/- THE CELL 'sum', in the pinned program and in every row, IS THE sha256 OF THE DUMP (.gsa) THAT YtkpdcacfokcpnaaProg.lean LOADS. Nothing in Lean hashes anything: it is a label: what it is worth is what the hold of that sum in a sandbox is worth. -/
noncomputable def Try.pinned : Pinned := { name := "ytkpdcacfokcpnaa", sum := "dc3384b02ee0cc3901c9b391181e50727e20756d5a06a28457eced56d5a728fe", checked := Try.checked }
namespace Rows
def none {H : Type} : Left H := { results := [], args := [] }

/-- 'sluicegatelaw29.MeterBounds': WHATEVER THE INPUT: true; the input reads as it did. -/
def meterBoundsSpec : ChangeSpec := { name := "meterBounds", fn := fun _ => fun
  | [d1, d2, d3, d4] => { results := [.lit (.bool true)], args := [d1, d2, d3, d4] }
  | _ => none }
def meterBoundsRow : OpenClaim := { program := "ytkpdcacfokcpnaa", sum := "dc3384b02ee0cc3901c9b391181e50727e20756d5a06a28457eced56d5a728fe", func := "sluicegate/sluicegatelaw29.MeterBounds", spec := "meterBounds", apart := false }
def MeterBoundsSaid : Prop := meterBoundsRow.holds Try.pinned (OpenSpec.ofChange meterBoundsSpec)

/-- ITS FALSE NEIGHBOUR: 'it returns false'. Refute it at one input. -/
def meterBoundsWrong : ChangeSpec := { name := "meterBounds", fn := fun _ => fun
  | [d1, d2, d3, d4] => { results := [.lit (.bool false)], args := [d1, d2, d3, d4] }
  | _ => none }
def MeterBoundsWrongFalsely : Prop := meterBoundsRow.holds Try.pinned (OpenSpec.ofChange meterBoundsWrong)

/-- 'sluicegatelaw29.MeterGrows': WHATEVER THE INPUT: true; the input reads as it did. -/
def meterGrowsSpec : ChangeSpec := { name := "meterGrows", fn := fun _ => fun
  | [d1, d2] => { results := [.lit (.bool true)], args := [d1, d2] }
  | _ => none }
def meterGrowsRow : OpenClaim := { program := "ytkpdcacfokcpnaa", sum := "dc3384b02ee0cc3901c9b391181e50727e20756d5a06a28457eced56d5a728fe", func := "sluicegate/sluicegatelaw29.MeterGrows", spec := "meterGrows", apart := false }
def MeterGrowsSaid : Prop := meterGrowsRow.holds Try.pinned (OpenSpec.ofChange meterGrowsSpec)

/-- ITS FALSE NEIGHBOUR: 'it returns false'. Refute it at one input. -/
def meterGrowsWrong : ChangeSpec := { name := "meterGrows", fn := fun _ => fun
  | [d1, d2] => { results := [.lit (.bool false)], args := [d1, d2] }
  | _ => none }
def MeterGrowsWrongFalsely : Prop := meterGrowsRow.holds Try.pinned (OpenSpec.ofChange meterGrowsWrong)

/-- 'sluicegatelaw29.MeterHears': WHATEVER THE INPUT: true; the input reads as it did. -/
def meterHearsSpec : ChangeSpec := { name := "meterHears", fn := fun _ => fun
  | [d1, d2, d3] => { results := [.lit (.bool true)], args := [d1, d2, d3] }
  | _ => none }
def meterHearsRow : OpenClaim := { program := "ytkpdcacfokcpnaa", sum := "dc3384b02ee0cc3901c9b391181e50727e20756d5a06a28457eced56d5a728fe", func := "sluicegate/sluicegatelaw29.MeterHears", spec := "meterHears", apart := false }
def MeterHearsSaid : Prop := meterHearsRow.holds Try.pinned (OpenSpec.ofChange meterHearsSpec)

/-- ITS FALSE NEIGHBOUR: 'it returns false'. Refute it at one input. -/
def meterHearsWrong : ChangeSpec := { name := "meterHears", fn := fun _ => fun
  | [d1, d2, d3] => { results := [.lit (.bool false)], args := [d1, d2, d3] }
  | _ => none }
def MeterHearsWrongFalsely : Prop := meterHearsRow.holds Try.pinned (OpenSpec.ofChange meterHearsWrong)

/-- 'sluicegatelaw29.MeterNobody': WHATEVER THE INPUT: true; the input reads as it did. -/
def meterNobodySpec : ChangeSpec := { name := "meterNobody", fn := fun _ => fun
  | [d] => { results := [.lit (.bool true)], args := [d] }
  | _ => none }
def meterNobodyRow : OpenClaim := { program := "ytkpdcacfokcpnaa", sum := "dc3384b02ee0cc3901c9b391181e50727e20756d5a06a28457eced56d5a728fe", func := "sluicegate/sluicegatelaw29.MeterNobody", spec := "meterNobody", apart := false }
def MeterNobodySaid : Prop := meterNobodyRow.holds Try.pinned (OpenSpec.ofChange meterNobodySpec)

/-- ITS FALSE NEIGHBOUR: 'it returns false'. Refute it at one input. -/
def meterNobodyWrong : ChangeSpec := { name := "meterNobody", fn := fun _ => fun
  | [d] => { results := [.lit (.bool false)], args := [d] }
  | _ => none }
def MeterNobodyWrongFalsely : Prop := meterNobodyRow.holds Try.pinned (OpenSpec.ofChange meterNobodyWrong)

/- THE SECOND FORM. 'bulk': how many values and letters a reading holds, each counted each time it is reached (what is shared counts as often as it is met; a slice's spare places count too). A statement '..UptoSaid' is the law's where the arguments, and the package variables that the reading takes, are together of bulk at most 1048576: NARROWER than '..Said'. Prove '..Said' where nothing that the law and all that it calls make is longer than what came in: it says more and counts as full. Else prove '..UptoSaid'. A law counts once. -/
mutual
def uptoBulk {H : Type} : DataW H → Nat
  | .lit (.string bytes) => bytes.length + 1
  | .lit _ => 1
  | .nil => 1
  | .ptr d => uptoBulk d + 1
  | .slice elems spare => uptoBulkAll elems + uptoBulkAll spare + 1
  | .agg parts => uptoBulkAll parts + 1
  | .iface _ d => uptoBulk d + 1
  | .map entries => uptoBulkEntries entries + 1
  | .held _ => 1
def uptoBulkAll {H : Type} : List (DataW H) → Nat
  | [] => 0
  | d :: r => uptoBulk d + uptoBulkAll r
def uptoBulkEntries {H : Type} : List (Lit × DataW H) → Nat
  | [] => 0
  | x :: r => uptoBulkEntry x + uptoBulkEntries r
def uptoBulkEntry {H : Type} : Lit × DataW H → Nat
  | (.string bytes, d) => bytes.length + uptoBulk d + 1
  | (_, d) => uptoBulk d + 1
 end
def uptoSmall : (H : Type) → List (DataW H) → Bool := fun _ ds => decide (uptoBulkAll ds ≤ 1048576)
def OpenSpec.upto (s : _root_.Go.ChangeSpec) : _root_.Go.OpenSpec := { _root_.Go.OpenSpec.ofChange s with cond := some uptoSmall }

/-- 'sluicegatelaw29.MeterBounds', WHERE WHAT IT READS IS OF BULK AT MOST 1048576: true; the input reads as it did. -/
def meterBoundsUptoRow : OpenClaim := { program := "ytkpdcacfokcpnaa", sum := "dc3384b02ee0cc3901c9b391181e50727e20756d5a06a28457eced56d5a728fe", func := "sluicegate/sluicegatelaw29.MeterBounds", spec := "meterBounds", apart := false, narrowed := true }
def MeterBoundsUptoSaid : Prop := meterBoundsUptoRow.holds Try.pinned (OpenSpec.upto meterBoundsSpec)

/-- 'sluicegatelaw29.MeterGrows', WHERE WHAT IT READS IS OF BULK AT MOST 1048576: true; the input reads as it did. -/
def meterGrowsUptoRow : OpenClaim := { program := "ytkpdcacfokcpnaa", sum := "dc3384b02ee0cc3901c9b391181e50727e20756d5a06a28457eced56d5a728fe", func := "sluicegate/sluicegatelaw29.MeterGrows", spec := "meterGrows", apart := false, narrowed := true }
def MeterGrowsUptoSaid : Prop := meterGrowsUptoRow.holds Try.pinned (OpenSpec.upto meterGrowsSpec)

/-- 'sluicegatelaw29.MeterHears', WHERE WHAT IT READS IS OF BULK AT MOST 1048576: true; the input reads as it did. -/
def meterHearsUptoRow : OpenClaim := { program := "ytkpdcacfokcpnaa", sum := "dc3384b02ee0cc3901c9b391181e50727e20756d5a06a28457eced56d5a728fe", func := "sluicegate/sluicegatelaw29.MeterHears", spec := "meterHears", apart := false, narrowed := true }
def MeterHearsUptoSaid : Prop := meterHearsUptoRow.holds Try.pinned (OpenSpec.upto meterHearsSpec)

/-- 'sluicegatelaw29.MeterNobody', WHERE WHAT IT READS IS OF BULK AT MOST 1048576: true; the input reads as it did. -/
def meterNobodyUptoRow : OpenClaim := { program := "ytkpdcacfokcpnaa", sum := "dc3384b02ee0cc3901c9b391181e50727e20756d5a06a28457eced56d5a728fe", func := "sluicegate/sluicegatelaw29.MeterNobody", spec := "meterNobody", apart := false, narrowed := true }
def MeterNobodyUptoSaid : Prop := meterNobodyUptoRow.holds Try.pinned (OpenSpec.upto meterNobodySpec)

end Rows
end Go.Proofs.Ytkpdcacfokcpnaa
