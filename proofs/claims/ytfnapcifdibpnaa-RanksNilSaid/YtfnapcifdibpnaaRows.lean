/-
  No cell of these rows narrows 'for every input' (looked for: loops, veiled, ifaces, maps, wideKeys, modest, calm, conditions, laid).
  DERIVED. THE GIVEN ROWS OF THIS SEAT. 4 by the template 'for every input the law returns true; each argument reads behind the call as it read before'; 0 by the template 'total and deterministic' (their statements: YtfnapcifdibpnaaTotals.lean).
  GIVEN WITH THE SEED: the statements are not yours to turn. If you find one false, say at which input.
  Laid BY PROGRAM, IN A SANDBOX (cutbox-rows.mjs): the forced cells as the released guide's own fill.sh prints them over the translation 7f053e57188dcce0… (all of the seat's roots in one cut). By AI agents, Wed Nov 11 2026. No macro, syntax, notation, axiom, sorry.
-/
import Derived.Test.YtfnapcifdibpnaaChecked
import GoSem.Claim
import GoSem.ClaimJoined
import GoSem.ClaimMapViews
import Derived.JoinedTies
import Derived.KernelRfl
namespace Go.Proofs.Ytfnapcifdibpnaa
/- THE CELL 'sum', in the pinned program and in every row, IS THE sha256 OF THE DUMP (.gsa) THAT YtfnapcifdibpnaaProg.lean LOADS. Nothing in Lean hashes anything: it is a label: what it is worth is what the hold of that sum in a sandbox is worth. -/
noncomputable def Try.pinned : Pinned := { name := "ytfnapcifdibpnaa", sum := "7f053e57188dcce0509cc52838077463cd5d2cc8cfd5e0a6637f96d9f1ebdf13", checked := Try.checked }
namespace Rows
def none {H : Type} : Left H := { results := [], args := [] }

/-- 'sluicelaw15.RanksNil': WHATEVER THE INPUT: true; the input reads as it did. -/
def ranksNilSpec : ChangeSpec := { name := "ranksNil", fn := fun _ => fun
  | [d1, d2, d3, d4] => { results := [.lit (.bool true)], args := [d1, d2, d3, d4] }
  | _ => none }
def ranksNilRow : OpenClaim := { program := "ytfnapcifdibpnaa", sum := "7f053e57188dcce0509cc52838077463cd5d2cc8cfd5e0a6637f96d9f1ebdf13", func := "sluice/sluicelaw15.RanksNil", spec := "ranksNil", unfollowed := true, recurses := true, apart := false }
def RanksNilSaid : Prop := ranksNilRow.holds Try.pinned (OpenSpec.ofChange ranksNilSpec)

/-- ITS FALSE NEIGHBOUR: 'it returns false'. Refute it at one input. -/
def ranksNilWrong : ChangeSpec := { name := "ranksNil", fn := fun _ => fun
  | [d1, d2, d3, d4] => { results := [.lit (.bool false)], args := [d1, d2, d3, d4] }
  | _ => none }
def RanksNilWrongFalsely : Prop := ranksNilRow.holds Try.pinned (OpenSpec.ofChange ranksNilWrong)

/-- 'sluicelaw15.RanksProducts': WHATEVER THE INPUT: true; the input reads as it did. -/
def ranksProductsSpec : ChangeSpec := { name := "ranksProducts", fn := fun _ => fun
  | [d1, d2, d3] => { results := [.lit (.bool true)], args := [d1, d2, d3] }
  | _ => none }
def ranksProductsRow : OpenClaim := { program := "ytfnapcifdibpnaa", sum := "7f053e57188dcce0509cc52838077463cd5d2cc8cfd5e0a6637f96d9f1ebdf13", func := "sluice/sluicelaw15.RanksProducts", spec := "ranksProducts", unfollowed := true, recurses := true, apart := false }
def RanksProductsSaid : Prop := ranksProductsRow.holds Try.pinned (OpenSpec.ofChange ranksProductsSpec)

/-- ITS FALSE NEIGHBOUR: 'it returns false'. Refute it at one input. -/
def ranksProductsWrong : ChangeSpec := { name := "ranksProducts", fn := fun _ => fun
  | [d1, d2, d3] => { results := [.lit (.bool false)], args := [d1, d2, d3] }
  | _ => none }
def RanksProductsWrongFalsely : Prop := ranksProductsRow.holds Try.pinned (OpenSpec.ofChange ranksProductsWrong)

/-- 'sluicelaw15.RanksPages': WHATEVER THE INPUT: true; the input reads as it did. -/
def ranksPagesSpec : ChangeSpec := { name := "ranksPages", fn := fun _ => fun
  | [d1, d2, d3] => { results := [.lit (.bool true)], args := [d1, d2, d3] }
  | _ => none }
def ranksPagesRow : OpenClaim := { program := "ytfnapcifdibpnaa", sum := "7f053e57188dcce0509cc52838077463cd5d2cc8cfd5e0a6637f96d9f1ebdf13", func := "sluice/sluicelaw15.RanksPages", spec := "ranksPages", inPlace := ["math.Float32frombits"], unfollowed := true, recurses := true, apart := false }
def RanksPagesSaid : Prop := ranksPagesRow.holds Try.pinned (OpenSpec.ofChange ranksPagesSpec)

/-- ITS FALSE NEIGHBOUR: 'it returns false'. Refute it at one input. -/
def ranksPagesWrong : ChangeSpec := { name := "ranksPages", fn := fun _ => fun
  | [d1, d2, d3] => { results := [.lit (.bool false)], args := [d1, d2, d3] }
  | _ => none }
def RanksPagesWrongFalsely : Prop := ranksPagesRow.holds Try.pinned (OpenSpec.ofChange ranksPagesWrong)

/-- 'sluicelaw15.RanksCrossings': WHATEVER THE INPUT: true; the input reads as it did. -/
def ranksCrossingsSpec : ChangeSpec := { name := "ranksCrossings", fn := fun _ => fun
  | [d1, d2] => { results := [.lit (.bool true)], args := [d1, d2] }
  | _ => none }
def ranksCrossingsRow : OpenClaim := { program := "ytfnapcifdibpnaa", sum := "7f053e57188dcce0509cc52838077463cd5d2cc8cfd5e0a6637f96d9f1ebdf13", func := "sluice/sluicelaw15.RanksCrossings", spec := "ranksCrossings", inPlace := ["math.Float32bits"], unfollowed := true, recurses := true, apart := false }
def RanksCrossingsSaid : Prop := ranksCrossingsRow.holds Try.pinned (OpenSpec.ofChange ranksCrossingsSpec)

/-- ITS FALSE NEIGHBOUR: 'it returns false'. Refute it at one input. -/
def ranksCrossingsWrong : ChangeSpec := { name := "ranksCrossings", fn := fun _ => fun
  | [d1, d2] => { results := [.lit (.bool false)], args := [d1, d2] }
  | _ => none }
def RanksCrossingsWrongFalsely : Prop := ranksCrossingsRow.holds Try.pinned (OpenSpec.ofChange ranksCrossingsWrong)

/- THE SECOND FORM. 'bulk': how many values and letters a reading holds, each counted each time it is reached (what is shared counts as often as it is met; a slice's spare places count too). A statement '..UptoSaid' is the law's where the arguments, and the package variables that the reading takes, are together of bulk at most 1048576: NARROWER than '..Said'. Prove '..Said' where nothing that the law and all that it calls make is longer than what came in: it says more and counts as full. Else prove '..UptoSaid'. A law counts once. -/
mutual
def uptoBulk {H : Type} : DataW H → Nat
  | .lit (.string bytes) => bytes.length + 1
  | .lit _ => 1
  | .nil => 1
  | .ptr d => uptoBulk d + 1
  | .slice elems spare => uptoBulkAll elems + uptoBulkAll spare + 1
  | .agg parts => uptoBulkAll parts + 1
  | .iface _ d => uptoBulk d + 1
  | .map entries => uptoBulkEntries entries + 1
  | .held _ => 1
def uptoBulkAll {H : Type} : List (DataW H) → Nat
  | [] => 0
  | d :: r => uptoBulk d + uptoBulkAll r
def uptoBulkEntries {H : Type} : List (Lit × DataW H) → Nat
  | [] => 0
  | x :: r => uptoBulkEntry x + uptoBulkEntries r
def uptoBulkEntry {H : Type} : Lit × DataW H → Nat
  | (.string bytes, d) => bytes.length + uptoBulk d + 1
  | (_, d) => uptoBulk d + 1
 end
def uptoSmall : (H : Type) → List (DataW H) → Bool := fun _ ds => decide (uptoBulkAll ds ≤ 1048576)
def OpenSpec.upto (s : _root_.Go.ChangeSpec) : _root_.Go.OpenSpec := { _root_.Go.OpenSpec.ofChange s with cond := some uptoSmall }

/-- 'sluicelaw15.RanksNil', WHERE WHAT IT READS IS OF BULK AT MOST 1048576: true; the input reads as it did. -/
def ranksNilUptoRow : OpenClaim := { program := "ytfnapcifdibpnaa", sum := "7f053e57188dcce0509cc52838077463cd5d2cc8cfd5e0a6637f96d9f1ebdf13", func := "sluice/sluicelaw15.RanksNil", spec := "ranksNil", unfollowed := true, recurses := true, apart := false, narrowed := true }
def RanksNilUptoSaid : Prop := ranksNilUptoRow.holds Try.pinned (OpenSpec.upto ranksNilSpec)

/-- 'sluicelaw15.RanksProducts', WHERE WHAT IT READS IS OF BULK AT MOST 1048576: true; the input reads as it did. -/
def ranksProductsUptoRow : OpenClaim := { program := "ytfnapcifdibpnaa", sum := "7f053e57188dcce0509cc52838077463cd5d2cc8cfd5e0a6637f96d9f1ebdf13", func := "sluice/sluicelaw15.RanksProducts", spec := "ranksProducts", unfollowed := true, recurses := true, apart := false, narrowed := true }
def RanksProductsUptoSaid : Prop := ranksProductsUptoRow.holds Try.pinned (OpenSpec.upto ranksProductsSpec)

/-- 'sluicelaw15.RanksPages', WHERE WHAT IT READS IS OF BULK AT MOST 1048576: true; the input reads as it did. -/
def ranksPagesUptoRow : OpenClaim := { program := "ytfnapcifdibpnaa", sum := "7f053e57188dcce0509cc52838077463cd5d2cc8cfd5e0a6637f96d9f1ebdf13", func := "sluice/sluicelaw15.RanksPages", spec := "ranksPages", inPlace := ["math.Float32frombits"], unfollowed := true, recurses := true, apart := false, narrowed := true }
def RanksPagesUptoSaid : Prop := ranksPagesUptoRow.holds Try.pinned (OpenSpec.upto ranksPagesSpec)

/-- 'sluicelaw15.RanksCrossings', WHERE WHAT IT READS IS OF BULK AT MOST 1048576: true; the input reads as it did. -/
def ranksCrossingsUptoRow : OpenClaim := { program := "ytfnapcifdibpnaa", sum := "7f053e57188dcce0509cc52838077463cd5d2cc8cfd5e0a6637f96d9f1ebdf13", func := "sluice/sluicelaw15.RanksCrossings", spec := "ranksCrossings", inPlace := ["math.Float32bits"], unfollowed := true, recurses := true, apart := false, narrowed := true }
def RanksCrossingsUptoSaid : Prop := ranksCrossingsUptoRow.holds Try.pinned (OpenSpec.upto ranksCrossingsSpec)

end Rows
end Go.Proofs.Ytfnapcifdibpnaa
