/-
  No cell of these rows narrows 'for every input' (looked for: loops, veiled, ifaces, maps, wideKeys, modest, calm, conditions, laid).
  DERIVED. THE GIVEN ROWS OF THIS SEAT. 6 by the template 'for every input the law returns true; each argument reads behind the call as it read before'; 0 by the template 'total and deterministic' (their statements: YtjmggfpomnnegaaTotals.lean).
  GIVEN WITH THE SEED: the statements are not yours to turn. If you find one false, say at which input.
  Laid BY PROGRAM, IN A SANDBOX (cutbox-rows.mjs): the forced cells as the released guide's own fill.sh prints them over the translation ae753b0f1d7985ed… (all of the seat's roots in one cut). By AI agents, Wed Nov 11 2026. No macro, syntax, notation, axiom, sorry.
-/
import Derived.Test.YtjmggfpomnnegaaChecked
import GoSem.Claim
import GoSem.ClaimJoined
import GoSem.ClaimMapViews
import Derived.JoinedTies
import Derived.KernelRfl
namespace Go.Proofs.Ytjmggfpomnnegaa
/- THE CELL 'sum', in the pinned program and in every row, IS THE sha256 OF THE DUMP (.gsa) THAT YtjmggfpomnnegaaProg.lean LOADS. Nothing in Lean hashes anything: it is a label: what it is worth is what the hold of that sum in a sandbox is worth. -/
noncomputable def Try.pinned : Pinned := { name := "ytjmggfpomnnegaa", sum := "ae753b0f1d7985ed0830407d7310d1073833624be63d5376b62cdddc937c1c31", checked := Try.checked }
namespace Rows
def none {H : Type} : Left H := { results := [], args := [] }

/-- 'sluicelaw14.PeelsNames': WHATEVER THE INPUT: true; the input reads as it did. -/
def peelsNamesSpec : ChangeSpec := { name := "peelsNames", fn := fun _ => fun
  | [] => { results := [.lit (.bool true)], args := [] }
  | _ => none }
def peelsNamesRow : OpenClaim := { program := "ytjmggfpomnnegaa", sum := "ae753b0f1d7985ed0830407d7310d1073833624be63d5376b62cdddc937c1c31", func := "sluice/sluicelaw14.PeelsNames", spec := "peelsNames", unfollowed := true, recurses := true, apart := false }
def PeelsNamesSaid : Prop := peelsNamesRow.holds Try.pinned (OpenSpec.ofChange peelsNamesSpec)

/-- ITS FALSE NEIGHBOUR: 'it returns false'. Refute it at one input. -/
def peelsNamesWrong : ChangeSpec := { name := "peelsNames", fn := fun _ => fun
  | [] => { results := [.lit (.bool false)], args := [] }
  | _ => none }
def PeelsNamesWrongFalsely : Prop := peelsNamesRow.holds Try.pinned (OpenSpec.ofChange peelsNamesWrong)

/-- 'sluicelaw14.PeelsCalls': WHATEVER THE INPUT: true; the input reads as it did. -/
def peelsCallsSpec : ChangeSpec := { name := "peelsCalls", fn := fun _ => fun
  | [d1, d2, d3] => { results := [.lit (.bool true)], args := [d1, d2, d3] }
  | _ => none }
def peelsCallsRow : OpenClaim := { program := "ytjmggfpomnnegaa", sum := "ae753b0f1d7985ed0830407d7310d1073833624be63d5376b62cdddc937c1c31", func := "sluice/sluicelaw14.PeelsCalls", spec := "peelsCalls", unfollowed := true, recurses := true, apart := false }
def PeelsCallsSaid : Prop := peelsCallsRow.holds Try.pinned (OpenSpec.ofChange peelsCallsSpec)

/-- ITS FALSE NEIGHBOUR: 'it returns false'. Refute it at one input. -/
def peelsCallsWrong : ChangeSpec := { name := "peelsCalls", fn := fun _ => fun
  | [d1, d2, d3] => { results := [.lit (.bool false)], args := [d1, d2, d3] }
  | _ => none }
def PeelsCallsWrongFalsely : Prop := peelsCallsRow.holds Try.pinned (OpenSpec.ofChange peelsCallsWrong)

/-- 'sluicelaw14.PeelsCores': WHATEVER THE INPUT: true; the input reads as it did. -/
def peelsCoresSpec : ChangeSpec := { name := "peelsCores", fn := fun _ => fun
  | [d1, d2, d3] => { results := [.lit (.bool true)], args := [d1, d2, d3] }
  | _ => none }
def peelsCoresRow : OpenClaim := { program := "ytjmggfpomnnegaa", sum := "ae753b0f1d7985ed0830407d7310d1073833624be63d5376b62cdddc937c1c31", func := "sluice/sluicelaw14.PeelsCores", spec := "peelsCores", inPlace := ["math/bits.Sub64", "math/bits.Add64"], unfollowed := true, recurses := true, apart := false }
def PeelsCoresSaid : Prop := peelsCoresRow.holds Try.pinned (OpenSpec.ofChange peelsCoresSpec)

/-- ITS FALSE NEIGHBOUR: 'it returns false'. Refute it at one input. -/
def peelsCoresWrong : ChangeSpec := { name := "peelsCores", fn := fun _ => fun
  | [d1, d2, d3] => { results := [.lit (.bool false)], args := [d1, d2, d3] }
  | _ => none }
def PeelsCoresWrongFalsely : Prop := peelsCoresRow.holds Try.pinned (OpenSpec.ofChange peelsCoresWrong)

/-- 'sluicelaw14.PeelsCrowd': WHATEVER THE INPUT: true; the input reads as it did. -/
def peelsCrowdSpec : ChangeSpec := { name := "peelsCrowd", fn := fun _ => fun
  | [d1, d2] => { results := [.lit (.bool true)], args := [d1, d2] }
  | _ => none }
def peelsCrowdRow : OpenClaim := { program := "ytjmggfpomnnegaa", sum := "ae753b0f1d7985ed0830407d7310d1073833624be63d5376b62cdddc937c1c31", func := "sluice/sluicelaw14.PeelsCrowd", spec := "peelsCrowd", inPlace := ["math/bits.Sub64", "math/bits.Add64"], unfollowed := true, recurses := true, apart := false }
def PeelsCrowdSaid : Prop := peelsCrowdRow.holds Try.pinned (OpenSpec.ofChange peelsCrowdSpec)

/-- ITS FALSE NEIGHBOUR: 'it returns false'. Refute it at one input. -/
def peelsCrowdWrong : ChangeSpec := { name := "peelsCrowd", fn := fun _ => fun
  | [d1, d2] => { results := [.lit (.bool false)], args := [d1, d2] }
  | _ => none }
def PeelsCrowdWrongFalsely : Prop := peelsCrowdRow.holds Try.pinned (OpenSpec.ofChange peelsCrowdWrong)

/-- 'sluicelaw14.PeelsSet': WHATEVER THE INPUT: true; the input reads as it did. -/
def peelsSetSpec : ChangeSpec := { name := "peelsSet", fn := fun _ => fun
  | [d1, d2, d3, d4] => { results := [.lit (.bool true)], args := [d1, d2, d3, d4] }
  | _ => none }
def peelsSetRow : OpenClaim := { program := "ytjmggfpomnnegaa", sum := "ae753b0f1d7985ed0830407d7310d1073833624be63d5376b62cdddc937c1c31", func := "sluice/sluicelaw14.PeelsSet", spec := "peelsSet", inPlace := ["math/bits.Sub64", "math/bits.Add64"], unfollowed := true, recurses := true, apart := false }
def PeelsSetSaid : Prop := peelsSetRow.holds Try.pinned (OpenSpec.ofChange peelsSetSpec)

/-- ITS FALSE NEIGHBOUR: 'it returns false'. Refute it at one input. -/
def peelsSetWrong : ChangeSpec := { name := "peelsSet", fn := fun _ => fun
  | [d1, d2, d3, d4] => { results := [.lit (.bool false)], args := [d1, d2, d3, d4] }
  | _ => none }
def PeelsSetWrongFalsely : Prop := peelsSetRow.holds Try.pinned (OpenSpec.ofChange peelsSetWrong)

/-- 'sluicelaw14.PeelsColours': WHATEVER THE INPUT: true; the input reads as it did. -/
def peelsColoursSpec : ChangeSpec := { name := "peelsColours", fn := fun _ => fun
  | [d1, d2, d3, d4] => { results := [.lit (.bool true)], args := [d1, d2, d3, d4] }
  | _ => none }
def peelsColoursRow : OpenClaim := { program := "ytjmggfpomnnegaa", sum := "ae753b0f1d7985ed0830407d7310d1073833624be63d5376b62cdddc937c1c31", func := "sluice/sluicelaw14.PeelsColours", spec := "peelsColours", inPlace := ["math/bits.Sub64", "math/bits.Add64"], unfollowed := true, recurses := true, apart := false }
def PeelsColoursSaid : Prop := peelsColoursRow.holds Try.pinned (OpenSpec.ofChange peelsColoursSpec)

/-- ITS FALSE NEIGHBOUR: 'it returns false'. Refute it at one input. -/
def peelsColoursWrong : ChangeSpec := { name := "peelsColours", fn := fun _ => fun
  | [d1, d2, d3, d4] => { results := [.lit (.bool false)], args := [d1, d2, d3, d4] }
  | _ => none }
def PeelsColoursWrongFalsely : Prop := peelsColoursRow.holds Try.pinned (OpenSpec.ofChange peelsColoursWrong)

/- THE SECOND FORM. 'bulk': how many values and letters a reading holds, each counted each time it is reached (what is shared counts as often as it is met; a slice's spare places count too). A statement '..UptoSaid' is the law's where the arguments, and the package variables that the reading takes, are together of bulk at most 1048576: NARROWER than '..Said'. Prove '..Said' where nothing that the law and all that it calls make is longer than what came in: it says more and counts as full. Else prove '..UptoSaid'. A law counts once. -/
mutual
def uptoBulk {H : Type} : DataW H → Nat
  | .lit (.string bytes) => bytes.length + 1
  | .lit _ => 1
  | .nil => 1
  | .ptr d => uptoBulk d + 1
  | .slice elems spare => uptoBulkAll elems + uptoBulkAll spare + 1
  | .agg parts => uptoBulkAll parts + 1
  | .iface _ d => uptoBulk d + 1
  | .map entries => uptoBulkEntries entries + 1
  | .held _ => 1
def uptoBulkAll {H : Type} : List (DataW H) → Nat
  | [] => 0
  | d :: r => uptoBulk d + uptoBulkAll r
def uptoBulkEntries {H : Type} : List (Lit × DataW H) → Nat
  | [] => 0
  | x :: r => uptoBulkEntry x + uptoBulkEntries r
def uptoBulkEntry {H : Type} : Lit × DataW H → Nat
  | (.string bytes, d) => bytes.length + uptoBulk d + 1
  | (_, d) => uptoBulk d + 1
 end
def uptoSmall : (H : Type) → List (DataW H) → Bool := fun _ ds => decide (uptoBulkAll ds ≤ 1048576)
def OpenSpec.upto (s : _root_.Go.ChangeSpec) : _root_.Go.OpenSpec := { _root_.Go.OpenSpec.ofChange s with cond := some uptoSmall }

/-- 'sluicelaw14.PeelsNames', WHERE WHAT IT READS IS OF BULK AT MOST 1048576: true; the input reads as it did. -/
def peelsNamesUptoRow : OpenClaim := { program := "ytjmggfpomnnegaa", sum := "ae753b0f1d7985ed0830407d7310d1073833624be63d5376b62cdddc937c1c31", func := "sluice/sluicelaw14.PeelsNames", spec := "peelsNames", unfollowed := true, recurses := true, apart := false, narrowed := true }
def PeelsNamesUptoSaid : Prop := peelsNamesUptoRow.holds Try.pinned (OpenSpec.upto peelsNamesSpec)

/-- 'sluicelaw14.PeelsCalls', WHERE WHAT IT READS IS OF BULK AT MOST 1048576: true; the input reads as it did. -/
def peelsCallsUptoRow : OpenClaim := { program := "ytjmggfpomnnegaa", sum := "ae753b0f1d7985ed0830407d7310d1073833624be63d5376b62cdddc937c1c31", func := "sluice/sluicelaw14.PeelsCalls", spec := "peelsCalls", unfollowed := true, recurses := true, apart := false, narrowed := true }
def PeelsCallsUptoSaid : Prop := peelsCallsUptoRow.holds Try.pinned (OpenSpec.upto peelsCallsSpec)

/-- 'sluicelaw14.PeelsCores', WHERE WHAT IT READS IS OF BULK AT MOST 1048576: true; the input reads as it did. -/
def peelsCoresUptoRow : OpenClaim := { program := "ytjmggfpomnnegaa", sum := "ae753b0f1d7985ed0830407d7310d1073833624be63d5376b62cdddc937c1c31", func := "sluice/sluicelaw14.PeelsCores", spec := "peelsCores", inPlace := ["math/bits.Sub64", "math/bits.Add64"], unfollowed := true, recurses := true, apart := false, narrowed := true }
def PeelsCoresUptoSaid : Prop := peelsCoresUptoRow.holds Try.pinned (OpenSpec.upto peelsCoresSpec)

/-- 'sluicelaw14.PeelsCrowd', WHERE WHAT IT READS IS OF BULK AT MOST 1048576: true; the input reads as it did. -/
def peelsCrowdUptoRow : OpenClaim := { program := "ytjmggfpomnnegaa", sum := "ae753b0f1d7985ed0830407d7310d1073833624be63d5376b62cdddc937c1c31", func := "sluice/sluicelaw14.PeelsCrowd", spec := "peelsCrowd", inPlace := ["math/bits.Sub64", "math/bits.Add64"], unfollowed := true, recurses := true, apart := false, narrowed := true }
def PeelsCrowdUptoSaid : Prop := peelsCrowdUptoRow.holds Try.pinned (OpenSpec.upto peelsCrowdSpec)

/-- 'sluicelaw14.PeelsSet', WHERE WHAT IT READS IS OF BULK AT MOST 1048576: true; the input reads as it did. -/
def peelsSetUptoRow : OpenClaim := { program := "ytjmggfpomnnegaa", sum := "ae753b0f1d7985ed0830407d7310d1073833624be63d5376b62cdddc937c1c31", func := "sluice/sluicelaw14.PeelsSet", spec := "peelsSet", inPlace := ["math/bits.Sub64", "math/bits.Add64"], unfollowed := true, recurses := true, apart := false, narrowed := true }
def PeelsSetUptoSaid : Prop := peelsSetUptoRow.holds Try.pinned (OpenSpec.upto peelsSetSpec)

/-- 'sluicelaw14.PeelsColours', WHERE WHAT IT READS IS OF BULK AT MOST 1048576: true; the input reads as it did. -/
def peelsColoursUptoRow : OpenClaim := { program := "ytjmggfpomnnegaa", sum := "ae753b0f1d7985ed0830407d7310d1073833624be63d5376b62cdddc937c1c31", func := "sluice/sluicelaw14.PeelsColours", spec := "peelsColours", inPlace := ["math/bits.Sub64", "math/bits.Add64"], unfollowed := true, recurses := true, apart := false, narrowed := true }
def PeelsColoursUptoSaid : Prop := peelsColoursUptoRow.holds Try.pinned (OpenSpec.upto peelsColoursSpec)

end Rows
end Go.Proofs.Ytjmggfpomnnegaa
