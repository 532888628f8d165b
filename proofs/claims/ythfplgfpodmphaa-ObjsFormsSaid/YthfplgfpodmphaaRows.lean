/-
  No cell of these rows narrows 'for every input' (looked for: loops, veiled, ifaces, maps, wideKeys, modest, calm, conditions, laid).
  DERIVED. THE GIVEN ROWS OF THIS SEAT. 7 by the template 'for every input the law returns true; each argument reads behind the call as it read before'; 0 by the template 'total and deterministic' (their statements: YthfplgfpodmphaaTotals.lean).
  GIVEN WITH THE SEED: the statements are not yours to turn. If you find one false, say at which input.
  Laid BY PROGRAM, IN A SANDBOX (cutbox-rows.mjs): the forced cells as the released guide's own fill.sh prints them over the translation 5a6e538abb9f71e2… (all of the seat's roots in one cut). By AI agents, Wed Nov 11 2026. No macro, syntax, notation, axiom, sorry.
-/
import Derived.Test.YthfplgfpodmphaaChecked
import GoSem.Claim
import GoSem.ClaimJoined
import GoSem.ClaimMapViews
import Derived.JoinedTies
import Derived.KernelRfl
namespace Go.Proofs.Ythfplgfpodmphaa
/- THE CELL 'sum', in the pinned program and in every row, IS THE sha256 OF THE DUMP (.gsa) THAT YthfplgfpodmphaaProg.lean LOADS. Nothing in Lean hashes anything: it is a label: what it is worth is what the hold of that sum in a sandbox is worth. -/
noncomputable def Try.pinned : Pinned := { name := "ythfplgfpodmphaa", sum := "5a6e538abb9f71e2b01899f4b2dc061cac95238324ec70da9c0452e9ce7ea2a5", checked := Try.checked }
namespace Rows
def none {H : Type} : Left H := { results := [], args := [] }

/-- 'hocketlaw8.ObjsForms': WHATEVER THE INPUT: true; the input reads as it did. -/
def objsFormsSpec : ChangeSpec := { name := "objsForms", fn := fun _ => fun
  | [d] => { results := [.lit (.bool true)], args := [d] }
  | _ => none }
def objsFormsRow : OpenClaim := { program := "ythfplgfpodmphaa", sum := "5a6e538abb9f71e2b01899f4b2dc061cac95238324ec70da9c0452e9ce7ea2a5", func := "hocket/hocketlaw8.ObjsForms", spec := "objsForms", inPlace := ["internal/bytealg.Compare", "slices.overlaps[hocket/api.Pair]"], unfollowed := true, recurses := true, apart := false }
def ObjsFormsSaid : Prop := objsFormsRow.holds Try.pinned (OpenSpec.ofChange objsFormsSpec)

/-- ITS FALSE NEIGHBOUR: 'it returns false'. Refute it at one input. -/
def objsFormsWrong : ChangeSpec := { name := "objsForms", fn := fun _ => fun
  | [d] => { results := [.lit (.bool false)], args := [d] }
  | _ => none }
def ObjsFormsWrongFalsely : Prop := objsFormsRow.holds Try.pinned (OpenSpec.ofChange objsFormsWrong)

/-- 'hocketlaw8.ObjsOwn': WHATEVER THE INPUT: true; the input reads as it did. -/
def objsOwnSpec : ChangeSpec := { name := "objsOwn", fn := fun _ => fun
  | [d1, d2] => { results := [.lit (.bool true)], args := [d1, d2] }
  | _ => none }
def objsOwnRow : OpenClaim := { program := "ythfplgfpodmphaa", sum := "5a6e538abb9f71e2b01899f4b2dc061cac95238324ec70da9c0452e9ce7ea2a5", func := "hocket/hocketlaw8.ObjsOwn", spec := "objsOwn", inPlace := ["internal/bytealg.Compare", "slices.overlaps[hocket/api.Pair]"], unfollowed := true, recurses := true, apart := false }
def ObjsOwnSaid : Prop := objsOwnRow.holds Try.pinned (OpenSpec.ofChange objsOwnSpec)

/-- ITS FALSE NEIGHBOUR: 'it returns false'. Refute it at one input. -/
def objsOwnWrong : ChangeSpec := { name := "objsOwn", fn := fun _ => fun
  | [d1, d2] => { results := [.lit (.bool false)], args := [d1, d2] }
  | _ => none }
def ObjsOwnWrongFalsely : Prop := objsOwnRow.holds Try.pinned (OpenSpec.ofChange objsOwnWrong)

/-- 'hocketlaw8.ObjsPlays': WHATEVER THE INPUT: true; the input reads as it did. -/
def objsPlaysSpec : ChangeSpec := { name := "objsPlays", fn := fun _ => fun
  | [d1, d2] => { results := [.lit (.bool true)], args := [d1, d2] }
  | _ => none }
def objsPlaysRow : OpenClaim := { program := "ythfplgfpodmphaa", sum := "5a6e538abb9f71e2b01899f4b2dc061cac95238324ec70da9c0452e9ce7ea2a5", func := "hocket/hocketlaw8.ObjsPlays", spec := "objsPlays", inPlace := ["internal/bytealg.Compare", "slices.overlaps[hocket/api.Pair]"], unfollowed := true, recurses := true, apart := false }
def ObjsPlaysSaid : Prop := objsPlaysRow.holds Try.pinned (OpenSpec.ofChange objsPlaysSpec)

/-- ITS FALSE NEIGHBOUR: 'it returns false'. Refute it at one input. -/
def objsPlaysWrong : ChangeSpec := { name := "objsPlays", fn := fun _ => fun
  | [d1, d2] => { results := [.lit (.bool false)], args := [d1, d2] }
  | _ => none }
def ObjsPlaysWrongFalsely : Prop := objsPlaysRow.holds Try.pinned (OpenSpec.ofChange objsPlaysWrong)

/-- 'hocketlaw8.ObjsApart': WHATEVER THE INPUT: true; the input reads as it did. -/
def objsApartSpec : ChangeSpec := { name := "objsApart", fn := fun _ => fun
  | [d] => { results := [.lit (.bool true)], args := [d] }
  | _ => none }
def objsApartRow : OpenClaim := { program := "ythfplgfpodmphaa", sum := "5a6e538abb9f71e2b01899f4b2dc061cac95238324ec70da9c0452e9ce7ea2a5", func := "hocket/hocketlaw8.ObjsApart", spec := "objsApart", inPlace := ["internal/bytealg.Compare", "slices.overlaps[hocket/api.Pair]"], unfollowed := true, recurses := true, apart := false }
def ObjsApartSaid : Prop := objsApartRow.holds Try.pinned (OpenSpec.ofChange objsApartSpec)

/-- ITS FALSE NEIGHBOUR: 'it returns false'. Refute it at one input. -/
def objsApartWrong : ChangeSpec := { name := "objsApart", fn := fun _ => fun
  | [d] => { results := [.lit (.bool false)], args := [d] }
  | _ => none }
def ObjsApartWrongFalsely : Prop := objsApartRow.holds Try.pinned (OpenSpec.ofChange objsApartWrong)

/-- 'hocketlaw10.MachOnce': WHATEVER THE INPUT: true; the input reads as it did. -/
def machOnceSpec : ChangeSpec := { name := "machOnce", fn := fun _ => fun
  | [d1, d2, d3] => { results := [.lit (.bool true)], args := [d1, d2, d3] }
  | _ => none }
def machOnceRow : OpenClaim := { program := "ythfplgfpodmphaa", sum := "5a6e538abb9f71e2b01899f4b2dc061cac95238324ec70da9c0452e9ce7ea2a5", func := "hocket/hocketlaw10.MachOnce", spec := "machOnce", inPlace := ["internal/bytealg.Compare", "slices.overlaps[hocket/api.Pair]", "slices.overlaps[hocket/api.Last]"], unfollowed := true, recurses := true, apart := false }
def MachOnceSaid : Prop := machOnceRow.holds Try.pinned (OpenSpec.ofChange machOnceSpec)

/-- ITS FALSE NEIGHBOUR: 'it returns false'. Refute it at one input. -/
def machOnceWrong : ChangeSpec := { name := "machOnce", fn := fun _ => fun
  | [d1, d2, d3] => { results := [.lit (.bool false)], args := [d1, d2, d3] }
  | _ => none }
def MachOnceWrongFalsely : Prop := machOnceRow.holds Try.pinned (OpenSpec.ofChange machOnceWrong)

/-- 'hocketlaw10.MachBounds': WHATEVER THE INPUT: true; the input reads as it did. -/
def machBoundsSpec : ChangeSpec := { name := "machBounds", fn := fun _ => fun
  | [d] => { results := [.lit (.bool true)], args := [d] }
  | _ => none }
def machBoundsRow : OpenClaim := { program := "ythfplgfpodmphaa", sum := "5a6e538abb9f71e2b01899f4b2dc061cac95238324ec70da9c0452e9ce7ea2a5", func := "hocket/hocketlaw10.MachBounds", spec := "machBounds", inPlace := ["internal/bytealg.Compare", "slices.overlaps[hocket/api.Pair]", "slices.overlaps[hocket/api.Last]"], unfollowed := true, recurses := true, apart := false }
def MachBoundsSaid : Prop := machBoundsRow.holds Try.pinned (OpenSpec.ofChange machBoundsSpec)

/-- ITS FALSE NEIGHBOUR: 'it returns false'. Refute it at one input. -/
def machBoundsWrong : ChangeSpec := { name := "machBounds", fn := fun _ => fun
  | [d] => { results := [.lit (.bool false)], args := [d] }
  | _ => none }
def MachBoundsWrongFalsely : Prop := machBoundsRow.holds Try.pinned (OpenSpec.ofChange machBoundsWrong)

/-- 'hocketlaw10.MachBack': WHATEVER THE INPUT: true; the input reads as it did. -/
def machBackSpec : ChangeSpec := { name := "machBack", fn := fun _ => fun
  | [d1, d2] => { results := [.lit (.bool true)], args := [d1, d2] }
  | _ => none }
def machBackRow : OpenClaim := { program := "ythfplgfpodmphaa", sum := "5a6e538abb9f71e2b01899f4b2dc061cac95238324ec70da9c0452e9ce7ea2a5", func := "hocket/hocketlaw10.MachBack", spec := "machBack", inPlace := ["internal/bytealg.Compare", "slices.overlaps[hocket/api.Pair]", "slices.overlaps[hocket/api.Last]"], unfollowed := true, recurses := true, apart := false }
def MachBackSaid : Prop := machBackRow.holds Try.pinned (OpenSpec.ofChange machBackSpec)

/-- ITS FALSE NEIGHBOUR: 'it returns false'. Refute it at one input. -/
def machBackWrong : ChangeSpec := { name := "machBack", fn := fun _ => fun
  | [d1, d2] => { results := [.lit (.bool false)], args := [d1, d2] }
  | _ => none }
def MachBackWrongFalsely : Prop := machBackRow.holds Try.pinned (OpenSpec.ofChange machBackWrong)

/- THE SECOND FORM. 'bulk': how many values and letters a reading holds, each counted each time it is reached (what is shared counts as often as it is met; a slice's spare places count too). A statement '..UptoSaid' is the law's where the arguments, and the package variables that the reading takes, are together of bulk at most 1048576: NARROWER than '..Said'. Prove '..Said' where nothing that the law and all that it calls make is longer than what came in: it says more and counts as full. Else prove '..UptoSaid'. A law counts once. -/
mutual
def uptoBulk {H : Type} : DataW H → Nat
  | .lit (.string bytes) => bytes.length + 1
  | .lit _ => 1
  | .nil => 1
  | .ptr d => uptoBulk d + 1
  | .slice elems spare => uptoBulkAll elems + uptoBulkAll spare + 1
  | .agg parts => uptoBulkAll parts + 1
  | .iface _ d => uptoBulk d + 1
  | .map entries => uptoBulkEntries entries + 1
  | .held _ => 1
def uptoBulkAll {H : Type} : List (DataW H) → Nat
  | [] => 0
  | d :: r => uptoBulk d + uptoBulkAll r
def uptoBulkEntries {H : Type} : List (Lit × DataW H) → Nat
  | [] => 0
  | x :: r => uptoBulkEntry x + uptoBulkEntries r
def uptoBulkEntry {H : Type} : Lit × DataW H → Nat
  | (.string bytes, d) => bytes.length + uptoBulk d + 1
  | (_, d) => uptoBulk d + 1
 end
def uptoSmall : (H : Type) → List (DataW H) → Bool := fun _ ds => decide (uptoBulkAll ds ≤ 1048576)
def OpenSpec.upto (s : _root_.Go.ChangeSpec) : _root_.Go.OpenSpec := { _root_.Go.OpenSpec.ofChange s with cond := some uptoSmall }

/-- 'hocketlaw8.ObjsForms', WHERE WHAT IT READS IS OF BULK AT MOST 1048576: true; the input reads as it did. -/
def objsFormsUptoRow : OpenClaim := { program := "ythfplgfpodmphaa", sum := "5a6e538abb9f71e2b01899f4b2dc061cac95238324ec70da9c0452e9ce7ea2a5", func := "hocket/hocketlaw8.ObjsForms", spec := "objsForms", inPlace := ["internal/bytealg.Compare", "slices.overlaps[hocket/api.Pair]"], unfollowed := true, recurses := true, apart := false, narrowed := true }
def ObjsFormsUptoSaid : Prop := objsFormsUptoRow.holds Try.pinned (OpenSpec.upto objsFormsSpec)

/-- 'hocketlaw8.ObjsOwn', WHERE WHAT IT READS IS OF BULK AT MOST 1048576: true; the input reads as it did. -/
def objsOwnUptoRow : OpenClaim := { program := "ythfplgfpodmphaa", sum := "5a6e538abb9f71e2b01899f4b2dc061cac95238324ec70da9c0452e9ce7ea2a5", func := "hocket/hocketlaw8.ObjsOwn", spec := "objsOwn", inPlace := ["internal/bytealg.Compare", "slices.overlaps[hocket/api.Pair]"], unfollowed := true, recurses := true, apart := false, narrowed := true }
def ObjsOwnUptoSaid : Prop := objsOwnUptoRow.holds Try.pinned (OpenSpec.upto objsOwnSpec)

/-- 'hocketlaw8.ObjsPlays', WHERE WHAT IT READS IS OF BULK AT MOST 1048576: true; the input reads as it did. -/
def objsPlaysUptoRow : OpenClaim := { program := "ythfplgfpodmphaa", sum := "5a6e538abb9f71e2b01899f4b2dc061cac95238324ec70da9c0452e9ce7ea2a5", func := "hocket/hocketlaw8.ObjsPlays", spec := "objsPlays", inPlace := ["internal/bytealg.Compare", "slices.overlaps[hocket/api.Pair]"], unfollowed := true, recurses := true, apart := false, narrowed := true }
def ObjsPlaysUptoSaid : Prop := objsPlaysUptoRow.holds Try.pinned (OpenSpec.upto objsPlaysSpec)

/-- 'hocketlaw8.ObjsApart', WHERE WHAT IT READS IS OF BULK AT MOST 1048576: true; the input reads as it did. -/
def objsApartUptoRow : OpenClaim := { program := "ythfplgfpodmphaa", sum := "5a6e538abb9f71e2b01899f4b2dc061cac95238324ec70da9c0452e9ce7ea2a5", func := "hocket/hocketlaw8.ObjsApart", spec := "objsApart", inPlace := ["internal/bytealg.Compare", "slices.overlaps[hocket/api.Pair]"], unfollowed := true, recurses := true, apart := false, narrowed := true }
def ObjsApartUptoSaid : Prop := objsApartUptoRow.holds Try.pinned (OpenSpec.upto objsApartSpec)

/-- 'hocketlaw10.MachOnce', WHERE WHAT IT READS IS OF BULK AT MOST 1048576: true; the input reads as it did. -/
def machOnceUptoRow : OpenClaim := { program := "ythfplgfpodmphaa", sum := "5a6e538abb9f71e2b01899f4b2dc061cac95238324ec70da9c0452e9ce7ea2a5", func := "hocket/hocketlaw10.MachOnce", spec := "machOnce", inPlace := ["internal/bytealg.Compare", "slices.overlaps[hocket/api.Pair]", "slices.overlaps[hocket/api.Last]"], unfollowed := true, recurses := true, apart := false, narrowed := true }
def MachOnceUptoSaid : Prop := machOnceUptoRow.holds Try.pinned (OpenSpec.upto machOnceSpec)

/-- 'hocketlaw10.MachBounds', WHERE WHAT IT READS IS OF BULK AT MOST 1048576: true; the input reads as it did. -/
def machBoundsUptoRow : OpenClaim := { program := "ythfplgfpodmphaa", sum := "5a6e538abb9f71e2b01899f4b2dc061cac95238324ec70da9c0452e9ce7ea2a5", func := "hocket/hocketlaw10.MachBounds", spec := "machBounds", inPlace := ["internal/bytealg.Compare", "slices.overlaps[hocket/api.Pair]", "slices.overlaps[hocket/api.Last]"], unfollowed := true, recurses := true, apart := false, narrowed := true }
def MachBoundsUptoSaid : Prop := machBoundsUptoRow.holds Try.pinned (OpenSpec.upto machBoundsSpec)

/-- 'hocketlaw10.MachBack', WHERE WHAT IT READS IS OF BULK AT MOST 1048576: true; the input reads as it did. -/
def machBackUptoRow : OpenClaim := { program := "ythfplgfpodmphaa", sum := "5a6e538abb9f71e2b01899f4b2dc061cac95238324ec70da9c0452e9ce7ea2a5", func := "hocket/hocketlaw10.MachBack", spec := "machBack", inPlace := ["internal/bytealg.Compare", "slices.overlaps[hocket/api.Pair]", "slices.overlaps[hocket/api.Last]"], unfollowed := true, recurses := true, apart := false, narrowed := true }
def MachBackUptoSaid : Prop := machBackUptoRow.holds Try.pinned (OpenSpec.upto machBackSpec)

end Rows
end Go.Proofs.Ythfplgfpodmphaa
