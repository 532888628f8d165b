/-
  No cell of these rows narrows 'for every input' (looked for: loops, veiled, ifaces, maps, wideKeys, modest, calm, conditions, laid).
  DERIVED. THE GIVEN ROWS OF THIS SEAT. 3 by the template 'for every input the law returns true; each argument reads behind the call as it read before'; 0 by the template 'total and deterministic' (their statements: YtiodnbeifgnhcaaTotals.lean).
  GIVEN WITH THE SEED: the statements are not yours to turn. If you find one false, say at which input.
  Laid BY PROGRAM, IN A SANDBOX (cutbox-rows.mjs): the forced cells as the released guide's own fill.sh prints them over the translation e2831732ccb92f7a… (all of the seat's roots in one cut). By AI agents, Wed Nov 11 2026. No macro, syntax, notation, axiom, sorry.
-/
import Derived.Test.YtiodnbeifgnhcaaChecked
import GoSem.Claim
import GoSem.ClaimJoined
import GoSem.ClaimMapViews
import Derived.JoinedTies
import Derived.KernelRfl
namespace Go.Proofs.Ytiodnbeifgnhcaa
/- THE CELL 'sum', in the pinned program and in every row, IS THE sha256 OF THE DUMP (.gsa) THAT YtiodnbeifgnhcaaProg.lean LOADS. Nothing in Lean hashes anything: it is a label: what it is worth is what the hold of that sum in a sandbox is worth. -/
noncomputable def Try.pinned : Pinned := { name := "ytiodnbeifgnhcaa", sum := "e2831732ccb92f7ae440a1a45e5cd31604ab9e26872062e297274c01d411af09", checked := Try.checked }
namespace Rows
def none {H : Type} : Left H := { results := [], args := [] }

/-- 'hocketlaw7.MapsForms': WHATEVER THE INPUT: true; the input reads as it did. -/
def mapsFormsSpec : ChangeSpec := { name := "mapsForms", fn := fun _ => fun
  | [d1, d2, d3] => { results := [.lit (.bool true)], args := [d1, d2, d3] }
  | _ => none }
def mapsFormsRow : OpenClaim := { program := "ytiodnbeifgnhcaa", sum := "e2831732ccb92f7ae440a1a45e5cd31604ab9e26872062e297274c01d411af09", func := "hocket/hocketlaw7.MapsForms", spec := "mapsForms", inPlace := ["internal/bytealg.Compare", "slices.overlaps[hocket/api.Pair]"], apart := false }
def MapsFormsSaid : Prop := mapsFormsRow.holds Try.pinned (OpenSpec.ofChange mapsFormsSpec)

/-- ITS FALSE NEIGHBOUR: 'it returns false'. Refute it at one input. -/
def mapsFormsWrong : ChangeSpec := { name := "mapsForms", fn := fun _ => fun
  | [d1, d2, d3] => { results := [.lit (.bool false)], args := [d1, d2, d3] }
  | _ => none }
def MapsFormsWrongFalsely : Prop := mapsFormsRow.holds Try.pinned (OpenSpec.ofChange mapsFormsWrong)

/-- 'hocketlaw7.MapsPlays': WHATEVER THE INPUT: true; the input reads as it did. -/
def mapsPlaysSpec : ChangeSpec := { name := "mapsPlays", fn := fun _ => fun
  | [d1, d2] => { results := [.lit (.bool true)], args := [d1, d2] }
  | _ => none }
def mapsPlaysRow : OpenClaim := { program := "ytiodnbeifgnhcaa", sum := "e2831732ccb92f7ae440a1a45e5cd31604ab9e26872062e297274c01d411af09", func := "hocket/hocketlaw7.MapsPlays", spec := "mapsPlays", inPlace := ["internal/bytealg.Compare", "slices.overlaps[hocket/api.Pair]"], apart := false }
def MapsPlaysSaid : Prop := mapsPlaysRow.holds Try.pinned (OpenSpec.ofChange mapsPlaysSpec)

/-- ITS FALSE NEIGHBOUR: 'it returns false'. Refute it at one input. -/
def mapsPlaysWrong : ChangeSpec := { name := "mapsPlays", fn := fun _ => fun
  | [d1, d2] => { results := [.lit (.bool false)], args := [d1, d2] }
  | _ => none }
def MapsPlaysWrongFalsely : Prop := mapsPlaysRow.holds Try.pinned (OpenSpec.ofChange mapsPlaysWrong)

/-- 'hocketlaw7.MapsLast': WHATEVER THE INPUT: true; the input reads as it did. -/
def mapsLastSpec : ChangeSpec := { name := "mapsLast", fn := fun _ => fun
  | [d] => { results := [.lit (.bool true)], args := [d] }
  | _ => none }
def mapsLastRow : OpenClaim := { program := "ytiodnbeifgnhcaa", sum := "e2831732ccb92f7ae440a1a45e5cd31604ab9e26872062e297274c01d411af09", func := "hocket/hocketlaw7.MapsLast", spec := "mapsLast", inPlace := ["internal/bytealg.Compare", "slices.overlaps[hocket/api.Pair]"], apart := false }
def MapsLastSaid : Prop := mapsLastRow.holds Try.pinned (OpenSpec.ofChange mapsLastSpec)

/-- ITS FALSE NEIGHBOUR: 'it returns false'. Refute it at one input. -/
def mapsLastWrong : ChangeSpec := { name := "mapsLast", fn := fun _ => fun
  | [d] => { results := [.lit (.bool false)], args := [d] }
  | _ => none }
def MapsLastWrongFalsely : Prop := mapsLastRow.holds Try.pinned (OpenSpec.ofChange mapsLastWrong)

/- THE SECOND FORM. 'bulk': how many values and letters a reading holds, each counted each time it is reached (what is shared counts as often as it is met; a slice's spare places count too). A statement '..UptoSaid' is the law's where the arguments, and the package variables that the reading takes, are together of bulk at most 1048576: NARROWER than '..Said'. Prove '..Said' where nothing that the law and all that it calls make is longer than what came in: it says more and counts as full. Else prove '..UptoSaid'. A law counts once. -/
mutual
def uptoBulk {H : Type} : DataW H → Nat
  | .lit (.string bytes) => bytes.length + 1
  | .lit _ => 1
  | .nil => 1
  | .ptr d => uptoBulk d + 1
  | .slice elems spare => uptoBulkAll elems + uptoBulkAll spare + 1
  | .agg parts => uptoBulkAll parts + 1
  | .iface _ d => uptoBulk d + 1
  | .map entries => uptoBulkEntries entries + 1
  | .held _ => 1
def uptoBulkAll {H : Type} : List (DataW H) → Nat
  | [] => 0
  | d :: r => uptoBulk d + uptoBulkAll r
def uptoBulkEntries {H : Type} : List (Lit × DataW H) → Nat
  | [] => 0
  | x :: r => uptoBulkEntry x + uptoBulkEntries r
def uptoBulkEntry {H : Type} : Lit × DataW H → Nat
  | (.string bytes, d) => bytes.length + uptoBulk d + 1
  | (_, d) => uptoBulk d + 1
 end
def uptoSmall : (H : Type) → List (DataW H) → Bool := fun _ ds => decide (uptoBulkAll ds ≤ 1048576)
def OpenSpec.upto (s : _root_.Go.ChangeSpec) : _root_.Go.OpenSpec := { _root_.Go.OpenSpec.ofChange s with cond := some uptoSmall }

/-- 'hocketlaw7.MapsForms', WHERE WHAT IT READS IS OF BULK AT MOST 1048576: true; the input reads as it did. -/
def mapsFormsUptoRow : OpenClaim := { program := "ytiodnbeifgnhcaa", sum := "e2831732ccb92f7ae440a1a45e5cd31604ab9e26872062e297274c01d411af09", func := "hocket/hocketlaw7.MapsForms", spec := "mapsForms", inPlace := ["internal/bytealg.Compare", "slices.overlaps[hocket/api.Pair]"], apart := false, narrowed := true }
def MapsFormsUptoSaid : Prop := mapsFormsUptoRow.holds Try.pinned (OpenSpec.upto mapsFormsSpec)

/-- 'hocketlaw7.MapsPlays', WHERE WHAT IT READS IS OF BULK AT MOST 1048576: true; the input reads as it did. -/
def mapsPlaysUptoRow : OpenClaim := { program := "ytiodnbeifgnhcaa", sum := "e2831732ccb92f7ae440a1a45e5cd31604ab9e26872062e297274c01d411af09", func := "hocket/hocketlaw7.MapsPlays", spec := "mapsPlays", inPlace := ["internal/bytealg.Compare", "slices.overlaps[hocket/api.Pair]"], apart := false, narrowed := true }
def MapsPlaysUptoSaid : Prop := mapsPlaysUptoRow.holds Try.pinned (OpenSpec.upto mapsPlaysSpec)

/-- 'hocketlaw7.MapsLast', WHERE WHAT IT READS IS OF BULK AT MOST 1048576: true; the input reads as it did. -/
def mapsLastUptoRow : OpenClaim := { program := "ytiodnbeifgnhcaa", sum := "e2831732ccb92f7ae440a1a45e5cd31604ab9e26872062e297274c01d411af09", func := "hocket/hocketlaw7.MapsLast", spec := "mapsLast", inPlace := ["internal/bytealg.Compare", "slices.overlaps[hocket/api.Pair]"], apart := false, narrowed := true }
def MapsLastUptoSaid : Prop := mapsLastUptoRow.holds Try.pinned (OpenSpec.upto mapsLastSpec)

end Rows
end Go.Proofs.Ytiodnbeifgnhcaa
