/-
  No cell of these rows narrows 'for every input' (looked for: loops, veiled, ifaces, maps, wideKeys, modest, calm, conditions, laid).
  DERIVED. THE GIVEN ROWS OF THIS SEAT. 5 by the template 'for every input the law returns true; each argument reads behind the call as it read before'; 0 by the template 'total and deterministic' (their statements: YthoekmedkmonhaaTotals.lean).
  GIVEN WITH THE SEED: the statements are not yours to turn. If you find one false, say at which input.
  Laid BY PROGRAM, IN A SANDBOX (cutbox-rows.mjs): the forced cells as the released guide's own fill.sh prints them over the translation e3836f0020e37369… (all of the seat's roots in one cut). By AI agents, Wed Nov 11 2026. No macro, syntax, notation, axiom, sorry.
-/
import Derived.Test.YthoekmedkmonhaaChecked
import GoSem.Claim
import GoSem.ClaimJoined
import GoSem.ClaimMapViews
import Derived.JoinedTies
import Derived.KernelRfl
namespace Go.Proofs.Ythoekmedkmonhaa
/- THE CELL 'sum', in the pinned program and in every row, IS THE sha256 OF THE DUMP (.gsa) THAT YthoekmedkmonhaaProg.lean LOADS. Nothing in Lean hashes anything: it is a label: what it is worth is what the hold of that sum in a sandbox is worth. -/
noncomputable def Try.pinned : Pinned := { name := "ythoekmedkmonhaa", sum := "e3836f0020e373694d18d1a60fdc4f4f280b299a5fdcc50a0cfc9c49fe8f96c5", checked := Try.checked }
namespace Rows
def none {H : Type} : Left H := { results := [], args := [] }

/-- 'hocketlaw3.WindHoles': WHATEVER THE INPUT: true; the input reads as it did. -/
def windHolesSpec : ChangeSpec := { name := "windHoles", fn := fun _ => fun
  | [d1, d2, d3] => { results := [.lit (.bool true)], args := [d1, d2, d3] }
  | _ => none }
def windHolesRow : OpenClaim := { program := "ythoekmedkmonhaa", sum := "e3836f0020e373694d18d1a60fdc4f4f280b299a5fdcc50a0cfc9c49fe8f96c5", func := "hocket/hocketlaw3.WindHoles", spec := "windHoles", unfollowed := true, recurses := true, apart := false }
def WindHolesSaid : Prop := windHolesRow.holds Try.pinned (OpenSpec.ofChange windHolesSpec)

/-- ITS FALSE NEIGHBOUR: 'it returns false'. Refute it at one input. -/
def windHolesWrong : ChangeSpec := { name := "windHoles", fn := fun _ => fun
  | [d1, d2, d3] => { results := [.lit (.bool false)], args := [d1, d2, d3] }
  | _ => none }
def WindHolesWrongFalsely : Prop := windHolesRow.holds Try.pinned (OpenSpec.ofChange windHolesWrong)

/-- 'hocketlaw3.WindFar': WHATEVER THE INPUT: true; the input reads as it did. -/
def windFarSpec : ChangeSpec := { name := "windFar", fn := fun _ => fun
  | [d1, d2] => { results := [.lit (.bool true)], args := [d1, d2] }
  | _ => none }
def windFarRow : OpenClaim := { program := "ythoekmedkmonhaa", sum := "e3836f0020e373694d18d1a60fdc4f4f280b299a5fdcc50a0cfc9c49fe8f96c5", func := "hocket/hocketlaw3.WindFar", spec := "windFar", unfollowed := true, recurses := true, apart := false }
def WindFarSaid : Prop := windFarRow.holds Try.pinned (OpenSpec.ofChange windFarSpec)

/-- ITS FALSE NEIGHBOUR: 'it returns false'. Refute it at one input. -/
def windFarWrong : ChangeSpec := { name := "windFar", fn := fun _ => fun
  | [d1, d2] => { results := [.lit (.bool false)], args := [d1, d2] }
  | _ => none }
def WindFarWrongFalsely : Prop := windFarRow.holds Try.pinned (OpenSpec.ofChange windFarWrong)

/-- 'hocketlaw3.WindBounds': WHATEVER THE INPUT: true; the input reads as it did. -/
def windBoundsSpec : ChangeSpec := { name := "windBounds", fn := fun _ => fun
  | [d] => { results := [.lit (.bool true)], args := [d] }
  | _ => none }
def windBoundsRow : OpenClaim := { program := "ythoekmedkmonhaa", sum := "e3836f0020e373694d18d1a60fdc4f4f280b299a5fdcc50a0cfc9c49fe8f96c5", func := "hocket/hocketlaw3.WindBounds", spec := "windBounds", unfollowed := true, recurses := true, apart := false }
def WindBoundsSaid : Prop := windBoundsRow.holds Try.pinned (OpenSpec.ofChange windBoundsSpec)

/-- ITS FALSE NEIGHBOUR: 'it returns false'. Refute it at one input. -/
def windBoundsWrong : ChangeSpec := { name := "windBounds", fn := fun _ => fun
  | [d] => { results := [.lit (.bool false)], args := [d] }
  | _ => none }
def WindBoundsWrongFalsely : Prop := windBoundsRow.holds Try.pinned (OpenSpec.ofChange windBoundsWrong)

/-- 'hocketlaw3.WindPlays': WHATEVER THE INPUT: true; the input reads as it did. -/
def windPlaysSpec : ChangeSpec := { name := "windPlays", fn := fun _ => fun
  | [d1, d2, d3] => { results := [.lit (.bool true)], args := [d1, d2, d3] }
  | _ => none }
def windPlaysRow : OpenClaim := { program := "ythoekmedkmonhaa", sum := "e3836f0020e373694d18d1a60fdc4f4f280b299a5fdcc50a0cfc9c49fe8f96c5", func := "hocket/hocketlaw3.WindPlays", spec := "windPlays", unfollowed := true, recurses := true, apart := false }
def WindPlaysSaid : Prop := windPlaysRow.holds Try.pinned (OpenSpec.ofChange windPlaysSpec)

/-- ITS FALSE NEIGHBOUR: 'it returns false'. Refute it at one input. -/
def windPlaysWrong : ChangeSpec := { name := "windPlays", fn := fun _ => fun
  | [d1, d2, d3] => { results := [.lit (.bool false)], args := [d1, d2, d3] }
  | _ => none }
def WindPlaysWrongFalsely : Prop := windPlaysRow.holds Try.pinned (OpenSpec.ofChange windPlaysWrong)

/-- 'hocketlaw3.WindAll': WHATEVER THE INPUT: true; the input reads as it did. -/
def windAllSpec : ChangeSpec := { name := "windAll", fn := fun _ => fun
  | [d] => { results := [.lit (.bool true)], args := [d] }
  | _ => none }
def windAllRow : OpenClaim := { program := "ythoekmedkmonhaa", sum := "e3836f0020e373694d18d1a60fdc4f4f280b299a5fdcc50a0cfc9c49fe8f96c5", func := "hocket/hocketlaw3.WindAll", spec := "windAll", unfollowed := true, recurses := true, apart := false }
def WindAllSaid : Prop := windAllRow.holds Try.pinned (OpenSpec.ofChange windAllSpec)

/-- ITS FALSE NEIGHBOUR: 'it returns false'. Refute it at one input. -/
def windAllWrong : ChangeSpec := { name := "windAll", fn := fun _ => fun
  | [d] => { results := [.lit (.bool false)], args := [d] }
  | _ => none }
def WindAllWrongFalsely : Prop := windAllRow.holds Try.pinned (OpenSpec.ofChange windAllWrong)

/- THE SECOND FORM. 'bulk': how many values and letters a reading holds, each counted each time it is reached (what is shared counts as often as it is met; a slice's spare places count too). A statement '..UptoSaid' is the law's where the arguments, and the package variables that the reading takes, are together of bulk at most 1048576: NARROWER than '..Said'. Prove '..Said' where nothing that the law and all that it calls make is longer than what came in: it says more and counts as full. Else prove '..UptoSaid'. A law counts once. -/
mutual
def uptoBulk {H : Type} : DataW H → Nat
  | .lit (.string bytes) => bytes.length + 1
  | .lit _ => 1
  | .nil => 1
  | .ptr d => uptoBulk d + 1
  | .slice elems spare => uptoBulkAll elems + uptoBulkAll spare + 1
  | .agg parts => uptoBulkAll parts + 1
  | .iface _ d => uptoBulk d + 1
  | .map entries => uptoBulkEntries entries + 1
  | .held _ => 1
def uptoBulkAll {H : Type} : List (DataW H) → Nat
  | [] => 0
  | d :: r => uptoBulk d + uptoBulkAll r
def uptoBulkEntries {H : Type} : List (Lit × DataW H) → Nat
  | [] => 0
  | x :: r => uptoBulkEntry x + uptoBulkEntries r
def uptoBulkEntry {H : Type} : Lit × DataW H → Nat
  | (.string bytes, d) => bytes.length + uptoBulk d + 1
  | (_, d) => uptoBulk d + 1
 end
def uptoSmall : (H : Type) → List (DataW H) → Bool := fun _ ds => decide (uptoBulkAll ds ≤ 1048576)
def OpenSpec.upto (s : _root_.Go.ChangeSpec) : _root_.Go.OpenSpec := { _root_.Go.OpenSpec.ofChange s with cond := some uptoSmall }

/-- 'hocketlaw3.WindHoles', WHERE WHAT IT READS IS OF BULK AT MOST 1048576: true; the input reads as it did. -/
def windHolesUptoRow : OpenClaim := { program := "ythoekmedkmonhaa", sum := "e3836f0020e373694d18d1a60fdc4f4f280b299a5fdcc50a0cfc9c49fe8f96c5", func := "hocket/hocketlaw3.WindHoles", spec := "windHoles", unfollowed := true, recurses := true, apart := false, narrowed := true }
def WindHolesUptoSaid : Prop := windHolesUptoRow.holds Try.pinned (OpenSpec.upto windHolesSpec)

/-- 'hocketlaw3.WindFar', WHERE WHAT IT READS IS OF BULK AT MOST 1048576: true; the input reads as it did. -/
def windFarUptoRow : OpenClaim := { program := "ythoekmedkmonhaa", sum := "e3836f0020e373694d18d1a60fdc4f4f280b299a5fdcc50a0cfc9c49fe8f96c5", func := "hocket/hocketlaw3.WindFar", spec := "windFar", unfollowed := true, recurses := true, apart := false, narrowed := true }
def WindFarUptoSaid : Prop := windFarUptoRow.holds Try.pinned (OpenSpec.upto windFarSpec)

/-- 'hocketlaw3.WindBounds', WHERE WHAT IT READS IS OF BULK AT MOST 1048576: true; the input reads as it did. -/
def windBoundsUptoRow : OpenClaim := { program := "ythoekmedkmonhaa", sum := "e3836f0020e373694d18d1a60fdc4f4f280b299a5fdcc50a0cfc9c49fe8f96c5", func := "hocket/hocketlaw3.WindBounds", spec := "windBounds", unfollowed := true, recurses := true, apart := false, narrowed := true }
def WindBoundsUptoSaid : Prop := windBoundsUptoRow.holds Try.pinned (OpenSpec.upto windBoundsSpec)

/-- 'hocketlaw3.WindPlays', WHERE WHAT IT READS IS OF BULK AT MOST 1048576: true; the input reads as it did. -/
def windPlaysUptoRow : OpenClaim := { program := "ythoekmedkmonhaa", sum := "e3836f0020e373694d18d1a60fdc4f4f280b299a5fdcc50a0cfc9c49fe8f96c5", func := "hocket/hocketlaw3.WindPlays", spec := "windPlays", unfollowed := true, recurses := true, apart := false, narrowed := true }
def WindPlaysUptoSaid : Prop := windPlaysUptoRow.holds Try.pinned (OpenSpec.upto windPlaysSpec)

/-- 'hocketlaw3.WindAll', WHERE WHAT IT READS IS OF BULK AT MOST 1048576: true; the input reads as it did. -/
def windAllUptoRow : OpenClaim := { program := "ythoekmedkmonhaa", sum := "e3836f0020e373694d18d1a60fdc4f4f280b299a5fdcc50a0cfc9c49fe8f96c5", func := "hocket/hocketlaw3.WindAll", spec := "windAll", unfollowed := true, recurses := true, apart := false, narrowed := true }
def WindAllUptoSaid : Prop := windAllUptoRow.holds Try.pinned (OpenSpec.upto windAllSpec)

end Rows
end Go.Proofs.Ythoekmedkmonhaa
