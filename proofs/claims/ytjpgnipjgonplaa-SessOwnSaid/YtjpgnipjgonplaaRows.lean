/-
  No cell of these rows narrows 'for every input' (looked for: loops, veiled, ifaces, maps, wideKeys, modest, calm, conditions, laid).
  DERIVED. THE GIVEN ROWS OF THIS SEAT. 5 by the template 'for every input the law returns true; each argument reads behind the call as it read before'; 0 by the template 'total and deterministic' (their statements: YtjpgnipjgonplaaTotals.lean).
  GIVEN WITH THE SEED: the statements are not yours to turn. If you find one false, say at which input.
  Laid BY PROGRAM, IN A SANDBOX (cutbox-rows.mjs): the forced cells as the released guide's own fill.sh prints them over the translation 8f7c42b49e6583b6… (all of the seat's roots in one cut). By AI agents, Wed Nov 11 2026. No macro, syntax, notation, axiom, sorry.
-/
import Derived.Test.YtjpgnipjgonplaaChecked
import GoSem.Claim
import GoSem.ClaimJoined
import GoSem.ClaimMapViews
import Derived.JoinedTies
import Derived.KernelRfl
namespace Go.Proofs.Ytjpgnipjgonplaa
/- THE CELL 'sum', in the pinned program and in every row, IS THE sha256 OF THE DUMP (.gsa) THAT YtjpgnipjgonplaaProg.lean LOADS. Nothing in Lean hashes anything: it is a label: what it is worth is what the hold of that sum in a sandbox is worth. -/
noncomputable def Try.pinned : Pinned := { name := "ytjpgnipjgonplaa", sum := "8f7c42b49e6583b6af6d0d8ea8c1305aa1bed300a5d6fb621b6c5b508444864f", checked := Try.checked }
namespace Rows
def none {H : Type} : Left H := { results := [], args := [] }

/-- 'hocketlaw9.SessFull': WHATEVER THE INPUT: true; the input reads as it did. -/
def sessFullSpec : ChangeSpec := { name := "sessFull", fn := fun _ => fun
  | [d1, d2] => { results := [.lit (.bool true)], args := [d1, d2] }
  | _ => none }
def sessFullRow : OpenClaim := { program := "ytjpgnipjgonplaa", sum := "8f7c42b49e6583b6af6d0d8ea8c1305aa1bed300a5d6fb621b6c5b508444864f", func := "hocket/hocketlaw9.SessFull", spec := "sessFull", inPlace := ["slices.overlaps[hocket/api.Last]"], unfollowed := true, recurses := true, apart := false }
def SessFullSaid : Prop := sessFullRow.holds Try.pinned (OpenSpec.ofChange sessFullSpec)

/-- ITS FALSE NEIGHBOUR: 'it returns false'. Refute it at one input. -/
def sessFullWrong : ChangeSpec := { name := "sessFull", fn := fun _ => fun
  | [d1, d2] => { results := [.lit (.bool false)], args := [d1, d2] }
  | _ => none }
def SessFullWrongFalsely : Prop := sessFullRow.holds Try.pinned (OpenSpec.ofChange sessFullWrong)

/-- 'hocketlaw9.SessBad': WHATEVER THE INPUT: true; the input reads as it did. -/
def sessBadSpec : ChangeSpec := { name := "sessBad", fn := fun _ => fun
  | [d] => { results := [.lit (.bool true)], args := [d] }
  | _ => none }
def sessBadRow : OpenClaim := { program := "ytjpgnipjgonplaa", sum := "8f7c42b49e6583b6af6d0d8ea8c1305aa1bed300a5d6fb621b6c5b508444864f", func := "hocket/hocketlaw9.SessBad", spec := "sessBad", inPlace := ["slices.overlaps[hocket/api.Last]"], unfollowed := true, recurses := true, apart := false }
def SessBadSaid : Prop := sessBadRow.holds Try.pinned (OpenSpec.ofChange sessBadSpec)

/-- ITS FALSE NEIGHBOUR: 'it returns false'. Refute it at one input. -/
def sessBadWrong : ChangeSpec := { name := "sessBad", fn := fun _ => fun
  | [d] => { results := [.lit (.bool false)], args := [d] }
  | _ => none }
def SessBadWrongFalsely : Prop := sessBadRow.holds Try.pinned (OpenSpec.ofChange sessBadWrong)

/-- 'hocketlaw9.SessOwn': WHATEVER THE INPUT: true; the input reads as it did. -/
def sessOwnSpec : ChangeSpec := { name := "sessOwn", fn := fun _ => fun
  | [d1, d2] => { results := [.lit (.bool true)], args := [d1, d2] }
  | _ => none }
def sessOwnRow : OpenClaim := { program := "ytjpgnipjgonplaa", sum := "8f7c42b49e6583b6af6d0d8ea8c1305aa1bed300a5d6fb621b6c5b508444864f", func := "hocket/hocketlaw9.SessOwn", spec := "sessOwn", inPlace := ["slices.overlaps[hocket/api.Last]"], unfollowed := true, recurses := true, apart := false }
def SessOwnSaid : Prop := sessOwnRow.holds Try.pinned (OpenSpec.ofChange sessOwnSpec)

/-- ITS FALSE NEIGHBOUR: 'it returns false'. Refute it at one input. -/
def sessOwnWrong : ChangeSpec := { name := "sessOwn", fn := fun _ => fun
  | [d1, d2] => { results := [.lit (.bool false)], args := [d1, d2] }
  | _ => none }
def SessOwnWrongFalsely : Prop := sessOwnRow.holds Try.pinned (OpenSpec.ofChange sessOwnWrong)

/-- 'hocketlaw9.SessPlays': WHATEVER THE INPUT: true; the input reads as it did. -/
def sessPlaysSpec : ChangeSpec := { name := "sessPlays", fn := fun _ => fun
  | [d1, d2] => { results := [.lit (.bool true)], args := [d1, d2] }
  | _ => none }
def sessPlaysRow : OpenClaim := { program := "ytjpgnipjgonplaa", sum := "8f7c42b49e6583b6af6d0d8ea8c1305aa1bed300a5d6fb621b6c5b508444864f", func := "hocket/hocketlaw9.SessPlays", spec := "sessPlays", inPlace := ["slices.overlaps[hocket/api.Last]"], unfollowed := true, recurses := true, apart := false }
def SessPlaysSaid : Prop := sessPlaysRow.holds Try.pinned (OpenSpec.ofChange sessPlaysSpec)

/-- ITS FALSE NEIGHBOUR: 'it returns false'. Refute it at one input. -/
def sessPlaysWrong : ChangeSpec := { name := "sessPlays", fn := fun _ => fun
  | [d1, d2] => { results := [.lit (.bool false)], args := [d1, d2] }
  | _ => none }
def SessPlaysWrongFalsely : Prop := sessPlaysRow.holds Try.pinned (OpenSpec.ofChange sessPlaysWrong)

/-- 'hocketlaw9.SessOnce': WHATEVER THE INPUT: true; the input reads as it did. -/
def sessOnceSpec : ChangeSpec := { name := "sessOnce", fn := fun _ => fun
  | [d1, d2] => { results := [.lit (.bool true)], args := [d1, d2] }
  | _ => none }
def sessOnceRow : OpenClaim := { program := "ytjpgnipjgonplaa", sum := "8f7c42b49e6583b6af6d0d8ea8c1305aa1bed300a5d6fb621b6c5b508444864f", func := "hocket/hocketlaw9.SessOnce", spec := "sessOnce", inPlace := ["slices.overlaps[hocket/api.Last]"], unfollowed := true, recurses := true, apart := false }
def SessOnceSaid : Prop := sessOnceRow.holds Try.pinned (OpenSpec.ofChange sessOnceSpec)

/-- ITS FALSE NEIGHBOUR: 'it returns false'. Refute it at one input. -/
def sessOnceWrong : ChangeSpec := { name := "sessOnce", fn := fun _ => fun
  | [d1, d2] => { results := [.lit (.bool false)], args := [d1, d2] }
  | _ => none }
def SessOnceWrongFalsely : Prop := sessOnceRow.holds Try.pinned (OpenSpec.ofChange sessOnceWrong)

/- THE SECOND FORM. 'bulk': how many values and letters a reading holds, each counted each time it is reached (what is shared counts as often as it is met; a slice's spare places count too). A statement '..UptoSaid' is the law's where the arguments, and the package variables that the reading takes, are together of bulk at most 1048576: NARROWER than '..Said'. Prove '..Said' where nothing that the law and all that it calls make is longer than what came in: it says more and counts as full. Else prove '..UptoSaid'. A law counts once. -/
mutual
def uptoBulk {H : Type} : DataW H → Nat
  | .lit (.string bytes) => bytes.length + 1
  | .lit _ => 1
  | .nil => 1
  | .ptr d => uptoBulk d + 1
  | .slice elems spare => uptoBulkAll elems + uptoBulkAll spare + 1
  | .agg parts => uptoBulkAll parts + 1
  | .iface _ d => uptoBulk d + 1
  | .map entries => uptoBulkEntries entries + 1
  | .held _ => 1
def uptoBulkAll {H : Type} : List (DataW H) → Nat
  | [] => 0
  | d :: r => uptoBulk d + uptoBulkAll r
def uptoBulkEntries {H : Type} : List (Lit × DataW H) → Nat
  | [] => 0
  | x :: r => uptoBulkEntry x + uptoBulkEntries r
def uptoBulkEntry {H : Type} : Lit × DataW H → Nat
  | (.string bytes, d) => bytes.length + uptoBulk d + 1
  | (_, d) => uptoBulk d + 1
 end
def uptoSmall : (H : Type) → List (DataW H) → Bool := fun _ ds => decide (uptoBulkAll ds ≤ 1048576)
def OpenSpec.upto (s : _root_.Go.ChangeSpec) : _root_.Go.OpenSpec := { _root_.Go.OpenSpec.ofChange s with cond := some uptoSmall }

/-- 'hocketlaw9.SessFull', WHERE WHAT IT READS IS OF BULK AT MOST 1048576: true; the input reads as it did. -/
def sessFullUptoRow : OpenClaim := { program := "ytjpgnipjgonplaa", sum := "8f7c42b49e6583b6af6d0d8ea8c1305aa1bed300a5d6fb621b6c5b508444864f", func := "hocket/hocketlaw9.SessFull", spec := "sessFull", inPlace := ["slices.overlaps[hocket/api.Last]"], unfollowed := true, recurses := true, apart := false, narrowed := true }
def SessFullUptoSaid : Prop := sessFullUptoRow.holds Try.pinned (OpenSpec.upto sessFullSpec)

/-- 'hocketlaw9.SessBad', WHERE WHAT IT READS IS OF BULK AT MOST 1048576: true; the input reads as it did. -/
def sessBadUptoRow : OpenClaim := { program := "ytjpgnipjgonplaa", sum := "8f7c42b49e6583b6af6d0d8ea8c1305aa1bed300a5d6fb621b6c5b508444864f", func := "hocket/hocketlaw9.SessBad", spec := "sessBad", inPlace := ["slices.overlaps[hocket/api.Last]"], unfollowed := true, recurses := true, apart := false, narrowed := true }
def SessBadUptoSaid : Prop := sessBadUptoRow.holds Try.pinned (OpenSpec.upto sessBadSpec)

/-- 'hocketlaw9.SessOwn', WHERE WHAT IT READS IS OF BULK AT MOST 1048576: true; the input reads as it did. -/
def sessOwnUptoRow : OpenClaim := { program := "ytjpgnipjgonplaa", sum := "8f7c42b49e6583b6af6d0d8ea8c1305aa1bed300a5d6fb621b6c5b508444864f", func := "hocket/hocketlaw9.SessOwn", spec := "sessOwn", inPlace := ["slices.overlaps[hocket/api.Last]"], unfollowed := true, recurses := true, apart := false, narrowed := true }
def SessOwnUptoSaid : Prop := sessOwnUptoRow.holds Try.pinned (OpenSpec.upto sessOwnSpec)

/-- 'hocketlaw9.SessPlays', WHERE WHAT IT READS IS OF BULK AT MOST 1048576: true; the input reads as it did. -/
def sessPlaysUptoRow : OpenClaim := { program := "ytjpgnipjgonplaa", sum := "8f7c42b49e6583b6af6d0d8ea8c1305aa1bed300a5d6fb621b6c5b508444864f", func := "hocket/hocketlaw9.SessPlays", spec := "sessPlays", inPlace := ["slices.overlaps[hocket/api.Last]"], unfollowed := true, recurses := true, apart := false, narrowed := true }
def SessPlaysUptoSaid : Prop := sessPlaysUptoRow.holds Try.pinned (OpenSpec.upto sessPlaysSpec)

/-- 'hocketlaw9.SessOnce', WHERE WHAT IT READS IS OF BULK AT MOST 1048576: true; the input reads as it did. -/
def sessOnceUptoRow : OpenClaim := { program := "ytjpgnipjgonplaa", sum := "8f7c42b49e6583b6af6d0d8ea8c1305aa1bed300a5d6fb621b6c5b508444864f", func := "hocket/hocketlaw9.SessOnce", spec := "sessOnce", inPlace := ["slices.overlaps[hocket/api.Last]"], unfollowed := true, recurses := true, apart := false, narrowed := true }
def SessOnceUptoSaid : Prop := sessOnceUptoRow.holds Try.pinned (OpenSpec.upto sessOnceSpec)

end Rows
end Go.Proofs.Ytjpgnipjgonplaa
