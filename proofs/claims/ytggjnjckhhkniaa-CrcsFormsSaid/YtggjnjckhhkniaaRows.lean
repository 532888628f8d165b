/-
  No cell of these rows narrows 'for every input' (looked for: loops, veiled, ifaces, maps, wideKeys, modest, calm, conditions, laid).
  DERIVED. THE GIVEN ROWS OF THIS SEAT. 5 by the template 'for every input the law returns true; each argument reads behind the call as it read before'; 0 by the template 'total and deterministic' (their statements: YtggjnjckhhkniaaTotals.lean).
  GIVEN WITH THE SEED: the statements are not yours to turn. If you find one false, say at which input.
  Laid BY PROGRAM, IN A SANDBOX (cutbox-rows.mjs): the forced cells as the released guide's own fill.sh prints them over the translation 049629922f335f0c… (all of the seat's roots in one cut). By AI agents, Wed Nov 11 2026. No macro, syntax, notation, axiom, sorry.
-/
import Derived.Test.YtggjnjckhhkniaaChecked
import GoSem.Claim
import GoSem.ClaimJoined
import GoSem.ClaimMapViews
import Derived.JoinedTies
import Derived.KernelRfl
namespace Go.Proofs.Ytggjnjckhhkniaa
/- THE CELL 'sum', in the pinned program and in every row, IS THE sha256 OF THE DUMP (.gsa) THAT YtggjnjckhhkniaaProg.lean LOADS. Nothing in Lean hashes anything: it is a label: what it is worth is what the hold of that sum in a sandbox is worth. -/
noncomputable def Try.pinned : Pinned := { name := "ytggjnjckhhkniaa", sum := "049629922f335f0cafa680be95e21ef7c6aef12e654a1e720077a79998b4a0a6", checked := Try.checked }
namespace Rows
def none {H : Type} : Left H := { results := [], args := [] }

/-- 'hocketlaw1.CrcsForms': WHATEVER THE INPUT: true; the input reads as it did. -/
def crcsFormsSpec : ChangeSpec := { name := "crcsForms", fn := fun _ => fun
  | [d] => { results := [.lit (.bool true)], args := [d] }
  | _ => none }
def crcsFormsRow : OpenClaim := { program := "ytggjnjckhhkniaa", sum := "049629922f335f0cafa680be95e21ef7c6aef12e654a1e720077a79998b4a0a6", func := "hocket/hocketlaw1.CrcsForms", spec := "crcsForms", apart := false }
def CrcsFormsSaid : Prop := crcsFormsRow.holds Try.pinned (OpenSpec.ofChange crcsFormsSpec)

/-- ITS FALSE NEIGHBOUR: 'it returns false'. Refute it at one input. -/
def crcsFormsWrong : ChangeSpec := { name := "crcsForms", fn := fun _ => fun
  | [d] => { results := [.lit (.bool false)], args := [d] }
  | _ => none }
def CrcsFormsWrongFalsely : Prop := crcsFormsRow.holds Try.pinned (OpenSpec.ofChange crcsFormsWrong)

/-- 'hocketlaw1.CrcsLinear': WHATEVER THE INPUT: true; the input reads as it did. -/
def crcsLinearSpec : ChangeSpec := { name := "crcsLinear", fn := fun _ => fun
  | [d1, d2, d3] => { results := [.lit (.bool true)], args := [d1, d2, d3] }
  | _ => none }
def crcsLinearRow : OpenClaim := { program := "ytggjnjckhhkniaa", sum := "049629922f335f0cafa680be95e21ef7c6aef12e654a1e720077a79998b4a0a6", func := "hocket/hocketlaw1.CrcsLinear", spec := "crcsLinear", apart := false }
def CrcsLinearSaid : Prop := crcsLinearRow.holds Try.pinned (OpenSpec.ofChange crcsLinearSpec)

/-- ITS FALSE NEIGHBOUR: 'it returns false'. Refute it at one input. -/
def crcsLinearWrong : ChangeSpec := { name := "crcsLinear", fn := fun _ => fun
  | [d1, d2, d3] => { results := [.lit (.bool false)], args := [d1, d2, d3] }
  | _ => none }
def CrcsLinearWrongFalsely : Prop := crcsLinearRow.holds Try.pinned (OpenSpec.ofChange crcsLinearWrong)

/-- 'hocketlaw1.CrcsTells': WHATEVER THE INPUT: true; the input reads as it did. -/
def crcsTellsSpec : ChangeSpec := { name := "crcsTells", fn := fun _ => fun
  | [d1, d2, d3] => { results := [.lit (.bool true)], args := [d1, d2, d3] }
  | _ => none }
def crcsTellsRow : OpenClaim := { program := "ytggjnjckhhkniaa", sum := "049629922f335f0cafa680be95e21ef7c6aef12e654a1e720077a79998b4a0a6", func := "hocket/hocketlaw1.CrcsTells", spec := "crcsTells", apart := false }
def CrcsTellsSaid : Prop := crcsTellsRow.holds Try.pinned (OpenSpec.ofChange crcsTellsSpec)

/-- ITS FALSE NEIGHBOUR: 'it returns false'. Refute it at one input. -/
def crcsTellsWrong : ChangeSpec := { name := "crcsTells", fn := fun _ => fun
  | [d1, d2, d3] => { results := [.lit (.bool false)], args := [d1, d2, d3] }
  | _ => none }
def CrcsTellsWrongFalsely : Prop := crcsTellsRow.holds Try.pinned (OpenSpec.ofChange crcsTellsWrong)

/-- 'hocketlaw1.CrcsTurned': WHATEVER THE INPUT: true; the input reads as it did. -/
def crcsTurnedSpec : ChangeSpec := { name := "crcsTurned", fn := fun _ => fun
  | [d1, d2, d3] => { results := [.lit (.bool true)], args := [d1, d2, d3] }
  | _ => none }
def crcsTurnedRow : OpenClaim := { program := "ytggjnjckhhkniaa", sum := "049629922f335f0cafa680be95e21ef7c6aef12e654a1e720077a79998b4a0a6", func := "hocket/hocketlaw1.CrcsTurned", spec := "crcsTurned", apart := false }
def CrcsTurnedSaid : Prop := crcsTurnedRow.holds Try.pinned (OpenSpec.ofChange crcsTurnedSpec)

/-- ITS FALSE NEIGHBOUR: 'it returns false'. Refute it at one input. -/
def crcsTurnedWrong : ChangeSpec := { name := "crcsTurned", fn := fun _ => fun
  | [d1, d2, d3] => { results := [.lit (.bool false)], args := [d1, d2, d3] }
  | _ => none }
def CrcsTurnedWrongFalsely : Prop := crcsTurnedRow.holds Try.pinned (OpenSpec.ofChange crcsTurnedWrong)

/-- 'hocketlaw1.CrcsSteps': WHATEVER THE INPUT: true; the input reads as it did. -/
def crcsStepsSpec : ChangeSpec := { name := "crcsSteps", fn := fun _ => fun
  | [d1, d2, d3, d4] => { results := [.lit (.bool true)], args := [d1, d2, d3, d4] }
  | _ => none }
def crcsStepsRow : OpenClaim := { program := "ytggjnjckhhkniaa", sum := "049629922f335f0cafa680be95e21ef7c6aef12e654a1e720077a79998b4a0a6", func := "hocket/hocketlaw1.CrcsSteps", spec := "crcsSteps", apart := false }
def CrcsStepsSaid : Prop := crcsStepsRow.holds Try.pinned (OpenSpec.ofChange crcsStepsSpec)

/-- ITS FALSE NEIGHBOUR: 'it returns false'. Refute it at one input. -/
def crcsStepsWrong : ChangeSpec := { name := "crcsSteps", fn := fun _ => fun
  | [d1, d2, d3, d4] => { results := [.lit (.bool false)], args := [d1, d2, d3, d4] }
  | _ => none }
def CrcsStepsWrongFalsely : Prop := crcsStepsRow.holds Try.pinned (OpenSpec.ofChange crcsStepsWrong)

/- THE SECOND FORM. 'bulk': how many values and letters a reading holds, each counted each time it is reached (what is shared counts as often as it is met; a slice's spare places count too). A statement '..UptoSaid' is the law's where the arguments, and the package variables that the reading takes, are together of bulk at most 1048576: NARROWER than '..Said'. Prove '..Said' where nothing that the law and all that it calls make is longer than what came in: it says more and counts as full. Else prove '..UptoSaid'. A law counts once. -/
mutual
def uptoBulk {H : Type} : DataW H → Nat
  | .lit (.string bytes) => bytes.length + 1
  | .lit _ => 1
  | .nil => 1
  | .ptr d => uptoBulk d + 1
  | .slice elems spare => uptoBulkAll elems + uptoBulkAll spare + 1
  | .agg parts => uptoBulkAll parts + 1
  | .iface _ d => uptoBulk d + 1
  | .map entries => uptoBulkEntries entries + 1
  | .held _ => 1
def uptoBulkAll {H : Type} : List (DataW H) → Nat
  | [] => 0
  | d :: r => uptoBulk d + uptoBulkAll r
def uptoBulkEntries {H : Type} : List (Lit × DataW H) → Nat
  | [] => 0
  | x :: r => uptoBulkEntry x + uptoBulkEntries r
def uptoBulkEntry {H : Type} : Lit × DataW H → Nat
  | (.string bytes, d) => bytes.length + uptoBulk d + 1
  | (_, d) => uptoBulk d + 1
 end
def uptoSmall : (H : Type) → List (DataW H) → Bool := fun _ ds => decide (uptoBulkAll ds ≤ 1048576)
def OpenSpec.upto (s : _root_.Go.ChangeSpec) : _root_.Go.OpenSpec := { _root_.Go.OpenSpec.ofChange s with cond := some uptoSmall }

/-- 'hocketlaw1.CrcsForms', WHERE WHAT IT READS IS OF BULK AT MOST 1048576: true; the input reads as it did. -/
def crcsFormsUptoRow : OpenClaim := { program := "ytggjnjckhhkniaa", sum := "049629922f335f0cafa680be95e21ef7c6aef12e654a1e720077a79998b4a0a6", func := "hocket/hocketlaw1.CrcsForms", spec := "crcsForms", apart := false, narrowed := true }
def CrcsFormsUptoSaid : Prop := crcsFormsUptoRow.holds Try.pinned (OpenSpec.upto crcsFormsSpec)

/-- 'hocketlaw1.CrcsLinear', WHERE WHAT IT READS IS OF BULK AT MOST 1048576: true; the input reads as it did. -/
def crcsLinearUptoRow : OpenClaim := { program := "ytggjnjckhhkniaa", sum := "049629922f335f0cafa680be95e21ef7c6aef12e654a1e720077a79998b4a0a6", func := "hocket/hocketlaw1.CrcsLinear", spec := "crcsLinear", apart := false, narrowed := true }
def CrcsLinearUptoSaid : Prop := crcsLinearUptoRow.holds Try.pinned (OpenSpec.upto crcsLinearSpec)

/-- 'hocketlaw1.CrcsTells', WHERE WHAT IT READS IS OF BULK AT MOST 1048576: true; the input reads as it did. -/
def crcsTellsUptoRow : OpenClaim := { program := "ytggjnjckhhkniaa", sum := "049629922f335f0cafa680be95e21ef7c6aef12e654a1e720077a79998b4a0a6", func := "hocket/hocketlaw1.CrcsTells", spec := "crcsTells", apart := false, narrowed := true }
def CrcsTellsUptoSaid : Prop := crcsTellsUptoRow.holds Try.pinned (OpenSpec.upto crcsTellsSpec)

/-- 'hocketlaw1.CrcsTurned', WHERE WHAT IT READS IS OF BULK AT MOST 1048576: true; the input reads as it did. -/
def crcsTurnedUptoRow : OpenClaim := { program := "ytggjnjckhhkniaa", sum := "049629922f335f0cafa680be95e21ef7c6aef12e654a1e720077a79998b4a0a6", func := "hocket/hocketlaw1.CrcsTurned", spec := "crcsTurned", apart := false, narrowed := true }
def CrcsTurnedUptoSaid : Prop := crcsTurnedUptoRow.holds Try.pinned (OpenSpec.upto crcsTurnedSpec)

/-- 'hocketlaw1.CrcsSteps', WHERE WHAT IT READS IS OF BULK AT MOST 1048576: true; the input reads as it did. -/
def crcsStepsUptoRow : OpenClaim := { program := "ytggjnjckhhkniaa", sum := "049629922f335f0cafa680be95e21ef7c6aef12e654a1e720077a79998b4a0a6", func := "hocket/hocketlaw1.CrcsSteps", spec := "crcsSteps", apart := false, narrowed := true }
def CrcsStepsUptoSaid : Prop := crcsStepsUptoRow.holds Try.pinned (OpenSpec.upto crcsStepsSpec)

end Rows
end Go.Proofs.Ytggjnjckhhkniaa
