/- The numbers' row, and the text of an error, walked. -/
import Derived.Test.YtenphdolgogloaaDoorProg
import Derived.Below
import Derived.Deep.Draws
import Derived.Deep.AppendLies
import Derived.Maps.AppendAt
import Derived.OwnWalk
import Derived.Laws.BytesArg
import Derived.Laws.MakeOwn
import Derived.Laws.OwnMore
import Derived.Deep.OwnRows
import Derived.Tactics
import Derived.Lib.ConvBytes
import Derived.Laws.Slices
import Derived.WalkKit
import Derived.KernelRfl
import Derived.RowKit3
import Derived.Deep.LoopGhost
import Derived.Deep.QuietTactic
import Derived.BigQuiet
import Derived.WideLaws
import Derived.Deep.DeepCutAuto
import Derived.Deep.CutBlock
import Derived.Deep.RegionHeld3
import Derived.Laws.Rows
import Derived.Lib.AppendStr
import Derived.ArgAppend
import Derived.Laws.IdiomCopy
import Derived.OrdersHeld
import Derived.Laws.BitsLemmas
import Derived.RowKit
import Derived.Test.YtenphdolgogloaaDoorWWords
import Derived.Test.YtenphdolgogloaaDoorWLast
import Derived.Test.YtenphdolgogloaaDoorWTab
import Derived.Test.YtenphdolgogloaaDoorWFour
import Derived.Test.YtenphdolgogloaaDoorWQPut
import Derived.Test.YtenphdolgogloaaDoorWApart
import Derived.Test.YtenphdolgogloaaDoorWArr
import Derived.Test.YtenphdolgogloaaDoorWZeros
import Derived.Test.YtenphdolgogloaaDoorWFoot
import Derived.Test.YtenphdolgogloaaDoorWKept
import Derived.Test.YtenphdolgogloaaDoorWShare
import Derived.Test.YtenphdolgogloaaDoorWN
import Derived.Test.YtenphdolgogloaaDoorWFootNe
import Derived.Test.YtenphdolgogloaaDoorWAt
import Derived.Test.YtenphdolgogloaaDoorWEqStruct
import Derived.Test.YtenphdolgogloaaDoorWRepsOne
import Derived.Test.YtenphdolgogloaaDoorWInv
import Derived.Test.YtenphdolgogloaaDoorWInvWords
import Derived.Test.YtenphdolgogloaaDoorWGuard
import Derived.Test.YtenphdolgogloaaDoorWNEv
import Derived.Test.YtenphdolgogloaaDoorWMore
import Derived.Outline
import Derived.Great.Walk
import Derived.Great.BuildSlice
import Derived.Lib.SlBytesConst
namespace Go.Proofs.YtenphdolgogloaaDoor.Na
open Go.RowKit Go.Proofs.YtenphdolgogloaaDoorW.PrintWords Go.Proofs.YtenphdolgogloaaDoorW.PrintLast Go.Proofs.YtenphdolgogloaaDoorW.PrintMore
attribute [local go_sem] max2_int min2_int max_two min_two max_three min_three max_four min_four
set_option linter.unusedVariables false
set_option linter.unusedSimpArgs false

def numL : List Int := [0, 1, 2, 3, 4, 5, 6, 7, 8, 9, 10, 11, 12, 13, 7, 16, 8, 8, 8, 5, 8, 8, 200, 1, 2, 3, 4, 5, 6, 7, 8, 9, 10, 11, 0, 1, 2, 1, 2, 3, 4, 5, 6, 7, 8, 1, 2, 3, 4, 5, 6, 1, 2, 3, 4, 5, 6, 7, 8, 9, 10, 11, 1, 2]
def rowOf : List Int → List Value
  | [] => []
  | a :: l => .int .i64 a :: .int .i64 a :: rowOf l
theorem row_at (l : List Int) (j : Nat) (h : j < l.length) : (rowOf l)[j * 2]? = some (.int .i64 l[j]) ∧ (rowOf l)[j * 2 + 1]? = some (.int .i64 l[j]) := by
  induction l generalizing j with
  | nil => simp at h
  | cons a l ih =>
    cases j with
    | zero => exact ⟨rfl, rfl⟩
    | succ j =>
      have h' : j < l.length := by simpa using h
      obtain ⟨h1, h2⟩ := ih j h'
      have e1 : (j + 1) * 2 = j * 2 + 1 + 1 := by omega
      rw [e1]
      exact ⟨h1, h2⟩
theorem heap_alloc_self (w : World) (o : Obj) : (w.alloc o).heap[w.heap.size]? = some o := by
  show (w.heap.push o)[w.heap.size]? = some o
  simp
set_option maxHeartbeats 4000000 in
set_option maxRecDepth 100000 in
theorem all4 (w : World) : Calls Tryd.prog 4 #[] w fun e w' => e = .returned (.slice (some ⟨w.heap.size, 0, none⟩) 64 64) ∧ w'.heap[w.heap.size]? = some (.cells (rowOf numL).toArray 25 (0, 0)) ∧ Below w.heap.size w w' := by
  go_enter Tryd.func4, Tryd.ntmps4
  go_wp2_with ((with_reducible refine gate_dst (N := 65) rfl ?_); refine Great.wpList_buildSliceTo rfl 22 25 64 _ rfl w.heap.size rfl (some 65) rfl Tryd.underlying22 (rowOf numL).toArray (by kernel_rfl) ?_)
  go_ret
  exact ⟨rfl, heap_alloc_self _ _, below_alloc (Below.refl _ _) _⟩
def t13 : ByteArray := ⟨#[49, 51]⟩
set_option maxHeartbeats 1000000 in
set_option maxRecDepth 100000 in
theorem small11 (w : World) : Calls Tryd.prog 11 #[.int .i64 13] w fun e w' => e = .returned (.string t13) ∧ Below w.heap.size w w' := by
  go_enter Tryd.func11, Tryd.ntmps11
  go_wp2_with fail
  go_ret
  exact ⟨congrArg (fun s => Ending.returned (Value.string s)) (by decide +kernel), Below.refl _ _⟩
set_option maxHeartbeats 1000000 in
theorem format10 (w : World) : Calls Tryd.prog 10 #[.int .i64 13, .int .i64 10] w fun e w' => e = .returned (.string t13) ∧ Below w.heap.size w w' := by
  go_enter Tryd.func10, Tryd.ntmps10
  go_wp2_with fail
  refine (small11 _).mono ?_
  rintro e w1 ⟨rfl, hb⟩
  go_wp2_with fail
  go_ret
  exact ⟨rfl, hb⟩
set_option maxHeartbeats 1000000 in
theorem itoa9 (w : World) : Calls Tryd.prog 9 #[.int .i64 13] w fun e w' => e = .returned (.string t13) ∧ Below w.heap.size w w' := by
  go_enter Tryd.func9, Tryd.ntmps9
  go_wp2_with fail
  refine (format10 _).mono ?_
  rintro e w1 ⟨rfl, hb⟩
  go_wp2_with fail
  go_ret
  exact ⟨rfl, hb⟩
set_option maxHeartbeats 1000000 in
theorem itoa7 (w : World) : Calls Tryd.prog 7 #[.int .i64 13] w fun e w' => e = .returned (.string t13) ∧ Below w.heap.size w w' := by
  go_enter Tryd.func7, Tryd.ntmps7
  go_wp2_with fail
  refine (itoa9 _).mono ?_
  rintro e w1 ⟨rfl, hb⟩
  go_wp2_with fail
  go_ret
  exact ⟨rfl, hb⟩
set_option maxHeartbeats 1000000 in
theorem error5 (w : World) : Calls Tryd.prog 5 #[.int .i64 13] w fun e w' => e = .returned (.string ⟨#[101, 114, 114, 111, 114, 32, 49, 51]⟩) ∧ Below w.heap.size w w' := by
  go_enter Tryd.func5, Tryd.ntmps5
  go_wp2_with fail
  refine (itoa7 _).mono ?_
  rintro e w1 ⟨rfl, hb⟩
  go_wp2_with fail
  go_ret
  exact ⟨rfl, hb⟩

end Go.Proofs.YtenphdolgogloaaDoor.Na
