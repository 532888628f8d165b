/- SessBad: sessions and numbers that are none are told, ahead of all else; those at the bounds are some: for every whole number, with no condition. -/
import Derived.Lib.SliceRun
import Derived.Outline
import Derived.Test.YtjpgnipjgonplaaRows
import Derived.WalkKit
import Derived.ProofKit
import Derived.OpenShut
import Derived.ShutString
import Derived.ChangeOld
import Derived.Below
import Derived.SizedLaws
import Derived.Test.YtjpgnipjgonplaaSf
namespace Go.Proofs.Ytjpgnipjgonplaa.Ss
open Go.RowKit Go.Proofs.YtjpgnipjgonplaaW.PrintWords Go.Proofs.YtjpgnipjgonplaaW.PrintLast Go.Proofs.YtjpgnipjgonplaaW.PrintMore
attribute [local go_sem] max2_int min2_int max_two min_two max_three min_three max_four min_four
set_option linter.unusedVariables false
set_option linter.unusedSimpArgs false

theorem look_nil (s q : Int) (r : S26) (k : Int) (W : World) (h : lookR [] s q = (r, k)) (hv : r.f1 = []) :
    Calls Try.prog 8 #[.slice none 0 0, .int .i64 s, .int .i64 q] W fun e w' => ∃ A1 c1, e = .returned (.tuple #[.agg #[.int .i64 r.f0, .slice A1 0 c1, .int .i64 r.f2], .int .i64 k]) ∧ Below W.heap.size W w' := by
  have h1 := look8 none 0 [] s q W ⟨rfl, by decide, fun h => absurd h (by decide)⟩ (Nat.le_refl _) (fun x hx => by simp at hx)
  rw [h, hv] at h1
  refine h1.mono ?_
  rintro e w' ⟨v, rfl, hR, hb⟩
  obtain ⟨A1, c1, rfl⟩ := Kd.R_slice hR
  exact ⟨A1, c1, rfl, hb⟩

theorem bad_look0 : lookR [] (1) (1) = (⟨0, [], 0⟩, 0) := by kernel_rfl
set_option maxHeartbeats 1000000 in
theorem bad_0 (which : Int) (w : World) (hj : Int.tmod (Go.bits .and .i64 which 255) 9 = 0) :
    Calls Try.prog 4 #[.int .i64 which] w fun e w' => e = .returned (.bool true) ∧ Below w.heap.size w w' := by
  go_enter Try.func4, Try.ntmps4
  go_wp2_with fail
  have hk : ((w.alloc (.cells #[.int .i64 (1), .int .i64 (1), .bool true, .int .i64 (1073741824), .int .i64 (1073741824), .bool true, .int .i64 (0), .int .i64 (1), .bool false, .int .i64 (1), .int .i64 (0), .bool false, .int .i64 (-1), .int .i64 (1), .bool false, .int .i64 (1), .int .i64 (-1), .bool false, .int .i64 (1073741825), .int .i64 (1), .bool false, .int .i64 (1), .int .i64 (1073741825), .bool false, .int .i64 (-9223372036854775808), .int .i64 (9223372036854775807), .bool false] 34)).alloc (.cells #[.int .i64 (1), .int .i64 (1), .bool true] 34)).heap[w.heap.size + 1]? = some (.cells #[.int .i64 (1), .int .i64 (1), .bool true] 34 (0, 0)) := by
    have := heap_alloc_self (w.alloc (.cells #[.int .i64 (1), .int .i64 (1), .bool true, .int .i64 (1073741824), .int .i64 (1073741824), .bool true, .int .i64 (0), .int .i64 (1), .bool false, .int .i64 (1), .int .i64 (0), .bool false, .int .i64 (-1), .int .i64 (1), .bool false, .int .i64 (1), .int .i64 (-1), .bool false, .int .i64 (1073741825), .int .i64 (1), .bool false, .int .i64 (1), .int .i64 (1073741825), .bool false, .int .i64 (-9223372036854775808), .int .i64 (9223372036854775807), .bool false] 34)) (.cells #[.int .i64 (1), .int .i64 (1), .bool true] 34)
    simpa using this
  have hb : Below w.heap.size w ((w.alloc (.cells #[.int .i64 (1), .int .i64 (1), .bool true, .int .i64 (1073741824), .int .i64 (1073741824), .bool true, .int .i64 (0), .int .i64 (1), .bool false, .int .i64 (1), .int .i64 (0), .bool false, .int .i64 (-1), .int .i64 (1), .bool false, .int .i64 (1), .int .i64 (-1), .bool false, .int .i64 (1073741825), .int .i64 (1), .bool false, .int .i64 (1), .int .i64 (1073741825), .bool false, .int .i64 (-9223372036854775808), .int .i64 (9223372036854775807), .bool false] 34)).alloc (.cells #[.int .i64 (1), .int .i64 (1), .bool true] 34)) := below_alloc (below_alloc (Below.refl _ _) _) _
  generalize (w.alloc (.cells #[.int .i64 (1), .int .i64 (1), .bool true, .int .i64 (1073741824), .int .i64 (1073741824), .bool true, .int .i64 (0), .int .i64 (1), .bool false, .int .i64 (1), .int .i64 (0), .bool false, .int .i64 (-1), .int .i64 (1), .bool false, .int .i64 (1), .int .i64 (-1), .bool false, .int .i64 (1073741825), .int .i64 (1), .bool false, .int .i64 (1), .int .i64 (1073741825), .bool false, .int .i64 (-9223372036854775808), .int .i64 (9223372036854775807), .bool false] 34)).alloc (.cells #[.int .i64 (1), .int .i64 (1), .bool true] 34) = W at hk hb ⊢
  refine (look_nil (1) (1) _ 0 W bad_look0 rfl).mono ?_
  rintro e w1 ⟨A1, c1, rfl, hb1⟩
  obtain ⟨x0, x1, x2, x3⟩ := blk_cells3 (blk3_keep hk (below_alloc hb1 (.cells #[.int .i64 0, .slice A1 0 c1, .int .i64 0] 26)))
  have HB := Aside0.mk (below_alloc (below_then hb hb.size hb1) (.cells #[.int .i64 0, .slice A1 0 c1, .int .i64 0] 26))
  clear hk hb hb1 x0 x1 x3
  go_wp2_with fail
  refine (awake10 _).mono ?_
  rintro e w2 ⟨rfl, hb2⟩
  have HB2 := Aside0.mk (below_then HB.out HB.out.size hb2)
  clear hb2
  go_wp2_with fail
  go_ret
  exact ⟨rfl, HB2.out⟩

theorem bad_look1 : lookR [] (1073741824) (1073741824) = (⟨0, [], 0⟩, 0) := by kernel_rfl
set_option maxHeartbeats 1000000 in
theorem bad_1 (which : Int) (w : World) (hj : Int.tmod (Go.bits .and .i64 which 255) 9 = 1) :
    Calls Try.prog 4 #[.int .i64 which] w fun e w' => e = .returned (.bool true) ∧ Below w.heap.size w w' := by
  go_enter Try.func4, Try.ntmps4
  go_wp2_with fail
  have hk : ((w.alloc (.cells #[.int .i64 (1), .int .i64 (1), .bool true, .int .i64 (1073741824), .int .i64 (1073741824), .bool true, .int .i64 (0), .int .i64 (1), .bool false, .int .i64 (1), .int .i64 (0), .bool false, .int .i64 (-1), .int .i64 (1), .bool false, .int .i64 (1), .int .i64 (-1), .bool false, .int .i64 (1073741825), .int .i64 (1), .bool false, .int .i64 (1), .int .i64 (1073741825), .bool false, .int .i64 (-9223372036854775808), .int .i64 (9223372036854775807), .bool false] 34)).alloc (.cells #[.int .i64 (1073741824), .int .i64 (1073741824), .bool true] 34)).heap[w.heap.size + 1]? = some (.cells #[.int .i64 (1073741824), .int .i64 (1073741824), .bool true] 34 (0, 0)) := by
    have := heap_alloc_self (w.alloc (.cells #[.int .i64 (1), .int .i64 (1), .bool true, .int .i64 (1073741824), .int .i64 (1073741824), .bool true, .int .i64 (0), .int .i64 (1), .bool false, .int .i64 (1), .int .i64 (0), .bool false, .int .i64 (-1), .int .i64 (1), .bool false, .int .i64 (1), .int .i64 (-1), .bool false, .int .i64 (1073741825), .int .i64 (1), .bool false, .int .i64 (1), .int .i64 (1073741825), .bool false, .int .i64 (-9223372036854775808), .int .i64 (9223372036854775807), .bool false] 34)) (.cells #[.int .i64 (1073741824), .int .i64 (1073741824), .bool true] 34)
    simpa using this
  have hb : Below w.heap.size w ((w.alloc (.cells #[.int .i64 (1), .int .i64 (1), .bool true, .int .i64 (1073741824), .int .i64 (1073741824), .bool true, .int .i64 (0), .int .i64 (1), .bool false, .int .i64 (1), .int .i64 (0), .bool false, .int .i64 (-1), .int .i64 (1), .bool false, .int .i64 (1), .int .i64 (-1), .bool false, .int .i64 (1073741825), .int .i64 (1), .bool false, .int .i64 (1), .int .i64 (1073741825), .bool false, .int .i64 (-9223372036854775808), .int .i64 (9223372036854775807), .bool false] 34)).alloc (.cells #[.int .i64 (1073741824), .int .i64 (1073741824), .bool true] 34)) := below_alloc (below_alloc (Below.refl _ _) _) _
  generalize (w.alloc (.cells #[.int .i64 (1), .int .i64 (1), .bool true, .int .i64 (1073741824), .int .i64 (1073741824), .bool true, .int .i64 (0), .int .i64 (1), .bool false, .int .i64 (1), .int .i64 (0), .bool false, .int .i64 (-1), .int .i64 (1), .bool false, .int .i64 (1), .int .i64 (-1), .bool false, .int .i64 (1073741825), .int .i64 (1), .bool false, .int .i64 (1), .int .i64 (1073741825), .bool false, .int .i64 (-9223372036854775808), .int .i64 (9223372036854775807), .bool false] 34)).alloc (.cells #[.int .i64 (1073741824), .int .i64 (1073741824), .bool true] 34) = W at hk hb ⊢
  refine (look_nil (1073741824) (1073741824) _ 0 W bad_look1 rfl).mono ?_
  rintro e w1 ⟨A1, c1, rfl, hb1⟩
  obtain ⟨x0, x1, x2, x3⟩ := blk_cells3 (blk3_keep hk (below_alloc hb1 (.cells #[.int .i64 0, .slice A1 0 c1, .int .i64 0] 26)))
  have HB := Aside0.mk (below_alloc (below_then hb hb.size hb1) (.cells #[.int .i64 0, .slice A1 0 c1, .int .i64 0] 26))
  clear hk hb hb1 x0 x1 x3
  go_wp2_with fail
  refine (awake10 _).mono ?_
  rintro e w2 ⟨rfl, hb2⟩
  have HB2 := Aside0.mk (below_then HB.out HB.out.size hb2)
  clear hb2
  go_wp2_with fail
  go_ret
  exact ⟨rfl, HB2.out⟩

theorem bad_look2 : lookR [] (0) (1) = (⟨10, [], 0⟩, 2) := by kernel_rfl
set_option maxHeartbeats 1000000 in
theorem bad_2 (which : Int) (w : World) (hj : Int.tmod (Go.bits .and .i64 which 255) 9 = 2) :
    Calls Try.prog 4 #[.int .i64 which] w fun e w' => e = .returned (.bool true) ∧ Below w.heap.size w w' := by
  go_enter Try.func4, Try.ntmps4
  go_wp2_with fail
  have hk : ((w.alloc (.cells #[.int .i64 (1), .int .i64 (1), .bool true, .int .i64 (1073741824), .int .i64 (1073741824), .bool true, .int .i64 (0), .int .i64 (1), .bool false, .int .i64 (1), .int .i64 (0), .bool false, .int .i64 (-1), .int .i64 (1), .bool false, .int .i64 (1), .int .i64 (-1), .bool false, .int .i64 (1073741825), .int .i64 (1), .bool false, .int .i64 (1), .int .i64 (1073741825), .bool false, .int .i64 (-9223372036854775808), .int .i64 (9223372036854775807), .bool false] 34)).alloc (.cells #[.int .i64 (0), .int .i64 (1), .bool false] 34)).heap[w.heap.size + 1]? = some (.cells #[.int .i64 (0), .int .i64 (1), .bool false] 34 (0, 0)) := by
    have := heap_alloc_self (w.alloc (.cells #[.int .i64 (1), .int .i64 (1), .bool true, .int .i64 (1073741824), .int .i64 (1073741824), .bool true, .int .i64 (0), .int .i64 (1), .bool false, .int .i64 (1), .int .i64 (0), .bool false, .int .i64 (-1), .int .i64 (1), .bool false, .int .i64 (1), .int .i64 (-1), .bool false, .int .i64 (1073741825), .int .i64 (1), .bool false, .int .i64 (1), .int .i64 (1073741825), .bool false, .int .i64 (-9223372036854775808), .int .i64 (9223372036854775807), .bool false] 34)) (.cells #[.int .i64 (0), .int .i64 (1), .bool false] 34)
    simpa using this
  have hb : Below w.heap.size w ((w.alloc (.cells #[.int .i64 (1), .int .i64 (1), .bool true, .int .i64 (1073741824), .int .i64 (1073741824), .bool true, .int .i64 (0), .int .i64 (1), .bool false, .int .i64 (1), .int .i64 (0), .bool false, .int .i64 (-1), .int .i64 (1), .bool false, .int .i64 (1), .int .i64 (-1), .bool false, .int .i64 (1073741825), .int .i64 (1), .bool false, .int .i64 (1), .int .i64 (1073741825), .bool false, .int .i64 (-9223372036854775808), .int .i64 (9223372036854775807), .bool false] 34)).alloc (.cells #[.int .i64 (0), .int .i64 (1), .bool false] 34)) := below_alloc (below_alloc (Below.refl _ _) _) _
  generalize (w.alloc (.cells #[.int .i64 (1), .int .i64 (1), .bool true, .int .i64 (1073741824), .int .i64 (1073741824), .bool true, .int .i64 (0), .int .i64 (1), .bool false, .int .i64 (1), .int .i64 (0), .bool false, .int .i64 (-1), .int .i64 (1), .bool false, .int .i64 (1), .int .i64 (-1), .bool false, .int .i64 (1073741825), .int .i64 (1), .bool false, .int .i64 (1), .int .i64 (1073741825), .bool false, .int .i64 (-9223372036854775808), .int .i64 (9223372036854775807), .bool false] 34)).alloc (.cells #[.int .i64 (0), .int .i64 (1), .bool false] 34) = W at hk hb ⊢
  refine (look_nil (0) (1) _ 2 W bad_look2 rfl).mono ?_
  rintro e w1 ⟨A1, c1, rfl, hb1⟩
  obtain ⟨x0, x1, x2, x3⟩ := blk_cells3 (blk3_keep hk (below_alloc hb1 (.cells #[.int .i64 10, .slice A1 0 c1, .int .i64 0] 26)))
  have HB := Aside0.mk (below_alloc (below_then hb hb.size hb1) (.cells #[.int .i64 10, .slice A1 0 c1, .int .i64 0] 26))
  clear hk hb hb1 x0 x1 x3
  go_wp2_with fail
  refine (awake10 _).mono ?_
  rintro e w2 ⟨rfl, hb2⟩
  have HB2 := Aside0.mk (below_then HB.out HB.out.size hb2)
  clear hb2
  go_wp2_with fail
  go_ret
  exact ⟨rfl, HB2.out⟩

theorem bad_look3 : lookR [] (1) (0) = (⟨10, [], 0⟩, 2) := by kernel_rfl
set_option maxHeartbeats 1000000 in
theorem bad_3 (which : Int) (w : World) (hj : Int.tmod (Go.bits .and .i64 which 255) 9 = 3) :
    Calls Try.prog 4 #[.int .i64 which] w fun e w' => e = .returned (.bool true) ∧ Below w.heap.size w w' := by
  go_enter Try.func4, Try.ntmps4
  go_wp2_with fail
  have hk : ((w.alloc (.cells #[.int .i64 (1), .int .i64 (1), .bool true, .int .i64 (1073741824), .int .i64 (1073741824), .bool true, .int .i64 (0), .int .i64 (1), .bool false, .int .i64 (1), .int .i64 (0), .bool false, .int .i64 (-1), .int .i64 (1), .bool false, .int .i64 (1), .int .i64 (-1), .bool false, .int .i64 (1073741825), .int .i64 (1), .bool false, .int .i64 (1), .int .i64 (1073741825), .bool false, .int .i64 (-9223372036854775808), .int .i64 (9223372036854775807), .bool false] 34)).alloc (.cells #[.int .i64 (1), .int .i64 (0), .bool false] 34)).heap[w.heap.size + 1]? = some (.cells #[.int .i64 (1), .int .i64 (0), .bool false] 34 (0, 0)) := by
    have := heap_alloc_self (w.alloc (.cells #[.int .i64 (1), .int .i64 (1), .bool true, .int .i64 (1073741824), .int .i64 (1073741824), .bool true, .int .i64 (0), .int .i64 (1), .bool false, .int .i64 (1), .int .i64 (0), .bool false, .int .i64 (-1), .int .i64 (1), .bool false, .int .i64 (1), .int .i64 (-1), .bool false, .int .i64 (1073741825), .int .i64 (1), .bool false, .int .i64 (1), .int .i64 (1073741825), .bool false, .int .i64 (-9223372036854775808), .int .i64 (9223372036854775807), .bool false] 34)) (.cells #[.int .i64 (1), .int .i64 (0), .bool false] 34)
    simpa using this
  have hb : Below w.heap.size w ((w.alloc (.cells #[.int .i64 (1), .int .i64 (1), .bool true, .int .i64 (1073741824), .int .i64 (1073741824), .bool true, .int .i64 (0), .int .i64 (1), .bool false, .int .i64 (1), .int .i64 (0), .bool false, .int .i64 (-1), .int .i64 (1), .bool false, .int .i64 (1), .int .i64 (-1), .bool false, .int .i64 (1073741825), .int .i64 (1), .bool false, .int .i64 (1), .int .i64 (1073741825), .bool false, .int .i64 (-9223372036854775808), .int .i64 (9223372036854775807), .bool false] 34)).alloc (.cells #[.int .i64 (1), .int .i64 (0), .bool false] 34)) := below_alloc (below_alloc (Below.refl _ _) _) _
  generalize (w.alloc (.cells #[.int .i64 (1), .int .i64 (1), .bool true, .int .i64 (1073741824), .int .i64 (1073741824), .bool true, .int .i64 (0), .int .i64 (1), .bool false, .int .i64 (1), .int .i64 (0), .bool false, .int .i64 (-1), .int .i64 (1), .bool false, .int .i64 (1), .int .i64 (-1), .bool false, .int .i64 (1073741825), .int .i64 (1), .bool false, .int .i64 (1), .int .i64 (1073741825), .bool false, .int .i64 (-9223372036854775808), .int .i64 (9223372036854775807), .bool false] 34)).alloc (.cells #[.int .i64 (1), .int .i64 (0), .bool false] 34) = W at hk hb ⊢
  refine (look_nil (1) (0) _ 2 W bad_look3 rfl).mono ?_
  rintro e w1 ⟨A1, c1, rfl, hb1⟩
  obtain ⟨x0, x1, x2, x3⟩ := blk_cells3 (blk3_keep hk (below_alloc hb1 (.cells #[.int .i64 10, .slice A1 0 c1, .int .i64 0] 26)))
  have HB := Aside0.mk (below_alloc (below_then hb hb.size hb1) (.cells #[.int .i64 10, .slice A1 0 c1, .int .i64 0] 26))
  clear hk hb hb1 x0 x1 x3
  go_wp2_with fail
  refine (awake10 _).mono ?_
  rintro e w2 ⟨rfl, hb2⟩
  have HB2 := Aside0.mk (below_then HB.out HB.out.size hb2)
  clear hb2
  go_wp2_with fail
  go_ret
  exact ⟨rfl, HB2.out⟩

theorem bad_look4 : lookR [] (-1) (1) = (⟨10, [], 0⟩, 2) := by kernel_rfl
set_option maxHeartbeats 1000000 in
theorem bad_4 (which : Int) (w : World) (hj : Int.tmod (Go.bits .and .i64 which 255) 9 = 4) :
    Calls Try.prog 4 #[.int .i64 which] w fun e w' => e = .returned (.bool true) ∧ Below w.heap.size w w' := by
  go_enter Try.func4, Try.ntmps4
  go_wp2_with fail
  have hk : ((w.alloc (.cells #[.int .i64 (1), .int .i64 (1), .bool true, .int .i64 (1073741824), .int .i64 (1073741824), .bool true, .int .i64 (0), .int .i64 (1), .bool false, .int .i64 (1), .int .i64 (0), .bool false, .int .i64 (-1), .int .i64 (1), .bool false, .int .i64 (1), .int .i64 (-1), .bool false, .int .i64 (1073741825), .int .i64 (1), .bool false, .int .i64 (1), .int .i64 (1073741825), .bool false, .int .i64 (-9223372036854775808), .int .i64 (9223372036854775807), .bool false] 34)).alloc (.cells #[.int .i64 (-1), .int .i64 (1), .bool false] 34)).heap[w.heap.size + 1]? = some (.cells #[.int .i64 (-1), .int .i64 (1), .bool false] 34 (0, 0)) := by
    have := heap_alloc_self (w.alloc (.cells #[.int .i64 (1), .int .i64 (1), .bool true, .int .i64 (1073741824), .int .i64 (1073741824), .bool true, .int .i64 (0), .int .i64 (1), .bool false, .int .i64 (1), .int .i64 (0), .bool false, .int .i64 (-1), .int .i64 (1), .bool false, .int .i64 (1), .int .i64 (-1), .bool false, .int .i64 (1073741825), .int .i64 (1), .bool false, .int .i64 (1), .int .i64 (1073741825), .bool false, .int .i64 (-9223372036854775808), .int .i64 (9223372036854775807), .bool false] 34)) (.cells #[.int .i64 (-1), .int .i64 (1), .bool false] 34)
    simpa using this
  have hb : Below w.heap.size w ((w.alloc (.cells #[.int .i64 (1), .int .i64 (1), .bool true, .int .i64 (1073741824), .int .i64 (1073741824), .bool true, .int .i64 (0), .int .i64 (1), .bool false, .int .i64 (1), .int .i64 (0), .bool false, .int .i64 (-1), .int .i64 (1), .bool false, .int .i64 (1), .int .i64 (-1), .bool false, .int .i64 (1073741825), .int .i64 (1), .bool false, .int .i64 (1), .int .i64 (1073741825), .bool false, .int .i64 (-9223372036854775808), .int .i64 (9223372036854775807), .bool false] 34)).alloc (.cells #[.int .i64 (-1), .int .i64 (1), .bool false] 34)) := below_alloc (below_alloc (Below.refl _ _) _) _
  generalize (w.alloc (.cells #[.int .i64 (1), .int .i64 (1), .bool true, .int .i64 (1073741824), .int .i64 (1073741824), .bool true, .int .i64 (0), .int .i64 (1), .bool false, .int .i64 (1), .int .i64 (0), .bool false, .int .i64 (-1), .int .i64 (1), .bool false, .int .i64 (1), .int .i64 (-1), .bool false, .int .i64 (1073741825), .int .i64 (1), .bool false, .int .i64 (1), .int .i64 (1073741825), .bool false, .int .i64 (-9223372036854775808), .int .i64 (9223372036854775807), .bool false] 34)).alloc (.cells #[.int .i64 (-1), .int .i64 (1), .bool false] 34) = W at hk hb ⊢
  refine (look_nil (-1) (1) _ 2 W bad_look4 rfl).mono ?_
  rintro e w1 ⟨A1, c1, rfl, hb1⟩
  obtain ⟨x0, x1, x2, x3⟩ := blk_cells3 (blk3_keep hk (below_alloc hb1 (.cells #[.int .i64 10, .slice A1 0 c1, .int .i64 0] 26)))
  have HB := Aside0.mk (below_alloc (below_then hb hb.size hb1) (.cells #[.int .i64 10, .slice A1 0 c1, .int .i64 0] 26))
  clear hk hb hb1 x0 x1 x3
  go_wp2_with fail
  refine (awake10 _).mono ?_
  rintro e w2 ⟨rfl, hb2⟩
  have HB2 := Aside0.mk (below_then HB.out HB.out.size hb2)
  clear hb2
  go_wp2_with fail
  go_ret
  exact ⟨rfl, HB2.out⟩

theorem bad_look5 : lookR [] (1) (-1) = (⟨10, [], 0⟩, 2) := by kernel_rfl
set_option maxHeartbeats 1000000 in
theorem bad_5 (which : Int) (w : World) (hj : Int.tmod (Go.bits .and .i64 which 255) 9 = 5) :
    Calls Try.prog 4 #[.int .i64 which] w fun e w' => e = .returned (.bool true) ∧ Below w.heap.size w w' := by
  go_enter Try.func4, Try.ntmps4
  go_wp2_with fail
  have hk : ((w.alloc (.cells #[.int .i64 (1), .int .i64 (1), .bool true, .int .i64 (1073741824), .int .i64 (1073741824), .bool true, .int .i64 (0), .int .i64 (1), .bool false, .int .i64 (1), .int .i64 (0), .bool false, .int .i64 (-1), .int .i64 (1), .bool false, .int .i64 (1), .int .i64 (-1), .bool false, .int .i64 (1073741825), .int .i64 (1), .bool false, .int .i64 (1), .int .i64 (1073741825), .bool false, .int .i64 (-9223372036854775808), .int .i64 (9223372036854775807), .bool false] 34)).alloc (.cells #[.int .i64 (1), .int .i64 (-1), .bool false] 34)).heap[w.heap.size + 1]? = some (.cells #[.int .i64 (1), .int .i64 (-1), .bool false] 34 (0, 0)) := by
    have := heap_alloc_self (w.alloc (.cells #[.int .i64 (1), .int .i64 (1), .bool true, .int .i64 (1073741824), .int .i64 (1073741824), .bool true, .int .i64 (0), .int .i64 (1), .bool false, .int .i64 (1), .int .i64 (0), .bool false, .int .i64 (-1), .int .i64 (1), .bool false, .int .i64 (1), .int .i64 (-1), .bool false, .int .i64 (1073741825), .int .i64 (1), .bool false, .int .i64 (1), .int .i64 (1073741825), .bool false, .int .i64 (-9223372036854775808), .int .i64 (9223372036854775807), .bool false] 34)) (.cells #[.int .i64 (1), .int .i64 (-1), .bool false] 34)
    simpa using this
  have hb : Below w.heap.size w ((w.alloc (.cells #[.int .i64 (1), .int .i64 (1), .bool true, .int .i64 (1073741824), .int .i64 (1073741824), .bool true, .int .i64 (0), .int .i64 (1), .bool false, .int .i64 (1), .int .i64 (0), .bool false, .int .i64 (-1), .int .i64 (1), .bool false, .int .i64 (1), .int .i64 (-1), .bool false, .int .i64 (1073741825), .int .i64 (1), .bool false, .int .i64 (1), .int .i64 (1073741825), .bool false, .int .i64 (-9223372036854775808), .int .i64 (9223372036854775807), .bool false] 34)).alloc (.cells #[.int .i64 (1), .int .i64 (-1), .bool false] 34)) := below_alloc (below_alloc (Below.refl _ _) _) _
  generalize (w.alloc (.cells #[.int .i64 (1), .int .i64 (1), .bool true, .int .i64 (1073741824), .int .i64 (1073741824), .bool true, .int .i64 (0), .int .i64 (1), .bool false, .int .i64 (1), .int .i64 (0), .bool false, .int .i64 (-1), .int .i64 (1), .bool false, .int .i64 (1), .int .i64 (-1), .bool false, .int .i64 (1073741825), .int .i64 (1), .bool false, .int .i64 (1), .int .i64 (1073741825), .bool false, .int .i64 (-9223372036854775808), .int .i64 (9223372036854775807), .bool false] 34)).alloc (.cells #[.int .i64 (1), .int .i64 (-1), .bool false] 34) = W at hk hb ⊢
  refine (look_nil (1) (-1) _ 2 W bad_look5 rfl).mono ?_
  rintro e w1 ⟨A1, c1, rfl, hb1⟩
  obtain ⟨x0, x1, x2, x3⟩ := blk_cells3 (blk3_keep hk (below_alloc hb1 (.cells #[.int .i64 10, .slice A1 0 c1, .int .i64 0] 26)))
  have HB := Aside0.mk (below_alloc (below_then hb hb.size hb1) (.cells #[.int .i64 10, .slice A1 0 c1, .int .i64 0] 26))
  clear hk hb hb1 x0 x1 x3
  go_wp2_with fail
  refine (awake10 _).mono ?_
  rintro e w2 ⟨rfl, hb2⟩
  have HB2 := Aside0.mk (below_then HB.out HB.out.size hb2)
  clear hb2
  go_wp2_with fail
  go_ret
  exact ⟨rfl, HB2.out⟩

theorem bad_look6 : lookR [] (1073741825) (1) = (⟨10, [], 0⟩, 2) := by kernel_rfl
set_option maxHeartbeats 1000000 in
theorem bad_6 (which : Int) (w : World) (hj : Int.tmod (Go.bits .and .i64 which 255) 9 = 6) :
    Calls Try.prog 4 #[.int .i64 which] w fun e w' => e = .returned (.bool true) ∧ Below w.heap.size w w' := by
  go_enter Try.func4, Try.ntmps4
  go_wp2_with fail
  have hk : ((w.alloc (.cells #[.int .i64 (1), .int .i64 (1), .bool true, .int .i64 (1073741824), .int .i64 (1073741824), .bool true, .int .i64 (0), .int .i64 (1), .bool false, .int .i64 (1), .int .i64 (0), .bool false, .int .i64 (-1), .int .i64 (1), .bool false, .int .i64 (1), .int .i64 (-1), .bool false, .int .i64 (1073741825), .int .i64 (1), .bool false, .int .i64 (1), .int .i64 (1073741825), .bool false, .int .i64 (-9223372036854775808), .int .i64 (9223372036854775807), .bool false] 34)).alloc (.cells #[.int .i64 (1073741825), .int .i64 (1), .bool false] 34)).heap[w.heap.size + 1]? = some (.cells #[.int .i64 (1073741825), .int .i64 (1), .bool false] 34 (0, 0)) := by
    have := heap_alloc_self (w.alloc (.cells #[.int .i64 (1), .int .i64 (1), .bool true, .int .i64 (1073741824), .int .i64 (1073741824), .bool true, .int .i64 (0), .int .i64 (1), .bool false, .int .i64 (1), .int .i64 (0), .bool false, .int .i64 (-1), .int .i64 (1), .bool false, .int .i64 (1), .int .i64 (-1), .bool false, .int .i64 (1073741825), .int .i64 (1), .bool false, .int .i64 (1), .int .i64 (1073741825), .bool false, .int .i64 (-9223372036854775808), .int .i64 (9223372036854775807), .bool false] 34)) (.cells #[.int .i64 (1073741825), .int .i64 (1), .bool false] 34)
    simpa using this
  have hb : Below w.heap.size w ((w.alloc (.cells #[.int .i64 (1), .int .i64 (1), .bool true, .int .i64 (1073741824), .int .i64 (1073741824), .bool true, .int .i64 (0), .int .i64 (1), .bool false, .int .i64 (1), .int .i64 (0), .bool false, .int .i64 (-1), .int .i64 (1), .bool false, .int .i64 (1), .int .i64 (-1), .bool false, .int .i64 (1073741825), .int .i64 (1), .bool false, .int .i64 (1), .int .i64 (1073741825), .bool false, .int .i64 (-9223372036854775808), .int .i64 (9223372036854775807), .bool false] 34)).alloc (.cells #[.int .i64 (1073741825), .int .i64 (1), .bool false] 34)) := below_alloc (below_alloc (Below.refl _ _) _) _
  generalize (w.alloc (.cells #[.int .i64 (1), .int .i64 (1), .bool true, .int .i64 (1073741824), .int .i64 (1073741824), .bool true, .int .i64 (0), .int .i64 (1), .bool false, .int .i64 (1), .int .i64 (0), .bool false, .int .i64 (-1), .int .i64 (1), .bool false, .int .i64 (1), .int .i64 (-1), .bool false, .int .i64 (1073741825), .int .i64 (1), .bool false, .int .i64 (1), .int .i64 (1073741825), .bool false, .int .i64 (-9223372036854775808), .int .i64 (9223372036854775807), .bool false] 34)).alloc (.cells #[.int .i64 (1073741825), .int .i64 (1), .bool false] 34) = W at hk hb ⊢
  refine (look_nil (1073741825) (1) _ 2 W bad_look6 rfl).mono ?_
  rintro e w1 ⟨A1, c1, rfl, hb1⟩
  obtain ⟨x0, x1, x2, x3⟩ := blk_cells3 (blk3_keep hk (below_alloc hb1 (.cells #[.int .i64 10, .slice A1 0 c1, .int .i64 0] 26)))
  have HB := Aside0.mk (below_alloc (below_then hb hb.size hb1) (.cells #[.int .i64 10, .slice A1 0 c1, .int .i64 0] 26))
  clear hk hb hb1 x0 x1 x3
  go_wp2_with fail
  refine (awake10 _).mono ?_
  rintro e w2 ⟨rfl, hb2⟩
  have HB2 := Aside0.mk (below_then HB.out HB.out.size hb2)
  clear hb2
  go_wp2_with fail
  go_ret
  exact ⟨rfl, HB2.out⟩

theorem bad_look7 : lookR [] (1) (1073741825) = (⟨10, [], 0⟩, 2) := by kernel_rfl
set_option maxHeartbeats 1000000 in
theorem bad_7 (which : Int) (w : World) (hj : Int.tmod (Go.bits .and .i64 which 255) 9 = 7) :
    Calls Try.prog 4 #[.int .i64 which] w fun e w' => e = .returned (.bool true) ∧ Below w.heap.size w w' := by
  go_enter Try.func4, Try.ntmps4
  go_wp2_with fail
  have hk : ((w.alloc (.cells #[.int .i64 (1), .int .i64 (1), .bool true, .int .i64 (1073741824), .int .i64 (1073741824), .bool true, .int .i64 (0), .int .i64 (1), .bool false, .int .i64 (1), .int .i64 (0), .bool false, .int .i64 (-1), .int .i64 (1), .bool false, .int .i64 (1), .int .i64 (-1), .bool false, .int .i64 (1073741825), .int .i64 (1), .bool false, .int .i64 (1), .int .i64 (1073741825), .bool false, .int .i64 (-9223372036854775808), .int .i64 (9223372036854775807), .bool false] 34)).alloc (.cells #[.int .i64 (1), .int .i64 (1073741825), .bool false] 34)).heap[w.heap.size + 1]? = some (.cells #[.int .i64 (1), .int .i64 (1073741825), .bool false] 34 (0, 0)) := by
    have := heap_alloc_self (w.alloc (.cells #[.int .i64 (1), .int .i64 (1), .bool true, .int .i64 (1073741824), .int .i64 (1073741824), .bool true, .int .i64 (0), .int .i64 (1), .bool false, .int .i64 (1), .int .i64 (0), .bool false, .int .i64 (-1), .int .i64 (1), .bool false, .int .i64 (1), .int .i64 (-1), .bool false, .int .i64 (1073741825), .int .i64 (1), .bool false, .int .i64 (1), .int .i64 (1073741825), .bool false, .int .i64 (-9223372036854775808), .int .i64 (9223372036854775807), .bool false] 34)) (.cells #[.int .i64 (1), .int .i64 (1073741825), .bool false] 34)
    simpa using this
  have hb : Below w.heap.size w ((w.alloc (.cells #[.int .i64 (1), .int .i64 (1), .bool true, .int .i64 (1073741824), .int .i64 (1073741824), .bool true, .int .i64 (0), .int .i64 (1), .bool false, .int .i64 (1), .int .i64 (0), .bool false, .int .i64 (-1), .int .i64 (1), .bool false, .int .i64 (1), .int .i64 (-1), .bool false, .int .i64 (1073741825), .int .i64 (1), .bool false, .int .i64 (1), .int .i64 (1073741825), .bool false, .int .i64 (-9223372036854775808), .int .i64 (9223372036854775807), .bool false] 34)).alloc (.cells #[.int .i64 (1), .int .i64 (1073741825), .bool false] 34)) := below_alloc (below_alloc (Below.refl _ _) _) _
  generalize (w.alloc (.cells #[.int .i64 (1), .int .i64 (1), .bool true, .int .i64 (1073741824), .int .i64 (1073741824), .bool true, .int .i64 (0), .int .i64 (1), .bool false, .int .i64 (1), .int .i64 (0), .bool false, .int .i64 (-1), .int .i64 (1), .bool false, .int .i64 (1), .int .i64 (-1), .bool false, .int .i64 (1073741825), .int .i64 (1), .bool false, .int .i64 (1), .int .i64 (1073741825), .bool false, .int .i64 (-9223372036854775808), .int .i64 (9223372036854775807), .bool false] 34)).alloc (.cells #[.int .i64 (1), .int .i64 (1073741825), .bool false] 34) = W at hk hb ⊢
  refine (look_nil (1) (1073741825) _ 2 W bad_look7 rfl).mono ?_
  rintro e w1 ⟨A1, c1, rfl, hb1⟩
  obtain ⟨x0, x1, x2, x3⟩ := blk_cells3 (blk3_keep hk (below_alloc hb1 (.cells #[.int .i64 10, .slice A1 0 c1, .int .i64 0] 26)))
  have HB := Aside0.mk (below_alloc (below_then hb hb.size hb1) (.cells #[.int .i64 10, .slice A1 0 c1, .int .i64 0] 26))
  clear hk hb hb1 x0 x1 x3
  go_wp2_with fail
  refine (awake10 _).mono ?_
  rintro e w2 ⟨rfl, hb2⟩
  have HB2 := Aside0.mk (below_then HB.out HB.out.size hb2)
  clear hb2
  go_wp2_with fail
  go_ret
  exact ⟨rfl, HB2.out⟩

theorem bad_look8 : lookR [] (-9223372036854775808) (9223372036854775807) = (⟨10, [], 0⟩, 2) := by kernel_rfl
set_option maxHeartbeats 1000000 in
theorem bad_8 (which : Int) (w : World) (hj : Int.tmod (Go.bits .and .i64 which 255) 9 = 8) :
    Calls Try.prog 4 #[.int .i64 which] w fun e w' => e = .returned (.bool true) ∧ Below w.heap.size w w' := by
  go_enter Try.func4, Try.ntmps4
  go_wp2_with fail
  have hk : ((w.alloc (.cells #[.int .i64 (1), .int .i64 (1), .bool true, .int .i64 (1073741824), .int .i64 (1073741824), .bool true, .int .i64 (0), .int .i64 (1), .bool false, .int .i64 (1), .int .i64 (0), .bool false, .int .i64 (-1), .int .i64 (1), .bool false, .int .i64 (1), .int .i64 (-1), .bool false, .int .i64 (1073741825), .int .i64 (1), .bool false, .int .i64 (1), .int .i64 (1073741825), .bool false, .int .i64 (-9223372036854775808), .int .i64 (9223372036854775807), .bool false] 34)).alloc (.cells #[.int .i64 (-9223372036854775808), .int .i64 (9223372036854775807), .bool false] 34)).heap[w.heap.size + 1]? = some (.cells #[.int .i64 (-9223372036854775808), .int .i64 (9223372036854775807), .bool false] 34 (0, 0)) := by
    have := heap_alloc_self (w.alloc (.cells #[.int .i64 (1), .int .i64 (1), .bool true, .int .i64 (1073741824), .int .i64 (1073741824), .bool true, .int .i64 (0), .int .i64 (1), .bool false, .int .i64 (1), .int .i64 (0), .bool false, .int .i64 (-1), .int .i64 (1), .bool false, .int .i64 (1), .int .i64 (-1), .bool false, .int .i64 (1073741825), .int .i64 (1), .bool false, .int .i64 (1), .int .i64 (1073741825), .bool false, .int .i64 (-9223372036854775808), .int .i64 (9223372036854775807), .bool false] 34)) (.cells #[.int .i64 (-9223372036854775808), .int .i64 (9223372036854775807), .bool false] 34)
    simpa using this
  have hb : Below w.heap.size w ((w.alloc (.cells #[.int .i64 (1), .int .i64 (1), .bool true, .int .i64 (1073741824), .int .i64 (1073741824), .bool true, .int .i64 (0), .int .i64 (1), .bool false, .int .i64 (1), .int .i64 (0), .bool false, .int .i64 (-1), .int .i64 (1), .bool false, .int .i64 (1), .int .i64 (-1), .bool false, .int .i64 (1073741825), .int .i64 (1), .bool false, .int .i64 (1), .int .i64 (1073741825), .bool false, .int .i64 (-9223372036854775808), .int .i64 (9223372036854775807), .bool false] 34)).alloc (.cells #[.int .i64 (-9223372036854775808), .int .i64 (9223372036854775807), .bool false] 34)) := below_alloc (below_alloc (Below.refl _ _) _) _
  generalize (w.alloc (.cells #[.int .i64 (1), .int .i64 (1), .bool true, .int .i64 (1073741824), .int .i64 (1073741824), .bool true, .int .i64 (0), .int .i64 (1), .bool false, .int .i64 (1), .int .i64 (0), .bool false, .int .i64 (-1), .int .i64 (1), .bool false, .int .i64 (1), .int .i64 (-1), .bool false, .int .i64 (1073741825), .int .i64 (1), .bool false, .int .i64 (1), .int .i64 (1073741825), .bool false, .int .i64 (-9223372036854775808), .int .i64 (9223372036854775807), .bool false] 34)).alloc (.cells #[.int .i64 (-9223372036854775808), .int .i64 (9223372036854775807), .bool false] 34) = W at hk hb ⊢
  refine (look_nil (-9223372036854775808) (9223372036854775807) _ 2 W bad_look8 rfl).mono ?_
  rintro e w1 ⟨A1, c1, rfl, hb1⟩
  obtain ⟨x0, x1, x2, x3⟩ := blk_cells3 (blk3_keep hk (below_alloc hb1 (.cells #[.int .i64 10, .slice A1 0 c1, .int .i64 0] 26)))
  have HB := Aside0.mk (below_alloc (below_then hb hb.size hb1) (.cells #[.int .i64 10, .slice A1 0 c1, .int .i64 0] 26))
  clear hk hb hb1 x0 x1 x3
  go_wp2_with fail
  refine (awake10 _).mono ?_
  rintro e w2 ⟨rfl, hb2⟩
  have HB2 := Aside0.mk (below_then HB.out HB.out.size hb2)
  clear hb2
  go_wp2_with fail
  go_ret
  exact ⟨rfl, HB2.out⟩

theorem bad_calls (which : Int) (w : World) : Calls Try.prog 4 #[.int .i64 which] w fun e w' => e = .returned (.bool true) ∧ Below w.heap.size w w' := by
  have e : (255 : Int) = ((255 : Nat) : Int) := rfl
  have hp : 0 ≤ Go.bits .and .i64 which 255 := by
    simp only [Go.bits, e, BitVec.ofInt_natCast, BitVec.toNat_and]
    have h : (BitVec.ofInt IntKind.i64.bits which).toNat &&& (BitVec.ofNat IntKind.i64.bits 255).toNat < 2 ^ 8 := Nat.and_lt_two_pow _ (by decide)
    generalize (BitVec.ofInt IntKind.i64.bits which).toNat &&& (BitVec.ofNat IntKind.i64.bits 255).toNat = t at h ⊢
    rw [IntKind.wrap_i64]
    omega
  have h1 := Int.tmod_nonneg 9 hp
  have h2 := Int.tmod_lt_of_pos (Go.bits .and .i64 which 255) (show (0 : Int) < 9 from by decide)
  generalize hm : Int.tmod (Go.bits .and .i64 which 255) 9 = m at h1 h2
  have h3 : m = 0 ∨ m = 1 ∨ m = 2 ∨ m = 3 ∨ m = 4 ∨ m = 5 ∨ m = 6 ∨ m = 7 ∨ m = 8 := by omega
  rcases h3 with rfl | rfl | rfl | rfl | rfl | rfl | rfl | rfl | rfl
  · exact bad_0 which w hm
  · exact bad_1 which w hm
  · exact bad_2 which w hm
  · exact bad_3 which w hm
  · exact bad_4 which w hm
  · exact bad_5 which w hm
  · exact bad_6 which w hm
  · exact bad_7 which w hm
  · exact bad_8 which w hm
end Go.Proofs.Ytjpgnipjgonplaa.Ss
namespace Go.Proofs.Ytjpgnipjgonplaa.sessBad
open Go.ChangeShapes Go.WideShapes Go.ChangeAt Go.RowKit
open Go.ChangeMaps (open_string shut_string)
theorem own : ownKnob Try.prog.godebug = none := by kernel_rfl
set_option maxRecDepth 100000 in
theorem lifted (os : Os) (started : os.Started) (H : Type) (enc : TypeId × Value → H) :
    ReturnsInHanded {} Try.checked os 4 .any (Rows.sessBadSpec.pre6 enc Try.prog Try.f4 Rows.sessBadRow.domain false) (Rows.sessBadSpec.post enc Try.prog Try.f4 false true false false) := by
  refine returnsInHanded_of_change_sized (C := Try.checked) own started (by kernel_rfl) Try.func4
    (ChangeSpec.witness6 (enc := enc) (C := Try.checked) false ⟨#[], #[.int .i64 0], []⟩ 8 (by kernel_rfl) (by kernel_rfl) (by kernel_rfl) (by kernel_rfl)) ?_
  intro W base args ds gs before hval0 hW hcnd hsz0 _
  have hsz : (DataW.weightsEach Try.prog (Try.f4.params.toList ++ Rows.sessBadSpec.plain.varTypes Try.prog) (ds ++ gs)).all (· ≤ reachBytes) = true := hsz0
  have hval : ∀ (j : Nat) t v, Try.f4.params[j]? = some t → args[j]? = some v → Value.okWide Try.prog W .any base t v := hval0
  have hW' := hW
  obtain ⟨p, q, hA0, hV, rfl, hfz, hnd⟩ := hW
  have hA : DataW.TrodAll enc Try.prog W 0 (fun _ => true) true Try.f4.params.toList args.toList ds p := hA0
  rw [Try.params4] at hA hval hsz
  obtain ⟨v0, vs0, d0, ds0, p0, q0, hargs, rfl, rfl, h0, r0⟩ := trodAll_cons hA
  obtain ⟨rfl, rfl, rfl⟩ := trodAll_nil r0
  obtain rfl : args = #[v0] := by cases args; simp_all
  obtain ⟨rfl, rfl⟩ := trodVars_none hV
  obtain ⟨a0, rfl, rfl, rfl, w0⟩ := open_int Try.underlying3 (hval 0 3 v0 rfl rfl) h0
  clear hA0 hval0 hsz0 hsz
  refine (Ss.bad_calls a0 W).mono fun e W' ⟨he, bel⟩ => ?_
  subst he
  exact ⟨_, rfl, _, _, _, [], _, [], hW', trodAll_mk1 (shut_bool Try.underlying4 _), (trodAll_cons_mk (shut_int Try.underlying3 w0) trodAll_mk0), rfl, bel.frame _, fun h => by cases h⟩
theorem over : Rows.sessBadRow.holds Try.pinned (OpenSpec.ofChange Rows.sessBadSpec) :=
  OpenClaim.holds_of_wide 4 Try.f4 rfl rfl rfl rfl rfl rfl rfl ⟨rfl, rfl, rfl, rfl, rfl⟩ rfl rfl rfl rfl rfl (by kernel_rfl) Try.func4 (by kernel_rfl)
    (of_decide_eq_true (by kernel_rfl)) (by unfold Func.isWrapper; first | (rw [if_pos (by decide +kernel)]; kernel_rfl) | (rw [if_neg (by decide +kernel)]; exact ⟨rfl, rfl⟩))
    (fun os started H enc _ => lifted os started H enc)
theorem proved : Rows.SessBadSaid := over
end Go.Proofs.Ytjpgnipjgonplaa.sessBad
namespace Go.Proofs.Ytjpgnipjgonplaa
/-- The row, under a short name, for the claim. -/
theorem sessBad_holds : Rows.SessBadSaid := sessBad.proved
end Go.Proofs.Ytjpgnipjgonplaa
