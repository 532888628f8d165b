/- A window is made, and told of. -/
import Derived.Outline
import Derived.Test.YthoekmedkmonhaaWa
namespace Go.Proofs.Ythoekmedkmonhaa.Wi
open Go Go.RowKit Go.Maps Go.Proofs.Ythoekmedkmonhaa Go.Proofs.YthoekmedkmonhaaW.PrintWords Go.Proofs.YthoekmedkmonhaaW.PrintLast Go.Proofs.YthoekmedkmonhaaW.PrintMore
attribute [local go_sem] max2_int min2_int max_two min_two
set_option linter.unusedVariables false
set_option linter.unusedSimpArgs false

/-- What a new window is. -/
def NewEnd (T : TypeId) (w : World) (x : Int) (e : Ending) (w' : World) : Prop :=
  ∃ b m, e = .returned (.pointer (some ⟨b, 0, none⟩)) ∧ w.heap.size ≤ b ∧ w.heap.size ≤ m ∧ Wn T w' b m 0 ⟨x, x, x, fun _ => none⟩ ∧ Below w.heap.size w w'

theorem made_wn (T : TypeId) (w : World) (x : Int) :
    Wn T ((w.alloc (.map #[] 0)).alloc (.cells #[.int .i64 x, .int .i64 x, .int .i64 x, .map (some w.heap.size)] T)) (w.heap.size + 1) w.heap.size 0 ⟨x, x, x, fun _ => none⟩ := by
  have h := World.alloc_heap_new (w.alloc (.map #[] 0)) (.cells #[.int .i64 x, .int .i64 x, .int .i64 x, .map (some w.heap.size)] T)
  rw [World.size_alloc] at h
  exact ⟨h, (Mf.made w).of_block (Below.heap_alloc _ _ _ (by simp))⟩

theorem new_iv (x : Int) (h0 : 0 ≤ x) (h1 : x ≤ 1099511627776) : Iv 0 ⟨x, x, x, fun _ => none⟩ where
  p0 := h0
  p1 := Int.le_refl _
  p2 := Int.le_refl _
  p3 := by show x ≤ x + 64; omega
  p4 := by show x ≤ 1099511627776 + 64 * ((0 : Nat) : Int); omega
  in1 := fun j a b => by have a' : x < j := a; have b' : j ≤ x := b; omega
  in2 := rfl
  in3 := fun j h => by cases h
  in4 := fun h => absurd h (Int.lt_irrefl _)

set_option maxHeartbeats 1000000 in
theorem new8 (x : Int) (w : World) : Calls Try.prog 8 #[.int .i64 x] w (NewEnd 61 w (min (max x 0) 1099511627776)) := by
  have hmm := @run_makeMap Try.prog
  have HW := Aside0.mk (fun y => made_wn 61 w y)
  have HB := Aside0.mk (fun o => show Below w.heap.size w ((w.alloc (.map #[] 0)).alloc o) from ((Below.refl _ w).alloc (Nat.le_refl _) _).alloc (by simp) _)
  go_enter Try.func8, Try.ntmps8
  go_wp2_with fail
  all_goals
    go_ret
    refine ⟨_, _, rfl, by omega, Nat.le_refl _, ?_, HB.out _⟩
    rw [show min (max x 0) 1099511627776 = _ from by first | exact (show _ = (0 : Int) by omega) | exact (show _ = (1099511627776 : Int) by omega) | exact (show _ = x by omega)]
    exact HW.out _

theorem whole10 (b m n : Nat) (s : Wd) (w : World) (h : Wn 61 w b m n s) : Calls Try.prog 10 #[.pointer (some ⟨b, 0, none⟩)] w (fun e w' => e = .returned (.int .i64 s.wh) ∧ w' = w) := by
  have hc := h.c1
  clear h
  go_enter Try.func10, Try.ntmps10
  go_wp2_with fail
  go_ret
  exact ⟨rfl, rfl⟩

theorem top11 (b m n : Nat) (s : Wd) (w : World) (h : Wn 61 w b m n s) : Calls Try.prog 11 #[.pointer (some ⟨b, 0, none⟩)] w (fun e w' => e = .returned (.int .i64 s.tp) ∧ w' = w) := by
  have hc := h.c2
  clear h
  go_enter Try.func11, Try.ntmps11
  go_wp2_with fail
  go_ret
  exact ⟨rfl, rfl⟩

theorem from36 (b m n : Nat) (s : Wd) (w : World) (h : Wn 61 w b m n s) : Calls Try.prog 36 #[.pointer (some ⟨b, 0, none⟩)] w (fun e w' => e = .returned (.int .i64 s.fr) ∧ w' = w) := by
  have hc := h.c0
  clear h
  go_enter Try.func36, Try.ntmps36
  go_wp2_with fail
  go_ret
  exact ⟨rfl, rfl⟩

set_option maxHeartbeats 1000000 in
theorem get33 (b m n : Nat) (s : Wd) (i : Int) (w : World) (h : Wn 61 w b m n s) (hi : Wf i) : Calls Try.prog 33 #[.pointer (some ⟨b, 0, none⟩), .int .i64 i] w (fun e w' => e = .returned (.tuple #[(s.f i).getD (.int .i64 0), .bool (s.f i).isSome]) ∧ w' = w) := by
  have hc := h.c3
  have hl := h.hm.look Try.underlying49 (Try.zeroValue3 w) hi
  clear h
  go_enter Try.func33, Try.ntmps33
  go_wp2_with fail
  go_ret2
  exact ⟨rfl, rfl⟩

set_option maxHeartbeats 1000000 in
theorem new15 (x : Int) (w : World) : Calls Try.prog 15 #[.int .i64 x] w (NewEnd 67 w (min (max x 0) 1099511627776)) := by
  have hmm := @run_makeMap Try.prog
  have HW := Aside0.mk (fun y => made_wn 67 w y)
  have HB := Aside0.mk (fun o => show Below w.heap.size w ((w.alloc (.map #[] 0)).alloc o) from ((Below.refl _ w).alloc (Nat.le_refl _) _).alloc (by simp) _)
  go_enter Try.func15, Try.ntmps15
  go_wp2_with fail
  all_goals
    go_ret
    refine ⟨_, _, rfl, by omega, Nat.le_refl _, ?_, HB.out _⟩
    rw [show min (max x 0) 1099511627776 = _ from by first | exact (show _ = (0 : Int) by omega) | exact (show _ = (1099511627776 : Int) by omega) | exact (show _ = x by omega)]
    exact HW.out _

theorem whole20 (b m n : Nat) (s : Wd) (w : World) (h : Wn 67 w b m n s) : Calls Try.prog 20 #[.pointer (some ⟨b, 0, none⟩)] w (fun e w' => e = .returned (.int .i64 s.wh) ∧ w' = w) := by
  have hc := h.c1
  clear h
  go_enter Try.func20, Try.ntmps20
  go_wp2_with fail
  go_ret
  exact ⟨rfl, rfl⟩

theorem top39 (b m n : Nat) (s : Wd) (w : World) (h : Wn 67 w b m n s) : Calls Try.prog 39 #[.pointer (some ⟨b, 0, none⟩)] w (fun e w' => e = .returned (.int .i64 s.tp) ∧ w' = w) := by
  have hc := h.c2
  clear h
  go_enter Try.func39, Try.ntmps39
  go_wp2_with fail
  go_ret
  exact ⟨rfl, rfl⟩

theorem from19 (b m n : Nat) (s : Wd) (w : World) (h : Wn 67 w b m n s) : Calls Try.prog 19 #[.pointer (some ⟨b, 0, none⟩)] w (fun e w' => e = .returned (.int .i64 s.fr) ∧ w' = w) := by
  have hc := h.c0
  clear h
  go_enter Try.func19, Try.ntmps19
  go_wp2_with fail
  go_ret
  exact ⟨rfl, rfl⟩

set_option maxHeartbeats 1000000 in
theorem get18 (b m n : Nat) (s : Wd) (i : Int) (w : World) (h : Wn 67 w b m n s) (hi : Wf i) : Calls Try.prog 18 #[.pointer (some ⟨b, 0, none⟩), .int .i64 i] w (fun e w' => e = .returned (.tuple #[(s.f i).getD (.string ⟨#[]⟩), .bool (s.f i).isSome]) ∧ w' = w) := by
  have hc := h.c3
  have hl := h.hm.look Try.underlying65 (Try.zeroValue9 w) hi
  clear h
  go_enter Try.func18, Try.ntmps18
  go_wp2_with fail
  go_ret2
  exact ⟨rfl, rfl⟩

set_option maxHeartbeats 1000000 in
theorem new21 (x : Int) (w : World) : Calls Try.prog 21 #[.int .i64 x] w (NewEnd 70 w (min (max x 0) 1099511627776)) := by
  have hmm := @run_makeMap Try.prog
  have HW := Aside0.mk (fun y => made_wn 70 w y)
  have HB := Aside0.mk (fun o => show Below w.heap.size w ((w.alloc (.map #[] 0)).alloc o) from ((Below.refl _ w).alloc (Nat.le_refl _) _).alloc (by simp) _)
  go_enter Try.func21, Try.ntmps21
  go_wp2_with fail
  all_goals
    go_ret
    refine ⟨_, _, rfl, by omega, Nat.le_refl _, ?_, HB.out _⟩
    rw [show min (max x 0) 1099511627776 = _ from by first | exact (show _ = (0 : Int) by omega) | exact (show _ = (1099511627776 : Int) by omega) | exact (show _ = x by omega)]
    exact HW.out _

theorem whole25 (b m n : Nat) (s : Wd) (w : World) (h : Wn 70 w b m n s) : Calls Try.prog 25 #[.pointer (some ⟨b, 0, none⟩)] w (fun e w' => e = .returned (.int .i64 s.wh) ∧ w' = w) := by
  have hc := h.c1
  clear h
  go_enter Try.func25, Try.ntmps25
  go_wp2_with fail
  go_ret
  exact ⟨rfl, rfl⟩

theorem top26 (b m n : Nat) (s : Wd) (w : World) (h : Wn 70 w b m n s) : Calls Try.prog 26 #[.pointer (some ⟨b, 0, none⟩)] w (fun e w' => e = .returned (.int .i64 s.tp) ∧ w' = w) := by
  have hc := h.c2
  clear h
  go_enter Try.func26, Try.ntmps26
  go_wp2_with fail
  go_ret
  exact ⟨rfl, rfl⟩

theorem from24 (b m n : Nat) (s : Wd) (w : World) (h : Wn 70 w b m n s) : Calls Try.prog 24 #[.pointer (some ⟨b, 0, none⟩)] w (fun e w' => e = .returned (.int .i64 s.fr) ∧ w' = w) := by
  have hc := h.c0
  clear h
  go_enter Try.func24, Try.ntmps24
  go_wp2_with fail
  go_ret
  exact ⟨rfl, rfl⟩

set_option maxHeartbeats 1000000 in
theorem get23 (b m n : Nat) (s : Wd) (i : Int) (w : World) (h : Wn 70 w b m n s) (hi : Wf i) : Calls Try.prog 23 #[.pointer (some ⟨b, 0, none⟩), .int .i64 i] w (fun e w' => e = .returned (.tuple #[(s.f i).getD (.bool false), .bool (s.f i).isSome]) ∧ w' = w) := by
  have hc := h.c3
  have hl := h.hm.look Try.underlying68 (Try.zeroValue4 w) hi
  clear h
  go_enter Try.func23, Try.ntmps23
  go_wp2_with fail
  go_ret2
  exact ⟨rfl, rfl⟩

set_option maxHeartbeats 1000000 in
theorem new28 (x : Int) (w : World) : Calls Try.prog 28 #[.int .i64 x] w (NewEnd 74 w (min (max x 0) 1099511627776)) := by
  have hmm := @run_makeMap Try.prog
  have HW := Aside0.mk (fun y => made_wn 74 w y)
  have HB := Aside0.mk (fun o => show Below w.heap.size w ((w.alloc (.map #[] 0)).alloc o) from ((Below.refl _ w).alloc (Nat.le_refl _) _).alloc (by simp) _)
  go_enter Try.func28, Try.ntmps28
  go_wp2_with fail
  all_goals
    go_ret
    refine ⟨_, _, rfl, by omega, Nat.le_refl _, ?_, HB.out _⟩
    rw [show min (max x 0) 1099511627776 = _ from by first | exact (show _ = (0 : Int) by omega) | exact (show _ = (1099511627776 : Int) by omega) | exact (show _ = x by omega)]
    exact HW.out _

set_option maxHeartbeats 1000000 in
theorem get34 (b m n : Nat) (s : Wd) (i : Int) (w : World) (h : Wn 74 w b m n s) (hi : Wf i) : Calls Try.prog 34 #[.pointer (some ⟨b, 0, none⟩), .int .i64 i] w (fun e w' => e = .returned (.tuple #[(s.f i).getD (.slice none 0 0), .bool (s.f i).isSome]) ∧ w' = w) := by
  have hc := h.c3
  have hl := h.hm.look Try.underlying72 (Try.zeroValue48 w) hi
  clear h
  go_enter Try.func34, Try.ntmps34
  go_wp2_with fail
  go_ret2
  exact ⟨rfl, rfl⟩
end Go.Proofs.Ythoekmedkmonhaa.Wi
