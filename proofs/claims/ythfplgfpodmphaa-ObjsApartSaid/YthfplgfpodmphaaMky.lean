/- The law's keys, walked. -/
import Derived.Laws.IdiomStrings
import Derived.Test.YthfplgfpodmphaaMh
namespace Go.Proofs.Ythfplgfpodmphaa.Ms
open Go.RowKit Go.Proofs.YthfplgfpodmphaaW.PrintWords Go.Proofs.YthfplgfpodmphaaW.PrintLast Go.Proofs.YthfplgfpodmphaaW.PrintMore
attribute [local go_sem] max2_int min2_int max_two min_two max_three min_three max_four min_four
set_option linter.unusedVariables false
set_option linter.unusedSimpArgs false
set_option maxRecDepth 100000

theorem bytes_C {w : World} {g : Nat} {fr : Nat × Nat} {s : ByteArray} {cap : Nat} (h : w.heap[g]? = some (.cells (bytesRow s cap) 5 fr)) (hm : s.size ≤ 9223372036854775807) : Kd.C (Kd.int .u8) w (some ⟨g, 0, none⟩) s.size (bytesOf s) := by
  refine ⟨bytesOf_length s, hm, fun _ => ⟨_, rfl, fun j p hj => ⟨[.int .u8 p], rfl, rfl, fun i u hu => ?_⟩⟩⟩
  cases i with
  | zero =>
    obtain rfl := Option.some.inj hu
    rw [add_plain]
    show w.cell? ⟨g, j * 1 + 0, none⟩ = _
    have hlt : j < s.data.size := by have := (List.getElem?_eq_some_iff.1 hj).1; simpa [bytesOf] using this
    rw [show w.cell? ⟨g, j * 1 + 0, none⟩ = (bytesRow s cap)[j]? from by (unfold World.cell?; rw [h]; simp only [Nat.mul_one, Nat.add_zero]; exact if_neg (by simp)), bytesRow_at s cap j hlt]
    simp only [bytesOf, List.getElem?_map, Array.getElem?_toList, Array.getElem?_eq_getElem hlt, Option.map_some, Option.some.injEq] at hj
    rw [hj]
  | succ i => simp at hu
def kk (n : Nat) : List Int := ([[], [97], [98], [99], [97, 98], [97, 98, 99], [122], [0], [255], [97, 98, 99, 100, 101, 102, 103, 104], [97, 98, 99, 100, 101, 102, 103, 104, 105], [107, 49], [107, 50], [107, 51], [107, 52], [107, 53]] : List (List Int)).getD n []
def KeyEnd (w : World) (k : List Int) (e : Ending) (w' : World) : Prop := ∃ A c, e = .returned (.slice A k.length c) ∧ k.length ≤ c ∧ Kd.C (Kd.int .u8) w' A k.length k ∧ Below w.heap.size w w'
set_option maxHeartbeats 1000000 in
set_option maxRecDepth 100000 in
theorem keys_0 (n : Int) (w : World) (hn : Go.bits .and .i64 n 15 = 0) : Calls Try.prog 39 #[.int .i64 n] w (KeyEnd w (kk 0)) := by
  have kc := fun (w : World) (s : ByteArray) => run_bytes_of_string (P := Try.prog) w 9 22 5 s Try.underlying9 Try.underlying22 Try.underlying5
  go_enter Try.func39, Try.ntmps39
  go_wp2_with fail
  go_ret
  refine ⟨some ⟨w.heap.size + 1, 0, none⟩, _, rfl, grownCap_ge _ _ _ _, bytes_C (s := ⟨#[]⟩) (by show ((w.heap.push _).push _)[w.heap.size + 1]? = some _; rw [Array.getElem?_push]; exact if_pos (by simp)) (by decide), below_drew1 (below_alloc (below_alloc (Below.refl _ _) _) _)⟩
set_option maxHeartbeats 1000000 in
set_option maxRecDepth 100000 in
theorem keys_1 (n : Int) (w : World) (hn : Go.bits .and .i64 n 15 = 1) : Calls Try.prog 39 #[.int .i64 n] w (KeyEnd w (kk 1)) := by
  have kc := fun (w : World) (s : ByteArray) => run_bytes_of_string (P := Try.prog) w 9 22 5 s Try.underlying9 Try.underlying22 Try.underlying5
  go_enter Try.func39, Try.ntmps39
  go_wp2_with fail
  go_ret
  refine ⟨some ⟨w.heap.size + 1, 0, none⟩, _, rfl, grownCap_ge _ _ _ _, bytes_C (s := ⟨#[97]⟩) (by show ((w.heap.push _).push _)[w.heap.size + 1]? = some _; rw [Array.getElem?_push]; exact if_pos (by simp)) (by decide), below_drew1 (below_alloc (below_alloc (Below.refl _ _) _) _)⟩
set_option maxHeartbeats 1000000 in
set_option maxRecDepth 100000 in
theorem keys_2 (n : Int) (w : World) (hn : Go.bits .and .i64 n 15 = 2) : Calls Try.prog 39 #[.int .i64 n] w (KeyEnd w (kk 2)) := by
  have kc := fun (w : World) (s : ByteArray) => run_bytes_of_string (P := Try.prog) w 9 22 5 s Try.underlying9 Try.underlying22 Try.underlying5
  go_enter Try.func39, Try.ntmps39
  go_wp2_with fail
  go_ret
  refine ⟨some ⟨w.heap.size + 1, 0, none⟩, _, rfl, grownCap_ge _ _ _ _, bytes_C (s := ⟨#[98]⟩) (by show ((w.heap.push _).push _)[w.heap.size + 1]? = some _; rw [Array.getElem?_push]; exact if_pos (by simp)) (by decide), below_drew1 (below_alloc (below_alloc (Below.refl _ _) _) _)⟩
set_option maxHeartbeats 1000000 in
set_option maxRecDepth 100000 in
theorem keys_3 (n : Int) (w : World) (hn : Go.bits .and .i64 n 15 = 3) : Calls Try.prog 39 #[.int .i64 n] w (KeyEnd w (kk 3)) := by
  have kc := fun (w : World) (s : ByteArray) => run_bytes_of_string (P := Try.prog) w 9 22 5 s Try.underlying9 Try.underlying22 Try.underlying5
  go_enter Try.func39, Try.ntmps39
  go_wp2_with fail
  go_ret
  refine ⟨some ⟨w.heap.size + 1, 0, none⟩, _, rfl, grownCap_ge _ _ _ _, bytes_C (s := ⟨#[99]⟩) (by show ((w.heap.push _).push _)[w.heap.size + 1]? = some _; rw [Array.getElem?_push]; exact if_pos (by simp)) (by decide), below_drew1 (below_alloc (below_alloc (Below.refl _ _) _) _)⟩
set_option maxHeartbeats 1000000 in
set_option maxRecDepth 100000 in
theorem keys_4 (n : Int) (w : World) (hn : Go.bits .and .i64 n 15 = 4) : Calls Try.prog 39 #[.int .i64 n] w (KeyEnd w (kk 4)) := by
  have kc := fun (w : World) (s : ByteArray) => run_bytes_of_string (P := Try.prog) w 9 22 5 s Try.underlying9 Try.underlying22 Try.underlying5
  go_enter Try.func39, Try.ntmps39
  go_wp2_with fail
  go_ret
  refine ⟨some ⟨w.heap.size + 1, 0, none⟩, _, rfl, grownCap_ge _ _ _ _, bytes_C (s := ⟨#[97, 98]⟩) (by show ((w.heap.push _).push _)[w.heap.size + 1]? = some _; rw [Array.getElem?_push]; exact if_pos (by simp)) (by decide), below_drew1 (below_alloc (below_alloc (Below.refl _ _) _) _)⟩
set_option maxHeartbeats 1000000 in
set_option maxRecDepth 100000 in
theorem keys_5 (n : Int) (w : World) (hn : Go.bits .and .i64 n 15 = 5) : Calls Try.prog 39 #[.int .i64 n] w (KeyEnd w (kk 5)) := by
  have kc := fun (w : World) (s : ByteArray) => run_bytes_of_string (P := Try.prog) w 9 22 5 s Try.underlying9 Try.underlying22 Try.underlying5
  go_enter Try.func39, Try.ntmps39
  go_wp2_with fail
  go_ret
  refine ⟨some ⟨w.heap.size + 1, 0, none⟩, _, rfl, grownCap_ge _ _ _ _, bytes_C (s := ⟨#[97, 98, 99]⟩) (by show ((w.heap.push _).push _)[w.heap.size + 1]? = some _; rw [Array.getElem?_push]; exact if_pos (by simp)) (by decide), below_drew1 (below_alloc (below_alloc (Below.refl _ _) _) _)⟩
set_option maxHeartbeats 1000000 in
set_option maxRecDepth 100000 in
theorem keys_6 (n : Int) (w : World) (hn : Go.bits .and .i64 n 15 = 6) : Calls Try.prog 39 #[.int .i64 n] w (KeyEnd w (kk 6)) := by
  have kc := fun (w : World) (s : ByteArray) => run_bytes_of_string (P := Try.prog) w 9 22 5 s Try.underlying9 Try.underlying22 Try.underlying5
  go_enter Try.func39, Try.ntmps39
  go_wp2_with fail
  go_ret
  refine ⟨some ⟨w.heap.size + 1, 0, none⟩, _, rfl, grownCap_ge _ _ _ _, bytes_C (s := ⟨#[122]⟩) (by show ((w.heap.push _).push _)[w.heap.size + 1]? = some _; rw [Array.getElem?_push]; exact if_pos (by simp)) (by decide), below_drew1 (below_alloc (below_alloc (Below.refl _ _) _) _)⟩
set_option maxHeartbeats 1000000 in
set_option maxRecDepth 100000 in
theorem keys_7 (n : Int) (w : World) (hn : Go.bits .and .i64 n 15 = 7) : Calls Try.prog 39 #[.int .i64 n] w (KeyEnd w (kk 7)) := by
  have kc := fun (w : World) (s : ByteArray) => run_bytes_of_string (P := Try.prog) w 9 22 5 s Try.underlying9 Try.underlying22 Try.underlying5
  go_enter Try.func39, Try.ntmps39
  go_wp2_with fail
  go_ret
  refine ⟨some ⟨w.heap.size + 1, 0, none⟩, _, rfl, grownCap_ge _ _ _ _, bytes_C (s := ⟨#[0]⟩) (by show ((w.heap.push _).push _)[w.heap.size + 1]? = some _; rw [Array.getElem?_push]; exact if_pos (by simp)) (by decide), below_drew1 (below_alloc (below_alloc (Below.refl _ _) _) _)⟩
set_option maxHeartbeats 1000000 in
set_option maxRecDepth 100000 in
theorem keys_8 (n : Int) (w : World) (hn : Go.bits .and .i64 n 15 = 8) : Calls Try.prog 39 #[.int .i64 n] w (KeyEnd w (kk 8)) := by
  have kc := fun (w : World) (s : ByteArray) => run_bytes_of_string (P := Try.prog) w 9 22 5 s Try.underlying9 Try.underlying22 Try.underlying5
  go_enter Try.func39, Try.ntmps39
  go_wp2_with fail
  go_ret
  refine ⟨some ⟨w.heap.size + 1, 0, none⟩, _, rfl, grownCap_ge _ _ _ _, bytes_C (s := ⟨#[255]⟩) (by show ((w.heap.push _).push _)[w.heap.size + 1]? = some _; rw [Array.getElem?_push]; exact if_pos (by simp)) (by decide), below_drew1 (below_alloc (below_alloc (Below.refl _ _) _) _)⟩
set_option maxHeartbeats 1000000 in
set_option maxRecDepth 100000 in
theorem keys_9 (n : Int) (w : World) (hn : Go.bits .and .i64 n 15 = 9) : Calls Try.prog 39 #[.int .i64 n] w (KeyEnd w (kk 9)) := by
  have kc := fun (w : World) (s : ByteArray) => run_bytes_of_string (P := Try.prog) w 9 22 5 s Try.underlying9 Try.underlying22 Try.underlying5
  go_enter Try.func39, Try.ntmps39
  go_wp2_with fail
  go_ret
  refine ⟨some ⟨w.heap.size + 1, 0, none⟩, _, rfl, grownCap_ge _ _ _ _, bytes_C (s := ⟨#[97, 98, 99, 100, 101, 102, 103, 104]⟩) (by show ((w.heap.push _).push _)[w.heap.size + 1]? = some _; rw [Array.getElem?_push]; exact if_pos (by simp)) (by decide), below_drew1 (below_alloc (below_alloc (Below.refl _ _) _) _)⟩
set_option maxHeartbeats 1000000 in
set_option maxRecDepth 100000 in
theorem keys_10 (n : Int) (w : World) (hn : Go.bits .and .i64 n 15 = 10) : Calls Try.prog 39 #[.int .i64 n] w (KeyEnd w (kk 10)) := by
  have kc := fun (w : World) (s : ByteArray) => run_bytes_of_string (P := Try.prog) w 9 22 5 s Try.underlying9 Try.underlying22 Try.underlying5
  go_enter Try.func39, Try.ntmps39
  go_wp2_with fail
  go_ret
  refine ⟨some ⟨w.heap.size + 1, 0, none⟩, _, rfl, grownCap_ge _ _ _ _, bytes_C (s := ⟨#[97, 98, 99, 100, 101, 102, 103, 104, 105]⟩) (by show ((w.heap.push _).push _)[w.heap.size + 1]? = some _; rw [Array.getElem?_push]; exact if_pos (by simp)) (by decide), below_drew1 (below_alloc (below_alloc (Below.refl _ _) _) _)⟩
set_option maxHeartbeats 1000000 in
set_option maxRecDepth 100000 in
theorem keys_11 (n : Int) (w : World) (hn : Go.bits .and .i64 n 15 = 11) : Calls Try.prog 39 #[.int .i64 n] w (KeyEnd w (kk 11)) := by
  have kc := fun (w : World) (s : ByteArray) => run_bytes_of_string (P := Try.prog) w 9 22 5 s Try.underlying9 Try.underlying22 Try.underlying5
  go_enter Try.func39, Try.ntmps39
  go_wp2_with fail
  go_ret
  refine ⟨some ⟨w.heap.size + 1, 0, none⟩, _, rfl, grownCap_ge _ _ _ _, bytes_C (s := ⟨#[107, 49]⟩) (by show ((w.heap.push _).push _)[w.heap.size + 1]? = some _; rw [Array.getElem?_push]; exact if_pos (by simp)) (by decide), below_drew1 (below_alloc (below_alloc (Below.refl _ _) _) _)⟩
set_option maxHeartbeats 1000000 in
set_option maxRecDepth 100000 in
theorem keys_12 (n : Int) (w : World) (hn : Go.bits .and .i64 n 15 = 12) : Calls Try.prog 39 #[.int .i64 n] w (KeyEnd w (kk 12)) := by
  have kc := fun (w : World) (s : ByteArray) => run_bytes_of_string (P := Try.prog) w 9 22 5 s Try.underlying9 Try.underlying22 Try.underlying5
  go_enter Try.func39, Try.ntmps39
  go_wp2_with fail
  go_ret
  refine ⟨some ⟨w.heap.size + 1, 0, none⟩, _, rfl, grownCap_ge _ _ _ _, bytes_C (s := ⟨#[107, 50]⟩) (by show ((w.heap.push _).push _)[w.heap.size + 1]? = some _; rw [Array.getElem?_push]; exact if_pos (by simp)) (by decide), below_drew1 (below_alloc (below_alloc (Below.refl _ _) _) _)⟩
set_option maxHeartbeats 1000000 in
set_option maxRecDepth 100000 in
theorem keys_13 (n : Int) (w : World) (hn : Go.bits .and .i64 n 15 = 13) : Calls Try.prog 39 #[.int .i64 n] w (KeyEnd w (kk 13)) := by
  have kc := fun (w : World) (s : ByteArray) => run_bytes_of_string (P := Try.prog) w 9 22 5 s Try.underlying9 Try.underlying22 Try.underlying5
  go_enter Try.func39, Try.ntmps39
  go_wp2_with fail
  go_ret
  refine ⟨some ⟨w.heap.size + 1, 0, none⟩, _, rfl, grownCap_ge _ _ _ _, bytes_C (s := ⟨#[107, 51]⟩) (by show ((w.heap.push _).push _)[w.heap.size + 1]? = some _; rw [Array.getElem?_push]; exact if_pos (by simp)) (by decide), below_drew1 (below_alloc (below_alloc (Below.refl _ _) _) _)⟩
set_option maxHeartbeats 1000000 in
set_option maxRecDepth 100000 in
theorem keys_14 (n : Int) (w : World) (hn : Go.bits .and .i64 n 15 = 14) : Calls Try.prog 39 #[.int .i64 n] w (KeyEnd w (kk 14)) := by
  have kc := fun (w : World) (s : ByteArray) => run_bytes_of_string (P := Try.prog) w 9 22 5 s Try.underlying9 Try.underlying22 Try.underlying5
  go_enter Try.func39, Try.ntmps39
  go_wp2_with fail
  go_ret
  refine ⟨some ⟨w.heap.size + 1, 0, none⟩, _, rfl, grownCap_ge _ _ _ _, bytes_C (s := ⟨#[107, 52]⟩) (by show ((w.heap.push _).push _)[w.heap.size + 1]? = some _; rw [Array.getElem?_push]; exact if_pos (by simp)) (by decide), below_drew1 (below_alloc (below_alloc (Below.refl _ _) _) _)⟩
set_option maxHeartbeats 1000000 in
set_option maxRecDepth 100000 in
theorem keys_15 (n : Int) (w : World) (hn : Go.bits .and .i64 n 15 = 15) : Calls Try.prog 39 #[.int .i64 n] w (KeyEnd w (kk 15)) := by
  have kc := fun (w : World) (s : ByteArray) => run_bytes_of_string (P := Try.prog) w 9 22 5 s Try.underlying9 Try.underlying22 Try.underlying5
  go_enter Try.func39, Try.ntmps39
  go_wp2_with fail
  go_ret
  refine ⟨some ⟨w.heap.size + 1, 0, none⟩, _, rfl, grownCap_ge _ _ _ _, bytes_C (s := ⟨#[107, 53]⟩) (by show ((w.heap.push _).push _)[w.heap.size + 1]? = some _; rw [Array.getElem?_push]; exact if_pos (by simp)) (by decide), below_drew1 (below_alloc (below_alloc (Below.refl _ _) _) _)⟩
theorem keys10 (n : Int) (N : Nat) (w : World) (hn : Go.bits .and .i64 n 15 = N) (hN : N ≤ 15) : Calls Try.prog 39 #[.int .i64 n] w (KeyEnd w (kk N)) := by
  match N, hN, hn with
  | 0, _, hn => exact keys_0 n w hn
  | 1, _, hn => exact keys_1 n w hn
  | 2, _, hn => exact keys_2 n w hn
  | 3, _, hn => exact keys_3 n w hn
  | 4, _, hn => exact keys_4 n w hn
  | 5, _, hn => exact keys_5 n w hn
  | 6, _, hn => exact keys_6 n w hn
  | 7, _, hn => exact keys_7 n w hn
  | 8, _, hn => exact keys_8 n w hn
  | 9, _, hn => exact keys_9 n w hn
  | 10, _, hn => exact keys_10 n w hn
  | 11, _, hn => exact keys_11 n w hn
  | 12, _, hn => exact keys_12 n w hn
  | 13, _, hn => exact keys_13 n w hn
  | 14, _, hn => exact keys_14 n w hn
  | 15, _, hn => exact keys_15 n w hn
end Go.Proofs.Ythfplgfpodmphaa.Ms
