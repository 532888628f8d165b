/- What sess.Look answers, as one; awake. -/
import Derived.Lib.SliceRun
import Derived.Outline
import Derived.Test.YtjpgnipjgonplaaSe
namespace Go.Proofs.Ytjpgnipjgonplaa.Ss
open Go.RowKit Go.Proofs.YtjpgnipjgonplaaW.PrintWords Go.Proofs.YtjpgnipjgonplaaW.PrintLast Go.Proofs.YtjpgnipjgonplaaW.PrintMore
attribute [local go_sem] max2_int min2_int max_two min_two max_three min_three max_four min_four
set_option linter.unusedVariables false
set_option linter.unusedSimpArgs false

def one (n : Int) : Bool := decide (1 ≤ n ∧ n ≤ 1073741824)
/-- What sess.Look answers. -/
def lookR (l : List S31) (s q : Int) : S26 × Int :=
  if one s = false ∨ one q = false then (⟨10, [], 0⟩, 2)
  else if there l s = false then (if 8 ≤ l.length then (⟨9, [], 0⟩, 2) else (⟨0, [], 0⟩, 0))
  else if (rd_T31 l (fi l s : Int)).f1 < q then (⟨0, [], 0⟩, 0)
  else if q < (rd_T31 l (fi l s : Int)).f1 then (⟨8, [], 0⟩, 2)
  else ((rd_T31 l (fi l s : Int)).f2, 1)
theorem look8 (A : Option Addr) (c : Nat) (l : List S31) (s q : Int) (w : World) (hr : Kd.C k31 w A l.length l) (hc : l.length ≤ c) (hv : ∀ x ∈ l, x.f2.f1.length < 140737488355328) :
    Calls Try.prog 8 #[.slice A l.length c, .int .i64 s, .int .i64 q] w (LookEnd w (lookR l s q).1.f0 (lookR l s q).1.f1 (lookR l s q).1.f2 (lookR l s q).2) := by
  unfold lookR
  cases h1 : one s with
  | false => exact look_bad1 A c l s q w hr hc h1
  | true =>
    cases h2 : one q with
    | false => exact look_bad2 A c l s q w hr hc h1 h2
    | true =>
      rw [if_neg (by simp)]
      cases ht : there l s with
      | false =>
        rw [if_pos rfl]
        split
        · rename_i h8
          exact look_full A c l s q w hr hc h1 h2 ht h8
        · rename_i h8
          exact look_new1 A c l s q w hr hc h1 h2 ht (by omega)
      | true =>
        rw [if_neg (by simp)]
        split
        · rename_i h
          exact look_new2 A c l s q w hr hc h1 h2 ht h
        · split
          · rename_i h' h
            exact look_old A c l s q w hr hc h1 h2 ht h
          · rename_i h' h
            have hlt : fi l s < l.length := by have := ht; simp [there] at this; exact this.1
            exact look_same A c l s q w hr hc h1 h2 ht (by omega) (hv _ (by rw [rd_get l _ hlt]; exact List.getElem_mem hlt))
def l1 : List S31 := [⟨5, 2, ⟨0, [], 7⟩⟩]
theorem l1_put : putP [] 5 ⟨5, 2, ⟨0, [], 7⟩⟩ = l1 := by kernel_rfl
theorem l1_a : lookR l1 5 2 = (⟨0, [], 7⟩, 1) := by kernel_rfl
theorem l1_b : lookR l1 5 1 = (⟨8, [], 0⟩, 2) := by kernel_rfl
theorem l1_c : lookR l1 5 3 = (⟨0, [], 0⟩, 0) := by kernel_rfl
theorem l1_d : lookR l1 0 1 = (⟨10, [], 0⟩, 2) := by kernel_rfl
theorem look_l1 (A : Option Addr) (c : Nat) (s q : Int) (r : S26) (k : Int) (W : World) (hr : Kd.C k31 W A l1.length l1) (hc : l1.length ≤ c) (h : lookR l1 s q = (r, k)) (hv : r.f1 = []) :
    Calls Try.prog 8 #[.slice A 1 c, .int .i64 s, .int .i64 q] W fun e w' => ∃ A1 c1, e = .returned (.tuple #[.agg #[.int .i64 r.f0, .slice A1 0 c1, .int .i64 r.f2], .int .i64 k]) ∧ Below W.heap.size W w' := by
  have h1 := look8 A c l1 s q W hr hc (fun x hx => by obtain rfl := List.mem_singleton.1 hx; decide)
  rw [h, hv] at h1
  refine h1.mono ?_
  rintro e w' ⟨v, rfl, hR, hb⟩
  obtain ⟨A1, c1, rfl⟩ := Kd.R_slice hR
  exact ⟨A1, c1, rfl, hb⟩
theorem blk3_keep {w w' : World} {g : Nat} {o : Obj} (h : w.heap[g]? = some o) (hb : Below w.heap.size w w') : w'.heap[g]? = some o := (hb.block g (blk_lt h)).trans h
set_option maxHeartbeats 1000000 in
theorem awake10 (w : World) : Calls Try.prog 10 #[] w fun e w' => e = .returned (.bool true) ∧ Below w.heap.size w w' := by
  have HP := Aside0.mk (put9 none 0 [] 5 2 ⟨0, [], 7⟩ none 0 w ⟨rfl, by decide, fun h => absurd h (by decide)⟩ (Nat.le_refl _) (by decide) (fun _ h => by simp at h) ⟨rfl, by decide, fun h => absurd h (by decide)⟩ (Nat.le_refl _) (by decide))
  rw [l1_put] at HP
  go_enter Try.func10, Try.ntmps10
  go_wp2_with fail
  refine HP.out.mono ?_
  rintro e w1 ⟨A, c, rfl, hc, hF, hb1⟩
  have HC := Aside0.mk hc
  have HF1 := Aside0.mk (Fr.C hF)
  have HB1 := Aside0.mk hb1
  clear hc hF hb1 HP
  rw [show l1.length = 1 from rfl]
  go_wp2_with fail
  refine (look_l1 A c 5 2 _ 1 w1 HF1.out HC.out l1_a rfl).mono ?_
  rintro e w2 ⟨A2, c2, rfl, hb2⟩
  have HB2 := Aside0.mk (below_alloc (below_then HB1.out HB1.out.size hb2) (.cells #[.int .i64 0, .slice A2 0 c2, .int .i64 7] 26))
  have HF2 := Aside0.mk (Kd.C_below HF1.out (below_alloc hb2 (.cells #[.int .i64 0, .slice A2 0 c2, .int .i64 7] 26)))
  have HK2 := Aside0.mk (heap_alloc_self w2 (.cells #[.int .i64 0, .slice A2 0 c2, .int .i64 7] 26))
  clear hb2 HF1 HB1
  go_wp2_with fail
  generalize w2.alloc (.cells #[.int .i64 0, .slice A2 0 c2, .int .i64 7] 26) = W2 at HB2 HF2 HK2 ⊢
  refine (look_l1 A c 5 1 _ 2 W2 HF2.out HC.out l1_b rfl).mono ?_
  rintro e w3 ⟨A3, c3, rfl, hb3⟩
  have HB3 := Aside0.mk (below_alloc (below_then HB2.out HB2.out.size hb3) (.cells #[.int .i64 8, .slice A3 0 c3, .int .i64 0] 26))
  have HF3 := Aside0.mk (Kd.C_below HF2.out (below_alloc hb3 (.cells #[.int .i64 8, .slice A3 0 c3, .int .i64 0] 26)))
  have HK3 := Aside0.mk (blk3_keep HK2.out (below_alloc hb3 (.cells #[.int .i64 8, .slice A3 0 c3, .int .i64 0] 26)))
  have HL3 := Aside0.mk (heap_alloc_self w3 (.cells #[.int .i64 8, .slice A3 0 c3, .int .i64 0] 26))
  clear hb3 HF2 HB2 HK2
  go_wp2_with fail
  generalize w3.alloc (.cells #[.int .i64 8, .slice A3 0 c3, .int .i64 0] 26) = W3 at HB3 HF3 HK3 HL3 ⊢
  refine (look_l1 A c 5 3 _ 0 W3 HF3.out HC.out l1_c rfl).mono ?_
  rintro e w4 ⟨A4, c4, rfl, hb4⟩
  have HB4 := Aside0.mk (below_alloc (below_then HB3.out HB3.out.size hb4) (.cells #[.int .i64 0, .slice A4 0 c4, .int .i64 0] 26))
  have HF4 := Aside0.mk (Kd.C_below HF3.out (below_alloc hb4 (.cells #[.int .i64 0, .slice A4 0 c4, .int .i64 0] 26)))
  have HK4 := Aside0.mk (blk3_keep HK3.out (below_alloc hb4 (.cells #[.int .i64 0, .slice A4 0 c4, .int .i64 0] 26)))
  have HL4 := Aside0.mk (blk3_keep HL3.out (below_alloc hb4 (.cells #[.int .i64 0, .slice A4 0 c4, .int .i64 0] 26)))
  clear hb4 HF3 HB3 HK3 HL3
  go_wp2_with fail
  generalize w4.alloc (.cells #[.int .i64 0, .slice A4 0 c4, .int .i64 0] 26) = W4 at HB4 HF4 HK4 HL4 ⊢
  refine (look_l1 A c 0 1 _ 2 W4 HF4.out HC.out l1_d rfl).mono ?_
  rintro e w5 ⟨A5, c5, rfl, hb5⟩
  have HB5 := Aside0.mk (below_alloc (below_then HB4.out HB4.out.size hb5) (.cells #[.int .i64 10, .slice A5 0 c5, .int .i64 0] 26))
  obtain ⟨a0, a1, a2, a3⟩ := blk_cells3 (blk3_keep HK4.out (below_alloc hb5 (.cells #[.int .i64 10, .slice A5 0 c5, .int .i64 0] 26)))
  obtain ⟨b0, b1, b2, b3⟩ := blk_cells3 (blk3_keep HL4.out (below_alloc hb5 (.cells #[.int .i64 10, .slice A5 0 c5, .int .i64 0] 26)))
  clear hb5 HF4 HB4 HK4 HL4 a0 a1 a3 b1 b2 b3
  go_wp2_with fail
  go_ret
  exact ⟨rfl, HB5.out⟩
end Go.Proofs.Ytjpgnipjgonplaa.Ss
