/- maps.Get, walked. -/
import Derived.Lib.SliceRun
import Derived.Outline
import Derived.Test.YthfplgfpodmphaaMf
import Derived.Test.YthfplgfpodmphaaMsl
namespace Go.Proofs.Ythfplgfpodmphaa.Ms
open Go.RowKit Go.Proofs.YthfplgfpodmphaaW.PrintWords Go.Proofs.YthfplgfpodmphaaW.PrintLast Go.Proofs.YthfplgfpodmphaaW.PrintMore
attribute [local go_sem] max2_int min2_int max_two min_two max_three min_three max_four min_four
set_option linter.unusedVariables false
set_option linter.unusedSimpArgs false
set_option maxRecDepth 100000

structure S26 where
  f0 : Int
  f1 : List Int
  f2 : Int

theorem blk_cells3 {w : World} {g t : Nat} {a b c : Value} (h : w.heap[g]? = some (.cells #[a, b, c] t (0, 0))) : w.cell? ⟨g, 0, none⟩ = some a ∧ w.cell? ⟨g, 1, none⟩ = some b ∧ w.cell? ⟨g, 2, none⟩ = some c ∧ (∀ j, w.frozen? ⟨g, j, none⟩ = false) := by
  refine ⟨?_, ?_, ?_, fun j => ?_⟩ <;> simp [World.cell?, World.frozen?, h]
def ResEnd (w : World) (r : S26) (e : Ending) (w' : World) : Prop := ∃ v1_ : Value, e = .returned (.agg #[.int .i64 r.f0, v1_, .int .i64 r.f2]) ∧ Kd.R (Kd.int .u8) 5 w' w.heap.size (fun _ => True) v1_ r.f1 ∧ Below w.heap.size w w'
def getR (l : List S32) (k : List Int) : S26 := if (findR l k).2 = true then ⟨0, (rd_T32 l ((findR l k).1 : Int)).f1, 0⟩ else ⟨5, [], 0⟩
set_option maxHeartbeats 1000000 in
theorem get_none (A B : Option Addr) (c d : Nat) (l : List S32) (k : List Int) (w : World) (hr : Kd.C k32 w A l.length l) (hc : l.length ≤ c) (hk : Kd.C (Kd.int .u8) w B k.length k) (hd : k.length ≤ d) (ht : (findR l k).2 = false) :
    Calls Try.prog 36 #[.slice A l.length c, .slice B k.length d] w (ResEnd w ⟨5, [], 0⟩) := by
  have HI := Aside0.mk (find17 A B c d l k (w.alloc (.cells #[.int .i64 0, .slice none 0 0, .int .i64 0] 34)) (Kd.C_alloc hr _) hc (Kd.C_alloc hk _) hd)
  rw [ht] at HI
  clear hr hc hk hd ht
  go_enter Try.func36, Try.ntmps36
  go_wp2_with fail
  refine HI.out.mono ?_
  rintro e w1 ⟨rfl, hb1⟩
  have BK : w1.heap[w.heap.size]? = some (.cells #[.int .i64 0, .slice none 0 0, .int .i64 0] 34 (0, 0)) := (hb1.block _ (by simp)).trans (heap_alloc_self w _)
  have hB : Below w.heap.size w w1 := below_then (below_alloc (Below.refl _ _) _) (by simp) hb1
  obtain ⟨x0, x1, x2, x3⟩ := blk_cells3 BK
  have x30 := x3 0
  have x31 := x3 1
  have x32 := x3 2
  have BKs := Aside0.mk BK
  have HBs := Aside0.mk hB
  clear BK hB hb1 HI x3
  go_wp2_with fail
  refine bodyPost_ret (results_cell_row rfl _ _ w.heap.size 34 #[.int .i64 5, .slice none 0 0, .int .i64 0] (0, 0) _ rfl (by refine blk_put (cs := #[.int .i64 5, .slice none 0 0, .int .i64 0]) ?_ 2 _ rfl; refine blk_put (cs := #[.int .i64 5, .slice none 0 0, .int .i64 0]) ?_ 1 _ rfl; refine blk_put (cs := #[.int .i64 0, .slice none 0 0, .int .i64 0]) ?_ 0 _ rfl; exact BKs.out) Try.underlying34 rfl (by kernel_rfl)) rfl ?_
  exact ⟨_, rfl, Kd.R_nil _ _ _ _ _, ((HBs.out.setCell (Nat.le_refl _) _).setCell (Nat.le_refl _) _).setCell (Nat.le_refl _) _⟩
set_option maxHeartbeats 1000000 in
theorem get_some (A B : Option Addr) (c d : Nat) (l : List S32) (k : List Int) (w : World) (hr : Kd.C k32 w A l.length l) (hc : l.length ≤ c) (hk : Kd.C (Kd.int .u8) w B k.length k) (hd : k.length ≤ d) (ht : (findR l k).2 = true) (hlt : (findR l k).1 < l.length) (hv : (rd_T32 l ((findR l k).1 : Int)).f1.length < 140737488355328) :
    Calls Try.prog 36 #[.slice A l.length c, .slice B k.length d] w (ResEnd w ⟨0, (rd_T32 l ((findR l k).1 : Int)).f1, 0⟩) := by
  have HR := Aside0.mk hr
  have HI := Aside0.mk (find17 A B c d l k (w.alloc (.cells #[.int .i64 0, .slice none 0 0, .int .i64 0] 34)) (Kd.C_alloc hr _) hc (Kd.C_alloc hk _) hd)
  rw [ht] at HI
  clear hr hc hk hd ht
  go_enter Try.func36, Try.ntmps36
  go_wp2_with fail
  refine HI.out.mono ?_
  rintro e w1 ⟨rfl, hb1⟩
  have BK : w1.heap[w.heap.size]? = some (.cells #[.int .i64 0, .slice none 0 0, .int .i64 0] 34 (0, 0)) := (hb1.block _ (by simp)).trans (heap_alloc_self w _)
  have hB : Below w.heap.size w w1 := below_then (below_alloc (Below.refl _ _) _) (by simp) hb1
  obtain ⟨x0, x1, x2, x3⟩ := blk_cells3 BK
  have x30 := x3 0
  have x31 := x3 1
  have x32 := x3 2
  have BKs := Aside0.mk BK
  have HBs := Aside0.mk hB
  clear BK hB hb1 HI x3
  obtain ⟨ad, A0, c0, A1, c1, e, h0, h1, l0, g0, l1, g1⟩ := at_T32 (Kd.C_below HR.out HBs.out) ((findR l k).1 : Int) (by omega) (by omega)
  cases e
  simp only [Int.toNat_natCast] at h0 h1
  have HG1 := Aside0.mk g1
  have HL1 := Aside0.mk l1
  clear g1 l1 g0 l0 h0
  go_wp2_with fail
  refine (clone18 A1 c1 _ w1 HG1.out HL1.out hv).mono ?_
  rintro e w2 ⟨v, rfl, ho, hb2⟩
  obtain ⟨Av, cv, rfl⟩ := Kd.R_slice ho
  have BK2 : w2.heap[w.heap.size]? = some (.cells #[.int .i64 0, .slice none 0 0, .int .i64 0] 34 (0, 0)) := (hb2.block _ (blk_lt BKs.out)).trans BKs.out
  obtain ⟨x0, x1, x2, x3⟩ := blk_cells3 BK2
  have x30 := x3 0
  have x31 := x3 1
  have x32 := x3 2
  have BKs2 := Aside0.mk BK2
  have HBs2 := Aside0.mk (below_then HBs.out HBs.out.size hb2)
  have HO := Aside0.mk (Kd.R_newB ho BKs.out)
  have hle := HBs.out.size
  have HLE := Aside0.mk hle
  clear BK2 x3 ho hb2 hle
  go_wp2_with fail
  refine bodyPost_ret (results_cell_row rfl _ _ w.heap.size 34 #[.int .i64 0, .slice Av (rd_T32 l ((findR l k).1 : Int)).f1.length cv, .int .i64 0] (0, 0) _ rfl (by refine blk_put (cs := #[.int .i64 0, .slice Av (rd_T32 l ((findR l k).1 : Int)).f1.length cv, .int .i64 0]) ?_ 2 _ rfl; refine blk_put (cs := #[.int .i64 0, .slice none 0 0, .int .i64 0]) ?_ 1 _ rfl; refine blk_put (cs := #[.int .i64 0, .slice none 0 0, .int .i64 0]) ?_ 0 _ rfl; exact BKs2.out) Try.underlying34 rfl (by kernel_rfl)) rfl ?_
  exact ⟨_, rfl, Kd.R_lower (Kd.R_mono (Kd.R_far (p := ⟨w.heap.size, 2, none⟩) (Kd.R_far (p := ⟨w.heap.size, 1, none⟩) (Kd.R_far (p := ⟨w.heap.size, 0, none⟩) HO.out (fun _ hk => hk.2) _) (fun _ hk => hk.2) _) (fun _ hk => hk.2) _) (fun _ _ => trivial)) HLE.out, ((HBs2.out.setCell (Nat.le_refl _) _).setCell (Nat.le_refl _) _).setCell (Nat.le_refl _) _⟩
theorem findR_lt (l : List S32) (k : List Int) (h : (findR l k).2 = true) : (findR l k).1 < l.length := by
  unfold findR at h ⊢
  split at h
  · rename_i h1
    rw [if_pos h1]
    exact h1
  · cases h
theorem insN_le (l : List S32) (k : List Int) (n : Nat) : insN l k n ≤ n := by
  induction n with
  | zero => exact Nat.le_refl 0
  | succ n ih =>
    unfold insN
    split
    · exact Nat.le_succ_of_le ih
    · exact Nat.le_refl _
theorem findR_le (l : List S32) (k : List Int) : (findR l k).1 ≤ l.length := by
  unfold findR
  split
  · rename_i h; exact Nat.le_of_lt h
  · exact insN_le l k _
theorem get8 (A B : Option Addr) (c d : Nat) (l : List S32) (k : List Int) (w : World) (hr : Kd.C k32 w A l.length l) (hc : l.length ≤ c) (hk : Kd.C (Kd.int .u8) w B k.length k) (hd : k.length ≤ d) (hv : ∀ x ∈ l, x.f1.length < 140737488355328) :
    Calls Try.prog 36 #[.slice A l.length c, .slice B k.length d] w (ResEnd w (getR l k)) := by
  unfold getR
  cases ht : (findR l k).2 with
  | false => exact get_none A B c d l k w hr hc hk hd ht
  | true =>
    have hlt := findR_lt l k ht
    exact get_some A B c d l k w hr hc hk hd ht hlt (hv _ (by rw [rd_get l _ hlt]; exact List.getElem_mem hlt))
end Go.Proofs.Ythfplgfpodmphaa.Ms
