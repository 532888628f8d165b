/- The walk of sess.Put. -/
import Derived.Lib.SliceRun
import Derived.Outline
import Derived.Test.YtjpgnipjgonplaaSd
namespace Go.Proofs.Ytjpgnipjgonplaa.Ss
open Go.RowKit Go.Proofs.YtjpgnipjgonplaaW.PrintWords Go.Proofs.YtjpgnipjgonplaaW.PrintLast Go.Proofs.YtjpgnipjgonplaaW.PrintMore
attribute [local go_sem] max2_int min2_int max_two min_two max_three min_three max_four min_four
set_option linter.unusedVariables false
set_option linter.unusedSimpArgs false
set_option maxHeartbeats 1000000 in
theorem put_new (A : Option Addr) (c : Nat) (l : List S31) (s q : Int) (r : S26) (Av : Option Addr) (cv : Nat) (w : World) (hr : Kd.C k31 w A l.length l) (hc : l.length ≤ c) (hn : l.length < 1000000) (hv : ∀ x ∈ l, x.f2.f1.length < 140737488355328) (hrv : Kd.C (Kd.int .u8) w Av r.f1.length r.f1) (hcv : r.f1.length ≤ cv) (hvl : r.f1.length < 140737488355328) (ht : there l s = false) :
    Calls Try.prog 9 #[.slice A l.length c, .int .i64 s, .int .i64 q, .agg #[.int .i64 r.f0, .slice Av r.f1.length cv, .int .i64 r.f2]] w (PutEnd w (putP l s ⟨s, q, r⟩)) := by
  have W0 : ∃ W0, W0 = w.alloc (.cells #[.int .i64 r.f0, .slice Av r.f1.length cv, .int .i64 r.f2] 26) := ⟨_, rfl⟩
  obtain ⟨W0, hW0⟩ := W0
  have hb0 : Below w.heap.size w W0 := by rw [hW0]; exact below_alloc (Below.refl _ _) _
  have hk0 : W0.heap[w.heap.size]? = some (.cells #[.int .i64 r.f0, .slice Av r.f1.length cv, .int .i64 r.f2] 26 (0, 0)) := by rw [hW0]; exact heap_alloc_self w _
  have HI := Aside0.mk (still18 A c l W0 (Kd.C_below hr hb0) hc (by omega) hv)
  have HRV := Aside0.mk hrv
  have HCV := Aside0.mk hcv
  have HVL := Aside0.mk hvl
  have HN := Aside0.mk hn
  have HB0 := Aside0.mk hb0
  have HK0 := Aside0.mk hk0
  have hfi := fi_le l s
  have HT := Aside0.mk ht
  clear hr hc hv hrv hcv hvl ht hb0 hk0
  have hsz0 : W0.heap.size = w.heap.size + 1 := by rw [hW0]; simp
  go_enter Try.func9, Try.ntmps9
  go_wp2_with fail
  rw [← hW0]
  clear hW0
  refine HI.out.mono ?_
  intro e w1 h
  obtain ⟨A', rfl, hA', hFr, hb1⟩ := h
  clear HI
  have BK := blk_cells3 ((hb1.block _ (by omega)).trans HK0.out)
  obtain ⟨x0, x1, x2, x3⟩ := BK
  have y1 := x3 1
  have HX0 := Aside0.mk x0
  have HX2 := Aside0.mk x2
  have HX3 := Aside0.mk x3
  have HFr := Aside0.mk hFr
  have HB1 := Aside0.mk (below_then HB0.out HB0.out.size hb1)
  clear hFr x3 x0 x2
  go_wp2_with fail
  refine (clone17 Av cv r.f1 w1 (Kd.C_below HRV.out HB1.out) HCV.out HVL.out).mono ?_
  rintro e w2 ⟨v, rfl, ho, hb2⟩
  obtain ⟨Av2, cv2, rfl⟩ := Kd.R_slice ho
  have hlt1 : w.heap.size < w1.heap.size := (World.block_lt_of_cell? w1 _ x1)
  have z1 := (hb2.cell (p := ⟨w.heap.size, 1, none⟩) hlt1).trans x1
  have zf := (hb2.frozen (p := ⟨w.heap.size, 1, none⟩) hlt1).trans y1
  obtain ⟨w3, hw3⟩ : ∃ w3, w3 = w2.setCell ⟨w.heap.size, 1, none⟩ (.slice Av2 r.f1.length cv2) := ⟨_, rfl⟩
  have hk3 : ∀ k, k < w1.heap.size → k ≠ w.heap.size → w3.heap[k]? = w1.heap[k]? := fun k h h' => by
    rw [hw3]
    exact (Below.heap_setCell w2 _ _ k h').trans (hb2.block k h)
  have hF3 : Fr k31 31 w3 W0.heap.size A' l := by
    rcases HFr.out with h | ⟨g, cur, rfl, h1, h2, h3, h4, h5⟩
    · exact .inl h
    · have hgl := (Array.getElem?_eq_some_iff.1 h2).1
      exact .inr ⟨g, cur, rfl, h1, (hk3 g hgl (by omega)).trans h2, h3, h4, h5.imp_ (fun _ _ h => M_keep3 h (fun k a b _ => hk3 k b (by omega)))⟩
  have hR3 : Kd.R (Kd.int .u8) 5 w3 w1.heap.size (fun _ => True) (.slice Av2 r.f1.length cv2) r.f1 := by
    refine R_keep3 ho (fun k a b _ => ?_)
    rw [hw3]
    exact Below.heap_setCell w2 _ _ k (by show k ≠ w.heap.size; omega)
  have hB3 : Below w.heap.size w w3 := by
    rw [hw3]
    exact (below_then HB1.out HB1.out.size hb2).setCell (p := ⟨w.heap.size, 1, none⟩) (Nat.le_refl _) _
  have hs3 : w2.heap.size = w3.heap.size := by rw [hw3]; simp
  have BK3 : w3.heap[w.heap.size]? = some (.cells #[.int .i64 r.f0, .slice Av2 r.f1.length cv2, .int .i64 r.f2] 26 (0, 0)) := by
    rw [hw3]
    have h1 := (hb2.block _ hlt1).trans (hb1.block _ (by omega)) |>.trans HK0.out
    exact heap_setCell_same w2 _ 1 _ 26 _ h1
  have HI := Aside0.mk (find15 A' l.length l s w3 (Fr.C hF3) (Nat.le_refl _))
  rw [HT.out] at HI
  have HF3 := Aside0.mk hF3
  have HR3 := Aside0.mk hR3
  have HB3 := Aside0.mk hB3
  have HBK3 := Aside0.mk BK3
  have HK3 := Aside0.mk hk3
  have HB2s := Aside0.mk hb2.size
  clear hF3 hR3 hB3 BK3 hk3 x1 y1 ho hb2
  go_wp2_with fail
  rw [← hw3]
  clear hw3 z1 zf
  refine HI.out.mono ?_
  rintro e w4 ⟨rfl, hb4⟩
  have BK := blk_cells3 ((hb4.block _ (by have := HB2s.out; omega)).trans HBK3.out)
  obtain ⟨u0, u1, u2, u3⟩ := BK
  have u30 := u3 0
  have u31 := u3 1
  have u32 := u3 2
  have HB4 := Aside0.mk hb4
  clear u3 hb4 HI
  go_wp2_with fail
  obtain ⟨W6, hW6⟩ : ∃ W6, W6 = ((w4.alloc (.cells #[.int .i64 s, .int .i64 q, .int .i64 r.f0, .slice Av2 r.f1.length cv2, .int .i64 r.f2] 31)).alloc (.cells #[.int .i64 s, .int .i64 q, .int .i64 r.f0, .slice Av2 r.f1.length cv2, .int .i64 r.f2] 31)) := ⟨_, rfl⟩
  have hb6 : Below w4.heap.size w4 W6 := by rw [hW6]; exact below_alloc (below_alloc (Below.refl _ _) _) _
  have hs6 : W6.heap.size = w4.heap.size + 2 := by rw [hW6]; simp
  have hx6 : W6.heap[w4.heap.size + 1]? = some (.cells #[.int .i64 s, .int .i64 q, .int .i64 r.f0, .slice Av2 r.f1.length cv2, .int .i64 r.f2] 31 (0, 0)) := by
    rw [hW6]
    have := heap_alloc_self (w4.alloc (.cells #[.int .i64 s, .int .i64 q, .int .i64 r.f0, .slice Av2 r.f1.length cv2, .int .i64 r.f2] 31)) (.cells #[.int .i64 s, .int .i64 q, .int .i64 r.f0, .slice Av2 r.f1.length cv2, .int .i64 r.f2] 31)
    simpa using this
  rw [← hW6]
  clear hW6
  have h4s := HB4.out.size
  have h2s := HB2s.out
  have hF6 := Fr.below (Fr.below HF3.out HB4.out) hb6
  have hbel6 : Below w.heap.size w W6 := below_then (below_then HB3.out HB3.out.size HB4.out) (by omega) hb6
  have hR6 : Kd.R (Kd.int .u8) 5 W6 W0.heap.size (fun _ => True) (.slice Av2 r.f1.length cv2) r.f1 := Kd.R_lower (R_keep3 HR3.out (fun k a b e => by rw [hb6.block k (by omega), HB4.out.block k b])) (by omega)
  obtain ⟨olds, ho1, ho2, ho3⟩ := Fr_olds hF6 hA'
  have hx := k31_mkM W6 W0.heap.size (fun _ => True) ⟨s, q, r⟩ hR6
  refine (ins19 l.length (fi l s) olds [.int .i64 s, .int .i64 q, .int .i64 r.f0, .slice Av2 r.f1.length cv2, .int .i64 r.f2] W6 A' ⟨w4.heap.size + 1, 0, none⟩ 1 HN.out hfi (fun h => by rw [hA' h]; rfl) ho1 ho2 (reps_cells ho3) rfl (fun j v hj => ?_) (k31.K_one (k31.K_of_M hx))).mono ?_
  · rw [add_plain, (cell_of_heap hx6).1, ← hj, ← Array.getElem?_toList]
  · rintro e w7 ⟨cap, cur7, rfl, hcap, h7, hs7, ht7, hb7⟩
    have hxs := Aside0.mk hx
    have HH := Aside0.mk (show _ ∧ _ ∧ _ ∧ _ from ⟨h7, hs7, ht7, hb7⟩)
    have HO3 := Aside0.mk ho3
    have HL6 := Aside0.mk hbel6
    have HS6 := Aside0.mk hs6
    clear hs6 hx h7 hs7 ht7 hb7 ho3 ho1 ho2 hx6 hF6 hR6 hbel6 u0 u1 u2 u30 u31 u32 hb6
    go_wp2_with fail
    go_ret
    obtain ⟨h7, hs7, ht7, hb7⟩ := HH.out
    have hs6 := HS6.out
    have hp : putP l s ⟨s, q, r⟩ = l.take (fi l s) ++ ⟨s, q, r⟩ :: l.drop (fi l s) := by rw [putP, HT.out]; rfl
    have hl : (l.take (fi l s) ++ (⟨s, q, r⟩ : S31) :: l.drop (fi l s)).length = l.length + 1 := by simp; omega
    rw [hp]
    refine ⟨some ⟨W6.heap.size, 0, none⟩, cap, by rw [hl]; rfl, by rw [hl]; exact hcap, ?_, below_then HL6.out (by omega) hb7⟩
    exact Fr.lower (Fr_ins hfi HO3.out hxs.out hb7 (Nat.le_refl _) (by omega) h7 hs7 (by unfold maxLen; have := HN.out; omega) ht7) (by omega : w.heap.size ≤ W0.heap.size)
theorem put9 (A : Option Addr) (c : Nat) (l : List S31) (s q : Int) (r : S26) (Av : Option Addr) (cv : Nat) (w : World) (hr : Kd.C k31 w A l.length l) (hc : l.length ≤ c) (hn : l.length < 1000000) (hv : ∀ x ∈ l, x.f2.f1.length < 140737488355328) (hrv : Kd.C (Kd.int .u8) w Av r.f1.length r.f1) (hcv : r.f1.length ≤ cv) (hvl : r.f1.length < 140737488355328) :
    Calls Try.prog 9 #[.slice A l.length c, .int .i64 s, .int .i64 q, .agg #[.int .i64 r.f0, .slice Av r.f1.length cv, .int .i64 r.f2]] w (PutEnd w (putP l s ⟨s, q, r⟩)) := by
  cases ht : there l s with
  | true => exact put_there A c l s q r Av cv w hr hc hn hv hrv hcv hvl ht
  | false => exact put_new A c l s q r Av cv w hr hc hn hv hrv hcv hvl ht
end Go.Proofs.Ytjpgnipjgonplaa.Ss
