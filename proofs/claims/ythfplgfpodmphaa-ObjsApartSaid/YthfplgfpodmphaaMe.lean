/- maps.Del, walked. -/
import Derived.Test.YthfplgfpodmphaaMd
namespace Go.Proofs.Ythfplgfpodmphaa.Ms
open Go.RowKit Go.Proofs.YthfplgfpodmphaaW.PrintWords Go.Proofs.YthfplgfpodmphaaW.PrintLast Go.Proofs.YthfplgfpodmphaaW.PrintMore
attribute [local go_sem] max2_int min2_int max_two min_two max_three min_three max_four min_four
set_option linter.unusedVariables false
set_option linter.unusedSimpArgs false
set_option maxRecDepth 100000
set_option maxHeartbeats 1000000 in
theorem delk_none (A B : Option Addr) (c d : Nat) (l : List S32) (k : List Int) (w : World) (hr : Kd.C k32 w A l.length l) (hc : l.length ≤ c) (hn : l.length < 1000000) (hv : ∀ x ∈ l, x.f0.length < 140737488355328 ∧ x.f1.length < 140737488355328) (hk : Kd.C (Kd.int .u8) w B k.length k) (hd : k.length ≤ d) (ht : (findR l k).2 = false) :
    Calls Try.prog 37 #[.slice A l.length c, .slice B k.length d] w (PutEnd w l ⟨5, [], 0⟩) := by
  obtain ⟨W0, hW0⟩ : ∃ W0, W0 = w.alloc (.cells #[.int .i64 0, .slice none 0 0, .int .i64 0] 34) := ⟨_, rfl⟩
  have hb0 : Below w.heap.size w W0 := by rw [hW0]; exact below_alloc (Below.refl _ _) _
  have hk0 : W0.heap[w.heap.size]? = some (.cells #[.int .i64 0, .slice none 0 0, .int .i64 0] 34 (0, 0)) := by rw [hW0]; exact heap_alloc_self w _
  have hs0 : W0.heap.size = w.heap.size + 1 := by rw [hW0]; simp
  have HI := Aside0.mk (still16 A c l W0 (Kd.C_below hr hb0) hc hn hv)
  have HB0 := Aside0.mk hb0
  have HK0 := Aside0.mk hk0
  have HS0 := Aside0.mk hs0
  have HK := Aside0.mk hk
  have HD := Aside0.mk hd
  have HN := Aside0.mk hn
  clear hr hc hv hb0 hk0 hk hd hs0 hn
  go_enter Try.func37, Try.ntmps37
  go_wp2_with fail
  rw [← hW0]
  refine HI.out.mono ?_
  rintro e w1 ⟨A', rfl, ⟨c', hS⟩, hb1⟩
  clear HI
  have HF1 := Aside0.mk (S_Fr hS)
  have HA1 := Aside0.mk (S_cap hS).2
  have HI := Aside0.mk (find17 A' B l.length d l k w1 (Fr.C HF1.out) (Nat.le_refl _) (Kd.C_below HK.out (below_then HB0.out HB0.out.size hb1)) HD.out)
  have HB1 := Aside0.mk hb1
  clear hS hb1
  rw [ht] at HI
  go_wp2_with fail
  refine HI.out.mono ?_
  rintro e w2 ⟨rfl, hb2⟩
  have BK : w2.heap[w.heap.size]? = some (.cells #[.int .i64 0, .slice none 0 0, .int .i64 0] 34 (0, 0)) := (hb2.block _ (by have := HB1.out.size; have := HS0.out; omega)).trans ((HB1.out.block _ (by have := HS0.out; omega)).trans HK0.out)
  obtain ⟨x0, x1, x2, x3⟩ := blk_cells3 BK
  have x30 := x3 0
  have x31 := x3 1
  have x32 := x3 2
  have BKs := Aside0.mk BK
  have HB2 := Aside0.mk hb2
  clear BK hb2 HI x3
  go_wp2_with fail
  refine bodyPost_ret (results_tc rfl _ _ w.heap.size 34 #[.int .i64 5, .slice none 0 0, .int .i64 0] (0, 0) _ rfl (by refine blk_put (cs := #[.int .i64 5, .slice none 0 0, .int .i64 0]) ?_ 2 _ rfl; refine blk_put (cs := #[.int .i64 5, .slice none 0 0, .int .i64 0]) ?_ 1 _ rfl; refine blk_put (cs := #[.int .i64 0, .slice none 0 0, .int .i64 0]) ?_ 0 _ rfl; exact BKs.out) Try.underlying34 rfl (by kernel_rfl)) rfl ?_
  have hs0 := HS0.out
  have hB2 := below_then (below_then HB0.out HB0.out.size HB1.out) (by have := HB1.out.size; omega) HB2.out
  refine ⟨A', l.length, _, rfl, Nat.le_refl _, ?_, Kd.R_nil _ _ _ _ _, ((hB2.setCell (Nat.le_refl _) _).setCell (Nat.le_refl _) _).setCell (Nat.le_refl _) _⟩
  refine Fr.lower (Fr.keep (Fr.below HF1.out HB2.out) (fun k a b => keep_put3 _ _ _ _ _ _ _ _ _ (by omega))) (by omega)
set_option maxHeartbeats 1000000 in
theorem delk_some (A B : Option Addr) (c d : Nat) (l : List S32) (k : List Int) (w : World) (hr : Kd.C k32 w A l.length l) (hc : l.length ≤ c) (hn : l.length < 1000000) (hv : ∀ x ∈ l, x.f0.length < 140737488355328 ∧ x.f1.length < 140737488355328) (hk : Kd.C (Kd.int .u8) w B k.length k) (hd : k.length ≤ d) (ht : (findR l k).2 = true) :
    Calls Try.prog 37 #[.slice A l.length c, .slice B k.length d] w (PutEnd w (l.take (findR l k).1 ++ l.drop ((findR l k).1 + 1)) ⟨0, (rd_T32 l ((findR l k).1 : Int)).f1, 0⟩) := by
  obtain ⟨W0, hW0⟩ : ∃ W0, W0 = w.alloc (.cells #[.int .i64 0, .slice none 0 0, .int .i64 0] 34) := ⟨_, rfl⟩
  have hb0 : Below w.heap.size w W0 := by rw [hW0]; exact below_alloc (Below.refl _ _) _
  have hk0 : W0.heap[w.heap.size]? = some (.cells #[.int .i64 0, .slice none 0 0, .int .i64 0] 34 (0, 0)) := by rw [hW0]; exact heap_alloc_self w _
  have hs0 : W0.heap.size = w.heap.size + 1 := by rw [hW0]; simp
  have HI := Aside0.mk (still16 A c l W0 (Kd.C_below hr hb0) hc hn hv)
  have HB0 := Aside0.mk hb0
  have HK0 := Aside0.mk hk0
  have HS0 := Aside0.mk hs0
  have HK := Aside0.mk hk
  have HD := Aside0.mk hd
  have HN := Aside0.mk hn
  clear hr hc hv hb0 hk0 hk hd hs0 hn
  go_enter Try.func37, Try.ntmps37
  go_wp2_with fail
  rw [← hW0]
  refine HI.out.mono ?_
  rintro e w1 ⟨A', rfl, ⟨c', hS⟩, hb1⟩
  clear HI
  have HF1 := Aside0.mk (S_Fr hS)
  have HA1 := Aside0.mk (S_cap hS).2
  have HI := Aside0.mk (find17 A' B l.length d l k w1 (Fr.C HF1.out) (Nat.le_refl _) (Kd.C_below HK.out (below_then HB0.out HB0.out.size hb1)) HD.out)
  have HB1 := Aside0.mk hb1
  clear hS hb1
  rw [ht] at HI
  go_wp2_with fail
  refine HI.out.mono ?_
  rintro e w2 ⟨rfl, hb2⟩
  have BK : w2.heap[w.heap.size]? = some (.cells #[.int .i64 0, .slice none 0 0, .int .i64 0] 34 (0, 0)) := (hb2.block _ (by have := HB1.out.size; have := HS0.out; omega)).trans ((HB1.out.block _ (by have := HS0.out; omega)).trans HK0.out)
  have hlt : (findR l k).1 < l.length := findR_lt l k ht
  obtain ⟨g, cur, rfl, hgb, hg1, hgs, hgm, hgr⟩ : ∃ g cur, A' = some ⟨g, 0, none⟩ ∧ W0.heap.size ≤ g ∧ w1.heap[g]? = some (.cells cur 42 (0, 0)) ∧ l.length * 2 ≤ cur.size ∧ l.length ≤ maxLen ∧ Reps (k32.M w1 W0.heap.size (fun k => k ≠ g)) 2 l (cur.toList.take (l.length * 2)) := by
    rcases HF1.out with h | h
    · rw [h] at hlt; simp at hlt
    · exact h
  have hM := hgr.2 (findR l k).1 (rd_T32 l ((findR l k).1 : Int)) (by rw [rd_get l _ hlt]; exact List.getElem?_eq_getElem hlt)
  obtain ⟨u0, u1, hcs, hR0, hR1⟩ := k32_openM hM
  have hcell : ∀ j u, j < 2 → [u0, u1][j]? = some u → cur[(findR l k).1 * 2 + j]? = some u := fun j u hj hu => by
    rw [← hcs, List.getElem?_take, if_pos hj, List.getElem?_drop, List.getElem?_take, if_pos (by omega), Array.getElem?_toList] at hu
    exact hu
  have hg2 : w2.heap[g]? = some (.cells cur 42 (0, 0)) := (hb2.block g (blk_lt hg1)).trans hg1
  obtain ⟨A1, c1', rfl⟩ := Kd.R_slice hR1
  have z1 : w2.cell? ⟨g, (findR l k).1 * 2 + 1, none⟩ = some (.slice A1 (rd_T32 l ((findR l k).1 : Int)).f1.length c1') := (cell_of_heap hg2).1.trans (hcell 1 _ (by decide) rfl)
  obtain ⟨n, hn1⟩ : ∃ n, l.length = n + 1 := ⟨l.length - 1, by omega⟩
  have hone : ∀ v ∈ cur.toList.take ((n + 1) * 2), v.oneCell' = true := by rw [← hn1]; exact reps_cells hgr
  have hDL := del24 g n (findR l k).1 cur w2 hg2 (by omega) (by have := HN.out; omega) (by omega) hone
  rw [← hn1] at hDL
  have HDL := Aside0.mk hDL
  have HN1 := Aside0.mk hn1
  have HG := Aside0.mk (show _ ∧ _ ∧ _ ∧ _ ∧ _ from ⟨hgb, hg1, hgs, hgm, hgr⟩)
  have HR1 := Aside0.mk hR1
  have HB2 := Aside0.mk hb2
  have BKs := Aside0.mk BK
  have HLT := Aside0.mk hlt
  have ew : IntKind.i64.wrap (((findR l k).1 : Int) + 1) = ((findR l k).1 : Int) + 1 := by rw [IntKind.wrap_i64]; have := HN.out; omega
  clear BK hb2 HI hgb hg1 hgs hgm hgr hM hcs hcell hR0 hR1 hg2 hn1 hone hDL
  go_wp2_with fail
  refine HDL.out.mono ?_
  rintro e w3 ⟨rfl, ⟨cur', hg3, hs3, ht3⟩, hk3, hz3, hb3⟩
  have hne : w.heap.size ≠ g := by have := HG.out.1; have := HS0.out; omega
  have BK3 : w3.heap[w.heap.size]? = some (.cells #[.int .i64 0, .slice none 0 0, .int .i64 0] 34 (0, 0)) := (hk3 _ hne).trans BKs.out
  obtain ⟨x0, x1, x2, x3⟩ := blk_cells3 BK3
  have x30 := x3 0
  have x31 := x3 1
  have x32 := x3 2
  have HH := Aside0.mk (show _ ∧ _ ∧ _ ∧ _ ∧ _ ∧ _ from ⟨hg3, hs3, ht3, hk3, hz3, hb3⟩)
  have BKs3 := Aside0.mk BK3
  have HNE := Aside0.mk hne
  clear hg3 hs3 ht3 hk3 hz3 hb3 BK3 hne x3 HDL
  go_wp2_with fail
  refine bodyPost_ret (results_tc rfl _ _ w.heap.size 34 #[.int .i64 0, .slice A1 (rd_T32 l ((findR l k).1 : Int)).f1.length c1', .int .i64 0] (0, 0) _ rfl (by refine blk_put (cs := #[.int .i64 0, .slice A1 (rd_T32 l ((findR l k).1 : Int)).f1.length c1', .int .i64 0]) ?_ 2 _ rfl; refine blk_put (cs := #[.int .i64 0, .slice none 0 0, .int .i64 0]) ?_ 1 _ rfl; refine blk_put (cs := #[.int .i64 0, .slice none 0 0, .int .i64 0]) ?_ 0 _ rfl; exact BKs3.out) Try.underlying34 rfl (by kernel_rfl)) rfl ?_
  have hs0 := HS0.out
  have h1s := HB1.out.size
  have h2s := HB2.out.size
  have hn1 := HN1.out
  have hlt := HLT.out
  obtain ⟨h1, h2, h3, h4, h5⟩ := HG.out
  obtain ⟨hg3, hs3, ht3, hk3, hz3, hb3⟩ := HH.out
  have hgl := blk_lt h2
  have hB2 := below_then (below_then HB0.out HB0.out.size HB1.out) (by omega) HB2.out
  have hB3 := hb3 _ _ hB2 (by omega)
  have hl : (l.take (findR l k).1 ++ l.drop ((findR l k).1 + 1)).length = n := by simp; omega
  refine ⟨some ⟨g, 0, none⟩, n + 1, _, by rw [hl]; rfl, by rw [hl]; omega, ?_, ?_, ((hB3.setCell (Nat.le_refl _) _).setCell (Nat.le_refl _) _).setCell (Nat.le_refl _) _⟩
  · refine .inr ⟨g, cur', rfl, by omega, (keep_put3 _ _ _ _ _ _ _ _ _ HNE.out.symm).trans hg3, by rw [hl]; show n * 2 ≤ _; omega, by rw [hl]; omega, ?_⟩
    rw [hl]
    show Reps _ 2 _ (List.take (n * 2) _)
    rw [ht3]
    have hR := reps_app (reps_take h5 (findR l k).1 (by omega)) (reps_drop h5 ((findR l k).1 + 1))
    rw [List.take_take, Nat.min_eq_left (by omega), List.drop_take, show l.length * 2 - ((findR l k).1 + 1) * 2 = (n - (findR l k).1) * 2 by omega] at hR
    exact hR.imp_ (fun y c hy => (k32.M_lower (by omega) (M_keep3 hy (fun k a b e => by rw [keep_put3 _ _ _ _ _ _ _ _ _ (by omega), hk3 k e, HB2.out.block k (by omega)]))))
  · refine Kd.R_lower (Kd.R_mono (R_keep3 HR1.out (fun k a b e => ?_)) (fun _ _ => trivial)) (by omega)
    rw [keep_put3 _ _ _ _ _ _ _ _ _ (by omega), hk3 k e, HB2.out.block k (by omega)]
def delR (l : List S32) (k : List Int) : List S32 × S26 := if (findR l k).2 = true then (l.take (findR l k).1 ++ l.drop ((findR l k).1 + 1), ⟨0, (rd_T32 l ((findR l k).1 : Int)).f1, 0⟩) else (l, ⟨5, [], 0⟩)
theorem del12 (A B : Option Addr) (c d : Nat) (l : List S32) (k : List Int) (w : World) (hr : Kd.C k32 w A l.length l) (hc : l.length ≤ c) (hn : l.length < 1000000) (hv : ∀ x ∈ l, x.f0.length < 140737488355328 ∧ x.f1.length < 140737488355328) (hk : Kd.C (Kd.int .u8) w B k.length k) (hd : k.length ≤ d) : Calls Try.prog 37 #[.slice A l.length c, .slice B k.length d] w (PutEnd w (delR l k).1 (delR l k).2) := by
  unfold delR
  cases ht : (findR l k).2 with
  | true => rw [if_pos rfl]; exact delk_some A B c d l k w hr hc hn hv hk hd ht
  | false => rw [if_neg (by simp)]; exact delk_none A B c d l k w hr hc hn hv hk hd ht
end Go.Proofs.Ythfplgfpodmphaa.Ms
