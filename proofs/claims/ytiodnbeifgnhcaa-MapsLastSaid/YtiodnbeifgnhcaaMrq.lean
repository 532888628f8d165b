/- The document's Put and Del, walked further. -/
import Derived.Deep.RegionLaw
import Derived.Laws.IdiomCopy
import Derived.Test.YtiodnbeifgnhcaaMrp
namespace Go.Proofs.Ytiodnbeifgnhcaa.Ms
open Go.RowKit Go.Proofs.YtiodnbeifgnhcaaW.PrintWords Go.Proofs.YtiodnbeifgnhcaaW.PrintLast Go.Proofs.YtiodnbeifgnhcaaW.PrintMore
attribute [local go_sem] max2_int min2_int max_two min_two max_three min_three max_four min_four
set_option linter.unusedVariables false
set_option linter.unusedSimpArgs false
set_option maxHeartbeats 1000000 in
theorem rput_there (A B D : Option Addr) (c d f : Nat) (l : List S32) (k v : List Int) (w : World) (hr : Kd.C k32 w A l.length l) (hc : l.length ≤ c) (hn : l.length < 1000000) (hv : ∀ x ∈ l, x.f0.length < 140737488355328 ∧ x.f1.length < 140737488355328) (hk : Kd.C (Kd.int .u8) w B k.length k) (hd : k.length ≤ d) (hvr : Kd.C (Kd.int .u8) w D v.length v) (hvf : v.length ≤ f) (h8 : k.length ≤ 8) (h16 : v.length ≤ 16) (ht : (findR l k).2 = true) :
    Calls Try.prog 11 #[.slice A l.length c, .slice B k.length d, .slice D v.length f] w (PutEnd w (l.set (findR l k).1 ⟨(rd_T32 l ((findR l k).1 : Int)).f0, v⟩) ⟨0, (rd_T32 l ((findR l k).1 : Int)).f1, (l.length : Int)⟩) := by
  obtain ⟨W0, hW0⟩ : ∃ W0, W0 = w.alloc (.cells #[.int .i64 0, .slice none 0 0, .int .i64 0] 26) := ⟨_, rfl⟩
  have hb0 : Below w.heap.size w W0 := by rw [hW0]; exact below_alloc (Below.refl _ _) _
  have hk0 : W0.heap[w.heap.size]? = some (.cells #[.int .i64 0, .slice none 0 0, .int .i64 0] 26 (0, 0)) := by rw [hW0]; exact heap_alloc_self w _
  have hs0 : W0.heap.size = w.heap.size + 1 := by rw [hW0]; simp
  have HI := Aside0.mk (pairs20 A c l W0 (Kd.C_below hr hb0) hc hn hv)
  have HB0 := Aside0.mk hb0
  have HK0 := Aside0.mk hk0
  have HS0 := Aside0.mk hs0
  have HR := Aside0.mk hr
  have HRc := Aside0.mk hc
  have HK := Aside0.mk hk
  have HD := Aside0.mk hd
  have HN := Aside0.mk hn
  have c1 : decide ((8 : Int) < (k.length : Int)) = false := decide_eq_false (by omega)
  have c2 : decide ((16 : Int) < (v.length : Int)) = false := decide_eq_false (by omega)
  have HV := Aside0.mk hvr
  have HVF := Aside0.mk hvf
  clear hvr hvf
  clear hr hc hv hb0 hk0 hk hd hs0 hn
  go_enter Try.func11, Try.ntmps11
  go_wp2_with fail
  rw [← hW0]
  refine HI.out.mono ?_
  rintro e w1 ⟨A', c', rfl, hc', hS, hb1⟩
  clear HI
  have HS1 := Aside0.mk hS
  have HF1 := Aside0.mk (S_Fr hS)
  have HC1 := Aside0.mk hc'
  have HA1 := Aside0.mk (S_cap hS).2
  have HB1 := Aside0.mk hb1
  have HI := Aside0.mk (key22 A B c d l k w1 (Kd.C_below HR.out (below_then HB0.out HB0.out.size hb1)) HRc.out (Kd.C_below HK.out (below_then HB0.out HB0.out.size hb1)) HD.out)
  rw [keyR, ht, if_pos rfl] at HI
  clear hS hb1 hc'
  go_wp2_with fail
  refine HI.out.mono ?_
  rintro e w2 ⟨rfl, hb2⟩
  have BK : w2.heap[w.heap.size]? = some (.cells #[.int .i64 0, .slice none 0 0, .int .i64 0] 26 (0, 0)) := (hb2.block _ (by have := HB1.out.size; have := HS0.out; omega)).trans ((HB1.out.block _ (by have := HS0.out; omega)).trans HK0.out)
  have BKs := Aside0.mk BK
  have HB2 := Aside0.mk hb2
  clear BK hb2 HI
  have hlt : (findR l k).1 < l.length := findR_lt l k ht
  obtain ⟨g, cur, rfl, hgb, hg1, hnc, hcm, hcs', hgr⟩ := S_row HS1.out (fun h => by rw [h] at hlt; simp at hlt)
  have hcs' : cur.size = c' * 2 := hcs'
  have hgs : l.length * 2 ≤ cur.size := by omega
  have hgm : l.length ≤ maxLen := by omega
  have hgr : Reps (k32.M w1 W0.heap.size (fun k => k ≠ g)) 2 l (cur.toList.take (l.length * 2)) := hgr
  have hM := hgr.2 (findR l k).1 (rd_T32 l ((findR l k).1 : Int)) (by rw [rd_get l _ hlt]; exact List.getElem?_eq_getElem hlt)
  obtain ⟨u0, u1, hcs, hR0, hR1⟩ := k32_openM hM
  have hcell : ∀ j u, j < 2 → [u0, u1][j]? = some u → cur[(findR l k).1 * 2 + j]? = some u := fun j u hj hu => by
    rw [← hcs, List.getElem?_take, if_pos hj, List.getElem?_drop, List.getElem?_take, if_pos (show _ < l.length * 2 by omega), Array.getElem?_toList] at hu
    exact hu
  have hg2 : w2.heap[g]? = some (.cells cur 32 (0, 0)) := (HB2.out.block g (blk_lt hg1)).trans hg1
  obtain ⟨A1, c1', rfl⟩ := Kd.R_slice hR1
  have z1 : w2.cell? ⟨g, (findR l k).1 * 2 + 1, none⟩ = some (.slice A1 (rd_T32 l ((findR l k).1 : Int)).f1.length c1') := (cell_of_heap hg2).1.trans (hcell 1 _ (by decide) rfl)
  have HG := Aside0.mk (show _ ∧ _ ∧ _ ∧ _ ∧ _ from ⟨hgb, hg1, hgs, hgm, hgr⟩)
  have HC := Aside0.mk hcell
  have HR0 := Aside0.mk hR0
  have HR1 := Aside0.mk hR1
  have HG2 := Aside0.mk hg2
  have HLT := Aside0.mk hlt
  clear hgb hg1 hnc hcm hcs' hgs hgm hgr hM hcs hcell hR0 hR1 hg2
  go_wp2_with fail
  refine (own23 D f v w2 (Kd.C_below (Kd.C_below HV.out (below_then HB0.out HB0.out.size HB1.out)) HB2.out) HVF.out (by omega)).mono ?_
  rintro e w3 ⟨va, rfl, ho, hb3⟩
  obtain ⟨Av, cv, rfl⟩ := Kd.R_slice ho
  have hg3 : w3.heap[g]? = some (.cells cur 32 (0, 0)) := (hb3.block g (blk_lt HG2.out)).trans HG2.out
  have z3 : w3.cell? ⟨g, (findR l k).1 * 2 + 1, none⟩ = some (.slice A1 (rd_T32 l ((findR l k).1 : Int)).f1.length c1') := (cell_of_heap hg3).1.trans (HC.out 1 _ (by decide) rfl)
  have z4 : w3.frozen? ⟨g, (findR l k).1 * 2 + 1, none⟩ = false := (cell_of_heap hg3).2
  have BK3 : w3.heap[w.heap.size]? = some (.cells #[.int .i64 0, .slice none 0 0, .int .i64 0] 26 (0, 0)) := (hb3.block _ (blk_lt BKs.out)).trans BKs.out
  obtain ⟨W4, hW4⟩ : ∃ W4, W4 = w3.setCell ⟨g, (findR l k).1 * 2 + 1, none⟩ (.slice Av v.length cv) := ⟨_, rfl⟩
  have hne : w.heap.size ≠ g := by have := HG.out.1; have := HS0.out; omega
  have hg4 : W4.heap[g]? = some (.cells (cur.setIfInBounds ((findR l k).1 * 2 + 1) (.slice Av v.length cv)) 32 (0, 0)) := by rw [hW4]; exact heap_set_same _ hg3
  have BK4 : W4.heap[w.heap.size]? = some (.cells #[.int .i64 0, .slice none 0 0, .int .i64 0] 26 (0, 0)) := by rw [hW4]; exact blk_far BK3 hne _
  have hk4 : ∀ k, k ≠ g → W4.heap[k]? = w3.heap[k]? := fun k h => by rw [hW4]; exact Below.heap_setCell _ _ _ k h
  have hs4 : W4.heap.size = w3.heap.size := by rw [hW4]; simp [World.setCell]
  obtain ⟨x0, x1, x2, x3⟩ := blk_cells3 BK4
  have x30 := x3 0
  have x31 := x3 1
  have x32 := x3 2
  have HO := Aside0.mk ho
  have HB3 := Aside0.mk hb3
  have HG4 := Aside0.mk hg4
  have HK4 := Aside0.mk hk4
  have HS4 := Aside0.mk hs4
  have BKs4 := Aside0.mk BK4
  have HW4 := Aside0.mk hW4
  have HNE := Aside0.mk hne
  rw [hW4] at x0 x1 x2 x30 x31 x32
  clear BK3 ho hb3 x3 hg4 hk4 hs4 BK4 hg3 hne hW4
  go_wp2_with fail
  rw [← HW4.out]
  refine bodyPost_ret (results_tc rfl _ _ w.heap.size 26 #[.int .i64 0, .slice A1 (rd_T32 l ((findR l k).1 : Int)).f1.length c1', .int .i64 (l.length : Int)] (0, 0) _ rfl (by refine blk_put (cs := #[.int .i64 0, .slice A1 (rd_T32 l ((findR l k).1 : Int)).f1.length c1', .int .i64 0]) ?_ 2 _ rfl; refine blk_put (cs := #[.int .i64 0, .slice none 0 0, .int .i64 0]) ?_ 1 _ rfl; refine blk_put (cs := #[.int .i64 0, .slice none 0 0, .int .i64 0]) ?_ 0 _ rfl; exact BKs4.out) Try.underlying26 rfl (by kernel_rfl)) rfl ?_
  have hs0 := HS0.out
  have h1s := HB1.out.size
  have h2s := HB2.out.size
  have h3s := HB3.out.size
  have h4s := HS4.out
  obtain ⟨h1, h2, h3, h4, h5⟩ := HG.out
  have hB3 := below_then (below_then (below_then HB0.out HB0.out.size HB1.out) (by omega) HB2.out) (by omega) HB3.out
  have hB4 : Below w.heap.size w W4 := by rw [HW4.out]; exact hB3.setCell (p := ⟨g, _, none⟩) (by show w.heap.size ≤ g; omega) _
  have hgl := blk_lt h2
  refine ⟨some ⟨g, 0, none⟩, c', _, by rw [List.length_set]; rfl, by rw [List.length_set]; exact HC1.out, ?_, ?_, ((hB4.setCell (Nat.le_refl _) _).setCell (Nat.le_refl _) _).setCell (Nat.le_refl _) _⟩
  · refine Fr.lower (Fr_set1 (w := w1) (base := W0.heap.size) (u := .slice Av v.length cv) HLT.out h1 h3 h4 h5 (fun y cs hy => M_keep3 hy (fun k a b e => ?_)) (HC.out 0 _ (by decide) rfl) (k32_mkM _ _ _ ⟨(rd_T32 l ((findR l k).1 : Int)).f0, v⟩ (R_keep3 HR0.out (fun k a b e => ?_)) (Kd.R_lower (Kd.R_mono (Kd.R_bound (R_keep3 HO.out (fun k a b e => ?_))) (fun k hk => ?_)) (by omega : W0.heap.size ≤ w2.heap.size))) ?_) (by omega)
    · rw [keep_put3 _ _ _ _ _ _ _ _ _ (by omega), HK4.out k e, HB3.out.block k (by omega), HB2.out.block k (by omega)]
    · rw [keep_put3 _ _ _ _ _ _ _ _ _ (by omega), HK4.out k e, HB3.out.block k (by omega), HB2.out.block k (by omega)]
    · rw [keep_put3 _ _ _ _ _ _ _ _ _ (by omega), HK4.out k (by omega)]
    · have := hk.2.1; omega
    · rw [keep_put3 _ _ _ _ _ _ _ _ _ (by omega)]; exact HG4.out
  · refine Kd.R_lower (Kd.R_mono (R_keep3 HR1.out (fun k a b e => ?_)) (fun _ _ => trivial)) (by omega)
    rw [keep_put3 _ _ _ _ _ _ _ _ _ (by omega), HK4.out k e, HB3.out.block k (by omega), HB2.out.block k (by omega)]
end Go.Proofs.Ytiodnbeifgnhcaa.Ms
