/- The document's Del, walked further. -/
import Derived.Deep.RegionLaw
import Derived.Laws.IdiomCopy
import Derived.Test.YtiodnbeifgnhcaaMrp
namespace Go.Proofs.Ytiodnbeifgnhcaa.Ms
open Go.RowKit Go.Proofs.YtiodnbeifgnhcaaW.PrintWords Go.Proofs.YtiodnbeifgnhcaaW.PrintLast Go.Proofs.YtiodnbeifgnhcaaW.PrintMore
attribute [local go_sem] max2_int min2_int max_two min_two max_three min_three max_four min_four
set_option linter.unusedVariables false
set_option linter.unusedSimpArgs false
set_option maxHeartbeats 1000000 in
set_option maxRecDepth 1000000 in
theorem rdel_some (A B : Option Addr) (c d : Nat) (l : List S32) (k : List Int) (w : World) (hr : Kd.C k32 w A l.length l) (hc : l.length ≤ c) (hn : l.length < 1000000) (hv : ∀ x ∈ l, x.f0.length < 140737488355328 ∧ x.f1.length < 140737488355328) (hk : Kd.C (Kd.int .u8) w B k.length k) (hd : k.length ≤ d) (ht : (findR l k).2 = true) :
    Calls Try.prog 13 #[.slice A l.length c, .slice B k.length d] w (PutEnd w (l.take (findR l k).1 ++ l.drop ((findR l k).1 + 1)) ⟨0, (rd_T32 l ((findR l k).1 : Int)).f1, 0⟩) := by
  obtain ⟨W0, hW0⟩ : ∃ W0, W0 = w.alloc (.cells #[.int .i64 0, .slice none 0 0, .int .i64 0] 26) := ⟨_, rfl⟩
  have hb0 : Below w.heap.size w W0 := by rw [hW0]; exact below_alloc (Below.refl _ _) _
  have hk0 : W0.heap[w.heap.size]? = some (.cells #[.int .i64 0, .slice none 0 0, .int .i64 0] 26 (0, 0)) := by rw [hW0]; exact heap_alloc_self w _
  have hs0 : W0.heap.size = w.heap.size + 1 := by rw [hW0]; simp
  have HI := Aside0.mk (pairs20 A c l W0 (Kd.C_below hr hb0) hc hn hv)
  have HB0 := Aside0.mk hb0
  have HK0 := Aside0.mk hk0
  have HS0 := Aside0.mk hs0
  have HR := Aside0.mk hr
  have HRc := Aside0.mk hc
  have HK := Aside0.mk hk
  have HD := Aside0.mk hd
  have HN := Aside0.mk hn
  clear hr hc hv hb0 hk0 hk hd hs0 hn
  go_enter Try.func13, Try.ntmps13
  go_wp2_with fail
  rw [← hW0]
  refine HI.out.mono ?_
  rintro e w1 ⟨A', c', rfl, hc', hS, hb1⟩
  clear HI
  have HS1 := Aside0.mk hS
  have HF1 := Aside0.mk (S_Fr hS)
  have HC1 := Aside0.mk hc'
  have HA1 := Aside0.mk (S_cap hS).2
  have HB1 := Aside0.mk hb1
  have HI := Aside0.mk (key22 A B c d l k w1 (Kd.C_below HR.out (below_then HB0.out HB0.out.size hb1)) HRc.out (Kd.C_below HK.out (below_then HB0.out HB0.out.size hb1)) HD.out)
  rw [keyR, ht, if_pos rfl] at HI
  clear hS hb1 hc'
  go_wp2_with fail
  refine HI.out.mono ?_
  rintro e w2 ⟨rfl, hb2⟩
  have BK : w2.heap[w.heap.size]? = some (.cells #[.int .i64 0, .slice none 0 0, .int .i64 0] 26 (0, 0)) := (hb2.block _ (by have := HB1.out.size; have := HS0.out; omega)).trans ((HB1.out.block _ (by have := HS0.out; omega)).trans HK0.out)
  have BKs := Aside0.mk BK
  have HB2 := Aside0.mk hb2
  clear BK hb2 HI
  have hlt : (findR l k).1 < l.length := findR_lt l k ht
  obtain ⟨g, cur, rfl, hgb, hg1, hnc, hcm, hcs', hgr⟩ := S_row HS1.out (fun h => by rw [h] at hlt; simp at hlt)
  have hcs' : cur.size = c' * 2 := hcs'
  have hgr : Reps (k32.M w1 W0.heap.size (fun k => k ≠ g)) 2 l (cur.toList.take (l.length * 2)) := hgr
  have hM := hgr.2 (findR l k).1 (rd_T32 l ((findR l k).1 : Int)) (by rw [rd_get l _ hlt]; exact List.getElem?_eq_getElem hlt)
  obtain ⟨u0, u1, hcs, hR0, hR1⟩ := k32_openM hM
  have hcell : ∀ j u, j < 2 → [u0, u1][j]? = some u → cur[(findR l k).1 * 2 + j]? = some u := fun j u hj hu => by
    rw [← hcs, List.getElem?_take, if_pos hj, List.getElem?_drop, List.getElem?_take, if_pos (show _ < l.length * 2 by omega), Array.getElem?_toList] at hu
    exact hu
  have hg2 : w2.heap[g]? = some (.cells cur 32 (0, 0)) := (HB2.out.block g (blk_lt hg1)).trans hg1
  obtain ⟨A1, c1', rfl⟩ := Kd.R_slice hR1
  have z1 : w2.cell? ⟨g, (findR l k).1 * 2 + 1, none⟩ = some (.slice A1 (rd_T32 l ((findR l k).1 : Int)).f1.length c1') := (cell_of_heap hg2).1.trans (hcell 1 _ (by decide) rfl)
  obtain ⟨i, hie⟩ : ∃ i, i = (findR l k).1 := ⟨_, rfl⟩
  rw [← hie] at z1 hlt hcell
  have hlt0 := hlt
  obtain ⟨i0, hi0, hzz⟩ := Option.map_eq_some_iff.1 info32
  simp only [Prod.mk.injEq] at hzz
  obtain ⟨hz0, hz1, hz2⟩ := hzz
  obtain ⟨news, hnews⟩ : ∃ news, news = (cur.toList.drop ((i + 1) * 2)).take ((l.length - (i + 1)) * 2) := ⟨_, rfl⟩
  have hlen : news.length = (l.length - (i + 1)) * 2 := by rw [hnews]; simp; omega
  have hone : ∀ v ∈ news, v.oneCell' = true := fun v hv => by
    rw [hnews] at hv
    obtain ⟨j, hj, rfl⟩ := List.mem_iff_getElem.1 hv
    simp only [List.length_take, List.length_drop, Array.length_toList] at hj
    rw [List.getElem_take, List.getElem_drop]
    refine reps_cells hgr _ (List.mem_iff_getElem.2 ⟨(i + 1) * 2 + j, by simp; omega, ?_⟩)
    rw [List.getElem_take]
  have hget : ∀ t u, news[t]? = some u → w2.drew.cell? ⟨g, (i + 1) * 2 + t, none⟩ = some u := fun t u hu => by
    rw [hnews, List.getElem?_take] at hu
    split at hu
    · rw [List.getElem?_drop, Array.getElem?_toList] at hu
      exact (cell_of_heap (w := w2.drew) hg2).1.trans hu
    · cases hu
  obtain ⟨Ad, hA, hsrc⟩ : ∃ Ad : Addr, (if c' = i + 1 then some (⟨g, 0, none⟩ : Addr) else some ⟨g, (i + 1) * 2, none⟩) = some Ad ∧ Hid (∀ t u, news[t]? = some u → w2.drew.cell? (Ad.add t) = some u) := by
    by_cases h : c' = i + 1
    · refine ⟨⟨g, 0, none⟩, by simp [h], fun t u hu => ?_⟩
      have h0 : news.length = 0 := by rw [hlen]; omega
      rw [List.length_eq_zero_iff.1 h0] at hu
      simp at hu
    · refine ⟨⟨g, (i + 1) * 2, none⟩, by simp only [if_neg h], fun t u hu => ?_⟩
      rw [Addr.add_lit]
      exact hget t u hu
  have s1 : Hid (news.length = (l.length - (i + 1)) * 2) := hlen
  have s2 : Hid (∀ u ∈ news, u.oneCell' = true) := hone
  have s3 : Hid (∀ t, t < news.length → (w2.drew.cell? ⟨g, 0 + i * 2 + t, none⟩).isSome = true ∧ w2.drew.frozen? ⟨g, 0 + i * 2 + t, none⟩ = false) := by
    intro t ht
    rw [hlen] at ht
    exact ⟨by rw [(cell_of_heap (w := w2.drew) hg2).1, Array.getElem?_eq_getElem (by omega)]; rfl, (cell_of_heap (w := w2.drew) hg2).2⟩
  obtain ⟨W1, hW1⟩ : ∃ W1, W1 = w2.drew.setCells g (0 + i * 2) news := ⟨_, rfl⟩
  have hr1 := setCells_row (w := w2.drew) (o := 0 + i * 2) hg2 (by rw [hlen]; omega) hone
  obtain ⟨cur1, hcur1⟩ : ∃ cur1, cur1 = (cur.toList.take (0 + i * 2) ++ news ++ cur.toList.drop (0 + i * 2 + news.length)).toArray := ⟨_, rfl⟩
  rw [← hcur1] at hr1
  have hne : w.heap.size ≠ g := by have := HS0.out; omega
  have hgW : W1.heap[g]? = some (.cells cur1 32 (0, 0)) := by rw [hW1, hr1]; exact setRow_heap w2.drew g cur cur1 32 (0, 0) hg2
  have hs1 : cur1.size = cur.size := by rw [hcur1]; simp [hlen]; omega
  have hbW : Below w.heap.size w W1 := by rw [hW1, hr1]; exact below_setRow (below_then (below_then HB0.out HB0.out.size HB1.out) (by have := HB1.out.size; have := HS0.out; omega) HB2.out).drew (by have := HS0.out; omega) _
  have hoW : ∀ k, k ≠ g → W1.heap[k]? = w2.heap[k]? := fun k hk => by rw [hW1, hr1]; exact setRow_other w2.drew g k _ hk
  have hzW : W1.heap.size = w2.heap.size := by rw [hW1, hr1]; simp
  have ht1 : cur1.toList.take ((i + (l.length - (i + 1))) * 2) = cur.toList.take (i * 2) ++ news := by
    rw [hcur1]
    show List.take _ (_ ++ _ ++ _) = _
    rw [List.take_append_of_le_length (by simp [hlen]; omega), Nat.zero_add, List.take_of_length_le (by simp [hlen]; omega)]
  have BK1 : W1.heap[w.heap.size]? = some (.cells #[.int .i64 0, .slice none 0 0, .int .i64 0] 26 (0, 0)) := (hoW _ hne).trans BKs.out
  obtain ⟨x0, x1, x2, x3⟩ := blk_cells3 BK1
  have x30 := x3 0
  have x31 := x3 1
  have x32 := x3 2
  have X := Aside0.mk (show _ ∧ _ ∧ _ ∧ _ ∧ _ ∧ _ from ⟨hgW, hs1, hbW, hoW, hzW, ht1⟩)
  have HG := Aside0.mk (show _ ∧ _ ∧ _ ∧ _ ∧ _ ∧ _ from ⟨hgb, hg1, hnc, hcm, hcs', hgr⟩)
  have hW : Hid (W1 = w2.drew.setCells g (0 + i * 2) news) := hW1
  have BKW := Aside0.mk BK1
  have HNE := Aside0.mk hne
  have HR1 := Aside0.mk hR1
  have HIE := Aside0.mk hie
  have HNW := Aside0.mk hnews
  have HLT := Aside0.mk hlt
  have ew : IntKind.i64.wrap ((i : Int) + 1) = (i : Int) + 1 := by rw [IntKind.wrap_i64]; have := HN.out; omega
  have e2 : ((i : Int) + 1).toNat = i + 1 := by omega
  have e3 : (0 : Int) ≤ (i : Int) + 1 := by omega
  have e4 : (i : Int) ≤ (c' : Int) := by omega
  have e5 : (i : Int) + 1 ≤ (l.length : Int) := by omega
  have e6 : i ≤ c' := by omega
  have e7 : (l.length : Int) ≤ (c' : Int) := by omega
  clear hW1 hr1 hcur1 hgW hs1 hbW hoW hzW ht1 BK1 x3 hgb hg1 hnc hcm hcs' hgr hM hcs hcell hR0 hR1 hg2 hlen hone hget hnews hne
  rw [← hie]
  clear hie
  go_wp2_with fail
  go_region_law (refine step_append_room rfl (.tmp 25) (.tmp 29) 22 rfl 32 i0 2 Try.underlying22 hi0 hz1 g 0 i c' (by simp [Act.eval, Act.put]) Ad (l.length - (i + 1)) (c' - (i + 1)) news (by simp [Act.eval, Act.put]) s1.out hsrc.out s2.out (by omega) s3.out ?_; rw [← hW.out])
  go_wp2_with fail
  refine bodyPost_ret (results_tc rfl _ _ w.heap.size 26 #[.int .i64 0, .slice A1 (rd_T32 l (i : Int)).f1.length c1', .int .i64 0] (0, 0) _ rfl (by refine blk_put (cs := #[.int .i64 0, .slice A1 (rd_T32 l (i : Int)).f1.length c1', .int .i64 0]) ?_ 2 _ rfl; refine blk_put (cs := #[.int .i64 0, .slice none 0 0, .int .i64 0]) ?_ 1 _ rfl; refine blk_put (cs := #[.int .i64 0, .slice none 0 0, .int .i64 0]) ?_ 0 _ rfl; exact BKW.out) Try.underlying26 rfl (by kernel_rfl)) rfl ?_
  obtain ⟨hgW, hs1, hbW, hoW, hzW, ht1⟩ := X.out
  obtain ⟨h1, h2, hnc, hcm, hcs', h5⟩ := HG.out
  have hs0 := HS0.out
  have h1s := HB1.out.size
  have h2s := HB2.out.size
  have hgl := blk_lt h2
  have hl : (l.take i ++ l.drop (i + 1)).length = i + (l.length - (i + 1)) := by simp; omega
  have hR1' := HR1.out
  rw [← HIE.out] at hR1' ⊢
  refine ⟨some ⟨g, 0, none⟩, c', _, by rw [hl]; rfl, by rw [hl]; omega, ?_, ?_, ((hbW.setCell (Nat.le_refl _) _).setCell (Nat.le_refl _) _).setCell (Nat.le_refl _) _⟩
  · refine .inr ⟨g, cur1, rfl, by omega, (keep_put3 _ _ _ _ _ _ _ _ _ HNE.out.symm).trans hgW, by rw [hl]; show _ * 2 ≤ _; omega, by rw [hl]; omega, ?_⟩
    rw [hl]
    show Reps _ 2 _ (List.take ((i + (l.length - (i + 1))) * 2) _)
    rw [ht1, HNW.out]
    have hR := reps_app (reps_take h5 i (by omega)) (reps_drop h5 (i + 1))
    rw [List.take_take, Nat.min_eq_left (by omega), List.drop_take, show l.length * 2 - (i + 1) * 2 = (l.length - (i + 1)) * 2 by omega] at hR
    exact hR.imp_ (fun y c hy => (k32.M_lower (show w.heap.size ≤ W0.heap.size by omega) (M_keep3 hy (fun k a b e => by rw [keep_put3 _ _ _ _ _ _ _ _ _ (by omega), hoW k e, HB2.out.block k (by omega)]))))
  · refine Kd.R_lower (Kd.R_mono (R_keep3 hR1' (fun k a b e => ?_)) (fun _ _ => trivial)) (show w.heap.size ≤ W0.heap.size by omega)
    rw [keep_put3 _ _ _ _ _ _ _ _ _ (by omega), hoW k e, HB2.out.block k (by omega)]
end Go.Proofs.Ytiodnbeifgnhcaa.Ms
