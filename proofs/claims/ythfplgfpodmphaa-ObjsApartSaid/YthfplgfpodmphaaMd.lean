/- slices.Delete over pairs, walked. -/
import Derived.Lib.SliceRun
import Derived.Deep.RegionLaw
import Derived.Laws.IdiomCopy
import Derived.Test.YthfplgfpodmphaaMp
namespace Go.Proofs.Ythfplgfpodmphaa.Ms
open Go.RowKit Go.Proofs.YthfplgfpodmphaaW.PrintWords Go.Proofs.YthfplgfpodmphaaW.PrintLast Go.Proofs.YthfplgfpodmphaaW.PrintMore
attribute [local go_sem] max2_int min2_int max_two min_two max_three min_three max_four min_four
set_option linter.unusedVariables false
set_option linter.unusedSimpArgs false
set_option maxRecDepth 100000

theorem setCells_row {w : World} {g o : Nat} {t : TypeId} {vs : List Value} {cur : Array Value} (hg : w.heap[g]? = some (.cells cur t (0, 0))) (hl : o + vs.length ≤ cur.size) (h1 : ∀ v ∈ vs, v.oneCell' = true) :
    w.setCells g o vs = w.setRow g (cur.toList.take o ++ vs ++ cur.toList.drop (o + vs.length)).toArray := by
  have a := run_storeCells_at (P := Try.prog) g o t vs 0 cur w hg (by simpa using hl) h1
  have b := run_storeCells_cells (P := Try.prog) g o vs 0 w (fun j hj => by rw [(cell_of_heap hg).1, Array.getElem?_eq_getElem (by omega)]; rfl) (fun j hj => (cell_of_heap hg).2) h1
  rw [b] at a
  simpa using a
theorem run_clear_k {P : Program} (w : World) (t e ty : TypeId) (z : Value) (ht : P.underlying t = some (.slice e)) (hv : ∀ w, (zeroValue e).run P w = .ok z w) (b o n c : Nat) (cs : List Value) (hcs : (Builtin.zeroCells z.cells n).toList = cs) (hn : 0 < n) (h1 : ∀ u ∈ cs, u.oneCell' = true)
    (hc : ∀ j, j < cs.length → (w.cell? ⟨b, o + j, none⟩).isSome = true) (hf : ∀ j, j < cs.length → w.frozen? ⟨b, o + j, none⟩ = false) :
    (Builtin.clear_ #[t] ty #[.slice (some ⟨b, o, none⟩) n c]).run P w = .ok (.tuple #[]) (w.setCells b o cs) := by
  have hst := run_storeCells_cells (P := P) b o cs 0 w (by simpa using hc) (by simpa using hf) h1
  simp only [Nat.add_zero] at hst
  obtain ⟨m, rfl⟩ : ∃ m, n = m + 1 := ⟨n - 1, by omega⟩
  simp [Builtin.clear_, run_underlying ht, hv, hcs, hst]
theorem zero32 (w : World) : (zeroValue 42).run Try.prog w = .ok z32v w := by kernel_rfl
def DelEnd (g n : Nat) (cur : Array Value) (ys : List Value) (w : World) (e : Ending) (w' : World) : Prop := e = .returned (.slice (some ⟨g, 0, none⟩) n (n + 1)) ∧ (∃ cur', w'.heap[g]? = some (.cells cur' 42 (0, 0)) ∧ cur'.size = cur.size ∧ cur'.toList.take (n * 2) = ys) ∧ (∀ k, k ≠ g → w'.heap[k]? = w.heap[k]?) ∧ w'.heap.size = w.heap.size ∧ ∀ B w0, Below B w0 w → B ≤ g → Below B w0 w'
set_option maxHeartbeats 4000000 in
set_option maxRecDepth 1000000 in
theorem del24 (g n i : Nat) (cur : Array Value) (w : World) (hg : w.heap[g]? = some (.cells cur 42 (0, 0))) (hs : (n + 1) * 2 ≤ cur.size) (hn : n < 1000000) (hi : i ≤ n) (h1 : ∀ v ∈ cur.toList.take ((n + 1) * 2), v.oneCell' = true) :
    Calls Try.prog 82 #[.slice (some ⟨g, 0, none⟩) (n + 1) (n + 1), .int .i64 (i : Nat), .int .i64 ((i : Int) + 1)] w (DelEnd g n cur (cur.toList.take (i * 2) ++ (cur.toList.drop ((i + 1) * 2)).take ((n - i) * 2)) w) := by
  obtain ⟨i0, hi0, hzz⟩ := Option.map_eq_some_iff.1 info32
  simp only [Prod.mk.injEq] at hzz
  obtain ⟨hz0, hz1, hz2⟩ := hzz
  obtain ⟨news, hnews⟩ : ∃ news, news = (cur.toList.drop ((i + 1) * 2)).take ((n - i) * 2) := ⟨_, rfl⟩
  have hlen : news.length = (n - i) * 2 := by rw [hnews]; simp; omega
  have hone : ∀ v ∈ news, v.oneCell' = true := fun v hv => by
    rw [hnews] at hv
    obtain ⟨j, hj, rfl⟩ := List.mem_iff_getElem.1 hv
    simp only [List.length_take, List.length_drop, Array.length_toList] at hj
    rw [List.getElem_take, List.getElem_drop]
    refine h1 _ (List.mem_iff_getElem.2 ⟨(i + 1) * 2 + j, by simp; omega, ?_⟩)
    rw [List.getElem_take]
  have hget : ∀ t u, news[t]? = some u → w.drew.cell? ⟨g, (i + 1) * 2 + t, none⟩ = some u := fun t u hu => by
    rw [hnews, List.getElem?_take] at hu
    split at hu
    · rw [List.getElem?_drop, Array.getElem?_toList] at hu
      exact (cell_of_heap (w := w.drew) hg).1.trans hu
    · cases hu
  obtain ⟨A, hA, hsrc⟩ : ∃ A : Addr, (if n = i then some (⟨g, 0, none⟩ : Addr) else some ⟨g, (i + 1) * 2, none⟩) = some A ∧ Hid (∀ t u, news[t]? = some u → w.drew.cell? (A.add t) = some u) := by
    by_cases h : n = i
    · refine ⟨⟨g, 0, none⟩, by simp [h], fun t u hu => ?_⟩
      have h0 : news.length = 0 := by rw [hlen]; omega
      rw [List.length_eq_zero_iff.1 h0] at hu
      simp at hu
    · refine ⟨⟨g, (i + 1) * 2, none⟩, by simp only [if_neg h], fun t u hu => ?_⟩
      rw [Addr.add_lit]
      exact hget t u hu
  have s1 : Hid (news.length = (n - i) * 2) := hlen
  have s2 : Hid (∀ u ∈ news, u.oneCell' = true) := hone
  have s3 : Hid (∀ t, t < news.length → (w.drew.cell? ⟨g, 0 + i * 2 + t, none⟩).isSome = true ∧ w.drew.frozen? ⟨g, 0 + i * 2 + t, none⟩ = false) := by
    intro t ht
    rw [hlen] at ht
    exact ⟨by rw [(cell_of_heap (w := w.drew) hg).1, Array.getElem?_eq_getElem (by omega)]; rfl, (cell_of_heap (w := w.drew) hg).2⟩
  obtain ⟨W1, hW1⟩ : ∃ W1, W1 = w.drew.setCells g (0 + i * 2) news := ⟨_, rfl⟩
  have hr1 := setCells_row (w := w.drew) (o := 0 + i * 2) hg (by rw [hlen]; omega) hone
  obtain ⟨cur1, hcur1⟩ : ∃ cur1, cur1 = (cur.toList.take (0 + i * 2) ++ news ++ cur.toList.drop (0 + i * 2 + news.length)).toArray := ⟨_, rfl⟩
  rw [← hcur1] at hr1
  have hg1 : W1.heap[g]? = some (.cells cur1 42 (0, 0)) := by rw [hW1, hr1]; exact setRow_heap w.drew g cur cur1 42 (0, 0) hg
  have hs1 : cur1.size = cur.size := by rw [hcur1]; simp [hlen]; omega
  have hb1 : ∀ B w0, Below B w0 w → B ≤ g → Below B w0 W1 := fun B w0 h hB => by rw [hW1, hr1]; exact below_setRow h.drew hB _
  have ho1 : ∀ k, k ≠ g → W1.heap[k]? = w.heap[k]? := fun k hk => by rw [hW1, hr1]; exact setRow_other w.drew g k _ hk
  have hz1' : W1.heap.size = w.heap.size := by rw [hW1, hr1]; simp
  have ht1 : cur1.toList.take (n * 2) = cur.toList.take (i * 2) ++ news := by
    rw [hcur1]
    show List.take _ (_ ++ _ ++ _) = _
    rw [List.take_append_of_le_length (by simp [hlen]; omega), Nat.zero_add, List.take_of_length_le (by simp [hlen]; omega)]
  have hcl : ∀ ty, (Builtin.clear_ #[30] ty #[.slice (some ⟨g, n * 2, none⟩) 1 1]).run Try.prog W1 = .ok (.tuple #[]) (W1.setCells g (n * 2) [.slice none 0 0, .slice none 0 0]) :=
    fun ty => run_clear_k W1 30 42 ty z32v Try.underlying30 zero32 g (n * 2) 1 1 _ (by kernel_rfl) (by decide) (by decide) (fun j hj => by
      have hj : j < 2 := hj
      rw [(cell_of_heap hg1).1, Array.getElem?_eq_getElem (by omega)]; rfl) (fun j hj => (cell_of_heap hg1).2)
  have hr2 := setCells_row (o := n * 2) (vs := [.slice none 0 0, .slice none 0 0]) hg1 (by simp; omega) (by decide)
  have X := Aside0.mk (show _ ∧ _ ∧ _ ∧ _ ∧ _ ∧ _ from ⟨hg1, hs1, hb1, ho1, hz1', ht1⟩)
  have hW : Hid (W1 = w.drew.setCells g (0 + i * 2) news) := hW1
  have HR2 := Aside0.mk hr2
  have HS := Aside0.mk hs
  have e1 : (i : Int) ≤ (i : Int) + 1 := by omega
  have e2 : ((i : Int) + 1).toNat = i + 1 := by omega
  have e3 : (0 : Int) ≤ (i : Int) + 1 := by omega
  have e4 : (i : Int) + 1 ≤ ((n + 1 : Nat) : Int) := by omega
  have e10 : (i : Int) ≤ (n : Int) + 1 := by omega
  have e11 : (i : Int) + 1 ≤ (n : Int) + 1 := by omega
  have e12 : (i : Int) ≤ (n : Int) := by omega
  have e13 : (n : Int) ≤ (n : Int) + 1 := by omega
  have e5 : ¬ ((i : Int) = (i : Int) + 1) := by omega
  have e6 : n + 1 - (i + 1) = n - i := by omega
  have e7 : i + (n - i) = n := by omega
  have e8 : i ≤ n + 1 := by omega
  have e9 : n + 1 - n = 1 := by omega
  have HN := Aside0.mk hnews
  clear hW1 hr1 hcur1 hg1 hs1 hb1 ho1 hz1' ht1 hr2 hs hg h1 hlen hone hget hnews
  go_enter Try.func82, Try.ntmps82
  go_wp2_with fail
  go_region_law (refine step_append_room rfl (.tmp 22) (.tmp 25) 30 rfl 42 i0 2 Try.underlying30 hi0 hz1 g 0 i (n + 1) (by simp [Act.eval, Act.put]) A (n - i) (n - i) news (by simp [Act.eval, Act.put]) s1.out hsrc.out s2.out (by omega) s3.out ?_; rw [← hW.out])
  go_wp2
  go_ret
  obtain ⟨hg1, hs1, hb1, ho1, hz1', ht1⟩ := X.out
  have hs := HS.out
  show DelEnd g n cur _ w _ (W1.setCells g (n * 2) [.slice none 0 0, .slice none 0 0])
  rw [HR2.out]
  refine ⟨rfl, ⟨_, setRow_heap W1 g cur1 _ 42 (0, 0) hg1, by simp; omega, ?_⟩, fun k hk => (setRow_other W1 g k _ hk).trans (ho1 k hk), by simp [hz1'], fun B w0 h hB => below_setRow (hb1 B w0 h hB) hB _⟩
  show List.take _ (_ ++ _ ++ _) = _
  rw [List.append_assoc, List.take_append_of_le_length (by simp; omega), List.take_take, Nat.min_self, ht1, HN.out]
end Go.Proofs.Ythfplgfpodmphaa.Ms
