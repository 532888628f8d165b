/- lock.Take and lock.Free, walked. -/
import Derived.Test.YthfplgfpodmphaaOn
import Derived.Test.YthfplgfpodmphaaOj
import Derived.Test.YthfplgfpodmphaaOm
import Derived.Test.YthfplgfpodmphaaOl
namespace Go.Proofs.Ythfplgfpodmphaa.Ob
open Go.RowKit Go.Proofs.YthfplgfpodmphaaW.PrintWords Go.Proofs.YthfplgfpodmphaaW.PrintLast Go.Proofs.YthfplgfpodmphaaW.PrintMore Go.Proofs.Ythfplgfpodmphaa.Ms
attribute [local go_sem] max2_int min2_int max_two min_two max_three min_three max_four min_four
set_option linter.unusedVariables false
set_option linter.unusedSimpArgs false
set_option maxRecDepth 100000
theorem ints_inner {w : World} {base : Nat} {ok : Nat → Prop} {l : List Int} {inner : List Value} (h : Reps (Kd.M ki w base ok) 1 l inner) : inner = l.map (fun x => Value.int .i64 x) := by
 apply List.ext_getElem?
 intro j
 rcases Nat.lt_or_ge j l.length with hj | hj
 ·
  have h1 := h.2 j l[j] (List.getElem?_eq_getElem hj)
  have h2 : (inner.drop (j * 1)).take 1 = [Value.int .i64 l[j]] := ki.K_of_M h1
  rw [Nat.mul_one] at h2
  rw [List.getElem?_map, List.getElem?_eq_getElem hj]
  have h3 := congrArg (fun q => q[0]?) h2
  simpa [List.getElem?_take, List.getElem?_drop] using h3
 ·
  rw [List.getElem?_eq_none (by have := h.1; omega), List.getElem?_eq_none (by simpa using hj)]
theorem ints_F {W : World} {g : Nat} {cur : Array Value} {l : List Int} (hg : W.heap[g]? = some (.cells cur 3 (0, 0))) (h : cur.toList.take l.length = l.map (fun x => Value.int .i64 x)) (hm : l.length < 9223372036854775807) : Kd.F ki W (fun k => False ∨ k = g) (some ⟨g, 0, none⟩) l.length l := by
 refine F_block hg hm ?_
 have h0 : l.length * ki.sz = l.length := Nat.mul_one _
 rw [h0, h]
 refine ⟨by simp [show ki.sz = 1 from rfl], fun j x hj => ?_⟩
 intro W' _
 show ((l.map (fun x => Value.int .i64 x)).drop (j * 1)).take 1 = [Value.int .i64 x]
 have hjl := (List.getElem?_eq_some_iff.1 hj).1
 rw [Nat.mul_one, List.drop_eq_getElem_cons (by simpa using hjl)]
 simp [(List.getElem?_eq_some_iff.1 hj).2]
set_option maxHeartbeats 1000000 in
theorem take_there (A0 : Option Addr) (c0 : Nat) (l0 : List Int) (a : Int) (w : World) (hr0 : Kd.C ki w A0 l0.length l0) (hc0 : l0.length ≤ c0) (hb0 : l0.length < 1000000) (ht : idxR l0 a < l0.length) :
  Calls Try.prog 78 #[.slice A0 l0.length c0, .int .i64 a] w (T2 ki w l0 ⟨6, [], 0⟩) := by
 have HT := Aside0.mk ht
 clear ht
 have HR0 := Aside0.mk hr0
 have HC0 := Aside0.mk hc0
 have HN := Aside0.mk hb0
 clear hr0 hc0 hb0
 have HB := Aside0.mk (Below.refl w.heap.size w)
 go_enter Try.func78, Try.ntmps78
 go_wp2_with fail
 obtain ⟨V0, hV0⟩ : ∃ V_, V_ = (w.alloc (.cells #[.int .i64 0, .slice none 0 0, .int .i64 0] 34)) := ⟨_, rfl⟩
 rw [← hV0]
 have hb_ : Below w.heap.size w V0 := by rw [hV0]; exact (below_alloc (Below.refl _ _) (.cells #[.int .i64 0, .slice none 0 0, .int .i64 0] 34))
 have K0 : Aside0 (V0.heap[w.heap.size]? = some (.cells #[.int .i64 0, .slice none 0 0, .int .i64 0] 34 (0, 0))) := Aside0.mk (by have h_ := heap_alloc_self w (.cells #[.int .i64 0, .slice none 0 0, .int .i64 0] 34); rw [hV0]; simpa using h_)
 have SV0 : Aside0 (V0.heap.size = w.heap.size + 1) := Aside0.mk (by rw [hV0]; simp)
 clear hV0
 replace HB := Aside0.mk (below_then HB.out HB.out.size hb_)
 clear hb_
 refine (clone75 A0 c0 l0 V0 (Kd.C_below HR0.out HB.out) HC0.out HN.out).mono ?_
 rintro e w1 ⟨v1, rfl, hR, hb_⟩
 obtain ⟨P0, p0, rfl⟩ := Kd.R_slice hR
 have HO := Aside0.mk hR
 have S1 := Aside0.mk hb_.size
 have F0 := Aside0.mk (Kd.F_mono (F_of_R hR) (fun k hk => (show w.heap.size + 1 ≤ k from by have h2 : V0.heap.size ≤ k := hk; have := SV0.out; omega)))
 clear hR
 replace HB := Aside0.mk (below_then HB.out HB.out.size hb_)
 replace K0 := Aside0.mk (blk_keep K0.out hb_)
 clear hb_
 have hcap := R_cap HO.out
 have HA := Aside0.mk hcap.2.2.1
 go_wp2_with fail
 refine (clip102 P0 p0 l0.length w1 hcap.1 hcap.2.1 hcap.2.2.1).mono ?_
 rintro e w1 ⟨rfl, rfl⟩
 clear hcap
 go_wp2_with fail
 refine (slices_Contains_int_int.calls (l0.length + 1) P0 l0.length l0 a true w1 (Kd.F_now F0.out) (Nat.le_refl _) (by rw [contains_f l0 a HN.out]; simp [HT.out])).mono ?_
 rintro e w2 ⟨rfl, hd⟩
 have hb_ := hd.below
 clear hd
 replace HB := Aside0.mk (below_then HB.out HB.out.size hb_)
 replace K0 := Aside0.mk (blk_keep K0.out hb_)
 replace F0 := Aside0.mk (Kd.F_below F0.out hb_)
 have S2 := Aside0.mk hb_.size
 clear hb_
 obtain ⟨x0, x1, x2, x3⟩ := cells3 K0.out
 have x30 := x3 0
 have x31 := x3 1
 have x32 := x3 2
 clear x3
 go_wp2_with fail
 clear x0 x1 x2 x30 x31 x32
 obtain ⟨V3, hV3⟩ : ∃ V_, V_ = (((w2.setCell ⟨w.heap.size, 0, none⟩ (.int .i64 6)).setCell ⟨w.heap.size, 1, none⟩ (.slice none 0 0)).setCell ⟨w.heap.size, 2, none⟩ (.int .i64 0)) := ⟨_, rfl⟩
 rw [← hV3]
 have hge_ : w.heap.size ≤ w.heap.size := by omega
 have hst_ : St w.heap.size w (w.heap.size) 34 #[.int .i64 6, .slice none 0 0, .int .i64 0] w2 V3 := by rw [hV3]; exact (St.next (St.next (St.first HB.out hge_ K0.out 0 _ rfl) hge_ 1 _ rfl) hge_ 2 _ rfl)
 replace HB := Aside0.mk hst_.1
 replace K0 := Aside0.mk hst_.2.1
 replace F0 := Aside0.mk (Kd.F_step F0.out (fun k_ hk_ _ => hst_.2.2.1 k_ (by have hk2_ : w.heap.size + 1 ≤ k_ := hk_; omega)))
 have SV3 := Aside0.mk hst_.2.2.2
 clear hV3 hst_ hge_
 refine bodyPost_ret (results_tc rfl _ _ w.heap.size 34 #[.int .i64 6, .slice none 0 0, .int .i64 0] (0, 0) _ rfl K0.out Try.underlying34 rfl (by kernel_rfl)) rfl ?_
 exact ⟨P0, _, none, 0, rfl, Nat.le_refl _, Kd.F_mono F0.out (fun k hk => by have h2 : w.heap.size + 1 ≤ k := hk; show w.heap.size ≤ k; omega), Nat.le_refl _, Kd.F_nil _ _ _, HB.out⟩
set_option maxHeartbeats 1000000 in
theorem take_full (A0 : Option Addr) (c0 : Nat) (l0 : List Int) (a : Int) (w : World) (hr0 : Kd.C ki w A0 l0.length l0) (hc0 : l0.length ≤ c0) (hb0 : l0.length < 1000000) (ht : ¬ idxR l0 a < l0.length) (h5 : 5 ≤ l0.length) :
  Calls Try.prog 78 #[.slice A0 l0.length c0, .int .i64 a] w (T2 ki w l0 ⟨3, [], 0⟩) := by
 have HT := Aside0.mk ht
 have dc : decide ((5 : Int) ≤ (l0.length : Int)) = true := decide_eq_true (by omega)
 clear h5
 clear ht
 have HR0 := Aside0.mk hr0
 have HC0 := Aside0.mk hc0
 have HN := Aside0.mk hb0
 clear hr0 hc0 hb0
 have HB := Aside0.mk (Below.refl w.heap.size w)
 go_enter Try.func78, Try.ntmps78
 go_wp2_with fail
 obtain ⟨V0, hV0⟩ : ∃ V_, V_ = (w.alloc (.cells #[.int .i64 0, .slice none 0 0, .int .i64 0] 34)) := ⟨_, rfl⟩
 rw [← hV0]
 have hb_ : Below w.heap.size w V0 := by rw [hV0]; exact (below_alloc (Below.refl _ _) (.cells #[.int .i64 0, .slice none 0 0, .int .i64 0] 34))
 have K0 : Aside0 (V0.heap[w.heap.size]? = some (.cells #[.int .i64 0, .slice none 0 0, .int .i64 0] 34 (0, 0))) := Aside0.mk (by have h_ := heap_alloc_self w (.cells #[.int .i64 0, .slice none 0 0, .int .i64 0] 34); rw [hV0]; simpa using h_)
 have SV0 : Aside0 (V0.heap.size = w.heap.size + 1) := Aside0.mk (by rw [hV0]; simp)
 clear hV0
 replace HB := Aside0.mk (below_then HB.out HB.out.size hb_)
 clear hb_
 refine (clone75 A0 c0 l0 V0 (Kd.C_below HR0.out HB.out) HC0.out HN.out).mono ?_
 rintro e w1 ⟨v1, rfl, hR, hb_⟩
 obtain ⟨P0, p0, rfl⟩ := Kd.R_slice hR
 have HO := Aside0.mk hR
 have S1 := Aside0.mk hb_.size
 have F0 := Aside0.mk (Kd.F_mono (F_of_R hR) (fun k hk => (show w.heap.size + 1 ≤ k from by have h2 : V0.heap.size ≤ k := hk; have := SV0.out; omega)))
 clear hR
 replace HB := Aside0.mk (below_then HB.out HB.out.size hb_)
 replace K0 := Aside0.mk (blk_keep K0.out hb_)
 clear hb_
 have hcap := R_cap HO.out
 have HA := Aside0.mk hcap.2.2.1
 go_wp2_with fail
 refine (clip102 P0 p0 l0.length w1 hcap.1 hcap.2.1 hcap.2.2.1).mono ?_
 rintro e w1 ⟨rfl, rfl⟩
 clear hcap
 go_wp2_with fail
 refine (slices_Contains_int_int.calls (l0.length + 1) P0 l0.length l0 a false w1 (Kd.F_now F0.out) (Nat.le_refl _) (by rw [contains_f l0 a HN.out]; simp [HT.out])).mono ?_
 rintro e w2 ⟨rfl, hd⟩
 have hb_ := hd.below
 clear hd
 replace HB := Aside0.mk (below_then HB.out HB.out.size hb_)
 replace K0 := Aside0.mk (blk_keep K0.out hb_)
 replace F0 := Aside0.mk (Kd.F_below F0.out hb_)
 have S2 := Aside0.mk hb_.size
 clear hb_
 obtain ⟨x0, x1, x2, x3⟩ := cells3 K0.out
 have x30 := x3 0
 have x31 := x3 1
 have x32 := x3 2
 clear x3
 go_wp2_with fail
 clear x0 x1 x2 x30 x31 x32
 obtain ⟨V3, hV3⟩ : ∃ V_, V_ = (((w2.setCell ⟨w.heap.size, 0, none⟩ (.int .i64 3)).setCell ⟨w.heap.size, 1, none⟩ (.slice none 0 0)).setCell ⟨w.heap.size, 2, none⟩ (.int .i64 0)) := ⟨_, rfl⟩
 rw [← hV3]
 have hge_ : w.heap.size ≤ w.heap.size := by omega
 have hst_ : St w.heap.size w (w.heap.size) 34 #[.int .i64 3, .slice none 0 0, .int .i64 0] w2 V3 := by rw [hV3]; exact (St.next (St.next (St.first HB.out hge_ K0.out 0 _ rfl) hge_ 1 _ rfl) hge_ 2 _ rfl)
 replace HB := Aside0.mk hst_.1
 replace K0 := Aside0.mk hst_.2.1
 replace F0 := Aside0.mk (Kd.F_step F0.out (fun k_ hk_ _ => hst_.2.2.1 k_ (by have hk2_ : w.heap.size + 1 ≤ k_ := hk_; omega)))
 have SV3 := Aside0.mk hst_.2.2.2
 clear hV3 hst_ hge_
 refine bodyPost_ret (results_tc rfl _ _ w.heap.size 34 #[.int .i64 3, .slice none 0 0, .int .i64 0] (0, 0) _ rfl K0.out Try.underlying34 rfl (by kernel_rfl)) rfl ?_
 exact ⟨P0, _, none, 0, rfl, Nat.le_refl _, Kd.F_mono F0.out (fun k hk => by have h2 : w.heap.size + 1 ≤ k := hk; show w.heap.size ≤ k; omega), Nat.le_refl _, Kd.F_nil _ _ _, HB.out⟩
set_option maxHeartbeats 1000000 in
theorem take_new (A0 : Option Addr) (c0 : Nat) (l0 : List Int) (a : Int) (w : World) (hr0 : Kd.C ki w A0 l0.length l0) (hc0 : l0.length ≤ c0) (hb0 : l0.length < 1000000) (ht : ¬ idxR l0 a < l0.length) (h5 : ¬ 5 ≤ l0.length) :
  Calls Try.prog 78 #[.slice A0 l0.length c0, .int .i64 a] w (T2 ki w (l0 ++ [a]) ⟨0, [], (l0.length : Int)⟩) := by
 have HT := Aside0.mk ht
 have dc : decide ((5 : Int) ≤ (l0.length : Int)) = false := decide_eq_false (by omega)
 clear h5
 clear ht
 have HR0 := Aside0.mk hr0
 have HC0 := Aside0.mk hc0
 have HN := Aside0.mk hb0
 clear hr0 hc0 hb0
 have HB := Aside0.mk (Below.refl w.heap.size w)
 go_enter Try.func78, Try.ntmps78
 go_wp2_with fail
 obtain ⟨V0, hV0⟩ : ∃ V_, V_ = (w.alloc (.cells #[.int .i64 0, .slice none 0 0, .int .i64 0] 34)) := ⟨_, rfl⟩
 rw [← hV0]
 have hb_ : Below w.heap.size w V0 := by rw [hV0]; exact (below_alloc (Below.refl _ _) (.cells #[.int .i64 0, .slice none 0 0, .int .i64 0] 34))
 have K0 : Aside0 (V0.heap[w.heap.size]? = some (.cells #[.int .i64 0, .slice none 0 0, .int .i64 0] 34 (0, 0))) := Aside0.mk (by have h_ := heap_alloc_self w (.cells #[.int .i64 0, .slice none 0 0, .int .i64 0] 34); rw [hV0]; simpa using h_)
 have SV0 : Aside0 (V0.heap.size = w.heap.size + 1) := Aside0.mk (by rw [hV0]; simp)
 clear hV0
 replace HB := Aside0.mk (below_then HB.out HB.out.size hb_)
 clear hb_
 refine (clone75 A0 c0 l0 V0 (Kd.C_below HR0.out HB.out) HC0.out HN.out).mono ?_
 rintro e w1 ⟨v1, rfl, hR, hb_⟩
 obtain ⟨P0, p0, rfl⟩ := Kd.R_slice hR
 have HO := Aside0.mk hR
 have S1 := Aside0.mk hb_.size
 have F0 := Aside0.mk (Kd.F_mono (F_of_R hR) (fun k hk => (show w.heap.size + 1 ≤ k from by have h2 : V0.heap.size ≤ k := hk; have := SV0.out; omega)))
 clear hR
 replace HB := Aside0.mk (below_then HB.out HB.out.size hb_)
 replace K0 := Aside0.mk (blk_keep K0.out hb_)
 clear hb_
 have hcap := R_cap HO.out
 have HA := Aside0.mk hcap.2.2.1
 go_wp2_with fail
 refine (clip102 P0 p0 l0.length w1 hcap.1 hcap.2.1 hcap.2.2.1).mono ?_
 rintro e w1 ⟨rfl, rfl⟩
 clear hcap
 go_wp2_with fail
 refine (slices_Contains_int_int.calls (l0.length + 1) P0 l0.length l0 a false w1 (Kd.F_now F0.out) (Nat.le_refl _) (by rw [contains_f l0 a HN.out]; simp [HT.out])).mono ?_
 rintro e w2 ⟨rfl, hd⟩
 have hb_ := hd.below
 clear hd
 replace HB := Aside0.mk (below_then HB.out HB.out.size hb_)
 replace K0 := Aside0.mk (blk_keep K0.out hb_)
 replace F0 := Aside0.mk (Kd.F_below F0.out hb_)
 have S2 := Aside0.mk hb_.size
 clear hb_
 obtain ⟨x0, x1, x2, x3⟩ := cells3 K0.out
 have x30 := x3 0
 have x31 := x3 1
 have x32 := x3 2
 clear x3
 go_wp2_with (
  (with_reducible refine gate_builtin (b := .append) (xs := #[.tmp 21, .tmp 23]) rfl ?_)
  at_builtin
  clear x0 x1 x2 x30 x31 x32
  obtain ⟨V3, hV3⟩ : ∃ V_, V_ = (w2.alloc (.cells #[.int .i64 a] 3)) := ⟨_, rfl⟩
  rw [← hV3]
  have hb_ : Below w2.heap.size w2 V3 := by rw [hV3]; exact (below_alloc (Below.refl _ _) (.cells #[.int .i64 a] 3))
  have K1 : Aside0 (V3.heap[w2.heap.size]? = some (.cells #[.int .i64 a] 3 (0, 0))) := Aside0.mk (by have h_ := heap_alloc_self w2 (.cells #[.int .i64 a] 3); rw [hV3]; simpa using h_)
  have SV3 : Aside0 (V3.heap.size = w2.heap.size + 1) := Aside0.mk (by rw [hV3]; simp)
  clear hV3
  replace HB := Aside0.mk (below_then HB.out HB.out.size hb_)
  replace K0 := Aside0.mk (blk_keep K0.out hb_)
  replace F0 := Aside0.mk (Kd.F_below F0.out hb_)
  clear hb_
  obtain ⟨g, c9, W4, hrun, hc9, hb_, hF9⟩ := app1 ki V3 29 3 (.int .i64 0) 1 8 rfl Try.underlying29 info3 (by decide) (by decide) _ P0 l0 F0.out HN.out HA.out ⟨w2.heap.size, 0, none⟩ 1 a [.int .i64 a] (fun j v hj => by rw [add_plain, (cell_of_heap K1.out).1, ← hj, ← Array.getElem?_toList]) FK_int
  have HR := Aside0.mk hrun
  have HC9 := Aside0.mk hc9
  have F9 := Aside0.mk (Kd.F_mono hF9 (fun k hk => hk.elim id (fun h => (show w.heap.size + 1 ≤ k from by have := S1.out; have := S2.out; have := SV3.out; have := SV0.out; omega))))
  clear hrun hc9 hF9
  clear K1
  replace HB := Aside0.mk (below_then HB.out HB.out.size hb_)
  replace K0 := Aside0.mk (blk_keep K0.out hb_)
  replace F0 := Aside0.mk (Kd.F_below F0.out hb_)
  clear hb_
  obtain ⟨x0, x1, x2, x3⟩ := cells3 K0.out
  have x30 := x3 0
  have x31 := x3 1
  have x32 := x3 2
  clear x3
  refine Lib.wpList_append_run _ rfl _ _ _ _ rfl _ _ rfl rfl _ _ (HR.out _) ?_)
 clear x0 x1 x2 x30 x31 x32
 obtain ⟨V5, hV5⟩ : ∃ V_, V_ = (((W4.setCell ⟨w.heap.size, 0, none⟩ (.int .i64 0)).setCell ⟨w.heap.size, 1, none⟩ (.slice none 0 0)).setCell ⟨w.heap.size, 2, none⟩ (.int .i64 (l0.length : Int))) := ⟨_, rfl⟩
 rw [← hV5]
 have hge_ : w.heap.size ≤ w.heap.size := by omega
 have hst_ : St w.heap.size w (w.heap.size) 34 #[.int .i64 0, .slice none 0 0, .int .i64 (l0.length : Int)] W4 V5 := by rw [hV5]; exact (St.next (St.next (St.first HB.out hge_ K0.out 0 _ rfl) hge_ 1 _ rfl) hge_ 2 _ rfl)
 replace HB := Aside0.mk hst_.1
 replace K0 := Aside0.mk hst_.2.1
 replace F9 := Aside0.mk (Kd.F_step F9.out (fun k_ hk_ _ => hst_.2.2.1 k_ (by have hk2_ : w.heap.size + 1 ≤ k_ := hk_; omega)))
 have SV5 := Aside0.mk hst_.2.2.2
 clear hV5 hst_ hge_
 refine bodyPost_ret (results_tc rfl _ _ w.heap.size 34 #[.int .i64 0, .slice none 0 0, .int .i64 (l0.length : Int)] (0, 0) _ rfl K0.out Try.underlying34 rfl (by kernel_rfl)) rfl ?_
 refine ⟨some ⟨g, 0, none⟩, c9, none, 0, by rw [List.length_append]; rfl, by rw [List.length_append]; exact HC9.out, Kd.F_mono F9.out (fun k hk => by have h2 : w.heap.size + 1 ≤ k := hk; show w.heap.size ≤ k; omega), Nat.le_refl _, Kd.F_nil _ _ _, HB.out⟩
set_option maxHeartbeats 1000000 in
theorem free_none (A0 : Option Addr) (c0 : Nat) (l0 : List Int) (a : Int) (w : World) (hr0 : Kd.C ki w A0 l0.length l0) (hc0 : l0.length ≤ c0) (hb0 : l0.length < 1000000) (ht : ¬ idxR l0 a < l0.length) :
  Calls Try.prog 79 #[.slice A0 l0.length c0, .int .i64 a] w (T2 ki w l0 ⟨5, [], 0⟩) := by
 have HT := Aside0.mk ht
 clear ht
 have HR0 := Aside0.mk hr0
 have HC0 := Aside0.mk hc0
 have HN := Aside0.mk hb0
 clear hr0 hc0 hb0
 have HB := Aside0.mk (Below.refl w.heap.size w)
 go_enter Try.func79, Try.ntmps79
 go_wp2_with fail
 obtain ⟨V0, hV0⟩ : ∃ V_, V_ = (w.alloc (.cells #[.int .i64 0, .slice none 0 0, .int .i64 0] 34)) := ⟨_, rfl⟩
 rw [← hV0]
 have hb_ : Below w.heap.size w V0 := by rw [hV0]; exact (below_alloc (Below.refl _ _) (.cells #[.int .i64 0, .slice none 0 0, .int .i64 0] 34))
 have K0 : Aside0 (V0.heap[w.heap.size]? = some (.cells #[.int .i64 0, .slice none 0 0, .int .i64 0] 34 (0, 0))) := Aside0.mk (by have h_ := heap_alloc_self w (.cells #[.int .i64 0, .slice none 0 0, .int .i64 0] 34); rw [hV0]; simpa using h_)
 have SV0 : Aside0 (V0.heap.size = w.heap.size + 1) := Aside0.mk (by rw [hV0]; simp)
 clear hV0
 replace HB := Aside0.mk (below_then HB.out HB.out.size hb_)
 clear hb_
 refine (clone75 A0 c0 l0 V0 (Kd.C_below HR0.out HB.out) HC0.out HN.out).mono ?_
 rintro e w1 ⟨v1, rfl, hR, hb_⟩
 obtain ⟨P0, p0, rfl⟩ := Kd.R_slice hR
 have HO := Aside0.mk hR
 have S1 := Aside0.mk hb_.size
 have F0 := Aside0.mk (Kd.F_mono (F_of_R hR) (fun k hk => (show w.heap.size + 1 ≤ k from by have h2 : V0.heap.size ≤ k := hk; have := SV0.out; omega)))
 clear hR
 replace HB := Aside0.mk (below_then HB.out HB.out.size hb_)
 replace K0 := Aside0.mk (blk_keep K0.out hb_)
 clear hb_
 go_wp2_with fail
 refine (slices_Index_int_int.calls (l0.length + 1) P0 p0 l0 a (-1) w1 (Kd.F_now F0.out) (R_cap HO.out).1 (by rw [index_f l0 a HN.out, idxI]; simp [HT.out])).mono ?_
 rintro e w2 ⟨rfl, hd⟩
 have hb_ := hd.below
 clear hd
 replace HB := Aside0.mk (below_then HB.out HB.out.size hb_)
 replace K0 := Aside0.mk (blk_keep K0.out hb_)
 replace F0 := Aside0.mk (Kd.F_below F0.out hb_)
 have HO := Aside0.mk (R_keep3 HO.out (fun k a b e => hb_.block k b))
 have S2 := Aside0.mk hb_.size
 clear hb_
 obtain ⟨x0, x1, x2, x3⟩ := cells3 K0.out
 have x30 := x3 0
 have x31 := x3 1
 have x32 := x3 2
 clear x3
 have hc1 := (R_cap HO.out).1
 have HC1 := Aside0.mk hc1
 clear hc1
 go_wp2_with fail
 clear x0 x1 x2 x30 x31 x32
 obtain ⟨V3, hV3⟩ : ∃ V_, V_ = (((w2.setCell ⟨w.heap.size, 0, none⟩ (.int .i64 5)).setCell ⟨w.heap.size, 1, none⟩ (.slice none 0 0)).setCell ⟨w.heap.size, 2, none⟩ (.int .i64 0)) := ⟨_, rfl⟩
 rw [← hV3]
 have hge_ : w.heap.size ≤ w.heap.size := by omega
 have hst_ : St w.heap.size w (w.heap.size) 34 #[.int .i64 5, .slice none 0 0, .int .i64 0] w2 V3 := by rw [hV3]; exact (St.next (St.next (St.first HB.out hge_ K0.out 0 _ rfl) hge_ 1 _ rfl) hge_ 2 _ rfl)
 replace HB := Aside0.mk hst_.1
 replace K0 := Aside0.mk hst_.2.1
 replace F0 := Aside0.mk (Kd.F_step F0.out (fun k_ hk_ _ => hst_.2.2.1 k_ (by have hk2_ : w.heap.size + 1 ≤ k_ := hk_; omega)))
 have SV3 := Aside0.mk hst_.2.2.2
 clear hV3 hst_ hge_
 refine bodyPost_ret (results_tc rfl _ _ w.heap.size 34 #[.int .i64 5, .slice none 0 0, .int .i64 0] (0, 0) _ rfl K0.out Try.underlying34 rfl (by kernel_rfl)) rfl ?_
 exact ⟨P0, _, none, 0, rfl, HC1.out, Kd.F_mono F0.out (fun k hk => by have h2 : w.heap.size + 1 ≤ k := hk; show w.heap.size ≤ k; omega), Nat.le_refl _, Kd.F_nil _ _ _, HB.out⟩
set_option maxHeartbeats 1000000 in
theorem free_gone (A0 : Option Addr) (c0 : Nat) (l0 : List Int) (a : Int) (w : World) (hr0 : Kd.C ki w A0 l0.length l0) (hc0 : l0.length ≤ c0) (hb0 : l0.length < 1000000) (ht : idxR l0 a < l0.length) (hd0 : dropR l0 a = []) :
  Calls Try.prog 79 #[.slice A0 l0.length c0, .int .i64 a] w (T2 ki w ([] : List Int) ⟨0, [], -1⟩) := by
 have HT := Aside0.mk ht
 clear ht
 have HD := Aside0.mk hd0
 clear hd0
 have HR0 := Aside0.mk hr0
 have HC0 := Aside0.mk hc0
 have HN := Aside0.mk hb0
 clear hr0 hc0 hb0
 have HB := Aside0.mk (Below.refl w.heap.size w)
 go_enter Try.func79, Try.ntmps79
 go_wp2_with fail
 obtain ⟨V0, hV0⟩ : ∃ V_, V_ = (w.alloc (.cells #[.int .i64 0, .slice none 0 0, .int .i64 0] 34)) := ⟨_, rfl⟩
 rw [← hV0]
 have hb_ : Below w.heap.size w V0 := by rw [hV0]; exact (below_alloc (Below.refl _ _) (.cells #[.int .i64 0, .slice none 0 0, .int .i64 0] 34))
 have K0 : Aside0 (V0.heap[w.heap.size]? = some (.cells #[.int .i64 0, .slice none 0 0, .int .i64 0] 34 (0, 0))) := Aside0.mk (by have h_ := heap_alloc_self w (.cells #[.int .i64 0, .slice none 0 0, .int .i64 0] 34); rw [hV0]; simpa using h_)
 have SV0 : Aside0 (V0.heap.size = w.heap.size + 1) := Aside0.mk (by rw [hV0]; simp)
 clear hV0
 replace HB := Aside0.mk (below_then HB.out HB.out.size hb_)
 clear hb_
 refine (clone75 A0 c0 l0 V0 (Kd.C_below HR0.out HB.out) HC0.out HN.out).mono ?_
 rintro e w1 ⟨v1, rfl, hR, hb_⟩
 obtain ⟨P0, p0, rfl⟩ := Kd.R_slice hR
 have HO := Aside0.mk hR
 have S1 := Aside0.mk hb_.size
 have F0 := Aside0.mk (Kd.F_mono (F_of_R hR) (fun k hk => (show w.heap.size + 1 ≤ k from by have h2 : V0.heap.size ≤ k := hk; have := SV0.out; omega)))
 clear hR
 replace HB := Aside0.mk (below_then HB.out HB.out.size hb_)
 replace K0 := Aside0.mk (blk_keep K0.out hb_)
 clear hb_
 go_wp2_with fail
 refine (slices_Index_int_int.calls (l0.length + 1) P0 p0 l0 a ((idxR l0 a : Int)) w1 (Kd.F_now F0.out) (R_cap HO.out).1 (by rw [index_f l0 a HN.out, idxI]; simp [HT.out])).mono ?_
 rintro e w2 ⟨rfl, hd⟩
 have hb_ := hd.below
 clear hd
 replace HB := Aside0.mk (below_then HB.out HB.out.size hb_)
 replace K0 := Aside0.mk (blk_keep K0.out hb_)
 replace F0 := Aside0.mk (Kd.F_below F0.out hb_)
 have HO := Aside0.mk (R_keep3 HO.out (fun k a b e => hb_.block k b))
 have S2 := Aside0.mk hb_.size
 clear hb_
 obtain ⟨x0, x1, x2, x3⟩ := cells3 K0.out
 have x30 := x3 0
 have x31 := x3 1
 have x32 := x3 2
 clear x3
 have ht := HT.out
 have dneg : decide ((idxR l0 a : Int) < 0) = false := decide_eq_false (by omega)
 have e1 : IntKind.i64.wrap ((idxR l0 a : Int) + 1) = (idxR l0 a : Int) + 1 := by have := HN.out; rw [IntKind.wrap_i64]; omega
 obtain ⟨n, hn⟩ : ∃ n, l0.length = n + 1 := ⟨l0.length - 1, by omega⟩
 obtain ⟨_, inner, ho, hr⟩ := HO.out
 rcases ho.2 with ⟨h', h0⟩ | ⟨g, cap, cur, h', hbg, hg, h1, h2, h3, h4⟩
 ·
  omega
 simp only [Value.slice.injEq] at h'
 obtain ⟨rfl, _, rfl⟩ := h'
 have hin : inner = l0.map (fun x => Value.int .i64 x) := ints_inner hr
 have h3 : cur.size = p0 := h3.trans (Nat.mul_one _)
 have h4 : cur.toList.take l0.length = l0.map (fun x => Value.int .i64 x) := by rw [← hin, ← h4]; congr 1; exact (Nat.mul_one _).symm
 have HE := Aside0.mk h4
 have HN1 := Aside0.mk hn
 have HG := Aside0.mk (show _ ∧ _ ∧ _ ∧ _ from ⟨hbg, h1, h2, h3⟩)
 have hdel := del104 g n (idxR l0 a) p0 cur w2 hg (by rw [h3]; omega) (by have := HN.out; omega) (by omega) (by unfold maxLen at h2; omega) (by omega) (fun v hv => by rw [← hn, h4] at hv; obtain ⟨x, _, rfl⟩ := List.mem_map.1 hv; rfl)
 have HDL := Aside0.mk hdel
 clear hdel hin hr ho hg hbg h1 h2 h3 h4 HO
 rw [hn]
 clear hn ht F0
 go_wp2_with fail
 refine HDL.out.mono ?_
 rintro e w3 ⟨rfl, ⟨cur', hg', hs', ht'⟩, hk', hsz', hbl'⟩
 have hgw : w.heap.size + 1 ≤ g := by have := HG.out.1; have := SV0.out; omega
 replace HB := Aside0.mk (hbl' _ _ HB.out (by omega))
 clear x0 x1 x2 x30 x31 x32
 replace K0 := Aside0.mk ((hk' _ (by omega)).trans K0.out)
 have hq : cur'.toList.take n = (dropR l0 a).map (fun x => Value.int .i64 x) := by
  have ht := HT.out
  have hn := HN1.out
  have h5 : cur.toList.take (idxR l0 a) = (l0.take (idxR l0 a)).map (fun x => Value.int .i64 x) := by
   rw [List.map_take, ← HE.out, List.take_take, Nat.min_eq_left (by omega)]
  have h6 : (cur.toList.drop (idxR l0 a + 1)).take (n - idxR l0 a) = (l0.drop (idxR l0 a + 1)).map (fun x => Value.int .i64 x) := by
   rw [List.map_drop, ← HE.out, List.drop_take, hn, show n + 1 - (idxR l0 a + 1) = n - idxR l0 a from by omega]
  rw [ht', h5, h6, ← List.map_append]
  rfl
 have hl2 : (dropR l0 a).length = n := by have ht := HT.out; have hn := HN1.out; simp [dropR]; omega
 rw [← hl2] at hq
 have hF := ints_F hg' hq (by have := HN.out; have := HN1.out; omega)
 have F1 := Aside0.mk (Kd.F_mono hF (ok' := fun k => w.heap.size + 1 ≤ k) (fun k hk => hk.elim False.elim (fun h => by rw [h]; exact hgw)))
 have HG1 := Aside0.mk hgw
 have HL2 := Aside0.mk hl2
 have HCp := Aside0.mk HG.out.2.1
 clear hF hq hg' hs' ht' hk' hsz' hbl' hgw
 obtain ⟨x0, x1, x2, x3⟩ := cells3 K0.out
 have x30 := x3 0
 have x31 := x3 1
 have x32 := x3 2
 clear x3
 have hn0 : n = 0 := by rw [← hl2, HD.out]; rfl
 subst hn0
 clear hl2
 go_wp2_with fail
 clear x0 x1 x2 x30 x31 x32
 obtain ⟨V4, hV4⟩ : ∃ V_, V_ = (((w3.setCell ⟨w.heap.size, 0, none⟩ (.int .i64 0)).setCell ⟨w.heap.size, 1, none⟩ (.slice none 0 0)).setCell ⟨w.heap.size, 2, none⟩ (.int .i64 (-1))) := ⟨_, rfl⟩
 rw [← hV4]
 have hge_ : w.heap.size ≤ w.heap.size := by omega
 have hst_ : St w.heap.size w (w.heap.size) 34 #[.int .i64 0, .slice none 0 0, .int .i64 (-1)] w3 V4 := by rw [hV4]; exact (St.next (St.next (St.first HB.out hge_ K0.out 0 _ rfl) hge_ 1 _ rfl) hge_ 2 _ rfl)
 replace HB := Aside0.mk hst_.1
 replace K0 := Aside0.mk hst_.2.1
 replace F1 := Aside0.mk (Kd.F_step F1.out (fun k_ hk_ _ => hst_.2.2.1 k_ (by have hk2_ : w.heap.size + 1 ≤ k_ := hk_; omega)))
 have SV4 := Aside0.mk hst_.2.2.2
 clear hV4 hst_ hge_
 refine bodyPost_ret (results_tc rfl _ _ w.heap.size 34 #[.int .i64 0, .slice none 0 0, .int .i64 (-1)] (0, 0) _ rfl K0.out Try.underlying34 rfl (by kernel_rfl)) rfl ?_
 exact ⟨none, 0, none, 0, rfl, Nat.le_refl _, Kd.F_nil _ _ _, Nat.le_refl _, Kd.F_nil _ _ _, HB.out⟩
set_option maxHeartbeats 1000000 in
theorem free_rest (A0 : Option Addr) (c0 : Nat) (l0 : List Int) (a : Int) (w : World) (hr0 : Kd.C ki w A0 l0.length l0) (hc0 : l0.length ≤ c0) (hb0 : l0.length < 1000000) (x : Int) (r : List Int) (ht : idxR l0 a < l0.length) (hd0 : dropR l0 a = x :: r) :
  Calls Try.prog 79 #[.slice A0 l0.length c0, .int .i64 a] w (T2 ki w (x :: r) ⟨0, [], x⟩) := by
 have HT := Aside0.mk ht
 clear ht
 have HD := Aside0.mk hd0
 clear hd0
 have HR0 := Aside0.mk hr0
 have HC0 := Aside0.mk hc0
 have HN := Aside0.mk hb0
 clear hr0 hc0 hb0
 have HB := Aside0.mk (Below.refl w.heap.size w)
 go_enter Try.func79, Try.ntmps79
 go_wp2_with fail
 obtain ⟨V0, hV0⟩ : ∃ V_, V_ = (w.alloc (.cells #[.int .i64 0, .slice none 0 0, .int .i64 0] 34)) := ⟨_, rfl⟩
 rw [← hV0]
 have hb_ : Below w.heap.size w V0 := by rw [hV0]; exact (below_alloc (Below.refl _ _) (.cells #[.int .i64 0, .slice none 0 0, .int .i64 0] 34))
 have K0 : Aside0 (V0.heap[w.heap.size]? = some (.cells #[.int .i64 0, .slice none 0 0, .int .i64 0] 34 (0, 0))) := Aside0.mk (by have h_ := heap_alloc_self w (.cells #[.int .i64 0, .slice none 0 0, .int .i64 0] 34); rw [hV0]; simpa using h_)
 have SV0 : Aside0 (V0.heap.size = w.heap.size + 1) := Aside0.mk (by rw [hV0]; simp)
 clear hV0
 replace HB := Aside0.mk (below_then HB.out HB.out.size hb_)
 clear hb_
 refine (clone75 A0 c0 l0 V0 (Kd.C_below HR0.out HB.out) HC0.out HN.out).mono ?_
 rintro e w1 ⟨v1, rfl, hR, hb_⟩
 obtain ⟨P0, p0, rfl⟩ := Kd.R_slice hR
 have HO := Aside0.mk hR
 have S1 := Aside0.mk hb_.size
 have F0 := Aside0.mk (Kd.F_mono (F_of_R hR) (fun k hk => (show w.heap.size + 1 ≤ k from by have h2 : V0.heap.size ≤ k := hk; have := SV0.out; omega)))
 clear hR
 replace HB := Aside0.mk (below_then HB.out HB.out.size hb_)
 replace K0 := Aside0.mk (blk_keep K0.out hb_)
 clear hb_
 go_wp2_with fail
 refine (slices_Index_int_int.calls (l0.length + 1) P0 p0 l0 a ((idxR l0 a : Int)) w1 (Kd.F_now F0.out) (R_cap HO.out).1 (by rw [index_f l0 a HN.out, idxI]; simp [HT.out])).mono ?_
 rintro e w2 ⟨rfl, hd⟩
 have hb_ := hd.below
 clear hd
 replace HB := Aside0.mk (below_then HB.out HB.out.size hb_)
 replace K0 := Aside0.mk (blk_keep K0.out hb_)
 replace F0 := Aside0.mk (Kd.F_below F0.out hb_)
 have HO := Aside0.mk (R_keep3 HO.out (fun k a b e => hb_.block k b))
 have S2 := Aside0.mk hb_.size
 clear hb_
 obtain ⟨x0, x1, x2, x3⟩ := cells3 K0.out
 have x30 := x3 0
 have x31 := x3 1
 have x32 := x3 2
 clear x3
 have ht := HT.out
 have dneg : decide ((idxR l0 a : Int) < 0) = false := decide_eq_false (by omega)
 have e1 : IntKind.i64.wrap ((idxR l0 a : Int) + 1) = (idxR l0 a : Int) + 1 := by have := HN.out; rw [IntKind.wrap_i64]; omega
 obtain ⟨n, hn⟩ : ∃ n, l0.length = n + 1 := ⟨l0.length - 1, by omega⟩
 obtain ⟨_, inner, ho, hr⟩ := HO.out
 rcases ho.2 with ⟨h', h0⟩ | ⟨g, cap, cur, h', hbg, hg, h1, h2, h3, h4⟩
 ·
  omega
 simp only [Value.slice.injEq] at h'
 obtain ⟨rfl, _, rfl⟩ := h'
 have hin : inner = l0.map (fun x => Value.int .i64 x) := ints_inner hr
 have h3 : cur.size = p0 := h3.trans (Nat.mul_one _)
 have h4 : cur.toList.take l0.length = l0.map (fun x => Value.int .i64 x) := by rw [← hin, ← h4]; congr 1; exact (Nat.mul_one _).symm
 have HE := Aside0.mk h4
 have HN1 := Aside0.mk hn
 have HG := Aside0.mk (show _ ∧ _ ∧ _ ∧ _ from ⟨hbg, h1, h2, h3⟩)
 have hdel := del104 g n (idxR l0 a) p0 cur w2 hg (by rw [h3]; omega) (by have := HN.out; omega) (by omega) (by unfold maxLen at h2; omega) (by omega) (fun v hv => by rw [← hn, h4] at hv; obtain ⟨x, _, rfl⟩ := List.mem_map.1 hv; rfl)
 have HDL := Aside0.mk hdel
 clear hdel hin hr ho hg hbg h1 h2 h3 h4 HO
 rw [hn]
 clear hn ht F0
 go_wp2_with fail
 refine HDL.out.mono ?_
 rintro e w3 ⟨rfl, ⟨cur', hg', hs', ht'⟩, hk', hsz', hbl'⟩
 have hgw : w.heap.size + 1 ≤ g := by have := HG.out.1; have := SV0.out; omega
 replace HB := Aside0.mk (hbl' _ _ HB.out (by omega))
 clear x0 x1 x2 x30 x31 x32
 replace K0 := Aside0.mk ((hk' _ (by omega)).trans K0.out)
 have hq : cur'.toList.take n = (dropR l0 a).map (fun x => Value.int .i64 x) := by
  have ht := HT.out
  have hn := HN1.out
  have h5 : cur.toList.take (idxR l0 a) = (l0.take (idxR l0 a)).map (fun x => Value.int .i64 x) := by
   rw [List.map_take, ← HE.out, List.take_take, Nat.min_eq_left (by omega)]
  have h6 : (cur.toList.drop (idxR l0 a + 1)).take (n - idxR l0 a) = (l0.drop (idxR l0 a + 1)).map (fun x => Value.int .i64 x) := by
   rw [List.map_drop, ← HE.out, List.drop_take, hn, show n + 1 - (idxR l0 a + 1) = n - idxR l0 a from by omega]
  rw [ht', h5, h6, ← List.map_append]
  rfl
 have hl2 : (dropR l0 a).length = n := by have ht := HT.out; have hn := HN1.out; simp [dropR]; omega
 rw [← hl2] at hq
 have hF := ints_F hg' hq (by have := HN.out; have := HN1.out; omega)
 have F1 := Aside0.mk (Kd.F_mono hF (ok' := fun k => w.heap.size + 1 ≤ k) (fun k hk => hk.elim False.elim (fun h => by rw [h]; exact hgw)))
 have HG1 := Aside0.mk hgw
 have HL2 := Aside0.mk hl2
 have HCp := Aside0.mk HG.out.2.1
 clear hF hq hg' hs' ht' hk' hsz' hbl' hgw
 obtain ⟨x0, x1, x2, x3⟩ := cells3 K0.out
 have x30 := x3 0
 have x31 := x3 1
 have x32 := x3 2
 clear x3
 have hn0 : ¬ (n : Int) = 0 := by rw [← hl2, HD.out]; simp <;> omega
 have hn1 : (0 : Int) < (n : Int) := by omega
 have c0 : w3.cell? ⟨g, 0, none⟩ = some (.int .i64 x) := by
  have hF := F1.out
  rw [HD.out] at hF
  obtain ⟨ad, hA, hc⟩ := (Kd.F_now hF).2.2 (by simp)
  cases hA
  obtain ⟨c, hcl, hK, hcc⟩ := hc 0 x rfl
  have h9 := hcc 0 (.int .i64 x) (by rw [show c = [.int .i64 x] from hK]; rfl)
  simpa [add_plain] using h9
 have bd_ := below_drew1 (Below.refl w3.heap.size w3)
 clear hl2
 go_wp2_with fail
 go_region
 clear x0 x1 x2 x30 x31 x32
 clear c0 bd_
 obtain ⟨V4, hV4⟩ : ∃ V_, V_ = (((w3.setCell ⟨w.heap.size, 0, none⟩ (.int .i64 0)).setCell ⟨w.heap.size, 1, none⟩ (.slice none 0 0)).setCell ⟨w.heap.size, 2, none⟩ (.int .i64 x)) := ⟨_, rfl⟩
 rw [← hV4]
 have hge_ : w.heap.size ≤ w.heap.size := by omega
 have hst_ : St w.heap.size w (w.heap.size) 34 #[.int .i64 0, .slice none 0 0, .int .i64 x] w3 V4 := by rw [hV4]; exact (St.next (St.next (St.first HB.out hge_ K0.out 0 _ rfl) hge_ 1 _ rfl) hge_ 2 _ rfl)
 replace HB := Aside0.mk hst_.1
 replace K0 := Aside0.mk hst_.2.1
 replace F1 := Aside0.mk (Kd.F_step F1.out (fun k_ hk_ _ => hst_.2.2.1 k_ (by have hk2_ : w.heap.size + 1 ≤ k_ := hk_; omega)))
 have SV4 := Aside0.mk hst_.2.2.2
 clear hV4 hst_ hge_
 have bd_ := below_drew1 (Below.refl V4.heap.size V4)
 replace HB := Aside0.mk (below_then HB.out HB.out.size bd_)
 replace K0 := Aside0.mk (blk_keep K0.out bd_)
 replace F1 := Aside0.mk (Kd.F_below F1.out bd_)
 clear bd_
 go_wp2
 refine bodyPost_ret (results_tc rfl _ _ w.heap.size 34 #[.int .i64 0, .slice none 0 0, .int .i64 x] (0, 0) _ rfl K0.out Try.underlying34 rfl (by kernel_rfl)) rfl ?_
 have hF := F1.out
 have hl := HL2.out
 rw [HD.out] at hF hl
 refine ⟨some ⟨g, 0, none⟩, p0, none, 0, by rw [hl]; rfl, by rw [hl]; have := HCp.out; have := HN1.out; omega, Kd.F_mono hF (fun k hk => by have h2 : w.heap.size + 1 ≤ k := hk; show w.heap.size ≤ k; omega), Nat.le_refl _, Kd.F_nil _ _ _, HB.out⟩
theorem take78 (A0 : Option Addr) (c0 : Nat) (l0 : List Int) (a : Int) (w : World) (hr0 : Kd.C ki w A0 l0.length l0) (hc0 : l0.length ≤ c0) (hb0 : l0.length < 1000000) : Calls Try.prog 78 #[.slice A0 l0.length c0, .int .i64 a] w (T2 ki w (takeR l0 a).1 (takeR l0 a).2) := by
 unfold takeR
 split
 ·
  exact take_there A0 c0 l0 a w hr0 hc0 hb0 (by assumption)
 ·
  split
  ·
   exact take_full A0 c0 l0 a w hr0 hc0 hb0 (by assumption) (by assumption)
  ·
   exact take_new A0 c0 l0 a w hr0 hc0 hb0 (by assumption) (by assumption)
theorem free79 (A0 : Option Addr) (c0 : Nat) (l0 : List Int) (a : Int) (w : World) (hr0 : Kd.C ki w A0 l0.length l0) (hc0 : l0.length ≤ c0) (hb0 : l0.length < 1000000) : Calls Try.prog 79 #[.slice A0 l0.length c0, .int .i64 a] w (T2 ki w (freeR l0 a).1 (freeR l0 a).2) := by
 unfold freeR
 split
 ·
  cases hd : dropR l0 a with
  | nil => exact free_gone A0 c0 l0 a w hr0 hc0 hb0 (by assumption) hd
  | cons x r => exact free_rest A0 c0 l0 a w hr0 hc0 hb0 x r (by assumption) hd
 ·
  exact free_none A0 c0 l0 a w hr0 hc0 hb0 (by assumption)
end Go.Proofs.Ythfplgfpodmphaa.Ob
