/- objs.Apply, walked: some of its ways. -/
import Derived.Test.YthfplgfpodmphaaOv
namespace Go.Proofs.Ythfplgfpodmphaa.Ob
open Go.RowKit Go.Proofs.YthfplgfpodmphaaW.PrintWords Go.Proofs.YthfplgfpodmphaaW.PrintLast Go.Proofs.YthfplgfpodmphaaW.PrintMore Go.Proofs.Ythfplgfpodmphaa.Ms
attribute [local go_sem] max2_int min2_int max_two min_two max_three min_three max_four min_four
set_option linter.unusedVariables false
set_option linter.unusedSimpArgs false
set_option maxRecDepth 100000
set_option maxHeartbeats 4000000 in
theorem apply_8 (A0 : Option Addr) (c0 : Nat) (A1 : Option Addr) (c1 : Nat) (A2 : Option Addr) (c2 : Nat) (A3 : Option Addr) (c3 : Nat) (o : O) (kd a : Int) (E2 : Option Addr) (e2 : Nat) (E3 : Option Addr) (e3 : Nat) (E4 : Option Addr) (e4 : Nat) (ke va ol : List Int) (w : World) (hc : OC w o A0 c0 A1 c1 A2 c2 A3 c3) (hb : OB o) (hx : XC w ke va ol E2 e2 E3 e3 E4 e4) (hkd : kd = 8) :
  Calls Try.prog 10 #[.agg #[.slice A0 o.reg.length c0, .slice A1 o.que.length c1, .slice A2 o.loc.length c2, .slice A3 o.map.length c3], .agg #[.int .i64 kd, .int .i64 a, .slice E2 ke.length e2, .slice E3 va.length e3, .slice E4 ol.length e4]] w (TA w ({ o with loc := (locksR o.loc 8 a).1 }) (locksR o.loc 8 a).2) := by
 subst hkd
 have HC := Aside0.mk hc
 have HO := Aside0.mk hb
 have HX := Aside0.mk hx
 clear hc hb hx
 have HB := Aside0.mk (Below.refl w.heap.size w)
 go_enter Try.func10, Try.ntmps10
 go_wp2_with fail
 obtain ⟨V0, hV0⟩ : ∃ V_, V_ = ((((w.alloc (.cells #[.slice A0 o.reg.length c0, .slice A1 o.que.length c1, .slice A2 o.loc.length c2, .slice A3 o.map.length c3] 32)).alloc (.cells #[.int .i64 8, .int .i64 a, .slice E2 ke.length e2, .slice E3 va.length e3, .slice E4 ol.length e4] 24)).alloc (.cells #[.slice none 0 0, .slice none 0 0, .slice none 0 0, .slice none 0 0] 32)).alloc (.cells #[.int .i64 0, .slice none 0 0, .int .i64 0] 34)) := ⟨_, rfl⟩
 rw [← hV0]
 have hb_ : Below w.heap.size w V0 := by rw [hV0]; exact (below_alloc (below_alloc (below_alloc (below_alloc (Below.refl _ _) (.cells #[.slice A0 o.reg.length c0, .slice A1 o.que.length c1, .slice A2 o.loc.length c2, .slice A3 o.map.length c3] 32)) (.cells #[.int .i64 8, .int .i64 a, .slice E2 ke.length e2, .slice E3 va.length e3, .slice E4 ol.length e4] 24)) (.cells #[.slice none 0 0, .slice none 0 0, .slice none 0 0, .slice none 0 0] 32)) (.cells #[.int .i64 0, .slice none 0 0, .int .i64 0] 34))
 have K0 : Aside0 (V0.heap[w.heap.size]? = some (.cells #[.slice A0 o.reg.length c0, .slice A1 o.que.length c1, .slice A2 o.loc.length c2, .slice A3 o.map.length c3] 32 (0, 0))) := Aside0.mk (by have h_ := blk_alloc (blk_alloc (blk_alloc (heap_alloc_self w (.cells #[.slice A0 o.reg.length c0, .slice A1 o.que.length c1, .slice A2 o.loc.length c2, .slice A3 o.map.length c3] 32)) (.cells #[.int .i64 8, .int .i64 a, .slice E2 ke.length e2, .slice E3 va.length e3, .slice E4 ol.length e4] 24)) (.cells #[.slice none 0 0, .slice none 0 0, .slice none 0 0, .slice none 0 0] 32)) (.cells #[.int .i64 0, .slice none 0 0, .int .i64 0] 34); rw [hV0]; simpa using h_)
 have K1 : Aside0 (V0.heap[w.heap.size + 1]? = some (.cells #[.int .i64 8, .int .i64 a, .slice E2 ke.length e2, .slice E3 va.length e3, .slice E4 ol.length e4] 24 (0, 0))) := Aside0.mk (by have h_ := blk_alloc (blk_alloc (heap_alloc_self (w.alloc (.cells #[.slice A0 o.reg.length c0, .slice A1 o.que.length c1, .slice A2 o.loc.length c2, .slice A3 o.map.length c3] 32)) (.cells #[.int .i64 8, .int .i64 a, .slice E2 ke.length e2, .slice E3 va.length e3, .slice E4 ol.length e4] 24)) (.cells #[.slice none 0 0, .slice none 0 0, .slice none 0 0, .slice none 0 0] 32)) (.cells #[.int .i64 0, .slice none 0 0, .int .i64 0] 34); rw [hV0]; simpa using h_)
 have K2 : Aside0 (V0.heap[w.heap.size + 1 + 1]? = some (.cells #[.slice none 0 0, .slice none 0 0, .slice none 0 0, .slice none 0 0] 32 (0, 0))) := Aside0.mk (by have h_ := blk_alloc (heap_alloc_self ((w.alloc (.cells #[.slice A0 o.reg.length c0, .slice A1 o.que.length c1, .slice A2 o.loc.length c2, .slice A3 o.map.length c3] 32)).alloc (.cells #[.int .i64 8, .int .i64 a, .slice E2 ke.length e2, .slice E3 va.length e3, .slice E4 ol.length e4] 24)) (.cells #[.slice none 0 0, .slice none 0 0, .slice none 0 0, .slice none 0 0] 32)) (.cells #[.int .i64 0, .slice none 0 0, .int .i64 0] 34); rw [hV0]; simpa using h_)
 have K3 : Aside0 (V0.heap[w.heap.size + 1 + 1 + 1]? = some (.cells #[.int .i64 0, .slice none 0 0, .int .i64 0] 34 (0, 0))) := Aside0.mk (by have h_ := heap_alloc_self (((w.alloc (.cells #[.slice A0 o.reg.length c0, .slice A1 o.que.length c1, .slice A2 o.loc.length c2, .slice A3 o.map.length c3] 32)).alloc (.cells #[.int .i64 8, .int .i64 a, .slice E2 ke.length e2, .slice E3 va.length e3, .slice E4 ol.length e4] 24)).alloc (.cells #[.slice none 0 0, .slice none 0 0, .slice none 0 0, .slice none 0 0] 32)) (.cells #[.int .i64 0, .slice none 0 0, .int .i64 0] 34); rw [hV0]; simpa using h_)
 have SV0 : Aside0 (V0.heap.size = w.heap.size + 4) := Aside0.mk (by rw [hV0]; simp)
 clear hV0
 replace HB := Aside0.mk (below_then HB.out HB.out.size hb_)
 clear hb_
 refine (objs28 A0 c0 A1 c1 A2 c2 A3 c3 o V0 (HC.out.below HB.out) HO.out).mono ?_
 rintro e w1 ⟨B0, d0, B1, d1, B2, d2, B3, d3, rfl, hF, hb_⟩
 obtain ⟨b1, hb1⟩ : ∃ b_, b_ = V0.heap.size := ⟨_, rfl⟩
 obtain ⟨m1, hm1⟩ : ∃ b_, b_ = w1.heap.size := ⟨_, rfl⟩
 have L0 := Aside0.mk hF.h0
 have F0 := Aside0.mk (Kd.F_mono (Kd.F_bound hF.r0) (ok' := fun k => b1 ≤ k ∧ k < m1) (fun k hk => ⟨by rw [hb1]; exact hk.1, by rw [hm1]; exact hk.2⟩))
 have L1 := Aside0.mk hF.h1
 have F1 := Aside0.mk (Kd.F_mono (Kd.F_bound hF.r1) (ok' := fun k => b1 ≤ k ∧ k < m1) (fun k hk => ⟨by rw [hb1]; exact hk.1, by rw [hm1]; exact hk.2⟩))
 have L2 := Aside0.mk hF.h2
 have F2 := Aside0.mk (Kd.F_mono (Kd.F_bound hF.r2) (ok' := fun k => b1 ≤ k ∧ k < m1) (fun k hk => ⟨by rw [hb1]; exact hk.1, by rw [hm1]; exact hk.2⟩))
 have L3 := Aside0.mk hF.h3
 have F3 := Aside0.mk (Kd.F_mono (Kd.F_bound hF.r3) (ok' := fun k => b1 ≤ k ∧ k < m1) (fun k hk => ⟨by rw [hb1]; exact hk.1, by rw [hm1]; exact hk.2⟩))
 have Z1 := Aside0.mk (show w.heap.size + 4 ≤ b1 ∧ b1 ≤ m1 from ⟨by rw [hb1, SV0.out]; exact Nat.le_refl _, by rw [hb1, hm1]; exact hb_.size⟩)
 clear hF hb1
 replace HB := Aside0.mk (below_then HB.out HB.out.size hb_)
 replace K0 := Aside0.mk (blk_keep K0.out hb_)
 replace K1 := Aside0.mk (blk_keep K1.out hb_)
 replace K2 := Aside0.mk (blk_keep K2.out hb_)
 replace K3 := Aside0.mk (blk_keep K3.out hb_)
 clear hb_
 obtain ⟨x0, x1, x2, x3, x4⟩ := cells4 K0.out
 have x40 := x4 0
 have x41 := x4 1
 have x42 := x4 2
 have x43 := x4 3
 clear x4
 go_wp2_with (
  (with_reducible refine gate_dst (N := 6) rfl ?_)
  clear x0 x1 x2 x3 x40 x41 x42 x43
  obtain ⟨V2, hV2⟩ : ∃ V_, V_ = ((((w1.setCell ⟨w.heap.size, 0, none⟩ (.slice B0 o.reg.length d0)).setCell ⟨w.heap.size, 1, none⟩ (.slice B1 o.que.length d1)).setCell ⟨w.heap.size, 2, none⟩ (.slice B2 o.loc.length d2)).setCell ⟨w.heap.size, 3, none⟩ (.slice B3 o.map.length d3)) := ⟨_, rfl⟩
  rw [← hV2]
  have hge_ : w.heap.size ≤ w.heap.size := by have z_ := Z1.out; omega
  have hst_ : St w.heap.size w (w.heap.size) 32 #[.slice B0 o.reg.length d0, .slice B1 o.que.length d1, .slice B2 o.loc.length d2, .slice B3 o.map.length d3] w1 V2 := by rw [hV2]; exact (St.next (St.next (St.next (St.first HB.out hge_ K0.out 0 _ rfl) hge_ 1 _ rfl) hge_ 2 _ rfl) hge_ 3 _ rfl)
  replace HB := Aside0.mk hst_.1
  replace K0 := Aside0.mk hst_.2.1
  replace K1 := Aside0.mk ((hst_.2.2.1 (w.heap.size + 1) (by have z_ := Z1.out; omega)).trans K1.out)
  replace K2 := Aside0.mk ((hst_.2.2.1 (w.heap.size + 1 + 1) (by have z_ := Z1.out; omega)).trans K2.out)
  replace K3 := Aside0.mk ((hst_.2.2.1 (w.heap.size + 1 + 1 + 1) (by have z_ := Z1.out; omega)).trans K3.out)
  replace F0 := Aside0.mk (Kd.F_step F0.out (fun k_ hk_ _ => hst_.2.2.1 k_ (by have hk2_ : b1 ≤ k_ ∧ k_ < m1 := hk_; have z_ := Z1.out; omega)))
  replace F1 := Aside0.mk (Kd.F_step F1.out (fun k_ hk_ _ => hst_.2.2.1 k_ (by have hk2_ : b1 ≤ k_ ∧ k_ < m1 := hk_; have z_ := Z1.out; omega)))
  replace F2 := Aside0.mk (Kd.F_step F2.out (fun k_ hk_ _ => hst_.2.2.1 k_ (by have hk2_ : b1 ≤ k_ ∧ k_ < m1 := hk_; have z_ := Z1.out; omega)))
  replace F3 := Aside0.mk (Kd.F_step F3.out (fun k_ hk_ _ => hst_.2.2.1 k_ (by have hk2_ : b1 ≤ k_ ∧ k_ < m1 := hk_; have z_ := Z1.out; omega)))
  have SV2 := Aside0.mk hst_.2.2.2
  clear hV2 hst_ hge_
  refine box_event ?hg (N := 6) ?hd (cs := #[.int .i64 0, .slice none 0 0, .int .i64 0]) (t := 34) ?hr ?_
  (case hd => rfl)
  (case hg => rfl)
  (case hr => first | (go_simp; done) | (go_simp; rfl))
  intro g6 hg V3 hbox hb_
  have K6 := Aside0.mk hbox
  have hlt_ := (Array.getElem?_eq_some_iff.1 hbox).1
  have ZZ := Aside0.mk (show w.heap.size + 4 ≤ b1 ∧ b1 ≤ m1 ∧ m1 ≤ g6 ∧ g6 < V3.heap.size from ⟨Z1.out.1, Z1.out.2, by rw [hg, SV2.out, hm1]; exact Nat.le_refl _, hlt_⟩)
  clear hg hm1 Z1 SV2 SV0 hbox hlt_
  replace HB := Aside0.mk (below_then HB.out HB.out.size hb_)
  replace K0 := Aside0.mk (blk_keep K0.out hb_)
  replace K1 := Aside0.mk (blk_keep K1.out hb_)
  replace K2 := Aside0.mk (blk_keep K2.out hb_)
  replace K3 := Aside0.mk (blk_keep K3.out hb_)
  replace F0 := Aside0.mk (Kd.F_below F0.out hb_)
  replace F1 := Aside0.mk (Kd.F_below F1.out hb_)
  replace F2 := Aside0.mk (Kd.F_below F2.out hb_)
  replace F3 := Aside0.mk (Kd.F_below F3.out hb_)
  clear hb_
  obtain ⟨x0, x1, x2, x3, x4⟩ := cells4 K0.out
  have x40 := x4 0
  have x41 := x4 1
  have x42 := x4 2
  have x43 := x4 3
  clear x4
  obtain ⟨y0, y1, y2, y3, y4, y5⟩ := cells5 K1.out
  have y50 := y5 0
  have y51 := y5 1
  have y52 := y5 2
  have y53 := y5 3
  have y54 := y5 4
  clear y5)
 clear x0 x1 x2 x3 x40 x41 x42 x43
 clear y0 y1 y2 y3 y4 y50 y51 y52 y53 y54
 refine (locks34 B2 d2 o.loc 8 a E2 E3 E4 ke.length e2 va.length e3 ol.length e4 V3 _ F2.out L2.out HO.out.b2).mono ?_
 rintro e w4 ⟨A9, c9, Av, cv, rfl, hc9, hF9, hcv, hFv, hb_⟩
 have L9 := Aside0.mk hc9
 have F9 := Aside0.mk (Kd.F_mono hF9 (ok' := fun k_ => b1 ≤ k_ ∧ k_ < m1 ∨ g6 < k_) (fun k hk => by have z_ := ZZ.out; have h2 : (b1 ≤ k ∧ k < m1) ∨ V3.heap.size ≤ k := hk; show b1 ≤ k ∧ k < m1 ∨ g6 < k; omega))
 clear hF9 hc9
 have LV := Aside0.mk hcv
 have FV := Aside0.mk (Kd.F_mono hFv (ok' := fun k_ => g6 < k_) (fun k hk => by have z_ := ZZ.out; have h2 : V3.heap.size ≤ k := hk; show g6 < k; omega))
 clear hFv hcv
 replace HB := Aside0.mk (below_then HB.out HB.out.size hb_)
 replace K0 := Aside0.mk (blk_keep K0.out hb_)
 replace K1 := Aside0.mk (blk_keep K1.out hb_)
 replace K2 := Aside0.mk (blk_keep K2.out hb_)
 replace K3 := Aside0.mk (blk_keep K3.out hb_)
 replace K6 := Aside0.mk (blk_keep K6.out hb_)
 replace F0 := Aside0.mk (Kd.F_below F0.out hb_)
 replace F1 := Aside0.mk (Kd.F_below F1.out hb_)
 replace F2 := Aside0.mk (Kd.F_below F2.out hb_)
 replace F3 := Aside0.mk (Kd.F_below F3.out hb_)
 clear hb_
 have n6 : ¬ g6 = w.heap.size := by have z_ := ZZ.out; omega
 have n6' : ¬ w.heap.size = g6 := by have z_ := ZZ.out; omega
 obtain ⟨x0, x1, x2, x3, x4⟩ := cells4 K0.out
 have x40 := x4 0
 have x41 := x4 1
 have x42 := x4 2
 have x43 := x4 3
 clear x4
 obtain ⟨v0, v1, v2, v3⟩ := cells3 K6.out
 have v30 := v3 0
 have v31 := v3 1
 have v32 := v3 2
 clear v3
 go_wp2_with fail
 clear x0 x1 x2 x3 x40 x41 x42 x43
 clear v0 v1 v2 v30 v31 v32
 clear n6 n6'
 obtain ⟨V5, hV5⟩ : ∃ V_, V_ = (w4.setCell ⟨w.heap.size, 2, none⟩ (.slice A9 (locksR o.loc 8 a).1.length c9)) := ⟨_, rfl⟩
 rw [← hV5]
 have hge_ : w.heap.size ≤ w.heap.size := by have z_ := ZZ.out; omega
 have hst_ : St w.heap.size w (w.heap.size) 32 #[.slice B0 o.reg.length d0, .slice B1 o.que.length d1, .slice A9 (locksR o.loc 8 a).1.length c9, .slice B3 o.map.length d3] w4 V5 := by rw [hV5]; exact (St.first HB.out hge_ K0.out 2 _ rfl)
 replace HB := Aside0.mk hst_.1
 replace K0 := Aside0.mk hst_.2.1
 replace K1 := Aside0.mk ((hst_.2.2.1 (w.heap.size + 1) (by have z_ := ZZ.out; omega)).trans K1.out)
 replace K2 := Aside0.mk ((hst_.2.2.1 (w.heap.size + 1 + 1) (by have z_ := ZZ.out; omega)).trans K2.out)
 replace K3 := Aside0.mk ((hst_.2.2.1 (w.heap.size + 1 + 1 + 1) (by have z_ := ZZ.out; omega)).trans K3.out)
 replace K6 := Aside0.mk ((hst_.2.2.1 (g6) (by have z_ := ZZ.out; omega)).trans K6.out)
 replace F0 := Aside0.mk (Kd.F_step F0.out (fun k_ hk_ _ => hst_.2.2.1 k_ (by have hk2_ : b1 ≤ k_ ∧ k_ < m1 := hk_; have z_ := ZZ.out; omega)))
 replace F1 := Aside0.mk (Kd.F_step F1.out (fun k_ hk_ _ => hst_.2.2.1 k_ (by have hk2_ : b1 ≤ k_ ∧ k_ < m1 := hk_; have z_ := ZZ.out; omega)))
 replace F2 := Aside0.mk (Kd.F_step F2.out (fun k_ hk_ _ => hst_.2.2.1 k_ (by have hk2_ : b1 ≤ k_ ∧ k_ < m1 := hk_; have z_ := ZZ.out; omega)))
 replace F3 := Aside0.mk (Kd.F_step F3.out (fun k_ hk_ _ => hst_.2.2.1 k_ (by have hk2_ : b1 ≤ k_ ∧ k_ < m1 := hk_; have z_ := ZZ.out; omega)))
 replace FV := Aside0.mk (Kd.F_step FV.out (fun k_ hk_ _ => hst_.2.2.1 k_ (by have hk2_ : g6 < k_ := hk_; have z_ := ZZ.out; omega)))
 replace F9 := Aside0.mk (Kd.F_step F9.out (fun k_ hk_ _ => hst_.2.2.1 k_ (by have hk2_ : b1 ≤ k_ ∧ k_ < m1 ∨ g6 < k_ := hk_; have z_ := ZZ.out; omega)))
 have SV5 := Aside0.mk hst_.2.2.2
 clear hV5 hst_ hge_
 obtain ⟨V6, hV6⟩ : ∃ V_, V_ = (((V5.setCell ⟨g6, 0, none⟩ (.int .i64 (locksR o.loc 8 a).2.f0)).setCell ⟨g6, 1, none⟩ (.slice Av (locksR o.loc 8 a).2.f1.length cv)).setCell ⟨g6, 2, none⟩ (.int .i64 (locksR o.loc 8 a).2.f2)) := ⟨_, rfl⟩
 rw [← hV6]
 have hge_ : w.heap.size ≤ g6 := by have z_ := ZZ.out; omega
 have hst_ : St w.heap.size w (g6) 34 #[.int .i64 (locksR o.loc 8 a).2.f0, .slice Av (locksR o.loc 8 a).2.f1.length cv, .int .i64 (locksR o.loc 8 a).2.f2] V5 V6 := by rw [hV6]; exact (St.next (St.next (St.first HB.out hge_ K6.out 0 _ rfl) hge_ 1 _ rfl) hge_ 2 _ rfl)
 replace HB := Aside0.mk hst_.1
 replace K6 := Aside0.mk hst_.2.1
 replace K0 := Aside0.mk ((hst_.2.2.1 (w.heap.size) (by have z_ := ZZ.out; omega)).trans K0.out)
 replace K1 := Aside0.mk ((hst_.2.2.1 (w.heap.size + 1) (by have z_ := ZZ.out; omega)).trans K1.out)
 replace K2 := Aside0.mk ((hst_.2.2.1 (w.heap.size + 1 + 1) (by have z_ := ZZ.out; omega)).trans K2.out)
 replace K3 := Aside0.mk ((hst_.2.2.1 (w.heap.size + 1 + 1 + 1) (by have z_ := ZZ.out; omega)).trans K3.out)
 replace F0 := Aside0.mk (Kd.F_step F0.out (fun k_ hk_ _ => hst_.2.2.1 k_ (by have hk2_ : b1 ≤ k_ ∧ k_ < m1 := hk_; have z_ := ZZ.out; omega)))
 replace F1 := Aside0.mk (Kd.F_step F1.out (fun k_ hk_ _ => hst_.2.2.1 k_ (by have hk2_ : b1 ≤ k_ ∧ k_ < m1 := hk_; have z_ := ZZ.out; omega)))
 replace F2 := Aside0.mk (Kd.F_step F2.out (fun k_ hk_ _ => hst_.2.2.1 k_ (by have hk2_ : b1 ≤ k_ ∧ k_ < m1 := hk_; have z_ := ZZ.out; omega)))
 replace F3 := Aside0.mk (Kd.F_step F3.out (fun k_ hk_ _ => hst_.2.2.1 k_ (by have hk2_ : b1 ≤ k_ ∧ k_ < m1 := hk_; have z_ := ZZ.out; omega)))
 replace FV := Aside0.mk (Kd.F_step FV.out (fun k_ hk_ _ => hst_.2.2.1 k_ (by have hk2_ : g6 < k_ := hk_; have z_ := ZZ.out; omega)))
 replace F9 := Aside0.mk (Kd.F_step F9.out (fun k_ hk_ _ => hst_.2.2.1 k_ (by have hk2_ : b1 ≤ k_ ∧ k_ < m1 ∨ g6 < k_ := hk_; have z_ := ZZ.out; omega)))
 have SV6 := Aside0.mk hst_.2.2.2
 clear hV6 hst_ hge_
 obtain ⟨x0, x1, x2, x3, x4⟩ := cells4 K0.out
 have x40 := x4 0
 have x41 := x4 1
 have x42 := x4 2
 have x43 := x4 3
 clear x4
 obtain ⟨v0, v1, v2, v3⟩ := cells3 K6.out
 have v30 := v3 0
 have v31 := v3 1
 have v32 := v3 2
 clear v3
 obtain ⟨s0, s1, s2, s3, s4⟩ := cells4 K2.out
 have s40 := s4 0
 have s41 := s4 1
 have s42 := s4 2
 have s43 := s4 3
 clear s4
 obtain ⟨t0, t1, t2, t3⟩ := cells3 K3.out
 have t30 := t3 0
 have t31 := t3 1
 have t32 := t3 2
 clear t3
 have n0 : ¬ g6 = w.heap.size + 1 + 1 := by have z_ := ZZ.out; omega
 have n0' : ¬ w.heap.size + 1 + 1 = g6 := by have z_ := ZZ.out; omega
 have n1 : ¬ g6 = w.heap.size + 1 + 1 + 1 := by have z_ := ZZ.out; omega
 have n1' : ¬ w.heap.size + 1 + 1 + 1 = g6 := by have z_ := ZZ.out; omega
 go_wp2_with fail
 go_region
 clear n0 n0' n1 n1'
 clear x0 x1 x2 x3 x40 x41 x42 x43
 clear v0 v1 v2 v30 v31 v32
 clear s0 s1 s2 s3 s40 s41 s42 s43
 clear t0 t1 t2 t30 t31 t32
 obtain ⟨V7, hV7⟩ : ∃ V_, V_ = ((((V6.setCell ⟨w.heap.size + 1 + 1, 0, none⟩ (.slice B0 o.reg.length d0)).setCell ⟨w.heap.size + 1 + 1, 1, none⟩ (.slice B1 o.que.length d1)).setCell ⟨w.heap.size + 1 + 1, 2, none⟩ (.slice A9 (locksR o.loc 8 a).1.length c9)).setCell ⟨w.heap.size + 1 + 1, 3, none⟩ (.slice B3 o.map.length d3)) := ⟨_, rfl⟩
 rw [← hV7]
 have hge_ : w.heap.size ≤ w.heap.size + 1 + 1 := by have z_ := ZZ.out; omega
 have hst_ : St w.heap.size w (w.heap.size + 1 + 1) 32 #[.slice B0 o.reg.length d0, .slice B1 o.que.length d1, .slice A9 (locksR o.loc 8 a).1.length c9, .slice B3 o.map.length d3] V6 V7 := by rw [hV7]; exact (St.next (St.next (St.next (St.first HB.out hge_ K2.out 0 _ rfl) hge_ 1 _ rfl) hge_ 2 _ rfl) hge_ 3 _ rfl)
 replace HB := Aside0.mk hst_.1
 replace K2 := Aside0.mk hst_.2.1
 replace K0 := Aside0.mk ((hst_.2.2.1 (w.heap.size) (by have z_ := ZZ.out; omega)).trans K0.out)
 replace K1 := Aside0.mk ((hst_.2.2.1 (w.heap.size + 1) (by have z_ := ZZ.out; omega)).trans K1.out)
 replace K3 := Aside0.mk ((hst_.2.2.1 (w.heap.size + 1 + 1 + 1) (by have z_ := ZZ.out; omega)).trans K3.out)
 replace K6 := Aside0.mk ((hst_.2.2.1 (g6) (by have z_ := ZZ.out; omega)).trans K6.out)
 replace F0 := Aside0.mk (Kd.F_step F0.out (fun k_ hk_ _ => hst_.2.2.1 k_ (by have hk2_ : b1 ≤ k_ ∧ k_ < m1 := hk_; have z_ := ZZ.out; omega)))
 replace F1 := Aside0.mk (Kd.F_step F1.out (fun k_ hk_ _ => hst_.2.2.1 k_ (by have hk2_ : b1 ≤ k_ ∧ k_ < m1 := hk_; have z_ := ZZ.out; omega)))
 replace F2 := Aside0.mk (Kd.F_step F2.out (fun k_ hk_ _ => hst_.2.2.1 k_ (by have hk2_ : b1 ≤ k_ ∧ k_ < m1 := hk_; have z_ := ZZ.out; omega)))
 replace F3 := Aside0.mk (Kd.F_step F3.out (fun k_ hk_ _ => hst_.2.2.1 k_ (by have hk2_ : b1 ≤ k_ ∧ k_ < m1 := hk_; have z_ := ZZ.out; omega)))
 replace FV := Aside0.mk (Kd.F_step FV.out (fun k_ hk_ _ => hst_.2.2.1 k_ (by have hk2_ : g6 < k_ := hk_; have z_ := ZZ.out; omega)))
 replace F9 := Aside0.mk (Kd.F_step F9.out (fun k_ hk_ _ => hst_.2.2.1 k_ (by have hk2_ : b1 ≤ k_ ∧ k_ < m1 ∨ g6 < k_ := hk_; have z_ := ZZ.out; omega)))
 have SV7 := Aside0.mk hst_.2.2.2
 clear hV7 hst_ hge_
 obtain ⟨V8, hV8⟩ : ∃ V_, V_ = (((V7.setCell ⟨w.heap.size + 1 + 1 + 1, 0, none⟩ (.int .i64 (locksR o.loc 8 a).2.f0)).setCell ⟨w.heap.size + 1 + 1 + 1, 1, none⟩ (.slice Av (locksR o.loc 8 a).2.f1.length cv)).setCell ⟨w.heap.size + 1 + 1 + 1, 2, none⟩ (.int .i64 (locksR o.loc 8 a).2.f2)) := ⟨_, rfl⟩
 rw [← hV8]
 have hge_ : w.heap.size ≤ w.heap.size + 1 + 1 + 1 := by have z_ := ZZ.out; omega
 have hst_ : St w.heap.size w (w.heap.size + 1 + 1 + 1) 34 #[.int .i64 (locksR o.loc 8 a).2.f0, .slice Av (locksR o.loc 8 a).2.f1.length cv, .int .i64 (locksR o.loc 8 a).2.f2] V7 V8 := by rw [hV8]; exact (St.next (St.next (St.first HB.out hge_ K3.out 0 _ rfl) hge_ 1 _ rfl) hge_ 2 _ rfl)
 replace HB := Aside0.mk hst_.1
 replace K3 := Aside0.mk hst_.2.1
 replace K0 := Aside0.mk ((hst_.2.2.1 (w.heap.size) (by have z_ := ZZ.out; omega)).trans K0.out)
 replace K1 := Aside0.mk ((hst_.2.2.1 (w.heap.size + 1) (by have z_ := ZZ.out; omega)).trans K1.out)
 replace K2 := Aside0.mk ((hst_.2.2.1 (w.heap.size + 1 + 1) (by have z_ := ZZ.out; omega)).trans K2.out)
 replace K6 := Aside0.mk ((hst_.2.2.1 (g6) (by have z_ := ZZ.out; omega)).trans K6.out)
 replace F0 := Aside0.mk (Kd.F_step F0.out (fun k_ hk_ _ => hst_.2.2.1 k_ (by have hk2_ : b1 ≤ k_ ∧ k_ < m1 := hk_; have z_ := ZZ.out; omega)))
 replace F1 := Aside0.mk (Kd.F_step F1.out (fun k_ hk_ _ => hst_.2.2.1 k_ (by have hk2_ : b1 ≤ k_ ∧ k_ < m1 := hk_; have z_ := ZZ.out; omega)))
 replace F2 := Aside0.mk (Kd.F_step F2.out (fun k_ hk_ _ => hst_.2.2.1 k_ (by have hk2_ : b1 ≤ k_ ∧ k_ < m1 := hk_; have z_ := ZZ.out; omega)))
 replace F3 := Aside0.mk (Kd.F_step F3.out (fun k_ hk_ _ => hst_.2.2.1 k_ (by have hk2_ : b1 ≤ k_ ∧ k_ < m1 := hk_; have z_ := ZZ.out; omega)))
 replace FV := Aside0.mk (Kd.F_step FV.out (fun k_ hk_ _ => hst_.2.2.1 k_ (by have hk2_ : g6 < k_ := hk_; have z_ := ZZ.out; omega)))
 replace F9 := Aside0.mk (Kd.F_step F9.out (fun k_ hk_ _ => hst_.2.2.1 k_ (by have hk2_ : b1 ≤ k_ ∧ k_ < m1 ∨ g6 < k_ := hk_; have z_ := ZZ.out; omega)))
 have SV8 := Aside0.mk hst_.2.2.2
 clear hV8 hst_ hge_
 have bd_ := below_drew1 (Below.refl V8.heap.size V8)
 replace HB := Aside0.mk (below_then HB.out HB.out.size bd_)
 replace K0 := Aside0.mk (blk_keep K0.out bd_)
 replace K1 := Aside0.mk (blk_keep K1.out bd_)
 replace K2 := Aside0.mk (blk_keep K2.out bd_)
 replace K3 := Aside0.mk (blk_keep K3.out bd_)
 replace K6 := Aside0.mk (blk_keep K6.out bd_)
 replace F0 := Aside0.mk (Kd.F_below F0.out bd_)
 replace F1 := Aside0.mk (Kd.F_below F1.out bd_)
 replace F2 := Aside0.mk (Kd.F_below F2.out bd_)
 replace F3 := Aside0.mk (Kd.F_below F3.out bd_)
 replace FV := Aside0.mk (Kd.F_below FV.out bd_)
 replace F9 := Aside0.mk (Kd.F_below F9.out bd_)
 clear bd_
 go_wp2
 refine bodyPost_ret (results_cc rfl _ _ (w.heap.size + 1 + 1) (w.heap.size + 1 + 1 + 1) 32 34 #[.slice B0 o.reg.length d0, .slice B1 o.que.length d1, .slice A9 (locksR o.loc 8 a).1.length c9, .slice B3 o.map.length d3] #[.int .i64 (locksR o.loc 8 a).2.f0, .slice Av (locksR o.loc 8 a).2.f1.length cv, .int .i64 (locksR o.loc 8 a).2.f2] (0, 0) (0, 0) _ _ rfl K2.out Try.underlying32 rfl (by kernel_rfl) rfl K3.out Try.underlying34 rfl (by kernel_rfl)) rfl ?_
 exact ⟨B0, d0, B1, d1, A9, c9, B3, d3, Av, cv, rfl, ⟨L0.out, Kd.F_mono F0.out (fun k_ hk => by have z_ := ZZ.out; have h2 : b1 ≤ k_ ∧ k_ < m1 := hk; show w.heap.size ≤ k_; omega), L1.out, Kd.F_mono F1.out (fun k_ hk => by have z_ := ZZ.out; have h2 : b1 ≤ k_ ∧ k_ < m1 := hk; show w.heap.size ≤ k_; omega), L9.out, Kd.F_mono F9.out (fun k_ hk => by have z_ := ZZ.out; have h2 : b1 ≤ k_ ∧ k_ < m1 ∨ g6 < k_ := hk; show w.heap.size ≤ k_; omega), L3.out, Kd.F_mono F3.out (fun k_ hk => by have z_ := ZZ.out; have h2 : b1 ≤ k_ ∧ k_ < m1 := hk; show w.heap.size ≤ k_; omega)⟩, LV.out, Kd.F_mono FV.out (fun k_ hk => by have z_ := ZZ.out; have h2 : g6 < k_ := hk; show w.heap.size ≤ k_; omega), HB.out⟩
set_option maxHeartbeats 4000000 in
theorem apply_9 (A0 : Option Addr) (c0 : Nat) (A1 : Option Addr) (c1 : Nat) (A2 : Option Addr) (c2 : Nat) (A3 : Option Addr) (c3 : Nat) (o : O) (kd a : Int) (E2 : Option Addr) (e2 : Nat) (E3 : Option Addr) (e3 : Nat) (E4 : Option Addr) (e4 : Nat) (ke va ol : List Int) (w : World) (hc : OC w o A0 c0 A1 c1 A2 c2 A3 c3) (hb : OB o) (hx : XC w ke va ol E2 e2 E3 e3 E4 e4) (hkd : kd = 9) :
  Calls Try.prog 10 #[.agg #[.slice A0 o.reg.length c0, .slice A1 o.que.length c1, .slice A2 o.loc.length c2, .slice A3 o.map.length c3], .agg #[.int .i64 kd, .int .i64 a, .slice E2 ke.length e2, .slice E3 va.length e3, .slice E4 ol.length e4]] w (TA w ({ o with map := (putR o.map ke va).1 }) (putR o.map ke va).2) := by
 subst hkd
 have HC := Aside0.mk hc
 have HO := Aside0.mk hb
 have HX := Aside0.mk hx
 clear hc hb hx
 have HB := Aside0.mk (Below.refl w.heap.size w)
 go_enter Try.func10, Try.ntmps10
 go_wp2_with fail
 obtain ⟨V0, hV0⟩ : ∃ V_, V_ = ((((w.alloc (.cells #[.slice A0 o.reg.length c0, .slice A1 o.que.length c1, .slice A2 o.loc.length c2, .slice A3 o.map.length c3] 32)).alloc (.cells #[.int .i64 9, .int .i64 a, .slice E2 ke.length e2, .slice E3 va.length e3, .slice E4 ol.length e4] 24)).alloc (.cells #[.slice none 0 0, .slice none 0 0, .slice none 0 0, .slice none 0 0] 32)).alloc (.cells #[.int .i64 0, .slice none 0 0, .int .i64 0] 34)) := ⟨_, rfl⟩
 rw [← hV0]
 have hb_ : Below w.heap.size w V0 := by rw [hV0]; exact (below_alloc (below_alloc (below_alloc (below_alloc (Below.refl _ _) (.cells #[.slice A0 o.reg.length c0, .slice A1 o.que.length c1, .slice A2 o.loc.length c2, .slice A3 o.map.length c3] 32)) (.cells #[.int .i64 9, .int .i64 a, .slice E2 ke.length e2, .slice E3 va.length e3, .slice E4 ol.length e4] 24)) (.cells #[.slice none 0 0, .slice none 0 0, .slice none 0 0, .slice none 0 0] 32)) (.cells #[.int .i64 0, .slice none 0 0, .int .i64 0] 34))
 have K0 : Aside0 (V0.heap[w.heap.size]? = some (.cells #[.slice A0 o.reg.length c0, .slice A1 o.que.length c1, .slice A2 o.loc.length c2, .slice A3 o.map.length c3] 32 (0, 0))) := Aside0.mk (by have h_ := blk_alloc (blk_alloc (blk_alloc (heap_alloc_self w (.cells #[.slice A0 o.reg.length c0, .slice A1 o.que.length c1, .slice A2 o.loc.length c2, .slice A3 o.map.length c3] 32)) (.cells #[.int .i64 9, .int .i64 a, .slice E2 ke.length e2, .slice E3 va.length e3, .slice E4 ol.length e4] 24)) (.cells #[.slice none 0 0, .slice none 0 0, .slice none 0 0, .slice none 0 0] 32)) (.cells #[.int .i64 0, .slice none 0 0, .int .i64 0] 34); rw [hV0]; simpa using h_)
 have K1 : Aside0 (V0.heap[w.heap.size + 1]? = some (.cells #[.int .i64 9, .int .i64 a, .slice E2 ke.length e2, .slice E3 va.length e3, .slice E4 ol.length e4] 24 (0, 0))) := Aside0.mk (by have h_ := blk_alloc (blk_alloc (heap_alloc_self (w.alloc (.cells #[.slice A0 o.reg.length c0, .slice A1 o.que.length c1, .slice A2 o.loc.length c2, .slice A3 o.map.length c3] 32)) (.cells #[.int .i64 9, .int .i64 a, .slice E2 ke.length e2, .slice E3 va.length e3, .slice E4 ol.length e4] 24)) (.cells #[.slice none 0 0, .slice none 0 0, .slice none 0 0, .slice none 0 0] 32)) (.cells #[.int .i64 0, .slice none 0 0, .int .i64 0] 34); rw [hV0]; simpa using h_)
 have K2 : Aside0 (V0.heap[w.heap.size + 1 + 1]? = some (.cells #[.slice none 0 0, .slice none 0 0, .slice none 0 0, .slice none 0 0] 32 (0, 0))) := Aside0.mk (by have h_ := blk_alloc (heap_alloc_self ((w.alloc (.cells #[.slice A0 o.reg.length c0, .slice A1 o.que.length c1, .slice A2 o.loc.length c2, .slice A3 o.map.length c3] 32)).alloc (.cells #[.int .i64 9, .int .i64 a, .slice E2 ke.length e2, .slice E3 va.length e3, .slice E4 ol.length e4] 24)) (.cells #[.slice none 0 0, .slice none 0 0, .slice none 0 0, .slice none 0 0] 32)) (.cells #[.int .i64 0, .slice none 0 0, .int .i64 0] 34); rw [hV0]; simpa using h_)
 have K3 : Aside0 (V0.heap[w.heap.size + 1 + 1 + 1]? = some (.cells #[.int .i64 0, .slice none 0 0, .int .i64 0] 34 (0, 0))) := Aside0.mk (by have h_ := heap_alloc_self (((w.alloc (.cells #[.slice A0 o.reg.length c0, .slice A1 o.que.length c1, .slice A2 o.loc.length c2, .slice A3 o.map.length c3] 32)).alloc (.cells #[.int .i64 9, .int .i64 a, .slice E2 ke.length e2, .slice E3 va.length e3, .slice E4 ol.length e4] 24)).alloc (.cells #[.slice none 0 0, .slice none 0 0, .slice none 0 0, .slice none 0 0] 32)) (.cells #[.int .i64 0, .slice none 0 0, .int .i64 0] 34); rw [hV0]; simpa using h_)
 have SV0 : Aside0 (V0.heap.size = w.heap.size + 4) := Aside0.mk (by rw [hV0]; simp)
 clear hV0
 replace HB := Aside0.mk (below_then HB.out HB.out.size hb_)
 clear hb_
 refine (objs28 A0 c0 A1 c1 A2 c2 A3 c3 o V0 (HC.out.below HB.out) HO.out).mono ?_
 rintro e w1 ⟨B0, d0, B1, d1, B2, d2, B3, d3, rfl, hF, hb_⟩
 obtain ⟨b1, hb1⟩ : ∃ b_, b_ = V0.heap.size := ⟨_, rfl⟩
 obtain ⟨m1, hm1⟩ : ∃ b_, b_ = w1.heap.size := ⟨_, rfl⟩
 have L0 := Aside0.mk hF.h0
 have F0 := Aside0.mk (Kd.F_mono (Kd.F_bound hF.r0) (ok' := fun k => b1 ≤ k ∧ k < m1) (fun k hk => ⟨by rw [hb1]; exact hk.1, by rw [hm1]; exact hk.2⟩))
 have L1 := Aside0.mk hF.h1
 have F1 := Aside0.mk (Kd.F_mono (Kd.F_bound hF.r1) (ok' := fun k => b1 ≤ k ∧ k < m1) (fun k hk => ⟨by rw [hb1]; exact hk.1, by rw [hm1]; exact hk.2⟩))
 have L2 := Aside0.mk hF.h2
 have F2 := Aside0.mk (Kd.F_mono (Kd.F_bound hF.r2) (ok' := fun k => b1 ≤ k ∧ k < m1) (fun k hk => ⟨by rw [hb1]; exact hk.1, by rw [hm1]; exact hk.2⟩))
 have L3 := Aside0.mk hF.h3
 have F3 := Aside0.mk (Kd.F_mono (Kd.F_bound hF.r3) (ok' := fun k => b1 ≤ k ∧ k < m1) (fun k hk => ⟨by rw [hb1]; exact hk.1, by rw [hm1]; exact hk.2⟩))
 have Z1 := Aside0.mk (show w.heap.size + 4 ≤ b1 ∧ b1 ≤ m1 from ⟨by rw [hb1, SV0.out]; exact Nat.le_refl _, by rw [hb1, hm1]; exact hb_.size⟩)
 clear hF hb1
 replace HB := Aside0.mk (below_then HB.out HB.out.size hb_)
 replace K0 := Aside0.mk (blk_keep K0.out hb_)
 replace K1 := Aside0.mk (blk_keep K1.out hb_)
 replace K2 := Aside0.mk (blk_keep K2.out hb_)
 replace K3 := Aside0.mk (blk_keep K3.out hb_)
 clear hb_
 obtain ⟨x0, x1, x2, x3, x4⟩ := cells4 K0.out
 have x40 := x4 0
 have x41 := x4 1
 have x42 := x4 2
 have x43 := x4 3
 clear x4
 go_wp2_with (
  (with_reducible refine gate_dst (N := 6) rfl ?_)
  clear x0 x1 x2 x3 x40 x41 x42 x43
  obtain ⟨V2, hV2⟩ : ∃ V_, V_ = ((((w1.setCell ⟨w.heap.size, 0, none⟩ (.slice B0 o.reg.length d0)).setCell ⟨w.heap.size, 1, none⟩ (.slice B1 o.que.length d1)).setCell ⟨w.heap.size, 2, none⟩ (.slice B2 o.loc.length d2)).setCell ⟨w.heap.size, 3, none⟩ (.slice B3 o.map.length d3)) := ⟨_, rfl⟩
  rw [← hV2]
  have hge_ : w.heap.size ≤ w.heap.size := by have z_ := Z1.out; omega
  have hst_ : St w.heap.size w (w.heap.size) 32 #[.slice B0 o.reg.length d0, .slice B1 o.que.length d1, .slice B2 o.loc.length d2, .slice B3 o.map.length d3] w1 V2 := by rw [hV2]; exact (St.next (St.next (St.next (St.first HB.out hge_ K0.out 0 _ rfl) hge_ 1 _ rfl) hge_ 2 _ rfl) hge_ 3 _ rfl)
  replace HB := Aside0.mk hst_.1
  replace K0 := Aside0.mk hst_.2.1
  replace K1 := Aside0.mk ((hst_.2.2.1 (w.heap.size + 1) (by have z_ := Z1.out; omega)).trans K1.out)
  replace K2 := Aside0.mk ((hst_.2.2.1 (w.heap.size + 1 + 1) (by have z_ := Z1.out; omega)).trans K2.out)
  replace K3 := Aside0.mk ((hst_.2.2.1 (w.heap.size + 1 + 1 + 1) (by have z_ := Z1.out; omega)).trans K3.out)
  replace F0 := Aside0.mk (Kd.F_step F0.out (fun k_ hk_ _ => hst_.2.2.1 k_ (by have hk2_ : b1 ≤ k_ ∧ k_ < m1 := hk_; have z_ := Z1.out; omega)))
  replace F1 := Aside0.mk (Kd.F_step F1.out (fun k_ hk_ _ => hst_.2.2.1 k_ (by have hk2_ : b1 ≤ k_ ∧ k_ < m1 := hk_; have z_ := Z1.out; omega)))
  replace F2 := Aside0.mk (Kd.F_step F2.out (fun k_ hk_ _ => hst_.2.2.1 k_ (by have hk2_ : b1 ≤ k_ ∧ k_ < m1 := hk_; have z_ := Z1.out; omega)))
  replace F3 := Aside0.mk (Kd.F_step F3.out (fun k_ hk_ _ => hst_.2.2.1 k_ (by have hk2_ : b1 ≤ k_ ∧ k_ < m1 := hk_; have z_ := Z1.out; omega)))
  have SV2 := Aside0.mk hst_.2.2.2
  clear hV2 hst_ hge_
  refine box_event ?hg (N := 6) ?hd (cs := #[.int .i64 0, .slice none 0 0, .int .i64 0]) (t := 34) ?hr ?_
  (case hd => rfl)
  (case hg => rfl)
  (case hr => first | (go_simp; done) | (go_simp; rfl))
  intro g6 hg V3 hbox hb_
  have K6 := Aside0.mk hbox
  have hlt_ := (Array.getElem?_eq_some_iff.1 hbox).1
  have ZZ := Aside0.mk (show w.heap.size + 4 ≤ b1 ∧ b1 ≤ m1 ∧ m1 ≤ g6 ∧ g6 < V3.heap.size from ⟨Z1.out.1, Z1.out.2, by rw [hg, SV2.out, hm1]; exact Nat.le_refl _, hlt_⟩)
  clear hg hm1 Z1 SV2 SV0 hbox hlt_
  replace HB := Aside0.mk (below_then HB.out HB.out.size hb_)
  replace K0 := Aside0.mk (blk_keep K0.out hb_)
  replace K1 := Aside0.mk (blk_keep K1.out hb_)
  replace K2 := Aside0.mk (blk_keep K2.out hb_)
  replace K3 := Aside0.mk (blk_keep K3.out hb_)
  replace F0 := Aside0.mk (Kd.F_below F0.out hb_)
  replace F1 := Aside0.mk (Kd.F_below F1.out hb_)
  replace F2 := Aside0.mk (Kd.F_below F2.out hb_)
  replace F3 := Aside0.mk (Kd.F_below F3.out hb_)
  clear hb_
  obtain ⟨x0, x1, x2, x3, x4⟩ := cells4 K0.out
  have x40 := x4 0
  have x41 := x4 1
  have x42 := x4 2
  have x43 := x4 3
  clear x4
  obtain ⟨y0, y1, y2, y3, y4, y5⟩ := cells5 K1.out
  have y50 := y5 0
  have y51 := y5 1
  have y52 := y5 2
  have y53 := y5 3
  have y54 := y5 4
  clear y5)
 clear x0 x1 x2 x3 x40 x41 x42 x43
 clear y0 y1 y2 y3 y4 y50 y51 y52 y53 y54
 refine (put35 B3 E2 E3 d3 e2 e3 o.map ke va V3 (Kd.F_now F3.out) L3.out HO.out.b3 HO.out.e3 (Kd.C_below HX.out.r2 HB.out) HX.out.h2 (Kd.C_below HX.out.r3 HB.out) HX.out.h3).mono ?_
 rintro e w4 ⟨A9, c9, Av, cv, rfl, hc9, hF9, hcv, hFv, hb_⟩
 have L9 := Aside0.mk hc9
 have F9 := Aside0.mk (Kd.F_mono hF9 (ok' := fun k_ => g6 < k_) (fun k hk => by have z_ := ZZ.out; have h2 : V3.heap.size ≤ k := hk; show g6 < k; omega))
 clear hF9 hc9
 have LV := Aside0.mk hcv
 have FV := Aside0.mk (Kd.F_mono hFv (ok' := fun k_ => g6 < k_) (fun k hk => by have z_ := ZZ.out; have h2 : V3.heap.size ≤ k := hk; show g6 < k; omega))
 clear hFv hcv
 replace HB := Aside0.mk (below_then HB.out HB.out.size hb_)
 replace K0 := Aside0.mk (blk_keep K0.out hb_)
 replace K1 := Aside0.mk (blk_keep K1.out hb_)
 replace K2 := Aside0.mk (blk_keep K2.out hb_)
 replace K3 := Aside0.mk (blk_keep K3.out hb_)
 replace K6 := Aside0.mk (blk_keep K6.out hb_)
 replace F0 := Aside0.mk (Kd.F_below F0.out hb_)
 replace F1 := Aside0.mk (Kd.F_below F1.out hb_)
 replace F2 := Aside0.mk (Kd.F_below F2.out hb_)
 replace F3 := Aside0.mk (Kd.F_below F3.out hb_)
 clear hb_
 have n6 : ¬ g6 = w.heap.size := by have z_ := ZZ.out; omega
 have n6' : ¬ w.heap.size = g6 := by have z_ := ZZ.out; omega
 obtain ⟨x0, x1, x2, x3, x4⟩ := cells4 K0.out
 have x40 := x4 0
 have x41 := x4 1
 have x42 := x4 2
 have x43 := x4 3
 clear x4
 obtain ⟨v0, v1, v2, v3⟩ := cells3 K6.out
 have v30 := v3 0
 have v31 := v3 1
 have v32 := v3 2
 clear v3
 go_wp2_with fail
 clear x0 x1 x2 x3 x40 x41 x42 x43
 clear v0 v1 v2 v30 v31 v32
 clear n6 n6'
 obtain ⟨V5, hV5⟩ : ∃ V_, V_ = (w4.setCell ⟨w.heap.size, 3, none⟩ (.slice A9 (putR o.map ke va).1.length c9)) := ⟨_, rfl⟩
 rw [← hV5]
 have hge_ : w.heap.size ≤ w.heap.size := by have z_ := ZZ.out; omega
 have hst_ : St w.heap.size w (w.heap.size) 32 #[.slice B0 o.reg.length d0, .slice B1 o.que.length d1, .slice B2 o.loc.length d2, .slice A9 (putR o.map ke va).1.length c9] w4 V5 := by rw [hV5]; exact (St.first HB.out hge_ K0.out 3 _ rfl)
 replace HB := Aside0.mk hst_.1
 replace K0 := Aside0.mk hst_.2.1
 replace K1 := Aside0.mk ((hst_.2.2.1 (w.heap.size + 1) (by have z_ := ZZ.out; omega)).trans K1.out)
 replace K2 := Aside0.mk ((hst_.2.2.1 (w.heap.size + 1 + 1) (by have z_ := ZZ.out; omega)).trans K2.out)
 replace K3 := Aside0.mk ((hst_.2.2.1 (w.heap.size + 1 + 1 + 1) (by have z_ := ZZ.out; omega)).trans K3.out)
 replace K6 := Aside0.mk ((hst_.2.2.1 (g6) (by have z_ := ZZ.out; omega)).trans K6.out)
 replace F0 := Aside0.mk (Kd.F_step F0.out (fun k_ hk_ _ => hst_.2.2.1 k_ (by have hk2_ : b1 ≤ k_ ∧ k_ < m1 := hk_; have z_ := ZZ.out; omega)))
 replace F1 := Aside0.mk (Kd.F_step F1.out (fun k_ hk_ _ => hst_.2.2.1 k_ (by have hk2_ : b1 ≤ k_ ∧ k_ < m1 := hk_; have z_ := ZZ.out; omega)))
 replace F2 := Aside0.mk (Kd.F_step F2.out (fun k_ hk_ _ => hst_.2.2.1 k_ (by have hk2_ : b1 ≤ k_ ∧ k_ < m1 := hk_; have z_ := ZZ.out; omega)))
 replace F3 := Aside0.mk (Kd.F_step F3.out (fun k_ hk_ _ => hst_.2.2.1 k_ (by have hk2_ : b1 ≤ k_ ∧ k_ < m1 := hk_; have z_ := ZZ.out; omega)))
 replace FV := Aside0.mk (Kd.F_step FV.out (fun k_ hk_ _ => hst_.2.2.1 k_ (by have hk2_ : g6 < k_ := hk_; have z_ := ZZ.out; omega)))
 replace F9 := Aside0.mk (Kd.F_step F9.out (fun k_ hk_ _ => hst_.2.2.1 k_ (by have hk2_ : g6 < k_ := hk_; have z_ := ZZ.out; omega)))
 have SV5 := Aside0.mk hst_.2.2.2
 clear hV5 hst_ hge_
 obtain ⟨V6, hV6⟩ : ∃ V_, V_ = (((V5.setCell ⟨g6, 0, none⟩ (.int .i64 (putR o.map ke va).2.f0)).setCell ⟨g6, 1, none⟩ (.slice Av (putR o.map ke va).2.f1.length cv)).setCell ⟨g6, 2, none⟩ (.int .i64 (putR o.map ke va).2.f2)) := ⟨_, rfl⟩
 rw [← hV6]
 have hge_ : w.heap.size ≤ g6 := by have z_ := ZZ.out; omega
 have hst_ : St w.heap.size w (g6) 34 #[.int .i64 (putR o.map ke va).2.f0, .slice Av (putR o.map ke va).2.f1.length cv, .int .i64 (putR o.map ke va).2.f2] V5 V6 := by rw [hV6]; exact (St.next (St.next (St.first HB.out hge_ K6.out 0 _ rfl) hge_ 1 _ rfl) hge_ 2 _ rfl)
 replace HB := Aside0.mk hst_.1
 replace K6 := Aside0.mk hst_.2.1
 replace K0 := Aside0.mk ((hst_.2.2.1 (w.heap.size) (by have z_ := ZZ.out; omega)).trans K0.out)
 replace K1 := Aside0.mk ((hst_.2.2.1 (w.heap.size + 1) (by have z_ := ZZ.out; omega)).trans K1.out)
 replace K2 := Aside0.mk ((hst_.2.2.1 (w.heap.size + 1 + 1) (by have z_ := ZZ.out; omega)).trans K2.out)
 replace K3 := Aside0.mk ((hst_.2.2.1 (w.heap.size + 1 + 1 + 1) (by have z_ := ZZ.out; omega)).trans K3.out)
 replace F0 := Aside0.mk (Kd.F_step F0.out (fun k_ hk_ _ => hst_.2.2.1 k_ (by have hk2_ : b1 ≤ k_ ∧ k_ < m1 := hk_; have z_ := ZZ.out; omega)))
 replace F1 := Aside0.mk (Kd.F_step F1.out (fun k_ hk_ _ => hst_.2.2.1 k_ (by have hk2_ : b1 ≤ k_ ∧ k_ < m1 := hk_; have z_ := ZZ.out; omega)))
 replace F2 := Aside0.mk (Kd.F_step F2.out (fun k_ hk_ _ => hst_.2.2.1 k_ (by have hk2_ : b1 ≤ k_ ∧ k_ < m1 := hk_; have z_ := ZZ.out; omega)))
 replace F3 := Aside0.mk (Kd.F_step F3.out (fun k_ hk_ _ => hst_.2.2.1 k_ (by have hk2_ : b1 ≤ k_ ∧ k_ < m1 := hk_; have z_ := ZZ.out; omega)))
 replace FV := Aside0.mk (Kd.F_step FV.out (fun k_ hk_ _ => hst_.2.2.1 k_ (by have hk2_ : g6 < k_ := hk_; have z_ := ZZ.out; omega)))
 replace F9 := Aside0.mk (Kd.F_step F9.out (fun k_ hk_ _ => hst_.2.2.1 k_ (by have hk2_ : g6 < k_ := hk_; have z_ := ZZ.out; omega)))
 have SV6 := Aside0.mk hst_.2.2.2
 clear hV6 hst_ hge_
 obtain ⟨x0, x1, x2, x3, x4⟩ := cells4 K0.out
 have x40 := x4 0
 have x41 := x4 1
 have x42 := x4 2
 have x43 := x4 3
 clear x4
 obtain ⟨v0, v1, v2, v3⟩ := cells3 K6.out
 have v30 := v3 0
 have v31 := v3 1
 have v32 := v3 2
 clear v3
 obtain ⟨s0, s1, s2, s3, s4⟩ := cells4 K2.out
 have s40 := s4 0
 have s41 := s4 1
 have s42 := s4 2
 have s43 := s4 3
 clear s4
 obtain ⟨t0, t1, t2, t3⟩ := cells3 K3.out
 have t30 := t3 0
 have t31 := t3 1
 have t32 := t3 2
 clear t3
 have n0 : ¬ g6 = w.heap.size + 1 + 1 := by have z_ := ZZ.out; omega
 have n0' : ¬ w.heap.size + 1 + 1 = g6 := by have z_ := ZZ.out; omega
 have n1 : ¬ g6 = w.heap.size + 1 + 1 + 1 := by have z_ := ZZ.out; omega
 have n1' : ¬ w.heap.size + 1 + 1 + 1 = g6 := by have z_ := ZZ.out; omega
 go_wp2_with fail
 go_region
 clear n0 n0' n1 n1'
 clear x0 x1 x2 x3 x40 x41 x42 x43
 clear v0 v1 v2 v30 v31 v32
 clear s0 s1 s2 s3 s40 s41 s42 s43
 clear t0 t1 t2 t30 t31 t32
 obtain ⟨V7, hV7⟩ : ∃ V_, V_ = ((((V6.setCell ⟨w.heap.size + 1 + 1, 0, none⟩ (.slice B0 o.reg.length d0)).setCell ⟨w.heap.size + 1 + 1, 1, none⟩ (.slice B1 o.que.length d1)).setCell ⟨w.heap.size + 1 + 1, 2, none⟩ (.slice B2 o.loc.length d2)).setCell ⟨w.heap.size + 1 + 1, 3, none⟩ (.slice A9 (putR o.map ke va).1.length c9)) := ⟨_, rfl⟩
 rw [← hV7]
 have hge_ : w.heap.size ≤ w.heap.size + 1 + 1 := by have z_ := ZZ.out; omega
 have hst_ : St w.heap.size w (w.heap.size + 1 + 1) 32 #[.slice B0 o.reg.length d0, .slice B1 o.que.length d1, .slice B2 o.loc.length d2, .slice A9 (putR o.map ke va).1.length c9] V6 V7 := by rw [hV7]; exact (St.next (St.next (St.next (St.first HB.out hge_ K2.out 0 _ rfl) hge_ 1 _ rfl) hge_ 2 _ rfl) hge_ 3 _ rfl)
 replace HB := Aside0.mk hst_.1
 replace K2 := Aside0.mk hst_.2.1
 replace K0 := Aside0.mk ((hst_.2.2.1 (w.heap.size) (by have z_ := ZZ.out; omega)).trans K0.out)
 replace K1 := Aside0.mk ((hst_.2.2.1 (w.heap.size + 1) (by have z_ := ZZ.out; omega)).trans K1.out)
 replace K3 := Aside0.mk ((hst_.2.2.1 (w.heap.size + 1 + 1 + 1) (by have z_ := ZZ.out; omega)).trans K3.out)
 replace K6 := Aside0.mk ((hst_.2.2.1 (g6) (by have z_ := ZZ.out; omega)).trans K6.out)
 replace F0 := Aside0.mk (Kd.F_step F0.out (fun k_ hk_ _ => hst_.2.2.1 k_ (by have hk2_ : b1 ≤ k_ ∧ k_ < m1 := hk_; have z_ := ZZ.out; omega)))
 replace F1 := Aside0.mk (Kd.F_step F1.out (fun k_ hk_ _ => hst_.2.2.1 k_ (by have hk2_ : b1 ≤ k_ ∧ k_ < m1 := hk_; have z_ := ZZ.out; omega)))
 replace F2 := Aside0.mk (Kd.F_step F2.out (fun k_ hk_ _ => hst_.2.2.1 k_ (by have hk2_ : b1 ≤ k_ ∧ k_ < m1 := hk_; have z_ := ZZ.out; omega)))
 replace F3 := Aside0.mk (Kd.F_step F3.out (fun k_ hk_ _ => hst_.2.2.1 k_ (by have hk2_ : b1 ≤ k_ ∧ k_ < m1 := hk_; have z_ := ZZ.out; omega)))
 replace FV := Aside0.mk (Kd.F_step FV.out (fun k_ hk_ _ => hst_.2.2.1 k_ (by have hk2_ : g6 < k_ := hk_; have z_ := ZZ.out; omega)))
 replace F9 := Aside0.mk (Kd.F_step F9.out (fun k_ hk_ _ => hst_.2.2.1 k_ (by have hk2_ : g6 < k_ := hk_; have z_ := ZZ.out; omega)))
 have SV7 := Aside0.mk hst_.2.2.2
 clear hV7 hst_ hge_
 obtain ⟨V8, hV8⟩ : ∃ V_, V_ = (((V7.setCell ⟨w.heap.size + 1 + 1 + 1, 0, none⟩ (.int .i64 (putR o.map ke va).2.f0)).setCell ⟨w.heap.size + 1 + 1 + 1, 1, none⟩ (.slice Av (putR o.map ke va).2.f1.length cv)).setCell ⟨w.heap.size + 1 + 1 + 1, 2, none⟩ (.int .i64 (putR o.map ke va).2.f2)) := ⟨_, rfl⟩
 rw [← hV8]
 have hge_ : w.heap.size ≤ w.heap.size + 1 + 1 + 1 := by have z_ := ZZ.out; omega
 have hst_ : St w.heap.size w (w.heap.size + 1 + 1 + 1) 34 #[.int .i64 (putR o.map ke va).2.f0, .slice Av (putR o.map ke va).2.f1.length cv, .int .i64 (putR o.map ke va).2.f2] V7 V8 := by rw [hV8]; exact (St.next (St.next (St.first HB.out hge_ K3.out 0 _ rfl) hge_ 1 _ rfl) hge_ 2 _ rfl)
 replace HB := Aside0.mk hst_.1
 replace K3 := Aside0.mk hst_.2.1
 replace K0 := Aside0.mk ((hst_.2.2.1 (w.heap.size) (by have z_ := ZZ.out; omega)).trans K0.out)
 replace K1 := Aside0.mk ((hst_.2.2.1 (w.heap.size + 1) (by have z_ := ZZ.out; omega)).trans K1.out)
 replace K2 := Aside0.mk ((hst_.2.2.1 (w.heap.size + 1 + 1) (by have z_ := ZZ.out; omega)).trans K2.out)
 replace K6 := Aside0.mk ((hst_.2.2.1 (g6) (by have z_ := ZZ.out; omega)).trans K6.out)
 replace F0 := Aside0.mk (Kd.F_step F0.out (fun k_ hk_ _ => hst_.2.2.1 k_ (by have hk2_ : b1 ≤ k_ ∧ k_ < m1 := hk_; have z_ := ZZ.out; omega)))
 replace F1 := Aside0.mk (Kd.F_step F1.out (fun k_ hk_ _ => hst_.2.2.1 k_ (by have hk2_ : b1 ≤ k_ ∧ k_ < m1 := hk_; have z_ := ZZ.out; omega)))
 replace F2 := Aside0.mk (Kd.F_step F2.out (fun k_ hk_ _ => hst_.2.2.1 k_ (by have hk2_ : b1 ≤ k_ ∧ k_ < m1 := hk_; have z_ := ZZ.out; omega)))
 replace F3 := Aside0.mk (Kd.F_step F3.out (fun k_ hk_ _ => hst_.2.2.1 k_ (by have hk2_ : b1 ≤ k_ ∧ k_ < m1 := hk_; have z_ := ZZ.out; omega)))
 replace FV := Aside0.mk (Kd.F_step FV.out (fun k_ hk_ _ => hst_.2.2.1 k_ (by have hk2_ : g6 < k_ := hk_; have z_ := ZZ.out; omega)))
 replace F9 := Aside0.mk (Kd.F_step F9.out (fun k_ hk_ _ => hst_.2.2.1 k_ (by have hk2_ : g6 < k_ := hk_; have z_ := ZZ.out; omega)))
 have SV8 := Aside0.mk hst_.2.2.2
 clear hV8 hst_ hge_
 have bd_ := below_drew1 (Below.refl V8.heap.size V8)
 replace HB := Aside0.mk (below_then HB.out HB.out.size bd_)
 replace K0 := Aside0.mk (blk_keep K0.out bd_)
 replace K1 := Aside0.mk (blk_keep K1.out bd_)
 replace K2 := Aside0.mk (blk_keep K2.out bd_)
 replace K3 := Aside0.mk (blk_keep K3.out bd_)
 replace K6 := Aside0.mk (blk_keep K6.out bd_)
 replace F0 := Aside0.mk (Kd.F_below F0.out bd_)
 replace F1 := Aside0.mk (Kd.F_below F1.out bd_)
 replace F2 := Aside0.mk (Kd.F_below F2.out bd_)
 replace F3 := Aside0.mk (Kd.F_below F3.out bd_)
 replace FV := Aside0.mk (Kd.F_below FV.out bd_)
 replace F9 := Aside0.mk (Kd.F_below F9.out bd_)
 clear bd_
 go_wp2
 refine bodyPost_ret (results_cc rfl _ _ (w.heap.size + 1 + 1) (w.heap.size + 1 + 1 + 1) 32 34 #[.slice B0 o.reg.length d0, .slice B1 o.que.length d1, .slice B2 o.loc.length d2, .slice A9 (putR o.map ke va).1.length c9] #[.int .i64 (putR o.map ke va).2.f0, .slice Av (putR o.map ke va).2.f1.length cv, .int .i64 (putR o.map ke va).2.f2] (0, 0) (0, 0) _ _ rfl K2.out Try.underlying32 rfl (by kernel_rfl) rfl K3.out Try.underlying34 rfl (by kernel_rfl)) rfl ?_
 exact ⟨B0, d0, B1, d1, B2, d2, A9, c9, Av, cv, rfl, ⟨L0.out, Kd.F_mono F0.out (fun k_ hk => by have z_ := ZZ.out; have h2 : b1 ≤ k_ ∧ k_ < m1 := hk; show w.heap.size ≤ k_; omega), L1.out, Kd.F_mono F1.out (fun k_ hk => by have z_ := ZZ.out; have h2 : b1 ≤ k_ ∧ k_ < m1 := hk; show w.heap.size ≤ k_; omega), L2.out, Kd.F_mono F2.out (fun k_ hk => by have z_ := ZZ.out; have h2 : b1 ≤ k_ ∧ k_ < m1 := hk; show w.heap.size ≤ k_; omega), L9.out, Kd.F_mono F9.out (fun k_ hk => by have z_ := ZZ.out; have h2 : g6 < k_ := hk; show w.heap.size ≤ k_; omega)⟩, LV.out, Kd.F_mono FV.out (fun k_ hk => by have z_ := ZZ.out; have h2 : g6 < k_ := hk; show w.heap.size ≤ k_; omega), HB.out⟩
set_option maxHeartbeats 4000000 in
theorem apply_10 (A0 : Option Addr) (c0 : Nat) (A1 : Option Addr) (c1 : Nat) (A2 : Option Addr) (c2 : Nat) (A3 : Option Addr) (c3 : Nat) (o : O) (kd a : Int) (E2 : Option Addr) (e2 : Nat) (E3 : Option Addr) (e3 : Nat) (E4 : Option Addr) (e4 : Nat) (ke va ol : List Int) (w : World) (hc : OC w o A0 c0 A1 c1 A2 c2 A3 c3) (hb : OB o) (hx : XC w ke va ol E2 e2 E3 e3 E4 e4) (hkd : kd = 10) :
  Calls Try.prog 10 #[.agg #[.slice A0 o.reg.length c0, .slice A1 o.que.length c1, .slice A2 o.loc.length c2, .slice A3 o.map.length c3], .agg #[.int .i64 kd, .int .i64 a, .slice E2 ke.length e2, .slice E3 va.length e3, .slice E4 ol.length e4]] w (TA w (o) (getR o.map ke)) := by
 subst hkd
 have HC := Aside0.mk hc
 have HO := Aside0.mk hb
 have HX := Aside0.mk hx
 clear hc hb hx
 have HB := Aside0.mk (Below.refl w.heap.size w)
 go_enter Try.func10, Try.ntmps10
 go_wp2_with fail
 obtain ⟨V0, hV0⟩ : ∃ V_, V_ = ((((w.alloc (.cells #[.slice A0 o.reg.length c0, .slice A1 o.que.length c1, .slice A2 o.loc.length c2, .slice A3 o.map.length c3] 32)).alloc (.cells #[.int .i64 10, .int .i64 a, .slice E2 ke.length e2, .slice E3 va.length e3, .slice E4 ol.length e4] 24)).alloc (.cells #[.slice none 0 0, .slice none 0 0, .slice none 0 0, .slice none 0 0] 32)).alloc (.cells #[.int .i64 0, .slice none 0 0, .int .i64 0] 34)) := ⟨_, rfl⟩
 rw [← hV0]
 have hb_ : Below w.heap.size w V0 := by rw [hV0]; exact (below_alloc (below_alloc (below_alloc (below_alloc (Below.refl _ _) (.cells #[.slice A0 o.reg.length c0, .slice A1 o.que.length c1, .slice A2 o.loc.length c2, .slice A3 o.map.length c3] 32)) (.cells #[.int .i64 10, .int .i64 a, .slice E2 ke.length e2, .slice E3 va.length e3, .slice E4 ol.length e4] 24)) (.cells #[.slice none 0 0, .slice none 0 0, .slice none 0 0, .slice none 0 0] 32)) (.cells #[.int .i64 0, .slice none 0 0, .int .i64 0] 34))
 have K0 : Aside0 (V0.heap[w.heap.size]? = some (.cells #[.slice A0 o.reg.length c0, .slice A1 o.que.length c1, .slice A2 o.loc.length c2, .slice A3 o.map.length c3] 32 (0, 0))) := Aside0.mk (by have h_ := blk_alloc (blk_alloc (blk_alloc (heap_alloc_self w (.cells #[.slice A0 o.reg.length c0, .slice A1 o.que.length c1, .slice A2 o.loc.length c2, .slice A3 o.map.length c3] 32)) (.cells #[.int .i64 10, .int .i64 a, .slice E2 ke.length e2, .slice E3 va.length e3, .slice E4 ol.length e4] 24)) (.cells #[.slice none 0 0, .slice none 0 0, .slice none 0 0, .slice none 0 0] 32)) (.cells #[.int .i64 0, .slice none 0 0, .int .i64 0] 34); rw [hV0]; simpa using h_)
 have K1 : Aside0 (V0.heap[w.heap.size + 1]? = some (.cells #[.int .i64 10, .int .i64 a, .slice E2 ke.length e2, .slice E3 va.length e3, .slice E4 ol.length e4] 24 (0, 0))) := Aside0.mk (by have h_ := blk_alloc (blk_alloc (heap_alloc_self (w.alloc (.cells #[.slice A0 o.reg.length c0, .slice A1 o.que.length c1, .slice A2 o.loc.length c2, .slice A3 o.map.length c3] 32)) (.cells #[.int .i64 10, .int .i64 a, .slice E2 ke.length e2, .slice E3 va.length e3, .slice E4 ol.length e4] 24)) (.cells #[.slice none 0 0, .slice none 0 0, .slice none 0 0, .slice none 0 0] 32)) (.cells #[.int .i64 0, .slice none 0 0, .int .i64 0] 34); rw [hV0]; simpa using h_)
 have K2 : Aside0 (V0.heap[w.heap.size + 1 + 1]? = some (.cells #[.slice none 0 0, .slice none 0 0, .slice none 0 0, .slice none 0 0] 32 (0, 0))) := Aside0.mk (by have h_ := blk_alloc (heap_alloc_self ((w.alloc (.cells #[.slice A0 o.reg.length c0, .slice A1 o.que.length c1, .slice A2 o.loc.length c2, .slice A3 o.map.length c3] 32)).alloc (.cells #[.int .i64 10, .int .i64 a, .slice E2 ke.length e2, .slice E3 va.length e3, .slice E4 ol.length e4] 24)) (.cells #[.slice none 0 0, .slice none 0 0, .slice none 0 0, .slice none 0 0] 32)) (.cells #[.int .i64 0, .slice none 0 0, .int .i64 0] 34); rw [hV0]; simpa using h_)
 have K3 : Aside0 (V0.heap[w.heap.size + 1 + 1 + 1]? = some (.cells #[.int .i64 0, .slice none 0 0, .int .i64 0] 34 (0, 0))) := Aside0.mk (by have h_ := heap_alloc_self (((w.alloc (.cells #[.slice A0 o.reg.length c0, .slice A1 o.que.length c1, .slice A2 o.loc.length c2, .slice A3 o.map.length c3] 32)).alloc (.cells #[.int .i64 10, .int .i64 a, .slice E2 ke.length e2, .slice E3 va.length e3, .slice E4 ol.length e4] 24)).alloc (.cells #[.slice none 0 0, .slice none 0 0, .slice none 0 0, .slice none 0 0] 32)) (.cells #[.int .i64 0, .slice none 0 0, .int .i64 0] 34); rw [hV0]; simpa using h_)
 have SV0 : Aside0 (V0.heap.size = w.heap.size + 4) := Aside0.mk (by rw [hV0]; simp)
 clear hV0
 replace HB := Aside0.mk (below_then HB.out HB.out.size hb_)
 clear hb_
 refine (objs28 A0 c0 A1 c1 A2 c2 A3 c3 o V0 (HC.out.below HB.out) HO.out).mono ?_
 rintro e w1 ⟨B0, d0, B1, d1, B2, d2, B3, d3, rfl, hF, hb_⟩
 obtain ⟨b1, hb1⟩ : ∃ b_, b_ = V0.heap.size := ⟨_, rfl⟩
 obtain ⟨m1, hm1⟩ : ∃ b_, b_ = w1.heap.size := ⟨_, rfl⟩
 have L0 := Aside0.mk hF.h0
 have F0 := Aside0.mk (Kd.F_mono (Kd.F_bound hF.r0) (ok' := fun k => b1 ≤ k ∧ k < m1) (fun k hk => ⟨by rw [hb1]; exact hk.1, by rw [hm1]; exact hk.2⟩))
 have L1 := Aside0.mk hF.h1
 have F1 := Aside0.mk (Kd.F_mono (Kd.F_bound hF.r1) (ok' := fun k => b1 ≤ k ∧ k < m1) (fun k hk => ⟨by rw [hb1]; exact hk.1, by rw [hm1]; exact hk.2⟩))
 have L2 := Aside0.mk hF.h2
 have F2 := Aside0.mk (Kd.F_mono (Kd.F_bound hF.r2) (ok' := fun k => b1 ≤ k ∧ k < m1) (fun k hk => ⟨by rw [hb1]; exact hk.1, by rw [hm1]; exact hk.2⟩))
 have L3 := Aside0.mk hF.h3
 have F3 := Aside0.mk (Kd.F_mono (Kd.F_bound hF.r3) (ok' := fun k => b1 ≤ k ∧ k < m1) (fun k hk => ⟨by rw [hb1]; exact hk.1, by rw [hm1]; exact hk.2⟩))
 have Z1 := Aside0.mk (show w.heap.size + 4 ≤ b1 ∧ b1 ≤ m1 from ⟨by rw [hb1, SV0.out]; exact Nat.le_refl _, by rw [hb1, hm1]; exact hb_.size⟩)
 clear hF hb1
 replace HB := Aside0.mk (below_then HB.out HB.out.size hb_)
 replace K0 := Aside0.mk (blk_keep K0.out hb_)
 replace K1 := Aside0.mk (blk_keep K1.out hb_)
 replace K2 := Aside0.mk (blk_keep K2.out hb_)
 replace K3 := Aside0.mk (blk_keep K3.out hb_)
 clear hb_
 obtain ⟨x0, x1, x2, x3, x4⟩ := cells4 K0.out
 have x40 := x4 0
 have x41 := x4 1
 have x42 := x4 2
 have x43 := x4 3
 clear x4
 go_wp2_with (
  (with_reducible refine gate_dst (N := 6) rfl ?_)
  clear x0 x1 x2 x3 x40 x41 x42 x43
  obtain ⟨V2, hV2⟩ : ∃ V_, V_ = ((((w1.setCell ⟨w.heap.size, 0, none⟩ (.slice B0 o.reg.length d0)).setCell ⟨w.heap.size, 1, none⟩ (.slice B1 o.que.length d1)).setCell ⟨w.heap.size, 2, none⟩ (.slice B2 o.loc.length d2)).setCell ⟨w.heap.size, 3, none⟩ (.slice B3 o.map.length d3)) := ⟨_, rfl⟩
  rw [← hV2]
  have hge_ : w.heap.size ≤ w.heap.size := by have z_ := Z1.out; omega
  have hst_ : St w.heap.size w (w.heap.size) 32 #[.slice B0 o.reg.length d0, .slice B1 o.que.length d1, .slice B2 o.loc.length d2, .slice B3 o.map.length d3] w1 V2 := by rw [hV2]; exact (St.next (St.next (St.next (St.first HB.out hge_ K0.out 0 _ rfl) hge_ 1 _ rfl) hge_ 2 _ rfl) hge_ 3 _ rfl)
  replace HB := Aside0.mk hst_.1
  replace K0 := Aside0.mk hst_.2.1
  replace K1 := Aside0.mk ((hst_.2.2.1 (w.heap.size + 1) (by have z_ := Z1.out; omega)).trans K1.out)
  replace K2 := Aside0.mk ((hst_.2.2.1 (w.heap.size + 1 + 1) (by have z_ := Z1.out; omega)).trans K2.out)
  replace K3 := Aside0.mk ((hst_.2.2.1 (w.heap.size + 1 + 1 + 1) (by have z_ := Z1.out; omega)).trans K3.out)
  replace F0 := Aside0.mk (Kd.F_step F0.out (fun k_ hk_ _ => hst_.2.2.1 k_ (by have hk2_ : b1 ≤ k_ ∧ k_ < m1 := hk_; have z_ := Z1.out; omega)))
  replace F1 := Aside0.mk (Kd.F_step F1.out (fun k_ hk_ _ => hst_.2.2.1 k_ (by have hk2_ : b1 ≤ k_ ∧ k_ < m1 := hk_; have z_ := Z1.out; omega)))
  replace F2 := Aside0.mk (Kd.F_step F2.out (fun k_ hk_ _ => hst_.2.2.1 k_ (by have hk2_ : b1 ≤ k_ ∧ k_ < m1 := hk_; have z_ := Z1.out; omega)))
  replace F3 := Aside0.mk (Kd.F_step F3.out (fun k_ hk_ _ => hst_.2.2.1 k_ (by have hk2_ : b1 ≤ k_ ∧ k_ < m1 := hk_; have z_ := Z1.out; omega)))
  have SV2 := Aside0.mk hst_.2.2.2
  clear hV2 hst_ hge_
  refine box_event ?hg (N := 6) ?hd (cs := #[.int .i64 0, .slice none 0 0, .int .i64 0]) (t := 34) ?hr ?_
  (case hd => rfl)
  (case hg => rfl)
  (case hr => first | (go_simp; done) | (go_simp; rfl))
  intro g6 hg V3 hbox hb_
  have K6 := Aside0.mk hbox
  have hlt_ := (Array.getElem?_eq_some_iff.1 hbox).1
  have ZZ := Aside0.mk (show w.heap.size + 4 ≤ b1 ∧ b1 ≤ m1 ∧ m1 ≤ g6 ∧ g6 < V3.heap.size from ⟨Z1.out.1, Z1.out.2, by rw [hg, SV2.out, hm1]; exact Nat.le_refl _, hlt_⟩)
  clear hg hm1 Z1 SV2 SV0 hbox hlt_
  replace HB := Aside0.mk (below_then HB.out HB.out.size hb_)
  replace K0 := Aside0.mk (blk_keep K0.out hb_)
  replace K1 := Aside0.mk (blk_keep K1.out hb_)
  replace K2 := Aside0.mk (blk_keep K2.out hb_)
  replace K3 := Aside0.mk (blk_keep K3.out hb_)
  replace F0 := Aside0.mk (Kd.F_below F0.out hb_)
  replace F1 := Aside0.mk (Kd.F_below F1.out hb_)
  replace F2 := Aside0.mk (Kd.F_below F2.out hb_)
  replace F3 := Aside0.mk (Kd.F_below F3.out hb_)
  clear hb_
  obtain ⟨x0, x1, x2, x3, x4⟩ := cells4 K0.out
  have x40 := x4 0
  have x41 := x4 1
  have x42 := x4 2
  have x43 := x4 3
  clear x4
  obtain ⟨y0, y1, y2, y3, y4, y5⟩ := cells5 K1.out
  have y50 := y5 0
  have y51 := y5 1
  have y52 := y5 2
  have y53 := y5 3
  have y54 := y5 4
  clear y5)
 clear x0 x1 x2 x3 x40 x41 x42 x43
 clear y0 y1 y2 y3 y4 y50 y51 y52 y53 y54
 refine (get36 B3 E2 d3 e2 o.map ke V3 (Kd.F_now F3.out) L3.out HO.out.e3 (Kd.C_below HX.out.r2 HB.out) HX.out.h2).mono ?_
 rintro e w4 ⟨Av, cv, rfl, hcv, hFv, hb_⟩
 have LV := Aside0.mk hcv
 have FV := Aside0.mk (Kd.F_mono hFv (ok' := fun k_ => g6 < k_) (fun k hk => by have z_ := ZZ.out; have h2 : V3.heap.size ≤ k := hk; show g6 < k; omega))
 clear hFv hcv
 replace HB := Aside0.mk (below_then HB.out HB.out.size hb_)
 replace K0 := Aside0.mk (blk_keep K0.out hb_)
 replace K1 := Aside0.mk (blk_keep K1.out hb_)
 replace K2 := Aside0.mk (blk_keep K2.out hb_)
 replace K3 := Aside0.mk (blk_keep K3.out hb_)
 replace K6 := Aside0.mk (blk_keep K6.out hb_)
 replace F0 := Aside0.mk (Kd.F_below F0.out hb_)
 replace F1 := Aside0.mk (Kd.F_below F1.out hb_)
 replace F2 := Aside0.mk (Kd.F_below F2.out hb_)
 replace F3 := Aside0.mk (Kd.F_below F3.out hb_)
 clear hb_
 have n6 : ¬ g6 = w.heap.size := by have z_ := ZZ.out; omega
 have n6' : ¬ w.heap.size = g6 := by have z_ := ZZ.out; omega
 obtain ⟨x0, x1, x2, x3, x4⟩ := cells4 K0.out
 have x40 := x4 0
 have x41 := x4 1
 have x42 := x4 2
 have x43 := x4 3
 clear x4
 obtain ⟨v0, v1, v2, v3⟩ := cells3 K6.out
 have v30 := v3 0
 have v31 := v3 1
 have v32 := v3 2
 clear v3
 go_wp2_with fail
 clear x0 x1 x2 x3 x40 x41 x42 x43
 clear v0 v1 v2 v30 v31 v32
 clear n6 n6'
 obtain ⟨V6, hV6⟩ : ∃ V_, V_ = (((w4.setCell ⟨g6, 0, none⟩ (.int .i64 (getR o.map ke).f0)).setCell ⟨g6, 1, none⟩ (.slice Av (getR o.map ke).f1.length cv)).setCell ⟨g6, 2, none⟩ (.int .i64 (getR o.map ke).f2)) := ⟨_, rfl⟩
 rw [← hV6]
 have hge_ : w.heap.size ≤ g6 := by have z_ := ZZ.out; omega
 have hst_ : St w.heap.size w (g6) 34 #[.int .i64 (getR o.map ke).f0, .slice Av (getR o.map ke).f1.length cv, .int .i64 (getR o.map ke).f2] w4 V6 := by rw [hV6]; exact (St.next (St.next (St.first HB.out hge_ K6.out 0 _ rfl) hge_ 1 _ rfl) hge_ 2 _ rfl)
 replace HB := Aside0.mk hst_.1
 replace K6 := Aside0.mk hst_.2.1
 replace K0 := Aside0.mk ((hst_.2.2.1 (w.heap.size) (by have z_ := ZZ.out; omega)).trans K0.out)
 replace K1 := Aside0.mk ((hst_.2.2.1 (w.heap.size + 1) (by have z_ := ZZ.out; omega)).trans K1.out)
 replace K2 := Aside0.mk ((hst_.2.2.1 (w.heap.size + 1 + 1) (by have z_ := ZZ.out; omega)).trans K2.out)
 replace K3 := Aside0.mk ((hst_.2.2.1 (w.heap.size + 1 + 1 + 1) (by have z_ := ZZ.out; omega)).trans K3.out)
 replace F0 := Aside0.mk (Kd.F_step F0.out (fun k_ hk_ _ => hst_.2.2.1 k_ (by have hk2_ : b1 ≤ k_ ∧ k_ < m1 := hk_; have z_ := ZZ.out; omega)))
 replace F1 := Aside0.mk (Kd.F_step F1.out (fun k_ hk_ _ => hst_.2.2.1 k_ (by have hk2_ : b1 ≤ k_ ∧ k_ < m1 := hk_; have z_ := ZZ.out; omega)))
 replace F2 := Aside0.mk (Kd.F_step F2.out (fun k_ hk_ _ => hst_.2.2.1 k_ (by have hk2_ : b1 ≤ k_ ∧ k_ < m1 := hk_; have z_ := ZZ.out; omega)))
 replace F3 := Aside0.mk (Kd.F_step F3.out (fun k_ hk_ _ => hst_.2.2.1 k_ (by have hk2_ : b1 ≤ k_ ∧ k_ < m1 := hk_; have z_ := ZZ.out; omega)))
 replace FV := Aside0.mk (Kd.F_step FV.out (fun k_ hk_ _ => hst_.2.2.1 k_ (by have hk2_ : g6 < k_ := hk_; have z_ := ZZ.out; omega)))
 have SV6 := Aside0.mk hst_.2.2.2
 clear hV6 hst_ hge_
 obtain ⟨x0, x1, x2, x3, x4⟩ := cells4 K0.out
 have x40 := x4 0
 have x41 := x4 1
 have x42 := x4 2
 have x43 := x4 3
 clear x4
 obtain ⟨v0, v1, v2, v3⟩ := cells3 K6.out
 have v30 := v3 0
 have v31 := v3 1
 have v32 := v3 2
 clear v3
 obtain ⟨s0, s1, s2, s3, s4⟩ := cells4 K2.out
 have s40 := s4 0
 have s41 := s4 1
 have s42 := s4 2
 have s43 := s4 3
 clear s4
 obtain ⟨t0, t1, t2, t3⟩ := cells3 K3.out
 have t30 := t3 0
 have t31 := t3 1
 have t32 := t3 2
 clear t3
 have n0 : ¬ g6 = w.heap.size + 1 + 1 := by have z_ := ZZ.out; omega
 have n0' : ¬ w.heap.size + 1 + 1 = g6 := by have z_ := ZZ.out; omega
 have n1 : ¬ g6 = w.heap.size + 1 + 1 + 1 := by have z_ := ZZ.out; omega
 have n1' : ¬ w.heap.size + 1 + 1 + 1 = g6 := by have z_ := ZZ.out; omega
 go_wp2_with fail
 go_region
 clear n0 n0' n1 n1'
 clear x0 x1 x2 x3 x40 x41 x42 x43
 clear v0 v1 v2 v30 v31 v32
 clear s0 s1 s2 s3 s40 s41 s42 s43
 clear t0 t1 t2 t30 t31 t32
 obtain ⟨V7, hV7⟩ : ∃ V_, V_ = ((((V6.setCell ⟨w.heap.size + 1 + 1, 0, none⟩ (.slice B0 o.reg.length d0)).setCell ⟨w.heap.size + 1 + 1, 1, none⟩ (.slice B1 o.que.length d1)).setCell ⟨w.heap.size + 1 + 1, 2, none⟩ (.slice B2 o.loc.length d2)).setCell ⟨w.heap.size + 1 + 1, 3, none⟩ (.slice B3 o.map.length d3)) := ⟨_, rfl⟩
 rw [← hV7]
 have hge_ : w.heap.size ≤ w.heap.size + 1 + 1 := by have z_ := ZZ.out; omega
 have hst_ : St w.heap.size w (w.heap.size + 1 + 1) 32 #[.slice B0 o.reg.length d0, .slice B1 o.que.length d1, .slice B2 o.loc.length d2, .slice B3 o.map.length d3] V6 V7 := by rw [hV7]; exact (St.next (St.next (St.next (St.first HB.out hge_ K2.out 0 _ rfl) hge_ 1 _ rfl) hge_ 2 _ rfl) hge_ 3 _ rfl)
 replace HB := Aside0.mk hst_.1
 replace K2 := Aside0.mk hst_.2.1
 replace K0 := Aside0.mk ((hst_.2.2.1 (w.heap.size) (by have z_ := ZZ.out; omega)).trans K0.out)
 replace K1 := Aside0.mk ((hst_.2.2.1 (w.heap.size + 1) (by have z_ := ZZ.out; omega)).trans K1.out)
 replace K3 := Aside0.mk ((hst_.2.2.1 (w.heap.size + 1 + 1 + 1) (by have z_ := ZZ.out; omega)).trans K3.out)
 replace K6 := Aside0.mk ((hst_.2.2.1 (g6) (by have z_ := ZZ.out; omega)).trans K6.out)
 replace F0 := Aside0.mk (Kd.F_step F0.out (fun k_ hk_ _ => hst_.2.2.1 k_ (by have hk2_ : b1 ≤ k_ ∧ k_ < m1 := hk_; have z_ := ZZ.out; omega)))
 replace F1 := Aside0.mk (Kd.F_step F1.out (fun k_ hk_ _ => hst_.2.2.1 k_ (by have hk2_ : b1 ≤ k_ ∧ k_ < m1 := hk_; have z_ := ZZ.out; omega)))
 replace F2 := Aside0.mk (Kd.F_step F2.out (fun k_ hk_ _ => hst_.2.2.1 k_ (by have hk2_ : b1 ≤ k_ ∧ k_ < m1 := hk_; have z_ := ZZ.out; omega)))
 replace F3 := Aside0.mk (Kd.F_step F3.out (fun k_ hk_ _ => hst_.2.2.1 k_ (by have hk2_ : b1 ≤ k_ ∧ k_ < m1 := hk_; have z_ := ZZ.out; omega)))
 replace FV := Aside0.mk (Kd.F_step FV.out (fun k_ hk_ _ => hst_.2.2.1 k_ (by have hk2_ : g6 < k_ := hk_; have z_ := ZZ.out; omega)))
 have SV7 := Aside0.mk hst_.2.2.2
 clear hV7 hst_ hge_
 obtain ⟨V8, hV8⟩ : ∃ V_, V_ = (((V7.setCell ⟨w.heap.size + 1 + 1 + 1, 0, none⟩ (.int .i64 (getR o.map ke).f0)).setCell ⟨w.heap.size + 1 + 1 + 1, 1, none⟩ (.slice Av (getR o.map ke).f1.length cv)).setCell ⟨w.heap.size + 1 + 1 + 1, 2, none⟩ (.int .i64 (getR o.map ke).f2)) := ⟨_, rfl⟩
 rw [← hV8]
 have hge_ : w.heap.size ≤ w.heap.size + 1 + 1 + 1 := by have z_ := ZZ.out; omega
 have hst_ : St w.heap.size w (w.heap.size + 1 + 1 + 1) 34 #[.int .i64 (getR o.map ke).f0, .slice Av (getR o.map ke).f1.length cv, .int .i64 (getR o.map ke).f2] V7 V8 := by rw [hV8]; exact (St.next (St.next (St.first HB.out hge_ K3.out 0 _ rfl) hge_ 1 _ rfl) hge_ 2 _ rfl)
 replace HB := Aside0.mk hst_.1
 replace K3 := Aside0.mk hst_.2.1
 replace K0 := Aside0.mk ((hst_.2.2.1 (w.heap.size) (by have z_ := ZZ.out; omega)).trans K0.out)
 replace K1 := Aside0.mk ((hst_.2.2.1 (w.heap.size + 1) (by have z_ := ZZ.out; omega)).trans K1.out)
 replace K2 := Aside0.mk ((hst_.2.2.1 (w.heap.size + 1 + 1) (by have z_ := ZZ.out; omega)).trans K2.out)
 replace K6 := Aside0.mk ((hst_.2.2.1 (g6) (by have z_ := ZZ.out; omega)).trans K6.out)
 replace F0 := Aside0.mk (Kd.F_step F0.out (fun k_ hk_ _ => hst_.2.2.1 k_ (by have hk2_ : b1 ≤ k_ ∧ k_ < m1 := hk_; have z_ := ZZ.out; omega)))
 replace F1 := Aside0.mk (Kd.F_step F1.out (fun k_ hk_ _ => hst_.2.2.1 k_ (by have hk2_ : b1 ≤ k_ ∧ k_ < m1 := hk_; have z_ := ZZ.out; omega)))
 replace F2 := Aside0.mk (Kd.F_step F2.out (fun k_ hk_ _ => hst_.2.2.1 k_ (by have hk2_ : b1 ≤ k_ ∧ k_ < m1 := hk_; have z_ := ZZ.out; omega)))
 replace F3 := Aside0.mk (Kd.F_step F3.out (fun k_ hk_ _ => hst_.2.2.1 k_ (by have hk2_ : b1 ≤ k_ ∧ k_ < m1 := hk_; have z_ := ZZ.out; omega)))
 replace FV := Aside0.mk (Kd.F_step FV.out (fun k_ hk_ _ => hst_.2.2.1 k_ (by have hk2_ : g6 < k_ := hk_; have z_ := ZZ.out; omega)))
 have SV8 := Aside0.mk hst_.2.2.2
 clear hV8 hst_ hge_
 have bd_ := below_drew1 (Below.refl V8.heap.size V8)
 replace HB := Aside0.mk (below_then HB.out HB.out.size bd_)
 replace K0 := Aside0.mk (blk_keep K0.out bd_)
 replace K1 := Aside0.mk (blk_keep K1.out bd_)
 replace K2 := Aside0.mk (blk_keep K2.out bd_)
 replace K3 := Aside0.mk (blk_keep K3.out bd_)
 replace K6 := Aside0.mk (blk_keep K6.out bd_)
 replace F0 := Aside0.mk (Kd.F_below F0.out bd_)
 replace F1 := Aside0.mk (Kd.F_below F1.out bd_)
 replace F2 := Aside0.mk (Kd.F_below F2.out bd_)
 replace F3 := Aside0.mk (Kd.F_below F3.out bd_)
 replace FV := Aside0.mk (Kd.F_below FV.out bd_)
 clear bd_
 go_wp2
 refine bodyPost_ret (results_cc rfl _ _ (w.heap.size + 1 + 1) (w.heap.size + 1 + 1 + 1) 32 34 #[.slice B0 o.reg.length d0, .slice B1 o.que.length d1, .slice B2 o.loc.length d2, .slice B3 o.map.length d3] #[.int .i64 (getR o.map ke).f0, .slice Av (getR o.map ke).f1.length cv, .int .i64 (getR o.map ke).f2] (0, 0) (0, 0) _ _ rfl K2.out Try.underlying32 rfl (by kernel_rfl) rfl K3.out Try.underlying34 rfl (by kernel_rfl)) rfl ?_
 exact ⟨B0, d0, B1, d1, B2, d2, B3, d3, Av, cv, rfl, ⟨L0.out, Kd.F_mono F0.out (fun k_ hk => by have z_ := ZZ.out; have h2 : b1 ≤ k_ ∧ k_ < m1 := hk; show w.heap.size ≤ k_; omega), L1.out, Kd.F_mono F1.out (fun k_ hk => by have z_ := ZZ.out; have h2 : b1 ≤ k_ ∧ k_ < m1 := hk; show w.heap.size ≤ k_; omega), L2.out, Kd.F_mono F2.out (fun k_ hk => by have z_ := ZZ.out; have h2 : b1 ≤ k_ ∧ k_ < m1 := hk; show w.heap.size ≤ k_; omega), L3.out, Kd.F_mono F3.out (fun k_ hk => by have z_ := ZZ.out; have h2 : b1 ≤ k_ ∧ k_ < m1 := hk; show w.heap.size ≤ k_; omega)⟩, LV.out, Kd.F_mono FV.out (fun k_ hk => by have z_ := ZZ.out; have h2 : g6 < k_ := hk; show w.heap.size ≤ k_; omega), HB.out⟩
set_option maxHeartbeats 4000000 in
theorem apply_11 (A0 : Option Addr) (c0 : Nat) (A1 : Option Addr) (c1 : Nat) (A2 : Option Addr) (c2 : Nat) (A3 : Option Addr) (c3 : Nat) (o : O) (kd a : Int) (E2 : Option Addr) (e2 : Nat) (E3 : Option Addr) (e3 : Nat) (E4 : Option Addr) (e4 : Nat) (ke va ol : List Int) (w : World) (hc : OC w o A0 c0 A1 c1 A2 c2 A3 c3) (hb : OB o) (hx : XC w ke va ol E2 e2 E3 e3 E4 e4) (hkd : kd = 11) :
  Calls Try.prog 10 #[.agg #[.slice A0 o.reg.length c0, .slice A1 o.que.length c1, .slice A2 o.loc.length c2, .slice A3 o.map.length c3], .agg #[.int .i64 kd, .int .i64 a, .slice E2 ke.length e2, .slice E3 va.length e3, .slice E4 ol.length e4]] w (TA w ({ o with map := (delR o.map ke).1 }) (delR o.map ke).2) := by
 subst hkd
 have HC := Aside0.mk hc
 have HO := Aside0.mk hb
 have HX := Aside0.mk hx
 clear hc hb hx
 have HB := Aside0.mk (Below.refl w.heap.size w)
 go_enter Try.func10, Try.ntmps10
 go_wp2_with fail
 obtain ⟨V0, hV0⟩ : ∃ V_, V_ = ((((w.alloc (.cells #[.slice A0 o.reg.length c0, .slice A1 o.que.length c1, .slice A2 o.loc.length c2, .slice A3 o.map.length c3] 32)).alloc (.cells #[.int .i64 11, .int .i64 a, .slice E2 ke.length e2, .slice E3 va.length e3, .slice E4 ol.length e4] 24)).alloc (.cells #[.slice none 0 0, .slice none 0 0, .slice none 0 0, .slice none 0 0] 32)).alloc (.cells #[.int .i64 0, .slice none 0 0, .int .i64 0] 34)) := ⟨_, rfl⟩
 rw [← hV0]
 have hb_ : Below w.heap.size w V0 := by rw [hV0]; exact (below_alloc (below_alloc (below_alloc (below_alloc (Below.refl _ _) (.cells #[.slice A0 o.reg.length c0, .slice A1 o.que.length c1, .slice A2 o.loc.length c2, .slice A3 o.map.length c3] 32)) (.cells #[.int .i64 11, .int .i64 a, .slice E2 ke.length e2, .slice E3 va.length e3, .slice E4 ol.length e4] 24)) (.cells #[.slice none 0 0, .slice none 0 0, .slice none 0 0, .slice none 0 0] 32)) (.cells #[.int .i64 0, .slice none 0 0, .int .i64 0] 34))
 have K0 : Aside0 (V0.heap[w.heap.size]? = some (.cells #[.slice A0 o.reg.length c0, .slice A1 o.que.length c1, .slice A2 o.loc.length c2, .slice A3 o.map.length c3] 32 (0, 0))) := Aside0.mk (by have h_ := blk_alloc (blk_alloc (blk_alloc (heap_alloc_self w (.cells #[.slice A0 o.reg.length c0, .slice A1 o.que.length c1, .slice A2 o.loc.length c2, .slice A3 o.map.length c3] 32)) (.cells #[.int .i64 11, .int .i64 a, .slice E2 ke.length e2, .slice E3 va.length e3, .slice E4 ol.length e4] 24)) (.cells #[.slice none 0 0, .slice none 0 0, .slice none 0 0, .slice none 0 0] 32)) (.cells #[.int .i64 0, .slice none 0 0, .int .i64 0] 34); rw [hV0]; simpa using h_)
 have K1 : Aside0 (V0.heap[w.heap.size + 1]? = some (.cells #[.int .i64 11, .int .i64 a, .slice E2 ke.length e2, .slice E3 va.length e3, .slice E4 ol.length e4] 24 (0, 0))) := Aside0.mk (by have h_ := blk_alloc (blk_alloc (heap_alloc_self (w.alloc (.cells #[.slice A0 o.reg.length c0, .slice A1 o.que.length c1, .slice A2 o.loc.length c2, .slice A3 o.map.length c3] 32)) (.cells #[.int .i64 11, .int .i64 a, .slice E2 ke.length e2, .slice E3 va.length e3, .slice E4 ol.length e4] 24)) (.cells #[.slice none 0 0, .slice none 0 0, .slice none 0 0, .slice none 0 0] 32)) (.cells #[.int .i64 0, .slice none 0 0, .int .i64 0] 34); rw [hV0]; simpa using h_)
 have K2 : Aside0 (V0.heap[w.heap.size + 1 + 1]? = some (.cells #[.slice none 0 0, .slice none 0 0, .slice none 0 0, .slice none 0 0] 32 (0, 0))) := Aside0.mk (by have h_ := blk_alloc (heap_alloc_self ((w.alloc (.cells #[.slice A0 o.reg.length c0, .slice A1 o.que.length c1, .slice A2 o.loc.length c2, .slice A3 o.map.length c3] 32)).alloc (.cells #[.int .i64 11, .int .i64 a, .slice E2 ke.length e2, .slice E3 va.length e3, .slice E4 ol.length e4] 24)) (.cells #[.slice none 0 0, .slice none 0 0, .slice none 0 0, .slice none 0 0] 32)) (.cells #[.int .i64 0, .slice none 0 0, .int .i64 0] 34); rw [hV0]; simpa using h_)
 have K3 : Aside0 (V0.heap[w.heap.size + 1 + 1 + 1]? = some (.cells #[.int .i64 0, .slice none 0 0, .int .i64 0] 34 (0, 0))) := Aside0.mk (by have h_ := heap_alloc_self (((w.alloc (.cells #[.slice A0 o.reg.length c0, .slice A1 o.que.length c1, .slice A2 o.loc.length c2, .slice A3 o.map.length c3] 32)).alloc (.cells #[.int .i64 11, .int .i64 a, .slice E2 ke.length e2, .slice E3 va.length e3, .slice E4 ol.length e4] 24)).alloc (.cells #[.slice none 0 0, .slice none 0 0, .slice none 0 0, .slice none 0 0] 32)) (.cells #[.int .i64 0, .slice none 0 0, .int .i64 0] 34); rw [hV0]; simpa using h_)
 have SV0 : Aside0 (V0.heap.size = w.heap.size + 4) := Aside0.mk (by rw [hV0]; simp)
 clear hV0
 replace HB := Aside0.mk (below_then HB.out HB.out.size hb_)
 clear hb_
 refine (objs28 A0 c0 A1 c1 A2 c2 A3 c3 o V0 (HC.out.below HB.out) HO.out).mono ?_
 rintro e w1 ⟨B0, d0, B1, d1, B2, d2, B3, d3, rfl, hF, hb_⟩
 obtain ⟨b1, hb1⟩ : ∃ b_, b_ = V0.heap.size := ⟨_, rfl⟩
 obtain ⟨m1, hm1⟩ : ∃ b_, b_ = w1.heap.size := ⟨_, rfl⟩
 have L0 := Aside0.mk hF.h0
 have F0 := Aside0.mk (Kd.F_mono (Kd.F_bound hF.r0) (ok' := fun k => b1 ≤ k ∧ k < m1) (fun k hk => ⟨by rw [hb1]; exact hk.1, by rw [hm1]; exact hk.2⟩))
 have L1 := Aside0.mk hF.h1
 have F1 := Aside0.mk (Kd.F_mono (Kd.F_bound hF.r1) (ok' := fun k => b1 ≤ k ∧ k < m1) (fun k hk => ⟨by rw [hb1]; exact hk.1, by rw [hm1]; exact hk.2⟩))
 have L2 := Aside0.mk hF.h2
 have F2 := Aside0.mk (Kd.F_mono (Kd.F_bound hF.r2) (ok' := fun k => b1 ≤ k ∧ k < m1) (fun k hk => ⟨by rw [hb1]; exact hk.1, by rw [hm1]; exact hk.2⟩))
 have L3 := Aside0.mk hF.h3
 have F3 := Aside0.mk (Kd.F_mono (Kd.F_bound hF.r3) (ok' := fun k => b1 ≤ k ∧ k < m1) (fun k hk => ⟨by rw [hb1]; exact hk.1, by rw [hm1]; exact hk.2⟩))
 have Z1 := Aside0.mk (show w.heap.size + 4 ≤ b1 ∧ b1 ≤ m1 from ⟨by rw [hb1, SV0.out]; exact Nat.le_refl _, by rw [hb1, hm1]; exact hb_.size⟩)
 clear hF hb1
 replace HB := Aside0.mk (below_then HB.out HB.out.size hb_)
 replace K0 := Aside0.mk (blk_keep K0.out hb_)
 replace K1 := Aside0.mk (blk_keep K1.out hb_)
 replace K2 := Aside0.mk (blk_keep K2.out hb_)
 replace K3 := Aside0.mk (blk_keep K3.out hb_)
 clear hb_
 obtain ⟨x0, x1, x2, x3, x4⟩ := cells4 K0.out
 have x40 := x4 0
 have x41 := x4 1
 have x42 := x4 2
 have x43 := x4 3
 clear x4
 go_wp2_with (
  (with_reducible refine gate_dst (N := 6) rfl ?_)
  clear x0 x1 x2 x3 x40 x41 x42 x43
  obtain ⟨V2, hV2⟩ : ∃ V_, V_ = ((((w1.setCell ⟨w.heap.size, 0, none⟩ (.slice B0 o.reg.length d0)).setCell ⟨w.heap.size, 1, none⟩ (.slice B1 o.que.length d1)).setCell ⟨w.heap.size, 2, none⟩ (.slice B2 o.loc.length d2)).setCell ⟨w.heap.size, 3, none⟩ (.slice B3 o.map.length d3)) := ⟨_, rfl⟩
  rw [← hV2]
  have hge_ : w.heap.size ≤ w.heap.size := by have z_ := Z1.out; omega
  have hst_ : St w.heap.size w (w.heap.size) 32 #[.slice B0 o.reg.length d0, .slice B1 o.que.length d1, .slice B2 o.loc.length d2, .slice B3 o.map.length d3] w1 V2 := by rw [hV2]; exact (St.next (St.next (St.next (St.first HB.out hge_ K0.out 0 _ rfl) hge_ 1 _ rfl) hge_ 2 _ rfl) hge_ 3 _ rfl)
  replace HB := Aside0.mk hst_.1
  replace K0 := Aside0.mk hst_.2.1
  replace K1 := Aside0.mk ((hst_.2.2.1 (w.heap.size + 1) (by have z_ := Z1.out; omega)).trans K1.out)
  replace K2 := Aside0.mk ((hst_.2.2.1 (w.heap.size + 1 + 1) (by have z_ := Z1.out; omega)).trans K2.out)
  replace K3 := Aside0.mk ((hst_.2.2.1 (w.heap.size + 1 + 1 + 1) (by have z_ := Z1.out; omega)).trans K3.out)
  replace F0 := Aside0.mk (Kd.F_step F0.out (fun k_ hk_ _ => hst_.2.2.1 k_ (by have hk2_ : b1 ≤ k_ ∧ k_ < m1 := hk_; have z_ := Z1.out; omega)))
  replace F1 := Aside0.mk (Kd.F_step F1.out (fun k_ hk_ _ => hst_.2.2.1 k_ (by have hk2_ : b1 ≤ k_ ∧ k_ < m1 := hk_; have z_ := Z1.out; omega)))
  replace F2 := Aside0.mk (Kd.F_step F2.out (fun k_ hk_ _ => hst_.2.2.1 k_ (by have hk2_ : b1 ≤ k_ ∧ k_ < m1 := hk_; have z_ := Z1.out; omega)))
  replace F3 := Aside0.mk (Kd.F_step F3.out (fun k_ hk_ _ => hst_.2.2.1 k_ (by have hk2_ : b1 ≤ k_ ∧ k_ < m1 := hk_; have z_ := Z1.out; omega)))
  have SV2 := Aside0.mk hst_.2.2.2
  clear hV2 hst_ hge_
  refine box_event ?hg (N := 6) ?hd (cs := #[.int .i64 0, .slice none 0 0, .int .i64 0]) (t := 34) ?hr ?_
  (case hd => rfl)
  (case hg => rfl)
  (case hr => first | (go_simp; done) | (go_simp; rfl))
  intro g6 hg V3 hbox hb_
  have K6 := Aside0.mk hbox
  have hlt_ := (Array.getElem?_eq_some_iff.1 hbox).1
  have ZZ := Aside0.mk (show w.heap.size + 4 ≤ b1 ∧ b1 ≤ m1 ∧ m1 ≤ g6 ∧ g6 < V3.heap.size from ⟨Z1.out.1, Z1.out.2, by rw [hg, SV2.out, hm1]; exact Nat.le_refl _, hlt_⟩)
  clear hg hm1 Z1 SV2 SV0 hbox hlt_
  replace HB := Aside0.mk (below_then HB.out HB.out.size hb_)
  replace K0 := Aside0.mk (blk_keep K0.out hb_)
  replace K1 := Aside0.mk (blk_keep K1.out hb_)
  replace K2 := Aside0.mk (blk_keep K2.out hb_)
  replace K3 := Aside0.mk (blk_keep K3.out hb_)
  replace F0 := Aside0.mk (Kd.F_below F0.out hb_)
  replace F1 := Aside0.mk (Kd.F_below F1.out hb_)
  replace F2 := Aside0.mk (Kd.F_below F2.out hb_)
  replace F3 := Aside0.mk (Kd.F_below F3.out hb_)
  clear hb_
  obtain ⟨x0, x1, x2, x3, x4⟩ := cells4 K0.out
  have x40 := x4 0
  have x41 := x4 1
  have x42 := x4 2
  have x43 := x4 3
  clear x4
  obtain ⟨y0, y1, y2, y3, y4, y5⟩ := cells5 K1.out
  have y50 := y5 0
  have y51 := y5 1
  have y52 := y5 2
  have y53 := y5 3
  have y54 := y5 4
  clear y5)
 clear x0 x1 x2 x3 x40 x41 x42 x43
 clear y0 y1 y2 y3 y4 y50 y51 y52 y53 y54
 refine (del37 B3 E2 d3 e2 o.map ke V3 (Kd.F_now F3.out) L3.out HO.out.b3 HO.out.e3 (Kd.C_below HX.out.r2 HB.out) HX.out.h2).mono ?_
 rintro e w4 ⟨A9, c9, Av, cv, rfl, hc9, hF9, hcv, hFv, hb_⟩
 have L9 := Aside0.mk hc9
 have F9 := Aside0.mk (Kd.F_mono hF9 (ok' := fun k_ => g6 < k_) (fun k hk => by have z_ := ZZ.out; have h2 : V3.heap.size ≤ k := hk; show g6 < k; omega))
 clear hF9 hc9
 have LV := Aside0.mk hcv
 have FV := Aside0.mk (Kd.F_mono hFv (ok' := fun k_ => g6 < k_) (fun k hk => by have z_ := ZZ.out; have h2 : V3.heap.size ≤ k := hk; show g6 < k; omega))
 clear hFv hcv
 replace HB := Aside0.mk (below_then HB.out HB.out.size hb_)
 replace K0 := Aside0.mk (blk_keep K0.out hb_)
 replace K1 := Aside0.mk (blk_keep K1.out hb_)
 replace K2 := Aside0.mk (blk_keep K2.out hb_)
 replace K3 := Aside0.mk (blk_keep K3.out hb_)
 replace K6 := Aside0.mk (blk_keep K6.out hb_)
 replace F0 := Aside0.mk (Kd.F_below F0.out hb_)
 replace F1 := Aside0.mk (Kd.F_below F1.out hb_)
 replace F2 := Aside0.mk (Kd.F_below F2.out hb_)
 replace F3 := Aside0.mk (Kd.F_below F3.out hb_)
 clear hb_
 have n6 : ¬ g6 = w.heap.size := by have z_ := ZZ.out; omega
 have n6' : ¬ w.heap.size = g6 := by have z_ := ZZ.out; omega
 obtain ⟨x0, x1, x2, x3, x4⟩ := cells4 K0.out
 have x40 := x4 0
 have x41 := x4 1
 have x42 := x4 2
 have x43 := x4 3
 clear x4
 obtain ⟨v0, v1, v2, v3⟩ := cells3 K6.out
 have v30 := v3 0
 have v31 := v3 1
 have v32 := v3 2
 clear v3
 go_wp2_with fail
 clear x0 x1 x2 x3 x40 x41 x42 x43
 clear v0 v1 v2 v30 v31 v32
 clear n6 n6'
 obtain ⟨V5, hV5⟩ : ∃ V_, V_ = (w4.setCell ⟨w.heap.size, 3, none⟩ (.slice A9 (delR o.map ke).1.length c9)) := ⟨_, rfl⟩
 rw [← hV5]
 have hge_ : w.heap.size ≤ w.heap.size := by have z_ := ZZ.out; omega
 have hst_ : St w.heap.size w (w.heap.size) 32 #[.slice B0 o.reg.length d0, .slice B1 o.que.length d1, .slice B2 o.loc.length d2, .slice A9 (delR o.map ke).1.length c9] w4 V5 := by rw [hV5]; exact (St.first HB.out hge_ K0.out 3 _ rfl)
 replace HB := Aside0.mk hst_.1
 replace K0 := Aside0.mk hst_.2.1
 replace K1 := Aside0.mk ((hst_.2.2.1 (w.heap.size + 1) (by have z_ := ZZ.out; omega)).trans K1.out)
 replace K2 := Aside0.mk ((hst_.2.2.1 (w.heap.size + 1 + 1) (by have z_ := ZZ.out; omega)).trans K2.out)
 replace K3 := Aside0.mk ((hst_.2.2.1 (w.heap.size + 1 + 1 + 1) (by have z_ := ZZ.out; omega)).trans K3.out)
 replace K6 := Aside0.mk ((hst_.2.2.1 (g6) (by have z_ := ZZ.out; omega)).trans K6.out)
 replace F0 := Aside0.mk (Kd.F_step F0.out (fun k_ hk_ _ => hst_.2.2.1 k_ (by have hk2_ : b1 ≤ k_ ∧ k_ < m1 := hk_; have z_ := ZZ.out; omega)))
 replace F1 := Aside0.mk (Kd.F_step F1.out (fun k_ hk_ _ => hst_.2.2.1 k_ (by have hk2_ : b1 ≤ k_ ∧ k_ < m1 := hk_; have z_ := ZZ.out; omega)))
 replace F2 := Aside0.mk (Kd.F_step F2.out (fun k_ hk_ _ => hst_.2.2.1 k_ (by have hk2_ : b1 ≤ k_ ∧ k_ < m1 := hk_; have z_ := ZZ.out; omega)))
 replace F3 := Aside0.mk (Kd.F_step F3.out (fun k_ hk_ _ => hst_.2.2.1 k_ (by have hk2_ : b1 ≤ k_ ∧ k_ < m1 := hk_; have z_ := ZZ.out; omega)))
 replace FV := Aside0.mk (Kd.F_step FV.out (fun k_ hk_ _ => hst_.2.2.1 k_ (by have hk2_ : g6 < k_ := hk_; have z_ := ZZ.out; omega)))
 replace F9 := Aside0.mk (Kd.F_step F9.out (fun k_ hk_ _ => hst_.2.2.1 k_ (by have hk2_ : g6 < k_ := hk_; have z_ := ZZ.out; omega)))
 have SV5 := Aside0.mk hst_.2.2.2
 clear hV5 hst_ hge_
 obtain ⟨V6, hV6⟩ : ∃ V_, V_ = (((V5.setCell ⟨g6, 0, none⟩ (.int .i64 (delR o.map ke).2.f0)).setCell ⟨g6, 1, none⟩ (.slice Av (delR o.map ke).2.f1.length cv)).setCell ⟨g6, 2, none⟩ (.int .i64 (delR o.map ke).2.f2)) := ⟨_, rfl⟩
 rw [← hV6]
 have hge_ : w.heap.size ≤ g6 := by have z_ := ZZ.out; omega
 have hst_ : St w.heap.size w (g6) 34 #[.int .i64 (delR o.map ke).2.f0, .slice Av (delR o.map ke).2.f1.length cv, .int .i64 (delR o.map ke).2.f2] V5 V6 := by rw [hV6]; exact (St.next (St.next (St.first HB.out hge_ K6.out 0 _ rfl) hge_ 1 _ rfl) hge_ 2 _ rfl)
 replace HB := Aside0.mk hst_.1
 replace K6 := Aside0.mk hst_.2.1
 replace K0 := Aside0.mk ((hst_.2.2.1 (w.heap.size) (by have z_ := ZZ.out; omega)).trans K0.out)
 replace K1 := Aside0.mk ((hst_.2.2.1 (w.heap.size + 1) (by have z_ := ZZ.out; omega)).trans K1.out)
 replace K2 := Aside0.mk ((hst_.2.2.1 (w.heap.size + 1 + 1) (by have z_ := ZZ.out; omega)).trans K2.out)
 replace K3 := Aside0.mk ((hst_.2.2.1 (w.heap.size + 1 + 1 + 1) (by have z_ := ZZ.out; omega)).trans K3.out)
 replace F0 := Aside0.mk (Kd.F_step F0.out (fun k_ hk_ _ => hst_.2.2.1 k_ (by have hk2_ : b1 ≤ k_ ∧ k_ < m1 := hk_; have z_ := ZZ.out; omega)))
 replace F1 := Aside0.mk (Kd.F_step F1.out (fun k_ hk_ _ => hst_.2.2.1 k_ (by have hk2_ : b1 ≤ k_ ∧ k_ < m1 := hk_; have z_ := ZZ.out; omega)))
 replace F2 := Aside0.mk (Kd.F_step F2.out (fun k_ hk_ _ => hst_.2.2.1 k_ (by have hk2_ : b1 ≤ k_ ∧ k_ < m1 := hk_; have z_ := ZZ.out; omega)))
 replace F3 := Aside0.mk (Kd.F_step F3.out (fun k_ hk_ _ => hst_.2.2.1 k_ (by have hk2_ : b1 ≤ k_ ∧ k_ < m1 := hk_; have z_ := ZZ.out; omega)))
 replace FV := Aside0.mk (Kd.F_step FV.out (fun k_ hk_ _ => hst_.2.2.1 k_ (by have hk2_ : g6 < k_ := hk_; have z_ := ZZ.out; omega)))
 replace F9 := Aside0.mk (Kd.F_step F9.out (fun k_ hk_ _ => hst_.2.2.1 k_ (by have hk2_ : g6 < k_ := hk_; have z_ := ZZ.out; omega)))
 have SV6 := Aside0.mk hst_.2.2.2
 clear hV6 hst_ hge_
 obtain ⟨x0, x1, x2, x3, x4⟩ := cells4 K0.out
 have x40 := x4 0
 have x41 := x4 1
 have x42 := x4 2
 have x43 := x4 3
 clear x4
 obtain ⟨v0, v1, v2, v3⟩ := cells3 K6.out
 have v30 := v3 0
 have v31 := v3 1
 have v32 := v3 2
 clear v3
 obtain ⟨s0, s1, s2, s3, s4⟩ := cells4 K2.out
 have s40 := s4 0
 have s41 := s4 1
 have s42 := s4 2
 have s43 := s4 3
 clear s4
 obtain ⟨t0, t1, t2, t3⟩ := cells3 K3.out
 have t30 := t3 0
 have t31 := t3 1
 have t32 := t3 2
 clear t3
 have n0 : ¬ g6 = w.heap.size + 1 + 1 := by have z_ := ZZ.out; omega
 have n0' : ¬ w.heap.size + 1 + 1 = g6 := by have z_ := ZZ.out; omega
 have n1 : ¬ g6 = w.heap.size + 1 + 1 + 1 := by have z_ := ZZ.out; omega
 have n1' : ¬ w.heap.size + 1 + 1 + 1 = g6 := by have z_ := ZZ.out; omega
 go_wp2_with fail
 go_region
 clear n0 n0' n1 n1'
 clear x0 x1 x2 x3 x40 x41 x42 x43
 clear v0 v1 v2 v30 v31 v32
 clear s0 s1 s2 s3 s40 s41 s42 s43
 clear t0 t1 t2 t30 t31 t32
 obtain ⟨V7, hV7⟩ : ∃ V_, V_ = ((((V6.setCell ⟨w.heap.size + 1 + 1, 0, none⟩ (.slice B0 o.reg.length d0)).setCell ⟨w.heap.size + 1 + 1, 1, none⟩ (.slice B1 o.que.length d1)).setCell ⟨w.heap.size + 1 + 1, 2, none⟩ (.slice B2 o.loc.length d2)).setCell ⟨w.heap.size + 1 + 1, 3, none⟩ (.slice A9 (delR o.map ke).1.length c9)) := ⟨_, rfl⟩
 rw [← hV7]
 have hge_ : w.heap.size ≤ w.heap.size + 1 + 1 := by have z_ := ZZ.out; omega
 have hst_ : St w.heap.size w (w.heap.size + 1 + 1) 32 #[.slice B0 o.reg.length d0, .slice B1 o.que.length d1, .slice B2 o.loc.length d2, .slice A9 (delR o.map ke).1.length c9] V6 V7 := by rw [hV7]; exact (St.next (St.next (St.next (St.first HB.out hge_ K2.out 0 _ rfl) hge_ 1 _ rfl) hge_ 2 _ rfl) hge_ 3 _ rfl)
 replace HB := Aside0.mk hst_.1
 replace K2 := Aside0.mk hst_.2.1
 replace K0 := Aside0.mk ((hst_.2.2.1 (w.heap.size) (by have z_ := ZZ.out; omega)).trans K0.out)
 replace K1 := Aside0.mk ((hst_.2.2.1 (w.heap.size + 1) (by have z_ := ZZ.out; omega)).trans K1.out)
 replace K3 := Aside0.mk ((hst_.2.2.1 (w.heap.size + 1 + 1 + 1) (by have z_ := ZZ.out; omega)).trans K3.out)
 replace K6 := Aside0.mk ((hst_.2.2.1 (g6) (by have z_ := ZZ.out; omega)).trans K6.out)
 replace F0 := Aside0.mk (Kd.F_step F0.out (fun k_ hk_ _ => hst_.2.2.1 k_ (by have hk2_ : b1 ≤ k_ ∧ k_ < m1 := hk_; have z_ := ZZ.out; omega)))
 replace F1 := Aside0.mk (Kd.F_step F1.out (fun k_ hk_ _ => hst_.2.2.1 k_ (by have hk2_ : b1 ≤ k_ ∧ k_ < m1 := hk_; have z_ := ZZ.out; omega)))
 replace F2 := Aside0.mk (Kd.F_step F2.out (fun k_ hk_ _ => hst_.2.2.1 k_ (by have hk2_ : b1 ≤ k_ ∧ k_ < m1 := hk_; have z_ := ZZ.out; omega)))
 replace F3 := Aside0.mk (Kd.F_step F3.out (fun k_ hk_ _ => hst_.2.2.1 k_ (by have hk2_ : b1 ≤ k_ ∧ k_ < m1 := hk_; have z_ := ZZ.out; omega)))
 replace FV := Aside0.mk (Kd.F_step FV.out (fun k_ hk_ _ => hst_.2.2.1 k_ (by have hk2_ : g6 < k_ := hk_; have z_ := ZZ.out; omega)))
 replace F9 := Aside0.mk (Kd.F_step F9.out (fun k_ hk_ _ => hst_.2.2.1 k_ (by have hk2_ : g6 < k_ := hk_; have z_ := ZZ.out; omega)))
 have SV7 := Aside0.mk hst_.2.2.2
 clear hV7 hst_ hge_
 obtain ⟨V8, hV8⟩ : ∃ V_, V_ = (((V7.setCell ⟨w.heap.size + 1 + 1 + 1, 0, none⟩ (.int .i64 (delR o.map ke).2.f0)).setCell ⟨w.heap.size + 1 + 1 + 1, 1, none⟩ (.slice Av (delR o.map ke).2.f1.length cv)).setCell ⟨w.heap.size + 1 + 1 + 1, 2, none⟩ (.int .i64 (delR o.map ke).2.f2)) := ⟨_, rfl⟩
 rw [← hV8]
 have hge_ : w.heap.size ≤ w.heap.size + 1 + 1 + 1 := by have z_ := ZZ.out; omega
 have hst_ : St w.heap.size w (w.heap.size + 1 + 1 + 1) 34 #[.int .i64 (delR o.map ke).2.f0, .slice Av (delR o.map ke).2.f1.length cv, .int .i64 (delR o.map ke).2.f2] V7 V8 := by rw [hV8]; exact (St.next (St.next (St.first HB.out hge_ K3.out 0 _ rfl) hge_ 1 _ rfl) hge_ 2 _ rfl)
 replace HB := Aside0.mk hst_.1
 replace K3 := Aside0.mk hst_.2.1
 replace K0 := Aside0.mk ((hst_.2.2.1 (w.heap.size) (by have z_ := ZZ.out; omega)).trans K0.out)
 replace K1 := Aside0.mk ((hst_.2.2.1 (w.heap.size + 1) (by have z_ := ZZ.out; omega)).trans K1.out)
 replace K2 := Aside0.mk ((hst_.2.2.1 (w.heap.size + 1 + 1) (by have z_ := ZZ.out; omega)).trans K2.out)
 replace K6 := Aside0.mk ((hst_.2.2.1 (g6) (by have z_ := ZZ.out; omega)).trans K6.out)
 replace F0 := Aside0.mk (Kd.F_step F0.out (fun k_ hk_ _ => hst_.2.2.1 k_ (by have hk2_ : b1 ≤ k_ ∧ k_ < m1 := hk_; have z_ := ZZ.out; omega)))
 replace F1 := Aside0.mk (Kd.F_step F1.out (fun k_ hk_ _ => hst_.2.2.1 k_ (by have hk2_ : b1 ≤ k_ ∧ k_ < m1 := hk_; have z_ := ZZ.out; omega)))
 replace F2 := Aside0.mk (Kd.F_step F2.out (fun k_ hk_ _ => hst_.2.2.1 k_ (by have hk2_ : b1 ≤ k_ ∧ k_ < m1 := hk_; have z_ := ZZ.out; omega)))
 replace F3 := Aside0.mk (Kd.F_step F3.out (fun k_ hk_ _ => hst_.2.2.1 k_ (by have hk2_ : b1 ≤ k_ ∧ k_ < m1 := hk_; have z_ := ZZ.out; omega)))
 replace FV := Aside0.mk (Kd.F_step FV.out (fun k_ hk_ _ => hst_.2.2.1 k_ (by have hk2_ : g6 < k_ := hk_; have z_ := ZZ.out; omega)))
 replace F9 := Aside0.mk (Kd.F_step F9.out (fun k_ hk_ _ => hst_.2.2.1 k_ (by have hk2_ : g6 < k_ := hk_; have z_ := ZZ.out; omega)))
 have SV8 := Aside0.mk hst_.2.2.2
 clear hV8 hst_ hge_
 have bd_ := below_drew1 (Below.refl V8.heap.size V8)
 replace HB := Aside0.mk (below_then HB.out HB.out.size bd_)
 replace K0 := Aside0.mk (blk_keep K0.out bd_)
 replace K1 := Aside0.mk (blk_keep K1.out bd_)
 replace K2 := Aside0.mk (blk_keep K2.out bd_)
 replace K3 := Aside0.mk (blk_keep K3.out bd_)
 replace K6 := Aside0.mk (blk_keep K6.out bd_)
 replace F0 := Aside0.mk (Kd.F_below F0.out bd_)
 replace F1 := Aside0.mk (Kd.F_below F1.out bd_)
 replace F2 := Aside0.mk (Kd.F_below F2.out bd_)
 replace F3 := Aside0.mk (Kd.F_below F3.out bd_)
 replace FV := Aside0.mk (Kd.F_below FV.out bd_)
 replace F9 := Aside0.mk (Kd.F_below F9.out bd_)
 clear bd_
 go_wp2
 refine bodyPost_ret (results_cc rfl _ _ (w.heap.size + 1 + 1) (w.heap.size + 1 + 1 + 1) 32 34 #[.slice B0 o.reg.length d0, .slice B1 o.que.length d1, .slice B2 o.loc.length d2, .slice A9 (delR o.map ke).1.length c9] #[.int .i64 (delR o.map ke).2.f0, .slice Av (delR o.map ke).2.f1.length cv, .int .i64 (delR o.map ke).2.f2] (0, 0) (0, 0) _ _ rfl K2.out Try.underlying32 rfl (by kernel_rfl) rfl K3.out Try.underlying34 rfl (by kernel_rfl)) rfl ?_
 exact ⟨B0, d0, B1, d1, B2, d2, A9, c9, Av, cv, rfl, ⟨L0.out, Kd.F_mono F0.out (fun k_ hk => by have z_ := ZZ.out; have h2 : b1 ≤ k_ ∧ k_ < m1 := hk; show w.heap.size ≤ k_; omega), L1.out, Kd.F_mono F1.out (fun k_ hk => by have z_ := ZZ.out; have h2 : b1 ≤ k_ ∧ k_ < m1 := hk; show w.heap.size ≤ k_; omega), L2.out, Kd.F_mono F2.out (fun k_ hk => by have z_ := ZZ.out; have h2 : b1 ≤ k_ ∧ k_ < m1 := hk; show w.heap.size ≤ k_; omega), L9.out, Kd.F_mono F9.out (fun k_ hk => by have z_ := ZZ.out; have h2 : g6 < k_ := hk; show w.heap.size ≤ k_; omega)⟩, LV.out, Kd.F_mono FV.out (fun k_ hk => by have z_ := ZZ.out; have h2 : g6 < k_ := hk; show w.heap.size ≤ k_; omega), HB.out⟩
end Go.Proofs.Ythfplgfpodmphaa.Ob
