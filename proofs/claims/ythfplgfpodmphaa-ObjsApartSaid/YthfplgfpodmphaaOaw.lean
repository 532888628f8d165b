/- awake of the law on objects, walked. -/
import Derived.Test.YthfplgfpodmphaaOt
import Derived.Test.YthfplgfpodmphaaOp
import Derived.Test.YthfplgfpodmphaaOo
import Derived.Lib.SlBytesConst
namespace Go.Proofs.Ythfplgfpodmphaa.Ob
open Go.RowKit Go.Proofs.YthfplgfpodmphaaW.PrintWords Go.Proofs.YthfplgfpodmphaaW.PrintLast Go.Proofs.YthfplgfpodmphaaW.PrintMore Go.Proofs.Ythfplgfpodmphaa.Ms
attribute [local go_sem] max2_int min2_int max_two min_two max_three min_three max_four min_four
set_option linter.unusedVariables false
set_option linter.unusedSimpArgs false
set_option maxRecDepth 100000
theorem lit_u8 {w : World} {g n : Nat} {fr : Nat × Nat} (xs : List Int) (h : w.heap[g]? = some (.cells (xs.map (Value.int .u8)).toArray 5 fr)) (hm : xs.length ≤ 9223372036854775807) (hn : n = xs.length) : Kd.C (Kd.int .u8) w (some ⟨g, 0, none⟩) n xs := by
 refine ⟨hn.symm, by omega, fun _ => ⟨_, rfl, fun j p hj => ⟨[.int .u8 p], rfl, rfl, fun i u hu => ?_⟩⟩⟩
 cases i with
 | zero =>
  obtain rfl := Option.some.inj hu
  simp only [World.cell?, h, add_plain]
  rw [show j * (Kd.int IntKind.u8).sz + 0 = j from by simp [Kd.int, Kd.scalar]]
  simpa using hj
 | succ i => simp at hu
theorem conv_same (w : World) (C : Array Value) (n c g : Nat) (hg : w.heap.size = g) : (convert 22 22 (.slice (some ⟨g, 0, none⟩) n c)).run Try.prog (w.alloc (.cells C 5)) = .ok (.slice (some ⟨g, 0, none⟩) n c) (w.alloc (.cells C 5 (C.size, C.size + 1))) := by
 subst hg
 exact Lib.run_convert_bytes_const (P := Try.prog) w 22 5 C n c Try.underlying22 Try.underlying5
theorem C_empty {α : Type} {d : Kd α} {W : World} {A : Option Addr} : Kd.C d W A ([] : List α).length [] := ⟨rfl, by simp, fun h => absurd h (by simp)⟩
set_option maxHeartbeats 4000000 in
theorem awake12 (w : World) : Calls Try.prog 12 #[] w fun e w' => e = .returned (.bool true) ∧ Below w.heap.size w w' := by
 have kc := conv_same
 have HB := Aside0.mk (Below.refl w.heap.size w)
 go_enter Try.func12, Try.ntmps12
 go_wp2_with fail
 obtain ⟨V0, hV0⟩ : ∃ V_, V_ = (w.alloc (.cells #[.int .u8 97] 5 (1, 2))) := ⟨_, rfl⟩
 rw [← hV0]
 have hb_ : Below w.heap.size w V0 := by rw [hV0]; exact (below_alloc (Below.refl _ _) (.cells #[.int .u8 97] 5 (1, 2)))
 have L0 : Aside0 (V0.heap[w.heap.size]? = some (.cells #[.int .u8 97] 5 (1, 2))) := Aside0.mk (by have h_ := heap_alloc_self w (.cells #[.int .u8 97] 5 (1, 2)); rw [hV0]; simpa using h_)
 have SV0 : Aside0 (V0.heap.size = w.heap.size + 1) := Aside0.mk (by rw [hV0]; simp)
 clear hV0
 replace HB := Aside0.mk (below_then HB.out HB.out.size hb_)
 clear hb_
 have con : Calls Try.prog 10 _ V0 (TA V0 (⟨[97], [], [], []⟩ : O) ⟨0, [], 0⟩) := apply10 none 0 none 0 none 0 none 0 (⟨[], [], [], []⟩ : O) 2 0 none 0 (some ⟨w.heap.size, 0, none⟩) 1 none 0 [] [97] [] V0 ⟨Nat.le_refl _, Kd.C_nil _ _, Nat.le_refl _, Kd.C_nil _ _, Nat.le_refl _, Kd.C_nil _ _, Nat.le_refl _, Kd.C_nil _ _⟩ ⟨by decide, by decide, by simp, by decide, by decide, by simp⟩ ⟨Nat.le_refl _, Kd.C_nil _ _, by decide, Nat.le_refl _, lit_u8 [97] L0.out (by decide) rfl, by decide, Nat.le_refl _, Kd.C_nil _ _, by decide⟩
 refine con.mono ?_
 rintro e w1 ⟨B0, d0, B1, d1, B2, d2, B3, d3, Av, av, rfl, hF, hcv, hFv, hb_⟩
 clear con
 have SV0_ := SV0.out
 have HO1 := Aside0.mk hF.C
 have F1v := Aside0.mk (Kd.F_now hFv)
 have L1v := Aside0.mk hcv
 have z1 := hb_.size
 have ZW1 := Aside0.mk (show w.heap.size + 1 ≤ w1.heap.size by omega)
 clear hF hFv hcv z1 L0 SV0_ SV0
 replace HB := Aside0.mk (below_then HB.out HB.out.size hb_)
 clear hb_
 go_wp2_with fail
 have HW1 := Aside0.mk (Below.refl w1.heap.size w1)
 obtain ⟨V1, hV1⟩ : ∃ V_, V_ = ((w1.alloc (.cells #[.slice B0 1 d0, .slice B1 0 d1, .slice B2 0 d2, .slice B3 0 d3] 32)).alloc (.cells #[.int .i64 0, .slice Av 0 av, .int .i64 0] 34)) := ⟨_, rfl⟩
 rw [← hV1]
 have hb_ : Below w1.heap.size w1 V1 := by rw [hV1]; exact (below_alloc (below_alloc (Below.refl _ _) (.cells #[.slice B0 1 d0, .slice B1 0 d1, .slice B2 0 d2, .slice B3 0 d3] 32)) (.cells #[.int .i64 0, .slice Av 0 av, .int .i64 0] 34))
 have K1 : Aside0 (V1.heap[w1.heap.size]? = some (.cells #[.slice B0 1 d0, .slice B1 0 d1, .slice B2 0 d2, .slice B3 0 d3] 32 (0, 0))) := Aside0.mk (by have h_ := blk_alloc (heap_alloc_self w1 (.cells #[.slice B0 1 d0, .slice B1 0 d1, .slice B2 0 d2, .slice B3 0 d3] 32)) (.cells #[.int .i64 0, .slice Av 0 av, .int .i64 0] 34); rw [hV1]; simpa using h_)
 have K2 : Aside0 (V1.heap[w1.heap.size + 1]? = some (.cells #[.int .i64 0, .slice Av 0 av, .int .i64 0] 34 (0, 0))) := Aside0.mk (by have h_ := heap_alloc_self (w1.alloc (.cells #[.slice B0 1 d0, .slice B1 0 d1, .slice B2 0 d2, .slice B3 0 d3] 32)) (.cells #[.int .i64 0, .slice Av 0 av, .int .i64 0] 34); rw [hV1]; simpa using h_)
 have SV1 : Aside0 (V1.heap.size = w1.heap.size + 2) := Aside0.mk (by rw [hV1]; simp)
 clear hV1
 replace HB := Aside0.mk (below_then HB.out HB.out.size hb_)
 replace HW1 := Aside0.mk (below_then HW1.out HW1.out.size hb_)
 clear hb_
 have con : Calls Try.prog 10 _ V1 (TA V1 (⟨[97], [], [7], []⟩ : O) ⟨0, [], 0⟩) := apply10 B0 d0 B1 d1 B2 d2 B3 d3 (⟨[97], [], [], []⟩ : O) 6 7 none 0 none 0 none 0 [] [] [] V1 (HO1.out.below HW1.out) ⟨by decide, by decide, by simp, by decide, by decide, by simp⟩ ⟨Nat.le_refl _, Kd.C_nil _ _, by decide, Nat.le_refl _, Kd.C_nil _ _, by decide, Nat.le_refl _, Kd.C_nil _ _, by decide⟩
 refine con.mono ?_
 rintro e w2 ⟨C0, e0, C1, e1, C2, e2, C3, e3, Bv, bv, rfl, hF, hcv, hFv, hb_⟩
 clear con
 obtain ⟨b2, hb2⟩ : ∃ b_, b_ = V1.heap.size := ⟨_, rfl⟩
 obtain ⟨m2, hm2⟩ : ∃ b_, b_ = w2.heap.size := ⟨_, rfl⟩
 obtain ⟨g1, hg1⟩ : ∃ b_, b_ = w1.heap.size := ⟨_, rfl⟩
 have L0 := Aside0.mk hF.h0
 have F0 := Aside0.mk (Kd.F_mono (Kd.F_bound hF.r0) (ok' := fun k => b2 ≤ k ∧ k < m2) (fun k hk => ⟨by rw [hb2]; exact hk.1, by rw [hm2]; exact hk.2⟩))
 have L1 := Aside0.mk hF.h1
 have F1 := Aside0.mk (Kd.F_mono (Kd.F_bound hF.r1) (ok' := fun k => b2 ≤ k ∧ k < m2) (fun k hk => ⟨by rw [hb2]; exact hk.1, by rw [hm2]; exact hk.2⟩))
 have L2 := Aside0.mk hF.h2
 have F2 := Aside0.mk (Kd.F_mono (Kd.F_bound hF.r2) (ok' := fun k => b2 ≤ k ∧ k < m2) (fun k hk => ⟨by rw [hb2]; exact hk.1, by rw [hm2]; exact hk.2⟩))
 have L3 := Aside0.mk hF.h3
 have F3 := Aside0.mk (Kd.F_mono (Kd.F_bound hF.r3) (ok' := fun k => b2 ≤ k ∧ k < m2) (fun k hk => ⟨by rw [hb2]; exact hk.1, by rw [hm2]; exact hk.2⟩))
 have L2v := Aside0.mk hcv
 have FV := Aside0.mk (Kd.F_mono (Kd.F_bound hFv) (ok' := fun k => b2 ≤ k ∧ k < m2) (fun k hk => ⟨by rw [hb2]; exact hk.1, by rw [hm2]; exact hk.2⟩))
 have F1x := Aside0.mk (Kd.C_below (Kd.C_below F1v.out HW1.out) hb_)
 clear F1v
 have Z2 := Aside0.mk (show w.heap.size + 1 ≤ g1 ∧ g1 + 2 = b2 ∧ b2 ≤ m2 from ⟨by rw [hg1]; exact ZW1.out, by rw [hb2, hg1, SV1.out], by rw [hb2, hm2]; exact hb_.size⟩)
 clear hF hFv hcv hb2 ZW1 SV1 HW1
 replace HB := Aside0.mk (below_then HB.out HB.out.size hb_)
 replace K1 := Aside0.mk (blk_keep K1.out hb_)
 replace K2 := Aside0.mk (blk_keep K2.out hb_)
 clear hb_
 rw [← hg1] at K1 K2 ⊢
 clear hg1
 obtain ⟨x0, x1, x2, x3, x4⟩ := cells4 K1.out
 have x40 := x4 0
 have x41 := x4 1
 have x42 := x4 2
 have x43 := x4 3
 clear x4
 go_wp2_with (
  (with_reducible refine gate_dst (N := 3) rfl ?_)
  refine box_event ?hg (N := 3) ?hd (cs := #[.int .i64 0, .slice none 0 0, .int .i64 0]) (t := 34) ?hr ?_
  (case hd => rfl)
  (case hg => rfl)
  (case hr => first | (go_simp; done) | (go_simp; rfl))
  intro g3 hg V3 hbox hb_
  clear x0 x1 x2 x3 x40 x41 x42 x43
  have K3 := Aside0.mk hbox
  have hlt_ := (Array.getElem?_eq_some_iff.1 hbox).1
  have ZZ := Aside0.mk (show w.heap.size + 1 ≤ g1 ∧ g1 + 2 = b2 ∧ b2 ≤ m2 ∧ m2 ≤ g3 ∧ g3 < V3.heap.size from ⟨Z2.out.1, Z2.out.2.1, Z2.out.2.2, by rw [hg, hm2]; exact Nat.le_refl _, hlt_⟩)
  have n1 : ¬ g3 = g1 := by have z_ := ZZ.out; omega
  have n2 : ¬ g1 = g3 := by have z_ := ZZ.out; omega
  clear hg hm2 Z2 hbox hlt_
  replace F1x := Aside0.mk (Kd.C_below F1x.out hb_)
  replace HB := Aside0.mk (below_then HB.out HB.out.size hb_)
  replace K1 := Aside0.mk (blk_keep K1.out hb_)
  replace K2 := Aside0.mk (blk_keep K2.out hb_)
  replace F0 := Aside0.mk (Kd.F_below F0.out hb_)
  replace F1 := Aside0.mk (Kd.F_below F1.out hb_)
  replace F2 := Aside0.mk (Kd.F_below F2.out hb_)
  replace F3 := Aside0.mk (Kd.F_below F3.out hb_)
  replace FV := Aside0.mk (Kd.F_below FV.out hb_)
  clear hb_
  obtain ⟨x0, x1, x2, x3, x4⟩ := cells4 K1.out
  have x40 := x4 0
  have x41 := x4 1
  have x42 := x4 2
  have x43 := x4 3
  clear x4
  obtain ⟨v0, v1, v2, v3⟩ := cells3 K3.out
  have v30 := v3 0
  have v31 := v3 1
  have v32 := v3 2
  clear v3)
 clear x0 x1 x2 x3 x40 x41 x42 x43
 clear v0 v1 v2 v30 v31 v32
 clear n1 n2
 obtain ⟨V4, hV4⟩ : ∃ V_, V_ = ((((V3.setCell ⟨g1, 0, none⟩ (.slice C0 1 e0)).setCell ⟨g1, 1, none⟩ (.slice C1 0 e1)).setCell ⟨g1, 2, none⟩ (.slice C2 1 e2)).setCell ⟨g1, 3, none⟩ (.slice C3 0 e3)) := ⟨_, rfl⟩
 rw [← hV4]
 have hge_ : w.heap.size ≤ g1 := by have z_ := ZZ.out; omega
 have hst_ : St w.heap.size w (g1) 32 #[.slice C0 1 e0, .slice C1 0 e1, .slice C2 1 e2, .slice C3 0 e3] V3 V4 := by rw [hV4]; exact (St.next (St.next (St.next (St.first HB.out hge_ K1.out 0 _ rfl) hge_ 1 _ rfl) hge_ 2 _ rfl) hge_ 3 _ rfl)
 replace HB := Aside0.mk hst_.1
 replace K1 := Aside0.mk hst_.2.1
 replace K2 := Aside0.mk ((hst_.2.2.1 (g1 + 1) (by have z_ := ZZ.out; omega)).trans K2.out)
 replace K3 := Aside0.mk ((hst_.2.2.1 (g3) (by have z_ := ZZ.out; omega)).trans K3.out)
 replace F0 := Aside0.mk (Kd.F_step F0.out (fun k_ hk_ _ => hst_.2.2.1 k_ (by have hk2_ : b2 ≤ k_ ∧ k_ < m2 := hk_; have z_ := ZZ.out; omega)))
 replace F1 := Aside0.mk (Kd.F_step F1.out (fun k_ hk_ _ => hst_.2.2.1 k_ (by have hk2_ : b2 ≤ k_ ∧ k_ < m2 := hk_; have z_ := ZZ.out; omega)))
 replace F2 := Aside0.mk (Kd.F_step F2.out (fun k_ hk_ _ => hst_.2.2.1 k_ (by have hk2_ : b2 ≤ k_ ∧ k_ < m2 := hk_; have z_ := ZZ.out; omega)))
 replace F3 := Aside0.mk (Kd.F_step F3.out (fun k_ hk_ _ => hst_.2.2.1 k_ (by have hk2_ : b2 ≤ k_ ∧ k_ < m2 := hk_; have z_ := ZZ.out; omega)))
 replace FV := Aside0.mk (Kd.F_step FV.out (fun k_ hk_ _ => hst_.2.2.1 k_ (by have hk2_ : b2 ≤ k_ ∧ k_ < m2 := hk_; have z_ := ZZ.out; omega)))
 have SV4 := Aside0.mk hst_.2.2.2
 clear hV4 hst_ hge_
 obtain ⟨V5, hV5⟩ : ∃ V_, V_ = (((V4.setCell ⟨g3, 0, none⟩ (.int .i64 0)).setCell ⟨g3, 1, none⟩ (.slice Bv 0 bv)).setCell ⟨g3, 2, none⟩ (.int .i64 0)) := ⟨_, rfl⟩
 rw [← hV5]
 have hge_ : w.heap.size ≤ g3 := by have z_ := ZZ.out; omega
 have hst_ : St w.heap.size w (g3) 34 #[.int .i64 0, .slice Bv 0 bv, .int .i64 0] V4 V5 := by rw [hV5]; exact (St.next (St.next (St.first HB.out hge_ K3.out 0 _ rfl) hge_ 1 _ rfl) hge_ 2 _ rfl)
 replace HB := Aside0.mk hst_.1
 replace K3 := Aside0.mk hst_.2.1
 replace K1 := Aside0.mk ((hst_.2.2.1 (g1) (by have z_ := ZZ.out; omega)).trans K1.out)
 replace K2 := Aside0.mk ((hst_.2.2.1 (g1 + 1) (by have z_ := ZZ.out; omega)).trans K2.out)
 replace F0 := Aside0.mk (Kd.F_step F0.out (fun k_ hk_ _ => hst_.2.2.1 k_ (by have hk2_ : b2 ≤ k_ ∧ k_ < m2 := hk_; have z_ := ZZ.out; omega)))
 replace F1 := Aside0.mk (Kd.F_step F1.out (fun k_ hk_ _ => hst_.2.2.1 k_ (by have hk2_ : b2 ≤ k_ ∧ k_ < m2 := hk_; have z_ := ZZ.out; omega)))
 replace F2 := Aside0.mk (Kd.F_step F2.out (fun k_ hk_ _ => hst_.2.2.1 k_ (by have hk2_ : b2 ≤ k_ ∧ k_ < m2 := hk_; have z_ := ZZ.out; omega)))
 replace F3 := Aside0.mk (Kd.F_step F3.out (fun k_ hk_ _ => hst_.2.2.1 k_ (by have hk2_ : b2 ≤ k_ ∧ k_ < m2 := hk_; have z_ := ZZ.out; omega)))
 replace FV := Aside0.mk (Kd.F_step FV.out (fun k_ hk_ _ => hst_.2.2.1 k_ (by have hk2_ : b2 ≤ k_ ∧ k_ < m2 := hk_; have z_ := ZZ.out; omega)))
 have SV5 := Aside0.mk hst_.2.2.2
 clear hV5 hst_ hge_
 have con : Calls Try.prog 10 _ V5 (TA V5 (⟨[97], [], [7], []⟩ : O) ⟨7, [], 0⟩) := apply10 C0 e0 C1 e1 C2 e2 C3 e3 (⟨[97], [], [7], []⟩ : O) 0 0 none 0 none 0 none 0 [] [] [] V5 ⟨L0.out, Kd.F_now F0.out, L1.out, Kd.F_now F1.out, L2.out, Kd.F_now F2.out, L3.out, Kd.F_now F3.out⟩ ⟨by decide, by decide, by simp, by decide, by decide, by simp⟩ ⟨Nat.le_refl _, Kd.C_nil _ _, by decide, Nat.le_refl _, Kd.C_nil _ _, by decide, Nat.le_refl _, Kd.C_nil _ _, by decide⟩
 refine con.mono ?_
 rintro e w6 ⟨D0, dl0, D1, dl1, D2, dl2, D3, dl3, Dv, dv, rfl, hF, hcv, hFv, hb_⟩
 clear con hF
 have GD := Aside0.mk (Kd.F_now hFv)
 have MD := Aside0.mk hcv
 clear hFv hcv
 replace HB := Aside0.mk (below_then HB.out HB.out.size hb_)
 replace K1 := Aside0.mk (blk_keep K1.out hb_)
 replace K2 := Aside0.mk (blk_keep K2.out hb_)
 replace K3 := Aside0.mk (blk_keep K3.out hb_)
 replace F0 := Aside0.mk (Kd.F_below F0.out hb_)
 replace F1 := Aside0.mk (Kd.F_below F1.out hb_)
 replace F2 := Aside0.mk (Kd.F_below F2.out hb_)
 replace F3 := Aside0.mk (Kd.F_below F3.out hb_)
 replace FV := Aside0.mk (Kd.F_below FV.out hb_)
 clear hb_
 have bx_ : Below w6.heap.size w6 ((w6.alloc (.cells #[.slice D0 1 dl0, .slice D1 0 dl1, .slice D2 1 dl2, .slice D3 0 dl3] 32)).alloc (.cells #[.int .i64 7, .slice Dv 0 dv, .int .i64 0] 34)) := below_alloc (below_alloc (Below.refl _ _) _) _
 obtain ⟨x0, x1, x2, x3, x4⟩ := cells4 (blk_keep K1.out bx_)
 have x40 := x4 0
 have x41 := x4 1
 have x42 := x4 2
 have x43 := x4 3
 clear x4
 clear bx_
 go_wp2_with fail
 clear x0 x1 x2 x3 x40 x41 x42 x43
 obtain ⟨V7, hV7⟩ : ∃ V_, V_ = ((w6.alloc (.cells #[.slice D0 1 dl0, .slice D1 0 dl1, .slice D2 1 dl2, .slice D3 0 dl3] 32)).alloc (.cells #[.int .i64 7, .slice Dv 0 dv, .int .i64 0] 34)) := ⟨_, rfl⟩
 rw [← hV7]
 have hb_ : Below w6.heap.size w6 V7 := by rw [hV7]; exact (below_alloc (below_alloc (Below.refl _ _) (.cells #[.slice D0 1 dl0, .slice D1 0 dl1, .slice D2 1 dl2, .slice D3 0 dl3] 32)) (.cells #[.int .i64 7, .slice Dv 0 dv, .int .i64 0] 34))
 have K4 : Aside0 (V7.heap[w6.heap.size]? = some (.cells #[.slice D0 1 dl0, .slice D1 0 dl1, .slice D2 1 dl2, .slice D3 0 dl3] 32 (0, 0))) := Aside0.mk (by have h_ := blk_alloc (heap_alloc_self w6 (.cells #[.slice D0 1 dl0, .slice D1 0 dl1, .slice D2 1 dl2, .slice D3 0 dl3] 32)) (.cells #[.int .i64 7, .slice Dv 0 dv, .int .i64 0] 34); rw [hV7]; simpa using h_)
 have K5 : Aside0 (V7.heap[w6.heap.size + 1]? = some (.cells #[.int .i64 7, .slice Dv 0 dv, .int .i64 0] 34 (0, 0))) := Aside0.mk (by have h_ := heap_alloc_self (w6.alloc (.cells #[.slice D0 1 dl0, .slice D1 0 dl1, .slice D2 1 dl2, .slice D3 0 dl3] 32)) (.cells #[.int .i64 7, .slice Dv 0 dv, .int .i64 0] 34); rw [hV7]; simpa using h_)
 have SV7 : Aside0 (V7.heap.size = w6.heap.size + 2) := Aside0.mk (by rw [hV7]; simp)
 clear hV7
 replace HB := Aside0.mk (below_then HB.out HB.out.size hb_)
 replace K1 := Aside0.mk (blk_keep K1.out hb_)
 replace K2 := Aside0.mk (blk_keep K2.out hb_)
 replace K3 := Aside0.mk (blk_keep K3.out hb_)
 replace F0 := Aside0.mk (Kd.F_below F0.out hb_)
 replace F1 := Aside0.mk (Kd.F_below F1.out hb_)
 replace F2 := Aside0.mk (Kd.F_below F2.out hb_)
 replace F3 := Aside0.mk (Kd.F_below F3.out hb_)
 replace FV := Aside0.mk (Kd.F_below FV.out hb_)
 replace GD := Aside0.mk (Kd.C_below GD.out hb_)
 clear hb_
 have con : Calls Try.prog 10 _ V7 (TA V7 (⟨[97], [], [7], []⟩ : O) ⟨7, [], 0⟩) := apply10 C0 e0 C1 e1 C2 e2 C3 e3 (⟨[97], [], [7], []⟩ : O) 6 1000 none 0 none 0 none 0 [] [] [] V7 ⟨L0.out, Kd.F_now F0.out, L1.out, Kd.F_now F1.out, L2.out, Kd.F_now F2.out, L3.out, Kd.F_now F3.out⟩ ⟨by decide, by decide, by simp, by decide, by decide, by simp⟩ ⟨Nat.le_refl _, Kd.C_nil _ _, by decide, Nat.le_refl _, Kd.C_nil _ _, by decide, Nat.le_refl _, Kd.C_nil _ _, by decide⟩
 refine con.mono ?_
 rintro e w8 ⟨E0, el0, E1, el1, E2, el2, E3, el3, Ev, ev, rfl, hF, hcv, hFv, hb_⟩
 clear con hF
 have GE := Aside0.mk (Kd.F_now hFv)
 have ME := Aside0.mk hcv
 clear hFv hcv
 replace HB := Aside0.mk (below_then HB.out HB.out.size hb_)
 replace K1 := Aside0.mk (blk_keep K1.out hb_)
 replace K2 := Aside0.mk (blk_keep K2.out hb_)
 replace K3 := Aside0.mk (blk_keep K3.out hb_)
 replace K4 := Aside0.mk (blk_keep K4.out hb_)
 replace K5 := Aside0.mk (blk_keep K5.out hb_)
 replace F0 := Aside0.mk (Kd.F_below F0.out hb_)
 replace F1 := Aside0.mk (Kd.F_below F1.out hb_)
 replace F2 := Aside0.mk (Kd.F_below F2.out hb_)
 replace F3 := Aside0.mk (Kd.F_below F3.out hb_)
 replace FV := Aside0.mk (Kd.F_below FV.out hb_)
 replace GD := Aside0.mk (Kd.C_below GD.out hb_)
 clear hb_
 have bx_ : Below w8.heap.size w8 ((w8.alloc (.cells #[.slice E0 1 el0, .slice E1 0 el1, .slice E2 1 el2, .slice E3 0 el3] 32)).alloc (.cells #[.int .i64 7, .slice Ev 0 ev, .int .i64 0] 34)) := below_alloc (below_alloc (Below.refl _ _) _) _
 obtain ⟨x0, x1, x2, x3, x4⟩ := cells4 (blk_keep K1.out bx_)
 have x40 := x4 0
 have x41 := x4 1
 have x42 := x4 2
 have x43 := x4 3
 clear x4
 obtain ⟨u0, u1, u2, u3⟩ := cells3 (blk_keep K2.out bx_)
 have u30 := u3 0
 have u31 := u3 1
 have u32 := u3 2
 clear u3
 obtain ⟨v0, v1, v2, v3⟩ := cells3 (blk_keep K3.out bx_)
 have v30 := v3 0
 have v31 := v3 1
 have v32 := v3 2
 clear v3
 obtain ⟨y0, y1, y2, y3⟩ := cells3 (blk_keep K5.out bx_)
 have y30 := y3 0
 have y31 := y3 1
 have y32 := y3 2
 clear y3
 have q1 : (convert 22 9 (.slice C0 1 e0)).run Try.prog ((w8.alloc (.cells #[.slice E0 1 el0, .slice E1 0 el1, .slice E2 1 el2, .slice E3 0 el3] 32)).alloc (.cells #[.int .i64 7, .slice Ev 0 ev, .int .i64 0] 34)) = .ok (.string (strOfNums [97])) ((w8.alloc (.cells #[.slice E0 1 el0, .slice E1 0 el1, .slice E2 1 el2, .slice E3 0 el3] 32)).alloc (.cells #[.int .i64 7, .slice Ev 0 ev, .int .i64 0] 34)) := Kd.C_string (P := Try.prog) (A := C0) (c := e0) Try.underlying22 Try.underlying5 Try.underlying9 (Kd.C_below (Kd.F_now F0.out) bx_)
 have j2 : strOfNums [97] = ⟨#[97]⟩ := rfl
 clear bx_
 go_wp2_with fail
 clear x0 x1 x2 x3 x40 x41 x42 x43
 clear u0 u1 u2 u30 u31 u32
 clear v0 v1 v2 v30 v31 v32
 clear y0 y1 y2 y30 y31 y32
 clear q1
 obtain ⟨V9, hV9⟩ : ∃ V_, V_ = ((w8.alloc (.cells #[.slice E0 1 el0, .slice E1 0 el1, .slice E2 1 el2, .slice E3 0 el3] 32)).alloc (.cells #[.int .i64 7, .slice Ev 0 ev, .int .i64 0] 34)) := ⟨_, rfl⟩
 rw [← hV9]
 have hb_ : Below w8.heap.size w8 V9 := by rw [hV9]; exact (below_alloc (below_alloc (Below.refl _ _) (.cells #[.slice E0 1 el0, .slice E1 0 el1, .slice E2 1 el2, .slice E3 0 el3] 32)) (.cells #[.int .i64 7, .slice Ev 0 ev, .int .i64 0] 34))
 have K6 : Aside0 (V9.heap[w8.heap.size]? = some (.cells #[.slice E0 1 el0, .slice E1 0 el1, .slice E2 1 el2, .slice E3 0 el3] 32 (0, 0))) := Aside0.mk (by have h_ := blk_alloc (heap_alloc_self w8 (.cells #[.slice E0 1 el0, .slice E1 0 el1, .slice E2 1 el2, .slice E3 0 el3] 32)) (.cells #[.int .i64 7, .slice Ev 0 ev, .int .i64 0] 34); rw [hV9]; simpa using h_)
 have K7 : Aside0 (V9.heap[w8.heap.size + 1]? = some (.cells #[.int .i64 7, .slice Ev 0 ev, .int .i64 0] 34 (0, 0))) := Aside0.mk (by have h_ := heap_alloc_self (w8.alloc (.cells #[.slice E0 1 el0, .slice E1 0 el1, .slice E2 1 el2, .slice E3 0 el3] 32)) (.cells #[.int .i64 7, .slice Ev 0 ev, .int .i64 0] 34); rw [hV9]; simpa using h_)
 have SV9 : Aside0 (V9.heap.size = w8.heap.size + 2) := Aside0.mk (by rw [hV9]; simp)
 clear hV9
 replace HB := Aside0.mk (below_then HB.out HB.out.size hb_)
 replace K1 := Aside0.mk (blk_keep K1.out hb_)
 replace K2 := Aside0.mk (blk_keep K2.out hb_)
 replace K3 := Aside0.mk (blk_keep K3.out hb_)
 replace K4 := Aside0.mk (blk_keep K4.out hb_)
 replace K5 := Aside0.mk (blk_keep K5.out hb_)
 replace F0 := Aside0.mk (Kd.F_below F0.out hb_)
 replace F1 := Aside0.mk (Kd.F_below F1.out hb_)
 replace F2 := Aside0.mk (Kd.F_below F2.out hb_)
 replace F3 := Aside0.mk (Kd.F_below F3.out hb_)
 replace FV := Aside0.mk (Kd.F_below FV.out hb_)
 replace GD := Aside0.mk (Kd.C_below GD.out hb_)
 replace GE := Aside0.mk (Kd.C_below GE.out hb_)
 clear hb_
 have hk_ : okR 5 0 [] [] [] = true := by first | rfl | (simp [sameO, eqI, eqL, eqQ, eqM]; done) | decide
 refine (ok11 5 0 none 0 none 0 none 0 [] [] [] V9).mono ?_
 rintro e w10 ⟨rfl, hb_⟩
 rw [hk_]
 clear hk_
 replace HB := Aside0.mk (below_then HB.out HB.out.size hb_)
 replace K1 := Aside0.mk (blk_keep K1.out hb_)
 replace K2 := Aside0.mk (blk_keep K2.out hb_)
 replace K3 := Aside0.mk (blk_keep K3.out hb_)
 replace K4 := Aside0.mk (blk_keep K4.out hb_)
 replace K5 := Aside0.mk (blk_keep K5.out hb_)
 replace K6 := Aside0.mk (blk_keep K6.out hb_)
 replace K7 := Aside0.mk (blk_keep K7.out hb_)
 replace F0 := Aside0.mk (Kd.F_below F0.out hb_)
 replace F1 := Aside0.mk (Kd.F_below F1.out hb_)
 replace F2 := Aside0.mk (Kd.F_below F2.out hb_)
 replace F3 := Aside0.mk (Kd.F_below F3.out hb_)
 replace FV := Aside0.mk (Kd.F_below FV.out hb_)
 replace GD := Aside0.mk (Kd.C_below GD.out hb_)
 replace GE := Aside0.mk (Kd.C_below GE.out hb_)
 clear hb_
 obtain ⟨x0, x1, x2, x3, x4⟩ := cells4 K1.out
 have x40 := x4 0
 have x41 := x4 1
 have x42 := x4 2
 have x43 := x4 3
 clear x4
 obtain ⟨u0, u1, u2, u3⟩ := cells3 K2.out
 have u30 := u3 0
 have u31 := u3 1
 have u32 := u3 2
 clear u3
 obtain ⟨v0, v1, v2, v3⟩ := cells3 K3.out
 have v30 := v3 0
 have v31 := v3 1
 have v32 := v3 2
 clear v3
 obtain ⟨y0, y1, y2, y3⟩ := cells3 K5.out
 have y30 := y3 0
 have y31 := y3 1
 have y32 := y3 2
 clear y3
 obtain ⟨z0, z1, z2, z3⟩ := cells3 K7.out
 have z30 := z3 0
 have z31 := z3 1
 have z32 := z3 2
 clear z3
 go_wp2_with fail
 have hk_ : okR 12 0 [] [] [] = false := by first | rfl | (simp [sameO, eqI, eqL, eqQ, eqM]; done) | decide
 refine (ok11 12 0 none 0 none 0 none 0 [] [] [] w10).mono ?_
 rintro e w11 ⟨rfl, hb_⟩
 rw [hk_]
 clear hk_
 clear x0 x1 x2 x3 x40 x41 x42 x43
 clear u0 u1 u2 u30 u31 u32
 clear v0 v1 v2 v30 v31 v32
 clear y0 y1 y2 y30 y31 y32
 clear z0 z1 z2 z30 z31 z32
 replace HB := Aside0.mk (below_then HB.out HB.out.size hb_)
 replace K1 := Aside0.mk (blk_keep K1.out hb_)
 replace K2 := Aside0.mk (blk_keep K2.out hb_)
 replace K3 := Aside0.mk (blk_keep K3.out hb_)
 replace K4 := Aside0.mk (blk_keep K4.out hb_)
 replace K5 := Aside0.mk (blk_keep K5.out hb_)
 replace K6 := Aside0.mk (blk_keep K6.out hb_)
 replace K7 := Aside0.mk (blk_keep K7.out hb_)
 replace F0 := Aside0.mk (Kd.F_below F0.out hb_)
 replace F1 := Aside0.mk (Kd.F_below F1.out hb_)
 replace F2 := Aside0.mk (Kd.F_below F2.out hb_)
 replace F3 := Aside0.mk (Kd.F_below F3.out hb_)
 replace FV := Aside0.mk (Kd.F_below FV.out hb_)
 replace GD := Aside0.mk (Kd.C_below GD.out hb_)
 replace GE := Aside0.mk (Kd.C_below GE.out hb_)
 clear hb_
 obtain ⟨x0, x1, x2, x3, x4⟩ := cells4 K1.out
 have x40 := x4 0
 have x41 := x4 1
 have x42 := x4 2
 have x43 := x4 3
 clear x4
 obtain ⟨u0, u1, u2, u3⟩ := cells3 K2.out
 have u30 := u3 0
 have u31 := u3 1
 have u32 := u3 2
 clear u3
 obtain ⟨v0, v1, v2, v3⟩ := cells3 K3.out
 have v30 := v3 0
 have v31 := v3 1
 have v32 := v3 2
 clear v3
 obtain ⟨y0, y1, y2, y3⟩ := cells3 K5.out
 have y30 := y3 0
 have y31 := y3 1
 have y32 := y3 2
 clear y3
 obtain ⟨z0, z1, z2, z3⟩ := cells3 K7.out
 have z30 := z3 0
 have z31 := z3 1
 have z32 := z3 2
 clear z3
 go_wp2_with fail
 have hs_ : sameO (⟨[97], [], [7], []⟩ : O) (⟨[97], [], [7], []⟩ : O) = true := sameO_refl _
 refine (same17 C0 e0 C1 e1 C2 e2 C3 e3 C0 e0 C1 e1 C2 e2 C3 e3 (⟨[97], [], [7], []⟩ : O) (⟨[97], [], [7], []⟩ : O) w11 ⟨L0.out, Kd.F_now F0.out, L1.out, Kd.F_now F1.out, L2.out, Kd.F_now F2.out, L3.out, Kd.F_now F3.out⟩ ⟨L0.out, Kd.F_now F0.out, L1.out, Kd.F_now F1.out, L2.out, Kd.F_now F2.out, L3.out, Kd.F_now F3.out⟩).mono ?_
 rintro e w12 ⟨rfl, hb_⟩
 rw [hs_]
 clear hs_
 clear x0 x1 x2 x3 x40 x41 x42 x43
 clear u0 u1 u2 u30 u31 u32
 clear v0 v1 v2 v30 v31 v32
 clear y0 y1 y2 y30 y31 y32
 clear z0 z1 z2 z30 z31 z32
 replace HB := Aside0.mk (below_then HB.out HB.out.size hb_)
 replace K1 := Aside0.mk (blk_keep K1.out hb_)
 replace K2 := Aside0.mk (blk_keep K2.out hb_)
 replace K3 := Aside0.mk (blk_keep K3.out hb_)
 replace K4 := Aside0.mk (blk_keep K4.out hb_)
 replace K5 := Aside0.mk (blk_keep K5.out hb_)
 replace K6 := Aside0.mk (blk_keep K6.out hb_)
 replace K7 := Aside0.mk (blk_keep K7.out hb_)
 replace F0 := Aside0.mk (Kd.F_below F0.out hb_)
 replace F1 := Aside0.mk (Kd.F_below F1.out hb_)
 replace F2 := Aside0.mk (Kd.F_below F2.out hb_)
 replace F3 := Aside0.mk (Kd.F_below F3.out hb_)
 replace FV := Aside0.mk (Kd.F_below FV.out hb_)
 replace GD := Aside0.mk (Kd.C_below GD.out hb_)
 replace GE := Aside0.mk (Kd.C_below GE.out hb_)
 clear hb_
 obtain ⟨x0, x1, x2, x3, x4⟩ := cells4 K1.out
 have x40 := x4 0
 have x41 := x4 1
 have x42 := x4 2
 have x43 := x4 3
 clear x4
 obtain ⟨u0, u1, u2, u3⟩ := cells3 K2.out
 have u30 := u3 0
 have u31 := u3 1
 have u32 := u3 2
 clear u3
 obtain ⟨v0, v1, v2, v3⟩ := cells3 K3.out
 have v30 := v3 0
 have v31 := v3 1
 have v32 := v3 2
 clear v3
 obtain ⟨y0, y1, y2, y3⟩ := cells3 K5.out
 have y30 := y3 0
 have y31 := y3 1
 have y32 := y3 2
 clear y3
 obtain ⟨z0, z1, z2, z3⟩ := cells3 K7.out
 have z30 := z3 0
 have z31 := z3 1
 have z32 := z3 2
 clear z3
 go_wp2_with fail
 have hk_ : sameO (⟨[97], [], [7], []⟩ : O) (⟨[], [], [], []⟩ : O) = false := by first | rfl | (simp [sameO, eqI, eqL, eqQ, eqM]; done) | decide
 refine (same17 C0 e0 C1 e1 C2 e2 C3 e3 none 0 none 0 none 0 none 0 (⟨[97], [], [7], []⟩ : O) (⟨[], [], [], []⟩ : O) w12 ⟨L0.out, Kd.F_now F0.out, L1.out, Kd.F_now F1.out, L2.out, Kd.F_now F2.out, L3.out, Kd.F_now F3.out⟩ ⟨Nat.le_refl _, Kd.C_nil _ _, Nat.le_refl _, Kd.C_nil _ _, Nat.le_refl _, Kd.C_nil _ _, Nat.le_refl _, Kd.C_nil _ _⟩).mono ?_
 rintro e w13 ⟨rfl, hb_⟩
 rw [hk_]
 clear hk_
 clear x0 x1 x2 x3 x40 x41 x42 x43
 clear u0 u1 u2 u30 u31 u32
 clear v0 v1 v2 v30 v31 v32
 clear y0 y1 y2 y30 y31 y32
 clear z0 z1 z2 z30 z31 z32
 replace HB := Aside0.mk (below_then HB.out HB.out.size hb_)
 replace K1 := Aside0.mk (blk_keep K1.out hb_)
 replace K2 := Aside0.mk (blk_keep K2.out hb_)
 replace K3 := Aside0.mk (blk_keep K3.out hb_)
 replace K4 := Aside0.mk (blk_keep K4.out hb_)
 replace K5 := Aside0.mk (blk_keep K5.out hb_)
 replace K6 := Aside0.mk (blk_keep K6.out hb_)
 replace K7 := Aside0.mk (blk_keep K7.out hb_)
 replace F0 := Aside0.mk (Kd.F_below F0.out hb_)
 replace F1 := Aside0.mk (Kd.F_below F1.out hb_)
 replace F2 := Aside0.mk (Kd.F_below F2.out hb_)
 replace F3 := Aside0.mk (Kd.F_below F3.out hb_)
 replace FV := Aside0.mk (Kd.F_below FV.out hb_)
 replace GD := Aside0.mk (Kd.C_below GD.out hb_)
 replace GE := Aside0.mk (Kd.C_below GE.out hb_)
 clear hb_
 obtain ⟨x0, x1, x2, x3, x4⟩ := cells4 K1.out
 have x40 := x4 0
 have x41 := x4 1
 have x42 := x4 2
 have x43 := x4 3
 clear x4
 obtain ⟨u0, u1, u2, u3⟩ := cells3 K2.out
 have u30 := u3 0
 have u31 := u3 1
 have u32 := u3 2
 clear u3
 obtain ⟨v0, v1, v2, v3⟩ := cells3 K3.out
 have v30 := v3 0
 have v31 := v3 1
 have v32 := v3 2
 clear v3
 obtain ⟨y0, y1, y2, y3⟩ := cells3 K5.out
 have y30 := y3 0
 have y31 := y3 1
 have y32 := y3 2
 clear y3
 obtain ⟨z0, z1, z2, z3⟩ := cells3 K7.out
 have z30 := z3 0
 have z31 := z3 1
 have z32 := z3 2
 clear z3
 go_wp2_with fail
 have hk_ : sameR ⟨0, [], 0⟩ ⟨7, [], 0⟩ = false := by first | rfl | (simp [sameO, eqI, eqL, eqQ, eqM]; done) | decide
 refine (same19 Av av Dv dv ⟨0, [], 0⟩ ⟨7, [], 0⟩ w13 C_empty (Nat.zero_le _) C_empty (Nat.zero_le _)).mono ?_
 rintro e w14 ⟨rfl, hb_⟩
 rw [hk_]
 clear hk_
 clear x0 x1 x2 x3 x40 x41 x42 x43
 clear u0 u1 u2 u30 u31 u32
 clear v0 v1 v2 v30 v31 v32
 clear y0 y1 y2 y30 y31 y32
 clear z0 z1 z2 z30 z31 z32
 replace HB := Aside0.mk (below_then HB.out HB.out.size hb_)
 replace K1 := Aside0.mk (blk_keep K1.out hb_)
 replace K2 := Aside0.mk (blk_keep K2.out hb_)
 replace K3 := Aside0.mk (blk_keep K3.out hb_)
 replace K4 := Aside0.mk (blk_keep K4.out hb_)
 replace K5 := Aside0.mk (blk_keep K5.out hb_)
 replace K6 := Aside0.mk (blk_keep K6.out hb_)
 replace K7 := Aside0.mk (blk_keep K7.out hb_)
 replace F0 := Aside0.mk (Kd.F_below F0.out hb_)
 replace F1 := Aside0.mk (Kd.F_below F1.out hb_)
 replace F2 := Aside0.mk (Kd.F_below F2.out hb_)
 replace F3 := Aside0.mk (Kd.F_below F3.out hb_)
 replace FV := Aside0.mk (Kd.F_below FV.out hb_)
 replace GD := Aside0.mk (Kd.C_below GD.out hb_)
 replace GE := Aside0.mk (Kd.C_below GE.out hb_)
 clear hb_
 obtain ⟨x0, x1, x2, x3, x4⟩ := cells4 K1.out
 have x40 := x4 0
 have x41 := x4 1
 have x42 := x4 2
 have x43 := x4 3
 clear x4
 obtain ⟨u0, u1, u2, u3⟩ := cells3 K2.out
 have u30 := u3 0
 have u31 := u3 1
 have u32 := u3 2
 clear u3
 obtain ⟨v0, v1, v2, v3⟩ := cells3 K3.out
 have v30 := v3 0
 have v31 := v3 1
 have v32 := v3 2
 clear v3
 obtain ⟨y0, y1, y2, y3⟩ := cells3 K5.out
 have y30 := y3 0
 have y31 := y3 1
 have y32 := y3 2
 clear y3
 obtain ⟨z0, z1, z2, z3⟩ := cells3 K7.out
 have z30 := z3 0
 have z31 := z3 1
 have z32 := z3 2
 clear z3
 go_wp2_with fail
 go_ret
 exact ⟨rfl, HB.out⟩
end Go.Proofs.Ythfplgfpodmphaa.Ob
