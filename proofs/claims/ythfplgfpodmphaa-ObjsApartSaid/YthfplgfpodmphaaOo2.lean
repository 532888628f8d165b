/- The document's SameObjects, walked. -/
import Derived.Test.YthfplgfpodmphaaOe3
import Derived.Test.YthfplgfpodmphaaOi
namespace Go.Proofs.Ythfplgfpodmphaa.Ob
open Go.RowKit Go.Proofs.YthfplgfpodmphaaW.PrintWords Go.Proofs.YthfplgfpodmphaaW.PrintLast Go.Proofs.YthfplgfpodmphaaW.PrintMore Go.Proofs.Ythfplgfpodmphaa.Ms
attribute [local go_sem] max2_int min2_int max_two min_two max_three min_three max_four min_four
set_option linter.unusedVariables false
set_option linter.unusedSimpArgs false
set_option maxRecDepth 100000
set_option maxHeartbeats 2000000 in
theorem same15_0f (A0 : Option Addr) (c0 : Nat) (A1 : Option Addr) (c1 : Nat) (A2 : Option Addr) (c2 : Nat) (A3 : Option Addr) (c3 : Nat) (B0 : Option Addr) (d0 : Nat) (B1 : Option Addr) (d1 : Nat) (B2 : Option Addr) (d2 : Nat) (B3 : Option Addr) (d3 : Nat) (a b : O) (w : World) (ha : OC w a A0 c0 A1 c1 A2 c2 A3 c3) (hb : OC w b B0 d0 B1 d1 B2 d2 B3 d3) (h0 : eqB a.reg b.reg = false) : Calls Try.prog 15 #[.agg #[.slice A0 a.reg.length c0, .slice A1 a.que.length c1, .slice A2 a.loc.length c2, .slice A3 a.map.length c3], .agg #[.slice B0 b.reg.length d0, .slice B1 b.que.length d1, .slice B2 b.loc.length d2, .slice B3 b.map.length d3]] w fun e w' => e = .returned (.bool false) ∧ Below w.heap.size w w' := by
 have HA := Aside0.mk ha
 have HB0 := Aside0.mk hb
 clear ha hb
 have hq0 : eqB a.reg b.reg = false := h0
 clear h0
 have HB := Aside0.mk (Below.refl w.heap.size w)
 go_enter Try.func15, Try.ntmps15
 obtain ⟨V0, hV0⟩ : ∃ V_, V_ = (w.alloc (.cells #[.slice A0 a.reg.length c0, .slice A1 a.que.length c1, .slice A2 a.loc.length c2, .slice A3 a.map.length c3] 32)).alloc (.cells #[.slice B0 b.reg.length d0, .slice B1 b.que.length d1, .slice B2 b.loc.length d2, .slice B3 b.map.length d3] 32) := ⟨_, rfl⟩
 have hb0 : Below w.heap.size w V0 := by rw [hV0]; exact below_alloc (below_alloc (Below.refl _ _) _) _
 have q1 := Kd.C_string (P := Try.prog) (A := A0) (c := c0) Try.underlying22 Try.underlying5 Try.underlying9 (Kd.C_below HA.out.r0 hb0)
 have q2 := Kd.C_string (P := Try.prog) (A := B0) (c := d0) Try.underlying22 Try.underlying5 Try.underlying9 (Kd.C_below HB0.out.r0 hb0)
 have q3 : ((strOfNums a.reg).toList == (strOfNums b.reg).toList) = false := hq0
 rw [hV0] at q1 q2
 clear hV0 hb0 hq0
 go_wp2_with fail
 go_ret
 exact ⟨rfl, below_alloc (below_alloc (Below.refl _ _) _) _⟩
set_option maxHeartbeats 2000000 in
theorem same15_1f (A0 : Option Addr) (c0 : Nat) (A1 : Option Addr) (c1 : Nat) (A2 : Option Addr) (c2 : Nat) (A3 : Option Addr) (c3 : Nat) (B0 : Option Addr) (d0 : Nat) (B1 : Option Addr) (d1 : Nat) (B2 : Option Addr) (d2 : Nat) (B3 : Option Addr) (d3 : Nat) (a b : O) (w : World) (ha : OC w a A0 c0 A1 c1 A2 c2 A3 c3) (hb : OC w b B0 d0 B1 d1 B2 d2 B3 d3) (h0 : eqB a.reg b.reg = true) (h1 : eqQ a.que b.que = false) : Calls Try.prog 15 #[.agg #[.slice A0 a.reg.length c0, .slice A1 a.que.length c1, .slice A2 a.loc.length c2, .slice A3 a.map.length c3], .agg #[.slice B0 b.reg.length d0, .slice B1 b.que.length d1, .slice B2 b.loc.length d2, .slice B3 b.map.length d3]] w fun e w' => e = .returned (.bool false) ∧ Below w.heap.size w w' := by
 have HA := Aside0.mk ha
 have HB0 := Aside0.mk hb
 clear ha hb
 have hq0 : eqB a.reg b.reg = true := h0
 have hq1 : eqQ a.que b.que = false := h1
 clear h0 h1
 have HB := Aside0.mk (Below.refl w.heap.size w)
 go_enter Try.func15, Try.ntmps15
 obtain ⟨V0, hV0⟩ : ∃ V_, V_ = (w.alloc (.cells #[.slice A0 a.reg.length c0, .slice A1 a.que.length c1, .slice A2 a.loc.length c2, .slice A3 a.map.length c3] 32)).alloc (.cells #[.slice B0 b.reg.length d0, .slice B1 b.que.length d1, .slice B2 b.loc.length d2, .slice B3 b.map.length d3] 32) := ⟨_, rfl⟩
 have hb0 : Below w.heap.size w V0 := by rw [hV0]; exact below_alloc (below_alloc (Below.refl _ _) _) _
 have q1 := Kd.C_string (P := Try.prog) (A := A0) (c := c0) Try.underlying22 Try.underlying5 Try.underlying9 (Kd.C_below HA.out.r0 hb0)
 have q2 := Kd.C_string (P := Try.prog) (A := B0) (c := d0) Try.underlying22 Try.underlying5 Try.underlying9 (Kd.C_below HB0.out.r0 hb0)
 have q3 : ((strOfNums a.reg).toList == (strOfNums b.reg).toList) = true := hq0
 rw [hV0] at q1 q2
 clear hV0 hb0 hq0
 go_wp2_with fail
 clear q1 q2 q3
 obtain ⟨V0, hV0⟩ : ∃ V_, V_ = ((w.alloc (.cells #[.slice A0 a.reg.length c0, .slice A1 a.que.length c1, .slice A2 a.loc.length c2, .slice A3 a.map.length c3] 32)).alloc (.cells #[.slice B0 b.reg.length d0, .slice B1 b.que.length d1, .slice B2 b.loc.length d2, .slice B3 b.map.length d3] 32)) := ⟨_, rfl⟩
 rw [← hV0]
 have hb_ : Below w.heap.size w V0 := by rw [hV0]; exact (below_alloc (below_alloc (Below.refl _ _) (.cells #[.slice A0 a.reg.length c0, .slice A1 a.que.length c1, .slice A2 a.loc.length c2, .slice A3 a.map.length c3] 32)) (.cells #[.slice B0 b.reg.length d0, .slice B1 b.que.length d1, .slice B2 b.loc.length d2, .slice B3 b.map.length d3] 32))
 have K0 : Aside0 (V0.heap[w.heap.size]? = some (.cells #[.slice A0 a.reg.length c0, .slice A1 a.que.length c1, .slice A2 a.loc.length c2, .slice A3 a.map.length c3] 32 (0, 0))) := Aside0.mk (by have h_ := blk_alloc (heap_alloc_self w (.cells #[.slice A0 a.reg.length c0, .slice A1 a.que.length c1, .slice A2 a.loc.length c2, .slice A3 a.map.length c3] 32)) (.cells #[.slice B0 b.reg.length d0, .slice B1 b.que.length d1, .slice B2 b.loc.length d2, .slice B3 b.map.length d3] 32); rw [hV0]; simpa using h_)
 have K1 : Aside0 (V0.heap[w.heap.size + 1]? = some (.cells #[.slice B0 b.reg.length d0, .slice B1 b.que.length d1, .slice B2 b.loc.length d2, .slice B3 b.map.length d3] 32 (0, 0))) := Aside0.mk (by have h_ := heap_alloc_self (w.alloc (.cells #[.slice A0 a.reg.length c0, .slice A1 a.que.length c1, .slice A2 a.loc.length c2, .slice A3 a.map.length c3] 32)) (.cells #[.slice B0 b.reg.length d0, .slice B1 b.que.length d1, .slice B2 b.loc.length d2, .slice B3 b.map.length d3] 32); rw [hV0]; simpa using h_)
 have SV0 : Aside0 (V0.heap.size = w.heap.size + 2) := Aside0.mk (by rw [hV0]; simp)
 clear hV0
 replace HB := Aside0.mk (below_then HB.out HB.out.size hb_)
 clear hb_
 refine (rows20 A1 c1 a.que B1 d1 b.que V0 (Kd.C_below HA.out.r1 HB.out) (Kd.C_below HB0.out.r1 HB.out)).mono ?_
 rintro e u2 ⟨rfl, hb_⟩
 replace HB := Aside0.mk (below_then HB.out HB.out.size hb_)
 replace K0 := Aside0.mk (blk_keep K0.out hb_)
 replace K1 := Aside0.mk (blk_keep K1.out hb_)
 clear hb_
 obtain ⟨x0, x1, x2, x3, x4⟩ := cells4 K0.out
 have x40 := x4 0
 have x41 := x4 1
 have x42 := x4 2
 have x43 := x4 3
 clear x4
 obtain ⟨y0, y1, y2, y3, y4⟩ := cells4 K1.out
 have y40 := y4 0
 have y41 := y4 1
 have y42 := y4 2
 have y43 := y4 3
 clear y4
 rw [hq1]
 clear hq1
 go_wp2_with fail
 clear x0 x1 x2 x3 x40 x41 x42 x43
 clear y0 y1 y2 y3 y40 y41 y42 y43
 go_ret
 exact ⟨rfl, HB.out⟩
set_option maxHeartbeats 2000000 in
theorem same15_2f (A0 : Option Addr) (c0 : Nat) (A1 : Option Addr) (c1 : Nat) (A2 : Option Addr) (c2 : Nat) (A3 : Option Addr) (c3 : Nat) (B0 : Option Addr) (d0 : Nat) (B1 : Option Addr) (d1 : Nat) (B2 : Option Addr) (d2 : Nat) (B3 : Option Addr) (d3 : Nat) (a b : O) (w : World) (ha : OC w a A0 c0 A1 c1 A2 c2 A3 c3) (hb : OC w b B0 d0 B1 d1 B2 d2 B3 d3) (h0 : eqB a.reg b.reg = true) (h1 : eqQ a.que b.que = true) (h2 : eqI a.loc b.loc = false) : Calls Try.prog 15 #[.agg #[.slice A0 a.reg.length c0, .slice A1 a.que.length c1, .slice A2 a.loc.length c2, .slice A3 a.map.length c3], .agg #[.slice B0 b.reg.length d0, .slice B1 b.que.length d1, .slice B2 b.loc.length d2, .slice B3 b.map.length d3]] w fun e w' => e = .returned (.bool false) ∧ Below w.heap.size w w' := by
 have HA := Aside0.mk ha
 have HB0 := Aside0.mk hb
 clear ha hb
 have hq0 : eqB a.reg b.reg = true := h0
 have hq1 : eqQ a.que b.que = true := h1
 have hq2 : eqI a.loc b.loc = false := h2
 clear h0 h1 h2
 have HB := Aside0.mk (Below.refl w.heap.size w)
 go_enter Try.func15, Try.ntmps15
 obtain ⟨V0, hV0⟩ : ∃ V_, V_ = (w.alloc (.cells #[.slice A0 a.reg.length c0, .slice A1 a.que.length c1, .slice A2 a.loc.length c2, .slice A3 a.map.length c3] 32)).alloc (.cells #[.slice B0 b.reg.length d0, .slice B1 b.que.length d1, .slice B2 b.loc.length d2, .slice B3 b.map.length d3] 32) := ⟨_, rfl⟩
 have hb0 : Below w.heap.size w V0 := by rw [hV0]; exact below_alloc (below_alloc (Below.refl _ _) _) _
 have q1 := Kd.C_string (P := Try.prog) (A := A0) (c := c0) Try.underlying22 Try.underlying5 Try.underlying9 (Kd.C_below HA.out.r0 hb0)
 have q2 := Kd.C_string (P := Try.prog) (A := B0) (c := d0) Try.underlying22 Try.underlying5 Try.underlying9 (Kd.C_below HB0.out.r0 hb0)
 have q3 : ((strOfNums a.reg).toList == (strOfNums b.reg).toList) = true := hq0
 rw [hV0] at q1 q2
 clear hV0 hb0 hq0
 go_wp2_with fail
 clear q1 q2 q3
 obtain ⟨V0, hV0⟩ : ∃ V_, V_ = ((w.alloc (.cells #[.slice A0 a.reg.length c0, .slice A1 a.que.length c1, .slice A2 a.loc.length c2, .slice A3 a.map.length c3] 32)).alloc (.cells #[.slice B0 b.reg.length d0, .slice B1 b.que.length d1, .slice B2 b.loc.length d2, .slice B3 b.map.length d3] 32)) := ⟨_, rfl⟩
 rw [← hV0]
 have hb_ : Below w.heap.size w V0 := by rw [hV0]; exact (below_alloc (below_alloc (Below.refl _ _) (.cells #[.slice A0 a.reg.length c0, .slice A1 a.que.length c1, .slice A2 a.loc.length c2, .slice A3 a.map.length c3] 32)) (.cells #[.slice B0 b.reg.length d0, .slice B1 b.que.length d1, .slice B2 b.loc.length d2, .slice B3 b.map.length d3] 32))
 have K0 : Aside0 (V0.heap[w.heap.size]? = some (.cells #[.slice A0 a.reg.length c0, .slice A1 a.que.length c1, .slice A2 a.loc.length c2, .slice A3 a.map.length c3] 32 (0, 0))) := Aside0.mk (by have h_ := blk_alloc (heap_alloc_self w (.cells #[.slice A0 a.reg.length c0, .slice A1 a.que.length c1, .slice A2 a.loc.length c2, .slice A3 a.map.length c3] 32)) (.cells #[.slice B0 b.reg.length d0, .slice B1 b.que.length d1, .slice B2 b.loc.length d2, .slice B3 b.map.length d3] 32); rw [hV0]; simpa using h_)
 have K1 : Aside0 (V0.heap[w.heap.size + 1]? = some (.cells #[.slice B0 b.reg.length d0, .slice B1 b.que.length d1, .slice B2 b.loc.length d2, .slice B3 b.map.length d3] 32 (0, 0))) := Aside0.mk (by have h_ := heap_alloc_self (w.alloc (.cells #[.slice A0 a.reg.length c0, .slice A1 a.que.length c1, .slice A2 a.loc.length c2, .slice A3 a.map.length c3] 32)) (.cells #[.slice B0 b.reg.length d0, .slice B1 b.que.length d1, .slice B2 b.loc.length d2, .slice B3 b.map.length d3] 32); rw [hV0]; simpa using h_)
 have SV0 : Aside0 (V0.heap.size = w.heap.size + 2) := Aside0.mk (by rw [hV0]; simp)
 clear hV0
 replace HB := Aside0.mk (below_then HB.out HB.out.size hb_)
 clear hb_
 refine (rows20 A1 c1 a.que B1 d1 b.que V0 (Kd.C_below HA.out.r1 HB.out) (Kd.C_below HB0.out.r1 HB.out)).mono ?_
 rintro e u2 ⟨rfl, hb_⟩
 replace HB := Aside0.mk (below_then HB.out HB.out.size hb_)
 replace K0 := Aside0.mk (blk_keep K0.out hb_)
 replace K1 := Aside0.mk (blk_keep K1.out hb_)
 clear hb_
 obtain ⟨x0, x1, x2, x3, x4⟩ := cells4 K0.out
 have x40 := x4 0
 have x41 := x4 1
 have x42 := x4 2
 have x43 := x4 3
 clear x4
 obtain ⟨y0, y1, y2, y3, y4⟩ := cells4 K1.out
 have y40 := y4 0
 have y41 := y4 1
 have y42 := y4 2
 have y43 := y4 3
 clear y4
 rw [hq1]
 clear hq1
 go_wp2_with fail
 clear x0 x1 x2 x3 x40 x41 x42 x43
 clear y0 y1 y2 y3 y40 y41 y42 y43
 refine (ints55 A2 c2 a.loc B2 d2 b.loc u2 (Kd.C_below HA.out.r2 HB.out) (Kd.C_below HB0.out.r2 HB.out)).mono ?_
 rintro e u3 ⟨rfl, hb_⟩
 replace HB := Aside0.mk (below_then HB.out HB.out.size hb_)
 replace K0 := Aside0.mk (blk_keep K0.out hb_)
 replace K1 := Aside0.mk (blk_keep K1.out hb_)
 clear hb_
 obtain ⟨x0, x1, x2, x3, x4⟩ := cells4 K0.out
 have x40 := x4 0
 have x41 := x4 1
 have x42 := x4 2
 have x43 := x4 3
 clear x4
 obtain ⟨y0, y1, y2, y3, y4⟩ := cells4 K1.out
 have y40 := y4 0
 have y41 := y4 1
 have y42 := y4 2
 have y43 := y4 3
 clear y4
 rw [hq2]
 clear hq2
 go_wp2_with fail
 clear x0 x1 x2 x3 x40 x41 x42 x43
 clear y0 y1 y2 y3 y40 y41 y42 y43
 go_ret
 exact ⟨rfl, HB.out⟩
set_option maxHeartbeats 2000000 in
theorem same15_3f (A0 : Option Addr) (c0 : Nat) (A1 : Option Addr) (c1 : Nat) (A2 : Option Addr) (c2 : Nat) (A3 : Option Addr) (c3 : Nat) (B0 : Option Addr) (d0 : Nat) (B1 : Option Addr) (d1 : Nat) (B2 : Option Addr) (d2 : Nat) (B3 : Option Addr) (d3 : Nat) (a b : O) (w : World) (ha : OC w a A0 c0 A1 c1 A2 c2 A3 c3) (hb : OC w b B0 d0 B1 d1 B2 d2 B3 d3) (h0 : eqB a.reg b.reg = true) (h1 : eqQ a.que b.que = true) (h2 : eqI a.loc b.loc = true) (h3 : eqM a.map b.map = false) : Calls Try.prog 15 #[.agg #[.slice A0 a.reg.length c0, .slice A1 a.que.length c1, .slice A2 a.loc.length c2, .slice A3 a.map.length c3], .agg #[.slice B0 b.reg.length d0, .slice B1 b.que.length d1, .slice B2 b.loc.length d2, .slice B3 b.map.length d3]] w fun e w' => e = .returned (.bool false) ∧ Below w.heap.size w w' := by
 have HA := Aside0.mk ha
 have HB0 := Aside0.mk hb
 clear ha hb
 have hq0 : eqB a.reg b.reg = true := h0
 have hq1 : eqQ a.que b.que = true := h1
 have hq2 : eqI a.loc b.loc = true := h2
 have hq3 : eqM a.map b.map = false := h3
 clear h0 h1 h2 h3
 have HB := Aside0.mk (Below.refl w.heap.size w)
 go_enter Try.func15, Try.ntmps15
 obtain ⟨V0, hV0⟩ : ∃ V_, V_ = (w.alloc (.cells #[.slice A0 a.reg.length c0, .slice A1 a.que.length c1, .slice A2 a.loc.length c2, .slice A3 a.map.length c3] 32)).alloc (.cells #[.slice B0 b.reg.length d0, .slice B1 b.que.length d1, .slice B2 b.loc.length d2, .slice B3 b.map.length d3] 32) := ⟨_, rfl⟩
 have hb0 : Below w.heap.size w V0 := by rw [hV0]; exact below_alloc (below_alloc (Below.refl _ _) _) _
 have q1 := Kd.C_string (P := Try.prog) (A := A0) (c := c0) Try.underlying22 Try.underlying5 Try.underlying9 (Kd.C_below HA.out.r0 hb0)
 have q2 := Kd.C_string (P := Try.prog) (A := B0) (c := d0) Try.underlying22 Try.underlying5 Try.underlying9 (Kd.C_below HB0.out.r0 hb0)
 have q3 : ((strOfNums a.reg).toList == (strOfNums b.reg).toList) = true := hq0
 rw [hV0] at q1 q2
 clear hV0 hb0 hq0
 go_wp2_with fail
 clear q1 q2 q3
 obtain ⟨V0, hV0⟩ : ∃ V_, V_ = ((w.alloc (.cells #[.slice A0 a.reg.length c0, .slice A1 a.que.length c1, .slice A2 a.loc.length c2, .slice A3 a.map.length c3] 32)).alloc (.cells #[.slice B0 b.reg.length d0, .slice B1 b.que.length d1, .slice B2 b.loc.length d2, .slice B3 b.map.length d3] 32)) := ⟨_, rfl⟩
 rw [← hV0]
 have hb_ : Below w.heap.size w V0 := by rw [hV0]; exact (below_alloc (below_alloc (Below.refl _ _) (.cells #[.slice A0 a.reg.length c0, .slice A1 a.que.length c1, .slice A2 a.loc.length c2, .slice A3 a.map.length c3] 32)) (.cells #[.slice B0 b.reg.length d0, .slice B1 b.que.length d1, .slice B2 b.loc.length d2, .slice B3 b.map.length d3] 32))
 have K0 : Aside0 (V0.heap[w.heap.size]? = some (.cells #[.slice A0 a.reg.length c0, .slice A1 a.que.length c1, .slice A2 a.loc.length c2, .slice A3 a.map.length c3] 32 (0, 0))) := Aside0.mk (by have h_ := blk_alloc (heap_alloc_self w (.cells #[.slice A0 a.reg.length c0, .slice A1 a.que.length c1, .slice A2 a.loc.length c2, .slice A3 a.map.length c3] 32)) (.cells #[.slice B0 b.reg.length d0, .slice B1 b.que.length d1, .slice B2 b.loc.length d2, .slice B3 b.map.length d3] 32); rw [hV0]; simpa using h_)
 have K1 : Aside0 (V0.heap[w.heap.size + 1]? = some (.cells #[.slice B0 b.reg.length d0, .slice B1 b.que.length d1, .slice B2 b.loc.length d2, .slice B3 b.map.length d3] 32 (0, 0))) := Aside0.mk (by have h_ := heap_alloc_self (w.alloc (.cells #[.slice A0 a.reg.length c0, .slice A1 a.que.length c1, .slice A2 a.loc.length c2, .slice A3 a.map.length c3] 32)) (.cells #[.slice B0 b.reg.length d0, .slice B1 b.que.length d1, .slice B2 b.loc.length d2, .slice B3 b.map.length d3] 32); rw [hV0]; simpa using h_)
 have SV0 : Aside0 (V0.heap.size = w.heap.size + 2) := Aside0.mk (by rw [hV0]; simp)
 clear hV0
 replace HB := Aside0.mk (below_then HB.out HB.out.size hb_)
 clear hb_
 refine (rows20 A1 c1 a.que B1 d1 b.que V0 (Kd.C_below HA.out.r1 HB.out) (Kd.C_below HB0.out.r1 HB.out)).mono ?_
 rintro e u2 ⟨rfl, hb_⟩
 replace HB := Aside0.mk (below_then HB.out HB.out.size hb_)
 replace K0 := Aside0.mk (blk_keep K0.out hb_)
 replace K1 := Aside0.mk (blk_keep K1.out hb_)
 clear hb_
 obtain ⟨x0, x1, x2, x3, x4⟩ := cells4 K0.out
 have x40 := x4 0
 have x41 := x4 1
 have x42 := x4 2
 have x43 := x4 3
 clear x4
 obtain ⟨y0, y1, y2, y3, y4⟩ := cells4 K1.out
 have y40 := y4 0
 have y41 := y4 1
 have y42 := y4 2
 have y43 := y4 3
 clear y4
 rw [hq1]
 clear hq1
 go_wp2_with fail
 clear x0 x1 x2 x3 x40 x41 x42 x43
 clear y0 y1 y2 y3 y40 y41 y42 y43
 refine (ints55 A2 c2 a.loc B2 d2 b.loc u2 (Kd.C_below HA.out.r2 HB.out) (Kd.C_below HB0.out.r2 HB.out)).mono ?_
 rintro e u3 ⟨rfl, hb_⟩
 replace HB := Aside0.mk (below_then HB.out HB.out.size hb_)
 replace K0 := Aside0.mk (blk_keep K0.out hb_)
 replace K1 := Aside0.mk (blk_keep K1.out hb_)
 clear hb_
 obtain ⟨x0, x1, x2, x3, x4⟩ := cells4 K0.out
 have x40 := x4 0
 have x41 := x4 1
 have x42 := x4 2
 have x43 := x4 3
 clear x4
 obtain ⟨y0, y1, y2, y3, y4⟩ := cells4 K1.out
 have y40 := y4 0
 have y41 := y4 1
 have y42 := y4 2
 have y43 := y4 3
 clear y4
 rw [hq2]
 clear hq2
 go_wp2_with fail
 clear x0 x1 x2 x3 x40 x41 x42 x43
 clear y0 y1 y2 y3 y40 y41 y42 y43
 refine (pairs21 A3 c3 a.map B3 d3 b.map u3 (Kd.C_below HA.out.r3 HB.out) (Kd.C_below HB0.out.r3 HB.out)).mono ?_
 rintro e u4 ⟨rfl, hb_⟩
 replace HB := Aside0.mk (below_then HB.out HB.out.size hb_)
 replace K0 := Aside0.mk (blk_keep K0.out hb_)
 replace K1 := Aside0.mk (blk_keep K1.out hb_)
 clear hb_
 obtain ⟨x0, x1, x2, x3, x4⟩ := cells4 K0.out
 have x40 := x4 0
 have x41 := x4 1
 have x42 := x4 2
 have x43 := x4 3
 clear x4
 obtain ⟨y0, y1, y2, y3, y4⟩ := cells4 K1.out
 have y40 := y4 0
 have y41 := y4 1
 have y42 := y4 2
 have y43 := y4 3
 clear y4
 rw [hq3]
 clear hq3
 go_wp2_with fail
 clear x0 x1 x2 x3 x40 x41 x42 x43
 clear y0 y1 y2 y3 y40 y41 y42 y43
 go_ret
 exact ⟨rfl, HB.out⟩
set_option maxHeartbeats 2000000 in
theorem same15_3t (A0 : Option Addr) (c0 : Nat) (A1 : Option Addr) (c1 : Nat) (A2 : Option Addr) (c2 : Nat) (A3 : Option Addr) (c3 : Nat) (B0 : Option Addr) (d0 : Nat) (B1 : Option Addr) (d1 : Nat) (B2 : Option Addr) (d2 : Nat) (B3 : Option Addr) (d3 : Nat) (a b : O) (w : World) (ha : OC w a A0 c0 A1 c1 A2 c2 A3 c3) (hb : OC w b B0 d0 B1 d1 B2 d2 B3 d3) (h0 : eqB a.reg b.reg = true) (h1 : eqQ a.que b.que = true) (h2 : eqI a.loc b.loc = true) (h3 : eqM a.map b.map = true) : Calls Try.prog 15 #[.agg #[.slice A0 a.reg.length c0, .slice A1 a.que.length c1, .slice A2 a.loc.length c2, .slice A3 a.map.length c3], .agg #[.slice B0 b.reg.length d0, .slice B1 b.que.length d1, .slice B2 b.loc.length d2, .slice B3 b.map.length d3]] w fun e w' => e = .returned (.bool true) ∧ Below w.heap.size w w' := by
 have HA := Aside0.mk ha
 have HB0 := Aside0.mk hb
 clear ha hb
 have hq0 : eqB a.reg b.reg = true := h0
 have hq1 : eqQ a.que b.que = true := h1
 have hq2 : eqI a.loc b.loc = true := h2
 have hq3 : eqM a.map b.map = true := h3
 clear h0 h1 h2 h3
 have HB := Aside0.mk (Below.refl w.heap.size w)
 go_enter Try.func15, Try.ntmps15
 obtain ⟨V0, hV0⟩ : ∃ V_, V_ = (w.alloc (.cells #[.slice A0 a.reg.length c0, .slice A1 a.que.length c1, .slice A2 a.loc.length c2, .slice A3 a.map.length c3] 32)).alloc (.cells #[.slice B0 b.reg.length d0, .slice B1 b.que.length d1, .slice B2 b.loc.length d2, .slice B3 b.map.length d3] 32) := ⟨_, rfl⟩
 have hb0 : Below w.heap.size w V0 := by rw [hV0]; exact below_alloc (below_alloc (Below.refl _ _) _) _
 have q1 := Kd.C_string (P := Try.prog) (A := A0) (c := c0) Try.underlying22 Try.underlying5 Try.underlying9 (Kd.C_below HA.out.r0 hb0)
 have q2 := Kd.C_string (P := Try.prog) (A := B0) (c := d0) Try.underlying22 Try.underlying5 Try.underlying9 (Kd.C_below HB0.out.r0 hb0)
 have q3 : ((strOfNums a.reg).toList == (strOfNums b.reg).toList) = true := hq0
 rw [hV0] at q1 q2
 clear hV0 hb0 hq0
 go_wp2_with fail
 clear q1 q2 q3
 obtain ⟨V0, hV0⟩ : ∃ V_, V_ = ((w.alloc (.cells #[.slice A0 a.reg.length c0, .slice A1 a.que.length c1, .slice A2 a.loc.length c2, .slice A3 a.map.length c3] 32)).alloc (.cells #[.slice B0 b.reg.length d0, .slice B1 b.que.length d1, .slice B2 b.loc.length d2, .slice B3 b.map.length d3] 32)) := ⟨_, rfl⟩
 rw [← hV0]
 have hb_ : Below w.heap.size w V0 := by rw [hV0]; exact (below_alloc (below_alloc (Below.refl _ _) (.cells #[.slice A0 a.reg.length c0, .slice A1 a.que.length c1, .slice A2 a.loc.length c2, .slice A3 a.map.length c3] 32)) (.cells #[.slice B0 b.reg.length d0, .slice B1 b.que.length d1, .slice B2 b.loc.length d2, .slice B3 b.map.length d3] 32))
 have K0 : Aside0 (V0.heap[w.heap.size]? = some (.cells #[.slice A0 a.reg.length c0, .slice A1 a.que.length c1, .slice A2 a.loc.length c2, .slice A3 a.map.length c3] 32 (0, 0))) := Aside0.mk (by have h_ := blk_alloc (heap_alloc_self w (.cells #[.slice A0 a.reg.length c0, .slice A1 a.que.length c1, .slice A2 a.loc.length c2, .slice A3 a.map.length c3] 32)) (.cells #[.slice B0 b.reg.length d0, .slice B1 b.que.length d1, .slice B2 b.loc.length d2, .slice B3 b.map.length d3] 32); rw [hV0]; simpa using h_)
 have K1 : Aside0 (V0.heap[w.heap.size + 1]? = some (.cells #[.slice B0 b.reg.length d0, .slice B1 b.que.length d1, .slice B2 b.loc.length d2, .slice B3 b.map.length d3] 32 (0, 0))) := Aside0.mk (by have h_ := heap_alloc_self (w.alloc (.cells #[.slice A0 a.reg.length c0, .slice A1 a.que.length c1, .slice A2 a.loc.length c2, .slice A3 a.map.length c3] 32)) (.cells #[.slice B0 b.reg.length d0, .slice B1 b.que.length d1, .slice B2 b.loc.length d2, .slice B3 b.map.length d3] 32); rw [hV0]; simpa using h_)
 have SV0 : Aside0 (V0.heap.size = w.heap.size + 2) := Aside0.mk (by rw [hV0]; simp)
 clear hV0
 replace HB := Aside0.mk (below_then HB.out HB.out.size hb_)
 clear hb_
 refine (rows20 A1 c1 a.que B1 d1 b.que V0 (Kd.C_below HA.out.r1 HB.out) (Kd.C_below HB0.out.r1 HB.out)).mono ?_
 rintro e u2 ⟨rfl, hb_⟩
 replace HB := Aside0.mk (below_then HB.out HB.out.size hb_)
 replace K0 := Aside0.mk (blk_keep K0.out hb_)
 replace K1 := Aside0.mk (blk_keep K1.out hb_)
 clear hb_
 obtain ⟨x0, x1, x2, x3, x4⟩ := cells4 K0.out
 have x40 := x4 0
 have x41 := x4 1
 have x42 := x4 2
 have x43 := x4 3
 clear x4
 obtain ⟨y0, y1, y2, y3, y4⟩ := cells4 K1.out
 have y40 := y4 0
 have y41 := y4 1
 have y42 := y4 2
 have y43 := y4 3
 clear y4
 rw [hq1]
 clear hq1
 go_wp2_with fail
 clear x0 x1 x2 x3 x40 x41 x42 x43
 clear y0 y1 y2 y3 y40 y41 y42 y43
 refine (ints55 A2 c2 a.loc B2 d2 b.loc u2 (Kd.C_below HA.out.r2 HB.out) (Kd.C_below HB0.out.r2 HB.out)).mono ?_
 rintro e u3 ⟨rfl, hb_⟩
 replace HB := Aside0.mk (below_then HB.out HB.out.size hb_)
 replace K0 := Aside0.mk (blk_keep K0.out hb_)
 replace K1 := Aside0.mk (blk_keep K1.out hb_)
 clear hb_
 obtain ⟨x0, x1, x2, x3, x4⟩ := cells4 K0.out
 have x40 := x4 0
 have x41 := x4 1
 have x42 := x4 2
 have x43 := x4 3
 clear x4
 obtain ⟨y0, y1, y2, y3, y4⟩ := cells4 K1.out
 have y40 := y4 0
 have y41 := y4 1
 have y42 := y4 2
 have y43 := y4 3
 clear y4
 rw [hq2]
 clear hq2
 go_wp2_with fail
 clear x0 x1 x2 x3 x40 x41 x42 x43
 clear y0 y1 y2 y3 y40 y41 y42 y43
 refine (pairs21 A3 c3 a.map B3 d3 b.map u3 (Kd.C_below HA.out.r3 HB.out) (Kd.C_below HB0.out.r3 HB.out)).mono ?_
 rintro e u4 ⟨rfl, hb_⟩
 replace HB := Aside0.mk (below_then HB.out HB.out.size hb_)
 replace K0 := Aside0.mk (blk_keep K0.out hb_)
 replace K1 := Aside0.mk (blk_keep K1.out hb_)
 clear hb_
 obtain ⟨x0, x1, x2, x3, x4⟩ := cells4 K0.out
 have x40 := x4 0
 have x41 := x4 1
 have x42 := x4 2
 have x43 := x4 3
 clear x4
 obtain ⟨y0, y1, y2, y3, y4⟩ := cells4 K1.out
 have y40 := y4 0
 have y41 := y4 1
 have y42 := y4 2
 have y43 := y4 3
 clear y4
 rw [hq3]
 clear hq3
 go_wp2_with fail
 clear x0 x1 x2 x3 x40 x41 x42 x43
 clear y0 y1 y2 y3 y40 y41 y42 y43
 go_ret
 exact ⟨rfl, HB.out⟩
theorem same15 (A0 : Option Addr) (c0 : Nat) (A1 : Option Addr) (c1 : Nat) (A2 : Option Addr) (c2 : Nat) (A3 : Option Addr) (c3 : Nat) (B0 : Option Addr) (d0 : Nat) (B1 : Option Addr) (d1 : Nat) (B2 : Option Addr) (d2 : Nat) (B3 : Option Addr) (d3 : Nat) (a b : O) (w : World) (ha : OC w a A0 c0 A1 c1 A2 c2 A3 c3) (hb : OC w b B0 d0 B1 d1 B2 d2 B3 d3) : Calls Try.prog 15 #[.agg #[.slice A0 a.reg.length c0, .slice A1 a.que.length c1, .slice A2 a.loc.length c2, .slice A3 a.map.length c3], .agg #[.slice B0 b.reg.length d0, .slice B1 b.que.length d1, .slice B2 b.loc.length d2, .slice B3 b.map.length d3]] w fun e w' => e = .returned (.bool (sameO a b)) ∧ Below w.heap.size w w' := by
 unfold sameO
 cases h0 : eqB a.reg b.reg with
 | false => exact same15_0f A0 c0 A1 c1 A2 c2 A3 c3 B0 d0 B1 d1 B2 d2 B3 d3 a b w ha hb h0
 | true =>
  cases h1 : eqQ a.que b.que with
  | false => exact same15_1f A0 c0 A1 c1 A2 c2 A3 c3 B0 d0 B1 d1 B2 d2 B3 d3 a b w ha hb h0 h1
  | true =>
   cases h2 : eqI a.loc b.loc with
   | false => exact same15_2f A0 c0 A1 c1 A2 c2 A3 c3 B0 d0 B1 d1 B2 d2 B3 d3 a b w ha hb h0 h1 h2
   | true =>
    cases h3 : eqM a.map b.map with
    | false => exact same15_3f A0 c0 A1 c1 A2 c2 A3 c3 B0 d0 B1 d1 B2 d2 B3 d3 a b w ha hb h0 h1 h2 h3
    | true => exact same15_3t A0 c0 A1 c1 A2 c2 A3 c3 B0 d0 B1 d1 B2 d2 B3 d3 a b w ha hb h0 h1 h2 h3
end Go.Proofs.Ythfplgfpodmphaa.Ob
