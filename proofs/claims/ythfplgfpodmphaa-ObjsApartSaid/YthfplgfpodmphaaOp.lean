/- Which commands may be, and results that are the same. -/
import Derived.Test.YthfplgfpodmphaaOe2
import Derived.Test.YthfplgfpodmphaaOb
import Derived.Test.YthfplgfpodmphaaOi
namespace Go.Proofs.Ythfplgfpodmphaa.Ob
open Go.RowKit Go.Proofs.YthfplgfpodmphaaW.PrintWords Go.Proofs.YthfplgfpodmphaaW.PrintLast Go.Proofs.YthfplgfpodmphaaW.PrintMore Go.Proofs.Ythfplgfpodmphaa.Ms
attribute [local go_sem] max2_int min2_int max_two min_two max_three min_three max_four min_four
set_option linter.unusedVariables false
set_option linter.unusedSimpArgs false
set_option maxRecDepth 100000
def okR (kd a : Int) (ke va ol : List Int) : Bool := decide (1 ≤ kd ∧ kd ≤ 11 ∧ 0 ≤ a ∧ a ≤ 999 ∧ ke.length ≤ 32 ∧ va.length ≤ 32 ∧ ol.length ≤ 32)
set_option maxHeartbeats 2000000 in
theorem ok11 (kd a : Int) (E2 : Option Addr) (e2 : Nat) (E3 : Option Addr) (e3 : Nat) (E4 : Option Addr) (e4 : Nat) (ke va ol : List Int) (w : World) : Calls Try.prog 11 #[.agg #[.int .i64 kd, .int .i64 a, .slice E2 ke.length e2, .slice E3 va.length e3, .slice E4 ol.length e4]] w fun e w' => e = .returned (.bool (okR kd a ke va ol)) ∧ Below w.heap.size w w' := by
 by_cases h0 : 1 ≤ kd
 rotate_left
 ·
  have d0 : decide (1 ≤ kd) = false := decide_eq_false h0
  have hr : okR kd a ke va ol = false := decide_eq_false (by omega)
  rw [hr]
  clear hr
  clear h0
  have HB := Aside0.mk (Below.refl w.heap.size w)
  go_enter Try.func11, Try.ntmps11
  go_wp2_with fail
  go_ret
  exact ⟨rfl, below_alloc (Below.refl _ _) _⟩
 by_cases h1 : kd ≤ 11
 rotate_left
 ·
  have d0 : decide (1 ≤ kd) = true := decide_eq_true h0
  have d1 : decide (kd ≤ 11) = false := decide_eq_false h1
  have hr : okR kd a ke va ol = false := decide_eq_false (by omega)
  rw [hr]
  clear hr
  clear h0 h1
  have HB := Aside0.mk (Below.refl w.heap.size w)
  go_enter Try.func11, Try.ntmps11
  go_wp2_with fail
  go_ret
  exact ⟨rfl, below_alloc (Below.refl _ _) _⟩
 by_cases h2 : 0 ≤ a ∧ a ≤ 999
 rotate_left
 ·
  have d0 : decide (1 ≤ kd) = true := decide_eq_true h0
  have d1 : decide (kd ≤ 11) = true := decide_eq_true h1
  have hr : okR kd a ke va ol = false := decide_eq_false (by omega)
  have hw : objs_who.f a = some false := by
   unfold objs_who.f
   split <;> simp <;> omega
  rw [hr]
  clear hr
  clear h0 h1 h2
  have HB := Aside0.mk (Below.refl w.heap.size w)
  go_enter Try.func11, Try.ntmps11
  go_wp2_with fail
  obtain ⟨V0, hV0⟩ : ∃ V_, V_ = (w.alloc (.cells #[.int .i64 kd, .int .i64 a, .slice E2 ke.length e2, .slice E3 va.length e3, .slice E4 ol.length e4] 24)) := ⟨_, rfl⟩
  rw [← hV0]
  have hb_ : Below w.heap.size w V0 := by rw [hV0]; exact (below_alloc (Below.refl _ _) (.cells #[.int .i64 kd, .int .i64 a, .slice E2 ke.length e2, .slice E3 va.length e3, .slice E4 ol.length e4] 24))
  have K0 : Aside0 (V0.heap[w.heap.size]? = some (.cells #[.int .i64 kd, .int .i64 a, .slice E2 ke.length e2, .slice E3 va.length e3, .slice E4 ol.length e4] 24 (0, 0))) := Aside0.mk (by have h_ := heap_alloc_self w (.cells #[.int .i64 kd, .int .i64 a, .slice E2 ke.length e2, .slice E3 va.length e3, .slice E4 ol.length e4] 24); rw [hV0]; simpa using h_)
  have SV0 : Aside0 (V0.heap.size = w.heap.size + 1) := Aside0.mk (by rw [hV0]; simp)
  clear hV0
  replace HB := Aside0.mk (below_then HB.out HB.out.size hb_)
  clear hb_
  refine (objs_who.calls a false V0 hw).mono ?_
  rintro e w2 ⟨rfl, hd⟩
  have hb_ := hd.below
  clear hd hw
  replace HB := Aside0.mk (below_then HB.out HB.out.size hb_)
  replace K0 := Aside0.mk (blk_keep K0.out hb_)
  clear hb_
  obtain ⟨x0, x1, x2, x3, x4, x5⟩ := cells5 K0.out
  have x50 := x5 0
  have x51 := x5 1
  have x52 := x5 2
  have x53 := x5 3
  have x54 := x5 4
  clear x5
  go_wp2_with fail
  go_ret
  exact ⟨rfl, HB.out⟩
 by_cases h3 : ke.length ≤ 32 ∧ va.length ≤ 32 ∧ ol.length ≤ 32
 rotate_left
 ·
  have d0 : decide (1 ≤ kd) = true := decide_eq_true h0
  have d1 : decide (kd ≤ 11) = true := decide_eq_true h1
  have hr : okR kd a ke va ol = false := decide_eq_false (by omega)
  have hw : objs_who.f a = some true := by
   unfold objs_who.f
   rw [if_pos (by omega)]; simp; omega
  rw [hr]
  clear hr
  by_cases g1 : ke.length < va.length
  ·
   have t1 : (ke.length : Int) < (va.length : Int) := by omega
   have t1' : decide ((ke.length : Int) < (va.length : Int)) = true := decide_eq_true t1
   by_cases g2 : va.length < ol.length
   ·
    have t2 : (va.length : Int) < (ol.length : Int) := by omega
    have t2' : decide ((va.length : Int) < (ol.length : Int)) = true := decide_eq_true t2
    have t3 : decide ((ol.length : Int) ≤ 32) = false := decide_eq_false (by omega)
    have t4 : decide (ol.length ≤ 32) = false := decide_eq_false (by omega)
    clear h0 h1 h2 h3 g1 g2
    have HB := Aside0.mk (Below.refl w.heap.size w)
    go_enter Try.func11, Try.ntmps11
    go_wp2_with fail
    obtain ⟨V0, hV0⟩ : ∃ V_, V_ = (w.alloc (.cells #[.int .i64 kd, .int .i64 a, .slice E2 ke.length e2, .slice E3 va.length e3, .slice E4 ol.length e4] 24)) := ⟨_, rfl⟩
    rw [← hV0]
    have hb_ : Below w.heap.size w V0 := by rw [hV0]; exact (below_alloc (Below.refl _ _) (.cells #[.int .i64 kd, .int .i64 a, .slice E2 ke.length e2, .slice E3 va.length e3, .slice E4 ol.length e4] 24))
    have K0 : Aside0 (V0.heap[w.heap.size]? = some (.cells #[.int .i64 kd, .int .i64 a, .slice E2 ke.length e2, .slice E3 va.length e3, .slice E4 ol.length e4] 24 (0, 0))) := Aside0.mk (by have h_ := heap_alloc_self w (.cells #[.int .i64 kd, .int .i64 a, .slice E2 ke.length e2, .slice E3 va.length e3, .slice E4 ol.length e4] 24); rw [hV0]; simpa using h_)
    have SV0 : Aside0 (V0.heap.size = w.heap.size + 1) := Aside0.mk (by rw [hV0]; simp)
    clear hV0
    replace HB := Aside0.mk (below_then HB.out HB.out.size hb_)
    clear hb_
    refine (objs_who.calls a true V0 hw).mono ?_
    rintro e w2 ⟨rfl, hd⟩
    have hb_ := hd.below
    clear hd hw
    replace HB := Aside0.mk (below_then HB.out HB.out.size hb_)
    replace K0 := Aside0.mk (blk_keep K0.out hb_)
    clear hb_
    obtain ⟨x0, x1, x2, x3, x4, x5⟩ := cells5 K0.out
    have x50 := x5 0
    have x51 := x5 1
    have x52 := x5 2
    have x53 := x5 3
    have x54 := x5 4
    clear x5
    go_wp2_with fail
    go_ret
    exact ⟨rfl, HB.out⟩
   ·
    have t2 : ¬ (va.length : Int) < (ol.length : Int) := by omega
    have t2' : decide ((va.length : Int) < (ol.length : Int)) = false := decide_eq_false t2
    have t3 : decide ((va.length : Int) ≤ 32) = false := decide_eq_false (by omega)
    have t4 : decide (va.length ≤ 32) = false := decide_eq_false (by omega)
    clear h0 h1 h2 h3 g1 g2
    have HB := Aside0.mk (Below.refl w.heap.size w)
    go_enter Try.func11, Try.ntmps11
    go_wp2_with fail
    obtain ⟨V0, hV0⟩ : ∃ V_, V_ = (w.alloc (.cells #[.int .i64 kd, .int .i64 a, .slice E2 ke.length e2, .slice E3 va.length e3, .slice E4 ol.length e4] 24)) := ⟨_, rfl⟩
    rw [← hV0]
    have hb_ : Below w.heap.size w V0 := by rw [hV0]; exact (below_alloc (Below.refl _ _) (.cells #[.int .i64 kd, .int .i64 a, .slice E2 ke.length e2, .slice E3 va.length e3, .slice E4 ol.length e4] 24))
    have K0 : Aside0 (V0.heap[w.heap.size]? = some (.cells #[.int .i64 kd, .int .i64 a, .slice E2 ke.length e2, .slice E3 va.length e3, .slice E4 ol.length e4] 24 (0, 0))) := Aside0.mk (by have h_ := heap_alloc_self w (.cells #[.int .i64 kd, .int .i64 a, .slice E2 ke.length e2, .slice E3 va.length e3, .slice E4 ol.length e4] 24); rw [hV0]; simpa using h_)
    have SV0 : Aside0 (V0.heap.size = w.heap.size + 1) := Aside0.mk (by rw [hV0]; simp)
    clear hV0
    replace HB := Aside0.mk (below_then HB.out HB.out.size hb_)
    clear hb_
    refine (objs_who.calls a true V0 hw).mono ?_
    rintro e w2 ⟨rfl, hd⟩
    have hb_ := hd.below
    clear hd hw
    replace HB := Aside0.mk (below_then HB.out HB.out.size hb_)
    replace K0 := Aside0.mk (blk_keep K0.out hb_)
    clear hb_
    obtain ⟨x0, x1, x2, x3, x4, x5⟩ := cells5 K0.out
    have x50 := x5 0
    have x51 := x5 1
    have x52 := x5 2
    have x53 := x5 3
    have x54 := x5 4
    clear x5
    go_wp2_with fail
    go_ret
    exact ⟨rfl, HB.out⟩
  ·
   have t1 : ¬ (ke.length : Int) < (va.length : Int) := by omega
   have t1' : decide ((ke.length : Int) < (va.length : Int)) = false := decide_eq_false t1
   by_cases g2 : ke.length < ol.length
   ·
    have t2 : (ke.length : Int) < (ol.length : Int) := by omega
    have t2' : decide ((ke.length : Int) < (ol.length : Int)) = true := decide_eq_true t2
    have t3 : decide ((ol.length : Int) ≤ 32) = false := decide_eq_false (by omega)
    have t4 : decide (ol.length ≤ 32) = false := decide_eq_false (by omega)
    clear h0 h1 h2 h3 g1 g2
    have HB := Aside0.mk (Below.refl w.heap.size w)
    go_enter Try.func11, Try.ntmps11
    go_wp2_with fail
    obtain ⟨V0, hV0⟩ : ∃ V_, V_ = (w.alloc (.cells #[.int .i64 kd, .int .i64 a, .slice E2 ke.length e2, .slice E3 va.length e3, .slice E4 ol.length e4] 24)) := ⟨_, rfl⟩
    rw [← hV0]
    have hb_ : Below w.heap.size w V0 := by rw [hV0]; exact (below_alloc (Below.refl _ _) (.cells #[.int .i64 kd, .int .i64 a, .slice E2 ke.length e2, .slice E3 va.length e3, .slice E4 ol.length e4] 24))
    have K0 : Aside0 (V0.heap[w.heap.size]? = some (.cells #[.int .i64 kd, .int .i64 a, .slice E2 ke.length e2, .slice E3 va.length e3, .slice E4 ol.length e4] 24 (0, 0))) := Aside0.mk (by have h_ := heap_alloc_self w (.cells #[.int .i64 kd, .int .i64 a, .slice E2 ke.length e2, .slice E3 va.length e3, .slice E4 ol.length e4] 24); rw [hV0]; simpa using h_)
    have SV0 : Aside0 (V0.heap.size = w.heap.size + 1) := Aside0.mk (by rw [hV0]; simp)
    clear hV0
    replace HB := Aside0.mk (below_then HB.out HB.out.size hb_)
    clear hb_
    refine (objs_who.calls a true V0 hw).mono ?_
    rintro e w2 ⟨rfl, hd⟩
    have hb_ := hd.below
    clear hd hw
    replace HB := Aside0.mk (below_then HB.out HB.out.size hb_)
    replace K0 := Aside0.mk (blk_keep K0.out hb_)
    clear hb_
    obtain ⟨x0, x1, x2, x3, x4, x5⟩ := cells5 K0.out
    have x50 := x5 0
    have x51 := x5 1
    have x52 := x5 2
    have x53 := x5 3
    have x54 := x5 4
    clear x5
    go_wp2_with fail
    go_ret
    exact ⟨rfl, HB.out⟩
   ·
    have t2 : ¬ (ke.length : Int) < (ol.length : Int) := by omega
    have t2' : decide ((ke.length : Int) < (ol.length : Int)) = false := decide_eq_false t2
    have t3 : decide ((ke.length : Int) ≤ 32) = false := decide_eq_false (by omega)
    have t4 : decide (ke.length ≤ 32) = false := decide_eq_false (by omega)
    clear h0 h1 h2 h3 g1 g2
    have HB := Aside0.mk (Below.refl w.heap.size w)
    go_enter Try.func11, Try.ntmps11
    go_wp2_with fail
    obtain ⟨V0, hV0⟩ : ∃ V_, V_ = (w.alloc (.cells #[.int .i64 kd, .int .i64 a, .slice E2 ke.length e2, .slice E3 va.length e3, .slice E4 ol.length e4] 24)) := ⟨_, rfl⟩
    rw [← hV0]
    have hb_ : Below w.heap.size w V0 := by rw [hV0]; exact (below_alloc (Below.refl _ _) (.cells #[.int .i64 kd, .int .i64 a, .slice E2 ke.length e2, .slice E3 va.length e3, .slice E4 ol.length e4] 24))
    have K0 : Aside0 (V0.heap[w.heap.size]? = some (.cells #[.int .i64 kd, .int .i64 a, .slice E2 ke.length e2, .slice E3 va.length e3, .slice E4 ol.length e4] 24 (0, 0))) := Aside0.mk (by have h_ := heap_alloc_self w (.cells #[.int .i64 kd, .int .i64 a, .slice E2 ke.length e2, .slice E3 va.length e3, .slice E4 ol.length e4] 24); rw [hV0]; simpa using h_)
    have SV0 : Aside0 (V0.heap.size = w.heap.size + 1) := Aside0.mk (by rw [hV0]; simp)
    clear hV0
    replace HB := Aside0.mk (below_then HB.out HB.out.size hb_)
    clear hb_
    refine (objs_who.calls a true V0 hw).mono ?_
    rintro e w2 ⟨rfl, hd⟩
    have hb_ := hd.below
    clear hd hw
    replace HB := Aside0.mk (below_then HB.out HB.out.size hb_)
    replace K0 := Aside0.mk (blk_keep K0.out hb_)
    clear hb_
    obtain ⟨x0, x1, x2, x3, x4, x5⟩ := cells5 K0.out
    have x50 := x5 0
    have x51 := x5 1
    have x52 := x5 2
    have x53 := x5 3
    have x54 := x5 4
    clear x5
    go_wp2_with fail
    go_ret
    exact ⟨rfl, HB.out⟩
 have d0 : decide (1 ≤ kd) = true := decide_eq_true h0
 have d1 : decide (kd ≤ 11) = true := decide_eq_true h1
 have hr : okR kd a ke va ol = true := decide_eq_true (by omega)
 have hw : objs_who.f a = some true := by
  unfold objs_who.f
  rw [if_pos (by omega)]; simp; omega
 rw [hr]
 clear hr
 by_cases g1 : ke.length < va.length
 ·
  have t1 : (ke.length : Int) < (va.length : Int) := by omega
  have t1' : decide ((ke.length : Int) < (va.length : Int)) = true := decide_eq_true t1
  by_cases g2 : va.length < ol.length
  ·
   have t2 : (va.length : Int) < (ol.length : Int) := by omega
   have t2' : decide ((va.length : Int) < (ol.length : Int)) = true := decide_eq_true t2
   have t3 : decide ((ol.length : Int) ≤ 32) = true := decide_eq_true (by omega)
   have t4 : decide (ol.length ≤ 32) = true := decide_eq_true (by omega)
   clear h0 h1 h2 h3 g1 g2
   have HB := Aside0.mk (Below.refl w.heap.size w)
   go_enter Try.func11, Try.ntmps11
   go_wp2_with fail
   obtain ⟨V0, hV0⟩ : ∃ V_, V_ = (w.alloc (.cells #[.int .i64 kd, .int .i64 a, .slice E2 ke.length e2, .slice E3 va.length e3, .slice E4 ol.length e4] 24)) := ⟨_, rfl⟩
   rw [← hV0]
   have hb_ : Below w.heap.size w V0 := by rw [hV0]; exact (below_alloc (Below.refl _ _) (.cells #[.int .i64 kd, .int .i64 a, .slice E2 ke.length e2, .slice E3 va.length e3, .slice E4 ol.length e4] 24))
   have K0 : Aside0 (V0.heap[w.heap.size]? = some (.cells #[.int .i64 kd, .int .i64 a, .slice E2 ke.length e2, .slice E3 va.length e3, .slice E4 ol.length e4] 24 (0, 0))) := Aside0.mk (by have h_ := heap_alloc_self w (.cells #[.int .i64 kd, .int .i64 a, .slice E2 ke.length e2, .slice E3 va.length e3, .slice E4 ol.length e4] 24); rw [hV0]; simpa using h_)
   have SV0 : Aside0 (V0.heap.size = w.heap.size + 1) := Aside0.mk (by rw [hV0]; simp)
   clear hV0
   replace HB := Aside0.mk (below_then HB.out HB.out.size hb_)
   clear hb_
   refine (objs_who.calls a true V0 hw).mono ?_
   rintro e w2 ⟨rfl, hd⟩
   have hb_ := hd.below
   clear hd hw
   replace HB := Aside0.mk (below_then HB.out HB.out.size hb_)
   replace K0 := Aside0.mk (blk_keep K0.out hb_)
   clear hb_
   obtain ⟨x0, x1, x2, x3, x4, x5⟩ := cells5 K0.out
   have x50 := x5 0
   have x51 := x5 1
   have x52 := x5 2
   have x53 := x5 3
   have x54 := x5 4
   clear x5
   go_wp2_with fail
   go_ret
   exact ⟨rfl, HB.out⟩
  ·
   have t2 : ¬ (va.length : Int) < (ol.length : Int) := by omega
   have t2' : decide ((va.length : Int) < (ol.length : Int)) = false := decide_eq_false t2
   have t3 : decide ((va.length : Int) ≤ 32) = true := decide_eq_true (by omega)
   have t4 : decide (va.length ≤ 32) = true := decide_eq_true (by omega)
   clear h0 h1 h2 h3 g1 g2
   have HB := Aside0.mk (Below.refl w.heap.size w)
   go_enter Try.func11, Try.ntmps11
   go_wp2_with fail
   obtain ⟨V0, hV0⟩ : ∃ V_, V_ = (w.alloc (.cells #[.int .i64 kd, .int .i64 a, .slice E2 ke.length e2, .slice E3 va.length e3, .slice E4 ol.length e4] 24)) := ⟨_, rfl⟩
   rw [← hV0]
   have hb_ : Below w.heap.size w V0 := by rw [hV0]; exact (below_alloc (Below.refl _ _) (.cells #[.int .i64 kd, .int .i64 a, .slice E2 ke.length e2, .slice E3 va.length e3, .slice E4 ol.length e4] 24))
   have K0 : Aside0 (V0.heap[w.heap.size]? = some (.cells #[.int .i64 kd, .int .i64 a, .slice E2 ke.length e2, .slice E3 va.length e3, .slice E4 ol.length e4] 24 (0, 0))) := Aside0.mk (by have h_ := heap_alloc_self w (.cells #[.int .i64 kd, .int .i64 a, .slice E2 ke.length e2, .slice E3 va.length e3, .slice E4 ol.length e4] 24); rw [hV0]; simpa using h_)
   have SV0 : Aside0 (V0.heap.size = w.heap.size + 1) := Aside0.mk (by rw [hV0]; simp)
   clear hV0
   replace HB := Aside0.mk (below_then HB.out HB.out.size hb_)
   clear hb_
   refine (objs_who.calls a true V0 hw).mono ?_
   rintro e w2 ⟨rfl, hd⟩
   have hb_ := hd.below
   clear hd hw
   replace HB := Aside0.mk (below_then HB.out HB.out.size hb_)
   replace K0 := Aside0.mk (blk_keep K0.out hb_)
   clear hb_
   obtain ⟨x0, x1, x2, x3, x4, x5⟩ := cells5 K0.out
   have x50 := x5 0
   have x51 := x5 1
   have x52 := x5 2
   have x53 := x5 3
   have x54 := x5 4
   clear x5
   go_wp2_with fail
   go_ret
   exact ⟨rfl, HB.out⟩
 ·
  have t1 : ¬ (ke.length : Int) < (va.length : Int) := by omega
  have t1' : decide ((ke.length : Int) < (va.length : Int)) = false := decide_eq_false t1
  by_cases g2 : ke.length < ol.length
  ·
   have t2 : (ke.length : Int) < (ol.length : Int) := by omega
   have t2' : decide ((ke.length : Int) < (ol.length : Int)) = true := decide_eq_true t2
   have t3 : decide ((ol.length : Int) ≤ 32) = true := decide_eq_true (by omega)
   have t4 : decide (ol.length ≤ 32) = true := decide_eq_true (by omega)
   clear h0 h1 h2 h3 g1 g2
   have HB := Aside0.mk (Below.refl w.heap.size w)
   go_enter Try.func11, Try.ntmps11
   go_wp2_with fail
   obtain ⟨V0, hV0⟩ : ∃ V_, V_ = (w.alloc (.cells #[.int .i64 kd, .int .i64 a, .slice E2 ke.length e2, .slice E3 va.length e3, .slice E4 ol.length e4] 24)) := ⟨_, rfl⟩
   rw [← hV0]
   have hb_ : Below w.heap.size w V0 := by rw [hV0]; exact (below_alloc (Below.refl _ _) (.cells #[.int .i64 kd, .int .i64 a, .slice E2 ke.length e2, .slice E3 va.length e3, .slice E4 ol.length e4] 24))
   have K0 : Aside0 (V0.heap[w.heap.size]? = some (.cells #[.int .i64 kd, .int .i64 a, .slice E2 ke.length e2, .slice E3 va.length e3, .slice E4 ol.length e4] 24 (0, 0))) := Aside0.mk (by have h_ := heap_alloc_self w (.cells #[.int .i64 kd, .int .i64 a, .slice E2 ke.length e2, .slice E3 va.length e3, .slice E4 ol.length e4] 24); rw [hV0]; simpa using h_)
   have SV0 : Aside0 (V0.heap.size = w.heap.size + 1) := Aside0.mk (by rw [hV0]; simp)
   clear hV0
   replace HB := Aside0.mk (below_then HB.out HB.out.size hb_)
   clear hb_
   refine (objs_who.calls a true V0 hw).mono ?_
   rintro e w2 ⟨rfl, hd⟩
   have hb_ := hd.below
   clear hd hw
   replace HB := Aside0.mk (below_then HB.out HB.out.size hb_)
   replace K0 := Aside0.mk (blk_keep K0.out hb_)
   clear hb_
   obtain ⟨x0, x1, x2, x3, x4, x5⟩ := cells5 K0.out
   have x50 := x5 0
   have x51 := x5 1
   have x52 := x5 2
   have x53 := x5 3
   have x54 := x5 4
   clear x5
   go_wp2_with fail
   go_ret
   exact ⟨rfl, HB.out⟩
  ·
   have t2 : ¬ (ke.length : Int) < (ol.length : Int) := by omega
   have t2' : decide ((ke.length : Int) < (ol.length : Int)) = false := decide_eq_false t2
   have t3 : decide ((ke.length : Int) ≤ 32) = true := decide_eq_true (by omega)
   have t4 : decide (ke.length ≤ 32) = true := decide_eq_true (by omega)
   clear h0 h1 h2 h3 g1 g2
   have HB := Aside0.mk (Below.refl w.heap.size w)
   go_enter Try.func11, Try.ntmps11
   go_wp2_with fail
   obtain ⟨V0, hV0⟩ : ∃ V_, V_ = (w.alloc (.cells #[.int .i64 kd, .int .i64 a, .slice E2 ke.length e2, .slice E3 va.length e3, .slice E4 ol.length e4] 24)) := ⟨_, rfl⟩
   rw [← hV0]
   have hb_ : Below w.heap.size w V0 := by rw [hV0]; exact (below_alloc (Below.refl _ _) (.cells #[.int .i64 kd, .int .i64 a, .slice E2 ke.length e2, .slice E3 va.length e3, .slice E4 ol.length e4] 24))
   have K0 : Aside0 (V0.heap[w.heap.size]? = some (.cells #[.int .i64 kd, .int .i64 a, .slice E2 ke.length e2, .slice E3 va.length e3, .slice E4 ol.length e4] 24 (0, 0))) := Aside0.mk (by have h_ := heap_alloc_self w (.cells #[.int .i64 kd, .int .i64 a, .slice E2 ke.length e2, .slice E3 va.length e3, .slice E4 ol.length e4] 24); rw [hV0]; simpa using h_)
   have SV0 : Aside0 (V0.heap.size = w.heap.size + 1) := Aside0.mk (by rw [hV0]; simp)
   clear hV0
   replace HB := Aside0.mk (below_then HB.out HB.out.size hb_)
   clear hb_
   refine (objs_who.calls a true V0 hw).mono ?_
   rintro e w2 ⟨rfl, hd⟩
   have hb_ := hd.below
   clear hd hw
   replace HB := Aside0.mk (below_then HB.out HB.out.size hb_)
   replace K0 := Aside0.mk (blk_keep K0.out hb_)
   clear hb_
   obtain ⟨x0, x1, x2, x3, x4, x5⟩ := cells5 K0.out
   have x50 := x5 0
   have x51 := x5 1
   have x52 := x5 2
   have x53 := x5 3
   have x54 := x5 4
   clear x5
   go_wp2_with fail
   go_ret
   exact ⟨rfl, HB.out⟩
set_option maxHeartbeats 2000000 in
theorem s19_0 (Av : Option Addr) (av : Nat) (Bv : Option Addr) (bv : Nat) (p q : S26) (w : World) (hp : Kd.C kb w Av p.f1.length p.f1) (lp : p.f1.length ≤ av) (hq : Kd.C kb w Bv q.f1.length q.f1) (lq : q.f1.length ≤ bv) (c1 : (p.f0 == q.f0) = false) : Calls Try.prog 19 #[.agg #[.int .i64 p.f0, .slice Av p.f1.length av, .int .i64 p.f2], .agg #[.int .i64 q.f0, .slice Bv q.f1.length bv, .int .i64 q.f2]] w fun e w' => e = .returned (.bool false) ∧ Below w.heap.size w w' := by
 have HP := Aside0.mk hp
 have HQ := Aside0.mk hq
 have LP := Aside0.mk lp
 have LQ := Aside0.mk lq
 clear hp hq lp lq
 have HB := Aside0.mk (Below.refl w.heap.size w)
 go_enter Try.func19, Try.ntmps19
 go_wp2_with fail
 go_ret
 exact ⟨rfl, below_alloc (below_alloc (Below.refl _ _) _) _⟩
set_option maxHeartbeats 2000000 in
theorem s19_1 (Av : Option Addr) (av : Nat) (Bv : Option Addr) (bv : Nat) (p q : S26) (w : World) (hp : Kd.C kb w Av p.f1.length p.f1) (lp : p.f1.length ≤ av) (hq : Kd.C kb w Bv q.f1.length q.f1) (lq : q.f1.length ≤ bv) (c1 : (p.f0 == q.f0) = true) (c3 : (p.f2 == q.f2) = false) : Calls Try.prog 19 #[.agg #[.int .i64 p.f0, .slice Av p.f1.length av, .int .i64 p.f2], .agg #[.int .i64 q.f0, .slice Bv q.f1.length bv, .int .i64 q.f2]] w fun e w' => e = .returned (.bool false) ∧ Below w.heap.size w w' := by
 have HP := Aside0.mk hp
 have HQ := Aside0.mk hq
 have LP := Aside0.mk lp
 have LQ := Aside0.mk lq
 clear hp hq lp lq
 have HB := Aside0.mk (Below.refl w.heap.size w)
 go_enter Try.func19, Try.ntmps19
 go_wp2_with fail
 go_ret
 exact ⟨rfl, below_alloc (below_alloc (Below.refl _ _) _) _⟩
set_option maxHeartbeats 2000000 in
theorem s19_2f (Av : Option Addr) (av : Nat) (Bv : Option Addr) (bv : Nat) (p q : S26) (w : World) (hp : Kd.C kb w Av p.f1.length p.f1) (lp : p.f1.length ≤ av) (hq : Kd.C kb w Bv q.f1.length q.f1) (lq : q.f1.length ≤ bv) (c1 : (p.f0 == q.f0) = true) (c3 : (p.f2 == q.f2) = true) (c2 : eqB p.f1 q.f1 = false) : Calls Try.prog 19 #[.agg #[.int .i64 p.f0, .slice Av p.f1.length av, .int .i64 p.f2], .agg #[.int .i64 q.f0, .slice Bv q.f1.length bv, .int .i64 q.f2]] w fun e w' => e = .returned (.bool false) ∧ Below w.heap.size w w' := by
 have hqq : eqB p.f1 q.f1 = false := c2
 clear c2
 have HP := Aside0.mk hp
 have HQ := Aside0.mk hq
 have LP := Aside0.mk lp
 have LQ := Aside0.mk lq
 clear hp hq lp lq
 have HB := Aside0.mk (Below.refl w.heap.size w)
 go_enter Try.func19, Try.ntmps19
 go_wp2_with fail
 obtain ⟨V0, hV0⟩ : ∃ V_, V_ = ((w.alloc (.cells #[.int .i64 p.f0, .slice Av p.f1.length av, .int .i64 p.f2] 34)).alloc (.cells #[.int .i64 q.f0, .slice Bv q.f1.length bv, .int .i64 q.f2] 34)) := ⟨_, rfl⟩
 rw [← hV0]
 have hb_ : Below w.heap.size w V0 := by rw [hV0]; exact (below_alloc (below_alloc (Below.refl _ _) (.cells #[.int .i64 p.f0, .slice Av p.f1.length av, .int .i64 p.f2] 34)) (.cells #[.int .i64 q.f0, .slice Bv q.f1.length bv, .int .i64 q.f2] 34))
 have K0 : Aside0 (V0.heap[w.heap.size]? = some (.cells #[.int .i64 p.f0, .slice Av p.f1.length av, .int .i64 p.f2] 34 (0, 0))) := Aside0.mk (by have h_ := blk_alloc (heap_alloc_self w (.cells #[.int .i64 p.f0, .slice Av p.f1.length av, .int .i64 p.f2] 34)) (.cells #[.int .i64 q.f0, .slice Bv q.f1.length bv, .int .i64 q.f2] 34); rw [hV0]; simpa using h_)
 have K1 : Aside0 (V0.heap[w.heap.size + 1]? = some (.cells #[.int .i64 q.f0, .slice Bv q.f1.length bv, .int .i64 q.f2] 34 (0, 0))) := Aside0.mk (by have h_ := heap_alloc_self (w.alloc (.cells #[.int .i64 p.f0, .slice Av p.f1.length av, .int .i64 p.f2] 34)) (.cells #[.int .i64 q.f0, .slice Bv q.f1.length bv, .int .i64 q.f2] 34); rw [hV0]; simpa using h_)
 have SV0 : Aside0 (V0.heap.size = w.heap.size + 2) := Aside0.mk (by rw [hV0]; simp)
 clear hV0
 replace HB := Aside0.mk (below_then HB.out HB.out.size hb_)
 clear hb_
 refine (bytes_Equal.calls Av av p.f1 Bv bv q.f1 false V0 (Kd.C_below HP.out HB.out) LP.out (Kd.C_below HQ.out HB.out) LQ.out (by rw [← hqq]; rfl)).mono ?_
 rintro e w2 ⟨rfl, hd⟩
 have hb_ := hd.below
 clear hd hqq
 replace HB := Aside0.mk (below_then HB.out HB.out.size hb_)
 replace K0 := Aside0.mk (blk_keep K0.out hb_)
 replace K1 := Aside0.mk (blk_keep K1.out hb_)
 clear hb_
 go_wp2_with fail
 go_ret
 exact ⟨rfl, HB.out⟩
set_option maxHeartbeats 2000000 in
theorem s19_2t (Av : Option Addr) (av : Nat) (Bv : Option Addr) (bv : Nat) (p q : S26) (w : World) (hp : Kd.C kb w Av p.f1.length p.f1) (lp : p.f1.length ≤ av) (hq : Kd.C kb w Bv q.f1.length q.f1) (lq : q.f1.length ≤ bv) (c1 : (p.f0 == q.f0) = true) (c3 : (p.f2 == q.f2) = true) (c2 : eqB p.f1 q.f1 = true) : Calls Try.prog 19 #[.agg #[.int .i64 p.f0, .slice Av p.f1.length av, .int .i64 p.f2], .agg #[.int .i64 q.f0, .slice Bv q.f1.length bv, .int .i64 q.f2]] w fun e w' => e = .returned (.bool true) ∧ Below w.heap.size w w' := by
 have hqq : eqB p.f1 q.f1 = true := c2
 clear c2
 have HP := Aside0.mk hp
 have HQ := Aside0.mk hq
 have LP := Aside0.mk lp
 have LQ := Aside0.mk lq
 clear hp hq lp lq
 have HB := Aside0.mk (Below.refl w.heap.size w)
 go_enter Try.func19, Try.ntmps19
 go_wp2_with fail
 obtain ⟨V0, hV0⟩ : ∃ V_, V_ = ((w.alloc (.cells #[.int .i64 p.f0, .slice Av p.f1.length av, .int .i64 p.f2] 34)).alloc (.cells #[.int .i64 q.f0, .slice Bv q.f1.length bv, .int .i64 q.f2] 34)) := ⟨_, rfl⟩
 rw [← hV0]
 have hb_ : Below w.heap.size w V0 := by rw [hV0]; exact (below_alloc (below_alloc (Below.refl _ _) (.cells #[.int .i64 p.f0, .slice Av p.f1.length av, .int .i64 p.f2] 34)) (.cells #[.int .i64 q.f0, .slice Bv q.f1.length bv, .int .i64 q.f2] 34))
 have K0 : Aside0 (V0.heap[w.heap.size]? = some (.cells #[.int .i64 p.f0, .slice Av p.f1.length av, .int .i64 p.f2] 34 (0, 0))) := Aside0.mk (by have h_ := blk_alloc (heap_alloc_self w (.cells #[.int .i64 p.f0, .slice Av p.f1.length av, .int .i64 p.f2] 34)) (.cells #[.int .i64 q.f0, .slice Bv q.f1.length bv, .int .i64 q.f2] 34); rw [hV0]; simpa using h_)
 have K1 : Aside0 (V0.heap[w.heap.size + 1]? = some (.cells #[.int .i64 q.f0, .slice Bv q.f1.length bv, .int .i64 q.f2] 34 (0, 0))) := Aside0.mk (by have h_ := heap_alloc_self (w.alloc (.cells #[.int .i64 p.f0, .slice Av p.f1.length av, .int .i64 p.f2] 34)) (.cells #[.int .i64 q.f0, .slice Bv q.f1.length bv, .int .i64 q.f2] 34); rw [hV0]; simpa using h_)
 have SV0 : Aside0 (V0.heap.size = w.heap.size + 2) := Aside0.mk (by rw [hV0]; simp)
 clear hV0
 replace HB := Aside0.mk (below_then HB.out HB.out.size hb_)
 clear hb_
 refine (bytes_Equal.calls Av av p.f1 Bv bv q.f1 true V0 (Kd.C_below HP.out HB.out) LP.out (Kd.C_below HQ.out HB.out) LQ.out (by rw [← hqq]; rfl)).mono ?_
 rintro e w2 ⟨rfl, hd⟩
 have hb_ := hd.below
 clear hd hqq
 replace HB := Aside0.mk (below_then HB.out HB.out.size hb_)
 replace K0 := Aside0.mk (blk_keep K0.out hb_)
 replace K1 := Aside0.mk (blk_keep K1.out hb_)
 clear hb_
 go_wp2_with fail
 go_ret
 exact ⟨rfl, HB.out⟩
theorem same19 (Av : Option Addr) (av : Nat) (Bv : Option Addr) (bv : Nat) (p q : S26) (w : World) (hp : Kd.C kb w Av p.f1.length p.f1) (lp : p.f1.length ≤ av) (hq : Kd.C kb w Bv q.f1.length q.f1) (lq : q.f1.length ≤ bv) : Calls Try.prog 19 #[.agg #[.int .i64 p.f0, .slice Av p.f1.length av, .int .i64 p.f2], .agg #[.int .i64 q.f0, .slice Bv q.f1.length bv, .int .i64 q.f2]] w fun e w' => e = .returned (.bool (sameR p q)) ∧ Below w.heap.size w w' := by
 unfold sameR
 cases c1 : p.f0 == q.f0 with
 | false => exact s19_0 Av av Bv bv p q w hp lp hq lq c1
 | true =>
  cases c3 : p.f2 == q.f2 with
  | false => rw [Bool.and_false]; exact s19_1 Av av Bv bv p q w hp lp hq lq c1 c3
  | true =>
   cases c2 : eqB p.f1 q.f1 with
   | false => exact s19_2f Av av Bv bv p q w hp lp hq lq c1 c3 c2
   | true => exact s19_2t Av av Bv bv p q w hp lp hq lq c1 c3 c2
end Go.Proofs.Ythfplgfpodmphaa.Ob
