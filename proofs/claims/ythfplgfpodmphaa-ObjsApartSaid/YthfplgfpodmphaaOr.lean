/- objs.locks, walked. -/
import Derived.Test.YthfplgfpodmphaaOq
import Derived.Test.YthfplgfpodmphaaOs
namespace Go.Proofs.Ythfplgfpodmphaa.Ob
open Go.RowKit Go.Proofs.YthfplgfpodmphaaW.PrintWords Go.Proofs.YthfplgfpodmphaaW.PrintLast Go.Proofs.YthfplgfpodmphaaW.PrintMore Go.Proofs.Ythfplgfpodmphaa.Ms
attribute [local go_sem] max2_int min2_int max_two min_two max_three min_three max_four min_four
set_option linter.unusedVariables false
set_option linter.unusedSimpArgs false
set_option maxRecDepth 100000
/-- .. the row may be one that came in. -/
def T2g {α : Type} (d : Kd α) (ok : Nat → Prop) (w : World) (xs : List α) (r : S26) (e : Ending) (w' : World) : Prop := ∃ A c Av cv, e = .returned (.tuple #[.slice A xs.length c, .agg #[.int .i64 r.f0, .slice Av r.f1.length cv, .int .i64 r.f2]]) ∧ xs.length ≤ c ∧ Kd.F d w' (fun k => ok k ∨ w.heap.size ≤ k) A xs.length xs ∧ r.f1.length ≤ cv ∧ Kd.F kb w' (fun k => w.heap.size ≤ k) Av r.f1.length r.f1 ∧ Below w.heap.size w w'
set_option maxHeartbeats 1000000 in
theorem locks_owner (A0 : Option Addr) (c0 : Nat) (l0 : List Int) (kd a : Int) (K2 K3 K4 : Option Addr) (n2 d2 n3 d3 n4 d4 : Nat) (w : World) (ok : Nat → Prop) (hf : Kd.F ki w ok A0 l0.length l0) (hc0 : l0.length ≤ c0) (hb0 : l0.length < 1000000) (h8 : kd = 8) :
  Calls Try.prog 34 #[.slice A0 l0.length c0, .agg #[.int .i64 kd, .int .i64 a, .slice K2 n2 d2, .slice K3 n3 d3, .slice K4 n4 d4]] w (T2g ki ok w l0 (ownerR l0)) := by
 have q8 : (kd == 8) = true := beq_iff_eq.2 (by omega)
 have HF := Aside0.mk hf
 have HC0 := Aside0.mk hc0
 have HN := Aside0.mk hb0
 clear hf hc0 hb0
 clear h8
 have HB := Aside0.mk (Below.refl w.heap.size w)
 go_enter Try.func34, Try.ntmps34
 go_wp2_with fail
 obtain ⟨V0, hV0⟩ : ∃ V_, V_ = ((w.alloc (.cells #[.int .i64 kd, .int .i64 a, .slice K2 n2 d2, .slice K3 n3 d3, .slice K4 n4 d4] 24)).alloc (.cells #[.int .i64 0, .slice none 0 0, .int .i64 0] 34)) := ⟨_, rfl⟩
 rw [← hV0]
 have hb_ : Below w.heap.size w V0 := by rw [hV0]; exact (below_alloc (below_alloc (Below.refl _ _) (.cells #[.int .i64 kd, .int .i64 a, .slice K2 n2 d2, .slice K3 n3 d3, .slice K4 n4 d4] 24)) (.cells #[.int .i64 0, .slice none 0 0, .int .i64 0] 34))
 have K0 : Aside0 (V0.heap[w.heap.size]? = some (.cells #[.int .i64 kd, .int .i64 a, .slice K2 n2 d2, .slice K3 n3 d3, .slice K4 n4 d4] 24 (0, 0))) := Aside0.mk (by have h_ := blk_alloc (heap_alloc_self w (.cells #[.int .i64 kd, .int .i64 a, .slice K2 n2 d2, .slice K3 n3 d3, .slice K4 n4 d4] 24)) (.cells #[.int .i64 0, .slice none 0 0, .int .i64 0] 34); rw [hV0]; simpa using h_)
 have K1 : Aside0 (V0.heap[w.heap.size + 1]? = some (.cells #[.int .i64 0, .slice none 0 0, .int .i64 0] 34 (0, 0))) := Aside0.mk (by have h_ := heap_alloc_self (w.alloc (.cells #[.int .i64 kd, .int .i64 a, .slice K2 n2 d2, .slice K3 n3 d3, .slice K4 n4 d4] 24)) (.cells #[.int .i64 0, .slice none 0 0, .int .i64 0] 34); rw [hV0]; simpa using h_)
 have SV0 : Aside0 (V0.heap.size = w.heap.size + 2) := Aside0.mk (by rw [hV0]; simp)
 clear hV0
 replace HB := Aside0.mk (below_then HB.out HB.out.size hb_)
 clear hb_
 have hV0 := SV0.out
 obtain ⟨y0, y1, y2, y3, y4, y5⟩ := cells5 K0.out
 have y50 := y5 0
 have y51 := y5 1
 have y52 := y5 2
 have y53 := y5 3
 have y54 := y5 4
 clear y5
 go_wp2_with fail
 clear y0 y1 y2 y3 y4 y50 y51 y52 y53 y54
 refine (owner77 A0 c0 l0 V0 (Kd.C_below (Kd.F_now HF.out) HB.out) HC0.out).mono ?_
 rintro e w1 ⟨Av, cv, rfl, hcv, hFv, hb_⟩
 have LV := Aside0.mk hcv
 have FV := Aside0.mk (Kd.F_mono hFv (ok' := fun k => w.heap.size + 2 ≤ k) (fun k hk => by have h2 : V0.heap.size ≤ k := hk; show w.heap.size + 2 ≤ k; omega))
 clear hFv hcv
 replace HB := Aside0.mk (below_then HB.out HB.out.size hb_)
 replace K0 := Aside0.mk (blk_keep K0.out hb_)
 replace K1 := Aside0.mk (blk_keep K1.out hb_)
 clear hb_
 obtain ⟨x0, x1, x2, x3⟩ := cells3 K1.out
 have x30 := x3 0
 have x31 := x3 1
 have x32 := x3 2
 clear x3
 go_wp2_with fail
 clear x0 x1 x2 x30 x31 x32
 obtain ⟨V3, hV3⟩ : ∃ V_, V_ = (((w1.setCell ⟨w.heap.size + 1, 0, none⟩ (.int .i64 (ownerR l0).f0)).setCell ⟨w.heap.size + 1, 1, none⟩ (.slice Av (ownerR l0).f1.length cv)).setCell ⟨w.heap.size + 1, 2, none⟩ (.int .i64 (ownerR l0).f2)) := ⟨_, rfl⟩
 rw [← hV3]
 have hge_ : w.heap.size ≤ w.heap.size + 1 := by omega
 have hst_ : St w.heap.size w (w.heap.size + 1) 34 #[.int .i64 (ownerR l0).f0, .slice Av (ownerR l0).f1.length cv, .int .i64 (ownerR l0).f2] w1 V3 := by rw [hV3]; exact (St.next (St.next (St.first HB.out hge_ K1.out 0 _ rfl) hge_ 1 _ rfl) hge_ 2 _ rfl)
 replace HB := Aside0.mk hst_.1
 replace K1 := Aside0.mk hst_.2.1
 replace K0 := Aside0.mk ((hst_.2.2.1 (w.heap.size) (by omega)).trans K0.out)
 replace FV := Aside0.mk (Kd.F_step FV.out (fun k_ hk_ _ => hst_.2.2.1 k_ (by have hk2_ : w.heap.size + 2 ≤ k_ := hk_; omega)))
 have SV3 := Aside0.mk hst_.2.2.2
 clear hV3 hst_ hge_
 refine bodyPost_ret (results_tc rfl _ _ (w.heap.size + 1) 34 #[.int .i64 (ownerR l0).f0, .slice Av (ownerR l0).f1.length cv, .int .i64 (ownerR l0).f2] (0, 0) _ rfl K1.out Try.underlying34 rfl (by kernel_rfl)) rfl ?_
 exact ⟨A0, c0, Av, cv, rfl, HC0.out, Kd.F_mono (Kd.F_below HF.out HB.out) (fun k hk => .inl hk), LV.out, Kd.F_mono FV.out (fun k hk => by have h2 : w.heap.size + 2 ≤ k := hk; show w.heap.size ≤ k; omega), HB.out⟩
set_option maxHeartbeats 1000000 in
theorem locks_bad (A0 : Option Addr) (c0 : Nat) (l0 : List Int) (kd a : Int) (K2 K3 K4 : Option Addr) (n2 d2 n3 d3 n4 d4 : Nat) (w : World) (ok : Nat → Prop) (hf : Kd.F ki w ok A0 l0.length l0) (hc0 : l0.length ≤ c0) (hb0 : l0.length < 1000000) (h8 : ¬ kd = 8) (hw : ¬ (0 ≤ a ∧ a ≤ 999)) :
  Calls Try.prog 34 #[.slice A0 l0.length c0, .agg #[.int .i64 kd, .int .i64 a, .slice K2 n2 d2, .slice K3 n3 d3, .slice K4 n4 d4]] w (T2g ki ok w l0 ⟨7, [], 0⟩) := by
 have q8 : (kd == 8) = false := beq_eq_false_iff_ne.2 (by omega)
 have HF := Aside0.mk hf
 have HC0 := Aside0.mk hc0
 have HN := Aside0.mk hb0
 clear hf hc0 hb0
 have HW : objs_who.f a = some false := by unfold objs_who.f; split <;> simp <;> omega
 clear h8 hw
 have HB := Aside0.mk (Below.refl w.heap.size w)
 go_enter Try.func34, Try.ntmps34
 go_wp2_with fail
 obtain ⟨V0, hV0⟩ : ∃ V_, V_ = ((w.alloc (.cells #[.int .i64 kd, .int .i64 a, .slice K2 n2 d2, .slice K3 n3 d3, .slice K4 n4 d4] 24)).alloc (.cells #[.int .i64 0, .slice none 0 0, .int .i64 0] 34)) := ⟨_, rfl⟩
 rw [← hV0]
 have hb_ : Below w.heap.size w V0 := by rw [hV0]; exact (below_alloc (below_alloc (Below.refl _ _) (.cells #[.int .i64 kd, .int .i64 a, .slice K2 n2 d2, .slice K3 n3 d3, .slice K4 n4 d4] 24)) (.cells #[.int .i64 0, .slice none 0 0, .int .i64 0] 34))
 have K0 : Aside0 (V0.heap[w.heap.size]? = some (.cells #[.int .i64 kd, .int .i64 a, .slice K2 n2 d2, .slice K3 n3 d3, .slice K4 n4 d4] 24 (0, 0))) := Aside0.mk (by have h_ := blk_alloc (heap_alloc_self w (.cells #[.int .i64 kd, .int .i64 a, .slice K2 n2 d2, .slice K3 n3 d3, .slice K4 n4 d4] 24)) (.cells #[.int .i64 0, .slice none 0 0, .int .i64 0] 34); rw [hV0]; simpa using h_)
 have K1 : Aside0 (V0.heap[w.heap.size + 1]? = some (.cells #[.int .i64 0, .slice none 0 0, .int .i64 0] 34 (0, 0))) := Aside0.mk (by have h_ := heap_alloc_self (w.alloc (.cells #[.int .i64 kd, .int .i64 a, .slice K2 n2 d2, .slice K3 n3 d3, .slice K4 n4 d4] 24)) (.cells #[.int .i64 0, .slice none 0 0, .int .i64 0] 34); rw [hV0]; simpa using h_)
 have SV0 : Aside0 (V0.heap.size = w.heap.size + 2) := Aside0.mk (by rw [hV0]; simp)
 clear hV0
 replace HB := Aside0.mk (below_then HB.out HB.out.size hb_)
 clear hb_
 have hV0 := SV0.out
 obtain ⟨y0, y1, y2, y3, y4, y5⟩ := cells5 K0.out
 have y50 := y5 0
 have y51 := y5 1
 have y52 := y5 2
 have y53 := y5 3
 have y54 := y5 4
 clear y5
 go_wp2_with fail
 clear y0 y1 y2 y3 y4 y50 y51 y52 y53 y54
 refine (objs_who.calls a false V0 HW).mono ?_
 rintro e w1 ⟨rfl, hd⟩
 have hb_ := hd.below
 clear hd
 have S1 := hb_.size
 replace HB := Aside0.mk (below_then HB.out HB.out.size hb_)
 replace K0 := Aside0.mk (blk_keep K0.out hb_)
 replace K1 := Aside0.mk (blk_keep K1.out hb_)
 clear hb_
 obtain ⟨y0, y1, y2, y3, y4, y5⟩ := cells5 K0.out
 have y50 := y5 0
 have y51 := y5 1
 have y52 := y5 2
 have y53 := y5 3
 have y54 := y5 4
 clear y5
 obtain ⟨x0, x1, x2, x3⟩ := cells3 K1.out
 have x30 := x3 0
 have x31 := x3 1
 have x32 := x3 2
 clear x3
 go_wp2_with fail
 clear y0 y1 y2 y3 y4 y50 y51 y52 y53 y54
 clear x0 x1 x2 x30 x31 x32
 obtain ⟨V3, hV3⟩ : ∃ V_, V_ = (((w1.setCell ⟨w.heap.size + 1, 0, none⟩ (.int .i64 7)).setCell ⟨w.heap.size + 1, 1, none⟩ (.slice none 0 0)).setCell ⟨w.heap.size + 1, 2, none⟩ (.int .i64 0)) := ⟨_, rfl⟩
 rw [← hV3]
 have hge_ : w.heap.size ≤ w.heap.size + 1 := by omega
 have hst_ : St w.heap.size w (w.heap.size + 1) 34 #[.int .i64 7, .slice none 0 0, .int .i64 0] w1 V3 := by rw [hV3]; exact (St.next (St.next (St.first HB.out hge_ K1.out 0 _ rfl) hge_ 1 _ rfl) hge_ 2 _ rfl)
 replace HB := Aside0.mk hst_.1
 replace K1 := Aside0.mk hst_.2.1
 replace K0 := Aside0.mk ((hst_.2.2.1 (w.heap.size) (by omega)).trans K0.out)
 have SV3 := Aside0.mk hst_.2.2.2
 clear hV3 hst_ hge_
 refine bodyPost_ret (results_tc rfl _ _ (w.heap.size + 1) 34 #[.int .i64 7, .slice none 0 0, .int .i64 0] (0, 0) _ rfl K1.out Try.underlying34 rfl (by kernel_rfl)) rfl ?_
 exact ⟨A0, c0, none, 0, rfl, HC0.out, Kd.F_mono (Kd.F_below HF.out HB.out) (fun k hk => .inl hk), Nat.le_refl _, Kd.F_nil _ _ _, HB.out⟩
set_option maxHeartbeats 1000000 in
theorem locks_take (A0 : Option Addr) (c0 : Nat) (l0 : List Int) (kd a : Int) (K2 K3 K4 : Option Addr) (n2 d2 n3 d3 n4 d4 : Nat) (w : World) (ok : Nat → Prop) (hf : Kd.F ki w ok A0 l0.length l0) (hc0 : l0.length ≤ c0) (hb0 : l0.length < 1000000) (h8 : ¬ kd = 8) (hw : 0 ≤ a ∧ a ≤ 999) (h6 : kd = 6) :
  Calls Try.prog 34 #[.slice A0 l0.length c0, .agg #[.int .i64 kd, .int .i64 a, .slice K2 n2 d2, .slice K3 n3 d3, .slice K4 n4 d4]] w (T2g ki ok w (takeR l0 a).1 (takeR l0 a).2) := by
 have q8 : (kd == 8) = false := beq_eq_false_iff_ne.2 (by omega)
 have q6 : (kd == 6) = true := beq_iff_eq.2 (by omega)
 have HF := Aside0.mk hf
 have HC0 := Aside0.mk hc0
 have HN := Aside0.mk hb0
 clear hf hc0 hb0
 have HW : objs_who.f a = some true := by unfold objs_who.f; rw [if_pos (by omega)]; simp; omega
 clear h8 hw h6
 have HB := Aside0.mk (Below.refl w.heap.size w)
 go_enter Try.func34, Try.ntmps34
 go_wp2_with fail
 obtain ⟨V0, hV0⟩ : ∃ V_, V_ = ((w.alloc (.cells #[.int .i64 kd, .int .i64 a, .slice K2 n2 d2, .slice K3 n3 d3, .slice K4 n4 d4] 24)).alloc (.cells #[.int .i64 0, .slice none 0 0, .int .i64 0] 34)) := ⟨_, rfl⟩
 rw [← hV0]
 have hb_ : Below w.heap.size w V0 := by rw [hV0]; exact (below_alloc (below_alloc (Below.refl _ _) (.cells #[.int .i64 kd, .int .i64 a, .slice K2 n2 d2, .slice K3 n3 d3, .slice K4 n4 d4] 24)) (.cells #[.int .i64 0, .slice none 0 0, .int .i64 0] 34))
 have K0 : Aside0 (V0.heap[w.heap.size]? = some (.cells #[.int .i64 kd, .int .i64 a, .slice K2 n2 d2, .slice K3 n3 d3, .slice K4 n4 d4] 24 (0, 0))) := Aside0.mk (by have h_ := blk_alloc (heap_alloc_self w (.cells #[.int .i64 kd, .int .i64 a, .slice K2 n2 d2, .slice K3 n3 d3, .slice K4 n4 d4] 24)) (.cells #[.int .i64 0, .slice none 0 0, .int .i64 0] 34); rw [hV0]; simpa using h_)
 have K1 : Aside0 (V0.heap[w.heap.size + 1]? = some (.cells #[.int .i64 0, .slice none 0 0, .int .i64 0] 34 (0, 0))) := Aside0.mk (by have h_ := heap_alloc_self (w.alloc (.cells #[.int .i64 kd, .int .i64 a, .slice K2 n2 d2, .slice K3 n3 d3, .slice K4 n4 d4] 24)) (.cells #[.int .i64 0, .slice none 0 0, .int .i64 0] 34); rw [hV0]; simpa using h_)
 have SV0 : Aside0 (V0.heap.size = w.heap.size + 2) := Aside0.mk (by rw [hV0]; simp)
 clear hV0
 replace HB := Aside0.mk (below_then HB.out HB.out.size hb_)
 clear hb_
 have hV0 := SV0.out
 obtain ⟨y0, y1, y2, y3, y4, y5⟩ := cells5 K0.out
 have y50 := y5 0
 have y51 := y5 1
 have y52 := y5 2
 have y53 := y5 3
 have y54 := y5 4
 clear y5
 go_wp2_with fail
 clear y0 y1 y2 y3 y4 y50 y51 y52 y53 y54
 refine (objs_who.calls a true V0 HW).mono ?_
 rintro e w1 ⟨rfl, hd⟩
 have hb_ := hd.below
 clear hd
 have S1 := hb_.size
 replace HB := Aside0.mk (below_then HB.out HB.out.size hb_)
 replace K0 := Aside0.mk (blk_keep K0.out hb_)
 replace K1 := Aside0.mk (blk_keep K1.out hb_)
 clear hb_
 obtain ⟨y0, y1, y2, y3, y4, y5⟩ := cells5 K0.out
 have y50 := y5 0
 have y51 := y5 1
 have y52 := y5 2
 have y53 := y5 3
 have y54 := y5 4
 clear y5
 go_wp2_with fail
 clear y0 y1 y2 y3 y4 y50 y51 y52 y53 y54
 refine (take78 A0 c0 l0 a w1 (Kd.C_below (Kd.F_now HF.out) HB.out) HC0.out HN.out).mono ?_
 rintro e w2 ⟨A, c, Av, cv, rfl, hc, hF, hcv, hFv, hb_⟩
 have LA := Aside0.mk hc
 have LV := Aside0.mk hcv
 have FA := Aside0.mk (Kd.F_mono hF (ok' := fun k => w.heap.size + 2 ≤ k) (fun k hk => by have h2 : w1.heap.size ≤ k := hk; show w.heap.size + 2 ≤ k; omega))
 have FV := Aside0.mk (Kd.F_mono hFv (ok' := fun k => w.heap.size + 2 ≤ k) (fun k hk => by have h2 : w1.heap.size ≤ k := hk; show w.heap.size + 2 ≤ k; omega))
 clear hFv hcv hF hc
 replace HB := Aside0.mk (below_then HB.out HB.out.size hb_)
 replace K0 := Aside0.mk (blk_keep K0.out hb_)
 replace K1 := Aside0.mk (blk_keep K1.out hb_)
 clear hb_
 obtain ⟨x0, x1, x2, x3⟩ := cells3 K1.out
 have x30 := x3 0
 have x31 := x3 1
 have x32 := x3 2
 clear x3
 go_wp2_with fail
 clear x0 x1 x2 x30 x31 x32
 obtain ⟨V3, hV3⟩ : ∃ V_, V_ = (((w2.setCell ⟨w.heap.size + 1, 0, none⟩ (.int .i64 (takeR l0 a).2.f0)).setCell ⟨w.heap.size + 1, 1, none⟩ (.slice Av (takeR l0 a).2.f1.length cv)).setCell ⟨w.heap.size + 1, 2, none⟩ (.int .i64 (takeR l0 a).2.f2)) := ⟨_, rfl⟩
 rw [← hV3]
 have hge_ : w.heap.size ≤ w.heap.size + 1 := by omega
 have hst_ : St w.heap.size w (w.heap.size + 1) 34 #[.int .i64 (takeR l0 a).2.f0, .slice Av (takeR l0 a).2.f1.length cv, .int .i64 (takeR l0 a).2.f2] w2 V3 := by rw [hV3]; exact (St.next (St.next (St.first HB.out hge_ K1.out 0 _ rfl) hge_ 1 _ rfl) hge_ 2 _ rfl)
 replace HB := Aside0.mk hst_.1
 replace K1 := Aside0.mk hst_.2.1
 replace K0 := Aside0.mk ((hst_.2.2.1 (w.heap.size) (by omega)).trans K0.out)
 replace FA := Aside0.mk (Kd.F_step FA.out (fun k_ hk_ _ => hst_.2.2.1 k_ (by have hk2_ : w.heap.size + 2 ≤ k_ := hk_; omega)))
 replace FV := Aside0.mk (Kd.F_step FV.out (fun k_ hk_ _ => hst_.2.2.1 k_ (by have hk2_ : w.heap.size + 2 ≤ k_ := hk_; omega)))
 have SV3 := Aside0.mk hst_.2.2.2
 clear hV3 hst_ hge_
 refine bodyPost_ret (results_tc rfl _ _ (w.heap.size + 1) 34 #[.int .i64 (takeR l0 a).2.f0, .slice Av (takeR l0 a).2.f1.length cv, .int .i64 (takeR l0 a).2.f2] (0, 0) _ rfl K1.out Try.underlying34 rfl (by kernel_rfl)) rfl ?_
 exact ⟨A, c, Av, cv, rfl, LA.out, Kd.F_mono FA.out (fun k hk => by have h2 : w.heap.size + 2 ≤ k := hk; exact .inr (show w.heap.size ≤ k by omega)), LV.out, Kd.F_mono FV.out (fun k hk => by have h2 : w.heap.size + 2 ≤ k := hk; show w.heap.size ≤ k; omega), HB.out⟩
set_option maxHeartbeats 1000000 in
theorem locks_free (A0 : Option Addr) (c0 : Nat) (l0 : List Int) (kd a : Int) (K2 K3 K4 : Option Addr) (n2 d2 n3 d3 n4 d4 : Nat) (w : World) (ok : Nat → Prop) (hf : Kd.F ki w ok A0 l0.length l0) (hc0 : l0.length ≤ c0) (hb0 : l0.length < 1000000) (h8 : ¬ kd = 8) (hw : 0 ≤ a ∧ a ≤ 999) (h6 : ¬ kd = 6) :
  Calls Try.prog 34 #[.slice A0 l0.length c0, .agg #[.int .i64 kd, .int .i64 a, .slice K2 n2 d2, .slice K3 n3 d3, .slice K4 n4 d4]] w (T2g ki ok w (freeR l0 a).1 (freeR l0 a).2) := by
 have q8 : (kd == 8) = false := beq_eq_false_iff_ne.2 (by omega)
 have q6 : (kd == 6) = false := beq_eq_false_iff_ne.2 (by omega)
 have HF := Aside0.mk hf
 have HC0 := Aside0.mk hc0
 have HN := Aside0.mk hb0
 clear hf hc0 hb0
 have HW : objs_who.f a = some true := by unfold objs_who.f; rw [if_pos (by omega)]; simp; omega
 clear h8 hw h6
 have HB := Aside0.mk (Below.refl w.heap.size w)
 go_enter Try.func34, Try.ntmps34
 go_wp2_with fail
 obtain ⟨V0, hV0⟩ : ∃ V_, V_ = ((w.alloc (.cells #[.int .i64 kd, .int .i64 a, .slice K2 n2 d2, .slice K3 n3 d3, .slice K4 n4 d4] 24)).alloc (.cells #[.int .i64 0, .slice none 0 0, .int .i64 0] 34)) := ⟨_, rfl⟩
 rw [← hV0]
 have hb_ : Below w.heap.size w V0 := by rw [hV0]; exact (below_alloc (below_alloc (Below.refl _ _) (.cells #[.int .i64 kd, .int .i64 a, .slice K2 n2 d2, .slice K3 n3 d3, .slice K4 n4 d4] 24)) (.cells #[.int .i64 0, .slice none 0 0, .int .i64 0] 34))
 have K0 : Aside0 (V0.heap[w.heap.size]? = some (.cells #[.int .i64 kd, .int .i64 a, .slice K2 n2 d2, .slice K3 n3 d3, .slice K4 n4 d4] 24 (0, 0))) := Aside0.mk (by have h_ := blk_alloc (heap_alloc_self w (.cells #[.int .i64 kd, .int .i64 a, .slice K2 n2 d2, .slice K3 n3 d3, .slice K4 n4 d4] 24)) (.cells #[.int .i64 0, .slice none 0 0, .int .i64 0] 34); rw [hV0]; simpa using h_)
 have K1 : Aside0 (V0.heap[w.heap.size + 1]? = some (.cells #[.int .i64 0, .slice none 0 0, .int .i64 0] 34 (0, 0))) := Aside0.mk (by have h_ := heap_alloc_self (w.alloc (.cells #[.int .i64 kd, .int .i64 a, .slice K2 n2 d2, .slice K3 n3 d3, .slice K4 n4 d4] 24)) (.cells #[.int .i64 0, .slice none 0 0, .int .i64 0] 34); rw [hV0]; simpa using h_)
 have SV0 : Aside0 (V0.heap.size = w.heap.size + 2) := Aside0.mk (by rw [hV0]; simp)
 clear hV0
 replace HB := Aside0.mk (below_then HB.out HB.out.size hb_)
 clear hb_
 have hV0 := SV0.out
 obtain ⟨y0, y1, y2, y3, y4, y5⟩ := cells5 K0.out
 have y50 := y5 0
 have y51 := y5 1
 have y52 := y5 2
 have y53 := y5 3
 have y54 := y5 4
 clear y5
 go_wp2_with fail
 clear y0 y1 y2 y3 y4 y50 y51 y52 y53 y54
 refine (objs_who.calls a true V0 HW).mono ?_
 rintro e w1 ⟨rfl, hd⟩
 have hb_ := hd.below
 clear hd
 have S1 := hb_.size
 replace HB := Aside0.mk (below_then HB.out HB.out.size hb_)
 replace K0 := Aside0.mk (blk_keep K0.out hb_)
 replace K1 := Aside0.mk (blk_keep K1.out hb_)
 clear hb_
 obtain ⟨y0, y1, y2, y3, y4, y5⟩ := cells5 K0.out
 have y50 := y5 0
 have y51 := y5 1
 have y52 := y5 2
 have y53 := y5 3
 have y54 := y5 4
 clear y5
 go_wp2_with fail
 clear y0 y1 y2 y3 y4 y50 y51 y52 y53 y54
 refine (free79 A0 c0 l0 a w1 (Kd.C_below (Kd.F_now HF.out) HB.out) HC0.out HN.out).mono ?_
 rintro e w2 ⟨A, c, Av, cv, rfl, hc, hF, hcv, hFv, hb_⟩
 have LA := Aside0.mk hc
 have LV := Aside0.mk hcv
 have FA := Aside0.mk (Kd.F_mono hF (ok' := fun k => w.heap.size + 2 ≤ k) (fun k hk => by have h2 : w1.heap.size ≤ k := hk; show w.heap.size + 2 ≤ k; omega))
 have FV := Aside0.mk (Kd.F_mono hFv (ok' := fun k => w.heap.size + 2 ≤ k) (fun k hk => by have h2 : w1.heap.size ≤ k := hk; show w.heap.size + 2 ≤ k; omega))
 clear hFv hcv hF hc
 replace HB := Aside0.mk (below_then HB.out HB.out.size hb_)
 replace K0 := Aside0.mk (blk_keep K0.out hb_)
 replace K1 := Aside0.mk (blk_keep K1.out hb_)
 clear hb_
 obtain ⟨x0, x1, x2, x3⟩ := cells3 K1.out
 have x30 := x3 0
 have x31 := x3 1
 have x32 := x3 2
 clear x3
 go_wp2_with fail
 clear x0 x1 x2 x30 x31 x32
 obtain ⟨V3, hV3⟩ : ∃ V_, V_ = (((w2.setCell ⟨w.heap.size + 1, 0, none⟩ (.int .i64 (freeR l0 a).2.f0)).setCell ⟨w.heap.size + 1, 1, none⟩ (.slice Av (freeR l0 a).2.f1.length cv)).setCell ⟨w.heap.size + 1, 2, none⟩ (.int .i64 (freeR l0 a).2.f2)) := ⟨_, rfl⟩
 rw [← hV3]
 have hge_ : w.heap.size ≤ w.heap.size + 1 := by omega
 have hst_ : St w.heap.size w (w.heap.size + 1) 34 #[.int .i64 (freeR l0 a).2.f0, .slice Av (freeR l0 a).2.f1.length cv, .int .i64 (freeR l0 a).2.f2] w2 V3 := by rw [hV3]; exact (St.next (St.next (St.first HB.out hge_ K1.out 0 _ rfl) hge_ 1 _ rfl) hge_ 2 _ rfl)
 replace HB := Aside0.mk hst_.1
 replace K1 := Aside0.mk hst_.2.1
 replace K0 := Aside0.mk ((hst_.2.2.1 (w.heap.size) (by omega)).trans K0.out)
 replace FA := Aside0.mk (Kd.F_step FA.out (fun k_ hk_ _ => hst_.2.2.1 k_ (by have hk2_ : w.heap.size + 2 ≤ k_ := hk_; omega)))
 replace FV := Aside0.mk (Kd.F_step FV.out (fun k_ hk_ _ => hst_.2.2.1 k_ (by have hk2_ : w.heap.size + 2 ≤ k_ := hk_; omega)))
 have SV3 := Aside0.mk hst_.2.2.2
 clear hV3 hst_ hge_
 refine bodyPost_ret (results_tc rfl _ _ (w.heap.size + 1) 34 #[.int .i64 (freeR l0 a).2.f0, .slice Av (freeR l0 a).2.f1.length cv, .int .i64 (freeR l0 a).2.f2] (0, 0) _ rfl K1.out Try.underlying34 rfl (by kernel_rfl)) rfl ?_
 exact ⟨A, c, Av, cv, rfl, LA.out, Kd.F_mono FA.out (fun k hk => by have h2 : w.heap.size + 2 ≤ k := hk; exact .inr (show w.heap.size ≤ k by omega)), LV.out, Kd.F_mono FV.out (fun k hk => by have h2 : w.heap.size + 2 ≤ k := hk; show w.heap.size ≤ k; omega), HB.out⟩
theorem locks34 (A0 : Option Addr) (c0 : Nat) (l0 : List Int) (kd a : Int) (K2 K3 K4 : Option Addr) (n2 d2 n3 d3 n4 d4 : Nat) (w : World) (ok : Nat → Prop) (hf : Kd.F ki w ok A0 l0.length l0) (hc0 : l0.length ≤ c0) (hb0 : l0.length < 1000000) : Calls Try.prog 34 #[.slice A0 l0.length c0, .agg #[.int .i64 kd, .int .i64 a, .slice K2 n2 d2, .slice K3 n3 d3, .slice K4 n4 d4]] w (T2g ki ok w (locksR l0 kd a).1 (locksR l0 kd a).2) := by
 unfold locksR
 split
 ·
  exact locks_owner A0 c0 l0 kd a K2 K3 K4 n2 d2 n3 d3 n4 d4 w ok hf hc0 hb0 (by assumption)
 ·
  split
  ·
   exact locks_bad A0 c0 l0 kd a K2 K3 K4 n2 d2 n3 d3 n4 d4 w ok hf hc0 hb0 (by assumption) (by assumption)
  ·
   split
   ·
    exact locks_take A0 c0 l0 kd a K2 K3 K4 n2 d2 n3 d3 n4 d4 w ok hf hc0 hb0 (by assumption) (by omega) (by assumption)
   ·
    exact locks_free A0 c0 l0 kd a K2 K3 K4 n2 d2 n3 d3 n4 d4 w ok hf hc0 hb0 (by assumption) (by omega) (by assumption)
end Go.Proofs.Ythfplgfpodmphaa.Ob
