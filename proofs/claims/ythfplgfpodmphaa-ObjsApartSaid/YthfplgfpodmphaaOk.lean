/- fifo.Pop, walked. -/
import Derived.Test.YthfplgfpodmphaaOj
namespace Go.Proofs.Ythfplgfpodmphaa.Ob
open Go.RowKit Go.Proofs.YthfplgfpodmphaaW.PrintWords Go.Proofs.YthfplgfpodmphaaW.PrintLast Go.Proofs.YthfplgfpodmphaaW.PrintMore Go.Proofs.Ythfplgfpodmphaa.Ms
attribute [local go_sem] max2_int min2_int max_two min_two max_three min_three max_four min_four
set_option linter.unusedVariables false
set_option linter.unusedSimpArgs false
set_option maxRecDepth 100000
theorem FK_open {W : World} {ok : Nat → Prop} {v : List Int} {c : List Value} (h : Kd.FK kq W ok v c) : ∃ A c0, c = [.slice A v.length c0] ∧ v.length ≤ c0 ∧ Kd.F kb W ok A v.length v := by
 obtain ⟨A, c0, rfl, hc, _⟩ := Foot.now h
 refine ⟨A, c0, rfl, hc, fun W' hW => ?_⟩
 obtain ⟨A2, c2, he, _, hC⟩ := h W' hW
 injection he with he _
 injection he with h1 _ _
 rw [h1]
 exact hC
set_option maxHeartbeats 1000000 in
theorem pop_nil (A0 : Option Addr) (c0 : Nat) (w : World) (hr0 : Kd.C kq w A0 ([] : List (List Int)).length ([] : List (List Int))) (hc0 : ([] : List (List Int)).length ≤ c0) (hb0 : ([] : List (List Int)).length < 1000000) (hv : ∀ y ∈ ([] : List (List Int)), y.length < 1000000) :
  Calls Try.prog 33 #[.slice A0 ([] : List (List Int)).length c0] w (T2 kq w [] ⟨4, [], 0⟩) := by
 have HR0 := Aside0.mk hr0
 have HC0 := Aside0.mk hc0
 have HN := Aside0.mk hb0
 have HV := Aside0.mk hv
 clear hr0 hc0 hb0 hv
 have HB := Aside0.mk (Below.refl w.heap.size w)
 go_enter Try.func33, Try.ntmps33
 go_wp2_with fail
 obtain ⟨V0, hV0⟩ : ∃ V_, V_ = (w.alloc (.cells #[.int .i64 0, .slice none 0 0, .int .i64 0] 34)) := ⟨_, rfl⟩
 rw [← hV0]
 have hb_ : Below w.heap.size w V0 := by rw [hV0]; exact (below_alloc (Below.refl _ _) (.cells #[.int .i64 0, .slice none 0 0, .int .i64 0] 34))
 have K0 : Aside0 (V0.heap[w.heap.size]? = some (.cells #[.int .i64 0, .slice none 0 0, .int .i64 0] 34 (0, 0))) := Aside0.mk (by have h_ := heap_alloc_self w (.cells #[.int .i64 0, .slice none 0 0, .int .i64 0] 34); rw [hV0]; simpa using h_)
 have SV0 : Aside0 (V0.heap.size = w.heap.size + 1) := Aside0.mk (by rw [hV0]; simp)
 clear hV0
 replace HB := Aside0.mk (below_then HB.out HB.out.size hb_)
 clear hb_
 refine (still74 A0 c0 ([] : List (List Int)) V0 (Kd.C_below HR0.out HB.out) HC0.out HN.out HV.out).mono ?_
 rintro e w1 ⟨P0, rfl, hF, hA, hb_⟩
 have S1 := Aside0.mk hb_.size
 obtain ⟨b1, hb1⟩ : ∃ b_, b_ = V0.heap.size := ⟨_, rfl⟩
 rw [← hb1] at hF
 have F0 := Aside0.mk hF
 have Zb1 := Aside0.mk (show w.heap.size + 1 ≤ b1 by have := SV0.out; omega)
 clear hb1 hF hA
 replace HB := Aside0.mk (below_then HB.out HB.out.size hb_)
 replace K0 := Aside0.mk (blk_keep K0.out hb_)
 clear hb_
 obtain ⟨x0, x1, x2, x3⟩ := cells3 K0.out
 have x30 := x3 0
 have x31 := x3 1
 have x32 := x3 2
 clear x3
 go_wp2_with fail
 clear x0 x1 x2 x30 x31 x32
 obtain ⟨V2, hV2⟩ : ∃ V_, V_ = (((w1.setCell ⟨w.heap.size, 0, none⟩ (.int .i64 4)).setCell ⟨w.heap.size, 1, none⟩ (.slice none 0 0)).setCell ⟨w.heap.size, 2, none⟩ (.int .i64 0)) := ⟨_, rfl⟩
 rw [← hV2]
 have hge_ : w.heap.size ≤ w.heap.size := by have z_ := Zb1.out; omega
 have hst_ : St w.heap.size w (w.heap.size) 34 #[.int .i64 4, .slice none 0 0, .int .i64 0] w1 V2 := by rw [hV2]; exact (St.next (St.next (St.first HB.out hge_ K0.out 0 _ rfl) hge_ 1 _ rfl) hge_ 2 _ rfl)
 replace HB := Aside0.mk hst_.1
 replace K0 := Aside0.mk hst_.2.1
 replace F0 := Aside0.mk (Kd.F_step F0.out (fun k_ hk_ _ => hst_.2.2.1 k_ (by have hk2_ : b1 ≤ k_ := hk_; have z_ := Zb1.out; omega)))
 have SV2 := Aside0.mk hst_.2.2.2
 clear hV2 hst_ hge_
 refine bodyPost_ret (results_tc rfl _ _ w.heap.size 34 #[.int .i64 4, .slice none 0 0, .int .i64 0] (0, 0) _ rfl K0.out Try.underlying34 rfl (by kernel_rfl)) rfl ?_
 exact ⟨P0, _, none, 0, rfl, Nat.le_refl _, Kd.F_mono F0.out (fun k hk => by have h2 : b1 ≤ k := hk; have := Zb1.out; show w.heap.size ≤ k; omega), Nat.le_refl _, Kd.F_nil _ _ _, HB.out⟩
set_option maxHeartbeats 1000000 in
theorem pop_cons (A0 : Option Addr) (c0 : Nat) (x : List Int) (r : List (List Int)) (w : World) (hr0 : Kd.C kq w A0 (x :: r).length (x :: r)) (hc0 : (x :: r).length ≤ c0) (hb0 : (x :: r).length < 1000000) (hv : ∀ y ∈ (x :: r), y.length < 1000000) :
  Calls Try.prog 33 #[.slice A0 (x :: r).length c0] w (T2 kq w r ⟨0, x, 0⟩) := by
 have HR0 := Aside0.mk hr0
 have HC0 := Aside0.mk hc0
 have HN := Aside0.mk hb0
 have HV := Aside0.mk hv
 clear hr0 hc0 hb0 hv
 have HB := Aside0.mk (Below.refl w.heap.size w)
 go_enter Try.func33, Try.ntmps33
 go_wp2_with fail
 obtain ⟨V0, hV0⟩ : ∃ V_, V_ = (w.alloc (.cells #[.int .i64 0, .slice none 0 0, .int .i64 0] 34)) := ⟨_, rfl⟩
 rw [← hV0]
 have hb_ : Below w.heap.size w V0 := by rw [hV0]; exact (below_alloc (Below.refl _ _) (.cells #[.int .i64 0, .slice none 0 0, .int .i64 0] 34))
 have K0 : Aside0 (V0.heap[w.heap.size]? = some (.cells #[.int .i64 0, .slice none 0 0, .int .i64 0] 34 (0, 0))) := Aside0.mk (by have h_ := heap_alloc_self w (.cells #[.int .i64 0, .slice none 0 0, .int .i64 0] 34); rw [hV0]; simpa using h_)
 have SV0 : Aside0 (V0.heap.size = w.heap.size + 1) := Aside0.mk (by rw [hV0]; simp)
 clear hV0
 replace HB := Aside0.mk (below_then HB.out HB.out.size hb_)
 clear hb_
 refine (still74 A0 c0 (x :: r) V0 (Kd.C_below HR0.out HB.out) HC0.out HN.out HV.out).mono ?_
 rintro e w1 ⟨P0, rfl, hF, hA, hb_⟩
 have S1 := Aside0.mk hb_.size
 obtain ⟨b1, hb1⟩ : ∃ b_, b_ = V0.heap.size := ⟨_, rfl⟩
 rw [← hb1] at hF
 have F0 := Aside0.mk hF
 have Zb1 := Aside0.mk (show w.heap.size + 1 ≤ b1 by have := SV0.out; omega)
 clear hb1 hF hA
 replace HB := Aside0.mk (below_then HB.out HB.out.size hb_)
 replace K0 := Aside0.mk (blk_keep K0.out hb_)
 clear hb_
 obtain ⟨x0, x1, x2, x3⟩ := cells3 K0.out
 have x30 := x3 0
 have x31 := x3 1
 have x32 := x3 2
 clear x3
 obtain ⟨ad, cx, rfl, hl9, hK, hcx0, hb9⟩ := Kd.F_get F0.out ([] : List Int) 0 (by decide) (by simp)
 obtain ⟨Av, cv, rfl, hcv, hFv⟩ := FK_open hK
 rw [show (x :: r).getD (0 : Int).toNat [] = x from rfl] at *
 have hx0 := hcx0 0 _ rfl
 simp only [Int.toNat_zero, Nat.zero_mul, Nat.add_zero, Addr.add_zero'] at hx0
 have FV := Aside0.mk hFv
 have LV := Aside0.mk hcv
 clear hK hcx0 hcv hFv hl9 hb9
 have hcut := Kd.F_cut F0.out (m := 1) (c := (x :: r).length) (by simp) (Nat.le_refl _)
 have FC := Aside0.mk hcut
 clear hcut
 have dn0 : ((x :: r).length : Int) = (r.length : Int) + 1 := by simp
 have dn : ¬ ((x :: r).length : Int) = 0 := by rw [dn0]; omega
 have e1 : (1 : Int) ≤ (r.length : Int) + 1 := by omega
 have e2 : (0 : Int) < (r.length : Int) + 1 := by omega
 go_wp2_with fail
 go_region
 clear x0 x1 x2 x30 x31 x32
 obtain ⟨V2, hV2⟩ : ∃ V_, V_ = (((w1.setCell ⟨w.heap.size, 0, none⟩ (.int .i64 0)).setCell ⟨w.heap.size, 1, none⟩ (.slice Av x.length cv)).setCell ⟨w.heap.size, 2, none⟩ (.int .i64 0)) := ⟨_, rfl⟩
 rw [← hV2]
 have hge_ : w.heap.size ≤ w.heap.size := by have z_ := Zb1.out; omega
 have hst_ : St w.heap.size w (w.heap.size) 34 #[.int .i64 0, .slice Av x.length cv, .int .i64 0] w1 V2 := by rw [hV2]; exact (St.next (St.next (St.first HB.out hge_ K0.out 0 _ rfl) hge_ 1 _ rfl) hge_ 2 _ rfl)
 replace HB := Aside0.mk hst_.1
 replace K0 := Aside0.mk hst_.2.1
 replace F0 := Aside0.mk (Kd.F_step F0.out (fun k_ hk_ _ => hst_.2.2.1 k_ (by have hk2_ : b1 ≤ k_ := hk_; have z_ := Zb1.out; omega)))
 replace FV := Aside0.mk (Kd.F_step FV.out (fun k_ hk_ _ => hst_.2.2.1 k_ (by have hk2_ : b1 ≤ k_ := hk_; have z_ := Zb1.out; omega)))
 replace FC := Aside0.mk (Kd.F_step FC.out (fun k_ hk_ _ => hst_.2.2.1 k_ (by have hk2_ : b1 ≤ k_ := hk_; have z_ := Zb1.out; omega)))
 have SV2 := Aside0.mk hst_.2.2.2
 clear hV2 hst_ hge_
 have bd_ := below_drew1 (Below.refl V2.heap.size V2)
 replace HB := Aside0.mk (below_then HB.out HB.out.size bd_)
 replace K0 := Aside0.mk (blk_keep K0.out bd_)
 replace F0 := Aside0.mk (Kd.F_below F0.out bd_)
 replace FV := Aside0.mk (Kd.F_below FV.out bd_)
 replace FC := Aside0.mk (Kd.F_below FC.out bd_)
 clear bd_
 have HF := Aside0.mk (Kd.F_mono FC.out (ok' := fun k => w.heap.size ≤ k) (fun k hk => by have h2 : b1 ≤ k := hk; have := Zb1.out; show w.heap.size ≤ k; omega))
 have HFV := Aside0.mk (Kd.F_mono FV.out (ok' := fun k => w.heap.size ≤ k) (fun k hk => by have h2 : b1 ≤ k := hk; have := Zb1.out; show w.heap.size ≤ k; omega))
 clear FC FV F0 hx0 HR0 HC0 HV HN dn dn0 e1 e2
 go_wp2
 ·
  refine bodyPost_ret (results_tc rfl _ _ w.heap.size 34 #[.int .i64 0, .slice Av x.length cv, .int .i64 0] (0, 0) _ rfl K0.out Try.underlying34 rfl (by kernel_rfl)) rfl ?_
  refine ⟨_, _, Av, cv, rfl, Nat.le_refl _, ?_, LV.out, HFV.out, HB.out⟩
  have hr : r = [] := by assumption
  have hF := HF.out
  simp only [hr] at hF
  exact hF
 ·
  refine bodyPost_ret (results_tc rfl _ _ w.heap.size 34 #[.int .i64 0, .slice Av x.length cv, .int .i64 0] (0, 0) _ rfl K0.out Try.underlying34 rfl (by kernel_rfl)) rfl ?_
  refine ⟨_, _, Av, cv, rfl, Nat.le_refl _, ?_, LV.out, HFV.out, HB.out⟩
  have hF := HF.out
  have hne : ¬ r = [] := by assumption
  rw [if_neg (fun h => hne (List.eq_nil_of_length_eq_zero (by simpa using h)))] at hF
  exact hF
theorem pop33 (A0 : Option Addr) (c0 : Nat) (l0 : List (List Int)) (w : World) (hr0 : Kd.C kq w A0 l0.length l0) (hc0 : l0.length ≤ c0) (hb0 : l0.length < 1000000) (hv : ∀ x ∈ l0, x.length < 1000000) :
  Calls Try.prog 33 #[.slice A0 l0.length c0] w (T2 kq w (popR l0).1 (popR l0).2) := by
 cases l0 with
 | nil => exact pop_nil A0 c0 w hr0 hc0 hb0 hv
 | cons x r => exact pop_cons A0 c0 x r w hr0 hc0 hb0 hv
end Go.Proofs.Ythfplgfpodmphaa.Ob
