/- Texts of this claim, merged by a program: Ot0 Ot1 Ot2 Ot Oo2 Oaw Mky -/
import Derived.Lib.SlBytesConst
import Derived.Laws.IdiomStrings
import Derived.Test.YthfplgfpodmphaaPe
namespace Go.Proofs.Ythfplgfpodmphaa.Ob
open Go.RowKit Go.Proofs.YthfplgfpodmphaaW.PrintWords Go.Proofs.YthfplgfpodmphaaW.PrintLast Go.Proofs.YthfplgfpodmphaaW.PrintMore Go.Proofs.Ythfplgfpodmphaa.Ms
attribute [local go_sem] max2_int min2_int max_two min_two max_three min_three max_four min_four
set_option linter.unusedVariables false
set_option linter.unusedSimpArgs false
set_option maxRecDepth 100000
set_option maxHeartbeats 4000000 in
theorem apply_0 (A0 : Option Addr) (c0 : Nat) (A1 : Option Addr) (c1 : Nat) (A2 : Option Addr) (c2 : Nat) (A3 : Option Addr) (c3 : Nat) (o : O) (kd a : Int) (E2 : Option Addr) (e2 : Nat) (E3 : Option Addr) (e3 : Nat) (E4 : Option Addr) (e4 : Nat) (ke va ol : List Int) (w : World) (hc : OC w o A0 c0 A1 c1 A2 c2 A3 c3) (hb : OB o) (hx : XC w ke va ol E2 e2 E3 e3 E4 e4) (hkd : ¬ (1 ≤ kd ∧ kd ≤ 11)) :
  Calls Try.prog 10 #[.agg #[.slice A0 o.reg.length c0, .slice A1 o.que.length c1, .slice A2 o.loc.length c2, .slice A3 o.map.length c3], .agg #[.int .i64 kd, .int .i64 a, .slice E2 ke.length e2, .slice E3 va.length e3, .slice E4 ol.length e4]] w (TA w (o) ⟨7, [], 0⟩) := by
 have q1 : (kd == 1) = false := beq_eq_false_iff_ne.2 (by omega)
 have q2 : (kd == 2) = false := beq_eq_false_iff_ne.2 (by omega)
 have q3 : (kd == 3) = false := beq_eq_false_iff_ne.2 (by omega)
 have q4 : (kd == 4) = false := beq_eq_false_iff_ne.2 (by omega)
 have q5 : (kd == 5) = false := beq_eq_false_iff_ne.2 (by omega)
 have q6 : (kd == 6) = false := beq_eq_false_iff_ne.2 (by omega)
 have q7 : (kd == 7) = false := beq_eq_false_iff_ne.2 (by omega)
 have q8 : (kd == 8) = false := beq_eq_false_iff_ne.2 (by omega)
 have q9 : (kd == 9) = false := beq_eq_false_iff_ne.2 (by omega)
 have q10 : (kd == 10) = false := beq_eq_false_iff_ne.2 (by omega)
 have q11 : (kd == 11) = false := beq_eq_false_iff_ne.2 (by omega)
 clear hkd
 have HC := Aside0.mk hc
 have HO := Aside0.mk hb
 have HX := Aside0.mk hx
 clear hc hb hx
 have HB := Aside0.mk (Below.refl w.heap.size w)
 go_enter Try.func10, Try.ntmps10
 go_wp2_with fail
 generalize hV0 : World.alloc _ _ = V0
 obtain ⟨K0, K1, K2, K3, hb_, SV0⟩ := al4 hV0
 clear hV0
 replace HB := HBs HB hb_
 clear hb_
 refine (objs28 A0 c0 A1 c1 A2 c2 A3 c3 o V0 (HC.out.below HB.out) HO.out).mono ?_
 rintro e w1 ⟨B0, d0, B1, d1, B2, d2, B3, d3, rfl, hF, hb_⟩
 obtain ⟨b1, hb1⟩ : ∃ b_, b_ = V0.heap.size := ⟨_, rfl⟩
 obtain ⟨m1, hm1⟩ : ∃ b_, b_ = w1.heap.size := ⟨_, rfl⟩
 have L0 := Aside0.mk hF.h0
 have F0 := Aside0.mk (Kd.F_mono (Kd.F_bound hF.r0) (ok' := fun k => b1 ≤ k ∧ k < m1) (mq hb1 hm1))
 have L1 := Aside0.mk hF.h1
 have F1 := Aside0.mk (Kd.F_mono (Kd.F_bound hF.r1) (ok' := fun k => b1 ≤ k ∧ k < m1) (mq hb1 hm1))
 have L2 := Aside0.mk hF.h2
 have F2 := Aside0.mk (Kd.F_mono (Kd.F_bound hF.r2) (ok' := fun k => b1 ≤ k ∧ k < m1) (mq hb1 hm1))
 have L3 := Aside0.mk hF.h3
 have F3 := Aside0.mk (Kd.F_mono (Kd.F_bound hF.r3) (ok' := fun k => b1 ≤ k ∧ k < m1) (mq hb1 hm1))
 have Z1 := Aside0.mk (show w.heap.size + 4 ≤ b1 ∧ b1 ≤ m1 from ⟨by rw [hb1, SV0.out]; exact Nat.le_refl _, by rw [hb1, hm1]; exact hb_.size⟩)
 clear hF hb1
 replace HB := HBs HB hb_
 replace K0 := KB K0 hb_
 replace K1 := KB K1 hb_
 replace K2 := KB K2 hb_
 replace K3 := KB K3 hb_
 clear hb_
 obtain ⟨x0, x1, x2, x3, x40, x41, x42, x43⟩ := cel4 K0.out
 go_wp2_with (
  (with_reducible refine gate_dst (N := 6) rfl ?_)
  clear x0 x1 x2 x3 x40 x41 x42 x43
  generalize hV2 : World.setCell (World.setCell (World.setCell (World.setCell w1 _ _) _ _) _ _) _ _ = V2
  have hge_ : w.heap.size ≤ w.heap.size := by have z_ := Z1.out; omega
  have hst_ := st4 HB.out hge_ K0.out hV2
  replace HB := Aside0.mk hst_.1
  replace K0 := Aside0.mk hst_.2.1
  have z_ := Z1.out
  replace K1 := KS K1 hst_ (by omega)
  replace K2 := KS K2 hst_ (by omega)
  replace K3 := KS K3 hst_ (by omega)
  have e0_ : ∀ k_, (b1 ≤ k_ ∧ k_ < m1) → k_ ≠ w.heap.size := fun k_ h_ => by omega
  replace F0 := FS F0 hst_ e0_
  replace F1 := FS F1 hst_ e0_
  replace F2 := FS F2 hst_ e0_
  replace F3 := FS F3 hst_ e0_
  clear e0_
  have SV2 := Aside0.mk hst_.2.2.2
  clear hV2 hst_ hge_ z_
  refine box_event ?hg (N := 6) ?hd (cs := #[.int .i64 0, .slice none 0 0, .int .i64 0]) (t := 34) ?hr ?_
  (case hd => rfl)
  (case hg => rfl)
  (case hr => go_simp <;> rfl)
  intro g6 hg V3 hbox hb_
  have K6 := Aside0.mk hbox
  have hlt_ := (Array.getElem?_eq_some_iff.1 hbox).1
  have ZZ := Aside0.mk (show w.heap.size + 4 ≤ b1 ∧ b1 ≤ m1 ∧ m1 ≤ g6 ∧ g6 < V3.heap.size from ⟨Z1.out.1, Z1.out.2, by rw [hg, SV2.out, hm1]; exact Nat.le_refl _, hlt_⟩)
  clear hg hm1 Z1 SV2 SV0 hbox hlt_
  replace HB := HBs HB hb_
  replace K0 := KB K0 hb_
  replace K1 := KB K1 hb_
  replace K2 := KB K2 hb_
  replace K3 := KB K3 hb_
  replace F0 := FB F0 hb_
  replace F1 := FB F1 hb_
  replace F2 := FB F2 hb_
  replace F3 := FB F3 hb_
  clear hb_
  obtain ⟨x0, x1, x2, x3, x40, x41, x42, x43⟩ := cel4 K0.out
  obtain ⟨y0, y1, y2, y3, y4, y50, y51, y52, y53, y54⟩ := cel5 K1.out
  obtain ⟨v0, v1, v2, v30, v31, v32⟩ := cel3 K6.out)
 clear x0 x1 x2 x3 x40 x41 x42 x43
 clear y0 y1 y2 y3 y4 y50 y51 y52 y53 y54
 clear v0 v1 v2 v30 v31 v32
 generalize hV6 : World.setCell (World.setCell (World.setCell V3 _ _) _ _) _ _ = V6
 have hge_ : w.heap.size ≤ g6 := by have z_ := ZZ.out; omega
 have hst_ := st3 HB.out hge_ K6.out hV6
 replace HB := Aside0.mk hst_.1
 replace K6 := Aside0.mk hst_.2.1
 have z_ := ZZ.out
 replace K0 := KS K0 hst_ (by omega)
 replace K1 := KS K1 hst_ (by omega)
 replace K2 := KS K2 hst_ (by omega)
 replace K3 := KS K3 hst_ (by omega)
 have e0_ : ∀ k_, (b1 ≤ k_ ∧ k_ < m1) → k_ ≠ g6 := fun k_ h_ => by omega
 replace F0 := FS F0 hst_ e0_
 replace F1 := FS F1 hst_ e0_
 replace F2 := FS F2 hst_ e0_
 replace F3 := FS F3 hst_ e0_
 clear e0_
 have SV6 := Aside0.mk hst_.2.2.2
 clear hV6 hst_ hge_ z_
 obtain ⟨x0, x1, x2, x3, x40, x41, x42, x43⟩ := cel4 K0.out
 obtain ⟨v0, v1, v2, v30, v31, v32⟩ := cel3 K6.out
 obtain ⟨s0, s1, s2, s3, s40, s41, s42, s43⟩ := cel4 K2.out
 obtain ⟨t0, t1, t2, t30, t31, t32⟩ := cel3 K3.out
 have n0 : ¬ g6 = w.heap.size + 1 + 1 := by have z_ := ZZ.out; omega
 have n0' : ¬ w.heap.size + 1 + 1 = g6 := by have z_ := ZZ.out; omega
 have n1 : ¬ g6 = w.heap.size + 1 + 1 + 1 := by have z_ := ZZ.out; omega
 have n1' : ¬ w.heap.size + 1 + 1 + 1 = g6 := by have z_ := ZZ.out; omega
 go_wp2_with fail
 go_region
 clear n0 n0' n1 n1'
 clear x0 x1 x2 x3 x40 x41 x42 x43
 clear v0 v1 v2 v30 v31 v32
 clear s0 s1 s2 s3 s40 s41 s42 s43
 clear t0 t1 t2 t30 t31 t32
 generalize hV7 : World.setCell (World.setCell (World.setCell (World.setCell V6 _ _) _ _) _ _) _ _ = V7
 have hge_ : w.heap.size ≤ w.heap.size + 1 + 1 := by have z_ := ZZ.out; omega
 have hst_ := st4 HB.out hge_ K2.out hV7
 replace HB := Aside0.mk hst_.1
 replace K2 := Aside0.mk hst_.2.1
 have z_ := ZZ.out
 replace K0 := KS K0 hst_ (by omega)
 replace K1 := KS K1 hst_ (by omega)
 replace K3 := KS K3 hst_ (by omega)
 replace K6 := KS K6 hst_ (by omega)
 have e0_ : ∀ k_, (b1 ≤ k_ ∧ k_ < m1) → k_ ≠ w.heap.size + 1 + 1 := fun k_ h_ => by omega
 replace F0 := FS F0 hst_ e0_
 replace F1 := FS F1 hst_ e0_
 replace F2 := FS F2 hst_ e0_
 replace F3 := FS F3 hst_ e0_
 clear e0_
 have SV7 := Aside0.mk hst_.2.2.2
 clear hV7 hst_ hge_ z_
 generalize hV8 : World.setCell (World.setCell (World.setCell V7 _ _) _ _) _ _ = V8
 have hge_ : w.heap.size ≤ w.heap.size + 1 + 1 + 1 := by have z_ := ZZ.out; omega
 have hst_ := st3 HB.out hge_ K3.out hV8
 replace HB := Aside0.mk hst_.1
 replace K3 := Aside0.mk hst_.2.1
 have z_ := ZZ.out
 replace K0 := KS K0 hst_ (by omega)
 replace K1 := KS K1 hst_ (by omega)
 replace K2 := KS K2 hst_ (by omega)
 replace K6 := KS K6 hst_ (by omega)
 have e0_ : ∀ k_, (b1 ≤ k_ ∧ k_ < m1) → k_ ≠ w.heap.size + 1 + 1 + 1 := fun k_ h_ => by omega
 replace F0 := FS F0 hst_ e0_
 replace F1 := FS F1 hst_ e0_
 replace F2 := FS F2 hst_ e0_
 replace F3 := FS F3 hst_ e0_
 clear e0_
 have SV8 := Aside0.mk hst_.2.2.2
 clear hV8 hst_ hge_ z_
 have bd_ := below_drew1 (Below.refl V8.heap.size V8)
 replace HB := HBs HB bd_
 replace K0 := KB K0 bd_
 replace K1 := KB K1 bd_
 replace K2 := KB K2 bd_
 replace K3 := KB K3 bd_
 replace K6 := KB K6 bd_
 replace F0 := FB F0 bd_
 replace F1 := FB F1 bd_
 replace F2 := FB F2 bd_
 replace F3 := FB F3 bd_
 clear bd_
 go_wp2
 refine bodyPost_ret (results_cc rfl _ _ (w.heap.size + 1 + 1) (w.heap.size + 1 + 1 + 1) 32 34 #[.slice B0 o.reg.length d0, .slice B1 o.que.length d1, .slice B2 o.loc.length d2, .slice B3 o.map.length d3] #[.int .i64 7, .slice none 0 0, .int .i64 0] (0, 0) (0, 0) _ _ rfl K2.out Try.underlying32 rfl (by kernel_rfl) rfl K3.out Try.underlying34 rfl (by kernel_rfl)) rfl ?_
 exact ⟨B0, d0, B1, d1, B2, d2, B3, d3, none, 0, rfl, ⟨L0.out, Kd.F_mono F0.out (fun _ h => zq ZZ.out.1 h), L1.out, Kd.F_mono F1.out (fun _ h => zq ZZ.out.1 h), L2.out, Kd.F_mono F2.out (fun _ h => zq ZZ.out.1 h), L3.out, Kd.F_mono F3.out (fun _ h => zq ZZ.out.1 h)⟩, Nat.le_refl _, Kd.F_nil _ _ _, HB.out⟩
set_option maxHeartbeats 4000000 in
theorem apply_1 (A0 : Option Addr) (c0 : Nat) (A1 : Option Addr) (c1 : Nat) (A2 : Option Addr) (c2 : Nat) (A3 : Option Addr) (c3 : Nat) (o : O) (kd a : Int) (E2 : Option Addr) (e2 : Nat) (E3 : Option Addr) (e3 : Nat) (E4 : Option Addr) (e4 : Nat) (ke va ol : List Int) (w : World) (hc : OC w o A0 c0 A1 c1 A2 c2 A3 c3) (hb : OB o) (hx : XC w ke va ol E2 e2 E3 e3 E4 e4) (hkd : kd = 1) :
  Calls Try.prog 10 #[.agg #[.slice A0 o.reg.length c0, .slice A1 o.que.length c1, .slice A2 o.loc.length c2, .slice A3 o.map.length c3], .agg #[.int .i64 kd, .int .i64 a, .slice E2 ke.length e2, .slice E3 va.length e3, .slice E4 ol.length e4]] w (TA w (o) ⟨0, o.reg, 0⟩) := by
 subst hkd
 have HC := Aside0.mk hc
 have HO := Aside0.mk hb
 have HX := Aside0.mk hx
 clear hc hb hx
 have HB := Aside0.mk (Below.refl w.heap.size w)
 go_enter Try.func10, Try.ntmps10
 go_wp2_with fail
 generalize hV0 : World.alloc _ _ = V0
 obtain ⟨K0, K1, K2, K3, hb_, SV0⟩ := al4 hV0
 clear hV0
 replace HB := HBs HB hb_
 clear hb_
 refine (objs28 A0 c0 A1 c1 A2 c2 A3 c3 o V0 (HC.out.below HB.out) HO.out).mono ?_
 rintro e w1 ⟨B0, d0, B1, d1, B2, d2, B3, d3, rfl, hF, hb_⟩
 obtain ⟨b1, hb1⟩ : ∃ b_, b_ = V0.heap.size := ⟨_, rfl⟩
 obtain ⟨m1, hm1⟩ : ∃ b_, b_ = w1.heap.size := ⟨_, rfl⟩
 have L0 := Aside0.mk hF.h0
 have F0 := Aside0.mk (Kd.F_mono (Kd.F_bound hF.r0) (ok' := fun k => b1 ≤ k ∧ k < m1) (mq hb1 hm1))
 have L1 := Aside0.mk hF.h1
 have F1 := Aside0.mk (Kd.F_mono (Kd.F_bound hF.r1) (ok' := fun k => b1 ≤ k ∧ k < m1) (mq hb1 hm1))
 have L2 := Aside0.mk hF.h2
 have F2 := Aside0.mk (Kd.F_mono (Kd.F_bound hF.r2) (ok' := fun k => b1 ≤ k ∧ k < m1) (mq hb1 hm1))
 have L3 := Aside0.mk hF.h3
 have F3 := Aside0.mk (Kd.F_mono (Kd.F_bound hF.r3) (ok' := fun k => b1 ≤ k ∧ k < m1) (mq hb1 hm1))
 have Z1 := Aside0.mk (show w.heap.size + 4 ≤ b1 ∧ b1 ≤ m1 from ⟨by rw [hb1, SV0.out]; exact Nat.le_refl _, by rw [hb1, hm1]; exact hb_.size⟩)
 clear hF hb1
 replace HB := HBs HB hb_
 replace K0 := KB K0 hb_
 replace K1 := KB K1 hb_
 replace K2 := KB K2 hb_
 replace K3 := KB K3 hb_
 clear hb_
 obtain ⟨x0, x1, x2, x3, x40, x41, x42, x43⟩ := cel4 K0.out
 go_wp2_with (
  (with_reducible refine gate_dst (N := 6) rfl ?_)
  clear x0 x1 x2 x3 x40 x41 x42 x43
  generalize hV2 : World.setCell (World.setCell (World.setCell (World.setCell w1 _ _) _ _) _ _) _ _ = V2
  have hge_ : w.heap.size ≤ w.heap.size := by have z_ := Z1.out; omega
  have hst_ := st4 HB.out hge_ K0.out hV2
  replace HB := Aside0.mk hst_.1
  replace K0 := Aside0.mk hst_.2.1
  have z_ := Z1.out
  replace K1 := KS K1 hst_ (by omega)
  replace K2 := KS K2 hst_ (by omega)
  replace K3 := KS K3 hst_ (by omega)
  have e0_ : ∀ k_, (b1 ≤ k_ ∧ k_ < m1) → k_ ≠ w.heap.size := fun k_ h_ => by omega
  replace F0 := FS F0 hst_ e0_
  replace F1 := FS F1 hst_ e0_
  replace F2 := FS F2 hst_ e0_
  replace F3 := FS F3 hst_ e0_
  clear e0_
  have SV2 := Aside0.mk hst_.2.2.2
  clear hV2 hst_ hge_ z_
  refine box_event ?hg (N := 6) ?hd (cs := #[.int .i64 0, .slice none 0 0, .int .i64 0]) (t := 34) ?hr ?_
  (case hd => rfl)
  (case hg => rfl)
  (case hr => go_simp <;> rfl)
  intro g6 hg V3 hbox hb_
  have K6 := Aside0.mk hbox
  have hlt_ := (Array.getElem?_eq_some_iff.1 hbox).1
  have ZZ := Aside0.mk (show w.heap.size + 4 ≤ b1 ∧ b1 ≤ m1 ∧ m1 ≤ g6 ∧ g6 < V3.heap.size from ⟨Z1.out.1, Z1.out.2, by rw [hg, SV2.out, hm1]; exact Nat.le_refl _, hlt_⟩)
  clear hg hm1 Z1 SV2 SV0 hbox hlt_
  replace HB := HBs HB hb_
  replace K0 := KB K0 hb_
  replace K1 := KB K1 hb_
  replace K2 := KB K2 hb_
  replace K3 := KB K3 hb_
  replace F0 := FB F0 hb_
  replace F1 := FB F1 hb_
  replace F2 := FB F2 hb_
  replace F3 := FB F3 hb_
  clear hb_
  obtain ⟨x0, x1, x2, x3, x40, x41, x42, x43⟩ := cel4 K0.out
  obtain ⟨y0, y1, y2, y3, y4, y50, y51, y52, y53, y54⟩ := cel5 K1.out)
 clear x0 x1 x2 x3 x40 x41 x42 x43
 clear y0 y1 y2 y3 y4 y50 y51 y52 y53 y54
 refine (read29 B0 d0 o.reg V3 (Kd.F_now F0.out) L0.out HO.out.b0).mono ?_
 rintro e w4 ⟨Av, cv, rfl, hcv, hFv, hb_⟩
 have LV := Aside0.mk hcv
 have FV := Aside0.mk (Kd.F_mono hFv (ok' := fun k_ => g6 < k_) (fun k hk => by have z_ := ZZ.out; have h2 : V3.heap.size ≤ k := hk; show g6 < k; omega))
 clear hFv hcv
 replace HB := HBs HB hb_
 replace K0 := KB K0 hb_
 replace K1 := KB K1 hb_
 replace K2 := KB K2 hb_
 replace K3 := KB K3 hb_
 replace K6 := KB K6 hb_
 replace F0 := FB F0 hb_
 replace F1 := FB F1 hb_
 replace F2 := FB F2 hb_
 replace F3 := FB F3 hb_
 clear hb_
 have n6 : ¬ g6 = w.heap.size := by have z_ := ZZ.out; omega
 have n6' : ¬ w.heap.size = g6 := by have z_ := ZZ.out; omega
 obtain ⟨x0, x1, x2, x3, x40, x41, x42, x43⟩ := cel4 K0.out
 obtain ⟨v0, v1, v2, v30, v31, v32⟩ := cel3 K6.out
 go_wp2_with fail
 clear x0 x1 x2 x3 x40 x41 x42 x43
 clear v0 v1 v2 v30 v31 v32
 clear n6 n6'
 generalize hV6 : World.setCell (World.setCell (World.setCell w4 _ _) _ _) _ _ = V6
 have hge_ : w.heap.size ≤ g6 := by have z_ := ZZ.out; omega
 have hst_ := st3 HB.out hge_ K6.out hV6
 replace HB := Aside0.mk hst_.1
 replace K6 := Aside0.mk hst_.2.1
 have z_ := ZZ.out
 replace K0 := KS K0 hst_ (by omega)
 replace K1 := KS K1 hst_ (by omega)
 replace K2 := KS K2 hst_ (by omega)
 replace K3 := KS K3 hst_ (by omega)
 have e0_ : ∀ k_, (b1 ≤ k_ ∧ k_ < m1) → k_ ≠ g6 := fun k_ h_ => by omega
 replace F0 := FS F0 hst_ e0_
 replace F1 := FS F1 hst_ e0_
 replace F2 := FS F2 hst_ e0_
 replace F3 := FS F3 hst_ e0_
 have e1_ : ∀ k_, (g6 < k_) → k_ ≠ g6 := fun k_ h_ => by omega
 replace FV := FS FV hst_ e1_
 clear e0_ e1_
 have SV6 := Aside0.mk hst_.2.2.2
 clear hV6 hst_ hge_ z_
 obtain ⟨x0, x1, x2, x3, x40, x41, x42, x43⟩ := cel4 K0.out
 obtain ⟨v0, v1, v2, v30, v31, v32⟩ := cel3 K6.out
 obtain ⟨s0, s1, s2, s3, s40, s41, s42, s43⟩ := cel4 K2.out
 obtain ⟨t0, t1, t2, t30, t31, t32⟩ := cel3 K3.out
 have n0 : ¬ g6 = w.heap.size + 1 + 1 := by have z_ := ZZ.out; omega
 have n0' : ¬ w.heap.size + 1 + 1 = g6 := by have z_ := ZZ.out; omega
 have n1 : ¬ g6 = w.heap.size + 1 + 1 + 1 := by have z_ := ZZ.out; omega
 have n1' : ¬ w.heap.size + 1 + 1 + 1 = g6 := by have z_ := ZZ.out; omega
 go_wp2_with fail
 go_region
 clear n0 n0' n1 n1'
 clear x0 x1 x2 x3 x40 x41 x42 x43
 clear v0 v1 v2 v30 v31 v32
 clear s0 s1 s2 s3 s40 s41 s42 s43
 clear t0 t1 t2 t30 t31 t32
 generalize hV7 : World.setCell (World.setCell (World.setCell (World.setCell V6 _ _) _ _) _ _) _ _ = V7
 have hge_ : w.heap.size ≤ w.heap.size + 1 + 1 := by have z_ := ZZ.out; omega
 have hst_ := st4 HB.out hge_ K2.out hV7
 replace HB := Aside0.mk hst_.1
 replace K2 := Aside0.mk hst_.2.1
 have z_ := ZZ.out
 replace K0 := KS K0 hst_ (by omega)
 replace K1 := KS K1 hst_ (by omega)
 replace K3 := KS K3 hst_ (by omega)
 replace K6 := KS K6 hst_ (by omega)
 have e0_ : ∀ k_, (b1 ≤ k_ ∧ k_ < m1) → k_ ≠ w.heap.size + 1 + 1 := fun k_ h_ => by omega
 replace F0 := FS F0 hst_ e0_
 replace F1 := FS F1 hst_ e0_
 replace F2 := FS F2 hst_ e0_
 replace F3 := FS F3 hst_ e0_
 have e1_ : ∀ k_, (g6 < k_) → k_ ≠ w.heap.size + 1 + 1 := fun k_ h_ => by omega
 replace FV := FS FV hst_ e1_
 clear e0_ e1_
 have SV7 := Aside0.mk hst_.2.2.2
 clear hV7 hst_ hge_ z_
 generalize hV8 : World.setCell (World.setCell (World.setCell V7 _ _) _ _) _ _ = V8
 have hge_ : w.heap.size ≤ w.heap.size + 1 + 1 + 1 := by have z_ := ZZ.out; omega
 have hst_ := st3 HB.out hge_ K3.out hV8
 replace HB := Aside0.mk hst_.1
 replace K3 := Aside0.mk hst_.2.1
 have z_ := ZZ.out
 replace K0 := KS K0 hst_ (by omega)
 replace K1 := KS K1 hst_ (by omega)
 replace K2 := KS K2 hst_ (by omega)
 replace K6 := KS K6 hst_ (by omega)
 have e0_ : ∀ k_, (b1 ≤ k_ ∧ k_ < m1) → k_ ≠ w.heap.size + 1 + 1 + 1 := fun k_ h_ => by omega
 replace F0 := FS F0 hst_ e0_
 replace F1 := FS F1 hst_ e0_
 replace F2 := FS F2 hst_ e0_
 replace F3 := FS F3 hst_ e0_
 have e1_ : ∀ k_, (g6 < k_) → k_ ≠ w.heap.size + 1 + 1 + 1 := fun k_ h_ => by omega
 replace FV := FS FV hst_ e1_
 clear e0_ e1_
 have SV8 := Aside0.mk hst_.2.2.2
 clear hV8 hst_ hge_ z_
 have bd_ := below_drew1 (Below.refl V8.heap.size V8)
 replace HB := HBs HB bd_
 replace K0 := KB K0 bd_
 replace K1 := KB K1 bd_
 replace K2 := KB K2 bd_
 replace K3 := KB K3 bd_
 replace K6 := KB K6 bd_
 replace F0 := FB F0 bd_
 replace F1 := FB F1 bd_
 replace F2 := FB F2 bd_
 replace F3 := FB F3 bd_
 replace FV := FB FV bd_
 clear bd_
 go_wp2
 refine bodyPost_ret (results_cc rfl _ _ (w.heap.size + 1 + 1) (w.heap.size + 1 + 1 + 1) 32 34 #[.slice B0 o.reg.length d0, .slice B1 o.que.length d1, .slice B2 o.loc.length d2, .slice B3 o.map.length d3] #[.int .i64 0, .slice Av o.reg.length cv, .int .i64 0] (0, 0) (0, 0) _ _ rfl K2.out Try.underlying32 rfl (by kernel_rfl) rfl K3.out Try.underlying34 rfl (by kernel_rfl)) rfl ?_
 exact ⟨B0, d0, B1, d1, B2, d2, B3, d3, Av, cv, rfl, ⟨L0.out, Kd.F_mono F0.out (fun _ h => zq ZZ.out.1 h), L1.out, Kd.F_mono F1.out (fun _ h => zq ZZ.out.1 h), L2.out, Kd.F_mono F2.out (fun _ h => zq ZZ.out.1 h), L3.out, Kd.F_mono F3.out (fun _ h => zq ZZ.out.1 h)⟩, LV.out, Kd.F_mono FV.out (fun k_ hk => by have z_ := ZZ.out; have h2 : g6 < k_ := hk; show w.heap.size ≤ k_; omega), HB.out⟩
set_option maxHeartbeats 4000000 in
theorem apply_2 (A0 : Option Addr) (c0 : Nat) (A1 : Option Addr) (c1 : Nat) (A2 : Option Addr) (c2 : Nat) (A3 : Option Addr) (c3 : Nat) (o : O) (kd a : Int) (E2 : Option Addr) (e2 : Nat) (E3 : Option Addr) (e3 : Nat) (E4 : Option Addr) (e4 : Nat) (ke va ol : List Int) (w : World) (hc : OC w o A0 c0 A1 c1 A2 c2 A3 c3) (hb : OB o) (hx : XC w ke va ol E2 e2 E3 e3 E4 e4) (hkd : kd = 2) :
  Calls Try.prog 10 #[.agg #[.slice A0 o.reg.length c0, .slice A1 o.que.length c1, .slice A2 o.loc.length c2, .slice A3 o.map.length c3], .agg #[.int .i64 kd, .int .i64 a, .slice E2 ke.length e2, .slice E3 va.length e3, .slice E4 ol.length e4]] w (TA w ({ o with reg := (writeR o.reg va).1 }) (writeR o.reg va).2) := by
 subst hkd
 have HC := Aside0.mk hc
 have HO := Aside0.mk hb
 have HX := Aside0.mk hx
 clear hc hb hx
 have HB := Aside0.mk (Below.refl w.heap.size w)
 go_enter Try.func10, Try.ntmps10
 go_wp2_with fail
 generalize hV0 : World.alloc _ _ = V0
 obtain ⟨K0, K1, K2, K3, hb_, SV0⟩ := al4 hV0
 clear hV0
 replace HB := HBs HB hb_
 clear hb_
 refine (objs28 A0 c0 A1 c1 A2 c2 A3 c3 o V0 (HC.out.below HB.out) HO.out).mono ?_
 rintro e w1 ⟨B0, d0, B1, d1, B2, d2, B3, d3, rfl, hF, hb_⟩
 obtain ⟨b1, hb1⟩ : ∃ b_, b_ = V0.heap.size := ⟨_, rfl⟩
 obtain ⟨m1, hm1⟩ : ∃ b_, b_ = w1.heap.size := ⟨_, rfl⟩
 have L0 := Aside0.mk hF.h0
 have F0 := Aside0.mk (Kd.F_mono (Kd.F_bound hF.r0) (ok' := fun k => b1 ≤ k ∧ k < m1) (mq hb1 hm1))
 have L1 := Aside0.mk hF.h1
 have F1 := Aside0.mk (Kd.F_mono (Kd.F_bound hF.r1) (ok' := fun k => b1 ≤ k ∧ k < m1) (mq hb1 hm1))
 have L2 := Aside0.mk hF.h2
 have F2 := Aside0.mk (Kd.F_mono (Kd.F_bound hF.r2) (ok' := fun k => b1 ≤ k ∧ k < m1) (mq hb1 hm1))
 have L3 := Aside0.mk hF.h3
 have F3 := Aside0.mk (Kd.F_mono (Kd.F_bound hF.r3) (ok' := fun k => b1 ≤ k ∧ k < m1) (mq hb1 hm1))
 have Z1 := Aside0.mk (show w.heap.size + 4 ≤ b1 ∧ b1 ≤ m1 from ⟨by rw [hb1, SV0.out]; exact Nat.le_refl _, by rw [hb1, hm1]; exact hb_.size⟩)
 clear hF hb1
 replace HB := HBs HB hb_
 replace K0 := KB K0 hb_
 replace K1 := KB K1 hb_
 replace K2 := KB K2 hb_
 replace K3 := KB K3 hb_
 clear hb_
 obtain ⟨x0, x1, x2, x3, x40, x41, x42, x43⟩ := cel4 K0.out
 go_wp2_with (
  (with_reducible refine gate_dst (N := 6) rfl ?_)
  clear x0 x1 x2 x3 x40 x41 x42 x43
  generalize hV2 : World.setCell (World.setCell (World.setCell (World.setCell w1 _ _) _ _) _ _) _ _ = V2
  have hge_ : w.heap.size ≤ w.heap.size := by have z_ := Z1.out; omega
  have hst_ := st4 HB.out hge_ K0.out hV2
  replace HB := Aside0.mk hst_.1
  replace K0 := Aside0.mk hst_.2.1
  have z_ := Z1.out
  replace K1 := KS K1 hst_ (by omega)
  replace K2 := KS K2 hst_ (by omega)
  replace K3 := KS K3 hst_ (by omega)
  have e0_ : ∀ k_, (b1 ≤ k_ ∧ k_ < m1) → k_ ≠ w.heap.size := fun k_ h_ => by omega
  replace F0 := FS F0 hst_ e0_
  replace F1 := FS F1 hst_ e0_
  replace F2 := FS F2 hst_ e0_
  replace F3 := FS F3 hst_ e0_
  clear e0_
  have SV2 := Aside0.mk hst_.2.2.2
  clear hV2 hst_ hge_ z_
  refine box_event ?hg (N := 6) ?hd (cs := #[.int .i64 0, .slice none 0 0, .int .i64 0]) (t := 34) ?hr ?_
  (case hd => rfl)
  (case hg => rfl)
  (case hr => go_simp <;> rfl)
  intro g6 hg V3 hbox hb_
  have K6 := Aside0.mk hbox
  have hlt_ := (Array.getElem?_eq_some_iff.1 hbox).1
  have ZZ := Aside0.mk (show w.heap.size + 4 ≤ b1 ∧ b1 ≤ m1 ∧ m1 ≤ g6 ∧ g6 < V3.heap.size from ⟨Z1.out.1, Z1.out.2, by rw [hg, SV2.out, hm1]; exact Nat.le_refl _, hlt_⟩)
  clear hg hm1 Z1 SV2 SV0 hbox hlt_
  replace HB := HBs HB hb_
  replace K0 := KB K0 hb_
  replace K1 := KB K1 hb_
  replace K2 := KB K2 hb_
  replace K3 := KB K3 hb_
  replace F0 := FB F0 hb_
  replace F1 := FB F1 hb_
  replace F2 := FB F2 hb_
  replace F3 := FB F3 hb_
  clear hb_
  obtain ⟨x0, x1, x2, x3, x40, x41, x42, x43⟩ := cel4 K0.out
  obtain ⟨y0, y1, y2, y3, y4, y50, y51, y52, y53, y54⟩ := cel5 K1.out)
 clear x0 x1 x2 x3 x40 x41 x42 x43
 clear y0 y1 y2 y3 y4 y50 y51 y52 y53 y54
 refine (write30 B0 d0 o.reg E3 e3 va V3 (Kd.F_now F0.out) L0.out HO.out.b0 (Kd.C_below HX.out.r3 HB.out) HX.out.h3 HX.out.b3).mono ?_
 rintro e w4 ⟨A9, c9, Av, cv, rfl, hc9, hF9, hcv, hFv, hb_⟩
 have L9 := Aside0.mk hc9
 have F9 := Aside0.mk (Kd.F_mono hF9 (ok' := fun k_ => g6 < k_) (fun k hk => by have z_ := ZZ.out; have h2 : V3.heap.size ≤ k := hk; show g6 < k; omega))
 clear hF9 hc9
 have LV := Aside0.mk hcv
 have FV := Aside0.mk (Kd.F_mono hFv (ok' := fun k_ => g6 < k_) (fun k hk => by have z_ := ZZ.out; have h2 : V3.heap.size ≤ k := hk; show g6 < k; omega))
 clear hFv hcv
 replace HB := HBs HB hb_
 replace K0 := KB K0 hb_
 replace K1 := KB K1 hb_
 replace K2 := KB K2 hb_
 replace K3 := KB K3 hb_
 replace K6 := KB K6 hb_
 replace F0 := FB F0 hb_
 replace F1 := FB F1 hb_
 replace F2 := FB F2 hb_
 replace F3 := FB F3 hb_
 clear hb_
 have n6 : ¬ g6 = w.heap.size := by have z_ := ZZ.out; omega
 have n6' : ¬ w.heap.size = g6 := by have z_ := ZZ.out; omega
 obtain ⟨x0, x1, x2, x3, x40, x41, x42, x43⟩ := cel4 K0.out
 obtain ⟨v0, v1, v2, v30, v31, v32⟩ := cel3 K6.out
 go_wp2_with fail
 clear x0 x1 x2 x3 x40 x41 x42 x43
 clear v0 v1 v2 v30 v31 v32
 clear n6 n6'
 obtain ⟨V5, hV5⟩ : ∃ V_, V_ = (w4.setCell ⟨w.heap.size, 0, none⟩ (.slice A9 (writeR o.reg va).1.length c9)) := ⟨_, rfl⟩
 rw [← hV5]
 have hge_ : w.heap.size ≤ w.heap.size := by have z_ := ZZ.out; omega
 have hst_ : St w.heap.size w (w.heap.size) 32 #[.slice A9 (writeR o.reg va).1.length c9, .slice B1 o.que.length d1, .slice B2 o.loc.length d2, .slice B3 o.map.length d3] w4 V5 := by rw [hV5]; exact (St.first HB.out hge_ K0.out 0 _ rfl)
 replace HB := Aside0.mk hst_.1
 replace K0 := Aside0.mk hst_.2.1
 have z_ := ZZ.out
 replace K1 := KS K1 hst_ (by omega)
 replace K2 := KS K2 hst_ (by omega)
 replace K3 := KS K3 hst_ (by omega)
 replace K6 := KS K6 hst_ (by omega)
 have e0_ : ∀ k_, (b1 ≤ k_ ∧ k_ < m1) → k_ ≠ w.heap.size := fun k_ h_ => by omega
 replace F0 := FS F0 hst_ e0_
 replace F1 := FS F1 hst_ e0_
 replace F2 := FS F2 hst_ e0_
 replace F3 := FS F3 hst_ e0_
 have e1_ : ∀ k_, (g6 < k_) → k_ ≠ w.heap.size := fun k_ h_ => by omega
 replace FV := FS FV hst_ e1_
 replace F9 := FS F9 hst_ e1_
 clear e0_ e1_
 have SV5 := Aside0.mk hst_.2.2.2
 clear hV5 hst_ hge_ z_
 generalize hV6 : World.setCell (World.setCell (World.setCell V5 _ _) _ _) _ _ = V6
 have hge_ : w.heap.size ≤ g6 := by have z_ := ZZ.out; omega
 have hst_ := st3 HB.out hge_ K6.out hV6
 replace HB := Aside0.mk hst_.1
 replace K6 := Aside0.mk hst_.2.1
 have z_ := ZZ.out
 replace K0 := KS K0 hst_ (by omega)
 replace K1 := KS K1 hst_ (by omega)
 replace K2 := KS K2 hst_ (by omega)
 replace K3 := KS K3 hst_ (by omega)
 have e0_ : ∀ k_, (b1 ≤ k_ ∧ k_ < m1) → k_ ≠ g6 := fun k_ h_ => by omega
 replace F0 := FS F0 hst_ e0_
 replace F1 := FS F1 hst_ e0_
 replace F2 := FS F2 hst_ e0_
 replace F3 := FS F3 hst_ e0_
 have e1_ : ∀ k_, (g6 < k_) → k_ ≠ g6 := fun k_ h_ => by omega
 replace FV := FS FV hst_ e1_
 replace F9 := FS F9 hst_ e1_
 clear e0_ e1_
 have SV6 := Aside0.mk hst_.2.2.2
 clear hV6 hst_ hge_ z_
 obtain ⟨x0, x1, x2, x3, x40, x41, x42, x43⟩ := cel4 K0.out
 obtain ⟨v0, v1, v2, v30, v31, v32⟩ := cel3 K6.out
 obtain ⟨s0, s1, s2, s3, s40, s41, s42, s43⟩ := cel4 K2.out
 obtain ⟨t0, t1, t2, t30, t31, t32⟩ := cel3 K3.out
 have n0 : ¬ g6 = w.heap.size + 1 + 1 := by have z_ := ZZ.out; omega
 have n0' : ¬ w.heap.size + 1 + 1 = g6 := by have z_ := ZZ.out; omega
 have n1 : ¬ g6 = w.heap.size + 1 + 1 + 1 := by have z_ := ZZ.out; omega
 have n1' : ¬ w.heap.size + 1 + 1 + 1 = g6 := by have z_ := ZZ.out; omega
 go_wp2_with fail
 go_region
 clear n0 n0' n1 n1'
 clear x0 x1 x2 x3 x40 x41 x42 x43
 clear v0 v1 v2 v30 v31 v32
 clear s0 s1 s2 s3 s40 s41 s42 s43
 clear t0 t1 t2 t30 t31 t32
 generalize hV7 : World.setCell (World.setCell (World.setCell (World.setCell V6 _ _) _ _) _ _) _ _ = V7
 have hge_ : w.heap.size ≤ w.heap.size + 1 + 1 := by have z_ := ZZ.out; omega
 have hst_ := st4 HB.out hge_ K2.out hV7
 replace HB := Aside0.mk hst_.1
 replace K2 := Aside0.mk hst_.2.1
 have z_ := ZZ.out
 replace K0 := KS K0 hst_ (by omega)
 replace K1 := KS K1 hst_ (by omega)
 replace K3 := KS K3 hst_ (by omega)
 replace K6 := KS K6 hst_ (by omega)
 have e0_ : ∀ k_, (b1 ≤ k_ ∧ k_ < m1) → k_ ≠ w.heap.size + 1 + 1 := fun k_ h_ => by omega
 replace F0 := FS F0 hst_ e0_
 replace F1 := FS F1 hst_ e0_
 replace F2 := FS F2 hst_ e0_
 replace F3 := FS F3 hst_ e0_
 have e1_ : ∀ k_, (g6 < k_) → k_ ≠ w.heap.size + 1 + 1 := fun k_ h_ => by omega
 replace FV := FS FV hst_ e1_
 replace F9 := FS F9 hst_ e1_
 clear e0_ e1_
 have SV7 := Aside0.mk hst_.2.2.2
 clear hV7 hst_ hge_ z_
 generalize hV8 : World.setCell (World.setCell (World.setCell V7 _ _) _ _) _ _ = V8
 have hge_ : w.heap.size ≤ w.heap.size + 1 + 1 + 1 := by have z_ := ZZ.out; omega
 have hst_ := st3 HB.out hge_ K3.out hV8
 replace HB := Aside0.mk hst_.1
 replace K3 := Aside0.mk hst_.2.1
 have z_ := ZZ.out
 replace K0 := KS K0 hst_ (by omega)
 replace K1 := KS K1 hst_ (by omega)
 replace K2 := KS K2 hst_ (by omega)
 replace K6 := KS K6 hst_ (by omega)
 have e0_ : ∀ k_, (b1 ≤ k_ ∧ k_ < m1) → k_ ≠ w.heap.size + 1 + 1 + 1 := fun k_ h_ => by omega
 replace F0 := FS F0 hst_ e0_
 replace F1 := FS F1 hst_ e0_
 replace F2 := FS F2 hst_ e0_
 replace F3 := FS F3 hst_ e0_
 have e1_ : ∀ k_, (g6 < k_) → k_ ≠ w.heap.size + 1 + 1 + 1 := fun k_ h_ => by omega
 replace FV := FS FV hst_ e1_
 replace F9 := FS F9 hst_ e1_
 clear e0_ e1_
 have SV8 := Aside0.mk hst_.2.2.2
 clear hV8 hst_ hge_ z_
 have bd_ := below_drew1 (Below.refl V8.heap.size V8)
 replace HB := HBs HB bd_
 replace K0 := KB K0 bd_
 replace K1 := KB K1 bd_
 replace K2 := KB K2 bd_
 replace K3 := KB K3 bd_
 replace K6 := KB K6 bd_
 replace F0 := FB F0 bd_
 replace F1 := FB F1 bd_
 replace F2 := FB F2 bd_
 replace F3 := FB F3 bd_
 replace FV := FB FV bd_
 replace F9 := FB F9 bd_
 clear bd_
 go_wp2
 refine bodyPost_ret (results_cc rfl _ _ (w.heap.size + 1 + 1) (w.heap.size + 1 + 1 + 1) 32 34 #[.slice A9 (writeR o.reg va).1.length c9, .slice B1 o.que.length d1, .slice B2 o.loc.length d2, .slice B3 o.map.length d3] #[.int .i64 (writeR o.reg va).2.f0, .slice Av (writeR o.reg va).2.f1.length cv, .int .i64 (writeR o.reg va).2.f2] (0, 0) (0, 0) _ _ rfl K2.out Try.underlying32 rfl (by kernel_rfl) rfl K3.out Try.underlying34 rfl (by kernel_rfl)) rfl ?_
 exact ⟨A9, c9, B1, d1, B2, d2, B3, d3, Av, cv, rfl, ⟨L9.out, Kd.F_mono F9.out (fun k_ hk => by have z_ := ZZ.out; have h2 : g6 < k_ := hk; show w.heap.size ≤ k_; omega), L1.out, Kd.F_mono F1.out (fun _ h => zq ZZ.out.1 h), L2.out, Kd.F_mono F2.out (fun _ h => zq ZZ.out.1 h), L3.out, Kd.F_mono F3.out (fun _ h => zq ZZ.out.1 h)⟩, LV.out, Kd.F_mono FV.out (fun k_ hk => by have z_ := ZZ.out; have h2 : g6 < k_ := hk; show w.heap.size ≤ k_; omega), HB.out⟩
set_option maxHeartbeats 4000000 in
theorem apply_3 (A0 : Option Addr) (c0 : Nat) (A1 : Option Addr) (c1 : Nat) (A2 : Option Addr) (c2 : Nat) (A3 : Option Addr) (c3 : Nat) (o : O) (kd a : Int) (E2 : Option Addr) (e2 : Nat) (E3 : Option Addr) (e3 : Nat) (E4 : Option Addr) (e4 : Nat) (ke va ol : List Int) (w : World) (hc : OC w o A0 c0 A1 c1 A2 c2 A3 c3) (hb : OB o) (hx : XC w ke va ol E2 e2 E3 e3 E4 e4) (hkd : kd = 3) :
  Calls Try.prog 10 #[.agg #[.slice A0 o.reg.length c0, .slice A1 o.que.length c1, .slice A2 o.loc.length c2, .slice A3 o.map.length c3], .agg #[.int .i64 kd, .int .i64 a, .slice E2 ke.length e2, .slice E3 va.length e3, .slice E4 ol.length e4]] w (TA w ({ o with reg := (casR o.reg ol va).1 }) (casR o.reg ol va).2) := by
 subst hkd
 have HC := Aside0.mk hc
 have HO := Aside0.mk hb
 have HX := Aside0.mk hx
 clear hc hb hx
 have HB := Aside0.mk (Below.refl w.heap.size w)
 go_enter Try.func10, Try.ntmps10
 go_wp2_with fail
 generalize hV0 : World.alloc _ _ = V0
 obtain ⟨K0, K1, K2, K3, hb_, SV0⟩ := al4 hV0
 clear hV0
 replace HB := HBs HB hb_
 clear hb_
 refine (objs28 A0 c0 A1 c1 A2 c2 A3 c3 o V0 (HC.out.below HB.out) HO.out).mono ?_
 rintro e w1 ⟨B0, d0, B1, d1, B2, d2, B3, d3, rfl, hF, hb_⟩
 obtain ⟨b1, hb1⟩ : ∃ b_, b_ = V0.heap.size := ⟨_, rfl⟩
 obtain ⟨m1, hm1⟩ : ∃ b_, b_ = w1.heap.size := ⟨_, rfl⟩
 have L0 := Aside0.mk hF.h0
 have F0 := Aside0.mk (Kd.F_mono (Kd.F_bound hF.r0) (ok' := fun k => b1 ≤ k ∧ k < m1) (mq hb1 hm1))
 have L1 := Aside0.mk hF.h1
 have F1 := Aside0.mk (Kd.F_mono (Kd.F_bound hF.r1) (ok' := fun k => b1 ≤ k ∧ k < m1) (mq hb1 hm1))
 have L2 := Aside0.mk hF.h2
 have F2 := Aside0.mk (Kd.F_mono (Kd.F_bound hF.r2) (ok' := fun k => b1 ≤ k ∧ k < m1) (mq hb1 hm1))
 have L3 := Aside0.mk hF.h3
 have F3 := Aside0.mk (Kd.F_mono (Kd.F_bound hF.r3) (ok' := fun k => b1 ≤ k ∧ k < m1) (mq hb1 hm1))
 have Z1 := Aside0.mk (show w.heap.size + 4 ≤ b1 ∧ b1 ≤ m1 from ⟨by rw [hb1, SV0.out]; exact Nat.le_refl _, by rw [hb1, hm1]; exact hb_.size⟩)
 clear hF hb1
 replace HB := HBs HB hb_
 replace K0 := KB K0 hb_
 replace K1 := KB K1 hb_
 replace K2 := KB K2 hb_
 replace K3 := KB K3 hb_
 clear hb_
 obtain ⟨x0, x1, x2, x3, x40, x41, x42, x43⟩ := cel4 K0.out
 go_wp2_with (
  (with_reducible refine gate_dst (N := 6) rfl ?_)
  clear x0 x1 x2 x3 x40 x41 x42 x43
  generalize hV2 : World.setCell (World.setCell (World.setCell (World.setCell w1 _ _) _ _) _ _) _ _ = V2
  have hge_ : w.heap.size ≤ w.heap.size := by have z_ := Z1.out; omega
  have hst_ := st4 HB.out hge_ K0.out hV2
  replace HB := Aside0.mk hst_.1
  replace K0 := Aside0.mk hst_.2.1
  have z_ := Z1.out
  replace K1 := KS K1 hst_ (by omega)
  replace K2 := KS K2 hst_ (by omega)
  replace K3 := KS K3 hst_ (by omega)
  have e0_ : ∀ k_, (b1 ≤ k_ ∧ k_ < m1) → k_ ≠ w.heap.size := fun k_ h_ => by omega
  replace F0 := FS F0 hst_ e0_
  replace F1 := FS F1 hst_ e0_
  replace F2 := FS F2 hst_ e0_
  replace F3 := FS F3 hst_ e0_
  clear e0_
  have SV2 := Aside0.mk hst_.2.2.2
  clear hV2 hst_ hge_ z_
  refine box_event ?hg (N := 6) ?hd (cs := #[.int .i64 0, .slice none 0 0, .int .i64 0]) (t := 34) ?hr ?_
  (case hd => rfl)
  (case hg => rfl)
  (case hr => go_simp <;> rfl)
  intro g6 hg V3 hbox hb_
  have K6 := Aside0.mk hbox
  have hlt_ := (Array.getElem?_eq_some_iff.1 hbox).1
  have ZZ := Aside0.mk (show w.heap.size + 4 ≤ b1 ∧ b1 ≤ m1 ∧ m1 ≤ g6 ∧ g6 < V3.heap.size from ⟨Z1.out.1, Z1.out.2, by rw [hg, SV2.out, hm1]; exact Nat.le_refl _, hlt_⟩)
  clear hg hm1 Z1 SV2 SV0 hbox hlt_
  replace HB := HBs HB hb_
  replace K0 := KB K0 hb_
  replace K1 := KB K1 hb_
  replace K2 := KB K2 hb_
  replace K3 := KB K3 hb_
  replace F0 := FB F0 hb_
  replace F1 := FB F1 hb_
  replace F2 := FB F2 hb_
  replace F3 := FB F3 hb_
  clear hb_
  obtain ⟨x0, x1, x2, x3, x40, x41, x42, x43⟩ := cel4 K0.out
  obtain ⟨y0, y1, y2, y3, y4, y50, y51, y52, y53, y54⟩ := cel5 K1.out)
 clear x0 x1 x2 x3 x40 x41 x42 x43
 clear y0 y1 y2 y3 y4 y50 y51 y52 y53 y54
 refine (cas31 B0 d0 o.reg E4 e4 ol E3 e3 va V3 (Kd.F_now F0.out) L0.out HO.out.b0 (Kd.C_below HX.out.r4 HB.out) HX.out.h4 (Kd.C_below HX.out.r3 HB.out) HX.out.h3 HX.out.b3).mono ?_
 rintro e w4 ⟨A9, c9, Av, cv, rfl, hc9, hF9, hcv, hFv, hb_⟩
 have L9 := Aside0.mk hc9
 have F9 := Aside0.mk (Kd.F_mono hF9 (ok' := fun k_ => g6 < k_) (fun k hk => by have z_ := ZZ.out; have h2 : V3.heap.size ≤ k := hk; show g6 < k; omega))
 clear hF9 hc9
 have LV := Aside0.mk hcv
 have FV := Aside0.mk (Kd.F_mono hFv (ok' := fun k_ => g6 < k_) (fun k hk => by have z_ := ZZ.out; have h2 : V3.heap.size ≤ k := hk; show g6 < k; omega))
 clear hFv hcv
 replace HB := HBs HB hb_
 replace K0 := KB K0 hb_
 replace K1 := KB K1 hb_
 replace K2 := KB K2 hb_
 replace K3 := KB K3 hb_
 replace K6 := KB K6 hb_
 replace F0 := FB F0 hb_
 replace F1 := FB F1 hb_
 replace F2 := FB F2 hb_
 replace F3 := FB F3 hb_
 clear hb_
 have n6 : ¬ g6 = w.heap.size := by have z_ := ZZ.out; omega
 have n6' : ¬ w.heap.size = g6 := by have z_ := ZZ.out; omega
 obtain ⟨x0, x1, x2, x3, x40, x41, x42, x43⟩ := cel4 K0.out
 obtain ⟨v0, v1, v2, v30, v31, v32⟩ := cel3 K6.out
 go_wp2_with fail
 clear x0 x1 x2 x3 x40 x41 x42 x43
 clear v0 v1 v2 v30 v31 v32
 clear n6 n6'
 obtain ⟨V5, hV5⟩ : ∃ V_, V_ = (w4.setCell ⟨w.heap.size, 0, none⟩ (.slice A9 (casR o.reg ol va).1.length c9)) := ⟨_, rfl⟩
 rw [← hV5]
 have hge_ : w.heap.size ≤ w.heap.size := by have z_ := ZZ.out; omega
 have hst_ : St w.heap.size w (w.heap.size) 32 #[.slice A9 (casR o.reg ol va).1.length c9, .slice B1 o.que.length d1, .slice B2 o.loc.length d2, .slice B3 o.map.length d3] w4 V5 := by rw [hV5]; exact (St.first HB.out hge_ K0.out 0 _ rfl)
 replace HB := Aside0.mk hst_.1
 replace K0 := Aside0.mk hst_.2.1
 have z_ := ZZ.out
 replace K1 := KS K1 hst_ (by omega)
 replace K2 := KS K2 hst_ (by omega)
 replace K3 := KS K3 hst_ (by omega)
 replace K6 := KS K6 hst_ (by omega)
 have e0_ : ∀ k_, (b1 ≤ k_ ∧ k_ < m1) → k_ ≠ w.heap.size := fun k_ h_ => by omega
 replace F0 := FS F0 hst_ e0_
 replace F1 := FS F1 hst_ e0_
 replace F2 := FS F2 hst_ e0_
 replace F3 := FS F3 hst_ e0_
 have e1_ : ∀ k_, (g6 < k_) → k_ ≠ w.heap.size := fun k_ h_ => by omega
 replace FV := FS FV hst_ e1_
 replace F9 := FS F9 hst_ e1_
 clear e0_ e1_
 have SV5 := Aside0.mk hst_.2.2.2
 clear hV5 hst_ hge_ z_
 generalize hV6 : World.setCell (World.setCell (World.setCell V5 _ _) _ _) _ _ = V6
 have hge_ : w.heap.size ≤ g6 := by have z_ := ZZ.out; omega
 have hst_ := st3 HB.out hge_ K6.out hV6
 replace HB := Aside0.mk hst_.1
 replace K6 := Aside0.mk hst_.2.1
 have z_ := ZZ.out
 replace K0 := KS K0 hst_ (by omega)
 replace K1 := KS K1 hst_ (by omega)
 replace K2 := KS K2 hst_ (by omega)
 replace K3 := KS K3 hst_ (by omega)
 have e0_ : ∀ k_, (b1 ≤ k_ ∧ k_ < m1) → k_ ≠ g6 := fun k_ h_ => by omega
 replace F0 := FS F0 hst_ e0_
 replace F1 := FS F1 hst_ e0_
 replace F2 := FS F2 hst_ e0_
 replace F3 := FS F3 hst_ e0_
 have e1_ : ∀ k_, (g6 < k_) → k_ ≠ g6 := fun k_ h_ => by omega
 replace FV := FS FV hst_ e1_
 replace F9 := FS F9 hst_ e1_
 clear e0_ e1_
 have SV6 := Aside0.mk hst_.2.2.2
 clear hV6 hst_ hge_ z_
 obtain ⟨x0, x1, x2, x3, x40, x41, x42, x43⟩ := cel4 K0.out
 obtain ⟨v0, v1, v2, v30, v31, v32⟩ := cel3 K6.out
 obtain ⟨s0, s1, s2, s3, s40, s41, s42, s43⟩ := cel4 K2.out
 obtain ⟨t0, t1, t2, t30, t31, t32⟩ := cel3 K3.out
 have n0 : ¬ g6 = w.heap.size + 1 + 1 := by have z_ := ZZ.out; omega
 have n0' : ¬ w.heap.size + 1 + 1 = g6 := by have z_ := ZZ.out; omega
 have n1 : ¬ g6 = w.heap.size + 1 + 1 + 1 := by have z_ := ZZ.out; omega
 have n1' : ¬ w.heap.size + 1 + 1 + 1 = g6 := by have z_ := ZZ.out; omega
 go_wp2_with fail
 go_region
 clear n0 n0' n1 n1'
 clear x0 x1 x2 x3 x40 x41 x42 x43
 clear v0 v1 v2 v30 v31 v32
 clear s0 s1 s2 s3 s40 s41 s42 s43
 clear t0 t1 t2 t30 t31 t32
 generalize hV7 : World.setCell (World.setCell (World.setCell (World.setCell V6 _ _) _ _) _ _) _ _ = V7
 have hge_ : w.heap.size ≤ w.heap.size + 1 + 1 := by have z_ := ZZ.out; omega
 have hst_ := st4 HB.out hge_ K2.out hV7
 replace HB := Aside0.mk hst_.1
 replace K2 := Aside0.mk hst_.2.1
 have z_ := ZZ.out
 replace K0 := KS K0 hst_ (by omega)
 replace K1 := KS K1 hst_ (by omega)
 replace K3 := KS K3 hst_ (by omega)
 replace K6 := KS K6 hst_ (by omega)
 have e0_ : ∀ k_, (b1 ≤ k_ ∧ k_ < m1) → k_ ≠ w.heap.size + 1 + 1 := fun k_ h_ => by omega
 replace F0 := FS F0 hst_ e0_
 replace F1 := FS F1 hst_ e0_
 replace F2 := FS F2 hst_ e0_
 replace F3 := FS F3 hst_ e0_
 have e1_ : ∀ k_, (g6 < k_) → k_ ≠ w.heap.size + 1 + 1 := fun k_ h_ => by omega
 replace FV := FS FV hst_ e1_
 replace F9 := FS F9 hst_ e1_
 clear e0_ e1_
 have SV7 := Aside0.mk hst_.2.2.2
 clear hV7 hst_ hge_ z_
 generalize hV8 : World.setCell (World.setCell (World.setCell V7 _ _) _ _) _ _ = V8
 have hge_ : w.heap.size ≤ w.heap.size + 1 + 1 + 1 := by have z_ := ZZ.out; omega
 have hst_ := st3 HB.out hge_ K3.out hV8
 replace HB := Aside0.mk hst_.1
 replace K3 := Aside0.mk hst_.2.1
 have z_ := ZZ.out
 replace K0 := KS K0 hst_ (by omega)
 replace K1 := KS K1 hst_ (by omega)
 replace K2 := KS K2 hst_ (by omega)
 replace K6 := KS K6 hst_ (by omega)
 have e0_ : ∀ k_, (b1 ≤ k_ ∧ k_ < m1) → k_ ≠ w.heap.size + 1 + 1 + 1 := fun k_ h_ => by omega
 replace F0 := FS F0 hst_ e0_
 replace F1 := FS F1 hst_ e0_
 replace F2 := FS F2 hst_ e0_
 replace F3 := FS F3 hst_ e0_
 have e1_ : ∀ k_, (g6 < k_) → k_ ≠ w.heap.size + 1 + 1 + 1 := fun k_ h_ => by omega
 replace FV := FS FV hst_ e1_
 replace F9 := FS F9 hst_ e1_
 clear e0_ e1_
 have SV8 := Aside0.mk hst_.2.2.2
 clear hV8 hst_ hge_ z_
 have bd_ := below_drew1 (Below.refl V8.heap.size V8)
 replace HB := HBs HB bd_
 replace K0 := KB K0 bd_
 replace K1 := KB K1 bd_
 replace K2 := KB K2 bd_
 replace K3 := KB K3 bd_
 replace K6 := KB K6 bd_
 replace F0 := FB F0 bd_
 replace F1 := FB F1 bd_
 replace F2 := FB F2 bd_
 replace F3 := FB F3 bd_
 replace FV := FB FV bd_
 replace F9 := FB F9 bd_
 clear bd_
 go_wp2
 refine bodyPost_ret (results_cc rfl _ _ (w.heap.size + 1 + 1) (w.heap.size + 1 + 1 + 1) 32 34 #[.slice A9 (casR o.reg ol va).1.length c9, .slice B1 o.que.length d1, .slice B2 o.loc.length d2, .slice B3 o.map.length d3] #[.int .i64 (casR o.reg ol va).2.f0, .slice Av (casR o.reg ol va).2.f1.length cv, .int .i64 (casR o.reg ol va).2.f2] (0, 0) (0, 0) _ _ rfl K2.out Try.underlying32 rfl (by kernel_rfl) rfl K3.out Try.underlying34 rfl (by kernel_rfl)) rfl ?_
 exact ⟨A9, c9, B1, d1, B2, d2, B3, d3, Av, cv, rfl, ⟨L9.out, Kd.F_mono F9.out (fun k_ hk => by have z_ := ZZ.out; have h2 : g6 < k_ := hk; show w.heap.size ≤ k_; omega), L1.out, Kd.F_mono F1.out (fun _ h => zq ZZ.out.1 h), L2.out, Kd.F_mono F2.out (fun _ h => zq ZZ.out.1 h), L3.out, Kd.F_mono F3.out (fun _ h => zq ZZ.out.1 h)⟩, LV.out, Kd.F_mono FV.out (fun k_ hk => by have z_ := ZZ.out; have h2 : g6 < k_ := hk; show w.heap.size ≤ k_; omega), HB.out⟩
set_option maxHeartbeats 4000000 in
theorem apply_4 (A0 : Option Addr) (c0 : Nat) (A1 : Option Addr) (c1 : Nat) (A2 : Option Addr) (c2 : Nat) (A3 : Option Addr) (c3 : Nat) (o : O) (kd a : Int) (E2 : Option Addr) (e2 : Nat) (E3 : Option Addr) (e3 : Nat) (E4 : Option Addr) (e4 : Nat) (ke va ol : List Int) (w : World) (hc : OC w o A0 c0 A1 c1 A2 c2 A3 c3) (hb : OB o) (hx : XC w ke va ol E2 e2 E3 e3 E4 e4) (hkd : kd = 4) :
  Calls Try.prog 10 #[.agg #[.slice A0 o.reg.length c0, .slice A1 o.que.length c1, .slice A2 o.loc.length c2, .slice A3 o.map.length c3], .agg #[.int .i64 kd, .int .i64 a, .slice E2 ke.length e2, .slice E3 va.length e3, .slice E4 ol.length e4]] w (TA w ({ o with que := (pushR o.que va).1 }) (pushR o.que va).2) := by
 subst hkd
 have HC := Aside0.mk hc
 have HO := Aside0.mk hb
 have HX := Aside0.mk hx
 clear hc hb hx
 have HB := Aside0.mk (Below.refl w.heap.size w)
 go_enter Try.func10, Try.ntmps10
 go_wp2_with fail
 generalize hV0 : World.alloc _ _ = V0
 obtain ⟨K0, K1, K2, K3, hb_, SV0⟩ := al4 hV0
 clear hV0
 replace HB := HBs HB hb_
 clear hb_
 refine (objs28 A0 c0 A1 c1 A2 c2 A3 c3 o V0 (HC.out.below HB.out) HO.out).mono ?_
 rintro e w1 ⟨B0, d0, B1, d1, B2, d2, B3, d3, rfl, hF, hb_⟩
 obtain ⟨b1, hb1⟩ : ∃ b_, b_ = V0.heap.size := ⟨_, rfl⟩
 obtain ⟨m1, hm1⟩ : ∃ b_, b_ = w1.heap.size := ⟨_, rfl⟩
 have L0 := Aside0.mk hF.h0
 have F0 := Aside0.mk (Kd.F_mono (Kd.F_bound hF.r0) (ok' := fun k => b1 ≤ k ∧ k < m1) (mq hb1 hm1))
 have L1 := Aside0.mk hF.h1
 have F1 := Aside0.mk (Kd.F_mono (Kd.F_bound hF.r1) (ok' := fun k => b1 ≤ k ∧ k < m1) (mq hb1 hm1))
 have L2 := Aside0.mk hF.h2
 have F2 := Aside0.mk (Kd.F_mono (Kd.F_bound hF.r2) (ok' := fun k => b1 ≤ k ∧ k < m1) (mq hb1 hm1))
 have L3 := Aside0.mk hF.h3
 have F3 := Aside0.mk (Kd.F_mono (Kd.F_bound hF.r3) (ok' := fun k => b1 ≤ k ∧ k < m1) (mq hb1 hm1))
 have Z1 := Aside0.mk (show w.heap.size + 4 ≤ b1 ∧ b1 ≤ m1 from ⟨by rw [hb1, SV0.out]; exact Nat.le_refl _, by rw [hb1, hm1]; exact hb_.size⟩)
 clear hF hb1
 replace HB := HBs HB hb_
 replace K0 := KB K0 hb_
 replace K1 := KB K1 hb_
 replace K2 := KB K2 hb_
 replace K3 := KB K3 hb_
 clear hb_
 obtain ⟨x0, x1, x2, x3, x40, x41, x42, x43⟩ := cel4 K0.out
 go_wp2_with (
  (with_reducible refine gate_dst (N := 6) rfl ?_)
  clear x0 x1 x2 x3 x40 x41 x42 x43
  generalize hV2 : World.setCell (World.setCell (World.setCell (World.setCell w1 _ _) _ _) _ _) _ _ = V2
  have hge_ : w.heap.size ≤ w.heap.size := by have z_ := Z1.out; omega
  have hst_ := st4 HB.out hge_ K0.out hV2
  replace HB := Aside0.mk hst_.1
  replace K0 := Aside0.mk hst_.2.1
  have z_ := Z1.out
  replace K1 := KS K1 hst_ (by omega)
  replace K2 := KS K2 hst_ (by omega)
  replace K3 := KS K3 hst_ (by omega)
  have e0_ : ∀ k_, (b1 ≤ k_ ∧ k_ < m1) → k_ ≠ w.heap.size := fun k_ h_ => by omega
  replace F0 := FS F0 hst_ e0_
  replace F1 := FS F1 hst_ e0_
  replace F2 := FS F2 hst_ e0_
  replace F3 := FS F3 hst_ e0_
  clear e0_
  have SV2 := Aside0.mk hst_.2.2.2
  clear hV2 hst_ hge_ z_
  refine box_event ?hg (N := 6) ?hd (cs := #[.int .i64 0, .slice none 0 0, .int .i64 0]) (t := 34) ?hr ?_
  (case hd => rfl)
  (case hg => rfl)
  (case hr => go_simp <;> rfl)
  intro g6 hg V3 hbox hb_
  have K6 := Aside0.mk hbox
  have hlt_ := (Array.getElem?_eq_some_iff.1 hbox).1
  have ZZ := Aside0.mk (show w.heap.size + 4 ≤ b1 ∧ b1 ≤ m1 ∧ m1 ≤ g6 ∧ g6 < V3.heap.size from ⟨Z1.out.1, Z1.out.2, by rw [hg, SV2.out, hm1]; exact Nat.le_refl _, hlt_⟩)
  clear hg hm1 Z1 SV2 SV0 hbox hlt_
  replace HB := HBs HB hb_
  replace K0 := KB K0 hb_
  replace K1 := KB K1 hb_
  replace K2 := KB K2 hb_
  replace K3 := KB K3 hb_
  replace F0 := FB F0 hb_
  replace F1 := FB F1 hb_
  replace F2 := FB F2 hb_
  replace F3 := FB F3 hb_
  clear hb_
  obtain ⟨x0, x1, x2, x3, x40, x41, x42, x43⟩ := cel4 K0.out
  obtain ⟨y0, y1, y2, y3, y4, y50, y51, y52, y53, y54⟩ := cel5 K1.out)
 clear x0 x1 x2 x3 x40 x41 x42 x43
 clear y0 y1 y2 y3 y4 y50 y51 y52 y53 y54
 refine (push32 B1 d1 o.que E3 e3 va V3 (Kd.F_now F1.out) L1.out HO.out.b1 HO.out.e1 (Kd.C_below HX.out.r3 HB.out) HX.out.h3 HX.out.b3).mono ?_
 rintro e w4 ⟨A9, c9, Av, cv, rfl, hc9, hF9, hcv, hFv, hb_⟩
 have L9 := Aside0.mk hc9
 have F9 := Aside0.mk (Kd.F_mono hF9 (ok' := fun k_ => g6 < k_) (fun k hk => by have z_ := ZZ.out; have h2 : V3.heap.size ≤ k := hk; show g6 < k; omega))
 clear hF9 hc9
 have LV := Aside0.mk hcv
 have FV := Aside0.mk (Kd.F_mono hFv (ok' := fun k_ => g6 < k_) (fun k hk => by have z_ := ZZ.out; have h2 : V3.heap.size ≤ k := hk; show g6 < k; omega))
 clear hFv hcv
 replace HB := HBs HB hb_
 replace K0 := KB K0 hb_
 replace K1 := KB K1 hb_
 replace K2 := KB K2 hb_
 replace K3 := KB K3 hb_
 replace K6 := KB K6 hb_
 replace F0 := FB F0 hb_
 replace F1 := FB F1 hb_
 replace F2 := FB F2 hb_
 replace F3 := FB F3 hb_
 clear hb_
 have n6 : ¬ g6 = w.heap.size := by have z_ := ZZ.out; omega
 have n6' : ¬ w.heap.size = g6 := by have z_ := ZZ.out; omega
 obtain ⟨x0, x1, x2, x3, x40, x41, x42, x43⟩ := cel4 K0.out
 obtain ⟨v0, v1, v2, v30, v31, v32⟩ := cel3 K6.out
 go_wp2_with fail
 clear x0 x1 x2 x3 x40 x41 x42 x43
 clear v0 v1 v2 v30 v31 v32
 clear n6 n6'
 obtain ⟨V5, hV5⟩ : ∃ V_, V_ = (w4.setCell ⟨w.heap.size, 1, none⟩ (.slice A9 (pushR o.que va).1.length c9)) := ⟨_, rfl⟩
 rw [← hV5]
 have hge_ : w.heap.size ≤ w.heap.size := by have z_ := ZZ.out; omega
 have hst_ : St w.heap.size w (w.heap.size) 32 #[.slice B0 o.reg.length d0, .slice A9 (pushR o.que va).1.length c9, .slice B2 o.loc.length d2, .slice B3 o.map.length d3] w4 V5 := by rw [hV5]; exact (St.first HB.out hge_ K0.out 1 _ rfl)
 replace HB := Aside0.mk hst_.1
 replace K0 := Aside0.mk hst_.2.1
 have z_ := ZZ.out
 replace K1 := KS K1 hst_ (by omega)
 replace K2 := KS K2 hst_ (by omega)
 replace K3 := KS K3 hst_ (by omega)
 replace K6 := KS K6 hst_ (by omega)
 have e0_ : ∀ k_, (b1 ≤ k_ ∧ k_ < m1) → k_ ≠ w.heap.size := fun k_ h_ => by omega
 replace F0 := FS F0 hst_ e0_
 replace F1 := FS F1 hst_ e0_
 replace F2 := FS F2 hst_ e0_
 replace F3 := FS F3 hst_ e0_
 have e1_ : ∀ k_, (g6 < k_) → k_ ≠ w.heap.size := fun k_ h_ => by omega
 replace FV := FS FV hst_ e1_
 replace F9 := FS F9 hst_ e1_
 clear e0_ e1_
 have SV5 := Aside0.mk hst_.2.2.2
 clear hV5 hst_ hge_ z_
 generalize hV6 : World.setCell (World.setCell (World.setCell V5 _ _) _ _) _ _ = V6
 have hge_ : w.heap.size ≤ g6 := by have z_ := ZZ.out; omega
 have hst_ := st3 HB.out hge_ K6.out hV6
 replace HB := Aside0.mk hst_.1
 replace K6 := Aside0.mk hst_.2.1
 have z_ := ZZ.out
 replace K0 := KS K0 hst_ (by omega)
 replace K1 := KS K1 hst_ (by omega)
 replace K2 := KS K2 hst_ (by omega)
 replace K3 := KS K3 hst_ (by omega)
 have e0_ : ∀ k_, (b1 ≤ k_ ∧ k_ < m1) → k_ ≠ g6 := fun k_ h_ => by omega
 replace F0 := FS F0 hst_ e0_
 replace F1 := FS F1 hst_ e0_
 replace F2 := FS F2 hst_ e0_
 replace F3 := FS F3 hst_ e0_
 have e1_ : ∀ k_, (g6 < k_) → k_ ≠ g6 := fun k_ h_ => by omega
 replace FV := FS FV hst_ e1_
 replace F9 := FS F9 hst_ e1_
 clear e0_ e1_
 have SV6 := Aside0.mk hst_.2.2.2
 clear hV6 hst_ hge_ z_
 obtain ⟨x0, x1, x2, x3, x40, x41, x42, x43⟩ := cel4 K0.out
 obtain ⟨v0, v1, v2, v30, v31, v32⟩ := cel3 K6.out
 obtain ⟨s0, s1, s2, s3, s40, s41, s42, s43⟩ := cel4 K2.out
 obtain ⟨t0, t1, t2, t30, t31, t32⟩ := cel3 K3.out
 have n0 : ¬ g6 = w.heap.size + 1 + 1 := by have z_ := ZZ.out; omega
 have n0' : ¬ w.heap.size + 1 + 1 = g6 := by have z_ := ZZ.out; omega
 have n1 : ¬ g6 = w.heap.size + 1 + 1 + 1 := by have z_ := ZZ.out; omega
 have n1' : ¬ w.heap.size + 1 + 1 + 1 = g6 := by have z_ := ZZ.out; omega
 go_wp2_with fail
 go_region
 clear n0 n0' n1 n1'
 clear x0 x1 x2 x3 x40 x41 x42 x43
 clear v0 v1 v2 v30 v31 v32
 clear s0 s1 s2 s3 s40 s41 s42 s43
 clear t0 t1 t2 t30 t31 t32
 generalize hV7 : World.setCell (World.setCell (World.setCell (World.setCell V6 _ _) _ _) _ _) _ _ = V7
 have hge_ : w.heap.size ≤ w.heap.size + 1 + 1 := by have z_ := ZZ.out; omega
 have hst_ := st4 HB.out hge_ K2.out hV7
 replace HB := Aside0.mk hst_.1
 replace K2 := Aside0.mk hst_.2.1
 have z_ := ZZ.out
 replace K0 := KS K0 hst_ (by omega)
 replace K1 := KS K1 hst_ (by omega)
 replace K3 := KS K3 hst_ (by omega)
 replace K6 := KS K6 hst_ (by omega)
 have e0_ : ∀ k_, (b1 ≤ k_ ∧ k_ < m1) → k_ ≠ w.heap.size + 1 + 1 := fun k_ h_ => by omega
 replace F0 := FS F0 hst_ e0_
 replace F1 := FS F1 hst_ e0_
 replace F2 := FS F2 hst_ e0_
 replace F3 := FS F3 hst_ e0_
 have e1_ : ∀ k_, (g6 < k_) → k_ ≠ w.heap.size + 1 + 1 := fun k_ h_ => by omega
 replace FV := FS FV hst_ e1_
 replace F9 := FS F9 hst_ e1_
 clear e0_ e1_
 have SV7 := Aside0.mk hst_.2.2.2
 clear hV7 hst_ hge_ z_
 generalize hV8 : World.setCell (World.setCell (World.setCell V7 _ _) _ _) _ _ = V8
 have hge_ : w.heap.size ≤ w.heap.size + 1 + 1 + 1 := by have z_ := ZZ.out; omega
 have hst_ := st3 HB.out hge_ K3.out hV8
 replace HB := Aside0.mk hst_.1
 replace K3 := Aside0.mk hst_.2.1
 have z_ := ZZ.out
 replace K0 := KS K0 hst_ (by omega)
 replace K1 := KS K1 hst_ (by omega)
 replace K2 := KS K2 hst_ (by omega)
 replace K6 := KS K6 hst_ (by omega)
 have e0_ : ∀ k_, (b1 ≤ k_ ∧ k_ < m1) → k_ ≠ w.heap.size + 1 + 1 + 1 := fun k_ h_ => by omega
 replace F0 := FS F0 hst_ e0_
 replace F1 := FS F1 hst_ e0_
 replace F2 := FS F2 hst_ e0_
 replace F3 := FS F3 hst_ e0_
 have e1_ : ∀ k_, (g6 < k_) → k_ ≠ w.heap.size + 1 + 1 + 1 := fun k_ h_ => by omega
 replace FV := FS FV hst_ e1_
 replace F9 := FS F9 hst_ e1_
 clear e0_ e1_
 have SV8 := Aside0.mk hst_.2.2.2
 clear hV8 hst_ hge_ z_
 have bd_ := below_drew1 (Below.refl V8.heap.size V8)
 replace HB := HBs HB bd_
 replace K0 := KB K0 bd_
 replace K1 := KB K1 bd_
 replace K2 := KB K2 bd_
 replace K3 := KB K3 bd_
 replace K6 := KB K6 bd_
 replace F0 := FB F0 bd_
 replace F1 := FB F1 bd_
 replace F2 := FB F2 bd_
 replace F3 := FB F3 bd_
 replace FV := FB FV bd_
 replace F9 := FB F9 bd_
 clear bd_
 go_wp2
 refine bodyPost_ret (results_cc rfl _ _ (w.heap.size + 1 + 1) (w.heap.size + 1 + 1 + 1) 32 34 #[.slice B0 o.reg.length d0, .slice A9 (pushR o.que va).1.length c9, .slice B2 o.loc.length d2, .slice B3 o.map.length d3] #[.int .i64 (pushR o.que va).2.f0, .slice Av (pushR o.que va).2.f1.length cv, .int .i64 (pushR o.que va).2.f2] (0, 0) (0, 0) _ _ rfl K2.out Try.underlying32 rfl (by kernel_rfl) rfl K3.out Try.underlying34 rfl (by kernel_rfl)) rfl ?_
 exact ⟨B0, d0, A9, c9, B2, d2, B3, d3, Av, cv, rfl, ⟨L0.out, Kd.F_mono F0.out (fun _ h => zq ZZ.out.1 h), L9.out, Kd.F_mono F9.out (fun k_ hk => by have z_ := ZZ.out; have h2 : g6 < k_ := hk; show w.heap.size ≤ k_; omega), L2.out, Kd.F_mono F2.out (fun _ h => zq ZZ.out.1 h), L3.out, Kd.F_mono F3.out (fun _ h => zq ZZ.out.1 h)⟩, LV.out, Kd.F_mono FV.out (fun k_ hk => by have z_ := ZZ.out; have h2 : g6 < k_ := hk; show w.heap.size ≤ k_; omega), HB.out⟩
set_option maxHeartbeats 4000000 in
theorem apply_5 (A0 : Option Addr) (c0 : Nat) (A1 : Option Addr) (c1 : Nat) (A2 : Option Addr) (c2 : Nat) (A3 : Option Addr) (c3 : Nat) (o : O) (kd a : Int) (E2 : Option Addr) (e2 : Nat) (E3 : Option Addr) (e3 : Nat) (E4 : Option Addr) (e4 : Nat) (ke va ol : List Int) (w : World) (hc : OC w o A0 c0 A1 c1 A2 c2 A3 c3) (hb : OB o) (hx : XC w ke va ol E2 e2 E3 e3 E4 e4) (hkd : kd = 5) :
  Calls Try.prog 10 #[.agg #[.slice A0 o.reg.length c0, .slice A1 o.que.length c1, .slice A2 o.loc.length c2, .slice A3 o.map.length c3], .agg #[.int .i64 kd, .int .i64 a, .slice E2 ke.length e2, .slice E3 va.length e3, .slice E4 ol.length e4]] w (TA w ({ o with que := (popR o.que).1 }) (popR o.que).2) := by
 subst hkd
 have HC := Aside0.mk hc
 have HO := Aside0.mk hb
 have HX := Aside0.mk hx
 clear hc hb hx
 have HB := Aside0.mk (Below.refl w.heap.size w)
 go_enter Try.func10, Try.ntmps10
 go_wp2_with fail
 generalize hV0 : World.alloc _ _ = V0
 obtain ⟨K0, K1, K2, K3, hb_, SV0⟩ := al4 hV0
 clear hV0
 replace HB := HBs HB hb_
 clear hb_
 refine (objs28 A0 c0 A1 c1 A2 c2 A3 c3 o V0 (HC.out.below HB.out) HO.out).mono ?_
 rintro e w1 ⟨B0, d0, B1, d1, B2, d2, B3, d3, rfl, hF, hb_⟩
 obtain ⟨b1, hb1⟩ : ∃ b_, b_ = V0.heap.size := ⟨_, rfl⟩
 obtain ⟨m1, hm1⟩ : ∃ b_, b_ = w1.heap.size := ⟨_, rfl⟩
 have L0 := Aside0.mk hF.h0
 have F0 := Aside0.mk (Kd.F_mono (Kd.F_bound hF.r0) (ok' := fun k => b1 ≤ k ∧ k < m1) (mq hb1 hm1))
 have L1 := Aside0.mk hF.h1
 have F1 := Aside0.mk (Kd.F_mono (Kd.F_bound hF.r1) (ok' := fun k => b1 ≤ k ∧ k < m1) (mq hb1 hm1))
 have L2 := Aside0.mk hF.h2
 have F2 := Aside0.mk (Kd.F_mono (Kd.F_bound hF.r2) (ok' := fun k => b1 ≤ k ∧ k < m1) (mq hb1 hm1))
 have L3 := Aside0.mk hF.h3
 have F3 := Aside0.mk (Kd.F_mono (Kd.F_bound hF.r3) (ok' := fun k => b1 ≤ k ∧ k < m1) (mq hb1 hm1))
 have Z1 := Aside0.mk (show w.heap.size + 4 ≤ b1 ∧ b1 ≤ m1 from ⟨by rw [hb1, SV0.out]; exact Nat.le_refl _, by rw [hb1, hm1]; exact hb_.size⟩)
 clear hF hb1
 replace HB := HBs HB hb_
 replace K0 := KB K0 hb_
 replace K1 := KB K1 hb_
 replace K2 := KB K2 hb_
 replace K3 := KB K3 hb_
 clear hb_
 obtain ⟨x0, x1, x2, x3, x40, x41, x42, x43⟩ := cel4 K0.out
 go_wp2_with (
  (with_reducible refine gate_dst (N := 6) rfl ?_)
  clear x0 x1 x2 x3 x40 x41 x42 x43
  generalize hV2 : World.setCell (World.setCell (World.setCell (World.setCell w1 _ _) _ _) _ _) _ _ = V2
  have hge_ : w.heap.size ≤ w.heap.size := by have z_ := Z1.out; omega
  have hst_ := st4 HB.out hge_ K0.out hV2
  replace HB := Aside0.mk hst_.1
  replace K0 := Aside0.mk hst_.2.1
  have z_ := Z1.out
  replace K1 := KS K1 hst_ (by omega)
  replace K2 := KS K2 hst_ (by omega)
  replace K3 := KS K3 hst_ (by omega)
  have e0_ : ∀ k_, (b1 ≤ k_ ∧ k_ < m1) → k_ ≠ w.heap.size := fun k_ h_ => by omega
  replace F0 := FS F0 hst_ e0_
  replace F1 := FS F1 hst_ e0_
  replace F2 := FS F2 hst_ e0_
  replace F3 := FS F3 hst_ e0_
  clear e0_
  have SV2 := Aside0.mk hst_.2.2.2
  clear hV2 hst_ hge_ z_
  refine box_event ?hg (N := 6) ?hd (cs := #[.int .i64 0, .slice none 0 0, .int .i64 0]) (t := 34) ?hr ?_
  (case hd => rfl)
  (case hg => rfl)
  (case hr => go_simp <;> rfl)
  intro g6 hg V3 hbox hb_
  have K6 := Aside0.mk hbox
  have hlt_ := (Array.getElem?_eq_some_iff.1 hbox).1
  have ZZ := Aside0.mk (show w.heap.size + 4 ≤ b1 ∧ b1 ≤ m1 ∧ m1 ≤ g6 ∧ g6 < V3.heap.size from ⟨Z1.out.1, Z1.out.2, by rw [hg, SV2.out, hm1]; exact Nat.le_refl _, hlt_⟩)
  clear hg hm1 Z1 SV2 SV0 hbox hlt_
  replace HB := HBs HB hb_
  replace K0 := KB K0 hb_
  replace K1 := KB K1 hb_
  replace K2 := KB K2 hb_
  replace K3 := KB K3 hb_
  replace F0 := FB F0 hb_
  replace F1 := FB F1 hb_
  replace F2 := FB F2 hb_
  replace F3 := FB F3 hb_
  clear hb_
  obtain ⟨x0, x1, x2, x3, x40, x41, x42, x43⟩ := cel4 K0.out
  obtain ⟨y0, y1, y2, y3, y4, y50, y51, y52, y53, y54⟩ := cel5 K1.out)
 clear x0 x1 x2 x3 x40 x41 x42 x43
 clear y0 y1 y2 y3 y4 y50 y51 y52 y53 y54
 refine (pop33 B1 d1 o.que V3 (Kd.F_now F1.out) L1.out HO.out.b1 HO.out.e1).mono ?_
 rintro e w4 ⟨A9, c9, Av, cv, rfl, hc9, hF9, hcv, hFv, hb_⟩
 have L9 := Aside0.mk hc9
 have F9 := Aside0.mk (Kd.F_mono hF9 (ok' := fun k_ => g6 < k_) (fun k hk => by have z_ := ZZ.out; have h2 : V3.heap.size ≤ k := hk; show g6 < k; omega))
 clear hF9 hc9
 have LV := Aside0.mk hcv
 have FV := Aside0.mk (Kd.F_mono hFv (ok' := fun k_ => g6 < k_) (fun k hk => by have z_ := ZZ.out; have h2 : V3.heap.size ≤ k := hk; show g6 < k; omega))
 clear hFv hcv
 replace HB := HBs HB hb_
 replace K0 := KB K0 hb_
 replace K1 := KB K1 hb_
 replace K2 := KB K2 hb_
 replace K3 := KB K3 hb_
 replace K6 := KB K6 hb_
 replace F0 := FB F0 hb_
 replace F1 := FB F1 hb_
 replace F2 := FB F2 hb_
 replace F3 := FB F3 hb_
 clear hb_
 have n6 : ¬ g6 = w.heap.size := by have z_ := ZZ.out; omega
 have n6' : ¬ w.heap.size = g6 := by have z_ := ZZ.out; omega
 obtain ⟨x0, x1, x2, x3, x40, x41, x42, x43⟩ := cel4 K0.out
 obtain ⟨v0, v1, v2, v30, v31, v32⟩ := cel3 K6.out
 go_wp2_with fail
 clear x0 x1 x2 x3 x40 x41 x42 x43
 clear v0 v1 v2 v30 v31 v32
 clear n6 n6'
 obtain ⟨V5, hV5⟩ : ∃ V_, V_ = (w4.setCell ⟨w.heap.size, 1, none⟩ (.slice A9 (popR o.que).1.length c9)) := ⟨_, rfl⟩
 rw [← hV5]
 have hge_ : w.heap.size ≤ w.heap.size := by have z_ := ZZ.out; omega
 have hst_ : St w.heap.size w (w.heap.size) 32 #[.slice B0 o.reg.length d0, .slice A9 (popR o.que).1.length c9, .slice B2 o.loc.length d2, .slice B3 o.map.length d3] w4 V5 := by rw [hV5]; exact (St.first HB.out hge_ K0.out 1 _ rfl)
 replace HB := Aside0.mk hst_.1
 replace K0 := Aside0.mk hst_.2.1
 have z_ := ZZ.out
 replace K1 := KS K1 hst_ (by omega)
 replace K2 := KS K2 hst_ (by omega)
 replace K3 := KS K3 hst_ (by omega)
 replace K6 := KS K6 hst_ (by omega)
 have e0_ : ∀ k_, (b1 ≤ k_ ∧ k_ < m1) → k_ ≠ w.heap.size := fun k_ h_ => by omega
 replace F0 := FS F0 hst_ e0_
 replace F1 := FS F1 hst_ e0_
 replace F2 := FS F2 hst_ e0_
 replace F3 := FS F3 hst_ e0_
 have e1_ : ∀ k_, (g6 < k_) → k_ ≠ w.heap.size := fun k_ h_ => by omega
 replace FV := FS FV hst_ e1_
 replace F9 := FS F9 hst_ e1_
 clear e0_ e1_
 have SV5 := Aside0.mk hst_.2.2.2
 clear hV5 hst_ hge_ z_
 generalize hV6 : World.setCell (World.setCell (World.setCell V5 _ _) _ _) _ _ = V6
 have hge_ : w.heap.size ≤ g6 := by have z_ := ZZ.out; omega
 have hst_ := st3 HB.out hge_ K6.out hV6
 replace HB := Aside0.mk hst_.1
 replace K6 := Aside0.mk hst_.2.1
 have z_ := ZZ.out
 replace K0 := KS K0 hst_ (by omega)
 replace K1 := KS K1 hst_ (by omega)
 replace K2 := KS K2 hst_ (by omega)
 replace K3 := KS K3 hst_ (by omega)
 have e0_ : ∀ k_, (b1 ≤ k_ ∧ k_ < m1) → k_ ≠ g6 := fun k_ h_ => by omega
 replace F0 := FS F0 hst_ e0_
 replace F1 := FS F1 hst_ e0_
 replace F2 := FS F2 hst_ e0_
 replace F3 := FS F3 hst_ e0_
 have e1_ : ∀ k_, (g6 < k_) → k_ ≠ g6 := fun k_ h_ => by omega
 replace FV := FS FV hst_ e1_
 replace F9 := FS F9 hst_ e1_
 clear e0_ e1_
 have SV6 := Aside0.mk hst_.2.2.2
 clear hV6 hst_ hge_ z_
 obtain ⟨x0, x1, x2, x3, x40, x41, x42, x43⟩ := cel4 K0.out
 obtain ⟨v0, v1, v2, v30, v31, v32⟩ := cel3 K6.out
 obtain ⟨s0, s1, s2, s3, s40, s41, s42, s43⟩ := cel4 K2.out
 obtain ⟨t0, t1, t2, t30, t31, t32⟩ := cel3 K3.out
 have n0 : ¬ g6 = w.heap.size + 1 + 1 := by have z_ := ZZ.out; omega
 have n0' : ¬ w.heap.size + 1 + 1 = g6 := by have z_ := ZZ.out; omega
 have n1 : ¬ g6 = w.heap.size + 1 + 1 + 1 := by have z_ := ZZ.out; omega
 have n1' : ¬ w.heap.size + 1 + 1 + 1 = g6 := by have z_ := ZZ.out; omega
 go_wp2_with fail
 go_region
 clear n0 n0' n1 n1'
 clear x0 x1 x2 x3 x40 x41 x42 x43
 clear v0 v1 v2 v30 v31 v32
 clear s0 s1 s2 s3 s40 s41 s42 s43
 clear t0 t1 t2 t30 t31 t32
 generalize hV7 : World.setCell (World.setCell (World.setCell (World.setCell V6 _ _) _ _) _ _) _ _ = V7
 have hge_ : w.heap.size ≤ w.heap.size + 1 + 1 := by have z_ := ZZ.out; omega
 have hst_ := st4 HB.out hge_ K2.out hV7
 replace HB := Aside0.mk hst_.1
 replace K2 := Aside0.mk hst_.2.1
 have z_ := ZZ.out
 replace K0 := KS K0 hst_ (by omega)
 replace K1 := KS K1 hst_ (by omega)
 replace K3 := KS K3 hst_ (by omega)
 replace K6 := KS K6 hst_ (by omega)
 have e0_ : ∀ k_, (b1 ≤ k_ ∧ k_ < m1) → k_ ≠ w.heap.size + 1 + 1 := fun k_ h_ => by omega
 replace F0 := FS F0 hst_ e0_
 replace F1 := FS F1 hst_ e0_
 replace F2 := FS F2 hst_ e0_
 replace F3 := FS F3 hst_ e0_
 have e1_ : ∀ k_, (g6 < k_) → k_ ≠ w.heap.size + 1 + 1 := fun k_ h_ => by omega
 replace FV := FS FV hst_ e1_
 replace F9 := FS F9 hst_ e1_
 clear e0_ e1_
 have SV7 := Aside0.mk hst_.2.2.2
 clear hV7 hst_ hge_ z_
 generalize hV8 : World.setCell (World.setCell (World.setCell V7 _ _) _ _) _ _ = V8
 have hge_ : w.heap.size ≤ w.heap.size + 1 + 1 + 1 := by have z_ := ZZ.out; omega
 have hst_ := st3 HB.out hge_ K3.out hV8
 replace HB := Aside0.mk hst_.1
 replace K3 := Aside0.mk hst_.2.1
 have z_ := ZZ.out
 replace K0 := KS K0 hst_ (by omega)
 replace K1 := KS K1 hst_ (by omega)
 replace K2 := KS K2 hst_ (by omega)
 replace K6 := KS K6 hst_ (by omega)
 have e0_ : ∀ k_, (b1 ≤ k_ ∧ k_ < m1) → k_ ≠ w.heap.size + 1 + 1 + 1 := fun k_ h_ => by omega
 replace F0 := FS F0 hst_ e0_
 replace F1 := FS F1 hst_ e0_
 replace F2 := FS F2 hst_ e0_
 replace F3 := FS F3 hst_ e0_
 have e1_ : ∀ k_, (g6 < k_) → k_ ≠ w.heap.size + 1 + 1 + 1 := fun k_ h_ => by omega
 replace FV := FS FV hst_ e1_
 replace F9 := FS F9 hst_ e1_
 clear e0_ e1_
 have SV8 := Aside0.mk hst_.2.2.2
 clear hV8 hst_ hge_ z_
 have bd_ := below_drew1 (Below.refl V8.heap.size V8)
 replace HB := HBs HB bd_
 replace K0 := KB K0 bd_
 replace K1 := KB K1 bd_
 replace K2 := KB K2 bd_
 replace K3 := KB K3 bd_
 replace K6 := KB K6 bd_
 replace F0 := FB F0 bd_
 replace F1 := FB F1 bd_
 replace F2 := FB F2 bd_
 replace F3 := FB F3 bd_
 replace FV := FB FV bd_
 replace F9 := FB F9 bd_
 clear bd_
 go_wp2
 refine bodyPost_ret (results_cc rfl _ _ (w.heap.size + 1 + 1) (w.heap.size + 1 + 1 + 1) 32 34 #[.slice B0 o.reg.length d0, .slice A9 (popR o.que).1.length c9, .slice B2 o.loc.length d2, .slice B3 o.map.length d3] #[.int .i64 (popR o.que).2.f0, .slice Av (popR o.que).2.f1.length cv, .int .i64 (popR o.que).2.f2] (0, 0) (0, 0) _ _ rfl K2.out Try.underlying32 rfl (by kernel_rfl) rfl K3.out Try.underlying34 rfl (by kernel_rfl)) rfl ?_
 exact ⟨B0, d0, A9, c9, B2, d2, B3, d3, Av, cv, rfl, ⟨L0.out, Kd.F_mono F0.out (fun _ h => zq ZZ.out.1 h), L9.out, Kd.F_mono F9.out (fun k_ hk => by have z_ := ZZ.out; have h2 : g6 < k_ := hk; show w.heap.size ≤ k_; omega), L2.out, Kd.F_mono F2.out (fun _ h => zq ZZ.out.1 h), L3.out, Kd.F_mono F3.out (fun _ h => zq ZZ.out.1 h)⟩, LV.out, Kd.F_mono FV.out (fun k_ hk => by have z_ := ZZ.out; have h2 : g6 < k_ := hk; show w.heap.size ≤ k_; omega), HB.out⟩
set_option maxHeartbeats 4000000 in
theorem apply_6 (A0 : Option Addr) (c0 : Nat) (A1 : Option Addr) (c1 : Nat) (A2 : Option Addr) (c2 : Nat) (A3 : Option Addr) (c3 : Nat) (o : O) (kd a : Int) (E2 : Option Addr) (e2 : Nat) (E3 : Option Addr) (e3 : Nat) (E4 : Option Addr) (e4 : Nat) (ke va ol : List Int) (w : World) (hc : OC w o A0 c0 A1 c1 A2 c2 A3 c3) (hb : OB o) (hx : XC w ke va ol E2 e2 E3 e3 E4 e4) (hkd : kd = 6) :
  Calls Try.prog 10 #[.agg #[.slice A0 o.reg.length c0, .slice A1 o.que.length c1, .slice A2 o.loc.length c2, .slice A3 o.map.length c3], .agg #[.int .i64 kd, .int .i64 a, .slice E2 ke.length e2, .slice E3 va.length e3, .slice E4 ol.length e4]] w (TA w ({ o with loc := (locksR o.loc 6 a).1 }) (locksR o.loc 6 a).2) := by
 subst hkd
 have HC := Aside0.mk hc
 have HO := Aside0.mk hb
 have HX := Aside0.mk hx
 clear hc hb hx
 have HB := Aside0.mk (Below.refl w.heap.size w)
 go_enter Try.func10, Try.ntmps10
 go_wp2_with fail
 generalize hV0 : World.alloc _ _ = V0
 obtain ⟨K0, K1, K2, K3, hb_, SV0⟩ := al4 hV0
 clear hV0
 replace HB := HBs HB hb_
 clear hb_
 refine (objs28 A0 c0 A1 c1 A2 c2 A3 c3 o V0 (HC.out.below HB.out) HO.out).mono ?_
 rintro e w1 ⟨B0, d0, B1, d1, B2, d2, B3, d3, rfl, hF, hb_⟩
 obtain ⟨b1, hb1⟩ : ∃ b_, b_ = V0.heap.size := ⟨_, rfl⟩
 obtain ⟨m1, hm1⟩ : ∃ b_, b_ = w1.heap.size := ⟨_, rfl⟩
 have L0 := Aside0.mk hF.h0
 have F0 := Aside0.mk (Kd.F_mono (Kd.F_bound hF.r0) (ok' := fun k => b1 ≤ k ∧ k < m1) (mq hb1 hm1))
 have L1 := Aside0.mk hF.h1
 have F1 := Aside0.mk (Kd.F_mono (Kd.F_bound hF.r1) (ok' := fun k => b1 ≤ k ∧ k < m1) (mq hb1 hm1))
 have L2 := Aside0.mk hF.h2
 have F2 := Aside0.mk (Kd.F_mono (Kd.F_bound hF.r2) (ok' := fun k => b1 ≤ k ∧ k < m1) (mq hb1 hm1))
 have L3 := Aside0.mk hF.h3
 have F3 := Aside0.mk (Kd.F_mono (Kd.F_bound hF.r3) (ok' := fun k => b1 ≤ k ∧ k < m1) (mq hb1 hm1))
 have Z1 := Aside0.mk (show w.heap.size + 4 ≤ b1 ∧ b1 ≤ m1 from ⟨by rw [hb1, SV0.out]; exact Nat.le_refl _, by rw [hb1, hm1]; exact hb_.size⟩)
 clear hF hb1
 replace HB := HBs HB hb_
 replace K0 := KB K0 hb_
 replace K1 := KB K1 hb_
 replace K2 := KB K2 hb_
 replace K3 := KB K3 hb_
 clear hb_
 obtain ⟨x0, x1, x2, x3, x40, x41, x42, x43⟩ := cel4 K0.out
 go_wp2_with (
  (with_reducible refine gate_dst (N := 6) rfl ?_)
  clear x0 x1 x2 x3 x40 x41 x42 x43
  generalize hV2 : World.setCell (World.setCell (World.setCell (World.setCell w1 _ _) _ _) _ _) _ _ = V2
  have hge_ : w.heap.size ≤ w.heap.size := by have z_ := Z1.out; omega
  have hst_ := st4 HB.out hge_ K0.out hV2
  replace HB := Aside0.mk hst_.1
  replace K0 := Aside0.mk hst_.2.1
  have z_ := Z1.out
  replace K1 := KS K1 hst_ (by omega)
  replace K2 := KS K2 hst_ (by omega)
  replace K3 := KS K3 hst_ (by omega)
  have e0_ : ∀ k_, (b1 ≤ k_ ∧ k_ < m1) → k_ ≠ w.heap.size := fun k_ h_ => by omega
  replace F0 := FS F0 hst_ e0_
  replace F1 := FS F1 hst_ e0_
  replace F2 := FS F2 hst_ e0_
  replace F3 := FS F3 hst_ e0_
  clear e0_
  have SV2 := Aside0.mk hst_.2.2.2
  clear hV2 hst_ hge_ z_
  refine box_event ?hg (N := 6) ?hd (cs := #[.int .i64 0, .slice none 0 0, .int .i64 0]) (t := 34) ?hr ?_
  (case hd => rfl)
  (case hg => rfl)
  (case hr => go_simp <;> rfl)
  intro g6 hg V3 hbox hb_
  have K6 := Aside0.mk hbox
  have hlt_ := (Array.getElem?_eq_some_iff.1 hbox).1
  have ZZ := Aside0.mk (show w.heap.size + 4 ≤ b1 ∧ b1 ≤ m1 ∧ m1 ≤ g6 ∧ g6 < V3.heap.size from ⟨Z1.out.1, Z1.out.2, by rw [hg, SV2.out, hm1]; exact Nat.le_refl _, hlt_⟩)
  clear hg hm1 Z1 SV2 SV0 hbox hlt_
  replace HB := HBs HB hb_
  replace K0 := KB K0 hb_
  replace K1 := KB K1 hb_
  replace K2 := KB K2 hb_
  replace K3 := KB K3 hb_
  replace F0 := FB F0 hb_
  replace F1 := FB F1 hb_
  replace F2 := FB F2 hb_
  replace F3 := FB F3 hb_
  clear hb_
  obtain ⟨x0, x1, x2, x3, x40, x41, x42, x43⟩ := cel4 K0.out
  obtain ⟨y0, y1, y2, y3, y4, y50, y51, y52, y53, y54⟩ := cel5 K1.out)
 clear x0 x1 x2 x3 x40 x41 x42 x43
 clear y0 y1 y2 y3 y4 y50 y51 y52 y53 y54
 refine (locks34 B2 d2 o.loc 6 a E2 E3 E4 ke.length e2 va.length e3 ol.length e4 V3 _ F2.out L2.out HO.out.b2).mono ?_
 rintro e w4 ⟨A9, c9, Av, cv, rfl, hc9, hF9, hcv, hFv, hb_⟩
 have L9 := Aside0.mk hc9
 have F9 := Aside0.mk (Kd.F_mono hF9 (ok' := fun k_ => b1 ≤ k_ ∧ k_ < m1 ∨ g6 < k_) (fun k hk => by have z_ := ZZ.out; have h2 : (b1 ≤ k ∧ k < m1) ∨ V3.heap.size ≤ k := hk; show b1 ≤ k ∧ k < m1 ∨ g6 < k; omega))
 clear hF9 hc9
 have LV := Aside0.mk hcv
 have FV := Aside0.mk (Kd.F_mono hFv (ok' := fun k_ => g6 < k_) (fun k hk => by have z_ := ZZ.out; have h2 : V3.heap.size ≤ k := hk; show g6 < k; omega))
 clear hFv hcv
 replace HB := HBs HB hb_
 replace K0 := KB K0 hb_
 replace K1 := KB K1 hb_
 replace K2 := KB K2 hb_
 replace K3 := KB K3 hb_
 replace K6 := KB K6 hb_
 replace F0 := FB F0 hb_
 replace F1 := FB F1 hb_
 replace F2 := FB F2 hb_
 replace F3 := FB F3 hb_
 clear hb_
 have n6 : ¬ g6 = w.heap.size := by have z_ := ZZ.out; omega
 have n6' : ¬ w.heap.size = g6 := by have z_ := ZZ.out; omega
 obtain ⟨x0, x1, x2, x3, x40, x41, x42, x43⟩ := cel4 K0.out
 obtain ⟨v0, v1, v2, v30, v31, v32⟩ := cel3 K6.out
 go_wp2_with fail
 clear x0 x1 x2 x3 x40 x41 x42 x43
 clear v0 v1 v2 v30 v31 v32
 clear n6 n6'
 obtain ⟨V5, hV5⟩ : ∃ V_, V_ = (w4.setCell ⟨w.heap.size, 2, none⟩ (.slice A9 (locksR o.loc 6 a).1.length c9)) := ⟨_, rfl⟩
 rw [← hV5]
 have hge_ : w.heap.size ≤ w.heap.size := by have z_ := ZZ.out; omega
 have hst_ : St w.heap.size w (w.heap.size) 32 #[.slice B0 o.reg.length d0, .slice B1 o.que.length d1, .slice A9 (locksR o.loc 6 a).1.length c9, .slice B3 o.map.length d3] w4 V5 := by rw [hV5]; exact (St.first HB.out hge_ K0.out 2 _ rfl)
 replace HB := Aside0.mk hst_.1
 replace K0 := Aside0.mk hst_.2.1
 have z_ := ZZ.out
 replace K1 := KS K1 hst_ (by omega)
 replace K2 := KS K2 hst_ (by omega)
 replace K3 := KS K3 hst_ (by omega)
 replace K6 := KS K6 hst_ (by omega)
 have e0_ : ∀ k_, (b1 ≤ k_ ∧ k_ < m1) → k_ ≠ w.heap.size := fun k_ h_ => by omega
 replace F0 := FS F0 hst_ e0_
 replace F1 := FS F1 hst_ e0_
 replace F2 := FS F2 hst_ e0_
 replace F3 := FS F3 hst_ e0_
 have e1_ : ∀ k_, (g6 < k_) → k_ ≠ w.heap.size := fun k_ h_ => by omega
 replace FV := FS FV hst_ e1_
 have e2_ : ∀ k_, (b1 ≤ k_ ∧ k_ < m1 ∨ g6 < k_) → k_ ≠ w.heap.size := fun k_ h_ => by omega
 replace F9 := FS F9 hst_ e2_
 clear e0_ e1_ e2_
 have SV5 := Aside0.mk hst_.2.2.2
 clear hV5 hst_ hge_ z_
 generalize hV6 : World.setCell (World.setCell (World.setCell V5 _ _) _ _) _ _ = V6
 have hge_ : w.heap.size ≤ g6 := by have z_ := ZZ.out; omega
 have hst_ := st3 HB.out hge_ K6.out hV6
 replace HB := Aside0.mk hst_.1
 replace K6 := Aside0.mk hst_.2.1
 have z_ := ZZ.out
 replace K0 := KS K0 hst_ (by omega)
 replace K1 := KS K1 hst_ (by omega)
 replace K2 := KS K2 hst_ (by omega)
 replace K3 := KS K3 hst_ (by omega)
 have e0_ : ∀ k_, (b1 ≤ k_ ∧ k_ < m1) → k_ ≠ g6 := fun k_ h_ => by omega
 replace F0 := FS F0 hst_ e0_
 replace F1 := FS F1 hst_ e0_
 replace F2 := FS F2 hst_ e0_
 replace F3 := FS F3 hst_ e0_
 have e1_ : ∀ k_, (g6 < k_) → k_ ≠ g6 := fun k_ h_ => by omega
 replace FV := FS FV hst_ e1_
 have e2_ : ∀ k_, (b1 ≤ k_ ∧ k_ < m1 ∨ g6 < k_) → k_ ≠ g6 := fun k_ h_ => by omega
 replace F9 := FS F9 hst_ e2_
 clear e0_ e1_ e2_
 have SV6 := Aside0.mk hst_.2.2.2
 clear hV6 hst_ hge_ z_
 obtain ⟨x0, x1, x2, x3, x40, x41, x42, x43⟩ := cel4 K0.out
 obtain ⟨v0, v1, v2, v30, v31, v32⟩ := cel3 K6.out
 obtain ⟨s0, s1, s2, s3, s40, s41, s42, s43⟩ := cel4 K2.out
 obtain ⟨t0, t1, t2, t30, t31, t32⟩ := cel3 K3.out
 have n0 : ¬ g6 = w.heap.size + 1 + 1 := by have z_ := ZZ.out; omega
 have n0' : ¬ w.heap.size + 1 + 1 = g6 := by have z_ := ZZ.out; omega
 have n1 : ¬ g6 = w.heap.size + 1 + 1 + 1 := by have z_ := ZZ.out; omega
 have n1' : ¬ w.heap.size + 1 + 1 + 1 = g6 := by have z_ := ZZ.out; omega
 go_wp2_with fail
 go_region
 clear n0 n0' n1 n1'
 clear x0 x1 x2 x3 x40 x41 x42 x43
 clear v0 v1 v2 v30 v31 v32
 clear s0 s1 s2 s3 s40 s41 s42 s43
 clear t0 t1 t2 t30 t31 t32
 generalize hV7 : World.setCell (World.setCell (World.setCell (World.setCell V6 _ _) _ _) _ _) _ _ = V7
 have hge_ : w.heap.size ≤ w.heap.size + 1 + 1 := by have z_ := ZZ.out; omega
 have hst_ := st4 HB.out hge_ K2.out hV7
 replace HB := Aside0.mk hst_.1
 replace K2 := Aside0.mk hst_.2.1
 have z_ := ZZ.out
 replace K0 := KS K0 hst_ (by omega)
 replace K1 := KS K1 hst_ (by omega)
 replace K3 := KS K3 hst_ (by omega)
 replace K6 := KS K6 hst_ (by omega)
 have e0_ : ∀ k_, (b1 ≤ k_ ∧ k_ < m1) → k_ ≠ w.heap.size + 1 + 1 := fun k_ h_ => by omega
 replace F0 := FS F0 hst_ e0_
 replace F1 := FS F1 hst_ e0_
 replace F2 := FS F2 hst_ e0_
 replace F3 := FS F3 hst_ e0_
 have e1_ : ∀ k_, (g6 < k_) → k_ ≠ w.heap.size + 1 + 1 := fun k_ h_ => by omega
 replace FV := FS FV hst_ e1_
 have e2_ : ∀ k_, (b1 ≤ k_ ∧ k_ < m1 ∨ g6 < k_) → k_ ≠ w.heap.size + 1 + 1 := fun k_ h_ => by omega
 replace F9 := FS F9 hst_ e2_
 clear e0_ e1_ e2_
 have SV7 := Aside0.mk hst_.2.2.2
 clear hV7 hst_ hge_ z_
 generalize hV8 : World.setCell (World.setCell (World.setCell V7 _ _) _ _) _ _ = V8
 have hge_ : w.heap.size ≤ w.heap.size + 1 + 1 + 1 := by have z_ := ZZ.out; omega
 have hst_ := st3 HB.out hge_ K3.out hV8
 replace HB := Aside0.mk hst_.1
 replace K3 := Aside0.mk hst_.2.1
 have z_ := ZZ.out
 replace K0 := KS K0 hst_ (by omega)
 replace K1 := KS K1 hst_ (by omega)
 replace K2 := KS K2 hst_ (by omega)
 replace K6 := KS K6 hst_ (by omega)
 have e0_ : ∀ k_, (b1 ≤ k_ ∧ k_ < m1) → k_ ≠ w.heap.size + 1 + 1 + 1 := fun k_ h_ => by omega
 replace F0 := FS F0 hst_ e0_
 replace F1 := FS F1 hst_ e0_
 replace F2 := FS F2 hst_ e0_
 replace F3 := FS F3 hst_ e0_
 have e1_ : ∀ k_, (g6 < k_) → k_ ≠ w.heap.size + 1 + 1 + 1 := fun k_ h_ => by omega
 replace FV := FS FV hst_ e1_
 have e2_ : ∀ k_, (b1 ≤ k_ ∧ k_ < m1 ∨ g6 < k_) → k_ ≠ w.heap.size + 1 + 1 + 1 := fun k_ h_ => by omega
 replace F9 := FS F9 hst_ e2_
 clear e0_ e1_ e2_
 have SV8 := Aside0.mk hst_.2.2.2
 clear hV8 hst_ hge_ z_
 have bd_ := below_drew1 (Below.refl V8.heap.size V8)
 replace HB := HBs HB bd_
 replace K0 := KB K0 bd_
 replace K1 := KB K1 bd_
 replace K2 := KB K2 bd_
 replace K3 := KB K3 bd_
 replace K6 := KB K6 bd_
 replace F0 := FB F0 bd_
 replace F1 := FB F1 bd_
 replace F2 := FB F2 bd_
 replace F3 := FB F3 bd_
 replace FV := FB FV bd_
 replace F9 := FB F9 bd_
 clear bd_
 go_wp2
 refine bodyPost_ret (results_cc rfl _ _ (w.heap.size + 1 + 1) (w.heap.size + 1 + 1 + 1) 32 34 #[.slice B0 o.reg.length d0, .slice B1 o.que.length d1, .slice A9 (locksR o.loc 6 a).1.length c9, .slice B3 o.map.length d3] #[.int .i64 (locksR o.loc 6 a).2.f0, .slice Av (locksR o.loc 6 a).2.f1.length cv, .int .i64 (locksR o.loc 6 a).2.f2] (0, 0) (0, 0) _ _ rfl K2.out Try.underlying32 rfl (by kernel_rfl) rfl K3.out Try.underlying34 rfl (by kernel_rfl)) rfl ?_
 exact ⟨B0, d0, B1, d1, A9, c9, B3, d3, Av, cv, rfl, ⟨L0.out, Kd.F_mono F0.out (fun _ h => zq ZZ.out.1 h), L1.out, Kd.F_mono F1.out (fun _ h => zq ZZ.out.1 h), L9.out, Kd.F_mono F9.out (fun k_ hk => by have z_ := ZZ.out; have h2 : b1 ≤ k_ ∧ k_ < m1 ∨ g6 < k_ := hk; show w.heap.size ≤ k_; omega), L3.out, Kd.F_mono F3.out (fun _ h => zq ZZ.out.1 h)⟩, LV.out, Kd.F_mono FV.out (fun k_ hk => by have z_ := ZZ.out; have h2 : g6 < k_ := hk; show w.heap.size ≤ k_; omega), HB.out⟩
set_option maxHeartbeats 4000000 in
theorem apply_7 (A0 : Option Addr) (c0 : Nat) (A1 : Option Addr) (c1 : Nat) (A2 : Option Addr) (c2 : Nat) (A3 : Option Addr) (c3 : Nat) (o : O) (kd a : Int) (E2 : Option Addr) (e2 : Nat) (E3 : Option Addr) (e3 : Nat) (E4 : Option Addr) (e4 : Nat) (ke va ol : List Int) (w : World) (hc : OC w o A0 c0 A1 c1 A2 c2 A3 c3) (hb : OB o) (hx : XC w ke va ol E2 e2 E3 e3 E4 e4) (hkd : kd = 7) :
  Calls Try.prog 10 #[.agg #[.slice A0 o.reg.length c0, .slice A1 o.que.length c1, .slice A2 o.loc.length c2, .slice A3 o.map.length c3], .agg #[.int .i64 kd, .int .i64 a, .slice E2 ke.length e2, .slice E3 va.length e3, .slice E4 ol.length e4]] w (TA w ({ o with loc := (locksR o.loc 7 a).1 }) (locksR o.loc 7 a).2) := by
 subst hkd
 have HC := Aside0.mk hc
 have HO := Aside0.mk hb
 have HX := Aside0.mk hx
 clear hc hb hx
 have HB := Aside0.mk (Below.refl w.heap.size w)
 go_enter Try.func10, Try.ntmps10
 go_wp2_with fail
 generalize hV0 : World.alloc _ _ = V0
 obtain ⟨K0, K1, K2, K3, hb_, SV0⟩ := al4 hV0
 clear hV0
 replace HB := HBs HB hb_
 clear hb_
 refine (objs28 A0 c0 A1 c1 A2 c2 A3 c3 o V0 (HC.out.below HB.out) HO.out).mono ?_
 rintro e w1 ⟨B0, d0, B1, d1, B2, d2, B3, d3, rfl, hF, hb_⟩
 obtain ⟨b1, hb1⟩ : ∃ b_, b_ = V0.heap.size := ⟨_, rfl⟩
 obtain ⟨m1, hm1⟩ : ∃ b_, b_ = w1.heap.size := ⟨_, rfl⟩
 have L0 := Aside0.mk hF.h0
 have F0 := Aside0.mk (Kd.F_mono (Kd.F_bound hF.r0) (ok' := fun k => b1 ≤ k ∧ k < m1) (mq hb1 hm1))
 have L1 := Aside0.mk hF.h1
 have F1 := Aside0.mk (Kd.F_mono (Kd.F_bound hF.r1) (ok' := fun k => b1 ≤ k ∧ k < m1) (mq hb1 hm1))
 have L2 := Aside0.mk hF.h2
 have F2 := Aside0.mk (Kd.F_mono (Kd.F_bound hF.r2) (ok' := fun k => b1 ≤ k ∧ k < m1) (mq hb1 hm1))
 have L3 := Aside0.mk hF.h3
 have F3 := Aside0.mk (Kd.F_mono (Kd.F_bound hF.r3) (ok' := fun k => b1 ≤ k ∧ k < m1) (mq hb1 hm1))
 have Z1 := Aside0.mk (show w.heap.size + 4 ≤ b1 ∧ b1 ≤ m1 from ⟨by rw [hb1, SV0.out]; exact Nat.le_refl _, by rw [hb1, hm1]; exact hb_.size⟩)
 clear hF hb1
 replace HB := HBs HB hb_
 replace K0 := KB K0 hb_
 replace K1 := KB K1 hb_
 replace K2 := KB K2 hb_
 replace K3 := KB K3 hb_
 clear hb_
 obtain ⟨x0, x1, x2, x3, x40, x41, x42, x43⟩ := cel4 K0.out
 go_wp2_with (
  (with_reducible refine gate_dst (N := 6) rfl ?_)
  clear x0 x1 x2 x3 x40 x41 x42 x43
  generalize hV2 : World.setCell (World.setCell (World.setCell (World.setCell w1 _ _) _ _) _ _) _ _ = V2
  have hge_ : w.heap.size ≤ w.heap.size := by have z_ := Z1.out; omega
  have hst_ := st4 HB.out hge_ K0.out hV2
  replace HB := Aside0.mk hst_.1
  replace K0 := Aside0.mk hst_.2.1
  have z_ := Z1.out
  replace K1 := KS K1 hst_ (by omega)
  replace K2 := KS K2 hst_ (by omega)
  replace K3 := KS K3 hst_ (by omega)
  have e0_ : ∀ k_, (b1 ≤ k_ ∧ k_ < m1) → k_ ≠ w.heap.size := fun k_ h_ => by omega
  replace F0 := FS F0 hst_ e0_
  replace F1 := FS F1 hst_ e0_
  replace F2 := FS F2 hst_ e0_
  replace F3 := FS F3 hst_ e0_
  clear e0_
  have SV2 := Aside0.mk hst_.2.2.2
  clear hV2 hst_ hge_ z_
  refine box_event ?hg (N := 6) ?hd (cs := #[.int .i64 0, .slice none 0 0, .int .i64 0]) (t := 34) ?hr ?_
  (case hd => rfl)
  (case hg => rfl)
  (case hr => go_simp <;> rfl)
  intro g6 hg V3 hbox hb_
  have K6 := Aside0.mk hbox
  have hlt_ := (Array.getElem?_eq_some_iff.1 hbox).1
  have ZZ := Aside0.mk (show w.heap.size + 4 ≤ b1 ∧ b1 ≤ m1 ∧ m1 ≤ g6 ∧ g6 < V3.heap.size from ⟨Z1.out.1, Z1.out.2, by rw [hg, SV2.out, hm1]; exact Nat.le_refl _, hlt_⟩)
  clear hg hm1 Z1 SV2 SV0 hbox hlt_
  replace HB := HBs HB hb_
  replace K0 := KB K0 hb_
  replace K1 := KB K1 hb_
  replace K2 := KB K2 hb_
  replace K3 := KB K3 hb_
  replace F0 := FB F0 hb_
  replace F1 := FB F1 hb_
  replace F2 := FB F2 hb_
  replace F3 := FB F3 hb_
  clear hb_
  obtain ⟨x0, x1, x2, x3, x40, x41, x42, x43⟩ := cel4 K0.out
  obtain ⟨y0, y1, y2, y3, y4, y50, y51, y52, y53, y54⟩ := cel5 K1.out)
 clear x0 x1 x2 x3 x40 x41 x42 x43
 clear y0 y1 y2 y3 y4 y50 y51 y52 y53 y54
 refine (locks34 B2 d2 o.loc 7 a E2 E3 E4 ke.length e2 va.length e3 ol.length e4 V3 _ F2.out L2.out HO.out.b2).mono ?_
 rintro e w4 ⟨A9, c9, Av, cv, rfl, hc9, hF9, hcv, hFv, hb_⟩
 have L9 := Aside0.mk hc9
 have F9 := Aside0.mk (Kd.F_mono hF9 (ok' := fun k_ => b1 ≤ k_ ∧ k_ < m1 ∨ g6 < k_) (fun k hk => by have z_ := ZZ.out; have h2 : (b1 ≤ k ∧ k < m1) ∨ V3.heap.size ≤ k := hk; show b1 ≤ k ∧ k < m1 ∨ g6 < k; omega))
 clear hF9 hc9
 have LV := Aside0.mk hcv
 have FV := Aside0.mk (Kd.F_mono hFv (ok' := fun k_ => g6 < k_) (fun k hk => by have z_ := ZZ.out; have h2 : V3.heap.size ≤ k := hk; show g6 < k; omega))
 clear hFv hcv
 replace HB := HBs HB hb_
 replace K0 := KB K0 hb_
 replace K1 := KB K1 hb_
 replace K2 := KB K2 hb_
 replace K3 := KB K3 hb_
 replace K6 := KB K6 hb_
 replace F0 := FB F0 hb_
 replace F1 := FB F1 hb_
 replace F2 := FB F2 hb_
 replace F3 := FB F3 hb_
 clear hb_
 have n6 : ¬ g6 = w.heap.size := by have z_ := ZZ.out; omega
 have n6' : ¬ w.heap.size = g6 := by have z_ := ZZ.out; omega
 obtain ⟨x0, x1, x2, x3, x40, x41, x42, x43⟩ := cel4 K0.out
 obtain ⟨v0, v1, v2, v30, v31, v32⟩ := cel3 K6.out
 go_wp2_with fail
 clear x0 x1 x2 x3 x40 x41 x42 x43
 clear v0 v1 v2 v30 v31 v32
 clear n6 n6'
 obtain ⟨V5, hV5⟩ : ∃ V_, V_ = (w4.setCell ⟨w.heap.size, 2, none⟩ (.slice A9 (locksR o.loc 7 a).1.length c9)) := ⟨_, rfl⟩
 rw [← hV5]
 have hge_ : w.heap.size ≤ w.heap.size := by have z_ := ZZ.out; omega
 have hst_ : St w.heap.size w (w.heap.size) 32 #[.slice B0 o.reg.length d0, .slice B1 o.que.length d1, .slice A9 (locksR o.loc 7 a).1.length c9, .slice B3 o.map.length d3] w4 V5 := by rw [hV5]; exact (St.first HB.out hge_ K0.out 2 _ rfl)
 replace HB := Aside0.mk hst_.1
 replace K0 := Aside0.mk hst_.2.1
 have z_ := ZZ.out
 replace K1 := KS K1 hst_ (by omega)
 replace K2 := KS K2 hst_ (by omega)
 replace K3 := KS K3 hst_ (by omega)
 replace K6 := KS K6 hst_ (by omega)
 have e0_ : ∀ k_, (b1 ≤ k_ ∧ k_ < m1) → k_ ≠ w.heap.size := fun k_ h_ => by omega
 replace F0 := FS F0 hst_ e0_
 replace F1 := FS F1 hst_ e0_
 replace F2 := FS F2 hst_ e0_
 replace F3 := FS F3 hst_ e0_
 have e1_ : ∀ k_, (g6 < k_) → k_ ≠ w.heap.size := fun k_ h_ => by omega
 replace FV := FS FV hst_ e1_
 have e2_ : ∀ k_, (b1 ≤ k_ ∧ k_ < m1 ∨ g6 < k_) → k_ ≠ w.heap.size := fun k_ h_ => by omega
 replace F9 := FS F9 hst_ e2_
 clear e0_ e1_ e2_
 have SV5 := Aside0.mk hst_.2.2.2
 clear hV5 hst_ hge_ z_
 generalize hV6 : World.setCell (World.setCell (World.setCell V5 _ _) _ _) _ _ = V6
 have hge_ : w.heap.size ≤ g6 := by have z_ := ZZ.out; omega
 have hst_ := st3 HB.out hge_ K6.out hV6
 replace HB := Aside0.mk hst_.1
 replace K6 := Aside0.mk hst_.2.1
 have z_ := ZZ.out
 replace K0 := KS K0 hst_ (by omega)
 replace K1 := KS K1 hst_ (by omega)
 replace K2 := KS K2 hst_ (by omega)
 replace K3 := KS K3 hst_ (by omega)
 have e0_ : ∀ k_, (b1 ≤ k_ ∧ k_ < m1) → k_ ≠ g6 := fun k_ h_ => by omega
 replace F0 := FS F0 hst_ e0_
 replace F1 := FS F1 hst_ e0_
 replace F2 := FS F2 hst_ e0_
 replace F3 := FS F3 hst_ e0_
 have e1_ : ∀ k_, (g6 < k_) → k_ ≠ g6 := fun k_ h_ => by omega
 replace FV := FS FV hst_ e1_
 have e2_ : ∀ k_, (b1 ≤ k_ ∧ k_ < m1 ∨ g6 < k_) → k_ ≠ g6 := fun k_ h_ => by omega
 replace F9 := FS F9 hst_ e2_
 clear e0_ e1_ e2_
 have SV6 := Aside0.mk hst_.2.2.2
 clear hV6 hst_ hge_ z_
 obtain ⟨x0, x1, x2, x3, x40, x41, x42, x43⟩ := cel4 K0.out
 obtain ⟨v0, v1, v2, v30, v31, v32⟩ := cel3 K6.out
 obtain ⟨s0, s1, s2, s3, s40, s41, s42, s43⟩ := cel4 K2.out
 obtain ⟨t0, t1, t2, t30, t31, t32⟩ := cel3 K3.out
 have n0 : ¬ g6 = w.heap.size + 1 + 1 := by have z_ := ZZ.out; omega
 have n0' : ¬ w.heap.size + 1 + 1 = g6 := by have z_ := ZZ.out; omega
 have n1 : ¬ g6 = w.heap.size + 1 + 1 + 1 := by have z_ := ZZ.out; omega
 have n1' : ¬ w.heap.size + 1 + 1 + 1 = g6 := by have z_ := ZZ.out; omega
 go_wp2_with fail
 go_region
 clear n0 n0' n1 n1'
 clear x0 x1 x2 x3 x40 x41 x42 x43
 clear v0 v1 v2 v30 v31 v32
 clear s0 s1 s2 s3 s40 s41 s42 s43
 clear t0 t1 t2 t30 t31 t32
 generalize hV7 : World.setCell (World.setCell (World.setCell (World.setCell V6 _ _) _ _) _ _) _ _ = V7
 have hge_ : w.heap.size ≤ w.heap.size + 1 + 1 := by have z_ := ZZ.out; omega
 have hst_ := st4 HB.out hge_ K2.out hV7
 replace HB := Aside0.mk hst_.1
 replace K2 := Aside0.mk hst_.2.1
 have z_ := ZZ.out
 replace K0 := KS K0 hst_ (by omega)
 replace K1 := KS K1 hst_ (by omega)
 replace K3 := KS K3 hst_ (by omega)
 replace K6 := KS K6 hst_ (by omega)
 have e0_ : ∀ k_, (b1 ≤ k_ ∧ k_ < m1) → k_ ≠ w.heap.size + 1 + 1 := fun k_ h_ => by omega
 replace F0 := FS F0 hst_ e0_
 replace F1 := FS F1 hst_ e0_
 replace F2 := FS F2 hst_ e0_
 replace F3 := FS F3 hst_ e0_
 have e1_ : ∀ k_, (g6 < k_) → k_ ≠ w.heap.size + 1 + 1 := fun k_ h_ => by omega
 replace FV := FS FV hst_ e1_
 have e2_ : ∀ k_, (b1 ≤ k_ ∧ k_ < m1 ∨ g6 < k_) → k_ ≠ w.heap.size + 1 + 1 := fun k_ h_ => by omega
 replace F9 := FS F9 hst_ e2_
 clear e0_ e1_ e2_
 have SV7 := Aside0.mk hst_.2.2.2
 clear hV7 hst_ hge_ z_
 generalize hV8 : World.setCell (World.setCell (World.setCell V7 _ _) _ _) _ _ = V8
 have hge_ : w.heap.size ≤ w.heap.size + 1 + 1 + 1 := by have z_ := ZZ.out; omega
 have hst_ := st3 HB.out hge_ K3.out hV8
 replace HB := Aside0.mk hst_.1
 replace K3 := Aside0.mk hst_.2.1
 have z_ := ZZ.out
 replace K0 := KS K0 hst_ (by omega)
 replace K1 := KS K1 hst_ (by omega)
 replace K2 := KS K2 hst_ (by omega)
 replace K6 := KS K6 hst_ (by omega)
 have e0_ : ∀ k_, (b1 ≤ k_ ∧ k_ < m1) → k_ ≠ w.heap.size + 1 + 1 + 1 := fun k_ h_ => by omega
 replace F0 := FS F0 hst_ e0_
 replace F1 := FS F1 hst_ e0_
 replace F2 := FS F2 hst_ e0_
 replace F3 := FS F3 hst_ e0_
 have e1_ : ∀ k_, (g6 < k_) → k_ ≠ w.heap.size + 1 + 1 + 1 := fun k_ h_ => by omega
 replace FV := FS FV hst_ e1_
 have e2_ : ∀ k_, (b1 ≤ k_ ∧ k_ < m1 ∨ g6 < k_) → k_ ≠ w.heap.size + 1 + 1 + 1 := fun k_ h_ => by omega
 replace F9 := FS F9 hst_ e2_
 clear e0_ e1_ e2_
 have SV8 := Aside0.mk hst_.2.2.2
 clear hV8 hst_ hge_ z_
 have bd_ := below_drew1 (Below.refl V8.heap.size V8)
 replace HB := HBs HB bd_
 replace K0 := KB K0 bd_
 replace K1 := KB K1 bd_
 replace K2 := KB K2 bd_
 replace K3 := KB K3 bd_
 replace K6 := KB K6 bd_
 replace F0 := FB F0 bd_
 replace F1 := FB F1 bd_
 replace F2 := FB F2 bd_
 replace F3 := FB F3 bd_
 replace FV := FB FV bd_
 replace F9 := FB F9 bd_
 clear bd_
 go_wp2
 refine bodyPost_ret (results_cc rfl _ _ (w.heap.size + 1 + 1) (w.heap.size + 1 + 1 + 1) 32 34 #[.slice B0 o.reg.length d0, .slice B1 o.que.length d1, .slice A9 (locksR o.loc 7 a).1.length c9, .slice B3 o.map.length d3] #[.int .i64 (locksR o.loc 7 a).2.f0, .slice Av (locksR o.loc 7 a).2.f1.length cv, .int .i64 (locksR o.loc 7 a).2.f2] (0, 0) (0, 0) _ _ rfl K2.out Try.underlying32 rfl (by kernel_rfl) rfl K3.out Try.underlying34 rfl (by kernel_rfl)) rfl ?_
 exact ⟨B0, d0, B1, d1, A9, c9, B3, d3, Av, cv, rfl, ⟨L0.out, Kd.F_mono F0.out (fun _ h => zq ZZ.out.1 h), L1.out, Kd.F_mono F1.out (fun _ h => zq ZZ.out.1 h), L9.out, Kd.F_mono F9.out (fun k_ hk => by have z_ := ZZ.out; have h2 : b1 ≤ k_ ∧ k_ < m1 ∨ g6 < k_ := hk; show w.heap.size ≤ k_; omega), L3.out, Kd.F_mono F3.out (fun _ h => zq ZZ.out.1 h)⟩, LV.out, Kd.F_mono FV.out (fun k_ hk => by have z_ := ZZ.out; have h2 : g6 < k_ := hk; show w.heap.size ≤ k_; omega), HB.out⟩
set_option maxHeartbeats 4000000 in
theorem apply_8 (A0 : Option Addr) (c0 : Nat) (A1 : Option Addr) (c1 : Nat) (A2 : Option Addr) (c2 : Nat) (A3 : Option Addr) (c3 : Nat) (o : O) (kd a : Int) (E2 : Option Addr) (e2 : Nat) (E3 : Option Addr) (e3 : Nat) (E4 : Option Addr) (e4 : Nat) (ke va ol : List Int) (w : World) (hc : OC w o A0 c0 A1 c1 A2 c2 A3 c3) (hb : OB o) (hx : XC w ke va ol E2 e2 E3 e3 E4 e4) (hkd : kd = 8) :
  Calls Try.prog 10 #[.agg #[.slice A0 o.reg.length c0, .slice A1 o.que.length c1, .slice A2 o.loc.length c2, .slice A3 o.map.length c3], .agg #[.int .i64 kd, .int .i64 a, .slice E2 ke.length e2, .slice E3 va.length e3, .slice E4 ol.length e4]] w (TA w ({ o with loc := (locksR o.loc 8 a).1 }) (locksR o.loc 8 a).2) := by
 subst hkd
 have HC := Aside0.mk hc
 have HO := Aside0.mk hb
 have HX := Aside0.mk hx
 clear hc hb hx
 have HB := Aside0.mk (Below.refl w.heap.size w)
 go_enter Try.func10, Try.ntmps10
 go_wp2_with fail
 generalize hV0 : World.alloc _ _ = V0
 obtain ⟨K0, K1, K2, K3, hb_, SV0⟩ := al4 hV0
 clear hV0
 replace HB := HBs HB hb_
 clear hb_
 refine (objs28 A0 c0 A1 c1 A2 c2 A3 c3 o V0 (HC.out.below HB.out) HO.out).mono ?_
 rintro e w1 ⟨B0, d0, B1, d1, B2, d2, B3, d3, rfl, hF, hb_⟩
 obtain ⟨b1, hb1⟩ : ∃ b_, b_ = V0.heap.size := ⟨_, rfl⟩
 obtain ⟨m1, hm1⟩ : ∃ b_, b_ = w1.heap.size := ⟨_, rfl⟩
 have L0 := Aside0.mk hF.h0
 have F0 := Aside0.mk (Kd.F_mono (Kd.F_bound hF.r0) (ok' := fun k => b1 ≤ k ∧ k < m1) (mq hb1 hm1))
 have L1 := Aside0.mk hF.h1
 have F1 := Aside0.mk (Kd.F_mono (Kd.F_bound hF.r1) (ok' := fun k => b1 ≤ k ∧ k < m1) (mq hb1 hm1))
 have L2 := Aside0.mk hF.h2
 have F2 := Aside0.mk (Kd.F_mono (Kd.F_bound hF.r2) (ok' := fun k => b1 ≤ k ∧ k < m1) (mq hb1 hm1))
 have L3 := Aside0.mk hF.h3
 have F3 := Aside0.mk (Kd.F_mono (Kd.F_bound hF.r3) (ok' := fun k => b1 ≤ k ∧ k < m1) (mq hb1 hm1))
 have Z1 := Aside0.mk (show w.heap.size + 4 ≤ b1 ∧ b1 ≤ m1 from ⟨by rw [hb1, SV0.out]; exact Nat.le_refl _, by rw [hb1, hm1]; exact hb_.size⟩)
 clear hF hb1
 replace HB := HBs HB hb_
 replace K0 := KB K0 hb_
 replace K1 := KB K1 hb_
 replace K2 := KB K2 hb_
 replace K3 := KB K3 hb_
 clear hb_
 obtain ⟨x0, x1, x2, x3, x40, x41, x42, x43⟩ := cel4 K0.out
 go_wp2_with (
  (with_reducible refine gate_dst (N := 6) rfl ?_)
  clear x0 x1 x2 x3 x40 x41 x42 x43
  generalize hV2 : World.setCell (World.setCell (World.setCell (World.setCell w1 _ _) _ _) _ _) _ _ = V2
  have hge_ : w.heap.size ≤ w.heap.size := by have z_ := Z1.out; omega
  have hst_ := st4 HB.out hge_ K0.out hV2
  replace HB := Aside0.mk hst_.1
  replace K0 := Aside0.mk hst_.2.1
  have z_ := Z1.out
  replace K1 := KS K1 hst_ (by omega)
  replace K2 := KS K2 hst_ (by omega)
  replace K3 := KS K3 hst_ (by omega)
  have e0_ : ∀ k_, (b1 ≤ k_ ∧ k_ < m1) → k_ ≠ w.heap.size := fun k_ h_ => by omega
  replace F0 := FS F0 hst_ e0_
  replace F1 := FS F1 hst_ e0_
  replace F2 := FS F2 hst_ e0_
  replace F3 := FS F3 hst_ e0_
  clear e0_
  have SV2 := Aside0.mk hst_.2.2.2
  clear hV2 hst_ hge_ z_
  refine box_event ?hg (N := 6) ?hd (cs := #[.int .i64 0, .slice none 0 0, .int .i64 0]) (t := 34) ?hr ?_
  (case hd => rfl)
  (case hg => rfl)
  (case hr => go_simp <;> rfl)
  intro g6 hg V3 hbox hb_
  have K6 := Aside0.mk hbox
  have hlt_ := (Array.getElem?_eq_some_iff.1 hbox).1
  have ZZ := Aside0.mk (show w.heap.size + 4 ≤ b1 ∧ b1 ≤ m1 ∧ m1 ≤ g6 ∧ g6 < V3.heap.size from ⟨Z1.out.1, Z1.out.2, by rw [hg, SV2.out, hm1]; exact Nat.le_refl _, hlt_⟩)
  clear hg hm1 Z1 SV2 SV0 hbox hlt_
  replace HB := HBs HB hb_
  replace K0 := KB K0 hb_
  replace K1 := KB K1 hb_
  replace K2 := KB K2 hb_
  replace K3 := KB K3 hb_
  replace F0 := FB F0 hb_
  replace F1 := FB F1 hb_
  replace F2 := FB F2 hb_
  replace F3 := FB F3 hb_
  clear hb_
  obtain ⟨x0, x1, x2, x3, x40, x41, x42, x43⟩ := cel4 K0.out
  obtain ⟨y0, y1, y2, y3, y4, y50, y51, y52, y53, y54⟩ := cel5 K1.out)
 clear x0 x1 x2 x3 x40 x41 x42 x43
 clear y0 y1 y2 y3 y4 y50 y51 y52 y53 y54
 refine (locks34 B2 d2 o.loc 8 a E2 E3 E4 ke.length e2 va.length e3 ol.length e4 V3 _ F2.out L2.out HO.out.b2).mono ?_
 rintro e w4 ⟨A9, c9, Av, cv, rfl, hc9, hF9, hcv, hFv, hb_⟩
 have L9 := Aside0.mk hc9
 have F9 := Aside0.mk (Kd.F_mono hF9 (ok' := fun k_ => b1 ≤ k_ ∧ k_ < m1 ∨ g6 < k_) (fun k hk => by have z_ := ZZ.out; have h2 : (b1 ≤ k ∧ k < m1) ∨ V3.heap.size ≤ k := hk; show b1 ≤ k ∧ k < m1 ∨ g6 < k; omega))
 clear hF9 hc9
 have LV := Aside0.mk hcv
 have FV := Aside0.mk (Kd.F_mono hFv (ok' := fun k_ => g6 < k_) (fun k hk => by have z_ := ZZ.out; have h2 : V3.heap.size ≤ k := hk; show g6 < k; omega))
 clear hFv hcv
 replace HB := HBs HB hb_
 replace K0 := KB K0 hb_
 replace K1 := KB K1 hb_
 replace K2 := KB K2 hb_
 replace K3 := KB K3 hb_
 replace K6 := KB K6 hb_
 replace F0 := FB F0 hb_
 replace F1 := FB F1 hb_
 replace F2 := FB F2 hb_
 replace F3 := FB F3 hb_
 clear hb_
 have n6 : ¬ g6 = w.heap.size := by have z_ := ZZ.out; omega
 have n6' : ¬ w.heap.size = g6 := by have z_ := ZZ.out; omega
 obtain ⟨x0, x1, x2, x3, x40, x41, x42, x43⟩ := cel4 K0.out
 obtain ⟨v0, v1, v2, v30, v31, v32⟩ := cel3 K6.out
 go_wp2_with fail
 clear x0 x1 x2 x3 x40 x41 x42 x43
 clear v0 v1 v2 v30 v31 v32
 clear n6 n6'
 obtain ⟨V5, hV5⟩ : ∃ V_, V_ = (w4.setCell ⟨w.heap.size, 2, none⟩ (.slice A9 (locksR o.loc 8 a).1.length c9)) := ⟨_, rfl⟩
 rw [← hV5]
 have hge_ : w.heap.size ≤ w.heap.size := by have z_ := ZZ.out; omega
 have hst_ : St w.heap.size w (w.heap.size) 32 #[.slice B0 o.reg.length d0, .slice B1 o.que.length d1, .slice A9 (locksR o.loc 8 a).1.length c9, .slice B3 o.map.length d3] w4 V5 := by rw [hV5]; exact (St.first HB.out hge_ K0.out 2 _ rfl)
 replace HB := Aside0.mk hst_.1
 replace K0 := Aside0.mk hst_.2.1
 have z_ := ZZ.out
 replace K1 := KS K1 hst_ (by omega)
 replace K2 := KS K2 hst_ (by omega)
 replace K3 := KS K3 hst_ (by omega)
 replace K6 := KS K6 hst_ (by omega)
 have e0_ : ∀ k_, (b1 ≤ k_ ∧ k_ < m1) → k_ ≠ w.heap.size := fun k_ h_ => by omega
 replace F0 := FS F0 hst_ e0_
 replace F1 := FS F1 hst_ e0_
 replace F2 := FS F2 hst_ e0_
 replace F3 := FS F3 hst_ e0_
 have e1_ : ∀ k_, (g6 < k_) → k_ ≠ w.heap.size := fun k_ h_ => by omega
 replace FV := FS FV hst_ e1_
 have e2_ : ∀ k_, (b1 ≤ k_ ∧ k_ < m1 ∨ g6 < k_) → k_ ≠ w.heap.size := fun k_ h_ => by omega
 replace F9 := FS F9 hst_ e2_
 clear e0_ e1_ e2_
 have SV5 := Aside0.mk hst_.2.2.2
 clear hV5 hst_ hge_ z_
 generalize hV6 : World.setCell (World.setCell (World.setCell V5 _ _) _ _) _ _ = V6
 have hge_ : w.heap.size ≤ g6 := by have z_ := ZZ.out; omega
 have hst_ := st3 HB.out hge_ K6.out hV6
 replace HB := Aside0.mk hst_.1
 replace K6 := Aside0.mk hst_.2.1
 have z_ := ZZ.out
 replace K0 := KS K0 hst_ (by omega)
 replace K1 := KS K1 hst_ (by omega)
 replace K2 := KS K2 hst_ (by omega)
 replace K3 := KS K3 hst_ (by omega)
 have e0_ : ∀ k_, (b1 ≤ k_ ∧ k_ < m1) → k_ ≠ g6 := fun k_ h_ => by omega
 replace F0 := FS F0 hst_ e0_
 replace F1 := FS F1 hst_ e0_
 replace F2 := FS F2 hst_ e0_
 replace F3 := FS F3 hst_ e0_
 have e1_ : ∀ k_, (g6 < k_) → k_ ≠ g6 := fun k_ h_ => by omega
 replace FV := FS FV hst_ e1_
 have e2_ : ∀ k_, (b1 ≤ k_ ∧ k_ < m1 ∨ g6 < k_) → k_ ≠ g6 := fun k_ h_ => by omega
 replace F9 := FS F9 hst_ e2_
 clear e0_ e1_ e2_
 have SV6 := Aside0.mk hst_.2.2.2
 clear hV6 hst_ hge_ z_
 obtain ⟨x0, x1, x2, x3, x40, x41, x42, x43⟩ := cel4 K0.out
 obtain ⟨v0, v1, v2, v30, v31, v32⟩ := cel3 K6.out
 obtain ⟨s0, s1, s2, s3, s40, s41, s42, s43⟩ := cel4 K2.out
 obtain ⟨t0, t1, t2, t30, t31, t32⟩ := cel3 K3.out
 have n0 : ¬ g6 = w.heap.size + 1 + 1 := by have z_ := ZZ.out; omega
 have n0' : ¬ w.heap.size + 1 + 1 = g6 := by have z_ := ZZ.out; omega
 have n1 : ¬ g6 = w.heap.size + 1 + 1 + 1 := by have z_ := ZZ.out; omega
 have n1' : ¬ w.heap.size + 1 + 1 + 1 = g6 := by have z_ := ZZ.out; omega
 go_wp2_with fail
 go_region
 clear n0 n0' n1 n1'
 clear x0 x1 x2 x3 x40 x41 x42 x43
 clear v0 v1 v2 v30 v31 v32
 clear s0 s1 s2 s3 s40 s41 s42 s43
 clear t0 t1 t2 t30 t31 t32
 generalize hV7 : World.setCell (World.setCell (World.setCell (World.setCell V6 _ _) _ _) _ _) _ _ = V7
 have hge_ : w.heap.size ≤ w.heap.size + 1 + 1 := by have z_ := ZZ.out; omega
 have hst_ := st4 HB.out hge_ K2.out hV7
 replace HB := Aside0.mk hst_.1
 replace K2 := Aside0.mk hst_.2.1
 have z_ := ZZ.out
 replace K0 := KS K0 hst_ (by omega)
 replace K1 := KS K1 hst_ (by omega)
 replace K3 := KS K3 hst_ (by omega)
 replace K6 := KS K6 hst_ (by omega)
 have e0_ : ∀ k_, (b1 ≤ k_ ∧ k_ < m1) → k_ ≠ w.heap.size + 1 + 1 := fun k_ h_ => by omega
 replace F0 := FS F0 hst_ e0_
 replace F1 := FS F1 hst_ e0_
 replace F2 := FS F2 hst_ e0_
 replace F3 := FS F3 hst_ e0_
 have e1_ : ∀ k_, (g6 < k_) → k_ ≠ w.heap.size + 1 + 1 := fun k_ h_ => by omega
 replace FV := FS FV hst_ e1_
 have e2_ : ∀ k_, (b1 ≤ k_ ∧ k_ < m1 ∨ g6 < k_) → k_ ≠ w.heap.size + 1 + 1 := fun k_ h_ => by omega
 replace F9 := FS F9 hst_ e2_
 clear e0_ e1_ e2_
 have SV7 := Aside0.mk hst_.2.2.2
 clear hV7 hst_ hge_ z_
 generalize hV8 : World.setCell (World.setCell (World.setCell V7 _ _) _ _) _ _ = V8
 have hge_ : w.heap.size ≤ w.heap.size + 1 + 1 + 1 := by have z_ := ZZ.out; omega
 have hst_ := st3 HB.out hge_ K3.out hV8
 replace HB := Aside0.mk hst_.1
 replace K3 := Aside0.mk hst_.2.1
 have z_ := ZZ.out
 replace K0 := KS K0 hst_ (by omega)
 replace K1 := KS K1 hst_ (by omega)
 replace K2 := KS K2 hst_ (by omega)
 replace K6 := KS K6 hst_ (by omega)
 have e0_ : ∀ k_, (b1 ≤ k_ ∧ k_ < m1) → k_ ≠ w.heap.size + 1 + 1 + 1 := fun k_ h_ => by omega
 replace F0 := FS F0 hst_ e0_
 replace F1 := FS F1 hst_ e0_
 replace F2 := FS F2 hst_ e0_
 replace F3 := FS F3 hst_ e0_
 have e1_ : ∀ k_, (g6 < k_) → k_ ≠ w.heap.size + 1 + 1 + 1 := fun k_ h_ => by omega
 replace FV := FS FV hst_ e1_
 have e2_ : ∀ k_, (b1 ≤ k_ ∧ k_ < m1 ∨ g6 < k_) → k_ ≠ w.heap.size + 1 + 1 + 1 := fun k_ h_ => by omega
 replace F9 := FS F9 hst_ e2_
 clear e0_ e1_ e2_
 have SV8 := Aside0.mk hst_.2.2.2
 clear hV8 hst_ hge_ z_
 have bd_ := below_drew1 (Below.refl V8.heap.size V8)
 replace HB := HBs HB bd_
 replace K0 := KB K0 bd_
 replace K1 := KB K1 bd_
 replace K2 := KB K2 bd_
 replace K3 := KB K3 bd_
 replace K6 := KB K6 bd_
 replace F0 := FB F0 bd_
 replace F1 := FB F1 bd_
 replace F2 := FB F2 bd_
 replace F3 := FB F3 bd_
 replace FV := FB FV bd_
 replace F9 := FB F9 bd_
 clear bd_
 go_wp2
 refine bodyPost_ret (results_cc rfl _ _ (w.heap.size + 1 + 1) (w.heap.size + 1 + 1 + 1) 32 34 #[.slice B0 o.reg.length d0, .slice B1 o.que.length d1, .slice A9 (locksR o.loc 8 a).1.length c9, .slice B3 o.map.length d3] #[.int .i64 (locksR o.loc 8 a).2.f0, .slice Av (locksR o.loc 8 a).2.f1.length cv, .int .i64 (locksR o.loc 8 a).2.f2] (0, 0) (0, 0) _ _ rfl K2.out Try.underlying32 rfl (by kernel_rfl) rfl K3.out Try.underlying34 rfl (by kernel_rfl)) rfl ?_
 exact ⟨B0, d0, B1, d1, A9, c9, B3, d3, Av, cv, rfl, ⟨L0.out, Kd.F_mono F0.out (fun _ h => zq ZZ.out.1 h), L1.out, Kd.F_mono F1.out (fun _ h => zq ZZ.out.1 h), L9.out, Kd.F_mono F9.out (fun k_ hk => by have z_ := ZZ.out; have h2 : b1 ≤ k_ ∧ k_ < m1 ∨ g6 < k_ := hk; show w.heap.size ≤ k_; omega), L3.out, Kd.F_mono F3.out (fun _ h => zq ZZ.out.1 h)⟩, LV.out, Kd.F_mono FV.out (fun k_ hk => by have z_ := ZZ.out; have h2 : g6 < k_ := hk; show w.heap.size ≤ k_; omega), HB.out⟩
set_option maxHeartbeats 4000000 in
theorem apply_9 (A0 : Option Addr) (c0 : Nat) (A1 : Option Addr) (c1 : Nat) (A2 : Option Addr) (c2 : Nat) (A3 : Option Addr) (c3 : Nat) (o : O) (kd a : Int) (E2 : Option Addr) (e2 : Nat) (E3 : Option Addr) (e3 : Nat) (E4 : Option Addr) (e4 : Nat) (ke va ol : List Int) (w : World) (hc : OC w o A0 c0 A1 c1 A2 c2 A3 c3) (hb : OB o) (hx : XC w ke va ol E2 e2 E3 e3 E4 e4) (hkd : kd = 9) :
  Calls Try.prog 10 #[.agg #[.slice A0 o.reg.length c0, .slice A1 o.que.length c1, .slice A2 o.loc.length c2, .slice A3 o.map.length c3], .agg #[.int .i64 kd, .int .i64 a, .slice E2 ke.length e2, .slice E3 va.length e3, .slice E4 ol.length e4]] w (TA w ({ o with map := (putR o.map ke va).1 }) (putR o.map ke va).2) := by
 subst hkd
 have HC := Aside0.mk hc
 have HO := Aside0.mk hb
 have HX := Aside0.mk hx
 clear hc hb hx
 have HB := Aside0.mk (Below.refl w.heap.size w)
 go_enter Try.func10, Try.ntmps10
 go_wp2_with fail
 generalize hV0 : World.alloc _ _ = V0
 obtain ⟨K0, K1, K2, K3, hb_, SV0⟩ := al4 hV0
 clear hV0
 replace HB := HBs HB hb_
 clear hb_
 refine (objs28 A0 c0 A1 c1 A2 c2 A3 c3 o V0 (HC.out.below HB.out) HO.out).mono ?_
 rintro e w1 ⟨B0, d0, B1, d1, B2, d2, B3, d3, rfl, hF, hb_⟩
 obtain ⟨b1, hb1⟩ : ∃ b_, b_ = V0.heap.size := ⟨_, rfl⟩
 obtain ⟨m1, hm1⟩ : ∃ b_, b_ = w1.heap.size := ⟨_, rfl⟩
 have L0 := Aside0.mk hF.h0
 have F0 := Aside0.mk (Kd.F_mono (Kd.F_bound hF.r0) (ok' := fun k => b1 ≤ k ∧ k < m1) (mq hb1 hm1))
 have L1 := Aside0.mk hF.h1
 have F1 := Aside0.mk (Kd.F_mono (Kd.F_bound hF.r1) (ok' := fun k => b1 ≤ k ∧ k < m1) (mq hb1 hm1))
 have L2 := Aside0.mk hF.h2
 have F2 := Aside0.mk (Kd.F_mono (Kd.F_bound hF.r2) (ok' := fun k => b1 ≤ k ∧ k < m1) (mq hb1 hm1))
 have L3 := Aside0.mk hF.h3
 have F3 := Aside0.mk (Kd.F_mono (Kd.F_bound hF.r3) (ok' := fun k => b1 ≤ k ∧ k < m1) (mq hb1 hm1))
 have Z1 := Aside0.mk (show w.heap.size + 4 ≤ b1 ∧ b1 ≤ m1 from ⟨by rw [hb1, SV0.out]; exact Nat.le_refl _, by rw [hb1, hm1]; exact hb_.size⟩)
 clear hF hb1
 replace HB := HBs HB hb_
 replace K0 := KB K0 hb_
 replace K1 := KB K1 hb_
 replace K2 := KB K2 hb_
 replace K3 := KB K3 hb_
 clear hb_
 obtain ⟨x0, x1, x2, x3, x40, x41, x42, x43⟩ := cel4 K0.out
 go_wp2_with (
  (with_reducible refine gate_dst (N := 6) rfl ?_)
  clear x0 x1 x2 x3 x40 x41 x42 x43
  generalize hV2 : World.setCell (World.setCell (World.setCell (World.setCell w1 _ _) _ _) _ _) _ _ = V2
  have hge_ : w.heap.size ≤ w.heap.size := by have z_ := Z1.out; omega
  have hst_ := st4 HB.out hge_ K0.out hV2
  replace HB := Aside0.mk hst_.1
  replace K0 := Aside0.mk hst_.2.1
  have z_ := Z1.out
  replace K1 := KS K1 hst_ (by omega)
  replace K2 := KS K2 hst_ (by omega)
  replace K3 := KS K3 hst_ (by omega)
  have e0_ : ∀ k_, (b1 ≤ k_ ∧ k_ < m1) → k_ ≠ w.heap.size := fun k_ h_ => by omega
  replace F0 := FS F0 hst_ e0_
  replace F1 := FS F1 hst_ e0_
  replace F2 := FS F2 hst_ e0_
  replace F3 := FS F3 hst_ e0_
  clear e0_
  have SV2 := Aside0.mk hst_.2.2.2
  clear hV2 hst_ hge_ z_
  refine box_event ?hg (N := 6) ?hd (cs := #[.int .i64 0, .slice none 0 0, .int .i64 0]) (t := 34) ?hr ?_
  (case hd => rfl)
  (case hg => rfl)
  (case hr => go_simp <;> rfl)
  intro g6 hg V3 hbox hb_
  have K6 := Aside0.mk hbox
  have hlt_ := (Array.getElem?_eq_some_iff.1 hbox).1
  have ZZ := Aside0.mk (show w.heap.size + 4 ≤ b1 ∧ b1 ≤ m1 ∧ m1 ≤ g6 ∧ g6 < V3.heap.size from ⟨Z1.out.1, Z1.out.2, by rw [hg, SV2.out, hm1]; exact Nat.le_refl _, hlt_⟩)
  clear hg hm1 Z1 SV2 SV0 hbox hlt_
  replace HB := HBs HB hb_
  replace K0 := KB K0 hb_
  replace K1 := KB K1 hb_
  replace K2 := KB K2 hb_
  replace K3 := KB K3 hb_
  replace F0 := FB F0 hb_
  replace F1 := FB F1 hb_
  replace F2 := FB F2 hb_
  replace F3 := FB F3 hb_
  clear hb_
  obtain ⟨x0, x1, x2, x3, x40, x41, x42, x43⟩ := cel4 K0.out
  obtain ⟨y0, y1, y2, y3, y4, y50, y51, y52, y53, y54⟩ := cel5 K1.out)
 clear x0 x1 x2 x3 x40 x41 x42 x43
 clear y0 y1 y2 y3 y4 y50 y51 y52 y53 y54
 refine (put35 B3 E2 E3 d3 e2 e3 o.map ke va V3 (Kd.F_now F3.out) L3.out HO.out.b3 HO.out.e3 (Kd.C_below HX.out.r2 HB.out) HX.out.h2 (Kd.C_below HX.out.r3 HB.out) HX.out.h3).mono ?_
 rintro e w4 ⟨A9, c9, Av, cv, rfl, hc9, hF9, hcv, hFv, hb_⟩
 have L9 := Aside0.mk hc9
 have F9 := Aside0.mk (Kd.F_mono hF9 (ok' := fun k_ => g6 < k_) (fun k hk => by have z_ := ZZ.out; have h2 : V3.heap.size ≤ k := hk; show g6 < k; omega))
 clear hF9 hc9
 have LV := Aside0.mk hcv
 have FV := Aside0.mk (Kd.F_mono hFv (ok' := fun k_ => g6 < k_) (fun k hk => by have z_ := ZZ.out; have h2 : V3.heap.size ≤ k := hk; show g6 < k; omega))
 clear hFv hcv
 replace HB := HBs HB hb_
 replace K0 := KB K0 hb_
 replace K1 := KB K1 hb_
 replace K2 := KB K2 hb_
 replace K3 := KB K3 hb_
 replace K6 := KB K6 hb_
 replace F0 := FB F0 hb_
 replace F1 := FB F1 hb_
 replace F2 := FB F2 hb_
 replace F3 := FB F3 hb_
 clear hb_
 have n6 : ¬ g6 = w.heap.size := by have z_ := ZZ.out; omega
 have n6' : ¬ w.heap.size = g6 := by have z_ := ZZ.out; omega
 obtain ⟨x0, x1, x2, x3, x40, x41, x42, x43⟩ := cel4 K0.out
 obtain ⟨v0, v1, v2, v30, v31, v32⟩ := cel3 K6.out
 go_wp2_with fail
 clear x0 x1 x2 x3 x40 x41 x42 x43
 clear v0 v1 v2 v30 v31 v32
 clear n6 n6'
 obtain ⟨V5, hV5⟩ : ∃ V_, V_ = (w4.setCell ⟨w.heap.size, 3, none⟩ (.slice A9 (putR o.map ke va).1.length c9)) := ⟨_, rfl⟩
 rw [← hV5]
 have hge_ : w.heap.size ≤ w.heap.size := by have z_ := ZZ.out; omega
 have hst_ : St w.heap.size w (w.heap.size) 32 #[.slice B0 o.reg.length d0, .slice B1 o.que.length d1, .slice B2 o.loc.length d2, .slice A9 (putR o.map ke va).1.length c9] w4 V5 := by rw [hV5]; exact (St.first HB.out hge_ K0.out 3 _ rfl)
 replace HB := Aside0.mk hst_.1
 replace K0 := Aside0.mk hst_.2.1
 have z_ := ZZ.out
 replace K1 := KS K1 hst_ (by omega)
 replace K2 := KS K2 hst_ (by omega)
 replace K3 := KS K3 hst_ (by omega)
 replace K6 := KS K6 hst_ (by omega)
 have e0_ : ∀ k_, (b1 ≤ k_ ∧ k_ < m1) → k_ ≠ w.heap.size := fun k_ h_ => by omega
 replace F0 := FS F0 hst_ e0_
 replace F1 := FS F1 hst_ e0_
 replace F2 := FS F2 hst_ e0_
 replace F3 := FS F3 hst_ e0_
 have e1_ : ∀ k_, (g6 < k_) → k_ ≠ w.heap.size := fun k_ h_ => by omega
 replace FV := FS FV hst_ e1_
 replace F9 := FS F9 hst_ e1_
 clear e0_ e1_
 have SV5 := Aside0.mk hst_.2.2.2
 clear hV5 hst_ hge_ z_
 generalize hV6 : World.setCell (World.setCell (World.setCell V5 _ _) _ _) _ _ = V6
 have hge_ : w.heap.size ≤ g6 := by have z_ := ZZ.out; omega
 have hst_ := st3 HB.out hge_ K6.out hV6
 replace HB := Aside0.mk hst_.1
 replace K6 := Aside0.mk hst_.2.1
 have z_ := ZZ.out
 replace K0 := KS K0 hst_ (by omega)
 replace K1 := KS K1 hst_ (by omega)
 replace K2 := KS K2 hst_ (by omega)
 replace K3 := KS K3 hst_ (by omega)
 have e0_ : ∀ k_, (b1 ≤ k_ ∧ k_ < m1) → k_ ≠ g6 := fun k_ h_ => by omega
 replace F0 := FS F0 hst_ e0_
 replace F1 := FS F1 hst_ e0_
 replace F2 := FS F2 hst_ e0_
 replace F3 := FS F3 hst_ e0_
 have e1_ : ∀ k_, (g6 < k_) → k_ ≠ g6 := fun k_ h_ => by omega
 replace FV := FS FV hst_ e1_
 replace F9 := FS F9 hst_ e1_
 clear e0_ e1_
 have SV6 := Aside0.mk hst_.2.2.2
 clear hV6 hst_ hge_ z_
 obtain ⟨x0, x1, x2, x3, x40, x41, x42, x43⟩ := cel4 K0.out
 obtain ⟨v0, v1, v2, v30, v31, v32⟩ := cel3 K6.out
 obtain ⟨s0, s1, s2, s3, s40, s41, s42, s43⟩ := cel4 K2.out
 obtain ⟨t0, t1, t2, t30, t31, t32⟩ := cel3 K3.out
 have n0 : ¬ g6 = w.heap.size + 1 + 1 := by have z_ := ZZ.out; omega
 have n0' : ¬ w.heap.size + 1 + 1 = g6 := by have z_ := ZZ.out; omega
 have n1 : ¬ g6 = w.heap.size + 1 + 1 + 1 := by have z_ := ZZ.out; omega
 have n1' : ¬ w.heap.size + 1 + 1 + 1 = g6 := by have z_ := ZZ.out; omega
 go_wp2_with fail
 go_region
 clear n0 n0' n1 n1'
 clear x0 x1 x2 x3 x40 x41 x42 x43
 clear v0 v1 v2 v30 v31 v32
 clear s0 s1 s2 s3 s40 s41 s42 s43
 clear t0 t1 t2 t30 t31 t32
 generalize hV7 : World.setCell (World.setCell (World.setCell (World.setCell V6 _ _) _ _) _ _) _ _ = V7
 have hge_ : w.heap.size ≤ w.heap.size + 1 + 1 := by have z_ := ZZ.out; omega
 have hst_ := st4 HB.out hge_ K2.out hV7
 replace HB := Aside0.mk hst_.1
 replace K2 := Aside0.mk hst_.2.1
 have z_ := ZZ.out
 replace K0 := KS K0 hst_ (by omega)
 replace K1 := KS K1 hst_ (by omega)
 replace K3 := KS K3 hst_ (by omega)
 replace K6 := KS K6 hst_ (by omega)
 have e0_ : ∀ k_, (b1 ≤ k_ ∧ k_ < m1) → k_ ≠ w.heap.size + 1 + 1 := fun k_ h_ => by omega
 replace F0 := FS F0 hst_ e0_
 replace F1 := FS F1 hst_ e0_
 replace F2 := FS F2 hst_ e0_
 replace F3 := FS F3 hst_ e0_
 have e1_ : ∀ k_, (g6 < k_) → k_ ≠ w.heap.size + 1 + 1 := fun k_ h_ => by omega
 replace FV := FS FV hst_ e1_
 replace F9 := FS F9 hst_ e1_
 clear e0_ e1_
 have SV7 := Aside0.mk hst_.2.2.2
 clear hV7 hst_ hge_ z_
 generalize hV8 : World.setCell (World.setCell (World.setCell V7 _ _) _ _) _ _ = V8
 have hge_ : w.heap.size ≤ w.heap.size + 1 + 1 + 1 := by have z_ := ZZ.out; omega
 have hst_ := st3 HB.out hge_ K3.out hV8
 replace HB := Aside0.mk hst_.1
 replace K3 := Aside0.mk hst_.2.1
 have z_ := ZZ.out
 replace K0 := KS K0 hst_ (by omega)
 replace K1 := KS K1 hst_ (by omega)
 replace K2 := KS K2 hst_ (by omega)
 replace K6 := KS K6 hst_ (by omega)
 have e0_ : ∀ k_, (b1 ≤ k_ ∧ k_ < m1) → k_ ≠ w.heap.size + 1 + 1 + 1 := fun k_ h_ => by omega
 replace F0 := FS F0 hst_ e0_
 replace F1 := FS F1 hst_ e0_
 replace F2 := FS F2 hst_ e0_
 replace F3 := FS F3 hst_ e0_
 have e1_ : ∀ k_, (g6 < k_) → k_ ≠ w.heap.size + 1 + 1 + 1 := fun k_ h_ => by omega
 replace FV := FS FV hst_ e1_
 replace F9 := FS F9 hst_ e1_
 clear e0_ e1_
 have SV8 := Aside0.mk hst_.2.2.2
 clear hV8 hst_ hge_ z_
 have bd_ := below_drew1 (Below.refl V8.heap.size V8)
 replace HB := HBs HB bd_
 replace K0 := KB K0 bd_
 replace K1 := KB K1 bd_
 replace K2 := KB K2 bd_
 replace K3 := KB K3 bd_
 replace K6 := KB K6 bd_
 replace F0 := FB F0 bd_
 replace F1 := FB F1 bd_
 replace F2 := FB F2 bd_
 replace F3 := FB F3 bd_
 replace FV := FB FV bd_
 replace F9 := FB F9 bd_
 clear bd_
 go_wp2
 refine bodyPost_ret (results_cc rfl _ _ (w.heap.size + 1 + 1) (w.heap.size + 1 + 1 + 1) 32 34 #[.slice B0 o.reg.length d0, .slice B1 o.que.length d1, .slice B2 o.loc.length d2, .slice A9 (putR o.map ke va).1.length c9] #[.int .i64 (putR o.map ke va).2.f0, .slice Av (putR o.map ke va).2.f1.length cv, .int .i64 (putR o.map ke va).2.f2] (0, 0) (0, 0) _ _ rfl K2.out Try.underlying32 rfl (by kernel_rfl) rfl K3.out Try.underlying34 rfl (by kernel_rfl)) rfl ?_
 exact ⟨B0, d0, B1, d1, B2, d2, A9, c9, Av, cv, rfl, ⟨L0.out, Kd.F_mono F0.out (fun _ h => zq ZZ.out.1 h), L1.out, Kd.F_mono F1.out (fun _ h => zq ZZ.out.1 h), L2.out, Kd.F_mono F2.out (fun _ h => zq ZZ.out.1 h), L9.out, Kd.F_mono F9.out (fun k_ hk => by have z_ := ZZ.out; have h2 : g6 < k_ := hk; show w.heap.size ≤ k_; omega)⟩, LV.out, Kd.F_mono FV.out (fun k_ hk => by have z_ := ZZ.out; have h2 : g6 < k_ := hk; show w.heap.size ≤ k_; omega), HB.out⟩
set_option maxHeartbeats 4000000 in
theorem apply_10 (A0 : Option Addr) (c0 : Nat) (A1 : Option Addr) (c1 : Nat) (A2 : Option Addr) (c2 : Nat) (A3 : Option Addr) (c3 : Nat) (o : O) (kd a : Int) (E2 : Option Addr) (e2 : Nat) (E3 : Option Addr) (e3 : Nat) (E4 : Option Addr) (e4 : Nat) (ke va ol : List Int) (w : World) (hc : OC w o A0 c0 A1 c1 A2 c2 A3 c3) (hb : OB o) (hx : XC w ke va ol E2 e2 E3 e3 E4 e4) (hkd : kd = 10) :
  Calls Try.prog 10 #[.agg #[.slice A0 o.reg.length c0, .slice A1 o.que.length c1, .slice A2 o.loc.length c2, .slice A3 o.map.length c3], .agg #[.int .i64 kd, .int .i64 a, .slice E2 ke.length e2, .slice E3 va.length e3, .slice E4 ol.length e4]] w (TA w (o) (getR o.map ke)) := by
 subst hkd
 have HC := Aside0.mk hc
 have HO := Aside0.mk hb
 have HX := Aside0.mk hx
 clear hc hb hx
 have HB := Aside0.mk (Below.refl w.heap.size w)
 go_enter Try.func10, Try.ntmps10
 go_wp2_with fail
 generalize hV0 : World.alloc _ _ = V0
 obtain ⟨K0, K1, K2, K3, hb_, SV0⟩ := al4 hV0
 clear hV0
 replace HB := HBs HB hb_
 clear hb_
 refine (objs28 A0 c0 A1 c1 A2 c2 A3 c3 o V0 (HC.out.below HB.out) HO.out).mono ?_
 rintro e w1 ⟨B0, d0, B1, d1, B2, d2, B3, d3, rfl, hF, hb_⟩
 obtain ⟨b1, hb1⟩ : ∃ b_, b_ = V0.heap.size := ⟨_, rfl⟩
 obtain ⟨m1, hm1⟩ : ∃ b_, b_ = w1.heap.size := ⟨_, rfl⟩
 have L0 := Aside0.mk hF.h0
 have F0 := Aside0.mk (Kd.F_mono (Kd.F_bound hF.r0) (ok' := fun k => b1 ≤ k ∧ k < m1) (mq hb1 hm1))
 have L1 := Aside0.mk hF.h1
 have F1 := Aside0.mk (Kd.F_mono (Kd.F_bound hF.r1) (ok' := fun k => b1 ≤ k ∧ k < m1) (mq hb1 hm1))
 have L2 := Aside0.mk hF.h2
 have F2 := Aside0.mk (Kd.F_mono (Kd.F_bound hF.r2) (ok' := fun k => b1 ≤ k ∧ k < m1) (mq hb1 hm1))
 have L3 := Aside0.mk hF.h3
 have F3 := Aside0.mk (Kd.F_mono (Kd.F_bound hF.r3) (ok' := fun k => b1 ≤ k ∧ k < m1) (mq hb1 hm1))
 have Z1 := Aside0.mk (show w.heap.size + 4 ≤ b1 ∧ b1 ≤ m1 from ⟨by rw [hb1, SV0.out]; exact Nat.le_refl _, by rw [hb1, hm1]; exact hb_.size⟩)
 clear hF hb1
 replace HB := HBs HB hb_
 replace K0 := KB K0 hb_
 replace K1 := KB K1 hb_
 replace K2 := KB K2 hb_
 replace K3 := KB K3 hb_
 clear hb_
 obtain ⟨x0, x1, x2, x3, x40, x41, x42, x43⟩ := cel4 K0.out
 go_wp2_with (
  (with_reducible refine gate_dst (N := 6) rfl ?_)
  clear x0 x1 x2 x3 x40 x41 x42 x43
  generalize hV2 : World.setCell (World.setCell (World.setCell (World.setCell w1 _ _) _ _) _ _) _ _ = V2
  have hge_ : w.heap.size ≤ w.heap.size := by have z_ := Z1.out; omega
  have hst_ := st4 HB.out hge_ K0.out hV2
  replace HB := Aside0.mk hst_.1
  replace K0 := Aside0.mk hst_.2.1
  have z_ := Z1.out
  replace K1 := KS K1 hst_ (by omega)
  replace K2 := KS K2 hst_ (by omega)
  replace K3 := KS K3 hst_ (by omega)
  have e0_ : ∀ k_, (b1 ≤ k_ ∧ k_ < m1) → k_ ≠ w.heap.size := fun k_ h_ => by omega
  replace F0 := FS F0 hst_ e0_
  replace F1 := FS F1 hst_ e0_
  replace F2 := FS F2 hst_ e0_
  replace F3 := FS F3 hst_ e0_
  clear e0_
  have SV2 := Aside0.mk hst_.2.2.2
  clear hV2 hst_ hge_ z_
  refine box_event ?hg (N := 6) ?hd (cs := #[.int .i64 0, .slice none 0 0, .int .i64 0]) (t := 34) ?hr ?_
  (case hd => rfl)
  (case hg => rfl)
  (case hr => go_simp <;> rfl)
  intro g6 hg V3 hbox hb_
  have K6 := Aside0.mk hbox
  have hlt_ := (Array.getElem?_eq_some_iff.1 hbox).1
  have ZZ := Aside0.mk (show w.heap.size + 4 ≤ b1 ∧ b1 ≤ m1 ∧ m1 ≤ g6 ∧ g6 < V3.heap.size from ⟨Z1.out.1, Z1.out.2, by rw [hg, SV2.out, hm1]; exact Nat.le_refl _, hlt_⟩)
  clear hg hm1 Z1 SV2 SV0 hbox hlt_
  replace HB := HBs HB hb_
  replace K0 := KB K0 hb_
  replace K1 := KB K1 hb_
  replace K2 := KB K2 hb_
  replace K3 := KB K3 hb_
  replace F0 := FB F0 hb_
  replace F1 := FB F1 hb_
  replace F2 := FB F2 hb_
  replace F3 := FB F3 hb_
  clear hb_
  obtain ⟨x0, x1, x2, x3, x40, x41, x42, x43⟩ := cel4 K0.out
  obtain ⟨y0, y1, y2, y3, y4, y50, y51, y52, y53, y54⟩ := cel5 K1.out)
 clear x0 x1 x2 x3 x40 x41 x42 x43
 clear y0 y1 y2 y3 y4 y50 y51 y52 y53 y54
 refine (get36 B3 E2 d3 e2 o.map ke V3 (Kd.F_now F3.out) L3.out HO.out.e3 (Kd.C_below HX.out.r2 HB.out) HX.out.h2).mono ?_
 rintro e w4 ⟨Av, cv, rfl, hcv, hFv, hb_⟩
 have LV := Aside0.mk hcv
 have FV := Aside0.mk (Kd.F_mono hFv (ok' := fun k_ => g6 < k_) (fun k hk => by have z_ := ZZ.out; have h2 : V3.heap.size ≤ k := hk; show g6 < k; omega))
 clear hFv hcv
 replace HB := HBs HB hb_
 replace K0 := KB K0 hb_
 replace K1 := KB K1 hb_
 replace K2 := KB K2 hb_
 replace K3 := KB K3 hb_
 replace K6 := KB K6 hb_
 replace F0 := FB F0 hb_
 replace F1 := FB F1 hb_
 replace F2 := FB F2 hb_
 replace F3 := FB F3 hb_
 clear hb_
 have n6 : ¬ g6 = w.heap.size := by have z_ := ZZ.out; omega
 have n6' : ¬ w.heap.size = g6 := by have z_ := ZZ.out; omega
 obtain ⟨x0, x1, x2, x3, x40, x41, x42, x43⟩ := cel4 K0.out
 obtain ⟨v0, v1, v2, v30, v31, v32⟩ := cel3 K6.out
 go_wp2_with fail
 clear x0 x1 x2 x3 x40 x41 x42 x43
 clear v0 v1 v2 v30 v31 v32
 clear n6 n6'
 generalize hV6 : World.setCell (World.setCell (World.setCell w4 _ _) _ _) _ _ = V6
 have hge_ : w.heap.size ≤ g6 := by have z_ := ZZ.out; omega
 have hst_ := st3 HB.out hge_ K6.out hV6
 replace HB := Aside0.mk hst_.1
 replace K6 := Aside0.mk hst_.2.1
 have z_ := ZZ.out
 replace K0 := KS K0 hst_ (by omega)
 replace K1 := KS K1 hst_ (by omega)
 replace K2 := KS K2 hst_ (by omega)
 replace K3 := KS K3 hst_ (by omega)
 have e0_ : ∀ k_, (b1 ≤ k_ ∧ k_ < m1) → k_ ≠ g6 := fun k_ h_ => by omega
 replace F0 := FS F0 hst_ e0_
 replace F1 := FS F1 hst_ e0_
 replace F2 := FS F2 hst_ e0_
 replace F3 := FS F3 hst_ e0_
 have e1_ : ∀ k_, (g6 < k_) → k_ ≠ g6 := fun k_ h_ => by omega
 replace FV := FS FV hst_ e1_
 clear e0_ e1_
 have SV6 := Aside0.mk hst_.2.2.2
 clear hV6 hst_ hge_ z_
 obtain ⟨x0, x1, x2, x3, x40, x41, x42, x43⟩ := cel4 K0.out
 obtain ⟨v0, v1, v2, v30, v31, v32⟩ := cel3 K6.out
 obtain ⟨s0, s1, s2, s3, s40, s41, s42, s43⟩ := cel4 K2.out
 obtain ⟨t0, t1, t2, t30, t31, t32⟩ := cel3 K3.out
 have n0 : ¬ g6 = w.heap.size + 1 + 1 := by have z_ := ZZ.out; omega
 have n0' : ¬ w.heap.size + 1 + 1 = g6 := by have z_ := ZZ.out; omega
 have n1 : ¬ g6 = w.heap.size + 1 + 1 + 1 := by have z_ := ZZ.out; omega
 have n1' : ¬ w.heap.size + 1 + 1 + 1 = g6 := by have z_ := ZZ.out; omega
 go_wp2_with fail
 go_region
 clear n0 n0' n1 n1'
 clear x0 x1 x2 x3 x40 x41 x42 x43
 clear v0 v1 v2 v30 v31 v32
 clear s0 s1 s2 s3 s40 s41 s42 s43
 clear t0 t1 t2 t30 t31 t32
 generalize hV7 : World.setCell (World.setCell (World.setCell (World.setCell V6 _ _) _ _) _ _) _ _ = V7
 have hge_ : w.heap.size ≤ w.heap.size + 1 + 1 := by have z_ := ZZ.out; omega
 have hst_ := st4 HB.out hge_ K2.out hV7
 replace HB := Aside0.mk hst_.1
 replace K2 := Aside0.mk hst_.2.1
 have z_ := ZZ.out
 replace K0 := KS K0 hst_ (by omega)
 replace K1 := KS K1 hst_ (by omega)
 replace K3 := KS K3 hst_ (by omega)
 replace K6 := KS K6 hst_ (by omega)
 have e0_ : ∀ k_, (b1 ≤ k_ ∧ k_ < m1) → k_ ≠ w.heap.size + 1 + 1 := fun k_ h_ => by omega
 replace F0 := FS F0 hst_ e0_
 replace F1 := FS F1 hst_ e0_
 replace F2 := FS F2 hst_ e0_
 replace F3 := FS F3 hst_ e0_
 have e1_ : ∀ k_, (g6 < k_) → k_ ≠ w.heap.size + 1 + 1 := fun k_ h_ => by omega
 replace FV := FS FV hst_ e1_
 clear e0_ e1_
 have SV7 := Aside0.mk hst_.2.2.2
 clear hV7 hst_ hge_ z_
 generalize hV8 : World.setCell (World.setCell (World.setCell V7 _ _) _ _) _ _ = V8
 have hge_ : w.heap.size ≤ w.heap.size + 1 + 1 + 1 := by have z_ := ZZ.out; omega
 have hst_ := st3 HB.out hge_ K3.out hV8
 replace HB := Aside0.mk hst_.1
 replace K3 := Aside0.mk hst_.2.1
 have z_ := ZZ.out
 replace K0 := KS K0 hst_ (by omega)
 replace K1 := KS K1 hst_ (by omega)
 replace K2 := KS K2 hst_ (by omega)
 replace K6 := KS K6 hst_ (by omega)
 have e0_ : ∀ k_, (b1 ≤ k_ ∧ k_ < m1) → k_ ≠ w.heap.size + 1 + 1 + 1 := fun k_ h_ => by omega
 replace F0 := FS F0 hst_ e0_
 replace F1 := FS F1 hst_ e0_
 replace F2 := FS F2 hst_ e0_
 replace F3 := FS F3 hst_ e0_
 have e1_ : ∀ k_, (g6 < k_) → k_ ≠ w.heap.size + 1 + 1 + 1 := fun k_ h_ => by omega
 replace FV := FS FV hst_ e1_
 clear e0_ e1_
 have SV8 := Aside0.mk hst_.2.2.2
 clear hV8 hst_ hge_ z_
 have bd_ := below_drew1 (Below.refl V8.heap.size V8)
 replace HB := HBs HB bd_
 replace K0 := KB K0 bd_
 replace K1 := KB K1 bd_
 replace K2 := KB K2 bd_
 replace K3 := KB K3 bd_
 replace K6 := KB K6 bd_
 replace F0 := FB F0 bd_
 replace F1 := FB F1 bd_
 replace F2 := FB F2 bd_
 replace F3 := FB F3 bd_
 replace FV := FB FV bd_
 clear bd_
 go_wp2
 refine bodyPost_ret (results_cc rfl _ _ (w.heap.size + 1 + 1) (w.heap.size + 1 + 1 + 1) 32 34 #[.slice B0 o.reg.length d0, .slice B1 o.que.length d1, .slice B2 o.loc.length d2, .slice B3 o.map.length d3] #[.int .i64 (getR o.map ke).f0, .slice Av (getR o.map ke).f1.length cv, .int .i64 (getR o.map ke).f2] (0, 0) (0, 0) _ _ rfl K2.out Try.underlying32 rfl (by kernel_rfl) rfl K3.out Try.underlying34 rfl (by kernel_rfl)) rfl ?_
 exact ⟨B0, d0, B1, d1, B2, d2, B3, d3, Av, cv, rfl, ⟨L0.out, Kd.F_mono F0.out (fun _ h => zq ZZ.out.1 h), L1.out, Kd.F_mono F1.out (fun _ h => zq ZZ.out.1 h), L2.out, Kd.F_mono F2.out (fun _ h => zq ZZ.out.1 h), L3.out, Kd.F_mono F3.out (fun _ h => zq ZZ.out.1 h)⟩, LV.out, Kd.F_mono FV.out (fun k_ hk => by have z_ := ZZ.out; have h2 : g6 < k_ := hk; show w.heap.size ≤ k_; omega), HB.out⟩
set_option maxHeartbeats 4000000 in
theorem apply_11 (A0 : Option Addr) (c0 : Nat) (A1 : Option Addr) (c1 : Nat) (A2 : Option Addr) (c2 : Nat) (A3 : Option Addr) (c3 : Nat) (o : O) (kd a : Int) (E2 : Option Addr) (e2 : Nat) (E3 : Option Addr) (e3 : Nat) (E4 : Option Addr) (e4 : Nat) (ke va ol : List Int) (w : World) (hc : OC w o A0 c0 A1 c1 A2 c2 A3 c3) (hb : OB o) (hx : XC w ke va ol E2 e2 E3 e3 E4 e4) (hkd : kd = 11) :
  Calls Try.prog 10 #[.agg #[.slice A0 o.reg.length c0, .slice A1 o.que.length c1, .slice A2 o.loc.length c2, .slice A3 o.map.length c3], .agg #[.int .i64 kd, .int .i64 a, .slice E2 ke.length e2, .slice E3 va.length e3, .slice E4 ol.length e4]] w (TA w ({ o with map := (delR o.map ke).1 }) (delR o.map ke).2) := by
 subst hkd
 have HC := Aside0.mk hc
 have HO := Aside0.mk hb
 have HX := Aside0.mk hx
 clear hc hb hx
 have HB := Aside0.mk (Below.refl w.heap.size w)
 go_enter Try.func10, Try.ntmps10
 go_wp2_with fail
 generalize hV0 : World.alloc _ _ = V0
 obtain ⟨K0, K1, K2, K3, hb_, SV0⟩ := al4 hV0
 clear hV0
 replace HB := HBs HB hb_
 clear hb_
 refine (objs28 A0 c0 A1 c1 A2 c2 A3 c3 o V0 (HC.out.below HB.out) HO.out).mono ?_
 rintro e w1 ⟨B0, d0, B1, d1, B2, d2, B3, d3, rfl, hF, hb_⟩
 obtain ⟨b1, hb1⟩ : ∃ b_, b_ = V0.heap.size := ⟨_, rfl⟩
 obtain ⟨m1, hm1⟩ : ∃ b_, b_ = w1.heap.size := ⟨_, rfl⟩
 have L0 := Aside0.mk hF.h0
 have F0 := Aside0.mk (Kd.F_mono (Kd.F_bound hF.r0) (ok' := fun k => b1 ≤ k ∧ k < m1) (mq hb1 hm1))
 have L1 := Aside0.mk hF.h1
 have F1 := Aside0.mk (Kd.F_mono (Kd.F_bound hF.r1) (ok' := fun k => b1 ≤ k ∧ k < m1) (mq hb1 hm1))
 have L2 := Aside0.mk hF.h2
 have F2 := Aside0.mk (Kd.F_mono (Kd.F_bound hF.r2) (ok' := fun k => b1 ≤ k ∧ k < m1) (mq hb1 hm1))
 have L3 := Aside0.mk hF.h3
 have F3 := Aside0.mk (Kd.F_mono (Kd.F_bound hF.r3) (ok' := fun k => b1 ≤ k ∧ k < m1) (mq hb1 hm1))
 have Z1 := Aside0.mk (show w.heap.size + 4 ≤ b1 ∧ b1 ≤ m1 from ⟨by rw [hb1, SV0.out]; exact Nat.le_refl _, by rw [hb1, hm1]; exact hb_.size⟩)
 clear hF hb1
 replace HB := HBs HB hb_
 replace K0 := KB K0 hb_
 replace K1 := KB K1 hb_
 replace K2 := KB K2 hb_
 replace K3 := KB K3 hb_
 clear hb_
 obtain ⟨x0, x1, x2, x3, x40, x41, x42, x43⟩ := cel4 K0.out
 go_wp2_with (
  (with_reducible refine gate_dst (N := 6) rfl ?_)
  clear x0 x1 x2 x3 x40 x41 x42 x43
  generalize hV2 : World.setCell (World.setCell (World.setCell (World.setCell w1 _ _) _ _) _ _) _ _ = V2
  have hge_ : w.heap.size ≤ w.heap.size := by have z_ := Z1.out; omega
  have hst_ := st4 HB.out hge_ K0.out hV2
  replace HB := Aside0.mk hst_.1
  replace K0 := Aside0.mk hst_.2.1
  have z_ := Z1.out
  replace K1 := KS K1 hst_ (by omega)
  replace K2 := KS K2 hst_ (by omega)
  replace K3 := KS K3 hst_ (by omega)
  have e0_ : ∀ k_, (b1 ≤ k_ ∧ k_ < m1) → k_ ≠ w.heap.size := fun k_ h_ => by omega
  replace F0 := FS F0 hst_ e0_
  replace F1 := FS F1 hst_ e0_
  replace F2 := FS F2 hst_ e0_
  replace F3 := FS F3 hst_ e0_
  clear e0_
  have SV2 := Aside0.mk hst_.2.2.2
  clear hV2 hst_ hge_ z_
  refine box_event ?hg (N := 6) ?hd (cs := #[.int .i64 0, .slice none 0 0, .int .i64 0]) (t := 34) ?hr ?_
  (case hd => rfl)
  (case hg => rfl)
  (case hr => go_simp <;> rfl)
  intro g6 hg V3 hbox hb_
  have K6 := Aside0.mk hbox
  have hlt_ := (Array.getElem?_eq_some_iff.1 hbox).1
  have ZZ := Aside0.mk (show w.heap.size + 4 ≤ b1 ∧ b1 ≤ m1 ∧ m1 ≤ g6 ∧ g6 < V3.heap.size from ⟨Z1.out.1, Z1.out.2, by rw [hg, SV2.out, hm1]; exact Nat.le_refl _, hlt_⟩)
  clear hg hm1 Z1 SV2 SV0 hbox hlt_
  replace HB := HBs HB hb_
  replace K0 := KB K0 hb_
  replace K1 := KB K1 hb_
  replace K2 := KB K2 hb_
  replace K3 := KB K3 hb_
  replace F0 := FB F0 hb_
  replace F1 := FB F1 hb_
  replace F2 := FB F2 hb_
  replace F3 := FB F3 hb_
  clear hb_
  obtain ⟨x0, x1, x2, x3, x40, x41, x42, x43⟩ := cel4 K0.out
  obtain ⟨y0, y1, y2, y3, y4, y50, y51, y52, y53, y54⟩ := cel5 K1.out)
 clear x0 x1 x2 x3 x40 x41 x42 x43
 clear y0 y1 y2 y3 y4 y50 y51 y52 y53 y54
 refine (del37 B3 E2 d3 e2 o.map ke V3 (Kd.F_now F3.out) L3.out HO.out.b3 HO.out.e3 (Kd.C_below HX.out.r2 HB.out) HX.out.h2).mono ?_
 rintro e w4 ⟨A9, c9, Av, cv, rfl, hc9, hF9, hcv, hFv, hb_⟩
 have L9 := Aside0.mk hc9
 have F9 := Aside0.mk (Kd.F_mono hF9 (ok' := fun k_ => g6 < k_) (fun k hk => by have z_ := ZZ.out; have h2 : V3.heap.size ≤ k := hk; show g6 < k; omega))
 clear hF9 hc9
 have LV := Aside0.mk hcv
 have FV := Aside0.mk (Kd.F_mono hFv (ok' := fun k_ => g6 < k_) (fun k hk => by have z_ := ZZ.out; have h2 : V3.heap.size ≤ k := hk; show g6 < k; omega))
 clear hFv hcv
 replace HB := HBs HB hb_
 replace K0 := KB K0 hb_
 replace K1 := KB K1 hb_
 replace K2 := KB K2 hb_
 replace K3 := KB K3 hb_
 replace K6 := KB K6 hb_
 replace F0 := FB F0 hb_
 replace F1 := FB F1 hb_
 replace F2 := FB F2 hb_
 replace F3 := FB F3 hb_
 clear hb_
 have n6 : ¬ g6 = w.heap.size := by have z_ := ZZ.out; omega
 have n6' : ¬ w.heap.size = g6 := by have z_ := ZZ.out; omega
 obtain ⟨x0, x1, x2, x3, x40, x41, x42, x43⟩ := cel4 K0.out
 obtain ⟨v0, v1, v2, v30, v31, v32⟩ := cel3 K6.out
 go_wp2_with fail
 clear x0 x1 x2 x3 x40 x41 x42 x43
 clear v0 v1 v2 v30 v31 v32
 clear n6 n6'
 obtain ⟨V5, hV5⟩ : ∃ V_, V_ = (w4.setCell ⟨w.heap.size, 3, none⟩ (.slice A9 (delR o.map ke).1.length c9)) := ⟨_, rfl⟩
 rw [← hV5]
 have hge_ : w.heap.size ≤ w.heap.size := by have z_ := ZZ.out; omega
 have hst_ : St w.heap.size w (w.heap.size) 32 #[.slice B0 o.reg.length d0, .slice B1 o.que.length d1, .slice B2 o.loc.length d2, .slice A9 (delR o.map ke).1.length c9] w4 V5 := by rw [hV5]; exact (St.first HB.out hge_ K0.out 3 _ rfl)
 replace HB := Aside0.mk hst_.1
 replace K0 := Aside0.mk hst_.2.1
 have z_ := ZZ.out
 replace K1 := KS K1 hst_ (by omega)
 replace K2 := KS K2 hst_ (by omega)
 replace K3 := KS K3 hst_ (by omega)
 replace K6 := KS K6 hst_ (by omega)
 have e0_ : ∀ k_, (b1 ≤ k_ ∧ k_ < m1) → k_ ≠ w.heap.size := fun k_ h_ => by omega
 replace F0 := FS F0 hst_ e0_
 replace F1 := FS F1 hst_ e0_
 replace F2 := FS F2 hst_ e0_
 replace F3 := FS F3 hst_ e0_
 have e1_ : ∀ k_, (g6 < k_) → k_ ≠ w.heap.size := fun k_ h_ => by omega
 replace FV := FS FV hst_ e1_
 replace F9 := FS F9 hst_ e1_
 clear e0_ e1_
 have SV5 := Aside0.mk hst_.2.2.2
 clear hV5 hst_ hge_ z_
 generalize hV6 : World.setCell (World.setCell (World.setCell V5 _ _) _ _) _ _ = V6
 have hge_ : w.heap.size ≤ g6 := by have z_ := ZZ.out; omega
 have hst_ := st3 HB.out hge_ K6.out hV6
 replace HB := Aside0.mk hst_.1
 replace K6 := Aside0.mk hst_.2.1
 have z_ := ZZ.out
 replace K0 := KS K0 hst_ (by omega)
 replace K1 := KS K1 hst_ (by omega)
 replace K2 := KS K2 hst_ (by omega)
 replace K3 := KS K3 hst_ (by omega)
 have e0_ : ∀ k_, (b1 ≤ k_ ∧ k_ < m1) → k_ ≠ g6 := fun k_ h_ => by omega
 replace F0 := FS F0 hst_ e0_
 replace F1 := FS F1 hst_ e0_
 replace F2 := FS F2 hst_ e0_
 replace F3 := FS F3 hst_ e0_
 have e1_ : ∀ k_, (g6 < k_) → k_ ≠ g6 := fun k_ h_ => by omega
 replace FV := FS FV hst_ e1_
 replace F9 := FS F9 hst_ e1_
 clear e0_ e1_
 have SV6 := Aside0.mk hst_.2.2.2
 clear hV6 hst_ hge_ z_
 obtain ⟨x0, x1, x2, x3, x40, x41, x42, x43⟩ := cel4 K0.out
 obtain ⟨v0, v1, v2, v30, v31, v32⟩ := cel3 K6.out
 obtain ⟨s0, s1, s2, s3, s40, s41, s42, s43⟩ := cel4 K2.out
 obtain ⟨t0, t1, t2, t30, t31, t32⟩ := cel3 K3.out
 have n0 : ¬ g6 = w.heap.size + 1 + 1 := by have z_ := ZZ.out; omega
 have n0' : ¬ w.heap.size + 1 + 1 = g6 := by have z_ := ZZ.out; omega
 have n1 : ¬ g6 = w.heap.size + 1 + 1 + 1 := by have z_ := ZZ.out; omega
 have n1' : ¬ w.heap.size + 1 + 1 + 1 = g6 := by have z_ := ZZ.out; omega
 go_wp2_with fail
 go_region
 clear n0 n0' n1 n1'
 clear x0 x1 x2 x3 x40 x41 x42 x43
 clear v0 v1 v2 v30 v31 v32
 clear s0 s1 s2 s3 s40 s41 s42 s43
 clear t0 t1 t2 t30 t31 t32
 generalize hV7 : World.setCell (World.setCell (World.setCell (World.setCell V6 _ _) _ _) _ _) _ _ = V7
 have hge_ : w.heap.size ≤ w.heap.size + 1 + 1 := by have z_ := ZZ.out; omega
 have hst_ := st4 HB.out hge_ K2.out hV7
 replace HB := Aside0.mk hst_.1
 replace K2 := Aside0.mk hst_.2.1
 have z_ := ZZ.out
 replace K0 := KS K0 hst_ (by omega)
 replace K1 := KS K1 hst_ (by omega)
 replace K3 := KS K3 hst_ (by omega)
 replace K6 := KS K6 hst_ (by omega)
 have e0_ : ∀ k_, (b1 ≤ k_ ∧ k_ < m1) → k_ ≠ w.heap.size + 1 + 1 := fun k_ h_ => by omega
 replace F0 := FS F0 hst_ e0_
 replace F1 := FS F1 hst_ e0_
 replace F2 := FS F2 hst_ e0_
 replace F3 := FS F3 hst_ e0_
 have e1_ : ∀ k_, (g6 < k_) → k_ ≠ w.heap.size + 1 + 1 := fun k_ h_ => by omega
 replace FV := FS FV hst_ e1_
 replace F9 := FS F9 hst_ e1_
 clear e0_ e1_
 have SV7 := Aside0.mk hst_.2.2.2
 clear hV7 hst_ hge_ z_
 generalize hV8 : World.setCell (World.setCell (World.setCell V7 _ _) _ _) _ _ = V8
 have hge_ : w.heap.size ≤ w.heap.size + 1 + 1 + 1 := by have z_ := ZZ.out; omega
 have hst_ := st3 HB.out hge_ K3.out hV8
 replace HB := Aside0.mk hst_.1
 replace K3 := Aside0.mk hst_.2.1
 have z_ := ZZ.out
 replace K0 := KS K0 hst_ (by omega)
 replace K1 := KS K1 hst_ (by omega)
 replace K2 := KS K2 hst_ (by omega)
 replace K6 := KS K6 hst_ (by omega)
 have e0_ : ∀ k_, (b1 ≤ k_ ∧ k_ < m1) → k_ ≠ w.heap.size + 1 + 1 + 1 := fun k_ h_ => by omega
 replace F0 := FS F0 hst_ e0_
 replace F1 := FS F1 hst_ e0_
 replace F2 := FS F2 hst_ e0_
 replace F3 := FS F3 hst_ e0_
 have e1_ : ∀ k_, (g6 < k_) → k_ ≠ w.heap.size + 1 + 1 + 1 := fun k_ h_ => by omega
 replace FV := FS FV hst_ e1_
 replace F9 := FS F9 hst_ e1_
 clear e0_ e1_
 have SV8 := Aside0.mk hst_.2.2.2
 clear hV8 hst_ hge_ z_
 have bd_ := below_drew1 (Below.refl V8.heap.size V8)
 replace HB := HBs HB bd_
 replace K0 := KB K0 bd_
 replace K1 := KB K1 bd_
 replace K2 := KB K2 bd_
 replace K3 := KB K3 bd_
 replace K6 := KB K6 bd_
 replace F0 := FB F0 bd_
 replace F1 := FB F1 bd_
 replace F2 := FB F2 bd_
 replace F3 := FB F3 bd_
 replace FV := FB FV bd_
 replace F9 := FB F9 bd_
 clear bd_
 go_wp2
 refine bodyPost_ret (results_cc rfl _ _ (w.heap.size + 1 + 1) (w.heap.size + 1 + 1 + 1) 32 34 #[.slice B0 o.reg.length d0, .slice B1 o.que.length d1, .slice B2 o.loc.length d2, .slice A9 (delR o.map ke).1.length c9] #[.int .i64 (delR o.map ke).2.f0, .slice Av (delR o.map ke).2.f1.length cv, .int .i64 (delR o.map ke).2.f2] (0, 0) (0, 0) _ _ rfl K2.out Try.underlying32 rfl (by kernel_rfl) rfl K3.out Try.underlying34 rfl (by kernel_rfl)) rfl ?_
 exact ⟨B0, d0, B1, d1, B2, d2, A9, c9, Av, cv, rfl, ⟨L0.out, Kd.F_mono F0.out (fun _ h => zq ZZ.out.1 h), L1.out, Kd.F_mono F1.out (fun _ h => zq ZZ.out.1 h), L2.out, Kd.F_mono F2.out (fun _ h => zq ZZ.out.1 h), L9.out, Kd.F_mono F9.out (fun k_ hk => by have z_ := ZZ.out; have h2 : g6 < k_ := hk; show w.heap.size ≤ k_; omega)⟩, LV.out, Kd.F_mono FV.out (fun k_ hk => by have z_ := ZZ.out; have h2 : g6 < k_ := hk; show w.heap.size ≤ k_; omega), HB.out⟩
theorem apply10 (A0 : Option Addr) (c0 : Nat) (A1 : Option Addr) (c1 : Nat) (A2 : Option Addr) (c2 : Nat) (A3 : Option Addr) (c3 : Nat) (o : O) (kd a : Int) (E2 : Option Addr) (e2 : Nat) (E3 : Option Addr) (e3 : Nat) (E4 : Option Addr) (e4 : Nat) (ke va ol : List Int) (w : World) (hc : OC w o A0 c0 A1 c1 A2 c2 A3 c3) (hb : OB o) (hx : XC w ke va ol E2 e2 E3 e3 E4 e4) : Calls Try.prog 10 #[.agg #[.slice A0 o.reg.length c0, .slice A1 o.que.length c1, .slice A2 o.loc.length c2, .slice A3 o.map.length c3], .agg #[.int .i64 kd, .int .i64 a, .slice E2 ke.length e2, .slice E3 va.length e3, .slice E4 ol.length e4]] w (TA w (applyR o kd a ke va ol).1 (applyR o kd a ke va ol).2) := by
 unfold applyR
 by_cases h1 : kd = 1
 ·
  subst h1; rw [if_pos rfl]; exact apply_1 A0 c0 A1 c1 A2 c2 A3 c3 o 1 a E2 e2 E3 e3 E4 e4 ke va ol w hc hb hx rfl
 rw [if_neg h1]
 by_cases h2 : kd = 2
 ·
  subst h2; rw [if_pos rfl]; exact apply_2 A0 c0 A1 c1 A2 c2 A3 c3 o 2 a E2 e2 E3 e3 E4 e4 ke va ol w hc hb hx rfl
 rw [if_neg h2]
 by_cases h3 : kd = 3
 ·
  subst h3; rw [if_pos rfl]; exact apply_3 A0 c0 A1 c1 A2 c2 A3 c3 o 3 a E2 e2 E3 e3 E4 e4 ke va ol w hc hb hx rfl
 rw [if_neg h3]
 by_cases h4 : kd = 4
 ·
  subst h4; rw [if_pos rfl]; exact apply_4 A0 c0 A1 c1 A2 c2 A3 c3 o 4 a E2 e2 E3 e3 E4 e4 ke va ol w hc hb hx rfl
 rw [if_neg h4]
 by_cases h5 : kd = 5
 ·
  subst h5; rw [if_pos rfl]; exact apply_5 A0 c0 A1 c1 A2 c2 A3 c3 o 5 a E2 e2 E3 e3 E4 e4 ke va ol w hc hb hx rfl
 rw [if_neg h5]
 by_cases h6 : kd = 6
 ·
  subst h6; rw [if_pos (by simp)]; exact apply_6 A0 c0 A1 c1 A2 c2 A3 c3 o 6 a E2 e2 E3 e3 E4 e4 ke va ol w hc hb hx rfl
 by_cases h7 : kd = 7
 ·
  subst h7; rw [if_pos (by simp)]; exact apply_7 A0 c0 A1 c1 A2 c2 A3 c3 o 7 a E2 e2 E3 e3 E4 e4 ke va ol w hc hb hx rfl
 by_cases h8 : kd = 8
 ·
  subst h8; rw [if_pos (by simp)]; exact apply_8 A0 c0 A1 c1 A2 c2 A3 c3 o 8 a E2 e2 E3 e3 E4 e4 ke va ol w hc hb hx rfl
 rw [if_neg (by omega)]
 by_cases h9 : kd = 9
 ·
  subst h9; rw [if_pos rfl]; exact apply_9 A0 c0 A1 c1 A2 c2 A3 c3 o 9 a E2 e2 E3 e3 E4 e4 ke va ol w hc hb hx rfl
 rw [if_neg h9]
 by_cases h10 : kd = 10
 ·
  subst h10; rw [if_pos rfl]; exact apply_10 A0 c0 A1 c1 A2 c2 A3 c3 o 10 a E2 e2 E3 e3 E4 e4 ke va ol w hc hb hx rfl
 rw [if_neg h10]
 by_cases h11 : kd = 11
 ·
  subst h11; rw [if_pos rfl]; exact apply_11 A0 c0 A1 c1 A2 c2 A3 c3 o 11 a E2 e2 E3 e3 E4 e4 ke va ol w hc hb hx rfl
 rw [if_neg h11]
 exact apply_0 A0 c0 A1 c1 A2 c2 A3 c3 o kd a E2 e2 E3 e3 E4 e4 ke va ol w hc hb hx (by omega)
set_option maxHeartbeats 2000000 in
theorem same15_0f (A0 : Option Addr) (c0 : Nat) (A1 : Option Addr) (c1 : Nat) (A2 : Option Addr) (c2 : Nat) (A3 : Option Addr) (c3 : Nat) (B0 : Option Addr) (d0 : Nat) (B1 : Option Addr) (d1 : Nat) (B2 : Option Addr) (d2 : Nat) (B3 : Option Addr) (d3 : Nat) (a b : O) (w : World) (ha : OC w a A0 c0 A1 c1 A2 c2 A3 c3) (hb : OC w b B0 d0 B1 d1 B2 d2 B3 d3) (h0 : eqB a.reg b.reg = false) : Calls Try.prog 15 #[.agg #[.slice A0 a.reg.length c0, .slice A1 a.que.length c1, .slice A2 a.loc.length c2, .slice A3 a.map.length c3], .agg #[.slice B0 b.reg.length d0, .slice B1 b.que.length d1, .slice B2 b.loc.length d2, .slice B3 b.map.length d3]] w fun e w' => e = .returned (.bool false) ∧ Below w.heap.size w w' := by
 have HA := Aside0.mk ha
 have HB0 := Aside0.mk hb
 clear ha hb
 have hq0 : eqB a.reg b.reg = false := h0
 clear h0
 have HB := Aside0.mk (Below.refl w.heap.size w)
 go_enter Try.func15, Try.ntmps15
 obtain ⟨V0, hV0⟩ : ∃ V_, V_ = (w.alloc (.cells #[.slice A0 a.reg.length c0, .slice A1 a.que.length c1, .slice A2 a.loc.length c2, .slice A3 a.map.length c3] 32)).alloc (.cells #[.slice B0 b.reg.length d0, .slice B1 b.que.length d1, .slice B2 b.loc.length d2, .slice B3 b.map.length d3] 32) := ⟨_, rfl⟩
 have hb0 : Below w.heap.size w V0 := by rw [hV0]; exact below_alloc (below_alloc (Below.refl _ _) _) _
 have q1 := Kd.C_string (P := Try.prog) (A := A0) (c := c0) Try.underlying22 Try.underlying5 Try.underlying9 (Kd.C_below HA.out.r0 hb0)
 have q2 := Kd.C_string (P := Try.prog) (A := B0) (c := d0) Try.underlying22 Try.underlying5 Try.underlying9 (Kd.C_below HB0.out.r0 hb0)
 have q3 : ((strOfNums a.reg).toList == (strOfNums b.reg).toList) = false := hq0
 rw [hV0] at q1 q2
 clear hV0 hb0 hq0
 go_wp2_with fail
 go_ret
 exact ⟨rfl, below_alloc (below_alloc (Below.refl _ _) _) _⟩
set_option maxHeartbeats 2000000 in
theorem same15_1f (A0 : Option Addr) (c0 : Nat) (A1 : Option Addr) (c1 : Nat) (A2 : Option Addr) (c2 : Nat) (A3 : Option Addr) (c3 : Nat) (B0 : Option Addr) (d0 : Nat) (B1 : Option Addr) (d1 : Nat) (B2 : Option Addr) (d2 : Nat) (B3 : Option Addr) (d3 : Nat) (a b : O) (w : World) (ha : OC w a A0 c0 A1 c1 A2 c2 A3 c3) (hb : OC w b B0 d0 B1 d1 B2 d2 B3 d3) (h0 : eqB a.reg b.reg = true) (h1 : eqQ a.que b.que = false) : Calls Try.prog 15 #[.agg #[.slice A0 a.reg.length c0, .slice A1 a.que.length c1, .slice A2 a.loc.length c2, .slice A3 a.map.length c3], .agg #[.slice B0 b.reg.length d0, .slice B1 b.que.length d1, .slice B2 b.loc.length d2, .slice B3 b.map.length d3]] w fun e w' => e = .returned (.bool false) ∧ Below w.heap.size w w' := by
 have HA := Aside0.mk ha
 have HB0 := Aside0.mk hb
 clear ha hb
 have hq0 : eqB a.reg b.reg = true := h0
 have hq1 : eqQ a.que b.que = false := h1
 clear h0 h1
 have HB := Aside0.mk (Below.refl w.heap.size w)
 go_enter Try.func15, Try.ntmps15
 obtain ⟨V0, hV0⟩ : ∃ V_, V_ = (w.alloc (.cells #[.slice A0 a.reg.length c0, .slice A1 a.que.length c1, .slice A2 a.loc.length c2, .slice A3 a.map.length c3] 32)).alloc (.cells #[.slice B0 b.reg.length d0, .slice B1 b.que.length d1, .slice B2 b.loc.length d2, .slice B3 b.map.length d3] 32) := ⟨_, rfl⟩
 have hb0 : Below w.heap.size w V0 := by rw [hV0]; exact below_alloc (below_alloc (Below.refl _ _) _) _
 have q1 := Kd.C_string (P := Try.prog) (A := A0) (c := c0) Try.underlying22 Try.underlying5 Try.underlying9 (Kd.C_below HA.out.r0 hb0)
 have q2 := Kd.C_string (P := Try.prog) (A := B0) (c := d0) Try.underlying22 Try.underlying5 Try.underlying9 (Kd.C_below HB0.out.r0 hb0)
 have q3 : ((strOfNums a.reg).toList == (strOfNums b.reg).toList) = true := hq0
 rw [hV0] at q1 q2
 clear hV0 hb0 hq0
 go_wp2_with fail
 clear q1 q2 q3
 generalize hV0 : World.alloc _ _ = V0
 obtain ⟨K0, K1, hb_, SV0⟩ := al2 hV0
 clear hV0
 replace HB := HBs HB hb_
 clear hb_
 refine (rows20 A1 c1 a.que B1 d1 b.que V0 (Kd.C_below HA.out.r1 HB.out) (Kd.C_below HB0.out.r1 HB.out)).mono ?_
 rintro e u2 ⟨rfl, hb_⟩
 replace HB := HBs HB hb_
 replace K0 := KB K0 hb_
 replace K1 := KB K1 hb_
 clear hb_
 obtain ⟨x0, x1, x2, x3, x40, x41, x42, x43⟩ := cel4 K0.out
 obtain ⟨y0, y1, y2, y3, y40, y41, y42, y43⟩ := cel4 K1.out
 rw [hq1]
 clear hq1
 go_wp2_with fail
 clear x0 x1 x2 x3 x40 x41 x42 x43
 clear y0 y1 y2 y3 y40 y41 y42 y43
 go_ret
 exact ⟨rfl, HB.out⟩
set_option maxHeartbeats 2000000 in
theorem same15_2f (A0 : Option Addr) (c0 : Nat) (A1 : Option Addr) (c1 : Nat) (A2 : Option Addr) (c2 : Nat) (A3 : Option Addr) (c3 : Nat) (B0 : Option Addr) (d0 : Nat) (B1 : Option Addr) (d1 : Nat) (B2 : Option Addr) (d2 : Nat) (B3 : Option Addr) (d3 : Nat) (a b : O) (w : World) (ha : OC w a A0 c0 A1 c1 A2 c2 A3 c3) (hb : OC w b B0 d0 B1 d1 B2 d2 B3 d3) (h0 : eqB a.reg b.reg = true) (h1 : eqQ a.que b.que = true) (h2 : eqI a.loc b.loc = false) : Calls Try.prog 15 #[.agg #[.slice A0 a.reg.length c0, .slice A1 a.que.length c1, .slice A2 a.loc.length c2, .slice A3 a.map.length c3], .agg #[.slice B0 b.reg.length d0, .slice B1 b.que.length d1, .slice B2 b.loc.length d2, .slice B3 b.map.length d3]] w fun e w' => e = .returned (.bool false) ∧ Below w.heap.size w w' := by
 have HA := Aside0.mk ha
 have HB0 := Aside0.mk hb
 clear ha hb
 have hq0 : eqB a.reg b.reg = true := h0
 have hq1 : eqQ a.que b.que = true := h1
 have hq2 : eqI a.loc b.loc = false := h2
 clear h0 h1 h2
 have HB := Aside0.mk (Below.refl w.heap.size w)
 go_enter Try.func15, Try.ntmps15
 obtain ⟨V0, hV0⟩ : ∃ V_, V_ = (w.alloc (.cells #[.slice A0 a.reg.length c0, .slice A1 a.que.length c1, .slice A2 a.loc.length c2, .slice A3 a.map.length c3] 32)).alloc (.cells #[.slice B0 b.reg.length d0, .slice B1 b.que.length d1, .slice B2 b.loc.length d2, .slice B3 b.map.length d3] 32) := ⟨_, rfl⟩
 have hb0 : Below w.heap.size w V0 := by rw [hV0]; exact below_alloc (below_alloc (Below.refl _ _) _) _
 have q1 := Kd.C_string (P := Try.prog) (A := A0) (c := c0) Try.underlying22 Try.underlying5 Try.underlying9 (Kd.C_below HA.out.r0 hb0)
 have q2 := Kd.C_string (P := Try.prog) (A := B0) (c := d0) Try.underlying22 Try.underlying5 Try.underlying9 (Kd.C_below HB0.out.r0 hb0)
 have q3 : ((strOfNums a.reg).toList == (strOfNums b.reg).toList) = true := hq0
 rw [hV0] at q1 q2
 clear hV0 hb0 hq0
 go_wp2_with fail
 clear q1 q2 q3
 generalize hV0 : World.alloc _ _ = V0
 obtain ⟨K0, K1, hb_, SV0⟩ := al2 hV0
 clear hV0
 replace HB := HBs HB hb_
 clear hb_
 refine (rows20 A1 c1 a.que B1 d1 b.que V0 (Kd.C_below HA.out.r1 HB.out) (Kd.C_below HB0.out.r1 HB.out)).mono ?_
 rintro e u2 ⟨rfl, hb_⟩
 replace HB := HBs HB hb_
 replace K0 := KB K0 hb_
 replace K1 := KB K1 hb_
 clear hb_
 obtain ⟨x0, x1, x2, x3, x40, x41, x42, x43⟩ := cel4 K0.out
 obtain ⟨y0, y1, y2, y3, y40, y41, y42, y43⟩ := cel4 K1.out
 rw [hq1]
 clear hq1
 go_wp2_with fail
 clear x0 x1 x2 x3 x40 x41 x42 x43
 clear y0 y1 y2 y3 y40 y41 y42 y43
 refine (ints55 A2 c2 a.loc B2 d2 b.loc u2 (Kd.C_below HA.out.r2 HB.out) (Kd.C_below HB0.out.r2 HB.out)).mono ?_
 rintro e u3 ⟨rfl, hb_⟩
 replace HB := HBs HB hb_
 replace K0 := KB K0 hb_
 replace K1 := KB K1 hb_
 clear hb_
 obtain ⟨x0, x1, x2, x3, x40, x41, x42, x43⟩ := cel4 K0.out
 obtain ⟨y0, y1, y2, y3, y40, y41, y42, y43⟩ := cel4 K1.out
 rw [hq2]
 clear hq2
 go_wp2_with fail
 clear x0 x1 x2 x3 x40 x41 x42 x43
 clear y0 y1 y2 y3 y40 y41 y42 y43
 go_ret
 exact ⟨rfl, HB.out⟩
set_option maxHeartbeats 2000000 in
theorem same15_3f (A0 : Option Addr) (c0 : Nat) (A1 : Option Addr) (c1 : Nat) (A2 : Option Addr) (c2 : Nat) (A3 : Option Addr) (c3 : Nat) (B0 : Option Addr) (d0 : Nat) (B1 : Option Addr) (d1 : Nat) (B2 : Option Addr) (d2 : Nat) (B3 : Option Addr) (d3 : Nat) (a b : O) (w : World) (ha : OC w a A0 c0 A1 c1 A2 c2 A3 c3) (hb : OC w b B0 d0 B1 d1 B2 d2 B3 d3) (h0 : eqB a.reg b.reg = true) (h1 : eqQ a.que b.que = true) (h2 : eqI a.loc b.loc = true) (h3 : eqM a.map b.map = false) : Calls Try.prog 15 #[.agg #[.slice A0 a.reg.length c0, .slice A1 a.que.length c1, .slice A2 a.loc.length c2, .slice A3 a.map.length c3], .agg #[.slice B0 b.reg.length d0, .slice B1 b.que.length d1, .slice B2 b.loc.length d2, .slice B3 b.map.length d3]] w fun e w' => e = .returned (.bool false) ∧ Below w.heap.size w w' := by
 have HA := Aside0.mk ha
 have HB0 := Aside0.mk hb
 clear ha hb
 have hq0 : eqB a.reg b.reg = true := h0
 have hq1 : eqQ a.que b.que = true := h1
 have hq2 : eqI a.loc b.loc = true := h2
 have hq3 : eqM a.map b.map = false := h3
 clear h0 h1 h2 h3
 have HB := Aside0.mk (Below.refl w.heap.size w)
 go_enter Try.func15, Try.ntmps15
 obtain ⟨V0, hV0⟩ : ∃ V_, V_ = (w.alloc (.cells #[.slice A0 a.reg.length c0, .slice A1 a.que.length c1, .slice A2 a.loc.length c2, .slice A3 a.map.length c3] 32)).alloc (.cells #[.slice B0 b.reg.length d0, .slice B1 b.que.length d1, .slice B2 b.loc.length d2, .slice B3 b.map.length d3] 32) := ⟨_, rfl⟩
 have hb0 : Below w.heap.size w V0 := by rw [hV0]; exact below_alloc (below_alloc (Below.refl _ _) _) _
 have q1 := Kd.C_string (P := Try.prog) (A := A0) (c := c0) Try.underlying22 Try.underlying5 Try.underlying9 (Kd.C_below HA.out.r0 hb0)
 have q2 := Kd.C_string (P := Try.prog) (A := B0) (c := d0) Try.underlying22 Try.underlying5 Try.underlying9 (Kd.C_below HB0.out.r0 hb0)
 have q3 : ((strOfNums a.reg).toList == (strOfNums b.reg).toList) = true := hq0
 rw [hV0] at q1 q2
 clear hV0 hb0 hq0
 go_wp2_with fail
 clear q1 q2 q3
 generalize hV0 : World.alloc _ _ = V0
 obtain ⟨K0, K1, hb_, SV0⟩ := al2 hV0
 clear hV0
 replace HB := HBs HB hb_
 clear hb_
 refine (rows20 A1 c1 a.que B1 d1 b.que V0 (Kd.C_below HA.out.r1 HB.out) (Kd.C_below HB0.out.r1 HB.out)).mono ?_
 rintro e u2 ⟨rfl, hb_⟩
 replace HB := HBs HB hb_
 replace K0 := KB K0 hb_
 replace K1 := KB K1 hb_
 clear hb_
 obtain ⟨x0, x1, x2, x3, x40, x41, x42, x43⟩ := cel4 K0.out
 obtain ⟨y0, y1, y2, y3, y40, y41, y42, y43⟩ := cel4 K1.out
 rw [hq1]
 clear hq1
 go_wp2_with fail
 clear x0 x1 x2 x3 x40 x41 x42 x43
 clear y0 y1 y2 y3 y40 y41 y42 y43
 refine (ints55 A2 c2 a.loc B2 d2 b.loc u2 (Kd.C_below HA.out.r2 HB.out) (Kd.C_below HB0.out.r2 HB.out)).mono ?_
 rintro e u3 ⟨rfl, hb_⟩
 replace HB := HBs HB hb_
 replace K0 := KB K0 hb_
 replace K1 := KB K1 hb_
 clear hb_
 obtain ⟨x0, x1, x2, x3, x40, x41, x42, x43⟩ := cel4 K0.out
 obtain ⟨y0, y1, y2, y3, y40, y41, y42, y43⟩ := cel4 K1.out
 rw [hq2]
 clear hq2
 go_wp2_with fail
 clear x0 x1 x2 x3 x40 x41 x42 x43
 clear y0 y1 y2 y3 y40 y41 y42 y43
 refine (pairs21 A3 c3 a.map B3 d3 b.map u3 (Kd.C_below HA.out.r3 HB.out) (Kd.C_below HB0.out.r3 HB.out)).mono ?_
 rintro e u4 ⟨rfl, hb_⟩
 replace HB := HBs HB hb_
 replace K0 := KB K0 hb_
 replace K1 := KB K1 hb_
 clear hb_
 obtain ⟨x0, x1, x2, x3, x40, x41, x42, x43⟩ := cel4 K0.out
 obtain ⟨y0, y1, y2, y3, y40, y41, y42, y43⟩ := cel4 K1.out
 rw [hq3]
 clear hq3
 go_wp2_with fail
 clear x0 x1 x2 x3 x40 x41 x42 x43
 clear y0 y1 y2 y3 y40 y41 y42 y43
 go_ret
 exact ⟨rfl, HB.out⟩
set_option maxHeartbeats 2000000 in
theorem same15_3t (A0 : Option Addr) (c0 : Nat) (A1 : Option Addr) (c1 : Nat) (A2 : Option Addr) (c2 : Nat) (A3 : Option Addr) (c3 : Nat) (B0 : Option Addr) (d0 : Nat) (B1 : Option Addr) (d1 : Nat) (B2 : Option Addr) (d2 : Nat) (B3 : Option Addr) (d3 : Nat) (a b : O) (w : World) (ha : OC w a A0 c0 A1 c1 A2 c2 A3 c3) (hb : OC w b B0 d0 B1 d1 B2 d2 B3 d3) (h0 : eqB a.reg b.reg = true) (h1 : eqQ a.que b.que = true) (h2 : eqI a.loc b.loc = true) (h3 : eqM a.map b.map = true) : Calls Try.prog 15 #[.agg #[.slice A0 a.reg.length c0, .slice A1 a.que.length c1, .slice A2 a.loc.length c2, .slice A3 a.map.length c3], .agg #[.slice B0 b.reg.length d0, .slice B1 b.que.length d1, .slice B2 b.loc.length d2, .slice B3 b.map.length d3]] w fun e w' => e = .returned (.bool true) ∧ Below w.heap.size w w' := by
 have HA := Aside0.mk ha
 have HB0 := Aside0.mk hb
 clear ha hb
 have hq0 : eqB a.reg b.reg = true := h0
 have hq1 : eqQ a.que b.que = true := h1
 have hq2 : eqI a.loc b.loc = true := h2
 have hq3 : eqM a.map b.map = true := h3
 clear h0 h1 h2 h3
 have HB := Aside0.mk (Below.refl w.heap.size w)
 go_enter Try.func15, Try.ntmps15
 obtain ⟨V0, hV0⟩ : ∃ V_, V_ = (w.alloc (.cells #[.slice A0 a.reg.length c0, .slice A1 a.que.length c1, .slice A2 a.loc.length c2, .slice A3 a.map.length c3] 32)).alloc (.cells #[.slice B0 b.reg.length d0, .slice B1 b.que.length d1, .slice B2 b.loc.length d2, .slice B3 b.map.length d3] 32) := ⟨_, rfl⟩
 have hb0 : Below w.heap.size w V0 := by rw [hV0]; exact below_alloc (below_alloc (Below.refl _ _) _) _
 have q1 := Kd.C_string (P := Try.prog) (A := A0) (c := c0) Try.underlying22 Try.underlying5 Try.underlying9 (Kd.C_below HA.out.r0 hb0)
 have q2 := Kd.C_string (P := Try.prog) (A := B0) (c := d0) Try.underlying22 Try.underlying5 Try.underlying9 (Kd.C_below HB0.out.r0 hb0)
 have q3 : ((strOfNums a.reg).toList == (strOfNums b.reg).toList) = true := hq0
 rw [hV0] at q1 q2
 clear hV0 hb0 hq0
 go_wp2_with fail
 clear q1 q2 q3
 generalize hV0 : World.alloc _ _ = V0
 obtain ⟨K0, K1, hb_, SV0⟩ := al2 hV0
 clear hV0
 replace HB := HBs HB hb_
 clear hb_
 refine (rows20 A1 c1 a.que B1 d1 b.que V0 (Kd.C_below HA.out.r1 HB.out) (Kd.C_below HB0.out.r1 HB.out)).mono ?_
 rintro e u2 ⟨rfl, hb_⟩
 replace HB := HBs HB hb_
 replace K0 := KB K0 hb_
 replace K1 := KB K1 hb_
 clear hb_
 obtain ⟨x0, x1, x2, x3, x40, x41, x42, x43⟩ := cel4 K0.out
 obtain ⟨y0, y1, y2, y3, y40, y41, y42, y43⟩ := cel4 K1.out
 rw [hq1]
 clear hq1
 go_wp2_with fail
 clear x0 x1 x2 x3 x40 x41 x42 x43
 clear y0 y1 y2 y3 y40 y41 y42 y43
 refine (ints55 A2 c2 a.loc B2 d2 b.loc u2 (Kd.C_below HA.out.r2 HB.out) (Kd.C_below HB0.out.r2 HB.out)).mono ?_
 rintro e u3 ⟨rfl, hb_⟩
 replace HB := HBs HB hb_
 replace K0 := KB K0 hb_
 replace K1 := KB K1 hb_
 clear hb_
 obtain ⟨x0, x1, x2, x3, x40, x41, x42, x43⟩ := cel4 K0.out
 obtain ⟨y0, y1, y2, y3, y40, y41, y42, y43⟩ := cel4 K1.out
 rw [hq2]
 clear hq2
 go_wp2_with fail
 clear x0 x1 x2 x3 x40 x41 x42 x43
 clear y0 y1 y2 y3 y40 y41 y42 y43
 refine (pairs21 A3 c3 a.map B3 d3 b.map u3 (Kd.C_below HA.out.r3 HB.out) (Kd.C_below HB0.out.r3 HB.out)).mono ?_
 rintro e u4 ⟨rfl, hb_⟩
 replace HB := HBs HB hb_
 replace K0 := KB K0 hb_
 replace K1 := KB K1 hb_
 clear hb_
 obtain ⟨x0, x1, x2, x3, x40, x41, x42, x43⟩ := cel4 K0.out
 obtain ⟨y0, y1, y2, y3, y40, y41, y42, y43⟩ := cel4 K1.out
 rw [hq3]
 clear hq3
 go_wp2_with fail
 clear x0 x1 x2 x3 x40 x41 x42 x43
 clear y0 y1 y2 y3 y40 y41 y42 y43
 go_ret
 exact ⟨rfl, HB.out⟩
theorem same15 (A0 : Option Addr) (c0 : Nat) (A1 : Option Addr) (c1 : Nat) (A2 : Option Addr) (c2 : Nat) (A3 : Option Addr) (c3 : Nat) (B0 : Option Addr) (d0 : Nat) (B1 : Option Addr) (d1 : Nat) (B2 : Option Addr) (d2 : Nat) (B3 : Option Addr) (d3 : Nat) (a b : O) (w : World) (ha : OC w a A0 c0 A1 c1 A2 c2 A3 c3) (hb : OC w b B0 d0 B1 d1 B2 d2 B3 d3) : Calls Try.prog 15 #[.agg #[.slice A0 a.reg.length c0, .slice A1 a.que.length c1, .slice A2 a.loc.length c2, .slice A3 a.map.length c3], .agg #[.slice B0 b.reg.length d0, .slice B1 b.que.length d1, .slice B2 b.loc.length d2, .slice B3 b.map.length d3]] w fun e w' => e = .returned (.bool (sameO a b)) ∧ Below w.heap.size w w' := by
 unfold sameO
 cases h0 : eqB a.reg b.reg with
 | false => exact same15_0f A0 c0 A1 c1 A2 c2 A3 c3 B0 d0 B1 d1 B2 d2 B3 d3 a b w ha hb h0
 | true =>
  cases h1 : eqQ a.que b.que with
  | false => exact same15_1f A0 c0 A1 c1 A2 c2 A3 c3 B0 d0 B1 d1 B2 d2 B3 d3 a b w ha hb h0 h1
  | true =>
   cases h2 : eqI a.loc b.loc with
   | false => exact same15_2f A0 c0 A1 c1 A2 c2 A3 c3 B0 d0 B1 d1 B2 d2 B3 d3 a b w ha hb h0 h1 h2
   | true =>
    cases h3 : eqM a.map b.map with
    | false => exact same15_3f A0 c0 A1 c1 A2 c2 A3 c3 B0 d0 B1 d1 B2 d2 B3 d3 a b w ha hb h0 h1 h2 h3
    | true => exact same15_3t A0 c0 A1 c1 A2 c2 A3 c3 B0 d0 B1 d1 B2 d2 B3 d3 a b w ha hb h0 h1 h2 h3
theorem lit_u8 {w : World} {g n : Nat} {fr : Nat × Nat} (xs : List Int) (h : w.heap[g]? = some (.cells (xs.map (Value.int .u8)).toArray 5 fr)) (hm : xs.length ≤ 9223372036854775807) (hn : n = xs.length) : Kd.C (Kd.int .u8) w (some ⟨g, 0, none⟩) n xs := by
 refine ⟨hn.symm, by omega, fun _ => ⟨_, rfl, fun j p hj => ⟨[.int .u8 p], rfl, rfl, fun i u hu => ?_⟩⟩⟩
 cases i with
 | zero =>
  obtain rfl := Option.some.inj hu
  simp only [World.cell?, h, add_plain]
  rw [show j * (Kd.int IntKind.u8).sz + 0 = j from by simp [Kd.int, Kd.scalar]]
  simpa using hj
 | succ i => simp at hu
theorem conv_same (w : World) (C : Array Value) (n c g : Nat) (hg : w.heap.size = g) : (convert 22 22 (.slice (some ⟨g, 0, none⟩) n c)).run Try.prog (w.alloc (.cells C 5)) = .ok (.slice (some ⟨g, 0, none⟩) n c) (w.alloc (.cells C 5 (C.size, C.size + 1))) := by
 subst hg
 exact Lib.run_convert_bytes_const (P := Try.prog) w 22 5 C n c Try.underlying22 Try.underlying5
theorem C_empty {α : Type} {d : Kd α} {W : World} {A : Option Addr} : Kd.C d W A ([] : List α).length [] := ⟨rfl, by simp, fun h => absurd h (by simp)⟩
set_option maxHeartbeats 4000000 in
theorem awake12 (w : World) : Calls Try.prog 12 #[] w fun e w' => e = .returned (.bool true) ∧ Below w.heap.size w w' := by
 have kc := conv_same
 have HB := Aside0.mk (Below.refl w.heap.size w)
 go_enter Try.func12, Try.ntmps12
 go_wp2_with fail
 obtain ⟨V0, hV0⟩ : ∃ V_, V_ = (w.alloc (.cells #[.int .u8 97] 5 (1, 2))) := ⟨_, rfl⟩
 rw [← hV0]
 have hb_ : Below w.heap.size w V0 := by rw [hV0]; exact (below_alloc (Below.refl _ _) (.cells #[.int .u8 97] 5 (1, 2)))
 have L0 : Aside0 (V0.heap[w.heap.size]? = some (.cells #[.int .u8 97] 5 (1, 2))) := Aside0.mk (by have h_ := heap_alloc_self w (.cells #[.int .u8 97] 5 (1, 2)); rw [hV0]; simpa using h_)
 have SV0 : Aside0 (V0.heap.size = w.heap.size + 1) := Aside0.mk (by rw [hV0]; simp)
 clear hV0
 replace HB := HBs HB hb_
 clear hb_
 have con : Calls Try.prog 10 _ V0 (TA V0 (⟨[97], [], [], []⟩ : O) ⟨0, [], 0⟩) := apply10 none 0 none 0 none 0 none 0 (⟨[], [], [], []⟩ : O) 2 0 none 0 (some ⟨w.heap.size, 0, none⟩) 1 none 0 [] [97] [] V0 ⟨Nat.le_refl _, Kd.C_nil _ _, Nat.le_refl _, Kd.C_nil _ _, Nat.le_refl _, Kd.C_nil _ _, Nat.le_refl _, Kd.C_nil _ _⟩ ⟨by decide, by decide, by simp, by decide, by decide, by simp⟩ ⟨Nat.le_refl _, Kd.C_nil _ _, by decide, Nat.le_refl _, lit_u8 [97] L0.out (by decide) rfl, by decide, Nat.le_refl _, Kd.C_nil _ _, by decide⟩
 refine con.mono ?_
 rintro e w1 ⟨B0, d0, B1, d1, B2, d2, B3, d3, Av, av, rfl, hF, hcv, hFv, hb_⟩
 clear con
 have SV0_ := SV0.out
 have HO1 := Aside0.mk hF.C
 have F1v := Aside0.mk (Kd.F_now hFv)
 have L1v := Aside0.mk hcv
 have z1 := hb_.size
 have ZW1 := Aside0.mk (show w.heap.size + 1 ≤ w1.heap.size by omega)
 clear hF hFv hcv z1 L0 SV0_ SV0
 replace HB := HBs HB hb_
 clear hb_
 go_wp2_with fail
 have HW1 := Aside0.mk (Below.refl w1.heap.size w1)
 generalize hV1 : World.alloc _ _ = V1
 obtain ⟨K1, K2, hb_, SV1⟩ := al2 hV1
 clear hV1
 replace HB := HBs HB hb_
 replace HW1 := Aside0.mk (below_then HW1.out HW1.out.size hb_)
 clear hb_
 have con : Calls Try.prog 10 _ V1 (TA V1 (⟨[97], [], [7], []⟩ : O) ⟨0, [], 0⟩) := apply10 B0 d0 B1 d1 B2 d2 B3 d3 (⟨[97], [], [], []⟩ : O) 6 7 none 0 none 0 none 0 [] [] [] V1 (HO1.out.below HW1.out) ⟨by decide, by decide, by simp, by decide, by decide, by simp⟩ ⟨Nat.le_refl _, Kd.C_nil _ _, by decide, Nat.le_refl _, Kd.C_nil _ _, by decide, Nat.le_refl _, Kd.C_nil _ _, by decide⟩
 refine con.mono ?_
 rintro e w2 ⟨C0, e0, C1, e1, C2, e2, C3, e3, Bv, bv, rfl, hF, hcv, hFv, hb_⟩
 clear con
 obtain ⟨b2, hb2⟩ : ∃ b_, b_ = V1.heap.size := ⟨_, rfl⟩
 obtain ⟨m2, hm2⟩ : ∃ b_, b_ = w2.heap.size := ⟨_, rfl⟩
 obtain ⟨g1, hg1⟩ : ∃ b_, b_ = w1.heap.size := ⟨_, rfl⟩
 have L0 := Aside0.mk hF.h0
 have F0 := Aside0.mk (Kd.F_mono (Kd.F_bound hF.r0) (ok' := fun k => b2 ≤ k ∧ k < m2) (fun k hk => ⟨by rw [hb2]; exact hk.1, by rw [hm2]; exact hk.2⟩))
 have L1 := Aside0.mk hF.h1
 have F1 := Aside0.mk (Kd.F_mono (Kd.F_bound hF.r1) (ok' := fun k => b2 ≤ k ∧ k < m2) (fun k hk => ⟨by rw [hb2]; exact hk.1, by rw [hm2]; exact hk.2⟩))
 have L2 := Aside0.mk hF.h2
 have F2 := Aside0.mk (Kd.F_mono (Kd.F_bound hF.r2) (ok' := fun k => b2 ≤ k ∧ k < m2) (fun k hk => ⟨by rw [hb2]; exact hk.1, by rw [hm2]; exact hk.2⟩))
 have L3 := Aside0.mk hF.h3
 have F3 := Aside0.mk (Kd.F_mono (Kd.F_bound hF.r3) (ok' := fun k => b2 ≤ k ∧ k < m2) (fun k hk => ⟨by rw [hb2]; exact hk.1, by rw [hm2]; exact hk.2⟩))
 have L2v := Aside0.mk hcv
 have FV := Aside0.mk (Kd.F_mono (Kd.F_bound hFv) (ok' := fun k => b2 ≤ k ∧ k < m2) (fun k hk => ⟨by rw [hb2]; exact hk.1, by rw [hm2]; exact hk.2⟩))
 have F1x := Aside0.mk (Kd.C_below (Kd.C_below F1v.out HW1.out) hb_)
 clear F1v
 have Z2 := Aside0.mk (show w.heap.size + 1 ≤ g1 ∧ g1 + 2 = b2 ∧ b2 ≤ m2 from ⟨by rw [hg1]; exact ZW1.out, by rw [hb2, hg1, SV1.out], by rw [hb2, hm2]; exact hb_.size⟩)
 clear hF hFv hcv hb2 ZW1 SV1 HW1
 replace HB := HBs HB hb_
 replace K1 := KB K1 hb_
 replace K2 := KB K2 hb_
 clear hb_
 rw [← hg1] at K1 K2 ⊢
 clear hg1
 obtain ⟨x0, x1, x2, x3, x40, x41, x42, x43⟩ := cel4 K1.out
 go_wp2_with (
  (with_reducible refine gate_dst (N := 3) rfl ?_)
  refine box_event ?hg (N := 3) ?hd (cs := #[.int .i64 0, .slice none 0 0, .int .i64 0]) (t := 34) ?hr ?_
  (case hd => rfl)
  (case hg => rfl)
  (case hr => go_simp <;> rfl)
  intro g3 hg V3 hbox hb_
  clear x0 x1 x2 x3 x40 x41 x42 x43
  have K3 := Aside0.mk hbox
  have hlt_ := (Array.getElem?_eq_some_iff.1 hbox).1
  have ZZ := Aside0.mk (show w.heap.size + 1 ≤ g1 ∧ g1 + 2 = b2 ∧ b2 ≤ m2 ∧ m2 ≤ g3 ∧ g3 < V3.heap.size from ⟨Z2.out.1, Z2.out.2.1, Z2.out.2.2, by rw [hg, hm2]; exact Nat.le_refl _, hlt_⟩)
  have n1 : ¬ g3 = g1 := by have z_ := ZZ.out; omega
  have n2 : ¬ g1 = g3 := by have z_ := ZZ.out; omega
  clear hg hm2 Z2 hbox hlt_
  replace F1x := Aside0.mk (Kd.C_below F1x.out hb_)
  replace HB := HBs HB hb_
  replace K1 := KB K1 hb_
  replace K2 := KB K2 hb_
  replace F0 := FB F0 hb_
  replace F1 := FB F1 hb_
  replace F2 := FB F2 hb_
  replace F3 := FB F3 hb_
  replace FV := FB FV hb_
  clear hb_
  obtain ⟨x0, x1, x2, x3, x40, x41, x42, x43⟩ := cel4 K1.out
  obtain ⟨v0, v1, v2, v30, v31, v32⟩ := cel3 K3.out)
 clear x0 x1 x2 x3 x40 x41 x42 x43
 clear v0 v1 v2 v30 v31 v32
 clear n1 n2
 generalize hV4 : World.setCell (World.setCell (World.setCell (World.setCell V3 _ _) _ _) _ _) _ _ = V4
 have hge_ : w.heap.size ≤ g1 := by have z_ := ZZ.out; omega
 have hst_ := st4 HB.out hge_ K1.out hV4
 replace HB := Aside0.mk hst_.1
 replace K1 := Aside0.mk hst_.2.1
 have z_ := ZZ.out
 replace K2 := KS K2 hst_ (by omega)
 replace K3 := KS K3 hst_ (by omega)
 have e0_ : ∀ k_, (b2 ≤ k_ ∧ k_ < m2) → k_ ≠ g1 := fun k_ h_ => by omega
 replace F0 := FS F0 hst_ e0_
 replace F1 := FS F1 hst_ e0_
 replace F2 := FS F2 hst_ e0_
 replace F3 := FS F3 hst_ e0_
 replace FV := FS FV hst_ e0_
 clear e0_
 have SV4 := Aside0.mk hst_.2.2.2
 clear hV4 hst_ hge_ z_
 generalize hV5 : World.setCell (World.setCell (World.setCell V4 _ _) _ _) _ _ = V5
 have hge_ : w.heap.size ≤ g3 := by have z_ := ZZ.out; omega
 have hst_ := st3 HB.out hge_ K3.out hV5
 replace HB := Aside0.mk hst_.1
 replace K3 := Aside0.mk hst_.2.1
 have z_ := ZZ.out
 replace K1 := KS K1 hst_ (by omega)
 replace K2 := KS K2 hst_ (by omega)
 have e0_ : ∀ k_, (b2 ≤ k_ ∧ k_ < m2) → k_ ≠ g3 := fun k_ h_ => by omega
 replace F0 := FS F0 hst_ e0_
 replace F1 := FS F1 hst_ e0_
 replace F2 := FS F2 hst_ e0_
 replace F3 := FS F3 hst_ e0_
 replace FV := FS FV hst_ e0_
 clear e0_
 have SV5 := Aside0.mk hst_.2.2.2
 clear hV5 hst_ hge_ z_
 have con : Calls Try.prog 10 _ V5 (TA V5 (⟨[97], [], [7], []⟩ : O) ⟨7, [], 0⟩) := apply10 C0 e0 C1 e1 C2 e2 C3 e3 (⟨[97], [], [7], []⟩ : O) 0 0 none 0 none 0 none 0 [] [] [] V5 ⟨L0.out, Kd.F_now F0.out, L1.out, Kd.F_now F1.out, L2.out, Kd.F_now F2.out, L3.out, Kd.F_now F3.out⟩ ⟨by decide, by decide, by simp, by decide, by decide, by simp⟩ ⟨Nat.le_refl _, Kd.C_nil _ _, by decide, Nat.le_refl _, Kd.C_nil _ _, by decide, Nat.le_refl _, Kd.C_nil _ _, by decide⟩
 refine con.mono ?_
 rintro e w6 ⟨D0, dl0, D1, dl1, D2, dl2, D3, dl3, Dv, dv, rfl, hF, hcv, hFv, hb_⟩
 clear con hF
 have GD := Aside0.mk (Kd.F_now hFv)
 have MD := Aside0.mk hcv
 clear hFv hcv
 replace HB := HBs HB hb_
 replace K1 := KB K1 hb_
 replace K2 := KB K2 hb_
 replace K3 := KB K3 hb_
 replace F0 := FB F0 hb_
 replace F1 := FB F1 hb_
 replace F2 := FB F2 hb_
 replace F3 := FB F3 hb_
 replace FV := FB FV hb_
 clear hb_
 have bx_ : Below w6.heap.size w6 ((w6.alloc (.cells #[.slice D0 1 dl0, .slice D1 0 dl1, .slice D2 1 dl2, .slice D3 0 dl3] 32)).alloc (.cells #[.int .i64 7, .slice Dv 0 dv, .int .i64 0] 34)) := below_alloc (below_alloc (Below.refl _ _) _) _
 obtain ⟨x0, x1, x2, x3, x4⟩ := cells4 (blk_keep K1.out bx_)
 have x40 := x4 0
 have x41 := x4 1
 have x42 := x4 2
 have x43 := x4 3
 clear x4
 clear bx_
 go_wp2_with fail
 clear x0 x1 x2 x3 x40 x41 x42 x43
 generalize hV7 : World.alloc _ _ = V7
 obtain ⟨K4, K5, hb_, SV7⟩ := al2 hV7
 clear hV7
 replace HB := HBs HB hb_
 replace K1 := KB K1 hb_
 replace K2 := KB K2 hb_
 replace K3 := KB K3 hb_
 replace F0 := FB F0 hb_
 replace F1 := FB F1 hb_
 replace F2 := FB F2 hb_
 replace F3 := FB F3 hb_
 replace FV := FB FV hb_
 replace GD := Aside0.mk (Kd.C_below GD.out hb_)
 clear hb_
 have con : Calls Try.prog 10 _ V7 (TA V7 (⟨[97], [], [7], []⟩ : O) ⟨7, [], 0⟩) := apply10 C0 e0 C1 e1 C2 e2 C3 e3 (⟨[97], [], [7], []⟩ : O) 6 1000 none 0 none 0 none 0 [] [] [] V7 ⟨L0.out, Kd.F_now F0.out, L1.out, Kd.F_now F1.out, L2.out, Kd.F_now F2.out, L3.out, Kd.F_now F3.out⟩ ⟨by decide, by decide, by simp, by decide, by decide, by simp⟩ ⟨Nat.le_refl _, Kd.C_nil _ _, by decide, Nat.le_refl _, Kd.C_nil _ _, by decide, Nat.le_refl _, Kd.C_nil _ _, by decide⟩
 refine con.mono ?_
 rintro e w8 ⟨E0, el0, E1, el1, E2, el2, E3, el3, Ev, ev, rfl, hF, hcv, hFv, hb_⟩
 clear con hF
 have GE := Aside0.mk (Kd.F_now hFv)
 have ME := Aside0.mk hcv
 clear hFv hcv
 replace HB := HBs HB hb_
 replace K1 := KB K1 hb_
 replace K2 := KB K2 hb_
 replace K3 := KB K3 hb_
 replace K4 := KB K4 hb_
 replace K5 := KB K5 hb_
 replace F0 := FB F0 hb_
 replace F1 := FB F1 hb_
 replace F2 := FB F2 hb_
 replace F3 := FB F3 hb_
 replace FV := FB FV hb_
 replace GD := Aside0.mk (Kd.C_below GD.out hb_)
 clear hb_
 have bx_ : Below w8.heap.size w8 ((w8.alloc (.cells #[.slice E0 1 el0, .slice E1 0 el1, .slice E2 1 el2, .slice E3 0 el3] 32)).alloc (.cells #[.int .i64 7, .slice Ev 0 ev, .int .i64 0] 34)) := below_alloc (below_alloc (Below.refl _ _) _) _
 obtain ⟨x0, x1, x2, x3, x4⟩ := cells4 (blk_keep K1.out bx_)
 have x40 := x4 0
 have x41 := x4 1
 have x42 := x4 2
 have x43 := x4 3
 clear x4
 obtain ⟨u0, u1, u2, u3⟩ := cells3 (blk_keep K2.out bx_)
 have u30 := u3 0
 have u31 := u3 1
 have u32 := u3 2
 clear u3
 obtain ⟨v0, v1, v2, v3⟩ := cells3 (blk_keep K3.out bx_)
 have v30 := v3 0
 have v31 := v3 1
 have v32 := v3 2
 clear v3
 obtain ⟨y0, y1, y2, y3⟩ := cells3 (blk_keep K5.out bx_)
 have y30 := y3 0
 have y31 := y3 1
 have y32 := y3 2
 clear y3
 have q1 : (convert 22 9 (.slice C0 1 e0)).run Try.prog ((w8.alloc (.cells #[.slice E0 1 el0, .slice E1 0 el1, .slice E2 1 el2, .slice E3 0 el3] 32)).alloc (.cells #[.int .i64 7, .slice Ev 0 ev, .int .i64 0] 34)) = .ok (.string (strOfNums [97])) ((w8.alloc (.cells #[.slice E0 1 el0, .slice E1 0 el1, .slice E2 1 el2, .slice E3 0 el3] 32)).alloc (.cells #[.int .i64 7, .slice Ev 0 ev, .int .i64 0] 34)) := Kd.C_string (P := Try.prog) (A := C0) (c := e0) Try.underlying22 Try.underlying5 Try.underlying9 (Kd.C_below (Kd.F_now F0.out) bx_)
 have j2 : strOfNums [97] = ⟨#[97]⟩ := rfl
 clear bx_
 go_wp2_with fail
 clear x0 x1 x2 x3 x40 x41 x42 x43
 clear u0 u1 u2 u30 u31 u32
 clear v0 v1 v2 v30 v31 v32
 clear y0 y1 y2 y30 y31 y32
 clear q1
 generalize hV9 : World.alloc _ _ = V9
 obtain ⟨K6, K7, hb_, SV9⟩ := al2 hV9
 clear hV9
 replace HB := HBs HB hb_
 replace K1 := KB K1 hb_
 replace K2 := KB K2 hb_
 replace K3 := KB K3 hb_
 replace K4 := KB K4 hb_
 replace K5 := KB K5 hb_
 replace F0 := FB F0 hb_
 replace F1 := FB F1 hb_
 replace F2 := FB F2 hb_
 replace F3 := FB F3 hb_
 replace FV := FB FV hb_
 replace GD := Aside0.mk (Kd.C_below GD.out hb_)
 replace GE := Aside0.mk (Kd.C_below GE.out hb_)
 clear hb_
 have hk_ : okR 5 0 [] [] [] = true := by first | rfl | (simp [sameO, eqI, eqL, eqQ, eqM]; done) | decide
 refine (ok11 5 0 none 0 none 0 none 0 [] [] [] V9).mono ?_
 rintro e w10 ⟨rfl, hb_⟩
 rw [hk_]
 clear hk_
 replace HB := HBs HB hb_
 replace K1 := KB K1 hb_
 replace K2 := KB K2 hb_
 replace K3 := KB K3 hb_
 replace K4 := KB K4 hb_
 replace K5 := KB K5 hb_
 replace K6 := KB K6 hb_
 replace K7 := KB K7 hb_
 replace F0 := FB F0 hb_
 replace F1 := FB F1 hb_
 replace F2 := FB F2 hb_
 replace F3 := FB F3 hb_
 replace FV := FB FV hb_
 replace GD := Aside0.mk (Kd.C_below GD.out hb_)
 replace GE := Aside0.mk (Kd.C_below GE.out hb_)
 clear hb_
 obtain ⟨x0, x1, x2, x3, x40, x41, x42, x43⟩ := cel4 K1.out
 obtain ⟨u0, u1, u2, u30, u31, u32⟩ := cel3 K2.out
 obtain ⟨v0, v1, v2, v30, v31, v32⟩ := cel3 K3.out
 obtain ⟨y0, y1, y2, y30, y31, y32⟩ := cel3 K5.out
 obtain ⟨z0, z1, z2, z30, z31, z32⟩ := cel3 K7.out
 go_wp2_with fail
 have hk_ : okR 12 0 [] [] [] = false := by first | rfl | (simp [sameO, eqI, eqL, eqQ, eqM]; done) | decide
 refine (ok11 12 0 none 0 none 0 none 0 [] [] [] w10).mono ?_
 rintro e w11 ⟨rfl, hb_⟩
 rw [hk_]
 clear hk_
 clear x0 x1 x2 x3 x40 x41 x42 x43
 clear u0 u1 u2 u30 u31 u32
 clear v0 v1 v2 v30 v31 v32
 clear y0 y1 y2 y30 y31 y32
 clear z0 z1 z2 z30 z31 z32
 replace HB := HBs HB hb_
 replace K1 := KB K1 hb_
 replace K2 := KB K2 hb_
 replace K3 := KB K3 hb_
 replace K4 := KB K4 hb_
 replace K5 := KB K5 hb_
 replace K6 := KB K6 hb_
 replace K7 := KB K7 hb_
 replace F0 := FB F0 hb_
 replace F1 := FB F1 hb_
 replace F2 := FB F2 hb_
 replace F3 := FB F3 hb_
 replace FV := FB FV hb_
 replace GD := Aside0.mk (Kd.C_below GD.out hb_)
 replace GE := Aside0.mk (Kd.C_below GE.out hb_)
 clear hb_
 obtain ⟨x0, x1, x2, x3, x40, x41, x42, x43⟩ := cel4 K1.out
 obtain ⟨u0, u1, u2, u30, u31, u32⟩ := cel3 K2.out
 obtain ⟨v0, v1, v2, v30, v31, v32⟩ := cel3 K3.out
 obtain ⟨y0, y1, y2, y30, y31, y32⟩ := cel3 K5.out
 obtain ⟨z0, z1, z2, z30, z31, z32⟩ := cel3 K7.out
 go_wp2_with fail
 have hs_ : sameO (⟨[97], [], [7], []⟩ : O) (⟨[97], [], [7], []⟩ : O) = true := sameO_refl _
 refine (same17 C0 e0 C1 e1 C2 e2 C3 e3 C0 e0 C1 e1 C2 e2 C3 e3 (⟨[97], [], [7], []⟩ : O) (⟨[97], [], [7], []⟩ : O) w11 ⟨L0.out, Kd.F_now F0.out, L1.out, Kd.F_now F1.out, L2.out, Kd.F_now F2.out, L3.out, Kd.F_now F3.out⟩ ⟨L0.out, Kd.F_now F0.out, L1.out, Kd.F_now F1.out, L2.out, Kd.F_now F2.out, L3.out, Kd.F_now F3.out⟩).mono ?_
 rintro e w12 ⟨rfl, hb_⟩
 rw [hs_]
 clear hs_
 clear x0 x1 x2 x3 x40 x41 x42 x43
 clear u0 u1 u2 u30 u31 u32
 clear v0 v1 v2 v30 v31 v32
 clear y0 y1 y2 y30 y31 y32
 clear z0 z1 z2 z30 z31 z32
 replace HB := HBs HB hb_
 replace K1 := KB K1 hb_
 replace K2 := KB K2 hb_
 replace K3 := KB K3 hb_
 replace K4 := KB K4 hb_
 replace K5 := KB K5 hb_
 replace K6 := KB K6 hb_
 replace K7 := KB K7 hb_
 replace F0 := FB F0 hb_
 replace F1 := FB F1 hb_
 replace F2 := FB F2 hb_
 replace F3 := FB F3 hb_
 replace FV := FB FV hb_
 replace GD := Aside0.mk (Kd.C_below GD.out hb_)
 replace GE := Aside0.mk (Kd.C_below GE.out hb_)
 clear hb_
 obtain ⟨x0, x1, x2, x3, x40, x41, x42, x43⟩ := cel4 K1.out
 obtain ⟨u0, u1, u2, u30, u31, u32⟩ := cel3 K2.out
 obtain ⟨v0, v1, v2, v30, v31, v32⟩ := cel3 K3.out
 obtain ⟨y0, y1, y2, y30, y31, y32⟩ := cel3 K5.out
 obtain ⟨z0, z1, z2, z30, z31, z32⟩ := cel3 K7.out
 go_wp2_with fail
 have hk_ : sameO (⟨[97], [], [7], []⟩ : O) (⟨[], [], [], []⟩ : O) = false := by first | rfl | (simp [sameO, eqI, eqL, eqQ, eqM]; done) | decide
 refine (same17 C0 e0 C1 e1 C2 e2 C3 e3 none 0 none 0 none 0 none 0 (⟨[97], [], [7], []⟩ : O) (⟨[], [], [], []⟩ : O) w12 ⟨L0.out, Kd.F_now F0.out, L1.out, Kd.F_now F1.out, L2.out, Kd.F_now F2.out, L3.out, Kd.F_now F3.out⟩ ⟨Nat.le_refl _, Kd.C_nil _ _, Nat.le_refl _, Kd.C_nil _ _, Nat.le_refl _, Kd.C_nil _ _, Nat.le_refl _, Kd.C_nil _ _⟩).mono ?_
 rintro e w13 ⟨rfl, hb_⟩
 rw [hk_]
 clear hk_
 clear x0 x1 x2 x3 x40 x41 x42 x43
 clear u0 u1 u2 u30 u31 u32
 clear v0 v1 v2 v30 v31 v32
 clear y0 y1 y2 y30 y31 y32
 clear z0 z1 z2 z30 z31 z32
 replace HB := HBs HB hb_
 replace K1 := KB K1 hb_
 replace K2 := KB K2 hb_
 replace K3 := KB K3 hb_
 replace K4 := KB K4 hb_
 replace K5 := KB K5 hb_
 replace K6 := KB K6 hb_
 replace K7 := KB K7 hb_
 replace F0 := FB F0 hb_
 replace F1 := FB F1 hb_
 replace F2 := FB F2 hb_
 replace F3 := FB F3 hb_
 replace FV := FB FV hb_
 replace GD := Aside0.mk (Kd.C_below GD.out hb_)
 replace GE := Aside0.mk (Kd.C_below GE.out hb_)
 clear hb_
 obtain ⟨x0, x1, x2, x3, x40, x41, x42, x43⟩ := cel4 K1.out
 obtain ⟨u0, u1, u2, u30, u31, u32⟩ := cel3 K2.out
 obtain ⟨v0, v1, v2, v30, v31, v32⟩ := cel3 K3.out
 obtain ⟨y0, y1, y2, y30, y31, y32⟩ := cel3 K5.out
 obtain ⟨z0, z1, z2, z30, z31, z32⟩ := cel3 K7.out
 go_wp2_with fail
 have hk_ : sameR ⟨0, [], 0⟩ ⟨7, [], 0⟩ = false := by first | rfl | (simp [sameO, eqI, eqL, eqQ, eqM]; done) | decide
 refine (same19 Av av Dv dv ⟨0, [], 0⟩ ⟨7, [], 0⟩ w13 C_empty (Nat.zero_le _) C_empty (Nat.zero_le _)).mono ?_
 rintro e w14 ⟨rfl, hb_⟩
 rw [hk_]
 clear hk_
 clear x0 x1 x2 x3 x40 x41 x42 x43
 clear u0 u1 u2 u30 u31 u32
 clear v0 v1 v2 v30 v31 v32
 clear y0 y1 y2 y30 y31 y32
 clear z0 z1 z2 z30 z31 z32
 replace HB := HBs HB hb_
 replace K1 := KB K1 hb_
 replace K2 := KB K2 hb_
 replace K3 := KB K3 hb_
 replace K4 := KB K4 hb_
 replace K5 := KB K5 hb_
 replace K6 := KB K6 hb_
 replace K7 := KB K7 hb_
 replace F0 := FB F0 hb_
 replace F1 := FB F1 hb_
 replace F2 := FB F2 hb_
 replace F3 := FB F3 hb_
 replace FV := FB FV hb_
 replace GD := Aside0.mk (Kd.C_below GD.out hb_)
 replace GE := Aside0.mk (Kd.C_below GE.out hb_)
 clear hb_
 obtain ⟨x0, x1, x2, x3, x40, x41, x42, x43⟩ := cel4 K1.out
 obtain ⟨u0, u1, u2, u30, u31, u32⟩ := cel3 K2.out
 obtain ⟨v0, v1, v2, v30, v31, v32⟩ := cel3 K3.out
 obtain ⟨y0, y1, y2, y30, y31, y32⟩ := cel3 K5.out
 obtain ⟨z0, z1, z2, z30, z31, z32⟩ := cel3 K7.out
 go_wp2_with fail
 go_ret
 exact ⟨rfl, HB.out⟩
end Go.Proofs.Ythfplgfpodmphaa.Ob
namespace Go.Proofs.Ythfplgfpodmphaa.Ms
open Go.RowKit Go.Proofs.YthfplgfpodmphaaW.PrintWords Go.Proofs.YthfplgfpodmphaaW.PrintLast Go.Proofs.YthfplgfpodmphaaW.PrintMore
attribute [local go_sem] max2_int min2_int max_two min_two max_three min_three max_four min_four
set_option linter.unusedVariables false
set_option linter.unusedSimpArgs false
set_option maxRecDepth 100000

theorem bytes_C {w : World} {g : Nat} {fr : Nat × Nat} {s : ByteArray} {cap : Nat} (h : w.heap[g]? = some (.cells (bytesRow s cap) 5 fr)) (hm : s.size ≤ 9223372036854775807) : Kd.C (Kd.int .u8) w (some ⟨g, 0, none⟩) s.size (bytesOf s) := by
  refine ⟨bytesOf_length s, hm, fun _ => ⟨_, rfl, fun j p hj => ⟨[.int .u8 p], rfl, rfl, fun i u hu => ?_⟩⟩⟩
  cases i with
  | zero =>
    obtain rfl := Option.some.inj hu
    rw [add_plain]
    show w.cell? ⟨g, j * 1 + 0, none⟩ = _
    have hlt : j < s.data.size := by have := (List.getElem?_eq_some_iff.1 hj).1; simpa [bytesOf] using this
    rw [show w.cell? ⟨g, j * 1 + 0, none⟩ = (bytesRow s cap)[j]? from by (unfold World.cell?; rw [h]; simp only [Nat.mul_one, Nat.add_zero]; exact if_neg (by simp)), bytesRow_at s cap j hlt]
    simp only [bytesOf, List.getElem?_map, Array.getElem?_toList, Array.getElem?_eq_getElem hlt, Option.map_some, Option.some.injEq] at hj
    rw [hj]
  | succ i => simp at hu
def kk (n : Nat) : List Int := ([[], [97], [98], [99], [97, 98], [97, 98, 99], [122], [0], [255], [97, 98, 99, 100, 101, 102, 103, 104], [97, 98, 99, 100, 101, 102, 103, 104, 105], [107, 49], [107, 50], [107, 51], [107, 52], [107, 53]] : List (List Int)).getD n []
def KeyEnd (w : World) (k : List Int) (e : Ending) (w' : World) : Prop := ∃ A c, e = .returned (.slice A k.length c) ∧ k.length ≤ c ∧ Kd.C (Kd.int .u8) w' A k.length k ∧ Below w.heap.size w w'
set_option maxHeartbeats 1000000 in
set_option maxRecDepth 100000 in
theorem keys_0 (n : Int) (w : World) (hn : Go.bits .and .i64 n 15 = 0) : Calls Try.prog 39 #[.int .i64 n] w (KeyEnd w (kk 0)) := by
  have kc := fun (w : World) (s : ByteArray) => run_bytes_of_string (P := Try.prog) w 9 22 5 s Try.underlying9 Try.underlying22 Try.underlying5
  go_enter Try.func39, Try.ntmps39
  go_wp2_with fail
  go_ret
  refine ⟨some ⟨w.heap.size + 1, 0, none⟩, _, rfl, grownCap_ge _ _ _ _, bytes_C (s := ⟨#[]⟩) (by show ((w.heap.push _).push _)[w.heap.size + 1]? = some _; rw [Array.getElem?_push]; exact if_pos (by simp)) (by decide), below_drew1 (below_alloc (below_alloc (Below.refl _ _) _) _)⟩
set_option maxHeartbeats 1000000 in
set_option maxRecDepth 100000 in
theorem keys_1 (n : Int) (w : World) (hn : Go.bits .and .i64 n 15 = 1) : Calls Try.prog 39 #[.int .i64 n] w (KeyEnd w (kk 1)) := by
  have kc := fun (w : World) (s : ByteArray) => run_bytes_of_string (P := Try.prog) w 9 22 5 s Try.underlying9 Try.underlying22 Try.underlying5
  go_enter Try.func39, Try.ntmps39
  go_wp2_with fail
  go_ret
  refine ⟨some ⟨w.heap.size + 1, 0, none⟩, _, rfl, grownCap_ge _ _ _ _, bytes_C (s := ⟨#[97]⟩) (by show ((w.heap.push _).push _)[w.heap.size + 1]? = some _; rw [Array.getElem?_push]; exact if_pos (by simp)) (by decide), below_drew1 (below_alloc (below_alloc (Below.refl _ _) _) _)⟩
set_option maxHeartbeats 1000000 in
set_option maxRecDepth 100000 in
theorem keys_2 (n : Int) (w : World) (hn : Go.bits .and .i64 n 15 = 2) : Calls Try.prog 39 #[.int .i64 n] w (KeyEnd w (kk 2)) := by
  have kc := fun (w : World) (s : ByteArray) => run_bytes_of_string (P := Try.prog) w 9 22 5 s Try.underlying9 Try.underlying22 Try.underlying5
  go_enter Try.func39, Try.ntmps39
  go_wp2_with fail
  go_ret
  refine ⟨some ⟨w.heap.size + 1, 0, none⟩, _, rfl, grownCap_ge _ _ _ _, bytes_C (s := ⟨#[98]⟩) (by show ((w.heap.push _).push _)[w.heap.size + 1]? = some _; rw [Array.getElem?_push]; exact if_pos (by simp)) (by decide), below_drew1 (below_alloc (below_alloc (Below.refl _ _) _) _)⟩
set_option maxHeartbeats 1000000 in
set_option maxRecDepth 100000 in
theorem keys_3 (n : Int) (w : World) (hn : Go.bits .and .i64 n 15 = 3) : Calls Try.prog 39 #[.int .i64 n] w (KeyEnd w (kk 3)) := by
  have kc := fun (w : World) (s : ByteArray) => run_bytes_of_string (P := Try.prog) w 9 22 5 s Try.underlying9 Try.underlying22 Try.underlying5
  go_enter Try.func39, Try.ntmps39
  go_wp2_with fail
  go_ret
  refine ⟨some ⟨w.heap.size + 1, 0, none⟩, _, rfl, grownCap_ge _ _ _ _, bytes_C (s := ⟨#[99]⟩) (by show ((w.heap.push _).push _)[w.heap.size + 1]? = some _; rw [Array.getElem?_push]; exact if_pos (by simp)) (by decide), below_drew1 (below_alloc (below_alloc (Below.refl _ _) _) _)⟩
set_option maxHeartbeats 1000000 in
set_option maxRecDepth 100000 in
theorem keys_4 (n : Int) (w : World) (hn : Go.bits .and .i64 n 15 = 4) : Calls Try.prog 39 #[.int .i64 n] w (KeyEnd w (kk 4)) := by
  have kc := fun (w : World) (s : ByteArray) => run_bytes_of_string (P := Try.prog) w 9 22 5 s Try.underlying9 Try.underlying22 Try.underlying5
  go_enter Try.func39, Try.ntmps39
  go_wp2_with fail
  go_ret
  refine ⟨some ⟨w.heap.size + 1, 0, none⟩, _, rfl, grownCap_ge _ _ _ _, bytes_C (s := ⟨#[97, 98]⟩) (by show ((w.heap.push _).push _)[w.heap.size + 1]? = some _; rw [Array.getElem?_push]; exact if_pos (by simp)) (by decide), below_drew1 (below_alloc (below_alloc (Below.refl _ _) _) _)⟩
set_option maxHeartbeats 1000000 in
set_option maxRecDepth 100000 in
theorem keys_5 (n : Int) (w : World) (hn : Go.bits .and .i64 n 15 = 5) : Calls Try.prog 39 #[.int .i64 n] w (KeyEnd w (kk 5)) := by
  have kc := fun (w : World) (s : ByteArray) => run_bytes_of_string (P := Try.prog) w 9 22 5 s Try.underlying9 Try.underlying22 Try.underlying5
  go_enter Try.func39, Try.ntmps39
  go_wp2_with fail
  go_ret
  refine ⟨some ⟨w.heap.size + 1, 0, none⟩, _, rfl, grownCap_ge _ _ _ _, bytes_C (s := ⟨#[97, 98, 99]⟩) (by show ((w.heap.push _).push _)[w.heap.size + 1]? = some _; rw [Array.getElem?_push]; exact if_pos (by simp)) (by decide), below_drew1 (below_alloc (below_alloc (Below.refl _ _) _) _)⟩
set_option maxHeartbeats 1000000 in
set_option maxRecDepth 100000 in
theorem keys_6 (n : Int) (w : World) (hn : Go.bits .and .i64 n 15 = 6) : Calls Try.prog 39 #[.int .i64 n] w (KeyEnd w (kk 6)) := by
  have kc := fun (w : World) (s : ByteArray) => run_bytes_of_string (P := Try.prog) w 9 22 5 s Try.underlying9 Try.underlying22 Try.underlying5
  go_enter Try.func39, Try.ntmps39
  go_wp2_with fail
  go_ret
  refine ⟨some ⟨w.heap.size + 1, 0, none⟩, _, rfl, grownCap_ge _ _ _ _, bytes_C (s := ⟨#[122]⟩) (by show ((w.heap.push _).push _)[w.heap.size + 1]? = some _; rw [Array.getElem?_push]; exact if_pos (by simp)) (by decide), below_drew1 (below_alloc (below_alloc (Below.refl _ _) _) _)⟩
set_option maxHeartbeats 1000000 in
set_option maxRecDepth 100000 in
theorem keys_7 (n : Int) (w : World) (hn : Go.bits .and .i64 n 15 = 7) : Calls Try.prog 39 #[.int .i64 n] w (KeyEnd w (kk 7)) := by
  have kc := fun (w : World) (s : ByteArray) => run_bytes_of_string (P := Try.prog) w 9 22 5 s Try.underlying9 Try.underlying22 Try.underlying5
  go_enter Try.func39, Try.ntmps39
  go_wp2_with fail
  go_ret
  refine ⟨some ⟨w.heap.size + 1, 0, none⟩, _, rfl, grownCap_ge _ _ _ _, bytes_C (s := ⟨#[0]⟩) (by show ((w.heap.push _).push _)[w.heap.size + 1]? = some _; rw [Array.getElem?_push]; exact if_pos (by simp)) (by decide), below_drew1 (below_alloc (below_alloc (Below.refl _ _) _) _)⟩
set_option maxHeartbeats 1000000 in
set_option maxRecDepth 100000 in
theorem keys_8 (n : Int) (w : World) (hn : Go.bits .and .i64 n 15 = 8) : Calls Try.prog 39 #[.int .i64 n] w (KeyEnd w (kk 8)) := by
  have kc := fun (w : World) (s : ByteArray) => run_bytes_of_string (P := Try.prog) w 9 22 5 s Try.underlying9 Try.underlying22 Try.underlying5
  go_enter Try.func39, Try.ntmps39
  go_wp2_with fail
  go_ret
  refine ⟨some ⟨w.heap.size + 1, 0, none⟩, _, rfl, grownCap_ge _ _ _ _, bytes_C (s := ⟨#[255]⟩) (by show ((w.heap.push _).push _)[w.heap.size + 1]? = some _; rw [Array.getElem?_push]; exact if_pos (by simp)) (by decide), below_drew1 (below_alloc (below_alloc (Below.refl _ _) _) _)⟩
set_option maxHeartbeats 1000000 in
set_option maxRecDepth 100000 in
theorem keys_9 (n : Int) (w : World) (hn : Go.bits .and .i64 n 15 = 9) : Calls Try.prog 39 #[.int .i64 n] w (KeyEnd w (kk 9)) := by
  have kc := fun (w : World) (s : ByteArray) => run_bytes_of_string (P := Try.prog) w 9 22 5 s Try.underlying9 Try.underlying22 Try.underlying5
  go_enter Try.func39, Try.ntmps39
  go_wp2_with fail
  go_ret
  refine ⟨some ⟨w.heap.size + 1, 0, none⟩, _, rfl, grownCap_ge _ _ _ _, bytes_C (s := ⟨#[97, 98, 99, 100, 101, 102, 103, 104]⟩) (by show ((w.heap.push _).push _)[w.heap.size + 1]? = some _; rw [Array.getElem?_push]; exact if_pos (by simp)) (by decide), below_drew1 (below_alloc (below_alloc (Below.refl _ _) _) _)⟩
set_option maxHeartbeats 1000000 in
set_option maxRecDepth 100000 in
theorem keys_10 (n : Int) (w : World) (hn : Go.bits .and .i64 n 15 = 10) : Calls Try.prog 39 #[.int .i64 n] w (KeyEnd w (kk 10)) := by
  have kc := fun (w : World) (s : ByteArray) => run_bytes_of_string (P := Try.prog) w 9 22 5 s Try.underlying9 Try.underlying22 Try.underlying5
  go_enter Try.func39, Try.ntmps39
  go_wp2_with fail
  go_ret
  refine ⟨some ⟨w.heap.size + 1, 0, none⟩, _, rfl, grownCap_ge _ _ _ _, bytes_C (s := ⟨#[97, 98, 99, 100, 101, 102, 103, 104, 105]⟩) (by show ((w.heap.push _).push _)[w.heap.size + 1]? = some _; rw [Array.getElem?_push]; exact if_pos (by simp)) (by decide), below_drew1 (below_alloc (below_alloc (Below.refl _ _) _) _)⟩
set_option maxHeartbeats 1000000 in
set_option maxRecDepth 100000 in
theorem keys_11 (n : Int) (w : World) (hn : Go.bits .and .i64 n 15 = 11) : Calls Try.prog 39 #[.int .i64 n] w (KeyEnd w (kk 11)) := by
  have kc := fun (w : World) (s : ByteArray) => run_bytes_of_string (P := Try.prog) w 9 22 5 s Try.underlying9 Try.underlying22 Try.underlying5
  go_enter Try.func39, Try.ntmps39
  go_wp2_with fail
  go_ret
  refine ⟨some ⟨w.heap.size + 1, 0, none⟩, _, rfl, grownCap_ge _ _ _ _, bytes_C (s := ⟨#[107, 49]⟩) (by show ((w.heap.push _).push _)[w.heap.size + 1]? = some _; rw [Array.getElem?_push]; exact if_pos (by simp)) (by decide), below_drew1 (below_alloc (below_alloc (Below.refl _ _) _) _)⟩
set_option maxHeartbeats 1000000 in
set_option maxRecDepth 100000 in
theorem keys_12 (n : Int) (w : World) (hn : Go.bits .and .i64 n 15 = 12) : Calls Try.prog 39 #[.int .i64 n] w (KeyEnd w (kk 12)) := by
  have kc := fun (w : World) (s : ByteArray) => run_bytes_of_string (P := Try.prog) w 9 22 5 s Try.underlying9 Try.underlying22 Try.underlying5
  go_enter Try.func39, Try.ntmps39
  go_wp2_with fail
  go_ret
  refine ⟨some ⟨w.heap.size + 1, 0, none⟩, _, rfl, grownCap_ge _ _ _ _, bytes_C (s := ⟨#[107, 50]⟩) (by show ((w.heap.push _).push _)[w.heap.size + 1]? = some _; rw [Array.getElem?_push]; exact if_pos (by simp)) (by decide), below_drew1 (below_alloc (below_alloc (Below.refl _ _) _) _)⟩
set_option maxHeartbeats 1000000 in
set_option maxRecDepth 100000 in
theorem keys_13 (n : Int) (w : World) (hn : Go.bits .and .i64 n 15 = 13) : Calls Try.prog 39 #[.int .i64 n] w (KeyEnd w (kk 13)) := by
  have kc := fun (w : World) (s : ByteArray) => run_bytes_of_string (P := Try.prog) w 9 22 5 s Try.underlying9 Try.underlying22 Try.underlying5
  go_enter Try.func39, Try.ntmps39
  go_wp2_with fail
  go_ret
  refine ⟨some ⟨w.heap.size + 1, 0, none⟩, _, rfl, grownCap_ge _ _ _ _, bytes_C (s := ⟨#[107, 51]⟩) (by show ((w.heap.push _).push _)[w.heap.size + 1]? = some _; rw [Array.getElem?_push]; exact if_pos (by simp)) (by decide), below_drew1 (below_alloc (below_alloc (Below.refl _ _) _) _)⟩
set_option maxHeartbeats 1000000 in
set_option maxRecDepth 100000 in
theorem keys_14 (n : Int) (w : World) (hn : Go.bits .and .i64 n 15 = 14) : Calls Try.prog 39 #[.int .i64 n] w (KeyEnd w (kk 14)) := by
  have kc := fun (w : World) (s : ByteArray) => run_bytes_of_string (P := Try.prog) w 9 22 5 s Try.underlying9 Try.underlying22 Try.underlying5
  go_enter Try.func39, Try.ntmps39
  go_wp2_with fail
  go_ret
  refine ⟨some ⟨w.heap.size + 1, 0, none⟩, _, rfl, grownCap_ge _ _ _ _, bytes_C (s := ⟨#[107, 52]⟩) (by show ((w.heap.push _).push _)[w.heap.size + 1]? = some _; rw [Array.getElem?_push]; exact if_pos (by simp)) (by decide), below_drew1 (below_alloc (below_alloc (Below.refl _ _) _) _)⟩
set_option maxHeartbeats 1000000 in
set_option maxRecDepth 100000 in
theorem keys_15 (n : Int) (w : World) (hn : Go.bits .and .i64 n 15 = 15) : Calls Try.prog 39 #[.int .i64 n] w (KeyEnd w (kk 15)) := by
  have kc := fun (w : World) (s : ByteArray) => run_bytes_of_string (P := Try.prog) w 9 22 5 s Try.underlying9 Try.underlying22 Try.underlying5
  go_enter Try.func39, Try.ntmps39
  go_wp2_with fail
  go_ret
  refine ⟨some ⟨w.heap.size + 1, 0, none⟩, _, rfl, grownCap_ge _ _ _ _, bytes_C (s := ⟨#[107, 53]⟩) (by show ((w.heap.push _).push _)[w.heap.size + 1]? = some _; rw [Array.getElem?_push]; exact if_pos (by simp)) (by decide), below_drew1 (below_alloc (below_alloc (Below.refl _ _) _) _)⟩
theorem keys10 (n : Int) (N : Nat) (w : World) (hn : Go.bits .and .i64 n 15 = N) (hN : N ≤ 15) : Calls Try.prog 39 #[.int .i64 n] w (KeyEnd w (kk N)) := by
  match N, hN, hn with
  | 0, _, hn => exact keys_0 n w hn
  | 1, _, hn => exact keys_1 n w hn
  | 2, _, hn => exact keys_2 n w hn
  | 3, _, hn => exact keys_3 n w hn
  | 4, _, hn => exact keys_4 n w hn
  | 5, _, hn => exact keys_5 n w hn
  | 6, _, hn => exact keys_6 n w hn
  | 7, _, hn => exact keys_7 n w hn
  | 8, _, hn => exact keys_8 n w hn
  | 9, _, hn => exact keys_9 n w hn
  | 10, _, hn => exact keys_10 n w hn
  | 11, _, hn => exact keys_11 n w hn
  | 12, _, hn => exact keys_12 n w hn
  | 13, _, hn => exact keys_13 n w hn
  | 14, _, hn => exact keys_14 n w hn
  | 15, _, hn => exact keys_15 n w hn
end Go.Proofs.Ythfplgfpodmphaa.Ms
