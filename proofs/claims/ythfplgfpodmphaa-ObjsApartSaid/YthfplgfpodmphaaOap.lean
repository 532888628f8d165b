/- ObjsApart: what is asked of one object turns no other, what an error answers turns nothing, and what only looks turns nothing. -/
import Derived.Test.YthfplgfpodmphaaOt
import Derived.Test.YthfplgfpodmphaaOo2
import Derived.Test.YthfplgfpodmphaaOaw
import Derived.Test.YthfplgfpodmphaaOcm
import Derived.Test.YthfplgfpodmphaaOz
import Derived.BigGuard
import Derived.BigCall
namespace Go.Proofs.Ythfplgfpodmphaa.Ob
open Go.RowKit Go.Proofs.YthfplgfpodmphaaW.PrintWords Go.Proofs.YthfplgfpodmphaaW.PrintLast Go.Proofs.YthfplgfpodmphaaW.PrintMore Go.Proofs.Ythfplgfpodmphaa.Ms
attribute [local go_sem] max2_int min2_int max_two min_two max_three min_three max_four min_four
set_option linter.unusedVariables false
set_option linter.unusedSimpArgs false
set_option maxRecDepth 100000
def RowI (w : World) (a : Option Addr) (n : Nat) : Prop := 0 < n → ∃ x, a = some x ∧ ∀ j, j < n → ∃ v : Int, w.cell? (x.add j) = some (.int .i64 v)
set_option maxHeartbeats 8000000 in
theorem apart_calls (a : Option Addr) (len cap : Nat) (w : World) (hl : RowI w a len) : Calls Try.prog 6 #[.slice a len cap] w fun e w' => e = .returned (.bool true) ∧ Below w.heap.size w w' := by
 have HL := Aside0.mk hl
 clear hl
 have HB := Aside0.mk (Below.refl w.heap.size w)
 go_enter Try.func6, Try.ntmps6
 simp only [List.append_eq, List.cons_append, List.nil_append]
 go_wp2_with fail
 obtain ⟨V0, hV0⟩ : ∃ V_, V_ = (w.alloc (.cells #[.slice none 0 0, .slice none 0 0, .slice none 0 0, .slice none 0 0] 32)) := ⟨_, rfl⟩
 rw [← hV0]
 have hb_ : Below w.heap.size w V0 := by rw [hV0]; exact (below_alloc (Below.refl _ _) (.cells #[.slice none 0 0, .slice none 0 0, .slice none 0 0, .slice none 0 0] 32))
 have K3 : Aside0 (V0.heap[w.heap.size]? = some (.cells #[.slice none 0 0, .slice none 0 0, .slice none 0 0, .slice none 0 0] 32 (0, 0))) := Aside0.mk (by have h_ := heap_alloc_self w (.cells #[.slice none 0 0, .slice none 0 0, .slice none 0 0, .slice none 0 0] 32); rw [hV0]; simpa using h_)
 have SV0 : Aside0 (V0.heap.size = w.heap.size + 1) := Aside0.mk (by rw [hV0]; simp)
 clear hV0
 replace HB := Aside0.mk (below_then HB.out HB.out.size hb_)
 clear hb_
 go_loopw [4] (fun v4 w' => ∃ j : Nat, v4 = .int .i64 j ∧ j ≤ len ∧ j ≤ 60 ∧ ∃ (o : O) (B0 : Option Addr) (d0 : Nat) (B1 : Option Addr) (d1 : Nat) (B2 : Option Addr) (d2 : Nat) (B3 : Option Addr) (d3 : Nat), Aside0 (OB o) ∧ Aside0 (OF (w.heap.size + 1) w' o B0 d0 B1 d1 B2 d2 B3 d3) ∧ Aside0 (w'.heap[w.heap.size]? = some (.cells #[.slice B0 o.reg.length d0, .slice B1 o.que.length d1, .slice B2 o.loc.length d2, .slice B3 o.map.length d3] 32 (0, 0))) ∧ Aside0 (Below w.heap.size w w')) (fun v4 _ => 60 - (intOf v4).toNat)
 case atStart => exact ⟨0, rfl, by omega, by omega, (⟨[], [], [], []⟩ : O), none, 0, none, 0, none, 0, none, 0, ⟨⟨by decide, by decide, by simp, by decide, by decide, by simp⟩⟩, ⟨⟨Nat.le_refl _, Kd.F_nil _ _ _, Nat.le_refl _, Kd.F_nil _ _ _, Nat.le_refl _, Kd.F_nil _ _ _, Nat.le_refl _, Kd.F_nil _ _ _⟩⟩, K3, HB⟩
 case round =>
  clear HB K3 SV0
  obtain ⟨j, rfl, hj, hj60, o, B0, d0, B1, d1, B2, d2, B3, d3, HO, HF, K3, HB⟩ := hrel
  by_cases hgo : j < len ∧ j < 60
  ·
   have c1 : decide ((j : Int) < (len : Int)) = true := decide_eq_true (by omega)
   have c2 : decide ((j : Int) < 60) = true := decide_eq_true (by omega)
   have c3 : (j : Int) < (len : Int) := by omega
   obtain ⟨ad, rfl, hrow⟩ := HL.out (by omega)
   obtain ⟨n, hn⟩ := hrow j hgo.1
   replace hn := cell_old HB.out hn
   have e2 : IntKind.i64.wrap ((j : Int) + 1) = (j : Int) + 1 := by rw [IntKind.wrap_i64]; omega
   clear hrow
   go_wp2_with fail
   refine (cmd13 n wr).mono ?_
   rintro e w2 ⟨E2, e2_, E3, e3, E4, e4, rfl, hc2, hC2, hc3, hC3, hc4, hC4, hb_⟩
   have hs := cmd_small n
   have HX2 := Aside0.mk (show XC w2 (cmdE n) (cmdV n) (cmdO n) E2 e2_ E3 e3 E4 e4 from ⟨hc2, hC2, hs.1, hc3, hC3, hs.2.1, hc4, hC4, hs.2.2⟩)
   have HS := Aside0.mk hs
   clear hc2 hC2 hc3 hC3 hc4 hC4 hs hn
   replace HB := Aside0.mk (below_then HB.out HB.out.size hb_)
   replace K3 := Aside0.mk (blk_keep K3.out hb_)
   replace HF := Aside0.mk (HF.out.below hb_)
   clear hb_
   have bx_ : Below w2.heap.size w2 (w2.alloc (.cells #[.int .i64 (cmdK n), .int .i64 (cmdW n), .slice E2 (cmdE n).length e2_, .slice E3 (cmdV n).length e3, .slice E4 (cmdO n).length e4] 24)) := below_alloc (Below.refl _ _) _
   obtain ⟨x0, x1, x2, x3, x4⟩ := cells4 (blk_keep K3.out bx_)
   have x40 := x4 0
   have x41 := x4 1
   have x42 := x4 2
   have x43 := x4 3
   clear x4
   clear bx_
   go_wp2_with fail
   clear x0 x1 x2 x3 x40 x41 x42 x43
   obtain ⟨V1, hV1⟩ : ∃ V_, V_ = (w2.alloc (.cells #[.int .i64 (cmdK n), .int .i64 (cmdW n), .slice E2 (cmdE n).length e2_, .slice E3 (cmdV n).length e3, .slice E4 (cmdO n).length e4] 24)) := ⟨_, rfl⟩
   rw [← hV1]
   have hb_ : Below w2.heap.size w2 V1 := by rw [hV1]; exact (below_alloc (Below.refl _ _) (.cells #[.int .i64 (cmdK n), .int .i64 (cmdW n), .slice E2 (cmdE n).length e2_, .slice E3 (cmdV n).length e3, .slice E4 (cmdO n).length e4] 24))
   have K5 : Aside0 (V1.heap[w2.heap.size]? = some (.cells #[.int .i64 (cmdK n), .int .i64 (cmdW n), .slice E2 (cmdE n).length e2_, .slice E3 (cmdV n).length e3, .slice E4 (cmdO n).length e4] 24 (0, 0))) := Aside0.mk (by have h_ := heap_alloc_self w2 (.cells #[.int .i64 (cmdK n), .int .i64 (cmdW n), .slice E2 (cmdE n).length e2_, .slice E3 (cmdV n).length e3, .slice E4 (cmdO n).length e4] 24); rw [hV1]; simpa using h_)
   have SV1 : Aside0 (V1.heap.size = w2.heap.size + 1) := Aside0.mk (by rw [hV1]; simp)
   clear hV1
   replace HB := Aside0.mk (below_then HB.out HB.out.size hb_)
   replace K3 := Aside0.mk (blk_keep K3.out hb_)
   replace HF := Aside0.mk (HF.out.below hb_)
   have HVB := Aside0.mk hb_
   clear hb_
   replace HX2 := Aside0.mk (show XC V1 (cmdE n) (cmdV n) (cmdO n) E2 e2_ E3 e3 E4 e4 from ⟨HX2.out.h2, Kd.C_below HX2.out.r2 HVB.out, HX2.out.b2, HX2.out.h3, Kd.C_below HX2.out.r3 HVB.out, HX2.out.b3, HX2.out.h4, Kd.C_below HX2.out.r4 HVB.out, HX2.out.b4⟩)
   clear HVB
   obtain ⟨q, hq⟩ : ∃ q, q = applyR o (cmdK n) (cmdW n) (cmdE n) (cmdV n) (cmdO n) := ⟨_, rfl⟩
   have HAP : Aside0 (Apart q.2.f0 (cmdK n) (eqB o.reg q.1.reg) (eqQ o.que q.1.que) (eqI o.loc q.1.loc) (eqM o.map q.1.map)) := Aside0.mk (by rw [hq]; exact apart o _ _ _ _ _)
   have HO2 : Aside0 (OB q.1) := Aside0.mk (by rw [hq]; exact ob_apply o _ _ _ _ _ HO.out HS.out.1 HS.out.2.1)
   have con := apply10 B0 d0 B1 d1 B2 d2 B3 d3 o (cmdK n) (cmdW n) E2 e2_ E3 e3 E4 e4 (cmdE n) (cmdV n) (cmdO n) V1 HF.out.C HO.out HX2.out
   rw [← hq] at con
   clear hq
   refine con.mono ?_
   rintro e w3 ⟨D0, f0, D1, f1, D2, f2, D3, f3, Av, av, rfl, hF, hcv, hFv, hb_⟩
   clear con HX2
   skip
   have zz_ := HB.out.size
   have HT := Aside0.mk (hF.lower (b' := w.heap.size + 1) (by have h_ := (Array.getElem?_eq_some_iff.1 K3.out).1; omega))
   clear hF hcv hFv zz_
   replace HB := Aside0.mk (below_then HB.out HB.out.size hb_)
   replace K3 := Aside0.mk (blk_keep K3.out hb_)
   replace K5 := Aside0.mk (blk_keep K5.out hb_)
   replace HF := Aside0.mk (HF.out.below hb_)
   clear hb_
   go_wp2_with fail
   obtain ⟨V2, hV2⟩ : ∃ V_, V_ = ((w3.alloc (.cells #[.slice D0 q.1.reg.length f0, .slice D1 q.1.que.length f1, .slice D2 q.1.loc.length f2, .slice D3 q.1.map.length f3] 32)).alloc (.cells #[.int .i64 q.2.f0, .slice Av q.2.f1.length av, .int .i64 q.2.f2] 34)) := ⟨_, rfl⟩
   rw [← hV2]
   have hb_ : Below w3.heap.size w3 V2 := by rw [hV2]; exact (below_alloc (below_alloc (Below.refl _ _) (.cells #[.slice D0 q.1.reg.length f0, .slice D1 q.1.que.length f1, .slice D2 q.1.loc.length f2, .slice D3 q.1.map.length f3] 32)) (.cells #[.int .i64 q.2.f0, .slice Av q.2.f1.length av, .int .i64 q.2.f2] 34))
   have K6 : Aside0 (V2.heap[w3.heap.size]? = some (.cells #[.slice D0 q.1.reg.length f0, .slice D1 q.1.que.length f1, .slice D2 q.1.loc.length f2, .slice D3 q.1.map.length f3] 32 (0, 0))) := Aside0.mk (by have h_ := blk_alloc (heap_alloc_self w3 (.cells #[.slice D0 q.1.reg.length f0, .slice D1 q.1.que.length f1, .slice D2 q.1.loc.length f2, .slice D3 q.1.map.length f3] 32)) (.cells #[.int .i64 q.2.f0, .slice Av q.2.f1.length av, .int .i64 q.2.f2] 34); rw [hV2]; simpa using h_)
   have K7 : Aside0 (V2.heap[w3.heap.size + 1]? = some (.cells #[.int .i64 q.2.f0, .slice Av q.2.f1.length av, .int .i64 q.2.f2] 34 (0, 0))) := Aside0.mk (by have h_ := heap_alloc_self (w3.alloc (.cells #[.slice D0 q.1.reg.length f0, .slice D1 q.1.que.length f1, .slice D2 q.1.loc.length f2, .slice D3 q.1.map.length f3] 32)) (.cells #[.int .i64 q.2.f0, .slice Av q.2.f1.length av, .int .i64 q.2.f2] 34); rw [hV2]; simpa using h_)
   have SV2 : Aside0 (V2.heap.size = w3.heap.size + 2) := Aside0.mk (by rw [hV2]; simp)
   clear hV2
   replace HB := Aside0.mk (below_then HB.out HB.out.size hb_)
   replace K3 := Aside0.mk (blk_keep K3.out hb_)
   replace K5 := Aside0.mk (blk_keep K5.out hb_)
   replace HF := Aside0.mk (HF.out.below hb_)
   replace HT := Aside0.mk (HT.out.below hb_)
   clear hb_
   have HD := Aside0.mk (below_drew1 (Below.refl V2.heap.size V2))
   refine start_ (n := 14) (S := fun w' => w'.cell? ⟨w.heap.size, 0, none⟩ = some (.slice B0 o.reg.length d0) ∧ w'.cell? ⟨w.heap.size, 1, none⟩ = some (.slice B1 o.que.length d1) ∧ w'.cell? ⟨w3.heap.size, 0, none⟩ = some (.slice D0 q.1.reg.length f0) ∧ w'.cell? ⟨w3.heap.size, 1, none⟩ = some (.slice D1 q.1.que.length f1) ∧ (convert 22 9 (.slice B0 o.reg.length d0)).run Try.prog w' = .ok (.string (strOfNums o.reg)) w' ∧ (convert 22 9 (.slice D0 q.1.reg.length f0)).run Try.prog w' = .ok (.string (strOfNums q.1.reg)) w') (ds := []) #[false, false, false, false, false, false, false, false, false, false, false, false, false, false] (by kernel_rfl) rfl rfl ⟨(cells4 (blk_keep K3.out HD.out)).1, (cells4 (blk_keep K3.out HD.out)).2.1, (cells4 (blk_keep K6.out HD.out)).1, (cells4 (blk_keep K6.out HD.out)).2.1, (Kd.C_string (P := Try.prog) (A := B0) (c := d0) Try.underlying22 Try.underlying5 Try.underlying9 (Kd.C_below HF.out.C.r0 HD.out)), (Kd.C_string (P := Try.prog) (A := D0) (c := f0) Try.underlying22 Try.underlying5 Try.underlying9 (Kd.C_below HT.out.C.r0 HD.out))⟩ (fun hHeld => ?_)
   refine pure_ (i := 0) (N := some 33) (v := ?_) (a' := ?_) #[true, false, false, false, false, false, false, false, false, false, false, false, false, false] rfl rfl (by kernel_rfl) (fun _ _ _ h => h) (Or.inl ⟨by rfl, ?_⟩) ?_ ?_
   rotate_left
   ·
    intro w'
    go_simp
    with_reducible rfl
   rotate_left
   ·
    simp only [Act.put, List.setIfInBounds_toArray, List.set_cons_zero, List.set_cons_succ, i64_w, i32_w]
    rfl
   refine pure_ (i := 3) (N := some 36) (v := ?_) (a' := ?_) #[true, false, false, true, false, false, false, false, false, false, false, false, false, false] rfl rfl (by kernel_rfl) (fun _ _ _ h => h) (Or.inl ⟨by rfl, ?_⟩) ?_ ?_
   rotate_left
   ·
    intro w'
    go_simp
    with_reducible rfl
   rotate_left
   ·
    simp only [Act.put, List.setIfInBounds_toArray, List.set_cons_zero, List.set_cons_succ, i64_w, i32_w]
    rfl
   refine pure_ (i := 7) (N := some 40) (v := ?_) (a' := ?_) #[true, false, false, true, false, false, false, true, false, false, false, false, false, false] rfl rfl (by kernel_rfl) (fun _ _ _ h => h) (Or.inl ⟨by rfl, ?_⟩) ?_ ?_
   rotate_left
   ·
    intro w'
    go_simp
    with_reducible rfl
   rotate_left
   ·
    simp only [Act.put, List.setIfInBounds_toArray, List.set_cons_zero, List.set_cons_succ, i64_w, i32_w]
    rfl
   refine pure_ (i := 9) (N := some 42) (v := ?_) (a' := ?_) #[true, false, false, true, false, false, false, true, false, true, false, false, false, false] rfl rfl (by kernel_rfl) (fun _ _ _ h => h) (Or.inl ⟨by rfl, ?_⟩) ?_ ?_
   rotate_left
   ·
    intro w'
    go_simp
    with_reducible rfl
   rotate_left
   ·
    simp only [Act.put, List.setIfInBounds_toArray, List.set_cons_zero, List.set_cons_succ, i64_w, i32_w]
    rfl
   refine take_ (i := 1) (N := some 34) (v := ?_) (a' := ?_) #[true, true, false, true, false, false, false, true, false, true, false, false, false, false] rfl rfl (by kernel_rfl) (fun _ _ _ h => h) (Or.inl ⟨by rfl, ?_⟩) hHeld ?_ ?_
   rotate_left
   ·
    rintro w' ⟨s0, s1, s2, s3, s4, s5⟩
    go_simp
    with_reducible rfl
   rotate_left
   ·
    simp only [Act.put, List.setIfInBounds_toArray, List.set_cons_zero, List.set_cons_succ, i64_w, i32_w]
    rfl
   refine take_ (i := 2) (N := some 35) (v := ?_) (a' := ?_) #[true, true, true, true, false, false, false, true, false, true, false, false, false, false] rfl rfl (by kernel_rfl) (fun _ _ _ h => h) (Or.inl ⟨by rfl, ?_⟩) hHeld ?_ ?_
   rotate_left
   ·
    rintro w' ⟨s0, s1, s2, s3, s4, s5⟩
    go_simp
    with_reducible rfl
   rotate_left
   ·
    simp only [Act.put, List.setIfInBounds_toArray, List.set_cons_zero, List.set_cons_succ, i64_w, i32_w]
    rfl
   refine take_ (i := 4) (N := some 37) (v := ?_) (a' := ?_) #[true, true, true, true, true, false, false, true, false, true, false, false, false, false] rfl rfl (by kernel_rfl) (fun _ _ _ h => h) (Or.inl ⟨by rfl, ?_⟩) hHeld ?_ ?_
   rotate_left
   ·
    rintro w' ⟨s0, s1, s2, s3, s4, s5⟩
    go_simp
    with_reducible rfl
   rotate_left
   ·
    simp only [Act.put, List.setIfInBounds_toArray, List.set_cons_zero, List.set_cons_succ, i64_w, i32_w]
    rfl
   refine take_ (i := 5) (N := some 38) (v := ?_) (a' := ?_) #[true, true, true, true, true, true, false, true, false, true, false, false, false, false] rfl rfl (by kernel_rfl) (fun _ _ _ h => h) (Or.inl ⟨by rfl, ?_⟩) hHeld ?_ ?_
   rotate_left
   ·
    rintro w' ⟨s0, s1, s2, s3, s4, s5⟩
    go_simp
    with_reducible rfl
   rotate_left
   ·
    simp only [Act.put, List.setIfInBounds_toArray, List.set_cons_zero, List.set_cons_succ, i64_w, i32_w]
    rfl
   refine pure_ (i := 6) (N := some 39) (v := ?_) (a' := ?_) #[true, true, true, true, true, true, true, true, false, true, false, false, false, false] rfl rfl (by kernel_rfl) (fun _ _ _ h => h) (Or.inl ⟨by rfl, ?_⟩) ?_ ?_
   rotate_left
   ·
    intro w'
    go_simp
    with_reducible rfl
   rotate_left
   ·
    simp only [Act.put, List.setIfInBounds_toArray, List.set_cons_zero, List.set_cons_succ, i64_w, i32_w]
    rfl
   refine take_ (i := 8) (N := some 41) (v := ?_) (a' := ?_) #[true, true, true, true, true, true, true, true, true, true, false, false, false, false] rfl rfl (by kernel_rfl) (fun _ _ _ h => h) (Or.inl ⟨by rfl, ?_⟩) hHeld ?_ ?_
   rotate_left
   ·
    rintro w' ⟨s0, s1, s2, s3, s4, s5⟩
    go_simp
    with_reducible rfl
   rotate_left
   ·
    simp only [Act.put, List.setIfInBounds_toArray, List.set_cons_zero, List.set_cons_succ, i64_w, i32_w]
    rfl
   refine take_ (i := 10) (N := some 43) (v := ?_) (a' := ?_) #[true, true, true, true, true, true, true, true, true, true, true, false, false, false] rfl rfl (by kernel_rfl) (fun _ _ _ h => h) (Or.inl ⟨by rfl, ?_⟩) hHeld ?_ ?_
   rotate_left
   ·
    rintro w' ⟨s0, s1, s2, s3, s4, s5⟩
    go_simp
    with_reducible rfl
   rotate_left
   ·
    simp only [Act.put, List.setIfInBounds_toArray, List.set_cons_zero, List.set_cons_succ, i64_w, i32_w]
    rfl
   refine one_ (i := 11) (N := some 44) #[true, true, true, true, true, true, true, true, true, true, true, true, false, false] rfl rfl (by kernel_rfl) (by decide) (fun K_ hK => ?_)
   refine goes_ Try.func20 (by kernel_rfl) rfl #[.slice B1 o.que.length d1, .slice D1 q.1.que.length f1] (by rfl) rfl rfl (by simp only [List.map_toArray, List.map_cons, List.map_nil]; rfl) ?_
   with_reducible refine (rows20 B1 d1 o.que D1 f1 q.1.que _ (Kd.C_below HF.out.C.r1 HD.out) (Kd.C_below HT.out.C.r1 HD.out)).mono ?_
   rintro e w4 ⟨rfl, hb_⟩
   have HE := Aside0.mk (below_then HD.out HD.out.size hb_)
   clear hb_
   refine ⟨_, rfl, ?_⟩
   refine hK.out _ _ ⟨(cells4 (blk_keep K3.out HE.out)).1, (cells4 (blk_keep K3.out HE.out)).2.1, (cells4 (blk_keep K6.out HE.out)).1, (cells4 (blk_keep K6.out HE.out)).2.1, (Kd.C_string (P := Try.prog) (A := B0) (c := d0) Try.underlying22 Try.underlying5 Try.underlying9 (Kd.C_below HF.out.C.r0 HE.out)), (Kd.C_string (P := Try.prog) (A := D0) (c := f0) Try.underlying22 Try.underlying5 Try.underlying9 (Kd.C_below HT.out.C.r0 HE.out))⟩ (fun hHeld => ?_)
   clear hK K_
   refine norm_ (a' := ?_) ?_ ?_
   rotate_left
   ·
    show Act.put _ (some 44) _ = _
    simp only [Act.put, List.setIfInBounds_toArray, List.set_cons_zero, List.set_cons_succ, i64_w, i32_w]
    rfl
   refine pure_ (i := 12) (N := some 8) (v := ?_) (a' := ?_) #[true, true, true, true, true, true, true, true, true, true, true, true, true, false] rfl rfl (by kernel_rfl) (fun _ _ _ h => h) (Or.inl ⟨by rfl, ?_⟩) ?_ ?_
   rotate_left
   ·
    intro w'
    go_simp
    with_reducible rfl
   rotate_left
   ·
    simp only [Act.put, List.setIfInBounds_toArray, List.set_cons_zero, List.set_cons_succ, i64_w, i32_w]
    rfl
   refine pure_ (i := 13) (N := some 9) (v := ?_) (a' := ?_) #[true, true, true, true, true, true, true, true, true, true, true, true, true, true] rfl rfl (by kernel_rfl) (fun _ _ _ h => h) (Or.inl ⟨by rfl, ?_⟩) ?_ ?_
   rotate_left
   ·
    intro w'
    go_simp
    with_reducible rfl
   rotate_left
   ·
    simp only [Act.put, List.setIfInBounds_toArray, List.set_cons_zero, List.set_cons_succ, i64_w, i32_w]
    rfl
   refine done_ (by kernel_rfl) ?_
   replace HB := Aside0.mk (below_then HB.out HB.out.size HE.out)
   replace K3 := Aside0.mk (blk_keep K3.out HE.out)
   replace K5 := Aside0.mk (blk_keep K5.out HE.out)
   replace K6 := Aside0.mk (blk_keep K6.out HE.out)
   replace K7 := Aside0.mk (blk_keep K7.out HE.out)
   replace HF := Aside0.mk (HF.out.below HE.out)
   replace HT := Aside0.mk (HT.out.below HE.out)
   clear HD HE hHeld
   obtain ⟨x0, x1, x2, x3, x4⟩ := cells4 K3.out
   have x40 := x4 0
   have x41 := x4 1
   have x42 := x4 2
   have x43 := x4 3
   clear x4
   obtain ⟨u0, u1, u2, u3, u4⟩ := cells4 K6.out
   have u40 := u4 0
   have u41 := u4 1
   have u42 := u4 2
   have u43 := u4 3
   clear u4
   go_wp2_with fail
   clear x0 x1 x2 x3 x40 x41 x42 x43
   clear u0 u1 u2 u3 u40 u41 u42 u43
   refine (same15 none 0 none 0 B2 d2 none 0 none 0 none 0 D2 f2 none 0 ⟨[], [], o.loc, []⟩ ⟨[], [], q.1.loc, []⟩ w4 ⟨Nat.le_refl _, Kd.C_nil _ _, Nat.le_refl _, Kd.C_nil _ _, HF.out.h2, HF.out.C.r2, Nat.le_refl _, Kd.C_nil _ _⟩ ⟨Nat.le_refl _, Kd.C_nil _ _, Nat.le_refl _, Kd.C_nil _ _, HT.out.h2, HT.out.C.r2, Nat.le_refl _, Kd.C_nil _ _⟩).mono ?_
   rintro e w5 ⟨rfl, hb_⟩
   rw [show sameO ⟨[], [], o.loc, []⟩ ⟨[], [], q.1.loc, []⟩ = eqI o.loc q.1.loc from by simp [sameO, eqB_refl, eqQ, eqM, eqL]]
   replace HB := Aside0.mk (below_then HB.out HB.out.size hb_)
   replace K3 := Aside0.mk (blk_keep K3.out hb_)
   replace K5 := Aside0.mk (blk_keep K5.out hb_)
   replace K6 := Aside0.mk (blk_keep K6.out hb_)
   replace K7 := Aside0.mk (blk_keep K7.out hb_)
   replace HF := Aside0.mk (HF.out.below hb_)
   replace HT := Aside0.mk (HT.out.below hb_)
   clear hb_
   obtain ⟨x0, x1, x2, x3, x4⟩ := cells4 K3.out
   have x40 := x4 0
   have x41 := x4 1
   have x42 := x4 2
   have x43 := x4 3
   clear x4
   obtain ⟨u0, u1, u2, u3, u4⟩ := cells4 K6.out
   have u40 := u4 0
   have u41 := u4 1
   have u42 := u4 2
   have u43 := u4 3
   clear u4
   go_wp2_with fail
   clear x0 x1 x2 x3 x40 x41 x42 x43
   clear u0 u1 u2 u3 u40 u41 u42 u43
   refine (pairs21 B3 d3 o.map D3 f3 q.1.map w5 HF.out.C.r3 HT.out.C.r3).mono ?_
   rintro e w6 ⟨rfl, hb_⟩
   replace HB := Aside0.mk (below_then HB.out HB.out.size hb_)
   replace K3 := Aside0.mk (blk_keep K3.out hb_)
   replace K5 := Aside0.mk (blk_keep K5.out hb_)
   replace K6 := Aside0.mk (blk_keep K6.out hb_)
   replace K7 := Aside0.mk (blk_keep K7.out hb_)
   replace HF := Aside0.mk (HF.out.below hb_)
   replace HT := Aside0.mk (HT.out.below hb_)
   clear hb_
   have hap := HAP.out
   clear HAP
   have q0_ : ((strOfNums o.reg).toList == (strOfNums q.1.reg).toList) = eqB o.reg q.1.reg := rfl
   rw [q0_]
   clear q0_
   generalize eqB o.reg q.1.reg = b1 at hap ⊢
   generalize eqQ o.que q.1.que = b2 at hap ⊢
   generalize eqI o.loc q.1.loc = b3 at hap ⊢
   generalize eqM o.map q.1.map = b4 at hap ⊢
   skip
   rcases hap with ⟨rfl, rfl, rfl, rfl⟩ | ⟨h0, h⟩
   ·
    rcases Decidable.em (q.2.f0 = 0) with h0 | h0
    ·
     have t1 : (q.2.f0 != 0) = false := by simp [h0]
     clear h0
     obtain ⟨z0, z1, z2, z3⟩ := cells3 K7.out
     have z30 := z3 0
     have z31 := z3 1
     have z32 := z3 2
     clear z3
     obtain ⟨y0, y1, y2, y3, y4, y5⟩ := cells5 K5.out
     have y50 := y5 0
     have y51 := y5 1
     have y52 := y5 2
     have y53 := y5 3
     have y54 := y5 4
     clear y5
     obtain ⟨u0, u1, u2, u3, u4⟩ := cells4 K6.out
     have u40 := u4 0
     have u41 := u4 1
     have u42 := u4 2
     have u43 := u4 3
     clear u4
     obtain ⟨x0, x1, x2, x3, x4⟩ := cells4 K3.out
     have x40 := x4 0
     have x41 := x4 1
     have x42 := x4 2
     have x43 := x4 3
     clear x4
     go_wp2_with fail
     clear z0 z1 z2 z30 z31 z32
     clear y0 y1 y2 y3 y4 y50 y51 y52 y53 y54
     clear u0 u1 u2 u3 u40 u41 u42 u43
     clear x0 x1 x2 x3 x40 x41 x42 x43
     obtain ⟨V9, hV9⟩ : ∃ V_, V_ = ((((w6.setCell ⟨w.heap.size, 0, none⟩ (.slice D0 q.1.reg.length f0)).setCell ⟨w.heap.size, 1, none⟩ (.slice D1 q.1.que.length f1)).setCell ⟨w.heap.size, 2, none⟩ (.slice D2 q.1.loc.length f2)).setCell ⟨w.heap.size, 3, none⟩ (.slice D3 q.1.map.length f3)) := ⟨_, rfl⟩
     rw [← hV9]
     have hge_ : w.heap.size ≤ w.heap.size := by omega
     have hst_ : St w.heap.size w (w.heap.size) 32 #[.slice D0 q.1.reg.length f0, .slice D1 q.1.que.length f1, .slice D2 q.1.loc.length f2, .slice D3 q.1.map.length f3] w6 V9 := by rw [hV9]; exact (St.next (St.next (St.next (St.first HB.out hge_ K3.out 0 _ rfl) hge_ 1 _ rfl) hge_ 2 _ rfl) hge_ 3 _ rfl)
     replace HB := Aside0.mk hst_.1
     replace K3 := Aside0.mk hst_.2.1
     replace HT := Aside0.mk (HT.out.step (fun k_ hk_ _ => hst_.2.2.1 k_ (by have hk2_ : w.heap.size + 1 ≤ k_ := hk_; omega)))
     have SV9 := Aside0.mk hst_.2.2.2
     clear hV9 hst_ hge_
     try go_wp2
     go_roundw
     case rel => exact ⟨j + 1, by go_num, by omega, by omega, q.1, D0, f0, D1, f1, D2, f2, D3, f3, HO2, HT, K3, HB⟩
     case measure => simp [intOf]; omega
    ·
     have t1 : (q.2.f0 != 0) = true := by simp [h0]
     clear h0
     obtain ⟨z0, z1, z2, z3⟩ := cells3 K7.out
     have z30 := z3 0
     have z31 := z3 1
     have z32 := z3 2
     clear z3
     obtain ⟨y0, y1, y2, y3, y4, y5⟩ := cells5 K5.out
     have y50 := y5 0
     have y51 := y5 1
     have y52 := y5 2
     have y53 := y5 3
     have y54 := y5 4
     clear y5
     obtain ⟨u0, u1, u2, u3, u4⟩ := cells4 K6.out
     have u40 := u4 0
     have u41 := u4 1
     have u42 := u4 2
     have u43 := u4 3
     clear u4
     obtain ⟨x0, x1, x2, x3, x4⟩ := cells4 K3.out
     have x40 := x4 0
     have x41 := x4 1
     have x42 := x4 2
     have x43 := x4 3
     clear x4
     go_wp2_with fail
     clear z0 z1 z2 z30 z31 z32
     clear y0 y1 y2 y3 y4 y50 y51 y52 y53 y54
     clear u0 u1 u2 u3 u40 u41 u42 u43
     clear x0 x1 x2 x3 x40 x41 x42 x43
     obtain ⟨V9, hV9⟩ : ∃ V_, V_ = ((((w6.setCell ⟨w.heap.size, 0, none⟩ (.slice D0 q.1.reg.length f0)).setCell ⟨w.heap.size, 1, none⟩ (.slice D1 q.1.que.length f1)).setCell ⟨w.heap.size, 2, none⟩ (.slice D2 q.1.loc.length f2)).setCell ⟨w.heap.size, 3, none⟩ (.slice D3 q.1.map.length f3)) := ⟨_, rfl⟩
     rw [← hV9]
     have hge_ : w.heap.size ≤ w.heap.size := by omega
     have hst_ : St w.heap.size w (w.heap.size) 32 #[.slice D0 q.1.reg.length f0, .slice D1 q.1.que.length f1, .slice D2 q.1.loc.length f2, .slice D3 q.1.map.length f3] w6 V9 := by rw [hV9]; exact (St.next (St.next (St.next (St.first HB.out hge_ K3.out 0 _ rfl) hge_ 1 _ rfl) hge_ 2 _ rfl) hge_ 3 _ rfl)
     replace HB := Aside0.mk hst_.1
     replace K3 := Aside0.mk hst_.2.1
     replace HT := Aside0.mk (HT.out.step (fun k_ hk_ _ => hst_.2.2.1 k_ (by have hk2_ : w.heap.size + 1 ≤ k_ := hk_; omega)))
     have SV9 := Aside0.mk hst_.2.2.2
     clear hV9 hst_ hge_
     try go_wp2
     go_roundw
     case rel => exact ⟨j + 1, by go_num, by omega, by omega, q.1, D0, f0, D1, f1, D2, f2, D3, f3, HO2, HT, K3, HB⟩
     case measure => simp [intOf]; omega
   ·
    have t1 : (q.2.f0 != 0) = false := by simp [h0]
    clear h0
    rcases h with ⟨rfl, rfl, rfl, rfl, hk⟩ | ⟨rfl, rfl, rfl, rfl, hk⟩ | ⟨rfl, rfl, rfl, rfl, hk⟩ | ⟨rfl, rfl, rfl, rfl, hk⟩
    ·
     rcases hk with hk | hk
     ·
      have k2 : (cmdK n != 2) = false := by simp [hk]
      have k3 : (cmdK n != 3) = true := by simp [hk]
      have k4 : (cmdK n != 4) = true := by simp [hk]
      have k5 : (cmdK n != 5) = true := by simp [hk]
      have k6 : (cmdK n != 6) = true := by simp [hk]
      have k7 : (cmdK n != 7) = true := by simp [hk]
      have k9 : (cmdK n != 9) = true := by simp [hk]
      have k11 : (cmdK n != 11) = true := by simp [hk]
      clear hk
      obtain ⟨z0, z1, z2, z3⟩ := cells3 K7.out
      have z30 := z3 0
      have z31 := z3 1
      have z32 := z3 2
      clear z3
      obtain ⟨y0, y1, y2, y3, y4, y5⟩ := cells5 K5.out
      have y50 := y5 0
      have y51 := y5 1
      have y52 := y5 2
      have y53 := y5 3
      have y54 := y5 4
      clear y5
      obtain ⟨u0, u1, u2, u3, u4⟩ := cells4 K6.out
      have u40 := u4 0
      have u41 := u4 1
      have u42 := u4 2
      have u43 := u4 3
      clear u4
      obtain ⟨x0, x1, x2, x3, x4⟩ := cells4 K3.out
      have x40 := x4 0
      have x41 := x4 1
      have x42 := x4 2
      have x43 := x4 3
      clear x4
      go_wp2_with fail
      clear z0 z1 z2 z30 z31 z32
      clear y0 y1 y2 y3 y4 y50 y51 y52 y53 y54
      clear u0 u1 u2 u3 u40 u41 u42 u43
      clear x0 x1 x2 x3 x40 x41 x42 x43
      obtain ⟨V9, hV9⟩ : ∃ V_, V_ = ((((w6.setCell ⟨w.heap.size, 0, none⟩ (.slice D0 q.1.reg.length f0)).setCell ⟨w.heap.size, 1, none⟩ (.slice D1 q.1.que.length f1)).setCell ⟨w.heap.size, 2, none⟩ (.slice D2 q.1.loc.length f2)).setCell ⟨w.heap.size, 3, none⟩ (.slice D3 q.1.map.length f3)) := ⟨_, rfl⟩
      rw [← hV9]
      have hge_ : w.heap.size ≤ w.heap.size := by omega
      have hst_ : St w.heap.size w (w.heap.size) 32 #[.slice D0 q.1.reg.length f0, .slice D1 q.1.que.length f1, .slice D2 q.1.loc.length f2, .slice D3 q.1.map.length f3] w6 V9 := by rw [hV9]; exact (St.next (St.next (St.next (St.first HB.out hge_ K3.out 0 _ rfl) hge_ 1 _ rfl) hge_ 2 _ rfl) hge_ 3 _ rfl)
      replace HB := Aside0.mk hst_.1
      replace K3 := Aside0.mk hst_.2.1
      replace HT := Aside0.mk (HT.out.step (fun k_ hk_ _ => hst_.2.2.1 k_ (by have hk2_ : w.heap.size + 1 ≤ k_ := hk_; omega)))
      have SV9 := Aside0.mk hst_.2.2.2
      clear hV9 hst_ hge_
      try go_wp2
      go_roundw
      case rel => exact ⟨j + 1, by go_num, by omega, by omega, q.1, D0, f0, D1, f1, D2, f2, D3, f3, HO2, HT, K3, HB⟩
      case measure => simp [intOf]; omega
     ·
      have k2 : (cmdK n != 2) = true := by simp [hk]
      have k3 : (cmdK n != 3) = false := by simp [hk]
      have k4 : (cmdK n != 4) = true := by simp [hk]
      have k5 : (cmdK n != 5) = true := by simp [hk]
      have k6 : (cmdK n != 6) = true := by simp [hk]
      have k7 : (cmdK n != 7) = true := by simp [hk]
      have k9 : (cmdK n != 9) = true := by simp [hk]
      have k11 : (cmdK n != 11) = true := by simp [hk]
      clear hk
      obtain ⟨z0, z1, z2, z3⟩ := cells3 K7.out
      have z30 := z3 0
      have z31 := z3 1
      have z32 := z3 2
      clear z3
      obtain ⟨y0, y1, y2, y3, y4, y5⟩ := cells5 K5.out
      have y50 := y5 0
      have y51 := y5 1
      have y52 := y5 2
      have y53 := y5 3
      have y54 := y5 4
      clear y5
      obtain ⟨u0, u1, u2, u3, u4⟩ := cells4 K6.out
      have u40 := u4 0
      have u41 := u4 1
      have u42 := u4 2
      have u43 := u4 3
      clear u4
      obtain ⟨x0, x1, x2, x3, x4⟩ := cells4 K3.out
      have x40 := x4 0
      have x41 := x4 1
      have x42 := x4 2
      have x43 := x4 3
      clear x4
      go_wp2_with fail
      clear z0 z1 z2 z30 z31 z32
      clear y0 y1 y2 y3 y4 y50 y51 y52 y53 y54
      clear u0 u1 u2 u3 u40 u41 u42 u43
      clear x0 x1 x2 x3 x40 x41 x42 x43
      obtain ⟨V9, hV9⟩ : ∃ V_, V_ = ((((w6.setCell ⟨w.heap.size, 0, none⟩ (.slice D0 q.1.reg.length f0)).setCell ⟨w.heap.size, 1, none⟩ (.slice D1 q.1.que.length f1)).setCell ⟨w.heap.size, 2, none⟩ (.slice D2 q.1.loc.length f2)).setCell ⟨w.heap.size, 3, none⟩ (.slice D3 q.1.map.length f3)) := ⟨_, rfl⟩
      rw [← hV9]
      have hge_ : w.heap.size ≤ w.heap.size := by omega
      have hst_ : St w.heap.size w (w.heap.size) 32 #[.slice D0 q.1.reg.length f0, .slice D1 q.1.que.length f1, .slice D2 q.1.loc.length f2, .slice D3 q.1.map.length f3] w6 V9 := by rw [hV9]; exact (St.next (St.next (St.next (St.first HB.out hge_ K3.out 0 _ rfl) hge_ 1 _ rfl) hge_ 2 _ rfl) hge_ 3 _ rfl)
      replace HB := Aside0.mk hst_.1
      replace K3 := Aside0.mk hst_.2.1
      replace HT := Aside0.mk (HT.out.step (fun k_ hk_ _ => hst_.2.2.1 k_ (by have hk2_ : w.heap.size + 1 ≤ k_ := hk_; omega)))
      have SV9 := Aside0.mk hst_.2.2.2
      clear hV9 hst_ hge_
      try go_wp2
      go_roundw
      case rel => exact ⟨j + 1, by go_num, by omega, by omega, q.1, D0, f0, D1, f1, D2, f2, D3, f3, HO2, HT, K3, HB⟩
      case measure => simp [intOf]; omega
    ·
     rcases hk with hk | hk
     ·
      have k2 : (cmdK n != 2) = true := by simp [hk]
      have k3 : (cmdK n != 3) = true := by simp [hk]
      have k4 : (cmdK n != 4) = false := by simp [hk]
      have k5 : (cmdK n != 5) = true := by simp [hk]
      have k6 : (cmdK n != 6) = true := by simp [hk]
      have k7 : (cmdK n != 7) = true := by simp [hk]
      have k9 : (cmdK n != 9) = true := by simp [hk]
      have k11 : (cmdK n != 11) = true := by simp [hk]
      clear hk
      obtain ⟨z0, z1, z2, z3⟩ := cells3 K7.out
      have z30 := z3 0
      have z31 := z3 1
      have z32 := z3 2
      clear z3
      obtain ⟨y0, y1, y2, y3, y4, y5⟩ := cells5 K5.out
      have y50 := y5 0
      have y51 := y5 1
      have y52 := y5 2
      have y53 := y5 3
      have y54 := y5 4
      clear y5
      obtain ⟨u0, u1, u2, u3, u4⟩ := cells4 K6.out
      have u40 := u4 0
      have u41 := u4 1
      have u42 := u4 2
      have u43 := u4 3
      clear u4
      obtain ⟨x0, x1, x2, x3, x4⟩ := cells4 K3.out
      have x40 := x4 0
      have x41 := x4 1
      have x42 := x4 2
      have x43 := x4 3
      clear x4
      go_wp2_with fail
      clear z0 z1 z2 z30 z31 z32
      clear y0 y1 y2 y3 y4 y50 y51 y52 y53 y54
      clear u0 u1 u2 u3 u40 u41 u42 u43
      clear x0 x1 x2 x3 x40 x41 x42 x43
      obtain ⟨V9, hV9⟩ : ∃ V_, V_ = ((((w6.setCell ⟨w.heap.size, 0, none⟩ (.slice D0 q.1.reg.length f0)).setCell ⟨w.heap.size, 1, none⟩ (.slice D1 q.1.que.length f1)).setCell ⟨w.heap.size, 2, none⟩ (.slice D2 q.1.loc.length f2)).setCell ⟨w.heap.size, 3, none⟩ (.slice D3 q.1.map.length f3)) := ⟨_, rfl⟩
      rw [← hV9]
      have hge_ : w.heap.size ≤ w.heap.size := by omega
      have hst_ : St w.heap.size w (w.heap.size) 32 #[.slice D0 q.1.reg.length f0, .slice D1 q.1.que.length f1, .slice D2 q.1.loc.length f2, .slice D3 q.1.map.length f3] w6 V9 := by rw [hV9]; exact (St.next (St.next (St.next (St.first HB.out hge_ K3.out 0 _ rfl) hge_ 1 _ rfl) hge_ 2 _ rfl) hge_ 3 _ rfl)
      replace HB := Aside0.mk hst_.1
      replace K3 := Aside0.mk hst_.2.1
      replace HT := Aside0.mk (HT.out.step (fun k_ hk_ _ => hst_.2.2.1 k_ (by have hk2_ : w.heap.size + 1 ≤ k_ := hk_; omega)))
      have SV9 := Aside0.mk hst_.2.2.2
      clear hV9 hst_ hge_
      try go_wp2
      go_roundw
      case rel => exact ⟨j + 1, by go_num, by omega, by omega, q.1, D0, f0, D1, f1, D2, f2, D3, f3, HO2, HT, K3, HB⟩
      case measure => simp [intOf]; omega
     ·
      have k2 : (cmdK n != 2) = true := by simp [hk]
      have k3 : (cmdK n != 3) = true := by simp [hk]
      have k4 : (cmdK n != 4) = true := by simp [hk]
      have k5 : (cmdK n != 5) = false := by simp [hk]
      have k6 : (cmdK n != 6) = true := by simp [hk]
      have k7 : (cmdK n != 7) = true := by simp [hk]
      have k9 : (cmdK n != 9) = true := by simp [hk]
      have k11 : (cmdK n != 11) = true := by simp [hk]
      clear hk
      obtain ⟨z0, z1, z2, z3⟩ := cells3 K7.out
      have z30 := z3 0
      have z31 := z3 1
      have z32 := z3 2
      clear z3
      obtain ⟨y0, y1, y2, y3, y4, y5⟩ := cells5 K5.out
      have y50 := y5 0
      have y51 := y5 1
      have y52 := y5 2
      have y53 := y5 3
      have y54 := y5 4
      clear y5
      obtain ⟨u0, u1, u2, u3, u4⟩ := cells4 K6.out
      have u40 := u4 0
      have u41 := u4 1
      have u42 := u4 2
      have u43 := u4 3
      clear u4
      obtain ⟨x0, x1, x2, x3, x4⟩ := cells4 K3.out
      have x40 := x4 0
      have x41 := x4 1
      have x42 := x4 2
      have x43 := x4 3
      clear x4
      go_wp2_with fail
      clear z0 z1 z2 z30 z31 z32
      clear y0 y1 y2 y3 y4 y50 y51 y52 y53 y54
      clear u0 u1 u2 u3 u40 u41 u42 u43
      clear x0 x1 x2 x3 x40 x41 x42 x43
      obtain ⟨V9, hV9⟩ : ∃ V_, V_ = ((((w6.setCell ⟨w.heap.size, 0, none⟩ (.slice D0 q.1.reg.length f0)).setCell ⟨w.heap.size, 1, none⟩ (.slice D1 q.1.que.length f1)).setCell ⟨w.heap.size, 2, none⟩ (.slice D2 q.1.loc.length f2)).setCell ⟨w.heap.size, 3, none⟩ (.slice D3 q.1.map.length f3)) := ⟨_, rfl⟩
      rw [← hV9]
      have hge_ : w.heap.size ≤ w.heap.size := by omega
      have hst_ : St w.heap.size w (w.heap.size) 32 #[.slice D0 q.1.reg.length f0, .slice D1 q.1.que.length f1, .slice D2 q.1.loc.length f2, .slice D3 q.1.map.length f3] w6 V9 := by rw [hV9]; exact (St.next (St.next (St.next (St.first HB.out hge_ K3.out 0 _ rfl) hge_ 1 _ rfl) hge_ 2 _ rfl) hge_ 3 _ rfl)
      replace HB := Aside0.mk hst_.1
      replace K3 := Aside0.mk hst_.2.1
      replace HT := Aside0.mk (HT.out.step (fun k_ hk_ _ => hst_.2.2.1 k_ (by have hk2_ : w.heap.size + 1 ≤ k_ := hk_; omega)))
      have SV9 := Aside0.mk hst_.2.2.2
      clear hV9 hst_ hge_
      try go_wp2
      go_roundw
      case rel => exact ⟨j + 1, by go_num, by omega, by omega, q.1, D0, f0, D1, f1, D2, f2, D3, f3, HO2, HT, K3, HB⟩
      case measure => simp [intOf]; omega
    ·
     rcases hk with hk | hk
     ·
      have k2 : (cmdK n != 2) = true := by simp [hk]
      have k3 : (cmdK n != 3) = true := by simp [hk]
      have k4 : (cmdK n != 4) = true := by simp [hk]
      have k5 : (cmdK n != 5) = true := by simp [hk]
      have k6 : (cmdK n != 6) = false := by simp [hk]
      have k7 : (cmdK n != 7) = true := by simp [hk]
      have k9 : (cmdK n != 9) = true := by simp [hk]
      have k11 : (cmdK n != 11) = true := by simp [hk]
      clear hk
      obtain ⟨z0, z1, z2, z3⟩ := cells3 K7.out
      have z30 := z3 0
      have z31 := z3 1
      have z32 := z3 2
      clear z3
      obtain ⟨y0, y1, y2, y3, y4, y5⟩ := cells5 K5.out
      have y50 := y5 0
      have y51 := y5 1
      have y52 := y5 2
      have y53 := y5 3
      have y54 := y5 4
      clear y5
      obtain ⟨u0, u1, u2, u3, u4⟩ := cells4 K6.out
      have u40 := u4 0
      have u41 := u4 1
      have u42 := u4 2
      have u43 := u4 3
      clear u4
      obtain ⟨x0, x1, x2, x3, x4⟩ := cells4 K3.out
      have x40 := x4 0
      have x41 := x4 1
      have x42 := x4 2
      have x43 := x4 3
      clear x4
      go_wp2_with fail
      clear z0 z1 z2 z30 z31 z32
      clear y0 y1 y2 y3 y4 y50 y51 y52 y53 y54
      clear u0 u1 u2 u3 u40 u41 u42 u43
      clear x0 x1 x2 x3 x40 x41 x42 x43
      obtain ⟨V9, hV9⟩ : ∃ V_, V_ = ((((w6.setCell ⟨w.heap.size, 0, none⟩ (.slice D0 q.1.reg.length f0)).setCell ⟨w.heap.size, 1, none⟩ (.slice D1 q.1.que.length f1)).setCell ⟨w.heap.size, 2, none⟩ (.slice D2 q.1.loc.length f2)).setCell ⟨w.heap.size, 3, none⟩ (.slice D3 q.1.map.length f3)) := ⟨_, rfl⟩
      rw [← hV9]
      have hge_ : w.heap.size ≤ w.heap.size := by omega
      have hst_ : St w.heap.size w (w.heap.size) 32 #[.slice D0 q.1.reg.length f0, .slice D1 q.1.que.length f1, .slice D2 q.1.loc.length f2, .slice D3 q.1.map.length f3] w6 V9 := by rw [hV9]; exact (St.next (St.next (St.next (St.first HB.out hge_ K3.out 0 _ rfl) hge_ 1 _ rfl) hge_ 2 _ rfl) hge_ 3 _ rfl)
      replace HB := Aside0.mk hst_.1
      replace K3 := Aside0.mk hst_.2.1
      replace HT := Aside0.mk (HT.out.step (fun k_ hk_ _ => hst_.2.2.1 k_ (by have hk2_ : w.heap.size + 1 ≤ k_ := hk_; omega)))
      have SV9 := Aside0.mk hst_.2.2.2
      clear hV9 hst_ hge_
      try go_wp2
      go_roundw
      case rel => exact ⟨j + 1, by go_num, by omega, by omega, q.1, D0, f0, D1, f1, D2, f2, D3, f3, HO2, HT, K3, HB⟩
      case measure => simp [intOf]; omega
     ·
      have k2 : (cmdK n != 2) = true := by simp [hk]
      have k3 : (cmdK n != 3) = true := by simp [hk]
      have k4 : (cmdK n != 4) = true := by simp [hk]
      have k5 : (cmdK n != 5) = true := by simp [hk]
      have k6 : (cmdK n != 6) = true := by simp [hk]
      have k7 : (cmdK n != 7) = false := by simp [hk]
      have k9 : (cmdK n != 9) = true := by simp [hk]
      have k11 : (cmdK n != 11) = true := by simp [hk]
      clear hk
      obtain ⟨z0, z1, z2, z3⟩ := cells3 K7.out
      have z30 := z3 0
      have z31 := z3 1
      have z32 := z3 2
      clear z3
      obtain ⟨y0, y1, y2, y3, y4, y5⟩ := cells5 K5.out
      have y50 := y5 0
      have y51 := y5 1
      have y52 := y5 2
      have y53 := y5 3
      have y54 := y5 4
      clear y5
      obtain ⟨u0, u1, u2, u3, u4⟩ := cells4 K6.out
      have u40 := u4 0
      have u41 := u4 1
      have u42 := u4 2
      have u43 := u4 3
      clear u4
      obtain ⟨x0, x1, x2, x3, x4⟩ := cells4 K3.out
      have x40 := x4 0
      have x41 := x4 1
      have x42 := x4 2
      have x43 := x4 3
      clear x4
      go_wp2_with fail
      clear z0 z1 z2 z30 z31 z32
      clear y0 y1 y2 y3 y4 y50 y51 y52 y53 y54
      clear u0 u1 u2 u3 u40 u41 u42 u43
      clear x0 x1 x2 x3 x40 x41 x42 x43
      obtain ⟨V9, hV9⟩ : ∃ V_, V_ = ((((w6.setCell ⟨w.heap.size, 0, none⟩ (.slice D0 q.1.reg.length f0)).setCell ⟨w.heap.size, 1, none⟩ (.slice D1 q.1.que.length f1)).setCell ⟨w.heap.size, 2, none⟩ (.slice D2 q.1.loc.length f2)).setCell ⟨w.heap.size, 3, none⟩ (.slice D3 q.1.map.length f3)) := ⟨_, rfl⟩
      rw [← hV9]
      have hge_ : w.heap.size ≤ w.heap.size := by omega
      have hst_ : St w.heap.size w (w.heap.size) 32 #[.slice D0 q.1.reg.length f0, .slice D1 q.1.que.length f1, .slice D2 q.1.loc.length f2, .slice D3 q.1.map.length f3] w6 V9 := by rw [hV9]; exact (St.next (St.next (St.next (St.first HB.out hge_ K3.out 0 _ rfl) hge_ 1 _ rfl) hge_ 2 _ rfl) hge_ 3 _ rfl)
      replace HB := Aside0.mk hst_.1
      replace K3 := Aside0.mk hst_.2.1
      replace HT := Aside0.mk (HT.out.step (fun k_ hk_ _ => hst_.2.2.1 k_ (by have hk2_ : w.heap.size + 1 ≤ k_ := hk_; omega)))
      have SV9 := Aside0.mk hst_.2.2.2
      clear hV9 hst_ hge_
      try go_wp2
      go_roundw
      case rel => exact ⟨j + 1, by go_num, by omega, by omega, q.1, D0, f0, D1, f1, D2, f2, D3, f3, HO2, HT, K3, HB⟩
      case measure => simp [intOf]; omega
    ·
     rcases hk with hk | hk
     ·
      have k2 : (cmdK n != 2) = true := by simp [hk]
      have k3 : (cmdK n != 3) = true := by simp [hk]
      have k4 : (cmdK n != 4) = true := by simp [hk]
      have k5 : (cmdK n != 5) = true := by simp [hk]
      have k6 : (cmdK n != 6) = true := by simp [hk]
      have k7 : (cmdK n != 7) = true := by simp [hk]
      have k9 : (cmdK n != 9) = false := by simp [hk]
      have k11 : (cmdK n != 11) = true := by simp [hk]
      clear hk
      obtain ⟨z0, z1, z2, z3⟩ := cells3 K7.out
      have z30 := z3 0
      have z31 := z3 1
      have z32 := z3 2
      clear z3
      obtain ⟨y0, y1, y2, y3, y4, y5⟩ := cells5 K5.out
      have y50 := y5 0
      have y51 := y5 1
      have y52 := y5 2
      have y53 := y5 3
      have y54 := y5 4
      clear y5
      obtain ⟨u0, u1, u2, u3, u4⟩ := cells4 K6.out
      have u40 := u4 0
      have u41 := u4 1
      have u42 := u4 2
      have u43 := u4 3
      clear u4
      obtain ⟨x0, x1, x2, x3, x4⟩ := cells4 K3.out
      have x40 := x4 0
      have x41 := x4 1
      have x42 := x4 2
      have x43 := x4 3
      clear x4
      go_wp2_with fail
      clear z0 z1 z2 z30 z31 z32
      clear y0 y1 y2 y3 y4 y50 y51 y52 y53 y54
      clear u0 u1 u2 u3 u40 u41 u42 u43
      clear x0 x1 x2 x3 x40 x41 x42 x43
      obtain ⟨V9, hV9⟩ : ∃ V_, V_ = ((((w6.setCell ⟨w.heap.size, 0, none⟩ (.slice D0 q.1.reg.length f0)).setCell ⟨w.heap.size, 1, none⟩ (.slice D1 q.1.que.length f1)).setCell ⟨w.heap.size, 2, none⟩ (.slice D2 q.1.loc.length f2)).setCell ⟨w.heap.size, 3, none⟩ (.slice D3 q.1.map.length f3)) := ⟨_, rfl⟩
      rw [← hV9]
      have hge_ : w.heap.size ≤ w.heap.size := by omega
      have hst_ : St w.heap.size w (w.heap.size) 32 #[.slice D0 q.1.reg.length f0, .slice D1 q.1.que.length f1, .slice D2 q.1.loc.length f2, .slice D3 q.1.map.length f3] w6 V9 := by rw [hV9]; exact (St.next (St.next (St.next (St.first HB.out hge_ K3.out 0 _ rfl) hge_ 1 _ rfl) hge_ 2 _ rfl) hge_ 3 _ rfl)
      replace HB := Aside0.mk hst_.1
      replace K3 := Aside0.mk hst_.2.1
      replace HT := Aside0.mk (HT.out.step (fun k_ hk_ _ => hst_.2.2.1 k_ (by have hk2_ : w.heap.size + 1 ≤ k_ := hk_; omega)))
      have SV9 := Aside0.mk hst_.2.2.2
      clear hV9 hst_ hge_
      try go_wp2
      go_roundw
      case rel => exact ⟨j + 1, by go_num, by omega, by omega, q.1, D0, f0, D1, f1, D2, f2, D3, f3, HO2, HT, K3, HB⟩
      case measure => simp [intOf]; omega
     ·
      have k2 : (cmdK n != 2) = true := by simp [hk]
      have k3 : (cmdK n != 3) = true := by simp [hk]
      have k4 : (cmdK n != 4) = true := by simp [hk]
      have k5 : (cmdK n != 5) = true := by simp [hk]
      have k6 : (cmdK n != 6) = true := by simp [hk]
      have k7 : (cmdK n != 7) = true := by simp [hk]
      have k9 : (cmdK n != 9) = true := by simp [hk]
      have k11 : (cmdK n != 11) = false := by simp [hk]
      clear hk
      obtain ⟨z0, z1, z2, z3⟩ := cells3 K7.out
      have z30 := z3 0
      have z31 := z3 1
      have z32 := z3 2
      clear z3
      obtain ⟨y0, y1, y2, y3, y4, y5⟩ := cells5 K5.out
      have y50 := y5 0
      have y51 := y5 1
      have y52 := y5 2
      have y53 := y5 3
      have y54 := y5 4
      clear y5
      obtain ⟨u0, u1, u2, u3, u4⟩ := cells4 K6.out
      have u40 := u4 0
      have u41 := u4 1
      have u42 := u4 2
      have u43 := u4 3
      clear u4
      obtain ⟨x0, x1, x2, x3, x4⟩ := cells4 K3.out
      have x40 := x4 0
      have x41 := x4 1
      have x42 := x4 2
      have x43 := x4 3
      clear x4
      go_wp2_with fail
      clear z0 z1 z2 z30 z31 z32
      clear y0 y1 y2 y3 y4 y50 y51 y52 y53 y54
      clear u0 u1 u2 u3 u40 u41 u42 u43
      clear x0 x1 x2 x3 x40 x41 x42 x43
      obtain ⟨V9, hV9⟩ : ∃ V_, V_ = ((((w6.setCell ⟨w.heap.size, 0, none⟩ (.slice D0 q.1.reg.length f0)).setCell ⟨w.heap.size, 1, none⟩ (.slice D1 q.1.que.length f1)).setCell ⟨w.heap.size, 2, none⟩ (.slice D2 q.1.loc.length f2)).setCell ⟨w.heap.size, 3, none⟩ (.slice D3 q.1.map.length f3)) := ⟨_, rfl⟩
      rw [← hV9]
      have hge_ : w.heap.size ≤ w.heap.size := by omega
      have hst_ : St w.heap.size w (w.heap.size) 32 #[.slice D0 q.1.reg.length f0, .slice D1 q.1.que.length f1, .slice D2 q.1.loc.length f2, .slice D3 q.1.map.length f3] w6 V9 := by rw [hV9]; exact (St.next (St.next (St.next (St.first HB.out hge_ K3.out 0 _ rfl) hge_ 1 _ rfl) hge_ 2 _ rfl) hge_ 3 _ rfl)
      replace HB := Aside0.mk hst_.1
      replace K3 := Aside0.mk hst_.2.1
      replace HT := Aside0.mk (HT.out.step (fun k_ hk_ _ => hst_.2.2.1 k_ (by have hk2_ : w.heap.size + 1 ≤ k_ := hk_; omega)))
      have SV9 := Aside0.mk hst_.2.2.2
      clear hV9 hst_ hge_
      try go_wp2
      go_roundw
      case rel => exact ⟨j + 1, by go_num, by omega, by omega, q.1, D0, f0, D1, f1, D2, f2, D3, f3, HO2, HT, K3, HB⟩
      case measure => simp [intOf]; omega
  ·
   by_cases hl : j < len
   ·
    have c1 : decide ((j : Int) < (len : Int)) = true := decide_eq_true (by omega)
    have c2 : decide ((j : Int) < 60) = false := decide_eq_false (by omega)
    go_wp2_with fail
    refine (awake12 wr).mono ?_
    rintro e w2 ⟨rfl, hb_⟩
    replace HB := Aside0.mk (below_then HB.out HB.out.size hb_)
    clear hb_
    go_wp2_with fail
    go_ret
    exact ⟨rfl, HB.out⟩
   ·
    have c1 : decide ((j : Int) < (len : Int)) = false := decide_eq_false (by omega)
    go_wp2_with fail
    refine (awake12 wr).mono ?_
    rintro e w2 ⟨rfl, hb_⟩
    replace HB := Aside0.mk (below_then HB.out HB.out.size hb_)
    clear hb_
    go_wp2_with fail
    go_ret
    exact ⟨rfl, HB.out⟩
end Go.Proofs.Ythfplgfpodmphaa.Ob
