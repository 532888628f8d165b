/- Texts of this claim, merged by a program: O14 Oe2 Op Opr Oe3 Oe4 Oo -/
import Derived.Test.YthfplgfpodmphaaPd
namespace Go.Proofs.Ythfplgfpodmphaa.Ob
open Go.RowKit Go.Proofs.YthfplgfpodmphaaW.PrintWords Go.Proofs.YthfplgfpodmphaaW.PrintLast Go.Proofs.YthfplgfpodmphaaW.PrintMore Go.Proofs.Ythfplgfpodmphaa.Ms
attribute [local go_sem] max2_int min2_int max_two min_two max_three min_three max_four min_four
set_option linter.unusedVariables false
set_option linter.unusedSimpArgs false
set_option maxRecDepth 100000
set_option maxHeartbeats 16000000 in
theorem apply14 (A0 : Option Addr) (c0 : Nat) (A1 : Option Addr) (c1 : Nat) (A2 : Option Addr) (c2 : Nat) (A3 : Option Addr) (c3 : Nat) (o : O) (kd a : Int) (E2 : Option Addr) (e2 : Nat) (E3 : Option Addr) (e3 : Nat) (E4 : Option Addr) (e4 : Nat) (ke va ol : List Int) (w : World) (hc : OC w o A0 c0 A1 c1 A2 c2 A3 c3) (hb : OB o) (hx : XC w ke va ol E2 e2 E3 e3 E4 e4) :
  Calls Try.prog 14 #[.agg #[.slice A0 o.reg.length c0, .slice A1 o.que.length c1, .slice A2 o.loc.length c2, .slice A3 o.map.length c3], .agg #[.int .i64 kd, .int .i64 a, .slice E2 ke.length e2, .slice E3 va.length e3, .slice E4 ol.length e4]] w (TA w (applyR o kd a ke va ol).1 (applyR o kd a ke va ol).2) := by
 have HC := Aside0.mk hc
 have HO := Aside0.mk hb
 have HX := Aside0.mk hx
 clear hc hb hx
 have HB := Aside0.mk (Below.refl w.heap.size w)
 go_enter Try.func14, Try.ntmps14
 go_wp2_with fail
 generalize hV0 : World.alloc _ _ = V0
 obtain ⟨K0, K1, K2, K3, hb_, SV0⟩ := al4 hV0
 clear hV0
 replace HB := HBs HB hb_
 clear hb_
 have HWD := Aside0.mk (below_drew1 (Below.refl V0.heap.size V0))
 replace HB := HBs HB HWD.out
 replace K0 := KB K0 HWD.out
 replace K1 := KB K1 HWD.out
 replace K2 := KB K2 HWD.out
 replace K3 := KB K3 HWD.out
 have SW0 := Aside0.mk (show w.heap.size + 4 ≤ V0.drew.heap.size from by have h1 := SV0.out; have h2 := HWD.out.size; omega)
 clear HWD SV0
 refine start_ (n := 15) (S := fun w' => w'.cell? ⟨w.heap.size, 0, none⟩ = some (.slice A0 o.reg.length c0) ∧ w'.cell? ⟨w.heap.size, 1, none⟩ = some (.slice A1 o.que.length c1) ∧ w'.cell? ⟨w.heap.size, 2, none⟩ = some (.slice A2 o.loc.length c2) ∧ w'.cell? ⟨w.heap.size, 3, none⟩ = some (.slice A3 o.map.length c3)) (ds := [14]) #[false, false, false, false, false, false, false, false, false, false, false, false, false, false, false] (by kernel_rfl) rfl rfl ⟨(cells4 K0.out).1, (cells4 K0.out).2.1, (cells4 K0.out).2.2.1, (cells4 K0.out).2.2.2.1⟩ (fun hHeld => ?_)
 generalize V0.drew = W0 at HB K0 K1 K2 K3 SW0 hHeld ⊢
 refine pure_ (i := 0) (N := some 8) (v := ?_) (a' := ?_) #[true, false, false, false, false, false, false, false, false, false, false, false, false, false, false] rfl rfl (by kernel_rfl) (fun _ _ _ h => h) (Or.inl ⟨by rfl, ?_⟩) ?_ ?_
 rotate_left
 ·
  intro w'
  go_simp
  with_reducible rfl
 rotate_left
 ·
  simp only [Act.put, List.setIfInBounds_toArray, List.set_cons_zero, List.set_cons_succ, i64_w, i32_w]
  rfl
 refine pure_ (i := 3) (N := some 11) (v := ?_) (a' := ?_) #[true, false, false, true, false, false, false, false, false, false, false, false, false, false, false] rfl rfl (by kernel_rfl) (fun _ _ _ h => h) (Or.inl ⟨by rfl, ?_⟩) ?_ ?_
 rotate_left
 ·
  intro w'
  go_simp
  with_reducible rfl
 rotate_left
 ·
  simp only [Act.put, List.setIfInBounds_toArray, List.set_cons_zero, List.set_cons_succ, i64_w, i32_w]
  rfl
 refine pure_ (i := 7) (N := some 15) (v := ?_) (a' := ?_) #[true, false, false, true, false, false, false, true, false, false, false, false, false, false, false] rfl rfl (by kernel_rfl) (fun _ _ _ h => h) (Or.inl ⟨by rfl, ?_⟩) ?_ ?_
 rotate_left
 ·
  intro w'
  go_simp
  with_reducible rfl
 rotate_left
 ·
  simp only [Act.put, List.setIfInBounds_toArray, List.set_cons_zero, List.set_cons_succ, i64_w, i32_w]
  rfl
 refine pure_ (i := 10) (N := some 18) (v := ?_) (a' := ?_) #[true, false, false, true, false, false, false, true, false, false, true, false, false, false, false] rfl rfl (by kernel_rfl) (fun _ _ _ h => h) (Or.inl ⟨by rfl, ?_⟩) ?_ ?_
 rotate_left
 ·
  intro w'
  go_simp
  with_reducible rfl
 rotate_left
 ·
  simp only [Act.put, List.setIfInBounds_toArray, List.set_cons_zero, List.set_cons_succ, i64_w, i32_w]
  rfl
 refine take_ (i := 1) (N := some 9) (v := ?_) (a' := ?_) #[true, true, false, true, false, false, false, true, false, false, true, false, false, false, false] rfl rfl (by kernel_rfl) (fun _ _ _ h => h) (Or.inl ⟨by rfl, ?_⟩) hHeld ?_ ?_
 rotate_left
 ·
  rintro w' ⟨s0, s1, s2, s3⟩
  go_simp
  with_reducible rfl
 rotate_left
 ·
  simp only [Act.put, List.setIfInBounds_toArray, List.set_cons_zero, List.set_cons_succ, i64_w, i32_w]
  rfl
 refine take_ (i := 4) (N := some 12) (v := ?_) (a' := ?_) #[true, true, false, true, true, false, false, true, false, false, true, false, false, false, false] rfl rfl (by kernel_rfl) (fun _ _ _ h => h) (Or.inl ⟨by rfl, ?_⟩) hHeld ?_ ?_
 rotate_left
 ·
  rintro w' ⟨s0, s1, s2, s3⟩
  go_simp
  with_reducible rfl
 rotate_left
 ·
  simp only [Act.put, List.setIfInBounds_toArray, List.set_cons_zero, List.set_cons_succ, i64_w, i32_w]
  rfl
 refine take_ (i := 8) (N := some 16) (v := ?_) (a' := ?_) #[true, true, false, true, true, false, false, true, true, false, true, false, false, false, false] rfl rfl (by kernel_rfl) (fun _ _ _ h => h) (Or.inl ⟨by rfl, ?_⟩) hHeld ?_ ?_
 rotate_left
 ·
  rintro w' ⟨s0, s1, s2, s3⟩
  go_simp
  with_reducible rfl
 rotate_left
 ·
  simp only [Act.put, List.setIfInBounds_toArray, List.set_cons_zero, List.set_cons_succ, i64_w, i32_w]
  rfl
 refine take_ (i := 11) (N := some 19) (v := ?_) (a' := ?_) #[true, true, false, true, true, false, false, true, true, false, true, true, false, false, false] rfl rfl (by kernel_rfl) (fun _ _ _ h => h) (Or.inl ⟨by rfl, ?_⟩) hHeld ?_ ?_
 rotate_left
 ·
  rintro w' ⟨s0, s1, s2, s3⟩
  go_simp
  with_reducible rfl
 rotate_left
 ·
  simp only [Act.put, List.setIfInBounds_toArray, List.set_cons_zero, List.set_cons_succ, i64_w, i32_w]
  rfl
 refine join_ (σ := Value × Value × Value × Value × Option Nat) 4 #[true, true, true, true, true, true, true, true, true, false, true, true, false, false, false] (fun s_ => [(10, s_.1), (13, s_.2.1), (14, s_.2.2.1)]) (fun s_ w' => (w'.cell? ⟨w.heap.size, 0, none⟩ = some (.slice A0 o.reg.length c0) ∧ w'.cell? ⟨w.heap.size, 1, none⟩ = some (.slice A1 o.que.length c1) ∧ w'.cell? ⟨w.heap.size, 2, none⟩ = some (.slice A2 o.loc.length c2) ∧ w'.cell? ⟨w.heap.size, 3, none⟩ = some (.slice A3 o.map.length c3)) ∧ Below W0.heap.size W0 w' ∧ RowF kb W0.heap.size s_.2.2.2.2 o.reg s_.1 w' ∧ RowF kq W0.heap.size s_.2.2.2.2 o.que s_.2.1 w' ∧ LitF W0.heap.size s_.2.2.2.2 s_.2.2.1 w') ?_ ?_
 rotate_left
 ·
  intro hJ2_5_6
  refine join_ (σ := Value × Value × Value × Value × Option Nat) 5 #[true, true, true, true, true, true, false, true, true, false, true, true, false, false, false] (fun s_ => [(10, s_.1), (13, s_.2.1)]) (fun s_ w' => (w'.cell? ⟨w.heap.size, 0, none⟩ = some (.slice A0 o.reg.length c0) ∧ w'.cell? ⟨w.heap.size, 1, none⟩ = some (.slice A1 o.que.length c1) ∧ w'.cell? ⟨w.heap.size, 2, none⟩ = some (.slice A2 o.loc.length c2) ∧ w'.cell? ⟨w.heap.size, 3, none⟩ = some (.slice A3 o.map.length c3)) ∧ Below W0.heap.size W0 w' ∧ RowF kb W0.heap.size none o.reg s_.1 w' ∧ RowF kq W0.heap.size none o.que s_.2.1 w') ?_ ?_
  rotate_left
  ·
   intro hJ2_5
   refine join_ (σ := Value × Value × Value × Value × Option Nat) 5 #[true, true, true, true, true, false, true, true, true, false, true, true, false, false, false] (fun s_ => [(10, s_.1), (14, s_.2.2.1)]) (fun s_ w' => (w'.cell? ⟨w.heap.size, 0, none⟩ = some (.slice A0 o.reg.length c0) ∧ w'.cell? ⟨w.heap.size, 1, none⟩ = some (.slice A1 o.que.length c1) ∧ w'.cell? ⟨w.heap.size, 2, none⟩ = some (.slice A2 o.loc.length c2) ∧ w'.cell? ⟨w.heap.size, 3, none⟩ = some (.slice A3 o.map.length c3)) ∧ Below W0.heap.size W0 w' ∧ RowF kb W0.heap.size s_.2.2.2.2 o.reg s_.1 w' ∧ LitF W0.heap.size s_.2.2.2.2 s_.2.2.1 w') ?_ ?_
   rotate_left
   ·
    intro hJ2_6
    refine join_ (σ := Value × Value × Value × Value × Option Nat) 6 #[true, true, true, true, true, false, false, true, true, false, true, true, false, false, false] (fun s_ => [(10, s_.1)]) (fun s_ w' => (w'.cell? ⟨w.heap.size, 0, none⟩ = some (.slice A0 o.reg.length c0) ∧ w'.cell? ⟨w.heap.size, 1, none⟩ = some (.slice A1 o.que.length c1) ∧ w'.cell? ⟨w.heap.size, 2, none⟩ = some (.slice A2 o.loc.length c2) ∧ w'.cell? ⟨w.heap.size, 3, none⟩ = some (.slice A3 o.map.length c3)) ∧ Below W0.heap.size W0 w' ∧ RowF kb W0.heap.size none o.reg s_.1 w') ?_ ?_
    rotate_left
    ·
     intro hJ2
     refine join_ (σ := Value × Value × Value × Value × Option Nat) 6 #[true, true, false, true, true, false, true, true, true, false, true, true, false, false, false] (fun s_ => [(14, s_.2.2.1)]) (fun s_ w' => (w'.cell? ⟨w.heap.size, 0, none⟩ = some (.slice A0 o.reg.length c0) ∧ w'.cell? ⟨w.heap.size, 1, none⟩ = some (.slice A1 o.que.length c1) ∧ w'.cell? ⟨w.heap.size, 2, none⟩ = some (.slice A2 o.loc.length c2) ∧ w'.cell? ⟨w.heap.size, 3, none⟩ = some (.slice A3 o.map.length c3)) ∧ Below W0.heap.size W0 w' ∧ LitF W0.heap.size s_.2.2.2.2 s_.2.2.1 w') ?_ ?_
     rotate_left
     ·
      intro hJ6
      refine two_ (i := 2) (j := 6) (Ni := some 10) (Nj := some 14) #[true, true, true, true, true, false, false, true, true, false, true, true, false, false, false] #[true, true, false, true, true, false, true, true, true, false, true, true, false, false, false] rfl rfl rfl rfl (by kernel_rfl) (by decide) (by decide) (fun K_ hK => ?_) (fun K_ hK => ?_)
      ·
       skip
       refine goes_ Try.func40 (by kernel_rfl) rfl #[.slice A0 o.reg.length c0] (by rfl) rfl rfl (by simp only [List.map_toArray, List.map_cons, List.map_nil]; rfl) ?_
       with_reducible refine (own40 A0 c0 o.reg W0 (Kd.C_below HC.out.r0 HB.out) HC.out.h0 HO.out.b0).mono ?_
       rintro e u_ ⟨P0, p0, rfl, hp0, hF0, hb_⟩
       have f2 : RowF kb W0.heap.size none o.reg (.slice P0 o.reg.length p0) u_ := ⟨P0, p0, rfl, hp0, Kd.F_mono hF0 (fun k hk => ⟨Nat.le_trans (Nat.le_refl _) hk, fun e => by cases e⟩)⟩
       have fB := hb_
       clear hp0 hF0
       refine ⟨_, rfl, ?_⟩
       refine hK.out _ _ ⟨cell_old hb_ hHeld.1, cell_old hb_ hHeld.2.1, cell_old hb_ hHeld.2.2.1, cell_old hb_ hHeld.2.2.2⟩ (fun hHeld => ?_)
       clear hK K_
       refine norm_ (a' := ?_) ?_ ?_
       rotate_left
       ·
        show Act.put _ (some 10) _ = _
        simp only [Act.put, List.setIfInBounds_toArray, List.set_cons_zero, List.set_cons_succ, i64_w, i32_w]
        rfl
       exact norm_ (by simp only [putAll, Act.put, List.setIfInBounds_toArray, List.set_cons_zero, List.set_cons_succ] <;> rfl) (hJ2 (.slice P0 o.reg.length p0, .bool false, .bool false, .bool false, none) _ ⟨hHeld, fB, f2⟩)
      ·
       skip
       refine value_ (w1 := ?_) (v := ?_) (by rfl) rfl ?_ ?_
       rotate_left 2
       ·
        go_simp
        constructor
        ·
         rfl
        ·
         rfl
       obtain ⟨u_, hu_⟩ : ∃ V_, V_ = (W0.alloc (.cells #[] 3)) := ⟨_, rfl⟩
       rw [← hu_]
       have hb_ : Below W0.heap.size W0 u_ := by rw [hu_]; exact below_alloc (Below.refl _ _) _
       have f6 : LitF W0.heap.size (some W0.heap.size) (.slice (some ⟨W0.heap.size, 0, none⟩) 0 0) u_ := ⟨_, rfl, rfl, Nat.le_refl _, by rw [hu_]; exact heap_alloc_self W0 _⟩
       have fB := hb_
       refine hK.out _ _ ⟨cell_old hb_ hHeld.1, cell_old hb_ hHeld.2.1, cell_old hb_ hHeld.2.2.1, cell_old hb_ hHeld.2.2.2⟩ (fun hHeld => ?_)
       clear hK K_
       refine norm_ (a' := ?_) ?_ ?_
       rotate_left
       ·
        show Act.put _ (some 14) _ = _
        simp only [Act.put, List.setIfInBounds_toArray, List.set_cons_zero, List.set_cons_succ, i64_w, i32_w]
        rfl
       exact norm_ (by simp only [putAll, Act.put, List.setIfInBounds_toArray, List.set_cons_zero, List.set_cons_succ] <;> rfl) (hJ6 (.bool false, .bool false, .slice (some ⟨W0.heap.size, 0, none⟩) 0 0, .bool false, some W0.heap.size) _ ⟨hHeld, fB, f6⟩)
     ·
      skip
      rintro ⟨r_, q_, l_, m_, g_⟩ W_ ⟨hHeld, fB, f6⟩
      dsimp only at hHeld fB f6
      obtain ⟨gl, rfl, rfl, hl1, hl2⟩ := f6
      have f6 : LitF W0.heap.size (some gl) (.slice (some ⟨gl, 0, none⟩) 0 0) W_ := ⟨gl, rfl, rfl, hl1, hl2⟩
      clear hl1 hl2
      refine norm_ (a' := ?_) ?_ ?_
      rotate_left
      ·
       simp only [putAll, Act.put, List.setIfInBounds_toArray, List.set_cons_zero, List.set_cons_succ]
       rfl
      refine one_ (i := 2) (N := some 10) #[true, true, true, true, true, false, true, true, true, false, true, true, false, false, false] rfl rfl (by kernel_rfl) (by decide) (fun K_ hK => ?_)
      refine goes_ Try.func40 (by kernel_rfl) rfl #[.slice A0 o.reg.length c0] (by rfl) rfl rfl (by simp only [List.map_toArray, List.map_cons, List.map_nil]; rfl) ?_
      with_reducible refine (own40 A0 c0 o.reg W_ (Kd.C_below (Kd.C_below HC.out.r0 HB.out) fB) HC.out.h0 HO.out.b0).mono ?_
      rintro e u_ ⟨P0, p0, rfl, hp0, hF0, hb_⟩
      have hsz_ := fB.size
      have f2 : RowF kb W0.heap.size (some gl) o.reg (.slice P0 o.reg.length p0) u_ := ⟨P0, p0, rfl, hp0, Kd.F_mono hF0 (fun k hk => by obtain ⟨g2, e2, _, h2, h3⟩ := f6; have h4 := Option.some.inj e2; subst h4; have hk2 : W_.heap.size ≤ k := hk; have hlt := (Array.getElem?_eq_some_iff.1 h3).1; exact ⟨Nat.le_trans hsz_ hk2, fun e => by cases e; omega⟩)⟩
      replace fB := below_then fB fB.size hb_
      replace f6 := f6.below hb_
      clear hp0 hF0 hsz_
      refine ⟨_, rfl, ?_⟩
      refine hK.out _ _ ⟨cell_old hb_ hHeld.1, cell_old hb_ hHeld.2.1, cell_old hb_ hHeld.2.2.1, cell_old hb_ hHeld.2.2.2⟩ (fun hHeld => ?_)
      clear hK K_
      refine norm_ (a' := ?_) ?_ ?_
      rotate_left
      ·
       show Act.put _ (some 10) _ = _
       simp only [Act.put, List.setIfInBounds_toArray, List.set_cons_zero, List.set_cons_succ, i64_w, i32_w]
       rfl
      exact norm_ (by simp only [putAll, Act.put, List.setIfInBounds_toArray, List.set_cons_zero, List.set_cons_succ] <;> rfl) (hJ2_6 (.slice P0 o.reg.length p0, .bool false, .slice (some ⟨gl, 0, none⟩) 0 0, .bool false, some gl) _ ⟨hHeld, fB, f2, f6⟩)
    ·
     skip
     rintro ⟨r_, q_, l_, m_, g_⟩ W_ ⟨hHeld, fB, f2⟩
     dsimp only at hHeld fB f2
     obtain ⟨P0, p0, rfl, hp0, hF0⟩ := f2
     have f2 : RowF kb W0.heap.size none o.reg (.slice P0 o.reg.length p0) W_ := ⟨P0, p0, rfl, hp0, hF0⟩
     clear hp0 hF0
     refine norm_ (a' := ?_) ?_ ?_
     rotate_left
     ·
      simp only [putAll, Act.put, List.setIfInBounds_toArray, List.set_cons_zero, List.set_cons_succ]
      rfl
     refine two_ (i := 5) (j := 6) (Ni := some 13) (Nj := some 14) #[true, true, true, true, true, true, false, true, true, false, true, true, false, false, false] #[true, true, true, true, true, false, true, true, true, false, true, true, false, false, false] rfl rfl rfl rfl (by kernel_rfl) (by decide) (by decide) (fun K_ hK => ?_) (fun K_ hK => ?_)
     ·
      skip
      refine goes_ Try.func41 (by kernel_rfl) rfl #[.slice A1 o.que.length c1] (by rfl) rfl rfl (by simp only [List.map_toArray, List.map_cons, List.map_nil]; rfl) ?_
      with_reducible refine (rows41 A1 c1 o.que W_ (Kd.C_below (Kd.C_below HC.out.r1 HB.out) fB) HC.out.h1 HO.out.b1 HO.out.e1).mono ?_
      rintro e u_ ⟨P1, p1, rfl, hp1, hF1, hb_⟩
      have hsz_ := fB.size
      have f5 : RowF kq W0.heap.size none o.que (.slice P1 o.que.length p1) u_ := ⟨P1, p1, rfl, hp1, Kd.F_mono hF1 (fun k hk => ⟨Nat.le_trans hsz_ hk, fun e => by cases e⟩)⟩
      replace fB := below_then fB fB.size hb_
      replace f2 := f2.below hb_
      clear hp1 hF1 hsz_
      refine ⟨_, rfl, ?_⟩
      refine hK.out _ _ ⟨cell_old hb_ hHeld.1, cell_old hb_ hHeld.2.1, cell_old hb_ hHeld.2.2.1, cell_old hb_ hHeld.2.2.2⟩ (fun hHeld => ?_)
      clear hK K_
      refine norm_ (a' := ?_) ?_ ?_
      rotate_left
      ·
       show Act.put _ (some 13) _ = _
       simp only [Act.put, List.setIfInBounds_toArray, List.set_cons_zero, List.set_cons_succ, i64_w, i32_w]
       rfl
      exact norm_ (by simp only [putAll, Act.put, List.setIfInBounds_toArray, List.set_cons_zero, List.set_cons_succ] <;> rfl) (hJ2_5 (.slice P0 o.reg.length p0, .slice P1 o.que.length p1, .bool false, .bool false, none) _ ⟨hHeld, fB, f2, f5⟩)
     ·
      skip
      refine value_ (w1 := ?_) (v := ?_) (by rfl) rfl ?_ ?_
      rotate_left 2
      ·
       go_simp
       constructor
       ·
        rfl
       ·
        rfl
      obtain ⟨u_, hu_⟩ : ∃ V_, V_ = (W_.alloc (.cells #[] 3)) := ⟨_, rfl⟩
      rw [← hu_]
      have hb_ : Below W_.heap.size W_ u_ := by rw [hu_]; exact below_alloc (Below.refl _ _) _
      have f6 : LitF W0.heap.size (some W_.heap.size) (.slice (some ⟨W_.heap.size, 0, none⟩) 0 0) u_ := ⟨_, rfl, rfl, fB.size, by rw [hu_]; exact heap_alloc_self W_ _⟩
      replace f2 := f2.lit
      replace fB := below_then fB fB.size hb_
      replace f2 := f2.below hb_
      refine hK.out _ _ ⟨cell_old hb_ hHeld.1, cell_old hb_ hHeld.2.1, cell_old hb_ hHeld.2.2.1, cell_old hb_ hHeld.2.2.2⟩ (fun hHeld => ?_)
      clear hK K_
      refine norm_ (a' := ?_) ?_ ?_
      rotate_left
      ·
       show Act.put _ (some 14) _ = _
       simp only [Act.put, List.setIfInBounds_toArray, List.set_cons_zero, List.set_cons_succ, i64_w, i32_w]
       rfl
      exact norm_ (by simp only [putAll, Act.put, List.setIfInBounds_toArray, List.set_cons_zero, List.set_cons_succ] <;> rfl) (hJ2_6 (.slice P0 o.reg.length p0, .bool false, .slice (some ⟨W_.heap.size, 0, none⟩) 0 0, .bool false, some W_.heap.size) _ ⟨hHeld, fB, f2, f6⟩)
   ·
    skip
    rintro ⟨r_, q_, l_, m_, g_⟩ W_ ⟨hHeld, fB, f2, f6⟩
    dsimp only at hHeld fB f2 f6
    obtain ⟨P0, p0, rfl, hp0, hF0⟩ := f2
    have f2 : RowF kb W0.heap.size g_ o.reg (.slice P0 o.reg.length p0) W_ := ⟨P0, p0, rfl, hp0, hF0⟩
    clear hp0 hF0
    obtain ⟨gl, rfl, rfl, hl1, hl2⟩ := f6
    have f6 : LitF W0.heap.size (some gl) (.slice (some ⟨gl, 0, none⟩) 0 0) W_ := ⟨gl, rfl, rfl, hl1, hl2⟩
    clear hl1 hl2
    refine norm_ (a' := ?_) ?_ ?_
    rotate_left
    ·
     simp only [putAll, Act.put, List.setIfInBounds_toArray, List.set_cons_zero, List.set_cons_succ]
     rfl
    refine one_ (i := 5) (N := some 13) #[true, true, true, true, true, true, true, true, true, false, true, true, false, false, false] rfl rfl (by kernel_rfl) (by decide) (fun K_ hK => ?_)
    refine goes_ Try.func41 (by kernel_rfl) rfl #[.slice A1 o.que.length c1] (by rfl) rfl rfl (by simp only [List.map_toArray, List.map_cons, List.map_nil]; rfl) ?_
    with_reducible refine (rows41 A1 c1 o.que W_ (Kd.C_below (Kd.C_below HC.out.r1 HB.out) fB) HC.out.h1 HO.out.b1 HO.out.e1).mono ?_
    rintro e u_ ⟨P1, p1, rfl, hp1, hF1, hb_⟩
    have hsz_ := fB.size
    have f5 : RowF kq W0.heap.size (some gl) o.que (.slice P1 o.que.length p1) u_ := ⟨P1, p1, rfl, hp1, Kd.F_mono hF1 (fun k hk => by obtain ⟨g2, e2, _, h2, h3⟩ := f6; have h4 := Option.some.inj e2; subst h4; have hk2 : W_.heap.size ≤ k := hk; have hlt := (Array.getElem?_eq_some_iff.1 h3).1; exact ⟨Nat.le_trans hsz_ hk2, fun e => by cases e; omega⟩)⟩
    replace fB := below_then fB fB.size hb_
    replace f2 := f2.below hb_
    replace f6 := f6.below hb_
    clear hp1 hF1 hsz_
    refine ⟨_, rfl, ?_⟩
    refine hK.out _ _ ⟨cell_old hb_ hHeld.1, cell_old hb_ hHeld.2.1, cell_old hb_ hHeld.2.2.1, cell_old hb_ hHeld.2.2.2⟩ (fun hHeld => ?_)
    clear hK K_
    refine norm_ (a' := ?_) ?_ ?_
    rotate_left
    ·
     show Act.put _ (some 13) _ = _
     simp only [Act.put, List.setIfInBounds_toArray, List.set_cons_zero, List.set_cons_succ, i64_w, i32_w]
     rfl
    exact norm_ (by simp only [putAll, Act.put, List.setIfInBounds_toArray, List.set_cons_zero, List.set_cons_succ] <;> rfl) (hJ2_5_6 (.slice P0 o.reg.length p0, .slice P1 o.que.length p1, .slice (some ⟨gl, 0, none⟩) 0 0, .bool false, some gl) _ ⟨hHeld, fB, f2, f5, f6⟩)
  ·
   skip
   rintro ⟨r_, q_, l_, m_, g_⟩ W_ ⟨hHeld, fB, f2, f5⟩
   dsimp only at hHeld fB f2 f5
   obtain ⟨P0, p0, rfl, hp0, hF0⟩ := f2
   have f2 : RowF kb W0.heap.size none o.reg (.slice P0 o.reg.length p0) W_ := ⟨P0, p0, rfl, hp0, hF0⟩
   clear hp0 hF0
   obtain ⟨P1, p1, rfl, hp1, hF1⟩ := f5
   have f5 : RowF kq W0.heap.size none o.que (.slice P1 o.que.length p1) W_ := ⟨P1, p1, rfl, hp1, hF1⟩
   clear hp1 hF1
   refine norm_ (a' := ?_) ?_ ?_
   rotate_left
   ·
    simp only [putAll, Act.put, List.setIfInBounds_toArray, List.set_cons_zero, List.set_cons_succ]
    rfl
   refine one_ (i := 6) (N := some 14) #[true, true, true, true, true, true, true, true, true, false, true, true, false, false, false] rfl rfl (by kernel_rfl) (by decide) (fun K_ hK => ?_)
   refine value_ (w1 := ?_) (v := ?_) (by rfl) rfl ?_ ?_
   rotate_left 2
   ·
    go_simp
    constructor
    ·
     rfl
    ·
     rfl
   obtain ⟨u_, hu_⟩ : ∃ V_, V_ = (W_.alloc (.cells #[] 3)) := ⟨_, rfl⟩
   rw [← hu_]
   have hb_ : Below W_.heap.size W_ u_ := by rw [hu_]; exact below_alloc (Below.refl _ _) _
   have f6 : LitF W0.heap.size (some W_.heap.size) (.slice (some ⟨W_.heap.size, 0, none⟩) 0 0) u_ := ⟨_, rfl, rfl, fB.size, by rw [hu_]; exact heap_alloc_self W_ _⟩
   replace f2 := f2.lit
   replace f5 := f5.lit
   replace fB := below_then fB fB.size hb_
   replace f2 := f2.below hb_
   replace f5 := f5.below hb_
   refine hK.out _ _ ⟨cell_old hb_ hHeld.1, cell_old hb_ hHeld.2.1, cell_old hb_ hHeld.2.2.1, cell_old hb_ hHeld.2.2.2⟩ (fun hHeld => ?_)
   clear hK K_
   refine norm_ (a' := ?_) ?_ ?_
   rotate_left
   ·
    show Act.put _ (some 14) _ = _
    simp only [Act.put, List.setIfInBounds_toArray, List.set_cons_zero, List.set_cons_succ, i64_w, i32_w]
    rfl
   exact norm_ (by simp only [putAll, Act.put, List.setIfInBounds_toArray, List.set_cons_zero, List.set_cons_succ] <;> rfl) (hJ2_5_6 (.slice P0 o.reg.length p0, .slice P1 o.que.length p1, .slice (some ⟨W_.heap.size, 0, none⟩) 0 0, .bool false, some W_.heap.size) _ ⟨hHeld, fB, f2, f5, f6⟩)
 rintro ⟨r_, q_, l_, m_, g_⟩ W_ ⟨hHeld, fB, f2, f5, f6⟩
 dsimp only at hHeld fB f2 f5 f6
 obtain ⟨P0, p0, rfl, hp0, hF0⟩ := f2
 have f2 : RowF kb W0.heap.size g_ o.reg (.slice P0 o.reg.length p0) W_ := ⟨P0, p0, rfl, hp0, hF0⟩
 clear hp0 hF0
 obtain ⟨P1, p1, rfl, hp1, hF1⟩ := f5
 have f5 : RowF kq W0.heap.size g_ o.que (.slice P1 o.que.length p1) W_ := ⟨P1, p1, rfl, hp1, hF1⟩
 clear hp1 hF1
 obtain ⟨gl, rfl, rfl, hl1, hl2⟩ := f6
 have f6 : LitF W0.heap.size (some gl) (.slice (some ⟨gl, 0, none⟩) 0 0) W_ := ⟨gl, rfl, rfl, hl1, hl2⟩
 clear hl1 hl2
 refine norm_ (a' := ?_) ?_ ?_
 rotate_left
 ·
  simp only [putAll, Act.put, List.setIfInBounds_toArray, List.set_cons_zero, List.set_cons_succ]
  rfl
 refine one_ (i := 9) (N := some 17) #[true, true, true, true, true, true, true, true, true, true, true, true, false, false, false] rfl rfl (by kernel_rfl) (by decide) (fun K_ hK => ?_)
 obtain ⟨g2_, e2_, e3_, hl1, hl2⟩ := f6
 cases e2_
 clear e3_
 obtain ⟨P2, p2, u1, hrun, hp2, hb_, hF2⟩ := app0 W_ gl o.loc A2 c2 (Kd.C_below (Kd.C_below HC.out.r2 HB.out) fB) HC.out.h2 HO.out.b2 hl2
 rw [if_pos (by rfl)]
 refine Lib.wp_append_run _ (.tmp 14) (.tmp 16) 29 29 rfl (.slice (some ⟨gl, 0, none⟩) 0 0) (.slice A2 o.loc.length c2) (by rfl) (by rfl) (.slice P2 o.loc.length p2) u1 (hrun _) ?_
 obtain ⟨_, _, e1_, hq0, hG0⟩ := f2
 cases e1_
 obtain ⟨_, _, e1_, hq1, hG1⟩ := f5
 cases e1_
 have hsz_ := fB.size
 replace hF2 := Kd.F_mono hF2 (ok' := fun k => W0.heap.size ≤ k) (fun k hk => Nat.le_trans hsz_ hk)
 replace hG0 := Kd.F_below (Kd.F_mono hG0 (ok' := fun k => W0.heap.size ≤ k) (fun k hk => hk.1)) hb_
 replace hG1 := Kd.F_below (Kd.F_mono hG1 (ok' := fun k => W0.heap.size ≤ k) (fun k hk => hk.1)) hb_
 replace fB := below_then fB fB.size hb_
 clear hrun hl1 hl2 hsz_
 refine hK.out _ _ ⟨cell_old hb_ hHeld.1, cell_old hb_ hHeld.2.1, cell_old hb_ hHeld.2.2.1, cell_old hb_ hHeld.2.2.2⟩ (fun hHeld => ?_)
 clear hK K_
 refine norm_ (a' := ?_) ?_ ?_
 rotate_left
 ·
  show Act.put _ (some 17) _ = _
  simp only [Act.put, List.setIfInBounds_toArray, List.set_cons_zero, List.set_cons_succ, i64_w, i32_w]
  rfl
 refine one_ (i := 12) (N := some 20) #[true, true, true, true, true, true, true, true, true, true, true, true, true, false, false] rfl rfl (by kernel_rfl) (by decide) (fun K_ hK => ?_)
 refine goes_ Try.func42 (by kernel_rfl) rfl #[.slice A3 o.map.length c3] (by rfl) rfl rfl (by simp only [List.map_toArray, List.map_cons, List.map_nil]; rfl) ?_
 with_reducible refine (pairs42 A3 c3 o.map u1 (Kd.C_below (Kd.C_below HC.out.r3 HB.out) fB) HC.out.h3 HO.out.b3 HO.out.e3).mono ?_
 rintro e u2 ⟨P3, p3, rfl, hp3, hF3, hb2_⟩
 have hsz_ := fB.size
 replace hF3 := Kd.F_mono hF3 (ok' := fun k => W0.heap.size ≤ k) (fun k hk => Nat.le_trans hsz_ hk)
 replace hG0 := Kd.F_below hG0 hb2_
 replace hG1 := Kd.F_below hG1 hb2_
 replace hF2 := Kd.F_below hF2 hb2_
 replace fB := below_then fB fB.size hb2_
 clear hsz_
 refine ⟨_, rfl, ?_⟩
 refine hK.out _ _ ⟨cell_old hb2_ hHeld.1, cell_old hb2_ hHeld.2.1, cell_old hb2_ hHeld.2.2.1, cell_old hb2_ hHeld.2.2.2⟩ (fun hHeld => ?_)
 clear hK K_
 refine norm_ (a' := ?_) ?_ ?_
 rotate_left
 ·
  show Act.put _ (some 20) _ = _
  simp only [Act.put, List.setIfInBounds_toArray, List.set_cons_zero, List.set_cons_succ, i64_w, i32_w]
  rfl
 refine pure_ (i := 13) (N := some 21) (v := ?_) (a' := ?_) #[true, true, true, true, true, true, true, true, true, true, true, true, true, true, false] rfl rfl (by kernel_rfl) (fun _ _ _ h => h) (Or.inl ⟨by rfl, ?_⟩) ?_ ?_
 rotate_left
 ·
  intro w'
  go_simp
  with_reducible rfl
 rotate_left
 ·
  simp only [Act.put, List.setIfInBounds_toArray, List.set_cons_zero, List.set_cons_succ, i64_w, i32_w]
  rfl
 refine last_ (i := 14) (N := none) #[true, true, true, true, true, true, true, true, true, true, true, true, true, true, true] rfl rfl (by kernel_rfl) (by decide) (fun K_ hK => ?_)
 have k0_ := blk_keep K0.out fB
 obtain ⟨z0, z1, z2, z3, z4⟩ := cells4 k0_
 have z40 := z4 0
 have z41 := z4 1
 have z42 := z4 2
 have z43 := z4 3
 clear z4 k0_
 refine skip_ (w1 := ?_) (by rfl) rfl ?_ ?_
 rotate_left
 ·
  go_simp
  rfl
 refine hK.out _ _ ?_
 clear hK K_
 refine done_ (by kernel_rfl) ?_
 clear z0 z1 z2 z3 z40 z41 z42 z43 hHeld
 obtain ⟨b1, hb1⟩ : ∃ b_, b_ = W0.heap.size := ⟨_, rfl⟩
 obtain ⟨m1, hm1⟩ : ∃ b_, b_ = u2.heap.size := ⟨_, rfl⟩
 have L0 := Aside0.mk hq0
 have F0 := Aside0.mk (Kd.F_mono (Kd.F_bound hG0) (ok' := fun k => b1 ≤ k ∧ k < m1) (mq hb1 hm1))
 have L1 := Aside0.mk hq1
 have F1 := Aside0.mk (Kd.F_mono (Kd.F_bound hG1) (ok' := fun k => b1 ≤ k ∧ k < m1) (mq hb1 hm1))
 have L2 := Aside0.mk hp2
 have F2 := Aside0.mk (Kd.F_mono (Kd.F_bound hF2) (ok' := fun k => b1 ≤ k ∧ k < m1) (mq hb1 hm1))
 have L3 := Aside0.mk hp3
 have F3 := Aside0.mk (Kd.F_mono (Kd.F_bound hF3) (ok' := fun k => b1 ≤ k ∧ k < m1) (mq hb1 hm1))
 have Z1 := Aside0.mk (show w.heap.size + 4 ≤ b1 ∧ b1 ≤ m1 from ⟨by rw [hb1]; exact SW0.out, by rw [hb1, hm1]; exact fB.size⟩)
 clear hG0 hG1 hF2 hF3 hq0 hq1 hp2 hp3 hb1 SW0
 replace HB := HBs HB fB
 replace K0 := KB K0 fB
 replace K1 := KB K1 fB
 replace K2 := KB K2 fB
 replace K3 := KB K3 fB
 clear fB
 generalize hV2 : World.setCell (World.setCell (World.setCell (World.setCell u2 _ _) _ _) _ _) _ _ = V2
 have hge_ : w.heap.size ≤ w.heap.size := by have z_ := Z1.out; omega
 have hst_ := st4 HB.out hge_ K0.out hV2
 replace HB := Aside0.mk hst_.1
 replace K0 := Aside0.mk hst_.2.1
 have z_ := Z1.out
 replace K1 := KS K1 hst_ (by omega)
 replace K2 := KS K2 hst_ (by omega)
 replace K3 := KS K3 hst_ (by omega)
 have e0_ : ∀ k_, (b1 ≤ k_ ∧ k_ < m1) → k_ ≠ w.heap.size := fun k_ h_ => by omega
 replace F0 := FS F0 hst_ e0_
 replace F1 := FS F1 hst_ e0_
 replace F2 := FS F2 hst_ e0_
 replace F3 := FS F3 hst_ e0_
 clear e0_
 have SV2 := Aside0.mk hst_.2.2.2
 clear hV2 hst_ hge_ z_
 by_cases h1 : kd = 1
 ·
  subst h1
  have HA : Aside0 (applyR o 1 a ke va ol = (o, ⟨0, o.reg, 0⟩)) := Aside0.mk rfl
  rcases (dec3 a) with d1 | ⟨d1, d2⟩ | ⟨d1, d2⟩
  all_goals (
   go_wp2_with fail
   refine (hocketref4_bad.calls 7 7 [] 0 V2 rfl).mono ?_
   rintro e V3 ⟨vb, rfl, hR, hb_⟩
   obtain ⟨Rv, rv, rfl⟩ := Kd.R_slice hR
   have S3 := Aside0.mk hb_.size
   have FR := Aside0.mk (Kd.F_mono (Kd.F_bound (F_of_R hR)) (ok' := fun k => m1 ≤ k ∧ k < V3.heap.size) (fun k hk => ⟨by rw [hm1, ← SV2.out]; exact hk.1, hk.2⟩))
   have LR := Aside0.mk (Kd.R_reads' hR).2.1
   clear hR
   replace HB := HBs HB hb_
   replace K0 := KB K0 hb_
   replace K1 := KB K1 hb_
   replace K2 := KB K2 hb_
   replace K3 := KB K3 hb_
   replace F0 := FB F0 hb_
   replace F1 := FB F1 hb_
   replace F2 := FB F2 hb_
   replace F3 := FB F3 hb_
   clear hb_
   obtain ⟨m3, hm3⟩ : ∃ b_, b_ = V3.heap.size := ⟨_, rfl⟩
   rw [← hm3] at FR
   go_wp2_with (
    (with_reducible refine gate_dst (N := 6) rfl ?_)
    refine box_event ?hg (N := 6) ?hd (cs := #[.int .i64 0, .slice none 0 0, .int .i64 0]) (t := 34) ?hr ?_
    (case hd => rfl)
    (case hg => rfl)
    (case hr => go_simp <;> rfl)
    intro g6 hg Va hbox hb_
    have K6 := Aside0.mk hbox
    have hlt_ := (Array.getElem?_eq_some_iff.1 hbox).1
    have ZZ := Aside0.mk (show w.heap.size + 4 ≤ b1 ∧ b1 ≤ m1 ∧ m1 ≤ m3 ∧ m3 ≤ g6 ∧ g6 < Va.heap.size from ⟨Z1.out.1, Z1.out.2, by rw [hm1, hm3, ← SV2.out]; exact S3.out, by rw [hg, hm3]; exact Nat.le_refl _, hlt_⟩)
    have n0 : ¬ g6 = w.heap.size := by have z_ := ZZ.out; omega
    have n0' : ¬ w.heap.size = g6 := by have z_ := ZZ.out; omega
    have n1 : ¬ g6 = w.heap.size + 1 := by have z_ := ZZ.out; omega
    have n1' : ¬ w.heap.size + 1 = g6 := by have z_ := ZZ.out; omega
    clear hg hm1 hm3 Z1 SV2 hbox hlt_
    replace HB := HBs HB hb_
    replace K0 := KB K0 hb_
    replace K1 := KB K1 hb_
    replace K2 := KB K2 hb_
    replace K3 := KB K3 hb_
    replace F0 := FB F0 hb_
    replace F1 := FB F1 hb_
    replace F2 := FB F2 hb_
    replace F3 := FB F3 hb_
    replace FR := FB FR hb_
    clear hb_
    obtain ⟨x0, x1, x2, x3, x40, x41, x42, x43⟩ := cel4 K0.out
    obtain ⟨y0, y1, y2, y3, y4, y50, y51, y52, y53, y54⟩ := cel5 K1.out
    obtain ⟨v0, v1, v2, v30, v31, v32⟩ := cel3 K6.out)
   clear x0 x1 x2 x3 x40 x41 x42 x43
   clear y0 y1 y2 y3 y4 y50 y51 y52 y53 y54
   clear v0 v1 v2 v30 v31 v32
   clear n0 n0' n1 n1'
   generalize hV4 : World.setCell (World.setCell (World.setCell Va _ _) _ _) _ _ = V4
   have hge_ : w.heap.size ≤ g6 := by have z_ := ZZ.out; omega
   have hst_ := st3 HB.out hge_ K6.out hV4
   replace HB := Aside0.mk hst_.1
   replace K6 := Aside0.mk hst_.2.1
   have z_ := ZZ.out
   replace K0 := KS K0 hst_ (by omega)
   replace K1 := KS K1 hst_ (by omega)
   replace K2 := KS K2 hst_ (by omega)
   replace K3 := KS K3 hst_ (by omega)
   have e0_ : ∀ k_, (b1 ≤ k_ ∧ k_ < m1) → k_ ≠ g6 := fun k_ h_ => by omega
   replace F0 := FS F0 hst_ e0_
   replace F1 := FS F1 hst_ e0_
   replace F2 := FS F2 hst_ e0_
   replace F3 := FS F3 hst_ e0_
   have e1_ : ∀ k_, (m1 ≤ k_ ∧ k_ < m3) → k_ ≠ g6 := fun k_ h_ => by omega
   replace FR := FS FR hst_ e1_
   clear e0_ e1_
   have SV4 := Aside0.mk hst_.2.2.2
   clear hV4 hst_ hge_ z_
   refine (read44 P0 p0 o.reg V4 (Kd.F_now F0.out) L0.out HO.out.b0).mono ?_
   rintro e w4 ⟨Av, cv, rfl, hcv, hFv, hb_⟩
   have LV := Aside0.mk hcv
   have FV := Aside0.mk (Kd.F_mono hFv (ok' := fun k_ => g6 < k_) (fun k hk => by have z_ := ZZ.out; have h1 := SV4.out; have h2 : V4.heap.size ≤ k := hk; show g6 < k; omega))
   clear hFv hcv
   replace HB := HBs HB hb_
   replace K0 := KB K0 hb_
   replace K1 := KB K1 hb_
   replace K2 := KB K2 hb_
   replace K3 := KB K3 hb_
   replace K6 := KB K6 hb_
   replace F0 := FB F0 hb_
   replace F1 := FB F1 hb_
   replace F2 := FB F2 hb_
   replace F3 := FB F3 hb_
   replace FR := FB FR hb_
   clear hb_
   clear FR LR
   have n6 : ¬ g6 = w.heap.size := by have z_ := ZZ.out; omega
   have n6' : ¬ w.heap.size = g6 := by have z_ := ZZ.out; omega
   obtain ⟨x0, x1, x2, x3, x40, x41, x42, x43⟩ := cel4 K0.out
   obtain ⟨v0, v1, v2, v30, v31, v32⟩ := cel3 K6.out
   go_wp2_with fail
   clear x0 x1 x2 x3 x40 x41 x42 x43
   clear v0 v1 v2 v30 v31 v32
   clear n6 n6'
   generalize hV6 : World.setCell (World.setCell (World.setCell w4 _ _) _ _) _ _ = V6
   have hge_ : w.heap.size ≤ g6 := by have z_ := ZZ.out; omega
   have hst_ := st3 HB.out hge_ K6.out hV6
   replace HB := Aside0.mk hst_.1
   replace K6 := Aside0.mk hst_.2.1
   have z_ := ZZ.out
   replace K0 := KS K0 hst_ (by omega)
   replace K1 := KS K1 hst_ (by omega)
   replace K2 := KS K2 hst_ (by omega)
   replace K3 := KS K3 hst_ (by omega)
   have e0_ : ∀ k_, (b1 ≤ k_ ∧ k_ < m1) → k_ ≠ g6 := fun k_ h_ => by omega
   replace F0 := FS F0 hst_ e0_
   replace F1 := FS F1 hst_ e0_
   replace F2 := FS F2 hst_ e0_
   replace F3 := FS F3 hst_ e0_
   have e1_ : ∀ k_, (g6 < k_) → k_ ≠ g6 := fun k_ h_ => by omega
   replace FV := FS FV hst_ e1_
   clear e0_ e1_
   have SV6 := Aside0.mk hst_.2.2.2
   clear hV6 hst_ hge_ z_
   obtain ⟨x0, x1, x2, x3, x40, x41, x42, x43⟩ := cel4 K0.out
   obtain ⟨v0, v1, v2, v30, v31, v32⟩ := cel3 K6.out
   obtain ⟨s0, s1, s2, s3, s40, s41, s42, s43⟩ := cel4 K2.out
   obtain ⟨t0, t1, t2, t30, t31, t32⟩ := cel3 K3.out
   have n0 : ¬ g6 = w.heap.size + 1 + 1 := by have z_ := ZZ.out; omega
   have n0' : ¬ w.heap.size + 1 + 1 = g6 := by have z_ := ZZ.out; omega
   have n1 : ¬ g6 = w.heap.size + 1 + 1 + 1 := by have z_ := ZZ.out; omega
   have n1' : ¬ w.heap.size + 1 + 1 + 1 = g6 := by have z_ := ZZ.out; omega
   go_wp2_with fail
   go_region
   clear n0 n0' n1 n1'
   clear x0 x1 x2 x3 x40 x41 x42 x43
   clear v0 v1 v2 v30 v31 v32
   clear s0 s1 s2 s3 s40 s41 s42 s43
   clear t0 t1 t2 t30 t31 t32
   generalize hV7 : World.setCell (World.setCell (World.setCell (World.setCell V6 _ _) _ _) _ _) _ _ = V7
   have hge_ : w.heap.size ≤ w.heap.size + 1 + 1 := by have z_ := ZZ.out; omega
   have hst_ := st4 HB.out hge_ K2.out hV7
   replace HB := Aside0.mk hst_.1
   replace K2 := Aside0.mk hst_.2.1
   have z_ := ZZ.out
   replace K0 := KS K0 hst_ (by omega)
   replace K1 := KS K1 hst_ (by omega)
   replace K3 := KS K3 hst_ (by omega)
   replace K6 := KS K6 hst_ (by omega)
   have e0_ : ∀ k_, (b1 ≤ k_ ∧ k_ < m1) → k_ ≠ w.heap.size + 1 + 1 := fun k_ h_ => by omega
   replace F0 := FS F0 hst_ e0_
   replace F1 := FS F1 hst_ e0_
   replace F2 := FS F2 hst_ e0_
   replace F3 := FS F3 hst_ e0_
   have e1_ : ∀ k_, (g6 < k_) → k_ ≠ w.heap.size + 1 + 1 := fun k_ h_ => by omega
   replace FV := FS FV hst_ e1_
   clear e0_ e1_
   have SV7 := Aside0.mk hst_.2.2.2
   clear hV7 hst_ hge_ z_
   generalize hV8 : World.setCell (World.setCell (World.setCell V7 _ _) _ _) _ _ = V8
   have hge_ : w.heap.size ≤ w.heap.size + 1 + 1 + 1 := by have z_ := ZZ.out; omega
   have hst_ := st3 HB.out hge_ K3.out hV8
   replace HB := Aside0.mk hst_.1
   replace K3 := Aside0.mk hst_.2.1
   have z_ := ZZ.out
   replace K0 := KS K0 hst_ (by omega)
   replace K1 := KS K1 hst_ (by omega)
   replace K2 := KS K2 hst_ (by omega)
   replace K6 := KS K6 hst_ (by omega)
   have e0_ : ∀ k_, (b1 ≤ k_ ∧ k_ < m1) → k_ ≠ w.heap.size + 1 + 1 + 1 := fun k_ h_ => by omega
   replace F0 := FS F0 hst_ e0_
   replace F1 := FS F1 hst_ e0_
   replace F2 := FS F2 hst_ e0_
   replace F3 := FS F3 hst_ e0_
   have e1_ : ∀ k_, (g6 < k_) → k_ ≠ w.heap.size + 1 + 1 + 1 := fun k_ h_ => by omega
   replace FV := FS FV hst_ e1_
   clear e0_ e1_
   have SV8 := Aside0.mk hst_.2.2.2
   clear hV8 hst_ hge_ z_
   have bd_ := below_drew1 (Below.refl V8.heap.size V8)
   replace HB := HBs HB bd_
   replace K0 := KB K0 bd_
   replace K1 := KB K1 bd_
   replace K2 := KB K2 bd_
   replace K3 := KB K3 bd_
   replace K6 := KB K6 bd_
   replace F0 := FB F0 bd_
   replace F1 := FB F1 bd_
   replace F2 := FB F2 bd_
   replace F3 := FB F3 bd_
   replace FV := FB FV bd_
   clear bd_
   go_wp2
   refine bodyPost_ret (results_cc rfl _ _ (w.heap.size + 1 + 1) (w.heap.size + 1 + 1 + 1) 32 34 #[.slice P0 o.reg.length p0, .slice P1 o.que.length p1, .slice P2 o.loc.length p2, .slice P3 o.map.length p3] #[.int .i64 0, .slice Av o.reg.length cv, .int .i64 0] (0, 0) (0, 0) _ _ rfl K2.out Try.underlying32 rfl (by kernel_rfl) rfl K3.out Try.underlying34 rfl (by kernel_rfl)) rfl ?_
   rw [HA.out]
   exact ⟨P0, p0, P1, p1, P2, p2, P3, p3, Av, cv, rfl, ⟨L0.out, Kd.F_mono F0.out (fun _ h => zq ZZ.out.1 h), L1.out, Kd.F_mono F1.out (fun _ h => zq ZZ.out.1 h), L2.out, Kd.F_mono F2.out (fun _ h => zq ZZ.out.1 h), L3.out, Kd.F_mono F3.out (fun _ h => zq ZZ.out.1 h)⟩, LV.out, Kd.F_mono FV.out (fun k_ hk => by have z_ := ZZ.out; have h2 : g6 < k_ := hk; show w.heap.size ≤ k_; omega), HB.out⟩)
 by_cases h2 : kd = 2
 ·
  subst h2
  have HA : Aside0 (applyR o 2 a ke va ol = ({ o with reg := (writeR o.reg va).1 }, (writeR o.reg va).2)) := Aside0.mk rfl
  rcases (dec3 a) with d1 | ⟨d1, d2⟩ | ⟨d1, d2⟩
  all_goals (
   go_wp2_with fail
   refine (hocketref4_bad.calls 7 7 [] 0 V2 rfl).mono ?_
   rintro e V3 ⟨vb, rfl, hR, hb_⟩
   obtain ⟨Rv, rv, rfl⟩ := Kd.R_slice hR
   have S3 := Aside0.mk hb_.size
   have FR := Aside0.mk (Kd.F_mono (Kd.F_bound (F_of_R hR)) (ok' := fun k => m1 ≤ k ∧ k < V3.heap.size) (fun k hk => ⟨by rw [hm1, ← SV2.out]; exact hk.1, hk.2⟩))
   have LR := Aside0.mk (Kd.R_reads' hR).2.1
   clear hR
   replace HB := HBs HB hb_
   replace K0 := KB K0 hb_
   replace K1 := KB K1 hb_
   replace K2 := KB K2 hb_
   replace K3 := KB K3 hb_
   replace F0 := FB F0 hb_
   replace F1 := FB F1 hb_
   replace F2 := FB F2 hb_
   replace F3 := FB F3 hb_
   clear hb_
   obtain ⟨m3, hm3⟩ : ∃ b_, b_ = V3.heap.size := ⟨_, rfl⟩
   rw [← hm3] at FR
   go_wp2_with (
    (with_reducible refine gate_dst (N := 6) rfl ?_)
    refine box_event ?hg (N := 6) ?hd (cs := #[.int .i64 0, .slice none 0 0, .int .i64 0]) (t := 34) ?hr ?_
    (case hd => rfl)
    (case hg => rfl)
    (case hr => go_simp <;> rfl)
    intro g6 hg Va hbox hb_
    have K6 := Aside0.mk hbox
    have hlt_ := (Array.getElem?_eq_some_iff.1 hbox).1
    have ZZ := Aside0.mk (show w.heap.size + 4 ≤ b1 ∧ b1 ≤ m1 ∧ m1 ≤ m3 ∧ m3 ≤ g6 ∧ g6 < Va.heap.size from ⟨Z1.out.1, Z1.out.2, by rw [hm1, hm3, ← SV2.out]; exact S3.out, by rw [hg, hm3]; exact Nat.le_refl _, hlt_⟩)
    have n0 : ¬ g6 = w.heap.size := by have z_ := ZZ.out; omega
    have n0' : ¬ w.heap.size = g6 := by have z_ := ZZ.out; omega
    have n1 : ¬ g6 = w.heap.size + 1 := by have z_ := ZZ.out; omega
    have n1' : ¬ w.heap.size + 1 = g6 := by have z_ := ZZ.out; omega
    clear hg hm1 hm3 Z1 SV2 hbox hlt_
    replace HB := HBs HB hb_
    replace K0 := KB K0 hb_
    replace K1 := KB K1 hb_
    replace K2 := KB K2 hb_
    replace K3 := KB K3 hb_
    replace F0 := FB F0 hb_
    replace F1 := FB F1 hb_
    replace F2 := FB F2 hb_
    replace F3 := FB F3 hb_
    replace FR := FB FR hb_
    clear hb_
    obtain ⟨x0, x1, x2, x3, x40, x41, x42, x43⟩ := cel4 K0.out
    obtain ⟨y0, y1, y2, y3, y4, y50, y51, y52, y53, y54⟩ := cel5 K1.out
    obtain ⟨v0, v1, v2, v30, v31, v32⟩ := cel3 K6.out)
   clear x0 x1 x2 x3 x40 x41 x42 x43
   clear y0 y1 y2 y3 y4 y50 y51 y52 y53 y54
   clear v0 v1 v2 v30 v31 v32
   clear n0 n0' n1 n1'
   generalize hV4 : World.setCell (World.setCell (World.setCell Va _ _) _ _) _ _ = V4
   have hge_ : w.heap.size ≤ g6 := by have z_ := ZZ.out; omega
   have hst_ := st3 HB.out hge_ K6.out hV4
   replace HB := Aside0.mk hst_.1
   replace K6 := Aside0.mk hst_.2.1
   have z_ := ZZ.out
   replace K0 := KS K0 hst_ (by omega)
   replace K1 := KS K1 hst_ (by omega)
   replace K2 := KS K2 hst_ (by omega)
   replace K3 := KS K3 hst_ (by omega)
   have e0_ : ∀ k_, (b1 ≤ k_ ∧ k_ < m1) → k_ ≠ g6 := fun k_ h_ => by omega
   replace F0 := FS F0 hst_ e0_
   replace F1 := FS F1 hst_ e0_
   replace F2 := FS F2 hst_ e0_
   replace F3 := FS F3 hst_ e0_
   have e1_ : ∀ k_, (m1 ≤ k_ ∧ k_ < m3) → k_ ≠ g6 := fun k_ h_ => by omega
   replace FR := FS FR hst_ e1_
   clear e0_ e1_
   have SV4 := Aside0.mk hst_.2.2.2
   clear hV4 hst_ hge_ z_
   refine (write45 P0 p0 o.reg E3 e3 va V4 (Kd.F_now F0.out) L0.out HO.out.b0 (Kd.C_below HX.out.r3 HB.out) HX.out.h3 HX.out.b3).mono ?_
   rintro e w4 ⟨A9, c9, Av, cv, rfl, hc9, hF9, hcv, hFv, hb_⟩
   have L9 := Aside0.mk hc9
   have F9 := Aside0.mk (Kd.F_mono hF9 (ok' := fun k_ => g6 < k_) (fun k hk => by have z_ := ZZ.out; have h1 := SV4.out; have h2 : V4.heap.size ≤ k := hk; show g6 < k; omega))
   clear hF9 hc9
   have LV := Aside0.mk hcv
   have FV := Aside0.mk (Kd.F_mono hFv (ok' := fun k_ => g6 < k_) (fun k hk => by have z_ := ZZ.out; have h1 := SV4.out; have h2 : V4.heap.size ≤ k := hk; show g6 < k; omega))
   clear hFv hcv
   replace HB := HBs HB hb_
   replace K0 := KB K0 hb_
   replace K1 := KB K1 hb_
   replace K2 := KB K2 hb_
   replace K3 := KB K3 hb_
   replace K6 := KB K6 hb_
   replace F0 := FB F0 hb_
   replace F1 := FB F1 hb_
   replace F2 := FB F2 hb_
   replace F3 := FB F3 hb_
   replace FR := FB FR hb_
   clear hb_
   clear FR LR
   have n6 : ¬ g6 = w.heap.size := by have z_ := ZZ.out; omega
   have n6' : ¬ w.heap.size = g6 := by have z_ := ZZ.out; omega
   obtain ⟨x0, x1, x2, x3, x40, x41, x42, x43⟩ := cel4 K0.out
   obtain ⟨v0, v1, v2, v30, v31, v32⟩ := cel3 K6.out
   go_wp2_with fail
   clear x0 x1 x2 x3 x40 x41 x42 x43
   clear v0 v1 v2 v30 v31 v32
   clear n6 n6'
   obtain ⟨V5, hV5⟩ : ∃ V_, V_ = (w4.setCell ⟨w.heap.size, 0, none⟩ (.slice A9 (writeR o.reg va).1.length c9)) := ⟨_, rfl⟩
   rw [← hV5]
   have hge_ : w.heap.size ≤ w.heap.size := by have z_ := ZZ.out; omega
   have hst_ : St w.heap.size w (w.heap.size) 32 #[.slice A9 (writeR o.reg va).1.length c9, .slice P1 o.que.length p1, .slice P2 o.loc.length p2, .slice P3 o.map.length p3] w4 V5 := by rw [hV5]; exact (St.first HB.out hge_ K0.out 0 _ rfl)
   replace HB := Aside0.mk hst_.1
   replace K0 := Aside0.mk hst_.2.1
   have z_ := ZZ.out
   replace K1 := KS K1 hst_ (by omega)
   replace K2 := KS K2 hst_ (by omega)
   replace K3 := KS K3 hst_ (by omega)
   replace K6 := KS K6 hst_ (by omega)
   have e0_ : ∀ k_, (b1 ≤ k_ ∧ k_ < m1) → k_ ≠ w.heap.size := fun k_ h_ => by omega
   replace F0 := FS F0 hst_ e0_
   replace F1 := FS F1 hst_ e0_
   replace F2 := FS F2 hst_ e0_
   replace F3 := FS F3 hst_ e0_
   have e1_ : ∀ k_, (g6 < k_) → k_ ≠ w.heap.size := fun k_ h_ => by omega
   replace FV := FS FV hst_ e1_
   replace F9 := FS F9 hst_ e1_
   clear e0_ e1_
   have SV5 := Aside0.mk hst_.2.2.2
   clear hV5 hst_ hge_ z_
   generalize hV6 : World.setCell (World.setCell (World.setCell V5 _ _) _ _) _ _ = V6
   have hge_ : w.heap.size ≤ g6 := by have z_ := ZZ.out; omega
   have hst_ := st3 HB.out hge_ K6.out hV6
   replace HB := Aside0.mk hst_.1
   replace K6 := Aside0.mk hst_.2.1
   have z_ := ZZ.out
   replace K0 := KS K0 hst_ (by omega)
   replace K1 := KS K1 hst_ (by omega)
   replace K2 := KS K2 hst_ (by omega)
   replace K3 := KS K3 hst_ (by omega)
   have e0_ : ∀ k_, (b1 ≤ k_ ∧ k_ < m1) → k_ ≠ g6 := fun k_ h_ => by omega
   replace F0 := FS F0 hst_ e0_
   replace F1 := FS F1 hst_ e0_
   replace F2 := FS F2 hst_ e0_
   replace F3 := FS F3 hst_ e0_
   have e1_ : ∀ k_, (g6 < k_) → k_ ≠ g6 := fun k_ h_ => by omega
   replace FV := FS FV hst_ e1_
   replace F9 := FS F9 hst_ e1_
   clear e0_ e1_
   have SV6 := Aside0.mk hst_.2.2.2
   clear hV6 hst_ hge_ z_
   obtain ⟨x0, x1, x2, x3, x40, x41, x42, x43⟩ := cel4 K0.out
   obtain ⟨v0, v1, v2, v30, v31, v32⟩ := cel3 K6.out
   obtain ⟨s0, s1, s2, s3, s40, s41, s42, s43⟩ := cel4 K2.out
   obtain ⟨t0, t1, t2, t30, t31, t32⟩ := cel3 K3.out
   have n0 : ¬ g6 = w.heap.size + 1 + 1 := by have z_ := ZZ.out; omega
   have n0' : ¬ w.heap.size + 1 + 1 = g6 := by have z_ := ZZ.out; omega
   have n1 : ¬ g6 = w.heap.size + 1 + 1 + 1 := by have z_ := ZZ.out; omega
   have n1' : ¬ w.heap.size + 1 + 1 + 1 = g6 := by have z_ := ZZ.out; omega
   go_wp2_with fail
   go_region
   clear n0 n0' n1 n1'
   clear x0 x1 x2 x3 x40 x41 x42 x43
   clear v0 v1 v2 v30 v31 v32
   clear s0 s1 s2 s3 s40 s41 s42 s43
   clear t0 t1 t2 t30 t31 t32
   generalize hV7 : World.setCell (World.setCell (World.setCell (World.setCell V6 _ _) _ _) _ _) _ _ = V7
   have hge_ : w.heap.size ≤ w.heap.size + 1 + 1 := by have z_ := ZZ.out; omega
   have hst_ := st4 HB.out hge_ K2.out hV7
   replace HB := Aside0.mk hst_.1
   replace K2 := Aside0.mk hst_.2.1
   have z_ := ZZ.out
   replace K0 := KS K0 hst_ (by omega)
   replace K1 := KS K1 hst_ (by omega)
   replace K3 := KS K3 hst_ (by omega)
   replace K6 := KS K6 hst_ (by omega)
   have e0_ : ∀ k_, (b1 ≤ k_ ∧ k_ < m1) → k_ ≠ w.heap.size + 1 + 1 := fun k_ h_ => by omega
   replace F0 := FS F0 hst_ e0_
   replace F1 := FS F1 hst_ e0_
   replace F2 := FS F2 hst_ e0_
   replace F3 := FS F3 hst_ e0_
   have e1_ : ∀ k_, (g6 < k_) → k_ ≠ w.heap.size + 1 + 1 := fun k_ h_ => by omega
   replace FV := FS FV hst_ e1_
   replace F9 := FS F9 hst_ e1_
   clear e0_ e1_
   have SV7 := Aside0.mk hst_.2.2.2
   clear hV7 hst_ hge_ z_
   generalize hV8 : World.setCell (World.setCell (World.setCell V7 _ _) _ _) _ _ = V8
   have hge_ : w.heap.size ≤ w.heap.size + 1 + 1 + 1 := by have z_ := ZZ.out; omega
   have hst_ := st3 HB.out hge_ K3.out hV8
   replace HB := Aside0.mk hst_.1
   replace K3 := Aside0.mk hst_.2.1
   have z_ := ZZ.out
   replace K0 := KS K0 hst_ (by omega)
   replace K1 := KS K1 hst_ (by omega)
   replace K2 := KS K2 hst_ (by omega)
   replace K6 := KS K6 hst_ (by omega)
   have e0_ : ∀ k_, (b1 ≤ k_ ∧ k_ < m1) → k_ ≠ w.heap.size + 1 + 1 + 1 := fun k_ h_ => by omega
   replace F0 := FS F0 hst_ e0_
   replace F1 := FS F1 hst_ e0_
   replace F2 := FS F2 hst_ e0_
   replace F3 := FS F3 hst_ e0_
   have e1_ : ∀ k_, (g6 < k_) → k_ ≠ w.heap.size + 1 + 1 + 1 := fun k_ h_ => by omega
   replace FV := FS FV hst_ e1_
   replace F9 := FS F9 hst_ e1_
   clear e0_ e1_
   have SV8 := Aside0.mk hst_.2.2.2
   clear hV8 hst_ hge_ z_
   have bd_ := below_drew1 (Below.refl V8.heap.size V8)
   replace HB := HBs HB bd_
   replace K0 := KB K0 bd_
   replace K1 := KB K1 bd_
   replace K2 := KB K2 bd_
   replace K3 := KB K3 bd_
   replace K6 := KB K6 bd_
   replace F0 := FB F0 bd_
   replace F1 := FB F1 bd_
   replace F2 := FB F2 bd_
   replace F3 := FB F3 bd_
   replace FV := FB FV bd_
   replace F9 := FB F9 bd_
   clear bd_
   go_wp2
   refine bodyPost_ret (results_cc rfl _ _ (w.heap.size + 1 + 1) (w.heap.size + 1 + 1 + 1) 32 34 #[.slice A9 (writeR o.reg va).1.length c9, .slice P1 o.que.length p1, .slice P2 o.loc.length p2, .slice P3 o.map.length p3] #[.int .i64 (writeR o.reg va).2.f0, .slice Av (writeR o.reg va).2.f1.length cv, .int .i64 (writeR o.reg va).2.f2] (0, 0) (0, 0) _ _ rfl K2.out Try.underlying32 rfl (by kernel_rfl) rfl K3.out Try.underlying34 rfl (by kernel_rfl)) rfl ?_
   rw [HA.out]
   exact ⟨A9, c9, P1, p1, P2, p2, P3, p3, Av, cv, rfl, ⟨L9.out, Kd.F_mono F9.out (fun k_ hk => by have z_ := ZZ.out; have h2 : g6 < k_ := hk; show w.heap.size ≤ k_; omega), L1.out, Kd.F_mono F1.out (fun _ h => zq ZZ.out.1 h), L2.out, Kd.F_mono F2.out (fun _ h => zq ZZ.out.1 h), L3.out, Kd.F_mono F3.out (fun _ h => zq ZZ.out.1 h)⟩, LV.out, Kd.F_mono FV.out (fun k_ hk => by have z_ := ZZ.out; have h2 : g6 < k_ := hk; show w.heap.size ≤ k_; omega), HB.out⟩)
 by_cases h3 : kd = 3
 ·
  subst h3
  have HA : Aside0 (applyR o 3 a ke va ol = ({ o with reg := (casR o.reg ol va).1 }, (casR o.reg ol va).2)) := Aside0.mk rfl
  rcases (dec3 a) with d1 | ⟨d1, d2⟩ | ⟨d1, d2⟩
  all_goals (
   go_wp2_with fail
   refine (hocketref4_bad.calls 7 7 [] 0 V2 rfl).mono ?_
   rintro e V3 ⟨vb, rfl, hR, hb_⟩
   obtain ⟨Rv, rv, rfl⟩ := Kd.R_slice hR
   have S3 := Aside0.mk hb_.size
   have FR := Aside0.mk (Kd.F_mono (Kd.F_bound (F_of_R hR)) (ok' := fun k => m1 ≤ k ∧ k < V3.heap.size) (fun k hk => ⟨by rw [hm1, ← SV2.out]; exact hk.1, hk.2⟩))
   have LR := Aside0.mk (Kd.R_reads' hR).2.1
   clear hR
   replace HB := HBs HB hb_
   replace K0 := KB K0 hb_
   replace K1 := KB K1 hb_
   replace K2 := KB K2 hb_
   replace K3 := KB K3 hb_
   replace F0 := FB F0 hb_
   replace F1 := FB F1 hb_
   replace F2 := FB F2 hb_
   replace F3 := FB F3 hb_
   clear hb_
   obtain ⟨m3, hm3⟩ : ∃ b_, b_ = V3.heap.size := ⟨_, rfl⟩
   rw [← hm3] at FR
   go_wp2_with (
    (with_reducible refine gate_dst (N := 6) rfl ?_)
    refine box_event ?hg (N := 6) ?hd (cs := #[.int .i64 0, .slice none 0 0, .int .i64 0]) (t := 34) ?hr ?_
    (case hd => rfl)
    (case hg => rfl)
    (case hr => go_simp <;> rfl)
    intro g6 hg Va hbox hb_
    have K6 := Aside0.mk hbox
    have hlt_ := (Array.getElem?_eq_some_iff.1 hbox).1
    have ZZ := Aside0.mk (show w.heap.size + 4 ≤ b1 ∧ b1 ≤ m1 ∧ m1 ≤ m3 ∧ m3 ≤ g6 ∧ g6 < Va.heap.size from ⟨Z1.out.1, Z1.out.2, by rw [hm1, hm3, ← SV2.out]; exact S3.out, by rw [hg, hm3]; exact Nat.le_refl _, hlt_⟩)
    have n0 : ¬ g6 = w.heap.size := by have z_ := ZZ.out; omega
    have n0' : ¬ w.heap.size = g6 := by have z_ := ZZ.out; omega
    have n1 : ¬ g6 = w.heap.size + 1 := by have z_ := ZZ.out; omega
    have n1' : ¬ w.heap.size + 1 = g6 := by have z_ := ZZ.out; omega
    clear hg hm1 hm3 Z1 SV2 hbox hlt_
    replace HB := HBs HB hb_
    replace K0 := KB K0 hb_
    replace K1 := KB K1 hb_
    replace K2 := KB K2 hb_
    replace K3 := KB K3 hb_
    replace F0 := FB F0 hb_
    replace F1 := FB F1 hb_
    replace F2 := FB F2 hb_
    replace F3 := FB F3 hb_
    replace FR := FB FR hb_
    clear hb_
    obtain ⟨x0, x1, x2, x3, x40, x41, x42, x43⟩ := cel4 K0.out
    obtain ⟨y0, y1, y2, y3, y4, y50, y51, y52, y53, y54⟩ := cel5 K1.out
    obtain ⟨v0, v1, v2, v30, v31, v32⟩ := cel3 K6.out)
   clear x0 x1 x2 x3 x40 x41 x42 x43
   clear y0 y1 y2 y3 y4 y50 y51 y52 y53 y54
   clear v0 v1 v2 v30 v31 v32
   clear n0 n0' n1 n1'
   generalize hV4 : World.setCell (World.setCell (World.setCell Va _ _) _ _) _ _ = V4
   have hge_ : w.heap.size ≤ g6 := by have z_ := ZZ.out; omega
   have hst_ := st3 HB.out hge_ K6.out hV4
   replace HB := Aside0.mk hst_.1
   replace K6 := Aside0.mk hst_.2.1
   have z_ := ZZ.out
   replace K0 := KS K0 hst_ (by omega)
   replace K1 := KS K1 hst_ (by omega)
   replace K2 := KS K2 hst_ (by omega)
   replace K3 := KS K3 hst_ (by omega)
   have e0_ : ∀ k_, (b1 ≤ k_ ∧ k_ < m1) → k_ ≠ g6 := fun k_ h_ => by omega
   replace F0 := FS F0 hst_ e0_
   replace F1 := FS F1 hst_ e0_
   replace F2 := FS F2 hst_ e0_
   replace F3 := FS F3 hst_ e0_
   have e1_ : ∀ k_, (m1 ≤ k_ ∧ k_ < m3) → k_ ≠ g6 := fun k_ h_ => by omega
   replace FR := FS FR hst_ e1_
   clear e0_ e1_
   have SV4 := Aside0.mk hst_.2.2.2
   clear hV4 hst_ hge_ z_
   refine (cas46 P0 p0 o.reg E4 e4 ol E3 e3 va V4 (Kd.F_now F0.out) L0.out HO.out.b0 (Kd.C_below HX.out.r4 HB.out) HX.out.h4 (Kd.C_below HX.out.r3 HB.out) HX.out.h3 HX.out.b3).mono ?_
   rintro e w4 ⟨A9, c9, Av, cv, rfl, hc9, hF9, hcv, hFv, hb_⟩
   have L9 := Aside0.mk hc9
   have F9 := Aside0.mk (Kd.F_mono hF9 (ok' := fun k_ => g6 < k_) (fun k hk => by have z_ := ZZ.out; have h1 := SV4.out; have h2 : V4.heap.size ≤ k := hk; show g6 < k; omega))
   clear hF9 hc9
   have LV := Aside0.mk hcv
   have FV := Aside0.mk (Kd.F_mono hFv (ok' := fun k_ => g6 < k_) (fun k hk => by have z_ := ZZ.out; have h1 := SV4.out; have h2 : V4.heap.size ≤ k := hk; show g6 < k; omega))
   clear hFv hcv
   replace HB := HBs HB hb_
   replace K0 := KB K0 hb_
   replace K1 := KB K1 hb_
   replace K2 := KB K2 hb_
   replace K3 := KB K3 hb_
   replace K6 := KB K6 hb_
   replace F0 := FB F0 hb_
   replace F1 := FB F1 hb_
   replace F2 := FB F2 hb_
   replace F3 := FB F3 hb_
   replace FR := FB FR hb_
   clear hb_
   clear FR LR
   have n6 : ¬ g6 = w.heap.size := by have z_ := ZZ.out; omega
   have n6' : ¬ w.heap.size = g6 := by have z_ := ZZ.out; omega
   obtain ⟨x0, x1, x2, x3, x40, x41, x42, x43⟩ := cel4 K0.out
   obtain ⟨v0, v1, v2, v30, v31, v32⟩ := cel3 K6.out
   go_wp2_with fail
   clear x0 x1 x2 x3 x40 x41 x42 x43
   clear v0 v1 v2 v30 v31 v32
   clear n6 n6'
   obtain ⟨V5, hV5⟩ : ∃ V_, V_ = (w4.setCell ⟨w.heap.size, 0, none⟩ (.slice A9 (casR o.reg ol va).1.length c9)) := ⟨_, rfl⟩
   rw [← hV5]
   have hge_ : w.heap.size ≤ w.heap.size := by have z_ := ZZ.out; omega
   have hst_ : St w.heap.size w (w.heap.size) 32 #[.slice A9 (casR o.reg ol va).1.length c9, .slice P1 o.que.length p1, .slice P2 o.loc.length p2, .slice P3 o.map.length p3] w4 V5 := by rw [hV5]; exact (St.first HB.out hge_ K0.out 0 _ rfl)
   replace HB := Aside0.mk hst_.1
   replace K0 := Aside0.mk hst_.2.1
   have z_ := ZZ.out
   replace K1 := KS K1 hst_ (by omega)
   replace K2 := KS K2 hst_ (by omega)
   replace K3 := KS K3 hst_ (by omega)
   replace K6 := KS K6 hst_ (by omega)
   have e0_ : ∀ k_, (b1 ≤ k_ ∧ k_ < m1) → k_ ≠ w.heap.size := fun k_ h_ => by omega
   replace F0 := FS F0 hst_ e0_
   replace F1 := FS F1 hst_ e0_
   replace F2 := FS F2 hst_ e0_
   replace F3 := FS F3 hst_ e0_
   have e1_ : ∀ k_, (g6 < k_) → k_ ≠ w.heap.size := fun k_ h_ => by omega
   replace FV := FS FV hst_ e1_
   replace F9 := FS F9 hst_ e1_
   clear e0_ e1_
   have SV5 := Aside0.mk hst_.2.2.2
   clear hV5 hst_ hge_ z_
   generalize hV6 : World.setCell (World.setCell (World.setCell V5 _ _) _ _) _ _ = V6
   have hge_ : w.heap.size ≤ g6 := by have z_ := ZZ.out; omega
   have hst_ := st3 HB.out hge_ K6.out hV6
   replace HB := Aside0.mk hst_.1
   replace K6 := Aside0.mk hst_.2.1
   have z_ := ZZ.out
   replace K0 := KS K0 hst_ (by omega)
   replace K1 := KS K1 hst_ (by omega)
   replace K2 := KS K2 hst_ (by omega)
   replace K3 := KS K3 hst_ (by omega)
   have e0_ : ∀ k_, (b1 ≤ k_ ∧ k_ < m1) → k_ ≠ g6 := fun k_ h_ => by omega
   replace F0 := FS F0 hst_ e0_
   replace F1 := FS F1 hst_ e0_
   replace F2 := FS F2 hst_ e0_
   replace F3 := FS F3 hst_ e0_
   have e1_ : ∀ k_, (g6 < k_) → k_ ≠ g6 := fun k_ h_ => by omega
   replace FV := FS FV hst_ e1_
   replace F9 := FS F9 hst_ e1_
   clear e0_ e1_
   have SV6 := Aside0.mk hst_.2.2.2
   clear hV6 hst_ hge_ z_
   obtain ⟨x0, x1, x2, x3, x40, x41, x42, x43⟩ := cel4 K0.out
   obtain ⟨v0, v1, v2, v30, v31, v32⟩ := cel3 K6.out
   obtain ⟨s0, s1, s2, s3, s40, s41, s42, s43⟩ := cel4 K2.out
   obtain ⟨t0, t1, t2, t30, t31, t32⟩ := cel3 K3.out
   have n0 : ¬ g6 = w.heap.size + 1 + 1 := by have z_ := ZZ.out; omega
   have n0' : ¬ w.heap.size + 1 + 1 = g6 := by have z_ := ZZ.out; omega
   have n1 : ¬ g6 = w.heap.size + 1 + 1 + 1 := by have z_ := ZZ.out; omega
   have n1' : ¬ w.heap.size + 1 + 1 + 1 = g6 := by have z_ := ZZ.out; omega
   go_wp2_with fail
   go_region
   clear n0 n0' n1 n1'
   clear x0 x1 x2 x3 x40 x41 x42 x43
   clear v0 v1 v2 v30 v31 v32
   clear s0 s1 s2 s3 s40 s41 s42 s43
   clear t0 t1 t2 t30 t31 t32
   generalize hV7 : World.setCell (World.setCell (World.setCell (World.setCell V6 _ _) _ _) _ _) _ _ = V7
   have hge_ : w.heap.size ≤ w.heap.size + 1 + 1 := by have z_ := ZZ.out; omega
   have hst_ := st4 HB.out hge_ K2.out hV7
   replace HB := Aside0.mk hst_.1
   replace K2 := Aside0.mk hst_.2.1
   have z_ := ZZ.out
   replace K0 := KS K0 hst_ (by omega)
   replace K1 := KS K1 hst_ (by omega)
   replace K3 := KS K3 hst_ (by omega)
   replace K6 := KS K6 hst_ (by omega)
   have e0_ : ∀ k_, (b1 ≤ k_ ∧ k_ < m1) → k_ ≠ w.heap.size + 1 + 1 := fun k_ h_ => by omega
   replace F0 := FS F0 hst_ e0_
   replace F1 := FS F1 hst_ e0_
   replace F2 := FS F2 hst_ e0_
   replace F3 := FS F3 hst_ e0_
   have e1_ : ∀ k_, (g6 < k_) → k_ ≠ w.heap.size + 1 + 1 := fun k_ h_ => by omega
   replace FV := FS FV hst_ e1_
   replace F9 := FS F9 hst_ e1_
   clear e0_ e1_
   have SV7 := Aside0.mk hst_.2.2.2
   clear hV7 hst_ hge_ z_
   generalize hV8 : World.setCell (World.setCell (World.setCell V7 _ _) _ _) _ _ = V8
   have hge_ : w.heap.size ≤ w.heap.size + 1 + 1 + 1 := by have z_ := ZZ.out; omega
   have hst_ := st3 HB.out hge_ K3.out hV8
   replace HB := Aside0.mk hst_.1
   replace K3 := Aside0.mk hst_.2.1
   have z_ := ZZ.out
   replace K0 := KS K0 hst_ (by omega)
   replace K1 := KS K1 hst_ (by omega)
   replace K2 := KS K2 hst_ (by omega)
   replace K6 := KS K6 hst_ (by omega)
   have e0_ : ∀ k_, (b1 ≤ k_ ∧ k_ < m1) → k_ ≠ w.heap.size + 1 + 1 + 1 := fun k_ h_ => by omega
   replace F0 := FS F0 hst_ e0_
   replace F1 := FS F1 hst_ e0_
   replace F2 := FS F2 hst_ e0_
   replace F3 := FS F3 hst_ e0_
   have e1_ : ∀ k_, (g6 < k_) → k_ ≠ w.heap.size + 1 + 1 + 1 := fun k_ h_ => by omega
   replace FV := FS FV hst_ e1_
   replace F9 := FS F9 hst_ e1_
   clear e0_ e1_
   have SV8 := Aside0.mk hst_.2.2.2
   clear hV8 hst_ hge_ z_
   have bd_ := below_drew1 (Below.refl V8.heap.size V8)
   replace HB := HBs HB bd_
   replace K0 := KB K0 bd_
   replace K1 := KB K1 bd_
   replace K2 := KB K2 bd_
   replace K3 := KB K3 bd_
   replace K6 := KB K6 bd_
   replace F0 := FB F0 bd_
   replace F1 := FB F1 bd_
   replace F2 := FB F2 bd_
   replace F3 := FB F3 bd_
   replace FV := FB FV bd_
   replace F9 := FB F9 bd_
   clear bd_
   go_wp2
   refine bodyPost_ret (results_cc rfl _ _ (w.heap.size + 1 + 1) (w.heap.size + 1 + 1 + 1) 32 34 #[.slice A9 (casR o.reg ol va).1.length c9, .slice P1 o.que.length p1, .slice P2 o.loc.length p2, .slice P3 o.map.length p3] #[.int .i64 (casR o.reg ol va).2.f0, .slice Av (casR o.reg ol va).2.f1.length cv, .int .i64 (casR o.reg ol va).2.f2] (0, 0) (0, 0) _ _ rfl K2.out Try.underlying32 rfl (by kernel_rfl) rfl K3.out Try.underlying34 rfl (by kernel_rfl)) rfl ?_
   rw [HA.out]
   exact ⟨A9, c9, P1, p1, P2, p2, P3, p3, Av, cv, rfl, ⟨L9.out, Kd.F_mono F9.out (fun k_ hk => by have z_ := ZZ.out; have h2 : g6 < k_ := hk; show w.heap.size ≤ k_; omega), L1.out, Kd.F_mono F1.out (fun _ h => zq ZZ.out.1 h), L2.out, Kd.F_mono F2.out (fun _ h => zq ZZ.out.1 h), L3.out, Kd.F_mono F3.out (fun _ h => zq ZZ.out.1 h)⟩, LV.out, Kd.F_mono FV.out (fun k_ hk => by have z_ := ZZ.out; have h2 : g6 < k_ := hk; show w.heap.size ≤ k_; omega), HB.out⟩)
 by_cases h4 : kd = 4
 ·
  subst h4
  have HA : Aside0 (applyR o 4 a ke va ol = ({ o with que := (pushR o.que va).1 }, (pushR o.que va).2)) := Aside0.mk rfl
  rcases (dec3 a) with d1 | ⟨d1, d2⟩ | ⟨d1, d2⟩
  all_goals (
   go_wp2_with fail
   refine (hocketref4_bad.calls 7 7 [] 0 V2 rfl).mono ?_
   rintro e V3 ⟨vb, rfl, hR, hb_⟩
   obtain ⟨Rv, rv, rfl⟩ := Kd.R_slice hR
   have S3 := Aside0.mk hb_.size
   have FR := Aside0.mk (Kd.F_mono (Kd.F_bound (F_of_R hR)) (ok' := fun k => m1 ≤ k ∧ k < V3.heap.size) (fun k hk => ⟨by rw [hm1, ← SV2.out]; exact hk.1, hk.2⟩))
   have LR := Aside0.mk (Kd.R_reads' hR).2.1
   clear hR
   replace HB := HBs HB hb_
   replace K0 := KB K0 hb_
   replace K1 := KB K1 hb_
   replace K2 := KB K2 hb_
   replace K3 := KB K3 hb_
   replace F0 := FB F0 hb_
   replace F1 := FB F1 hb_
   replace F2 := FB F2 hb_
   replace F3 := FB F3 hb_
   clear hb_
   obtain ⟨m3, hm3⟩ : ∃ b_, b_ = V3.heap.size := ⟨_, rfl⟩
   rw [← hm3] at FR
   go_wp2_with (
    (with_reducible refine gate_dst (N := 6) rfl ?_)
    refine box_event ?hg (N := 6) ?hd (cs := #[.int .i64 0, .slice none 0 0, .int .i64 0]) (t := 34) ?hr ?_
    (case hd => rfl)
    (case hg => rfl)
    (case hr => go_simp <;> rfl)
    intro g6 hg Va hbox hb_
    have K6 := Aside0.mk hbox
    have hlt_ := (Array.getElem?_eq_some_iff.1 hbox).1
    have ZZ := Aside0.mk (show w.heap.size + 4 ≤ b1 ∧ b1 ≤ m1 ∧ m1 ≤ m3 ∧ m3 ≤ g6 ∧ g6 < Va.heap.size from ⟨Z1.out.1, Z1.out.2, by rw [hm1, hm3, ← SV2.out]; exact S3.out, by rw [hg, hm3]; exact Nat.le_refl _, hlt_⟩)
    have n0 : ¬ g6 = w.heap.size := by have z_ := ZZ.out; omega
    have n0' : ¬ w.heap.size = g6 := by have z_ := ZZ.out; omega
    have n1 : ¬ g6 = w.heap.size + 1 := by have z_ := ZZ.out; omega
    have n1' : ¬ w.heap.size + 1 = g6 := by have z_ := ZZ.out; omega
    clear hg hm1 hm3 Z1 SV2 hbox hlt_
    replace HB := HBs HB hb_
    replace K0 := KB K0 hb_
    replace K1 := KB K1 hb_
    replace K2 := KB K2 hb_
    replace K3 := KB K3 hb_
    replace F0 := FB F0 hb_
    replace F1 := FB F1 hb_
    replace F2 := FB F2 hb_
    replace F3 := FB F3 hb_
    replace FR := FB FR hb_
    clear hb_
    obtain ⟨x0, x1, x2, x3, x40, x41, x42, x43⟩ := cel4 K0.out
    obtain ⟨y0, y1, y2, y3, y4, y50, y51, y52, y53, y54⟩ := cel5 K1.out
    obtain ⟨v0, v1, v2, v30, v31, v32⟩ := cel3 K6.out)
   clear x0 x1 x2 x3 x40 x41 x42 x43
   clear y0 y1 y2 y3 y4 y50 y51 y52 y53 y54
   clear v0 v1 v2 v30 v31 v32
   clear n0 n0' n1 n1'
   generalize hV4 : World.setCell (World.setCell (World.setCell Va _ _) _ _) _ _ = V4
   have hge_ : w.heap.size ≤ g6 := by have z_ := ZZ.out; omega
   have hst_ := st3 HB.out hge_ K6.out hV4
   replace HB := Aside0.mk hst_.1
   replace K6 := Aside0.mk hst_.2.1
   have z_ := ZZ.out
   replace K0 := KS K0 hst_ (by omega)
   replace K1 := KS K1 hst_ (by omega)
   replace K2 := KS K2 hst_ (by omega)
   replace K3 := KS K3 hst_ (by omega)
   have e0_ : ∀ k_, (b1 ≤ k_ ∧ k_ < m1) → k_ ≠ g6 := fun k_ h_ => by omega
   replace F0 := FS F0 hst_ e0_
   replace F1 := FS F1 hst_ e0_
   replace F2 := FS F2 hst_ e0_
   replace F3 := FS F3 hst_ e0_
   have e1_ : ∀ k_, (m1 ≤ k_ ∧ k_ < m3) → k_ ≠ g6 := fun k_ h_ => by omega
   replace FR := FS FR hst_ e1_
   clear e0_ e1_
   have SV4 := Aside0.mk hst_.2.2.2
   clear hV4 hst_ hge_ z_
   refine (push47 P1 p1 o.que E3 e3 va V4 (Kd.F_now F1.out) L1.out HO.out.b1 HO.out.e1 (Kd.C_below HX.out.r3 HB.out) HX.out.h3 HX.out.b3).mono ?_
   rintro e w4 ⟨A9, c9, Av, cv, rfl, hc9, hF9, hcv, hFv, hb_⟩
   have L9 := Aside0.mk hc9
   have F9 := Aside0.mk (Kd.F_mono hF9 (ok' := fun k_ => g6 < k_) (fun k hk => by have z_ := ZZ.out; have h1 := SV4.out; have h2 : V4.heap.size ≤ k := hk; show g6 < k; omega))
   clear hF9 hc9
   have LV := Aside0.mk hcv
   have FV := Aside0.mk (Kd.F_mono hFv (ok' := fun k_ => g6 < k_) (fun k hk => by have z_ := ZZ.out; have h1 := SV4.out; have h2 : V4.heap.size ≤ k := hk; show g6 < k; omega))
   clear hFv hcv
   replace HB := HBs HB hb_
   replace K0 := KB K0 hb_
   replace K1 := KB K1 hb_
   replace K2 := KB K2 hb_
   replace K3 := KB K3 hb_
   replace K6 := KB K6 hb_
   replace F0 := FB F0 hb_
   replace F1 := FB F1 hb_
   replace F2 := FB F2 hb_
   replace F3 := FB F3 hb_
   replace FR := FB FR hb_
   clear hb_
   clear FR LR
   have n6 : ¬ g6 = w.heap.size := by have z_ := ZZ.out; omega
   have n6' : ¬ w.heap.size = g6 := by have z_ := ZZ.out; omega
   obtain ⟨x0, x1, x2, x3, x40, x41, x42, x43⟩ := cel4 K0.out
   obtain ⟨v0, v1, v2, v30, v31, v32⟩ := cel3 K6.out
   go_wp2_with fail
   clear x0 x1 x2 x3 x40 x41 x42 x43
   clear v0 v1 v2 v30 v31 v32
   clear n6 n6'
   obtain ⟨V5, hV5⟩ : ∃ V_, V_ = (w4.setCell ⟨w.heap.size, 1, none⟩ (.slice A9 (pushR o.que va).1.length c9)) := ⟨_, rfl⟩
   rw [← hV5]
   have hge_ : w.heap.size ≤ w.heap.size := by have z_ := ZZ.out; omega
   have hst_ : St w.heap.size w (w.heap.size) 32 #[.slice P0 o.reg.length p0, .slice A9 (pushR o.que va).1.length c9, .slice P2 o.loc.length p2, .slice P3 o.map.length p3] w4 V5 := by rw [hV5]; exact (St.first HB.out hge_ K0.out 1 _ rfl)
   replace HB := Aside0.mk hst_.1
   replace K0 := Aside0.mk hst_.2.1
   have z_ := ZZ.out
   replace K1 := KS K1 hst_ (by omega)
   replace K2 := KS K2 hst_ (by omega)
   replace K3 := KS K3 hst_ (by omega)
   replace K6 := KS K6 hst_ (by omega)
   have e0_ : ∀ k_, (b1 ≤ k_ ∧ k_ < m1) → k_ ≠ w.heap.size := fun k_ h_ => by omega
   replace F0 := FS F0 hst_ e0_
   replace F1 := FS F1 hst_ e0_
   replace F2 := FS F2 hst_ e0_
   replace F3 := FS F3 hst_ e0_
   have e1_ : ∀ k_, (g6 < k_) → k_ ≠ w.heap.size := fun k_ h_ => by omega
   replace FV := FS FV hst_ e1_
   replace F9 := FS F9 hst_ e1_
   clear e0_ e1_
   have SV5 := Aside0.mk hst_.2.2.2
   clear hV5 hst_ hge_ z_
   generalize hV6 : World.setCell (World.setCell (World.setCell V5 _ _) _ _) _ _ = V6
   have hge_ : w.heap.size ≤ g6 := by have z_ := ZZ.out; omega
   have hst_ := st3 HB.out hge_ K6.out hV6
   replace HB := Aside0.mk hst_.1
   replace K6 := Aside0.mk hst_.2.1
   have z_ := ZZ.out
   replace K0 := KS K0 hst_ (by omega)
   replace K1 := KS K1 hst_ (by omega)
   replace K2 := KS K2 hst_ (by omega)
   replace K3 := KS K3 hst_ (by omega)
   have e0_ : ∀ k_, (b1 ≤ k_ ∧ k_ < m1) → k_ ≠ g6 := fun k_ h_ => by omega
   replace F0 := FS F0 hst_ e0_
   replace F1 := FS F1 hst_ e0_
   replace F2 := FS F2 hst_ e0_
   replace F3 := FS F3 hst_ e0_
   have e1_ : ∀ k_, (g6 < k_) → k_ ≠ g6 := fun k_ h_ => by omega
   replace FV := FS FV hst_ e1_
   replace F9 := FS F9 hst_ e1_
   clear e0_ e1_
   have SV6 := Aside0.mk hst_.2.2.2
   clear hV6 hst_ hge_ z_
   obtain ⟨x0, x1, x2, x3, x40, x41, x42, x43⟩ := cel4 K0.out
   obtain ⟨v0, v1, v2, v30, v31, v32⟩ := cel3 K6.out
   obtain ⟨s0, s1, s2, s3, s40, s41, s42, s43⟩ := cel4 K2.out
   obtain ⟨t0, t1, t2, t30, t31, t32⟩ := cel3 K3.out
   have n0 : ¬ g6 = w.heap.size + 1 + 1 := by have z_ := ZZ.out; omega
   have n0' : ¬ w.heap.size + 1 + 1 = g6 := by have z_ := ZZ.out; omega
   have n1 : ¬ g6 = w.heap.size + 1 + 1 + 1 := by have z_ := ZZ.out; omega
   have n1' : ¬ w.heap.size + 1 + 1 + 1 = g6 := by have z_ := ZZ.out; omega
   go_wp2_with fail
   go_region
   clear n0 n0' n1 n1'
   clear x0 x1 x2 x3 x40 x41 x42 x43
   clear v0 v1 v2 v30 v31 v32
   clear s0 s1 s2 s3 s40 s41 s42 s43
   clear t0 t1 t2 t30 t31 t32
   generalize hV7 : World.setCell (World.setCell (World.setCell (World.setCell V6 _ _) _ _) _ _) _ _ = V7
   have hge_ : w.heap.size ≤ w.heap.size + 1 + 1 := by have z_ := ZZ.out; omega
   have hst_ := st4 HB.out hge_ K2.out hV7
   replace HB := Aside0.mk hst_.1
   replace K2 := Aside0.mk hst_.2.1
   have z_ := ZZ.out
   replace K0 := KS K0 hst_ (by omega)
   replace K1 := KS K1 hst_ (by omega)
   replace K3 := KS K3 hst_ (by omega)
   replace K6 := KS K6 hst_ (by omega)
   have e0_ : ∀ k_, (b1 ≤ k_ ∧ k_ < m1) → k_ ≠ w.heap.size + 1 + 1 := fun k_ h_ => by omega
   replace F0 := FS F0 hst_ e0_
   replace F1 := FS F1 hst_ e0_
   replace F2 := FS F2 hst_ e0_
   replace F3 := FS F3 hst_ e0_
   have e1_ : ∀ k_, (g6 < k_) → k_ ≠ w.heap.size + 1 + 1 := fun k_ h_ => by omega
   replace FV := FS FV hst_ e1_
   replace F9 := FS F9 hst_ e1_
   clear e0_ e1_
   have SV7 := Aside0.mk hst_.2.2.2
   clear hV7 hst_ hge_ z_
   generalize hV8 : World.setCell (World.setCell (World.setCell V7 _ _) _ _) _ _ = V8
   have hge_ : w.heap.size ≤ w.heap.size + 1 + 1 + 1 := by have z_ := ZZ.out; omega
   have hst_ := st3 HB.out hge_ K3.out hV8
   replace HB := Aside0.mk hst_.1
   replace K3 := Aside0.mk hst_.2.1
   have z_ := ZZ.out
   replace K0 := KS K0 hst_ (by omega)
   replace K1 := KS K1 hst_ (by omega)
   replace K2 := KS K2 hst_ (by omega)
   replace K6 := KS K6 hst_ (by omega)
   have e0_ : ∀ k_, (b1 ≤ k_ ∧ k_ < m1) → k_ ≠ w.heap.size + 1 + 1 + 1 := fun k_ h_ => by omega
   replace F0 := FS F0 hst_ e0_
   replace F1 := FS F1 hst_ e0_
   replace F2 := FS F2 hst_ e0_
   replace F3 := FS F3 hst_ e0_
   have e1_ : ∀ k_, (g6 < k_) → k_ ≠ w.heap.size + 1 + 1 + 1 := fun k_ h_ => by omega
   replace FV := FS FV hst_ e1_
   replace F9 := FS F9 hst_ e1_
   clear e0_ e1_
   have SV8 := Aside0.mk hst_.2.2.2
   clear hV8 hst_ hge_ z_
   have bd_ := below_drew1 (Below.refl V8.heap.size V8)
   replace HB := HBs HB bd_
   replace K0 := KB K0 bd_
   replace K1 := KB K1 bd_
   replace K2 := KB K2 bd_
   replace K3 := KB K3 bd_
   replace K6 := KB K6 bd_
   replace F0 := FB F0 bd_
   replace F1 := FB F1 bd_
   replace F2 := FB F2 bd_
   replace F3 := FB F3 bd_
   replace FV := FB FV bd_
   replace F9 := FB F9 bd_
   clear bd_
   go_wp2
   refine bodyPost_ret (results_cc rfl _ _ (w.heap.size + 1 + 1) (w.heap.size + 1 + 1 + 1) 32 34 #[.slice P0 o.reg.length p0, .slice A9 (pushR o.que va).1.length c9, .slice P2 o.loc.length p2, .slice P3 o.map.length p3] #[.int .i64 (pushR o.que va).2.f0, .slice Av (pushR o.que va).2.f1.length cv, .int .i64 (pushR o.que va).2.f2] (0, 0) (0, 0) _ _ rfl K2.out Try.underlying32 rfl (by kernel_rfl) rfl K3.out Try.underlying34 rfl (by kernel_rfl)) rfl ?_
   rw [HA.out]
   exact ⟨P0, p0, A9, c9, P2, p2, P3, p3, Av, cv, rfl, ⟨L0.out, Kd.F_mono F0.out (fun _ h => zq ZZ.out.1 h), L9.out, Kd.F_mono F9.out (fun k_ hk => by have z_ := ZZ.out; have h2 : g6 < k_ := hk; show w.heap.size ≤ k_; omega), L2.out, Kd.F_mono F2.out (fun _ h => zq ZZ.out.1 h), L3.out, Kd.F_mono F3.out (fun _ h => zq ZZ.out.1 h)⟩, LV.out, Kd.F_mono FV.out (fun k_ hk => by have z_ := ZZ.out; have h2 : g6 < k_ := hk; show w.heap.size ≤ k_; omega), HB.out⟩)
 by_cases h5 : kd = 5
 ·
  subst h5
  have HA : Aside0 (applyR o 5 a ke va ol = ({ o with que := (popR o.que).1 }, (popR o.que).2)) := Aside0.mk rfl
  rcases (dec3 a) with d1 | ⟨d1, d2⟩ | ⟨d1, d2⟩
  all_goals (
   go_wp2_with fail
   refine (hocketref4_bad.calls 7 7 [] 0 V2 rfl).mono ?_
   rintro e V3 ⟨vb, rfl, hR, hb_⟩
   obtain ⟨Rv, rv, rfl⟩ := Kd.R_slice hR
   have S3 := Aside0.mk hb_.size
   have FR := Aside0.mk (Kd.F_mono (Kd.F_bound (F_of_R hR)) (ok' := fun k => m1 ≤ k ∧ k < V3.heap.size) (fun k hk => ⟨by rw [hm1, ← SV2.out]; exact hk.1, hk.2⟩))
   have LR := Aside0.mk (Kd.R_reads' hR).2.1
   clear hR
   replace HB := HBs HB hb_
   replace K0 := KB K0 hb_
   replace K1 := KB K1 hb_
   replace K2 := KB K2 hb_
   replace K3 := KB K3 hb_
   replace F0 := FB F0 hb_
   replace F1 := FB F1 hb_
   replace F2 := FB F2 hb_
   replace F3 := FB F3 hb_
   clear hb_
   obtain ⟨m3, hm3⟩ : ∃ b_, b_ = V3.heap.size := ⟨_, rfl⟩
   rw [← hm3] at FR
   go_wp2_with (
    (with_reducible refine gate_dst (N := 6) rfl ?_)
    refine box_event ?hg (N := 6) ?hd (cs := #[.int .i64 0, .slice none 0 0, .int .i64 0]) (t := 34) ?hr ?_
    (case hd => rfl)
    (case hg => rfl)
    (case hr => go_simp <;> rfl)
    intro g6 hg Va hbox hb_
    have K6 := Aside0.mk hbox
    have hlt_ := (Array.getElem?_eq_some_iff.1 hbox).1
    have ZZ := Aside0.mk (show w.heap.size + 4 ≤ b1 ∧ b1 ≤ m1 ∧ m1 ≤ m3 ∧ m3 ≤ g6 ∧ g6 < Va.heap.size from ⟨Z1.out.1, Z1.out.2, by rw [hm1, hm3, ← SV2.out]; exact S3.out, by rw [hg, hm3]; exact Nat.le_refl _, hlt_⟩)
    have n0 : ¬ g6 = w.heap.size := by have z_ := ZZ.out; omega
    have n0' : ¬ w.heap.size = g6 := by have z_ := ZZ.out; omega
    have n1 : ¬ g6 = w.heap.size + 1 := by have z_ := ZZ.out; omega
    have n1' : ¬ w.heap.size + 1 = g6 := by have z_ := ZZ.out; omega
    clear hg hm1 hm3 Z1 SV2 hbox hlt_
    replace HB := HBs HB hb_
    replace K0 := KB K0 hb_
    replace K1 := KB K1 hb_
    replace K2 := KB K2 hb_
    replace K3 := KB K3 hb_
    replace F0 := FB F0 hb_
    replace F1 := FB F1 hb_
    replace F2 := FB F2 hb_
    replace F3 := FB F3 hb_
    replace FR := FB FR hb_
    clear hb_
    obtain ⟨x0, x1, x2, x3, x40, x41, x42, x43⟩ := cel4 K0.out
    obtain ⟨y0, y1, y2, y3, y4, y50, y51, y52, y53, y54⟩ := cel5 K1.out
    obtain ⟨v0, v1, v2, v30, v31, v32⟩ := cel3 K6.out)
   clear x0 x1 x2 x3 x40 x41 x42 x43
   clear y0 y1 y2 y3 y4 y50 y51 y52 y53 y54
   clear v0 v1 v2 v30 v31 v32
   clear n0 n0' n1 n1'
   generalize hV4 : World.setCell (World.setCell (World.setCell Va _ _) _ _) _ _ = V4
   have hge_ : w.heap.size ≤ g6 := by have z_ := ZZ.out; omega
   have hst_ := st3 HB.out hge_ K6.out hV4
   replace HB := Aside0.mk hst_.1
   replace K6 := Aside0.mk hst_.2.1
   have z_ := ZZ.out
   replace K0 := KS K0 hst_ (by omega)
   replace K1 := KS K1 hst_ (by omega)
   replace K2 := KS K2 hst_ (by omega)
   replace K3 := KS K3 hst_ (by omega)
   have e0_ : ∀ k_, (b1 ≤ k_ ∧ k_ < m1) → k_ ≠ g6 := fun k_ h_ => by omega
   replace F0 := FS F0 hst_ e0_
   replace F1 := FS F1 hst_ e0_
   replace F2 := FS F2 hst_ e0_
   replace F3 := FS F3 hst_ e0_
   have e1_ : ∀ k_, (m1 ≤ k_ ∧ k_ < m3) → k_ ≠ g6 := fun k_ h_ => by omega
   replace FR := FS FR hst_ e1_
   clear e0_ e1_
   have SV4 := Aside0.mk hst_.2.2.2
   clear hV4 hst_ hge_ z_
   refine (pop48 P1 p1 o.que V4 (Kd.F_now F1.out) L1.out HO.out.b1 HO.out.e1).mono ?_
   rintro e w4 ⟨A9, c9, Av, cv, rfl, hc9, hF9, hcv, hFv, hb_⟩
   have L9 := Aside0.mk hc9
   have F9 := Aside0.mk (Kd.F_mono hF9 (ok' := fun k_ => g6 < k_) (fun k hk => by have z_ := ZZ.out; have h1 := SV4.out; have h2 : V4.heap.size ≤ k := hk; show g6 < k; omega))
   clear hF9 hc9
   have LV := Aside0.mk hcv
   have FV := Aside0.mk (Kd.F_mono hFv (ok' := fun k_ => g6 < k_) (fun k hk => by have z_ := ZZ.out; have h1 := SV4.out; have h2 : V4.heap.size ≤ k := hk; show g6 < k; omega))
   clear hFv hcv
   replace HB := HBs HB hb_
   replace K0 := KB K0 hb_
   replace K1 := KB K1 hb_
   replace K2 := KB K2 hb_
   replace K3 := KB K3 hb_
   replace K6 := KB K6 hb_
   replace F0 := FB F0 hb_
   replace F1 := FB F1 hb_
   replace F2 := FB F2 hb_
   replace F3 := FB F3 hb_
   replace FR := FB FR hb_
   clear hb_
   clear FR LR
   have n6 : ¬ g6 = w.heap.size := by have z_ := ZZ.out; omega
   have n6' : ¬ w.heap.size = g6 := by have z_ := ZZ.out; omega
   obtain ⟨x0, x1, x2, x3, x40, x41, x42, x43⟩ := cel4 K0.out
   obtain ⟨v0, v1, v2, v30, v31, v32⟩ := cel3 K6.out
   go_wp2_with fail
   clear x0 x1 x2 x3 x40 x41 x42 x43
   clear v0 v1 v2 v30 v31 v32
   clear n6 n6'
   obtain ⟨V5, hV5⟩ : ∃ V_, V_ = (w4.setCell ⟨w.heap.size, 1, none⟩ (.slice A9 (popR o.que).1.length c9)) := ⟨_, rfl⟩
   rw [← hV5]
   have hge_ : w.heap.size ≤ w.heap.size := by have z_ := ZZ.out; omega
   have hst_ : St w.heap.size w (w.heap.size) 32 #[.slice P0 o.reg.length p0, .slice A9 (popR o.que).1.length c9, .slice P2 o.loc.length p2, .slice P3 o.map.length p3] w4 V5 := by rw [hV5]; exact (St.first HB.out hge_ K0.out 1 _ rfl)
   replace HB := Aside0.mk hst_.1
   replace K0 := Aside0.mk hst_.2.1
   have z_ := ZZ.out
   replace K1 := KS K1 hst_ (by omega)
   replace K2 := KS K2 hst_ (by omega)
   replace K3 := KS K3 hst_ (by omega)
   replace K6 := KS K6 hst_ (by omega)
   have e0_ : ∀ k_, (b1 ≤ k_ ∧ k_ < m1) → k_ ≠ w.heap.size := fun k_ h_ => by omega
   replace F0 := FS F0 hst_ e0_
   replace F1 := FS F1 hst_ e0_
   replace F2 := FS F2 hst_ e0_
   replace F3 := FS F3 hst_ e0_
   have e1_ : ∀ k_, (g6 < k_) → k_ ≠ w.heap.size := fun k_ h_ => by omega
   replace FV := FS FV hst_ e1_
   replace F9 := FS F9 hst_ e1_
   clear e0_ e1_
   have SV5 := Aside0.mk hst_.2.2.2
   clear hV5 hst_ hge_ z_
   generalize hV6 : World.setCell (World.setCell (World.setCell V5 _ _) _ _) _ _ = V6
   have hge_ : w.heap.size ≤ g6 := by have z_ := ZZ.out; omega
   have hst_ := st3 HB.out hge_ K6.out hV6
   replace HB := Aside0.mk hst_.1
   replace K6 := Aside0.mk hst_.2.1
   have z_ := ZZ.out
   replace K0 := KS K0 hst_ (by omega)
   replace K1 := KS K1 hst_ (by omega)
   replace K2 := KS K2 hst_ (by omega)
   replace K3 := KS K3 hst_ (by omega)
   have e0_ : ∀ k_, (b1 ≤ k_ ∧ k_ < m1) → k_ ≠ g6 := fun k_ h_ => by omega
   replace F0 := FS F0 hst_ e0_
   replace F1 := FS F1 hst_ e0_
   replace F2 := FS F2 hst_ e0_
   replace F3 := FS F3 hst_ e0_
   have e1_ : ∀ k_, (g6 < k_) → k_ ≠ g6 := fun k_ h_ => by omega
   replace FV := FS FV hst_ e1_
   replace F9 := FS F9 hst_ e1_
   clear e0_ e1_
   have SV6 := Aside0.mk hst_.2.2.2
   clear hV6 hst_ hge_ z_
   obtain ⟨x0, x1, x2, x3, x40, x41, x42, x43⟩ := cel4 K0.out
   obtain ⟨v0, v1, v2, v30, v31, v32⟩ := cel3 K6.out
   obtain ⟨s0, s1, s2, s3, s40, s41, s42, s43⟩ := cel4 K2.out
   obtain ⟨t0, t1, t2, t30, t31, t32⟩ := cel3 K3.out
   have n0 : ¬ g6 = w.heap.size + 1 + 1 := by have z_ := ZZ.out; omega
   have n0' : ¬ w.heap.size + 1 + 1 = g6 := by have z_ := ZZ.out; omega
   have n1 : ¬ g6 = w.heap.size + 1 + 1 + 1 := by have z_ := ZZ.out; omega
   have n1' : ¬ w.heap.size + 1 + 1 + 1 = g6 := by have z_ := ZZ.out; omega
   go_wp2_with fail
   go_region
   clear n0 n0' n1 n1'
   clear x0 x1 x2 x3 x40 x41 x42 x43
   clear v0 v1 v2 v30 v31 v32
   clear s0 s1 s2 s3 s40 s41 s42 s43
   clear t0 t1 t2 t30 t31 t32
   generalize hV7 : World.setCell (World.setCell (World.setCell (World.setCell V6 _ _) _ _) _ _) _ _ = V7
   have hge_ : w.heap.size ≤ w.heap.size + 1 + 1 := by have z_ := ZZ.out; omega
   have hst_ := st4 HB.out hge_ K2.out hV7
   replace HB := Aside0.mk hst_.1
   replace K2 := Aside0.mk hst_.2.1
   have z_ := ZZ.out
   replace K0 := KS K0 hst_ (by omega)
   replace K1 := KS K1 hst_ (by omega)
   replace K3 := KS K3 hst_ (by omega)
   replace K6 := KS K6 hst_ (by omega)
   have e0_ : ∀ k_, (b1 ≤ k_ ∧ k_ < m1) → k_ ≠ w.heap.size + 1 + 1 := fun k_ h_ => by omega
   replace F0 := FS F0 hst_ e0_
   replace F1 := FS F1 hst_ e0_
   replace F2 := FS F2 hst_ e0_
   replace F3 := FS F3 hst_ e0_
   have e1_ : ∀ k_, (g6 < k_) → k_ ≠ w.heap.size + 1 + 1 := fun k_ h_ => by omega
   replace FV := FS FV hst_ e1_
   replace F9 := FS F9 hst_ e1_
   clear e0_ e1_
   have SV7 := Aside0.mk hst_.2.2.2
   clear hV7 hst_ hge_ z_
   generalize hV8 : World.setCell (World.setCell (World.setCell V7 _ _) _ _) _ _ = V8
   have hge_ : w.heap.size ≤ w.heap.size + 1 + 1 + 1 := by have z_ := ZZ.out; omega
   have hst_ := st3 HB.out hge_ K3.out hV8
   replace HB := Aside0.mk hst_.1
   replace K3 := Aside0.mk hst_.2.1
   have z_ := ZZ.out
   replace K0 := KS K0 hst_ (by omega)
   replace K1 := KS K1 hst_ (by omega)
   replace K2 := KS K2 hst_ (by omega)
   replace K6 := KS K6 hst_ (by omega)
   have e0_ : ∀ k_, (b1 ≤ k_ ∧ k_ < m1) → k_ ≠ w.heap.size + 1 + 1 + 1 := fun k_ h_ => by omega
   replace F0 := FS F0 hst_ e0_
   replace F1 := FS F1 hst_ e0_
   replace F2 := FS F2 hst_ e0_
   replace F3 := FS F3 hst_ e0_
   have e1_ : ∀ k_, (g6 < k_) → k_ ≠ w.heap.size + 1 + 1 + 1 := fun k_ h_ => by omega
   replace FV := FS FV hst_ e1_
   replace F9 := FS F9 hst_ e1_
   clear e0_ e1_
   have SV8 := Aside0.mk hst_.2.2.2
   clear hV8 hst_ hge_ z_
   have bd_ := below_drew1 (Below.refl V8.heap.size V8)
   replace HB := HBs HB bd_
   replace K0 := KB K0 bd_
   replace K1 := KB K1 bd_
   replace K2 := KB K2 bd_
   replace K3 := KB K3 bd_
   replace K6 := KB K6 bd_
   replace F0 := FB F0 bd_
   replace F1 := FB F1 bd_
   replace F2 := FB F2 bd_
   replace F3 := FB F3 bd_
   replace FV := FB FV bd_
   replace F9 := FB F9 bd_
   clear bd_
   go_wp2
   refine bodyPost_ret (results_cc rfl _ _ (w.heap.size + 1 + 1) (w.heap.size + 1 + 1 + 1) 32 34 #[.slice P0 o.reg.length p0, .slice A9 (popR o.que).1.length c9, .slice P2 o.loc.length p2, .slice P3 o.map.length p3] #[.int .i64 (popR o.que).2.f0, .slice Av (popR o.que).2.f1.length cv, .int .i64 (popR o.que).2.f2] (0, 0) (0, 0) _ _ rfl K2.out Try.underlying32 rfl (by kernel_rfl) rfl K3.out Try.underlying34 rfl (by kernel_rfl)) rfl ?_
   rw [HA.out]
   exact ⟨P0, p0, A9, c9, P2, p2, P3, p3, Av, cv, rfl, ⟨L0.out, Kd.F_mono F0.out (fun _ h => zq ZZ.out.1 h), L9.out, Kd.F_mono F9.out (fun k_ hk => by have z_ := ZZ.out; have h2 : g6 < k_ := hk; show w.heap.size ≤ k_; omega), L2.out, Kd.F_mono F2.out (fun _ h => zq ZZ.out.1 h), L3.out, Kd.F_mono F3.out (fun _ h => zq ZZ.out.1 h)⟩, LV.out, Kd.F_mono FV.out (fun k_ hk => by have z_ := ZZ.out; have h2 : g6 < k_ := hk; show w.heap.size ≤ k_; omega), HB.out⟩)
 by_cases h6 : kd = 6
 ·
  subst h6
  rcases (dec3 a) with d1 | ⟨d1, d2⟩ | ⟨d1, d2⟩
  ·
   have hl : locksR o.loc 6 a = (o.loc, ⟨7, [], 0⟩) := by unfold locksR; rw [if_neg (by decide)]; rw [if_pos (by have := of_decide_eq_false d1; omega)]
   have HA : Aside0 (applyR o 6 a ke va ol = (o, (⟨7, [], 0⟩ : S26))) := Aside0.mk (by
    show (({ o with loc := (locksR o.loc 6 a).1 } : O), (locksR o.loc 6 a).2) = _
    rw [hl])
   clear hl
   go_wp2_with fail
   refine (hocketref4_bad.calls 7 7 [] 0 V2 rfl).mono ?_
   rintro e V3 ⟨vb, rfl, hR, hb_⟩
   obtain ⟨Rv, rv, rfl⟩ := Kd.R_slice hR
   have S3 := Aside0.mk hb_.size
   have FR := Aside0.mk (Kd.F_mono (Kd.F_bound (F_of_R hR)) (ok' := fun k => m1 ≤ k ∧ k < V3.heap.size) (fun k hk => ⟨by rw [hm1, ← SV2.out]; exact hk.1, hk.2⟩))
   have LR := Aside0.mk (Kd.R_reads' hR).2.1
   clear hR
   replace HB := HBs HB hb_
   replace K0 := KB K0 hb_
   replace K1 := KB K1 hb_
   replace K2 := KB K2 hb_
   replace K3 := KB K3 hb_
   replace F0 := FB F0 hb_
   replace F1 := FB F1 hb_
   replace F2 := FB F2 hb_
   replace F3 := FB F3 hb_
   clear hb_
   obtain ⟨m3, hm3⟩ : ∃ b_, b_ = V3.heap.size := ⟨_, rfl⟩
   rw [← hm3] at FR
   go_wp2_with (
    (with_reducible refine gate_dst (N := 6) rfl ?_)
    refine box_event ?hg (N := 6) ?hd (cs := #[.int .i64 0, .slice none 0 0, .int .i64 0]) (t := 34) ?hr ?_
    (case hd => rfl)
    (case hg => rfl)
    (case hr => go_simp <;> rfl)
    intro g6 hg Va hbox hb_
    have K6 := Aside0.mk hbox
    have hlt_ := (Array.getElem?_eq_some_iff.1 hbox).1
    have ZZ := Aside0.mk (show w.heap.size + 4 ≤ b1 ∧ b1 ≤ m1 ∧ m1 ≤ m3 ∧ m3 ≤ g6 ∧ g6 < Va.heap.size from ⟨Z1.out.1, Z1.out.2, by rw [hm1, hm3, ← SV2.out]; exact S3.out, by rw [hg, hm3]; exact Nat.le_refl _, hlt_⟩)
    have n0 : ¬ g6 = w.heap.size := by have z_ := ZZ.out; omega
    have n0' : ¬ w.heap.size = g6 := by have z_ := ZZ.out; omega
    have n1 : ¬ g6 = w.heap.size + 1 := by have z_ := ZZ.out; omega
    have n1' : ¬ w.heap.size + 1 = g6 := by have z_ := ZZ.out; omega
    clear hg hm1 hm3 Z1 SV2 hbox hlt_
    replace HB := HBs HB hb_
    replace K0 := KB K0 hb_
    replace K1 := KB K1 hb_
    replace K2 := KB K2 hb_
    replace K3 := KB K3 hb_
    replace F0 := FB F0 hb_
    replace F1 := FB F1 hb_
    replace F2 := FB F2 hb_
    replace F3 := FB F3 hb_
    replace FR := FB FR hb_
    clear hb_
    obtain ⟨x0, x1, x2, x3, x40, x41, x42, x43⟩ := cel4 K0.out
    obtain ⟨y0, y1, y2, y3, y4, y50, y51, y52, y53, y54⟩ := cel5 K1.out
    obtain ⟨v0, v1, v2, v30, v31, v32⟩ := cel3 K6.out)
   clear x0 x1 x2 x3 x40 x41 x42 x43
   clear y0 y1 y2 y3 y4 y50 y51 y52 y53 y54
   clear v0 v1 v2 v30 v31 v32
   clear n0 n0' n1 n1'
   generalize hV4 : World.setCell (World.setCell (World.setCell Va _ _) _ _) _ _ = V4
   have hge_ : w.heap.size ≤ g6 := by have z_ := ZZ.out; omega
   have hst_ := st3 HB.out hge_ K6.out hV4
   replace HB := Aside0.mk hst_.1
   replace K6 := Aside0.mk hst_.2.1
   have z_ := ZZ.out
   replace K0 := KS K0 hst_ (by omega)
   replace K1 := KS K1 hst_ (by omega)
   replace K2 := KS K2 hst_ (by omega)
   replace K3 := KS K3 hst_ (by omega)
   have e0_ : ∀ k_, (b1 ≤ k_ ∧ k_ < m1) → k_ ≠ g6 := fun k_ h_ => by omega
   replace F0 := FS F0 hst_ e0_
   replace F1 := FS F1 hst_ e0_
   replace F2 := FS F2 hst_ e0_
   replace F3 := FS F3 hst_ e0_
   have e1_ : ∀ k_, (m1 ≤ k_ ∧ k_ < m3) → k_ ≠ g6 := fun k_ h_ => by omega
   replace FR := FS FR hst_ e1_
   clear e0_ e1_
   have SV4 := Aside0.mk hst_.2.2.2
   clear hV4 hst_ hge_ z_
   obtain ⟨x0, x1, x2, x3, x40, x41, x42, x43⟩ := cel4 K0.out
   obtain ⟨v0, v1, v2, v30, v31, v32⟩ := cel3 K6.out
   obtain ⟨s0, s1, s2, s3, s40, s41, s42, s43⟩ := cel4 K2.out
   obtain ⟨t0, t1, t2, t30, t31, t32⟩ := cel3 K3.out
   have n0 : ¬ g6 = w.heap.size + 1 + 1 := by have z_ := ZZ.out; omega
   have n0' : ¬ w.heap.size + 1 + 1 = g6 := by have z_ := ZZ.out; omega
   have n1 : ¬ g6 = w.heap.size + 1 + 1 + 1 := by have z_ := ZZ.out; omega
   have n1' : ¬ w.heap.size + 1 + 1 + 1 = g6 := by have z_ := ZZ.out; omega
   go_region
   clear n0 n0' n1 n1'
   clear x0 x1 x2 x3 x40 x41 x42 x43
   clear v0 v1 v2 v30 v31 v32
   clear s0 s1 s2 s3 s40 s41 s42 s43
   clear t0 t1 t2 t30 t31 t32
   generalize hV7 : World.setCell (World.setCell (World.setCell (World.setCell V4 _ _) _ _) _ _) _ _ = V7
   have hge_ : w.heap.size ≤ w.heap.size + 1 + 1 := by have z_ := ZZ.out; omega
   have hst_ := st4 HB.out hge_ K2.out hV7
   replace HB := Aside0.mk hst_.1
   replace K2 := Aside0.mk hst_.2.1
   have z_ := ZZ.out
   replace K0 := KS K0 hst_ (by omega)
   replace K1 := KS K1 hst_ (by omega)
   replace K3 := KS K3 hst_ (by omega)
   replace K6 := KS K6 hst_ (by omega)
   have e0_ : ∀ k_, (b1 ≤ k_ ∧ k_ < m1) → k_ ≠ w.heap.size + 1 + 1 := fun k_ h_ => by omega
   replace F0 := FS F0 hst_ e0_
   replace F1 := FS F1 hst_ e0_
   replace F2 := FS F2 hst_ e0_
   replace F3 := FS F3 hst_ e0_
   have e1_ : ∀ k_, (m1 ≤ k_ ∧ k_ < m3) → k_ ≠ w.heap.size + 1 + 1 := fun k_ h_ => by omega
   replace FR := FS FR hst_ e1_
   clear e0_ e1_
   have SV7 := Aside0.mk hst_.2.2.2
   clear hV7 hst_ hge_ z_
   generalize hV8 : World.setCell (World.setCell (World.setCell V7 _ _) _ _) _ _ = V8
   have hge_ : w.heap.size ≤ w.heap.size + 1 + 1 + 1 := by have z_ := ZZ.out; omega
   have hst_ := st3 HB.out hge_ K3.out hV8
   replace HB := Aside0.mk hst_.1
   replace K3 := Aside0.mk hst_.2.1
   have z_ := ZZ.out
   replace K0 := KS K0 hst_ (by omega)
   replace K1 := KS K1 hst_ (by omega)
   replace K2 := KS K2 hst_ (by omega)
   replace K6 := KS K6 hst_ (by omega)
   have e0_ : ∀ k_, (b1 ≤ k_ ∧ k_ < m1) → k_ ≠ w.heap.size + 1 + 1 + 1 := fun k_ h_ => by omega
   replace F0 := FS F0 hst_ e0_
   replace F1 := FS F1 hst_ e0_
   replace F2 := FS F2 hst_ e0_
   replace F3 := FS F3 hst_ e0_
   have e1_ : ∀ k_, (m1 ≤ k_ ∧ k_ < m3) → k_ ≠ w.heap.size + 1 + 1 + 1 := fun k_ h_ => by omega
   replace FR := FS FR hst_ e1_
   clear e0_ e1_
   have SV8 := Aside0.mk hst_.2.2.2
   clear hV8 hst_ hge_ z_
   have bd_ := below_drew1 (Below.refl V8.heap.size V8)
   replace HB := HBs HB bd_
   replace K0 := KB K0 bd_
   replace K1 := KB K1 bd_
   replace K2 := KB K2 bd_
   replace K3 := KB K3 bd_
   replace K6 := KB K6 bd_
   replace F0 := FB F0 bd_
   replace F1 := FB F1 bd_
   replace F2 := FB F2 bd_
   replace F3 := FB F3 bd_
   replace FR := FB FR bd_
   clear bd_
   go_wp2
   refine bodyPost_ret (results_cc rfl _ _ (w.heap.size + 1 + 1) (w.heap.size + 1 + 1 + 1) 32 34 #[.slice P0 o.reg.length p0, .slice P1 o.que.length p1, .slice P2 o.loc.length p2, .slice P3 o.map.length p3] #[.int .i64 7, .slice Rv 0 rv, .int .i64 0] (0, 0) (0, 0) _ _ rfl K2.out Try.underlying32 rfl (by kernel_rfl) rfl K3.out Try.underlying34 rfl (by kernel_rfl)) rfl ?_
   rw [HA.out]
   exact ⟨P0, p0, P1, p1, P2, p2, P3, p3, Rv, rv, rfl, ⟨L0.out, Kd.F_mono F0.out (fun _ h => zq ZZ.out.1 h), L1.out, Kd.F_mono F1.out (fun _ h => zq ZZ.out.1 h), L2.out, Kd.F_mono F2.out (fun _ h => zq ZZ.out.1 h), L3.out, Kd.F_mono F3.out (fun _ h => zq ZZ.out.1 h)⟩, LR.out, Kd.F_mono FR.out (fun k_ hk => by have z_ := ZZ.out; have h2 : m1 ≤ k_ ∧ k_ < m3 := hk; show w.heap.size ≤ k_; omega), HB.out⟩
  ·
   have hl : locksR o.loc 6 a = takeR o.loc a := by unfold locksR; rw [if_neg (by decide)]; rw [if_neg (by have := of_decide_eq_true d1; have := of_decide_eq_true d2; omega)]; rfl
   have HA : Aside0 (applyR o 6 a ke va ol = ({ o with loc := (takeR o.loc a).1 }, (takeR o.loc a).2)) := Aside0.mk (by
    show (({ o with loc := (locksR o.loc 6 a).1 } : O), (locksR o.loc 6 a).2) = _
    rw [hl])
   clear hl
   go_wp2_with fail
   refine (hocketref4_bad.calls 7 7 [] 0 V2 rfl).mono ?_
   rintro e V3 ⟨vb, rfl, hR, hb_⟩
   obtain ⟨Rv, rv, rfl⟩ := Kd.R_slice hR
   have S3 := Aside0.mk hb_.size
   have FR := Aside0.mk (Kd.F_mono (Kd.F_bound (F_of_R hR)) (ok' := fun k => m1 ≤ k ∧ k < V3.heap.size) (fun k hk => ⟨by rw [hm1, ← SV2.out]; exact hk.1, hk.2⟩))
   have LR := Aside0.mk (Kd.R_reads' hR).2.1
   clear hR
   replace HB := HBs HB hb_
   replace K0 := KB K0 hb_
   replace K1 := KB K1 hb_
   replace K2 := KB K2 hb_
   replace K3 := KB K3 hb_
   replace F0 := FB F0 hb_
   replace F1 := FB F1 hb_
   replace F2 := FB F2 hb_
   replace F3 := FB F3 hb_
   clear hb_
   obtain ⟨m3, hm3⟩ : ∃ b_, b_ = V3.heap.size := ⟨_, rfl⟩
   rw [← hm3] at FR
   go_wp2_with (
    (with_reducible refine gate_dst (N := 6) rfl ?_)
    refine box_event ?hg (N := 6) ?hd (cs := #[.int .i64 0, .slice none 0 0, .int .i64 0]) (t := 34) ?hr ?_
    (case hd => rfl)
    (case hg => rfl)
    (case hr => go_simp <;> rfl)
    intro g6 hg Va hbox hb_
    have K6 := Aside0.mk hbox
    have hlt_ := (Array.getElem?_eq_some_iff.1 hbox).1
    have ZZ := Aside0.mk (show w.heap.size + 4 ≤ b1 ∧ b1 ≤ m1 ∧ m1 ≤ m3 ∧ m3 ≤ g6 ∧ g6 < Va.heap.size from ⟨Z1.out.1, Z1.out.2, by rw [hm1, hm3, ← SV2.out]; exact S3.out, by rw [hg, hm3]; exact Nat.le_refl _, hlt_⟩)
    have n0 : ¬ g6 = w.heap.size := by have z_ := ZZ.out; omega
    have n0' : ¬ w.heap.size = g6 := by have z_ := ZZ.out; omega
    have n1 : ¬ g6 = w.heap.size + 1 := by have z_ := ZZ.out; omega
    have n1' : ¬ w.heap.size + 1 = g6 := by have z_ := ZZ.out; omega
    clear hg hm1 hm3 Z1 SV2 hbox hlt_
    replace HB := HBs HB hb_
    replace K0 := KB K0 hb_
    replace K1 := KB K1 hb_
    replace K2 := KB K2 hb_
    replace K3 := KB K3 hb_
    replace F0 := FB F0 hb_
    replace F1 := FB F1 hb_
    replace F2 := FB F2 hb_
    replace F3 := FB F3 hb_
    replace FR := FB FR hb_
    clear hb_
    obtain ⟨x0, x1, x2, x3, x40, x41, x42, x43⟩ := cel4 K0.out
    obtain ⟨y0, y1, y2, y3, y4, y50, y51, y52, y53, y54⟩ := cel5 K1.out
    obtain ⟨v0, v1, v2, v30, v31, v32⟩ := cel3 K6.out)
   clear x0 x1 x2 x3 x40 x41 x42 x43
   clear y0 y1 y2 y3 y4 y50 y51 y52 y53 y54
   clear v0 v1 v2 v30 v31 v32
   clear n0 n0' n1 n1'
   generalize hV4 : World.setCell (World.setCell (World.setCell Va _ _) _ _) _ _ = V4
   have hge_ : w.heap.size ≤ g6 := by have z_ := ZZ.out; omega
   have hst_ := st3 HB.out hge_ K6.out hV4
   replace HB := Aside0.mk hst_.1
   replace K6 := Aside0.mk hst_.2.1
   have z_ := ZZ.out
   replace K0 := KS K0 hst_ (by omega)
   replace K1 := KS K1 hst_ (by omega)
   replace K2 := KS K2 hst_ (by omega)
   replace K3 := KS K3 hst_ (by omega)
   have e0_ : ∀ k_, (b1 ≤ k_ ∧ k_ < m1) → k_ ≠ g6 := fun k_ h_ => by omega
   replace F0 := FS F0 hst_ e0_
   replace F1 := FS F1 hst_ e0_
   replace F2 := FS F2 hst_ e0_
   replace F3 := FS F3 hst_ e0_
   have e1_ : ∀ k_, (m1 ≤ k_ ∧ k_ < m3) → k_ ≠ g6 := fun k_ h_ => by omega
   replace FR := FS FR hst_ e1_
   clear e0_ e1_
   have SV4 := Aside0.mk hst_.2.2.2
   clear hV4 hst_ hge_ z_
   refine (take49 P2 p2 o.loc a V4 (Kd.F_now F2.out) L2.out HO.out.b2).mono ?_
   rintro e w4 ⟨A9, c9, Av, cv, rfl, hc9, hF9, hcv, hFv, hb_⟩
   have L9 := Aside0.mk hc9
   have F9 := Aside0.mk (Kd.F_mono hF9 (ok' := fun k_ => g6 < k_) (fun k hk => by have z_ := ZZ.out; have h1 := SV4.out; have h2 : V4.heap.size ≤ k := hk; show g6 < k; omega))
   clear hF9 hc9
   have LV := Aside0.mk hcv
   have FV := Aside0.mk (Kd.F_mono hFv (ok' := fun k_ => g6 < k_) (fun k hk => by have z_ := ZZ.out; have h1 := SV4.out; have h2 : V4.heap.size ≤ k := hk; show g6 < k; omega))
   clear hFv hcv
   replace HB := HBs HB hb_
   replace K0 := KB K0 hb_
   replace K1 := KB K1 hb_
   replace K2 := KB K2 hb_
   replace K3 := KB K3 hb_
   replace K6 := KB K6 hb_
   replace F0 := FB F0 hb_
   replace F1 := FB F1 hb_
   replace F2 := FB F2 hb_
   replace F3 := FB F3 hb_
   replace FR := FB FR hb_
   clear hb_
   clear FR LR
   have n6 : ¬ g6 = w.heap.size := by have z_ := ZZ.out; omega
   have n6' : ¬ w.heap.size = g6 := by have z_ := ZZ.out; omega
   obtain ⟨x0, x1, x2, x3, x40, x41, x42, x43⟩ := cel4 K0.out
   obtain ⟨v0, v1, v2, v30, v31, v32⟩ := cel3 K6.out
   go_wp2_with fail
   clear x0 x1 x2 x3 x40 x41 x42 x43
   clear v0 v1 v2 v30 v31 v32
   clear n6 n6'
   obtain ⟨V5, hV5⟩ : ∃ V_, V_ = (w4.setCell ⟨w.heap.size, 2, none⟩ (.slice A9 (takeR o.loc a).1.length c9)) := ⟨_, rfl⟩
   rw [← hV5]
   have hge_ : w.heap.size ≤ w.heap.size := by have z_ := ZZ.out; omega
   have hst_ : St w.heap.size w (w.heap.size) 32 #[.slice P0 o.reg.length p0, .slice P1 o.que.length p1, .slice A9 (takeR o.loc a).1.length c9, .slice P3 o.map.length p3] w4 V5 := by rw [hV5]; exact (St.first HB.out hge_ K0.out 2 _ rfl)
   replace HB := Aside0.mk hst_.1
   replace K0 := Aside0.mk hst_.2.1
   have z_ := ZZ.out
   replace K1 := KS K1 hst_ (by omega)
   replace K2 := KS K2 hst_ (by omega)
   replace K3 := KS K3 hst_ (by omega)
   replace K6 := KS K6 hst_ (by omega)
   have e0_ : ∀ k_, (b1 ≤ k_ ∧ k_ < m1) → k_ ≠ w.heap.size := fun k_ h_ => by omega
   replace F0 := FS F0 hst_ e0_
   replace F1 := FS F1 hst_ e0_
   replace F2 := FS F2 hst_ e0_
   replace F3 := FS F3 hst_ e0_
   have e1_ : ∀ k_, (g6 < k_) → k_ ≠ w.heap.size := fun k_ h_ => by omega
   replace FV := FS FV hst_ e1_
   replace F9 := FS F9 hst_ e1_
   clear e0_ e1_
   have SV5 := Aside0.mk hst_.2.2.2
   clear hV5 hst_ hge_ z_
   generalize hV6 : World.setCell (World.setCell (World.setCell V5 _ _) _ _) _ _ = V6
   have hge_ : w.heap.size ≤ g6 := by have z_ := ZZ.out; omega
   have hst_ := st3 HB.out hge_ K6.out hV6
   replace HB := Aside0.mk hst_.1
   replace K6 := Aside0.mk hst_.2.1
   have z_ := ZZ.out
   replace K0 := KS K0 hst_ (by omega)
   replace K1 := KS K1 hst_ (by omega)
   replace K2 := KS K2 hst_ (by omega)
   replace K3 := KS K3 hst_ (by omega)
   have e0_ : ∀ k_, (b1 ≤ k_ ∧ k_ < m1) → k_ ≠ g6 := fun k_ h_ => by omega
   replace F0 := FS F0 hst_ e0_
   replace F1 := FS F1 hst_ e0_
   replace F2 := FS F2 hst_ e0_
   replace F3 := FS F3 hst_ e0_
   have e1_ : ∀ k_, (g6 < k_) → k_ ≠ g6 := fun k_ h_ => by omega
   replace FV := FS FV hst_ e1_
   replace F9 := FS F9 hst_ e1_
   clear e0_ e1_
   have SV6 := Aside0.mk hst_.2.2.2
   clear hV6 hst_ hge_ z_
   obtain ⟨x0, x1, x2, x3, x40, x41, x42, x43⟩ := cel4 K0.out
   obtain ⟨v0, v1, v2, v30, v31, v32⟩ := cel3 K6.out
   obtain ⟨s0, s1, s2, s3, s40, s41, s42, s43⟩ := cel4 K2.out
   obtain ⟨t0, t1, t2, t30, t31, t32⟩ := cel3 K3.out
   have n0 : ¬ g6 = w.heap.size + 1 + 1 := by have z_ := ZZ.out; omega
   have n0' : ¬ w.heap.size + 1 + 1 = g6 := by have z_ := ZZ.out; omega
   have n1 : ¬ g6 = w.heap.size + 1 + 1 + 1 := by have z_ := ZZ.out; omega
   have n1' : ¬ w.heap.size + 1 + 1 + 1 = g6 := by have z_ := ZZ.out; omega
   go_wp2_with fail
   go_region
   clear n0 n0' n1 n1'
   clear x0 x1 x2 x3 x40 x41 x42 x43
   clear v0 v1 v2 v30 v31 v32
   clear s0 s1 s2 s3 s40 s41 s42 s43
   clear t0 t1 t2 t30 t31 t32
   generalize hV7 : World.setCell (World.setCell (World.setCell (World.setCell V6 _ _) _ _) _ _) _ _ = V7
   have hge_ : w.heap.size ≤ w.heap.size + 1 + 1 := by have z_ := ZZ.out; omega
   have hst_ := st4 HB.out hge_ K2.out hV7
   replace HB := Aside0.mk hst_.1
   replace K2 := Aside0.mk hst_.2.1
   have z_ := ZZ.out
   replace K0 := KS K0 hst_ (by omega)
   replace K1 := KS K1 hst_ (by omega)
   replace K3 := KS K3 hst_ (by omega)
   replace K6 := KS K6 hst_ (by omega)
   have e0_ : ∀ k_, (b1 ≤ k_ ∧ k_ < m1) → k_ ≠ w.heap.size + 1 + 1 := fun k_ h_ => by omega
   replace F0 := FS F0 hst_ e0_
   replace F1 := FS F1 hst_ e0_
   replace F2 := FS F2 hst_ e0_
   replace F3 := FS F3 hst_ e0_
   have e1_ : ∀ k_, (g6 < k_) → k_ ≠ w.heap.size + 1 + 1 := fun k_ h_ => by omega
   replace FV := FS FV hst_ e1_
   replace F9 := FS F9 hst_ e1_
   clear e0_ e1_
   have SV7 := Aside0.mk hst_.2.2.2
   clear hV7 hst_ hge_ z_
   generalize hV8 : World.setCell (World.setCell (World.setCell V7 _ _) _ _) _ _ = V8
   have hge_ : w.heap.size ≤ w.heap.size + 1 + 1 + 1 := by have z_ := ZZ.out; omega
   have hst_ := st3 HB.out hge_ K3.out hV8
   replace HB := Aside0.mk hst_.1
   replace K3 := Aside0.mk hst_.2.1
   have z_ := ZZ.out
   replace K0 := KS K0 hst_ (by omega)
   replace K1 := KS K1 hst_ (by omega)
   replace K2 := KS K2 hst_ (by omega)
   replace K6 := KS K6 hst_ (by omega)
   have e0_ : ∀ k_, (b1 ≤ k_ ∧ k_ < m1) → k_ ≠ w.heap.size + 1 + 1 + 1 := fun k_ h_ => by omega
   replace F0 := FS F0 hst_ e0_
   replace F1 := FS F1 hst_ e0_
   replace F2 := FS F2 hst_ e0_
   replace F3 := FS F3 hst_ e0_
   have e1_ : ∀ k_, (g6 < k_) → k_ ≠ w.heap.size + 1 + 1 + 1 := fun k_ h_ => by omega
   replace FV := FS FV hst_ e1_
   replace F9 := FS F9 hst_ e1_
   clear e0_ e1_
   have SV8 := Aside0.mk hst_.2.2.2
   clear hV8 hst_ hge_ z_
   have bd_ := below_drew1 (Below.refl V8.heap.size V8)
   replace HB := HBs HB bd_
   replace K0 := KB K0 bd_
   replace K1 := KB K1 bd_
   replace K2 := KB K2 bd_
   replace K3 := KB K3 bd_
   replace K6 := KB K6 bd_
   replace F0 := FB F0 bd_
   replace F1 := FB F1 bd_
   replace F2 := FB F2 bd_
   replace F3 := FB F3 bd_
   replace FV := FB FV bd_
   replace F9 := FB F9 bd_
   clear bd_
   go_wp2
   refine bodyPost_ret (results_cc rfl _ _ (w.heap.size + 1 + 1) (w.heap.size + 1 + 1 + 1) 32 34 #[.slice P0 o.reg.length p0, .slice P1 o.que.length p1, .slice A9 (takeR o.loc a).1.length c9, .slice P3 o.map.length p3] #[.int .i64 (takeR o.loc a).2.f0, .slice Av (takeR o.loc a).2.f1.length cv, .int .i64 (takeR o.loc a).2.f2] (0, 0) (0, 0) _ _ rfl K2.out Try.underlying32 rfl (by kernel_rfl) rfl K3.out Try.underlying34 rfl (by kernel_rfl)) rfl ?_
   rw [HA.out]
   exact ⟨P0, p0, P1, p1, A9, c9, P3, p3, Av, cv, rfl, ⟨L0.out, Kd.F_mono F0.out (fun _ h => zq ZZ.out.1 h), L1.out, Kd.F_mono F1.out (fun _ h => zq ZZ.out.1 h), L9.out, Kd.F_mono F9.out (fun k_ hk => by have z_ := ZZ.out; have h2 : g6 < k_ := hk; show w.heap.size ≤ k_; omega), L3.out, Kd.F_mono F3.out (fun _ h => zq ZZ.out.1 h)⟩, LV.out, Kd.F_mono FV.out (fun k_ hk => by have z_ := ZZ.out; have h2 : g6 < k_ := hk; show w.heap.size ≤ k_; omega), HB.out⟩
  ·
   have hl : locksR o.loc 6 a = (o.loc, ⟨7, [], 0⟩) := by unfold locksR; rw [if_neg (by decide)]; rw [if_pos (by have := of_decide_eq_false d2; omega)]
   have HA : Aside0 (applyR o 6 a ke va ol = (o, (⟨7, [], 0⟩ : S26))) := Aside0.mk (by
    show (({ o with loc := (locksR o.loc 6 a).1 } : O), (locksR o.loc 6 a).2) = _
    rw [hl])
   clear hl
   go_wp2_with fail
   refine (hocketref4_bad.calls 7 7 [] 0 V2 rfl).mono ?_
   rintro e V3 ⟨vb, rfl, hR, hb_⟩
   obtain ⟨Rv, rv, rfl⟩ := Kd.R_slice hR
   have S3 := Aside0.mk hb_.size
   have FR := Aside0.mk (Kd.F_mono (Kd.F_bound (F_of_R hR)) (ok' := fun k => m1 ≤ k ∧ k < V3.heap.size) (fun k hk => ⟨by rw [hm1, ← SV2.out]; exact hk.1, hk.2⟩))
   have LR := Aside0.mk (Kd.R_reads' hR).2.1
   clear hR
   replace HB := HBs HB hb_
   replace K0 := KB K0 hb_
   replace K1 := KB K1 hb_
   replace K2 := KB K2 hb_
   replace K3 := KB K3 hb_
   replace F0 := FB F0 hb_
   replace F1 := FB F1 hb_
   replace F2 := FB F2 hb_
   replace F3 := FB F3 hb_
   clear hb_
   obtain ⟨m3, hm3⟩ : ∃ b_, b_ = V3.heap.size := ⟨_, rfl⟩
   rw [← hm3] at FR
   go_wp2_with (
    (with_reducible refine gate_dst (N := 6) rfl ?_)
    refine box_event ?hg (N := 6) ?hd (cs := #[.int .i64 0, .slice none 0 0, .int .i64 0]) (t := 34) ?hr ?_
    (case hd => rfl)
    (case hg => rfl)
    (case hr => go_simp <;> rfl)
    intro g6 hg Va hbox hb_
    have K6 := Aside0.mk hbox
    have hlt_ := (Array.getElem?_eq_some_iff.1 hbox).1
    have ZZ := Aside0.mk (show w.heap.size + 4 ≤ b1 ∧ b1 ≤ m1 ∧ m1 ≤ m3 ∧ m3 ≤ g6 ∧ g6 < Va.heap.size from ⟨Z1.out.1, Z1.out.2, by rw [hm1, hm3, ← SV2.out]; exact S3.out, by rw [hg, hm3]; exact Nat.le_refl _, hlt_⟩)
    have n0 : ¬ g6 = w.heap.size := by have z_ := ZZ.out; omega
    have n0' : ¬ w.heap.size = g6 := by have z_ := ZZ.out; omega
    have n1 : ¬ g6 = w.heap.size + 1 := by have z_ := ZZ.out; omega
    have n1' : ¬ w.heap.size + 1 = g6 := by have z_ := ZZ.out; omega
    clear hg hm1 hm3 Z1 SV2 hbox hlt_
    replace HB := HBs HB hb_
    replace K0 := KB K0 hb_
    replace K1 := KB K1 hb_
    replace K2 := KB K2 hb_
    replace K3 := KB K3 hb_
    replace F0 := FB F0 hb_
    replace F1 := FB F1 hb_
    replace F2 := FB F2 hb_
    replace F3 := FB F3 hb_
    replace FR := FB FR hb_
    clear hb_
    obtain ⟨x0, x1, x2, x3, x40, x41, x42, x43⟩ := cel4 K0.out
    obtain ⟨y0, y1, y2, y3, y4, y50, y51, y52, y53, y54⟩ := cel5 K1.out
    obtain ⟨v0, v1, v2, v30, v31, v32⟩ := cel3 K6.out)
   clear x0 x1 x2 x3 x40 x41 x42 x43
   clear y0 y1 y2 y3 y4 y50 y51 y52 y53 y54
   clear v0 v1 v2 v30 v31 v32
   clear n0 n0' n1 n1'
   generalize hV4 : World.setCell (World.setCell (World.setCell Va _ _) _ _) _ _ = V4
   have hge_ : w.heap.size ≤ g6 := by have z_ := ZZ.out; omega
   have hst_ := st3 HB.out hge_ K6.out hV4
   replace HB := Aside0.mk hst_.1
   replace K6 := Aside0.mk hst_.2.1
   have z_ := ZZ.out
   replace K0 := KS K0 hst_ (by omega)
   replace K1 := KS K1 hst_ (by omega)
   replace K2 := KS K2 hst_ (by omega)
   replace K3 := KS K3 hst_ (by omega)
   have e0_ : ∀ k_, (b1 ≤ k_ ∧ k_ < m1) → k_ ≠ g6 := fun k_ h_ => by omega
   replace F0 := FS F0 hst_ e0_
   replace F1 := FS F1 hst_ e0_
   replace F2 := FS F2 hst_ e0_
   replace F3 := FS F3 hst_ e0_
   have e1_ : ∀ k_, (m1 ≤ k_ ∧ k_ < m3) → k_ ≠ g6 := fun k_ h_ => by omega
   replace FR := FS FR hst_ e1_
   clear e0_ e1_
   have SV4 := Aside0.mk hst_.2.2.2
   clear hV4 hst_ hge_ z_
   obtain ⟨x0, x1, x2, x3, x40, x41, x42, x43⟩ := cel4 K0.out
   obtain ⟨v0, v1, v2, v30, v31, v32⟩ := cel3 K6.out
   obtain ⟨s0, s1, s2, s3, s40, s41, s42, s43⟩ := cel4 K2.out
   obtain ⟨t0, t1, t2, t30, t31, t32⟩ := cel3 K3.out
   have n0 : ¬ g6 = w.heap.size + 1 + 1 := by have z_ := ZZ.out; omega
   have n0' : ¬ w.heap.size + 1 + 1 = g6 := by have z_ := ZZ.out; omega
   have n1 : ¬ g6 = w.heap.size + 1 + 1 + 1 := by have z_ := ZZ.out; omega
   have n1' : ¬ w.heap.size + 1 + 1 + 1 = g6 := by have z_ := ZZ.out; omega
   go_region
   clear n0 n0' n1 n1'
   clear x0 x1 x2 x3 x40 x41 x42 x43
   clear v0 v1 v2 v30 v31 v32
   clear s0 s1 s2 s3 s40 s41 s42 s43
   clear t0 t1 t2 t30 t31 t32
   generalize hV7 : World.setCell (World.setCell (World.setCell (World.setCell V4 _ _) _ _) _ _) _ _ = V7
   have hge_ : w.heap.size ≤ w.heap.size + 1 + 1 := by have z_ := ZZ.out; omega
   have hst_ := st4 HB.out hge_ K2.out hV7
   replace HB := Aside0.mk hst_.1
   replace K2 := Aside0.mk hst_.2.1
   have z_ := ZZ.out
   replace K0 := KS K0 hst_ (by omega)
   replace K1 := KS K1 hst_ (by omega)
   replace K3 := KS K3 hst_ (by omega)
   replace K6 := KS K6 hst_ (by omega)
   have e0_ : ∀ k_, (b1 ≤ k_ ∧ k_ < m1) → k_ ≠ w.heap.size + 1 + 1 := fun k_ h_ => by omega
   replace F0 := FS F0 hst_ e0_
   replace F1 := FS F1 hst_ e0_
   replace F2 := FS F2 hst_ e0_
   replace F3 := FS F3 hst_ e0_
   have e1_ : ∀ k_, (m1 ≤ k_ ∧ k_ < m3) → k_ ≠ w.heap.size + 1 + 1 := fun k_ h_ => by omega
   replace FR := FS FR hst_ e1_
   clear e0_ e1_
   have SV7 := Aside0.mk hst_.2.2.2
   clear hV7 hst_ hge_ z_
   generalize hV8 : World.setCell (World.setCell (World.setCell V7 _ _) _ _) _ _ = V8
   have hge_ : w.heap.size ≤ w.heap.size + 1 + 1 + 1 := by have z_ := ZZ.out; omega
   have hst_ := st3 HB.out hge_ K3.out hV8
   replace HB := Aside0.mk hst_.1
   replace K3 := Aside0.mk hst_.2.1
   have z_ := ZZ.out
   replace K0 := KS K0 hst_ (by omega)
   replace K1 := KS K1 hst_ (by omega)
   replace K2 := KS K2 hst_ (by omega)
   replace K6 := KS K6 hst_ (by omega)
   have e0_ : ∀ k_, (b1 ≤ k_ ∧ k_ < m1) → k_ ≠ w.heap.size + 1 + 1 + 1 := fun k_ h_ => by omega
   replace F0 := FS F0 hst_ e0_
   replace F1 := FS F1 hst_ e0_
   replace F2 := FS F2 hst_ e0_
   replace F3 := FS F3 hst_ e0_
   have e1_ : ∀ k_, (m1 ≤ k_ ∧ k_ < m3) → k_ ≠ w.heap.size + 1 + 1 + 1 := fun k_ h_ => by omega
   replace FR := FS FR hst_ e1_
   clear e0_ e1_
   have SV8 := Aside0.mk hst_.2.2.2
   clear hV8 hst_ hge_ z_
   have bd_ := below_drew1 (Below.refl V8.heap.size V8)
   replace HB := HBs HB bd_
   replace K0 := KB K0 bd_
   replace K1 := KB K1 bd_
   replace K2 := KB K2 bd_
   replace K3 := KB K3 bd_
   replace K6 := KB K6 bd_
   replace F0 := FB F0 bd_
   replace F1 := FB F1 bd_
   replace F2 := FB F2 bd_
   replace F3 := FB F3 bd_
   replace FR := FB FR bd_
   clear bd_
   go_wp2
   refine bodyPost_ret (results_cc rfl _ _ (w.heap.size + 1 + 1) (w.heap.size + 1 + 1 + 1) 32 34 #[.slice P0 o.reg.length p0, .slice P1 o.que.length p1, .slice P2 o.loc.length p2, .slice P3 o.map.length p3] #[.int .i64 7, .slice Rv 0 rv, .int .i64 0] (0, 0) (0, 0) _ _ rfl K2.out Try.underlying32 rfl (by kernel_rfl) rfl K3.out Try.underlying34 rfl (by kernel_rfl)) rfl ?_
   rw [HA.out]
   exact ⟨P0, p0, P1, p1, P2, p2, P3, p3, Rv, rv, rfl, ⟨L0.out, Kd.F_mono F0.out (fun _ h => zq ZZ.out.1 h), L1.out, Kd.F_mono F1.out (fun _ h => zq ZZ.out.1 h), L2.out, Kd.F_mono F2.out (fun _ h => zq ZZ.out.1 h), L3.out, Kd.F_mono F3.out (fun _ h => zq ZZ.out.1 h)⟩, LR.out, Kd.F_mono FR.out (fun k_ hk => by have z_ := ZZ.out; have h2 : m1 ≤ k_ ∧ k_ < m3 := hk; show w.heap.size ≤ k_; omega), HB.out⟩
 by_cases h7 : kd = 7
 ·
  subst h7
  rcases (dec3 a) with d1 | ⟨d1, d2⟩ | ⟨d1, d2⟩
  ·
   have hl : locksR o.loc 7 a = (o.loc, ⟨7, [], 0⟩) := by unfold locksR; rw [if_neg (by decide)]; rw [if_pos (by have := of_decide_eq_false d1; omega)]
   have HA : Aside0 (applyR o 7 a ke va ol = (o, (⟨7, [], 0⟩ : S26))) := Aside0.mk (by
    show (({ o with loc := (locksR o.loc 7 a).1 } : O), (locksR o.loc 7 a).2) = _
    rw [hl])
   clear hl
   go_wp2_with fail
   refine (hocketref4_bad.calls 7 7 [] 0 V2 rfl).mono ?_
   rintro e V3 ⟨vb, rfl, hR, hb_⟩
   obtain ⟨Rv, rv, rfl⟩ := Kd.R_slice hR
   have S3 := Aside0.mk hb_.size
   have FR := Aside0.mk (Kd.F_mono (Kd.F_bound (F_of_R hR)) (ok' := fun k => m1 ≤ k ∧ k < V3.heap.size) (fun k hk => ⟨by rw [hm1, ← SV2.out]; exact hk.1, hk.2⟩))
   have LR := Aside0.mk (Kd.R_reads' hR).2.1
   clear hR
   replace HB := HBs HB hb_
   replace K0 := KB K0 hb_
   replace K1 := KB K1 hb_
   replace K2 := KB K2 hb_
   replace K3 := KB K3 hb_
   replace F0 := FB F0 hb_
   replace F1 := FB F1 hb_
   replace F2 := FB F2 hb_
   replace F3 := FB F3 hb_
   clear hb_
   obtain ⟨m3, hm3⟩ : ∃ b_, b_ = V3.heap.size := ⟨_, rfl⟩
   rw [← hm3] at FR
   go_wp2_with (
    (with_reducible refine gate_dst (N := 6) rfl ?_)
    refine box_event ?hg (N := 6) ?hd (cs := #[.int .i64 0, .slice none 0 0, .int .i64 0]) (t := 34) ?hr ?_
    (case hd => rfl)
    (case hg => rfl)
    (case hr => go_simp <;> rfl)
    intro g6 hg Va hbox hb_
    have K6 := Aside0.mk hbox
    have hlt_ := (Array.getElem?_eq_some_iff.1 hbox).1
    have ZZ := Aside0.mk (show w.heap.size + 4 ≤ b1 ∧ b1 ≤ m1 ∧ m1 ≤ m3 ∧ m3 ≤ g6 ∧ g6 < Va.heap.size from ⟨Z1.out.1, Z1.out.2, by rw [hm1, hm3, ← SV2.out]; exact S3.out, by rw [hg, hm3]; exact Nat.le_refl _, hlt_⟩)
    have n0 : ¬ g6 = w.heap.size := by have z_ := ZZ.out; omega
    have n0' : ¬ w.heap.size = g6 := by have z_ := ZZ.out; omega
    have n1 : ¬ g6 = w.heap.size + 1 := by have z_ := ZZ.out; omega
    have n1' : ¬ w.heap.size + 1 = g6 := by have z_ := ZZ.out; omega
    clear hg hm1 hm3 Z1 SV2 hbox hlt_
    replace HB := HBs HB hb_
    replace K0 := KB K0 hb_
    replace K1 := KB K1 hb_
    replace K2 := KB K2 hb_
    replace K3 := KB K3 hb_
    replace F0 := FB F0 hb_
    replace F1 := FB F1 hb_
    replace F2 := FB F2 hb_
    replace F3 := FB F3 hb_
    replace FR := FB FR hb_
    clear hb_
    obtain ⟨x0, x1, x2, x3, x40, x41, x42, x43⟩ := cel4 K0.out
    obtain ⟨y0, y1, y2, y3, y4, y50, y51, y52, y53, y54⟩ := cel5 K1.out
    obtain ⟨v0, v1, v2, v30, v31, v32⟩ := cel3 K6.out)
   clear x0 x1 x2 x3 x40 x41 x42 x43
   clear y0 y1 y2 y3 y4 y50 y51 y52 y53 y54
   clear v0 v1 v2 v30 v31 v32
   clear n0 n0' n1 n1'
   generalize hV4 : World.setCell (World.setCell (World.setCell Va _ _) _ _) _ _ = V4
   have hge_ : w.heap.size ≤ g6 := by have z_ := ZZ.out; omega
   have hst_ := st3 HB.out hge_ K6.out hV4
   replace HB := Aside0.mk hst_.1
   replace K6 := Aside0.mk hst_.2.1
   have z_ := ZZ.out
   replace K0 := KS K0 hst_ (by omega)
   replace K1 := KS K1 hst_ (by omega)
   replace K2 := KS K2 hst_ (by omega)
   replace K3 := KS K3 hst_ (by omega)
   have e0_ : ∀ k_, (b1 ≤ k_ ∧ k_ < m1) → k_ ≠ g6 := fun k_ h_ => by omega
   replace F0 := FS F0 hst_ e0_
   replace F1 := FS F1 hst_ e0_
   replace F2 := FS F2 hst_ e0_
   replace F3 := FS F3 hst_ e0_
   have e1_ : ∀ k_, (m1 ≤ k_ ∧ k_ < m3) → k_ ≠ g6 := fun k_ h_ => by omega
   replace FR := FS FR hst_ e1_
   clear e0_ e1_
   have SV4 := Aside0.mk hst_.2.2.2
   clear hV4 hst_ hge_ z_
   obtain ⟨x0, x1, x2, x3, x40, x41, x42, x43⟩ := cel4 K0.out
   obtain ⟨v0, v1, v2, v30, v31, v32⟩ := cel3 K6.out
   obtain ⟨s0, s1, s2, s3, s40, s41, s42, s43⟩ := cel4 K2.out
   obtain ⟨t0, t1, t2, t30, t31, t32⟩ := cel3 K3.out
   have n0 : ¬ g6 = w.heap.size + 1 + 1 := by have z_ := ZZ.out; omega
   have n0' : ¬ w.heap.size + 1 + 1 = g6 := by have z_ := ZZ.out; omega
   have n1 : ¬ g6 = w.heap.size + 1 + 1 + 1 := by have z_ := ZZ.out; omega
   have n1' : ¬ w.heap.size + 1 + 1 + 1 = g6 := by have z_ := ZZ.out; omega
   go_region
   clear n0 n0' n1 n1'
   clear x0 x1 x2 x3 x40 x41 x42 x43
   clear v0 v1 v2 v30 v31 v32
   clear s0 s1 s2 s3 s40 s41 s42 s43
   clear t0 t1 t2 t30 t31 t32
   generalize hV7 : World.setCell (World.setCell (World.setCell (World.setCell V4 _ _) _ _) _ _) _ _ = V7
   have hge_ : w.heap.size ≤ w.heap.size + 1 + 1 := by have z_ := ZZ.out; omega
   have hst_ := st4 HB.out hge_ K2.out hV7
   replace HB := Aside0.mk hst_.1
   replace K2 := Aside0.mk hst_.2.1
   have z_ := ZZ.out
   replace K0 := KS K0 hst_ (by omega)
   replace K1 := KS K1 hst_ (by omega)
   replace K3 := KS K3 hst_ (by omega)
   replace K6 := KS K6 hst_ (by omega)
   have e0_ : ∀ k_, (b1 ≤ k_ ∧ k_ < m1) → k_ ≠ w.heap.size + 1 + 1 := fun k_ h_ => by omega
   replace F0 := FS F0 hst_ e0_
   replace F1 := FS F1 hst_ e0_
   replace F2 := FS F2 hst_ e0_
   replace F3 := FS F3 hst_ e0_
   have e1_ : ∀ k_, (m1 ≤ k_ ∧ k_ < m3) → k_ ≠ w.heap.size + 1 + 1 := fun k_ h_ => by omega
   replace FR := FS FR hst_ e1_
   clear e0_ e1_
   have SV7 := Aside0.mk hst_.2.2.2
   clear hV7 hst_ hge_ z_
   generalize hV8 : World.setCell (World.setCell (World.setCell V7 _ _) _ _) _ _ = V8
   have hge_ : w.heap.size ≤ w.heap.size + 1 + 1 + 1 := by have z_ := ZZ.out; omega
   have hst_ := st3 HB.out hge_ K3.out hV8
   replace HB := Aside0.mk hst_.1
   replace K3 := Aside0.mk hst_.2.1
   have z_ := ZZ.out
   replace K0 := KS K0 hst_ (by omega)
   replace K1 := KS K1 hst_ (by omega)
   replace K2 := KS K2 hst_ (by omega)
   replace K6 := KS K6 hst_ (by omega)
   have e0_ : ∀ k_, (b1 ≤ k_ ∧ k_ < m1) → k_ ≠ w.heap.size + 1 + 1 + 1 := fun k_ h_ => by omega
   replace F0 := FS F0 hst_ e0_
   replace F1 := FS F1 hst_ e0_
   replace F2 := FS F2 hst_ e0_
   replace F3 := FS F3 hst_ e0_
   have e1_ : ∀ k_, (m1 ≤ k_ ∧ k_ < m3) → k_ ≠ w.heap.size + 1 + 1 + 1 := fun k_ h_ => by omega
   replace FR := FS FR hst_ e1_
   clear e0_ e1_
   have SV8 := Aside0.mk hst_.2.2.2
   clear hV8 hst_ hge_ z_
   have bd_ := below_drew1 (Below.refl V8.heap.size V8)
   replace HB := HBs HB bd_
   replace K0 := KB K0 bd_
   replace K1 := KB K1 bd_
   replace K2 := KB K2 bd_
   replace K3 := KB K3 bd_
   replace K6 := KB K6 bd_
   replace F0 := FB F0 bd_
   replace F1 := FB F1 bd_
   replace F2 := FB F2 bd_
   replace F3 := FB F3 bd_
   replace FR := FB FR bd_
   clear bd_
   go_wp2
   refine bodyPost_ret (results_cc rfl _ _ (w.heap.size + 1 + 1) (w.heap.size + 1 + 1 + 1) 32 34 #[.slice P0 o.reg.length p0, .slice P1 o.que.length p1, .slice P2 o.loc.length p2, .slice P3 o.map.length p3] #[.int .i64 7, .slice Rv 0 rv, .int .i64 0] (0, 0) (0, 0) _ _ rfl K2.out Try.underlying32 rfl (by kernel_rfl) rfl K3.out Try.underlying34 rfl (by kernel_rfl)) rfl ?_
   rw [HA.out]
   exact ⟨P0, p0, P1, p1, P2, p2, P3, p3, Rv, rv, rfl, ⟨L0.out, Kd.F_mono F0.out (fun _ h => zq ZZ.out.1 h), L1.out, Kd.F_mono F1.out (fun _ h => zq ZZ.out.1 h), L2.out, Kd.F_mono F2.out (fun _ h => zq ZZ.out.1 h), L3.out, Kd.F_mono F3.out (fun _ h => zq ZZ.out.1 h)⟩, LR.out, Kd.F_mono FR.out (fun k_ hk => by have z_ := ZZ.out; have h2 : m1 ≤ k_ ∧ k_ < m3 := hk; show w.heap.size ≤ k_; omega), HB.out⟩
  ·
   have hl : locksR o.loc 7 a = freeR o.loc a := by unfold locksR; rw [if_neg (by decide)]; rw [if_neg (by have := of_decide_eq_true d1; have := of_decide_eq_true d2; omega)]; rfl
   have HA : Aside0 (applyR o 7 a ke va ol = ({ o with loc := (freeR o.loc a).1 }, (freeR o.loc a).2)) := Aside0.mk (by
    show (({ o with loc := (locksR o.loc 7 a).1 } : O), (locksR o.loc 7 a).2) = _
    rw [hl])
   clear hl
   go_wp2_with fail
   refine (hocketref4_bad.calls 7 7 [] 0 V2 rfl).mono ?_
   rintro e V3 ⟨vb, rfl, hR, hb_⟩
   obtain ⟨Rv, rv, rfl⟩ := Kd.R_slice hR
   have S3 := Aside0.mk hb_.size
   have FR := Aside0.mk (Kd.F_mono (Kd.F_bound (F_of_R hR)) (ok' := fun k => m1 ≤ k ∧ k < V3.heap.size) (fun k hk => ⟨by rw [hm1, ← SV2.out]; exact hk.1, hk.2⟩))
   have LR := Aside0.mk (Kd.R_reads' hR).2.1
   clear hR
   replace HB := HBs HB hb_
   replace K0 := KB K0 hb_
   replace K1 := KB K1 hb_
   replace K2 := KB K2 hb_
   replace K3 := KB K3 hb_
   replace F0 := FB F0 hb_
   replace F1 := FB F1 hb_
   replace F2 := FB F2 hb_
   replace F3 := FB F3 hb_
   clear hb_
   obtain ⟨m3, hm3⟩ : ∃ b_, b_ = V3.heap.size := ⟨_, rfl⟩
   rw [← hm3] at FR
   go_wp2_with (
    (with_reducible refine gate_dst (N := 6) rfl ?_)
    refine box_event ?hg (N := 6) ?hd (cs := #[.int .i64 0, .slice none 0 0, .int .i64 0]) (t := 34) ?hr ?_
    (case hd => rfl)
    (case hg => rfl)
    (case hr => go_simp <;> rfl)
    intro g6 hg Va hbox hb_
    have K6 := Aside0.mk hbox
    have hlt_ := (Array.getElem?_eq_some_iff.1 hbox).1
    have ZZ := Aside0.mk (show w.heap.size + 4 ≤ b1 ∧ b1 ≤ m1 ∧ m1 ≤ m3 ∧ m3 ≤ g6 ∧ g6 < Va.heap.size from ⟨Z1.out.1, Z1.out.2, by rw [hm1, hm3, ← SV2.out]; exact S3.out, by rw [hg, hm3]; exact Nat.le_refl _, hlt_⟩)
    have n0 : ¬ g6 = w.heap.size := by have z_ := ZZ.out; omega
    have n0' : ¬ w.heap.size = g6 := by have z_ := ZZ.out; omega
    have n1 : ¬ g6 = w.heap.size + 1 := by have z_ := ZZ.out; omega
    have n1' : ¬ w.heap.size + 1 = g6 := by have z_ := ZZ.out; omega
    clear hg hm1 hm3 Z1 SV2 hbox hlt_
    replace HB := HBs HB hb_
    replace K0 := KB K0 hb_
    replace K1 := KB K1 hb_
    replace K2 := KB K2 hb_
    replace K3 := KB K3 hb_
    replace F0 := FB F0 hb_
    replace F1 := FB F1 hb_
    replace F2 := FB F2 hb_
    replace F3 := FB F3 hb_
    replace FR := FB FR hb_
    clear hb_
    obtain ⟨x0, x1, x2, x3, x40, x41, x42, x43⟩ := cel4 K0.out
    obtain ⟨y0, y1, y2, y3, y4, y50, y51, y52, y53, y54⟩ := cel5 K1.out
    obtain ⟨v0, v1, v2, v30, v31, v32⟩ := cel3 K6.out)
   clear x0 x1 x2 x3 x40 x41 x42 x43
   clear y0 y1 y2 y3 y4 y50 y51 y52 y53 y54
   clear v0 v1 v2 v30 v31 v32
   clear n0 n0' n1 n1'
   generalize hV4 : World.setCell (World.setCell (World.setCell Va _ _) _ _) _ _ = V4
   have hge_ : w.heap.size ≤ g6 := by have z_ := ZZ.out; omega
   have hst_ := st3 HB.out hge_ K6.out hV4
   replace HB := Aside0.mk hst_.1
   replace K6 := Aside0.mk hst_.2.1
   have z_ := ZZ.out
   replace K0 := KS K0 hst_ (by omega)
   replace K1 := KS K1 hst_ (by omega)
   replace K2 := KS K2 hst_ (by omega)
   replace K3 := KS K3 hst_ (by omega)
   have e0_ : ∀ k_, (b1 ≤ k_ ∧ k_ < m1) → k_ ≠ g6 := fun k_ h_ => by omega
   replace F0 := FS F0 hst_ e0_
   replace F1 := FS F1 hst_ e0_
   replace F2 := FS F2 hst_ e0_
   replace F3 := FS F3 hst_ e0_
   have e1_ : ∀ k_, (m1 ≤ k_ ∧ k_ < m3) → k_ ≠ g6 := fun k_ h_ => by omega
   replace FR := FS FR hst_ e1_
   clear e0_ e1_
   have SV4 := Aside0.mk hst_.2.2.2
   clear hV4 hst_ hge_ z_
   refine (free50 P2 p2 o.loc a V4 (Kd.F_now F2.out) L2.out HO.out.b2).mono ?_
   rintro e w4 ⟨A9, c9, Av, cv, rfl, hc9, hF9, hcv, hFv, hb_⟩
   have L9 := Aside0.mk hc9
   have F9 := Aside0.mk (Kd.F_mono hF9 (ok' := fun k_ => g6 < k_) (fun k hk => by have z_ := ZZ.out; have h1 := SV4.out; have h2 : V4.heap.size ≤ k := hk; show g6 < k; omega))
   clear hF9 hc9
   have LV := Aside0.mk hcv
   have FV := Aside0.mk (Kd.F_mono hFv (ok' := fun k_ => g6 < k_) (fun k hk => by have z_ := ZZ.out; have h1 := SV4.out; have h2 : V4.heap.size ≤ k := hk; show g6 < k; omega))
   clear hFv hcv
   replace HB := HBs HB hb_
   replace K0 := KB K0 hb_
   replace K1 := KB K1 hb_
   replace K2 := KB K2 hb_
   replace K3 := KB K3 hb_
   replace K6 := KB K6 hb_
   replace F0 := FB F0 hb_
   replace F1 := FB F1 hb_
   replace F2 := FB F2 hb_
   replace F3 := FB F3 hb_
   replace FR := FB FR hb_
   clear hb_
   clear FR LR
   have n6 : ¬ g6 = w.heap.size := by have z_ := ZZ.out; omega
   have n6' : ¬ w.heap.size = g6 := by have z_ := ZZ.out; omega
   obtain ⟨x0, x1, x2, x3, x40, x41, x42, x43⟩ := cel4 K0.out
   obtain ⟨v0, v1, v2, v30, v31, v32⟩ := cel3 K6.out
   go_wp2_with fail
   clear x0 x1 x2 x3 x40 x41 x42 x43
   clear v0 v1 v2 v30 v31 v32
   clear n6 n6'
   obtain ⟨V5, hV5⟩ : ∃ V_, V_ = (w4.setCell ⟨w.heap.size, 2, none⟩ (.slice A9 (freeR o.loc a).1.length c9)) := ⟨_, rfl⟩
   rw [← hV5]
   have hge_ : w.heap.size ≤ w.heap.size := by have z_ := ZZ.out; omega
   have hst_ : St w.heap.size w (w.heap.size) 32 #[.slice P0 o.reg.length p0, .slice P1 o.que.length p1, .slice A9 (freeR o.loc a).1.length c9, .slice P3 o.map.length p3] w4 V5 := by rw [hV5]; exact (St.first HB.out hge_ K0.out 2 _ rfl)
   replace HB := Aside0.mk hst_.1
   replace K0 := Aside0.mk hst_.2.1
   have z_ := ZZ.out
   replace K1 := KS K1 hst_ (by omega)
   replace K2 := KS K2 hst_ (by omega)
   replace K3 := KS K3 hst_ (by omega)
   replace K6 := KS K6 hst_ (by omega)
   have e0_ : ∀ k_, (b1 ≤ k_ ∧ k_ < m1) → k_ ≠ w.heap.size := fun k_ h_ => by omega
   replace F0 := FS F0 hst_ e0_
   replace F1 := FS F1 hst_ e0_
   replace F2 := FS F2 hst_ e0_
   replace F3 := FS F3 hst_ e0_
   have e1_ : ∀ k_, (g6 < k_) → k_ ≠ w.heap.size := fun k_ h_ => by omega
   replace FV := FS FV hst_ e1_
   replace F9 := FS F9 hst_ e1_
   clear e0_ e1_
   have SV5 := Aside0.mk hst_.2.2.2
   clear hV5 hst_ hge_ z_
   generalize hV6 : World.setCell (World.setCell (World.setCell V5 _ _) _ _) _ _ = V6
   have hge_ : w.heap.size ≤ g6 := by have z_ := ZZ.out; omega
   have hst_ := st3 HB.out hge_ K6.out hV6
   replace HB := Aside0.mk hst_.1
   replace K6 := Aside0.mk hst_.2.1
   have z_ := ZZ.out
   replace K0 := KS K0 hst_ (by omega)
   replace K1 := KS K1 hst_ (by omega)
   replace K2 := KS K2 hst_ (by omega)
   replace K3 := KS K3 hst_ (by omega)
   have e0_ : ∀ k_, (b1 ≤ k_ ∧ k_ < m1) → k_ ≠ g6 := fun k_ h_ => by omega
   replace F0 := FS F0 hst_ e0_
   replace F1 := FS F1 hst_ e0_
   replace F2 := FS F2 hst_ e0_
   replace F3 := FS F3 hst_ e0_
   have e1_ : ∀ k_, (g6 < k_) → k_ ≠ g6 := fun k_ h_ => by omega
   replace FV := FS FV hst_ e1_
   replace F9 := FS F9 hst_ e1_
   clear e0_ e1_
   have SV6 := Aside0.mk hst_.2.2.2
   clear hV6 hst_ hge_ z_
   obtain ⟨x0, x1, x2, x3, x40, x41, x42, x43⟩ := cel4 K0.out
   obtain ⟨v0, v1, v2, v30, v31, v32⟩ := cel3 K6.out
   obtain ⟨s0, s1, s2, s3, s40, s41, s42, s43⟩ := cel4 K2.out
   obtain ⟨t0, t1, t2, t30, t31, t32⟩ := cel3 K3.out
   have n0 : ¬ g6 = w.heap.size + 1 + 1 := by have z_ := ZZ.out; omega
   have n0' : ¬ w.heap.size + 1 + 1 = g6 := by have z_ := ZZ.out; omega
   have n1 : ¬ g6 = w.heap.size + 1 + 1 + 1 := by have z_ := ZZ.out; omega
   have n1' : ¬ w.heap.size + 1 + 1 + 1 = g6 := by have z_ := ZZ.out; omega
   go_wp2_with fail
   go_region
   clear n0 n0' n1 n1'
   clear x0 x1 x2 x3 x40 x41 x42 x43
   clear v0 v1 v2 v30 v31 v32
   clear s0 s1 s2 s3 s40 s41 s42 s43
   clear t0 t1 t2 t30 t31 t32
   generalize hV7 : World.setCell (World.setCell (World.setCell (World.setCell V6 _ _) _ _) _ _) _ _ = V7
   have hge_ : w.heap.size ≤ w.heap.size + 1 + 1 := by have z_ := ZZ.out; omega
   have hst_ := st4 HB.out hge_ K2.out hV7
   replace HB := Aside0.mk hst_.1
   replace K2 := Aside0.mk hst_.2.1
   have z_ := ZZ.out
   replace K0 := KS K0 hst_ (by omega)
   replace K1 := KS K1 hst_ (by omega)
   replace K3 := KS K3 hst_ (by omega)
   replace K6 := KS K6 hst_ (by omega)
   have e0_ : ∀ k_, (b1 ≤ k_ ∧ k_ < m1) → k_ ≠ w.heap.size + 1 + 1 := fun k_ h_ => by omega
   replace F0 := FS F0 hst_ e0_
   replace F1 := FS F1 hst_ e0_
   replace F2 := FS F2 hst_ e0_
   replace F3 := FS F3 hst_ e0_
   have e1_ : ∀ k_, (g6 < k_) → k_ ≠ w.heap.size + 1 + 1 := fun k_ h_ => by omega
   replace FV := FS FV hst_ e1_
   replace F9 := FS F9 hst_ e1_
   clear e0_ e1_
   have SV7 := Aside0.mk hst_.2.2.2
   clear hV7 hst_ hge_ z_
   generalize hV8 : World.setCell (World.setCell (World.setCell V7 _ _) _ _) _ _ = V8
   have hge_ : w.heap.size ≤ w.heap.size + 1 + 1 + 1 := by have z_ := ZZ.out; omega
   have hst_ := st3 HB.out hge_ K3.out hV8
   replace HB := Aside0.mk hst_.1
   replace K3 := Aside0.mk hst_.2.1
   have z_ := ZZ.out
   replace K0 := KS K0 hst_ (by omega)
   replace K1 := KS K1 hst_ (by omega)
   replace K2 := KS K2 hst_ (by omega)
   replace K6 := KS K6 hst_ (by omega)
   have e0_ : ∀ k_, (b1 ≤ k_ ∧ k_ < m1) → k_ ≠ w.heap.size + 1 + 1 + 1 := fun k_ h_ => by omega
   replace F0 := FS F0 hst_ e0_
   replace F1 := FS F1 hst_ e0_
   replace F2 := FS F2 hst_ e0_
   replace F3 := FS F3 hst_ e0_
   have e1_ : ∀ k_, (g6 < k_) → k_ ≠ w.heap.size + 1 + 1 + 1 := fun k_ h_ => by omega
   replace FV := FS FV hst_ e1_
   replace F9 := FS F9 hst_ e1_
   clear e0_ e1_
   have SV8 := Aside0.mk hst_.2.2.2
   clear hV8 hst_ hge_ z_
   have bd_ := below_drew1 (Below.refl V8.heap.size V8)
   replace HB := HBs HB bd_
   replace K0 := KB K0 bd_
   replace K1 := KB K1 bd_
   replace K2 := KB K2 bd_
   replace K3 := KB K3 bd_
   replace K6 := KB K6 bd_
   replace F0 := FB F0 bd_
   replace F1 := FB F1 bd_
   replace F2 := FB F2 bd_
   replace F3 := FB F3 bd_
   replace FV := FB FV bd_
   replace F9 := FB F9 bd_
   clear bd_
   go_wp2
   refine bodyPost_ret (results_cc rfl _ _ (w.heap.size + 1 + 1) (w.heap.size + 1 + 1 + 1) 32 34 #[.slice P0 o.reg.length p0, .slice P1 o.que.length p1, .slice A9 (freeR o.loc a).1.length c9, .slice P3 o.map.length p3] #[.int .i64 (freeR o.loc a).2.f0, .slice Av (freeR o.loc a).2.f1.length cv, .int .i64 (freeR o.loc a).2.f2] (0, 0) (0, 0) _ _ rfl K2.out Try.underlying32 rfl (by kernel_rfl) rfl K3.out Try.underlying34 rfl (by kernel_rfl)) rfl ?_
   rw [HA.out]
   exact ⟨P0, p0, P1, p1, A9, c9, P3, p3, Av, cv, rfl, ⟨L0.out, Kd.F_mono F0.out (fun _ h => zq ZZ.out.1 h), L1.out, Kd.F_mono F1.out (fun _ h => zq ZZ.out.1 h), L9.out, Kd.F_mono F9.out (fun k_ hk => by have z_ := ZZ.out; have h2 : g6 < k_ := hk; show w.heap.size ≤ k_; omega), L3.out, Kd.F_mono F3.out (fun _ h => zq ZZ.out.1 h)⟩, LV.out, Kd.F_mono FV.out (fun k_ hk => by have z_ := ZZ.out; have h2 : g6 < k_ := hk; show w.heap.size ≤ k_; omega), HB.out⟩
  ·
   have hl : locksR o.loc 7 a = (o.loc, ⟨7, [], 0⟩) := by unfold locksR; rw [if_neg (by decide)]; rw [if_pos (by have := of_decide_eq_false d2; omega)]
   have HA : Aside0 (applyR o 7 a ke va ol = (o, (⟨7, [], 0⟩ : S26))) := Aside0.mk (by
    show (({ o with loc := (locksR o.loc 7 a).1 } : O), (locksR o.loc 7 a).2) = _
    rw [hl])
   clear hl
   go_wp2_with fail
   refine (hocketref4_bad.calls 7 7 [] 0 V2 rfl).mono ?_
   rintro e V3 ⟨vb, rfl, hR, hb_⟩
   obtain ⟨Rv, rv, rfl⟩ := Kd.R_slice hR
   have S3 := Aside0.mk hb_.size
   have FR := Aside0.mk (Kd.F_mono (Kd.F_bound (F_of_R hR)) (ok' := fun k => m1 ≤ k ∧ k < V3.heap.size) (fun k hk => ⟨by rw [hm1, ← SV2.out]; exact hk.1, hk.2⟩))
   have LR := Aside0.mk (Kd.R_reads' hR).2.1
   clear hR
   replace HB := HBs HB hb_
   replace K0 := KB K0 hb_
   replace K1 := KB K1 hb_
   replace K2 := KB K2 hb_
   replace K3 := KB K3 hb_
   replace F0 := FB F0 hb_
   replace F1 := FB F1 hb_
   replace F2 := FB F2 hb_
   replace F3 := FB F3 hb_
   clear hb_
   obtain ⟨m3, hm3⟩ : ∃ b_, b_ = V3.heap.size := ⟨_, rfl⟩
   rw [← hm3] at FR
   go_wp2_with (
    (with_reducible refine gate_dst (N := 6) rfl ?_)
    refine box_event ?hg (N := 6) ?hd (cs := #[.int .i64 0, .slice none 0 0, .int .i64 0]) (t := 34) ?hr ?_
    (case hd => rfl)
    (case hg => rfl)
    (case hr => go_simp <;> rfl)
    intro g6 hg Va hbox hb_
    have K6 := Aside0.mk hbox
    have hlt_ := (Array.getElem?_eq_some_iff.1 hbox).1
    have ZZ := Aside0.mk (show w.heap.size + 4 ≤ b1 ∧ b1 ≤ m1 ∧ m1 ≤ m3 ∧ m3 ≤ g6 ∧ g6 < Va.heap.size from ⟨Z1.out.1, Z1.out.2, by rw [hm1, hm3, ← SV2.out]; exact S3.out, by rw [hg, hm3]; exact Nat.le_refl _, hlt_⟩)
    have n0 : ¬ g6 = w.heap.size := by have z_ := ZZ.out; omega
    have n0' : ¬ w.heap.size = g6 := by have z_ := ZZ.out; omega
    have n1 : ¬ g6 = w.heap.size + 1 := by have z_ := ZZ.out; omega
    have n1' : ¬ w.heap.size + 1 = g6 := by have z_ := ZZ.out; omega
    clear hg hm1 hm3 Z1 SV2 hbox hlt_
    replace HB := HBs HB hb_
    replace K0 := KB K0 hb_
    replace K1 := KB K1 hb_
    replace K2 := KB K2 hb_
    replace K3 := KB K3 hb_
    replace F0 := FB F0 hb_
    replace F1 := FB F1 hb_
    replace F2 := FB F2 hb_
    replace F3 := FB F3 hb_
    replace FR := FB FR hb_
    clear hb_
    obtain ⟨x0, x1, x2, x3, x40, x41, x42, x43⟩ := cel4 K0.out
    obtain ⟨y0, y1, y2, y3, y4, y50, y51, y52, y53, y54⟩ := cel5 K1.out
    obtain ⟨v0, v1, v2, v30, v31, v32⟩ := cel3 K6.out)
   clear x0 x1 x2 x3 x40 x41 x42 x43
   clear y0 y1 y2 y3 y4 y50 y51 y52 y53 y54
   clear v0 v1 v2 v30 v31 v32
   clear n0 n0' n1 n1'
   generalize hV4 : World.setCell (World.setCell (World.setCell Va _ _) _ _) _ _ = V4
   have hge_ : w.heap.size ≤ g6 := by have z_ := ZZ.out; omega
   have hst_ := st3 HB.out hge_ K6.out hV4
   replace HB := Aside0.mk hst_.1
   replace K6 := Aside0.mk hst_.2.1
   have z_ := ZZ.out
   replace K0 := KS K0 hst_ (by omega)
   replace K1 := KS K1 hst_ (by omega)
   replace K2 := KS K2 hst_ (by omega)
   replace K3 := KS K3 hst_ (by omega)
   have e0_ : ∀ k_, (b1 ≤ k_ ∧ k_ < m1) → k_ ≠ g6 := fun k_ h_ => by omega
   replace F0 := FS F0 hst_ e0_
   replace F1 := FS F1 hst_ e0_
   replace F2 := FS F2 hst_ e0_
   replace F3 := FS F3 hst_ e0_
   have e1_ : ∀ k_, (m1 ≤ k_ ∧ k_ < m3) → k_ ≠ g6 := fun k_ h_ => by omega
   replace FR := FS FR hst_ e1_
   clear e0_ e1_
   have SV4 := Aside0.mk hst_.2.2.2
   clear hV4 hst_ hge_ z_
   obtain ⟨x0, x1, x2, x3, x40, x41, x42, x43⟩ := cel4 K0.out
   obtain ⟨v0, v1, v2, v30, v31, v32⟩ := cel3 K6.out
   obtain ⟨s0, s1, s2, s3, s40, s41, s42, s43⟩ := cel4 K2.out
   obtain ⟨t0, t1, t2, t30, t31, t32⟩ := cel3 K3.out
   have n0 : ¬ g6 = w.heap.size + 1 + 1 := by have z_ := ZZ.out; omega
   have n0' : ¬ w.heap.size + 1 + 1 = g6 := by have z_ := ZZ.out; omega
   have n1 : ¬ g6 = w.heap.size + 1 + 1 + 1 := by have z_ := ZZ.out; omega
   have n1' : ¬ w.heap.size + 1 + 1 + 1 = g6 := by have z_ := ZZ.out; omega
   go_region
   clear n0 n0' n1 n1'
   clear x0 x1 x2 x3 x40 x41 x42 x43
   clear v0 v1 v2 v30 v31 v32
   clear s0 s1 s2 s3 s40 s41 s42 s43
   clear t0 t1 t2 t30 t31 t32
   generalize hV7 : World.setCell (World.setCell (World.setCell (World.setCell V4 _ _) _ _) _ _) _ _ = V7
   have hge_ : w.heap.size ≤ w.heap.size + 1 + 1 := by have z_ := ZZ.out; omega
   have hst_ := st4 HB.out hge_ K2.out hV7
   replace HB := Aside0.mk hst_.1
   replace K2 := Aside0.mk hst_.2.1
   have z_ := ZZ.out
   replace K0 := KS K0 hst_ (by omega)
   replace K1 := KS K1 hst_ (by omega)
   replace K3 := KS K3 hst_ (by omega)
   replace K6 := KS K6 hst_ (by omega)
   have e0_ : ∀ k_, (b1 ≤ k_ ∧ k_ < m1) → k_ ≠ w.heap.size + 1 + 1 := fun k_ h_ => by omega
   replace F0 := FS F0 hst_ e0_
   replace F1 := FS F1 hst_ e0_
   replace F2 := FS F2 hst_ e0_
   replace F3 := FS F3 hst_ e0_
   have e1_ : ∀ k_, (m1 ≤ k_ ∧ k_ < m3) → k_ ≠ w.heap.size + 1 + 1 := fun k_ h_ => by omega
   replace FR := FS FR hst_ e1_
   clear e0_ e1_
   have SV7 := Aside0.mk hst_.2.2.2
   clear hV7 hst_ hge_ z_
   generalize hV8 : World.setCell (World.setCell (World.setCell V7 _ _) _ _) _ _ = V8
   have hge_ : w.heap.size ≤ w.heap.size + 1 + 1 + 1 := by have z_ := ZZ.out; omega
   have hst_ := st3 HB.out hge_ K3.out hV8
   replace HB := Aside0.mk hst_.1
   replace K3 := Aside0.mk hst_.2.1
   have z_ := ZZ.out
   replace K0 := KS K0 hst_ (by omega)
   replace K1 := KS K1 hst_ (by omega)
   replace K2 := KS K2 hst_ (by omega)
   replace K6 := KS K6 hst_ (by omega)
   have e0_ : ∀ k_, (b1 ≤ k_ ∧ k_ < m1) → k_ ≠ w.heap.size + 1 + 1 + 1 := fun k_ h_ => by omega
   replace F0 := FS F0 hst_ e0_
   replace F1 := FS F1 hst_ e0_
   replace F2 := FS F2 hst_ e0_
   replace F3 := FS F3 hst_ e0_
   have e1_ : ∀ k_, (m1 ≤ k_ ∧ k_ < m3) → k_ ≠ w.heap.size + 1 + 1 + 1 := fun k_ h_ => by omega
   replace FR := FS FR hst_ e1_
   clear e0_ e1_
   have SV8 := Aside0.mk hst_.2.2.2
   clear hV8 hst_ hge_ z_
   have bd_ := below_drew1 (Below.refl V8.heap.size V8)
   replace HB := HBs HB bd_
   replace K0 := KB K0 bd_
   replace K1 := KB K1 bd_
   replace K2 := KB K2 bd_
   replace K3 := KB K3 bd_
   replace K6 := KB K6 bd_
   replace F0 := FB F0 bd_
   replace F1 := FB F1 bd_
   replace F2 := FB F2 bd_
   replace F3 := FB F3 bd_
   replace FR := FB FR bd_
   clear bd_
   go_wp2
   refine bodyPost_ret (results_cc rfl _ _ (w.heap.size + 1 + 1) (w.heap.size + 1 + 1 + 1) 32 34 #[.slice P0 o.reg.length p0, .slice P1 o.que.length p1, .slice P2 o.loc.length p2, .slice P3 o.map.length p3] #[.int .i64 7, .slice Rv 0 rv, .int .i64 0] (0, 0) (0, 0) _ _ rfl K2.out Try.underlying32 rfl (by kernel_rfl) rfl K3.out Try.underlying34 rfl (by kernel_rfl)) rfl ?_
   rw [HA.out]
   exact ⟨P0, p0, P1, p1, P2, p2, P3, p3, Rv, rv, rfl, ⟨L0.out, Kd.F_mono F0.out (fun _ h => zq ZZ.out.1 h), L1.out, Kd.F_mono F1.out (fun _ h => zq ZZ.out.1 h), L2.out, Kd.F_mono F2.out (fun _ h => zq ZZ.out.1 h), L3.out, Kd.F_mono F3.out (fun _ h => zq ZZ.out.1 h)⟩, LR.out, Kd.F_mono FR.out (fun k_ hk => by have z_ := ZZ.out; have h2 : m1 ≤ k_ ∧ k_ < m3 := hk; show w.heap.size ≤ k_; omega), HB.out⟩
 by_cases h8 : kd = 8
 ·
  subst h8
  have HA : Aside0 (applyR o 8 a ke va ol = (o, ownerR o.loc)) := Aside0.mk rfl
  rcases (dec3 a) with d1 | ⟨d1, d2⟩ | ⟨d1, d2⟩
  all_goals (
   go_wp2_with fail
   refine (hocketref4_bad.calls 7 7 [] 0 V2 rfl).mono ?_
   rintro e V3 ⟨vb, rfl, hR, hb_⟩
   obtain ⟨Rv, rv, rfl⟩ := Kd.R_slice hR
   have S3 := Aside0.mk hb_.size
   have FR := Aside0.mk (Kd.F_mono (Kd.F_bound (F_of_R hR)) (ok' := fun k => m1 ≤ k ∧ k < V3.heap.size) (fun k hk => ⟨by rw [hm1, ← SV2.out]; exact hk.1, hk.2⟩))
   have LR := Aside0.mk (Kd.R_reads' hR).2.1
   clear hR
   replace HB := HBs HB hb_
   replace K0 := KB K0 hb_
   replace K1 := KB K1 hb_
   replace K2 := KB K2 hb_
   replace K3 := KB K3 hb_
   replace F0 := FB F0 hb_
   replace F1 := FB F1 hb_
   replace F2 := FB F2 hb_
   replace F3 := FB F3 hb_
   clear hb_
   obtain ⟨m3, hm3⟩ : ∃ b_, b_ = V3.heap.size := ⟨_, rfl⟩
   rw [← hm3] at FR
   go_wp2_with (
    (with_reducible refine gate_dst (N := 6) rfl ?_)
    refine box_event ?hg (N := 6) ?hd (cs := #[.int .i64 0, .slice none 0 0, .int .i64 0]) (t := 34) ?hr ?_
    (case hd => rfl)
    (case hg => rfl)
    (case hr => go_simp <;> rfl)
    intro g6 hg Va hbox hb_
    have K6 := Aside0.mk hbox
    have hlt_ := (Array.getElem?_eq_some_iff.1 hbox).1
    have ZZ := Aside0.mk (show w.heap.size + 4 ≤ b1 ∧ b1 ≤ m1 ∧ m1 ≤ m3 ∧ m3 ≤ g6 ∧ g6 < Va.heap.size from ⟨Z1.out.1, Z1.out.2, by rw [hm1, hm3, ← SV2.out]; exact S3.out, by rw [hg, hm3]; exact Nat.le_refl _, hlt_⟩)
    have n0 : ¬ g6 = w.heap.size := by have z_ := ZZ.out; omega
    have n0' : ¬ w.heap.size = g6 := by have z_ := ZZ.out; omega
    have n1 : ¬ g6 = w.heap.size + 1 := by have z_ := ZZ.out; omega
    have n1' : ¬ w.heap.size + 1 = g6 := by have z_ := ZZ.out; omega
    clear hg hm1 hm3 Z1 SV2 hbox hlt_
    replace HB := HBs HB hb_
    replace K0 := KB K0 hb_
    replace K1 := KB K1 hb_
    replace K2 := KB K2 hb_
    replace K3 := KB K3 hb_
    replace F0 := FB F0 hb_
    replace F1 := FB F1 hb_
    replace F2 := FB F2 hb_
    replace F3 := FB F3 hb_
    replace FR := FB FR hb_
    clear hb_
    obtain ⟨x0, x1, x2, x3, x40, x41, x42, x43⟩ := cel4 K0.out
    obtain ⟨y0, y1, y2, y3, y4, y50, y51, y52, y53, y54⟩ := cel5 K1.out
    obtain ⟨v0, v1, v2, v30, v31, v32⟩ := cel3 K6.out)
   clear x0 x1 x2 x3 x40 x41 x42 x43
   clear y0 y1 y2 y3 y4 y50 y51 y52 y53 y54
   clear v0 v1 v2 v30 v31 v32
   clear n0 n0' n1 n1'
   generalize hV4 : World.setCell (World.setCell (World.setCell Va _ _) _ _) _ _ = V4
   have hge_ : w.heap.size ≤ g6 := by have z_ := ZZ.out; omega
   have hst_ := st3 HB.out hge_ K6.out hV4
   replace HB := Aside0.mk hst_.1
   replace K6 := Aside0.mk hst_.2.1
   have z_ := ZZ.out
   replace K0 := KS K0 hst_ (by omega)
   replace K1 := KS K1 hst_ (by omega)
   replace K2 := KS K2 hst_ (by omega)
   replace K3 := KS K3 hst_ (by omega)
   have e0_ : ∀ k_, (b1 ≤ k_ ∧ k_ < m1) → k_ ≠ g6 := fun k_ h_ => by omega
   replace F0 := FS F0 hst_ e0_
   replace F1 := FS F1 hst_ e0_
   replace F2 := FS F2 hst_ e0_
   replace F3 := FS F3 hst_ e0_
   have e1_ : ∀ k_, (m1 ≤ k_ ∧ k_ < m3) → k_ ≠ g6 := fun k_ h_ => by omega
   replace FR := FS FR hst_ e1_
   clear e0_ e1_
   have SV4 := Aside0.mk hst_.2.2.2
   clear hV4 hst_ hge_ z_
   refine (owner51 P2 p2 o.loc V4 (Kd.F_now F2.out) L2.out).mono ?_
   rintro e w4 ⟨Av, cv, rfl, hcv, hFv, hb_⟩
   have LV := Aside0.mk hcv
   have FV := Aside0.mk (Kd.F_mono hFv (ok' := fun k_ => g6 < k_) (fun k hk => by have z_ := ZZ.out; have h1 := SV4.out; have h2 : V4.heap.size ≤ k := hk; show g6 < k; omega))
   clear hFv hcv
   replace HB := HBs HB hb_
   replace K0 := KB K0 hb_
   replace K1 := KB K1 hb_
   replace K2 := KB K2 hb_
   replace K3 := KB K3 hb_
   replace K6 := KB K6 hb_
   replace F0 := FB F0 hb_
   replace F1 := FB F1 hb_
   replace F2 := FB F2 hb_
   replace F3 := FB F3 hb_
   replace FR := FB FR hb_
   clear hb_
   clear FR LR
   have n6 : ¬ g6 = w.heap.size := by have z_ := ZZ.out; omega
   have n6' : ¬ w.heap.size = g6 := by have z_ := ZZ.out; omega
   obtain ⟨x0, x1, x2, x3, x40, x41, x42, x43⟩ := cel4 K0.out
   obtain ⟨v0, v1, v2, v30, v31, v32⟩ := cel3 K6.out
   go_wp2_with fail
   clear x0 x1 x2 x3 x40 x41 x42 x43
   clear v0 v1 v2 v30 v31 v32
   clear n6 n6'
   generalize hV6 : World.setCell (World.setCell (World.setCell w4 _ _) _ _) _ _ = V6
   have hge_ : w.heap.size ≤ g6 := by have z_ := ZZ.out; omega
   have hst_ := st3 HB.out hge_ K6.out hV6
   replace HB := Aside0.mk hst_.1
   replace K6 := Aside0.mk hst_.2.1
   have z_ := ZZ.out
   replace K0 := KS K0 hst_ (by omega)
   replace K1 := KS K1 hst_ (by omega)
   replace K2 := KS K2 hst_ (by omega)
   replace K3 := KS K3 hst_ (by omega)
   have e0_ : ∀ k_, (b1 ≤ k_ ∧ k_ < m1) → k_ ≠ g6 := fun k_ h_ => by omega
   replace F0 := FS F0 hst_ e0_
   replace F1 := FS F1 hst_ e0_
   replace F2 := FS F2 hst_ e0_
   replace F3 := FS F3 hst_ e0_
   have e1_ : ∀ k_, (g6 < k_) → k_ ≠ g6 := fun k_ h_ => by omega
   replace FV := FS FV hst_ e1_
   clear e0_ e1_
   have SV6 := Aside0.mk hst_.2.2.2
   clear hV6 hst_ hge_ z_
   obtain ⟨x0, x1, x2, x3, x40, x41, x42, x43⟩ := cel4 K0.out
   obtain ⟨v0, v1, v2, v30, v31, v32⟩ := cel3 K6.out
   obtain ⟨s0, s1, s2, s3, s40, s41, s42, s43⟩ := cel4 K2.out
   obtain ⟨t0, t1, t2, t30, t31, t32⟩ := cel3 K3.out
   have n0 : ¬ g6 = w.heap.size + 1 + 1 := by have z_ := ZZ.out; omega
   have n0' : ¬ w.heap.size + 1 + 1 = g6 := by have z_ := ZZ.out; omega
   have n1 : ¬ g6 = w.heap.size + 1 + 1 + 1 := by have z_ := ZZ.out; omega
   have n1' : ¬ w.heap.size + 1 + 1 + 1 = g6 := by have z_ := ZZ.out; omega
   go_wp2_with fail
   go_region
   clear n0 n0' n1 n1'
   clear x0 x1 x2 x3 x40 x41 x42 x43
   clear v0 v1 v2 v30 v31 v32
   clear s0 s1 s2 s3 s40 s41 s42 s43
   clear t0 t1 t2 t30 t31 t32
   generalize hV7 : World.setCell (World.setCell (World.setCell (World.setCell V6 _ _) _ _) _ _) _ _ = V7
   have hge_ : w.heap.size ≤ w.heap.size + 1 + 1 := by have z_ := ZZ.out; omega
   have hst_ := st4 HB.out hge_ K2.out hV7
   replace HB := Aside0.mk hst_.1
   replace K2 := Aside0.mk hst_.2.1
   have z_ := ZZ.out
   replace K0 := KS K0 hst_ (by omega)
   replace K1 := KS K1 hst_ (by omega)
   replace K3 := KS K3 hst_ (by omega)
   replace K6 := KS K6 hst_ (by omega)
   have e0_ : ∀ k_, (b1 ≤ k_ ∧ k_ < m1) → k_ ≠ w.heap.size + 1 + 1 := fun k_ h_ => by omega
   replace F0 := FS F0 hst_ e0_
   replace F1 := FS F1 hst_ e0_
   replace F2 := FS F2 hst_ e0_
   replace F3 := FS F3 hst_ e0_
   have e1_ : ∀ k_, (g6 < k_) → k_ ≠ w.heap.size + 1 + 1 := fun k_ h_ => by omega
   replace FV := FS FV hst_ e1_
   clear e0_ e1_
   have SV7 := Aside0.mk hst_.2.2.2
   clear hV7 hst_ hge_ z_
   generalize hV8 : World.setCell (World.setCell (World.setCell V7 _ _) _ _) _ _ = V8
   have hge_ : w.heap.size ≤ w.heap.size + 1 + 1 + 1 := by have z_ := ZZ.out; omega
   have hst_ := st3 HB.out hge_ K3.out hV8
   replace HB := Aside0.mk hst_.1
   replace K3 := Aside0.mk hst_.2.1
   have z_ := ZZ.out
   replace K0 := KS K0 hst_ (by omega)
   replace K1 := KS K1 hst_ (by omega)
   replace K2 := KS K2 hst_ (by omega)
   replace K6 := KS K6 hst_ (by omega)
   have e0_ : ∀ k_, (b1 ≤ k_ ∧ k_ < m1) → k_ ≠ w.heap.size + 1 + 1 + 1 := fun k_ h_ => by omega
   replace F0 := FS F0 hst_ e0_
   replace F1 := FS F1 hst_ e0_
   replace F2 := FS F2 hst_ e0_
   replace F3 := FS F3 hst_ e0_
   have e1_ : ∀ k_, (g6 < k_) → k_ ≠ w.heap.size + 1 + 1 + 1 := fun k_ h_ => by omega
   replace FV := FS FV hst_ e1_
   clear e0_ e1_
   have SV8 := Aside0.mk hst_.2.2.2
   clear hV8 hst_ hge_ z_
   have bd_ := below_drew1 (Below.refl V8.heap.size V8)
   replace HB := HBs HB bd_
   replace K0 := KB K0 bd_
   replace K1 := KB K1 bd_
   replace K2 := KB K2 bd_
   replace K3 := KB K3 bd_
   replace K6 := KB K6 bd_
   replace F0 := FB F0 bd_
   replace F1 := FB F1 bd_
   replace F2 := FB F2 bd_
   replace F3 := FB F3 bd_
   replace FV := FB FV bd_
   clear bd_
   go_wp2
   refine bodyPost_ret (results_cc rfl _ _ (w.heap.size + 1 + 1) (w.heap.size + 1 + 1 + 1) 32 34 #[.slice P0 o.reg.length p0, .slice P1 o.que.length p1, .slice P2 o.loc.length p2, .slice P3 o.map.length p3] #[.int .i64 (ownerR o.loc).f0, .slice Av (ownerR o.loc).f1.length cv, .int .i64 (ownerR o.loc).f2] (0, 0) (0, 0) _ _ rfl K2.out Try.underlying32 rfl (by kernel_rfl) rfl K3.out Try.underlying34 rfl (by kernel_rfl)) rfl ?_
   rw [HA.out]
   exact ⟨P0, p0, P1, p1, P2, p2, P3, p3, Av, cv, rfl, ⟨L0.out, Kd.F_mono F0.out (fun _ h => zq ZZ.out.1 h), L1.out, Kd.F_mono F1.out (fun _ h => zq ZZ.out.1 h), L2.out, Kd.F_mono F2.out (fun _ h => zq ZZ.out.1 h), L3.out, Kd.F_mono F3.out (fun _ h => zq ZZ.out.1 h)⟩, LV.out, Kd.F_mono FV.out (fun k_ hk => by have z_ := ZZ.out; have h2 : g6 < k_ := hk; show w.heap.size ≤ k_; omega), HB.out⟩)
 by_cases h9 : kd = 9
 ·
  subst h9
  have HA : Aside0 (applyR o 9 a ke va ol = ({ o with map := (putR o.map ke va).1 }, (putR o.map ke va).2)) := Aside0.mk rfl
  rcases (dec3 a) with d1 | ⟨d1, d2⟩ | ⟨d1, d2⟩
  all_goals (
   go_wp2_with fail
   refine (hocketref4_bad.calls 7 7 [] 0 V2 rfl).mono ?_
   rintro e V3 ⟨vb, rfl, hR, hb_⟩
   obtain ⟨Rv, rv, rfl⟩ := Kd.R_slice hR
   have S3 := Aside0.mk hb_.size
   have FR := Aside0.mk (Kd.F_mono (Kd.F_bound (F_of_R hR)) (ok' := fun k => m1 ≤ k ∧ k < V3.heap.size) (fun k hk => ⟨by rw [hm1, ← SV2.out]; exact hk.1, hk.2⟩))
   have LR := Aside0.mk (Kd.R_reads' hR).2.1
   clear hR
   replace HB := HBs HB hb_
   replace K0 := KB K0 hb_
   replace K1 := KB K1 hb_
   replace K2 := KB K2 hb_
   replace K3 := KB K3 hb_
   replace F0 := FB F0 hb_
   replace F1 := FB F1 hb_
   replace F2 := FB F2 hb_
   replace F3 := FB F3 hb_
   clear hb_
   obtain ⟨m3, hm3⟩ : ∃ b_, b_ = V3.heap.size := ⟨_, rfl⟩
   rw [← hm3] at FR
   go_wp2_with (
    (with_reducible refine gate_dst (N := 6) rfl ?_)
    refine box_event ?hg (N := 6) ?hd (cs := #[.int .i64 0, .slice none 0 0, .int .i64 0]) (t := 34) ?hr ?_
    (case hd => rfl)
    (case hg => rfl)
    (case hr => go_simp <;> rfl)
    intro g6 hg Va hbox hb_
    have K6 := Aside0.mk hbox
    have hlt_ := (Array.getElem?_eq_some_iff.1 hbox).1
    have ZZ := Aside0.mk (show w.heap.size + 4 ≤ b1 ∧ b1 ≤ m1 ∧ m1 ≤ m3 ∧ m3 ≤ g6 ∧ g6 < Va.heap.size from ⟨Z1.out.1, Z1.out.2, by rw [hm1, hm3, ← SV2.out]; exact S3.out, by rw [hg, hm3]; exact Nat.le_refl _, hlt_⟩)
    have n0 : ¬ g6 = w.heap.size := by have z_ := ZZ.out; omega
    have n0' : ¬ w.heap.size = g6 := by have z_ := ZZ.out; omega
    have n1 : ¬ g6 = w.heap.size + 1 := by have z_ := ZZ.out; omega
    have n1' : ¬ w.heap.size + 1 = g6 := by have z_ := ZZ.out; omega
    clear hg hm1 hm3 Z1 SV2 hbox hlt_
    replace HB := HBs HB hb_
    replace K0 := KB K0 hb_
    replace K1 := KB K1 hb_
    replace K2 := KB K2 hb_
    replace K3 := KB K3 hb_
    replace F0 := FB F0 hb_
    replace F1 := FB F1 hb_
    replace F2 := FB F2 hb_
    replace F3 := FB F3 hb_
    replace FR := FB FR hb_
    clear hb_
    obtain ⟨x0, x1, x2, x3, x40, x41, x42, x43⟩ := cel4 K0.out
    obtain ⟨y0, y1, y2, y3, y4, y50, y51, y52, y53, y54⟩ := cel5 K1.out
    obtain ⟨v0, v1, v2, v30, v31, v32⟩ := cel3 K6.out)
   clear x0 x1 x2 x3 x40 x41 x42 x43
   clear y0 y1 y2 y3 y4 y50 y51 y52 y53 y54
   clear v0 v1 v2 v30 v31 v32
   clear n0 n0' n1 n1'
   generalize hV4 : World.setCell (World.setCell (World.setCell Va _ _) _ _) _ _ = V4
   have hge_ : w.heap.size ≤ g6 := by have z_ := ZZ.out; omega
   have hst_ := st3 HB.out hge_ K6.out hV4
   replace HB := Aside0.mk hst_.1
   replace K6 := Aside0.mk hst_.2.1
   have z_ := ZZ.out
   replace K0 := KS K0 hst_ (by omega)
   replace K1 := KS K1 hst_ (by omega)
   replace K2 := KS K2 hst_ (by omega)
   replace K3 := KS K3 hst_ (by omega)
   have e0_ : ∀ k_, (b1 ≤ k_ ∧ k_ < m1) → k_ ≠ g6 := fun k_ h_ => by omega
   replace F0 := FS F0 hst_ e0_
   replace F1 := FS F1 hst_ e0_
   replace F2 := FS F2 hst_ e0_
   replace F3 := FS F3 hst_ e0_
   have e1_ : ∀ k_, (m1 ≤ k_ ∧ k_ < m3) → k_ ≠ g6 := fun k_ h_ => by omega
   replace FR := FS FR hst_ e1_
   clear e0_ e1_
   have SV4 := Aside0.mk hst_.2.2.2
   clear hV4 hst_ hge_ z_
   refine (put52 P3 E2 E3 p3 e2 e3 o.map ke va V4 (Kd.F_now F3.out) L3.out HO.out.b3 HO.out.e3 (Kd.C_below HX.out.r2 HB.out) HX.out.h2 (Kd.C_below HX.out.r3 HB.out) HX.out.h3).mono ?_
   rintro e w4 ⟨A9, c9, Av, cv, rfl, hc9, hF9, hcv, hFv, hb_⟩
   have L9 := Aside0.mk hc9
   have F9 := Aside0.mk (Kd.F_mono hF9 (ok' := fun k_ => g6 < k_) (fun k hk => by have z_ := ZZ.out; have h1 := SV4.out; have h2 : V4.heap.size ≤ k := hk; show g6 < k; omega))
   clear hF9 hc9
   have LV := Aside0.mk hcv
   have FV := Aside0.mk (Kd.F_mono hFv (ok' := fun k_ => g6 < k_) (fun k hk => by have z_ := ZZ.out; have h1 := SV4.out; have h2 : V4.heap.size ≤ k := hk; show g6 < k; omega))
   clear hFv hcv
   replace HB := HBs HB hb_
   replace K0 := KB K0 hb_
   replace K1 := KB K1 hb_
   replace K2 := KB K2 hb_
   replace K3 := KB K3 hb_
   replace K6 := KB K6 hb_
   replace F0 := FB F0 hb_
   replace F1 := FB F1 hb_
   replace F2 := FB F2 hb_
   replace F3 := FB F3 hb_
   replace FR := FB FR hb_
   clear hb_
   clear FR LR
   have n6 : ¬ g6 = w.heap.size := by have z_ := ZZ.out; omega
   have n6' : ¬ w.heap.size = g6 := by have z_ := ZZ.out; omega
   obtain ⟨x0, x1, x2, x3, x40, x41, x42, x43⟩ := cel4 K0.out
   obtain ⟨v0, v1, v2, v30, v31, v32⟩ := cel3 K6.out
   go_wp2_with fail
   clear x0 x1 x2 x3 x40 x41 x42 x43
   clear v0 v1 v2 v30 v31 v32
   clear n6 n6'
   obtain ⟨V5, hV5⟩ : ∃ V_, V_ = (w4.setCell ⟨w.heap.size, 3, none⟩ (.slice A9 (putR o.map ke va).1.length c9)) := ⟨_, rfl⟩
   rw [← hV5]
   have hge_ : w.heap.size ≤ w.heap.size := by have z_ := ZZ.out; omega
   have hst_ : St w.heap.size w (w.heap.size) 32 #[.slice P0 o.reg.length p0, .slice P1 o.que.length p1, .slice P2 o.loc.length p2, .slice A9 (putR o.map ke va).1.length c9] w4 V5 := by rw [hV5]; exact (St.first HB.out hge_ K0.out 3 _ rfl)
   replace HB := Aside0.mk hst_.1
   replace K0 := Aside0.mk hst_.2.1
   have z_ := ZZ.out
   replace K1 := KS K1 hst_ (by omega)
   replace K2 := KS K2 hst_ (by omega)
   replace K3 := KS K3 hst_ (by omega)
   replace K6 := KS K6 hst_ (by omega)
   have e0_ : ∀ k_, (b1 ≤ k_ ∧ k_ < m1) → k_ ≠ w.heap.size := fun k_ h_ => by omega
   replace F0 := FS F0 hst_ e0_
   replace F1 := FS F1 hst_ e0_
   replace F2 := FS F2 hst_ e0_
   replace F3 := FS F3 hst_ e0_
   have e1_ : ∀ k_, (g6 < k_) → k_ ≠ w.heap.size := fun k_ h_ => by omega
   replace FV := FS FV hst_ e1_
   replace F9 := FS F9 hst_ e1_
   clear e0_ e1_
   have SV5 := Aside0.mk hst_.2.2.2
   clear hV5 hst_ hge_ z_
   generalize hV6 : World.setCell (World.setCell (World.setCell V5 _ _) _ _) _ _ = V6
   have hge_ : w.heap.size ≤ g6 := by have z_ := ZZ.out; omega
   have hst_ := st3 HB.out hge_ K6.out hV6
   replace HB := Aside0.mk hst_.1
   replace K6 := Aside0.mk hst_.2.1
   have z_ := ZZ.out
   replace K0 := KS K0 hst_ (by omega)
   replace K1 := KS K1 hst_ (by omega)
   replace K2 := KS K2 hst_ (by omega)
   replace K3 := KS K3 hst_ (by omega)
   have e0_ : ∀ k_, (b1 ≤ k_ ∧ k_ < m1) → k_ ≠ g6 := fun k_ h_ => by omega
   replace F0 := FS F0 hst_ e0_
   replace F1 := FS F1 hst_ e0_
   replace F2 := FS F2 hst_ e0_
   replace F3 := FS F3 hst_ e0_
   have e1_ : ∀ k_, (g6 < k_) → k_ ≠ g6 := fun k_ h_ => by omega
   replace FV := FS FV hst_ e1_
   replace F9 := FS F9 hst_ e1_
   clear e0_ e1_
   have SV6 := Aside0.mk hst_.2.2.2
   clear hV6 hst_ hge_ z_
   obtain ⟨x0, x1, x2, x3, x40, x41, x42, x43⟩ := cel4 K0.out
   obtain ⟨v0, v1, v2, v30, v31, v32⟩ := cel3 K6.out
   obtain ⟨s0, s1, s2, s3, s40, s41, s42, s43⟩ := cel4 K2.out
   obtain ⟨t0, t1, t2, t30, t31, t32⟩ := cel3 K3.out
   have n0 : ¬ g6 = w.heap.size + 1 + 1 := by have z_ := ZZ.out; omega
   have n0' : ¬ w.heap.size + 1 + 1 = g6 := by have z_ := ZZ.out; omega
   have n1 : ¬ g6 = w.heap.size + 1 + 1 + 1 := by have z_ := ZZ.out; omega
   have n1' : ¬ w.heap.size + 1 + 1 + 1 = g6 := by have z_ := ZZ.out; omega
   go_wp2_with fail
   go_region
   clear n0 n0' n1 n1'
   clear x0 x1 x2 x3 x40 x41 x42 x43
   clear v0 v1 v2 v30 v31 v32
   clear s0 s1 s2 s3 s40 s41 s42 s43
   clear t0 t1 t2 t30 t31 t32
   generalize hV7 : World.setCell (World.setCell (World.setCell (World.setCell V6 _ _) _ _) _ _) _ _ = V7
   have hge_ : w.heap.size ≤ w.heap.size + 1 + 1 := by have z_ := ZZ.out; omega
   have hst_ := st4 HB.out hge_ K2.out hV7
   replace HB := Aside0.mk hst_.1
   replace K2 := Aside0.mk hst_.2.1
   have z_ := ZZ.out
   replace K0 := KS K0 hst_ (by omega)
   replace K1 := KS K1 hst_ (by omega)
   replace K3 := KS K3 hst_ (by omega)
   replace K6 := KS K6 hst_ (by omega)
   have e0_ : ∀ k_, (b1 ≤ k_ ∧ k_ < m1) → k_ ≠ w.heap.size + 1 + 1 := fun k_ h_ => by omega
   replace F0 := FS F0 hst_ e0_
   replace F1 := FS F1 hst_ e0_
   replace F2 := FS F2 hst_ e0_
   replace F3 := FS F3 hst_ e0_
   have e1_ : ∀ k_, (g6 < k_) → k_ ≠ w.heap.size + 1 + 1 := fun k_ h_ => by omega
   replace FV := FS FV hst_ e1_
   replace F9 := FS F9 hst_ e1_
   clear e0_ e1_
   have SV7 := Aside0.mk hst_.2.2.2
   clear hV7 hst_ hge_ z_
   generalize hV8 : World.setCell (World.setCell (World.setCell V7 _ _) _ _) _ _ = V8
   have hge_ : w.heap.size ≤ w.heap.size + 1 + 1 + 1 := by have z_ := ZZ.out; omega
   have hst_ := st3 HB.out hge_ K3.out hV8
   replace HB := Aside0.mk hst_.1
   replace K3 := Aside0.mk hst_.2.1
   have z_ := ZZ.out
   replace K0 := KS K0 hst_ (by omega)
   replace K1 := KS K1 hst_ (by omega)
   replace K2 := KS K2 hst_ (by omega)
   replace K6 := KS K6 hst_ (by omega)
   have e0_ : ∀ k_, (b1 ≤ k_ ∧ k_ < m1) → k_ ≠ w.heap.size + 1 + 1 + 1 := fun k_ h_ => by omega
   replace F0 := FS F0 hst_ e0_
   replace F1 := FS F1 hst_ e0_
   replace F2 := FS F2 hst_ e0_
   replace F3 := FS F3 hst_ e0_
   have e1_ : ∀ k_, (g6 < k_) → k_ ≠ w.heap.size + 1 + 1 + 1 := fun k_ h_ => by omega
   replace FV := FS FV hst_ e1_
   replace F9 := FS F9 hst_ e1_
   clear e0_ e1_
   have SV8 := Aside0.mk hst_.2.2.2
   clear hV8 hst_ hge_ z_
   have bd_ := below_drew1 (Below.refl V8.heap.size V8)
   replace HB := HBs HB bd_
   replace K0 := KB K0 bd_
   replace K1 := KB K1 bd_
   replace K2 := KB K2 bd_
   replace K3 := KB K3 bd_
   replace K6 := KB K6 bd_
   replace F0 := FB F0 bd_
   replace F1 := FB F1 bd_
   replace F2 := FB F2 bd_
   replace F3 := FB F3 bd_
   replace FV := FB FV bd_
   replace F9 := FB F9 bd_
   clear bd_
   go_wp2
   refine bodyPost_ret (results_cc rfl _ _ (w.heap.size + 1 + 1) (w.heap.size + 1 + 1 + 1) 32 34 #[.slice P0 o.reg.length p0, .slice P1 o.que.length p1, .slice P2 o.loc.length p2, .slice A9 (putR o.map ke va).1.length c9] #[.int .i64 (putR o.map ke va).2.f0, .slice Av (putR o.map ke va).2.f1.length cv, .int .i64 (putR o.map ke va).2.f2] (0, 0) (0, 0) _ _ rfl K2.out Try.underlying32 rfl (by kernel_rfl) rfl K3.out Try.underlying34 rfl (by kernel_rfl)) rfl ?_
   rw [HA.out]
   exact ⟨P0, p0, P1, p1, P2, p2, A9, c9, Av, cv, rfl, ⟨L0.out, Kd.F_mono F0.out (fun _ h => zq ZZ.out.1 h), L1.out, Kd.F_mono F1.out (fun _ h => zq ZZ.out.1 h), L2.out, Kd.F_mono F2.out (fun _ h => zq ZZ.out.1 h), L9.out, Kd.F_mono F9.out (fun k_ hk => by have z_ := ZZ.out; have h2 : g6 < k_ := hk; show w.heap.size ≤ k_; omega)⟩, LV.out, Kd.F_mono FV.out (fun k_ hk => by have z_ := ZZ.out; have h2 : g6 < k_ := hk; show w.heap.size ≤ k_; omega), HB.out⟩)
 by_cases h10 : kd = 10
 ·
  subst h10
  have HA : Aside0 (applyR o 10 a ke va ol = (o, getR o.map ke)) := Aside0.mk rfl
  rcases (dec3 a) with d1 | ⟨d1, d2⟩ | ⟨d1, d2⟩
  all_goals (
   go_wp2_with fail
   refine (hocketref4_bad.calls 7 7 [] 0 V2 rfl).mono ?_
   rintro e V3 ⟨vb, rfl, hR, hb_⟩
   obtain ⟨Rv, rv, rfl⟩ := Kd.R_slice hR
   have S3 := Aside0.mk hb_.size
   have FR := Aside0.mk (Kd.F_mono (Kd.F_bound (F_of_R hR)) (ok' := fun k => m1 ≤ k ∧ k < V3.heap.size) (fun k hk => ⟨by rw [hm1, ← SV2.out]; exact hk.1, hk.2⟩))
   have LR := Aside0.mk (Kd.R_reads' hR).2.1
   clear hR
   replace HB := HBs HB hb_
   replace K0 := KB K0 hb_
   replace K1 := KB K1 hb_
   replace K2 := KB K2 hb_
   replace K3 := KB K3 hb_
   replace F0 := FB F0 hb_
   replace F1 := FB F1 hb_
   replace F2 := FB F2 hb_
   replace F3 := FB F3 hb_
   clear hb_
   obtain ⟨m3, hm3⟩ : ∃ b_, b_ = V3.heap.size := ⟨_, rfl⟩
   rw [← hm3] at FR
   go_wp2_with (
    (with_reducible refine gate_dst (N := 6) rfl ?_)
    refine box_event ?hg (N := 6) ?hd (cs := #[.int .i64 0, .slice none 0 0, .int .i64 0]) (t := 34) ?hr ?_
    (case hd => rfl)
    (case hg => rfl)
    (case hr => go_simp <;> rfl)
    intro g6 hg Va hbox hb_
    have K6 := Aside0.mk hbox
    have hlt_ := (Array.getElem?_eq_some_iff.1 hbox).1
    have ZZ := Aside0.mk (show w.heap.size + 4 ≤ b1 ∧ b1 ≤ m1 ∧ m1 ≤ m3 ∧ m3 ≤ g6 ∧ g6 < Va.heap.size from ⟨Z1.out.1, Z1.out.2, by rw [hm1, hm3, ← SV2.out]; exact S3.out, by rw [hg, hm3]; exact Nat.le_refl _, hlt_⟩)
    have n0 : ¬ g6 = w.heap.size := by have z_ := ZZ.out; omega
    have n0' : ¬ w.heap.size = g6 := by have z_ := ZZ.out; omega
    have n1 : ¬ g6 = w.heap.size + 1 := by have z_ := ZZ.out; omega
    have n1' : ¬ w.heap.size + 1 = g6 := by have z_ := ZZ.out; omega
    clear hg hm1 hm3 Z1 SV2 hbox hlt_
    replace HB := HBs HB hb_
    replace K0 := KB K0 hb_
    replace K1 := KB K1 hb_
    replace K2 := KB K2 hb_
    replace K3 := KB K3 hb_
    replace F0 := FB F0 hb_
    replace F1 := FB F1 hb_
    replace F2 := FB F2 hb_
    replace F3 := FB F3 hb_
    replace FR := FB FR hb_
    clear hb_
    obtain ⟨x0, x1, x2, x3, x40, x41, x42, x43⟩ := cel4 K0.out
    obtain ⟨y0, y1, y2, y3, y4, y50, y51, y52, y53, y54⟩ := cel5 K1.out
    obtain ⟨v0, v1, v2, v30, v31, v32⟩ := cel3 K6.out)
   clear x0 x1 x2 x3 x40 x41 x42 x43
   clear y0 y1 y2 y3 y4 y50 y51 y52 y53 y54
   clear v0 v1 v2 v30 v31 v32
   clear n0 n0' n1 n1'
   generalize hV4 : World.setCell (World.setCell (World.setCell Va _ _) _ _) _ _ = V4
   have hge_ : w.heap.size ≤ g6 := by have z_ := ZZ.out; omega
   have hst_ := st3 HB.out hge_ K6.out hV4
   replace HB := Aside0.mk hst_.1
   replace K6 := Aside0.mk hst_.2.1
   have z_ := ZZ.out
   replace K0 := KS K0 hst_ (by omega)
   replace K1 := KS K1 hst_ (by omega)
   replace K2 := KS K2 hst_ (by omega)
   replace K3 := KS K3 hst_ (by omega)
   have e0_ : ∀ k_, (b1 ≤ k_ ∧ k_ < m1) → k_ ≠ g6 := fun k_ h_ => by omega
   replace F0 := FS F0 hst_ e0_
   replace F1 := FS F1 hst_ e0_
   replace F2 := FS F2 hst_ e0_
   replace F3 := FS F3 hst_ e0_
   have e1_ : ∀ k_, (m1 ≤ k_ ∧ k_ < m3) → k_ ≠ g6 := fun k_ h_ => by omega
   replace FR := FS FR hst_ e1_
   clear e0_ e1_
   have SV4 := Aside0.mk hst_.2.2.2
   clear hV4 hst_ hge_ z_
   refine (get53 P3 E2 p3 e2 o.map ke V4 (Kd.F_now F3.out) L3.out HO.out.e3 (Kd.C_below HX.out.r2 HB.out) HX.out.h2).mono ?_
   rintro e w4 ⟨Av, cv, rfl, hcv, hFv, hb_⟩
   have LV := Aside0.mk hcv
   have FV := Aside0.mk (Kd.F_mono hFv (ok' := fun k_ => g6 < k_) (fun k hk => by have z_ := ZZ.out; have h1 := SV4.out; have h2 : V4.heap.size ≤ k := hk; show g6 < k; omega))
   clear hFv hcv
   replace HB := HBs HB hb_
   replace K0 := KB K0 hb_
   replace K1 := KB K1 hb_
   replace K2 := KB K2 hb_
   replace K3 := KB K3 hb_
   replace K6 := KB K6 hb_
   replace F0 := FB F0 hb_
   replace F1 := FB F1 hb_
   replace F2 := FB F2 hb_
   replace F3 := FB F3 hb_
   replace FR := FB FR hb_
   clear hb_
   clear FR LR
   have n6 : ¬ g6 = w.heap.size := by have z_ := ZZ.out; omega
   have n6' : ¬ w.heap.size = g6 := by have z_ := ZZ.out; omega
   obtain ⟨x0, x1, x2, x3, x40, x41, x42, x43⟩ := cel4 K0.out
   obtain ⟨v0, v1, v2, v30, v31, v32⟩ := cel3 K6.out
   go_wp2_with fail
   clear x0 x1 x2 x3 x40 x41 x42 x43
   clear v0 v1 v2 v30 v31 v32
   clear n6 n6'
   generalize hV6 : World.setCell (World.setCell (World.setCell w4 _ _) _ _) _ _ = V6
   have hge_ : w.heap.size ≤ g6 := by have z_ := ZZ.out; omega
   have hst_ := st3 HB.out hge_ K6.out hV6
   replace HB := Aside0.mk hst_.1
   replace K6 := Aside0.mk hst_.2.1
   have z_ := ZZ.out
   replace K0 := KS K0 hst_ (by omega)
   replace K1 := KS K1 hst_ (by omega)
   replace K2 := KS K2 hst_ (by omega)
   replace K3 := KS K3 hst_ (by omega)
   have e0_ : ∀ k_, (b1 ≤ k_ ∧ k_ < m1) → k_ ≠ g6 := fun k_ h_ => by omega
   replace F0 := FS F0 hst_ e0_
   replace F1 := FS F1 hst_ e0_
   replace F2 := FS F2 hst_ e0_
   replace F3 := FS F3 hst_ e0_
   have e1_ : ∀ k_, (g6 < k_) → k_ ≠ g6 := fun k_ h_ => by omega
   replace FV := FS FV hst_ e1_
   clear e0_ e1_
   have SV6 := Aside0.mk hst_.2.2.2
   clear hV6 hst_ hge_ z_
   obtain ⟨x0, x1, x2, x3, x40, x41, x42, x43⟩ := cel4 K0.out
   obtain ⟨v0, v1, v2, v30, v31, v32⟩ := cel3 K6.out
   obtain ⟨s0, s1, s2, s3, s40, s41, s42, s43⟩ := cel4 K2.out
   obtain ⟨t0, t1, t2, t30, t31, t32⟩ := cel3 K3.out
   have n0 : ¬ g6 = w.heap.size + 1 + 1 := by have z_ := ZZ.out; omega
   have n0' : ¬ w.heap.size + 1 + 1 = g6 := by have z_ := ZZ.out; omega
   have n1 : ¬ g6 = w.heap.size + 1 + 1 + 1 := by have z_ := ZZ.out; omega
   have n1' : ¬ w.heap.size + 1 + 1 + 1 = g6 := by have z_ := ZZ.out; omega
   go_wp2_with fail
   go_region
   clear n0 n0' n1 n1'
   clear x0 x1 x2 x3 x40 x41 x42 x43
   clear v0 v1 v2 v30 v31 v32
   clear s0 s1 s2 s3 s40 s41 s42 s43
   clear t0 t1 t2 t30 t31 t32
   generalize hV7 : World.setCell (World.setCell (World.setCell (World.setCell V6 _ _) _ _) _ _) _ _ = V7
   have hge_ : w.heap.size ≤ w.heap.size + 1 + 1 := by have z_ := ZZ.out; omega
   have hst_ := st4 HB.out hge_ K2.out hV7
   replace HB := Aside0.mk hst_.1
   replace K2 := Aside0.mk hst_.2.1
   have z_ := ZZ.out
   replace K0 := KS K0 hst_ (by omega)
   replace K1 := KS K1 hst_ (by omega)
   replace K3 := KS K3 hst_ (by omega)
   replace K6 := KS K6 hst_ (by omega)
   have e0_ : ∀ k_, (b1 ≤ k_ ∧ k_ < m1) → k_ ≠ w.heap.size + 1 + 1 := fun k_ h_ => by omega
   replace F0 := FS F0 hst_ e0_
   replace F1 := FS F1 hst_ e0_
   replace F2 := FS F2 hst_ e0_
   replace F3 := FS F3 hst_ e0_
   have e1_ : ∀ k_, (g6 < k_) → k_ ≠ w.heap.size + 1 + 1 := fun k_ h_ => by omega
   replace FV := FS FV hst_ e1_
   clear e0_ e1_
   have SV7 := Aside0.mk hst_.2.2.2
   clear hV7 hst_ hge_ z_
   generalize hV8 : World.setCell (World.setCell (World.setCell V7 _ _) _ _) _ _ = V8
   have hge_ : w.heap.size ≤ w.heap.size + 1 + 1 + 1 := by have z_ := ZZ.out; omega
   have hst_ := st3 HB.out hge_ K3.out hV8
   replace HB := Aside0.mk hst_.1
   replace K3 := Aside0.mk hst_.2.1
   have z_ := ZZ.out
   replace K0 := KS K0 hst_ (by omega)
   replace K1 := KS K1 hst_ (by omega)
   replace K2 := KS K2 hst_ (by omega)
   replace K6 := KS K6 hst_ (by omega)
   have e0_ : ∀ k_, (b1 ≤ k_ ∧ k_ < m1) → k_ ≠ w.heap.size + 1 + 1 + 1 := fun k_ h_ => by omega
   replace F0 := FS F0 hst_ e0_
   replace F1 := FS F1 hst_ e0_
   replace F2 := FS F2 hst_ e0_
   replace F3 := FS F3 hst_ e0_
   have e1_ : ∀ k_, (g6 < k_) → k_ ≠ w.heap.size + 1 + 1 + 1 := fun k_ h_ => by omega
   replace FV := FS FV hst_ e1_
   clear e0_ e1_
   have SV8 := Aside0.mk hst_.2.2.2
   clear hV8 hst_ hge_ z_
   have bd_ := below_drew1 (Below.refl V8.heap.size V8)
   replace HB := HBs HB bd_
   replace K0 := KB K0 bd_
   replace K1 := KB K1 bd_
   replace K2 := KB K2 bd_
   replace K3 := KB K3 bd_
   replace K6 := KB K6 bd_
   replace F0 := FB F0 bd_
   replace F1 := FB F1 bd_
   replace F2 := FB F2 bd_
   replace F3 := FB F3 bd_
   replace FV := FB FV bd_
   clear bd_
   go_wp2
   refine bodyPost_ret (results_cc rfl _ _ (w.heap.size + 1 + 1) (w.heap.size + 1 + 1 + 1) 32 34 #[.slice P0 o.reg.length p0, .slice P1 o.que.length p1, .slice P2 o.loc.length p2, .slice P3 o.map.length p3] #[.int .i64 (getR o.map ke).f0, .slice Av (getR o.map ke).f1.length cv, .int .i64 (getR o.map ke).f2] (0, 0) (0, 0) _ _ rfl K2.out Try.underlying32 rfl (by kernel_rfl) rfl K3.out Try.underlying34 rfl (by kernel_rfl)) rfl ?_
   rw [HA.out]
   exact ⟨P0, p0, P1, p1, P2, p2, P3, p3, Av, cv, rfl, ⟨L0.out, Kd.F_mono F0.out (fun _ h => zq ZZ.out.1 h), L1.out, Kd.F_mono F1.out (fun _ h => zq ZZ.out.1 h), L2.out, Kd.F_mono F2.out (fun _ h => zq ZZ.out.1 h), L3.out, Kd.F_mono F3.out (fun _ h => zq ZZ.out.1 h)⟩, LV.out, Kd.F_mono FV.out (fun k_ hk => by have z_ := ZZ.out; have h2 : g6 < k_ := hk; show w.heap.size ≤ k_; omega), HB.out⟩)
 by_cases h11 : kd = 11
 ·
  subst h11
  have HA : Aside0 (applyR o 11 a ke va ol = ({ o with map := (delR o.map ke).1 }, (delR o.map ke).2)) := Aside0.mk rfl
  rcases (dec3 a) with d1 | ⟨d1, d2⟩ | ⟨d1, d2⟩
  all_goals (
   go_wp2_with fail
   refine (hocketref4_bad.calls 7 7 [] 0 V2 rfl).mono ?_
   rintro e V3 ⟨vb, rfl, hR, hb_⟩
   obtain ⟨Rv, rv, rfl⟩ := Kd.R_slice hR
   have S3 := Aside0.mk hb_.size
   have FR := Aside0.mk (Kd.F_mono (Kd.F_bound (F_of_R hR)) (ok' := fun k => m1 ≤ k ∧ k < V3.heap.size) (fun k hk => ⟨by rw [hm1, ← SV2.out]; exact hk.1, hk.2⟩))
   have LR := Aside0.mk (Kd.R_reads' hR).2.1
   clear hR
   replace HB := HBs HB hb_
   replace K0 := KB K0 hb_
   replace K1 := KB K1 hb_
   replace K2 := KB K2 hb_
   replace K3 := KB K3 hb_
   replace F0 := FB F0 hb_
   replace F1 := FB F1 hb_
   replace F2 := FB F2 hb_
   replace F3 := FB F3 hb_
   clear hb_
   obtain ⟨m3, hm3⟩ : ∃ b_, b_ = V3.heap.size := ⟨_, rfl⟩
   rw [← hm3] at FR
   go_wp2_with (
    (with_reducible refine gate_dst (N := 6) rfl ?_)
    refine box_event ?hg (N := 6) ?hd (cs := #[.int .i64 0, .slice none 0 0, .int .i64 0]) (t := 34) ?hr ?_
    (case hd => rfl)
    (case hg => rfl)
    (case hr => go_simp <;> rfl)
    intro g6 hg Va hbox hb_
    have K6 := Aside0.mk hbox
    have hlt_ := (Array.getElem?_eq_some_iff.1 hbox).1
    have ZZ := Aside0.mk (show w.heap.size + 4 ≤ b1 ∧ b1 ≤ m1 ∧ m1 ≤ m3 ∧ m3 ≤ g6 ∧ g6 < Va.heap.size from ⟨Z1.out.1, Z1.out.2, by rw [hm1, hm3, ← SV2.out]; exact S3.out, by rw [hg, hm3]; exact Nat.le_refl _, hlt_⟩)
    have n0 : ¬ g6 = w.heap.size := by have z_ := ZZ.out; omega
    have n0' : ¬ w.heap.size = g6 := by have z_ := ZZ.out; omega
    have n1 : ¬ g6 = w.heap.size + 1 := by have z_ := ZZ.out; omega
    have n1' : ¬ w.heap.size + 1 = g6 := by have z_ := ZZ.out; omega
    clear hg hm1 hm3 Z1 SV2 hbox hlt_
    replace HB := HBs HB hb_
    replace K0 := KB K0 hb_
    replace K1 := KB K1 hb_
    replace K2 := KB K2 hb_
    replace K3 := KB K3 hb_
    replace F0 := FB F0 hb_
    replace F1 := FB F1 hb_
    replace F2 := FB F2 hb_
    replace F3 := FB F3 hb_
    replace FR := FB FR hb_
    clear hb_
    obtain ⟨x0, x1, x2, x3, x40, x41, x42, x43⟩ := cel4 K0.out
    obtain ⟨y0, y1, y2, y3, y4, y50, y51, y52, y53, y54⟩ := cel5 K1.out
    obtain ⟨v0, v1, v2, v30, v31, v32⟩ := cel3 K6.out)
   clear x0 x1 x2 x3 x40 x41 x42 x43
   clear y0 y1 y2 y3 y4 y50 y51 y52 y53 y54
   clear v0 v1 v2 v30 v31 v32
   clear n0 n0' n1 n1'
   generalize hV4 : World.setCell (World.setCell (World.setCell Va _ _) _ _) _ _ = V4
   have hge_ : w.heap.size ≤ g6 := by have z_ := ZZ.out; omega
   have hst_ := st3 HB.out hge_ K6.out hV4
   replace HB := Aside0.mk hst_.1
   replace K6 := Aside0.mk hst_.2.1
   have z_ := ZZ.out
   replace K0 := KS K0 hst_ (by omega)
   replace K1 := KS K1 hst_ (by omega)
   replace K2 := KS K2 hst_ (by omega)
   replace K3 := KS K3 hst_ (by omega)
   have e0_ : ∀ k_, (b1 ≤ k_ ∧ k_ < m1) → k_ ≠ g6 := fun k_ h_ => by omega
   replace F0 := FS F0 hst_ e0_
   replace F1 := FS F1 hst_ e0_
   replace F2 := FS F2 hst_ e0_
   replace F3 := FS F3 hst_ e0_
   have e1_ : ∀ k_, (m1 ≤ k_ ∧ k_ < m3) → k_ ≠ g6 := fun k_ h_ => by omega
   replace FR := FS FR hst_ e1_
   clear e0_ e1_
   have SV4 := Aside0.mk hst_.2.2.2
   clear hV4 hst_ hge_ z_
   refine (del54 P3 E2 p3 e2 o.map ke V4 (Kd.F_now F3.out) L3.out HO.out.b3 HO.out.e3 (Kd.C_below HX.out.r2 HB.out) HX.out.h2).mono ?_
   rintro e w4 ⟨A9, c9, Av, cv, rfl, hc9, hF9, hcv, hFv, hb_⟩
   have L9 := Aside0.mk hc9
   have F9 := Aside0.mk (Kd.F_mono hF9 (ok' := fun k_ => g6 < k_) (fun k hk => by have z_ := ZZ.out; have h1 := SV4.out; have h2 : V4.heap.size ≤ k := hk; show g6 < k; omega))
   clear hF9 hc9
   have LV := Aside0.mk hcv
   have FV := Aside0.mk (Kd.F_mono hFv (ok' := fun k_ => g6 < k_) (fun k hk => by have z_ := ZZ.out; have h1 := SV4.out; have h2 : V4.heap.size ≤ k := hk; show g6 < k; omega))
   clear hFv hcv
   replace HB := HBs HB hb_
   replace K0 := KB K0 hb_
   replace K1 := KB K1 hb_
   replace K2 := KB K2 hb_
   replace K3 := KB K3 hb_
   replace K6 := KB K6 hb_
   replace F0 := FB F0 hb_
   replace F1 := FB F1 hb_
   replace F2 := FB F2 hb_
   replace F3 := FB F3 hb_
   replace FR := FB FR hb_
   clear hb_
   clear FR LR
   have n6 : ¬ g6 = w.heap.size := by have z_ := ZZ.out; omega
   have n6' : ¬ w.heap.size = g6 := by have z_ := ZZ.out; omega
   obtain ⟨x0, x1, x2, x3, x40, x41, x42, x43⟩ := cel4 K0.out
   obtain ⟨v0, v1, v2, v30, v31, v32⟩ := cel3 K6.out
   go_wp2_with fail
   clear x0 x1 x2 x3 x40 x41 x42 x43
   clear v0 v1 v2 v30 v31 v32
   clear n6 n6'
   obtain ⟨V5, hV5⟩ : ∃ V_, V_ = (w4.setCell ⟨w.heap.size, 3, none⟩ (.slice A9 (delR o.map ke).1.length c9)) := ⟨_, rfl⟩
   rw [← hV5]
   have hge_ : w.heap.size ≤ w.heap.size := by have z_ := ZZ.out; omega
   have hst_ : St w.heap.size w (w.heap.size) 32 #[.slice P0 o.reg.length p0, .slice P1 o.que.length p1, .slice P2 o.loc.length p2, .slice A9 (delR o.map ke).1.length c9] w4 V5 := by rw [hV5]; exact (St.first HB.out hge_ K0.out 3 _ rfl)
   replace HB := Aside0.mk hst_.1
   replace K0 := Aside0.mk hst_.2.1
   have z_ := ZZ.out
   replace K1 := KS K1 hst_ (by omega)
   replace K2 := KS K2 hst_ (by omega)
   replace K3 := KS K3 hst_ (by omega)
   replace K6 := KS K6 hst_ (by omega)
   have e0_ : ∀ k_, (b1 ≤ k_ ∧ k_ < m1) → k_ ≠ w.heap.size := fun k_ h_ => by omega
   replace F0 := FS F0 hst_ e0_
   replace F1 := FS F1 hst_ e0_
   replace F2 := FS F2 hst_ e0_
   replace F3 := FS F3 hst_ e0_
   have e1_ : ∀ k_, (g6 < k_) → k_ ≠ w.heap.size := fun k_ h_ => by omega
   replace FV := FS FV hst_ e1_
   replace F9 := FS F9 hst_ e1_
   clear e0_ e1_
   have SV5 := Aside0.mk hst_.2.2.2
   clear hV5 hst_ hge_ z_
   generalize hV6 : World.setCell (World.setCell (World.setCell V5 _ _) _ _) _ _ = V6
   have hge_ : w.heap.size ≤ g6 := by have z_ := ZZ.out; omega
   have hst_ := st3 HB.out hge_ K6.out hV6
   replace HB := Aside0.mk hst_.1
   replace K6 := Aside0.mk hst_.2.1
   have z_ := ZZ.out
   replace K0 := KS K0 hst_ (by omega)
   replace K1 := KS K1 hst_ (by omega)
   replace K2 := KS K2 hst_ (by omega)
   replace K3 := KS K3 hst_ (by omega)
   have e0_ : ∀ k_, (b1 ≤ k_ ∧ k_ < m1) → k_ ≠ g6 := fun k_ h_ => by omega
   replace F0 := FS F0 hst_ e0_
   replace F1 := FS F1 hst_ e0_
   replace F2 := FS F2 hst_ e0_
   replace F3 := FS F3 hst_ e0_
   have e1_ : ∀ k_, (g6 < k_) → k_ ≠ g6 := fun k_ h_ => by omega
   replace FV := FS FV hst_ e1_
   replace F9 := FS F9 hst_ e1_
   clear e0_ e1_
   have SV6 := Aside0.mk hst_.2.2.2
   clear hV6 hst_ hge_ z_
   obtain ⟨x0, x1, x2, x3, x40, x41, x42, x43⟩ := cel4 K0.out
   obtain ⟨v0, v1, v2, v30, v31, v32⟩ := cel3 K6.out
   obtain ⟨s0, s1, s2, s3, s40, s41, s42, s43⟩ := cel4 K2.out
   obtain ⟨t0, t1, t2, t30, t31, t32⟩ := cel3 K3.out
   have n0 : ¬ g6 = w.heap.size + 1 + 1 := by have z_ := ZZ.out; omega
   have n0' : ¬ w.heap.size + 1 + 1 = g6 := by have z_ := ZZ.out; omega
   have n1 : ¬ g6 = w.heap.size + 1 + 1 + 1 := by have z_ := ZZ.out; omega
   have n1' : ¬ w.heap.size + 1 + 1 + 1 = g6 := by have z_ := ZZ.out; omega
   go_wp2_with fail
   go_region
   clear n0 n0' n1 n1'
   clear x0 x1 x2 x3 x40 x41 x42 x43
   clear v0 v1 v2 v30 v31 v32
   clear s0 s1 s2 s3 s40 s41 s42 s43
   clear t0 t1 t2 t30 t31 t32
   generalize hV7 : World.setCell (World.setCell (World.setCell (World.setCell V6 _ _) _ _) _ _) _ _ = V7
   have hge_ : w.heap.size ≤ w.heap.size + 1 + 1 := by have z_ := ZZ.out; omega
   have hst_ := st4 HB.out hge_ K2.out hV7
   replace HB := Aside0.mk hst_.1
   replace K2 := Aside0.mk hst_.2.1
   have z_ := ZZ.out
   replace K0 := KS K0 hst_ (by omega)
   replace K1 := KS K1 hst_ (by omega)
   replace K3 := KS K3 hst_ (by omega)
   replace K6 := KS K6 hst_ (by omega)
   have e0_ : ∀ k_, (b1 ≤ k_ ∧ k_ < m1) → k_ ≠ w.heap.size + 1 + 1 := fun k_ h_ => by omega
   replace F0 := FS F0 hst_ e0_
   replace F1 := FS F1 hst_ e0_
   replace F2 := FS F2 hst_ e0_
   replace F3 := FS F3 hst_ e0_
   have e1_ : ∀ k_, (g6 < k_) → k_ ≠ w.heap.size + 1 + 1 := fun k_ h_ => by omega
   replace FV := FS FV hst_ e1_
   replace F9 := FS F9 hst_ e1_
   clear e0_ e1_
   have SV7 := Aside0.mk hst_.2.2.2
   clear hV7 hst_ hge_ z_
   generalize hV8 : World.setCell (World.setCell (World.setCell V7 _ _) _ _) _ _ = V8
   have hge_ : w.heap.size ≤ w.heap.size + 1 + 1 + 1 := by have z_ := ZZ.out; omega
   have hst_ := st3 HB.out hge_ K3.out hV8
   replace HB := Aside0.mk hst_.1
   replace K3 := Aside0.mk hst_.2.1
   have z_ := ZZ.out
   replace K0 := KS K0 hst_ (by omega)
   replace K1 := KS K1 hst_ (by omega)
   replace K2 := KS K2 hst_ (by omega)
   replace K6 := KS K6 hst_ (by omega)
   have e0_ : ∀ k_, (b1 ≤ k_ ∧ k_ < m1) → k_ ≠ w.heap.size + 1 + 1 + 1 := fun k_ h_ => by omega
   replace F0 := FS F0 hst_ e0_
   replace F1 := FS F1 hst_ e0_
   replace F2 := FS F2 hst_ e0_
   replace F3 := FS F3 hst_ e0_
   have e1_ : ∀ k_, (g6 < k_) → k_ ≠ w.heap.size + 1 + 1 + 1 := fun k_ h_ => by omega
   replace FV := FS FV hst_ e1_
   replace F9 := FS F9 hst_ e1_
   clear e0_ e1_
   have SV8 := Aside0.mk hst_.2.2.2
   clear hV8 hst_ hge_ z_
   have bd_ := below_drew1 (Below.refl V8.heap.size V8)
   replace HB := HBs HB bd_
   replace K0 := KB K0 bd_
   replace K1 := KB K1 bd_
   replace K2 := KB K2 bd_
   replace K3 := KB K3 bd_
   replace K6 := KB K6 bd_
   replace F0 := FB F0 bd_
   replace F1 := FB F1 bd_
   replace F2 := FB F2 bd_
   replace F3 := FB F3 bd_
   replace FV := FB FV bd_
   replace F9 := FB F9 bd_
   clear bd_
   go_wp2
   refine bodyPost_ret (results_cc rfl _ _ (w.heap.size + 1 + 1) (w.heap.size + 1 + 1 + 1) 32 34 #[.slice P0 o.reg.length p0, .slice P1 o.que.length p1, .slice P2 o.loc.length p2, .slice A9 (delR o.map ke).1.length c9] #[.int .i64 (delR o.map ke).2.f0, .slice Av (delR o.map ke).2.f1.length cv, .int .i64 (delR o.map ke).2.f2] (0, 0) (0, 0) _ _ rfl K2.out Try.underlying32 rfl (by kernel_rfl) rfl K3.out Try.underlying34 rfl (by kernel_rfl)) rfl ?_
   rw [HA.out]
   exact ⟨P0, p0, P1, p1, P2, p2, A9, c9, Av, cv, rfl, ⟨L0.out, Kd.F_mono F0.out (fun _ h => zq ZZ.out.1 h), L1.out, Kd.F_mono F1.out (fun _ h => zq ZZ.out.1 h), L2.out, Kd.F_mono F2.out (fun _ h => zq ZZ.out.1 h), L9.out, Kd.F_mono F9.out (fun k_ hk => by have z_ := ZZ.out; have h2 : g6 < k_ := hk; show w.heap.size ≤ k_; omega)⟩, LV.out, Kd.F_mono FV.out (fun k_ hk => by have z_ := ZZ.out; have h2 : g6 < k_ := hk; show w.heap.size ≤ k_; omega), HB.out⟩)
 have HA : Aside0 (applyR o kd a ke va ol = (o, (⟨7, [], 0⟩ : S26))) := Aside0.mk (by unfold applyR; rw [if_neg h1, if_neg h2, if_neg h3, if_neg h4, if_neg h5, if_neg (show ¬ (kd = 6 ∨ kd = 7 ∨ kd = 8) by omega), if_neg h9, if_neg h10, if_neg h11])
 have q1 : (kd == 1) = false := beq_eq_false_iff_ne.2 h1
 have q2 : (kd == 2) = false := beq_eq_false_iff_ne.2 h2
 have q3 : (kd == 3) = false := beq_eq_false_iff_ne.2 h3
 have q4 : (kd == 4) = false := beq_eq_false_iff_ne.2 h4
 have q5 : (kd == 5) = false := beq_eq_false_iff_ne.2 h5
 have q6 : (kd == 6) = false := beq_eq_false_iff_ne.2 h6
 have q7 : (kd == 7) = false := beq_eq_false_iff_ne.2 h7
 have q8 : (kd == 8) = false := beq_eq_false_iff_ne.2 h8
 have q9 : (kd == 9) = false := beq_eq_false_iff_ne.2 h9
 have q10 : (kd == 10) = false := beq_eq_false_iff_ne.2 h10
 have q11 : (kd == 11) = false := beq_eq_false_iff_ne.2 h11
 clear h1 h2 h3 h4 h5 h6 h7 h8 h9 h10 h11
 rcases (dec3 a) with d1 | ⟨d1, d2⟩ | ⟨d1, d2⟩
 all_goals (
  go_wp2_with fail
  refine (hocketref4_bad.calls 7 7 [] 0 V2 rfl).mono ?_
  rintro e V3 ⟨vb, rfl, hR, hb_⟩
  obtain ⟨Rv, rv, rfl⟩ := Kd.R_slice hR
  have S3 := Aside0.mk hb_.size
  have FR := Aside0.mk (Kd.F_mono (Kd.F_bound (F_of_R hR)) (ok' := fun k => m1 ≤ k ∧ k < V3.heap.size) (fun k hk => ⟨by rw [hm1, ← SV2.out]; exact hk.1, hk.2⟩))
  have LR := Aside0.mk (Kd.R_reads' hR).2.1
  clear hR
  replace HB := HBs HB hb_
  replace K0 := KB K0 hb_
  replace K1 := KB K1 hb_
  replace K2 := KB K2 hb_
  replace K3 := KB K3 hb_
  replace F0 := FB F0 hb_
  replace F1 := FB F1 hb_
  replace F2 := FB F2 hb_
  replace F3 := FB F3 hb_
  clear hb_
  obtain ⟨m3, hm3⟩ : ∃ b_, b_ = V3.heap.size := ⟨_, rfl⟩
  rw [← hm3] at FR
  go_wp2_with (
   (with_reducible refine gate_dst (N := 6) rfl ?_)
   refine box_event ?hg (N := 6) ?hd (cs := #[.int .i64 0, .slice none 0 0, .int .i64 0]) (t := 34) ?hr ?_
   (case hd => rfl)
   (case hg => rfl)
   (case hr => go_simp <;> rfl)
   intro g6 hg Va hbox hb_
   have K6 := Aside0.mk hbox
   have hlt_ := (Array.getElem?_eq_some_iff.1 hbox).1
   have ZZ := Aside0.mk (show w.heap.size + 4 ≤ b1 ∧ b1 ≤ m1 ∧ m1 ≤ m3 ∧ m3 ≤ g6 ∧ g6 < Va.heap.size from ⟨Z1.out.1, Z1.out.2, by rw [hm1, hm3, ← SV2.out]; exact S3.out, by rw [hg, hm3]; exact Nat.le_refl _, hlt_⟩)
   have n0 : ¬ g6 = w.heap.size := by have z_ := ZZ.out; omega
   have n0' : ¬ w.heap.size = g6 := by have z_ := ZZ.out; omega
   have n1 : ¬ g6 = w.heap.size + 1 := by have z_ := ZZ.out; omega
   have n1' : ¬ w.heap.size + 1 = g6 := by have z_ := ZZ.out; omega
   clear hg hm1 hm3 Z1 SV2 hbox hlt_
   replace HB := HBs HB hb_
   replace K0 := KB K0 hb_
   replace K1 := KB K1 hb_
   replace K2 := KB K2 hb_
   replace K3 := KB K3 hb_
   replace F0 := FB F0 hb_
   replace F1 := FB F1 hb_
   replace F2 := FB F2 hb_
   replace F3 := FB F3 hb_
   replace FR := FB FR hb_
   clear hb_
   obtain ⟨x0, x1, x2, x3, x40, x41, x42, x43⟩ := cel4 K0.out
   obtain ⟨y0, y1, y2, y3, y4, y50, y51, y52, y53, y54⟩ := cel5 K1.out
   obtain ⟨v0, v1, v2, v30, v31, v32⟩ := cel3 K6.out)
  clear x0 x1 x2 x3 x40 x41 x42 x43
  clear y0 y1 y2 y3 y4 y50 y51 y52 y53 y54
  clear v0 v1 v2 v30 v31 v32
  clear n0 n0' n1 n1'
  generalize hV4 : World.setCell (World.setCell (World.setCell Va _ _) _ _) _ _ = V4
  have hge_ : w.heap.size ≤ g6 := by have z_ := ZZ.out; omega
  have hst_ := st3 HB.out hge_ K6.out hV4
  replace HB := Aside0.mk hst_.1
  replace K6 := Aside0.mk hst_.2.1
  have z_ := ZZ.out
  replace K0 := KS K0 hst_ (by omega)
  replace K1 := KS K1 hst_ (by omega)
  replace K2 := KS K2 hst_ (by omega)
  replace K3 := KS K3 hst_ (by omega)
  have e0_ : ∀ k_, (b1 ≤ k_ ∧ k_ < m1) → k_ ≠ g6 := fun k_ h_ => by omega
  replace F0 := FS F0 hst_ e0_
  replace F1 := FS F1 hst_ e0_
  replace F2 := FS F2 hst_ e0_
  replace F3 := FS F3 hst_ e0_
  have e1_ : ∀ k_, (m1 ≤ k_ ∧ k_ < m3) → k_ ≠ g6 := fun k_ h_ => by omega
  replace FR := FS FR hst_ e1_
  clear e0_ e1_
  have SV4 := Aside0.mk hst_.2.2.2
  clear hV4 hst_ hge_ z_
  obtain ⟨x0, x1, x2, x3, x40, x41, x42, x43⟩ := cel4 K0.out
  obtain ⟨v0, v1, v2, v30, v31, v32⟩ := cel3 K6.out
  obtain ⟨s0, s1, s2, s3, s40, s41, s42, s43⟩ := cel4 K2.out
  obtain ⟨t0, t1, t2, t30, t31, t32⟩ := cel3 K3.out
  have n0 : ¬ g6 = w.heap.size + 1 + 1 := by have z_ := ZZ.out; omega
  have n0' : ¬ w.heap.size + 1 + 1 = g6 := by have z_ := ZZ.out; omega
  have n1 : ¬ g6 = w.heap.size + 1 + 1 + 1 := by have z_ := ZZ.out; omega
  have n1' : ¬ w.heap.size + 1 + 1 + 1 = g6 := by have z_ := ZZ.out; omega
  go_region
  clear n0 n0' n1 n1'
  clear x0 x1 x2 x3 x40 x41 x42 x43
  clear v0 v1 v2 v30 v31 v32
  clear s0 s1 s2 s3 s40 s41 s42 s43
  clear t0 t1 t2 t30 t31 t32
  generalize hV7 : World.setCell (World.setCell (World.setCell (World.setCell V4 _ _) _ _) _ _) _ _ = V7
  have hge_ : w.heap.size ≤ w.heap.size + 1 + 1 := by have z_ := ZZ.out; omega
  have hst_ := st4 HB.out hge_ K2.out hV7
  replace HB := Aside0.mk hst_.1
  replace K2 := Aside0.mk hst_.2.1
  have z_ := ZZ.out
  replace K0 := KS K0 hst_ (by omega)
  replace K1 := KS K1 hst_ (by omega)
  replace K3 := KS K3 hst_ (by omega)
  replace K6 := KS K6 hst_ (by omega)
  have e0_ : ∀ k_, (b1 ≤ k_ ∧ k_ < m1) → k_ ≠ w.heap.size + 1 + 1 := fun k_ h_ => by omega
  replace F0 := FS F0 hst_ e0_
  replace F1 := FS F1 hst_ e0_
  replace F2 := FS F2 hst_ e0_
  replace F3 := FS F3 hst_ e0_
  have e1_ : ∀ k_, (m1 ≤ k_ ∧ k_ < m3) → k_ ≠ w.heap.size + 1 + 1 := fun k_ h_ => by omega
  replace FR := FS FR hst_ e1_
  clear e0_ e1_
  have SV7 := Aside0.mk hst_.2.2.2
  clear hV7 hst_ hge_ z_
  generalize hV8 : World.setCell (World.setCell (World.setCell V7 _ _) _ _) _ _ = V8
  have hge_ : w.heap.size ≤ w.heap.size + 1 + 1 + 1 := by have z_ := ZZ.out; omega
  have hst_ := st3 HB.out hge_ K3.out hV8
  replace HB := Aside0.mk hst_.1
  replace K3 := Aside0.mk hst_.2.1
  have z_ := ZZ.out
  replace K0 := KS K0 hst_ (by omega)
  replace K1 := KS K1 hst_ (by omega)
  replace K2 := KS K2 hst_ (by omega)
  replace K6 := KS K6 hst_ (by omega)
  have e0_ : ∀ k_, (b1 ≤ k_ ∧ k_ < m1) → k_ ≠ w.heap.size + 1 + 1 + 1 := fun k_ h_ => by omega
  replace F0 := FS F0 hst_ e0_
  replace F1 := FS F1 hst_ e0_
  replace F2 := FS F2 hst_ e0_
  replace F3 := FS F3 hst_ e0_
  have e1_ : ∀ k_, (m1 ≤ k_ ∧ k_ < m3) → k_ ≠ w.heap.size + 1 + 1 + 1 := fun k_ h_ => by omega
  replace FR := FS FR hst_ e1_
  clear e0_ e1_
  have SV8 := Aside0.mk hst_.2.2.2
  clear hV8 hst_ hge_ z_
  have bd_ := below_drew1 (Below.refl V8.heap.size V8)
  replace HB := HBs HB bd_
  replace K0 := KB K0 bd_
  replace K1 := KB K1 bd_
  replace K2 := KB K2 bd_
  replace K3 := KB K3 bd_
  replace K6 := KB K6 bd_
  replace F0 := FB F0 bd_
  replace F1 := FB F1 bd_
  replace F2 := FB F2 bd_
  replace F3 := FB F3 bd_
  replace FR := FB FR bd_
  clear bd_
  go_wp2
  refine bodyPost_ret (results_cc rfl _ _ (w.heap.size + 1 + 1) (w.heap.size + 1 + 1 + 1) 32 34 #[.slice P0 o.reg.length p0, .slice P1 o.que.length p1, .slice P2 o.loc.length p2, .slice P3 o.map.length p3] #[.int .i64 7, .slice Rv 0 rv, .int .i64 0] (0, 0) (0, 0) _ _ rfl K2.out Try.underlying32 rfl (by kernel_rfl) rfl K3.out Try.underlying34 rfl (by kernel_rfl)) rfl ?_
  rw [HA.out]
  exact ⟨P0, p0, P1, p1, P2, p2, P3, p3, Rv, rv, rfl, ⟨L0.out, Kd.F_mono F0.out (fun _ h => zq ZZ.out.1 h), L1.out, Kd.F_mono F1.out (fun _ h => zq ZZ.out.1 h), L2.out, Kd.F_mono F2.out (fun _ h => zq ZZ.out.1 h), L3.out, Kd.F_mono F3.out (fun _ h => zq ZZ.out.1 h)⟩, LR.out, Kd.F_mono FR.out (fun k_ hk => by have z_ := ZZ.out; have h2 : m1 ≤ k_ ∧ k_ < m3 := hk; show w.heap.size ≤ k_; omega), HB.out⟩)
def eqL {α : Type} (f : α → α → Bool) : List α → List α → Bool
 | [], [] => true
 | x :: a, y :: b => f x y && eqL f a b
 | _, _ => false
theorem eqL_iff {α : Type} (f : α → α → Bool) : ∀ (a b : List α), eqL f a b = true ↔ a.length = b.length ∧ ∀ i (h1 : i < a.length) (h2 : i < b.length), f a[i] b[i] = true
 | [], [] => by simp [eqL]
 | [], y :: b => by simp [eqL]
 | x :: a, [] => by simp [eqL]
 | x :: a, y :: b => by
  simp only [eqL, Bool.and_eq_true, eqL_iff f a b, List.length_cons]
  constructor
  ·
   rintro ⟨h1, h2, h3⟩
   refine ⟨by omega, fun i hi hj => ?_⟩
   cases i with
   | zero => exact h1
   | succ i => exact h3 i (by simpa using hi) (by simpa using hj)
  ·
   rintro ⟨h1, h2⟩
   exact ⟨h2 0 (by simp) (by simp), by omega, fun i hi hj => h2 (i + 1) (by simpa using hi) (by simpa using hj)⟩
theorem eqL_len {α : Type} (f : α → α → Bool) (a b : List α) (h : a.length ≠ b.length) : eqL f a b = false := by
 rw [← Bool.not_eq_true]; intro h2; exact h ((eqL_iff f a b).1 h2).1
theorem eqL_at {α : Type} (f : α → α → Bool) (a b : List α) (i : Nat) (h1 : i < a.length) (h2 : i < b.length) (h : f a[i] b[i] = false) : eqL f a b = false := by
 rw [← Bool.not_eq_true]; intro h3
 have := ((eqL_iff f a b).1 h3).2 i h1 h2
 rw [h] at this; cases this
theorem eqL_refl {α : Type} (f : α → α → Bool) (hf : ∀ x, f x x = true) : ∀ a : List α, eqL f a a = true
 | [] => rfl
 | x :: a => by simp [eqL, hf x, eqL_refl f hf a]
def eqQ : List (List Int) → List (List Int) → Bool := eqL eqB
def eqP (x y : S32) : Bool := eqB x.f0 y.f0 && eqB x.f1 y.f1
def eqM : List S32 → List S32 → Bool := eqL eqP
def eqI : List Int → List Int → Bool := eqL (fun x y => x == y)
def sameO (a b : O) : Bool := eqB a.reg b.reg && eqQ a.que b.que && eqI a.loc b.loc && eqM a.map b.map
theorem sameO_refl (a : O) : sameO a a = true := by
 simp [sameO, eqB_refl, eqQ, eqM, eqI, eqL_refl eqB eqB_refl, eqL_refl eqP (fun x => by simp [eqP, eqB_refl]), eqL_refl (fun x y : Int => x == y) (fun x => by simp)]
def sameR (a b : S26) : Bool := a.f0 == b.f0 && eqB a.f1 b.f1 && a.f2 == b.f2
theorem rd_T_get (l : List S32) (k : Nat) (h : k < l.length) : Ms.rd_T32 l (k : Int) = l[k] := by simp [Ms.rd_T32, List.getD_eq_getElem?_getD, List.getElem?_eq_getElem h]
set_option maxHeartbeats 1000000 in
theorem rows20 (A0 : Option Addr) (c0 : Nat) (l0 : List (List Int)) (A1 : Option Addr) (c1 : Nat) (l1 : List (List Int)) (w : World) (hr0 : Kd.C kq w A0 l0.length l0) (hr1 : Kd.C kq w A1 l1.length l1) :
  Calls Try.prog 20 #[.slice A0 l0.length c0, .slice A1 l1.length c1] w fun e w' => e = .returned (.bool (eqQ l0 l1)) ∧ Below w.heap.size w w' := by
 have HR := Aside0.mk hr0
 have HS := Aside0.mk hr1
 have hm0 : l0.length ≤ 9223372036854775807 := hr0.2.1
 clear hr0 hr1
 by_cases hlen : l0.length = l1.length
 ·
  have HL := Aside0.mk hlen
  rw [← hlen]
  clear hlen
  go_enter Try.func20, Try.ntmps20
  go_wp2_with fail
  go_loopw [5] (fun v5 w' => ∃ j : Nat, v5 = .int .i64 j ∧ j ≤ l0.length ∧ Aside0 (∀ i (h1 : i < j) (h2 : i < l0.length) (h3 : i < l1.length), eqB l0[i] l1[i] = true) ∧ Aside0 (Below w.heap.size w w')) (fun v5 _ => l0.length - (intOf v5).toNat)
  case atStart => exact ⟨0, rfl, Nat.zero_le _, ⟨fun i h => absurd h (by omega)⟩, ⟨Below.refl _ _⟩⟩
  case round =>
   obtain ⟨j, rfl, hj, HT, HB⟩ := hrel
   by_cases hlt : j < l0.length
   ·
    have hlt1 : j < l1.length := by have := HL.out; omega
    have e2 : IntKind.i64.wrap ((j : Int) + 1) = (j : Int) + 1 := by rw [IntKind.wrap_i64]; omega
    have hbd := below_drew1 HB.out
    obtain ⟨ad, B0, d0, e, h0, _, g0⟩ := at_L1 (Kd.C_below HR.out hbd) (j : Int) (by omega) (by omega)
    obtain ⟨bd, B1, d1, e', h1, _, g1⟩ := at_L1 (Kd.C_below HS.out hbd) (j : Int) (by omega) (by omega)
    cases e
    cases e'
    simp only [Int.toNat_natCast] at h0 h1
    have HX := Aside0.mk (rd_L1_get l0 j hlt).symm
    have HY := Aside0.mk (rd_L1_get l1 j hlt1).symm
    generalize rd_L1 l0 (j : Int) = x at h0 g0 HX
    generalize rd_L1 l1 (j : Int) = y at h1 g1 HY
    have HBD := Aside0.mk hbd
    clear hbd
    cases hq : eqB x y with
    | true =>
     have HQ := Aside0.mk hq
     have q1 := Kd.C_string (P := Try.prog) (A := B0) (c := d0) Try.underlying22 Try.underlying5 Try.underlying9 g0
     have q2 := Kd.C_string (P := Try.prog) (A := B1) (c := d1) Try.underlying22 Try.underlying5 Try.underlying9 g1
     have q3 : ((strOfNums x).toList == (strOfNums y).toList) = true := hq
     have q4 : ((strOfNums x).toList != (strOfNums y).toList) = false := by rw [bne, q3]; rfl
     clear g0 g1
     clear hq
     go_wp2_with fail
     go_region
     go_wp2
     go_roundw
     case rel => exact ⟨j + 1, by go_num, by omega, ⟨fun i h1 h2 h3 => by
      rcases Nat.lt_or_ge i j with h | h
      ·
       exact HT.out i h h2 h3
      ·
       obtain rfl : i = j := by omega
       have := HQ.out
       rwa [← HX.out, ← HY.out] at this⟩, HBD⟩
     case measure => simp [intOf]; omega
    | false =>
     have HE := Aside0.mk (eqL_at eqB l0 l1 j hlt (by have := HL.out; omega) (by rw [HX.out, HY.out]; exact hq))
     have q1 := Kd.C_string (P := Try.prog) (A := B0) (c := d0) Try.underlying22 Try.underlying5 Try.underlying9 g0
     have q2 := Kd.C_string (P := Try.prog) (A := B1) (c := d1) Try.underlying22 Try.underlying5 Try.underlying9 g1
     have q3 : ((strOfNums x).toList == (strOfNums y).toList) = false := hq
     have q4 : ((strOfNums x).toList != (strOfNums y).toList) = true := by rw [bne, q3]; rfl
     clear g0 g1
     clear hq
     go_wp2_with fail
     go_region
     go_wp2
     go_ret
     have HE2 : eqQ l0 l1 = false := HE.out
     exact ⟨by first | (rw [HE2]; rfl) | rw [HE2], HBD.out⟩
   ·
    obtain rfl : j = l0.length := by omega
    have HE : eqQ l0 l1 = true := (eqL_iff _ _ _).2 ⟨HL.out, fun i h1 h2 => HT.out i h1 h1 h2⟩
    clear HT HL
    go_wp2_with fail
    go_ret
    exact ⟨by first | (rw [HE]; rfl) | rw [HE], HB.out⟩
 ·
  have HE : eqQ l0 l1 = false := eqL_len _ _ _ hlen
  have n1 : ¬ (l0.length : Int) = (l1.length : Int) := by omega
  go_enter Try.func20, Try.ntmps20
  go_wp2_with fail
  go_ret
  exact ⟨by first | (rw [HE]; rfl) | rw [HE], Below.refl _ _⟩
set_option maxHeartbeats 1000000 in
theorem pairs21 (A0 : Option Addr) (c0 : Nat) (l0 : List S32) (A1 : Option Addr) (c1 : Nat) (l1 : List S32) (w : World) (hr0 : Kd.C km w A0 l0.length l0) (hr1 : Kd.C km w A1 l1.length l1) :
  Calls Try.prog 21 #[.slice A0 l0.length c0, .slice A1 l1.length c1] w fun e w' => e = .returned (.bool (eqM l0 l1)) ∧ Below w.heap.size w w' := by
 have HR := Aside0.mk hr0
 have HS := Aside0.mk hr1
 have hm0 : l0.length ≤ 9223372036854775807 := hr0.2.1
 clear hr0 hr1
 by_cases hlen : l0.length = l1.length
 ·
  have HL := Aside0.mk hlen
  rw [← hlen]
  clear hlen
  go_enter Try.func21, Try.ntmps21
  go_wp2_with fail
  go_loopw [5] (fun v5 w' => ∃ j : Nat, v5 = .int .i64 j ∧ j ≤ l0.length ∧ Aside0 (∀ i (h1 : i < j) (h2 : i < l0.length) (h3 : i < l1.length), eqP l0[i] l1[i] = true) ∧ Aside0 (Below w.heap.size w w')) (fun v5 _ => l0.length - (intOf v5).toNat)
  case atStart => exact ⟨0, rfl, Nat.zero_le _, ⟨fun i h => absurd h (by omega)⟩, ⟨Below.refl _ _⟩⟩
  case round =>
   obtain ⟨j, rfl, hj, HT, HB⟩ := hrel
   by_cases hlt : j < l0.length
   ·
    have hlt1 : j < l1.length := by have := HL.out; omega
    have e2 : IntKind.i64.wrap ((j : Int) + 1) = (j : Int) + 1 := by rw [IntKind.wrap_i64]; omega
    have hbd := below_drew1 HB.out
    obtain ⟨ad, B0, d0, B1, d1, e, h0, h1, _, g0, _, g1⟩ := at_T32 (Kd.C_below HR.out hbd) (j : Int) (by omega) (by omega)
    obtain ⟨bd, E0, f0, E1, f1, e', h0', h1', _, g0', _, g1'⟩ := at_T32 (Kd.C_below HS.out hbd) (j : Int) (by omega) (by omega)
    cases e
    cases e'
    simp only [Int.toNat_natCast] at h0 h1 h0' h1'
    have HX := Aside0.mk (rd_T_get l0 j hlt).symm
    have HY := Aside0.mk (rd_T_get l1 j hlt1).symm
    generalize rd_T32 l0 (j : Int) = x at h0 h1 g0 g1 HX
    generalize rd_T32 l1 (j : Int) = y at h0' h1' g0' g1' HY
    have HBD := Aside0.mk hbd
    clear hbd
    cases hq : eqP x y with
    | true =>
     have HQ := Aside0.mk hq
     have q1 := Kd.C_string (P := Try.prog) (A := B0) (c := d0) Try.underlying22 Try.underlying5 Try.underlying9 g0
     have q2 := Kd.C_string (P := Try.prog) (A := B1) (c := d1) Try.underlying22 Try.underlying5 Try.underlying9 g1
     have q3 := Kd.C_string (P := Try.prog) (A := E0) (c := f0) Try.underlying22 Try.underlying5 Try.underlying9 g0'
     have q4 := Kd.C_string (P := Try.prog) (A := E1) (c := f1) Try.underlying22 Try.underlying5 Try.underlying9 g1'
     clear g0 g1 g0' g1'
     have hq2 := hq
     simp only [eqP, Bool.and_eq_true] at hq2
     have q5 : ((strOfNums x.f0).toList == (strOfNums y.f0).toList) = true := hq2.1
     have q6 : ((strOfNums x.f0).toList != (strOfNums y.f0).toList) = false := by rw [bne, q5]; rfl
     have q7 : ((strOfNums x.f1).toList == (strOfNums y.f1).toList) = true := hq2.2
     have q8 : ((strOfNums x.f1).toList != (strOfNums y.f1).toList) = false := by rw [bne, q7]; rfl
     clear hq2
     clear hq
     go_wp2_with fail
     go_region
     go_wp2
     go_roundw
     case rel => exact ⟨j + 1, by go_num, by omega, ⟨fun i h1 h2 h3 => by
      rcases Nat.lt_or_ge i j with h | h
      ·
       exact HT.out i h h2 h3
      ·
       obtain rfl : i = j := by omega
       have := HQ.out
       rwa [← HX.out, ← HY.out] at this⟩, HBD⟩
     case measure => simp [intOf]; omega
    | false =>
     have HE := Aside0.mk (eqL_at eqP l0 l1 j hlt (by have := HL.out; omega) (by rw [HX.out, HY.out]; exact hq))
     have q1 := Kd.C_string (P := Try.prog) (A := B0) (c := d0) Try.underlying22 Try.underlying5 Try.underlying9 g0
     have q2 := Kd.C_string (P := Try.prog) (A := B1) (c := d1) Try.underlying22 Try.underlying5 Try.underlying9 g1
     have q3 := Kd.C_string (P := Try.prog) (A := E0) (c := f0) Try.underlying22 Try.underlying5 Try.underlying9 g0'
     have q4 := Kd.C_string (P := Try.prog) (A := E1) (c := f1) Try.underlying22 Try.underlying5 Try.underlying9 g1'
     clear g0 g1 g0' g1'
     cases hA : eqB x.f0 y.f0 with
     | false =>
      have q5 : ((strOfNums x.f0).toList == (strOfNums y.f0).toList) = false := hA
      have q6 : ((strOfNums x.f0).toList != (strOfNums y.f0).toList) = true := by rw [bne, q5]; rfl
      clear hq hA
      go_wp2_with fail
      go_region
      go_wp2
      go_ret
      have HE2 : eqM l0 l1 = false := HE.out
      exact ⟨by first | (rw [HE2]; rfl) | rw [HE2], HBD.out⟩
     | true =>
     have q5 : ((strOfNums x.f0).toList == (strOfNums y.f0).toList) = true := hA
     have q6 : ((strOfNums x.f0).toList != (strOfNums y.f0).toList) = false := by rw [bne, q5]; rfl
     have q7 : ((strOfNums x.f1).toList == (strOfNums y.f1).toList) = false := by rw [eqP, hA] at hq; exact hq
     have q8 : ((strOfNums x.f1).toList != (strOfNums y.f1).toList) = true := by rw [bne, q7]; rfl
     clear hA
     clear hq
     go_wp2_with fail
     go_region
     go_wp2
     go_ret
     have HE2 : eqM l0 l1 = false := HE.out
     exact ⟨by first | (rw [HE2]; rfl) | rw [HE2], HBD.out⟩
   ·
    obtain rfl : j = l0.length := by omega
    have HE : eqM l0 l1 = true := (eqL_iff _ _ _).2 ⟨HL.out, fun i h1 h2 => HT.out i h1 h1 h2⟩
    clear HT HL
    go_wp2_with fail
    go_ret
    exact ⟨by first | (rw [HE]; rfl) | rw [HE], HB.out⟩
 ·
  have HE : eqM l0 l1 = false := eqL_len _ _ _ hlen
  have n1 : ¬ (l0.length : Int) = (l1.length : Int) := by omega
  go_enter Try.func21, Try.ntmps21
  go_wp2_with fail
  go_ret
  exact ⟨by first | (rw [HE]; rfl) | rw [HE], Below.refl _ _⟩
def okR (kd a : Int) (ke va ol : List Int) : Bool := decide (1 ≤ kd ∧ kd ≤ 11 ∧ 0 ≤ a ∧ a ≤ 999 ∧ ke.length ≤ 32 ∧ va.length ≤ 32 ∧ ol.length ≤ 32)
set_option maxHeartbeats 2000000 in
theorem ok11 (kd a : Int) (E2 : Option Addr) (e2 : Nat) (E3 : Option Addr) (e3 : Nat) (E4 : Option Addr) (e4 : Nat) (ke va ol : List Int) (w : World) : Calls Try.prog 11 #[.agg #[.int .i64 kd, .int .i64 a, .slice E2 ke.length e2, .slice E3 va.length e3, .slice E4 ol.length e4]] w fun e w' => e = .returned (.bool (okR kd a ke va ol)) ∧ Below w.heap.size w w' := by
 by_cases h0 : 1 ≤ kd
 rotate_left
 ·
  have d0 : decide (1 ≤ kd) = false := decide_eq_false h0
  have hr : okR kd a ke va ol = false := decide_eq_false (by omega)
  rw [hr]
  clear hr
  clear h0
  have HB := Aside0.mk (Below.refl w.heap.size w)
  go_enter Try.func11, Try.ntmps11
  go_wp2_with fail
  go_ret
  exact ⟨rfl, below_alloc (Below.refl _ _) _⟩
 by_cases h1 : kd ≤ 11
 rotate_left
 ·
  have d0 : decide (1 ≤ kd) = true := decide_eq_true h0
  have d1 : decide (kd ≤ 11) = false := decide_eq_false h1
  have hr : okR kd a ke va ol = false := decide_eq_false (by omega)
  rw [hr]
  clear hr
  clear h0 h1
  have HB := Aside0.mk (Below.refl w.heap.size w)
  go_enter Try.func11, Try.ntmps11
  go_wp2_with fail
  go_ret
  exact ⟨rfl, below_alloc (Below.refl _ _) _⟩
 by_cases h2 : 0 ≤ a ∧ a ≤ 999
 rotate_left
 ·
  have d0 : decide (1 ≤ kd) = true := decide_eq_true h0
  have d1 : decide (kd ≤ 11) = true := decide_eq_true h1
  have hr : okR kd a ke va ol = false := decide_eq_false (by omega)
  have hw : objs_who.f a = some false := by
   unfold objs_who.f
   split <;> simp <;> omega
  rw [hr]
  clear hr
  clear h0 h1 h2
  have HB := Aside0.mk (Below.refl w.heap.size w)
  go_enter Try.func11, Try.ntmps11
  go_wp2_with fail
  generalize hV0 : World.alloc _ _ = V0
  obtain ⟨K0, hb_, SV0⟩ := al1 hV0
  clear hV0
  replace HB := HBs HB hb_
  clear hb_
  refine (objs_who.calls a false V0 hw).mono ?_
  rintro e w2 ⟨rfl, hd⟩
  have hb_ := hd.below
  clear hd hw
  replace HB := HBs HB hb_
  replace K0 := KB K0 hb_
  clear hb_
  obtain ⟨x0, x1, x2, x3, x4, x50, x51, x52, x53, x54⟩ := cel5 K0.out
  go_wp2_with fail
  go_ret
  exact ⟨rfl, HB.out⟩
 by_cases h3 : ke.length ≤ 32 ∧ va.length ≤ 32 ∧ ol.length ≤ 32
 rotate_left
 ·
  have d0 : decide (1 ≤ kd) = true := decide_eq_true h0
  have d1 : decide (kd ≤ 11) = true := decide_eq_true h1
  have hr : okR kd a ke va ol = false := decide_eq_false (by omega)
  have hw : objs_who.f a = some true := by
   unfold objs_who.f
   rw [if_pos (by omega)]; simp; omega
  rw [hr]
  clear hr
  by_cases g1 : ke.length < va.length
  ·
   have t1 : (ke.length : Int) < (va.length : Int) := by omega
   have t1' : decide ((ke.length : Int) < (va.length : Int)) = true := decide_eq_true t1
   by_cases g2 : va.length < ol.length
   ·
    have t2 : (va.length : Int) < (ol.length : Int) := by omega
    have t2' : decide ((va.length : Int) < (ol.length : Int)) = true := decide_eq_true t2
    have t3 : decide ((ol.length : Int) ≤ 32) = false := decide_eq_false (by omega)
    have t4 : decide (ol.length ≤ 32) = false := decide_eq_false (by omega)
    clear h0 h1 h2 h3 g1 g2
    have HB := Aside0.mk (Below.refl w.heap.size w)
    go_enter Try.func11, Try.ntmps11
    go_wp2_with fail
    generalize hV0 : World.alloc _ _ = V0
    obtain ⟨K0, hb_, SV0⟩ := al1 hV0
    clear hV0
    replace HB := HBs HB hb_
    clear hb_
    refine (objs_who.calls a true V0 hw).mono ?_
    rintro e w2 ⟨rfl, hd⟩
    have hb_ := hd.below
    clear hd hw
    replace HB := HBs HB hb_
    replace K0 := KB K0 hb_
    clear hb_
    obtain ⟨x0, x1, x2, x3, x4, x50, x51, x52, x53, x54⟩ := cel5 K0.out
    go_wp2_with fail
    go_ret
    exact ⟨rfl, HB.out⟩
   ·
    have t2 : ¬ (va.length : Int) < (ol.length : Int) := by omega
    have t2' : decide ((va.length : Int) < (ol.length : Int)) = false := decide_eq_false t2
    have t3 : decide ((va.length : Int) ≤ 32) = false := decide_eq_false (by omega)
    have t4 : decide (va.length ≤ 32) = false := decide_eq_false (by omega)
    clear h0 h1 h2 h3 g1 g2
    have HB := Aside0.mk (Below.refl w.heap.size w)
    go_enter Try.func11, Try.ntmps11
    go_wp2_with fail
    generalize hV0 : World.alloc _ _ = V0
    obtain ⟨K0, hb_, SV0⟩ := al1 hV0
    clear hV0
    replace HB := HBs HB hb_
    clear hb_
    refine (objs_who.calls a true V0 hw).mono ?_
    rintro e w2 ⟨rfl, hd⟩
    have hb_ := hd.below
    clear hd hw
    replace HB := HBs HB hb_
    replace K0 := KB K0 hb_
    clear hb_
    obtain ⟨x0, x1, x2, x3, x4, x50, x51, x52, x53, x54⟩ := cel5 K0.out
    go_wp2_with fail
    go_ret
    exact ⟨rfl, HB.out⟩
  ·
   have t1 : ¬ (ke.length : Int) < (va.length : Int) := by omega
   have t1' : decide ((ke.length : Int) < (va.length : Int)) = false := decide_eq_false t1
   by_cases g2 : ke.length < ol.length
   ·
    have t2 : (ke.length : Int) < (ol.length : Int) := by omega
    have t2' : decide ((ke.length : Int) < (ol.length : Int)) = true := decide_eq_true t2
    have t3 : decide ((ol.length : Int) ≤ 32) = false := decide_eq_false (by omega)
    have t4 : decide (ol.length ≤ 32) = false := decide_eq_false (by omega)
    clear h0 h1 h2 h3 g1 g2
    have HB := Aside0.mk (Below.refl w.heap.size w)
    go_enter Try.func11, Try.ntmps11
    go_wp2_with fail
    generalize hV0 : World.alloc _ _ = V0
    obtain ⟨K0, hb_, SV0⟩ := al1 hV0
    clear hV0
    replace HB := HBs HB hb_
    clear hb_
    refine (objs_who.calls a true V0 hw).mono ?_
    rintro e w2 ⟨rfl, hd⟩
    have hb_ := hd.below
    clear hd hw
    replace HB := HBs HB hb_
    replace K0 := KB K0 hb_
    clear hb_
    obtain ⟨x0, x1, x2, x3, x4, x50, x51, x52, x53, x54⟩ := cel5 K0.out
    go_wp2_with fail
    go_ret
    exact ⟨rfl, HB.out⟩
   ·
    have t2 : ¬ (ke.length : Int) < (ol.length : Int) := by omega
    have t2' : decide ((ke.length : Int) < (ol.length : Int)) = false := decide_eq_false t2
    have t3 : decide ((ke.length : Int) ≤ 32) = false := decide_eq_false (by omega)
    have t4 : decide (ke.length ≤ 32) = false := decide_eq_false (by omega)
    clear h0 h1 h2 h3 g1 g2
    have HB := Aside0.mk (Below.refl w.heap.size w)
    go_enter Try.func11, Try.ntmps11
    go_wp2_with fail
    generalize hV0 : World.alloc _ _ = V0
    obtain ⟨K0, hb_, SV0⟩ := al1 hV0
    clear hV0
    replace HB := HBs HB hb_
    clear hb_
    refine (objs_who.calls a true V0 hw).mono ?_
    rintro e w2 ⟨rfl, hd⟩
    have hb_ := hd.below
    clear hd hw
    replace HB := HBs HB hb_
    replace K0 := KB K0 hb_
    clear hb_
    obtain ⟨x0, x1, x2, x3, x4, x50, x51, x52, x53, x54⟩ := cel5 K0.out
    go_wp2_with fail
    go_ret
    exact ⟨rfl, HB.out⟩
 have d0 : decide (1 ≤ kd) = true := decide_eq_true h0
 have d1 : decide (kd ≤ 11) = true := decide_eq_true h1
 have hr : okR kd a ke va ol = true := decide_eq_true (by omega)
 have hw : objs_who.f a = some true := by
  unfold objs_who.f
  rw [if_pos (by omega)]; simp; omega
 rw [hr]
 clear hr
 by_cases g1 : ke.length < va.length
 ·
  have t1 : (ke.length : Int) < (va.length : Int) := by omega
  have t1' : decide ((ke.length : Int) < (va.length : Int)) = true := decide_eq_true t1
  by_cases g2 : va.length < ol.length
  ·
   have t2 : (va.length : Int) < (ol.length : Int) := by omega
   have t2' : decide ((va.length : Int) < (ol.length : Int)) = true := decide_eq_true t2
   have t3 : decide ((ol.length : Int) ≤ 32) = true := decide_eq_true (by omega)
   have t4 : decide (ol.length ≤ 32) = true := decide_eq_true (by omega)
   clear h0 h1 h2 h3 g1 g2
   have HB := Aside0.mk (Below.refl w.heap.size w)
   go_enter Try.func11, Try.ntmps11
   go_wp2_with fail
   generalize hV0 : World.alloc _ _ = V0
   obtain ⟨K0, hb_, SV0⟩ := al1 hV0
   clear hV0
   replace HB := HBs HB hb_
   clear hb_
   refine (objs_who.calls a true V0 hw).mono ?_
   rintro e w2 ⟨rfl, hd⟩
   have hb_ := hd.below
   clear hd hw
   replace HB := HBs HB hb_
   replace K0 := KB K0 hb_
   clear hb_
   obtain ⟨x0, x1, x2, x3, x4, x50, x51, x52, x53, x54⟩ := cel5 K0.out
   go_wp2_with fail
   go_ret
   exact ⟨rfl, HB.out⟩
  ·
   have t2 : ¬ (va.length : Int) < (ol.length : Int) := by omega
   have t2' : decide ((va.length : Int) < (ol.length : Int)) = false := decide_eq_false t2
   have t3 : decide ((va.length : Int) ≤ 32) = true := decide_eq_true (by omega)
   have t4 : decide (va.length ≤ 32) = true := decide_eq_true (by omega)
   clear h0 h1 h2 h3 g1 g2
   have HB := Aside0.mk (Below.refl w.heap.size w)
   go_enter Try.func11, Try.ntmps11
   go_wp2_with fail
   generalize hV0 : World.alloc _ _ = V0
   obtain ⟨K0, hb_, SV0⟩ := al1 hV0
   clear hV0
   replace HB := HBs HB hb_
   clear hb_
   refine (objs_who.calls a true V0 hw).mono ?_
   rintro e w2 ⟨rfl, hd⟩
   have hb_ := hd.below
   clear hd hw
   replace HB := HBs HB hb_
   replace K0 := KB K0 hb_
   clear hb_
   obtain ⟨x0, x1, x2, x3, x4, x50, x51, x52, x53, x54⟩ := cel5 K0.out
   go_wp2_with fail
   go_ret
   exact ⟨rfl, HB.out⟩
 ·
  have t1 : ¬ (ke.length : Int) < (va.length : Int) := by omega
  have t1' : decide ((ke.length : Int) < (va.length : Int)) = false := decide_eq_false t1
  by_cases g2 : ke.length < ol.length
  ·
   have t2 : (ke.length : Int) < (ol.length : Int) := by omega
   have t2' : decide ((ke.length : Int) < (ol.length : Int)) = true := decide_eq_true t2
   have t3 : decide ((ol.length : Int) ≤ 32) = true := decide_eq_true (by omega)
   have t4 : decide (ol.length ≤ 32) = true := decide_eq_true (by omega)
   clear h0 h1 h2 h3 g1 g2
   have HB := Aside0.mk (Below.refl w.heap.size w)
   go_enter Try.func11, Try.ntmps11
   go_wp2_with fail
   generalize hV0 : World.alloc _ _ = V0
   obtain ⟨K0, hb_, SV0⟩ := al1 hV0
   clear hV0
   replace HB := HBs HB hb_
   clear hb_
   refine (objs_who.calls a true V0 hw).mono ?_
   rintro e w2 ⟨rfl, hd⟩
   have hb_ := hd.below
   clear hd hw
   replace HB := HBs HB hb_
   replace K0 := KB K0 hb_
   clear hb_
   obtain ⟨x0, x1, x2, x3, x4, x50, x51, x52, x53, x54⟩ := cel5 K0.out
   go_wp2_with fail
   go_ret
   exact ⟨rfl, HB.out⟩
  ·
   have t2 : ¬ (ke.length : Int) < (ol.length : Int) := by omega
   have t2' : decide ((ke.length : Int) < (ol.length : Int)) = false := decide_eq_false t2
   have t3 : decide ((ke.length : Int) ≤ 32) = true := decide_eq_true (by omega)
   have t4 : decide (ke.length ≤ 32) = true := decide_eq_true (by omega)
   clear h0 h1 h2 h3 g1 g2
   have HB := Aside0.mk (Below.refl w.heap.size w)
   go_enter Try.func11, Try.ntmps11
   go_wp2_with fail
   generalize hV0 : World.alloc _ _ = V0
   obtain ⟨K0, hb_, SV0⟩ := al1 hV0
   clear hV0
   replace HB := HBs HB hb_
   clear hb_
   refine (objs_who.calls a true V0 hw).mono ?_
   rintro e w2 ⟨rfl, hd⟩
   have hb_ := hd.below
   clear hd hw
   replace HB := HBs HB hb_
   replace K0 := KB K0 hb_
   clear hb_
   obtain ⟨x0, x1, x2, x3, x4, x50, x51, x52, x53, x54⟩ := cel5 K0.out
   go_wp2_with fail
   go_ret
   exact ⟨rfl, HB.out⟩
set_option maxHeartbeats 2000000 in
theorem s19_0 (Av : Option Addr) (av : Nat) (Bv : Option Addr) (bv : Nat) (p q : S26) (w : World) (hp : Kd.C kb w Av p.f1.length p.f1) (lp : p.f1.length ≤ av) (hq : Kd.C kb w Bv q.f1.length q.f1) (lq : q.f1.length ≤ bv) (c1 : (p.f0 == q.f0) = false) : Calls Try.prog 19 #[.agg #[.int .i64 p.f0, .slice Av p.f1.length av, .int .i64 p.f2], .agg #[.int .i64 q.f0, .slice Bv q.f1.length bv, .int .i64 q.f2]] w fun e w' => e = .returned (.bool false) ∧ Below w.heap.size w w' := by
 have HP := Aside0.mk hp
 have HQ := Aside0.mk hq
 have LP := Aside0.mk lp
 have LQ := Aside0.mk lq
 clear hp hq lp lq
 have HB := Aside0.mk (Below.refl w.heap.size w)
 go_enter Try.func19, Try.ntmps19
 go_wp2_with fail
 go_ret
 exact ⟨rfl, below_alloc (below_alloc (Below.refl _ _) _) _⟩
set_option maxHeartbeats 2000000 in
theorem s19_1 (Av : Option Addr) (av : Nat) (Bv : Option Addr) (bv : Nat) (p q : S26) (w : World) (hp : Kd.C kb w Av p.f1.length p.f1) (lp : p.f1.length ≤ av) (hq : Kd.C kb w Bv q.f1.length q.f1) (lq : q.f1.length ≤ bv) (c1 : (p.f0 == q.f0) = true) (c3 : (p.f2 == q.f2) = false) : Calls Try.prog 19 #[.agg #[.int .i64 p.f0, .slice Av p.f1.length av, .int .i64 p.f2], .agg #[.int .i64 q.f0, .slice Bv q.f1.length bv, .int .i64 q.f2]] w fun e w' => e = .returned (.bool false) ∧ Below w.heap.size w w' := by
 have HP := Aside0.mk hp
 have HQ := Aside0.mk hq
 have LP := Aside0.mk lp
 have LQ := Aside0.mk lq
 clear hp hq lp lq
 have HB := Aside0.mk (Below.refl w.heap.size w)
 go_enter Try.func19, Try.ntmps19
 go_wp2_with fail
 go_ret
 exact ⟨rfl, below_alloc (below_alloc (Below.refl _ _) _) _⟩
set_option maxHeartbeats 2000000 in
theorem s19_2f (Av : Option Addr) (av : Nat) (Bv : Option Addr) (bv : Nat) (p q : S26) (w : World) (hp : Kd.C kb w Av p.f1.length p.f1) (lp : p.f1.length ≤ av) (hq : Kd.C kb w Bv q.f1.length q.f1) (lq : q.f1.length ≤ bv) (c1 : (p.f0 == q.f0) = true) (c3 : (p.f2 == q.f2) = true) (c2 : eqB p.f1 q.f1 = false) : Calls Try.prog 19 #[.agg #[.int .i64 p.f0, .slice Av p.f1.length av, .int .i64 p.f2], .agg #[.int .i64 q.f0, .slice Bv q.f1.length bv, .int .i64 q.f2]] w fun e w' => e = .returned (.bool false) ∧ Below w.heap.size w w' := by
 have hqq : eqB p.f1 q.f1 = false := c2
 clear c2
 have HP := Aside0.mk hp
 have HQ := Aside0.mk hq
 have LP := Aside0.mk lp
 have LQ := Aside0.mk lq
 clear hp hq lp lq
 have HB := Aside0.mk (Below.refl w.heap.size w)
 go_enter Try.func19, Try.ntmps19
 go_wp2_with fail
 generalize hV0 : World.alloc _ _ = V0
 obtain ⟨K0, K1, hb_, SV0⟩ := al2 hV0
 clear hV0
 replace HB := HBs HB hb_
 clear hb_
 refine (bytes_Equal.calls Av av p.f1 Bv bv q.f1 false V0 (Kd.C_below HP.out HB.out) LP.out (Kd.C_below HQ.out HB.out) LQ.out (by rw [← hqq]; rfl)).mono ?_
 rintro e w2 ⟨rfl, hd⟩
 have hb_ := hd.below
 clear hd hqq
 replace HB := HBs HB hb_
 replace K0 := KB K0 hb_
 replace K1 := KB K1 hb_
 clear hb_
 go_wp2_with fail
 go_ret
 exact ⟨rfl, HB.out⟩
set_option maxHeartbeats 2000000 in
theorem s19_2t (Av : Option Addr) (av : Nat) (Bv : Option Addr) (bv : Nat) (p q : S26) (w : World) (hp : Kd.C kb w Av p.f1.length p.f1) (lp : p.f1.length ≤ av) (hq : Kd.C kb w Bv q.f1.length q.f1) (lq : q.f1.length ≤ bv) (c1 : (p.f0 == q.f0) = true) (c3 : (p.f2 == q.f2) = true) (c2 : eqB p.f1 q.f1 = true) : Calls Try.prog 19 #[.agg #[.int .i64 p.f0, .slice Av p.f1.length av, .int .i64 p.f2], .agg #[.int .i64 q.f0, .slice Bv q.f1.length bv, .int .i64 q.f2]] w fun e w' => e = .returned (.bool true) ∧ Below w.heap.size w w' := by
 have hqq : eqB p.f1 q.f1 = true := c2
 clear c2
 have HP := Aside0.mk hp
 have HQ := Aside0.mk hq
 have LP := Aside0.mk lp
 have LQ := Aside0.mk lq
 clear hp hq lp lq
 have HB := Aside0.mk (Below.refl w.heap.size w)
 go_enter Try.func19, Try.ntmps19
 go_wp2_with fail
 generalize hV0 : World.alloc _ _ = V0
 obtain ⟨K0, K1, hb_, SV0⟩ := al2 hV0
 clear hV0
 replace HB := HBs HB hb_
 clear hb_
 refine (bytes_Equal.calls Av av p.f1 Bv bv q.f1 true V0 (Kd.C_below HP.out HB.out) LP.out (Kd.C_below HQ.out HB.out) LQ.out (by rw [← hqq]; rfl)).mono ?_
 rintro e w2 ⟨rfl, hd⟩
 have hb_ := hd.below
 clear hd hqq
 replace HB := HBs HB hb_
 replace K0 := KB K0 hb_
 replace K1 := KB K1 hb_
 clear hb_
 go_wp2_with fail
 go_ret
 exact ⟨rfl, HB.out⟩
theorem same19 (Av : Option Addr) (av : Nat) (Bv : Option Addr) (bv : Nat) (p q : S26) (w : World) (hp : Kd.C kb w Av p.f1.length p.f1) (lp : p.f1.length ≤ av) (hq : Kd.C kb w Bv q.f1.length q.f1) (lq : q.f1.length ≤ bv) : Calls Try.prog 19 #[.agg #[.int .i64 p.f0, .slice Av p.f1.length av, .int .i64 p.f2], .agg #[.int .i64 q.f0, .slice Bv q.f1.length bv, .int .i64 q.f2]] w fun e w' => e = .returned (.bool (sameR p q)) ∧ Below w.heap.size w w' := by
 unfold sameR
 cases c1 : p.f0 == q.f0 with
 | false => exact s19_0 Av av Bv bv p q w hp lp hq lq c1
 | true =>
  cases c3 : p.f2 == q.f2 with
  | false => rw [Bool.and_false]; exact s19_1 Av av Bv bv p q w hp lp hq lq c1 c3
  | true =>
   cases c2 : eqB p.f1 q.f1 with
   | false => exact s19_2f Av av Bv bv p q w hp lp hq lq c1 c3 c2
   | true => exact s19_2t Av av Bv bv p q w hp lp hq lq c1 c3 c2
set_option maxHeartbeats 2000000 in
theorem same16 (Av : Option Addr) (av : Nat) (Bv : Option Addr) (bv : Nat) (p q : S26) (w : World) (hp : Kd.C kb w Av p.f1.length p.f1) (lp : p.f1.length ≤ av) (hq : Kd.C kb w Bv q.f1.length q.f1) (lq : q.f1.length ≤ bv) : Calls Try.prog 16 #[.agg #[.int .i64 p.f0, .slice Av p.f1.length av, .int .i64 p.f2], .agg #[.int .i64 q.f0, .slice Bv q.f1.length bv, .int .i64 q.f2]] w fun e w' => e = .returned (.bool (sameR p q)) ∧ Below w.heap.size w w' := by
 unfold sameR
 obtain ⟨V0, hV0⟩ : ∃ V_, V_ = (w.alloc (.cells #[.int .i64 p.f0, .slice Av p.f1.length av, .int .i64 p.f2] 34)).alloc (.cells #[.int .i64 q.f0, .slice Bv q.f1.length bv, .int .i64 q.f2] 34) := ⟨_, rfl⟩
 have hb0 : Below w.heap.size w V0 := by rw [hV0]; exact below_alloc (below_alloc (Below.refl _ _) _) _
 have q1 := Kd.C_string (P := Try.prog) (A := Av) (c := av) Try.underlying22 Try.underlying5 Try.underlying9 (Kd.C_below hp hb0)
 have q2 := Kd.C_string (P := Try.prog) (A := Bv) (c := bv) Try.underlying22 Try.underlying5 Try.underlying9 (Kd.C_below hq hb0)
 rw [hV0] at q1 q2
 clear hV0 hp hq lp lq hb0
 cases c1 : p.f0 == q.f0 with
 | false =>
  go_enter Try.func16, Try.ntmps16
  go_wp2_with fail
  go_ret
  exact ⟨rfl, below_alloc (below_alloc (Below.refl _ _) _) _⟩
 | true =>
  cases c2 : eqB p.f1 q.f1 with
  | false =>
   have q3 : ((strOfNums p.f1).toList == (strOfNums q.f1).toList) = false := c2
   go_enter Try.func16, Try.ntmps16
   go_wp2_with fail
   go_ret
   exact ⟨rfl, below_alloc (below_alloc (Below.refl _ _) _) _⟩
  | true =>
   have q3 : ((strOfNums p.f1).toList == (strOfNums q.f1).toList) = true := c2
   cases c3 : p.f2 == q.f2 with
   | false =>
    go_enter Try.func16, Try.ntmps16
    go_wp2_with fail
    go_ret
    exact ⟨rfl, below_alloc (below_alloc (Below.refl _ _) _) _⟩
   | true =>
    go_enter Try.func16, Try.ntmps16
    go_wp2_with fail
    go_ret
    exact ⟨rfl, below_alloc (below_alloc (Below.refl _ _) _) _⟩
set_option maxHeartbeats 2000000 in
theorem ok18 (kd a : Int) (E2 : Option Addr) (e2 : Nat) (E3 : Option Addr) (e3 : Nat) (E4 : Option Addr) (e4 : Nat) (ke va ol : List Int) (w : World) : Calls Try.prog 18 #[.agg #[.int .i64 kd, .int .i64 a, .slice E2 ke.length e2, .slice E3 va.length e3, .slice E4 ol.length e4]] w fun e w' => e = .returned (.bool (okR kd a ke va ol)) ∧ Below w.heap.size w w' := by
 by_cases h0 : 1 ≤ kd
 rotate_left
 ·
  have d0 : decide (1 ≤ kd) = false := decide_eq_false h0
  have hr : okR kd a ke va ol = false := decide_eq_false (by omega)
  clear h0
  rw [hr]
  clear hr
  go_enter Try.func18, Try.ntmps18
  go_wp2_with fail
  go_ret
  exact ⟨rfl, below_alloc (Below.refl _ _) _⟩
 by_cases h1 : kd ≤ 11
 rotate_left
 ·
  have d0 : decide (1 ≤ kd) = true := decide_eq_true h0
  have d1 : decide (kd ≤ 11) = false := decide_eq_false h1
  have hr : okR kd a ke va ol = false := decide_eq_false (by omega)
  clear h0 h1
  rw [hr]
  clear hr
  go_enter Try.func18, Try.ntmps18
  go_wp2_with fail
  go_ret
  exact ⟨rfl, below_alloc (Below.refl _ _) _⟩
 by_cases h2 : 0 ≤ a
 rotate_left
 ·
  have d0 : decide (1 ≤ kd) = true := decide_eq_true h0
  have d1 : decide (kd ≤ 11) = true := decide_eq_true h1
  have d2 : decide (0 ≤ a) = false := decide_eq_false h2
  have hr : okR kd a ke va ol = false := decide_eq_false (by omega)
  clear h0 h1 h2
  rw [hr]
  clear hr
  go_enter Try.func18, Try.ntmps18
  go_wp2_with fail
  go_ret
  exact ⟨rfl, below_alloc (Below.refl _ _) _⟩
 by_cases h3 : a ≤ 999
 rotate_left
 ·
  have d0 : decide (1 ≤ kd) = true := decide_eq_true h0
  have d1 : decide (kd ≤ 11) = true := decide_eq_true h1
  have d2 : decide (0 ≤ a) = true := decide_eq_true h2
  have d3 : decide (a ≤ 999) = false := decide_eq_false h3
  have hr : okR kd a ke va ol = false := decide_eq_false (by omega)
  clear h0 h1 h2 h3
  rw [hr]
  clear hr
  go_enter Try.func18, Try.ntmps18
  go_wp2_with fail
  go_ret
  exact ⟨rfl, below_alloc (Below.refl _ _) _⟩
 by_cases h4 : (ke.length : Int) ≤ 32
 rotate_left
 ·
  have d0 : decide (1 ≤ kd) = true := decide_eq_true h0
  have d1 : decide (kd ≤ 11) = true := decide_eq_true h1
  have d2 : decide (0 ≤ a) = true := decide_eq_true h2
  have d3 : decide (a ≤ 999) = true := decide_eq_true h3
  have d4 : decide ((ke.length : Int) ≤ 32) = false := decide_eq_false h4
  have hr : okR kd a ke va ol = false := decide_eq_false (by omega)
  clear h0 h1 h2 h3 h4
  rw [hr]
  clear hr
  go_enter Try.func18, Try.ntmps18
  go_wp2_with fail
  go_ret
  exact ⟨rfl, below_alloc (Below.refl _ _) _⟩
 by_cases h5 : (va.length : Int) ≤ 32
 rotate_left
 ·
  have d0 : decide (1 ≤ kd) = true := decide_eq_true h0
  have d1 : decide (kd ≤ 11) = true := decide_eq_true h1
  have d2 : decide (0 ≤ a) = true := decide_eq_true h2
  have d3 : decide (a ≤ 999) = true := decide_eq_true h3
  have d4 : decide ((ke.length : Int) ≤ 32) = true := decide_eq_true h4
  have d5 : decide ((va.length : Int) ≤ 32) = false := decide_eq_false h5
  have hr : okR kd a ke va ol = false := decide_eq_false (by omega)
  clear h0 h1 h2 h3 h4 h5
  rw [hr]
  clear hr
  go_enter Try.func18, Try.ntmps18
  go_wp2_with fail
  go_ret
  exact ⟨rfl, below_alloc (Below.refl _ _) _⟩
 by_cases h6 : (ol.length : Int) ≤ 32
 rotate_left
 ·
  have d0 : decide (1 ≤ kd) = true := decide_eq_true h0
  have d1 : decide (kd ≤ 11) = true := decide_eq_true h1
  have d2 : decide (0 ≤ a) = true := decide_eq_true h2
  have d3 : decide (a ≤ 999) = true := decide_eq_true h3
  have d4 : decide ((ke.length : Int) ≤ 32) = true := decide_eq_true h4
  have d5 : decide ((va.length : Int) ≤ 32) = true := decide_eq_true h5
  have d6 : decide ((ol.length : Int) ≤ 32) = false := decide_eq_false h6
  have hr : okR kd a ke va ol = false := decide_eq_false (by omega)
  clear h0 h1 h2 h3 h4 h5 h6
  rw [hr]
  clear hr
  go_enter Try.func18, Try.ntmps18
  go_wp2_with fail
  go_ret
  exact ⟨rfl, below_alloc (Below.refl _ _) _⟩
 have d0 : decide (1 ≤ kd) = true := decide_eq_true h0
 have d1 : decide (kd ≤ 11) = true := decide_eq_true h1
 have d2 : decide (0 ≤ a) = true := decide_eq_true h2
 have d3 : decide (a ≤ 999) = true := decide_eq_true h3
 have d4 : decide ((ke.length : Int) ≤ 32) = true := decide_eq_true h4
 have d5 : decide ((va.length : Int) ≤ 32) = true := decide_eq_true h5
 have d6 : decide ((ol.length : Int) ≤ 32) = true := decide_eq_true h6
 have hr : okR kd a ke va ol = true := decide_eq_true (by omega)
 clear h0 h1 h2 h3 h4 h5 h6
 rw [hr]
 clear hr
 go_enter Try.func18, Try.ntmps18
 go_wp2_with fail
 go_ret
 exact ⟨rfl, below_alloc (Below.refl _ _) _⟩
set_option maxHeartbeats 1000000 in
theorem ints59 (A0 : Option Addr) (c0 : Nat) (l0 : List Int) (A1 : Option Addr) (c1 : Nat) (l1 : List Int) (w : World) (hr0 : Kd.C ki w A0 l0.length l0) (hr1 : Kd.C ki w A1 l1.length l1) :
  Calls Try.prog 59 #[.slice A0 l0.length c0, .slice A1 l1.length c1] w fun e w' => e = .returned (.bool (eqI l0 l1)) ∧ Below w.heap.size w w' := by
 have HR := Aside0.mk hr0
 have HS := Aside0.mk hr1
 have hm0 : l0.length ≤ 9223372036854775807 := hr0.2.1
 clear hr0 hr1
 by_cases hlen : l0.length = l1.length
 ·
  have HL := Aside0.mk hlen
  rw [← hlen]
  clear hlen
  go_enter Try.func59, Try.ntmps59
  go_wp2_with fail
  go_loopw [13] (fun v5 w' => ∃ j : Nat, v5 = .int .i64 j ∧ j ≤ l0.length ∧ Aside0 (∀ i (h1 : i < j) (h2 : i < l0.length) (h3 : i < l1.length), (fun x y : Int => x == y) l0[i] l1[i] = true) ∧ Aside0 (Below w.heap.size w w')) (fun v5 _ => l0.length - (intOf v5).toNat)
  case atStart => exact ⟨0, rfl, Nat.zero_le _, ⟨fun i h => absurd h (by omega)⟩, ⟨Below.refl _ _⟩⟩
  case round =>
   obtain ⟨j, rfl, hj, HT, HB⟩ := hrel
   by_cases hlt : j < l0.length
   ·
    have hlt1 : j < l1.length := by have := HL.out; omega
    have e2 : IntKind.i64.wrap ((j : Int) + 1) = (j : Int) + 1 := by rw [IntKind.wrap_i64]; omega
    have hbd := below_drew1 HB.out
    obtain ⟨ad, c, e, _, hK, hc0⟩ := Kd.C_get (Kd.C_below HR.out hbd) 0 (j : Int) (by omega) (by omega)
    obtain ⟨bd, c', e', _, hK', hc0'⟩ := Kd.C_get (Kd.C_below HS.out hbd) 0 (j : Int) (by omega) (by omega)
    cases e
    cases e'
    have h0 := hc0 0 (.int .i64 (l0.getD (j : Int).toNat 0)) (by rw [show c = [.int .i64 (l0.getD (j : Int).toNat 0)] from hK]; rfl)
    have h1 := hc0' 0 (.int .i64 (l1.getD (j : Int).toNat 0)) (by rw [show c' = [.int .i64 (l1.getD (j : Int).toNat 0)] from hK']; rfl)
    simp only [Int.toNat_natCast, show ki.sz = 1 from rfl, Nat.mul_one, Nat.add_zero] at h0 h1
    have HX := Aside0.mk (show l0[j] = l0.getD j 0 by simp [List.getD_eq_getElem?_getD, List.getElem?_eq_getElem hlt])
    have HY := Aside0.mk (show l1[j] = l1.getD j 0 by simp [List.getD_eq_getElem?_getD, List.getElem?_eq_getElem hlt1])
    clear hK hK' hc0 hc0'
    generalize l0.getD j 0 = x at h0 HX
    generalize l1.getD j 0 = y at h1 HY
    have HBD := Aside0.mk hbd
    clear hbd
    cases hq : (fun x y : Int => x == y) x y with
    | true =>
     have HQ := Aside0.mk hq
     have q3 : (x == y) = true := hq
     have q4 : (x != y) = false := by rw [bne, q3]; rfl
     have q5 : x = y := beq_iff_eq.1 hq
     have Q5 := Aside0.mk q5
     clear q5
     clear hq
     go_wp2_with fail
     go_region
     go_wp2
     go_roundw
     case rel => exact ⟨j + 1, by go_num, by omega, ⟨fun i h1 h2 h3 => by
      rcases Nat.lt_or_ge i j with h | h
      ·
       exact HT.out i h h2 h3
      ·
       obtain rfl : i = j := by omega
       have := HQ.out
       rwa [← HX.out, ← HY.out] at this⟩, HBD⟩
     case measure => simp [intOf]; omega
    | false =>
     have HE := Aside0.mk (eqL_at (fun x y : Int => x == y) l0 l1 j hlt (by have := HL.out; omega) (by rw [HX.out, HY.out]; exact hq))
     have q3 : (x == y) = false := hq
     have q4 : (x != y) = true := by rw [bne, q3]; rfl
     have q5 : ¬ x = y := beq_eq_false_iff_ne.1 hq
     have Q5 := Aside0.mk q5
     clear q5
     clear hq
     go_wp2_with fail
     go_region
     go_wp2
     go_ret
     have HE2 : eqI l0 l1 = false := HE.out
     exact ⟨by first | (rw [HE2]; rfl) | rw [HE2], HBD.out⟩
   ·
    obtain rfl : j = l0.length := by omega
    have HE : eqI l0 l1 = true := (eqL_iff _ _ _).2 ⟨HL.out, fun i h1 h2 => HT.out i h1 h1 h2⟩
    clear HT HL
    go_wp2_with fail
    go_ret
    exact ⟨by first | (rw [HE]; rfl) | rw [HE], HB.out⟩
 ·
  have HE : eqI l0 l1 = false := eqL_len _ _ _ hlen
  have n1 : ¬ (l0.length : Int) = (l1.length : Int) := by omega
  go_enter Try.func59, Try.ntmps59
  go_wp2_with fail
  go_ret
  exact ⟨by first | (rw [HE]; rfl) | rw [HE], Below.refl _ _⟩
set_option maxHeartbeats 1000000 in
theorem ints55 (A0 : Option Addr) (c0 : Nat) (l0 : List Int) (A1 : Option Addr) (c1 : Nat) (l1 : List Int) (w : World) (hr0 : Kd.C ki w A0 l0.length l0) (hr1 : Kd.C ki w A1 l1.length l1) :
  Calls Try.prog 55 #[.slice A0 l0.length c0, .slice A1 l1.length c1] w fun e w' => e = .returned (.bool (eqI l0 l1)) ∧ Below w.heap.size w w' := by
 have HR := Aside0.mk hr0
 have HS := Aside0.mk hr1
 have hm0 : l0.length ≤ 9223372036854775807 := hr0.2.1
 clear hr0 hr1
 by_cases hlen : l0.length = l1.length
 ·
  have HL := Aside0.mk hlen
  rw [← hlen]
  clear hlen
  go_enter Try.func55, Try.ntmps55
  go_wp2_with fail
  go_loopw [5] (fun v5 w' => ∃ j : Nat, v5 = .int .i64 j ∧ j ≤ l0.length ∧ Aside0 (∀ i (h1 : i < j) (h2 : i < l0.length) (h3 : i < l1.length), (fun x y : Int => x == y) l0[i] l1[i] = true) ∧ Aside0 (Below w.heap.size w w')) (fun v5 _ => l0.length - (intOf v5).toNat)
  case atStart => exact ⟨0, rfl, Nat.zero_le _, ⟨fun i h => absurd h (by omega)⟩, ⟨Below.refl _ _⟩⟩
  case round =>
   obtain ⟨j, rfl, hj, HT, HB⟩ := hrel
   by_cases hlt : j < l0.length
   ·
    have hlt1 : j < l1.length := by have := HL.out; omega
    have e2 : IntKind.i64.wrap ((j : Int) + 1) = (j : Int) + 1 := by rw [IntKind.wrap_i64]; omega
    have hbd := below_drew1 HB.out
    obtain ⟨ad, c, e, _, hK, hc0⟩ := Kd.C_get (Kd.C_below HR.out hbd) 0 (j : Int) (by omega) (by omega)
    obtain ⟨bd, c', e', _, hK', hc0'⟩ := Kd.C_get (Kd.C_below HS.out hbd) 0 (j : Int) (by omega) (by omega)
    cases e
    cases e'
    have h0 := hc0 0 (.int .i64 (l0.getD (j : Int).toNat 0)) (by rw [show c = [.int .i64 (l0.getD (j : Int).toNat 0)] from hK]; rfl)
    have h1 := hc0' 0 (.int .i64 (l1.getD (j : Int).toNat 0)) (by rw [show c' = [.int .i64 (l1.getD (j : Int).toNat 0)] from hK']; rfl)
    simp only [Int.toNat_natCast, show ki.sz = 1 from rfl, Nat.mul_one, Nat.add_zero] at h0 h1
    have HX := Aside0.mk (show l0[j] = l0.getD j 0 by simp [List.getD_eq_getElem?_getD, List.getElem?_eq_getElem hlt])
    have HY := Aside0.mk (show l1[j] = l1.getD j 0 by simp [List.getD_eq_getElem?_getD, List.getElem?_eq_getElem hlt1])
    clear hK hK' hc0 hc0'
    generalize l0.getD j 0 = x at h0 HX
    generalize l1.getD j 0 = y at h1 HY
    have HBD := Aside0.mk hbd
    clear hbd
    cases hq : (fun x y : Int => x == y) x y with
    | true =>
     have HQ := Aside0.mk hq
     have q3 : (x == y) = true := hq
     have q4 : (x != y) = false := by rw [bne, q3]; rfl
     have q5 : x = y := beq_iff_eq.1 hq
     have Q5 := Aside0.mk q5
     clear q5
     clear hq
     go_wp2_with fail
     go_region
     go_wp2
     go_roundw
     case rel => exact ⟨j + 1, by go_num, by omega, ⟨fun i h1 h2 h3 => by
      rcases Nat.lt_or_ge i j with h | h
      ·
       exact HT.out i h h2 h3
      ·
       obtain rfl : i = j := by omega
       have := HQ.out
       rwa [← HX.out, ← HY.out] at this⟩, HBD⟩
     case measure => simp [intOf]; omega
    | false =>
     have HE := Aside0.mk (eqL_at (fun x y : Int => x == y) l0 l1 j hlt (by have := HL.out; omega) (by rw [HX.out, HY.out]; exact hq))
     have q3 : (x == y) = false := hq
     have q4 : (x != y) = true := by rw [bne, q3]; rfl
     have q5 : ¬ x = y := beq_eq_false_iff_ne.1 hq
     have Q5 := Aside0.mk q5
     clear q5
     clear hq
     go_wp2_with fail
     go_region
     go_wp2
     go_ret
     have HE2 : eqI l0 l1 = false := HE.out
     exact ⟨by first | (rw [HE2]; rfl) | rw [HE2], HBD.out⟩
   ·
    obtain rfl : j = l0.length := by omega
    have HE : eqI l0 l1 = true := (eqL_iff _ _ _).2 ⟨HL.out, fun i h1 h2 => HT.out i h1 h1 h2⟩
    clear HT HL
    go_wp2_with fail
    go_ret
    exact ⟨by first | (rw [HE]; rfl) | rw [HE], HB.out⟩
 ·
  have HE : eqI l0 l1 = false := eqL_len _ _ _ hlen
  have n1 : ¬ (l0.length : Int) = (l1.length : Int) := by omega
  go_enter Try.func55, Try.ntmps55
  go_wp2_with fail
  go_ret
  exact ⟨by first | (rw [HE]; rfl) | rw [HE], Below.refl _ _⟩
set_option maxHeartbeats 1000000 in
theorem efunc58 (A0 : Option Addr) (c0 : Nat) (l0 : List (List Int)) (A1 : Option Addr) (c1 : Nat) (l1 : List (List Int)) (w : World) (hr0 : Kd.C kq w A0 l0.length l0) (hr1 : Kd.C kq w A1 l1.length l1) :
  Calls Try.prog 58 #[.slice A0 l0.length c0, .slice A1 l1.length c1, .func (.func 57) #[] #[]] w fun e w' => e = .returned (.bool (eqQ l0 l1)) ∧ Below w.heap.size w w' := by
 have HR := Aside0.mk hr0
 have HS := Aside0.mk hr1
 have hm0 : l0.length ≤ 9223372036854775807 := hr0.2.1
 clear hr0 hr1
 by_cases hlen : l0.length = l1.length
 ·
  have HL := Aside0.mk hlen
  rw [← hlen]
  clear hlen
  go_enter Try.func58, Try.ntmps58
  go_wp2_with fail
  go_loopw [17] (fun v5 w' => ∃ j : Nat, v5 = .int .i64 j ∧ j ≤ l0.length ∧ Aside0 (∀ i (h1 : i < j) (h2 : i < l0.length) (h3 : i < l1.length), eqB l0[i] l1[i] = true) ∧ Aside0 (Below w.heap.size w w')) (fun v5 _ => l0.length - (intOf v5).toNat)
  case atStart => exact ⟨0, rfl, Nat.zero_le _, ⟨fun i h => absurd h (by omega)⟩, ⟨Below.refl _ _⟩⟩
  case round =>
   obtain ⟨j, rfl, hj, HT, HB⟩ := hrel
   by_cases hlt : j < l0.length
   ·
    have hlt1 : j < l1.length := by have := HL.out; omega
    have e2 : IntKind.i64.wrap ((j : Int) + 1) = (j : Int) + 1 := by rw [IntKind.wrap_i64]; omega
    have hbd := HB.out
    obtain ⟨ad, B0, d0, e, h0, L0, g0⟩ := at_L1 (Kd.C_below HR.out hbd) (j : Int) (by omega) (by omega)
    obtain ⟨bd, B1, d1, e', h1, L1, g1⟩ := at_L1 (Kd.C_below HS.out hbd) (j : Int) (by omega) (by omega)
    cases e
    cases e'
    simp only [Int.toNat_natCast] at h0 h1
    have HX := Aside0.mk (rd_L1_get l0 j hlt).symm
    have HY := Aside0.mk (rd_L1_get l1 j hlt1).symm
    generalize rd_L1 l0 (j : Int) = x at h0 g0 HX L0
    generalize rd_L1 l1 (j : Int) = y at h1 g1 HY L1
    have HL0 := Aside0.mk L0
    have HL1 := Aside0.mk L1
    clear L0 L1
    have HBD := Aside0.mk hbd
    clear hbd
    cases hq : eqB x y with
    | true =>
     have HQ := Aside0.mk hq
     have hqq : eqB x y = true := hq
     clear hq
     go_wp2_with fail
     refine (bytes_Equal.calls B0 d0 x B1 d1 y true wr g0 HL0.out g1 HL1.out (by rw [← hqq]; rfl)).mono ?_
     rintro e w2 ⟨rfl, hd⟩
     have hb_ := hd.below
     have HB2 := Aside0.mk (below_then HB.out HB.out.size hb_)
     clear hd hb_ hqq g0 g1
     go_wp2_with fail
     go_roundw
     case rel => exact ⟨j + 1, by go_num, by omega, ⟨fun i h1 h2 h3 => by
      rcases Nat.lt_or_ge i j with h | h
      ·
       exact HT.out i h h2 h3
      ·
       obtain rfl : i = j := by omega
       have := HQ.out
       rwa [← HX.out, ← HY.out] at this⟩, HB2⟩
     case measure => simp [intOf]; omega
    | false =>
     have HE := Aside0.mk (eqL_at eqB l0 l1 j hlt (by have := HL.out; omega) (by rw [HX.out, HY.out]; exact hq))
     have hqq : eqB x y = false := hq
     clear hq
     go_wp2_with fail
     refine (bytes_Equal.calls B0 d0 x B1 d1 y false wr g0 HL0.out g1 HL1.out (by rw [← hqq]; rfl)).mono ?_
     rintro e w2 ⟨rfl, hd⟩
     have hb_ := hd.below
     have HB2 := Aside0.mk (below_then HB.out HB.out.size hb_)
     clear hd hb_ hqq g0 g1
     go_wp2_with fail
     go_ret
     have HE2 : eqQ l0 l1 = false := HE.out
     exact ⟨by first | (rw [HE2]; rfl) | rw [HE2], HB2.out⟩
   ·
    obtain rfl : j = l0.length := by omega
    have HE : eqQ l0 l1 = true := (eqL_iff _ _ _).2 ⟨HL.out, fun i h1 h2 => HT.out i h1 h1 h2⟩
    clear HT HL
    go_wp2_with fail
    go_ret
    exact ⟨by first | (rw [HE]; rfl) | rw [HE], HB.out⟩
 ·
  have HE : eqQ l0 l1 = false := eqL_len _ _ _ hlen
  have n1 : ¬ (l0.length : Int) = (l1.length : Int) := by omega
  go_enter Try.func58, Try.ntmps58
  go_wp2_with fail
  go_ret
  exact ⟨by first | (rw [HE]; rfl) | rw [HE], Below.refl _ _⟩
theorem cells2 {W : World} {g : Nat} {t : TypeId} {a b : Value} (h : W.heap[g]? = some (.cells #[a, b] t (0, 0))) : W.cell? ⟨g, 0, none⟩ = some a ∧ W.cell? ⟨g, 1, none⟩ = some b ∧ ∀ j, W.frozen? ⟨g, j, none⟩ = false :=
 ⟨(cell_of_heap h).1, (cell_of_heap h).1, fun _ => (cell_of_heap h).2⟩
set_option maxHeartbeats 1000000 in
theorem s56_ff (x y : S32) (B0 : Option Addr) (d0 : Nat) (B1 : Option Addr) (d1 : Nat) (E0 : Option Addr) (f0 : Nat) (E1 : Option Addr) (f1 : Nat) (w : World) (HL0 : Aside0 (x.f0.length ≤ d0)) (g0 : Kd.C kb w B0 x.f0.length x.f0) (HL1 : Aside0 (x.f1.length ≤ d1)) (g1 : Kd.C kb w B1 x.f1.length x.f1) (HL0' : Aside0 (y.f0.length ≤ f0)) (g0' : Kd.C kb w E0 y.f0.length y.f0) (HL1' : Aside0 (y.f1.length ≤ f1)) (g1' : Kd.C kb w E1 y.f1.length y.f1) (hA : eqB x.f0 y.f0 = false) : Calls Try.prog 56 #[.agg #[.slice B0 x.f0.length d0, .slice B1 x.f1.length d1], .agg #[.slice E0 y.f0.length f0, .slice E1 y.f1.length f1]] w fun e w' => e = .returned (.bool false) ∧ Below w.heap.size w w' := by
 have G0 := Aside0.mk g0
 have G1 := Aside0.mk g1
 have G0' := Aside0.mk g0'
 have G1' := Aside0.mk g1'
 clear g0 g1 g0' g1'
 have HB := Aside0.mk (Below.refl w.heap.size w)
 go_enter Try.func56, Try.ntmps56
 go_wp2_with fail
 generalize hV0 : World.alloc _ _ = V0
 obtain ⟨K0, K1, hb_, SV0⟩ := al2 hV0
 clear hV0
 replace HB := HBs HB hb_
 clear hb_
 obtain ⟨u0, u1, u2⟩ := cells2 K0.out
 have u20 := u2 0
 have u21 := u2 1
 clear u2
 obtain ⟨v0, v1, v2⟩ := cells2 K1.out
 have v20 := v2 0
 have v21 := v2 1
 clear v2
 refine (bytes_Equal.calls B0 d0 x.f0 E0 f0 y.f0 false V0 (Kd.C_below G0.out HB.out) HL0.out (Kd.C_below G0'.out HB.out) HL0'.out (by rw [← hA]; rfl)).mono ?_
 rintro e w2 ⟨rfl, hd⟩
 have hb_ := hd.below
 clear hd
 clear u0 u1 u20 u21
 clear v0 v1 v20 v21
 replace HB := HBs HB hb_
 replace K0 := KB K0 hb_
 replace K1 := KB K1 hb_
 clear hb_
 obtain ⟨u0, u1, u2⟩ := cells2 K0.out
 have u20 := u2 0
 have u21 := u2 1
 clear u2
 obtain ⟨v0, v1, v2⟩ := cells2 K1.out
 have v20 := v2 0
 have v21 := v2 1
 clear v2
 go_wp2_with fail
 go_ret
 exact ⟨rfl, HB.out⟩
set_option maxHeartbeats 1000000 in
theorem s56_tt (x y : S32) (B0 : Option Addr) (d0 : Nat) (B1 : Option Addr) (d1 : Nat) (E0 : Option Addr) (f0 : Nat) (E1 : Option Addr) (f1 : Nat) (w : World) (HL0 : Aside0 (x.f0.length ≤ d0)) (g0 : Kd.C kb w B0 x.f0.length x.f0) (HL1 : Aside0 (x.f1.length ≤ d1)) (g1 : Kd.C kb w B1 x.f1.length x.f1) (HL0' : Aside0 (y.f0.length ≤ f0)) (g0' : Kd.C kb w E0 y.f0.length y.f0) (HL1' : Aside0 (y.f1.length ≤ f1)) (g1' : Kd.C kb w E1 y.f1.length y.f1) (hA : eqB x.f0 y.f0 = true) (hC : eqB x.f1 y.f1 = true) : Calls Try.prog 56 #[.agg #[.slice B0 x.f0.length d0, .slice B1 x.f1.length d1], .agg #[.slice E0 y.f0.length f0, .slice E1 y.f1.length f1]] w fun e w' => e = .returned (.bool true) ∧ Below w.heap.size w w' := by
 have G0 := Aside0.mk g0
 have G1 := Aside0.mk g1
 have G0' := Aside0.mk g0'
 have G1' := Aside0.mk g1'
 clear g0 g1 g0' g1'
 have HB := Aside0.mk (Below.refl w.heap.size w)
 go_enter Try.func56, Try.ntmps56
 go_wp2_with fail
 generalize hV0 : World.alloc _ _ = V0
 obtain ⟨K0, K1, hb_, SV0⟩ := al2 hV0
 clear hV0
 replace HB := HBs HB hb_
 clear hb_
 obtain ⟨u0, u1, u2⟩ := cells2 K0.out
 have u20 := u2 0
 have u21 := u2 1
 clear u2
 obtain ⟨v0, v1, v2⟩ := cells2 K1.out
 have v20 := v2 0
 have v21 := v2 1
 clear v2
 refine (bytes_Equal.calls B0 d0 x.f0 E0 f0 y.f0 true V0 (Kd.C_below G0.out HB.out) HL0.out (Kd.C_below G0'.out HB.out) HL0'.out (by rw [← hA]; rfl)).mono ?_
 rintro e w2 ⟨rfl, hd⟩
 have hb_ := hd.below
 clear hd
 clear u0 u1 u20 u21
 clear v0 v1 v20 v21
 replace HB := HBs HB hb_
 replace K0 := KB K0 hb_
 replace K1 := KB K1 hb_
 clear hb_
 obtain ⟨u0, u1, u2⟩ := cells2 K0.out
 have u20 := u2 0
 have u21 := u2 1
 clear u2
 obtain ⟨v0, v1, v2⟩ := cells2 K1.out
 have v20 := v2 0
 have v21 := v2 1
 clear v2
 go_wp2_with fail
 refine (bytes_Equal.calls B1 d1 x.f1 E1 f1 y.f1 true w2 (Kd.C_below G1.out HB.out) HL1.out (Kd.C_below G1'.out HB.out) HL1'.out (by rw [← hC]; rfl)).mono ?_
 rintro e w3 ⟨rfl, hd⟩
 have hb_ := hd.below
 clear hd
 clear u0 u1 u20 u21
 clear v0 v1 v20 v21
 replace HB := HBs HB hb_
 replace K0 := KB K0 hb_
 replace K1 := KB K1 hb_
 clear hb_
 go_wp2_with fail
 go_ret
 exact ⟨rfl, HB.out⟩
set_option maxHeartbeats 1000000 in
theorem s56_tf (x y : S32) (B0 : Option Addr) (d0 : Nat) (B1 : Option Addr) (d1 : Nat) (E0 : Option Addr) (f0 : Nat) (E1 : Option Addr) (f1 : Nat) (w : World) (HL0 : Aside0 (x.f0.length ≤ d0)) (g0 : Kd.C kb w B0 x.f0.length x.f0) (HL1 : Aside0 (x.f1.length ≤ d1)) (g1 : Kd.C kb w B1 x.f1.length x.f1) (HL0' : Aside0 (y.f0.length ≤ f0)) (g0' : Kd.C kb w E0 y.f0.length y.f0) (HL1' : Aside0 (y.f1.length ≤ f1)) (g1' : Kd.C kb w E1 y.f1.length y.f1) (hA : eqB x.f0 y.f0 = true) (hC : eqB x.f1 y.f1 = false) : Calls Try.prog 56 #[.agg #[.slice B0 x.f0.length d0, .slice B1 x.f1.length d1], .agg #[.slice E0 y.f0.length f0, .slice E1 y.f1.length f1]] w fun e w' => e = .returned (.bool false) ∧ Below w.heap.size w w' := by
 have G0 := Aside0.mk g0
 have G1 := Aside0.mk g1
 have G0' := Aside0.mk g0'
 have G1' := Aside0.mk g1'
 clear g0 g1 g0' g1'
 have HB := Aside0.mk (Below.refl w.heap.size w)
 go_enter Try.func56, Try.ntmps56
 go_wp2_with fail
 generalize hV0 : World.alloc _ _ = V0
 obtain ⟨K0, K1, hb_, SV0⟩ := al2 hV0
 clear hV0
 replace HB := HBs HB hb_
 clear hb_
 obtain ⟨u0, u1, u2⟩ := cells2 K0.out
 have u20 := u2 0
 have u21 := u2 1
 clear u2
 obtain ⟨v0, v1, v2⟩ := cells2 K1.out
 have v20 := v2 0
 have v21 := v2 1
 clear v2
 refine (bytes_Equal.calls B0 d0 x.f0 E0 f0 y.f0 true V0 (Kd.C_below G0.out HB.out) HL0.out (Kd.C_below G0'.out HB.out) HL0'.out (by rw [← hA]; rfl)).mono ?_
 rintro e w2 ⟨rfl, hd⟩
 have hb_ := hd.below
 clear hd
 clear u0 u1 u20 u21
 clear v0 v1 v20 v21
 replace HB := HBs HB hb_
 replace K0 := KB K0 hb_
 replace K1 := KB K1 hb_
 clear hb_
 obtain ⟨u0, u1, u2⟩ := cells2 K0.out
 have u20 := u2 0
 have u21 := u2 1
 clear u2
 obtain ⟨v0, v1, v2⟩ := cells2 K1.out
 have v20 := v2 0
 have v21 := v2 1
 clear v2
 go_wp2_with fail
 refine (bytes_Equal.calls B1 d1 x.f1 E1 f1 y.f1 false w2 (Kd.C_below G1.out HB.out) HL1.out (Kd.C_below G1'.out HB.out) HL1'.out (by rw [← hC]; rfl)).mono ?_
 rintro e w3 ⟨rfl, hd⟩
 have hb_ := hd.below
 clear hd
 clear u0 u1 u20 u21
 clear v0 v1 v20 v21
 replace HB := HBs HB hb_
 replace K0 := KB K0 hb_
 replace K1 := KB K1 hb_
 clear hb_
 go_wp2_with fail
 go_ret
 exact ⟨rfl, HB.out⟩
theorem same56 (x y : S32) (B0 : Option Addr) (d0 : Nat) (B1 : Option Addr) (d1 : Nat) (E0 : Option Addr) (f0 : Nat) (E1 : Option Addr) (f1 : Nat) (w : World) (HL0 : Aside0 (x.f0.length ≤ d0)) (g0 : Kd.C kb w B0 x.f0.length x.f0) (HL1 : Aside0 (x.f1.length ≤ d1)) (g1 : Kd.C kb w B1 x.f1.length x.f1) (HL0' : Aside0 (y.f0.length ≤ f0)) (g0' : Kd.C kb w E0 y.f0.length y.f0) (HL1' : Aside0 (y.f1.length ≤ f1)) (g1' : Kd.C kb w E1 y.f1.length y.f1) : Calls Try.prog 56 #[.agg #[.slice B0 x.f0.length d0, .slice B1 x.f1.length d1], .agg #[.slice E0 y.f0.length f0, .slice E1 y.f1.length f1]] w fun e w' => e = .returned (.bool (eqP x y)) ∧ Below w.heap.size w w' := by
 unfold eqP
 cases hA : eqB x.f0 y.f0 with
 | false => exact s56_ff x y B0 d0 B1 d1 E0 f0 E1 f1 w HL0 g0 HL1 g1 HL0' g0' HL1' g1' hA
 | true =>
  cases hC : eqB x.f1 y.f1 with
  | false => exact s56_tf x y B0 d0 B1 d1 E0 f0 E1 f1 w HL0 g0 HL1 g1 HL0' g0' HL1' g1' hA hC
  | true => exact s56_tt x y B0 d0 B1 d1 E0 f0 E1 f1 w HL0 g0 HL1 g1 HL0' g0' HL1' g1' hA hC
set_option maxHeartbeats 1000000 in
theorem efunc60 (A0 : Option Addr) (c0 : Nat) (l0 : List S32) (A1 : Option Addr) (c1 : Nat) (l1 : List S32) (w : World) (hr0 : Kd.C km w A0 l0.length l0) (hr1 : Kd.C km w A1 l1.length l1) :
  Calls Try.prog 60 #[.slice A0 l0.length c0, .slice A1 l1.length c1, .func (.func 56) #[] #[]] w fun e w' => e = .returned (.bool (eqM l0 l1)) ∧ Below w.heap.size w w' := by
 have HR := Aside0.mk hr0
 have HS := Aside0.mk hr1
 have hm0 : l0.length ≤ 9223372036854775807 := hr0.2.1
 clear hr0 hr1
 by_cases hlen : l0.length = l1.length
 ·
  have HL := Aside0.mk hlen
  rw [← hlen]
  clear hlen
  go_enter Try.func60, Try.ntmps60
  go_wp2_with fail
  go_loopw [17] (fun v5 w' => ∃ j : Nat, v5 = .int .i64 j ∧ j ≤ l0.length ∧ Aside0 (∀ i (h1 : i < j) (h2 : i < l0.length) (h3 : i < l1.length), eqP l0[i] l1[i] = true) ∧ Aside0 (Below w.heap.size w w')) (fun v5 _ => l0.length - (intOf v5).toNat)
  case atStart => exact ⟨0, rfl, Nat.zero_le _, ⟨fun i h => absurd h (by omega)⟩, ⟨Below.refl _ _⟩⟩
  case round =>
   obtain ⟨j, rfl, hj, HT, HB⟩ := hrel
   by_cases hlt : j < l0.length
   ·
    have hlt1 : j < l1.length := by have := HL.out; omega
    have e2 : IntKind.i64.wrap ((j : Int) + 1) = (j : Int) + 1 := by rw [IntKind.wrap_i64]; omega
    have hbd := HB.out
    obtain ⟨ad, B0, d0, B1, d1, e, h0, h1, L0, g0, L1, g1⟩ := at_T32 (Kd.C_below HR.out hbd) (j : Int) (by omega) (by omega)
    obtain ⟨bd, E0, f0, E1, f1, e', h0', h1', L0', g0', L1', g1'⟩ := at_T32 (Kd.C_below HS.out hbd) (j : Int) (by omega) (by omega)
    cases e
    cases e'
    simp only [Int.toNat_natCast] at h0 h1 h0' h1'
    have HX := Aside0.mk (rd_T_get l0 j hlt).symm
    have HY := Aside0.mk (rd_T_get l1 j hlt1).symm
    generalize rd_T32 l0 (j : Int) = x at h0 h1 g0 g1 HX L0 L1
    generalize rd_T32 l1 (j : Int) = y at h0' h1' g0' g1' HY L0' L1'
    have HL0 := Aside0.mk L0
    have HL1 := Aside0.mk L1
    have HL0' := Aside0.mk L0'
    have HL1' := Aside0.mk L1'
    clear L0 L1 L0' L1'
    have HBD := Aside0.mk hbd
    clear hbd
    cases hq : eqP x y with
    | true =>
     have HQ := Aside0.mk hq
     have G0 := Aside0.mk g0
     have G1 := Aside0.mk g1
     have G0' := Aside0.mk g0'
     have G1' := Aside0.mk g1'
     have HQQ : Aside0 (eqP x y = true) := Aside0.mk hq
     have ba_ : Below wr.heap.size wr (wr.alloc (.cells #[.slice B0 x.f0.length d0, .slice B1 x.f1.length d1] 42)) := below_alloc (Below.refl _ _) _
     have k0 := cell_old ba_ h0'
     have k1 := cell_old ba_ h1'
     clear g0 g1 g0' g1' ba_ h0' h1'
     clear hq
     go_wp2_with fail
     obtain ⟨V, hV⟩ : ∃ V_, V_ = ((wr.alloc (.cells #[.slice B0 x.f0.length d0, .slice B1 x.f1.length d1] 42)).alloc (.cells #[.slice E0 y.f0.length f0, .slice E1 y.f1.length f1] 42)) := ⟨_, rfl⟩
     rw [← hV]
     have hb1 : Below wr.heap.size wr V := by
      rw [hV]
      exact below_alloc (below_alloc (Below.refl _ _) _) _
     clear hV
     refine (same56 x y B0 d0 B1 d1 E0 f0 E1 f1 V HL0 (Kd.C_below G0.out hb1) HL1 (Kd.C_below G1.out hb1) HL0' (Kd.C_below G0'.out hb1) HL1' (Kd.C_below G1'.out hb1)).mono ?_
     rintro e w2 ⟨rfl, hb_⟩
     have HB2 := Aside0.mk (below_then (below_then HB.out HB.out.size hb1) (Nat.le_trans HB.out.size hb1.size) hb_)
     have hqq := HQQ.out
     rw [hqq]
     clear hb_ hb1 hqq
     go_wp2_with fail
     go_roundw
     case rel => exact ⟨j + 1, by go_num, by omega, ⟨fun i h1 h2 h3 => by
      rcases Nat.lt_or_ge i j with h | h
      ·
       exact HT.out i h h2 h3
      ·
       obtain rfl : i = j := by omega
       have := HQ.out
       rwa [← HX.out, ← HY.out] at this⟩, HB2⟩
     case measure => simp [intOf]; omega
    | false =>
     have HE := Aside0.mk (eqL_at eqP l0 l1 j hlt (by have := HL.out; omega) (by rw [HX.out, HY.out]; exact hq))
     have G0 := Aside0.mk g0
     have G1 := Aside0.mk g1
     have G0' := Aside0.mk g0'
     have G1' := Aside0.mk g1'
     have HQQ : Aside0 (eqP x y = false) := Aside0.mk hq
     have ba_ : Below wr.heap.size wr (wr.alloc (.cells #[.slice B0 x.f0.length d0, .slice B1 x.f1.length d1] 42)) := below_alloc (Below.refl _ _) _
     have k0 := cell_old ba_ h0'
     have k1 := cell_old ba_ h1'
     clear g0 g1 g0' g1' ba_ h0' h1'
     clear hq
     go_wp2_with fail
     obtain ⟨V, hV⟩ : ∃ V_, V_ = ((wr.alloc (.cells #[.slice B0 x.f0.length d0, .slice B1 x.f1.length d1] 42)).alloc (.cells #[.slice E0 y.f0.length f0, .slice E1 y.f1.length f1] 42)) := ⟨_, rfl⟩
     rw [← hV]
     have hb1 : Below wr.heap.size wr V := by
      rw [hV]
      exact below_alloc (below_alloc (Below.refl _ _) _) _
     clear hV
     refine (same56 x y B0 d0 B1 d1 E0 f0 E1 f1 V HL0 (Kd.C_below G0.out hb1) HL1 (Kd.C_below G1.out hb1) HL0' (Kd.C_below G0'.out hb1) HL1' (Kd.C_below G1'.out hb1)).mono ?_
     rintro e w2 ⟨rfl, hb_⟩
     have HB2 := Aside0.mk (below_then (below_then HB.out HB.out.size hb1) (Nat.le_trans HB.out.size hb1.size) hb_)
     have hqq := HQQ.out
     rw [hqq]
     clear hb_ hb1 hqq
     go_wp2_with fail
     go_ret
     have HE2 : eqM l0 l1 = false := HE.out
     exact ⟨by first | (rw [HE2]; rfl) | rw [HE2], HB2.out⟩
   ·
    obtain rfl : j = l0.length := by omega
    have HE : eqM l0 l1 = true := (eqL_iff _ _ _).2 ⟨HL.out, fun i h1 h2 => HT.out i h1 h1 h2⟩
    clear HT HL
    go_wp2_with fail
    go_ret
    exact ⟨by first | (rw [HE]; rfl) | rw [HE], HB.out⟩
 ·
  have HE : eqM l0 l1 = false := eqL_len _ _ _ hlen
  have n1 : ¬ (l0.length : Int) = (l1.length : Int) := by omega
  go_enter Try.func60, Try.ntmps60
  go_wp2_with fail
  go_ret
  exact ⟨by first | (rw [HE]; rfl) | rw [HE], Below.refl _ _⟩
set_option maxHeartbeats 2000000 in
theorem same17_0f (A0 : Option Addr) (c0 : Nat) (A1 : Option Addr) (c1 : Nat) (A2 : Option Addr) (c2 : Nat) (A3 : Option Addr) (c3 : Nat) (B0 : Option Addr) (d0 : Nat) (B1 : Option Addr) (d1 : Nat) (B2 : Option Addr) (d2 : Nat) (B3 : Option Addr) (d3 : Nat) (a b : O) (w : World) (ha : OC w a A0 c0 A1 c1 A2 c2 A3 c3) (hb : OC w b B0 d0 B1 d1 B2 d2 B3 d3) (h0 : eqB a.reg b.reg = false) : Calls Try.prog 17 #[.agg #[.slice A0 a.reg.length c0, .slice A1 a.que.length c1, .slice A2 a.loc.length c2, .slice A3 a.map.length c3], .agg #[.slice B0 b.reg.length d0, .slice B1 b.que.length d1, .slice B2 b.loc.length d2, .slice B3 b.map.length d3]] w fun e w' => e = .returned (.bool false) ∧ Below w.heap.size w w' := by
 have HA := Aside0.mk ha
 have HB0 := Aside0.mk hb
 clear ha hb
 have hq0 : eqB a.reg b.reg = false := h0
 clear h0
 have HB := Aside0.mk (Below.refl w.heap.size w)
 go_enter Try.func17, Try.ntmps17
 go_wp2_with fail
 generalize hV0 : World.alloc _ _ = V0
 obtain ⟨K0, K1, hb_, SV0⟩ := al2 hV0
 clear hV0
 replace HB := HBs HB hb_
 clear hb_
 refine (bytes_Equal.calls A0 c0 a.reg B0 d0 b.reg false V0 (Kd.C_below HA.out.r0 HB.out) HA.out.h0 (Kd.C_below HB0.out.r0 HB.out) HB0.out.h0 (by rw [← hq0]; rfl)).mono ?_
 rintro e u1 ⟨rfl, hd⟩
 have hb_ := hd.below
 clear hd
 replace HB := HBs HB hb_
 replace K0 := KB K0 hb_
 replace K1 := KB K1 hb_
 clear hb_
 obtain ⟨x0, x1, x2, x3, x40, x41, x42, x43⟩ := cel4 K0.out
 obtain ⟨y0, y1, y2, y3, y40, y41, y42, y43⟩ := cel4 K1.out
 clear hq0
 go_wp2_with fail
 clear x0 x1 x2 x3 x40 x41 x42 x43
 clear y0 y1 y2 y3 y40 y41 y42 y43
 go_ret
 exact ⟨rfl, HB.out⟩
set_option maxHeartbeats 2000000 in
theorem same17_1f (A0 : Option Addr) (c0 : Nat) (A1 : Option Addr) (c1 : Nat) (A2 : Option Addr) (c2 : Nat) (A3 : Option Addr) (c3 : Nat) (B0 : Option Addr) (d0 : Nat) (B1 : Option Addr) (d1 : Nat) (B2 : Option Addr) (d2 : Nat) (B3 : Option Addr) (d3 : Nat) (a b : O) (w : World) (ha : OC w a A0 c0 A1 c1 A2 c2 A3 c3) (hb : OC w b B0 d0 B1 d1 B2 d2 B3 d3) (h0 : eqB a.reg b.reg = true) (h1 : eqQ a.que b.que = false) : Calls Try.prog 17 #[.agg #[.slice A0 a.reg.length c0, .slice A1 a.que.length c1, .slice A2 a.loc.length c2, .slice A3 a.map.length c3], .agg #[.slice B0 b.reg.length d0, .slice B1 b.que.length d1, .slice B2 b.loc.length d2, .slice B3 b.map.length d3]] w fun e w' => e = .returned (.bool false) ∧ Below w.heap.size w w' := by
 have HA := Aside0.mk ha
 have HB0 := Aside0.mk hb
 clear ha hb
 have hq0 : eqB a.reg b.reg = true := h0
 have hq1 : eqQ a.que b.que = false := h1
 clear h0 h1
 have HB := Aside0.mk (Below.refl w.heap.size w)
 go_enter Try.func17, Try.ntmps17
 go_wp2_with fail
 generalize hV0 : World.alloc _ _ = V0
 obtain ⟨K0, K1, hb_, SV0⟩ := al2 hV0
 clear hV0
 replace HB := HBs HB hb_
 clear hb_
 refine (bytes_Equal.calls A0 c0 a.reg B0 d0 b.reg true V0 (Kd.C_below HA.out.r0 HB.out) HA.out.h0 (Kd.C_below HB0.out.r0 HB.out) HB0.out.h0 (by rw [← hq0]; rfl)).mono ?_
 rintro e u1 ⟨rfl, hd⟩
 have hb_ := hd.below
 clear hd
 replace HB := HBs HB hb_
 replace K0 := KB K0 hb_
 replace K1 := KB K1 hb_
 clear hb_
 obtain ⟨x0, x1, x2, x3, x40, x41, x42, x43⟩ := cel4 K0.out
 obtain ⟨y0, y1, y2, y3, y40, y41, y42, y43⟩ := cel4 K1.out
 clear hq0
 go_wp2_with fail
 clear x0 x1 x2 x3 x40 x41 x42 x43
 clear y0 y1 y2 y3 y40 y41 y42 y43
 refine (efunc58 A1 c1 a.que B1 d1 b.que u1 (Kd.C_below HA.out.r1 HB.out) (Kd.C_below HB0.out.r1 HB.out)).mono ?_
 rintro e u2 ⟨rfl, hb_⟩
 replace HB := HBs HB hb_
 replace K0 := KB K0 hb_
 replace K1 := KB K1 hb_
 clear hb_
 obtain ⟨x0, x1, x2, x3, x40, x41, x42, x43⟩ := cel4 K0.out
 obtain ⟨y0, y1, y2, y3, y40, y41, y42, y43⟩ := cel4 K1.out
 rw [hq1]
 clear hq1
 go_wp2_with fail
 clear x0 x1 x2 x3 x40 x41 x42 x43
 clear y0 y1 y2 y3 y40 y41 y42 y43
 go_ret
 exact ⟨rfl, HB.out⟩
set_option maxHeartbeats 2000000 in
theorem same17_2f (A0 : Option Addr) (c0 : Nat) (A1 : Option Addr) (c1 : Nat) (A2 : Option Addr) (c2 : Nat) (A3 : Option Addr) (c3 : Nat) (B0 : Option Addr) (d0 : Nat) (B1 : Option Addr) (d1 : Nat) (B2 : Option Addr) (d2 : Nat) (B3 : Option Addr) (d3 : Nat) (a b : O) (w : World) (ha : OC w a A0 c0 A1 c1 A2 c2 A3 c3) (hb : OC w b B0 d0 B1 d1 B2 d2 B3 d3) (h0 : eqB a.reg b.reg = true) (h1 : eqQ a.que b.que = true) (h2 : eqI a.loc b.loc = false) : Calls Try.prog 17 #[.agg #[.slice A0 a.reg.length c0, .slice A1 a.que.length c1, .slice A2 a.loc.length c2, .slice A3 a.map.length c3], .agg #[.slice B0 b.reg.length d0, .slice B1 b.que.length d1, .slice B2 b.loc.length d2, .slice B3 b.map.length d3]] w fun e w' => e = .returned (.bool false) ∧ Below w.heap.size w w' := by
 have HA := Aside0.mk ha
 have HB0 := Aside0.mk hb
 clear ha hb
 have hq0 : eqB a.reg b.reg = true := h0
 have hq1 : eqQ a.que b.que = true := h1
 have hq2 : eqI a.loc b.loc = false := h2
 clear h0 h1 h2
 have HB := Aside0.mk (Below.refl w.heap.size w)
 go_enter Try.func17, Try.ntmps17
 go_wp2_with fail
 generalize hV0 : World.alloc _ _ = V0
 obtain ⟨K0, K1, hb_, SV0⟩ := al2 hV0
 clear hV0
 replace HB := HBs HB hb_
 clear hb_
 refine (bytes_Equal.calls A0 c0 a.reg B0 d0 b.reg true V0 (Kd.C_below HA.out.r0 HB.out) HA.out.h0 (Kd.C_below HB0.out.r0 HB.out) HB0.out.h0 (by rw [← hq0]; rfl)).mono ?_
 rintro e u1 ⟨rfl, hd⟩
 have hb_ := hd.below
 clear hd
 replace HB := HBs HB hb_
 replace K0 := KB K0 hb_
 replace K1 := KB K1 hb_
 clear hb_
 obtain ⟨x0, x1, x2, x3, x40, x41, x42, x43⟩ := cel4 K0.out
 obtain ⟨y0, y1, y2, y3, y40, y41, y42, y43⟩ := cel4 K1.out
 clear hq0
 go_wp2_with fail
 clear x0 x1 x2 x3 x40 x41 x42 x43
 clear y0 y1 y2 y3 y40 y41 y42 y43
 refine (efunc58 A1 c1 a.que B1 d1 b.que u1 (Kd.C_below HA.out.r1 HB.out) (Kd.C_below HB0.out.r1 HB.out)).mono ?_
 rintro e u2 ⟨rfl, hb_⟩
 replace HB := HBs HB hb_
 replace K0 := KB K0 hb_
 replace K1 := KB K1 hb_
 clear hb_
 obtain ⟨x0, x1, x2, x3, x40, x41, x42, x43⟩ := cel4 K0.out
 obtain ⟨y0, y1, y2, y3, y40, y41, y42, y43⟩ := cel4 K1.out
 rw [hq1]
 clear hq1
 go_wp2_with fail
 clear x0 x1 x2 x3 x40 x41 x42 x43
 clear y0 y1 y2 y3 y40 y41 y42 y43
 refine (ints59 A2 c2 a.loc B2 d2 b.loc u2 (Kd.C_below HA.out.r2 HB.out) (Kd.C_below HB0.out.r2 HB.out)).mono ?_
 rintro e u3 ⟨rfl, hb_⟩
 replace HB := HBs HB hb_
 replace K0 := KB K0 hb_
 replace K1 := KB K1 hb_
 clear hb_
 obtain ⟨x0, x1, x2, x3, x40, x41, x42, x43⟩ := cel4 K0.out
 obtain ⟨y0, y1, y2, y3, y40, y41, y42, y43⟩ := cel4 K1.out
 rw [hq2]
 clear hq2
 go_wp2_with fail
 clear x0 x1 x2 x3 x40 x41 x42 x43
 clear y0 y1 y2 y3 y40 y41 y42 y43
 go_ret
 exact ⟨rfl, HB.out⟩
set_option maxHeartbeats 2000000 in
theorem same17_3f (A0 : Option Addr) (c0 : Nat) (A1 : Option Addr) (c1 : Nat) (A2 : Option Addr) (c2 : Nat) (A3 : Option Addr) (c3 : Nat) (B0 : Option Addr) (d0 : Nat) (B1 : Option Addr) (d1 : Nat) (B2 : Option Addr) (d2 : Nat) (B3 : Option Addr) (d3 : Nat) (a b : O) (w : World) (ha : OC w a A0 c0 A1 c1 A2 c2 A3 c3) (hb : OC w b B0 d0 B1 d1 B2 d2 B3 d3) (h0 : eqB a.reg b.reg = true) (h1 : eqQ a.que b.que = true) (h2 : eqI a.loc b.loc = true) (h3 : eqM a.map b.map = false) : Calls Try.prog 17 #[.agg #[.slice A0 a.reg.length c0, .slice A1 a.que.length c1, .slice A2 a.loc.length c2, .slice A3 a.map.length c3], .agg #[.slice B0 b.reg.length d0, .slice B1 b.que.length d1, .slice B2 b.loc.length d2, .slice B3 b.map.length d3]] w fun e w' => e = .returned (.bool false) ∧ Below w.heap.size w w' := by
 have HA := Aside0.mk ha
 have HB0 := Aside0.mk hb
 clear ha hb
 have hq0 : eqB a.reg b.reg = true := h0
 have hq1 : eqQ a.que b.que = true := h1
 have hq2 : eqI a.loc b.loc = true := h2
 have hq3 : eqM a.map b.map = false := h3
 clear h0 h1 h2 h3
 have HB := Aside0.mk (Below.refl w.heap.size w)
 go_enter Try.func17, Try.ntmps17
 go_wp2_with fail
 generalize hV0 : World.alloc _ _ = V0
 obtain ⟨K0, K1, hb_, SV0⟩ := al2 hV0
 clear hV0
 replace HB := HBs HB hb_
 clear hb_
 refine (bytes_Equal.calls A0 c0 a.reg B0 d0 b.reg true V0 (Kd.C_below HA.out.r0 HB.out) HA.out.h0 (Kd.C_below HB0.out.r0 HB.out) HB0.out.h0 (by rw [← hq0]; rfl)).mono ?_
 rintro e u1 ⟨rfl, hd⟩
 have hb_ := hd.below
 clear hd
 replace HB := HBs HB hb_
 replace K0 := KB K0 hb_
 replace K1 := KB K1 hb_
 clear hb_
 obtain ⟨x0, x1, x2, x3, x40, x41, x42, x43⟩ := cel4 K0.out
 obtain ⟨y0, y1, y2, y3, y40, y41, y42, y43⟩ := cel4 K1.out
 clear hq0
 go_wp2_with fail
 clear x0 x1 x2 x3 x40 x41 x42 x43
 clear y0 y1 y2 y3 y40 y41 y42 y43
 refine (efunc58 A1 c1 a.que B1 d1 b.que u1 (Kd.C_below HA.out.r1 HB.out) (Kd.C_below HB0.out.r1 HB.out)).mono ?_
 rintro e u2 ⟨rfl, hb_⟩
 replace HB := HBs HB hb_
 replace K0 := KB K0 hb_
 replace K1 := KB K1 hb_
 clear hb_
 obtain ⟨x0, x1, x2, x3, x40, x41, x42, x43⟩ := cel4 K0.out
 obtain ⟨y0, y1, y2, y3, y40, y41, y42, y43⟩ := cel4 K1.out
 rw [hq1]
 clear hq1
 go_wp2_with fail
 clear x0 x1 x2 x3 x40 x41 x42 x43
 clear y0 y1 y2 y3 y40 y41 y42 y43
 refine (ints59 A2 c2 a.loc B2 d2 b.loc u2 (Kd.C_below HA.out.r2 HB.out) (Kd.C_below HB0.out.r2 HB.out)).mono ?_
 rintro e u3 ⟨rfl, hb_⟩
 replace HB := HBs HB hb_
 replace K0 := KB K0 hb_
 replace K1 := KB K1 hb_
 clear hb_
 obtain ⟨x0, x1, x2, x3, x40, x41, x42, x43⟩ := cel4 K0.out
 obtain ⟨y0, y1, y2, y3, y40, y41, y42, y43⟩ := cel4 K1.out
 rw [hq2]
 clear hq2
 go_wp2_with fail
 clear x0 x1 x2 x3 x40 x41 x42 x43
 clear y0 y1 y2 y3 y40 y41 y42 y43
 refine (efunc60 A3 c3 a.map B3 d3 b.map u3 (Kd.C_below HA.out.r3 HB.out) (Kd.C_below HB0.out.r3 HB.out)).mono ?_
 rintro e u4 ⟨rfl, hb_⟩
 replace HB := HBs HB hb_
 replace K0 := KB K0 hb_
 replace K1 := KB K1 hb_
 clear hb_
 obtain ⟨x0, x1, x2, x3, x40, x41, x42, x43⟩ := cel4 K0.out
 obtain ⟨y0, y1, y2, y3, y40, y41, y42, y43⟩ := cel4 K1.out
 rw [hq3]
 clear hq3
 go_wp2_with fail
 clear x0 x1 x2 x3 x40 x41 x42 x43
 clear y0 y1 y2 y3 y40 y41 y42 y43
 go_ret
 exact ⟨rfl, HB.out⟩
set_option maxHeartbeats 2000000 in
theorem same17_3t (A0 : Option Addr) (c0 : Nat) (A1 : Option Addr) (c1 : Nat) (A2 : Option Addr) (c2 : Nat) (A3 : Option Addr) (c3 : Nat) (B0 : Option Addr) (d0 : Nat) (B1 : Option Addr) (d1 : Nat) (B2 : Option Addr) (d2 : Nat) (B3 : Option Addr) (d3 : Nat) (a b : O) (w : World) (ha : OC w a A0 c0 A1 c1 A2 c2 A3 c3) (hb : OC w b B0 d0 B1 d1 B2 d2 B3 d3) (h0 : eqB a.reg b.reg = true) (h1 : eqQ a.que b.que = true) (h2 : eqI a.loc b.loc = true) (h3 : eqM a.map b.map = true) : Calls Try.prog 17 #[.agg #[.slice A0 a.reg.length c0, .slice A1 a.que.length c1, .slice A2 a.loc.length c2, .slice A3 a.map.length c3], .agg #[.slice B0 b.reg.length d0, .slice B1 b.que.length d1, .slice B2 b.loc.length d2, .slice B3 b.map.length d3]] w fun e w' => e = .returned (.bool true) ∧ Below w.heap.size w w' := by
 have HA := Aside0.mk ha
 have HB0 := Aside0.mk hb
 clear ha hb
 have hq0 : eqB a.reg b.reg = true := h0
 have hq1 : eqQ a.que b.que = true := h1
 have hq2 : eqI a.loc b.loc = true := h2
 have hq3 : eqM a.map b.map = true := h3
 clear h0 h1 h2 h3
 have HB := Aside0.mk (Below.refl w.heap.size w)
 go_enter Try.func17, Try.ntmps17
 go_wp2_with fail
 generalize hV0 : World.alloc _ _ = V0
 obtain ⟨K0, K1, hb_, SV0⟩ := al2 hV0
 clear hV0
 replace HB := HBs HB hb_
 clear hb_
 refine (bytes_Equal.calls A0 c0 a.reg B0 d0 b.reg true V0 (Kd.C_below HA.out.r0 HB.out) HA.out.h0 (Kd.C_below HB0.out.r0 HB.out) HB0.out.h0 (by rw [← hq0]; rfl)).mono ?_
 rintro e u1 ⟨rfl, hd⟩
 have hb_ := hd.below
 clear hd
 replace HB := HBs HB hb_
 replace K0 := KB K0 hb_
 replace K1 := KB K1 hb_
 clear hb_
 obtain ⟨x0, x1, x2, x3, x40, x41, x42, x43⟩ := cel4 K0.out
 obtain ⟨y0, y1, y2, y3, y40, y41, y42, y43⟩ := cel4 K1.out
 clear hq0
 go_wp2_with fail
 clear x0 x1 x2 x3 x40 x41 x42 x43
 clear y0 y1 y2 y3 y40 y41 y42 y43
 refine (efunc58 A1 c1 a.que B1 d1 b.que u1 (Kd.C_below HA.out.r1 HB.out) (Kd.C_below HB0.out.r1 HB.out)).mono ?_
 rintro e u2 ⟨rfl, hb_⟩
 replace HB := HBs HB hb_
 replace K0 := KB K0 hb_
 replace K1 := KB K1 hb_
 clear hb_
 obtain ⟨x0, x1, x2, x3, x40, x41, x42, x43⟩ := cel4 K0.out
 obtain ⟨y0, y1, y2, y3, y40, y41, y42, y43⟩ := cel4 K1.out
 rw [hq1]
 clear hq1
 go_wp2_with fail
 clear x0 x1 x2 x3 x40 x41 x42 x43
 clear y0 y1 y2 y3 y40 y41 y42 y43
 refine (ints59 A2 c2 a.loc B2 d2 b.loc u2 (Kd.C_below HA.out.r2 HB.out) (Kd.C_below HB0.out.r2 HB.out)).mono ?_
 rintro e u3 ⟨rfl, hb_⟩
 replace HB := HBs HB hb_
 replace K0 := KB K0 hb_
 replace K1 := KB K1 hb_
 clear hb_
 obtain ⟨x0, x1, x2, x3, x40, x41, x42, x43⟩ := cel4 K0.out
 obtain ⟨y0, y1, y2, y3, y40, y41, y42, y43⟩ := cel4 K1.out
 rw [hq2]
 clear hq2
 go_wp2_with fail
 clear x0 x1 x2 x3 x40 x41 x42 x43
 clear y0 y1 y2 y3 y40 y41 y42 y43
 refine (efunc60 A3 c3 a.map B3 d3 b.map u3 (Kd.C_below HA.out.r3 HB.out) (Kd.C_below HB0.out.r3 HB.out)).mono ?_
 rintro e u4 ⟨rfl, hb_⟩
 replace HB := HBs HB hb_
 replace K0 := KB K0 hb_
 replace K1 := KB K1 hb_
 clear hb_
 obtain ⟨x0, x1, x2, x3, x40, x41, x42, x43⟩ := cel4 K0.out
 obtain ⟨y0, y1, y2, y3, y40, y41, y42, y43⟩ := cel4 K1.out
 rw [hq3]
 clear hq3
 go_wp2_with fail
 clear x0 x1 x2 x3 x40 x41 x42 x43
 clear y0 y1 y2 y3 y40 y41 y42 y43
 go_ret
 exact ⟨rfl, HB.out⟩
theorem same17 (A0 : Option Addr) (c0 : Nat) (A1 : Option Addr) (c1 : Nat) (A2 : Option Addr) (c2 : Nat) (A3 : Option Addr) (c3 : Nat) (B0 : Option Addr) (d0 : Nat) (B1 : Option Addr) (d1 : Nat) (B2 : Option Addr) (d2 : Nat) (B3 : Option Addr) (d3 : Nat) (a b : O) (w : World) (ha : OC w a A0 c0 A1 c1 A2 c2 A3 c3) (hb : OC w b B0 d0 B1 d1 B2 d2 B3 d3) : Calls Try.prog 17 #[.agg #[.slice A0 a.reg.length c0, .slice A1 a.que.length c1, .slice A2 a.loc.length c2, .slice A3 a.map.length c3], .agg #[.slice B0 b.reg.length d0, .slice B1 b.que.length d1, .slice B2 b.loc.length d2, .slice B3 b.map.length d3]] w fun e w' => e = .returned (.bool (sameO a b)) ∧ Below w.heap.size w w' := by
 unfold sameO
 cases h0 : eqB a.reg b.reg with
 | false => exact same17_0f A0 c0 A1 c1 A2 c2 A3 c3 B0 d0 B1 d1 B2 d2 B3 d3 a b w ha hb h0
 | true =>
  cases h1 : eqQ a.que b.que with
  | false => exact same17_1f A0 c0 A1 c1 A2 c2 A3 c3 B0 d0 B1 d1 B2 d2 B3 d3 a b w ha hb h0 h1
  | true =>
   cases h2 : eqI a.loc b.loc with
   | false => exact same17_2f A0 c0 A1 c1 A2 c2 A3 c3 B0 d0 B1 d1 B2 d2 B3 d3 a b w ha hb h0 h1 h2
   | true =>
    cases h3 : eqM a.map b.map with
    | false => exact same17_3f A0 c0 A1 c1 A2 c2 A3 c3 B0 d0 B1 d1 B2 d2 B3 d3 a b w ha hb h0 h1 h2 h3
    | true => exact same17_3t A0 c0 A1 c1 A2 c2 A3 c3 B0 d0 B1 d1 B2 d2 B3 d3 a b w ha hb h0 h1 h2 h3
end Go.Proofs.Ythfplgfpodmphaa.Ob
