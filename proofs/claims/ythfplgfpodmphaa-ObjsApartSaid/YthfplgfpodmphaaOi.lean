/- objs.Still, walked. -/
import Derived.Test.YthfplgfpodmphaaOh
import Derived.Test.YthfplgfpodmphaaOl
namespace Go.Proofs.Ythfplgfpodmphaa.Ob
open Go.RowKit Go.Proofs.YthfplgfpodmphaaW.PrintWords Go.Proofs.YthfplgfpodmphaaW.PrintLast Go.Proofs.YthfplgfpodmphaaW.PrintMore Go.Proofs.Ythfplgfpodmphaa.Ms
attribute [local go_sem] max2_int min2_int max_two min_two max_three min_three max_four min_four
set_option linter.unusedVariables false
set_option linter.unusedSimpArgs false
set_option maxRecDepth 100000
/-- Cells of a block that were stored, one behind the other. -/
def St (B : Nat) (w : World) (g : Nat) (t : TypeId) (cs : Array Value) (W W' : World) : Prop := Below B w W' ∧ W'.heap[g]? = some (.cells cs t (0, 0)) ∧ (∀ k, k ≠ g → W'.heap[k]? = W.heap[k]?) ∧ W'.heap.size = W.heap.size
theorem St.first {B : Nat} {w W : World} {g : Nat} {t : TypeId} {cs cs' : Array Value} (hB : Below B w W) (hg : B ≤ g) (h : W.heap[g]? = some (.cells cs t (0, 0))) (i : Nat) (v : Value) (e : cs.setIfInBounds i v = cs') : St B w g t cs' W (W.setCell ⟨g, i, none⟩ v) :=
 ⟨hB.setCell (p := ⟨g, i, none⟩) hg v, by rw [← e]; exact heap_set_same v h, fun k hk => Below.heap_setCell _ ⟨g, i, none⟩ _ k hk, by simp⟩
theorem St.next {B : Nat} {w W W1 : World} {g : Nat} {t : TypeId} {cs cs' : Array Value} (h : St B w g t cs W W1) (hg : B ≤ g) (i : Nat) (v : Value) (e : cs.setIfInBounds i v = cs') : St B w g t cs' W (W1.setCell ⟨g, i, none⟩ v) :=
 ⟨h.1.setCell (p := ⟨g, i, none⟩) hg v, by rw [← e]; exact heap_set_same v h.2.1, fun k hk => (Below.heap_setCell _ ⟨g, i, none⟩ _ k hk).trans (h.2.2.1 k hk), by rw [← h.2.2.2]; simp⟩
theorem blk_keep {W W' : World} {g : Nat} {o : Obj} (h : W.heap[g]? = some o) (hb : Below W.heap.size W W') : W'.heap[g]? = some o := (hb.block g (Array.getElem?_eq_some_iff.1 h).1).trans h
theorem cells4 {W : World} {g : Nat} {t : TypeId} {a b c d : Value} (h : W.heap[g]? = some (.cells #[a, b, c, d] t (0, 0))) : W.cell? ⟨g, 0, none⟩ = some a ∧ W.cell? ⟨g, 1, none⟩ = some b ∧ W.cell? ⟨g, 2, none⟩ = some c ∧ W.cell? ⟨g, 3, none⟩ = some d ∧ ∀ j, W.frozen? ⟨g, j, none⟩ = false :=
 ⟨(cell_of_heap h).1, (cell_of_heap h).1, (cell_of_heap h).1, (cell_of_heap h).1, fun _ => (cell_of_heap h).2⟩
theorem cells5 {W : World} {g : Nat} {t : TypeId} {a b c d e : Value} (h : W.heap[g]? = some (.cells #[a, b, c, d, e] t (0, 0))) : W.cell? ⟨g, 0, none⟩ = some a ∧ W.cell? ⟨g, 1, none⟩ = some b ∧ W.cell? ⟨g, 2, none⟩ = some c ∧ W.cell? ⟨g, 3, none⟩ = some d ∧ W.cell? ⟨g, 4, none⟩ = some e ∧ ∀ j, W.frozen? ⟨g, j, none⟩ = false :=
 ⟨(cell_of_heap h).1, (cell_of_heap h).1, (cell_of_heap h).1, (cell_of_heap h).1, (cell_of_heap h).1, fun _ => (cell_of_heap h).2⟩
theorem cells3 {W : World} {g : Nat} {t : TypeId} {a b c : Value} (h : W.heap[g]? = some (.cells #[a, b, c] t (0, 0))) : W.cell? ⟨g, 0, none⟩ = some a ∧ W.cell? ⟨g, 1, none⟩ = some b ∧ W.cell? ⟨g, 2, none⟩ = some c ∧ ∀ j, W.frozen? ⟨g, j, none⟩ = false :=
 ⟨(cell_of_heap h).1, (cell_of_heap h).1, (cell_of_heap h).1, fun _ => (cell_of_heap h).2⟩
set_option maxHeartbeats 2000000 in
/-- objs.Still: objects of their own. -/
theorem objs28 (A0 : Option Addr) (c0 : Nat) (A1 : Option Addr) (c1 : Nat) (A2 : Option Addr) (c2 : Nat) (A3 : Option Addr) (c3 : Nat) (o : O) (w : World) (hc : OC w o A0 c0 A1 c1 A2 c2 A3 c3) (hb : OB o) :
  Calls Try.prog 28 #[.agg #[.slice A0 o.reg.length c0, .slice A1 o.que.length c1, .slice A2 o.loc.length c2, .slice A3 o.map.length c3]] w (fun e w' => ∃ B0 d0 B1 d1 B2 d2 B3 d3, e = .returned (.agg #[.slice B0 o.reg.length d0, .slice B1 o.que.length d1, .slice B2 o.loc.length d2, .slice B3 o.map.length d3]) ∧ OF w.heap.size w' o B0 d0 B1 d1 B2 d2 B3 d3 ∧ Below w.heap.size w w') := by
 have HC := Aside0.mk hc
 have HO := Aside0.mk hb
 clear hc hb
 have HB := Aside0.mk (Below.refl w.heap.size w)
 go_enter Try.func28, Try.ntmps28
 go_wp2_with fail
 obtain ⟨V0, hV0⟩ : ∃ V_, V_ = ((w.alloc (.cells #[.slice A0 o.reg.length c0, .slice A1 o.que.length c1, .slice A2 o.loc.length c2, .slice A3 o.map.length c3] 32)).alloc (.cells #[.slice none 0 0, .slice none 0 0, .slice none 0 0, .slice none 0 0] 32)) := ⟨_, rfl⟩
 rw [← hV0]
 have hb_ : Below w.heap.size w V0 := by rw [hV0]; exact (below_alloc (below_alloc (Below.refl _ _) (.cells #[.slice A0 o.reg.length c0, .slice A1 o.que.length c1, .slice A2 o.loc.length c2, .slice A3 o.map.length c3] 32)) (.cells #[.slice none 0 0, .slice none 0 0, .slice none 0 0, .slice none 0 0] 32))
 have K0 : Aside0 (V0.heap[w.heap.size]? = some (.cells #[.slice A0 o.reg.length c0, .slice A1 o.que.length c1, .slice A2 o.loc.length c2, .slice A3 o.map.length c3] 32 (0, 0))) := Aside0.mk (by have h_ := blk_alloc (heap_alloc_self w (.cells #[.slice A0 o.reg.length c0, .slice A1 o.que.length c1, .slice A2 o.loc.length c2, .slice A3 o.map.length c3] 32)) (.cells #[.slice none 0 0, .slice none 0 0, .slice none 0 0, .slice none 0 0] 32); rw [hV0]; simpa using h_)
 have K1 : Aside0 (V0.heap[w.heap.size + 1]? = some (.cells #[.slice none 0 0, .slice none 0 0, .slice none 0 0, .slice none 0 0] 32 (0, 0))) := Aside0.mk (by have h_ := heap_alloc_self (w.alloc (.cells #[.slice A0 o.reg.length c0, .slice A1 o.que.length c1, .slice A2 o.loc.length c2, .slice A3 o.map.length c3] 32)) (.cells #[.slice none 0 0, .slice none 0 0, .slice none 0 0, .slice none 0 0] 32); rw [hV0]; simpa using h_)
 have SV0 : Aside0 (V0.heap.size = w.heap.size + 2) := Aside0.mk (by rw [hV0]; simp)
 clear hV0
 replace HB := Aside0.mk (below_then HB.out HB.out.size hb_)
 clear hb_
 have bd_ := below_drew1 (Below.refl V0.heap.size V0)
 have HB1 := Aside0.mk (below_then HB.out HB.out.size bd_)
 have HD := Aside0.mk bd_
 clear bd_
 refine start_ (n := 14) (S := fun w' => w'.cell? ⟨w.heap.size, 0, none⟩ = some (.slice A0 o.reg.length c0) ∧ w'.cell? ⟨w.heap.size, 1, none⟩ = some (.slice A1 o.que.length c1) ∧ w'.cell? ⟨w.heap.size, 2, none⟩ = some (.slice A2 o.loc.length c2) ∧ w'.cell? ⟨w.heap.size, 3, none⟩ = some (.slice A3 o.map.length c3)) (ds := [13]) #[false, false, false, false, false, false, false, false, false, false, false, false, false, false] (by kernel_rfl) rfl rfl ⟨cell_old HD.out (cells4 K0.out).1, cell_old HD.out (cells4 K0.out).2.1, cell_old HD.out (cells4 K0.out).2.2.1, cell_old HD.out (cells4 K0.out).2.2.2.1⟩ (fun hHeld => ?_)
 refine pure_ (i := 0) (N := some 3) (v := ?_) (a' := ?_) #[true, false, false, false, false, false, false, false, false, false, false, false, false, false] rfl rfl (by kernel_rfl) (fun _ _ _ h => h) (Or.inl ⟨by rfl, ?_⟩) ?_ ?_
 rotate_left
 ·
  intro w'
  go_simp
  with_reducible rfl
 rotate_left
 ·
  simp only [Act.put, List.setIfInBounds_toArray, List.set_cons_zero, List.set_cons_succ, i64_w, i32_w]
  rfl
 refine pure_ (i := 3) (N := some 6) (v := ?_) (a' := ?_) #[true, false, false, true, false, false, false, false, false, false, false, false, false, false] rfl rfl (by kernel_rfl) (fun _ _ _ h => h) (Or.inl ⟨by rfl, ?_⟩) ?_ ?_
 rotate_left
 ·
  intro w'
  go_simp
  with_reducible rfl
 rotate_left
 ·
  simp only [Act.put, List.setIfInBounds_toArray, List.set_cons_zero, List.set_cons_succ, i64_w, i32_w]
  rfl
 refine pure_ (i := 6) (N := some 9) (v := ?_) (a' := ?_) #[true, false, false, true, false, false, true, false, false, false, false, false, false, false] rfl rfl (by kernel_rfl) (fun _ _ _ h => h) (Or.inl ⟨by rfl, ?_⟩) ?_ ?_
 rotate_left
 ·
  intro w'
  go_simp
  with_reducible rfl
 rotate_left
 ·
  simp only [Act.put, List.setIfInBounds_toArray, List.set_cons_zero, List.set_cons_succ, i64_w, i32_w]
  rfl
 refine pure_ (i := 9) (N := some 12) (v := ?_) (a' := ?_) #[true, false, false, true, false, false, true, false, false, true, false, false, false, false] rfl rfl (by kernel_rfl) (fun _ _ _ h => h) (Or.inl ⟨by rfl, ?_⟩) ?_ ?_
 rotate_left
 ·
  intro w'
  go_simp
  with_reducible rfl
 rotate_left
 ·
  simp only [Act.put, List.setIfInBounds_toArray, List.set_cons_zero, List.set_cons_succ, i64_w, i32_w]
  rfl
 refine take_ (i := 1) (N := some 4) (v := ?_) (a' := ?_) #[true, true, false, true, false, false, true, false, false, true, false, false, false, false] rfl rfl (by kernel_rfl) (fun _ _ _ h => h) (Or.inl ⟨by rfl, ?_⟩) hHeld ?_ ?_
 rotate_left
 ·
  rintro w' ⟨s0, s1, s2, s3⟩
  go_simp
  with_reducible rfl
 rotate_left
 ·
  simp only [Act.put, List.setIfInBounds_toArray, List.set_cons_zero, List.set_cons_succ, i64_w, i32_w]
  rfl
 refine take_ (i := 4) (N := some 7) (v := ?_) (a' := ?_) #[true, true, false, true, true, false, true, false, false, true, false, false, false, false] rfl rfl (by kernel_rfl) (fun _ _ _ h => h) (Or.inl ⟨by rfl, ?_⟩) hHeld ?_ ?_
 rotate_left
 ·
  rintro w' ⟨s0, s1, s2, s3⟩
  go_simp
  with_reducible rfl
 rotate_left
 ·
  simp only [Act.put, List.setIfInBounds_toArray, List.set_cons_zero, List.set_cons_succ, i64_w, i32_w]
  rfl
 refine take_ (i := 7) (N := some 10) (v := ?_) (a' := ?_) #[true, true, false, true, true, false, true, true, false, true, false, false, false, false] rfl rfl (by kernel_rfl) (fun _ _ _ h => h) (Or.inl ⟨by rfl, ?_⟩) hHeld ?_ ?_
 rotate_left
 ·
  rintro w' ⟨s0, s1, s2, s3⟩
  go_simp
  with_reducible rfl
 rotate_left
 ·
  simp only [Act.put, List.setIfInBounds_toArray, List.set_cons_zero, List.set_cons_succ, i64_w, i32_w]
  rfl
 refine take_ (i := 10) (N := some 13) (v := ?_) (a' := ?_) #[true, true, false, true, true, false, true, true, false, true, true, false, false, false] rfl rfl (by kernel_rfl) (fun _ _ _ h => h) (Or.inl ⟨by rfl, ?_⟩) hHeld ?_ ?_
 rotate_left
 ·
  rintro w' ⟨s0, s1, s2, s3⟩
  go_simp
  with_reducible rfl
 rotate_left
 ·
  simp only [Act.put, List.setIfInBounds_toArray, List.set_cons_zero, List.set_cons_succ, i64_w, i32_w]
  rfl
 refine one_ (i := 2) (N := some 5) #[true, true, true, true, true, false, true, true, false, true, true, false, false, false] rfl rfl (by kernel_rfl) (by decide) (fun K_ hK => ?_)
 refine goes_ Try.func73 (by kernel_rfl) rfl #[.slice A0 o.reg.length c0] (by rfl) rfl rfl (by simp only [List.map_toArray, List.map_cons, List.map_nil]; rfl) ?_
 with_reducible refine (clone18 A0 c0 o.reg _ (Kd.C_below HC.out.r0 HB1.out) HC.out.h0 (by have := HO.out.b0; omega)).mono ?_
 rintro e u1 ⟨v0, rfl, hR, hb_⟩
 obtain ⟨P0, p0, rfl⟩ := Kd.R_slice hR
 have L0 := Aside0.mk (Kd.R_reads' hR).2.1
 have F0 := Aside0.mk (F_of_R hR)
 have HB2 := Aside0.mk (below_then HB1.out HB1.out.size hb_)
 have X0 := Aside0.mk hb_
 clear hR hb_
 refine ⟨_, rfl, ?_⟩
 refine hK.out _ _ ⟨cell_old X0.out hHeld.1, cell_old X0.out hHeld.2.1, cell_old X0.out hHeld.2.2.1, cell_old X0.out hHeld.2.2.2⟩ (fun hHeld => ?_)
 clear hK K_
 refine norm_ (a' := ?_) ?_ ?_
 rotate_left
 ·
  show Act.put _ (some 5) _ = _
  simp only [Act.put, List.setIfInBounds_toArray, List.set_cons_zero, List.set_cons_succ, i64_w, i32_w]
  rfl
 refine one_ (i := 5) (N := some 8) #[true, true, true, true, true, true, true, true, false, true, true, false, false, false] rfl rfl (by kernel_rfl) (by decide) (fun K_ hK => ?_)
 refine goes_ Try.func74 (by kernel_rfl) rfl #[.slice A1 o.que.length c1] (by rfl) rfl rfl (by simp only [List.map_toArray, List.map_cons, List.map_nil]; rfl) ?_
 with_reducible refine (still74 A1 c1 o.que _ (Kd.C_below HC.out.r1 HB2.out) HC.out.h1 HO.out.b1 HO.out.e1).mono ?_
 rintro e u2 ⟨P1, rfl, hR, _, hb_⟩
 have F1 := Aside0.mk hR
 replace F0 := Aside0.mk (Kd.F_below F0.out hb_)
 have HB3 := Aside0.mk (below_then HB2.out HB2.out.size hb_)
 have X1 := Aside0.mk hb_
 clear hR hb_
 refine ⟨_, rfl, ?_⟩
 refine hK.out _ _ ⟨cell_old X1.out hHeld.1, cell_old X1.out hHeld.2.1, cell_old X1.out hHeld.2.2.1, cell_old X1.out hHeld.2.2.2⟩ (fun hHeld => ?_)
 clear hK K_
 refine norm_ (a' := ?_) ?_ ?_
 rotate_left
 ·
  show Act.put _ (some 8) _ = _
  simp only [Act.put, List.setIfInBounds_toArray, List.set_cons_zero, List.set_cons_succ, i64_w, i32_w]
  rfl
 refine one_ (i := 8) (N := some 11) #[true, true, true, true, true, true, true, true, true, true, true, false, false, false] rfl rfl (by kernel_rfl) (by decide) (fun K_ hK => ?_)
 refine goes_ Try.func75 (by kernel_rfl) rfl #[.slice A2 o.loc.length c2] (by rfl) rfl rfl (by simp only [List.map_toArray, List.map_cons, List.map_nil]; rfl) ?_
 with_reducible refine (clone75 A2 c2 o.loc _ (Kd.C_below HC.out.r2 HB3.out) HC.out.h2 HO.out.b2).mono ?_
 rintro e u3 ⟨v2, rfl, hR, hb_⟩
 obtain ⟨P2, p2, rfl⟩ := Kd.R_slice hR
 have L2 := Aside0.mk (Kd.R_reads' hR).2.1
 have F2 := Aside0.mk (F_of_R hR)
 replace F0 := Aside0.mk (Kd.F_below F0.out hb_)
 replace F1 := Aside0.mk (Kd.F_below F1.out hb_)
 have HB4 := Aside0.mk (below_then HB3.out HB3.out.size hb_)
 have X2 := Aside0.mk hb_
 clear hR hb_
 refine ⟨_, rfl, ?_⟩
 refine hK.out _ _ ⟨cell_old X2.out hHeld.1, cell_old X2.out hHeld.2.1, cell_old X2.out hHeld.2.2.1, cell_old X2.out hHeld.2.2.2⟩ (fun hHeld => ?_)
 clear hK K_
 refine norm_ (a' := ?_) ?_ ?_
 rotate_left
 ·
  show Act.put _ (some 11) _ = _
  simp only [Act.put, List.setIfInBounds_toArray, List.set_cons_zero, List.set_cons_succ, i64_w, i32_w]
  rfl
 refine one_ (i := 11) (N := some 14) #[true, true, true, true, true, true, true, true, true, true, true, true, false, false] rfl rfl (by kernel_rfl) (by decide) (fun K_ hK => ?_)
 refine goes_ Try.func76 (by kernel_rfl) rfl #[.slice A3 o.map.length c3] (by rfl) rfl rfl (by simp only [List.map_toArray, List.map_cons, List.map_nil]; rfl) ?_
 with_reducible refine (still76 A3 c3 o.map _ (Kd.C_below HC.out.r3 HB4.out) HC.out.h3 HO.out.b3 HO.out.e3).mono ?_
 rintro e u4 ⟨P3, rfl, hR, hb_⟩
 have F3 := Aside0.mk hR
 replace F0 := Aside0.mk (Kd.F_below F0.out hb_)
 replace F1 := Aside0.mk (Kd.F_below F1.out hb_)
 replace F2 := Aside0.mk (Kd.F_below F2.out hb_)
 have HB5 := Aside0.mk (below_then HB4.out HB4.out.size hb_)
 have X3 := Aside0.mk hb_
 clear hR hb_
 refine ⟨_, rfl, ?_⟩
 refine hK.out _ _ ⟨cell_old X3.out hHeld.1, cell_old X3.out hHeld.2.1, cell_old X3.out hHeld.2.2.1, cell_old X3.out hHeld.2.2.2⟩ (fun hHeld => ?_)
 clear hK K_
 refine norm_ (a' := ?_) ?_ ?_
 rotate_left
 ·
  show Act.put _ (some 14) _ = _
  simp only [Act.put, List.setIfInBounds_toArray, List.set_cons_zero, List.set_cons_succ, i64_w, i32_w]
  rfl
 refine pure_ (i := 12) (N := some 15) (v := ?_) (a' := ?_) #[true, true, true, true, true, true, true, true, true, true, true, true, true, false] rfl rfl (by kernel_rfl) (fun _ _ _ h => h) (Or.inl ⟨by rfl, ?_⟩) ?_ ?_
 rotate_left
 ·
  intro w'
  go_simp
  with_reducible rfl
 rotate_left
 ·
  simp only [Act.put, List.setIfInBounds_toArray, List.set_cons_zero, List.set_cons_succ, i64_w, i32_w]
  rfl
 refine last_ (i := 13) (N := none) #[true, true, true, true, true, true, true, true, true, true, true, true, true, true] rfl rfl (by kernel_rfl) (by decide) (fun K_ hK => ?_)
 have k1_ := blk_keep (blk_keep (blk_keep (blk_keep (blk_keep K1.out HD.out) X0.out) X1.out) X2.out) X3.out
 obtain ⟨z0, z1, z2, z3, z4⟩ := cells4 k1_
 have z40 := z4 0
 have z41 := z4 1
 have z42 := z4 2
 have z43 := z4 3
 clear z4 k1_
 refine skip_ (w1 := ?_) (by rfl) rfl ?_ ?_
 rotate_left
 ·
  go_simp
  rfl
 refine hK.out _ _ ?_
 clear hK K_
 refine done_ (by kernel_rfl) ?_
 have s0_ := SV0.out
 have k1_ := blk_keep (blk_keep (blk_keep (blk_keep (blk_keep K1.out HD.out) X0.out) X1.out) X2.out) X3.out
 have HK1 := Aside0.mk k1_
 have HX := Aside0.mk (show w.heap.size + 2 ≤ V0.drew.heap.size ∧ V0.drew.heap.size ≤ u1.heap.size ∧ u1.heap.size ≤ u2.heap.size ∧ u2.heap.size ≤ u3.heap.size ∧ u3.heap.size ≤ u4.heap.size from ⟨by have := HD.out.size; omega, X0.out.size, X1.out.size, X2.out.size, X3.out.size⟩)
 clear k1_ s0_
 obtain ⟨V9, hV9⟩ : ∃ V_, V_ = ((((u4.setCell ⟨w.heap.size + 1, 0, none⟩ (.slice P0 o.reg.length p0)).setCell ⟨w.heap.size + 1, 1, none⟩ (.slice P1 o.que.length o.que.length)).setCell ⟨w.heap.size + 1, 2, none⟩ (.slice P2 o.loc.length p2)).setCell ⟨w.heap.size + 1, 3, none⟩ (.slice P3 o.map.length o.map.length)) := ⟨_, rfl⟩
 rw [← hV9]
 have hst_ : St w.heap.size w (w.heap.size + 1) 32 #[.slice P0 o.reg.length p0, .slice P1 o.que.length o.que.length, .slice P2 o.loc.length p2, .slice P3 o.map.length o.map.length] u4 V9 := by rw [hV9]; exact (St.next (St.next (St.next (St.first HB5.out (Nat.le_add_right _ _) HK1.out 0 _ (cs' := #[.slice P0 o.reg.length p0, .slice none 0 0, .slice none 0 0, .slice none 0 0]) rfl) (Nat.le_add_right _ _) 1 _ (cs' := #[.slice P0 o.reg.length p0, .slice P1 o.que.length o.que.length, .slice none 0 0, .slice none 0 0]) rfl) (Nat.le_add_right _ _) 2 _ (cs' := #[.slice P0 o.reg.length p0, .slice P1 o.que.length o.que.length, .slice P2 o.loc.length p2, .slice none 0 0]) rfl) (Nat.le_add_right _ _) 3 _ (cs' := #[.slice P0 o.reg.length p0, .slice P1 o.que.length o.que.length, .slice P2 o.loc.length p2, .slice P3 o.map.length o.map.length]) rfl)
 clear hV9
 have HS := Aside0.mk hst_
 clear hst_ K0 K1 HB HB1 HB2 HB3 HB4
 go_wp2_with fail
 refine bodyPost_ret (results_cell_row rfl _ _ (w.heap.size + 1) 32 #[.slice P0 o.reg.length p0, .slice P1 o.que.length o.que.length, .slice P2 o.loc.length p2, .slice P3 o.map.length o.map.length] (0, 0) _ rfl HS.out.2.1 Try.underlying32 rfl (by kernel_rfl)) rfl ?_
 obtain ⟨x1, x2, x3, x4, x5⟩ := HX.out
 have hk := HS.out.2.2.1
 refine ⟨P0, p0, P1, _, P2, p2, P3, _, rfl, ⟨L0.out, ?_, Nat.le_refl _, ?_, L2.out, ?_, Nat.le_refl _, ?_⟩, HS.out.1⟩
 ·
  exact Kd.F_mono (Kd.F_step F0.out (fun k h _ => hk k (by have h2 : V0.drew.heap.size ≤ k := h; omega))) (fun k h => by have h2 : V0.drew.heap.size ≤ k := h; show w.heap.size ≤ k; omega)
 ·
  exact Kd.F_mono (Kd.F_step F1.out (fun k h _ => hk k (by have h2 : u1.heap.size ≤ k := h; omega))) (fun k h => by have h2 : u1.heap.size ≤ k := h; show w.heap.size ≤ k; omega)
 ·
  exact Kd.F_mono (Kd.F_step F2.out (fun k h _ => hk k (by have h2 : u2.heap.size ≤ k := h; omega))) (fun k h => by have h2 : u2.heap.size ≤ k := h; show w.heap.size ≤ k; omega)
 ·
  exact Kd.F_mono (Kd.F_step F3.out (fun k h _ => hk k (by have h2 : u3.heap.size ≤ k := h; omega))) (fun k h => by have h2 : u3.heap.size ≤ k := h; show w.heap.size ≤ k; omega)
end Go.Proofs.Ythfplgfpodmphaa.Ob
