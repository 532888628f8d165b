/- awake. -/
import Derived.Outline
import Derived.IntWalk
import Derived.Test.YthoekmedkmonhaaWds
import Derived.Test.YthoekmedkmonhaaWg
namespace Go.Proofs.Ythoekmedkmonhaa.Wi
open Go Go.RowKit Go.Maps Go.Shelf Go.Proofs.Ythoekmedkmonhaa Go.Proofs.YthoekmedkmonhaaW.PrintWords Go.Proofs.YthoekmedkmonhaaW.PrintLast Go.Proofs.YthoekmedkmonhaaW.PrintMore
attribute [local go_sem] Oper.semAt_some
set_option linter.unusedVariables false
set_option linter.unusedSimpArgs false

theorem wh_eq {n : Nat} {s : Wd} (hv : Iv n s) {k : Int} (h0 : s.fr ≤ k) (h1 : ∀ j, s.fr < j → j ≤ k → (s.f j).isSome = true) (h2 : (s.f (k + 1)).isSome = false) : s.wh = k := by
  rcases Int.lt_trichotomy s.wh k with h | h | h
  · have := h1 (s.wh + 1) (by have := hv.p1; omega) (by omega)
    rw [hv.in2] at this; cases this
  · exact h
  · have := hv.in1 (k + 1) (by omega) (by omega)
    rw [h2] at this; cases this

theorem row_tn {w w' : World} {base e size k b m : Nat} {v : Value} {xs : List Value} (h : w.ownsRow base e size v k xs) (ht : Tn b m w w') (hb : b < base) (hm : m < base) : w'.ownsRow base e size v k xs := by
  refine ⟨h.1, ?_⟩
  rcases h.2 with h2 | ⟨g, cap, cur, h3, h4, h5, h6⟩
  · exact .inl h2
  · exact .inr ⟨g, cap, cur, h3, h4, (ht.block g (Array.getElem?_eq_some_iff.1 h5).1 (by omega) (by omega)).trans h5, h6⟩
theorem row_below {w w' : World} {base e size k : Nat} {v : Value} {xs : List Value} (h : w.ownsRow base e size v k xs) (hb : Below w.heap.size w w') : w'.ownsRow base e size v k xs := by
  refine ⟨h.1, ?_⟩
  rcases h.2 with h2 | ⟨g, cap, cur, h3, h4, h5, h6⟩
  · exact .inl h2
  · exact .inr ⟨g, cap, cur, h3, h4, (hb.block g (Array.getElem?_eq_some_iff.1 h5).1).trans h5, h6⟩

def a0 : Wd := ⟨3, 3, 3, fun _ => none⟩
def a1 (x : Value) : Wd := ⟨3, 4, 4, upd a0.f 4 (some x)⟩
def a2 (x y : Value) : Wd := ⟨3, 4, 6, upd (a1 x).f 6 (some y)⟩
theorem wd_ext {s s' : Wd} (h0 : s.fr = s'.fr) (h1 : s.wh = s'.wh) (h2 : s.tp = s'.tp) (h3 : s.f = s'.f) : s = s' := by
  obtain ⟨_, _, _, _⟩ := s
  obtain ⟨_, _, _, _⟩ := s'
  simp only at h0 h1 h2 h3
  subst h0 h1 h2 h3
  rfl
theorem aw1 {x : Value} {r : Bool} {s : Wd} {n : Nat} (h : PutIs a0 4 x r s) (hv : Iv n s) : r = true ∧ s = a1 x := by
  have hr : r = true := h.an.trans rfl
  have hf := h.f hr
  have h0 := h.fr
  refine ⟨hr, wd_ext h0 (wh_eq hv (by rw [h0]; show (3 : Int) ≤ 4; omega) (fun j h1 h2 => ?_) ?_) ((h.tp hr).trans rfl) hf⟩
  · rw [h0] at h1
    have : j = 4 := by have h1' : (3 : Int) < j := h1; have h2' : j ≤ 4 := h2; omega
    subst this
    rw [hf]; rfl
  · rw [hf]; rfl
theorem aw2 {x y : Value} {r : Bool} {s : Wd} {n : Nat} (h : PutIs (a1 x) 6 y r s) (hv : Iv n s) : r = true ∧ s = a2 x y := by
  have hr : r = true := h.an.trans rfl
  have hf := h.f hr
  have h0 := h.fr
  refine ⟨hr, wd_ext h0 (wh_eq hv (by rw [h0]; show (3 : Int) ≤ 4; omega) (fun j h1 h2 => ?_) ?_) ((h.tp hr).trans rfl) hf⟩
  · rw [h0] at h1
    have : j = 4 := by have h1' : (3 : Int) < j := h1; have h2' : j ≤ 4 := h2; omega
    subst this
    rw [hf]; rfl
  · rw [hf]; rfl
theorem aw3 {x y z : Value} {r : Bool} {s : Wd} (h : PutIs (a2 x y) 3 z r s) : r = false ∧ s = a2 x y := by
  have hr : r = false := h.an.trans rfl
  exact ⟨hr, h.no hr⟩
theorem aw4 {x y z : Value} {r : Bool} {s : Wd} (h : PutIs (a2 x y) 4 z r s) : r = false ∧ s = a2 x y := by
  have hr : r = false := h.an.trans rfl
  exact ⟨hr, h.no hr⟩
theorem aw5 {x y z : Value} {r : Bool} {s : Wd} (h : PutIs (a2 x y) 69 z r s) : r = false ∧ s = a2 x y := by
  have hr : r = false := h.an.trans rfl
  exact ⟨hr, h.no hr⟩
def a3 (x y : Value) : Wd := ⟨4, 4, 6, fun j => if j ≤ 4 then none else (a2 x y).f j⟩
theorem aw6 {x y : Value} {s : Wd} (h : CutIs (a2 x y) 4 s) : s = a3 x y :=
  wd_ext (h.fr.trans rfl) (h.wh.trans rfl) (h.tp.trans rfl) (by funext j; rw [h.f j, h.fr.trans (rfl : _ = (4 : Int))]; rfl)
theorem aw_miss (x y : Value) : missOf (a2 x y) 9 = [5] := rfl
def sumE {s : Wd} (pre : List (Ent s)) : Int := pre.foldl (fun a x => wrap64 (a + x.1.1)) 0
theorem sumE_snoc {s : Wd} (pre : List (Ent s)) (x : Ent s) : sumE (pre ++ [x]) = wrap64 (sumE pre + x.1.1) := by simp [sumE, List.foldl_append]
theorem sumE_keys {s : Wd} (pre : List (Ent s)) : sumE pre = (pre.map (·.1.1)).foldl (fun a i => wrap64 (a + i)) 0 := by simp [sumE, List.foldl_map]
theorem aw_sum (x y : Value) : sumE (allOf (a2 x y)) = 10 := by
  rw [sumE_keys, show (allOf (a2 x y)).map (·.1.1) = [4, 6] from rfl]
  simp [wrap64]
theorem aw_ent {x y : Value} (e : Ent (a2 x y)) : (e.1.1 = 4 ∧ e.1.2 = x) ∨ (e.1.1 = 6 ∧ e.1.2 = y) := by
  obtain ⟨⟨j, v⟩, h⟩ := e
  simp only [a2, a1, a0, upd] at h
  split at h
  · right; rename_i hj; exact ⟨hj, (Option.some.inj h).symm⟩
  · split at h
    · left; rename_i hj; exact ⟨hj, (Option.some.inj h).symm⟩
    · cases h

set_option maxRecDepth 100000 in
set_option maxHeartbeats 4000000 in
theorem awake14 (w : World) : Calls Try.prog 14 #[] w (SameEnd w true) := by
  refine (callsIn_wide (n := 9)).1 ?_
  refine callsIn_of_wp_marks Try.func14 rfl trivial ?_ rfl
  simp only [Try.ntmps14, List.size_toArray, List.length_cons, List.length_nil, Nat.reduceAdd, Nat.reduceSub, Array.replicate_succ, Array.replicate_zero, List.push_toArray, List.append_toArray, List.nil_append, List.cons_append]
  gi_wp2_with fail
  refine ⟨trivial, (callsIn_wide.2 (new15 3 w)).mono ?_⟩
  rintro e w1 ⟨b, m, rfl, hb0, hm0, hw1, hB1⟩
  have hw1 : Wn 67 w1 b m 0 a0 := hw1
  have hi1 : Iv 0 a0 := new_iv 3 (by decide) (by decide)
  have HT := Aside0.mk hB1
  have HW := Aside0.mk hw1
  have HI := Aside0.mk hi1
  clear hB1 hw1 hi1
  gi_wp2_with fail
  refine ⟨trivial, (callsIn_wide.2 (put16 b m 0 a0 4 (.string ⟨#[97]⟩) w1 HW.out HI.out (by decide) ⟨by decide, by decide⟩)).mono ?_⟩
  rintro e w2 ⟨r, s, rfl, hp, hw, hi, ht⟩
  obtain ⟨rfl, rfl⟩ := aw1 hp hi
  have HT := Aside0.mk (HT.out.trans (ht.below hb0 hm0 HT.out.size))
  have HW := Aside0.mk hw
  have HI := Aside0.mk hi
  clear hp hw hi ht
  gi_wp2_with fail
  refine ⟨trivial, (callsIn_wide.2 (put16 b m 1 (a1 (.string ⟨#[97]⟩)) 6 (.string ⟨#[98]⟩) w2 HW.out HI.out (by decide) ⟨by decide, by decide⟩)).mono ?_⟩
  rintro e w3 ⟨r, s, rfl, hp, hw, hi, ht⟩
  obtain ⟨rfl, rfl⟩ := aw2 hp hi
  have HT := Aside0.mk (HT.out.trans (ht.below hb0 hm0 HT.out.size))
  have HW := Aside0.mk hw
  have HI := Aside0.mk hi
  clear hp hw hi ht
  gi_wp2_with fail
  refine ⟨trivial, (callsIn_wide.2 (put16 b m 2 (a2 (.string ⟨#[97]⟩) (.string ⟨#[98]⟩)) 3 (.string ⟨#[120]⟩) w3 HW.out HI.out (by decide) ⟨by decide, by decide⟩)).mono ?_⟩
  rintro e w4 ⟨r, s, rfl, hp, hw, hi, ht⟩
  obtain ⟨rfl, rfl⟩ := aw3 hp
  have HT := Aside0.mk (HT.out.trans (ht.below hb0 hm0 HT.out.size))
  have HW := Aside0.mk hw
  have HI := Aside0.mk hi
  clear hp hw hi ht
  gi_wp2_with fail
  refine ⟨trivial, (callsIn_wide.2 (put16 b m 3 (a2 (.string ⟨#[97]⟩) (.string ⟨#[98]⟩)) 4 (.string ⟨#[121]⟩) w4 HW.out HI.out (by decide) ⟨by decide, by decide⟩)).mono ?_⟩
  rintro e w5 ⟨r, s, rfl, hp, hw, hi, ht⟩
  obtain ⟨rfl, rfl⟩ := aw4 hp
  have HT := Aside0.mk (HT.out.trans (ht.below hb0 hm0 HT.out.size))
  have HW := Aside0.mk hw
  have HI := Aside0.mk hi
  clear hp hw hi ht
  gi_wp2_with fail
  have hg := get18 b m 4 (a2 (.string ⟨#[97]⟩) (.string ⟨#[98]⟩)) 6 w5 HW.out ⟨by decide, by decide⟩
  rw [show (a2 (.string ⟨#[97]⟩) (.string ⟨#[98]⟩)).f 6 = some (.string ⟨#[98]⟩) from rfl] at hg
  simp only [Option.getD_some, Option.isSome_some] at hg
  refine ⟨trivial, (callsIn_wide.2 hg).mono ?_⟩
  rintro e w6 ⟨rfl, rfl⟩
  clear hg
  gi_wp2_with fail
  have hm := missing37_in Fence.wide 8 trivial trivial trivial rfl (by omega) b m 4 (a2 (.string ⟨#[97]⟩) (.string ⟨#[98]⟩)) 9 w6 HW.out HI.out (by omega) (by omega)
  rw [aw_miss] at hm
  refine ⟨trivial, CallsIn.mono hm ?_⟩
  rintro e w7 ⟨A, cap, rfl, hrow, hb⟩
  have HR := Aside0.mk hrow
  have hbl := HW.out.blt
  have hml := HW.out.mlt
  have HW := Aside0.mk (HW.out.below hb hbl hml)
  have HT := Aside0.mk (HT.out.trans (hb.mono HT.out.size))
  clear hm hrow hb
  gi_wp2_with fail
  refine ⟨trivial, (callsIn_wide.2 (put16 b m 4 (a2 (.string ⟨#[97]⟩) (.string ⟨#[98]⟩)) 69 (.string ⟨#[122]⟩) w7 HW.out HI.out (by decide) ⟨by decide, by decide⟩)).mono ?_⟩
  rintro e w8 ⟨r, s, rfl, hp, hw, hi, ht⟩
  obtain ⟨rfl, rfl⟩ := aw5 hp
  have HR := Aside0.mk (row_tn HR.out ht hbl hml)
  have HT := Aside0.mk (HT.out.trans (ht.below hb0 hm0 HT.out.size))
  have HW := Aside0.mk hw
  have HI := Aside0.mk hi
  clear hp hw hi ht
  gi_wp2_with fail
  refine ⟨trivial, (all38_in Fence.wide 8 trivial rfl _ _).mono ?_⟩
  rintro e w9 ⟨rfl, rfl⟩
  gi_wp2_with fail
  obtain ⟨w9, hw9⟩ : ∃ w9, ((w8.alloc (.cells #[.int .i64 0] 3)).alloc (.cells #[.pointer (some ⟨b, 0, none⟩)] 32)) = w9 := ⟨_, rfl⟩
  have hs9 : w9.heap.size = w8.heap.size + 1 + 1 := by rw [← hw9]; simp
  have b0 : Boxed w9 w8.heap.size 3 (.int .i64 0) := by rw [← hw9]; exact (Boxed.new w8 3 _).alloc _
  have b1 : Boxed w9 (w8.heap.size + 1) 32 (.pointer (some ⟨b, 0, none⟩)) := by
    rw [← hw9]
    have := Boxed.new (w8.alloc (.cells #[.int .i64 0] 3)) 32 (.pointer (some ⟨b, 0, none⟩))
    rwa [World.size_alloc] at this
  have hb9 : Below w8.heap.size w8 w9 := by
    rw [← hw9]
    exact ((Below.refl _ w8).alloc (Nat.le_refl _) _).alloc (by simp) _
  rw [hw9]
  clear hw9
  have hbl := HW.out.blt
  have hml := HW.out.mlt
  have h1 : 1 ≤ 9 := by omega
  refine wpIn_rangeFunc_ownG (F := Fence.wide) rfl h1 (gf := 42) (lb := #[.pointer (some ⟨w8.heap.size + 1, 0, none⟩)]) rfl trivial (enters_of Try.func42 (by kernel_rfl) rfl)
    (stops42 Fence.wide 8 trivial rfl (by omega) (w8.heap.size + 1) w8.heap.size b m 5 (a2 (.string ⟨#[97]⟩) (.string ⟨#[98]⟩)) HI.out (by omega) hbl hml w9 (by omega) b1 (HW.out.below hb9 hbl hml)) kw_t (kw_b (by omega) (by omega)) (Below.refl _ _) (fun _ => rfl)
    (fun pre W => Boxed W w8.heap.size 3 (.int .i64 (sumE pre)) ∧ Below w8.heap.size w8 W) (fun _ _ _ => False)
    (OwnFrom.and (Own.from (boxed_own _ _ (fun pre => Value.int .i64 (sumE pre))) _) (ownFrom_below (Nat.le_refl _) (by omega))) (fun _ _ _ _ _ hs _ _ => hs)
    ⟨b0, hb9⟩
    ?a1 ?assign ?body ?done ?stop
  case assign =>
    intro l x W K hK
    gi_wp2
    exact hK
  case body =>
    rintro l pre ⟨⟨j, v⟩, hx⟩ W ⟨hv, hB⟩ hlt
    have hS := Aside0.mk (sumE_snoc pre ⟨(j, v), hx⟩)
    have hc := hv.cell
    have hf := hv.frozen
    obtain ⟨z, hz⟩ : ∃ z, z = sumE pre := ⟨_, rfl⟩
    rw [← hz] at hv hc hS
    clear hz
    rcases aw_ent ⟨(j, v), hx⟩ with ⟨h1, h2⟩ | ⟨h1, h2⟩
    all_goals
      simp only at h1 h2
      subst h1 h2
      gi_wp2
      refine ⟨(KeepsOthers.setCell _ _ _).from _, ⟨(Below.refl _ _).setCell (p := ⟨w8.heap.size, 0, none⟩) (Nat.le_refl _) _, Below.heap_setCell _ _ _ _ (by show w8.heap.size + 1 ≠ w8.heap.size; omega)⟩, ?_, hB.setCell (p := ⟨w8.heap.size, 0, none⟩) (Nat.le_refl _) _⟩
      rw [hS.out]
      exact hv.set _
  case done =>
    rintro D ys W hD rfl ⟨hv, hB⟩ hK
    rw [aw_sum] at hv
    have HW := Aside0.mk (HW.out.below hB hbl hml)
    have HT := Aside0.mk (HT.out.trans (hB.mono HT.out.size))
    have HR := Aside0.mk (row_below HR.out hB)
    have HB := Aside0.mk hv
    have HK := Aside0.mk hK
    have hWs : w8.heap.size ≤ W.heap.size := hB.size
    clear hv hB hK
    gi_wp2_with fail
    refine ⟨trivial, (callsIn_wide.2 (cut17 b m 5 (a2 (.string ⟨#[97]⟩) (.string ⟨#[98]⟩)) 4 W HW.out HI.out (by omega))).mono ?_⟩
    rintro e w10 ⟨s, rfl, hp, hw, hi, ht⟩
    obtain rfl := aw6 hp
    have HR := Aside0.mk (row_tn HR.out ht (by assumption) (by assumption))
    have HT := Aside0.mk (HT.out.trans (ht.below hb0 hm0 HT.out.size))
    have HW := Aside0.mk hw
    have HI := Aside0.mk hi
    have HB : Aside0 (Boxed w10 w8.heap.size 3 (.int .i64 10)) := ⟨ht.cell HB.out (by omega) (by omega)⟩
    have HK : Aside0 (w10.heap[D]? = some (.deferred (some []))) := ⟨(ht.block D (Array.getElem?_eq_some_iff.1 HK.out).1 (by omega) (by omega)).trans HK.out⟩
    clear hp hw hi ht
    gi_wp2_with fail
    have hg := get18 b m 5 (a3 (.string ⟨#[97]⟩) (.string ⟨#[98]⟩)) 4 w10 HW.out ⟨by decide, by decide⟩
    rw [show (a3 (.string ⟨#[97]⟩) (.string ⟨#[98]⟩)).f 4 = none from rfl] at hg
    simp only [Option.getD_none, Option.isSome_none] at hg
    refine ⟨trivial, (callsIn_wide.2 hg).mono ?_⟩
    rintro e w11 ⟨rfl, rfl⟩
    clear hg
    have hbc := HB.out.cell
    gi_wp2_with fail
    refine ⟨trivial, (callsIn_wide.2 (whole20 b m 5 (a3 (.string ⟨#[97]⟩) (.string ⟨#[98]⟩)) w11 HW.out)).mono ?_⟩
    rintro e w12 ⟨rfl, rfl⟩
    dsimp only [a3]
    gi_wp2_with fail
    refine ⟨trivial, (callsIn_wide.2 (top39 b m 5 (a3 (.string ⟨#[97]⟩) (.string ⟨#[98]⟩)) w12 HW.out)).mono ?_⟩
    rintro e w13 ⟨rfl, rfl⟩
    dsimp only [a3]
    gi_wp2_with fail
    have hs := same12 A (some ⟨w13.heap.size, 0, none⟩) cap 1 [5] [5] (w13.alloc (.cells #[.int .i64 5] 3)) ((IR.of_row HR.out).below ((Below.refl _ _).alloc (Nat.le_refl _) _)) (IR.one (World.alloc_heap_new _ _)) (by decide)
    rw [show decide (([5] : List Int) = [5]) = true from by decide] at hs
    refine ⟨trivial, (callsIn_wide.2 hs).mono ?_⟩
    rintro e w14 ⟨rfl, hb⟩
    have hb13 : Below w13.heap.size w13 w14 := ((Below.refl _ w13).alloc (Nat.le_refl _) _).trans (hb.mono (by simp))
    have HB : Aside0 (Boxed w14 w8.heap.size 3 (.int .i64 10)) := ⟨(hb13.block _ HB.out.lt).trans HB.out⟩
    have HK : Aside0 (w14.heap[D]? = some (.deferred (some []))) := ⟨(hb13.block D (Array.getElem?_eq_some_iff.1 HK.out).1).trans HK.out⟩
    have HT := Aside0.mk (HT.out.trans (hb13.mono HT.out.size))
    have HW := Aside0.mk (HW.out.below hb13 HW.out.blt HW.out.mlt)
    clear hs hb hb13 hbc
    have hbc := HB.out.cell
    gi_wp2_with fail
    refine ⟨trivial, (callsIn_wide.2 (from19 b m 5 (a3 (.string ⟨#[97]⟩) (.string ⟨#[98]⟩)) w14 HW.out)).mono ?_⟩
    rintro e w15 ⟨rfl, rfl⟩
    dsimp only [a3]
    gi_wp2_with fail
    refine ⟨by simp, .inl ⟨_, _, rfl, run_takeDeferred HK.out, ?_⟩⟩
    exact ⟨_, results_tmp rfl _ _ _, rfl, HT.out.trans (belowK_b (w := w) (Nat.le_refl _) w15 D _ _ (by have := HT.out.size; omega) HK.out rfl rfl)⟩
  case stop =>
    rintro D c' pre W _ _ h _
    exact h.elim
end Go.Proofs.Ythoekmedkmonhaa.Wi
