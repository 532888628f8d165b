/- WindBounds: for all arguments, with no condition. -/
import Derived.Outline
import Derived.IntWalk
import Derived.Test.YthoekmedkmonhaaRows
import Derived.ProofKit
import Derived.OpenShut
import Derived.ShutString
import Derived.ChangeOld
import Derived.SizedLaws
import Derived.Test.YthoekmedkmonhaaWh
namespace Go.Proofs.Ythoekmedkmonhaa.Wi
open Go Go.RowKit Go.Maps Go.Shelf Go.Proofs.Ythoekmedkmonhaa Go.Proofs.YthoekmedkmonhaaW.PrintWords Go.Proofs.YthoekmedkmonhaaW.PrintLast Go.Proofs.YthoekmedkmonhaaW.PrintMore
attribute [local go_sem] Oper.semAt_some
attribute [local go_sem] max2_int min2_int max_two min_two
set_option linter.unusedVariables false
set_option linter.unusedSimpArgs false

theorem wf_inv {n : Int} (h : (Lit.int .i64 n).wf = true) : Wf n := by
  simp [Lit.wf, IntKind.min, IntKind.max, IntKind.signed, IntKind.bits] at h
  exact h
theorem none_all (c : Int) : allOf ⟨c, c, c, fun _ => none⟩ = [] := by
  unfold allOf
  rw [show allN ⟨c, c, c, fun _ => none⟩ = 0 by simp [allN]]
  rfl
theorem none_miss (c : Int) (k : Nat) : missOf ⟨c, c, c, fun _ => none⟩ k = [] := by
  unfold missOf
  rw [none_all]
  rfl

set_option maxRecDepth 100000 in
set_option maxHeartbeats 4000000 in
theorem bounds5 (a : Int) (ha : Wf a) (w : World) : Calls Try.prog 5 #[.int .i64 a] w (SameEnd w true) := by
  obtain ⟨c, hc⟩ : ∃ c, c = min (max a 0) 1099511627776 := ⟨_, rfl⟩
  obtain ⟨y, hy⟩ : ∃ y, y = (if a < 0 then 0 else a) := ⟨_, rfl⟩
  have hmx : (if a < 0 then 0 else a) = y := hy.symm
  have hmn : (if 1099511627776 < y then 1099511627776 else y) = c := by rw [hc, hy]; split <;> split <;> omega
  have hc0 : 0 ≤ c := by omega
  have hc1 : c ≤ 1099511627776 := by omega
  have HC := Aside0.mk hc
  have HA := Aside0.mk ha
  clear hy ha hc
  refine (callsIn_wide (n := 9)).1 ?_
  refine callsIn_of_wp_marks Try.func5 rfl trivial ?_ rfl
  simp only [Try.ntmps5, List.size_toArray, List.length_cons, List.length_nil, Nat.reduceAdd, Nat.reduceSub, Array.replicate_succ, Array.replicate_zero, List.push_toArray, List.append_toArray, List.nil_append, List.cons_append]
  gi_wp2_with fail
  refine ⟨trivial, (callsIn_wide.2 (new21 a w)).mono ?_⟩
  rintro e w1 ⟨b, m, rfl, hb0, hm0, hw1, hB1⟩
  rw [← HC.out] at hw1
  have hi1 : Iv 0 ⟨c, c, c, fun _ => none⟩ := new_iv c hc0 hc1
  have HT := Aside0.mk hB1
  have HW := Aside0.mk hw1
  have HI := Aside0.mk hi1
  clear hB1 hw1 hi1
  gi_wp2_with fail
  refine ⟨trivial, (all22_in Fence.wide 8 trivial rfl _ _).mono ?_⟩
  rintro e w9 ⟨rfl, rfl⟩
  gi_wp2_with fail
  obtain ⟨w9, hw9⟩ : ∃ w9, ((w1.alloc (.cells #[.int .i64 0] 3)).alloc (.cells #[.pointer (some ⟨b, 0, none⟩)] 38)) = w9 := ⟨_, rfl⟩
  have hs9 : w9.heap.size = w1.heap.size + 1 + 1 := by rw [← hw9]; simp
  have b0 : Boxed w9 w1.heap.size 3 (.int .i64 0) := by rw [← hw9]; exact (Boxed.new w1 3 _).alloc _
  have b1 : Boxed w9 (w1.heap.size + 1) 38 (.pointer (some ⟨b, 0, none⟩)) := by
    rw [← hw9]
    have := Boxed.new (w1.alloc (.cells #[.int .i64 0] 3)) 38 (.pointer (some ⟨b, 0, none⟩))
    rwa [World.size_alloc] at this
  have hb9 : Below w1.heap.size w1 w9 := by
    rw [← hw9]
    exact ((Below.refl _ w1).alloc (Nat.le_refl _) _).alloc (by simp) _
  rw [hw9]
  clear hw9
  have hbl := HW.out.blt
  have hml := HW.out.mlt
  have h1 : 1 ≤ 9 := by omega
  refine wpIn_rangeFunc_ownG (F := Fence.wide) rfl h1 (gf := 40) (lb := #[.pointer (some ⟨w1.heap.size + 1, 0, none⟩)]) rfl trivial (enters_of Try.func40 (by kernel_rfl) rfl)
    (stops40 Fence.wide 8 trivial rfl (by omega) (w1.heap.size + 1) w1.heap.size b m 0 ⟨c, c, c, fun _ => none⟩ HI.out (by omega) hbl hml w9 (by omega) b1 (HW.out.below hb9 hbl hml)) kw_t (kw_b (by omega) (by omega)) (Below.refl _ _) (fun _ => rfl)
    (fun pre W => Boxed W w1.heap.size 3 (.int .i64 0) ∧ Below w1.heap.size w1 W) (fun _ _ _ => False)
    (OwnFrom.and (Own.from (boxed_own _ _ (fun pre => Value.int .i64 0)) _) (ownFrom_below (Nat.le_refl _) (by omega))) (fun _ _ _ _ _ hs _ _ => hs)
    ⟨b0, hb9⟩ ?a1 ?assign ?body ?done ?stop
  case assign =>
    intro l x W K hK
    gi_wp2
    exact hK
  case body =>
    rintro l pre ⟨⟨j, v⟩, hx⟩ W ⟨hv, hB⟩ hlt
    cases hx
  case done =>
    rintro D ys W hD rfl ⟨hv, hB⟩ hK
    have HW := Aside0.mk (HW.out.below hB hbl hml)
    have HT := Aside0.mk (HT.out.trans (hB.mono HT.out.size))
    have HB := Aside0.mk hv
    have HK := Aside0.mk hK
    have hWs : w1.heap.size ≤ W.heap.size := hB.size
    clear hv hB hK
    gi_wp2_with fail
    refine ⟨trivial, (callsIn_wide.2 (get23 b m 0 ⟨c, c, c, fun _ => none⟩ a W HW.out HA.out)).mono ?_⟩
    rintro e w10 ⟨rfl, rfl⟩
    gi_wp2_with fail
    refine ⟨trivial, (callsIn_wide.2 (from24 b m 0 ⟨c, c, c, fun _ => none⟩ w10 HW.out)).mono ?_⟩
    rintro e w11 ⟨rfl, rfl⟩
    gi_wp2_with fail
    refine ⟨trivial, (callsIn_wide.2 (whole25 b m 0 ⟨c, c, c, fun _ => none⟩ w11 HW.out)).mono ?_⟩
    rintro e w12 ⟨rfl, rfl⟩
    gi_wp2_with fail
    refine ⟨trivial, (callsIn_wide.2 (top26 b m 0 ⟨c, c, c, fun _ => none⟩ w12 HW.out)).mono ?_⟩
    rintro e w13 ⟨rfl, rfl⟩
    gi_wp2_with fail
    have hm := missing27_in Fence.wide 8 trivial trivial trivial rfl (by omega) b m 0 ⟨c, c, c, fun _ => none⟩ 9 w13 HW.out HI.out (by omega) (by omega)
    rw [none_miss] at hm
    refine ⟨trivial, CallsIn.mono hm ?_⟩
    rintro e w14 ⟨A, cap, rfl, hrow, hb⟩
    have HB : Aside0 (Boxed w14 w1.heap.size 3 (.int .i64 0)) := ⟨(hb.block _ HB.out.lt).trans HB.out⟩
    have HK : Aside0 (w14.heap[D]? = some (.deferred (some []))) := ⟨(hb.block D (Array.getElem?_eq_some_iff.1 HK.out).1).trans HK.out⟩
    have HT := Aside0.mk (HT.out.trans (hb.mono HT.out.size))
    have hbc := HB.out.cell
    clear hm hrow hb
    gi_wp2_with fail
    refine ⟨trivial, (callsIn_wide.2 (awake14 w14)).mono ?_⟩
    rintro e w15 ⟨rfl, hb⟩
    have HK : Aside0 (w15.heap[D]? = some (.deferred (some []))) := ⟨(hb.block D (Array.getElem?_eq_some_iff.1 HK.out).1).trans HK.out⟩
    have HT := Aside0.mk (HT.out.trans (hb.mono HT.out.size))
    clear hb hbc
    gi_wp2_with fail
    refine ⟨by simp, .inl ⟨_, _, rfl, run_takeDeferred HK.out, ?_⟩⟩
    exact ⟨_, results_tmp rfl _ _ _, rfl, HT.out.trans (belowK_b (w := w) (Nat.le_refl _) w15 D _ _ (by have := HT.out.size; omega) HK.out rfl rfl)⟩
  case stop =>
    rintro D c' pre W _ _ h _
    exact h.elim
end Go.Proofs.Ythoekmedkmonhaa.Wi
namespace Go.Proofs.Ythoekmedkmonhaa.windBounds
open Go.ChangeShapes Go.WideShapes Go.ChangeAt Go.RowKit Go.Proofs.YthoekmedkmonhaaW
open Go.ChangeMaps (open_string shut_string)
theorem own : ownKnob Try.prog.godebug = none := by kernel_rfl
theorem laidOut : laidOutB Try.prog = true := by kernel_rfl
def IsRow (k : IntKind) (w : World) (a : Option Addr) (len cap : Nat) (zs : List Int) : Prop :=
  (a = none ∧ len = 0 ∧ cap = 0 ∧ zs = []) ∨
  ∃ x, a = some x ∧ len ≤ cap ∧ cap ≤ maxLen ∧ zs.length = cap ∧ (∀ i, i < zs.length → w.cell? (x.add i) = some (.int k (zs.getD i 0))) ∧ ∀ n ∈ zs, (Lit.int k n).wf = true
set_option maxRecDepth 100000 in
theorem lifted (os : Os) (started : os.Started) (H : Type) (enc : TypeId × Value → H) :
    ReturnsInHanded {} Try.checked os 5 .any (Rows.windBoundsSpec.pre6 enc Try.prog Try.f5 Rows.windBoundsRow.domain false) (Rows.windBoundsSpec.post enc Try.prog Try.f5 false true false false) := by
  refine returnsInHanded_of_change_sized (C := Try.checked) own started (by kernel_rfl) Try.func5
    (ChangeSpec.witness6 (enc := enc) (C := Try.checked) false ⟨#[], #[.int .i64 0], []⟩ 8 (by kernel_rfl) (by kernel_rfl) (by kernel_rfl) (by kernel_rfl)) ?_
  intro W base args ds gs before hval0 hW hcnd hsz0 _
  have hsz : (DataW.weightsEach Try.prog (Try.f5.params.toList ++ Rows.windBoundsSpec.plain.varTypes Try.prog) (ds ++ gs)).all (· ≤ reachBytes) = true := hsz0
  have hval : ∀ (j : Nat) t v, Try.f5.params[j]? = some t → args[j]? = some v → Value.okWide Try.prog W .any base t v := hval0
  have hW' := hW
  obtain ⟨p, q, hA0, hV, rfl, hfz, hnd⟩ := hW
  have hA : DataW.TrodAll enc Try.prog W 0 (fun _ => true) true Try.f5.params.toList args.toList ds p := hA0
  rw [Try.params5] at hA hval hsz
  obtain ⟨v0, vs0, d0, ds0, p0, q0, hargs, rfl, rfl, h0, r0⟩ := trodAll_cons hA
  obtain ⟨rfl, rfl, rfl⟩ := trodAll_nil r0
  obtain rfl : args = #[v0] := by cases args; simp_all
  obtain ⟨rfl, rfl⟩ := trodVars_none hV
  obtain ⟨a0, rfl, rfl, rfl, w0⟩ := open_int Try.underlying3 (hval 0 3 v0 rfl rfl) h0
  clear hA0 hval0 hsz0 hsz
  refine (Wi.bounds5 a0 (Wi.wf_inv w0) W).mono fun e W' ⟨he, bel⟩ => ?_
  subst he
  exact ⟨_, rfl, _, _, _, [], _, [], hW', trodAll_mk1 (shut_bool Try.underlying4 _), (trodAll_cons_mk (shut_int Try.underlying3 w0) trodAll_mk0), rfl, bel.frame _, fun h => by cases h⟩
theorem over : Rows.windBoundsRow.holds Try.pinned (OpenSpec.ofChange Rows.windBoundsSpec) :=
  OpenClaim.holds_of_wide 5 Try.f5 rfl rfl rfl rfl rfl rfl rfl ⟨rfl, rfl, rfl, rfl, rfl⟩ rfl rfl rfl rfl rfl (by kernel_rfl) Try.func5 (by kernel_rfl)
    (of_decide_eq_true (by kernel_rfl)) (by unfold Func.isWrapper; first | (rw [if_pos (by decide +kernel)]; kernel_rfl) | (rw [if_neg (by decide +kernel)]; exact ⟨rfl, rfl⟩))
    (fun os started H enc _ => lifted os started H enc)
theorem proved : Rows.WindBoundsSaid := over
end Go.Proofs.Ythoekmedkmonhaa.windBounds
namespace Go.Proofs.Ythoekmedkmonhaa
/-- The row, under a short name, for the claim. -/
theorem windBounds_holds : Rows.WindBoundsSaid := windBounds.proved
end Go.Proofs.Ythoekmedkmonhaa
