/- What the evaluator is told is so. -/
import Derived.Test.YthfplgfpodmphaaVO
set_option maxRecDepth 100000
namespace Go.Proofs.Ythfplgfpodmphaa.VE
theorem app_new {P : Program} {ts : Array TypeId} {S e : TypeId} {z : List PV} {x : PV} {s : St} {r : List (List PV)} (h1 : ts[0]? = some S) (h2 : ts[1]? = some S) (hu : P.underlying S = some (.slice e)) (hz : zeroL P e = some z) (hl : z.length = P.cellsOf e) (hc : P.cellsOf e ≠ 0) (hb : P.bytesOf e ≤ 2 ^ 16)
    (hr : rowsOf s.heap (P.cellsOf e) x = some r) (hne : r ≠ []) (hro : room r.length = true) :
    appStep P ts (.sl (P.cellsOf e) [] (.mine 0)) x s = some (.rf s.next 0 r.length none, s.new ⟨P.cellsOf e, r, 0⟩) := by
  have hb' : ¬ (P.cellsOf e = 0 ∨ P.bytesOf e > 2 ^ 16) := by omega
  have hlen : 0 < r.length := List.length_pos_iff.2 hne
  simp only [appStep, h1, h2, Option.bind_some, hu, if_neg hb', hz, hl, ne_eq, not_true, if_false, hr, appendP, if_neg hne, Cap.get]
  rw [if_neg]
  · simp
  · simp [hro]
    omega
theorem clone73 : CloneOk CC 73 5 := by
  refine ⟨Try.f73, _, Try.func73, rfl, fun s => by kernel_rfl, fun s b o n => ⟨.mine 0, by kernel_rfl, Or.inr rfl⟩, fun s x r h1 h2 h3 h4 h5 => ?_⟩
  have key := app_new (P := Try.prog) (ts := #[22, 22]) (S := 22) (e := 5) (z := [.lit (.int .u8 0)]) rfl rfl (by kernel_rfl) (by kernel_rfl) (by kernel_rfl) (of_decide_eq_true (by kernel_rfl)) (of_decide_eq_true (by kernel_rfl)) h3 h4 h5
  have key' : appStep CC.P #[22, 22] (.sl 1 [] (.mine 0)) x s = some (.rf s.next 0 r.length none, s.new ⟨1, r, 0⟩) := key
  have cu : CC.P.underlying 22 = some (.slice 5) := by kernel_rfl
  have cc : CC.P.cellsOf 5 = 1 := by kernel_rfl
  have cz : zeroL CC.P 5 = some [.lit (.int .u8 0)] := by kernel_rfl
  have hl : toLit x = none := by
    unfold isRow at h1
    split at h1
    · rfl
    · rfl
    · cases h1
  rw [cc]
  simp [body, code, ops1, step, isEff, quietB, calleeOf, effP, builtinStep, quiet, evArg, putT, Region.wanted, ofVal, ofCell, binP, litY, hl, cu, h2, cz, cc, fillP, partsOf, chunk, key', Try.f73, allSome, resV, tupV]
theorem clone75 : CloneOk CC 75 3 := by
  refine ⟨Try.f75, _, Try.func75, rfl, fun s => by kernel_rfl, fun s b o n => ⟨.mine 0, by kernel_rfl, Or.inr rfl⟩, fun s x r h1 h2 h3 h4 h5 => ?_⟩
  have key := app_new (P := Try.prog) (ts := #[29, 29]) (S := 29) (e := 3) (z := [.lit (.int .i64 0)]) rfl rfl (by kernel_rfl) (by kernel_rfl) (by kernel_rfl) (of_decide_eq_true (by kernel_rfl)) (of_decide_eq_true (by kernel_rfl)) h3 h4 h5
  have key' : appStep CC.P #[29, 29] (.sl 1 [] (.mine 0)) x s = some (.rf s.next 0 r.length none, s.new ⟨1, r, 0⟩) := key
  have cu : CC.P.underlying 29 = some (.slice 3) := by kernel_rfl
  have cc : CC.P.cellsOf 3 = 1 := by kernel_rfl
  have cz : zeroL CC.P 3 = some [.lit (.int .i64 0)] := by kernel_rfl
  have hl : toLit x = none := by
    unfold isRow at h1
    split at h1
    · rfl
    · rfl
    · cases h1
  rw [cc]
  simp [body, code, ops1, step, isEff, quietB, calleeOf, effP, builtinStep, quiet, evArg, putT, Region.wanted, ofVal, ofCell, binP, litY, hl, cu, h2, cz, cc, fillP, partsOf, chunk, key', Try.f75, allSome, resV, tupV]
noncomputable def z101 : List PV := (zeroL Try.prog 101).getD []
theorem z101_len : z101.length = 5 := by kernel_rfl
theorem clone107 : CloneOk CC 107 101 := by
  refine ⟨Try.f107, _, Try.func107, rfl, fun s => by kernel_rfl, fun s b o n => ⟨.mine 0, by kernel_rfl, Or.inr rfl⟩, fun s x r h1 h2 h3 h4 h5 => ?_⟩
  have key := app_new (P := Try.prog) (ts := #[56, 56]) (S := 56) (e := 101) (z := z101) rfl rfl (by kernel_rfl) (by kernel_rfl) (by kernel_rfl) (of_decide_eq_true (by kernel_rfl)) (of_decide_eq_true (by kernel_rfl)) h3 h4 h5
  have key' : appStep CC.P #[56, 56] (.sl 5 [] (.mine 0)) x s = some (.rf s.next 0 r.length none, s.new ⟨5, r, 0⟩) := key
  have cu : CC.P.underlying 56 = some (.slice 101) := by kernel_rfl
  have cc : CC.P.cellsOf 101 = 5 := by kernel_rfl
  have cz : zeroL CC.P 101 = some z101 := by kernel_rfl
  have hl : toLit x = none := by
    unfold isRow at h1
    split at h1
    · rfl
    · rfl
    · cases h1
  rw [cc]
  simp [body, code, ops1, step, isEff, quietB, calleeOf, effP, builtinStep, quiet, evArg, putT, Region.wanted, ofVal, ofCell, binP, litY, hl, cu, h2, cz, cc, fillP, partsOf, chunk, key', Try.f107, allSome, resV, tupV, z101_len]
theorem clone_tab {f : Nat} {t : TypeId} (h : CC.clone f = some t) : CloneOk CC f t := by
  have h : cloneT f = some t := h
  unfold cloneT at h
  split at h
  · cases h; exact clone73
  · cases h; exact clone75
  · cases h; exact clone107
  · cases h
theorem chk_all : (List.range CC.P.funcs.size).all (fun f => match CC.P.funcs[f]? with | some fn => (match fn.body with | some c => chkCode CC f c && !(fn.name == "runtime.NumGoroutine") | none => true) | none => true) = true := by kernel_rfl
theorem ccOk : CfgOk CC where
  toCfgBase := base_of (by kernel_rfl) chk_all
  ext := fun f fn g hf hb h s args v hv G w vargs hS hA => by
    have h : extT f = some g := h
    unfold extT at h
    split at h
    · cases h
      have e : fn = Try.f114 := Option.some.inj (hf.symm.trans Try.func114)
      subst e
      exact cmp_ok hf (by kernel_rfl) (by kernel_rfl) (by kernel_rfl) (by kernel_rfl) hv hS hA
    · cases h
  clone := fun f t h hz s args v s' hc G w vargs hS hA => clone_sound (base_of (by kernel_rfl) chk_all) (clone_tab h) hc hS hA
end Go.Proofs.Ythfplgfpodmphaa.VE
