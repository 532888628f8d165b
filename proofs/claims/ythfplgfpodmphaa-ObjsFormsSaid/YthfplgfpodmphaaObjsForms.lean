/- ObjsForms: each command of a table is answered as the table says: for every whole number, with no condition. -/
import Derived.Lib.SliceRun
import Derived.Outline
import Derived.Test.YthfplgfpodmphaaRows
import Derived.WalkKit
import Derived.ProofKit
import Derived.OpenShut
import Derived.ShutString
import Derived.ChangeOld
import Derived.Below
import Derived.SizedLaws
import Derived.Deep.Matrix
import Derived.StringKeys
import Derived.Laws.Cover1
import Derived.Test.YthfplgfpodmphaaVR0
import Derived.Test.YthfplgfpodmphaaVR1
import Derived.Test.YthfplgfpodmphaaVR2
import Derived.Test.YthfplgfpodmphaaVR3
namespace Go.Proofs.Ythfplgfpodmphaa.VE.B3
theorem each (n : Int) (k : Nat) (h : k < 24) : saysTrue (t3 n k) = true := by
  match k, h with
  | 0, _ => exact k0 n
  | 1, _ => exact k1 n
  | 2, _ => exact k2 n
  | 3, _ => exact k3 n
  | 4, _ => exact k4 n
  | 5, _ => exact k5 n
  | 6, _ => exact k6 n
  | 7, _ => exact k7 n
  | 8, _ => exact k8 n
  | 9, _ => exact k9 n
  | 10, _ => exact k10 n
  | 11, _ => exact k11 n
  | 12, _ => exact k12 n
  | 13, _ => exact k13 n
  | 14, _ => exact k14 n
  | 15, _ => exact k15 n
  | 16, _ => exact k16 n
  | 17, _ => exact k17 n
  | 18, _ => exact k18 n
  | 19, _ => exact k19 n
  | 20, _ => exact k20 n
  | 21, _ => exact k21 n
  | 22, _ => exact k22 n
  | 23, _ => exact k23 n
  | k + 24, h => omega
theorem calls (n : Int) (w : World) : Calls Try.prog 3 #[.int .i64 n] w fun e w' => e = .returned (.bool true) ∧ Go.RowKit.Below w.heap.size w w' := by
  obtain ⟨s, h⟩ := all each n
  rw [r_eq] at h
  have hb := body_calls (w := w) ccOk Try.func3 c_eq h (vargs := [.int .i64 n]) (by simp only [VRl, VR]; exact ⟨_, _, rfl, rfl, rfl⟩)
  refine hb.mono fun e w' ⟨y, h1, h2, G', h3⟩ => ?_
  simp only [VR] at h3
  subst h3
  exact ⟨h1, h2⟩
end Go.Proofs.Ythfplgfpodmphaa.VE.B3
namespace Go.Proofs.Ythfplgfpodmphaa.objsForms
open Go.ChangeShapes Go.WideShapes Go.ChangeAt Go.RowKit
open Go.ChangeMaps (open_string shut_string)
theorem own : ownKnob Try.prog.godebug = none := by kernel_rfl
theorem laidOut : laidOutB Try.prog = true := by kernel_rfl
def IsRow (k : IntKind) (w : World) (a : Option Addr) (len cap : Nat) (zs : List Int) : Prop :=
  (a = none ∧ len = 0 ∧ cap = 0 ∧ zs = []) ∨
  ∃ x, a = some x ∧ len ≤ cap ∧ cap ≤ maxLen ∧ zs.length = cap ∧ (∀ i, i < zs.length → w.cell? (x.add i) = some (.int k (zs.getD i 0))) ∧ ∀ n ∈ zs, (Lit.int k n).wf = true
set_option maxRecDepth 100000 in
theorem lifted (os : Os) (started : os.Started) (H : Type) (enc : TypeId × Value → H) :
    ReturnsInHanded {} Try.checked os 3 .any (Rows.objsFormsSpec.pre6 enc Try.prog Try.f3 Rows.objsFormsRow.domain false) (Rows.objsFormsSpec.post enc Try.prog Try.f3 false true false false) := by
  refine returnsInHanded_of_change_sized (C := Try.checked) own started (by kernel_rfl) Try.func3
    (ChangeSpec.witness6 (enc := enc) (C := Try.checked) false ⟨#[], #[.int .i64 0], []⟩ 8 (by kernel_rfl) (by kernel_rfl) (by kernel_rfl) (by kernel_rfl)) ?_
  intro W base args ds gs before hval0 hW hcnd hsz0 _
  have hsz : (DataW.weightsEach Try.prog (Try.f3.params.toList ++ Rows.objsFormsSpec.plain.varTypes Try.prog) (ds ++ gs)).all (· ≤ reachBytes) = true := hsz0
  have hval : ∀ (j : Nat) t v, Try.f3.params[j]? = some t → args[j]? = some v → Value.okWide Try.prog W .any base t v := hval0
  have hW' := hW
  obtain ⟨p, q, hA0, hV, rfl, hfz, hnd⟩ := hW
  have hA : DataW.TrodAll enc Try.prog W 0 (fun _ => true) true Try.f3.params.toList args.toList ds p := hA0
  rw [Try.params3] at hA hval hsz
  obtain ⟨v0, vs0, d0, ds0, p0, q0, hargs, rfl, rfl, h0, r0⟩ := trodAll_cons hA
  obtain ⟨rfl, rfl, rfl⟩ := trodAll_nil r0
  obtain rfl : args = #[v0] := by cases args; simp_all
  obtain ⟨rfl, rfl⟩ := trodVars_none hV
  obtain ⟨a0, rfl, rfl, rfl, w0⟩ := open_int Try.underlying3 (hval 0 3 v0 rfl rfl) h0
  clear hA0 hval0 hsz0 hsz
  refine (VE.B3.calls a0 W).mono fun e W' ⟨he, bel⟩ => ?_
  subst he
  exact ⟨_, rfl, _, _, _, [], _, [], hW', trodAll_mk1 (shut_bool Try.underlying4 _), (trodAll_cons_mk (shut_int Try.underlying3 w0) trodAll_mk0), rfl, bel.frame _, fun h => by cases h⟩
theorem over : Rows.objsFormsRow.holds Try.pinned (OpenSpec.ofChange Rows.objsFormsSpec) :=
  OpenClaim.holds_of_wide 3 Try.f3 rfl rfl rfl rfl rfl rfl rfl ⟨rfl, rfl, rfl, rfl, rfl⟩ rfl rfl rfl rfl rfl (by kernel_rfl) Try.func3 (by kernel_rfl)
    (of_decide_eq_true (by kernel_rfl)) (by unfold Func.isWrapper; first | (rw [if_pos (by decide +kernel)]; kernel_rfl) | (rw [if_neg (by decide +kernel)]; exact ⟨rfl, rfl⟩))
    (fun os started H enc _ => lifted os started H enc)
theorem proved : Rows.ObjsFormsSaid := over
end Go.Proofs.Ythfplgfpodmphaa.objsForms
namespace Go.Proofs.Ythfplgfpodmphaa
/-- The row, under a short name, for the claim. -/
theorem objsForms_holds : Rows.ObjsFormsSaid := objsForms.proved
end Go.Proofs.Ythfplgfpodmphaa
