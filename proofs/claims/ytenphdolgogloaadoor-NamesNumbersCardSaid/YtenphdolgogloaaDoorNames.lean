/- NamesNumbers: every error, limit and kind has the number that the document gives it: no condition. -/
import Derived.Test.YtenphdolgogloaaDoorProg
import Derived.Below
import Derived.Deep.Draws
import Derived.Deep.AppendLies
import Derived.Maps.AppendAt
import Derived.OwnWalk
import Derived.Laws.BytesArg
import Derived.Laws.MakeOwn
import Derived.Laws.OwnMore
import Derived.Deep.OwnRows
import Derived.Tactics
import Derived.Lib.ConvBytes
import Derived.Laws.Slices
import Derived.WalkKit
import Derived.KernelRfl
import Derived.RowKit3
import Derived.Deep.LoopGhost
import Derived.Deep.QuietTactic
import Derived.BigQuiet
import Derived.WideLaws
import Derived.Deep.DeepCutAuto
import Derived.Deep.CutBlock
import Derived.Deep.RegionHeld3
import Derived.Laws.Rows
import Derived.Lib.AppendStr
import Derived.ArgAppend
import Derived.Laws.IdiomCopy
import Derived.OrdersHeld
import Derived.Laws.BitsLemmas
import Derived.RowKit
import Derived.Test.YtenphdolgogloaaDoorWWords
import Derived.Test.YtenphdolgogloaaDoorWLast
import Derived.Test.YtenphdolgogloaaDoorWTab
import Derived.Test.YtenphdolgogloaaDoorWFour
import Derived.Test.YtenphdolgogloaaDoorWQPut
import Derived.Test.YtenphdolgogloaaDoorWApart
import Derived.Test.YtenphdolgogloaaDoorWArr
import Derived.Test.YtenphdolgogloaaDoorWZeros
import Derived.Test.YtenphdolgogloaaDoorWFoot
import Derived.Test.YtenphdolgogloaaDoorWKept
import Derived.Test.YtenphdolgogloaaDoorWShare
import Derived.Test.YtenphdolgogloaaDoorWN
import Derived.Test.YtenphdolgogloaaDoorWFootNe
import Derived.Test.YtenphdolgogloaaDoorWAt
import Derived.Test.YtenphdolgogloaaDoorWEqStruct
import Derived.Test.YtenphdolgogloaaDoorWRepsOne
import Derived.Test.YtenphdolgogloaaDoorWInv
import Derived.Test.YtenphdolgogloaaDoorWInvWords
import Derived.Test.YtenphdolgogloaaDoorWGuard
import Derived.Test.YtenphdolgogloaaDoorWNEv
import Derived.Test.YtenphdolgogloaaDoorWMore
import Derived.Outline
import Derived.Great.Walk
import Derived.Great.BuildSlice
import Derived.Lib.SlBytesConst
import Derived.WalkKit
import Derived.ProofKit
import Derived.LaidMore
import Derived.OpenShut
import Derived.Stop.Joined
import Derived.SevenTiedAt
import Derived.Below
import Derived.SizedLaws
import Derived.ChangeOld
import Derived.Test.YtenphdolgogloaaDoorRows
import Derived.Test.YtenphdolgogloaaDoorCards
import Derived.Test.YtenphdolgogloaaDoorTie
import Derived.Test.YtenphdolgogloaaDoorN1
import Derived.Test.YtenphdolgogloaaDoorN2
namespace Go.Proofs.YtenphdolgogloaaDoor.Na
open Go.RowKit Go.Proofs.YtenphdolgogloaaDoorW.PrintWords Go.Proofs.YtenphdolgogloaaDoorW.PrintLast Go.Proofs.YtenphdolgogloaaDoorW.PrintMore
attribute [local go_sem] max2_int min2_int max_two min_two max_three min_three max_four min_four
set_option linter.unusedVariables false
set_option linter.unusedSimpArgs false

theorem C_lits {w : World} {g e : Nat} {fr : Nat × Nat} {l : List Int} (h : w.heap[g]? = some (.cells (l.map (Value.int .u8)).toArray e fr)) (hm : l.length ≤ 9223372036854775807) : Kd.C (Kd.int .u8) w (some ⟨g, 0, none⟩) l.length l := by
  refine ⟨rfl, hm, fun _ => ⟨⟨g, 0, none⟩, rfl, fun j p hj => ⟨[.int .u8 p], rfl, rfl, fun i u hu => ?_⟩⟩⟩
  cases i with
  | zero =>
    obtain rfl := Option.some.inj hu
    have hc : ∀ k, w.cell? ⟨g, k, none⟩ = (l.map (Value.int .u8)).toArray[k]? := fun k => by unfold World.cell?; rw [h]; rfl
    rw [add_plain, hc]
    show (l.map (Value.int .u8)).toArray[j * 1 + 0]? = _
    rw [Nat.mul_one, Nat.add_zero, List.getElem?_toArray, List.getElem?_map, hj]
    rfl
  | succ i => simp at hu
def NI (w w' : World) : Prop := w'.heap[w.heap.size]? = some (.cells (rowOf numL).toArray 25 (0, 0)) ∧ Below w.heap.size w w'
theorem numL_len : numL.length = 64 := rfl
set_option maxHeartbeats 2000000 in
set_option maxRecDepth 100000 in
theorem names_calls (w : World) : Calls Tryd.prog 3 #[] w fun e w' => e = .returned (.bool true) ∧ Below w.heap.size w w' := by
  go_enter Tryd.func3, Tryd.ntmps3
  go_wp2_with fail
  refine (all4 w).mono ?_
  rintro e w1 ⟨rfl, hk, hb⟩
  have HI := Aside0.mk (show NI w w1 from ⟨hk, hb⟩)
  clear hk hb
  go_wp2_with fail
  go_loopw [2] (fun v2 w' => ∃ j : Nat, v2 = .int .i64 j ∧ j ≤ 64 ∧ Aside0 (NI w w')) (fun v2 _ => 64 - (intOf v2).toNat)
  case atStart => exact ⟨0, rfl, Nat.zero_le _, HI⟩
  case round =>
    clear HI
    obtain ⟨j, rfl, hj, HI⟩ := hrel
    by_cases hj6 : j < 64
    · obtain ⟨r1, r2⟩ := row_at numL j (by rw [numL_len]; exact hj6)
      have hc : ∀ k, wr.cell? ⟨w.heap.size, k, none⟩ = (rowOf numL)[k]? := fun k => by unfold World.cell?; rw [HI.out.1]; exact List.getElem?_toArray
      have c0 := (hc (j * 2)).trans r1
      have c1 := (hc (j * 2 + 1)).trans r2
      generalize numL[j]'(by rw [numL_len]; exact hj6) = a at c0 c1
      have HI2 := Aside0.mk (show NI w wr.drew from ⟨HI.out.1, below_drew1 HI.out.2⟩)
      clear r1 r2 hc HI
      go_wp2_with fail
      go_region
      go_wp2
      go_roundw
      case rel => exact ⟨j + 1, by go_num, by omega, HI2⟩
      case measure => simp [intOf]; omega
    · have HB := Aside0.mk HI.out.2
      clear HI
      go_wp2_with fail
      refine (error5 _).mono ?_
      rintro e w2 ⟨rfl, hb2⟩
      have HB2 := Aside0.mk (below_then HB.out HB.out.size hb2)
      clear hb2
      have kc := fun (w : World) (C : Array Value) (n c : Nat) => Lib.run_convert_bytes_const (P := Tryd.prog) w 30 5 C n c Tryd.underlying30 Tryd.underlying5
      go_wp2_with fail
      clear kc
      have hC : Kd.C (Kd.int .u8) (w2.alloc (.cells #[.int .u8 49, .int .u8 50, .int .u8 51, .int .u8 52, .int .u8 53, .int .u8 54, .int .u8 55, .int .u8 56, .int .u8 57] 5 (9, 10))) (some ⟨w2.heap.size, 0, none⟩) 9 [49, 50, 51, 52, 53, 54, 55, 56, 57] := C_lits (l := [49, 50, 51, 52, 53, 54, 55, 56, 57]) (heap_alloc_self _ _) (by decide)
      refine (crcs_Sum.calls 50 _ 9 [49, 50, 51, 52, 53, 54, 55, 56, 57] 3421780262 _ hC (Nat.le_refl 9) sum9).mono ?_
      rintro e w3 ⟨rfl, nd, rfl⟩
      have HB3 := Aside0.mk (below_alloc HB2.out (.cells #[.int .u8 49, .int .u8 50, .int .u8 51, .int .u8 52, .int .u8 53, .int .u8 54, .int .u8 55, .int .u8 56, .int .u8 57] 5 (9, 10)))
      clear hC
      go_wp2_with fail
      go_ret
      exact ⟨rfl, pw_below_drewN HB3.out _⟩
end Go.Proofs.YtenphdolgogloaaDoor.Na
namespace Go.Proofs.YtenphdolgogloaaDoor
open Go.ChangeShapes Go.WideShapes Go.ChangeAt Go.RowKit
theorem own : ownKnob Tryd.prog.godebug = none := by kernel_rfl
def laid3 {H : Type} : List (String × DataW H) := [("math/bits.deBruijn32tab", Rows.laid_math_bits_deBruijn32tab), ("math/bits.deBruijn64tab", Rows.laid_math_bits_deBruijn64tab), ("internal/strconv.uint64pow10", Rows.laid_internal_strconv_uint64pow10)]
theorem door_met (os : Os) (args : Array Value) : laidMetH Tryd.prog laid3 ((World.doorLaid Tryd.prog 400 os).forCall (fun _ _ => 0) ⟨#[], args, []⟩).memory :=
  laidMetH_of_parts3 (fuel := 8) (laidMet_of_run' 8 (by kernel_rfl) (by kernel_rfl)) (by kernel_rfl) (by kernel_rfl)
set_option maxRecDepth 100000 in
theorem lifted (os : Os) (started : os.Started) (H : Type) (enc : TypeId × Value → H) :
    ReturnsInHanded {} Tryd.checked os 3 .any (fun w args => (Rows.namesNumbersSpec.pre enc Tryd.prog Tryd.f3 [] false w args ∧ laidMetH Tryd.prog laid3 w) ∧ sizedMet enc Tryd.prog Tryd.f3 (OpenSpec.ofChange Rows.namesNumbersSpec) false w args)
      (Rows.namesNumbersSpec.post enc Tryd.prog Tryd.f3 false true false false) := by
  refine returnsInHanded_of_change_and (C := Tryd.checked) (X := fun w _ => laidMetH Tryd.prog laid3 w) (fun _ _ _ hh h => h.of_heap hh) own started (by kernel_rfl) Tryd.func3
    (ChangeSpec.witness_shaped (enc := enc) (C := Tryd.checked) (os := os) (X := fun w _ => laidMetH Tryd.prog laid3 w) false (World.doorLaid Tryd.prog 400 os) #[] 8 rfl (World.shaped_of_RefB (by kernel_rfl) (by kernel_rfl)) (by kernel_rfl) (by kernel_rfl) (by kernel_rfl) (door_met os _)) ?_
  intro W base args ds gs before hval0 hW _ _ hL _
  have hW' := hW
  obtain ⟨p, q, hA0, hV, rfl, hfz, hnd⟩ := hW
  have hA : DataW.TrodAll enc Tryd.prog W 0 (fun _ => true) true Tryd.f3.params.toList args.toList ds p := hA0
  rw [Tryd.params3] at hA
  obtain ⟨hargs, rfl, rfl⟩ := trodAll_nil hA
  obtain rfl : args = #[] := by cases args; simp_all
  obtain ⟨rfl, rfl⟩ := trodVars_none hV
  clear hA0 hval0
  refine (Na.names_calls W).mono fun e W' ⟨he, bel⟩ => ?_
  subst he
  exact ⟨_, rfl, _, _, _, [], _, [], hW', trodAll_mk1 (shut_bool Tryd.underlying4 _), trodAll_mk0, rfl, bel.frame _, fun h => by cases h⟩
theorem row_holds : Rows.NamesNumbersSaid :=
  OpenClaim.holds_of_wide 3 Tryd.f3 rfl rfl rfl rfl rfl rfl rfl ⟨rfl, rfl, rfl, rfl, rfl⟩ rfl rfl rfl rfl rfl (by kernel_rfl) Tryd.func3 (by kernel_rfl)
    (of_decide_eq_true (by kernel_rfl)) (by unfold Func.isWrapper; first | (rw [if_pos (by decide +kernel)]; kernel_rfl) | (rw [if_neg (by decide +kernel)]; exact ⟨rfl, rfl⟩))
    (fun os started H enc _ => lifted os started H enc)
theorem namesNumbers_holds : Rows.NamesNumbersCardSaid :=
  Claim7.holds_tied_plain_at .later [] [.data, .data, .data] true (true, "3f90046ee71371b42918ef40753e7a78405d3878ee8eb1c4c2db924549939010") false
    row_holds (fun _ h => by cases h) (by kernel_rfl) (fun _ h => by cases h) namesNumbers_row_tie rfl ⟨rfl, rfl⟩ (by kernel_rfl) rfl
    (fun f fn hf hfn => by
      obtain rfl : f = 3 := Option.some.inj ((show Tryd.prog.funcNamed "hocket/hocketlaw0.NamesNumbers" = some 3 by kernel_rfl).symm.trans hf) |>.symm
      obtain rfl : fn = Tryd.f3 := (Option.some.inj (Tryd.func3.symm.trans hfn)).symm
      exact ⟨by kernel_rfl, fun j t ht => by
        rw [Tryd.params3] at ht
        simp at ht⟩)
    (by kernel_rfl)
end Go.Proofs.YtenphdolgogloaaDoor
