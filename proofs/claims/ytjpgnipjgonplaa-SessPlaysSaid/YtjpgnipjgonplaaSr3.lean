/- What the document's own answer for sessions does, walked (print.sh's blocks, joined with this claim's kinds). -/
import Derived.Test.YtjpgnipjgonplaaProg
import Derived.Below
import Derived.Deep.Draws
import Derived.Deep.AppendLies
import Derived.Maps.AppendAt
import Derived.OwnWalk
import Derived.Laws.BytesArg
import Derived.Laws.MakeOwn
import Derived.Laws.OwnMore
import Derived.Deep.OwnRows
import Derived.Tactics
import Derived.Lib.ConvBytes
import Derived.Laws.Slices
import Derived.WalkKit
import Derived.KernelRfl
import Derived.RowKit3
import Derived.Deep.LoopGhost
import Derived.Deep.QuietTactic
import Derived.BigQuiet
import Derived.WideLaws
import Derived.Deep.DeepCutAuto
import Derived.Deep.CutBlock
import Derived.Deep.RegionHeld3
import Derived.Laws.Rows
import Derived.Lib.AppendStr
import Derived.ArgAppend
import Derived.Laws.IdiomCopy
import Derived.OrdersHeld
import Derived.Laws.BitsLemmas
import Derived.RowKit
import Derived.Test.YtjpgnipjgonplaaWWords
import Derived.Test.YtjpgnipjgonplaaWLast
import Derived.Test.YtjpgnipjgonplaaWTab
import Derived.Test.YtjpgnipjgonplaaWFour
import Derived.Test.YtjpgnipjgonplaaWQPut
import Derived.Test.YtjpgnipjgonplaaWApart
import Derived.Test.YtjpgnipjgonplaaWArr
import Derived.Test.YtjpgnipjgonplaaWZeros
import Derived.Test.YtjpgnipjgonplaaWFoot
import Derived.Test.YtjpgnipjgonplaaWKept
import Derived.Test.YtjpgnipjgonplaaWShare
import Derived.Test.YtjpgnipjgonplaaWN
import Derived.Test.YtjpgnipjgonplaaWFootNe
import Derived.Test.YtjpgnipjgonplaaWAt
import Derived.Test.YtjpgnipjgonplaaWEqStruct
import Derived.Test.YtjpgnipjgonplaaWRepsOne
import Derived.Test.YtjpgnipjgonplaaWInv
import Derived.Test.YtjpgnipjgonplaaWInvWords
import Derived.Test.YtjpgnipjgonplaaWGuard
import Derived.Test.YtjpgnipjgonplaaWNEv
import Derived.Test.YtjpgnipjgonplaaWMore
import Derived.Test.YtjpgnipjgonplaaSr
namespace Go.Proofs.Ytjpgnipjgonplaa.Ss
open Go.RowKit Go.Proofs.YtjpgnipjgonplaaW.PrintWords Go.Proofs.YtjpgnipjgonplaaW.PrintLast Go.Proofs.YtjpgnipjgonplaaW.PrintMore
attribute [local go_sem] max2_int min2_int max_two min_two max_three min_three max_four min_four
set_option linter.unusedVariables false
set_option linter.unusedSimpArgs false
attribute [local go_sem] max2_int min2_int max_two min_two max_three min_three max_four min_four   -- for this text's walks alone
set_option linter.unusedVariables false
set_option linter.unusedSimpArgs false

/-! ### hocketref4_PutLast: function 13 -/
def hocketref4_PutLast.f (k : Nat) (l0 : List (S31)) (a1 : Int) (a2 : Int) (a3_0 : Int) (l3_1 : List Int) (a3_2 : Int) : Option ((List (S31))) := (hocketref4_table.f k l0).bind fun t335 => ((hocketref4_at.f k l0 a1).bind fun t338 => ((hocketref4_result.f a3_0 l3_1 a3_2).bind fun bt339 => (if t338 < (t335.length : Int) then (if 0 ≤ t338 then (if ((rd_T31 t335 t338).f0) = a1 then (some (t335.set (t338 : Int).toNat (⟨a1, a2, (⟨bt339.1, bt339.2.1, bt339.2.2⟩ : S26)⟩ : S31))) else ((some (([] : List (S31)) : List (S31))).bind fun y347 => (if t338 ≤ (t335.length : Int) then ((some (t335.take (t338 : Int).toNat : List (S31))).bind fun y350 => (if y347.length + y350.length < 2513169434916 then ((some (y347 ++ y350 : List (S31))).bind fun y355 => ((some (([(⟨a1, a2, (⟨bt339.1, bt339.2.1, bt339.2.2⟩ : S26)⟩ : S31)] : List (S31)) : List (S31))).bind fun y358 => (if y355.length + y358.length < 2513169434916 then ((some (y355 ++ y358 : List (S31))).bind fun y361 => ((some (t335.drop (t338 : Int).toNat : List (S31))).bind fun y364 => (if y361.length + y364.length < 2513169434916 then (some (y361 ++ y364)) else (none)))) else (none)))) else (none))) else (none)))) else (none)) else ((some (([] : List (S31)) : List (S31))).bind fun y372 => (if 0 ≤ t338 then (if t338 ≤ (t335.length : Int) then ((some (t335.take (t338 : Int).toNat : List (S31))).bind fun y375 => (if y372.length + y375.length < 2513169434916 then ((some (y372 ++ y375 : List (S31))).bind fun y380 => ((some (([(⟨a1, a2, (⟨bt339.1, bt339.2.1, bt339.2.2⟩ : S26)⟩ : S31)] : List (S31)) : List (S31))).bind fun y383 => (if y380.length + y383.length < 2513169434916 then ((some (y380 ++ y383 : List (S31))).bind fun y386 => ((some (t335.drop (t338 : Int).toNat : List (S31))).bind fun y389 => (if y386.length + y389.length < 2513169434916 then (some (y386 ++ y389)) else (none)))) else (none)))) else (none))) else (none)) else (none))))))
theorem hocketref4_PutLast.mono : ∀ a0 a1 a2 a3 a4 a5 k, LeO (hocketref4_PutLast.f k a0 a1 a2 a3 a4 a5) (hocketref4_PutLast.f (k + 1) a0 a1 a2 a3 a4 a5) := by
  intro a0 a1 a2 a3 a4 a5 k
  unfold hocketref4_PutLast.f
  repeat' first
      | (with_reducible exact hocketref4_at.mono _ _ _)
      | (with_reducible exact hocketref4_table.mono _ _)
      | (with_reducible exact LeO.refl _)
      | (with_reducible exact LeO.none _)
      | (with_reducible refine LeO.ite ?_ ?_)
      | (with_reducible refine LeO.bind ?_ (fun _ => ?_))
      | exact hocketref4_at.mono _ _ _
      | exact hocketref4_table.mono _ _
      | exact LeO.none _
      | refine LeO.ite ?_ ?_
      | refine LeO.bind ?_ (fun _ => ?_)
def hocketref4_PutLast.T7 : Bool × List (List Nat × List Nat) := (true, [([], []), ([], []), ([], []), ([1, 2], [1, 2]), ([0, 3], [0, 3]), ([], []), ([5], [5]), ([4, 6, 4], [4, 6]), ([], []), ([], []), ([8, 9], [8, 9]), ([7, 10, 7], [7, 10]), ([11, 11, 0, 1, 2, 3, 4, 5, 6, 7, 8, 9, 10, 11], [11])])
def hocketref4_PutLast.B7 : List Nat := [0, 0, 0, 6, 15, 0, 32, 127, 0, 0, 768, 2047, 4095]
theorem hocketref4_PutLast.tab7 : rtab .any (opsOf Try.f13 7) = hocketref4_PutLast.T7 := by kernel_rfl
theorem hocketref4_PutLast.bits7 : waitsOk hocketref4_PutLast.T7.2 hocketref4_PutLast.B7 = true := by kernel_rfl
set_option maxHeartbeats 8000000 in
set_option maxRecDepth 100000 in
theorem hocketref4_PutLast.calls (k : Nat) (A0 : Option Addr) (c0 : Nat) (l0 : List (S31)) (a1 : Int) (a2 : Int) (a3_0 : Int) (A3_1 : Option Addr) (c3_1 : Nat) (l3_1 : List Int) (a3_2 : Int) (r : List (S31)) (w : World) (hr0 : Kd.C k31 w A0 l0.length l0) (hc0 : l0.length ≤ c0) (hr3_1 : Kd.C (Kd.int .u8) w A3_1 l3_1.length l3_1) (hc3_1 : l3_1.length ≤ c3_1) (h : hocketref4_PutLast.f k l0 a1 a2 a3_0 l3_1 a3_2 = some r) :
    Calls Try.prog 13 #[.slice A0 l0.length c0, .int .i64 a1, .int .i64 a2, .agg #[.int .i64 a3_0, .slice A3_1 l3_1.length c3_1, .int .i64 a3_2]] w fun e w' => ∃ v0_ : Value, e = .returned (v0_) ∧ Kd.N k31 31 w' w.heap.size (fun k_ => (w.heap.size ≤ k_)) v0_ r ∧ Below w.heap.size w w' := by
  have hu26 := Try.underlying26
  have hu31 := Try.underlying31
  have HR0 := Aside0.mk hr0
  have HC0 := Aside0.mk hc0
  clear hr0 hc0
  have HR3_1 := Aside0.mk hr3_1
  have HC3_1 := Aside0.mk hc3_1
  clear hr3_1 hc3_1
  have HB := Aside0.mk (Below.refl w.heap.size w)
  have H : ((hocketref4_table.f k l0).bind fun t335 => ((hocketref4_at.f k l0 a1).bind fun t338 => ((hocketref4_result.f a3_0 l3_1 a3_2).bind fun bt339 => (if t338 < (t335.length : Int) then (if 0 ≤ t338 then (if ((rd_T31 t335 t338).f0) = a1 then (some (t335.set (t338 : Int).toNat (⟨a1, a2, (⟨bt339.1, bt339.2.1, bt339.2.2⟩ : S26)⟩ : S31))) else ((some (([] : List (S31)) : List (S31))).bind fun y347 => (if t338 ≤ (t335.length : Int) then ((some (t335.take (t338 : Int).toNat : List (S31))).bind fun y350 => (if y347.length + y350.length < 2513169434916 then ((some (y347 ++ y350 : List (S31))).bind fun y355 => ((some (([(⟨a1, a2, (⟨bt339.1, bt339.2.1, bt339.2.2⟩ : S26)⟩ : S31)] : List (S31)) : List (S31))).bind fun y358 => (if y355.length + y358.length < 2513169434916 then ((some (y355 ++ y358 : List (S31))).bind fun y361 => ((some (t335.drop (t338 : Int).toNat : List (S31))).bind fun y364 => (if y361.length + y364.length < 2513169434916 then (some (y361 ++ y364)) else (none)))) else (none)))) else (none))) else (none)))) else (none)) else ((some (([] : List (S31)) : List (S31))).bind fun y372 => (if 0 ≤ t338 then (if t338 ≤ (t335.length : Int) then ((some (t335.take (t338 : Int).toNat : List (S31))).bind fun y375 => (if y372.length + y375.length < 2513169434916 then ((some (y372 ++ y375 : List (S31))).bind fun y380 => ((some (([(⟨a1, a2, (⟨bt339.1, bt339.2.1, bt339.2.2⟩ : S26)⟩ : S31)] : List (S31)) : List (S31))).bind fun y383 => (if y380.length + y383.length < 2513169434916 then ((some (y380 ++ y383 : List (S31))).bind fun y386 => ((some (t335.drop (t338 : Int).toNat : List (S31))).bind fun y389 => (if y386.length + y389.length < 2513169434916 then (some (y386 ++ y389)) else (none)))) else (none)))) else (none))) else (none)) else (none))))))) = some r := h
  clear h
  replace H := Option.bind_eq_some_iff.mp H
  obtain ⟨t335, A50, H⟩ := H
  replace H : ((hocketref4_at.f k l0 a1).bind fun t338 => ((hocketref4_result.f a3_0 l3_1 a3_2).bind fun bt339 => (if t338 < (t335.length : Int) then (if 0 ≤ t338 then (if ((rd_T31 t335 t338).f0) = a1 then (some (t335.set (t338 : Int).toNat (⟨a1, a2, (⟨bt339.1, bt339.2.1, bt339.2.2⟩ : S26)⟩ : S31))) else ((some (([] : List (S31)) : List (S31))).bind fun y347 => (if t338 ≤ (t335.length : Int) then ((some (t335.take (t338 : Int).toNat : List (S31))).bind fun y350 => (if y347.length + y350.length < 2513169434916 then ((some (y347 ++ y350 : List (S31))).bind fun y355 => ((some (([(⟨a1, a2, (⟨bt339.1, bt339.2.1, bt339.2.2⟩ : S26)⟩ : S31)] : List (S31)) : List (S31))).bind fun y358 => (if y355.length + y358.length < 2513169434916 then ((some (y355 ++ y358 : List (S31))).bind fun y361 => ((some (t335.drop (t338 : Int).toNat : List (S31))).bind fun y364 => (if y361.length + y364.length < 2513169434916 then (some (y361 ++ y364)) else (none)))) else (none)))) else (none))) else (none)))) else (none)) else ((some (([] : List (S31)) : List (S31))).bind fun y372 => (if 0 ≤ t338 then (if t338 ≤ (t335.length : Int) then ((some (t335.take (t338 : Int).toNat : List (S31))).bind fun y375 => (if y372.length + y375.length < 2513169434916 then ((some (y372 ++ y375 : List (S31))).bind fun y380 => ((some (([(⟨a1, a2, (⟨bt339.1, bt339.2.1, bt339.2.2⟩ : S26)⟩ : S31)] : List (S31)) : List (S31))).bind fun y383 => (if y380.length + y383.length < 2513169434916 then ((some (y380 ++ y383 : List (S31))).bind fun y386 => ((some (t335.drop (t338 : Int).toNat : List (S31))).bind fun y389 => (if y386.length + y389.length < 2513169434916 then (some (y386 ++ y389)) else (none)))) else (none)))) else (none))) else (none)) else (none)))))) = some r := H
  have A5 := Aside0.mk A50
  clear A50
  replace H := Option.bind_eq_some_iff.mp H
  obtain ⟨t338, A60, H⟩ := H
  replace H : ((hocketref4_result.f a3_0 l3_1 a3_2).bind fun bt339 => (if t338 < (t335.length : Int) then (if 0 ≤ t338 then (if ((rd_T31 t335 t338).f0) = a1 then (some (t335.set (t338 : Int).toNat (⟨a1, a2, (⟨bt339.1, bt339.2.1, bt339.2.2⟩ : S26)⟩ : S31))) else ((some (([] : List (S31)) : List (S31))).bind fun y347 => (if t338 ≤ (t335.length : Int) then ((some (t335.take (t338 : Int).toNat : List (S31))).bind fun y350 => (if y347.length + y350.length < 2513169434916 then ((some (y347 ++ y350 : List (S31))).bind fun y355 => ((some (([(⟨a1, a2, (⟨bt339.1, bt339.2.1, bt339.2.2⟩ : S26)⟩ : S31)] : List (S31)) : List (S31))).bind fun y358 => (if y355.length + y358.length < 2513169434916 then ((some (y355 ++ y358 : List (S31))).bind fun y361 => ((some (t335.drop (t338 : Int).toNat : List (S31))).bind fun y364 => (if y361.length + y364.length < 2513169434916 then (some (y361 ++ y364)) else (none)))) else (none)))) else (none))) else (none)))) else (none)) else ((some (([] : List (S31)) : List (S31))).bind fun y372 => (if 0 ≤ t338 then (if t338 ≤ (t335.length : Int) then ((some (t335.take (t338 : Int).toNat : List (S31))).bind fun y375 => (if y372.length + y375.length < 2513169434916 then ((some (y372 ++ y375 : List (S31))).bind fun y380 => ((some (([(⟨a1, a2, (⟨bt339.1, bt339.2.1, bt339.2.2⟩ : S26)⟩ : S31)] : List (S31)) : List (S31))).bind fun y383 => (if y380.length + y383.length < 2513169434916 then ((some (y380 ++ y383 : List (S31))).bind fun y386 => ((some (t335.drop (t338 : Int).toNat : List (S31))).bind fun y389 => (if y386.length + y389.length < 2513169434916 then (some (y386 ++ y389)) else (none)))) else (none)))) else (none))) else (none)) else (none))))) = some r := H
  have A6 := Aside0.mk A60
  clear A60
  replace H := Option.bind_eq_some_iff.mp H
  obtain ⟨⟨t339, t340, t343⟩, A70, H⟩ := H
  replace H : (if t338 < (t335.length : Int) then (if 0 ≤ t338 then (if ((rd_T31 t335 t338).f0) = a1 then (some (t335.set (t338 : Int).toNat (⟨a1, a2, (⟨t339, t340, t343⟩ : S26)⟩ : S31))) else ((some (([] : List (S31)) : List (S31))).bind fun y347 => (if t338 ≤ (t335.length : Int) then ((some (t335.take (t338 : Int).toNat : List (S31))).bind fun y350 => (if y347.length + y350.length < 2513169434916 then ((some (y347 ++ y350 : List (S31))).bind fun y355 => ((some (([(⟨a1, a2, (⟨t339, t340, t343⟩ : S26)⟩ : S31)] : List (S31)) : List (S31))).bind fun y358 => (if y355.length + y358.length < 2513169434916 then ((some (y355 ++ y358 : List (S31))).bind fun y361 => ((some (t335.drop (t338 : Int).toNat : List (S31))).bind fun y364 => (if y361.length + y364.length < 2513169434916 then (some (y361 ++ y364)) else (none)))) else (none)))) else (none))) else (none)))) else (none)) else ((some (([] : List (S31)) : List (S31))).bind fun y372 => (if 0 ≤ t338 then (if t338 ≤ (t335.length : Int) then ((some (t335.take (t338 : Int).toNat : List (S31))).bind fun y375 => (if y372.length + y375.length < 2513169434916 then ((some (y372 ++ y375 : List (S31))).bind fun y380 => ((some (([(⟨a1, a2, (⟨t339, t340, t343⟩ : S26)⟩ : S31)] : List (S31)) : List (S31))).bind fun y383 => (if y380.length + y383.length < 2513169434916 then ((some (y380 ++ y383 : List (S31))).bind fun y386 => ((some (t335.drop (t338 : Int).toNat : List (S31))).bind fun y389 => (if y386.length + y389.length < 2513169434916 then (some (y386 ++ y389)) else (none)))) else (none)))) else (none))) else (none)) else (none)))) = some r := H
  have A7 := Aside0.mk A70
  clear A70
  by_cases c8 : t338 < (t335.length : Int)
  · rw [if_pos c8] at H
    have c8b0 : decide (t338 < (t335.length : Int)) = true := decide_eq_true c8
    clear c8
    by_cases c9 : 0 ≤ t338
    · rw [if_pos c9] at H
      have c9b0 : decide (0 ≤ t338) = true := decide_eq_true c9
      clear c9
      by_cases c10 : ((rd_T31 t335 t338).f0) = a1
      · rw [if_pos c10] at H
        have c10b0 : (((rd_T31 t335 t338).f0) == a1) = true := beq_iff_eq.mpr c10
        have c10b1 : (((rd_T31 t335 t338).f0) != a1) = false := bne_eq_false_iff_eq.mpr c10
        clear c10
        obtain ⟨y346, hy346⟩ : ∃ y_ : List (S31), y_ = (t335.set (t338 : Int).toNat (⟨a1, a2, (⟨t339, t340, t343⟩ : S26)⟩ : S31)) := ⟨_, rfl⟩
        replace H : (some y346) = some r := by first | (rw [hy346]; with_reducible exact H) | (have H2_ := (Option.bind_some _ _).symm.trans H; rw [hy346]; with_reducible exact H2_) | (have H2_ := (Option.bind_some _ _).symm.trans H; with_reducible exact H2_) | with_reducible exact H | (rw [hy346]; exact H) | exact H
        have Ny346 := Aside0.mk hy346
        clear hy346
        obtain rfl := Option.some.inj H
        go_enter Try.func13, Try.ntmps13
        go_wp2_with (first | ((with_reducible refine gate_dst (N := 7) rfl ?_); refine box_event ?hg (N := 7) ?hd (cs := #[.int .i64 a3_0, .slice A3_1 l3_1.length c3_1, .int .i64 a3_2]) (t := 26) ?hr ?_; (case hd => rfl); (case hg => rfl); (case hr => first | (go_simp; done) | (go_simp; rfl)); intro gb334 hg w12 hbox hb; have n0_ := Aside0.mk (below_step (by repeat (first | (with_reducible first | exact HB.out | apply below_alloc | apply pw_below_drewN | apply below_drew1) | exact HB.out)) hb); have n1_ := Aside0.mk (hbox); have n2_ := Aside0.mk ((by rw [hg]; exact (below_size (by repeat (first | (with_reducible first | exact HB.out | apply below_alloc | apply pw_below_drewN | apply below_drew1) | exact HB.out))) : w.heap.size ≤ gb334)); have n3_ := Aside0.mk ((by rw [hg]; exact (below_size (by repeat (first | (with_reducible first | exact HB.out | apply below_alloc | apply pw_below_drewN | apply below_drew1) | exact HB.out))) : w.heap.size ≤ gb334)); clear HB; have HB := n0_; have BK334 := n1_; have GW334 := n2_; have GE334 := n3_; clear n0_ n1_ n2_ n3_; clear hb hbox hg) | ((with_reducible refine gate_callee (f := 24) rfl ?_); refine goesL_ (some 13) rfl rfl Try.func24 (by kernel_rfl) rfl #[.slice A0 l0.length c0] rfl (by (try simp only [List.map_toArray, List.map_cons, List.map_nil]); first | done | rfl | (simp only [List.length_drop, List.length_take]; rfl)) ?_; (with_reducible refine (hocketref4_table.calls k _ _ l0 t335 _ ?side1 ?side2 A5.out).mono ?_); (case side1 => repeat (first | exact (Kd.C_below HR0.out HB.out) | (with_reducible refine Kd.C_alloc ?_ _) | (with_reducible refine Kd.C_drewN ?_ _) | (with_reducible refine Kd.C_drew ?_))); (case side2 => exact HC0.out); rintro e w13 ⟨v336, rfl, ho0, hb⟩; refine ⟨_, rfl, ?_⟩; have n0_ := Aside0.mk (Kd.N_lower (Kd.N_mono (ok' := fun k_ => (w.heap.size ≤ k_) ∧ k_ ≠ gb334) (Kd.S_N (Kd.S_bound ho0)) (fun k_ hk_ => ⟨(Nat.le_trans (below_size (by repeat (first | (with_reducible first | exact HB.out | apply below_alloc | apply pw_below_drewN | apply below_drew1 | refine below_set ?_ GE334.out) | exact HB.out))) hk_.2.1), (Kd.freshB (g := gb334) (o := .cells #[.int .i64 a3_0, .slice A3_1 l3_1.length c3_1, .int .i64 a3_2] 26 (0, 0)) (by (with_reducible repeat (first | refine blk_drewN ?_ _ | refine blk_drew ?_ | refine blk_alloc ?_ _)); exact BK334.out) k_ hk_.2.1)⟩)) (below_size (by repeat (first | (with_reducible first | exact HB.out | apply below_alloc | apply pw_below_drewN | apply below_drew1 | refine below_set ?_ GE334.out) | exact HB.out)))); have n1_ := Aside0.mk (blk_below (g := gb334) (o := .cells #[.int .i64 a3_0, .slice A3_1 l3_1.length c3_1, .int .i64 a3_2] 26 (0, 0)) (by (with_reducible repeat (first | refine blk_drewN ?_ _ | refine blk_drew ?_ | refine blk_alloc ?_ _)); exact BK334.out) hb); have n2_ := Aside0.mk (below_step (by repeat (first | (with_reducible first | exact HB.out | apply below_alloc | apply pw_below_drewN | apply below_drew1 | refine below_set ?_ GE334.out) | exact HB.out)) hb); clear BK334; clear HB; have HO337 := n0_; have BK334 := n1_; have HB := n2_; clear n0_ n1_ n2_; (try clear hb); (try clear hb2); (try clear hk); (try clear hi); (try clear ho0)) | ((with_reducible refine gate_callee (f := 22) rfl ?_); refine goesL_ (some 16) rfl rfl Try.func22 (by kernel_rfl) rfl #[.slice A0 l0.length c0, .int .i64 a1] rfl (by (try simp only [List.map_toArray, List.map_cons, List.map_nil]); first | done | rfl | (simp only [List.length_drop, List.length_take]; rfl)) ?_; (with_reducible refine (hocketref4_at.calls k _ _ l0 a1 t338 _ ?side1 ?side2 A6.out).mono ?_); (case side1 => repeat (first | exact (Kd.C_below HR0.out HB.out) | (with_reducible refine Kd.C_alloc ?_ _) | (with_reducible refine Kd.C_drewN ?_ _) | (with_reducible refine Kd.C_drew ?_))); (case side2 => exact HC0.out); rintro e w' ⟨rfl, ⟨nd, rfl⟩⟩; refine ⟨_, rfl, ?_⟩; (try (rw [drewN_self w13]; generalize hq_ : World.drewN w13 _ = w13; have n0_ : Aside0 (Kd.N k31 31 w13 w.heap.size (fun k_ => (w.heap.size ≤ k_) ∧ k_ ≠ gb334) v336 t335) := ⟨by rw [← hq_]; exact (by (with_reducible repeat (first | apply Kd.N_alloc | apply Kd.N_drewN | apply Kd.N_drew)); exact HO337.out)⟩; have n1_ : Aside0 (w13.heap[gb334]? = some (.cells #[.int .i64 a3_0, .slice A3_1 l3_1.length c3_1, .int .i64 a3_2] 26 (0, 0))) := ⟨by rw [← hq_]; exact (by (with_reducible repeat (first | refine blk_drewN ?_ _ | refine blk_drew ?_ | refine blk_alloc ?_ _)); exact BK334.out)⟩; have n2_ : Aside0 (Below w.heap.size w w13) := ⟨by rw [← hq_]; exact (by repeat (first | (with_reducible first | exact HB.out | apply below_alloc | apply pw_below_drewN | apply below_drew1 | refine below_set ?_ GE334.out) | exact HB.out))⟩; clear HO337 BK334 HB hq_; have HO337 := n0_; have BK334 := n1_; have HB := n2_; clear n0_ n1_ n2_)); have hcz14_0 : w13.cell? ⟨gb334, 0, none⟩ = some (.int .i64 a3_0) := (blk_cell BK334.out 0).trans rfl; have hcz14_1 : w13.cell? ⟨gb334, 1, none⟩ = some (.slice A3_1 l3_1.length c3_1) := (blk_cell BK334.out 1).trans rfl; have hcz14_2 : w13.cell? ⟨gb334, 2, none⟩ = some (.int .i64 a3_2) := (blk_cell BK334.out 2).trans rfl; have hfz14_0 := blk_frozen BK334.out 0; have hfz14_1 := blk_frozen BK334.out 1; have hfz14_2 := blk_frozen BK334.out 2) | ((with_reducible refine gate_callee (f := 23) rfl ?_); refine goesL_ (some 20) rfl rfl Try.func23 (by kernel_rfl) rfl #[.agg #[.int .i64 a3_0, .slice A3_1 l3_1.length c3_1, .int .i64 a3_2]] rfl (by (try simp only [List.map_toArray, List.map_cons, List.map_nil]); first | done | rfl | (simp only [List.length_drop, List.length_take]; rfl)) ?_; (with_reducible refine (hocketref4_result.calls a3_0 _ _ l3_1 a3_2 t339 t340 t343 _ ?side1 ?side2 A7.out).mono ?_); (case side1 => repeat (first | exact (Kd.C_below HR3_1.out HB.out) | (with_reducible refine Kd.C_alloc ?_ _) | (with_reducible refine Kd.C_drewN ?_ _) | (with_reducible refine Kd.C_drew ?_))); (case side2 => exact HC3_1.out); rintro e w15 ⟨v341, rfl, ho0, hb⟩; refine ⟨_, rfl, ?_⟩; have n0_ := Aside0.mk (Kd.N_elder' (by (with_reducible repeat (first | apply Kd.N_alloc | apply Kd.N_drewN | apply Kd.N_drew)); exact HO337.out) (Kd.R_base ho0) hb); have n1_ := Aside0.mk (Kd.R_lower (Kd.R_newM (M := fun k_ => (w.heap.size ≤ k_)) ho0 (below_size (by repeat (first | (with_reducible first | exact HB.out | apply below_alloc | apply pw_below_drewN | apply below_drew1 | refine below_set ?_ GE334.out) | exact HB.out))) (fun k_ h_ => h_)) (below_size (by repeat (first | (with_reducible first | exact HB.out | apply below_alloc | apply pw_below_drewN | apply below_drew1 | refine below_set ?_ GE334.out) | exact HB.out)))); have n2_ := Aside0.mk (blk_below (g := gb334) (o := .cells #[.int .i64 a3_0, .slice A3_1 l3_1.length c3_1, .int .i64 a3_2] 26 (0, 0)) (by (with_reducible repeat (first | refine blk_drewN ?_ _ | refine blk_drew ?_ | refine blk_alloc ?_ _)); exact BK334.out) hb); have n3_ := Aside0.mk (below_step (by repeat (first | (with_reducible first | exact HB.out | apply below_alloc | apply pw_below_drewN | apply below_drew1 | refine below_set ?_ GE334.out) | exact HB.out)) hb); clear HO337; clear BK334; clear HB; have HO337 := n0_; have HO342 := n1_; have BK334 := n2_; have HB := n3_; clear n0_ n1_ n2_ n3_; (try clear hb); (try clear hb2); (try clear hk); (try clear hi); (try clear ho0); obtain ⟨Ao16, co16, eo16⟩ := Kd.R_slice HO342.out; subst eo16) | ((with_reducible refine gate_dst (N := 11) rfl ?_); refine box_event ?hg (N := 11) ?hd (cs := #[.int .i64 0, .int .i64 0, .int .i64 0, .slice none 0 0, .int .i64 0]) (t := 31) ?hr ?_; (case hd => rfl); (case hg => rfl); (case hr => first | (go_simp; done) | (go_simp; rfl)); intro gb344 hg w17 hbox hb; have n0_ := Aside0.mk (Kd.N_below (Kd.N_elderB (by (with_reducible repeat (first | apply Kd.N_alloc | apply Kd.N_drewN | apply Kd.N_drew)); exact HO337.out) gb344 (Nat.le_of_eq hg.symm)) hb); have n1_ := Aside0.mk (Kd.R_below (by (with_reducible repeat (first | apply Kd.R_alloc | apply Kd.R_drewN | apply Kd.R_drew)); exact HO342.out) hb); have n2_ := Aside0.mk (blk_below (g := gb334) (o := .cells #[.int .i64 a3_0, .slice A3_1 l3_1.length c3_1, .int .i64 a3_2] 26 (0, 0)) (by (with_reducible repeat (first | refine blk_drewN ?_ _ | refine blk_drew ?_ | refine blk_alloc ?_ _)); exact BK334.out) hb); have n3_ := Aside0.mk (below_step (by repeat (first | (with_reducible first | exact HB.out | apply below_alloc | apply pw_below_drewN | apply below_drew1 | refine below_set ?_ GE334.out) | exact HB.out)) hb); have n4_ := Aside0.mk (hbox); have n5_ := Aside0.mk ((by rw [hg]; exact (below_size (by repeat (first | (with_reducible first | exact HB.out | apply below_alloc | apply pw_below_drewN | apply below_drew1 | refine below_set ?_ GE334.out) | exact HB.out))) : w.heap.size ≤ gb344)); have n6_ := Aside0.mk ((by rw [hg]; exact (below_size (by repeat (first | (with_reducible first | exact HB.out | apply below_alloc | apply pw_below_drewN | apply below_drew1 | refine below_set ?_ GE334.out) | exact HB.out))) : w.heap.size ≤ gb344)); have n7_ := Aside0.mk ((by rw [hg]; exact Nat.ne_of_lt (blk_lt (g := gb334) (o := .cells #[.int .i64 a3_0, .slice A3_1 l3_1.length c3_1, .int .i64 a3_2] 26 (0, 0)) (by (with_reducible repeat (first | refine blk_drewN ?_ _ | refine blk_drew ?_ | refine blk_alloc ?_ _)); exact BK334.out)) : gb334 ≠ gb344)); have n8_ := Aside0.mk ((by rw [hg]; exact Nat.ne_of_gt (blk_lt (g := gb334) (o := .cells #[.int .i64 a3_0, .slice A3_1 l3_1.length c3_1, .int .i64 a3_2] 26 (0, 0)) (by (with_reducible repeat (first | refine blk_drewN ?_ _ | refine blk_drew ?_ | refine blk_alloc ?_ _)); exact BK334.out)) : gb344 ≠ gb334)); clear HO337; clear HO342; clear BK334; clear HB; have HO337 := n0_; have HO342 := n1_; have BK334 := n2_; have HB := n3_; have BK344 := n4_; have GW344 := n5_; have GE344 := n6_; have NB334_344 := n7_; have NB344_334 := n8_; clear n0_ n1_ n2_ n3_ n4_ n5_ n6_ n7_ n8_; clear hb hbox hg; have hnb18 := NB344_334.out; have hnc18 := NB334_344.out; have hcz19_0 : w17.cell? ⟨gb344, 0, none⟩ = some (.int .i64 0) := (blk_cell BK344.out 0).trans rfl; have hcz19_1 : w17.cell? ⟨gb344, 1, none⟩ = some (.int .i64 0) := (blk_cell BK344.out 1).trans rfl; have hcz19_2 : w17.cell? ⟨gb344, 2, none⟩ = some (.int .i64 0) := (blk_cell BK344.out 2).trans rfl; have hcz19_3 : w17.cell? ⟨gb344, 3, none⟩ = some (.slice none 0 0) := (blk_cell BK344.out 3).trans rfl; have hcz19_4 : w17.cell? ⟨gb344, 4, none⟩ = some (.int .i64 0) := (blk_cell BK344.out 4).trans rfl; have hfz19_0 := blk_frozen BK344.out 0; have hfz19_1 := blk_frozen BK344.out 1; have hfz19_2 := blk_frozen BK344.out 2; have hfz19_3 := blk_frozen BK344.out 3; have hfz19_4 := blk_frozen BK344.out 4) | ((with_reducible refine gate_store (t := 31) (p := 11) rfl ?_); refine store_event (t := 31) (p := 11) (v := ?vo_w20) (w1 := (((((w17.setCell ⟨gb344, 0, none⟩ (.int .i64 a1)).setCell ⟨gb344, 1, none⟩ (.int .i64 a2)).setCell ⟨gb344, 2, none⟩ (.int .i64 t339)).setCell ⟨gb344, 3, none⟩ (.slice Ao16 t340.length co16)).setCell ⟨gb344, 4, none⟩ (.int .i64 t343))) ?hg ?ho ?hn ?hr ?_; (case ho => rfl); (case hg => rfl); (case hn => rfl); (case hr => first | (go_simp; done) | (go_simp; rfl)); intro w20 hw; have n0_ : Aside0 (Kd.N k31 31 w20 w.heap.size (fun k_ => (w.heap.size ≤ k_) ∧ some k_ ≠ (.slice Ao16 t340.length co16 : Value).ownBlock ∧ k_ ≠ gb334 ∧ k_ ≠ gb344) v336 t335) := ⟨(by rw [hw]; exact (by (with_reducible repeat (first | apply Kd.N_alloc | apply Kd.N_drewN | apply Kd.N_drew)); exact Kd.N_mono (Kd.N_far (p := ⟨gb344, 4, none⟩) (Kd.N_far (p := ⟨gb344, 3, none⟩) (Kd.N_far (p := ⟨gb344, 2, none⟩) (Kd.N_far (p := ⟨gb344, 1, none⟩) (Kd.N_far (p := ⟨gb344, 0, none⟩) (Kd.N_mono HO337.out (fun k_ hk => (⟨hk, hk.2⟩ : _ ∧ k_ ≠ gb344))) (fun _ hk => hk.2) (.int .i64 a1)) (fun _ hk => hk.2) (.int .i64 a2)) (fun _ hk => hk.2) (.int .i64 t339)) (fun _ hk => hk.2) (.slice Ao16 t340.length co16)) (fun _ hk => hk.2) (.int .i64 t343)) (fun _ hk => ⟨hk.1.1.1.1, ⟨hk.1.1.2, ⟨hk.1.1.1.2, hk.1.2⟩⟩⟩)))⟩; have n1_ : Aside0 (Kd.R (Kd.int .u8) 5 w20 w.heap.size (fun k_ => (w.heap.size ≤ k_)) (.slice Ao16 t340.length co16) t340) := ⟨(by rw [hw]; exact (by (with_reducible repeat (first | apply Kd.R_alloc | apply Kd.R_drewN | apply Kd.R_drew)); exact Kd.R_mono (Kd.R_far (p := ⟨gb344, 4, none⟩) (Kd.R_far (p := ⟨gb344, 3, none⟩) (Kd.R_far (p := ⟨gb344, 2, none⟩) (Kd.R_far (p := ⟨gb344, 1, none⟩) (Kd.R_far (p := ⟨gb344, 0, none⟩) (Kd.R_types HO342.out BK344.out (by decide)) (fun _ hk => hk.2) (.int .i64 a1)) (fun _ hk => hk.2) (.int .i64 a2)) (fun _ hk => hk.2) (.int .i64 t339)) (fun _ hk => hk.2) (.slice Ao16 t340.length co16)) (fun _ hk => hk.2) (.int .i64 t343)) (fun _ hk => hk.1.1)))⟩; have n2_ : Aside0 (w20.heap[gb334]? = some (.cells #[.int .i64 a3_0, .slice A3_1 l3_1.length c3_1, .int .i64 a3_2] 26 (0, 0))) := ⟨(by rw [hw]; exact (by (with_reducible repeat (first | refine blk_drewN ?_ _ | refine blk_drew ?_ | refine blk_alloc ?_ _)); refine blk_far ?_ NB334_344.out _; (with_reducible repeat (first | refine blk_drewN ?_ _ | refine blk_drew ?_ | refine blk_alloc ?_ _)); refine blk_far ?_ NB334_344.out _; (with_reducible repeat (first | refine blk_drewN ?_ _ | refine blk_drew ?_ | refine blk_alloc ?_ _)); refine blk_far ?_ NB334_344.out _; (with_reducible repeat (first | refine blk_drewN ?_ _ | refine blk_drew ?_ | refine blk_alloc ?_ _)); refine blk_far ?_ NB334_344.out _; (with_reducible repeat (first | refine blk_drewN ?_ _ | refine blk_drew ?_ | refine blk_alloc ?_ _)); refine blk_far ?_ NB334_344.out _; (with_reducible repeat (first | refine blk_drewN ?_ _ | refine blk_drew ?_ | refine blk_alloc ?_ _)); exact BK334.out))⟩; have n3_ : Aside0 (w20.heap[gb344]? = some (.cells #[.int .i64 a1, .int .i64 a2, .int .i64 t339, .slice Ao16 t340.length co16, .int .i64 t343] 31 (0, 0))) := ⟨(by rw [hw]; exact (by (with_reducible repeat (first | refine blk_drewN ?_ _ | refine blk_drew ?_ | refine blk_alloc ?_ _)); refine blk_put (cs := #[.int .i64 a1, .int .i64 a2, .int .i64 t339, .slice Ao16 t340.length co16, .int .i64 0]) ?_ 4 _ rfl; (with_reducible repeat (first | refine blk_drewN ?_ _ | refine blk_drew ?_ | refine blk_alloc ?_ _)); refine blk_put (cs := #[.int .i64 a1, .int .i64 a2, .int .i64 t339, .slice none 0 0, .int .i64 0]) ?_ 3 _ rfl; (with_reducible repeat (first | refine blk_drewN ?_ _ | refine blk_drew ?_ | refine blk_alloc ?_ _)); refine blk_put (cs := #[.int .i64 a1, .int .i64 a2, .int .i64 0, .slice none 0 0, .int .i64 0]) ?_ 2 _ rfl; (with_reducible repeat (first | refine blk_drewN ?_ _ | refine blk_drew ?_ | refine blk_alloc ?_ _)); refine blk_put (cs := #[.int .i64 a1, .int .i64 0, .int .i64 0, .slice none 0 0, .int .i64 0]) ?_ 1 _ rfl; (with_reducible repeat (first | refine blk_drewN ?_ _ | refine blk_drew ?_ | refine blk_alloc ?_ _)); refine blk_put (cs := #[.int .i64 0, .int .i64 0, .int .i64 0, .slice none 0 0, .int .i64 0]) ?_ 0 _ rfl; (with_reducible repeat (first | refine blk_drewN ?_ _ | refine blk_drew ?_ | refine blk_alloc ?_ _)); exact BK344.out))⟩; have n4_ : Aside0 (Below w.heap.size w w20) := ⟨(by rw [hw]; exact (by repeat (first | (with_reducible first | exact HB.out | apply below_alloc | apply pw_below_drewN | apply below_drew1 | refine below_set ?_ GE334.out | refine below_set ?_ GE344.out) | exact HB.out)))⟩; clear hw; clear HO337; clear HO342; clear BK334; clear BK344; clear HB; have HO337 := n0_; have HO342 := n1_; have BK334 := n2_; have BK344 := n3_; have HB := n4_; clear n0_ n1_ n2_ n3_ n4_; obtain ⟨Ao21, co21, eo21⟩ := Kd.N_slice HO337.out; subst eo21; have p345 : 0 ≤ (t338 : Int) := of_decide_eq_true (by first | (with_reducible assumption) | assumption); have q345 : t338 < (t335.length : Int) := of_decide_eq_true (by first | (with_reducible assumption) | assumption); obtain ⟨ad345, A345_3, c345_3, e345, hx345_0, hx345_1, hx345_2, hx345_3, hx345_4, hl345_3, hi345_3⟩ := at_T31 (Kd.N_reads' HO337.out).2.2 t338 p345 q345; cases e345; obtain ⟨ce345, hce345, hMe345, hcc345⟩ := Kd.N_get HO337.out z31 t338 p345 (by first | exact q345 | exact of_decide_eq_true (by first | (with_reducible assumption) | assumption) | (have e_ := (Kd.N_reads' HO337.out).1; omega)); obtain ⟨ua345_3, uc345_3, rfl, ul345_3, ge345_3⟩ := k31_openF hMe345; have hv345_3 := hcc345 3 _ rfl; rw [add_field _ _ 3 (by omega)] at hv345_3; replace hv345_3 := Option.some.inj (hv345_3.symm.trans hx345_3); injection hv345_3 with hva_ hvn_ hvc_; rw [hva_] at ge345_3; rw [hvc_] at ul345_3; have HL345_3 := Aside0.mk (show Kd.V (Kd.int .u8) 5 _ w.heap.size _ _ ((rd_T31 t335 t338).f2.f1) from Kd.V_mk ul345_3 ge345_3); clear hva_ hvn_ hvc_ ge345_3 ul345_3; clear hcc345 hce345; have HR345_3 := Aside0.mk hi345_3; have HC345_3 := Aside0.mk hl345_3; clear hi345_3 hl345_3; replace p345 := eq_true p345; replace q345 := eq_true q345; have hcz22_0 : w20.cell? ⟨gb344, 0, none⟩ = some (.int .i64 a1) := (blk_cell BK344.out 0).trans rfl; have hcz22_1 : w20.cell? ⟨gb344, 1, none⟩ = some (.int .i64 a2) := (blk_cell BK344.out 1).trans rfl; have hcz22_2 : w20.cell? ⟨gb344, 2, none⟩ = some (.int .i64 t339) := (blk_cell BK344.out 2).trans rfl; have hcz22_3 : w20.cell? ⟨gb344, 3, none⟩ = some (.slice Ao16 t340.length co16) := (blk_cell BK344.out 3).trans rfl; have hcz22_4 : w20.cell? ⟨gb344, 4, none⟩ = some (.int .i64 t343) := (blk_cell BK344.out 4).trans rfl; have hfz22_0 := blk_frozen BK344.out 0; have hfz22_1 := blk_frozen BK344.out 1; have hfz22_2 := blk_frozen BK344.out 2; have hfz22_3 := blk_frozen BK344.out 3; have hfz22_4 := blk_frozen BK344.out 4; have p11 : 0 ≤ (t338 : Int) := of_decide_eq_true (by first | (with_reducible assumption) | assumption); have q11 : (t338 : Int) < ((t335.length : Int) : Int) := of_decide_eq_true (by first | (with_reducible assumption) | assumption); obtain ⟨go11, co11, eo11, gb11, gl11, cl11, HG11⟩ := Kd.N_form HO337.out (by omega); (first | cases eo11 | (injection eo11 with ea_ en_ ec_; (first | subst ea_ | (injection ea_ with ea_; subst ea_)); subst ec_; clear en_)); have GB11 := Aside0.mk gb11; have GG11 := Aside0.mk HG11; clear gb11 gl11 HG11; (first | simp only [add_plain] at hx345_0 | skip); (first | simp only [add_plain] at hx345_1 | skip); (first | simp only [add_plain] at hx345_2 | skip); (first | simp only [add_plain] at hx345_3 | skip); (first | simp only [add_plain] at hx345_4 | skip); obtain ⟨ce11, hcl11, hM11, hcc11, hfr11⟩ := Kd.N_elem HO337.out z31 (t338 : Int) p11 q11; obtain ⟨ua11_3, uc11_3, rfl, ul11_3, ge11_3⟩ := k31_openF hM11; have hx11_0 : w20.cell? ⟨go11, (t338 : Int).toNat * 5, none⟩ = some (.int .i64 ((rd_T31 t335 t338).f0)) := hcc11 0 _ rfl; have hx11_1 : w20.cell? ⟨go11, (t338 : Int).toNat * 5 + 1, none⟩ = some (.int .i64 ((rd_T31 t335 t338).f1)) := hcc11 1 _ rfl; have hx11_2 : w20.cell? ⟨go11, (t338 : Int).toNat * 5 + 2, none⟩ = some (.int .i64 ((rd_T31 t335 t338).f2.f0)) := hcc11 2 _ rfl; have hx11_3 : w20.cell? ⟨go11, (t338 : Int).toNat * 5 + 3, none⟩ = some (.slice ua11_3 ((rd_T31 t335 t338).f2.f1).length uc11_3) := hcc11 3 _ rfl; have hx11_4 : w20.cell? ⟨go11, (t338 : Int).toNat * 5 + 4, none⟩ = some (.int .i64 ((rd_T31 t335 t338).f2.f2)) := hcc11 4 _ rfl; have hf11_0 : w20.frozen? ⟨go11, (t338 : Int).toNat * 5, none⟩ = false := hfr11 0; have hf11_1 : w20.frozen? ⟨go11, (t338 : Int).toNat * 5 + 1, none⟩ = false := hfr11 1; have hf11_2 : w20.frozen? ⟨go11, (t338 : Int).toNat * 5 + 2, none⟩ = false := hfr11 2; have hf11_3 : w20.frozen? ⟨go11, (t338 : Int).toNat * 5 + 3, none⟩ = false := hfr11 3; have hf11_4 : w20.frozen? ⟨go11, (t338 : Int).toNat * 5 + 4, none⟩ = false := hfr11 4; clear hcl11 hcc11 hfr11 hM11; replace p11 := eq_true p11; replace q11 := eq_true q11; have HX23 := Aside0.mk (show Kd.N k31 31 w20 w.heap.size (fun k_ => (w.heap.size ≤ k_) ∧ k_ ≠ gb334 ∧ k_ ≠ gb344) (.slice (some ⟨go11, 0, none⟩) t335.length co21) t335 from (by (with_reducible repeat (first | apply Kd.N_alloc | apply Kd.N_drewN | apply Kd.N_drew)); exact Kd.N_mono HO337.out (fun _ hk => ⟨hk.1, ⟨hk.2.2.1, hk.2.2.2⟩⟩))); obtain ⟨ce23, hcl23, hM23, hcc23, hfr23⟩ := Kd.N_elem HX23.out z31 (t338 : Int) (of_decide_eq_true (by first | (with_reducible assumption) | assumption)) (by have h_ : (t338 : Int) < ((t335.length : Int) : Int) := of_decide_eq_true (by first | (with_reducible assumption) | assumption); first | exact h_ | (have e_ := (Kd.N_reads' HO337.out).1; omega) | simpa using h_); obtain ⟨ua23_3, uc23_3, rfl, ul23_3, ge23_3⟩ := k31_openF hM23; have HP23 := Kd.N_seg HX23.out (t338 : Int) (of_decide_eq_true (by first | (with_reducible assumption) | assumption)) (by have h_ : (t338 : Int) < ((t335.length : Int) : Int) := of_decide_eq_true (by first | (with_reducible assumption) | assumption); first | exact h_ | (have e_ := (Kd.N_reads' HO337.out).1; omega) | simpa using h_) (seg := [.int .i64 a1, .int .i64 a2, .int .i64 t339, .slice Ao16 t340.length co16, .int .i64 t343]) (j := 0) hcl23 hcc23 (show 5 ≤ 5 from by decide) (x' := (⟨a1, a2, (⟨t339, t340, t343⟩ : S26)⟩ : S31)) (k31_mkF _ _ (⟨a1, a2, (⟨t339, t340, t343⟩ : S26)⟩ : S31) (Kd.R_reads' (Kd.R_mono (ok' := (fun k_ => ((fun k_ => (w.heap.size ≤ k_) ∧ k_ ≠ gb334 ∧ k_ ≠ gb344)) k_ ∧ k_ ≠ go11)) (Kd.R_types (Kd.R_types (Kd.R_apart' (HO342.out) (Kd.N_typed HO337.out) (by decide)) BK334.out (by decide)) BK344.out (by decide)) (fun k_ hk => ⟨⟨hk.1.1.1, ⟨hk.1.2, hk.2⟩⟩, fun e_ => (hk.1.1.2) (by rw [e_]; rfl)⟩))).2.1 (Kd.R_F (Kd.R_mono (ok' := (fun k_ => ((fun k_ => (w.heap.size ≤ k_) ∧ k_ ≠ gb334 ∧ k_ ≠ gb344)) k_ ∧ k_ ≠ go11)) (Kd.R_types (Kd.R_types (Kd.R_apart' (HO342.out) (Kd.N_typed HO337.out) (by decide)) BK334.out (by decide)) BK344.out (by decide)) (fun k_ hk => ⟨⟨hk.1.1.1, ⟨hk.1.2, hk.2⟩⟩, fun e_ => (hk.1.1.2) (by rw [e_]; rfl)⟩)))) (fun _ hk => hk); have hx23_0 := hcc23 0 _ rfl; (try simp only [show (k31).sz = 5 from rfl, Nat.mul_one, Nat.add_zero] at hx23_0); have hf23_0 := hfr23 0; (try simp only [show (k31).sz = 5 from rfl, Nat.mul_one, Nat.add_zero] at hf23_0); have hx23_1 := hcc23 1 _ rfl; (try simp only [show (k31).sz = 5 from rfl, Nat.mul_one, Nat.add_zero] at hx23_1); have hf23_1 := hfr23 1; (try simp only [show (k31).sz = 5 from rfl, Nat.mul_one, Nat.add_zero] at hf23_1); have hx23_2 := hcc23 2 _ rfl; (try simp only [show (k31).sz = 5 from rfl, Nat.mul_one, Nat.add_zero] at hx23_2); have hf23_2 := hfr23 2; (try simp only [show (k31).sz = 5 from rfl, Nat.mul_one, Nat.add_zero] at hf23_2); have hx23_3 := hcc23 3 _ rfl; (try simp only [show (k31).sz = 5 from rfl, Nat.mul_one, Nat.add_zero] at hx23_3); have hf23_3 := hfr23 3; (try simp only [show (k31).sz = 5 from rfl, Nat.mul_one, Nat.add_zero] at hf23_3); have hx23_4 := hcc23 4 _ rfl; (try simp only [show (k31).sz = 5 from rfl, Nat.mul_one, Nat.add_zero] at hx23_4); have hf23_4 := hfr23 4; (try simp only [show (k31).sz = 5 from rfl, Nat.mul_one, Nat.add_zero] at hf23_4); clear hcl23 hcc23 hfr23 hM23) | ((with_reducible refine gate_store (t := 31) (p := 38) rfl ?_); refine store_event (t := 31) (p := 38) (v := ?vo_w24) (w1 := (((((w20.setCell ⟨go11, (t338 : Int).toNat * 5, none⟩ (.int .i64 a1)).setCell ⟨go11, (t338 : Int).toNat * 5 + 1, none⟩ (.int .i64 a2)).setCell ⟨go11, (t338 : Int).toNat * 5 + 2, none⟩ (.int .i64 t339)).setCell ⟨go11, (t338 : Int).toNat * 5 + 3, none⟩ (.slice Ao16 t340.length co16)).setCell ⟨go11, (t338 : Int).toNat * 5 + 4, none⟩ (.int .i64 t343))) ?hg ?ho ?hn ?hr ?_; (case ho => rfl); (case hg => rfl); (case hn => rfl); (case hr => first | (go_simp; done) | (go_simp; rfl)); intro w24 hw; have hg : w20.grownBy w24 (some go11) := (by rw [hw]; exact HP23.2); have hp_ : Kd.N k31 31 w24 w.heap.size (fun k_ => (w.heap.size ≤ k_) ∧ k_ ≠ gb334 ∧ k_ ≠ gb344) (.slice (some ⟨go11, 0, none⟩) t335.length co21) y346 := (by rw [hw, Ny346.out]; exact HP23.1); clear HP23; have n0_ := Aside0.mk (blk_grown (g := gb334) (o := .cells #[.int .i64 a3_0, .slice A3_1 l3_1.length c3_1, .int .i64 a3_2] 26 (0, 0)) (by (with_reducible repeat (first | refine blk_drewN ?_ _ | refine blk_drew ?_ | refine blk_alloc ?_ _)); exact BK334.out) hg (Kd.N_ne HO337.out BK334.out (by decide))); have n1_ := Aside0.mk (hp_); have n2_ := Aside0.mk (blk_grown (g := gb344) (o := .cells #[.int .i64 a1, .int .i64 a2, .int .i64 t339, .slice Ao16 t340.length co16, .int .i64 t343] 31 (0, 0)) (by (with_reducible repeat (first | refine blk_drewN ?_ _ | refine blk_drew ?_ | refine blk_alloc ?_ _)); exact BK344.out) hg (Kd.N_away HO337.out (fun _ hk => hk.2.2.2))); have n3_ := Aside0.mk (Kd.V_afterv (v := (.slice (some ⟨go11, 0, none⟩) t335.length co21)) (v1 := (.slice (some ⟨go11, 0, none⟩) t335.length co21)) (ok := (fun k_ => (w.heap.size ≤ k_) ∧ some k_ ≠ (.slice Ao16 t340.length co16 : Value).ownBlock ∧ k_ ≠ gb334 ∧ k_ ≠ gb344)) (by (with_reducible repeat (first | apply Kd.V_alloc | apply Kd.V_drewN | apply Kd.V_drew)); exact HL345_3.out) hg (.inl rfl)); have n4_ := Aside0.mk ((by rw [hw]; exact below_set (below_set (below_set (below_set (below_set (HB.out) GB11.out) GB11.out) GB11.out) GB11.out) GB11.out : Below w.heap.size w w24)); clear BK334; clear HO337; clear BK344; clear HL345_3; clear HB; clear HO342; have BK334 := n0_; have HO337 := n1_; have BK344 := n2_; have HL345_3 := n3_; have HB := n4_; clear n0_ n1_ n2_ n3_ n4_; clear hg hw hp_))
        go_ret
        exact ⟨_, by first | rfl | (simp [errW_none, errW_some] <;> rfl) | (simp [*, errW_none, errW_some] <;> rfl), by (with_reducible repeat (first | apply Kd.N_alloc | apply Kd.N_drewN | apply Kd.N_drew)); exact Kd.N_mono HO337.out (fun _ hk => hk.1), by repeat (first | (with_reducible first | exact HB.out | apply below_alloc | apply pw_below_drewN | apply below_drew1 | refine below_set ?_ GE334.out | refine below_set ?_ GE344.out) | exact HB.out)⟩
      · rw [if_neg c10] at H
        have c10b0 : (((rd_T31 t335 t338).f0) == a1) = false := beq_eq_false_iff_ne.mpr c10
        have c10b1 : (((rd_T31 t335 t338).f0) != a1) = true := bne_iff_ne.mpr c10
        obtain ⟨y347, hy347⟩ : ∃ y_ : List (S31), y_ = (([] : List (S31))) := ⟨_, rfl⟩
        replace H : (if t338 ≤ (t335.length : Int) then ((some (t335.take (t338 : Int).toNat : List (S31))).bind fun y350 => (if y347.length + y350.length < 2513169434916 then ((some (y347 ++ y350 : List (S31))).bind fun y355 => ((some (([(⟨a1, a2, (⟨t339, t340, t343⟩ : S26)⟩ : S31)] : List (S31)) : List (S31))).bind fun y358 => (if y355.length + y358.length < 2513169434916 then ((some (y355 ++ y358 : List (S31))).bind fun y361 => ((some (t335.drop (t338 : Int).toNat : List (S31))).bind fun y364 => (if y361.length + y364.length < 2513169434916 then (some (y361 ++ y364)) else (none)))) else (none)))) else (none))) else (none)) = some r := by first | (rw [hy347]; with_reducible exact H) | (have H2_ := (Option.bind_some _ _).symm.trans H; rw [hy347]; with_reducible exact H2_) | (have H2_ := (Option.bind_some _ _).symm.trans H; with_reducible exact H2_) | with_reducible exact H | (rw [hy347]; exact H) | exact H
        have Ny347 := Aside0.mk hy347
        clear hy347
        have c25b0 := eq_true (of_decide_eq_true (by first | (with_reducible assumption) | assumption) : 0 ≤ t338)
        by_cases c26 : t338 ≤ (t335.length : Int)
        · rw [if_pos c26] at H
          have c26b0 := eq_true c26
          have c26b1 : decide (t338 ≤ (t335.length : Int)) = true := decide_eq_true c26
          clear c26
          obtain ⟨y350, hy350⟩ : ∃ y_ : List (S31), y_ = (t335.take (t338 : Int).toNat) := ⟨_, rfl⟩
          replace H : (if y347.length + y350.length < 2513169434916 then ((some (y347 ++ y350 : List (S31))).bind fun y355 => ((some (([(⟨a1, a2, (⟨t339, t340, t343⟩ : S26)⟩ : S31)] : List (S31)) : List (S31))).bind fun y358 => (if y355.length + y358.length < 2513169434916 then ((some (y355 ++ y358 : List (S31))).bind fun y361 => ((some (t335.drop (t338 : Int).toNat : List (S31))).bind fun y364 => (if y361.length + y364.length < 2513169434916 then (some (y361 ++ y364)) else (none)))) else (none)))) else (none)) = some r := by first | (rw [hy350]; with_reducible exact H) | (have H2_ := (Option.bind_some _ _).symm.trans H; rw [hy350]; with_reducible exact H2_) | (have H2_ := (Option.bind_some _ _).symm.trans H; with_reducible exact H2_) | with_reducible exact H | (rw [hy350]; exact H) | exact H
          have Ny350 := Aside0.mk hy350
          clear hy350
          by_cases c27 : y347.length + y350.length < 2513169434916
          · rw [if_pos c27] at H
            have LMc27 := Aside0.mk c27
            clear c27
            obtain ⟨y355, hy355⟩ : ∃ y_ : List (S31), y_ = (y347 ++ y350) := ⟨_, rfl⟩
            replace H : ((some (([(⟨a1, a2, (⟨t339, t340, t343⟩ : S26)⟩ : S31)] : List (S31)) : List (S31))).bind fun y358 => (if y355.length + y358.length < 2513169434916 then ((some (y355 ++ y358 : List (S31))).bind fun y361 => ((some (t335.drop (t338 : Int).toNat : List (S31))).bind fun y364 => (if y361.length + y364.length < 2513169434916 then (some (y361 ++ y364)) else (none)))) else (none))) = some r := by first | (rw [hy355]; with_reducible exact H) | (have H2_ := (Option.bind_some _ _).symm.trans H; rw [hy355]; with_reducible exact H2_) | (have H2_ := (Option.bind_some _ _).symm.trans H; with_reducible exact H2_) | with_reducible exact H | (rw [hy355]; exact H) | exact H
            have Ny355 := Aside0.mk hy355
            clear hy355
            obtain ⟨y358, hy358⟩ : ∃ y_ : List (S31), y_ = (([(⟨a1, a2, (⟨t339, t340, t343⟩ : S26)⟩ : S31)] : List (S31))) := ⟨_, rfl⟩
            replace H : (if y355.length + y358.length < 2513169434916 then ((some (y355 ++ y358 : List (S31))).bind fun y361 => ((some (t335.drop (t338 : Int).toNat : List (S31))).bind fun y364 => (if y361.length + y364.length < 2513169434916 then (some (y361 ++ y364)) else (none)))) else (none)) = some r := by first | (rw [hy358]; with_reducible exact H) | (have H2_ := (Option.bind_some _ _).symm.trans H; rw [hy358]; with_reducible exact H2_) | (have H2_ := (Option.bind_some _ _).symm.trans H; with_reducible exact H2_) | with_reducible exact H | (rw [hy358]; exact H) | exact H
            have Ny358 := Aside0.mk hy358
            clear hy358
            by_cases c28 : y355.length + y358.length < 2513169434916
            · rw [if_pos c28] at H
              have LMc28 := Aside0.mk c28
              clear c28
              obtain ⟨y361, hy361⟩ : ∃ y_ : List (S31), y_ = (y355 ++ y358) := ⟨_, rfl⟩
              replace H : ((some (t335.drop (t338 : Int).toNat : List (S31))).bind fun y364 => (if y361.length + y364.length < 2513169434916 then (some (y361 ++ y364)) else (none))) = some r := by first | (rw [hy361]; with_reducible exact H) | (have H2_ := (Option.bind_some _ _).symm.trans H; rw [hy361]; with_reducible exact H2_) | (have H2_ := (Option.bind_some _ _).symm.trans H; with_reducible exact H2_) | with_reducible exact H | (rw [hy361]; exact H) | exact H
              have Ny361 := Aside0.mk hy361
              clear hy361
              have c29b0 := eq_true (of_decide_eq_true (by first | (with_reducible assumption) | assumption) : 0 ≤ t338)
              have c30b0 := eq_true (of_decide_eq_true (by first | (with_reducible assumption) | assumption) : t338 ≤ (t335.length : Int))
              obtain ⟨y364, hy364⟩ : ∃ y_ : List (S31), y_ = (t335.drop (t338 : Int).toNat) := ⟨_, rfl⟩
              replace H : (if y361.length + y364.length < 2513169434916 then (some (y361 ++ y364)) else (none)) = some r := by first | (rw [hy364]; with_reducible exact H) | (have H2_ := (Option.bind_some _ _).symm.trans H; rw [hy364]; with_reducible exact H2_) | (have H2_ := (Option.bind_some _ _).symm.trans H; with_reducible exact H2_) | with_reducible exact H | (rw [hy364]; exact H) | exact H
              have Ny364 := Aside0.mk hy364
              clear hy364
              by_cases c31 : y361.length + y364.length < 2513169434916
              · rw [if_pos c31] at H
                have LMc31 := Aside0.mk c31
                clear c31
                obtain ⟨y369, hy369⟩ : ∃ y_ : List (S31), y_ = (y361 ++ y364) := ⟨_, rfl⟩
                replace H : (some y369) = some r := by first | (rw [hy369]; with_reducible exact H) | (have H2_ := (Option.bind_some _ _).symm.trans H; rw [hy369]; with_reducible exact H2_) | (have H2_ := (Option.bind_some _ _).symm.trans H; with_reducible exact H2_) | with_reducible exact H | (rw [hy369]; exact H) | exact H
                have Ny369 := Aside0.mk hy369
                clear hy369
                obtain rfl := Option.some.inj H
                go_enter Try.func13, Try.ntmps13
                try go_wp2_with (first | ((with_reducible refine gate_dst (N := 7) rfl ?_); refine box_event ?hg (N := 7) ?hd (cs := #[.int .i64 a3_0, .slice A3_1 l3_1.length c3_1, .int .i64 a3_2]) (t := 26) ?hr ?_; (case hd => rfl); (case hg => rfl); (case hr => first | (go_simp; done) | (go_simp; rfl)); intro gb334 hg w32 hbox hb; have n0_ := Aside0.mk (below_step (by repeat (first | (with_reducible first | exact HB.out | apply below_alloc | apply pw_below_drewN | apply below_drew1) | exact HB.out)) hb); have n1_ := Aside0.mk (hbox); have n2_ := Aside0.mk ((by rw [hg]; exact (below_size (by repeat (first | (with_reducible first | exact HB.out | apply below_alloc | apply pw_below_drewN | apply below_drew1) | exact HB.out))) : w.heap.size ≤ gb334)); have n3_ := Aside0.mk ((by rw [hg]; exact (below_size (by repeat (first | (with_reducible first | exact HB.out | apply below_alloc | apply pw_below_drewN | apply below_drew1) | exact HB.out))) : w.heap.size ≤ gb334)); clear HB; have HB := n0_; have BK334 := n1_; have GW334 := n2_; have GE334 := n3_; clear n0_ n1_ n2_ n3_; clear hb hbox hg) | ((with_reducible refine gate_callee (f := 24) rfl ?_); refine goesL_ (some 13) rfl rfl Try.func24 (by kernel_rfl) rfl #[.slice A0 l0.length c0] rfl (by (try simp only [List.map_toArray, List.map_cons, List.map_nil]); first | done | rfl | (simp only [List.length_drop, List.length_take]; rfl)) ?_; (with_reducible refine (hocketref4_table.calls k _ _ l0 t335 _ ?side1 ?side2 A5.out).mono ?_); (case side1 => repeat (first | exact (Kd.C_below HR0.out HB.out) | (with_reducible refine Kd.C_alloc ?_ _) | (with_reducible refine Kd.C_drewN ?_ _) | (with_reducible refine Kd.C_drew ?_))); (case side2 => exact HC0.out); rintro e w33 ⟨v336, rfl, ho0, hb⟩; refine ⟨_, rfl, ?_⟩; have n0_ := Aside0.mk (Kd.N_lower (Kd.N_mono (ok' := fun k_ => (w.heap.size ≤ k_) ∧ k_ ≠ gb334) (Kd.S_N (Kd.S_bound ho0)) (fun k_ hk_ => ⟨(Nat.le_trans (below_size (by repeat (first | (with_reducible first | exact HB.out | apply below_alloc | apply pw_below_drewN | apply below_drew1 | refine below_set ?_ GE334.out) | exact HB.out))) hk_.2.1), (Kd.freshB (g := gb334) (o := .cells #[.int .i64 a3_0, .slice A3_1 l3_1.length c3_1, .int .i64 a3_2] 26 (0, 0)) (by (with_reducible repeat (first | refine blk_drewN ?_ _ | refine blk_drew ?_ | refine blk_alloc ?_ _)); exact BK334.out) k_ hk_.2.1)⟩)) (below_size (by repeat (first | (with_reducible first | exact HB.out | apply below_alloc | apply pw_below_drewN | apply below_drew1 | refine below_set ?_ GE334.out) | exact HB.out)))); have n1_ := Aside0.mk (blk_below (g := gb334) (o := .cells #[.int .i64 a3_0, .slice A3_1 l3_1.length c3_1, .int .i64 a3_2] 26 (0, 0)) (by (with_reducible repeat (first | refine blk_drewN ?_ _ | refine blk_drew ?_ | refine blk_alloc ?_ _)); exact BK334.out) hb); have n2_ := Aside0.mk (below_step (by repeat (first | (with_reducible first | exact HB.out | apply below_alloc | apply pw_below_drewN | apply below_drew1 | refine below_set ?_ GE334.out) | exact HB.out)) hb); clear BK334; clear HB; have HO337 := n0_; have BK334 := n1_; have HB := n2_; clear n0_ n1_ n2_; (try clear hb); (try clear hb2); (try clear hk); (try clear hi); (try clear ho0)) | ((with_reducible refine gate_callee (f := 22) rfl ?_); refine goesL_ (some 16) rfl rfl Try.func22 (by kernel_rfl) rfl #[.slice A0 l0.length c0, .int .i64 a1] rfl (by (try simp only [List.map_toArray, List.map_cons, List.map_nil]); first | done | rfl | (simp only [List.length_drop, List.length_take]; rfl)) ?_; (with_reducible refine (hocketref4_at.calls k _ _ l0 a1 t338 _ ?side1 ?side2 A6.out).mono ?_); (case side1 => repeat (first | exact (Kd.C_below HR0.out HB.out) | (with_reducible refine Kd.C_alloc ?_ _) | (with_reducible refine Kd.C_drewN ?_ _) | (with_reducible refine Kd.C_drew ?_))); (case side2 => exact HC0.out); rintro e w' ⟨rfl, ⟨nd, rfl⟩⟩; refine ⟨_, rfl, ?_⟩; (try (rw [drewN_self w33]; generalize hq_ : World.drewN w33 _ = w33; have n0_ : Aside0 (Kd.N k31 31 w33 w.heap.size (fun k_ => (w.heap.size ≤ k_) ∧ k_ ≠ gb334) v336 t335) := ⟨by rw [← hq_]; exact (by (with_reducible repeat (first | apply Kd.N_alloc | apply Kd.N_drewN | apply Kd.N_drew)); exact HO337.out)⟩; have n1_ : Aside0 (w33.heap[gb334]? = some (.cells #[.int .i64 a3_0, .slice A3_1 l3_1.length c3_1, .int .i64 a3_2] 26 (0, 0))) := ⟨by rw [← hq_]; exact (by (with_reducible repeat (first | refine blk_drewN ?_ _ | refine blk_drew ?_ | refine blk_alloc ?_ _)); exact BK334.out)⟩; have n2_ : Aside0 (Below w.heap.size w w33) := ⟨by rw [← hq_]; exact (by repeat (first | (with_reducible first | exact HB.out | apply below_alloc | apply pw_below_drewN | apply below_drew1 | refine below_set ?_ GE334.out) | exact HB.out))⟩; clear HO337 BK334 HB hq_; have HO337 := n0_; have BK334 := n1_; have HB := n2_; clear n0_ n1_ n2_)); have hcz34_0 : w33.cell? ⟨gb334, 0, none⟩ = some (.int .i64 a3_0) := (blk_cell BK334.out 0).trans rfl; have hcz34_1 : w33.cell? ⟨gb334, 1, none⟩ = some (.slice A3_1 l3_1.length c3_1) := (blk_cell BK334.out 1).trans rfl; have hcz34_2 : w33.cell? ⟨gb334, 2, none⟩ = some (.int .i64 a3_2) := (blk_cell BK334.out 2).trans rfl; have hfz34_0 := blk_frozen BK334.out 0; have hfz34_1 := blk_frozen BK334.out 1; have hfz34_2 := blk_frozen BK334.out 2) | ((with_reducible refine gate_callee (f := 23) rfl ?_); refine goesL_ (some 20) rfl rfl Try.func23 (by kernel_rfl) rfl #[.agg #[.int .i64 a3_0, .slice A3_1 l3_1.length c3_1, .int .i64 a3_2]] rfl (by (try simp only [List.map_toArray, List.map_cons, List.map_nil]); first | done | rfl | (simp only [List.length_drop, List.length_take]; rfl)) ?_; (with_reducible refine (hocketref4_result.calls a3_0 _ _ l3_1 a3_2 t339 t340 t343 _ ?side1 ?side2 A7.out).mono ?_); (case side1 => repeat (first | exact (Kd.C_below HR3_1.out HB.out) | (with_reducible refine Kd.C_alloc ?_ _) | (with_reducible refine Kd.C_drewN ?_ _) | (with_reducible refine Kd.C_drew ?_))); (case side2 => exact HC3_1.out); rintro e w35 ⟨v341, rfl, ho0, hb⟩; refine ⟨_, rfl, ?_⟩; have n0_ := Aside0.mk (Kd.N_elder' (by (with_reducible repeat (first | apply Kd.N_alloc | apply Kd.N_drewN | apply Kd.N_drew)); exact HO337.out) (Kd.R_base ho0) hb); have n1_ := Aside0.mk (Kd.R_lower (Kd.R_newM (M := fun k_ => (w.heap.size ≤ k_)) ho0 (below_size (by repeat (first | (with_reducible first | exact HB.out | apply below_alloc | apply pw_below_drewN | apply below_drew1 | refine below_set ?_ GE334.out) | exact HB.out))) (fun k_ h_ => h_)) (below_size (by repeat (first | (with_reducible first | exact HB.out | apply below_alloc | apply pw_below_drewN | apply below_drew1 | refine below_set ?_ GE334.out) | exact HB.out)))); have n2_ := Aside0.mk (blk_below (g := gb334) (o := .cells #[.int .i64 a3_0, .slice A3_1 l3_1.length c3_1, .int .i64 a3_2] 26 (0, 0)) (by (with_reducible repeat (first | refine blk_drewN ?_ _ | refine blk_drew ?_ | refine blk_alloc ?_ _)); exact BK334.out) hb); have n3_ := Aside0.mk (below_step (by repeat (first | (with_reducible first | exact HB.out | apply below_alloc | apply pw_below_drewN | apply below_drew1 | refine below_set ?_ GE334.out) | exact HB.out)) hb); clear HO337; clear BK334; clear HB; have HO337 := n0_; have HO342 := n1_; have BK334 := n2_; have HB := n3_; clear n0_ n1_ n2_ n3_; (try clear hb); (try clear hb2); (try clear hk); (try clear hi); (try clear ho0); obtain ⟨Ao36, co36, eo36⟩ := Kd.R_slice HO342.out; subst eo36) | ((with_reducible refine gate_dst (N := 11) rfl ?_); refine box_event ?hg (N := 11) ?hd (cs := #[.int .i64 0, .int .i64 0, .int .i64 0, .slice none 0 0, .int .i64 0]) (t := 31) ?hr ?_; (case hd => rfl); (case hg => rfl); (case hr => first | (go_simp; done) | (go_simp; rfl)); intro gb344 hg w37 hbox hb; have n0_ := Aside0.mk (Kd.N_below (Kd.N_elderB (by (with_reducible repeat (first | apply Kd.N_alloc | apply Kd.N_drewN | apply Kd.N_drew)); exact HO337.out) gb344 (Nat.le_of_eq hg.symm)) hb); have n1_ := Aside0.mk (Kd.R_below (by (with_reducible repeat (first | apply Kd.R_alloc | apply Kd.R_drewN | apply Kd.R_drew)); exact HO342.out) hb); have n2_ := Aside0.mk (blk_below (g := gb334) (o := .cells #[.int .i64 a3_0, .slice A3_1 l3_1.length c3_1, .int .i64 a3_2] 26 (0, 0)) (by (with_reducible repeat (first | refine blk_drewN ?_ _ | refine blk_drew ?_ | refine blk_alloc ?_ _)); exact BK334.out) hb); have n3_ := Aside0.mk (below_step (by repeat (first | (with_reducible first | exact HB.out | apply below_alloc | apply pw_below_drewN | apply below_drew1 | refine below_set ?_ GE334.out) | exact HB.out)) hb); have n4_ := Aside0.mk (hbox); have n5_ := Aside0.mk ((by rw [hg]; exact (below_size (by repeat (first | (with_reducible first | exact HB.out | apply below_alloc | apply pw_below_drewN | apply below_drew1 | refine below_set ?_ GE334.out) | exact HB.out))) : w.heap.size ≤ gb344)); have n6_ := Aside0.mk ((by rw [hg]; exact (below_size (by repeat (first | (with_reducible first | exact HB.out | apply below_alloc | apply pw_below_drewN | apply below_drew1 | refine below_set ?_ GE334.out) | exact HB.out))) : w.heap.size ≤ gb344)); have n7_ := Aside0.mk ((by rw [hg]; exact Nat.ne_of_lt (blk_lt (g := gb334) (o := .cells #[.int .i64 a3_0, .slice A3_1 l3_1.length c3_1, .int .i64 a3_2] 26 (0, 0)) (by (with_reducible repeat (first | refine blk_drewN ?_ _ | refine blk_drew ?_ | refine blk_alloc ?_ _)); exact BK334.out)) : gb334 ≠ gb344)); have n8_ := Aside0.mk ((by rw [hg]; exact Nat.ne_of_gt (blk_lt (g := gb334) (o := .cells #[.int .i64 a3_0, .slice A3_1 l3_1.length c3_1, .int .i64 a3_2] 26 (0, 0)) (by (with_reducible repeat (first | refine blk_drewN ?_ _ | refine blk_drew ?_ | refine blk_alloc ?_ _)); exact BK334.out)) : gb344 ≠ gb334)); clear HO337; clear HO342; clear BK334; clear HB; have HO337 := n0_; have HO342 := n1_; have BK334 := n2_; have HB := n3_; have BK344 := n4_; have GW344 := n5_; have GE344 := n6_; have NB334_344 := n7_; have NB344_334 := n8_; clear n0_ n1_ n2_ n3_ n4_ n5_ n6_ n7_ n8_; clear hb hbox hg; have hnb38 := NB344_334.out; have hnc38 := NB334_344.out; have hcz39_0 : w37.cell? ⟨gb344, 0, none⟩ = some (.int .i64 0) := (blk_cell BK344.out 0).trans rfl; have hcz39_1 : w37.cell? ⟨gb344, 1, none⟩ = some (.int .i64 0) := (blk_cell BK344.out 1).trans rfl; have hcz39_2 : w37.cell? ⟨gb344, 2, none⟩ = some (.int .i64 0) := (blk_cell BK344.out 2).trans rfl; have hcz39_3 : w37.cell? ⟨gb344, 3, none⟩ = some (.slice none 0 0) := (blk_cell BK344.out 3).trans rfl; have hcz39_4 : w37.cell? ⟨gb344, 4, none⟩ = some (.int .i64 0) := (blk_cell BK344.out 4).trans rfl; have hfz39_0 := blk_frozen BK344.out 0; have hfz39_1 := blk_frozen BK344.out 1; have hfz39_2 := blk_frozen BK344.out 2; have hfz39_3 := blk_frozen BK344.out 3; have hfz39_4 := blk_frozen BK344.out 4) | ((with_reducible refine gate_store (t := 31) (p := 11) rfl ?_); refine store_event (t := 31) (p := 11) (v := ?vo_w40) (w1 := (((((w37.setCell ⟨gb344, 0, none⟩ (.int .i64 a1)).setCell ⟨gb344, 1, none⟩ (.int .i64 a2)).setCell ⟨gb344, 2, none⟩ (.int .i64 t339)).setCell ⟨gb344, 3, none⟩ (.slice Ao36 t340.length co36)).setCell ⟨gb344, 4, none⟩ (.int .i64 t343))) ?hg ?ho ?hn ?hr ?_; (case ho => rfl); (case hg => rfl); (case hn => rfl); (case hr => first | (go_simp; done) | (go_simp; rfl)); intro w40 hw; have n0_ : Aside0 (Kd.N k31 31 w40 w.heap.size (fun k_ => (w.heap.size ≤ k_) ∧ some k_ ≠ (.slice Ao36 t340.length co36 : Value).ownBlock ∧ k_ ≠ gb334 ∧ k_ ≠ gb344) v336 t335) := ⟨(by rw [hw]; exact (by (with_reducible repeat (first | apply Kd.N_alloc | apply Kd.N_drewN | apply Kd.N_drew)); exact Kd.N_mono (Kd.N_far (p := ⟨gb344, 4, none⟩) (Kd.N_far (p := ⟨gb344, 3, none⟩) (Kd.N_far (p := ⟨gb344, 2, none⟩) (Kd.N_far (p := ⟨gb344, 1, none⟩) (Kd.N_far (p := ⟨gb344, 0, none⟩) (Kd.N_mono HO337.out (fun k_ hk => (⟨hk, hk.2⟩ : _ ∧ k_ ≠ gb344))) (fun _ hk => hk.2) (.int .i64 a1)) (fun _ hk => hk.2) (.int .i64 a2)) (fun _ hk => hk.2) (.int .i64 t339)) (fun _ hk => hk.2) (.slice Ao36 t340.length co36)) (fun _ hk => hk.2) (.int .i64 t343)) (fun _ hk => ⟨hk.1.1.1.1, ⟨hk.1.1.2, ⟨hk.1.1.1.2, hk.1.2⟩⟩⟩)))⟩; have n1_ : Aside0 (Kd.R (Kd.int .u8) 5 w40 w.heap.size (fun k_ => (w.heap.size ≤ k_)) (.slice Ao36 t340.length co36) t340) := ⟨(by rw [hw]; exact (by (with_reducible repeat (first | apply Kd.R_alloc | apply Kd.R_drewN | apply Kd.R_drew)); exact Kd.R_mono (Kd.R_far (p := ⟨gb344, 4, none⟩) (Kd.R_far (p := ⟨gb344, 3, none⟩) (Kd.R_far (p := ⟨gb344, 2, none⟩) (Kd.R_far (p := ⟨gb344, 1, none⟩) (Kd.R_far (p := ⟨gb344, 0, none⟩) (Kd.R_types HO342.out BK344.out (by decide)) (fun _ hk => hk.2) (.int .i64 a1)) (fun _ hk => hk.2) (.int .i64 a2)) (fun _ hk => hk.2) (.int .i64 t339)) (fun _ hk => hk.2) (.slice Ao36 t340.length co36)) (fun _ hk => hk.2) (.int .i64 t343)) (fun _ hk => hk.1.1)))⟩; have n2_ : Aside0 (w40.heap[gb334]? = some (.cells #[.int .i64 a3_0, .slice A3_1 l3_1.length c3_1, .int .i64 a3_2] 26 (0, 0))) := ⟨(by rw [hw]; exact (by (with_reducible repeat (first | refine blk_drewN ?_ _ | refine blk_drew ?_ | refine blk_alloc ?_ _)); refine blk_far ?_ NB334_344.out _; (with_reducible repeat (first | refine blk_drewN ?_ _ | refine blk_drew ?_ | refine blk_alloc ?_ _)); refine blk_far ?_ NB334_344.out _; (with_reducible repeat (first | refine blk_drewN ?_ _ | refine blk_drew ?_ | refine blk_alloc ?_ _)); refine blk_far ?_ NB334_344.out _; (with_reducible repeat (first | refine blk_drewN ?_ _ | refine blk_drew ?_ | refine blk_alloc ?_ _)); refine blk_far ?_ NB334_344.out _; (with_reducible repeat (first | refine blk_drewN ?_ _ | refine blk_drew ?_ | refine blk_alloc ?_ _)); refine blk_far ?_ NB334_344.out _; (with_reducible repeat (first | refine blk_drewN ?_ _ | refine blk_drew ?_ | refine blk_alloc ?_ _)); exact BK334.out))⟩; have n3_ : Aside0 (w40.heap[gb344]? = some (.cells #[.int .i64 a1, .int .i64 a2, .int .i64 t339, .slice Ao36 t340.length co36, .int .i64 t343] 31 (0, 0))) := ⟨(by rw [hw]; exact (by (with_reducible repeat (first | refine blk_drewN ?_ _ | refine blk_drew ?_ | refine blk_alloc ?_ _)); refine blk_put (cs := #[.int .i64 a1, .int .i64 a2, .int .i64 t339, .slice Ao36 t340.length co36, .int .i64 0]) ?_ 4 _ rfl; (with_reducible repeat (first | refine blk_drewN ?_ _ | refine blk_drew ?_ | refine blk_alloc ?_ _)); refine blk_put (cs := #[.int .i64 a1, .int .i64 a2, .int .i64 t339, .slice none 0 0, .int .i64 0]) ?_ 3 _ rfl; (with_reducible repeat (first | refine blk_drewN ?_ _ | refine blk_drew ?_ | refine blk_alloc ?_ _)); refine blk_put (cs := #[.int .i64 a1, .int .i64 a2, .int .i64 0, .slice none 0 0, .int .i64 0]) ?_ 2 _ rfl; (with_reducible repeat (first | refine blk_drewN ?_ _ | refine blk_drew ?_ | refine blk_alloc ?_ _)); refine blk_put (cs := #[.int .i64 a1, .int .i64 0, .int .i64 0, .slice none 0 0, .int .i64 0]) ?_ 1 _ rfl; (with_reducible repeat (first | refine blk_drewN ?_ _ | refine blk_drew ?_ | refine blk_alloc ?_ _)); refine blk_put (cs := #[.int .i64 0, .int .i64 0, .int .i64 0, .slice none 0 0, .int .i64 0]) ?_ 0 _ rfl; (with_reducible repeat (first | refine blk_drewN ?_ _ | refine blk_drew ?_ | refine blk_alloc ?_ _)); exact BK344.out))⟩; have n4_ : Aside0 (Below w.heap.size w w40) := ⟨(by rw [hw]; exact (by repeat (first | (with_reducible first | exact HB.out | apply below_alloc | apply pw_below_drewN | apply below_drew1 | refine below_set ?_ GE334.out | refine below_set ?_ GE344.out) | exact HB.out)))⟩; clear hw; clear HO337; clear HO342; clear BK334; clear BK344; clear HB; have HO337 := n0_; have HO342 := n1_; have BK334 := n2_; have BK344 := n3_; have HB := n4_; clear n0_ n1_ n2_ n3_ n4_; obtain ⟨Ao41, co41, eo41⟩ := Kd.N_slice HO337.out; subst eo41; have p345 : 0 ≤ (t338 : Int) := of_decide_eq_true (by first | (with_reducible assumption) | assumption); have q345 : t338 < (t335.length : Int) := of_decide_eq_true (by first | (with_reducible assumption) | assumption); obtain ⟨ad345, A345_3, c345_3, e345, hx345_0, hx345_1, hx345_2, hx345_3, hx345_4, hl345_3, hi345_3⟩ := at_T31 (Kd.N_reads' HO337.out).2.2 t338 p345 q345; cases e345; obtain ⟨ce345, hce345, hMe345, hcc345⟩ := Kd.N_get HO337.out z31 t338 p345 (by first | exact q345 | exact of_decide_eq_true (by first | (with_reducible assumption) | assumption) | (have e_ := (Kd.N_reads' HO337.out).1; omega)); obtain ⟨ua345_3, uc345_3, rfl, ul345_3, ge345_3⟩ := k31_openF hMe345; have hv345_3 := hcc345 3 _ rfl; rw [add_field _ _ 3 (by omega)] at hv345_3; replace hv345_3 := Option.some.inj (hv345_3.symm.trans hx345_3); injection hv345_3 with hva_ hvn_ hvc_; rw [hva_] at ge345_3; rw [hvc_] at ul345_3; have HL345_3 := Aside0.mk (show Kd.V (Kd.int .u8) 5 _ w.heap.size _ _ ((rd_T31 t335 t338).f2.f1) from Kd.V_mk ul345_3 ge345_3); clear hva_ hvn_ hvc_ ge345_3 ul345_3; clear hcc345 hce345; have HR345_3 := Aside0.mk hi345_3; have HC345_3 := Aside0.mk hl345_3; clear hi345_3 hl345_3; replace p345 := eq_true p345; replace q345 := eq_true q345))
                have n0_ := Aside0.mk (Kd.N_drew HO337.out)
                have n1_ := Aside0.mk (Kd.R_drew HO342.out)
                have n2_ := Aside0.mk (Kd.V_drew HL345_3.out)
                have n3_ := Aside0.mk (blk_drew BK334.out)
                have n4_ := Aside0.mk (blk_drew BK344.out)
                have n5_ := Aside0.mk (Kd.C_drew HR345_3.out)
                have n6_ := Aside0.mk (below_drew1 HB.out)
                clear HO337
                clear HO342
                clear HL345_3
                clear BK334
                clear BK344
                clear HR345_3
                clear HB
                have HO337 := n0_
                have HO342 := n1_
                have HL345_3 := n2_
                have BK334 := n3_
                have BK344 := n4_
                have HR345_3 := n5_
                have HB := n6_
                clear n0_ n1_ n2_ n3_ n4_ n5_ n6_
                have q43 : (t338 : Int) ≤ ((t335.length : Int) : Int) := of_decide_eq_true (by first | (with_reducible assumption) | assumption)
                obtain ⟨i043, hi043, _, hsz43, _⟩ := info_parts info31
                have hroom43 : t335.length ≤ co41 := (Kd.N_reads' HO337.out).2.1
                have hC43 : Kd.F k31 _ _ (some ad345) t335.length t335 := (Kd.V_at (base := w.heap.size) (Kd.N_V HO337.out)).2.2
                have hcut43 := cut_to (P := Try.prog) 22 31 .i64 Try.underlying22 hi043 (some ad345) t335.length co41 t338 (of_decide_eq_true (by first | (with_reducible assumption) | assumption)) q43 hroom43
                have hr43 := Kd.F_take (m := (t338 : Int).toNat) hC43 (by omega)
                have hy43 : y350.length = (t338 : Int).toNat := (by rw [Ny350.out, List.length_take]; omega)
                rw [← Ny350.out] at hr43
                rw [← hy43] at hcut43
                have HO354 := Aside0.mk (show Kd.V k31 31 _ w.heap.size _ (.slice (some ad345) y350.length co41) y350 from Kd.V_mk (by omega) hr43)
                have HC354 := Aside0.mk (show y350.length ≤ co41 from by omega)
                clear hr43 hC43 hroom43 hi043 hsz43
                have KY43 := Aside0.mk hy43
                clear hy43
                replace q43 := eq_true q43
                have q44 : (t338 : Int) ≤ ((t335.length : Int) : Int) := of_decide_eq_true (by first | (with_reducible assumption) | assumption)
                obtain ⟨i044, hi044, _, hsz44, _⟩ := info_parts info31
                have hroom44 : t335.length ≤ co41 := (Kd.N_reads' HO337.out).2.1
                have hC44 : Kd.F k31 _ _ (some ad345) t335.length t335 := (Kd.V_at (base := w.heap.size) (Kd.N_V HO337.out)).2.2
                have q044 : (0 : Int) ≤ (t338 : Int) := of_decide_eq_true (by first | (with_reducible assumption) | assumption)
                have hcut44 := cut_from (P := Try.prog) 22 31 .i64 Try.underlying22 hi044 5 hsz44 (some ad345) t335.length co41 t338 q044 q44
                have hr44 := Kd.F_cut (m := (t338 : Int).toNat) (c := co41) hC44 (by omega) hroom44
                obtain ⟨A44, hA44⟩ : ∃ A1, A1 = (if co41 = (t338 : Int).toNat then (some ad345) else ((some ad345) : Option Addr).map (·.add ((t338 : Int).toNat * 5))) := ⟨_, rfl⟩
                obtain ⟨c44, hc44⟩ : ∃ c1, c1 = co41 - (t338 : Int).toNat := ⟨_, rfl⟩
                have hy44 : y364.length = t335.length - (t338 : Int).toNat := (by rw [Ny364.out, List.length_drop] <;> omega)
                rw [show (t335).drop (t338 : Int).toNat = y364 from Ny364.out.symm] at hr44
                replace hr44 : Kd.F k31 _ _ A44 y364.length y364 := (by rw [hA44]; exact hr44)
                rw [← hy44, ← hA44, ← hc44] at hcut44
                have HO368 := Aside0.mk (show Kd.V k31 31 _ w.heap.size _ (.slice A44 y364.length c44) y364 from Kd.V_mk (by rw [hy44, hc44]; exact Nat.sub_le_sub_right hroom44 _) hr44)
                have HC368 := Aside0.mk (show y364.length ≤ c44 from by rw [hy44, hc44]; exact Nat.sub_le_sub_right hroom44 _)
                clear hr44 hC44 hroom44 hi044 hsz44 hc44
                have KY44 := Aside0.mk hy44
                have KA44 := Aside0.mk hA44
                clear hy44 hA44
                replace q44 := eq_true q44
                refine start_ (n := 13) (S := fun w' => w'.cell? ⟨gb344, 0, none⟩ = some (.int .i64 a1) ∧ w'.cell? ⟨gb344, 1, none⟩ = some (.int .i64 a2) ∧ w'.cell? ⟨gb344, 2, none⟩ = some (.int .i64 t339) ∧ w'.cell? ⟨gb344, 3, none⟩ = some (.slice Ao36 t340.length co36) ∧ w'.cell? ⟨gb344, 4, none⟩ = some (.int .i64 t343)) (ds := []) #[false, false, false, false, false, false, false, false, false, false, false, false, false] (by kernel_rfl) rfl rfl ⟨(blk_cell BK344.out 0).trans rfl, (blk_cell BK344.out 1).trans rfl, (blk_cell BK344.out 2).trans rfl, (blk_cell BK344.out 3).trans rfl, (blk_cell BK344.out 4).trans rfl⟩ (fun hHeld => ?_); refine with_tabW hocketref4_PutLast.tab7 hocketref4_PutLast.bits7 (fun HT_ HW_ => ?_)
                generalize w40.drew = w42 at HO337 HO342 HL345_3 BK334 BK344 HR345_3 HB HO354 HO368 hHeld ⊢
                refine pure_ (i := 1) (N := some 41) (v := ?_) (a' := ?_) #[false, true, false, false, false, false, false, false, false, false, false, false, false] rfl rfl (any_of HT_.out (by kernel_rfl)) (fun _ _ _ h => h) (Or.inl ⟨by rfl, ?_⟩) ?_ ?_
                rotate_left
                · intro w'
                  go_simp
                  with_reducible rfl
                rotate_left
                · simp only [Act.put, List.setIfInBounds_toArray, List.set_cons_zero, List.set_cons_succ, i64_w, i32_w]
                  rfl
                refine pure_ (i := 2) (N := some 42) (v := ?_) (a' := ?_) #[false, true, true, false, false, false, false, false, false, false, false, false, false] rfl rfl (any_of HT_.out (by kernel_rfl)) (fun _ _ _ h => h) (Or.inl ⟨by rfl, ?_⟩) ?_ ?_
                rotate_left
                · intro w'
                  go_simp
                  with_reducible rfl
                rotate_left
                · simp only [Act.put, List.setIfInBounds_toArray, List.set_cons_zero, List.set_cons_succ, i64_w, i32_w]
                  rfl
                refine pure_ (i := 3) (N := some 43) (v := ?_) (a' := ?_) #[false, true, true, true, false, false, false, false, false, false, false, false, false] rfl rfl (any_of HT_.out (by kernel_rfl)) (fun _ _ _ h => h) (Or.inl ⟨by rfl, ?_⟩) ?_ ?_
                rotate_left
                · intro w'
                  go_simp
                  with_reducible rfl
                rotate_left
                · simp only [Act.put, List.setIfInBounds_toArray, List.set_cons_zero, List.set_cons_succ, i64_w, i32_w]
                  rfl
                refine pure_ (i := 8) (N := some 48) (v := ?_) (a' := ?_) #[false, true, true, true, false, false, false, false, true, false, false, false, false] rfl rfl (any_of HT_.out (by kernel_rfl)) (fun _ _ _ h => h) (Or.inl ⟨by rfl, ?_⟩) ?_ ?_
                rotate_left
                · intro w'
                  go_simp
                  with_reducible rfl
                rotate_left
                · simp only [Act.put, List.setIfInBounds_toArray, List.set_cons_zero, List.set_cons_succ, i64_w, i32_w]
                  rfl
                refine pure_ (i := 9) (N := some 49) (v := ?_) (a' := ?_) #[false, true, true, true, false, false, false, false, true, true, false, false, false] rfl rfl (any_of HT_.out (by kernel_rfl)) (fun _ _ _ h => h) (Or.inl ⟨by rfl, ?_⟩) ?_ ?_
                rotate_left
                · intro w'
                  go_simp
                  with_reducible rfl
                rotate_left
                · simp only [Act.put, List.setIfInBounds_toArray, List.set_cons_zero, List.set_cons_succ, i64_w, i32_w]
                  rfl
                refine pure_ (i := 10) (N := some 50) (v := ?_) (a' := ?_) #[false, true, true, true, false, false, false, false, true, true, true, false, false] rfl rfl (any_of HT_.out (by kernel_rfl)) (fun _ _ _ h => h) (Or.inl ⟨by rfl, ?_⟩) ?_ ?_
                rotate_left
                · intro w'
                  go_simp
                  with_reducible rfl
                rotate_left
                · simp only [Act.put, List.setIfInBounds_toArray, List.set_cons_zero, List.set_cons_succ, i64_w, i32_w]
                  rfl
                refine take_ (i := 5) (N := some 45) (v := ?_) (a' := ?_) #[false, true, true, true, false, true, false, false, true, true, true, false, false] rfl rfl (take_ofW HT_.out HW_.out (by kernel_rfl)) (fun _ _ _ h => h) (Or.inl ⟨by rfl, ?_⟩) hHeld ?_ ?_
                rotate_left
                · rintro w' ⟨s0, s1, s2, s3, s4⟩
                  go_simp
                  with_reducible rfl
                rotate_left
                · simp only [Act.put, List.setIfInBounds_toArray, List.set_cons_zero, List.set_cons_succ, i64_w, i32_w]
                  rfl
                refine join_ (σ := Value × Value × Value) 3 #[true, true, true, true, true, true, true, false, true, true, true, false, false] (fun s_ => [(40, s_.1), (44, s_.2.1), (46, s_.2.2)]) (fun s_ w' => (w'.cell? ⟨gb344, 0, none⟩ = some (.int .i64 a1) ∧ w'.cell? ⟨gb344, 1, none⟩ = some (.int .i64 a2) ∧ w'.cell? ⟨gb344, 2, none⟩ = some (.int .i64 t339) ∧ w'.cell? ⟨gb344, 3, none⟩ = some (.slice Ao36 t340.length co36) ∧ w'.cell? ⟨gb344, 4, none⟩ = some (.int .i64 t343)) ∧ (Kd.V (Kd.int .u8) 5 w' w.heap.size (fun k_ => (w.heap.size ≤ k_) ∧ some k_ ≠ (.slice (some ad345) t335.length co41 : Value).ownBlock ∧ some k_ ≠ (s_.2.1 : Value).ownBlock ∧ some k_ ≠ (s_.2.2 : Value).ownBlock ∧ k_ ≠ gb334 ∧ k_ ≠ gb344) (.slice A345_3 ((rd_T31 t335 t338).f2.f1).length c345_3) ((rd_T31 t335 t338).f2.f1)) ∧ (Kd.N k31 31 w' w.heap.size (fun k_ => (w.heap.size ≤ k_) ∧ some k_ ≠ (s_.2.1 : Value).ownBlock ∧ some k_ ≠ (s_.2.2 : Value).ownBlock ∧ k_ ≠ gb334 ∧ k_ ≠ gb344) (.slice (some ad345) t335.length co41) t335) ∧ (Kd.V k31 31 w' w.heap.size (fun k_ => (w.heap.size ≤ k_) ∧ some k_ ≠ (s_.2.1 : Value).ownBlock ∧ some k_ ≠ (s_.2.2 : Value).ownBlock ∧ k_ ≠ gb334 ∧ k_ ≠ gb344) (.slice (some ad345) y350.length co41) y350) ∧ (Kd.N k31 31 w' w.heap.size (fun k_ => (w.heap.size ≤ k_) ∧ some k_ ≠ (s_.2.2 : Value).ownBlock ∧ k_ ≠ gb334 ∧ k_ ≠ gb344) s_.2.1 y355) ∧ (Kd.N k31 31 w' w.heap.size (fun k_ => (w.heap.size ≤ k_) ∧ some k_ ≠ (.slice (some ad345) t335.length co41 : Value).ownBlock ∧ some k_ ≠ (s_.2.1 : Value).ownBlock ∧ k_ ≠ gb334 ∧ k_ ≠ gb344) s_.2.2 y358) ∧ (Kd.V k31 31 w' w.heap.size (fun k_ => (w.heap.size ≤ k_) ∧ some k_ ≠ (s_.2.1 : Value).ownBlock ∧ some k_ ≠ (s_.2.2 : Value).ownBlock ∧ k_ ≠ gb334 ∧ k_ ≠ gb344) (.slice A44 y364.length c44) y364) ∧ (w'.heap[gb334]? = some (.cells #[.int .i64 a3_0, .slice A3_1 l3_1.length c3_1, .int .i64 a3_2] 26 (0, 0))) ∧ (w'.heap[gb344]? = some (.cells #[.int .i64 a1, .int .i64 a2, .int .i64 t339, .slice Ao36 t340.length co36, .int .i64 t343] 31 (0, 0))) ∧ (Below w.heap.size w w')) ?_ ?_
                rotate_left
                · intro hCont
                  refine two_ (i := 0) (j := 6) (Ni := some 40) (Nj := some 46) #[true, true, true, true, false, true, false, false, true, true, true, false, false] #[false, true, true, true, false, true, true, false, true, true, true, false, false] rfl rfl rfl rfl (two_of HT_.out (by kernel_rfl)) (by decide) (by decide) (fun K hK => ?_) (fun K hK => ?_)
                  · skip
                    refine Kd.N_lit_step k31 _ 31 ?hg (N' := 40) ?hd (xs := ([] : List (S31))) (inner := []) (ok := (fun k_ => (w.heap.size ≤ k_) ∧ some k_ ≠ (.slice (some ad345) t335.length co41 : Value).ownBlock ∧ some k_ ≠ (.slice Ao36 t340.length co36 : Value).ownBlock ∧ k_ ≠ gb334 ∧ k_ ≠ gb344)) (okp := (fun k_ => (w.heap.size ≤ k_) ∧ some k_ ≠ (.slice (some ad345) t335.length co41 : Value).ownBlock ∧ some k_ ≠ (.slice Ao36 t340.length co36 : Value).ownBlock ∧ k_ ≠ gb334 ∧ k_ ≠ gb344)) ?hr ?hp (fun _ hk => hk) ((show ∀ k_, w42.heap.size ≤ k_ → (fun k_ => (w.heap.size ≤ k_) ∧ some k_ ≠ (.slice (some ad345) t335.length co41 : Value).ownBlock ∧ some k_ ≠ (.slice Ao36 t340.length co36 : Value).ownBlock ∧ k_ ≠ gb334 ∧ k_ ≠ gb344) k_ from fun k_ hk => ⟨(Nat.le_trans (below_size (by repeat (first | (with_reducible first | exact HB.out | apply below_alloc | apply pw_below_drewN | apply below_drew1 | refine below_set ?_ GE334.out | refine below_set ?_ GE344.out) | exact HB.out))) hk), Kd.fresh' (Kd.N_lt (by (with_reducible repeat (first | apply Kd.N_alloc | apply Kd.N_drewN | apply Kd.N_drew)); exact HO337.out)) k_ hk, Kd.fresh' (Kd.R_lt (by (with_reducible repeat (first | apply Kd.R_alloc | apply Kd.R_drewN | apply Kd.R_drew)); exact HO342.out)) k_ hk, Kd.freshB (g := gb334) (o := .cells #[.int .i64 a3_0, .slice A3_1 l3_1.length c3_1, .int .i64 a3_2] 26 (0, 0)) (by (with_reducible repeat (first | refine blk_drewN ?_ _ | refine blk_drew ?_ | refine blk_alloc ?_ _)); exact BK334.out) k_ hk, Kd.freshB (g := gb344) (o := .cells #[.int .i64 a1, .int .i64 a2, .int .i64 t339, .slice Ao36 t340.length co36, .int .i64 t343] 31 (0, 0)) (by (with_reducible repeat (first | refine blk_drewN ?_ _ | refine blk_drew ?_ | refine blk_alloc ?_ _)); exact BK344.out) k_ hk⟩) _ (Nat.le_refl _)) (Below.refl _ _) (Nat.le_refl _) (by simp) ?_; (case hd => rfl); (case hg => rfl); (case hr => first | (go_simp; done) | (go_simp; rfl)); (case hp => exact (Reps.none _ _))
                    intro v348 w45 ho46 hb hg_ hnew_
                    clear hg_ hnew_
                    (first | rw [← Ny347.out] at ho46 | (simp only [Int.reduceToNat] at ho46; rw [← Ny347.out] at ho46))
                    have n0_ := Aside0.mk (Kd.N_elder' (by (with_reducible repeat (first | apply Kd.N_alloc | apply Kd.N_drewN | apply Kd.N_drew)); exact HO337.out) (Kd.N_base ho46) hb)
                    have n1_ := Aside0.mk (Kd.R_below (by (with_reducible repeat (first | apply Kd.R_alloc | apply Kd.R_drewN | apply Kd.R_drew)); exact HO342.out) hb)
                    have n2_ := Aside0.mk (Kd.V_elder' (by (with_reducible repeat (first | apply Kd.V_alloc | apply Kd.V_drewN | apply Kd.V_drew)); exact HL345_3.out) (Kd.N_base ho46) hb)
                    have n3_ := Aside0.mk (Kd.V_elder' (by (with_reducible repeat (first | apply Kd.V_alloc | apply Kd.V_drewN | apply Kd.V_drew)); exact HO354.out) (Kd.N_base ho46) hb)
                    have n4_ := Aside0.mk (Kd.V_elder' (by (with_reducible repeat (first | apply Kd.V_alloc | apply Kd.V_drewN | apply Kd.V_drew)); exact HO368.out) (Kd.N_base ho46) hb)
                    have n5_ := Aside0.mk (Kd.N_lower ho46 (below_size (by repeat (first | (with_reducible first | exact HB.out | apply below_alloc | apply pw_below_drewN | apply below_drew1 | refine below_set ?_ GE334.out | refine below_set ?_ GE344.out) | exact HB.out))))
                    have n6_ := Aside0.mk (blk_below (g := gb334) (o := .cells #[.int .i64 a3_0, .slice A3_1 l3_1.length c3_1, .int .i64 a3_2] 26 (0, 0)) (by (with_reducible repeat (first | refine blk_drewN ?_ _ | refine blk_drew ?_ | refine blk_alloc ?_ _)); exact BK334.out) hb)
                    have n7_ := Aside0.mk (blk_below (g := gb344) (o := .cells #[.int .i64 a1, .int .i64 a2, .int .i64 t339, .slice Ao36 t340.length co36, .int .i64 t343] 31 (0, 0)) (by (with_reducible repeat (first | refine blk_drewN ?_ _ | refine blk_drew ?_ | refine blk_alloc ?_ _)); exact BK344.out) hb)
                    have n8_ := Aside0.mk (Kd.C_below (by repeat (first | (with_reducible exact HR345_3.out) | (with_reducible refine Kd.C_alloc ?_ _) | (with_reducible refine Kd.C_drewN ?_ _) | (with_reducible refine Kd.C_drew ?_) | exact HR345_3.out)) hb)
                    have n9_ := Aside0.mk (below_step (by repeat (first | (with_reducible first | exact HB.out | apply below_alloc | apply pw_below_drewN | apply below_drew1 | refine below_set ?_ GE334.out | refine below_set ?_ GE344.out) | exact HB.out)) hb)
                    clear HO337
                    clear HO342
                    clear HL345_3
                    clear HO354
                    clear HO368
                    clear BK334
                    clear BK344
                    clear HR345_3
                    clear HB
                    have HO337 := n0_
                    have HO342 := n1_
                    have HL345_3 := n2_
                    have HO354 := n3_
                    have HO368 := n4_
                    have HO349 := n5_
                    have BK334 := n6_
                    have BK344 := n7_
                    have HR345_3 := n8_
                    have HB := n9_
                    clear n0_ n1_ n2_ n3_ n4_ n5_ n6_ n7_ n8_ n9_
                    clear hb ho46
                    refine hK.out _ _ ⟨(blk_cell BK344.out 0).trans rfl, (blk_cell BK344.out 1).trans rfl, (blk_cell BK344.out 2).trans rfl, (blk_cell BK344.out 3).trans rfl, (blk_cell BK344.out 4).trans rfl⟩ (fun hHeld => ?_)
                    clear hK K
                    refine norm_ (a' := ?_) ?_ ?_
                    rotate_left
                    · show Act.put _ (some 40) _ = _
                      simp only [Act.put, List.setIfInBounds_toArray, List.set_cons_zero, List.set_cons_succ, i64_w, i32_w]
                      rfl
                    refine two_ (i := 4) (j := 6) (Ni := some 44) (Nj := some 46) #[true, true, true, true, true, true, false, false, true, true, true, false, false] #[true, true, true, true, false, true, true, false, true, true, true, false, false] rfl rfl rfl rfl (two_of HT_.out (by kernel_rfl)) (by decide) (by decide) (fun K hK => ?_) (fun K hK => ?_)
                    · skip
                      refine Kd.N_append_rows_step k31 (w0 := w) w.heap.size (by rfl) (.tmp 40) (.tmp 43) 22 31 (.agg #[(.int .i64 0), (.int .i64 0), (.int .i64 0), (.slice none 0 0), (.int .i64 0)]) 56 rfl Try.underlying22 info31 rfl (by decide) (by omega) v348 y347 y350 _ _ _ (fun k_ => (w.heap.size ≤ k_) ∧ some k_ ≠ (.slice Ao36 t340.length co36 : Value).ownBlock ∧ k_ ≠ gb334 ∧ k_ ≠ gb344) (fun k_ => ((fun k_ => (w.heap.size ≤ k_) ∧ some k_ ≠ (.slice Ao36 t340.length co36 : Value).ownBlock ∧ k_ ≠ gb334 ∧ k_ ≠ gb344)) k_ ∧ some k_ ≠ (v348 : Value).ownBlock) rfl rfl ?aO ?aR (fun _ hk => hk) ?aF ?aB ?aS ?aL ?_
                      (case aR => exact (by skip; exact Kd.V_F (Kd.V_mono (ok' := (fun k_ => ((fun k_ => (w.heap.size ≤ k_) ∧ some k_ ≠ (.slice Ao36 t340.length co36 : Value).ownBlock ∧ k_ ≠ gb334 ∧ k_ ≠ gb344)) k_ ∧ some k_ ≠ (v348 : Value).ownBlock)) (HO354.out) (fun k_ hk => ⟨⟨hk.1.1, ⟨hk.1.2.1, ⟨hk.1.2.2.1, hk.1.2.2.2⟩⟩⟩, hk.2⟩))))
                      (case aB => exact (by repeat (first | (with_reducible first | exact HB.out | apply below_alloc | apply pw_below_drewN | apply below_drew1 | refine below_set ?_ GE334.out | refine below_set ?_ GE344.out) | exact HB.out)))
                      (case aF => exact (fun k_ hk => ⟨(Nat.le_trans (below_size (by repeat (first | (with_reducible first | exact HB.out | apply below_alloc | apply pw_below_drewN | apply below_drew1 | refine below_set ?_ GE334.out | refine below_set ?_ GE344.out) | exact HB.out))) hk), Kd.fresh' (Kd.R_lt (by (with_reducible repeat (first | apply Kd.R_alloc | apply Kd.R_drewN | apply Kd.R_drew)); exact HO342.out)) k_ hk, Kd.freshB (g := gb334) (o := .cells #[.int .i64 a3_0, .slice A3_1 l3_1.length c3_1, .int .i64 a3_2] 26 (0, 0)) (by (with_reducible repeat (first | refine blk_drewN ?_ _ | refine blk_drew ?_ | refine blk_alloc ?_ _)); exact BK334.out) k_ hk, Kd.freshB (g := gb344) (o := .cells #[.int .i64 a1, .int .i64 a2, .int .i64 t339, .slice Ao36 t340.length co36, .int .i64 t343] 31 (0, 0)) (by (with_reducible repeat (first | refine blk_drewN ?_ _ | refine blk_drew ?_ | refine blk_alloc ?_ _)); exact BK344.out) k_ hk⟩))
                      (case aO => exact (by (with_reducible repeat (first | apply Kd.N_alloc | apply Kd.N_drewN | apply Kd.N_drew)); exact Kd.N_mono HO349.out (fun _ hk => ⟨hk.1, ⟨hk.2.2.1, ⟨hk.2.2.2.1, hk.2.2.2.2⟩⟩⟩)))
                      (case aS => exact (below_size (by repeat (first | (with_reducible first | exact HB.out | apply below_alloc | apply pw_below_drewN | apply below_drew1 | refine below_set ?_ GE334.out | refine below_set ?_ GE344.out) | exact HB.out))))
                      (case aL => have := LMc27.out; omega)
                      intro v356 w47 ho hb hg hat
                      rw [← Ny355.out] at ho
                      have n0_ := Aside0.mk (blk_grown (g := gb334) (o := .cells #[.int .i64 a3_0, .slice A3_1 l3_1.length c3_1, .int .i64 a3_2] 26 (0, 0)) (by (with_reducible repeat (first | refine blk_drewN ?_ _ | refine blk_drew ?_ | refine blk_alloc ?_ _)); exact BK334.out) hg (Kd.N_ne HO349.out BK334.out (by decide)))
                      have n1_ := Aside0.mk (Kd.N_afterv (ok := (fun k_ => (w.heap.size ≤ k_) ∧ some k_ ≠ (.slice Ao36 t340.length co36 : Value).ownBlock ∧ k_ ≠ gb334 ∧ k_ ≠ gb344)) (by (with_reducible repeat (first | apply Kd.N_alloc | apply Kd.N_drewN | apply Kd.N_drew)); exact HO337.out) hg hat)
                      have n2_ := Aside0.mk (Kd.R_over' (by (with_reducible repeat (first | apply Kd.R_alloc | apply Kd.R_drewN | apply Kd.R_drew)); exact HO342.out) (Kd.N_typed (by (with_reducible repeat (first | apply Kd.N_alloc | apply Kd.N_drewN | apply Kd.N_drew)); exact HO349.out)) (by decide) hg)
                      have n3_ := Aside0.mk (blk_grown (g := gb344) (o := .cells #[.int .i64 a1, .int .i64 a2, .int .i64 t339, .slice Ao36 t340.length co36, .int .i64 t343] 31 (0, 0)) (by (with_reducible repeat (first | refine blk_drewN ?_ _ | refine blk_drew ?_ | refine blk_alloc ?_ _)); exact BK344.out) hg (Kd.N_away HO349.out (fun _ hk => hk.2.2.2.2)))
                      have n4_ := Aside0.mk (Kd.V_afterv (ok := (fun k_ => (w.heap.size ≤ k_) ∧ some k_ ≠ (.slice (some ad345) t335.length co41 : Value).ownBlock ∧ some k_ ≠ (.slice Ao36 t340.length co36 : Value).ownBlock ∧ k_ ≠ gb334 ∧ k_ ≠ gb344)) (by (with_reducible repeat (first | apply Kd.V_alloc | apply Kd.V_drewN | apply Kd.V_drew)); exact Kd.V_mono HL345_3.out (fun _ hk => ⟨⟨hk.1.1.1, ⟨hk.1.2, ⟨hk.1.1.2.1, ⟨hk.1.1.2.2.1, hk.1.1.2.2.2⟩⟩⟩⟩, hk.2⟩)) hg hat)
                      have n5_ := Aside0.mk (Kd.V_afterv (ok := (fun k_ => (w.heap.size ≤ k_) ∧ some k_ ≠ (.slice Ao36 t340.length co36 : Value).ownBlock ∧ k_ ≠ gb334 ∧ k_ ≠ gb344)) (by (with_reducible repeat (first | apply Kd.V_alloc | apply Kd.V_drewN | apply Kd.V_drew)); exact HO354.out) hg hat)
                      have n6_ := Aside0.mk (Kd.V_afterv (ok := (fun k_ => (w.heap.size ≤ k_) ∧ some k_ ≠ (.slice Ao36 t340.length co36 : Value).ownBlock ∧ k_ ≠ gb334 ∧ k_ ≠ gb344)) (by (with_reducible repeat (first | apply Kd.V_alloc | apply Kd.V_drewN | apply Kd.V_drew)); exact HO368.out) hg hat)
                      have n7_ := Aside0.mk (hb)
                      have n8_ := Aside0.mk (ho)
                      clear BK334
                      clear HO337
                      clear HO342
                      clear BK344
                      clear HL345_3
                      clear HO354
                      clear HO368
                      clear HB
                      clear HO349
                      have BK334 := n0_
                      have HO337 := n1_
                      have HO342 := n2_
                      have BK344 := n3_
                      have HL345_3 := n4_
                      have HO354 := n5_
                      have HO368 := n6_
                      have HB := n7_
                      have HO357 := n8_
                      clear n0_ n1_ n2_ n3_ n4_ n5_ n6_ n7_ n8_
                      clear ho hb hg hat
                      refine hK.out _ _ ⟨(blk_cell BK344.out 0).trans rfl, (blk_cell BK344.out 1).trans rfl, (blk_cell BK344.out 2).trans rfl, (blk_cell BK344.out 3).trans rfl, (blk_cell BK344.out 4).trans rfl⟩ (fun hHeld => ?_)
                      clear hK K
                      refine norm_ (a' := ?_) ?_ ?_
                      rotate_left
                      · show Act.put _ (some 44) _ = _
                        simp only [Act.put, List.setIfInBounds_toArray, List.set_cons_zero, List.set_cons_succ, i64_w, i32_w]
                        rfl
                      refine one_ (i := 6) (N := some 46) #[true, true, true, true, true, true, true, false, true, true, true, false, false] rfl rfl (one_of HT_.out (by kernel_rfl)) (by decide) (fun K hK => ?_)
                      refine Kd.N_lit_step k31 _ 31 ?hg (N' := 46) ?hd (xs := ([(⟨a1, a2, (⟨t339, t340, t343⟩ : S26)⟩ : S31)] : List (S31))) (inner := [.int .i64 a1, .int .i64 a2, .int .i64 t339, .slice Ao36 t340.length co36, .int .i64 t343]) (ok := (fun k_ => (w.heap.size ≤ k_) ∧ some k_ ≠ (.slice (some ad345) t335.length co41 : Value).ownBlock ∧ some k_ ≠ (v356 : Value).ownBlock ∧ k_ ≠ gb334 ∧ k_ ≠ gb344)) (okp := (fun k_ => (w.heap.size ≤ k_) ∧ some k_ ≠ (.slice (some ad345) t335.length co41 : Value).ownBlock ∧ some k_ ≠ (v356 : Value).ownBlock ∧ k_ ≠ gb334 ∧ k_ ≠ gb344)) ?hr ?hp (fun _ hk => hk) ((show ∀ k_, w47.heap.size ≤ k_ → (fun k_ => (w.heap.size ≤ k_) ∧ some k_ ≠ (.slice (some ad345) t335.length co41 : Value).ownBlock ∧ some k_ ≠ (v356 : Value).ownBlock ∧ k_ ≠ gb334 ∧ k_ ≠ gb344) k_ from fun k_ hk => ⟨(Nat.le_trans (below_size (by repeat (first | (with_reducible first | exact HB.out | apply below_alloc | apply pw_below_drewN | apply below_drew1 | refine below_set ?_ GE334.out | refine below_set ?_ GE344.out) | exact HB.out))) hk), Kd.fresh' (Kd.N_lt (by (with_reducible repeat (first | apply Kd.N_alloc | apply Kd.N_drewN | apply Kd.N_drew)); exact HO337.out)) k_ hk, Kd.fresh' (Kd.N_lt (by (with_reducible repeat (first | apply Kd.N_alloc | apply Kd.N_drewN | apply Kd.N_drew)); exact HO357.out)) k_ hk, Kd.freshB (g := gb334) (o := .cells #[.int .i64 a3_0, .slice A3_1 l3_1.length c3_1, .int .i64 a3_2] 26 (0, 0)) (by (with_reducible repeat (first | refine blk_drewN ?_ _ | refine blk_drew ?_ | refine blk_alloc ?_ _)); exact BK334.out) k_ hk, Kd.freshB (g := gb344) (o := .cells #[.int .i64 a1, .int .i64 a2, .int .i64 t339, .slice Ao36 t340.length co36, .int .i64 t343] 31 (0, 0)) (by (with_reducible repeat (first | refine blk_drewN ?_ _ | refine blk_drew ?_ | refine blk_alloc ?_ _)); exact BK344.out) k_ hk⟩) _ (Nat.le_refl _)) (Below.refl _ _) (Nat.le_refl _) (by simp) ?_; (case hd => rfl); (case hg => rfl); (case hr => first | (go_simp; done) | (go_simp; rfl)); (case hp => exact (Reps.c5 (show Kd.FK k31 _ _ (⟨a1, a2, (⟨t339, t340, t343⟩ : S26)⟩ : S31) [.int .i64 a1, .int .i64 a2, .int .i64 t339, .slice Ao36 t340.length co36, .int .i64 t343] from (k31_mkF _ _ (⟨a1, a2, (⟨t339, t340, t343⟩ : S26)⟩ : S31) (Kd.R_reads' (Kd.R_mono (ok' := (fun k_ => (w.heap.size ≤ k_) ∧ some k_ ≠ (.slice (some ad345) t335.length co41 : Value).ownBlock ∧ some k_ ≠ (v356 : Value).ownBlock ∧ k_ ≠ gb334 ∧ k_ ≠ gb344)) (Kd.R_types (Kd.R_types (Kd.R_apart' (Kd.R_apart' (HO342.out) (Kd.N_typed HO337.out) (by decide)) (Kd.N_typed HO357.out) (by decide)) BK334.out (by decide)) BK344.out (by decide)) (fun k_ hk => ⟨hk.1.1.1.1, ⟨hk.1.1.1.2, ⟨hk.1.1.2, ⟨hk.1.2, hk.2⟩⟩⟩⟩))).2.1 (Kd.R_F (Kd.R_mono (ok' := (fun k_ => (w.heap.size ≤ k_) ∧ some k_ ≠ (.slice (some ad345) t335.length co41 : Value).ownBlock ∧ some k_ ≠ (v356 : Value).ownBlock ∧ k_ ≠ gb334 ∧ k_ ≠ gb344)) (Kd.R_types (Kd.R_types (Kd.R_apart' (Kd.R_apart' (HO342.out) (Kd.N_typed HO337.out) (by decide)) (Kd.N_typed HO357.out) (by decide)) BK334.out (by decide)) BK344.out (by decide)) (fun k_ hk => ⟨hk.1.1.1.1, ⟨hk.1.1.1.2, ⟨hk.1.1.2, ⟨hk.1.2, hk.2⟩⟩⟩⟩))))) (Reps.none _ _)))
                      intro v359 w48 ho49 hb hg_ hnew_
                      clear hg_ hnew_
                      (first | rw [← Ny358.out] at ho49 | (simp only [Int.reduceToNat] at ho49; rw [← Ny358.out] at ho49))
                      have n0_ := Aside0.mk (Kd.N_elder' (by (with_reducible repeat (first | apply Kd.N_alloc | apply Kd.N_drewN | apply Kd.N_drew)); exact HO337.out) (Kd.N_base ho49) hb)
                      have n1_ := Aside0.mk (Kd.V_elder' (by (with_reducible repeat (first | apply Kd.V_alloc | apply Kd.V_drewN | apply Kd.V_drew)); exact HL345_3.out) (Kd.N_base ho49) hb)
                      have n2_ := Aside0.mk (Kd.V_elder' (by (with_reducible repeat (first | apply Kd.V_alloc | apply Kd.V_drewN | apply Kd.V_drew)); exact HO354.out) (Kd.N_base ho49) hb)
                      have n3_ := Aside0.mk (Kd.V_elder' (by (with_reducible repeat (first | apply Kd.V_alloc | apply Kd.V_drewN | apply Kd.V_drew)); exact HO368.out) (Kd.N_base ho49) hb)
                      have n4_ := Aside0.mk (Kd.N_elder' (by (with_reducible repeat (first | apply Kd.N_alloc | apply Kd.N_drewN | apply Kd.N_drew)); exact HO357.out) (Kd.N_base ho49) hb)
                      have n5_ := Aside0.mk (Kd.N_lower ho49 (below_size (by repeat (first | (with_reducible first | exact HB.out | apply below_alloc | apply pw_below_drewN | apply below_drew1 | refine below_set ?_ GE334.out | refine below_set ?_ GE344.out) | exact HB.out))))
                      have n6_ := Aside0.mk (blk_below (g := gb334) (o := .cells #[.int .i64 a3_0, .slice A3_1 l3_1.length c3_1, .int .i64 a3_2] 26 (0, 0)) (by (with_reducible repeat (first | refine blk_drewN ?_ _ | refine blk_drew ?_ | refine blk_alloc ?_ _)); exact BK334.out) hb)
                      have n7_ := Aside0.mk (blk_below (g := gb344) (o := .cells #[.int .i64 a1, .int .i64 a2, .int .i64 t339, .slice Ao36 t340.length co36, .int .i64 t343] 31 (0, 0)) (by (with_reducible repeat (first | refine blk_drewN ?_ _ | refine blk_drew ?_ | refine blk_alloc ?_ _)); exact BK344.out) hb)
                      have n8_ := Aside0.mk (below_step (by repeat (first | (with_reducible first | exact HB.out | apply below_alloc | apply pw_below_drewN | apply below_drew1 | refine below_set ?_ GE334.out | refine below_set ?_ GE344.out) | exact HB.out)) hb)
                      clear HO337
                      clear HL345_3
                      clear HO354
                      clear HO368
                      clear HO357
                      clear BK334
                      clear BK344
                      clear HB
                      clear HO342
                      have HO337 := n0_
                      have HL345_3 := n1_
                      have HO354 := n2_
                      have HO368 := n3_
                      have HO357 := n4_
                      have HO360 := n5_
                      have BK334 := n6_
                      have BK344 := n7_
                      have HB := n8_
                      clear n0_ n1_ n2_ n3_ n4_ n5_ n6_ n7_ n8_
                      clear hb ho49
                      refine hK.out _ _ ⟨(blk_cell BK344.out 0).trans rfl, (blk_cell BK344.out 1).trans rfl, (blk_cell BK344.out 2).trans rfl, (blk_cell BK344.out 3).trans rfl, (blk_cell BK344.out 4).trans rfl⟩ (fun hHeld => ?_)
                      clear hK K
                      refine norm_ (a' := ?_) ?_ ?_
                      rotate_left
                      · show Act.put _ (some 46) _ = _
                        simp only [Act.put, List.setIfInBounds_toArray, List.set_cons_zero, List.set_cons_succ, i64_w, i32_w]
                        rfl
                      exact norm_ (by simp only [putAll, Act.put, List.setIfInBounds_toArray, List.set_cons_zero, List.set_cons_succ]) (hCont (v348, v356, v359) _ ⟨hHeld, (by (with_reducible repeat (first | apply Kd.V_alloc | apply Kd.V_drewN | apply Kd.V_drew)); exact Kd.V_mono HL345_3.out (fun _ hk => ⟨hk.1.1.1, ⟨hk.1.1.2.1, ⟨hk.1.2, ⟨hk.2, ⟨hk.1.1.2.2.2.1, hk.1.1.2.2.2.2⟩⟩⟩⟩⟩)), (by (with_reducible repeat (first | apply Kd.N_alloc | apply Kd.N_drewN | apply Kd.N_drew)); exact Kd.N_mono HO337.out (fun _ hk => ⟨hk.1.1.1, ⟨hk.1.2, ⟨hk.2, ⟨hk.1.1.2.2.1, hk.1.1.2.2.2⟩⟩⟩⟩)), (by (with_reducible repeat (first | apply Kd.V_alloc | apply Kd.V_drewN | apply Kd.V_drew)); exact Kd.V_mono HO354.out (fun _ hk => ⟨hk.1.1.1, ⟨hk.1.2, ⟨hk.2, ⟨hk.1.1.2.2.1, hk.1.1.2.2.2⟩⟩⟩⟩)), (by (with_reducible repeat (first | apply Kd.N_alloc | apply Kd.N_drewN | apply Kd.N_drew)); exact Kd.N_mono HO357.out (fun _ hk => ⟨hk.1.1, ⟨hk.2, ⟨hk.1.2.2.1, hk.1.2.2.2⟩⟩⟩)), (by (with_reducible repeat (first | apply Kd.N_alloc | apply Kd.N_drewN | apply Kd.N_drew)); exact HO360.out), (by (with_reducible repeat (first | apply Kd.V_alloc | apply Kd.V_drewN | apply Kd.V_drew)); exact Kd.V_mono HO368.out (fun _ hk => ⟨hk.1.1.1, ⟨hk.1.2, ⟨hk.2, ⟨hk.1.1.2.2.1, hk.1.1.2.2.2⟩⟩⟩⟩)), (by (with_reducible repeat (first | refine blk_drewN ?_ _ | refine blk_drew ?_ | refine blk_alloc ?_ _)); exact BK334.out), (by (with_reducible repeat (first | refine blk_drewN ?_ _ | refine blk_drew ?_ | refine blk_alloc ?_ _)); exact BK344.out), (by repeat (first | (with_reducible first | exact HB.out | apply below_alloc | apply pw_below_drewN | apply below_drew1 | refine below_set ?_ GE334.out | refine below_set ?_ GE344.out) | exact HB.out))⟩)
                    · skip
                      refine Kd.N_lit_step k31 _ 31 ?hg (N' := 46) ?hd (xs := ([(⟨a1, a2, (⟨t339, t340, t343⟩ : S26)⟩ : S31)] : List (S31))) (inner := [.int .i64 a1, .int .i64 a2, .int .i64 t339, .slice Ao36 t340.length co36, .int .i64 t343]) (ok := (fun k_ => (w.heap.size ≤ k_) ∧ some k_ ≠ (.slice (some ad345) t335.length co41 : Value).ownBlock ∧ some k_ ≠ (v348 : Value).ownBlock ∧ k_ ≠ gb334 ∧ k_ ≠ gb344)) (okp := (fun k_ => (w.heap.size ≤ k_) ∧ some k_ ≠ (.slice (some ad345) t335.length co41 : Value).ownBlock ∧ some k_ ≠ (v348 : Value).ownBlock ∧ k_ ≠ gb334 ∧ k_ ≠ gb344)) ?hr ?hp (fun _ hk => hk) ((show ∀ k_, w45.heap.size ≤ k_ → (fun k_ => (w.heap.size ≤ k_) ∧ some k_ ≠ (.slice (some ad345) t335.length co41 : Value).ownBlock ∧ some k_ ≠ (v348 : Value).ownBlock ∧ k_ ≠ gb334 ∧ k_ ≠ gb344) k_ from fun k_ hk => ⟨(Nat.le_trans (below_size (by repeat (first | (with_reducible first | exact HB.out | apply below_alloc | apply pw_below_drewN | apply below_drew1 | refine below_set ?_ GE334.out | refine below_set ?_ GE344.out) | exact HB.out))) hk), Kd.fresh' (Kd.N_lt (by (with_reducible repeat (first | apply Kd.N_alloc | apply Kd.N_drewN | apply Kd.N_drew)); exact HO337.out)) k_ hk, Kd.fresh' (Kd.N_lt (by (with_reducible repeat (first | apply Kd.N_alloc | apply Kd.N_drewN | apply Kd.N_drew)); exact HO349.out)) k_ hk, Kd.freshB (g := gb334) (o := .cells #[.int .i64 a3_0, .slice A3_1 l3_1.length c3_1, .int .i64 a3_2] 26 (0, 0)) (by (with_reducible repeat (first | refine blk_drewN ?_ _ | refine blk_drew ?_ | refine blk_alloc ?_ _)); exact BK334.out) k_ hk, Kd.freshB (g := gb344) (o := .cells #[.int .i64 a1, .int .i64 a2, .int .i64 t339, .slice Ao36 t340.length co36, .int .i64 t343] 31 (0, 0)) (by (with_reducible repeat (first | refine blk_drewN ?_ _ | refine blk_drew ?_ | refine blk_alloc ?_ _)); exact BK344.out) k_ hk⟩) _ (Nat.le_refl _)) (Below.refl _ _) (Nat.le_refl _) (by simp) ?_; (case hd => rfl); (case hg => rfl); (case hr => first | (go_simp; done) | (go_simp; rfl)); (case hp => exact (Reps.c5 (show Kd.FK k31 _ _ (⟨a1, a2, (⟨t339, t340, t343⟩ : S26)⟩ : S31) [.int .i64 a1, .int .i64 a2, .int .i64 t339, .slice Ao36 t340.length co36, .int .i64 t343] from (k31_mkF _ _ (⟨a1, a2, (⟨t339, t340, t343⟩ : S26)⟩ : S31) (Kd.R_reads' (Kd.R_mono (ok' := (fun k_ => (w.heap.size ≤ k_) ∧ some k_ ≠ (.slice (some ad345) t335.length co41 : Value).ownBlock ∧ some k_ ≠ (v348 : Value).ownBlock ∧ k_ ≠ gb334 ∧ k_ ≠ gb344)) (Kd.R_types (Kd.R_types (Kd.R_apart' (Kd.R_apart' (HO342.out) (Kd.N_typed HO337.out) (by decide)) (Kd.N_typed HO349.out) (by decide)) BK334.out (by decide)) BK344.out (by decide)) (fun k_ hk => ⟨hk.1.1.1.1, ⟨hk.1.1.1.2, ⟨hk.1.1.2, ⟨hk.1.2, hk.2⟩⟩⟩⟩))).2.1 (Kd.R_F (Kd.R_mono (ok' := (fun k_ => (w.heap.size ≤ k_) ∧ some k_ ≠ (.slice (some ad345) t335.length co41 : Value).ownBlock ∧ some k_ ≠ (v348 : Value).ownBlock ∧ k_ ≠ gb334 ∧ k_ ≠ gb344)) (Kd.R_types (Kd.R_types (Kd.R_apart' (Kd.R_apart' (HO342.out) (Kd.N_typed HO337.out) (by decide)) (Kd.N_typed HO349.out) (by decide)) BK334.out (by decide)) BK344.out (by decide)) (fun k_ hk => ⟨hk.1.1.1.1, ⟨hk.1.1.1.2, ⟨hk.1.1.2, ⟨hk.1.2, hk.2⟩⟩⟩⟩))))) (Reps.none _ _)))
                      intro v359 w47 ho48 hb hg_ hnew_
                      clear hg_ hnew_
                      (first | rw [← Ny358.out] at ho48 | (simp only [Int.reduceToNat] at ho48; rw [← Ny358.out] at ho48))
                      have n0_ := Aside0.mk (Kd.N_elder' (by (with_reducible repeat (first | apply Kd.N_alloc | apply Kd.N_drewN | apply Kd.N_drew)); exact HO337.out) (Kd.N_base ho48) hb)
                      have n1_ := Aside0.mk (Kd.V_elder' (by (with_reducible repeat (first | apply Kd.V_alloc | apply Kd.V_drewN | apply Kd.V_drew)); exact HL345_3.out) (Kd.N_base ho48) hb)
                      have n2_ := Aside0.mk (Kd.V_elder' (by (with_reducible repeat (first | apply Kd.V_alloc | apply Kd.V_drewN | apply Kd.V_drew)); exact HO354.out) (Kd.N_base ho48) hb)
                      have n3_ := Aside0.mk (Kd.V_elder' (by (with_reducible repeat (first | apply Kd.V_alloc | apply Kd.V_drewN | apply Kd.V_drew)); exact HO368.out) (Kd.N_base ho48) hb)
                      have n4_ := Aside0.mk (Kd.N_elder' (by (with_reducible repeat (first | apply Kd.N_alloc | apply Kd.N_drewN | apply Kd.N_drew)); exact HO349.out) (Kd.N_base ho48) hb)
                      have n5_ := Aside0.mk (Kd.N_lower ho48 (below_size (by repeat (first | (with_reducible first | exact HB.out | apply below_alloc | apply pw_below_drewN | apply below_drew1 | refine below_set ?_ GE334.out | refine below_set ?_ GE344.out) | exact HB.out))))
                      have n6_ := Aside0.mk (blk_below (g := gb334) (o := .cells #[.int .i64 a3_0, .slice A3_1 l3_1.length c3_1, .int .i64 a3_2] 26 (0, 0)) (by (with_reducible repeat (first | refine blk_drewN ?_ _ | refine blk_drew ?_ | refine blk_alloc ?_ _)); exact BK334.out) hb)
                      have n7_ := Aside0.mk (blk_below (g := gb344) (o := .cells #[.int .i64 a1, .int .i64 a2, .int .i64 t339, .slice Ao36 t340.length co36, .int .i64 t343] 31 (0, 0)) (by (with_reducible repeat (first | refine blk_drewN ?_ _ | refine blk_drew ?_ | refine blk_alloc ?_ _)); exact BK344.out) hb)
                      have n8_ := Aside0.mk (Kd.C_below (by repeat (first | (with_reducible exact HR345_3.out) | (with_reducible refine Kd.C_alloc ?_ _) | (with_reducible refine Kd.C_drewN ?_ _) | (with_reducible refine Kd.C_drew ?_) | exact HR345_3.out)) hb)
                      have n9_ := Aside0.mk (below_step (by repeat (first | (with_reducible first | exact HB.out | apply below_alloc | apply pw_below_drewN | apply below_drew1 | refine below_set ?_ GE334.out | refine below_set ?_ GE344.out) | exact HB.out)) hb)
                      clear HO337
                      clear HL345_3
                      clear HO354
                      clear HO368
                      clear HO349
                      clear BK334
                      clear BK344
                      clear HR345_3
                      clear HB
                      clear HO342
                      have HO337 := n0_
                      have HL345_3 := n1_
                      have HO354 := n2_
                      have HO368 := n3_
                      have HO349 := n4_
                      have HO360 := n5_
                      have BK334 := n6_
                      have BK344 := n7_
                      have HR345_3 := n8_
                      have HB := n9_
                      clear n0_ n1_ n2_ n3_ n4_ n5_ n6_ n7_ n8_ n9_
                      clear hb ho48
                      refine hK.out _ _ ⟨(blk_cell BK344.out 0).trans rfl, (blk_cell BK344.out 1).trans rfl, (blk_cell BK344.out 2).trans rfl, (blk_cell BK344.out 3).trans rfl, (blk_cell BK344.out 4).trans rfl⟩ (fun hHeld => ?_)
                      clear hK K
                      refine norm_ (a' := ?_) ?_ ?_
                      rotate_left
                      · show Act.put _ (some 46) _ = _
                        simp only [Act.put, List.setIfInBounds_toArray, List.set_cons_zero, List.set_cons_succ, i64_w, i32_w]
                        rfl
                      refine one_ (i := 4) (N := some 44) #[true, true, true, true, true, true, true, false, true, true, true, false, false] rfl rfl (one_of HT_.out (by kernel_rfl)) (by decide) (fun K hK => ?_)
                      refine Kd.N_append_rows_step k31 (w0 := w) w.heap.size (by rfl) (.tmp 40) (.tmp 43) 22 31 (.agg #[(.int .i64 0), (.int .i64 0), (.int .i64 0), (.slice none 0 0), (.int .i64 0)]) 56 rfl Try.underlying22 info31 rfl (by decide) (by omega) v348 y347 y350 _ _ _ (fun k_ => (w.heap.size ≤ k_) ∧ some k_ ≠ (v359 : Value).ownBlock ∧ k_ ≠ gb334 ∧ k_ ≠ gb344) (fun k_ => ((fun k_ => (w.heap.size ≤ k_) ∧ some k_ ≠ (v359 : Value).ownBlock ∧ k_ ≠ gb334 ∧ k_ ≠ gb344)) k_ ∧ some k_ ≠ (v348 : Value).ownBlock) rfl rfl ?aO ?aR (fun _ hk => hk) ?aF ?aB ?aS ?aL ?_
                      (case aR => exact (by skip; exact Kd.V_F (Kd.V_mono (ok' := (fun k_ => ((fun k_ => (w.heap.size ≤ k_) ∧ some k_ ≠ (v359 : Value).ownBlock ∧ k_ ≠ gb334 ∧ k_ ≠ gb344)) k_ ∧ some k_ ≠ (v348 : Value).ownBlock)) (HO354.out) (fun k_ hk => ⟨⟨hk.1.1.1, ⟨hk.2, ⟨hk.1.1.2.2.1, hk.1.1.2.2.2⟩⟩⟩, hk.1.2⟩))))
                      (case aB => exact (by repeat (first | (with_reducible first | exact HB.out | apply below_alloc | apply pw_below_drewN | apply below_drew1 | refine below_set ?_ GE334.out | refine below_set ?_ GE344.out) | exact HB.out)))
                      (case aF => exact (fun k_ hk => ⟨(Nat.le_trans (below_size (by repeat (first | (with_reducible first | exact HB.out | apply below_alloc | apply pw_below_drewN | apply below_drew1 | refine below_set ?_ GE334.out | refine below_set ?_ GE344.out) | exact HB.out))) hk), Kd.fresh' (Kd.N_lt (by (with_reducible repeat (first | apply Kd.N_alloc | apply Kd.N_drewN | apply Kd.N_drew)); exact HO360.out)) k_ hk, Kd.freshB (g := gb334) (o := .cells #[.int .i64 a3_0, .slice A3_1 l3_1.length c3_1, .int .i64 a3_2] 26 (0, 0)) (by (with_reducible repeat (first | refine blk_drewN ?_ _ | refine blk_drew ?_ | refine blk_alloc ?_ _)); exact BK334.out) k_ hk, Kd.freshB (g := gb344) (o := .cells #[.int .i64 a1, .int .i64 a2, .int .i64 t339, .slice Ao36 t340.length co36, .int .i64 t343] 31 (0, 0)) (by (with_reducible repeat (first | refine blk_drewN ?_ _ | refine blk_drew ?_ | refine blk_alloc ?_ _)); exact BK344.out) k_ hk⟩))
                      (case aO => exact (by (with_reducible repeat (first | apply Kd.N_alloc | apply Kd.N_drewN | apply Kd.N_drew)); exact Kd.N_mono HO349.out (fun _ hk => ⟨hk.1.1, ⟨hk.2, ⟨hk.1.2.2.2.1, hk.1.2.2.2.2⟩⟩⟩)))
                      (case aS => exact (below_size (by repeat (first | (with_reducible first | exact HB.out | apply below_alloc | apply pw_below_drewN | apply below_drew1 | refine below_set ?_ GE334.out | refine below_set ?_ GE344.out) | exact HB.out))))
                      (case aL => have := LMc27.out; omega)
                      intro v356 w49 ho hb hg hat
                      rw [← Ny355.out] at ho
                      have n0_ := Aside0.mk (blk_grown (g := gb334) (o := .cells #[.int .i64 a3_0, .slice A3_1 l3_1.length c3_1, .int .i64 a3_2] 26 (0, 0)) (by (with_reducible repeat (first | refine blk_drewN ?_ _ | refine blk_drew ?_ | refine blk_alloc ?_ _)); exact BK334.out) hg (Kd.N_ne HO349.out BK334.out (by decide)))
                      have n1_ := Aside0.mk (Kd.N_afterv (ok := (fun k_ => (w.heap.size ≤ k_) ∧ some k_ ≠ (v359 : Value).ownBlock ∧ k_ ≠ gb334 ∧ k_ ≠ gb344)) (by (with_reducible repeat (first | apply Kd.N_alloc | apply Kd.N_drewN | apply Kd.N_drew)); exact Kd.N_mono HO337.out (fun _ hk => ⟨⟨hk.1.1.1, ⟨hk.2, ⟨hk.1.1.2.2.1, hk.1.1.2.2.2⟩⟩⟩, hk.1.2⟩)) hg hat)
                      have n2_ := Aside0.mk (blk_grown (g := gb344) (o := .cells #[.int .i64 a1, .int .i64 a2, .int .i64 t339, .slice Ao36 t340.length co36, .int .i64 t343] 31 (0, 0)) (by (with_reducible repeat (first | refine blk_drewN ?_ _ | refine blk_drew ?_ | refine blk_alloc ?_ _)); exact BK344.out) hg (Kd.N_away HO349.out (fun _ hk => hk.1.2.2.2.2)))
                      have n3_ := Aside0.mk (Kd.V_afterv (ok := (fun k_ => (w.heap.size ≤ k_) ∧ some k_ ≠ (.slice (some ad345) t335.length co41 : Value).ownBlock ∧ some k_ ≠ (v359 : Value).ownBlock ∧ k_ ≠ gb334 ∧ k_ ≠ gb344)) (by (with_reducible repeat (first | apply Kd.V_alloc | apply Kd.V_drewN | apply Kd.V_drew)); exact Kd.V_mono HL345_3.out (fun _ hk => ⟨⟨hk.1.1.1.1, ⟨hk.1.1.2, ⟨hk.2, ⟨hk.1.1.1.2.2.1, hk.1.1.1.2.2.2⟩⟩⟩⟩, hk.1.2⟩)) hg hat)
                      have n4_ := Aside0.mk (Kd.V_afterv (ok := (fun k_ => (w.heap.size ≤ k_) ∧ some k_ ≠ (v359 : Value).ownBlock ∧ k_ ≠ gb334 ∧ k_ ≠ gb344)) (by (with_reducible repeat (first | apply Kd.V_alloc | apply Kd.V_drewN | apply Kd.V_drew)); exact Kd.V_mono HO354.out (fun _ hk => ⟨⟨hk.1.1.1, ⟨hk.2, ⟨hk.1.1.2.2.1, hk.1.1.2.2.2⟩⟩⟩, hk.1.2⟩)) hg hat)
                      have n5_ := Aside0.mk (Kd.V_afterv (ok := (fun k_ => (w.heap.size ≤ k_) ∧ some k_ ≠ (v359 : Value).ownBlock ∧ k_ ≠ gb334 ∧ k_ ≠ gb344)) (by (with_reducible repeat (first | apply Kd.V_alloc | apply Kd.V_drewN | apply Kd.V_drew)); exact Kd.V_mono HO368.out (fun _ hk => ⟨⟨hk.1.1.1, ⟨hk.2, ⟨hk.1.1.2.2.1, hk.1.1.2.2.2⟩⟩⟩, hk.1.2⟩)) hg hat)
                      have n6_ := Aside0.mk (Kd.N_afterv (ok := (fun k_ => (w.heap.size ≤ k_) ∧ some k_ ≠ (.slice (some ad345) t335.length co41 : Value).ownBlock ∧ k_ ≠ gb334 ∧ k_ ≠ gb344)) (by (with_reducible repeat (first | apply Kd.N_alloc | apply Kd.N_drewN | apply Kd.N_drew)); exact Kd.N_mono HO360.out (fun _ hk => ⟨⟨hk.1, ⟨hk.2.1, ⟨hk.2.2.2.1, hk.2.2.2.2⟩⟩⟩, hk.2.2.1⟩)) hg hat)
                      have n7_ := Aside0.mk (hb)
                      have n8_ := Aside0.mk (ho)
                      clear BK334
                      clear HO337
                      clear BK344
                      clear HL345_3
                      clear HO354
                      clear HO368
                      clear HO360
                      clear HB
                      clear HO349
                      have BK334 := n0_
                      have HO337 := n1_
                      have BK344 := n2_
                      have HL345_3 := n3_
                      have HO354 := n4_
                      have HO368 := n5_
                      have HO360 := n6_
                      have HB := n7_
                      have HO357 := n8_
                      clear n0_ n1_ n2_ n3_ n4_ n5_ n6_ n7_ n8_
                      clear ho hb hg hat
                      refine hK.out _ _ ⟨(blk_cell BK344.out 0).trans rfl, (blk_cell BK344.out 1).trans rfl, (blk_cell BK344.out 2).trans rfl, (blk_cell BK344.out 3).trans rfl, (blk_cell BK344.out 4).trans rfl⟩ (fun hHeld => ?_)
                      clear hK K
                      refine norm_ (a' := ?_) ?_ ?_
                      rotate_left
                      · show Act.put _ (some 44) _ = _
                        simp only [Act.put, List.setIfInBounds_toArray, List.set_cons_zero, List.set_cons_succ, i64_w, i32_w]
                        rfl
                      exact norm_ (by simp only [putAll, Act.put, List.setIfInBounds_toArray, List.set_cons_zero, List.set_cons_succ]) (hCont (v348, v356, v359) _ ⟨hHeld, (by (with_reducible repeat (first | apply Kd.V_alloc | apply Kd.V_drewN | apply Kd.V_drew)); exact Kd.V_mono HL345_3.out (fun _ hk => ⟨hk.1.1, ⟨hk.1.2.1, ⟨hk.2, ⟨hk.1.2.2.1, ⟨hk.1.2.2.2.1, hk.1.2.2.2.2⟩⟩⟩⟩⟩)), (by (with_reducible repeat (first | apply Kd.N_alloc | apply Kd.N_drewN | apply Kd.N_drew)); exact Kd.N_mono HO337.out (fun _ hk => ⟨hk.1.1, ⟨hk.2, ⟨hk.1.2.1, ⟨hk.1.2.2.1, hk.1.2.2.2⟩⟩⟩⟩)), (by (with_reducible repeat (first | apply Kd.V_alloc | apply Kd.V_drewN | apply Kd.V_drew)); exact Kd.V_mono HO354.out (fun _ hk => ⟨hk.1.1, ⟨hk.2, ⟨hk.1.2.1, ⟨hk.1.2.2.1, hk.1.2.2.2⟩⟩⟩⟩)), (by (with_reducible repeat (first | apply Kd.N_alloc | apply Kd.N_drewN | apply Kd.N_drew)); exact HO357.out), (by (with_reducible repeat (first | apply Kd.N_alloc | apply Kd.N_drewN | apply Kd.N_drew)); exact Kd.N_mono HO360.out (fun _ hk => ⟨hk.1.1, ⟨hk.1.2.1, ⟨hk.2, ⟨hk.1.2.2.1, hk.1.2.2.2⟩⟩⟩⟩)), (by (with_reducible repeat (first | apply Kd.V_alloc | apply Kd.V_drewN | apply Kd.V_drew)); exact Kd.V_mono HO368.out (fun _ hk => ⟨hk.1.1, ⟨hk.2, ⟨hk.1.2.1, ⟨hk.1.2.2.1, hk.1.2.2.2⟩⟩⟩⟩)), (by (with_reducible repeat (first | refine blk_drewN ?_ _ | refine blk_drew ?_ | refine blk_alloc ?_ _)); exact BK334.out), (by (with_reducible repeat (first | refine blk_drewN ?_ _ | refine blk_drew ?_ | refine blk_alloc ?_ _)); exact BK344.out), (by repeat (first | (with_reducible first | exact HB.out | apply below_alloc | apply pw_below_drewN | apply below_drew1 | refine below_set ?_ GE334.out | refine below_set ?_ GE344.out) | exact HB.out))⟩)
                  · skip
                    refine Kd.N_lit_step k31 _ 31 ?hg (N' := 46) ?hd (xs := ([(⟨a1, a2, (⟨t339, t340, t343⟩ : S26)⟩ : S31)] : List (S31))) (inner := [.int .i64 a1, .int .i64 a2, .int .i64 t339, .slice Ao36 t340.length co36, .int .i64 t343]) (ok := (fun k_ => (w.heap.size ≤ k_) ∧ some k_ ≠ (.slice (some ad345) t335.length co41 : Value).ownBlock ∧ k_ ≠ gb334 ∧ k_ ≠ gb344)) (okp := (fun k_ => (w.heap.size ≤ k_) ∧ some k_ ≠ (.slice (some ad345) t335.length co41 : Value).ownBlock ∧ k_ ≠ gb334 ∧ k_ ≠ gb344)) ?hr ?hp (fun _ hk => hk) ((show ∀ k_, w42.heap.size ≤ k_ → (fun k_ => (w.heap.size ≤ k_) ∧ some k_ ≠ (.slice (some ad345) t335.length co41 : Value).ownBlock ∧ k_ ≠ gb334 ∧ k_ ≠ gb344) k_ from fun k_ hk => ⟨(Nat.le_trans (below_size (by repeat (first | (with_reducible first | exact HB.out | apply below_alloc | apply pw_below_drewN | apply below_drew1 | refine below_set ?_ GE334.out | refine below_set ?_ GE344.out) | exact HB.out))) hk), Kd.fresh' (Kd.N_lt (by (with_reducible repeat (first | apply Kd.N_alloc | apply Kd.N_drewN | apply Kd.N_drew)); exact HO337.out)) k_ hk, Kd.freshB (g := gb334) (o := .cells #[.int .i64 a3_0, .slice A3_1 l3_1.length c3_1, .int .i64 a3_2] 26 (0, 0)) (by (with_reducible repeat (first | refine blk_drewN ?_ _ | refine blk_drew ?_ | refine blk_alloc ?_ _)); exact BK334.out) k_ hk, Kd.freshB (g := gb344) (o := .cells #[.int .i64 a1, .int .i64 a2, .int .i64 t339, .slice Ao36 t340.length co36, .int .i64 t343] 31 (0, 0)) (by (with_reducible repeat (first | refine blk_drewN ?_ _ | refine blk_drew ?_ | refine blk_alloc ?_ _)); exact BK344.out) k_ hk⟩) _ (Nat.le_refl _)) (Below.refl _ _) (Nat.le_refl _) (by simp) ?_; (case hd => rfl); (case hg => rfl); (case hr => first | (go_simp; done) | (go_simp; rfl)); (case hp => exact (Reps.c5 (show Kd.FK k31 _ _ (⟨a1, a2, (⟨t339, t340, t343⟩ : S26)⟩ : S31) [.int .i64 a1, .int .i64 a2, .int .i64 t339, .slice Ao36 t340.length co36, .int .i64 t343] from (k31_mkF _ _ (⟨a1, a2, (⟨t339, t340, t343⟩ : S26)⟩ : S31) (Kd.R_reads' (Kd.R_mono (ok' := (fun k_ => (w.heap.size ≤ k_) ∧ some k_ ≠ (.slice (some ad345) t335.length co41 : Value).ownBlock ∧ k_ ≠ gb334 ∧ k_ ≠ gb344)) (Kd.R_types (Kd.R_types (Kd.R_apart' (HO342.out) (Kd.N_typed HO337.out) (by decide)) BK334.out (by decide)) BK344.out (by decide)) (fun k_ hk => ⟨hk.1.1.1, ⟨hk.1.1.2, ⟨hk.1.2, hk.2⟩⟩⟩))).2.1 (Kd.R_F (Kd.R_mono (ok' := (fun k_ => (w.heap.size ≤ k_) ∧ some k_ ≠ (.slice (some ad345) t335.length co41 : Value).ownBlock ∧ k_ ≠ gb334 ∧ k_ ≠ gb344)) (Kd.R_types (Kd.R_types (Kd.R_apart' (HO342.out) (Kd.N_typed HO337.out) (by decide)) BK334.out (by decide)) BK344.out (by decide)) (fun k_ hk => ⟨hk.1.1.1, ⟨hk.1.1.2, ⟨hk.1.2, hk.2⟩⟩⟩))))) (Reps.none _ _)))
                    intro v359 w45 ho46 hb hg_ hnew_
                    clear hg_ hnew_
                    (first | rw [← Ny358.out] at ho46 | (simp only [Int.reduceToNat] at ho46; rw [← Ny358.out] at ho46))
                    have n0_ := Aside0.mk (Kd.N_elder' (by (with_reducible repeat (first | apply Kd.N_alloc | apply Kd.N_drewN | apply Kd.N_drew)); exact HO337.out) (Kd.N_base ho46) hb)
                    have n1_ := Aside0.mk (Kd.V_elder' (by (with_reducible repeat (first | apply Kd.V_alloc | apply Kd.V_drewN | apply Kd.V_drew)); exact HL345_3.out) (Kd.N_base ho46) hb)
                    have n2_ := Aside0.mk (Kd.V_elder' (by (with_reducible repeat (first | apply Kd.V_alloc | apply Kd.V_drewN | apply Kd.V_drew)); exact HO354.out) (Kd.N_base ho46) hb)
                    have n3_ := Aside0.mk (Kd.V_elder' (by (with_reducible repeat (first | apply Kd.V_alloc | apply Kd.V_drewN | apply Kd.V_drew)); exact HO368.out) (Kd.N_base ho46) hb)
                    have n4_ := Aside0.mk (Kd.N_lower ho46 (below_size (by repeat (first | (with_reducible first | exact HB.out | apply below_alloc | apply pw_below_drewN | apply below_drew1 | refine below_set ?_ GE334.out | refine below_set ?_ GE344.out) | exact HB.out))))
                    have n5_ := Aside0.mk (blk_below (g := gb334) (o := .cells #[.int .i64 a3_0, .slice A3_1 l3_1.length c3_1, .int .i64 a3_2] 26 (0, 0)) (by (with_reducible repeat (first | refine blk_drewN ?_ _ | refine blk_drew ?_ | refine blk_alloc ?_ _)); exact BK334.out) hb)
                    have n6_ := Aside0.mk (blk_below (g := gb344) (o := .cells #[.int .i64 a1, .int .i64 a2, .int .i64 t339, .slice Ao36 t340.length co36, .int .i64 t343] 31 (0, 0)) (by (with_reducible repeat (first | refine blk_drewN ?_ _ | refine blk_drew ?_ | refine blk_alloc ?_ _)); exact BK344.out) hb)
                    have n7_ := Aside0.mk (Kd.C_below (by repeat (first | (with_reducible exact HR345_3.out) | (with_reducible refine Kd.C_alloc ?_ _) | (with_reducible refine Kd.C_drewN ?_ _) | (with_reducible refine Kd.C_drew ?_) | exact HR345_3.out)) hb)
                    have n8_ := Aside0.mk (below_step (by repeat (first | (with_reducible first | exact HB.out | apply below_alloc | apply pw_below_drewN | apply below_drew1 | refine below_set ?_ GE334.out | refine below_set ?_ GE344.out) | exact HB.out)) hb)
                    clear HO337
                    clear HL345_3
                    clear HO354
                    clear HO368
                    clear BK334
                    clear BK344
                    clear HR345_3
                    clear HB
                    clear HO342
                    have HO337 := n0_
                    have HL345_3 := n1_
                    have HO354 := n2_
                    have HO368 := n3_
                    have HO360 := n4_
                    have BK334 := n5_
                    have BK344 := n6_
                    have HR345_3 := n7_
                    have HB := n8_
                    clear n0_ n1_ n2_ n3_ n4_ n5_ n6_ n7_ n8_
                    clear hb ho46
                    refine hK.out _ _ ⟨(blk_cell BK344.out 0).trans rfl, (blk_cell BK344.out 1).trans rfl, (blk_cell BK344.out 2).trans rfl, (blk_cell BK344.out 3).trans rfl, (blk_cell BK344.out 4).trans rfl⟩ (fun hHeld => ?_)
                    clear hK K
                    refine norm_ (a' := ?_) ?_ ?_
                    rotate_left
                    · show Act.put _ (some 46) _ = _
                      simp only [Act.put, List.setIfInBounds_toArray, List.set_cons_zero, List.set_cons_succ, i64_w, i32_w]
                      rfl
                    refine one_ (i := 0) (N := some 40) #[true, true, true, true, false, true, true, false, true, true, true, false, false] rfl rfl (one_of HT_.out (by kernel_rfl)) (by decide) (fun K hK => ?_)
                    refine Kd.N_lit_step k31 _ 31 ?hg (N' := 40) ?hd (xs := ([] : List (S31))) (inner := []) (ok := (fun k_ => (w.heap.size ≤ k_) ∧ some k_ ≠ (.slice (some ad345) t335.length co41 : Value).ownBlock ∧ some k_ ≠ (v359 : Value).ownBlock ∧ k_ ≠ gb334 ∧ k_ ≠ gb344)) (okp := (fun k_ => (w.heap.size ≤ k_) ∧ some k_ ≠ (.slice (some ad345) t335.length co41 : Value).ownBlock ∧ some k_ ≠ (v359 : Value).ownBlock ∧ k_ ≠ gb334 ∧ k_ ≠ gb344)) ?hr ?hp (fun _ hk => hk) ((show ∀ k_, w45.heap.size ≤ k_ → (fun k_ => (w.heap.size ≤ k_) ∧ some k_ ≠ (.slice (some ad345) t335.length co41 : Value).ownBlock ∧ some k_ ≠ (v359 : Value).ownBlock ∧ k_ ≠ gb334 ∧ k_ ≠ gb344) k_ from fun k_ hk => ⟨(Nat.le_trans (below_size (by repeat (first | (with_reducible first | exact HB.out | apply below_alloc | apply pw_below_drewN | apply below_drew1 | refine below_set ?_ GE334.out | refine below_set ?_ GE344.out) | exact HB.out))) hk), Kd.fresh' (Kd.N_lt (by (with_reducible repeat (first | apply Kd.N_alloc | apply Kd.N_drewN | apply Kd.N_drew)); exact HO337.out)) k_ hk, Kd.fresh' (Kd.N_lt (by (with_reducible repeat (first | apply Kd.N_alloc | apply Kd.N_drewN | apply Kd.N_drew)); exact HO360.out)) k_ hk, Kd.freshB (g := gb334) (o := .cells #[.int .i64 a3_0, .slice A3_1 l3_1.length c3_1, .int .i64 a3_2] 26 (0, 0)) (by (with_reducible repeat (first | refine blk_drewN ?_ _ | refine blk_drew ?_ | refine blk_alloc ?_ _)); exact BK334.out) k_ hk, Kd.freshB (g := gb344) (o := .cells #[.int .i64 a1, .int .i64 a2, .int .i64 t339, .slice Ao36 t340.length co36, .int .i64 t343] 31 (0, 0)) (by (with_reducible repeat (first | refine blk_drewN ?_ _ | refine blk_drew ?_ | refine blk_alloc ?_ _)); exact BK344.out) k_ hk⟩) _ (Nat.le_refl _)) (Below.refl _ _) (Nat.le_refl _) (by simp) ?_; (case hd => rfl); (case hg => rfl); (case hr => first | (go_simp; done) | (go_simp; rfl)); (case hp => exact (Reps.none _ _))
                    intro v348 w47 ho48 hb hg_ hnew_
                    clear hg_ hnew_
                    (first | rw [← Ny347.out] at ho48 | (simp only [Int.reduceToNat] at ho48; rw [← Ny347.out] at ho48))
                    have n0_ := Aside0.mk (Kd.N_elder' (by (with_reducible repeat (first | apply Kd.N_alloc | apply Kd.N_drewN | apply Kd.N_drew)); exact HO337.out) (Kd.N_base ho48) hb)
                    have n1_ := Aside0.mk (Kd.V_elder' (by (with_reducible repeat (first | apply Kd.V_alloc | apply Kd.V_drewN | apply Kd.V_drew)); exact HL345_3.out) (Kd.N_base ho48) hb)
                    have n2_ := Aside0.mk (Kd.V_elder' (by (with_reducible repeat (first | apply Kd.V_alloc | apply Kd.V_drewN | apply Kd.V_drew)); exact HO354.out) (Kd.N_base ho48) hb)
                    have n3_ := Aside0.mk (Kd.V_elder' (by (with_reducible repeat (first | apply Kd.V_alloc | apply Kd.V_drewN | apply Kd.V_drew)); exact HO368.out) (Kd.N_base ho48) hb)
                    have n4_ := Aside0.mk (Kd.N_elder' (by (with_reducible repeat (first | apply Kd.N_alloc | apply Kd.N_drewN | apply Kd.N_drew)); exact HO360.out) (Kd.N_base ho48) hb)
                    have n5_ := Aside0.mk (Kd.N_lower ho48 (below_size (by repeat (first | (with_reducible first | exact HB.out | apply below_alloc | apply pw_below_drewN | apply below_drew1 | refine below_set ?_ GE334.out | refine below_set ?_ GE344.out) | exact HB.out))))
                    have n6_ := Aside0.mk (blk_below (g := gb334) (o := .cells #[.int .i64 a3_0, .slice A3_1 l3_1.length c3_1, .int .i64 a3_2] 26 (0, 0)) (by (with_reducible repeat (first | refine blk_drewN ?_ _ | refine blk_drew ?_ | refine blk_alloc ?_ _)); exact BK334.out) hb)
                    have n7_ := Aside0.mk (blk_below (g := gb344) (o := .cells #[.int .i64 a1, .int .i64 a2, .int .i64 t339, .slice Ao36 t340.length co36, .int .i64 t343] 31 (0, 0)) (by (with_reducible repeat (first | refine blk_drewN ?_ _ | refine blk_drew ?_ | refine blk_alloc ?_ _)); exact BK344.out) hb)
                    have n8_ := Aside0.mk (Kd.C_below (by repeat (first | (with_reducible exact HR345_3.out) | (with_reducible refine Kd.C_alloc ?_ _) | (with_reducible refine Kd.C_drewN ?_ _) | (with_reducible refine Kd.C_drew ?_) | exact HR345_3.out)) hb)
                    have n9_ := Aside0.mk (below_step (by repeat (first | (with_reducible first | exact HB.out | apply below_alloc | apply pw_below_drewN | apply below_drew1 | refine below_set ?_ GE334.out | refine below_set ?_ GE344.out) | exact HB.out)) hb)
                    clear HO337
                    clear HL345_3
                    clear HO354
                    clear HO368
                    clear HO360
                    clear BK334
                    clear BK344
                    clear HR345_3
                    clear HB
                    have HO337 := n0_
                    have HL345_3 := n1_
                    have HO354 := n2_
                    have HO368 := n3_
                    have HO360 := n4_
                    have HO349 := n5_
                    have BK334 := n6_
                    have BK344 := n7_
                    have HR345_3 := n8_
                    have HB := n9_
                    clear n0_ n1_ n2_ n3_ n4_ n5_ n6_ n7_ n8_ n9_
                    clear hb ho48
                    refine hK.out _ _ ⟨(blk_cell BK344.out 0).trans rfl, (blk_cell BK344.out 1).trans rfl, (blk_cell BK344.out 2).trans rfl, (blk_cell BK344.out 3).trans rfl, (blk_cell BK344.out 4).trans rfl⟩ (fun hHeld => ?_)
                    clear hK K
                    refine norm_ (a' := ?_) ?_ ?_
                    rotate_left
                    · show Act.put _ (some 40) _ = _
                      simp only [Act.put, List.setIfInBounds_toArray, List.set_cons_zero, List.set_cons_succ, i64_w, i32_w]
                      rfl
                    refine one_ (i := 4) (N := some 44) #[true, true, true, true, true, true, true, false, true, true, true, false, false] rfl rfl (one_of HT_.out (by kernel_rfl)) (by decide) (fun K hK => ?_)
                    refine Kd.N_append_rows_step k31 (w0 := w) w.heap.size (by rfl) (.tmp 40) (.tmp 43) 22 31 (.agg #[(.int .i64 0), (.int .i64 0), (.int .i64 0), (.slice none 0 0), (.int .i64 0)]) 56 rfl Try.underlying22 info31 rfl (by decide) (by omega) v348 y347 y350 _ _ _ (fun k_ => (w.heap.size ≤ k_) ∧ some k_ ≠ (v359 : Value).ownBlock ∧ k_ ≠ gb334 ∧ k_ ≠ gb344) (fun k_ => ((fun k_ => (w.heap.size ≤ k_) ∧ some k_ ≠ (v359 : Value).ownBlock ∧ k_ ≠ gb334 ∧ k_ ≠ gb344)) k_ ∧ some k_ ≠ (v348 : Value).ownBlock) rfl rfl ?aO ?aR (fun _ hk => hk) ?aF ?aB ?aS ?aL ?_
                    (case aR => exact (by skip; exact Kd.V_F (Kd.V_mono (ok' := (fun k_ => ((fun k_ => (w.heap.size ≤ k_) ∧ some k_ ≠ (v359 : Value).ownBlock ∧ k_ ≠ gb334 ∧ k_ ≠ gb344)) k_ ∧ some k_ ≠ (v348 : Value).ownBlock)) (HO354.out) (fun k_ hk => ⟨⟨hk.1.1.1, ⟨hk.1.2, ⟨hk.1.1.2.2.1, hk.1.1.2.2.2⟩⟩⟩, hk.2⟩))))
                    (case aB => exact (by repeat (first | (with_reducible first | exact HB.out | apply below_alloc | apply pw_below_drewN | apply below_drew1 | refine below_set ?_ GE334.out | refine below_set ?_ GE344.out) | exact HB.out)))
                    (case aF => exact (fun k_ hk => ⟨(Nat.le_trans (below_size (by repeat (first | (with_reducible first | exact HB.out | apply below_alloc | apply pw_below_drewN | apply below_drew1 | refine below_set ?_ GE334.out | refine below_set ?_ GE344.out) | exact HB.out))) hk), Kd.fresh' (Kd.N_lt (by (with_reducible repeat (first | apply Kd.N_alloc | apply Kd.N_drewN | apply Kd.N_drew)); exact HO360.out)) k_ hk, Kd.freshB (g := gb334) (o := .cells #[.int .i64 a3_0, .slice A3_1 l3_1.length c3_1, .int .i64 a3_2] 26 (0, 0)) (by (with_reducible repeat (first | refine blk_drewN ?_ _ | refine blk_drew ?_ | refine blk_alloc ?_ _)); exact BK334.out) k_ hk, Kd.freshB (g := gb344) (o := .cells #[.int .i64 a1, .int .i64 a2, .int .i64 t339, .slice Ao36 t340.length co36, .int .i64 t343] 31 (0, 0)) (by (with_reducible repeat (first | refine blk_drewN ?_ _ | refine blk_drew ?_ | refine blk_alloc ?_ _)); exact BK344.out) k_ hk⟩))
                    (case aO => exact (by (with_reducible repeat (first | apply Kd.N_alloc | apply Kd.N_drewN | apply Kd.N_drew)); exact Kd.N_mono HO349.out (fun _ hk => ⟨hk.1, ⟨hk.2.2.1, ⟨hk.2.2.2.1, hk.2.2.2.2⟩⟩⟩)))
                    (case aS => exact (below_size (by repeat (first | (with_reducible first | exact HB.out | apply below_alloc | apply pw_below_drewN | apply below_drew1 | refine below_set ?_ GE334.out | refine below_set ?_ GE344.out) | exact HB.out))))
                    (case aL => have := LMc27.out; omega)
                    intro v356 w49 ho hb hg hat
                    rw [← Ny355.out] at ho
                    have n0_ := Aside0.mk (blk_grown (g := gb334) (o := .cells #[.int .i64 a3_0, .slice A3_1 l3_1.length c3_1, .int .i64 a3_2] 26 (0, 0)) (by (with_reducible repeat (first | refine blk_drewN ?_ _ | refine blk_drew ?_ | refine blk_alloc ?_ _)); exact BK334.out) hg (Kd.N_ne HO349.out BK334.out (by decide)))
                    have n1_ := Aside0.mk (Kd.N_afterv (ok := (fun k_ => (w.heap.size ≤ k_) ∧ some k_ ≠ (v359 : Value).ownBlock ∧ k_ ≠ gb334 ∧ k_ ≠ gb344)) (by (with_reducible repeat (first | apply Kd.N_alloc | apply Kd.N_drewN | apply Kd.N_drew)); exact Kd.N_mono HO337.out (fun _ hk => ⟨⟨hk.1.1.1, ⟨hk.1.2, ⟨hk.1.1.2.2.1, hk.1.1.2.2.2⟩⟩⟩, hk.2⟩)) hg hat)
                    have n2_ := Aside0.mk (blk_grown (g := gb344) (o := .cells #[.int .i64 a1, .int .i64 a2, .int .i64 t339, .slice Ao36 t340.length co36, .int .i64 t343] 31 (0, 0)) (by (with_reducible repeat (first | refine blk_drewN ?_ _ | refine blk_drew ?_ | refine blk_alloc ?_ _)); exact BK344.out) hg (Kd.N_away HO349.out (fun _ hk => hk.2.2.2.2)))
                    have n3_ := Aside0.mk (Kd.V_afterv (ok := (fun k_ => (w.heap.size ≤ k_) ∧ some k_ ≠ (.slice (some ad345) t335.length co41 : Value).ownBlock ∧ some k_ ≠ (v359 : Value).ownBlock ∧ k_ ≠ gb334 ∧ k_ ≠ gb344)) (by (with_reducible repeat (first | apply Kd.V_alloc | apply Kd.V_drewN | apply Kd.V_drew)); exact Kd.V_mono HL345_3.out (fun _ hk => ⟨⟨hk.1.1.1.1, ⟨hk.1.1.2, ⟨hk.1.2, ⟨hk.1.1.1.2.2.1, hk.1.1.1.2.2.2⟩⟩⟩⟩, hk.2⟩)) hg hat)
                    have n4_ := Aside0.mk (Kd.V_afterv (ok := (fun k_ => (w.heap.size ≤ k_) ∧ some k_ ≠ (v359 : Value).ownBlock ∧ k_ ≠ gb334 ∧ k_ ≠ gb344)) (by (with_reducible repeat (first | apply Kd.V_alloc | apply Kd.V_drewN | apply Kd.V_drew)); exact Kd.V_mono HO354.out (fun _ hk => ⟨⟨hk.1.1.1, ⟨hk.1.2, ⟨hk.1.1.2.2.1, hk.1.1.2.2.2⟩⟩⟩, hk.2⟩)) hg hat)
                    have n5_ := Aside0.mk (Kd.V_afterv (ok := (fun k_ => (w.heap.size ≤ k_) ∧ some k_ ≠ (v359 : Value).ownBlock ∧ k_ ≠ gb334 ∧ k_ ≠ gb344)) (by (with_reducible repeat (first | apply Kd.V_alloc | apply Kd.V_drewN | apply Kd.V_drew)); exact Kd.V_mono HO368.out (fun _ hk => ⟨⟨hk.1.1.1, ⟨hk.1.2, ⟨hk.1.1.2.2.1, hk.1.1.2.2.2⟩⟩⟩, hk.2⟩)) hg hat)
                    have n6_ := Aside0.mk (Kd.N_afterv (ok := (fun k_ => (w.heap.size ≤ k_) ∧ some k_ ≠ (.slice (some ad345) t335.length co41 : Value).ownBlock ∧ k_ ≠ gb334 ∧ k_ ≠ gb344)) (by (with_reducible repeat (first | apply Kd.N_alloc | apply Kd.N_drewN | apply Kd.N_drew)); exact HO360.out) hg hat)
                    have n7_ := Aside0.mk (hb)
                    have n8_ := Aside0.mk (ho)
                    clear BK334
                    clear HO337
                    clear BK344
                    clear HL345_3
                    clear HO354
                    clear HO368
                    clear HO360
                    clear HB
                    clear HO349
                    have BK334 := n0_
                    have HO337 := n1_
                    have BK344 := n2_
                    have HL345_3 := n3_
                    have HO354 := n4_
                    have HO368 := n5_
                    have HO360 := n6_
                    have HB := n7_
                    have HO357 := n8_
                    clear n0_ n1_ n2_ n3_ n4_ n5_ n6_ n7_ n8_
                    clear ho hb hg hat
                    refine hK.out _ _ ⟨(blk_cell BK344.out 0).trans rfl, (blk_cell BK344.out 1).trans rfl, (blk_cell BK344.out 2).trans rfl, (blk_cell BK344.out 3).trans rfl, (blk_cell BK344.out 4).trans rfl⟩ (fun hHeld => ?_)
                    clear hK K
                    refine norm_ (a' := ?_) ?_ ?_
                    rotate_left
                    · show Act.put _ (some 44) _ = _
                      simp only [Act.put, List.setIfInBounds_toArray, List.set_cons_zero, List.set_cons_succ, i64_w, i32_w]
                      rfl
                    exact norm_ (by simp only [putAll, Act.put, List.setIfInBounds_toArray, List.set_cons_zero, List.set_cons_succ]) (hCont (v348, v356, v359) _ ⟨hHeld, (by (with_reducible repeat (first | apply Kd.V_alloc | apply Kd.V_drewN | apply Kd.V_drew)); exact Kd.V_mono HL345_3.out (fun _ hk => ⟨hk.1.1, ⟨hk.1.2.1, ⟨hk.2, ⟨hk.1.2.2.1, ⟨hk.1.2.2.2.1, hk.1.2.2.2.2⟩⟩⟩⟩⟩)), (by (with_reducible repeat (first | apply Kd.N_alloc | apply Kd.N_drewN | apply Kd.N_drew)); exact Kd.N_mono HO337.out (fun _ hk => ⟨hk.1.1, ⟨hk.2, ⟨hk.1.2.1, ⟨hk.1.2.2.1, hk.1.2.2.2⟩⟩⟩⟩)), (by (with_reducible repeat (first | apply Kd.V_alloc | apply Kd.V_drewN | apply Kd.V_drew)); exact Kd.V_mono HO354.out (fun _ hk => ⟨hk.1.1, ⟨hk.2, ⟨hk.1.2.1, ⟨hk.1.2.2.1, hk.1.2.2.2⟩⟩⟩⟩)), (by (with_reducible repeat (first | apply Kd.N_alloc | apply Kd.N_drewN | apply Kd.N_drew)); exact HO357.out), (by (with_reducible repeat (first | apply Kd.N_alloc | apply Kd.N_drewN | apply Kd.N_drew)); exact Kd.N_mono HO360.out (fun _ hk => ⟨hk.1.1, ⟨hk.1.2.1, ⟨hk.2, ⟨hk.1.2.2.1, hk.1.2.2.2⟩⟩⟩⟩)), (by (with_reducible repeat (first | apply Kd.V_alloc | apply Kd.V_drewN | apply Kd.V_drew)); exact Kd.V_mono HO368.out (fun _ hk => ⟨hk.1.1, ⟨hk.2, ⟨hk.1.2.1, ⟨hk.1.2.2.1, hk.1.2.2.2⟩⟩⟩⟩)), (by (with_reducible repeat (first | refine blk_drewN ?_ _ | refine blk_drew ?_ | refine blk_alloc ?_ _)); exact BK334.out), (by (with_reducible repeat (first | refine blk_drewN ?_ _ | refine blk_drew ?_ | refine blk_alloc ?_ _)); exact BK344.out), (by repeat (first | (with_reducible first | exact HB.out | apply below_alloc | apply pw_below_drewN | apply below_drew1 | refine below_set ?_ GE334.out | refine below_set ?_ GE344.out) | exact HB.out))⟩)
                rintro ⟨v348, v356, v359⟩ w50 ⟨hS_, h0_, h1_, h2_, h3_, h4_, h5_, h6_, h7_, h8_⟩
                have n0_ : Aside0 (Kd.V (Kd.int .u8) 5 w50 w.heap.size (fun k_ => (w.heap.size ≤ k_) ∧ some k_ ≠ (.slice (some ad345) t335.length co41 : Value).ownBlock ∧ some k_ ≠ (v356 : Value).ownBlock ∧ some k_ ≠ (v359 : Value).ownBlock ∧ k_ ≠ gb334 ∧ k_ ≠ gb344) (.slice A345_3 ((rd_T31 t335 t338).f2.f1).length c345_3) ((rd_T31 t335 t338).f2.f1)) := ⟨h0_⟩
                have n1_ : Aside0 (Kd.N k31 31 w50 w.heap.size (fun k_ => (w.heap.size ≤ k_) ∧ some k_ ≠ (v356 : Value).ownBlock ∧ some k_ ≠ (v359 : Value).ownBlock ∧ k_ ≠ gb334 ∧ k_ ≠ gb344) (.slice (some ad345) t335.length co41) t335) := ⟨h1_⟩
                have n2_ : Aside0 (Kd.V k31 31 w50 w.heap.size (fun k_ => (w.heap.size ≤ k_) ∧ some k_ ≠ (v356 : Value).ownBlock ∧ some k_ ≠ (v359 : Value).ownBlock ∧ k_ ≠ gb334 ∧ k_ ≠ gb344) (.slice (some ad345) y350.length co41) y350) := ⟨h2_⟩
                have n3_ : Aside0 (Kd.N k31 31 w50 w.heap.size (fun k_ => (w.heap.size ≤ k_) ∧ some k_ ≠ (v359 : Value).ownBlock ∧ k_ ≠ gb334 ∧ k_ ≠ gb344) v356 y355) := ⟨h3_⟩
                have n4_ : Aside0 (Kd.N k31 31 w50 w.heap.size (fun k_ => (w.heap.size ≤ k_) ∧ some k_ ≠ (.slice (some ad345) t335.length co41 : Value).ownBlock ∧ some k_ ≠ (v356 : Value).ownBlock ∧ k_ ≠ gb334 ∧ k_ ≠ gb344) v359 y358) := ⟨h4_⟩
                have n5_ : Aside0 (Kd.V k31 31 w50 w.heap.size (fun k_ => (w.heap.size ≤ k_) ∧ some k_ ≠ (v356 : Value).ownBlock ∧ some k_ ≠ (v359 : Value).ownBlock ∧ k_ ≠ gb334 ∧ k_ ≠ gb344) (.slice A44 y364.length c44) y364) := ⟨h5_⟩
                have n6_ : Aside0 (w50.heap[gb334]? = some (.cells #[.int .i64 a3_0, .slice A3_1 l3_1.length c3_1, .int .i64 a3_2] 26 (0, 0))) := ⟨h6_⟩
                have n7_ : Aside0 (w50.heap[gb344]? = some (.cells #[.int .i64 a1, .int .i64 a2, .int .i64 t339, .slice Ao36 t340.length co36, .int .i64 t343] 31 (0, 0))) := ⟨h7_⟩
                have n8_ : Aside0 (Below w.heap.size w w50) := ⟨h8_⟩
                clear HO337
                clear HO342
                clear HL345_3
                clear BK334
                clear BK344
                clear HR345_3
                clear HB
                clear h0_ h1_ h2_ h3_ h4_ h5_ h6_ h7_ h8_
                have HL345_3 := n0_
                have HO337 := n1_
                have HO354 := n2_
                have HO357 := n3_
                have HO360 := n4_
                have HO368 := n5_
                have BK334 := n6_
                have BK344 := n7_
                have HB := n8_
                clear n0_ n1_ n2_ n3_ n4_ n5_ n6_ n7_ n8_
                have hHeld : w50.cell? ⟨gb344, 0, none⟩ = some (.int .i64 a1) ∧ w50.cell? ⟨gb344, 1, none⟩ = some (.int .i64 a2) ∧ w50.cell? ⟨gb344, 2, none⟩ = some (.int .i64 t339) ∧ w50.cell? ⟨gb344, 3, none⟩ = some (.slice Ao36 t340.length co36) ∧ w50.cell? ⟨gb344, 4, none⟩ = some (.int .i64 t343) := hS_
                obtain ⟨Ao52, co52, eo52⟩ := Kd.N_slice HO360.out
                (first | subst eo52 | (injection eo52 with f1_ f2_ f3_; have f4_ := f1_.symm; have f5_ := f3_.symm; clear f1_ f2_ f3_; subst f4_; subst f5_))
                refine norm_ (a' := ?_) ?_ ?_
                rotate_left
                · simp only [putAll, Act.put, List.setIfInBounds_toArray, List.set_cons_zero, List.set_cons_succ]
                  rfl
                refine one_ (i := 7) (N := some 47) #[true, true, true, true, true, true, true, true, true, true, true, false, false] rfl rfl (one_of HT_.out (by kernel_rfl)) (by decide) (fun K hK => ?_)
                refine Kd.N_append_rows_step k31 (w0 := w) w.heap.size (by rfl) (.tmp 44) (.tmp 46) 22 31 (.agg #[(.int .i64 0), (.int .i64 0), (.int .i64 0), (.slice none 0 0), (.int .i64 0)]) 56 rfl Try.underlying22 info31 rfl (by decide) (by omega) v356 y355 y358 _ _ _ (fun k_ => (w.heap.size ≤ k_) ∧ k_ ≠ gb334 ∧ k_ ≠ gb344) (fun k_ => ((fun k_ => (w.heap.size ≤ k_) ∧ k_ ≠ gb334 ∧ k_ ≠ gb344)) k_ ∧ some k_ ≠ (v356 : Value).ownBlock) rfl rfl ?aO ?aR (fun _ hk => hk) ?aF ?aB ?aS ?aL ?_
                (case aR => exact (by skip; exact Kd.N_F (Kd.N_mono (ok' := (fun k_ => ((fun k_ => (w.heap.size ≤ k_) ∧ k_ ≠ gb334 ∧ k_ ≠ gb344)) k_ ∧ some k_ ≠ (v356 : Value).ownBlock)) (HO360.out) (fun k_ hk => ⟨⟨hk.1, ⟨hk.2.2.2.1, hk.2.2.2.2⟩⟩, hk.2.2.1⟩))))
                (case aB => exact (by repeat (first | (with_reducible first | exact HB.out | apply below_alloc | apply pw_below_drewN | apply below_drew1 | refine below_set ?_ GE334.out | refine below_set ?_ GE344.out) | exact HB.out)))
                (case aF => exact (fun k_ hk => ⟨(Nat.le_trans (below_size (by repeat (first | (with_reducible first | exact HB.out | apply below_alloc | apply pw_below_drewN | apply below_drew1 | refine below_set ?_ GE334.out | refine below_set ?_ GE344.out) | exact HB.out))) hk), Kd.freshB (g := gb334) (o := .cells #[.int .i64 a3_0, .slice A3_1 l3_1.length c3_1, .int .i64 a3_2] 26 (0, 0)) (by (with_reducible repeat (first | refine blk_drewN ?_ _ | refine blk_drew ?_ | refine blk_alloc ?_ _)); exact BK334.out) k_ hk, Kd.freshB (g := gb344) (o := .cells #[.int .i64 a1, .int .i64 a2, .int .i64 t339, .slice Ao36 t340.length co36, .int .i64 t343] 31 (0, 0)) (by (with_reducible repeat (first | refine blk_drewN ?_ _ | refine blk_drew ?_ | refine blk_alloc ?_ _)); exact BK344.out) k_ hk⟩))
                (case aO => exact (by (with_reducible repeat (first | apply Kd.N_alloc | apply Kd.N_drewN | apply Kd.N_drew)); exact Kd.N_mono HO357.out (fun _ hk => ⟨hk.1, ⟨hk.2.2.1, hk.2.2.2⟩⟩)))
                (case aS => exact (below_size (by repeat (first | (with_reducible first | exact HB.out | apply below_alloc | apply pw_below_drewN | apply below_drew1 | refine below_set ?_ GE334.out | refine below_set ?_ GE344.out) | exact HB.out))))
                (case aL => have := LMc28.out; omega)
                intro v362 w51 ho hb hg hat
                rw [← Ny361.out] at ho
                have n0_ := Aside0.mk (blk_grown (g := gb334) (o := .cells #[.int .i64 a3_0, .slice A3_1 l3_1.length c3_1, .int .i64 a3_2] 26 (0, 0)) (by (with_reducible repeat (first | refine blk_drewN ?_ _ | refine blk_drew ?_ | refine blk_alloc ?_ _)); exact BK334.out) hg (Kd.N_ne HO357.out BK334.out (by decide)))
                have n1_ := Aside0.mk (Kd.N_afterv (ok := (fun k_ => (w.heap.size ≤ k_) ∧ some k_ ≠ (.slice Ao52 y358.length co52 : Value).ownBlock ∧ k_ ≠ gb334 ∧ k_ ≠ gb344)) (by (with_reducible repeat (first | apply Kd.N_alloc | apply Kd.N_drewN | apply Kd.N_drew)); exact Kd.N_mono HO337.out (fun _ hk => ⟨⟨hk.1, ⟨hk.2.2.1, ⟨hk.2.2.2.1, hk.2.2.2.2⟩⟩⟩, hk.2.1⟩)) hg hat)
                have n2_ := Aside0.mk (blk_grown (g := gb344) (o := .cells #[.int .i64 a1, .int .i64 a2, .int .i64 t339, .slice Ao36 t340.length co36, .int .i64 t343] 31 (0, 0)) (by (with_reducible repeat (first | refine blk_drewN ?_ _ | refine blk_drew ?_ | refine blk_alloc ?_ _)); exact BK344.out) hg (Kd.N_away HO357.out (fun _ hk => hk.2.2.2)))
                have n3_ := Aside0.mk (Kd.V_afterv (ok := (fun k_ => (w.heap.size ≤ k_) ∧ some k_ ≠ (.slice (some ad345) t335.length co41 : Value).ownBlock ∧ some k_ ≠ (.slice Ao52 y358.length co52 : Value).ownBlock ∧ k_ ≠ gb334 ∧ k_ ≠ gb344)) (by (with_reducible repeat (first | apply Kd.V_alloc | apply Kd.V_drewN | apply Kd.V_drew)); exact Kd.V_mono HL345_3.out (fun _ hk => ⟨⟨hk.1, ⟨hk.2.1, ⟨hk.2.2.2.1, ⟨hk.2.2.2.2.1, hk.2.2.2.2.2⟩⟩⟩⟩, hk.2.2.1⟩)) hg hat)
                have n4_ := Aside0.mk (Kd.V_afterv (ok := (fun k_ => (w.heap.size ≤ k_) ∧ some k_ ≠ (.slice Ao52 y358.length co52 : Value).ownBlock ∧ k_ ≠ gb334 ∧ k_ ≠ gb344)) (by (with_reducible repeat (first | apply Kd.V_alloc | apply Kd.V_drewN | apply Kd.V_drew)); exact Kd.V_mono HO354.out (fun _ hk => ⟨⟨hk.1, ⟨hk.2.2.1, ⟨hk.2.2.2.1, hk.2.2.2.2⟩⟩⟩, hk.2.1⟩)) hg hat)
                have n5_ := Aside0.mk (Kd.V_afterv (ok := (fun k_ => (w.heap.size ≤ k_) ∧ some k_ ≠ (.slice Ao52 y358.length co52 : Value).ownBlock ∧ k_ ≠ gb334 ∧ k_ ≠ gb344)) (by (with_reducible repeat (first | apply Kd.V_alloc | apply Kd.V_drewN | apply Kd.V_drew)); exact Kd.V_mono HO368.out (fun _ hk => ⟨⟨hk.1, ⟨hk.2.2.1, ⟨hk.2.2.2.1, hk.2.2.2.2⟩⟩⟩, hk.2.1⟩)) hg hat)
                have n6_ := Aside0.mk (Kd.N_afterv (ok := (fun k_ => (w.heap.size ≤ k_) ∧ some k_ ≠ (.slice (some ad345) t335.length co41 : Value).ownBlock ∧ k_ ≠ gb334 ∧ k_ ≠ gb344)) (by (with_reducible repeat (first | apply Kd.N_alloc | apply Kd.N_drewN | apply Kd.N_drew)); exact Kd.N_mono HO360.out (fun _ hk => ⟨⟨hk.1, ⟨hk.2.1, ⟨hk.2.2.2.1, hk.2.2.2.2⟩⟩⟩, hk.2.2.1⟩)) hg hat)
                have n7_ := Aside0.mk (hb)
                have n8_ := Aside0.mk (ho)
                clear BK334
                clear HO337
                clear BK344
                clear HL345_3
                clear HO354
                clear HO368
                clear HO360
                clear HB
                clear HO357
                have BK334 := n0_
                have HO337 := n1_
                have BK344 := n2_
                have HL345_3 := n3_
                have HO354 := n4_
                have HO368 := n5_
                have HO360 := n6_
                have HB := n7_
                have HO363 := n8_
                clear n0_ n1_ n2_ n3_ n4_ n5_ n6_ n7_ n8_
                clear ho hb hg hat
                refine hK.out _ _ ⟨(blk_cell BK344.out 0).trans rfl, (blk_cell BK344.out 1).trans rfl, (blk_cell BK344.out 2).trans rfl, (blk_cell BK344.out 3).trans rfl, (blk_cell BK344.out 4).trans rfl⟩ (fun hHeld => ?_)
                clear hK K
                refine norm_ (a' := ?_) ?_ ?_
                rotate_left
                · show Act.put _ (some 47) _ = _
                  simp only [Act.put, List.setIfInBounds_toArray, List.set_cons_zero, List.set_cons_succ, i64_w, i32_w]
                  rfl
                refine one_ (i := 11) (N := some 51) #[true, true, true, true, true, true, true, true, true, true, true, true, false] rfl rfl (one_of HT_.out (by kernel_rfl)) (by decide) (fun K hK => ?_)
                refine Kd.N_append_rows_step k31 (w0 := w) w.heap.size (by rfl) (.tmp 47) (.tmp 50) 22 31 (.agg #[(.int .i64 0), (.int .i64 0), (.int .i64 0), (.slice none 0 0), (.int .i64 0)]) 56 rfl Try.underlying22 info31 rfl (by decide) (by omega) v362 y361 y364 _ _ _ (fun k_ => (w.heap.size ≤ k_) ∧ k_ ≠ gb334 ∧ k_ ≠ gb344) (fun k_ => ((fun k_ => (w.heap.size ≤ k_) ∧ k_ ≠ gb334 ∧ k_ ≠ gb344)) k_ ∧ some k_ ≠ (v362 : Value).ownBlock) rfl rfl ?aO ?aR (fun _ hk => hk) ?aF ?aB ?aS ?aL ?_
                (case aR => exact (by skip; exact Kd.V_F (Kd.V_mono (ok' := (fun k_ => ((fun k_ => (w.heap.size ≤ k_) ∧ k_ ≠ gb334 ∧ k_ ≠ gb344)) k_ ∧ some k_ ≠ (v362 : Value).ownBlock)) (HO368.out) (fun k_ hk => ⟨⟨hk.1.1, ⟨hk.1.2.2.1, hk.1.2.2.2⟩⟩, hk.2⟩))))
                (case aB => exact (by repeat (first | (with_reducible first | exact HB.out | apply below_alloc | apply pw_below_drewN | apply below_drew1 | refine below_set ?_ GE334.out | refine below_set ?_ GE344.out) | exact HB.out)))
                (case aF => exact (fun k_ hk => ⟨(Nat.le_trans (below_size (by repeat (first | (with_reducible first | exact HB.out | apply below_alloc | apply pw_below_drewN | apply below_drew1 | refine below_set ?_ GE334.out | refine below_set ?_ GE344.out) | exact HB.out))) hk), Kd.freshB (g := gb334) (o := .cells #[.int .i64 a3_0, .slice A3_1 l3_1.length c3_1, .int .i64 a3_2] 26 (0, 0)) (by (with_reducible repeat (first | refine blk_drewN ?_ _ | refine blk_drew ?_ | refine blk_alloc ?_ _)); exact BK334.out) k_ hk, Kd.freshB (g := gb344) (o := .cells #[.int .i64 a1, .int .i64 a2, .int .i64 t339, .slice Ao36 t340.length co36, .int .i64 t343] 31 (0, 0)) (by (with_reducible repeat (first | refine blk_drewN ?_ _ | refine blk_drew ?_ | refine blk_alloc ?_ _)); exact BK344.out) k_ hk⟩))
                (case aO => exact (by (with_reducible repeat (first | apply Kd.N_alloc | apply Kd.N_drewN | apply Kd.N_drew)); exact HO363.out))
                (case aS => exact (below_size (by repeat (first | (with_reducible first | exact HB.out | apply below_alloc | apply pw_below_drewN | apply below_drew1 | refine below_set ?_ GE334.out | refine below_set ?_ GE344.out) | exact HB.out))))
                (case aL => have := LMc31.out; omega)
                intro v370 w53 ho hb hg hat
                rw [← Ny369.out] at ho
                have n0_ := Aside0.mk (blk_grown (g := gb334) (o := .cells #[.int .i64 a3_0, .slice A3_1 l3_1.length c3_1, .int .i64 a3_2] 26 (0, 0)) (by (with_reducible repeat (first | refine blk_drewN ?_ _ | refine blk_drew ?_ | refine blk_alloc ?_ _)); exact BK334.out) hg (Kd.N_ne HO363.out BK334.out (by decide)))
                have n1_ := Aside0.mk (Kd.N_afterv (ok := (fun k_ => (w.heap.size ≤ k_) ∧ some k_ ≠ (.slice Ao52 y358.length co52 : Value).ownBlock ∧ k_ ≠ gb334 ∧ k_ ≠ gb344)) (by (with_reducible repeat (first | apply Kd.N_alloc | apply Kd.N_drewN | apply Kd.N_drew)); exact HO337.out) hg hat)
                have n2_ := Aside0.mk (blk_grown (g := gb344) (o := .cells #[.int .i64 a1, .int .i64 a2, .int .i64 t339, .slice Ao36 t340.length co36, .int .i64 t343] 31 (0, 0)) (by (with_reducible repeat (first | refine blk_drewN ?_ _ | refine blk_drew ?_ | refine blk_alloc ?_ _)); exact BK344.out) hg (Kd.N_away HO363.out (fun _ hk => hk.2.2)))
                have n3_ := Aside0.mk (Kd.V_afterv (ok := (fun k_ => (w.heap.size ≤ k_) ∧ some k_ ≠ (.slice (some ad345) t335.length co41 : Value).ownBlock ∧ some k_ ≠ (.slice Ao52 y358.length co52 : Value).ownBlock ∧ k_ ≠ gb334 ∧ k_ ≠ gb344)) (by (with_reducible repeat (first | apply Kd.V_alloc | apply Kd.V_drewN | apply Kd.V_drew)); exact HL345_3.out) hg hat)
                have n4_ := Aside0.mk (Kd.V_afterv (ok := (fun k_ => (w.heap.size ≤ k_) ∧ some k_ ≠ (.slice Ao52 y358.length co52 : Value).ownBlock ∧ k_ ≠ gb334 ∧ k_ ≠ gb344)) (by (with_reducible repeat (first | apply Kd.V_alloc | apply Kd.V_drewN | apply Kd.V_drew)); exact HO354.out) hg hat)
                have n5_ := Aside0.mk (Kd.V_afterv (ok := (fun k_ => (w.heap.size ≤ k_) ∧ some k_ ≠ (.slice Ao52 y358.length co52 : Value).ownBlock ∧ k_ ≠ gb334 ∧ k_ ≠ gb344)) (by (with_reducible repeat (first | apply Kd.V_alloc | apply Kd.V_drewN | apply Kd.V_drew)); exact HO368.out) hg hat)
                have n6_ := Aside0.mk (Kd.N_afterv (ok := (fun k_ => (w.heap.size ≤ k_) ∧ some k_ ≠ (.slice (some ad345) t335.length co41 : Value).ownBlock ∧ k_ ≠ gb334 ∧ k_ ≠ gb344)) (by (with_reducible repeat (first | apply Kd.N_alloc | apply Kd.N_drewN | apply Kd.N_drew)); exact HO360.out) hg hat)
                have n7_ := Aside0.mk (hb)
                have n8_ := Aside0.mk (ho)
                clear BK334
                clear HO337
                clear BK344
                clear HL345_3
                clear HO354
                clear HO368
                clear HO360
                clear HB
                clear HO363
                have BK334 := n0_
                have HO337 := n1_
                have BK344 := n2_
                have HL345_3 := n3_
                have HO354 := n4_
                have HO368 := n5_
                have HO360 := n6_
                have HB := n7_
                have HO371 := n8_
                clear n0_ n1_ n2_ n3_ n4_ n5_ n6_ n7_ n8_
                clear ho hb hg hat
                refine hK.out _ _ ⟨(blk_cell BK344.out 0).trans rfl, (blk_cell BK344.out 1).trans rfl, (blk_cell BK344.out 2).trans rfl, (blk_cell BK344.out 3).trans rfl, (blk_cell BK344.out 4).trans rfl⟩ (fun hHeld => ?_)
                clear hK K
                refine norm_ (a' := ?_) ?_ ?_
                rotate_left
                · show Act.put _ (some 51) _ = _
                  simp only [Act.put, List.setIfInBounds_toArray, List.set_cons_zero, List.set_cons_succ, i64_w, i32_w]
                  rfl
                refine pure_ (i := 12) (N := some 8) (v := ?_) (a' := ?_) #[true, true, true, true, true, true, true, true, true, true, true, true, true] rfl rfl (any_of HT_.out (by kernel_rfl)) (fun _ _ _ h => h) (Or.inl ⟨by rfl, ?_⟩) ?_ ?_
                rotate_left
                · intro w'
                  go_simp
                  with_reducible rfl
                rotate_left
                · simp only [Act.put, List.setIfInBounds_toArray, List.set_cons_zero, List.set_cons_succ, i64_w, i32_w]
                  rfl
                refine done_ (done_of HT_.out (by kernel_rfl)) ?_
                try go_wp2
                go_ret
                exact ⟨_, by first | rfl | (simp [errW_none, errW_some] <;> rfl) | (simp [*, errW_none, errW_some] <;> rfl), by (with_reducible repeat (first | apply Kd.N_alloc | apply Kd.N_drewN | apply Kd.N_drew)); exact Kd.N_mono HO371.out (fun _ hk => hk.1), by repeat (first | (with_reducible first | exact HB.out | apply below_alloc | apply pw_below_drewN | apply below_drew1 | refine below_set ?_ GE334.out | refine below_set ?_ GE344.out) | exact HB.out)⟩
              · rw [if_neg c31] at H
                exact absurd H (by simp)
            · rw [if_neg c28] at H
              exact absurd H (by simp)
          · rw [if_neg c27] at H
            exact absurd H (by simp)
        · rw [if_neg c26] at H
          exact absurd H (by simp)
    · rw [if_neg c9] at H
      exact absurd H (by simp)
  · rw [if_neg c8] at H
    have c8b0 : decide (t338 < (t335.length : Int)) = false := decide_eq_false c8
    clear c8
    obtain ⟨y372, hy372⟩ : ∃ y_ : List (S31), y_ = (([] : List (S31))) := ⟨_, rfl⟩
    replace H : (if 0 ≤ t338 then (if t338 ≤ (t335.length : Int) then ((some (t335.take (t338 : Int).toNat : List (S31))).bind fun y375 => (if y372.length + y375.length < 2513169434916 then ((some (y372 ++ y375 : List (S31))).bind fun y380 => ((some (([(⟨a1, a2, (⟨t339, t340, t343⟩ : S26)⟩ : S31)] : List (S31)) : List (S31))).bind fun y383 => (if y380.length + y383.length < 2513169434916 then ((some (y380 ++ y383 : List (S31))).bind fun y386 => ((some (t335.drop (t338 : Int).toNat : List (S31))).bind fun y389 => (if y386.length + y389.length < 2513169434916 then (some (y386 ++ y389)) else (none)))) else (none)))) else (none))) else (none)) else (none)) = some r := by first | (rw [hy372]; with_reducible exact H) | (have H2_ := (Option.bind_some _ _).symm.trans H; rw [hy372]; with_reducible exact H2_) | (have H2_ := (Option.bind_some _ _).symm.trans H; with_reducible exact H2_) | with_reducible exact H | (rw [hy372]; exact H) | exact H
    have Ny372 := Aside0.mk hy372
    clear hy372
    by_cases c54 : 0 ≤ t338
    · rw [if_pos c54] at H
      have c54b0 := eq_true c54
      have c54b1 : decide (0 ≤ t338) = true := decide_eq_true c54
      clear c54
      by_cases c55 : t338 ≤ (t335.length : Int)
      · rw [if_pos c55] at H
        have c55b0 := eq_true c55
        have c55b1 : decide (t338 ≤ (t335.length : Int)) = true := decide_eq_true c55
        clear c55
        obtain ⟨y375, hy375⟩ : ∃ y_ : List (S31), y_ = (t335.take (t338 : Int).toNat) := ⟨_, rfl⟩
        replace H : (if y372.length + y375.length < 2513169434916 then ((some (y372 ++ y375 : List (S31))).bind fun y380 => ((some (([(⟨a1, a2, (⟨t339, t340, t343⟩ : S26)⟩ : S31)] : List (S31)) : List (S31))).bind fun y383 => (if y380.length + y383.length < 2513169434916 then ((some (y380 ++ y383 : List (S31))).bind fun y386 => ((some (t335.drop (t338 : Int).toNat : List (S31))).bind fun y389 => (if y386.length + y389.length < 2513169434916 then (some (y386 ++ y389)) else (none)))) else (none)))) else (none)) = some r := by first | (rw [hy375]; with_reducible exact H) | (have H2_ := (Option.bind_some _ _).symm.trans H; rw [hy375]; with_reducible exact H2_) | (have H2_ := (Option.bind_some _ _).symm.trans H; with_reducible exact H2_) | with_reducible exact H | (rw [hy375]; exact H) | exact H
        have Ny375 := Aside0.mk hy375
        clear hy375
        by_cases c56 : y372.length + y375.length < 2513169434916
        · rw [if_pos c56] at H
          have LMc56 := Aside0.mk c56
          clear c56
          obtain ⟨y380, hy380⟩ : ∃ y_ : List (S31), y_ = (y372 ++ y375) := ⟨_, rfl⟩
          replace H : ((some (([(⟨a1, a2, (⟨t339, t340, t343⟩ : S26)⟩ : S31)] : List (S31)) : List (S31))).bind fun y383 => (if y380.length + y383.length < 2513169434916 then ((some (y380 ++ y383 : List (S31))).bind fun y386 => ((some (t335.drop (t338 : Int).toNat : List (S31))).bind fun y389 => (if y386.length + y389.length < 2513169434916 then (some (y386 ++ y389)) else (none)))) else (none))) = some r := by first | (rw [hy380]; with_reducible exact H) | (have H2_ := (Option.bind_some _ _).symm.trans H; rw [hy380]; with_reducible exact H2_) | (have H2_ := (Option.bind_some _ _).symm.trans H; with_reducible exact H2_) | with_reducible exact H | (rw [hy380]; exact H) | exact H
          have Ny380 := Aside0.mk hy380
          clear hy380
          obtain ⟨y383, hy383⟩ : ∃ y_ : List (S31), y_ = (([(⟨a1, a2, (⟨t339, t340, t343⟩ : S26)⟩ : S31)] : List (S31))) := ⟨_, rfl⟩
          replace H : (if y380.length + y383.length < 2513169434916 then ((some (y380 ++ y383 : List (S31))).bind fun y386 => ((some (t335.drop (t338 : Int).toNat : List (S31))).bind fun y389 => (if y386.length + y389.length < 2513169434916 then (some (y386 ++ y389)) else (none)))) else (none)) = some r := by first | (rw [hy383]; with_reducible exact H) | (have H2_ := (Option.bind_some _ _).symm.trans H; rw [hy383]; with_reducible exact H2_) | (have H2_ := (Option.bind_some _ _).symm.trans H; with_reducible exact H2_) | with_reducible exact H | (rw [hy383]; exact H) | exact H
          have Ny383 := Aside0.mk hy383
          clear hy383
          by_cases c57 : y380.length + y383.length < 2513169434916
          · rw [if_pos c57] at H
            have LMc57 := Aside0.mk c57
            clear c57
            obtain ⟨y386, hy386⟩ : ∃ y_ : List (S31), y_ = (y380 ++ y383) := ⟨_, rfl⟩
            replace H : ((some (t335.drop (t338 : Int).toNat : List (S31))).bind fun y389 => (if y386.length + y389.length < 2513169434916 then (some (y386 ++ y389)) else (none))) = some r := by first | (rw [hy386]; with_reducible exact H) | (have H2_ := (Option.bind_some _ _).symm.trans H; rw [hy386]; with_reducible exact H2_) | (have H2_ := (Option.bind_some _ _).symm.trans H; with_reducible exact H2_) | with_reducible exact H | (rw [hy386]; exact H) | exact H
            have Ny386 := Aside0.mk hy386
            clear hy386
            have c58b0 := eq_true (of_decide_eq_true (by first | (with_reducible assumption) | assumption) : 0 ≤ t338)
            have c59b0 := eq_true (of_decide_eq_true (by first | (with_reducible assumption) | assumption) : t338 ≤ (t335.length : Int))
            obtain ⟨y389, hy389⟩ : ∃ y_ : List (S31), y_ = (t335.drop (t338 : Int).toNat) := ⟨_, rfl⟩
            replace H : (if y386.length + y389.length < 2513169434916 then (some (y386 ++ y389)) else (none)) = some r := by first | (rw [hy389]; with_reducible exact H) | (have H2_ := (Option.bind_some _ _).symm.trans H; rw [hy389]; with_reducible exact H2_) | (have H2_ := (Option.bind_some _ _).symm.trans H; with_reducible exact H2_) | with_reducible exact H | (rw [hy389]; exact H) | exact H
            have Ny389 := Aside0.mk hy389
            clear hy389
            by_cases c60 : y386.length + y389.length < 2513169434916
            · rw [if_pos c60] at H
              have LMc60 := Aside0.mk c60
              clear c60
              obtain ⟨y394, hy394⟩ : ∃ y_ : List (S31), y_ = (y386 ++ y389) := ⟨_, rfl⟩
              replace H : (some y394) = some r := by first | (rw [hy394]; with_reducible exact H) | (have H2_ := (Option.bind_some _ _).symm.trans H; rw [hy394]; with_reducible exact H2_) | (have H2_ := (Option.bind_some _ _).symm.trans H; with_reducible exact H2_) | with_reducible exact H | (rw [hy394]; exact H) | exact H
              have Ny394 := Aside0.mk hy394
              clear hy394
              obtain rfl := Option.some.inj H
              go_enter Try.func13, Try.ntmps13
              try go_wp2_with (first | ((with_reducible refine gate_dst (N := 7) rfl ?_); refine box_event ?hg (N := 7) ?hd (cs := #[.int .i64 a3_0, .slice A3_1 l3_1.length c3_1, .int .i64 a3_2]) (t := 26) ?hr ?_; (case hd => rfl); (case hg => rfl); (case hr => first | (go_simp; done) | (go_simp; rfl)); intro gb334 hg w61 hbox hb; have n0_ := Aside0.mk (below_step (by repeat (first | (with_reducible first | exact HB.out | apply below_alloc | apply pw_below_drewN | apply below_drew1) | exact HB.out)) hb); have n1_ := Aside0.mk (hbox); have n2_ := Aside0.mk ((by rw [hg]; exact (below_size (by repeat (first | (with_reducible first | exact HB.out | apply below_alloc | apply pw_below_drewN | apply below_drew1) | exact HB.out))) : w.heap.size ≤ gb334)); have n3_ := Aside0.mk ((by rw [hg]; exact (below_size (by repeat (first | (with_reducible first | exact HB.out | apply below_alloc | apply pw_below_drewN | apply below_drew1) | exact HB.out))) : w.heap.size ≤ gb334)); clear HB; have HB := n0_; have BK334 := n1_; have GW334 := n2_; have GE334 := n3_; clear n0_ n1_ n2_ n3_; clear hb hbox hg) | ((with_reducible refine gate_callee (f := 24) rfl ?_); refine goesL_ (some 13) rfl rfl Try.func24 (by kernel_rfl) rfl #[.slice A0 l0.length c0] rfl (by (try simp only [List.map_toArray, List.map_cons, List.map_nil]); first | done | rfl | (simp only [List.length_drop, List.length_take]; rfl)) ?_; (with_reducible refine (hocketref4_table.calls k _ _ l0 t335 _ ?side1 ?side2 A5.out).mono ?_); (case side1 => repeat (first | exact (Kd.C_below HR0.out HB.out) | (with_reducible refine Kd.C_alloc ?_ _) | (with_reducible refine Kd.C_drewN ?_ _) | (with_reducible refine Kd.C_drew ?_))); (case side2 => exact HC0.out); rintro e w62 ⟨v336, rfl, ho0, hb⟩; refine ⟨_, rfl, ?_⟩; have n0_ := Aside0.mk (Kd.N_lower (Kd.N_mono (ok' := fun k_ => (w.heap.size ≤ k_) ∧ k_ ≠ gb334) (Kd.S_N (Kd.S_bound ho0)) (fun k_ hk_ => ⟨(Nat.le_trans (below_size (by repeat (first | (with_reducible first | exact HB.out | apply below_alloc | apply pw_below_drewN | apply below_drew1 | refine below_set ?_ GE334.out) | exact HB.out))) hk_.2.1), (Kd.freshB (g := gb334) (o := .cells #[.int .i64 a3_0, .slice A3_1 l3_1.length c3_1, .int .i64 a3_2] 26 (0, 0)) (by (with_reducible repeat (first | refine blk_drewN ?_ _ | refine blk_drew ?_ | refine blk_alloc ?_ _)); exact BK334.out) k_ hk_.2.1)⟩)) (below_size (by repeat (first | (with_reducible first | exact HB.out | apply below_alloc | apply pw_below_drewN | apply below_drew1 | refine below_set ?_ GE334.out) | exact HB.out)))); have n1_ := Aside0.mk (blk_below (g := gb334) (o := .cells #[.int .i64 a3_0, .slice A3_1 l3_1.length c3_1, .int .i64 a3_2] 26 (0, 0)) (by (with_reducible repeat (first | refine blk_drewN ?_ _ | refine blk_drew ?_ | refine blk_alloc ?_ _)); exact BK334.out) hb); have n2_ := Aside0.mk (below_step (by repeat (first | (with_reducible first | exact HB.out | apply below_alloc | apply pw_below_drewN | apply below_drew1 | refine below_set ?_ GE334.out) | exact HB.out)) hb); clear BK334; clear HB; have HO337 := n0_; have BK334 := n1_; have HB := n2_; clear n0_ n1_ n2_; (try clear hb); (try clear hb2); (try clear hk); (try clear hi); (try clear ho0)) | ((with_reducible refine gate_callee (f := 22) rfl ?_); refine goesL_ (some 16) rfl rfl Try.func22 (by kernel_rfl) rfl #[.slice A0 l0.length c0, .int .i64 a1] rfl (by (try simp only [List.map_toArray, List.map_cons, List.map_nil]); first | done | rfl | (simp only [List.length_drop, List.length_take]; rfl)) ?_; (with_reducible refine (hocketref4_at.calls k _ _ l0 a1 t338 _ ?side1 ?side2 A6.out).mono ?_); (case side1 => repeat (first | exact (Kd.C_below HR0.out HB.out) | (with_reducible refine Kd.C_alloc ?_ _) | (with_reducible refine Kd.C_drewN ?_ _) | (with_reducible refine Kd.C_drew ?_))); (case side2 => exact HC0.out); rintro e w' ⟨rfl, ⟨nd, rfl⟩⟩; refine ⟨_, rfl, ?_⟩; (try (rw [drewN_self w62]; generalize hq_ : World.drewN w62 _ = w62; have n0_ : Aside0 (Kd.N k31 31 w62 w.heap.size (fun k_ => (w.heap.size ≤ k_) ∧ k_ ≠ gb334) v336 t335) := ⟨by rw [← hq_]; exact (by (with_reducible repeat (first | apply Kd.N_alloc | apply Kd.N_drewN | apply Kd.N_drew)); exact HO337.out)⟩; have n1_ : Aside0 (w62.heap[gb334]? = some (.cells #[.int .i64 a3_0, .slice A3_1 l3_1.length c3_1, .int .i64 a3_2] 26 (0, 0))) := ⟨by rw [← hq_]; exact (by (with_reducible repeat (first | refine blk_drewN ?_ _ | refine blk_drew ?_ | refine blk_alloc ?_ _)); exact BK334.out)⟩; have n2_ : Aside0 (Below w.heap.size w w62) := ⟨by rw [← hq_]; exact (by repeat (first | (with_reducible first | exact HB.out | apply below_alloc | apply pw_below_drewN | apply below_drew1 | refine below_set ?_ GE334.out) | exact HB.out))⟩; clear HO337 BK334 HB hq_; have HO337 := n0_; have BK334 := n1_; have HB := n2_; clear n0_ n1_ n2_)); have hcz63_0 : w62.cell? ⟨gb334, 0, none⟩ = some (.int .i64 a3_0) := (blk_cell BK334.out 0).trans rfl; have hcz63_1 : w62.cell? ⟨gb334, 1, none⟩ = some (.slice A3_1 l3_1.length c3_1) := (blk_cell BK334.out 1).trans rfl; have hcz63_2 : w62.cell? ⟨gb334, 2, none⟩ = some (.int .i64 a3_2) := (blk_cell BK334.out 2).trans rfl; have hfz63_0 := blk_frozen BK334.out 0; have hfz63_1 := blk_frozen BK334.out 1; have hfz63_2 := blk_frozen BK334.out 2) | ((with_reducible refine gate_callee (f := 23) rfl ?_); refine goesL_ (some 20) rfl rfl Try.func23 (by kernel_rfl) rfl #[.agg #[.int .i64 a3_0, .slice A3_1 l3_1.length c3_1, .int .i64 a3_2]] rfl (by (try simp only [List.map_toArray, List.map_cons, List.map_nil]); first | done | rfl | (simp only [List.length_drop, List.length_take]; rfl)) ?_; (with_reducible refine (hocketref4_result.calls a3_0 _ _ l3_1 a3_2 t339 t340 t343 _ ?side1 ?side2 A7.out).mono ?_); (case side1 => repeat (first | exact (Kd.C_below HR3_1.out HB.out) | (with_reducible refine Kd.C_alloc ?_ _) | (with_reducible refine Kd.C_drewN ?_ _) | (with_reducible refine Kd.C_drew ?_))); (case side2 => exact HC3_1.out); rintro e w64 ⟨v341, rfl, ho0, hb⟩; refine ⟨_, rfl, ?_⟩; have n0_ := Aside0.mk (Kd.N_elder' (by (with_reducible repeat (first | apply Kd.N_alloc | apply Kd.N_drewN | apply Kd.N_drew)); exact HO337.out) (Kd.R_base ho0) hb); have n1_ := Aside0.mk (Kd.R_lower (Kd.R_newM (M := fun k_ => (w.heap.size ≤ k_)) ho0 (below_size (by repeat (first | (with_reducible first | exact HB.out | apply below_alloc | apply pw_below_drewN | apply below_drew1 | refine below_set ?_ GE334.out) | exact HB.out))) (fun k_ h_ => h_)) (below_size (by repeat (first | (with_reducible first | exact HB.out | apply below_alloc | apply pw_below_drewN | apply below_drew1 | refine below_set ?_ GE334.out) | exact HB.out)))); have n2_ := Aside0.mk (blk_below (g := gb334) (o := .cells #[.int .i64 a3_0, .slice A3_1 l3_1.length c3_1, .int .i64 a3_2] 26 (0, 0)) (by (with_reducible repeat (first | refine blk_drewN ?_ _ | refine blk_drew ?_ | refine blk_alloc ?_ _)); exact BK334.out) hb); have n3_ := Aside0.mk (below_step (by repeat (first | (with_reducible first | exact HB.out | apply below_alloc | apply pw_below_drewN | apply below_drew1 | refine below_set ?_ GE334.out) | exact HB.out)) hb); clear HO337; clear BK334; clear HB; have HO337 := n0_; have HO342 := n1_; have BK334 := n2_; have HB := n3_; clear n0_ n1_ n2_ n3_; (try clear hb); (try clear hb2); (try clear hk); (try clear hi); (try clear ho0); obtain ⟨Ao65, co65, eo65⟩ := Kd.R_slice HO342.out; subst eo65) | ((with_reducible refine gate_dst (N := 11) rfl ?_); refine box_event ?hg (N := 11) ?hd (cs := #[.int .i64 0, .int .i64 0, .int .i64 0, .slice none 0 0, .int .i64 0]) (t := 31) ?hr ?_; (case hd => rfl); (case hg => rfl); (case hr => first | (go_simp; done) | (go_simp; rfl)); intro gb344 hg w66 hbox hb; have n0_ := Aside0.mk (Kd.N_below (Kd.N_elderB (by (with_reducible repeat (first | apply Kd.N_alloc | apply Kd.N_drewN | apply Kd.N_drew)); exact HO337.out) gb344 (Nat.le_of_eq hg.symm)) hb); have n1_ := Aside0.mk (Kd.R_below (by (with_reducible repeat (first | apply Kd.R_alloc | apply Kd.R_drewN | apply Kd.R_drew)); exact HO342.out) hb); have n2_ := Aside0.mk (blk_below (g := gb334) (o := .cells #[.int .i64 a3_0, .slice A3_1 l3_1.length c3_1, .int .i64 a3_2] 26 (0, 0)) (by (with_reducible repeat (first | refine blk_drewN ?_ _ | refine blk_drew ?_ | refine blk_alloc ?_ _)); exact BK334.out) hb); have n3_ := Aside0.mk (below_step (by repeat (first | (with_reducible first | exact HB.out | apply below_alloc | apply pw_below_drewN | apply below_drew1 | refine below_set ?_ GE334.out) | exact HB.out)) hb); have n4_ := Aside0.mk (hbox); have n5_ := Aside0.mk ((by rw [hg]; exact (below_size (by repeat (first | (with_reducible first | exact HB.out | apply below_alloc | apply pw_below_drewN | apply below_drew1 | refine below_set ?_ GE334.out) | exact HB.out))) : w.heap.size ≤ gb344)); have n6_ := Aside0.mk ((by rw [hg]; exact (below_size (by repeat (first | (with_reducible first | exact HB.out | apply below_alloc | apply pw_below_drewN | apply below_drew1 | refine below_set ?_ GE334.out) | exact HB.out))) : w.heap.size ≤ gb344)); have n7_ := Aside0.mk ((by rw [hg]; exact Nat.ne_of_lt (blk_lt (g := gb334) (o := .cells #[.int .i64 a3_0, .slice A3_1 l3_1.length c3_1, .int .i64 a3_2] 26 (0, 0)) (by (with_reducible repeat (first | refine blk_drewN ?_ _ | refine blk_drew ?_ | refine blk_alloc ?_ _)); exact BK334.out)) : gb334 ≠ gb344)); have n8_ := Aside0.mk ((by rw [hg]; exact Nat.ne_of_gt (blk_lt (g := gb334) (o := .cells #[.int .i64 a3_0, .slice A3_1 l3_1.length c3_1, .int .i64 a3_2] 26 (0, 0)) (by (with_reducible repeat (first | refine blk_drewN ?_ _ | refine blk_drew ?_ | refine blk_alloc ?_ _)); exact BK334.out)) : gb344 ≠ gb334)); clear HO337; clear HO342; clear BK334; clear HB; have HO337 := n0_; have HO342 := n1_; have BK334 := n2_; have HB := n3_; have BK344 := n4_; have GW344 := n5_; have GE344 := n6_; have NB334_344 := n7_; have NB344_334 := n8_; clear n0_ n1_ n2_ n3_ n4_ n5_ n6_ n7_ n8_; clear hb hbox hg; have hnb67 := NB344_334.out; have hnc67 := NB334_344.out; have hcz68_0 : w66.cell? ⟨gb344, 0, none⟩ = some (.int .i64 0) := (blk_cell BK344.out 0).trans rfl; have hcz68_1 : w66.cell? ⟨gb344, 1, none⟩ = some (.int .i64 0) := (blk_cell BK344.out 1).trans rfl; have hcz68_2 : w66.cell? ⟨gb344, 2, none⟩ = some (.int .i64 0) := (blk_cell BK344.out 2).trans rfl; have hcz68_3 : w66.cell? ⟨gb344, 3, none⟩ = some (.slice none 0 0) := (blk_cell BK344.out 3).trans rfl; have hcz68_4 : w66.cell? ⟨gb344, 4, none⟩ = some (.int .i64 0) := (blk_cell BK344.out 4).trans rfl; have hfz68_0 := blk_frozen BK344.out 0; have hfz68_1 := blk_frozen BK344.out 1; have hfz68_2 := blk_frozen BK344.out 2; have hfz68_3 := blk_frozen BK344.out 3; have hfz68_4 := blk_frozen BK344.out 4; obtain ⟨Ao69, co69, eo69⟩ := Kd.N_slice HO337.out; subst eo69))
              have n0_ : Aside0 (Kd.N k31 31 (((((w66.setCell ⟨gb344, 0, none⟩ (.int .i64 a1)).setCell ⟨gb344, 1, none⟩ (.int .i64 a2)).setCell ⟨gb344, 2, none⟩ (.int .i64 t339)).setCell ⟨gb344, 3, none⟩ (.slice Ao65 t340.length co65)).setCell ⟨gb344, 4, none⟩ (.int .i64 t343)) w.heap.size (fun k_ => (w.heap.size ≤ k_) ∧ some k_ ≠ (.slice Ao65 t340.length co65 : Value).ownBlock ∧ k_ ≠ gb334 ∧ k_ ≠ gb344) (.slice Ao69 t335.length co69) t335) := ⟨by (with_reducible repeat (first | apply Kd.N_alloc | apply Kd.N_drewN | apply Kd.N_drew)); exact Kd.N_mono (Kd.N_far (p := ⟨gb344, 4, none⟩) (Kd.N_far (p := ⟨gb344, 3, none⟩) (Kd.N_far (p := ⟨gb344, 2, none⟩) (Kd.N_far (p := ⟨gb344, 1, none⟩) (Kd.N_far (p := ⟨gb344, 0, none⟩) (Kd.N_mono HO337.out (fun k_ hk => (⟨hk, hk.2⟩ : _ ∧ k_ ≠ gb344))) (fun _ hk => hk.2) (.int .i64 a1)) (fun _ hk => hk.2) (.int .i64 a2)) (fun _ hk => hk.2) (.int .i64 t339)) (fun _ hk => hk.2) (.slice Ao65 t340.length co65)) (fun _ hk => hk.2) (.int .i64 t343)) (fun _ hk => ⟨hk.1.1.1.1, ⟨hk.1.1.2, ⟨hk.1.1.1.2, hk.1.2⟩⟩⟩)⟩
              have n1_ : Aside0 (Kd.R (Kd.int .u8) 5 (((((w66.setCell ⟨gb344, 0, none⟩ (.int .i64 a1)).setCell ⟨gb344, 1, none⟩ (.int .i64 a2)).setCell ⟨gb344, 2, none⟩ (.int .i64 t339)).setCell ⟨gb344, 3, none⟩ (.slice Ao65 t340.length co65)).setCell ⟨gb344, 4, none⟩ (.int .i64 t343)) w.heap.size (fun k_ => (w.heap.size ≤ k_)) (.slice Ao65 t340.length co65) t340) := ⟨by (with_reducible repeat (first | apply Kd.R_alloc | apply Kd.R_drewN | apply Kd.R_drew)); exact Kd.R_mono (Kd.R_far (p := ⟨gb344, 4, none⟩) (Kd.R_far (p := ⟨gb344, 3, none⟩) (Kd.R_far (p := ⟨gb344, 2, none⟩) (Kd.R_far (p := ⟨gb344, 1, none⟩) (Kd.R_far (p := ⟨gb344, 0, none⟩) (Kd.R_types HO342.out BK344.out (by decide)) (fun _ hk => hk.2) (.int .i64 a1)) (fun _ hk => hk.2) (.int .i64 a2)) (fun _ hk => hk.2) (.int .i64 t339)) (fun _ hk => hk.2) (.slice Ao65 t340.length co65)) (fun _ hk => hk.2) (.int .i64 t343)) (fun _ hk => hk.1.1)⟩
              have n2_ : Aside0 ((((((w66.setCell ⟨gb344, 0, none⟩ (.int .i64 a1)).setCell ⟨gb344, 1, none⟩ (.int .i64 a2)).setCell ⟨gb344, 2, none⟩ (.int .i64 t339)).setCell ⟨gb344, 3, none⟩ (.slice Ao65 t340.length co65)).setCell ⟨gb344, 4, none⟩ (.int .i64 t343)).heap[gb334]? = some (.cells #[.int .i64 a3_0, .slice A3_1 l3_1.length c3_1, .int .i64 a3_2] 26 (0, 0))) := ⟨by (with_reducible repeat (first | refine blk_drewN ?_ _ | refine blk_drew ?_ | refine blk_alloc ?_ _)); refine blk_far ?_ NB334_344.out _; (with_reducible repeat (first | refine blk_drewN ?_ _ | refine blk_drew ?_ | refine blk_alloc ?_ _)); refine blk_far ?_ NB334_344.out _; (with_reducible repeat (first | refine blk_drewN ?_ _ | refine blk_drew ?_ | refine blk_alloc ?_ _)); refine blk_far ?_ NB334_344.out _; (with_reducible repeat (first | refine blk_drewN ?_ _ | refine blk_drew ?_ | refine blk_alloc ?_ _)); refine blk_far ?_ NB334_344.out _; (with_reducible repeat (first | refine blk_drewN ?_ _ | refine blk_drew ?_ | refine blk_alloc ?_ _)); refine blk_far ?_ NB334_344.out _; (with_reducible repeat (first | refine blk_drewN ?_ _ | refine blk_drew ?_ | refine blk_alloc ?_ _)); exact BK334.out⟩
              have n3_ : Aside0 ((((((w66.setCell ⟨gb344, 0, none⟩ (.int .i64 a1)).setCell ⟨gb344, 1, none⟩ (.int .i64 a2)).setCell ⟨gb344, 2, none⟩ (.int .i64 t339)).setCell ⟨gb344, 3, none⟩ (.slice Ao65 t340.length co65)).setCell ⟨gb344, 4, none⟩ (.int .i64 t343)).heap[gb344]? = some (.cells #[.int .i64 a1, .int .i64 a2, .int .i64 t339, .slice Ao65 t340.length co65, .int .i64 t343] 31 (0, 0))) := ⟨by (with_reducible repeat (first | refine blk_drewN ?_ _ | refine blk_drew ?_ | refine blk_alloc ?_ _)); refine blk_put (cs := #[.int .i64 a1, .int .i64 a2, .int .i64 t339, .slice Ao65 t340.length co65, .int .i64 0]) ?_ 4 _ rfl; (with_reducible repeat (first | refine blk_drewN ?_ _ | refine blk_drew ?_ | refine blk_alloc ?_ _)); refine blk_put (cs := #[.int .i64 a1, .int .i64 a2, .int .i64 t339, .slice none 0 0, .int .i64 0]) ?_ 3 _ rfl; (with_reducible repeat (first | refine blk_drewN ?_ _ | refine blk_drew ?_ | refine blk_alloc ?_ _)); refine blk_put (cs := #[.int .i64 a1, .int .i64 a2, .int .i64 0, .slice none 0 0, .int .i64 0]) ?_ 2 _ rfl; (with_reducible repeat (first | refine blk_drewN ?_ _ | refine blk_drew ?_ | refine blk_alloc ?_ _)); refine blk_put (cs := #[.int .i64 a1, .int .i64 0, .int .i64 0, .slice none 0 0, .int .i64 0]) ?_ 1 _ rfl; (with_reducible repeat (first | refine blk_drewN ?_ _ | refine blk_drew ?_ | refine blk_alloc ?_ _)); refine blk_put (cs := #[.int .i64 0, .int .i64 0, .int .i64 0, .slice none 0 0, .int .i64 0]) ?_ 0 _ rfl; (with_reducible repeat (first | refine blk_drewN ?_ _ | refine blk_drew ?_ | refine blk_alloc ?_ _)); exact BK344.out⟩
              have n4_ : Aside0 (Below w.heap.size w (((((w66.setCell ⟨gb344, 0, none⟩ (.int .i64 a1)).setCell ⟨gb344, 1, none⟩ (.int .i64 a2)).setCell ⟨gb344, 2, none⟩ (.int .i64 t339)).setCell ⟨gb344, 3, none⟩ (.slice Ao65 t340.length co65)).setCell ⟨gb344, 4, none⟩ (.int .i64 t343))) := ⟨by repeat (first | (with_reducible first | exact HB.out | apply below_alloc | apply pw_below_drewN | apply below_drew1 | refine below_set ?_ GE334.out | refine below_set ?_ GE344.out) | exact HB.out)⟩
              (try clear HO337)
              (try clear HO342)
              (try clear BK334)
              (try clear BK344)
              (try clear HB)
              generalize (((((w66.setCell ⟨gb344, 0, none⟩ (.int .i64 a1)).setCell ⟨gb344, 1, none⟩ (.int .i64 a2)).setCell ⟨gb344, 2, none⟩ (.int .i64 t339)).setCell ⟨gb344, 3, none⟩ (.slice Ao65 t340.length co65)).setCell ⟨gb344, 4, none⟩ (.int .i64 t343)) = w70 at n0_ n1_ n2_ n3_ n4_ ⊢
              have HO337 := n0_
              have HO342 := n1_
              have BK334 := n2_
              have BK344 := n3_
              have HB := n4_
              clear n0_ n1_ n2_ n3_ n4_
              have n0_ := Aside0.mk (Kd.N_drew HO337.out)
              have n1_ := Aside0.mk (Kd.R_drew HO342.out)
              have n2_ := Aside0.mk (blk_drew BK334.out)
              have n3_ := Aside0.mk (blk_drew BK344.out)
              have n4_ := Aside0.mk (below_drew1 HB.out)
              clear HO337
              clear HO342
              clear BK334
              clear BK344
              clear HB
              have HO337 := n0_
              have HO342 := n1_
              have BK334 := n2_
              have BK344 := n3_
              have HB := n4_
              clear n0_ n1_ n2_ n3_ n4_
              have q72 : (t338 : Int) ≤ ((t335.length : Int) : Int) := of_decide_eq_true (by first | (with_reducible assumption) | assumption)
              obtain ⟨i072, hi072, _, hsz72, _⟩ := info_parts info31
              have hroom72 : t335.length ≤ co69 := (Kd.N_reads' HO337.out).2.1
              have hC72 : Kd.F k31 _ _ Ao69 t335.length t335 := (Kd.V_at (base := w.heap.size) (Kd.N_V HO337.out)).2.2
              have hcut72 := cut_to (P := Try.prog) 22 31 .i64 Try.underlying22 hi072 Ao69 t335.length co69 t338 (of_decide_eq_true (by first | (with_reducible assumption) | assumption)) q72 hroom72
              have hr72 := Kd.F_take (m := (t338 : Int).toNat) hC72 (by omega)
              have hy72 : y375.length = (t338 : Int).toNat := (by rw [Ny375.out, List.length_take]; omega)
              rw [← Ny375.out] at hr72
              rw [← hy72] at hcut72
              have HO379 := Aside0.mk (show Kd.V k31 31 _ w.heap.size _ (.slice Ao69 y375.length co69) y375 from Kd.V_mk (by omega) hr72)
              have HC379 := Aside0.mk (show y375.length ≤ co69 from by omega)
              clear hr72 hC72 hroom72 hi072 hsz72
              have KY72 := Aside0.mk hy72
              clear hy72
              replace q72 := eq_true q72
              have q73 : (t338 : Int) ≤ ((t335.length : Int) : Int) := of_decide_eq_true (by first | (with_reducible assumption) | assumption)
              obtain ⟨i073, hi073, _, hsz73, _⟩ := info_parts info31
              have hroom73 : t335.length ≤ co69 := (Kd.N_reads' HO337.out).2.1
              have hC73 : Kd.F k31 _ _ Ao69 t335.length t335 := (Kd.V_at (base := w.heap.size) (Kd.N_V HO337.out)).2.2
              have q073 : (0 : Int) ≤ (t338 : Int) := of_decide_eq_true (by first | (with_reducible assumption) | assumption)
              have hcut73 := cut_from (P := Try.prog) 22 31 .i64 Try.underlying22 hi073 5 hsz73 Ao69 t335.length co69 t338 q073 q73
              have hr73 := Kd.F_cut (m := (t338 : Int).toNat) (c := co69) hC73 (by omega) hroom73
              obtain ⟨A73, hA73⟩ : ∃ A1, A1 = (if co69 = (t338 : Int).toNat then Ao69 else (Ao69 : Option Addr).map (·.add ((t338 : Int).toNat * 5))) := ⟨_, rfl⟩
              obtain ⟨c73, hc73⟩ : ∃ c1, c1 = co69 - (t338 : Int).toNat := ⟨_, rfl⟩
              have hy73 : y389.length = t335.length - (t338 : Int).toNat := (by rw [Ny389.out, List.length_drop] <;> omega)
              rw [show (t335).drop (t338 : Int).toNat = y389 from Ny389.out.symm] at hr73
              replace hr73 : Kd.F k31 _ _ A73 y389.length y389 := (by rw [hA73]; exact hr73)
              rw [← hy73, ← hA73, ← hc73] at hcut73
              have HO393 := Aside0.mk (show Kd.V k31 31 _ w.heap.size _ (.slice A73 y389.length c73) y389 from Kd.V_mk (by rw [hy73, hc73]; exact Nat.sub_le_sub_right hroom73 _) hr73)
              have HC393 := Aside0.mk (show y389.length ≤ c73 from by rw [hy73, hc73]; exact Nat.sub_le_sub_right hroom73 _)
              clear hr73 hC73 hroom73 hi073 hsz73 hc73
              have KY73 := Aside0.mk hy73
              have KA73 := Aside0.mk hA73
              clear hy73 hA73
              replace q73 := eq_true q73
              refine start_ (n := 13) (S := fun w' => w'.cell? ⟨gb344, 0, none⟩ = some (.int .i64 a1) ∧ w'.cell? ⟨gb344, 1, none⟩ = some (.int .i64 a2) ∧ w'.cell? ⟨gb344, 2, none⟩ = some (.int .i64 t339) ∧ w'.cell? ⟨gb344, 3, none⟩ = some (.slice Ao65 t340.length co65) ∧ w'.cell? ⟨gb344, 4, none⟩ = some (.int .i64 t343)) (ds := []) #[false, false, false, false, false, false, false, false, false, false, false, false, false] (by kernel_rfl) rfl rfl ⟨(blk_cell BK344.out 0).trans rfl, (blk_cell BK344.out 1).trans rfl, (blk_cell BK344.out 2).trans rfl, (blk_cell BK344.out 3).trans rfl, (blk_cell BK344.out 4).trans rfl⟩ (fun hHeld => ?_); refine with_tabW hocketref4_PutLast.tab7 hocketref4_PutLast.bits7 (fun HT_ HW_ => ?_)
              generalize w70.drew = w71 at HO337 HO342 BK334 BK344 HB HO379 HO393 hHeld ⊢
              refine pure_ (i := 1) (N := some 41) (v := ?_) (a' := ?_) #[false, true, false, false, false, false, false, false, false, false, false, false, false] rfl rfl (any_of HT_.out (by kernel_rfl)) (fun _ _ _ h => h) (Or.inl ⟨by rfl, ?_⟩) ?_ ?_
              rotate_left
              · intro w'
                go_simp
                with_reducible rfl
              rotate_left
              · simp only [Act.put, List.setIfInBounds_toArray, List.set_cons_zero, List.set_cons_succ, i64_w, i32_w]
                rfl
              refine pure_ (i := 2) (N := some 42) (v := ?_) (a' := ?_) #[false, true, true, false, false, false, false, false, false, false, false, false, false] rfl rfl (any_of HT_.out (by kernel_rfl)) (fun _ _ _ h => h) (Or.inl ⟨by rfl, ?_⟩) ?_ ?_
              rotate_left
              · intro w'
                go_simp
                with_reducible rfl
              rotate_left
              · simp only [Act.put, List.setIfInBounds_toArray, List.set_cons_zero, List.set_cons_succ, i64_w, i32_w]
                rfl
              refine pure_ (i := 3) (N := some 43) (v := ?_) (a' := ?_) #[false, true, true, true, false, false, false, false, false, false, false, false, false] rfl rfl (any_of HT_.out (by kernel_rfl)) (fun _ _ _ h => h) (Or.inl ⟨by rfl, ?_⟩) ?_ ?_
              rotate_left
              · intro w'
                go_simp
                with_reducible rfl
              rotate_left
              · simp only [Act.put, List.setIfInBounds_toArray, List.set_cons_zero, List.set_cons_succ, i64_w, i32_w]
                rfl
              refine pure_ (i := 8) (N := some 48) (v := ?_) (a' := ?_) #[false, true, true, true, false, false, false, false, true, false, false, false, false] rfl rfl (any_of HT_.out (by kernel_rfl)) (fun _ _ _ h => h) (Or.inl ⟨by rfl, ?_⟩) ?_ ?_
              rotate_left
              · intro w'
                go_simp
                with_reducible rfl
              rotate_left
              · simp only [Act.put, List.setIfInBounds_toArray, List.set_cons_zero, List.set_cons_succ, i64_w, i32_w]
                rfl
              refine pure_ (i := 9) (N := some 49) (v := ?_) (a' := ?_) #[false, true, true, true, false, false, false, false, true, true, false, false, false] rfl rfl (any_of HT_.out (by kernel_rfl)) (fun _ _ _ h => h) (Or.inl ⟨by rfl, ?_⟩) ?_ ?_
              rotate_left
              · intro w'
                go_simp
                with_reducible rfl
              rotate_left
              · simp only [Act.put, List.setIfInBounds_toArray, List.set_cons_zero, List.set_cons_succ, i64_w, i32_w]
                rfl
              refine pure_ (i := 10) (N := some 50) (v := ?_) (a' := ?_) #[false, true, true, true, false, false, false, false, true, true, true, false, false] rfl rfl (any_of HT_.out (by kernel_rfl)) (fun _ _ _ h => h) (Or.inl ⟨by rfl, ?_⟩) ?_ ?_
              rotate_left
              · intro w'
                go_simp
                with_reducible rfl
              rotate_left
              · simp only [Act.put, List.setIfInBounds_toArray, List.set_cons_zero, List.set_cons_succ, i64_w, i32_w]
                rfl
              refine take_ (i := 5) (N := some 45) (v := ?_) (a' := ?_) #[false, true, true, true, false, true, false, false, true, true, true, false, false] rfl rfl (take_ofW HT_.out HW_.out (by kernel_rfl)) (fun _ _ _ h => h) (Or.inl ⟨by rfl, ?_⟩) hHeld ?_ ?_
              rotate_left
              · rintro w' ⟨s0, s1, s2, s3, s4⟩
                go_simp
                with_reducible rfl
              rotate_left
              · simp only [Act.put, List.setIfInBounds_toArray, List.set_cons_zero, List.set_cons_succ, i64_w, i32_w]
                rfl
              refine join_ (σ := Value × Value × Value) 3 #[true, true, true, true, true, true, true, false, true, true, true, false, false] (fun s_ => [(40, s_.1), (44, s_.2.1), (46, s_.2.2)]) (fun s_ w' => (w'.cell? ⟨gb344, 0, none⟩ = some (.int .i64 a1) ∧ w'.cell? ⟨gb344, 1, none⟩ = some (.int .i64 a2) ∧ w'.cell? ⟨gb344, 2, none⟩ = some (.int .i64 t339) ∧ w'.cell? ⟨gb344, 3, none⟩ = some (.slice Ao65 t340.length co65) ∧ w'.cell? ⟨gb344, 4, none⟩ = some (.int .i64 t343)) ∧ (Kd.N k31 31 w' w.heap.size (fun k_ => (w.heap.size ≤ k_) ∧ some k_ ≠ (s_.2.1 : Value).ownBlock ∧ some k_ ≠ (s_.2.2 : Value).ownBlock ∧ k_ ≠ gb334 ∧ k_ ≠ gb344) (.slice Ao69 t335.length co69) t335) ∧ (Kd.V k31 31 w' w.heap.size (fun k_ => (w.heap.size ≤ k_) ∧ some k_ ≠ (s_.2.1 : Value).ownBlock ∧ some k_ ≠ (s_.2.2 : Value).ownBlock ∧ k_ ≠ gb334 ∧ k_ ≠ gb344) (.slice Ao69 y375.length co69) y375) ∧ (Kd.N k31 31 w' w.heap.size (fun k_ => (w.heap.size ≤ k_) ∧ some k_ ≠ (s_.2.2 : Value).ownBlock ∧ k_ ≠ gb334 ∧ k_ ≠ gb344) s_.2.1 y380) ∧ (Kd.N k31 31 w' w.heap.size (fun k_ => (w.heap.size ≤ k_) ∧ some k_ ≠ (.slice Ao69 t335.length co69 : Value).ownBlock ∧ some k_ ≠ (s_.2.1 : Value).ownBlock ∧ k_ ≠ gb334 ∧ k_ ≠ gb344) s_.2.2 y383) ∧ (Kd.V k31 31 w' w.heap.size (fun k_ => (w.heap.size ≤ k_) ∧ some k_ ≠ (s_.2.1 : Value).ownBlock ∧ some k_ ≠ (s_.2.2 : Value).ownBlock ∧ k_ ≠ gb334 ∧ k_ ≠ gb344) (.slice A73 y389.length c73) y389) ∧ (w'.heap[gb334]? = some (.cells #[.int .i64 a3_0, .slice A3_1 l3_1.length c3_1, .int .i64 a3_2] 26 (0, 0))) ∧ (w'.heap[gb344]? = some (.cells #[.int .i64 a1, .int .i64 a2, .int .i64 t339, .slice Ao65 t340.length co65, .int .i64 t343] 31 (0, 0))) ∧ (Below w.heap.size w w')) ?_ ?_
              rotate_left
              · intro hCont
                refine two_ (i := 0) (j := 6) (Ni := some 40) (Nj := some 46) #[true, true, true, true, false, true, false, false, true, true, true, false, false] #[false, true, true, true, false, true, true, false, true, true, true, false, false] rfl rfl rfl rfl (two_of HT_.out (by kernel_rfl)) (by decide) (by decide) (fun K hK => ?_) (fun K hK => ?_)
                · skip
                  refine Kd.N_lit_step k31 _ 31 ?hg (N' := 40) ?hd (xs := ([] : List (S31))) (inner := []) (ok := (fun k_ => (w.heap.size ≤ k_) ∧ some k_ ≠ (.slice Ao69 t335.length co69 : Value).ownBlock ∧ some k_ ≠ (.slice Ao65 t340.length co65 : Value).ownBlock ∧ k_ ≠ gb334 ∧ k_ ≠ gb344)) (okp := (fun k_ => (w.heap.size ≤ k_) ∧ some k_ ≠ (.slice Ao69 t335.length co69 : Value).ownBlock ∧ some k_ ≠ (.slice Ao65 t340.length co65 : Value).ownBlock ∧ k_ ≠ gb334 ∧ k_ ≠ gb344)) ?hr ?hp (fun _ hk => hk) ((show ∀ k_, w71.heap.size ≤ k_ → (fun k_ => (w.heap.size ≤ k_) ∧ some k_ ≠ (.slice Ao69 t335.length co69 : Value).ownBlock ∧ some k_ ≠ (.slice Ao65 t340.length co65 : Value).ownBlock ∧ k_ ≠ gb334 ∧ k_ ≠ gb344) k_ from fun k_ hk => ⟨(Nat.le_trans (below_size (by repeat (first | (with_reducible first | exact HB.out | apply below_alloc | apply pw_below_drewN | apply below_drew1 | refine below_set ?_ GE334.out | refine below_set ?_ GE344.out) | exact HB.out))) hk), Kd.fresh' (Kd.N_lt (by (with_reducible repeat (first | apply Kd.N_alloc | apply Kd.N_drewN | apply Kd.N_drew)); exact HO337.out)) k_ hk, Kd.fresh' (Kd.R_lt (by (with_reducible repeat (first | apply Kd.R_alloc | apply Kd.R_drewN | apply Kd.R_drew)); exact HO342.out)) k_ hk, Kd.freshB (g := gb334) (o := .cells #[.int .i64 a3_0, .slice A3_1 l3_1.length c3_1, .int .i64 a3_2] 26 (0, 0)) (by (with_reducible repeat (first | refine blk_drewN ?_ _ | refine blk_drew ?_ | refine blk_alloc ?_ _)); exact BK334.out) k_ hk, Kd.freshB (g := gb344) (o := .cells #[.int .i64 a1, .int .i64 a2, .int .i64 t339, .slice Ao65 t340.length co65, .int .i64 t343] 31 (0, 0)) (by (with_reducible repeat (first | refine blk_drewN ?_ _ | refine blk_drew ?_ | refine blk_alloc ?_ _)); exact BK344.out) k_ hk⟩) _ (Nat.le_refl _)) (Below.refl _ _) (Nat.le_refl _) (by simp) ?_; (case hd => rfl); (case hg => rfl); (case hr => first | (go_simp; done) | (go_simp; rfl)); (case hp => exact (Reps.none _ _))
                  intro v373 w74 ho75 hb hg_ hnew_
                  clear hg_ hnew_
                  (first | rw [← Ny372.out] at ho75 | (simp only [Int.reduceToNat] at ho75; rw [← Ny372.out] at ho75))
                  have n0_ := Aside0.mk (Kd.N_elder' (by (with_reducible repeat (first | apply Kd.N_alloc | apply Kd.N_drewN | apply Kd.N_drew)); exact HO337.out) (Kd.N_base ho75) hb)
                  have n1_ := Aside0.mk (Kd.R_below (by (with_reducible repeat (first | apply Kd.R_alloc | apply Kd.R_drewN | apply Kd.R_drew)); exact HO342.out) hb)
                  have n2_ := Aside0.mk (Kd.V_elder' (by (with_reducible repeat (first | apply Kd.V_alloc | apply Kd.V_drewN | apply Kd.V_drew)); exact HO379.out) (Kd.N_base ho75) hb)
                  have n3_ := Aside0.mk (Kd.V_elder' (by (with_reducible repeat (first | apply Kd.V_alloc | apply Kd.V_drewN | apply Kd.V_drew)); exact HO393.out) (Kd.N_base ho75) hb)
                  have n4_ := Aside0.mk (Kd.N_lower ho75 (below_size (by repeat (first | (with_reducible first | exact HB.out | apply below_alloc | apply pw_below_drewN | apply below_drew1 | refine below_set ?_ GE334.out | refine below_set ?_ GE344.out) | exact HB.out))))
                  have n5_ := Aside0.mk (blk_below (g := gb334) (o := .cells #[.int .i64 a3_0, .slice A3_1 l3_1.length c3_1, .int .i64 a3_2] 26 (0, 0)) (by (with_reducible repeat (first | refine blk_drewN ?_ _ | refine blk_drew ?_ | refine blk_alloc ?_ _)); exact BK334.out) hb)
                  have n6_ := Aside0.mk (blk_below (g := gb344) (o := .cells #[.int .i64 a1, .int .i64 a2, .int .i64 t339, .slice Ao65 t340.length co65, .int .i64 t343] 31 (0, 0)) (by (with_reducible repeat (first | refine blk_drewN ?_ _ | refine blk_drew ?_ | refine blk_alloc ?_ _)); exact BK344.out) hb)
                  have n7_ := Aside0.mk (below_step (by repeat (first | (with_reducible first | exact HB.out | apply below_alloc | apply pw_below_drewN | apply below_drew1 | refine below_set ?_ GE334.out | refine below_set ?_ GE344.out) | exact HB.out)) hb)
                  clear HO337
                  clear HO342
                  clear HO379
                  clear HO393
                  clear BK334
                  clear BK344
                  clear HB
                  have HO337 := n0_
                  have HO342 := n1_
                  have HO379 := n2_
                  have HO393 := n3_
                  have HO374 := n4_
                  have BK334 := n5_
                  have BK344 := n6_
                  have HB := n7_
                  clear n0_ n1_ n2_ n3_ n4_ n5_ n6_ n7_
                  clear hb ho75
                  refine hK.out _ _ ⟨(blk_cell BK344.out 0).trans rfl, (blk_cell BK344.out 1).trans rfl, (blk_cell BK344.out 2).trans rfl, (blk_cell BK344.out 3).trans rfl, (blk_cell BK344.out 4).trans rfl⟩ (fun hHeld => ?_)
                  clear hK K
                  refine norm_ (a' := ?_) ?_ ?_
                  rotate_left
                  · show Act.put _ (some 40) _ = _
                    simp only [Act.put, List.setIfInBounds_toArray, List.set_cons_zero, List.set_cons_succ, i64_w, i32_w]
                    rfl
                  refine two_ (i := 4) (j := 6) (Ni := some 44) (Nj := some 46) #[true, true, true, true, true, true, false, false, true, true, true, false, false] #[true, true, true, true, false, true, true, false, true, true, true, false, false] rfl rfl rfl rfl (two_of HT_.out (by kernel_rfl)) (by decide) (by decide) (fun K hK => ?_) (fun K hK => ?_)
                  · skip
                    refine Kd.N_append_rows_step k31 (w0 := w) w.heap.size (by rfl) (.tmp 40) (.tmp 43) 22 31 (.agg #[(.int .i64 0), (.int .i64 0), (.int .i64 0), (.slice none 0 0), (.int .i64 0)]) 56 rfl Try.underlying22 info31 rfl (by decide) (by omega) v373 y372 y375 _ _ _ (fun k_ => (w.heap.size ≤ k_) ∧ some k_ ≠ (.slice Ao65 t340.length co65 : Value).ownBlock ∧ k_ ≠ gb334 ∧ k_ ≠ gb344) (fun k_ => ((fun k_ => (w.heap.size ≤ k_) ∧ some k_ ≠ (.slice Ao65 t340.length co65 : Value).ownBlock ∧ k_ ≠ gb334 ∧ k_ ≠ gb344)) k_ ∧ some k_ ≠ (v373 : Value).ownBlock) rfl rfl ?aO ?aR (fun _ hk => hk) ?aF ?aB ?aS ?aL ?_
                    (case aR => exact (by skip; exact Kd.V_F (Kd.V_mono (ok' := (fun k_ => ((fun k_ => (w.heap.size ≤ k_) ∧ some k_ ≠ (.slice Ao65 t340.length co65 : Value).ownBlock ∧ k_ ≠ gb334 ∧ k_ ≠ gb344)) k_ ∧ some k_ ≠ (v373 : Value).ownBlock)) (HO379.out) (fun k_ hk => ⟨⟨hk.1.1, ⟨hk.1.2.1, ⟨hk.1.2.2.1, hk.1.2.2.2⟩⟩⟩, hk.2⟩))))
                    (case aB => exact (by repeat (first | (with_reducible first | exact HB.out | apply below_alloc | apply pw_below_drewN | apply below_drew1 | refine below_set ?_ GE334.out | refine below_set ?_ GE344.out) | exact HB.out)))
                    (case aF => exact (fun k_ hk => ⟨(Nat.le_trans (below_size (by repeat (first | (with_reducible first | exact HB.out | apply below_alloc | apply pw_below_drewN | apply below_drew1 | refine below_set ?_ GE334.out | refine below_set ?_ GE344.out) | exact HB.out))) hk), Kd.fresh' (Kd.R_lt (by (with_reducible repeat (first | apply Kd.R_alloc | apply Kd.R_drewN | apply Kd.R_drew)); exact HO342.out)) k_ hk, Kd.freshB (g := gb334) (o := .cells #[.int .i64 a3_0, .slice A3_1 l3_1.length c3_1, .int .i64 a3_2] 26 (0, 0)) (by (with_reducible repeat (first | refine blk_drewN ?_ _ | refine blk_drew ?_ | refine blk_alloc ?_ _)); exact BK334.out) k_ hk, Kd.freshB (g := gb344) (o := .cells #[.int .i64 a1, .int .i64 a2, .int .i64 t339, .slice Ao65 t340.length co65, .int .i64 t343] 31 (0, 0)) (by (with_reducible repeat (first | refine blk_drewN ?_ _ | refine blk_drew ?_ | refine blk_alloc ?_ _)); exact BK344.out) k_ hk⟩))
                    (case aO => exact (by (with_reducible repeat (first | apply Kd.N_alloc | apply Kd.N_drewN | apply Kd.N_drew)); exact Kd.N_mono HO374.out (fun _ hk => ⟨hk.1, ⟨hk.2.2.1, ⟨hk.2.2.2.1, hk.2.2.2.2⟩⟩⟩)))
                    (case aS => exact (below_size (by repeat (first | (with_reducible first | exact HB.out | apply below_alloc | apply pw_below_drewN | apply below_drew1 | refine below_set ?_ GE334.out | refine below_set ?_ GE344.out) | exact HB.out))))
                    (case aL => have := LMc56.out; omega)
                    intro v381 w76 ho hb hg hat
                    rw [← Ny380.out] at ho
                    have n0_ := Aside0.mk (blk_grown (g := gb334) (o := .cells #[.int .i64 a3_0, .slice A3_1 l3_1.length c3_1, .int .i64 a3_2] 26 (0, 0)) (by (with_reducible repeat (first | refine blk_drewN ?_ _ | refine blk_drew ?_ | refine blk_alloc ?_ _)); exact BK334.out) hg (Kd.N_ne HO374.out BK334.out (by decide)))
                    have n1_ := Aside0.mk (Kd.N_afterv (ok := (fun k_ => (w.heap.size ≤ k_) ∧ some k_ ≠ (.slice Ao65 t340.length co65 : Value).ownBlock ∧ k_ ≠ gb334 ∧ k_ ≠ gb344)) (by (with_reducible repeat (first | apply Kd.N_alloc | apply Kd.N_drewN | apply Kd.N_drew)); exact HO337.out) hg hat)
                    have n2_ := Aside0.mk (Kd.R_over' (by (with_reducible repeat (first | apply Kd.R_alloc | apply Kd.R_drewN | apply Kd.R_drew)); exact HO342.out) (Kd.N_typed (by (with_reducible repeat (first | apply Kd.N_alloc | apply Kd.N_drewN | apply Kd.N_drew)); exact HO374.out)) (by decide) hg)
                    have n3_ := Aside0.mk (blk_grown (g := gb344) (o := .cells #[.int .i64 a1, .int .i64 a2, .int .i64 t339, .slice Ao65 t340.length co65, .int .i64 t343] 31 (0, 0)) (by (with_reducible repeat (first | refine blk_drewN ?_ _ | refine blk_drew ?_ | refine blk_alloc ?_ _)); exact BK344.out) hg (Kd.N_away HO374.out (fun _ hk => hk.2.2.2.2)))
                    have n4_ := Aside0.mk (Kd.V_afterv (ok := (fun k_ => (w.heap.size ≤ k_) ∧ some k_ ≠ (.slice Ao65 t340.length co65 : Value).ownBlock ∧ k_ ≠ gb334 ∧ k_ ≠ gb344)) (by (with_reducible repeat (first | apply Kd.V_alloc | apply Kd.V_drewN | apply Kd.V_drew)); exact HO379.out) hg hat)
                    have n5_ := Aside0.mk (Kd.V_afterv (ok := (fun k_ => (w.heap.size ≤ k_) ∧ some k_ ≠ (.slice Ao65 t340.length co65 : Value).ownBlock ∧ k_ ≠ gb334 ∧ k_ ≠ gb344)) (by (with_reducible repeat (first | apply Kd.V_alloc | apply Kd.V_drewN | apply Kd.V_drew)); exact HO393.out) hg hat)
                    have n6_ := Aside0.mk (hb)
                    have n7_ := Aside0.mk (ho)
                    clear BK334
                    clear HO337
                    clear HO342
                    clear BK344
                    clear HO379
                    clear HO393
                    clear HB
                    clear HO374
                    have BK334 := n0_
                    have HO337 := n1_
                    have HO342 := n2_
                    have BK344 := n3_
                    have HO379 := n4_
                    have HO393 := n5_
                    have HB := n6_
                    have HO382 := n7_
                    clear n0_ n1_ n2_ n3_ n4_ n5_ n6_ n7_
                    clear ho hb hg hat
                    refine hK.out _ _ ⟨(blk_cell BK344.out 0).trans rfl, (blk_cell BK344.out 1).trans rfl, (blk_cell BK344.out 2).trans rfl, (blk_cell BK344.out 3).trans rfl, (blk_cell BK344.out 4).trans rfl⟩ (fun hHeld => ?_)
                    clear hK K
                    refine norm_ (a' := ?_) ?_ ?_
                    rotate_left
                    · show Act.put _ (some 44) _ = _
                      simp only [Act.put, List.setIfInBounds_toArray, List.set_cons_zero, List.set_cons_succ, i64_w, i32_w]
                      rfl
                    refine one_ (i := 6) (N := some 46) #[true, true, true, true, true, true, true, false, true, true, true, false, false] rfl rfl (one_of HT_.out (by kernel_rfl)) (by decide) (fun K hK => ?_)
                    refine Kd.N_lit_step k31 _ 31 ?hg (N' := 46) ?hd (xs := ([(⟨a1, a2, (⟨t339, t340, t343⟩ : S26)⟩ : S31)] : List (S31))) (inner := [.int .i64 a1, .int .i64 a2, .int .i64 t339, .slice Ao65 t340.length co65, .int .i64 t343]) (ok := (fun k_ => (w.heap.size ≤ k_) ∧ some k_ ≠ (.slice Ao69 t335.length co69 : Value).ownBlock ∧ some k_ ≠ (v381 : Value).ownBlock ∧ k_ ≠ gb334 ∧ k_ ≠ gb344)) (okp := (fun k_ => (w.heap.size ≤ k_) ∧ some k_ ≠ (.slice Ao69 t335.length co69 : Value).ownBlock ∧ some k_ ≠ (v381 : Value).ownBlock ∧ k_ ≠ gb334 ∧ k_ ≠ gb344)) ?hr ?hp (fun _ hk => hk) ((show ∀ k_, w76.heap.size ≤ k_ → (fun k_ => (w.heap.size ≤ k_) ∧ some k_ ≠ (.slice Ao69 t335.length co69 : Value).ownBlock ∧ some k_ ≠ (v381 : Value).ownBlock ∧ k_ ≠ gb334 ∧ k_ ≠ gb344) k_ from fun k_ hk => ⟨(Nat.le_trans (below_size (by repeat (first | (with_reducible first | exact HB.out | apply below_alloc | apply pw_below_drewN | apply below_drew1 | refine below_set ?_ GE334.out | refine below_set ?_ GE344.out) | exact HB.out))) hk), Kd.fresh' (Kd.N_lt (by (with_reducible repeat (first | apply Kd.N_alloc | apply Kd.N_drewN | apply Kd.N_drew)); exact HO337.out)) k_ hk, Kd.fresh' (Kd.N_lt (by (with_reducible repeat (first | apply Kd.N_alloc | apply Kd.N_drewN | apply Kd.N_drew)); exact HO382.out)) k_ hk, Kd.freshB (g := gb334) (o := .cells #[.int .i64 a3_0, .slice A3_1 l3_1.length c3_1, .int .i64 a3_2] 26 (0, 0)) (by (with_reducible repeat (first | refine blk_drewN ?_ _ | refine blk_drew ?_ | refine blk_alloc ?_ _)); exact BK334.out) k_ hk, Kd.freshB (g := gb344) (o := .cells #[.int .i64 a1, .int .i64 a2, .int .i64 t339, .slice Ao65 t340.length co65, .int .i64 t343] 31 (0, 0)) (by (with_reducible repeat (first | refine blk_drewN ?_ _ | refine blk_drew ?_ | refine blk_alloc ?_ _)); exact BK344.out) k_ hk⟩) _ (Nat.le_refl _)) (Below.refl _ _) (Nat.le_refl _) (by simp) ?_; (case hd => rfl); (case hg => rfl); (case hr => first | (go_simp; done) | (go_simp; rfl)); (case hp => exact (Reps.c5 (show Kd.FK k31 _ _ (⟨a1, a2, (⟨t339, t340, t343⟩ : S26)⟩ : S31) [.int .i64 a1, .int .i64 a2, .int .i64 t339, .slice Ao65 t340.length co65, .int .i64 t343] from (k31_mkF _ _ (⟨a1, a2, (⟨t339, t340, t343⟩ : S26)⟩ : S31) (Kd.R_reads' (Kd.R_mono (ok' := (fun k_ => (w.heap.size ≤ k_) ∧ some k_ ≠ (.slice Ao69 t335.length co69 : Value).ownBlock ∧ some k_ ≠ (v381 : Value).ownBlock ∧ k_ ≠ gb334 ∧ k_ ≠ gb344)) (Kd.R_types (Kd.R_types (Kd.R_apart' (Kd.R_apart' (HO342.out) (Kd.N_typed HO337.out) (by decide)) (Kd.N_typed HO382.out) (by decide)) BK334.out (by decide)) BK344.out (by decide)) (fun k_ hk => ⟨hk.1.1.1.1, ⟨hk.1.1.1.2, ⟨hk.1.1.2, ⟨hk.1.2, hk.2⟩⟩⟩⟩))).2.1 (Kd.R_F (Kd.R_mono (ok' := (fun k_ => (w.heap.size ≤ k_) ∧ some k_ ≠ (.slice Ao69 t335.length co69 : Value).ownBlock ∧ some k_ ≠ (v381 : Value).ownBlock ∧ k_ ≠ gb334 ∧ k_ ≠ gb344)) (Kd.R_types (Kd.R_types (Kd.R_apart' (Kd.R_apart' (HO342.out) (Kd.N_typed HO337.out) (by decide)) (Kd.N_typed HO382.out) (by decide)) BK334.out (by decide)) BK344.out (by decide)) (fun k_ hk => ⟨hk.1.1.1.1, ⟨hk.1.1.1.2, ⟨hk.1.1.2, ⟨hk.1.2, hk.2⟩⟩⟩⟩))))) (Reps.none _ _)))
                    intro v384 w77 ho78 hb hg_ hnew_
                    clear hg_ hnew_
                    (first | rw [← Ny383.out] at ho78 | (simp only [Int.reduceToNat] at ho78; rw [← Ny383.out] at ho78))
                    have n0_ := Aside0.mk (Kd.N_elder' (by (with_reducible repeat (first | apply Kd.N_alloc | apply Kd.N_drewN | apply Kd.N_drew)); exact HO337.out) (Kd.N_base ho78) hb)
                    have n1_ := Aside0.mk (Kd.V_elder' (by (with_reducible repeat (first | apply Kd.V_alloc | apply Kd.V_drewN | apply Kd.V_drew)); exact HO379.out) (Kd.N_base ho78) hb)
                    have n2_ := Aside0.mk (Kd.V_elder' (by (with_reducible repeat (first | apply Kd.V_alloc | apply Kd.V_drewN | apply Kd.V_drew)); exact HO393.out) (Kd.N_base ho78) hb)
                    have n3_ := Aside0.mk (Kd.N_elder' (by (with_reducible repeat (first | apply Kd.N_alloc | apply Kd.N_drewN | apply Kd.N_drew)); exact HO382.out) (Kd.N_base ho78) hb)
                    have n4_ := Aside0.mk (Kd.N_lower ho78 (below_size (by repeat (first | (with_reducible first | exact HB.out | apply below_alloc | apply pw_below_drewN | apply below_drew1 | refine below_set ?_ GE334.out | refine below_set ?_ GE344.out) | exact HB.out))))
                    have n5_ := Aside0.mk (blk_below (g := gb334) (o := .cells #[.int .i64 a3_0, .slice A3_1 l3_1.length c3_1, .int .i64 a3_2] 26 (0, 0)) (by (with_reducible repeat (first | refine blk_drewN ?_ _ | refine blk_drew ?_ | refine blk_alloc ?_ _)); exact BK334.out) hb)
                    have n6_ := Aside0.mk (blk_below (g := gb344) (o := .cells #[.int .i64 a1, .int .i64 a2, .int .i64 t339, .slice Ao65 t340.length co65, .int .i64 t343] 31 (0, 0)) (by (with_reducible repeat (first | refine blk_drewN ?_ _ | refine blk_drew ?_ | refine blk_alloc ?_ _)); exact BK344.out) hb)
                    have n7_ := Aside0.mk (below_step (by repeat (first | (with_reducible first | exact HB.out | apply below_alloc | apply pw_below_drewN | apply below_drew1 | refine below_set ?_ GE334.out | refine below_set ?_ GE344.out) | exact HB.out)) hb)
                    clear HO337
                    clear HO379
                    clear HO393
                    clear HO382
                    clear BK334
                    clear BK344
                    clear HB
                    clear HO342
                    have HO337 := n0_
                    have HO379 := n1_
                    have HO393 := n2_
                    have HO382 := n3_
                    have HO385 := n4_
                    have BK334 := n5_
                    have BK344 := n6_
                    have HB := n7_
                    clear n0_ n1_ n2_ n3_ n4_ n5_ n6_ n7_
                    clear hb ho78
                    refine hK.out _ _ ⟨(blk_cell BK344.out 0).trans rfl, (blk_cell BK344.out 1).trans rfl, (blk_cell BK344.out 2).trans rfl, (blk_cell BK344.out 3).trans rfl, (blk_cell BK344.out 4).trans rfl⟩ (fun hHeld => ?_)
                    clear hK K
                    refine norm_ (a' := ?_) ?_ ?_
                    rotate_left
                    · show Act.put _ (some 46) _ = _
                      simp only [Act.put, List.setIfInBounds_toArray, List.set_cons_zero, List.set_cons_succ, i64_w, i32_w]
                      rfl
                    exact norm_ (by simp only [putAll, Act.put, List.setIfInBounds_toArray, List.set_cons_zero, List.set_cons_succ]) (hCont (v373, v381, v384) _ ⟨hHeld, (by (with_reducible repeat (first | apply Kd.N_alloc | apply Kd.N_drewN | apply Kd.N_drew)); exact Kd.N_mono HO337.out (fun _ hk => ⟨hk.1.1.1, ⟨hk.1.2, ⟨hk.2, ⟨hk.1.1.2.2.1, hk.1.1.2.2.2⟩⟩⟩⟩)), (by (with_reducible repeat (first | apply Kd.V_alloc | apply Kd.V_drewN | apply Kd.V_drew)); exact Kd.V_mono HO379.out (fun _ hk => ⟨hk.1.1.1, ⟨hk.1.2, ⟨hk.2, ⟨hk.1.1.2.2.1, hk.1.1.2.2.2⟩⟩⟩⟩)), (by (with_reducible repeat (first | apply Kd.N_alloc | apply Kd.N_drewN | apply Kd.N_drew)); exact Kd.N_mono HO382.out (fun _ hk => ⟨hk.1.1, ⟨hk.2, ⟨hk.1.2.2.1, hk.1.2.2.2⟩⟩⟩)), (by (with_reducible repeat (first | apply Kd.N_alloc | apply Kd.N_drewN | apply Kd.N_drew)); exact HO385.out), (by (with_reducible repeat (first | apply Kd.V_alloc | apply Kd.V_drewN | apply Kd.V_drew)); exact Kd.V_mono HO393.out (fun _ hk => ⟨hk.1.1.1, ⟨hk.1.2, ⟨hk.2, ⟨hk.1.1.2.2.1, hk.1.1.2.2.2⟩⟩⟩⟩)), (by (with_reducible repeat (first | refine blk_drewN ?_ _ | refine blk_drew ?_ | refine blk_alloc ?_ _)); exact BK334.out), (by (with_reducible repeat (first | refine blk_drewN ?_ _ | refine blk_drew ?_ | refine blk_alloc ?_ _)); exact BK344.out), (by repeat (first | (with_reducible first | exact HB.out | apply below_alloc | apply pw_below_drewN | apply below_drew1 | refine below_set ?_ GE334.out | refine below_set ?_ GE344.out) | exact HB.out))⟩)
                  · skip
                    refine Kd.N_lit_step k31 _ 31 ?hg (N' := 46) ?hd (xs := ([(⟨a1, a2, (⟨t339, t340, t343⟩ : S26)⟩ : S31)] : List (S31))) (inner := [.int .i64 a1, .int .i64 a2, .int .i64 t339, .slice Ao65 t340.length co65, .int .i64 t343]) (ok := (fun k_ => (w.heap.size ≤ k_) ∧ some k_ ≠ (.slice Ao69 t335.length co69 : Value).ownBlock ∧ some k_ ≠ (v373 : Value).ownBlock ∧ k_ ≠ gb334 ∧ k_ ≠ gb344)) (okp := (fun k_ => (w.heap.size ≤ k_) ∧ some k_ ≠ (.slice Ao69 t335.length co69 : Value).ownBlock ∧ some k_ ≠ (v373 : Value).ownBlock ∧ k_ ≠ gb334 ∧ k_ ≠ gb344)) ?hr ?hp (fun _ hk => hk) ((show ∀ k_, w74.heap.size ≤ k_ → (fun k_ => (w.heap.size ≤ k_) ∧ some k_ ≠ (.slice Ao69 t335.length co69 : Value).ownBlock ∧ some k_ ≠ (v373 : Value).ownBlock ∧ k_ ≠ gb334 ∧ k_ ≠ gb344) k_ from fun k_ hk => ⟨(Nat.le_trans (below_size (by repeat (first | (with_reducible first | exact HB.out | apply below_alloc | apply pw_below_drewN | apply below_drew1 | refine below_set ?_ GE334.out | refine below_set ?_ GE344.out) | exact HB.out))) hk), Kd.fresh' (Kd.N_lt (by (with_reducible repeat (first | apply Kd.N_alloc | apply Kd.N_drewN | apply Kd.N_drew)); exact HO337.out)) k_ hk, Kd.fresh' (Kd.N_lt (by (with_reducible repeat (first | apply Kd.N_alloc | apply Kd.N_drewN | apply Kd.N_drew)); exact HO374.out)) k_ hk, Kd.freshB (g := gb334) (o := .cells #[.int .i64 a3_0, .slice A3_1 l3_1.length c3_1, .int .i64 a3_2] 26 (0, 0)) (by (with_reducible repeat (first | refine blk_drewN ?_ _ | refine blk_drew ?_ | refine blk_alloc ?_ _)); exact BK334.out) k_ hk, Kd.freshB (g := gb344) (o := .cells #[.int .i64 a1, .int .i64 a2, .int .i64 t339, .slice Ao65 t340.length co65, .int .i64 t343] 31 (0, 0)) (by (with_reducible repeat (first | refine blk_drewN ?_ _ | refine blk_drew ?_ | refine blk_alloc ?_ _)); exact BK344.out) k_ hk⟩) _ (Nat.le_refl _)) (Below.refl _ _) (Nat.le_refl _) (by simp) ?_; (case hd => rfl); (case hg => rfl); (case hr => first | (go_simp; done) | (go_simp; rfl)); (case hp => exact (Reps.c5 (show Kd.FK k31 _ _ (⟨a1, a2, (⟨t339, t340, t343⟩ : S26)⟩ : S31) [.int .i64 a1, .int .i64 a2, .int .i64 t339, .slice Ao65 t340.length co65, .int .i64 t343] from (k31_mkF _ _ (⟨a1, a2, (⟨t339, t340, t343⟩ : S26)⟩ : S31) (Kd.R_reads' (Kd.R_mono (ok' := (fun k_ => (w.heap.size ≤ k_) ∧ some k_ ≠ (.slice Ao69 t335.length co69 : Value).ownBlock ∧ some k_ ≠ (v373 : Value).ownBlock ∧ k_ ≠ gb334 ∧ k_ ≠ gb344)) (Kd.R_types (Kd.R_types (Kd.R_apart' (Kd.R_apart' (HO342.out) (Kd.N_typed HO337.out) (by decide)) (Kd.N_typed HO374.out) (by decide)) BK334.out (by decide)) BK344.out (by decide)) (fun k_ hk => ⟨hk.1.1.1.1, ⟨hk.1.1.1.2, ⟨hk.1.1.2, ⟨hk.1.2, hk.2⟩⟩⟩⟩))).2.1 (Kd.R_F (Kd.R_mono (ok' := (fun k_ => (w.heap.size ≤ k_) ∧ some k_ ≠ (.slice Ao69 t335.length co69 : Value).ownBlock ∧ some k_ ≠ (v373 : Value).ownBlock ∧ k_ ≠ gb334 ∧ k_ ≠ gb344)) (Kd.R_types (Kd.R_types (Kd.R_apart' (Kd.R_apart' (HO342.out) (Kd.N_typed HO337.out) (by decide)) (Kd.N_typed HO374.out) (by decide)) BK334.out (by decide)) BK344.out (by decide)) (fun k_ hk => ⟨hk.1.1.1.1, ⟨hk.1.1.1.2, ⟨hk.1.1.2, ⟨hk.1.2, hk.2⟩⟩⟩⟩))))) (Reps.none _ _)))
                    intro v384 w76 ho77 hb hg_ hnew_
                    clear hg_ hnew_
                    (first | rw [← Ny383.out] at ho77 | (simp only [Int.reduceToNat] at ho77; rw [← Ny383.out] at ho77))
                    have n0_ := Aside0.mk (Kd.N_elder' (by (with_reducible repeat (first | apply Kd.N_alloc | apply Kd.N_drewN | apply Kd.N_drew)); exact HO337.out) (Kd.N_base ho77) hb)
                    have n1_ := Aside0.mk (Kd.V_elder' (by (with_reducible repeat (first | apply Kd.V_alloc | apply Kd.V_drewN | apply Kd.V_drew)); exact HO379.out) (Kd.N_base ho77) hb)
                    have n2_ := Aside0.mk (Kd.V_elder' (by (with_reducible repeat (first | apply Kd.V_alloc | apply Kd.V_drewN | apply Kd.V_drew)); exact HO393.out) (Kd.N_base ho77) hb)
                    have n3_ := Aside0.mk (Kd.N_elder' (by (with_reducible repeat (first | apply Kd.N_alloc | apply Kd.N_drewN | apply Kd.N_drew)); exact HO374.out) (Kd.N_base ho77) hb)
                    have n4_ := Aside0.mk (Kd.N_lower ho77 (below_size (by repeat (first | (with_reducible first | exact HB.out | apply below_alloc | apply pw_below_drewN | apply below_drew1 | refine below_set ?_ GE334.out | refine below_set ?_ GE344.out) | exact HB.out))))
                    have n5_ := Aside0.mk (blk_below (g := gb334) (o := .cells #[.int .i64 a3_0, .slice A3_1 l3_1.length c3_1, .int .i64 a3_2] 26 (0, 0)) (by (with_reducible repeat (first | refine blk_drewN ?_ _ | refine blk_drew ?_ | refine blk_alloc ?_ _)); exact BK334.out) hb)
                    have n6_ := Aside0.mk (blk_below (g := gb344) (o := .cells #[.int .i64 a1, .int .i64 a2, .int .i64 t339, .slice Ao65 t340.length co65, .int .i64 t343] 31 (0, 0)) (by (with_reducible repeat (first | refine blk_drewN ?_ _ | refine blk_drew ?_ | refine blk_alloc ?_ _)); exact BK344.out) hb)
                    have n7_ := Aside0.mk (below_step (by repeat (first | (with_reducible first | exact HB.out | apply below_alloc | apply pw_below_drewN | apply below_drew1 | refine below_set ?_ GE334.out | refine below_set ?_ GE344.out) | exact HB.out)) hb)
                    clear HO337
                    clear HO379
                    clear HO393
                    clear HO374
                    clear BK334
                    clear BK344
                    clear HB
                    clear HO342
                    have HO337 := n0_
                    have HO379 := n1_
                    have HO393 := n2_
                    have HO374 := n3_
                    have HO385 := n4_
                    have BK334 := n5_
                    have BK344 := n6_
                    have HB := n7_
                    clear n0_ n1_ n2_ n3_ n4_ n5_ n6_ n7_
                    clear hb ho77
                    refine hK.out _ _ ⟨(blk_cell BK344.out 0).trans rfl, (blk_cell BK344.out 1).trans rfl, (blk_cell BK344.out 2).trans rfl, (blk_cell BK344.out 3).trans rfl, (blk_cell BK344.out 4).trans rfl⟩ (fun hHeld => ?_)
                    clear hK K
                    refine norm_ (a' := ?_) ?_ ?_
                    rotate_left
                    · show Act.put _ (some 46) _ = _
                      simp only [Act.put, List.setIfInBounds_toArray, List.set_cons_zero, List.set_cons_succ, i64_w, i32_w]
                      rfl
                    refine one_ (i := 4) (N := some 44) #[true, true, true, true, true, true, true, false, true, true, true, false, false] rfl rfl (one_of HT_.out (by kernel_rfl)) (by decide) (fun K hK => ?_)
                    refine Kd.N_append_rows_step k31 (w0 := w) w.heap.size (by rfl) (.tmp 40) (.tmp 43) 22 31 (.agg #[(.int .i64 0), (.int .i64 0), (.int .i64 0), (.slice none 0 0), (.int .i64 0)]) 56 rfl Try.underlying22 info31 rfl (by decide) (by omega) v373 y372 y375 _ _ _ (fun k_ => (w.heap.size ≤ k_) ∧ some k_ ≠ (v384 : Value).ownBlock ∧ k_ ≠ gb334 ∧ k_ ≠ gb344) (fun k_ => ((fun k_ => (w.heap.size ≤ k_) ∧ some k_ ≠ (v384 : Value).ownBlock ∧ k_ ≠ gb334 ∧ k_ ≠ gb344)) k_ ∧ some k_ ≠ (v373 : Value).ownBlock) rfl rfl ?aO ?aR (fun _ hk => hk) ?aF ?aB ?aS ?aL ?_
                    (case aR => exact (by skip; exact Kd.V_F (Kd.V_mono (ok' := (fun k_ => ((fun k_ => (w.heap.size ≤ k_) ∧ some k_ ≠ (v384 : Value).ownBlock ∧ k_ ≠ gb334 ∧ k_ ≠ gb344)) k_ ∧ some k_ ≠ (v373 : Value).ownBlock)) (HO379.out) (fun k_ hk => ⟨⟨hk.1.1.1, ⟨hk.2, ⟨hk.1.1.2.2.1, hk.1.1.2.2.2⟩⟩⟩, hk.1.2⟩))))
                    (case aB => exact (by repeat (first | (with_reducible first | exact HB.out | apply below_alloc | apply pw_below_drewN | apply below_drew1 | refine below_set ?_ GE334.out | refine below_set ?_ GE344.out) | exact HB.out)))
                    (case aF => exact (fun k_ hk => ⟨(Nat.le_trans (below_size (by repeat (first | (with_reducible first | exact HB.out | apply below_alloc | apply pw_below_drewN | apply below_drew1 | refine below_set ?_ GE334.out | refine below_set ?_ GE344.out) | exact HB.out))) hk), Kd.fresh' (Kd.N_lt (by (with_reducible repeat (first | apply Kd.N_alloc | apply Kd.N_drewN | apply Kd.N_drew)); exact HO385.out)) k_ hk, Kd.freshB (g := gb334) (o := .cells #[.int .i64 a3_0, .slice A3_1 l3_1.length c3_1, .int .i64 a3_2] 26 (0, 0)) (by (with_reducible repeat (first | refine blk_drewN ?_ _ | refine blk_drew ?_ | refine blk_alloc ?_ _)); exact BK334.out) k_ hk, Kd.freshB (g := gb344) (o := .cells #[.int .i64 a1, .int .i64 a2, .int .i64 t339, .slice Ao65 t340.length co65, .int .i64 t343] 31 (0, 0)) (by (with_reducible repeat (first | refine blk_drewN ?_ _ | refine blk_drew ?_ | refine blk_alloc ?_ _)); exact BK344.out) k_ hk⟩))
                    (case aO => exact (by (with_reducible repeat (first | apply Kd.N_alloc | apply Kd.N_drewN | apply Kd.N_drew)); exact Kd.N_mono HO374.out (fun _ hk => ⟨hk.1.1, ⟨hk.2, ⟨hk.1.2.2.2.1, hk.1.2.2.2.2⟩⟩⟩)))
                    (case aS => exact (below_size (by repeat (first | (with_reducible first | exact HB.out | apply below_alloc | apply pw_below_drewN | apply below_drew1 | refine below_set ?_ GE334.out | refine below_set ?_ GE344.out) | exact HB.out))))
                    (case aL => have := LMc56.out; omega)
                    intro v381 w78 ho hb hg hat
                    rw [← Ny380.out] at ho
                    have n0_ := Aside0.mk (blk_grown (g := gb334) (o := .cells #[.int .i64 a3_0, .slice A3_1 l3_1.length c3_1, .int .i64 a3_2] 26 (0, 0)) (by (with_reducible repeat (first | refine blk_drewN ?_ _ | refine blk_drew ?_ | refine blk_alloc ?_ _)); exact BK334.out) hg (Kd.N_ne HO374.out BK334.out (by decide)))
                    have n1_ := Aside0.mk (Kd.N_afterv (ok := (fun k_ => (w.heap.size ≤ k_) ∧ some k_ ≠ (v384 : Value).ownBlock ∧ k_ ≠ gb334 ∧ k_ ≠ gb344)) (by (with_reducible repeat (first | apply Kd.N_alloc | apply Kd.N_drewN | apply Kd.N_drew)); exact Kd.N_mono HO337.out (fun _ hk => ⟨⟨hk.1.1.1, ⟨hk.2, ⟨hk.1.1.2.2.1, hk.1.1.2.2.2⟩⟩⟩, hk.1.2⟩)) hg hat)
                    have n2_ := Aside0.mk (blk_grown (g := gb344) (o := .cells #[.int .i64 a1, .int .i64 a2, .int .i64 t339, .slice Ao65 t340.length co65, .int .i64 t343] 31 (0, 0)) (by (with_reducible repeat (first | refine blk_drewN ?_ _ | refine blk_drew ?_ | refine blk_alloc ?_ _)); exact BK344.out) hg (Kd.N_away HO374.out (fun _ hk => hk.1.2.2.2.2)))
                    have n3_ := Aside0.mk (Kd.V_afterv (ok := (fun k_ => (w.heap.size ≤ k_) ∧ some k_ ≠ (v384 : Value).ownBlock ∧ k_ ≠ gb334 ∧ k_ ≠ gb344)) (by (with_reducible repeat (first | apply Kd.V_alloc | apply Kd.V_drewN | apply Kd.V_drew)); exact Kd.V_mono HO379.out (fun _ hk => ⟨⟨hk.1.1.1, ⟨hk.2, ⟨hk.1.1.2.2.1, hk.1.1.2.2.2⟩⟩⟩, hk.1.2⟩)) hg hat)
                    have n4_ := Aside0.mk (Kd.V_afterv (ok := (fun k_ => (w.heap.size ≤ k_) ∧ some k_ ≠ (v384 : Value).ownBlock ∧ k_ ≠ gb334 ∧ k_ ≠ gb344)) (by (with_reducible repeat (first | apply Kd.V_alloc | apply Kd.V_drewN | apply Kd.V_drew)); exact Kd.V_mono HO393.out (fun _ hk => ⟨⟨hk.1.1.1, ⟨hk.2, ⟨hk.1.1.2.2.1, hk.1.1.2.2.2⟩⟩⟩, hk.1.2⟩)) hg hat)
                    have n5_ := Aside0.mk (Kd.N_afterv (ok := (fun k_ => (w.heap.size ≤ k_) ∧ some k_ ≠ (.slice Ao69 t335.length co69 : Value).ownBlock ∧ k_ ≠ gb334 ∧ k_ ≠ gb344)) (by (with_reducible repeat (first | apply Kd.N_alloc | apply Kd.N_drewN | apply Kd.N_drew)); exact Kd.N_mono HO385.out (fun _ hk => ⟨⟨hk.1, ⟨hk.2.1, ⟨hk.2.2.2.1, hk.2.2.2.2⟩⟩⟩, hk.2.2.1⟩)) hg hat)
                    have n6_ := Aside0.mk (hb)
                    have n7_ := Aside0.mk (ho)
                    clear BK334
                    clear HO337
                    clear BK344
                    clear HO379
                    clear HO393
                    clear HO385
                    clear HB
                    clear HO374
                    have BK334 := n0_
                    have HO337 := n1_
                    have BK344 := n2_
                    have HO379 := n3_
                    have HO393 := n4_
                    have HO385 := n5_
                    have HB := n6_
                    have HO382 := n7_
                    clear n0_ n1_ n2_ n3_ n4_ n5_ n6_ n7_
                    clear ho hb hg hat
                    refine hK.out _ _ ⟨(blk_cell BK344.out 0).trans rfl, (blk_cell BK344.out 1).trans rfl, (blk_cell BK344.out 2).trans rfl, (blk_cell BK344.out 3).trans rfl, (blk_cell BK344.out 4).trans rfl⟩ (fun hHeld => ?_)
                    clear hK K
                    refine norm_ (a' := ?_) ?_ ?_
                    rotate_left
                    · show Act.put _ (some 44) _ = _
                      simp only [Act.put, List.setIfInBounds_toArray, List.set_cons_zero, List.set_cons_succ, i64_w, i32_w]
                      rfl
                    exact norm_ (by simp only [putAll, Act.put, List.setIfInBounds_toArray, List.set_cons_zero, List.set_cons_succ]) (hCont (v373, v381, v384) _ ⟨hHeld, (by (with_reducible repeat (first | apply Kd.N_alloc | apply Kd.N_drewN | apply Kd.N_drew)); exact Kd.N_mono HO337.out (fun _ hk => ⟨hk.1.1, ⟨hk.2, ⟨hk.1.2.1, ⟨hk.1.2.2.1, hk.1.2.2.2⟩⟩⟩⟩)), (by (with_reducible repeat (first | apply Kd.V_alloc | apply Kd.V_drewN | apply Kd.V_drew)); exact Kd.V_mono HO379.out (fun _ hk => ⟨hk.1.1, ⟨hk.2, ⟨hk.1.2.1, ⟨hk.1.2.2.1, hk.1.2.2.2⟩⟩⟩⟩)), (by (with_reducible repeat (first | apply Kd.N_alloc | apply Kd.N_drewN | apply Kd.N_drew)); exact HO382.out), (by (with_reducible repeat (first | apply Kd.N_alloc | apply Kd.N_drewN | apply Kd.N_drew)); exact Kd.N_mono HO385.out (fun _ hk => ⟨hk.1.1, ⟨hk.1.2.1, ⟨hk.2, ⟨hk.1.2.2.1, hk.1.2.2.2⟩⟩⟩⟩)), (by (with_reducible repeat (first | apply Kd.V_alloc | apply Kd.V_drewN | apply Kd.V_drew)); exact Kd.V_mono HO393.out (fun _ hk => ⟨hk.1.1, ⟨hk.2, ⟨hk.1.2.1, ⟨hk.1.2.2.1, hk.1.2.2.2⟩⟩⟩⟩)), (by (with_reducible repeat (first | refine blk_drewN ?_ _ | refine blk_drew ?_ | refine blk_alloc ?_ _)); exact BK334.out), (by (with_reducible repeat (first | refine blk_drewN ?_ _ | refine blk_drew ?_ | refine blk_alloc ?_ _)); exact BK344.out), (by repeat (first | (with_reducible first | exact HB.out | apply below_alloc | apply pw_below_drewN | apply below_drew1 | refine below_set ?_ GE334.out | refine below_set ?_ GE344.out) | exact HB.out))⟩)
                · skip
                  refine Kd.N_lit_step k31 _ 31 ?hg (N' := 46) ?hd (xs := ([(⟨a1, a2, (⟨t339, t340, t343⟩ : S26)⟩ : S31)] : List (S31))) (inner := [.int .i64 a1, .int .i64 a2, .int .i64 t339, .slice Ao65 t340.length co65, .int .i64 t343]) (ok := (fun k_ => (w.heap.size ≤ k_) ∧ some k_ ≠ (.slice Ao69 t335.length co69 : Value).ownBlock ∧ k_ ≠ gb334 ∧ k_ ≠ gb344)) (okp := (fun k_ => (w.heap.size ≤ k_) ∧ some k_ ≠ (.slice Ao69 t335.length co69 : Value).ownBlock ∧ k_ ≠ gb334 ∧ k_ ≠ gb344)) ?hr ?hp (fun _ hk => hk) ((show ∀ k_, w71.heap.size ≤ k_ → (fun k_ => (w.heap.size ≤ k_) ∧ some k_ ≠ (.slice Ao69 t335.length co69 : Value).ownBlock ∧ k_ ≠ gb334 ∧ k_ ≠ gb344) k_ from fun k_ hk => ⟨(Nat.le_trans (below_size (by repeat (first | (with_reducible first | exact HB.out | apply below_alloc | apply pw_below_drewN | apply below_drew1 | refine below_set ?_ GE334.out | refine below_set ?_ GE344.out) | exact HB.out))) hk), Kd.fresh' (Kd.N_lt (by (with_reducible repeat (first | apply Kd.N_alloc | apply Kd.N_drewN | apply Kd.N_drew)); exact HO337.out)) k_ hk, Kd.freshB (g := gb334) (o := .cells #[.int .i64 a3_0, .slice A3_1 l3_1.length c3_1, .int .i64 a3_2] 26 (0, 0)) (by (with_reducible repeat (first | refine blk_drewN ?_ _ | refine blk_drew ?_ | refine blk_alloc ?_ _)); exact BK334.out) k_ hk, Kd.freshB (g := gb344) (o := .cells #[.int .i64 a1, .int .i64 a2, .int .i64 t339, .slice Ao65 t340.length co65, .int .i64 t343] 31 (0, 0)) (by (with_reducible repeat (first | refine blk_drewN ?_ _ | refine blk_drew ?_ | refine blk_alloc ?_ _)); exact BK344.out) k_ hk⟩) _ (Nat.le_refl _)) (Below.refl _ _) (Nat.le_refl _) (by simp) ?_; (case hd => rfl); (case hg => rfl); (case hr => first | (go_simp; done) | (go_simp; rfl)); (case hp => exact (Reps.c5 (show Kd.FK k31 _ _ (⟨a1, a2, (⟨t339, t340, t343⟩ : S26)⟩ : S31) [.int .i64 a1, .int .i64 a2, .int .i64 t339, .slice Ao65 t340.length co65, .int .i64 t343] from (k31_mkF _ _ (⟨a1, a2, (⟨t339, t340, t343⟩ : S26)⟩ : S31) (Kd.R_reads' (Kd.R_mono (ok' := (fun k_ => (w.heap.size ≤ k_) ∧ some k_ ≠ (.slice Ao69 t335.length co69 : Value).ownBlock ∧ k_ ≠ gb334 ∧ k_ ≠ gb344)) (Kd.R_types (Kd.R_types (Kd.R_apart' (HO342.out) (Kd.N_typed HO337.out) (by decide)) BK334.out (by decide)) BK344.out (by decide)) (fun k_ hk => ⟨hk.1.1.1, ⟨hk.1.1.2, ⟨hk.1.2, hk.2⟩⟩⟩))).2.1 (Kd.R_F (Kd.R_mono (ok' := (fun k_ => (w.heap.size ≤ k_) ∧ some k_ ≠ (.slice Ao69 t335.length co69 : Value).ownBlock ∧ k_ ≠ gb334 ∧ k_ ≠ gb344)) (Kd.R_types (Kd.R_types (Kd.R_apart' (HO342.out) (Kd.N_typed HO337.out) (by decide)) BK334.out (by decide)) BK344.out (by decide)) (fun k_ hk => ⟨hk.1.1.1, ⟨hk.1.1.2, ⟨hk.1.2, hk.2⟩⟩⟩))))) (Reps.none _ _)))
                  intro v384 w74 ho75 hb hg_ hnew_
                  clear hg_ hnew_
                  (first | rw [← Ny383.out] at ho75 | (simp only [Int.reduceToNat] at ho75; rw [← Ny383.out] at ho75))
                  have n0_ := Aside0.mk (Kd.N_elder' (by (with_reducible repeat (first | apply Kd.N_alloc | apply Kd.N_drewN | apply Kd.N_drew)); exact HO337.out) (Kd.N_base ho75) hb)
                  have n1_ := Aside0.mk (Kd.V_elder' (by (with_reducible repeat (first | apply Kd.V_alloc | apply Kd.V_drewN | apply Kd.V_drew)); exact HO379.out) (Kd.N_base ho75) hb)
                  have n2_ := Aside0.mk (Kd.V_elder' (by (with_reducible repeat (first | apply Kd.V_alloc | apply Kd.V_drewN | apply Kd.V_drew)); exact HO393.out) (Kd.N_base ho75) hb)
                  have n3_ := Aside0.mk (Kd.N_lower ho75 (below_size (by repeat (first | (with_reducible first | exact HB.out | apply below_alloc | apply pw_below_drewN | apply below_drew1 | refine below_set ?_ GE334.out | refine below_set ?_ GE344.out) | exact HB.out))))
                  have n4_ := Aside0.mk (blk_below (g := gb334) (o := .cells #[.int .i64 a3_0, .slice A3_1 l3_1.length c3_1, .int .i64 a3_2] 26 (0, 0)) (by (with_reducible repeat (first | refine blk_drewN ?_ _ | refine blk_drew ?_ | refine blk_alloc ?_ _)); exact BK334.out) hb)
                  have n5_ := Aside0.mk (blk_below (g := gb344) (o := .cells #[.int .i64 a1, .int .i64 a2, .int .i64 t339, .slice Ao65 t340.length co65, .int .i64 t343] 31 (0, 0)) (by (with_reducible repeat (first | refine blk_drewN ?_ _ | refine blk_drew ?_ | refine blk_alloc ?_ _)); exact BK344.out) hb)
                  have n6_ := Aside0.mk (below_step (by repeat (first | (with_reducible first | exact HB.out | apply below_alloc | apply pw_below_drewN | apply below_drew1 | refine below_set ?_ GE334.out | refine below_set ?_ GE344.out) | exact HB.out)) hb)
                  clear HO337
                  clear HO379
                  clear HO393
                  clear BK334
                  clear BK344
                  clear HB
                  clear HO342
                  have HO337 := n0_
                  have HO379 := n1_
                  have HO393 := n2_
                  have HO385 := n3_
                  have BK334 := n4_
                  have BK344 := n5_
                  have HB := n6_
                  clear n0_ n1_ n2_ n3_ n4_ n5_ n6_
                  clear hb ho75
                  refine hK.out _ _ ⟨(blk_cell BK344.out 0).trans rfl, (blk_cell BK344.out 1).trans rfl, (blk_cell BK344.out 2).trans rfl, (blk_cell BK344.out 3).trans rfl, (blk_cell BK344.out 4).trans rfl⟩ (fun hHeld => ?_)
                  clear hK K
                  refine norm_ (a' := ?_) ?_ ?_
                  rotate_left
                  · show Act.put _ (some 46) _ = _
                    simp only [Act.put, List.setIfInBounds_toArray, List.set_cons_zero, List.set_cons_succ, i64_w, i32_w]
                    rfl
                  refine one_ (i := 0) (N := some 40) #[true, true, true, true, false, true, true, false, true, true, true, false, false] rfl rfl (one_of HT_.out (by kernel_rfl)) (by decide) (fun K hK => ?_)
                  refine Kd.N_lit_step k31 _ 31 ?hg (N' := 40) ?hd (xs := ([] : List (S31))) (inner := []) (ok := (fun k_ => (w.heap.size ≤ k_) ∧ some k_ ≠ (.slice Ao69 t335.length co69 : Value).ownBlock ∧ some k_ ≠ (v384 : Value).ownBlock ∧ k_ ≠ gb334 ∧ k_ ≠ gb344)) (okp := (fun k_ => (w.heap.size ≤ k_) ∧ some k_ ≠ (.slice Ao69 t335.length co69 : Value).ownBlock ∧ some k_ ≠ (v384 : Value).ownBlock ∧ k_ ≠ gb334 ∧ k_ ≠ gb344)) ?hr ?hp (fun _ hk => hk) ((show ∀ k_, w74.heap.size ≤ k_ → (fun k_ => (w.heap.size ≤ k_) ∧ some k_ ≠ (.slice Ao69 t335.length co69 : Value).ownBlock ∧ some k_ ≠ (v384 : Value).ownBlock ∧ k_ ≠ gb334 ∧ k_ ≠ gb344) k_ from fun k_ hk => ⟨(Nat.le_trans (below_size (by repeat (first | (with_reducible first | exact HB.out | apply below_alloc | apply pw_below_drewN | apply below_drew1 | refine below_set ?_ GE334.out | refine below_set ?_ GE344.out) | exact HB.out))) hk), Kd.fresh' (Kd.N_lt (by (with_reducible repeat (first | apply Kd.N_alloc | apply Kd.N_drewN | apply Kd.N_drew)); exact HO337.out)) k_ hk, Kd.fresh' (Kd.N_lt (by (with_reducible repeat (first | apply Kd.N_alloc | apply Kd.N_drewN | apply Kd.N_drew)); exact HO385.out)) k_ hk, Kd.freshB (g := gb334) (o := .cells #[.int .i64 a3_0, .slice A3_1 l3_1.length c3_1, .int .i64 a3_2] 26 (0, 0)) (by (with_reducible repeat (first | refine blk_drewN ?_ _ | refine blk_drew ?_ | refine blk_alloc ?_ _)); exact BK334.out) k_ hk, Kd.freshB (g := gb344) (o := .cells #[.int .i64 a1, .int .i64 a2, .int .i64 t339, .slice Ao65 t340.length co65, .int .i64 t343] 31 (0, 0)) (by (with_reducible repeat (first | refine blk_drewN ?_ _ | refine blk_drew ?_ | refine blk_alloc ?_ _)); exact BK344.out) k_ hk⟩) _ (Nat.le_refl _)) (Below.refl _ _) (Nat.le_refl _) (by simp) ?_; (case hd => rfl); (case hg => rfl); (case hr => first | (go_simp; done) | (go_simp; rfl)); (case hp => exact (Reps.none _ _))
                  intro v373 w76 ho77 hb hg_ hnew_
                  clear hg_ hnew_
                  (first | rw [← Ny372.out] at ho77 | (simp only [Int.reduceToNat] at ho77; rw [← Ny372.out] at ho77))
                  have n0_ := Aside0.mk (Kd.N_elder' (by (with_reducible repeat (first | apply Kd.N_alloc | apply Kd.N_drewN | apply Kd.N_drew)); exact HO337.out) (Kd.N_base ho77) hb)
                  have n1_ := Aside0.mk (Kd.V_elder' (by (with_reducible repeat (first | apply Kd.V_alloc | apply Kd.V_drewN | apply Kd.V_drew)); exact HO379.out) (Kd.N_base ho77) hb)
                  have n2_ := Aside0.mk (Kd.V_elder' (by (with_reducible repeat (first | apply Kd.V_alloc | apply Kd.V_drewN | apply Kd.V_drew)); exact HO393.out) (Kd.N_base ho77) hb)
                  have n3_ := Aside0.mk (Kd.N_elder' (by (with_reducible repeat (first | apply Kd.N_alloc | apply Kd.N_drewN | apply Kd.N_drew)); exact HO385.out) (Kd.N_base ho77) hb)
                  have n4_ := Aside0.mk (Kd.N_lower ho77 (below_size (by repeat (first | (with_reducible first | exact HB.out | apply below_alloc | apply pw_below_drewN | apply below_drew1 | refine below_set ?_ GE334.out | refine below_set ?_ GE344.out) | exact HB.out))))
                  have n5_ := Aside0.mk (blk_below (g := gb334) (o := .cells #[.int .i64 a3_0, .slice A3_1 l3_1.length c3_1, .int .i64 a3_2] 26 (0, 0)) (by (with_reducible repeat (first | refine blk_drewN ?_ _ | refine blk_drew ?_ | refine blk_alloc ?_ _)); exact BK334.out) hb)
                  have n6_ := Aside0.mk (blk_below (g := gb344) (o := .cells #[.int .i64 a1, .int .i64 a2, .int .i64 t339, .slice Ao65 t340.length co65, .int .i64 t343] 31 (0, 0)) (by (with_reducible repeat (first | refine blk_drewN ?_ _ | refine blk_drew ?_ | refine blk_alloc ?_ _)); exact BK344.out) hb)
                  have n7_ := Aside0.mk (below_step (by repeat (first | (with_reducible first | exact HB.out | apply below_alloc | apply pw_below_drewN | apply below_drew1 | refine below_set ?_ GE334.out | refine below_set ?_ GE344.out) | exact HB.out)) hb)
                  clear HO337
                  clear HO379
                  clear HO393
                  clear HO385
                  clear BK334
                  clear BK344
                  clear HB
                  have HO337 := n0_
                  have HO379 := n1_
                  have HO393 := n2_
                  have HO385 := n3_
                  have HO374 := n4_
                  have BK334 := n5_
                  have BK344 := n6_
                  have HB := n7_
                  clear n0_ n1_ n2_ n3_ n4_ n5_ n6_ n7_
                  clear hb ho77
                  refine hK.out _ _ ⟨(blk_cell BK344.out 0).trans rfl, (blk_cell BK344.out 1).trans rfl, (blk_cell BK344.out 2).trans rfl, (blk_cell BK344.out 3).trans rfl, (blk_cell BK344.out 4).trans rfl⟩ (fun hHeld => ?_)
                  clear hK K
                  refine norm_ (a' := ?_) ?_ ?_
                  rotate_left
                  · show Act.put _ (some 40) _ = _
                    simp only [Act.put, List.setIfInBounds_toArray, List.set_cons_zero, List.set_cons_succ, i64_w, i32_w]
                    rfl
                  refine one_ (i := 4) (N := some 44) #[true, true, true, true, true, true, true, false, true, true, true, false, false] rfl rfl (one_of HT_.out (by kernel_rfl)) (by decide) (fun K hK => ?_)
                  refine Kd.N_append_rows_step k31 (w0 := w) w.heap.size (by rfl) (.tmp 40) (.tmp 43) 22 31 (.agg #[(.int .i64 0), (.int .i64 0), (.int .i64 0), (.slice none 0 0), (.int .i64 0)]) 56 rfl Try.underlying22 info31 rfl (by decide) (by omega) v373 y372 y375 _ _ _ (fun k_ => (w.heap.size ≤ k_) ∧ some k_ ≠ (v384 : Value).ownBlock ∧ k_ ≠ gb334 ∧ k_ ≠ gb344) (fun k_ => ((fun k_ => (w.heap.size ≤ k_) ∧ some k_ ≠ (v384 : Value).ownBlock ∧ k_ ≠ gb334 ∧ k_ ≠ gb344)) k_ ∧ some k_ ≠ (v373 : Value).ownBlock) rfl rfl ?aO ?aR (fun _ hk => hk) ?aF ?aB ?aS ?aL ?_
                  (case aR => exact (by skip; exact Kd.V_F (Kd.V_mono (ok' := (fun k_ => ((fun k_ => (w.heap.size ≤ k_) ∧ some k_ ≠ (v384 : Value).ownBlock ∧ k_ ≠ gb334 ∧ k_ ≠ gb344)) k_ ∧ some k_ ≠ (v373 : Value).ownBlock)) (HO379.out) (fun k_ hk => ⟨⟨hk.1.1.1, ⟨hk.1.2, ⟨hk.1.1.2.2.1, hk.1.1.2.2.2⟩⟩⟩, hk.2⟩))))
                  (case aB => exact (by repeat (first | (with_reducible first | exact HB.out | apply below_alloc | apply pw_below_drewN | apply below_drew1 | refine below_set ?_ GE334.out | refine below_set ?_ GE344.out) | exact HB.out)))
                  (case aF => exact (fun k_ hk => ⟨(Nat.le_trans (below_size (by repeat (first | (with_reducible first | exact HB.out | apply below_alloc | apply pw_below_drewN | apply below_drew1 | refine below_set ?_ GE334.out | refine below_set ?_ GE344.out) | exact HB.out))) hk), Kd.fresh' (Kd.N_lt (by (with_reducible repeat (first | apply Kd.N_alloc | apply Kd.N_drewN | apply Kd.N_drew)); exact HO385.out)) k_ hk, Kd.freshB (g := gb334) (o := .cells #[.int .i64 a3_0, .slice A3_1 l3_1.length c3_1, .int .i64 a3_2] 26 (0, 0)) (by (with_reducible repeat (first | refine blk_drewN ?_ _ | refine blk_drew ?_ | refine blk_alloc ?_ _)); exact BK334.out) k_ hk, Kd.freshB (g := gb344) (o := .cells #[.int .i64 a1, .int .i64 a2, .int .i64 t339, .slice Ao65 t340.length co65, .int .i64 t343] 31 (0, 0)) (by (with_reducible repeat (first | refine blk_drewN ?_ _ | refine blk_drew ?_ | refine blk_alloc ?_ _)); exact BK344.out) k_ hk⟩))
                  (case aO => exact (by (with_reducible repeat (first | apply Kd.N_alloc | apply Kd.N_drewN | apply Kd.N_drew)); exact Kd.N_mono HO374.out (fun _ hk => ⟨hk.1, ⟨hk.2.2.1, ⟨hk.2.2.2.1, hk.2.2.2.2⟩⟩⟩)))
                  (case aS => exact (below_size (by repeat (first | (with_reducible first | exact HB.out | apply below_alloc | apply pw_below_drewN | apply below_drew1 | refine below_set ?_ GE334.out | refine below_set ?_ GE344.out) | exact HB.out))))
                  (case aL => have := LMc56.out; omega)
                  intro v381 w78 ho hb hg hat
                  rw [← Ny380.out] at ho
                  have n0_ := Aside0.mk (blk_grown (g := gb334) (o := .cells #[.int .i64 a3_0, .slice A3_1 l3_1.length c3_1, .int .i64 a3_2] 26 (0, 0)) (by (with_reducible repeat (first | refine blk_drewN ?_ _ | refine blk_drew ?_ | refine blk_alloc ?_ _)); exact BK334.out) hg (Kd.N_ne HO374.out BK334.out (by decide)))
                  have n1_ := Aside0.mk (Kd.N_afterv (ok := (fun k_ => (w.heap.size ≤ k_) ∧ some k_ ≠ (v384 : Value).ownBlock ∧ k_ ≠ gb334 ∧ k_ ≠ gb344)) (by (with_reducible repeat (first | apply Kd.N_alloc | apply Kd.N_drewN | apply Kd.N_drew)); exact Kd.N_mono HO337.out (fun _ hk => ⟨⟨hk.1.1.1, ⟨hk.1.2, ⟨hk.1.1.2.2.1, hk.1.1.2.2.2⟩⟩⟩, hk.2⟩)) hg hat)
                  have n2_ := Aside0.mk (blk_grown (g := gb344) (o := .cells #[.int .i64 a1, .int .i64 a2, .int .i64 t339, .slice Ao65 t340.length co65, .int .i64 t343] 31 (0, 0)) (by (with_reducible repeat (first | refine blk_drewN ?_ _ | refine blk_drew ?_ | refine blk_alloc ?_ _)); exact BK344.out) hg (Kd.N_away HO374.out (fun _ hk => hk.2.2.2.2)))
                  have n3_ := Aside0.mk (Kd.V_afterv (ok := (fun k_ => (w.heap.size ≤ k_) ∧ some k_ ≠ (v384 : Value).ownBlock ∧ k_ ≠ gb334 ∧ k_ ≠ gb344)) (by (with_reducible repeat (first | apply Kd.V_alloc | apply Kd.V_drewN | apply Kd.V_drew)); exact Kd.V_mono HO379.out (fun _ hk => ⟨⟨hk.1.1.1, ⟨hk.1.2, ⟨hk.1.1.2.2.1, hk.1.1.2.2.2⟩⟩⟩, hk.2⟩)) hg hat)
                  have n4_ := Aside0.mk (Kd.V_afterv (ok := (fun k_ => (w.heap.size ≤ k_) ∧ some k_ ≠ (v384 : Value).ownBlock ∧ k_ ≠ gb334 ∧ k_ ≠ gb344)) (by (with_reducible repeat (first | apply Kd.V_alloc | apply Kd.V_drewN | apply Kd.V_drew)); exact Kd.V_mono HO393.out (fun _ hk => ⟨⟨hk.1.1.1, ⟨hk.1.2, ⟨hk.1.1.2.2.1, hk.1.1.2.2.2⟩⟩⟩, hk.2⟩)) hg hat)
                  have n5_ := Aside0.mk (Kd.N_afterv (ok := (fun k_ => (w.heap.size ≤ k_) ∧ some k_ ≠ (.slice Ao69 t335.length co69 : Value).ownBlock ∧ k_ ≠ gb334 ∧ k_ ≠ gb344)) (by (with_reducible repeat (first | apply Kd.N_alloc | apply Kd.N_drewN | apply Kd.N_drew)); exact HO385.out) hg hat)
                  have n6_ := Aside0.mk (hb)
                  have n7_ := Aside0.mk (ho)
                  clear BK334
                  clear HO337
                  clear BK344
                  clear HO379
                  clear HO393
                  clear HO385
                  clear HB
                  clear HO374
                  have BK334 := n0_
                  have HO337 := n1_
                  have BK344 := n2_
                  have HO379 := n3_
                  have HO393 := n4_
                  have HO385 := n5_
                  have HB := n6_
                  have HO382 := n7_
                  clear n0_ n1_ n2_ n3_ n4_ n5_ n6_ n7_
                  clear ho hb hg hat
                  refine hK.out _ _ ⟨(blk_cell BK344.out 0).trans rfl, (blk_cell BK344.out 1).trans rfl, (blk_cell BK344.out 2).trans rfl, (blk_cell BK344.out 3).trans rfl, (blk_cell BK344.out 4).trans rfl⟩ (fun hHeld => ?_)
                  clear hK K
                  refine norm_ (a' := ?_) ?_ ?_
                  rotate_left
                  · show Act.put _ (some 44) _ = _
                    simp only [Act.put, List.setIfInBounds_toArray, List.set_cons_zero, List.set_cons_succ, i64_w, i32_w]
                    rfl
                  exact norm_ (by simp only [putAll, Act.put, List.setIfInBounds_toArray, List.set_cons_zero, List.set_cons_succ]) (hCont (v373, v381, v384) _ ⟨hHeld, (by (with_reducible repeat (first | apply Kd.N_alloc | apply Kd.N_drewN | apply Kd.N_drew)); exact Kd.N_mono HO337.out (fun _ hk => ⟨hk.1.1, ⟨hk.2, ⟨hk.1.2.1, ⟨hk.1.2.2.1, hk.1.2.2.2⟩⟩⟩⟩)), (by (with_reducible repeat (first | apply Kd.V_alloc | apply Kd.V_drewN | apply Kd.V_drew)); exact Kd.V_mono HO379.out (fun _ hk => ⟨hk.1.1, ⟨hk.2, ⟨hk.1.2.1, ⟨hk.1.2.2.1, hk.1.2.2.2⟩⟩⟩⟩)), (by (with_reducible repeat (first | apply Kd.N_alloc | apply Kd.N_drewN | apply Kd.N_drew)); exact HO382.out), (by (with_reducible repeat (first | apply Kd.N_alloc | apply Kd.N_drewN | apply Kd.N_drew)); exact Kd.N_mono HO385.out (fun _ hk => ⟨hk.1.1, ⟨hk.1.2.1, ⟨hk.2, ⟨hk.1.2.2.1, hk.1.2.2.2⟩⟩⟩⟩)), (by (with_reducible repeat (first | apply Kd.V_alloc | apply Kd.V_drewN | apply Kd.V_drew)); exact Kd.V_mono HO393.out (fun _ hk => ⟨hk.1.1, ⟨hk.2, ⟨hk.1.2.1, ⟨hk.1.2.2.1, hk.1.2.2.2⟩⟩⟩⟩)), (by (with_reducible repeat (first | refine blk_drewN ?_ _ | refine blk_drew ?_ | refine blk_alloc ?_ _)); exact BK334.out), (by (with_reducible repeat (first | refine blk_drewN ?_ _ | refine blk_drew ?_ | refine blk_alloc ?_ _)); exact BK344.out), (by repeat (first | (with_reducible first | exact HB.out | apply below_alloc | apply pw_below_drewN | apply below_drew1 | refine below_set ?_ GE334.out | refine below_set ?_ GE344.out) | exact HB.out))⟩)
              rintro ⟨v373, v381, v384⟩ w79 ⟨hS_, h0_, h1_, h2_, h3_, h4_, h5_, h6_, h7_⟩
              have n0_ : Aside0 (Kd.N k31 31 w79 w.heap.size (fun k_ => (w.heap.size ≤ k_) ∧ some k_ ≠ (v381 : Value).ownBlock ∧ some k_ ≠ (v384 : Value).ownBlock ∧ k_ ≠ gb334 ∧ k_ ≠ gb344) (.slice Ao69 t335.length co69) t335) := ⟨h0_⟩
              have n1_ : Aside0 (Kd.V k31 31 w79 w.heap.size (fun k_ => (w.heap.size ≤ k_) ∧ some k_ ≠ (v381 : Value).ownBlock ∧ some k_ ≠ (v384 : Value).ownBlock ∧ k_ ≠ gb334 ∧ k_ ≠ gb344) (.slice Ao69 y375.length co69) y375) := ⟨h1_⟩
              have n2_ : Aside0 (Kd.N k31 31 w79 w.heap.size (fun k_ => (w.heap.size ≤ k_) ∧ some k_ ≠ (v384 : Value).ownBlock ∧ k_ ≠ gb334 ∧ k_ ≠ gb344) v381 y380) := ⟨h2_⟩
              have n3_ : Aside0 (Kd.N k31 31 w79 w.heap.size (fun k_ => (w.heap.size ≤ k_) ∧ some k_ ≠ (.slice Ao69 t335.length co69 : Value).ownBlock ∧ some k_ ≠ (v381 : Value).ownBlock ∧ k_ ≠ gb334 ∧ k_ ≠ gb344) v384 y383) := ⟨h3_⟩
              have n4_ : Aside0 (Kd.V k31 31 w79 w.heap.size (fun k_ => (w.heap.size ≤ k_) ∧ some k_ ≠ (v381 : Value).ownBlock ∧ some k_ ≠ (v384 : Value).ownBlock ∧ k_ ≠ gb334 ∧ k_ ≠ gb344) (.slice A73 y389.length c73) y389) := ⟨h4_⟩
              have n5_ : Aside0 (w79.heap[gb334]? = some (.cells #[.int .i64 a3_0, .slice A3_1 l3_1.length c3_1, .int .i64 a3_2] 26 (0, 0))) := ⟨h5_⟩
              have n6_ : Aside0 (w79.heap[gb344]? = some (.cells #[.int .i64 a1, .int .i64 a2, .int .i64 t339, .slice Ao65 t340.length co65, .int .i64 t343] 31 (0, 0))) := ⟨h6_⟩
              have n7_ : Aside0 (Below w.heap.size w w79) := ⟨h7_⟩
              clear HO337
              clear HO342
              clear BK334
              clear BK344
              clear HB
              clear h0_ h1_ h2_ h3_ h4_ h5_ h6_ h7_
              have HO337 := n0_
              have HO379 := n1_
              have HO382 := n2_
              have HO385 := n3_
              have HO393 := n4_
              have BK334 := n5_
              have BK344 := n6_
              have HB := n7_
              clear n0_ n1_ n2_ n3_ n4_ n5_ n6_ n7_
              have hHeld : w79.cell? ⟨gb344, 0, none⟩ = some (.int .i64 a1) ∧ w79.cell? ⟨gb344, 1, none⟩ = some (.int .i64 a2) ∧ w79.cell? ⟨gb344, 2, none⟩ = some (.int .i64 t339) ∧ w79.cell? ⟨gb344, 3, none⟩ = some (.slice Ao65 t340.length co65) ∧ w79.cell? ⟨gb344, 4, none⟩ = some (.int .i64 t343) := hS_
              obtain ⟨Ao81, co81, eo81⟩ := Kd.N_slice HO385.out
              (first | subst eo81 | (injection eo81 with f1_ f2_ f3_; have f4_ := f1_.symm; have f5_ := f3_.symm; clear f1_ f2_ f3_; subst f4_; subst f5_))
              refine norm_ (a' := ?_) ?_ ?_
              rotate_left
              · simp only [putAll, Act.put, List.setIfInBounds_toArray, List.set_cons_zero, List.set_cons_succ]
                rfl
              refine one_ (i := 7) (N := some 47) #[true, true, true, true, true, true, true, true, true, true, true, false, false] rfl rfl (one_of HT_.out (by kernel_rfl)) (by decide) (fun K hK => ?_)
              refine Kd.N_append_rows_step k31 (w0 := w) w.heap.size (by rfl) (.tmp 44) (.tmp 46) 22 31 (.agg #[(.int .i64 0), (.int .i64 0), (.int .i64 0), (.slice none 0 0), (.int .i64 0)]) 56 rfl Try.underlying22 info31 rfl (by decide) (by omega) v381 y380 y383 _ _ _ (fun k_ => (w.heap.size ≤ k_) ∧ k_ ≠ gb334 ∧ k_ ≠ gb344) (fun k_ => ((fun k_ => (w.heap.size ≤ k_) ∧ k_ ≠ gb334 ∧ k_ ≠ gb344)) k_ ∧ some k_ ≠ (v381 : Value).ownBlock) rfl rfl ?aO ?aR (fun _ hk => hk) ?aF ?aB ?aS ?aL ?_
              (case aR => exact (by skip; exact Kd.N_F (Kd.N_mono (ok' := (fun k_ => ((fun k_ => (w.heap.size ≤ k_) ∧ k_ ≠ gb334 ∧ k_ ≠ gb344)) k_ ∧ some k_ ≠ (v381 : Value).ownBlock)) (HO385.out) (fun k_ hk => ⟨⟨hk.1, ⟨hk.2.2.2.1, hk.2.2.2.2⟩⟩, hk.2.2.1⟩))))
              (case aB => exact (by repeat (first | (with_reducible first | exact HB.out | apply below_alloc | apply pw_below_drewN | apply below_drew1 | refine below_set ?_ GE334.out | refine below_set ?_ GE344.out) | exact HB.out)))
              (case aF => exact (fun k_ hk => ⟨(Nat.le_trans (below_size (by repeat (first | (with_reducible first | exact HB.out | apply below_alloc | apply pw_below_drewN | apply below_drew1 | refine below_set ?_ GE334.out | refine below_set ?_ GE344.out) | exact HB.out))) hk), Kd.freshB (g := gb334) (o := .cells #[.int .i64 a3_0, .slice A3_1 l3_1.length c3_1, .int .i64 a3_2] 26 (0, 0)) (by (with_reducible repeat (first | refine blk_drewN ?_ _ | refine blk_drew ?_ | refine blk_alloc ?_ _)); exact BK334.out) k_ hk, Kd.freshB (g := gb344) (o := .cells #[.int .i64 a1, .int .i64 a2, .int .i64 t339, .slice Ao65 t340.length co65, .int .i64 t343] 31 (0, 0)) (by (with_reducible repeat (first | refine blk_drewN ?_ _ | refine blk_drew ?_ | refine blk_alloc ?_ _)); exact BK344.out) k_ hk⟩))
              (case aO => exact (by (with_reducible repeat (first | apply Kd.N_alloc | apply Kd.N_drewN | apply Kd.N_drew)); exact Kd.N_mono HO382.out (fun _ hk => ⟨hk.1, ⟨hk.2.2.1, hk.2.2.2⟩⟩)))
              (case aS => exact (below_size (by repeat (first | (with_reducible first | exact HB.out | apply below_alloc | apply pw_below_drewN | apply below_drew1 | refine below_set ?_ GE334.out | refine below_set ?_ GE344.out) | exact HB.out))))
              (case aL => have := LMc57.out; omega)
              intro v387 w80 ho hb hg hat
              rw [← Ny386.out] at ho
              have n0_ := Aside0.mk (blk_grown (g := gb334) (o := .cells #[.int .i64 a3_0, .slice A3_1 l3_1.length c3_1, .int .i64 a3_2] 26 (0, 0)) (by (with_reducible repeat (first | refine blk_drewN ?_ _ | refine blk_drew ?_ | refine blk_alloc ?_ _)); exact BK334.out) hg (Kd.N_ne HO382.out BK334.out (by decide)))
              have n1_ := Aside0.mk (Kd.N_afterv (ok := (fun k_ => (w.heap.size ≤ k_) ∧ some k_ ≠ (.slice Ao81 y383.length co81 : Value).ownBlock ∧ k_ ≠ gb334 ∧ k_ ≠ gb344)) (by (with_reducible repeat (first | apply Kd.N_alloc | apply Kd.N_drewN | apply Kd.N_drew)); exact Kd.N_mono HO337.out (fun _ hk => ⟨⟨hk.1, ⟨hk.2.2.1, ⟨hk.2.2.2.1, hk.2.2.2.2⟩⟩⟩, hk.2.1⟩)) hg hat)
              have n2_ := Aside0.mk (blk_grown (g := gb344) (o := .cells #[.int .i64 a1, .int .i64 a2, .int .i64 t339, .slice Ao65 t340.length co65, .int .i64 t343] 31 (0, 0)) (by (with_reducible repeat (first | refine blk_drewN ?_ _ | refine blk_drew ?_ | refine blk_alloc ?_ _)); exact BK344.out) hg (Kd.N_away HO382.out (fun _ hk => hk.2.2.2)))
              have n3_ := Aside0.mk (Kd.V_afterv (ok := (fun k_ => (w.heap.size ≤ k_) ∧ some k_ ≠ (.slice Ao81 y383.length co81 : Value).ownBlock ∧ k_ ≠ gb334 ∧ k_ ≠ gb344)) (by (with_reducible repeat (first | apply Kd.V_alloc | apply Kd.V_drewN | apply Kd.V_drew)); exact Kd.V_mono HO379.out (fun _ hk => ⟨⟨hk.1, ⟨hk.2.2.1, ⟨hk.2.2.2.1, hk.2.2.2.2⟩⟩⟩, hk.2.1⟩)) hg hat)
              have n4_ := Aside0.mk (Kd.V_afterv (ok := (fun k_ => (w.heap.size ≤ k_) ∧ some k_ ≠ (.slice Ao81 y383.length co81 : Value).ownBlock ∧ k_ ≠ gb334 ∧ k_ ≠ gb344)) (by (with_reducible repeat (first | apply Kd.V_alloc | apply Kd.V_drewN | apply Kd.V_drew)); exact Kd.V_mono HO393.out (fun _ hk => ⟨⟨hk.1, ⟨hk.2.2.1, ⟨hk.2.2.2.1, hk.2.2.2.2⟩⟩⟩, hk.2.1⟩)) hg hat)
              have n5_ := Aside0.mk (Kd.N_afterv (ok := (fun k_ => (w.heap.size ≤ k_) ∧ some k_ ≠ (.slice Ao69 t335.length co69 : Value).ownBlock ∧ k_ ≠ gb334 ∧ k_ ≠ gb344)) (by (with_reducible repeat (first | apply Kd.N_alloc | apply Kd.N_drewN | apply Kd.N_drew)); exact Kd.N_mono HO385.out (fun _ hk => ⟨⟨hk.1, ⟨hk.2.1, ⟨hk.2.2.2.1, hk.2.2.2.2⟩⟩⟩, hk.2.2.1⟩)) hg hat)
              have n6_ := Aside0.mk (hb)
              have n7_ := Aside0.mk (ho)
              clear BK334
              clear HO337
              clear BK344
              clear HO379
              clear HO393
              clear HO385
              clear HB
              clear HO382
              have BK334 := n0_
              have HO337 := n1_
              have BK344 := n2_
              have HO379 := n3_
              have HO393 := n4_
              have HO385 := n5_
              have HB := n6_
              have HO388 := n7_
              clear n0_ n1_ n2_ n3_ n4_ n5_ n6_ n7_
              clear ho hb hg hat
              refine hK.out _ _ ⟨(blk_cell BK344.out 0).trans rfl, (blk_cell BK344.out 1).trans rfl, (blk_cell BK344.out 2).trans rfl, (blk_cell BK344.out 3).trans rfl, (blk_cell BK344.out 4).trans rfl⟩ (fun hHeld => ?_)
              clear hK K
              refine norm_ (a' := ?_) ?_ ?_
              rotate_left
              · show Act.put _ (some 47) _ = _
                simp only [Act.put, List.setIfInBounds_toArray, List.set_cons_zero, List.set_cons_succ, i64_w, i32_w]
                rfl
              refine one_ (i := 11) (N := some 51) #[true, true, true, true, true, true, true, true, true, true, true, true, false] rfl rfl (one_of HT_.out (by kernel_rfl)) (by decide) (fun K hK => ?_)
              refine Kd.N_append_rows_step k31 (w0 := w) w.heap.size (by rfl) (.tmp 47) (.tmp 50) 22 31 (.agg #[(.int .i64 0), (.int .i64 0), (.int .i64 0), (.slice none 0 0), (.int .i64 0)]) 56 rfl Try.underlying22 info31 rfl (by decide) (by omega) v387 y386 y389 _ _ _ (fun k_ => (w.heap.size ≤ k_) ∧ k_ ≠ gb334 ∧ k_ ≠ gb344) (fun k_ => ((fun k_ => (w.heap.size ≤ k_) ∧ k_ ≠ gb334 ∧ k_ ≠ gb344)) k_ ∧ some k_ ≠ (v387 : Value).ownBlock) rfl rfl ?aO ?aR (fun _ hk => hk) ?aF ?aB ?aS ?aL ?_
              (case aR => exact (by skip; exact Kd.V_F (Kd.V_mono (ok' := (fun k_ => ((fun k_ => (w.heap.size ≤ k_) ∧ k_ ≠ gb334 ∧ k_ ≠ gb344)) k_ ∧ some k_ ≠ (v387 : Value).ownBlock)) (HO393.out) (fun k_ hk => ⟨⟨hk.1.1, ⟨hk.1.2.2.1, hk.1.2.2.2⟩⟩, hk.2⟩))))
              (case aB => exact (by repeat (first | (with_reducible first | exact HB.out | apply below_alloc | apply pw_below_drewN | apply below_drew1 | refine below_set ?_ GE334.out | refine below_set ?_ GE344.out) | exact HB.out)))
              (case aF => exact (fun k_ hk => ⟨(Nat.le_trans (below_size (by repeat (first | (with_reducible first | exact HB.out | apply below_alloc | apply pw_below_drewN | apply below_drew1 | refine below_set ?_ GE334.out | refine below_set ?_ GE344.out) | exact HB.out))) hk), Kd.freshB (g := gb334) (o := .cells #[.int .i64 a3_0, .slice A3_1 l3_1.length c3_1, .int .i64 a3_2] 26 (0, 0)) (by (with_reducible repeat (first | refine blk_drewN ?_ _ | refine blk_drew ?_ | refine blk_alloc ?_ _)); exact BK334.out) k_ hk, Kd.freshB (g := gb344) (o := .cells #[.int .i64 a1, .int .i64 a2, .int .i64 t339, .slice Ao65 t340.length co65, .int .i64 t343] 31 (0, 0)) (by (with_reducible repeat (first | refine blk_drewN ?_ _ | refine blk_drew ?_ | refine blk_alloc ?_ _)); exact BK344.out) k_ hk⟩))
              (case aO => exact (by (with_reducible repeat (first | apply Kd.N_alloc | apply Kd.N_drewN | apply Kd.N_drew)); exact HO388.out))
              (case aS => exact (below_size (by repeat (first | (with_reducible first | exact HB.out | apply below_alloc | apply pw_below_drewN | apply below_drew1 | refine below_set ?_ GE334.out | refine below_set ?_ GE344.out) | exact HB.out))))
              (case aL => have := LMc60.out; omega)
              intro v395 w82 ho hb hg hat
              rw [← Ny394.out] at ho
              have n0_ := Aside0.mk (blk_grown (g := gb334) (o := .cells #[.int .i64 a3_0, .slice A3_1 l3_1.length c3_1, .int .i64 a3_2] 26 (0, 0)) (by (with_reducible repeat (first | refine blk_drewN ?_ _ | refine blk_drew ?_ | refine blk_alloc ?_ _)); exact BK334.out) hg (Kd.N_ne HO388.out BK334.out (by decide)))
              have n1_ := Aside0.mk (Kd.N_afterv (ok := (fun k_ => (w.heap.size ≤ k_) ∧ some k_ ≠ (.slice Ao81 y383.length co81 : Value).ownBlock ∧ k_ ≠ gb334 ∧ k_ ≠ gb344)) (by (with_reducible repeat (first | apply Kd.N_alloc | apply Kd.N_drewN | apply Kd.N_drew)); exact HO337.out) hg hat)
              have n2_ := Aside0.mk (blk_grown (g := gb344) (o := .cells #[.int .i64 a1, .int .i64 a2, .int .i64 t339, .slice Ao65 t340.length co65, .int .i64 t343] 31 (0, 0)) (by (with_reducible repeat (first | refine blk_drewN ?_ _ | refine blk_drew ?_ | refine blk_alloc ?_ _)); exact BK344.out) hg (Kd.N_away HO388.out (fun _ hk => hk.2.2)))
              have n3_ := Aside0.mk (Kd.V_afterv (ok := (fun k_ => (w.heap.size ≤ k_) ∧ some k_ ≠ (.slice Ao81 y383.length co81 : Value).ownBlock ∧ k_ ≠ gb334 ∧ k_ ≠ gb344)) (by (with_reducible repeat (first | apply Kd.V_alloc | apply Kd.V_drewN | apply Kd.V_drew)); exact HO379.out) hg hat)
              have n4_ := Aside0.mk (Kd.V_afterv (ok := (fun k_ => (w.heap.size ≤ k_) ∧ some k_ ≠ (.slice Ao81 y383.length co81 : Value).ownBlock ∧ k_ ≠ gb334 ∧ k_ ≠ gb344)) (by (with_reducible repeat (first | apply Kd.V_alloc | apply Kd.V_drewN | apply Kd.V_drew)); exact HO393.out) hg hat)
              have n5_ := Aside0.mk (Kd.N_afterv (ok := (fun k_ => (w.heap.size ≤ k_) ∧ some k_ ≠ (.slice Ao69 t335.length co69 : Value).ownBlock ∧ k_ ≠ gb334 ∧ k_ ≠ gb344)) (by (with_reducible repeat (first | apply Kd.N_alloc | apply Kd.N_drewN | apply Kd.N_drew)); exact HO385.out) hg hat)
              have n6_ := Aside0.mk (hb)
              have n7_ := Aside0.mk (ho)
              clear BK334
              clear HO337
              clear BK344
              clear HO379
              clear HO393
              clear HO385
              clear HB
              clear HO388
              have BK334 := n0_
              have HO337 := n1_
              have BK344 := n2_
              have HO379 := n3_
              have HO393 := n4_
              have HO385 := n5_
              have HB := n6_
              have HO396 := n7_
              clear n0_ n1_ n2_ n3_ n4_ n5_ n6_ n7_
              clear ho hb hg hat
              refine hK.out _ _ ⟨(blk_cell BK344.out 0).trans rfl, (blk_cell BK344.out 1).trans rfl, (blk_cell BK344.out 2).trans rfl, (blk_cell BK344.out 3).trans rfl, (blk_cell BK344.out 4).trans rfl⟩ (fun hHeld => ?_)
              clear hK K
              refine norm_ (a' := ?_) ?_ ?_
              rotate_left
              · show Act.put _ (some 51) _ = _
                simp only [Act.put, List.setIfInBounds_toArray, List.set_cons_zero, List.set_cons_succ, i64_w, i32_w]
                rfl
              refine pure_ (i := 12) (N := some 8) (v := ?_) (a' := ?_) #[true, true, true, true, true, true, true, true, true, true, true, true, true] rfl rfl (any_of HT_.out (by kernel_rfl)) (fun _ _ _ h => h) (Or.inl ⟨by rfl, ?_⟩) ?_ ?_
              rotate_left
              · intro w'
                go_simp
                with_reducible rfl
              rotate_left
              · simp only [Act.put, List.setIfInBounds_toArray, List.set_cons_zero, List.set_cons_succ, i64_w, i32_w]
                rfl
              refine done_ (done_of HT_.out (by kernel_rfl)) ?_
              try go_wp2
              go_ret
              exact ⟨_, by first | rfl | (simp [errW_none, errW_some] <;> rfl) | (simp [*, errW_none, errW_some] <;> rfl), by (with_reducible repeat (first | apply Kd.N_alloc | apply Kd.N_drewN | apply Kd.N_drew)); exact Kd.N_mono HO396.out (fun _ hk => hk.1), by repeat (first | (with_reducible first | exact HB.out | apply below_alloc | apply pw_below_drewN | apply below_drew1 | refine below_set ?_ GE334.out | refine below_set ?_ GE344.out) | exact HB.out)⟩
            · rw [if_neg c60] at H
              exact absurd H (by simp)
          · rw [if_neg c57] at H
            exact absurd H (by simp)
        · rw [if_neg c56] at H
          exact absurd H (by simp)
      · rw [if_neg c55] at H
        exact absurd H (by simp)
    · rw [if_neg c54] at H
      exact absurd H (by simp)

end Go.Proofs.Ytjpgnipjgonplaa.Ss
