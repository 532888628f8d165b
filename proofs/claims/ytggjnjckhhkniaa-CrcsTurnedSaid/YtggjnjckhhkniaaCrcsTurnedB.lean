/- The walk of the law CrcsTurned, for the text CrcsTurned. -/
import Derived.Test.YtggjnjckhhkniaaCs
namespace Go.Proofs.Ytggjnjckhhkniaa.Cs
open Go.RowKit Go.Proofs.YtggjnjckhhkniaaW.PrintWords Go.Proofs.YtggjnjckhhkniaaW.PrintLast Go.Proofs.YtggjnjckhhkniaaW.PrintMore
attribute [local go_sem] max2_int min2_int max_two min_two max_three min_three max_four min_four
set_option linter.unusedVariables false
set_option linter.unusedSimpArgs false
/-! ### hocketlaw1_CrcsTurned: function 6 -/
mutual
def hocketlaw1_CrcsTurned.j0 : Nat → List Int → Int → Int → Bool → Option (Bool)
  | 0, _, _, _, _ => none
  | k + 1, x0, x1, x2, x20 => if x20 = true then ((hocketlaw1_awake.f k).bind fun t110 => (some t110)) else ((some (([] : List Int) : List Int)).bind fun y111 => (if y111.length + x0.length < 140737488355328 then ((some (y111 ++ x0 : List Int)).bind fun y114 => (if (wrap64 (8 * (x0.length : Int))) = 0 then (none) else (if 0 ≤ (wrap64 (Int.tdiv (Int.tmod (Go.bits .and .i64 x1 65535) (wrap64 (8 * (x0.length : Int)))) 8)) then (if (wrap64 (Int.tdiv (Int.tmod (Go.bits .and .i64 x1 65535) (wrap64 (8 * (x0.length : Int)))) 8)) < (y114.length : Int) then (if 0 ≤ (IntKind.u64.wrap (Go.bits .and .i64 (Int.tmod (Go.bits .and .i64 x1 65535) (wrap64 (8 * (x0.length : Int)))) 7)) then ((crcs_Sum.f k (y114.set ((wrap64 (Int.tdiv (Int.tmod (Go.bits .and .i64 x1 65535) (wrap64 (8 * (x0.length : Int)))) 8)) : Int).toNat (Go.bits .xor .u8 (rd y114 (wrap64 (Int.tdiv (Int.tmod (Go.bits .and .i64 x1 65535) (wrap64 (8 * (x0.length : Int)))) 8))) (shl .u8 1 (IntKind.u64.wrap (Go.bits .and .i64 (Int.tmod (Go.bits .and .i64 x1 65535) (wrap64 (8 * (x0.length : Int)))) 7)))))).bind fun t119 => ((crcs_Sum.f k x0).bind fun t120 => (if t119 = t120 then (some false) else ((some (([] : List Int) : List Int)).bind fun y121 => (if y121.length + x0.length < 140737488355328 then (hocketlaw1_CrcsTurned.l0 k x0 x2 (Int.tmod (Go.bits .and .i64 x1 65535) (wrap64 (8 * (x0.length : Int)))) (y121 ++ x0) false 0) else (none)))))) else (none)) else (none)) else (none)))) else (none)))
def hocketlaw1_CrcsTurned.l0 : Nat → List Int → Int → Int → List Int → Bool → Int → Option (Bool)
  | 0, _, _, _, _, _, _ => none
  | k + 1, x0, x2, x8, x9, x10, x11 => if x11 < 4 then (if (wrap64 ((wrap64 (Int.tdiv x8 8)) + x11)) < (x9.length : Int) then (if 0 ≤ (IntKind.u64.wrap (wrap64 (8 * x11))) then (if 0 ≤ (wrap64 ((wrap64 (Int.tdiv x8 8)) + x11)) then ((some (x9.set ((wrap64 ((wrap64 (Int.tdiv x8 8)) + x11)) : Int).toNat (Go.bits .xor .u8 (rd x9 (wrap64 ((wrap64 (Int.tdiv x8 8)) + x11))) ((shr .i64 x2 (IntKind.u64.wrap (wrap64 (8 * x11)))) % 256)) : List Int)).bind fun y128 => (if x10 = true then (hocketlaw1_CrcsTurned.l0 k x0 x2 x8 y128 true (wrap64 (x11 + 1))) else (hocketlaw1_CrcsTurned.l0 k x0 x2 x8 y128 (((shr .i64 x2 (IntKind.u64.wrap (wrap64 (8 * x11)))) % 256) != 0) (wrap64 (x11 + 1))))) else (none)) else (none)) else (hocketlaw1_CrcsTurned.l0 k x0 x2 x8 x9 x10 (wrap64 (x11 + 1)))) else ((crcs_Sum.f k x9).bind fun t129 => ((crcs_Sum.f k x0).bind fun t130 => (if ((t129 == t130) == (!x10)) = true then ((hocketlaw1_awake.f k).bind fun t131 => (some t131)) else (some false))))
end
def hocketlaw1_CrcsTurned.f (k : Nat) (l0 : List Int) (a1 : Int) (a2 : Int) : Option (Bool) := if (l0.length : Int) > 300 then (hocketlaw1_CrcsTurned.j0 k l0 a1 a2 true) else (hocketlaw1_CrcsTurned.j0 k l0 a1 a2 ((l0.length : Int) == 0))
theorem hocketlaw1_CrcsTurned.mono_l : ∀ k, (∀ y0 y1 y2 y3, LeO (hocketlaw1_CrcsTurned.j0 k y0 y1 y2 y3) (hocketlaw1_CrcsTurned.j0 (k + 1) y0 y1 y2 y3)) ∧ (∀ y0 y1 y2 y3 y4 y5, LeO (hocketlaw1_CrcsTurned.l0 k y0 y1 y2 y3 y4 y5) (hocketlaw1_CrcsTurned.l0 (k + 1) y0 y1 y2 y3 y4 y5))
  | 0 => ⟨fun _ _ _ _ r h => by simp [hocketlaw1_CrcsTurned.j0] at h, fun _ _ _ _ _ _ r h => by simp [hocketlaw1_CrcsTurned.l0] at h⟩
  | k + 1 => by
    obtain ⟨ih0, ih1⟩ := hocketlaw1_CrcsTurned.mono_l k
    refine ⟨?_, ?_⟩
    · intro y0 y1 y2 y3
      unfold hocketlaw1_CrcsTurned.j0
      repeat' first
      | (with_reducible exact ih0 _ _ _ _)
      | (with_reducible exact ih1 _ _ _ _ _ _)
      | (with_reducible exact crcs_Sum.mono _ _)
      | (with_reducible exact hocketlaw1_awake.mono _)
      | (with_reducible exact LeO.refl _)
      | (with_reducible exact LeO.none _)
      | (with_reducible refine LeO.ite ?_ ?_)
      | (with_reducible refine LeO.bind ?_ (fun _ => ?_))
      | exact ih0 _ _ _ _
      | exact ih1 _ _ _ _ _ _
      | exact crcs_Sum.mono _ _
      | exact hocketlaw1_awake.mono _
      | exact LeO.none _
      | refine LeO.ite ?_ ?_
      | refine LeO.bind ?_ (fun _ => ?_)
    · intro y0 y1 y2 y3 y4 y5
      unfold hocketlaw1_CrcsTurned.l0
      repeat' first
      | (with_reducible exact ih0 _ _ _ _)
      | (with_reducible exact ih1 _ _ _ _ _ _)
      | (with_reducible exact crcs_Sum.mono _ _)
      | (with_reducible exact hocketlaw1_awake.mono _)
      | (with_reducible exact LeO.refl _)
      | (with_reducible exact LeO.none _)
      | (with_reducible refine LeO.ite ?_ ?_)
      | (with_reducible refine LeO.bind ?_ (fun _ => ?_))
      | exact ih0 _ _ _ _
      | exact ih1 _ _ _ _ _ _
      | exact crcs_Sum.mono _ _
      | exact hocketlaw1_awake.mono _
      | exact LeO.none _
      | refine LeO.ite ?_ ?_
      | refine LeO.bind ?_ (fun _ => ?_)
theorem hocketlaw1_CrcsTurned.mono : ∀ a0 a1 a2 k, LeO (hocketlaw1_CrcsTurned.f k a0 a1 a2) (hocketlaw1_CrcsTurned.f (k + 1) a0 a1 a2) := by
  intro a0 a1 a2 k
  obtain ⟨ih0, ih1⟩ := hocketlaw1_CrcsTurned.mono_l k
  unfold hocketlaw1_CrcsTurned.f
  repeat' first
      | (with_reducible exact ih0 _ _ _ _)
      | (with_reducible exact ih1 _ _ _ _ _ _)
      | (with_reducible exact crcs_Sum.mono _ _)
      | (with_reducible exact hocketlaw1_awake.mono _)
      | (with_reducible exact LeO.refl _)
      | (with_reducible exact LeO.none _)
      | (with_reducible refine LeO.ite ?_ ?_)
      | (with_reducible refine LeO.bind ?_ (fun _ => ?_))
      | exact ih0 _ _ _ _
      | exact ih1 _ _ _ _ _ _
      | exact crcs_Sum.mono _ _
      | exact hocketlaw1_awake.mono _
      | exact LeO.none _
      | refine LeO.ite ?_ ?_
      | refine LeO.bind ?_ (fun _ => ?_)
set_option maxHeartbeats 8000000 in
set_option maxRecDepth 100000 in
theorem hocketlaw1_CrcsTurned.calls (k : Nat) (A0 : Option Addr) (c0 : Nat) (l0 : List Int) (a1 : Int) (a2 : Int) (r : Bool) (w : World) (hr0 : Kd.C (Kd.int .u8) w A0 l0.length l0) (hc0 : l0.length ≤ c0) (h : hocketlaw1_CrcsTurned.f k l0 a1 a2 = some r) :
    Calls Try.prog 6 #[.slice A0 l0.length c0, .int .i64 a1, .int .i64 a2] w fun e w' => e = .returned (.bool r) ∧ Below w.heap.size w w' := by
  have HR0 := Aside0.mk hr0
  have HC0 := Aside0.mk hc0
  clear hr0 hc0
  have HB := Aside0.mk (Below.refl w.heap.size w)
  have H : (if (l0.length : Int) > 300 then (hocketlaw1_CrcsTurned.j0 k l0 a1 a2 true) else (hocketlaw1_CrcsTurned.j0 k l0 a1 a2 ((l0.length : Int) == 0))) = some r := h
  clear h
  have HC4 := Aside0.mk H
  clear H
  go_enter Try.func6, Try.ntmps6
  go_upto_region 1 with (fail)
  go_cut [20] (fun v20 wc => ∃ (kq : Nat) (x20_3 : Bool), v20 = .bool x20_3 ∧ Aside0 (hocketlaw1_CrcsTurned.j0 kq l0 a1 a2 x20_3 = some r) ∧ Aside0 (kq ≤ k) ∧ Aside0 (Below w.heap.size w wc))
  case first =>
    have H := HC4.out
    clear HC4
    by_cases c5 : (l0.length : Int) > 300
    · rw [if_pos c5] at H
      have c5b0 : decide (300 < (l0.length : Int)) = true := decide_eq_true c5
      have c5b1 : decide (300 < l0.length) = true := decide_eq_true (by omega)
      clear c5
      (first | rw [c5b0] | (simp only [i64_w, i32_w]; rw [c5b0]) | skip)
      have H' := Aside0.mk H
      clear H
      go_wp2
      go_meet
      case rel => exact ⟨_, (true), (by first | rfl | (simp; done) | (simp [*]; done)), H', ⟨by first | omega | exact Nat.le_refl _⟩, ⟨by repeat (first | (with_reducible first | exact HB.out | apply below_alloc | apply pw_below_drewN | apply below_drew1) | exact HB.out)⟩⟩
    · rw [if_neg c5] at H
      have c5b0 : decide (300 < (l0.length : Int)) = false := decide_eq_false c5
      have c5b1 : decide (300 < l0.length) = false := decide_eq_false (by omega)
      clear c5
      (first | rw [c5b0] | (simp only [i64_w, i32_w]; rw [c5b0]) | skip)
      have H' := Aside0.mk H
      clear H
      go_wp2
      go_meet
      case rel => exact ⟨_, (((l0.length : Int) == 0)), (by first | rfl | (simp; done) | (simp [*]; done)), H', ⟨by first | omega | exact Nat.le_refl _⟩, ⟨by repeat (first | (with_reducible first | exact HB.out | apply below_alloc | apply pw_below_drewN | apply below_drew1) | exact HB.out)⟩⟩
  case rest =>
    clear HC4
    try clear p2
    try clear c5
    try clear c5b0
    try clear c5b1
    obtain ⟨kq, x20_3, rfl, HA, HJ3, HB⟩ := hcut
    cases kq with
    | zero => exact absurd HA.out (by simp [hocketlaw1_CrcsTurned.j0])
    | succ kj3 =>
      have H := HA.out
      clear HA
      simp only [hocketlaw1_CrcsTurned.j0] at H
      by_cases c6 : x20_3 = true
      · subst c6
        have H1 : ((hocketlaw1_awake.f kj3).bind fun t110 => (some t110)) = some r := by rw [if_pos rfl] at H; exact H
        clear H
        have H := H1
        clear H1
        replace H := Option.bind_eq_some_iff.mp H
        obtain ⟨t110, A70, H⟩ := H
        replace H : (some t110) = some r := H
        have A7 := Aside0.mk A70
        clear A70
        obtain rfl := Option.some.inj H
        go_wp2_with (first | ((with_reducible refine gate_callee (f := 9) rfl ?_); refine goesL_ (some 21) rfl rfl Try.func9 (by kernel_rfl) rfl #[] rfl (by (try simp only [List.map_toArray, List.map_cons, List.map_nil]); first | done | rfl | (simp only [List.length_drop, List.length_take]; rfl)) ?_; (with_reducible refine (hocketlaw1_awake.calls kj3  t110 _ A7.out).mono ?_); rintro e w8 ⟨rfl, hb⟩; refine ⟨_, rfl, ?_⟩; have n0_ := Aside0.mk (below_step (by repeat (first | (with_reducible first | exact HB.out | apply below_alloc | apply pw_below_drewN | apply below_drew1) | exact HB.out)) hb); clear HB; have HB := n0_; clear n0_; (try clear hb); (try clear hb2); (try clear hk); (try clear hi)))
        go_ret
        exact ⟨by first | rfl | (simp [errW_none, errW_some] <;> rfl) | (simp [*, errW_none, errW_some] <;> rfl), by repeat (first | (with_reducible first | exact HB.out | apply below_alloc | apply pw_below_drewN | apply below_drew1) | exact HB.out)⟩
      · replace c6 := Bool.eq_false_iff.mpr c6
        subst c6
        have H1 : ((some (([] : List Int) : List Int)).bind fun y111 => (if y111.length + l0.length < 140737488355328 then ((some (y111 ++ l0 : List Int)).bind fun y114 => (if (wrap64 (8 * (l0.length : Int))) = 0 then (none) else (if 0 ≤ (wrap64 (Int.tdiv (Int.tmod (Go.bits .and .i64 a1 65535) (wrap64 (8 * (l0.length : Int)))) 8)) then (if (wrap64 (Int.tdiv (Int.tmod (Go.bits .and .i64 a1 65535) (wrap64 (8 * (l0.length : Int)))) 8)) < (y114.length : Int) then (if 0 ≤ (IntKind.u64.wrap (Go.bits .and .i64 (Int.tmod (Go.bits .and .i64 a1 65535) (wrap64 (8 * (l0.length : Int)))) 7)) then ((crcs_Sum.f kj3 (y114.set ((wrap64 (Int.tdiv (Int.tmod (Go.bits .and .i64 a1 65535) (wrap64 (8 * (l0.length : Int)))) 8)) : Int).toNat (Go.bits .xor .u8 (rd y114 (wrap64 (Int.tdiv (Int.tmod (Go.bits .and .i64 a1 65535) (wrap64 (8 * (l0.length : Int)))) 8))) (shl .u8 1 (IntKind.u64.wrap (Go.bits .and .i64 (Int.tmod (Go.bits .and .i64 a1 65535) (wrap64 (8 * (l0.length : Int)))) 7)))))).bind fun t119 => ((crcs_Sum.f kj3 l0).bind fun t120 => (if t119 = t120 then (some false) else ((some (([] : List Int) : List Int)).bind fun y121 => (if y121.length + l0.length < 140737488355328 then (hocketlaw1_CrcsTurned.l0 kj3 l0 a2 (Int.tmod (Go.bits .and .i64 a1 65535) (wrap64 (8 * (l0.length : Int)))) (y121 ++ l0) false 0) else (none)))))) else (none)) else (none)) else (none)))) else (none))) = some r := by rw [if_neg (show ¬ (false = true) by decide)] at H; exact H
        clear H
        have H := H1
        clear H1
        obtain ⟨y111, hy111⟩ : ∃ y_ : List Int, y_ = (([] : List Int)) := ⟨_, rfl⟩
        replace H : (if y111.length + l0.length < 140737488355328 then ((some (y111 ++ l0 : List Int)).bind fun y114 => (if (wrap64 (8 * (l0.length : Int))) = 0 then (none) else (if 0 ≤ (wrap64 (Int.tdiv (Int.tmod (Go.bits .and .i64 a1 65535) (wrap64 (8 * (l0.length : Int)))) 8)) then (if (wrap64 (Int.tdiv (Int.tmod (Go.bits .and .i64 a1 65535) (wrap64 (8 * (l0.length : Int)))) 8)) < (y114.length : Int) then (if 0 ≤ (IntKind.u64.wrap (Go.bits .and .i64 (Int.tmod (Go.bits .and .i64 a1 65535) (wrap64 (8 * (l0.length : Int)))) 7)) then ((crcs_Sum.f kj3 (y114.set ((wrap64 (Int.tdiv (Int.tmod (Go.bits .and .i64 a1 65535) (wrap64 (8 * (l0.length : Int)))) 8)) : Int).toNat (Go.bits .xor .u8 (rd y114 (wrap64 (Int.tdiv (Int.tmod (Go.bits .and .i64 a1 65535) (wrap64 (8 * (l0.length : Int)))) 8))) (shl .u8 1 (IntKind.u64.wrap (Go.bits .and .i64 (Int.tmod (Go.bits .and .i64 a1 65535) (wrap64 (8 * (l0.length : Int)))) 7)))))).bind fun t119 => ((crcs_Sum.f kj3 l0).bind fun t120 => (if t119 = t120 then (some false) else ((some (([] : List Int) : List Int)).bind fun y121 => (if y121.length + l0.length < 140737488355328 then (hocketlaw1_CrcsTurned.l0 kj3 l0 a2 (Int.tmod (Go.bits .and .i64 a1 65535) (wrap64 (8 * (l0.length : Int)))) (y121 ++ l0) false 0) else (none)))))) else (none)) else (none)) else (none)))) else (none)) = some r := by first | (rw [hy111]; with_reducible exact H) | (have H2_ := (Option.bind_some _ _).symm.trans H; rw [hy111]; with_reducible exact H2_) | (have H2_ := (Option.bind_some _ _).symm.trans H; with_reducible exact H2_) | with_reducible exact H | (rw [hy111]; exact H) | exact H
        have Ny111 := Aside0.mk hy111
        clear hy111
        by_cases c9 : y111.length + l0.length < 140737488355328
        · rw [if_pos c9] at H
          have LMc9 := Aside0.mk c9
          clear c9
          obtain ⟨y114, hy114⟩ : ∃ y_ : List Int, y_ = (y111 ++ l0) := ⟨_, rfl⟩
          replace H : (if (wrap64 (8 * (l0.length : Int))) = 0 then (none) else (if 0 ≤ (wrap64 (Int.tdiv (Int.tmod (Go.bits .and .i64 a1 65535) (wrap64 (8 * (l0.length : Int)))) 8)) then (if (wrap64 (Int.tdiv (Int.tmod (Go.bits .and .i64 a1 65535) (wrap64 (8 * (l0.length : Int)))) 8)) < (y114.length : Int) then (if 0 ≤ (IntKind.u64.wrap (Go.bits .and .i64 (Int.tmod (Go.bits .and .i64 a1 65535) (wrap64 (8 * (l0.length : Int)))) 7)) then ((crcs_Sum.f kj3 (y114.set ((wrap64 (Int.tdiv (Int.tmod (Go.bits .and .i64 a1 65535) (wrap64 (8 * (l0.length : Int)))) 8)) : Int).toNat (Go.bits .xor .u8 (rd y114 (wrap64 (Int.tdiv (Int.tmod (Go.bits .and .i64 a1 65535) (wrap64 (8 * (l0.length : Int)))) 8))) (shl .u8 1 (IntKind.u64.wrap (Go.bits .and .i64 (Int.tmod (Go.bits .and .i64 a1 65535) (wrap64 (8 * (l0.length : Int)))) 7)))))).bind fun t119 => ((crcs_Sum.f kj3 l0).bind fun t120 => (if t119 = t120 then (some false) else ((some (([] : List Int) : List Int)).bind fun y121 => (if y121.length + l0.length < 140737488355328 then (hocketlaw1_CrcsTurned.l0 kj3 l0 a2 (Int.tmod (Go.bits .and .i64 a1 65535) (wrap64 (8 * (l0.length : Int)))) (y121 ++ l0) false 0) else (none)))))) else (none)) else (none)) else (none))) = some r := by first | (rw [hy114]; with_reducible exact H) | (have H2_ := (Option.bind_some _ _).symm.trans H; rw [hy114]; with_reducible exact H2_) | (have H2_ := (Option.bind_some _ _).symm.trans H; with_reducible exact H2_) | with_reducible exact H | (rw [hy114]; exact H) | exact H
          have Ny114 := Aside0.mk hy114
          clear hy114
          by_cases c10 : (wrap64 (8 * (l0.length : Int))) = 0
          · rw [if_pos c10] at H
            exact absurd H (by simp)
          · rw [if_neg c10] at H
            have c10b0 : ((wrap64 (8 * (l0.length : Int))) == 0) = false := beq_eq_false_iff_ne.mpr c10
            have c10b1 : ((wrap64 (8 * (l0.length : Int))) != 0) = true := bne_iff_ne.mpr c10
            obtain ⟨ji11, hji11⟩ : ∃ j_ : Int, (wrap64 (Int.tdiv (Int.tmod (Go.bits .and .i64 a1 65535) (wrap64 (8 * (l0.length : Int)))) 8)) = j_ := ⟨_, rfl⟩
            replace H : (if 0 ≤ (ji11) then (if (ji11) < (y114.length : Int) then (if 0 ≤ (IntKind.u64.wrap (Go.bits .and .i64 (Int.tmod (Go.bits .and .i64 a1 65535) (wrap64 (8 * (l0.length : Int)))) 7)) then ((crcs_Sum.f kj3 (y114.set ((ji11) : Int).toNat (Go.bits .xor .u8 (rd y114 (ji11)) (shl .u8 1 (IntKind.u64.wrap (Go.bits .and .i64 (Int.tmod (Go.bits .and .i64 a1 65535) (wrap64 (8 * (l0.length : Int)))) 7)))))).bind fun t119 => ((crcs_Sum.f kj3 l0).bind fun t120 => (if t119 = t120 then (some false) else ((some (([] : List Int) : List Int)).bind fun y121 => (if y121.length + l0.length < 140737488355328 then (hocketlaw1_CrcsTurned.l0 kj3 l0 a2 (Int.tmod (Go.bits .and .i64 a1 65535) (wrap64 (8 * (l0.length : Int)))) (y121 ++ l0) false 0) else (none)))))) else (none)) else (none)) else (none)) = some r := by first | (rw [hji11] at H; exact H) | (simp only [hji11] at H ⊢; exact H)
            have hji11w : (IntKind.i64.wrap (Int.tdiv (Int.tmod (Go.bits .and .i64 a1 65535) (wrap64 (8 * (l0.length : Int)))) 8)) = ji11 := (i64_w _).trans hji11
            by_cases c12 : 0 ≤ (ji11)
            · rw [if_pos c12] at H
              have c12b0 : decide (0 ≤ (ji11)) = true := decide_eq_true c12
              clear c12
              by_cases c13 : (ji11) < (y114.length : Int)
              · rw [if_pos c13] at H
                have c13b0 : decide ((ji11) < (y114.length : Int)) = true := decide_eq_true c13
                clear c13
                obtain ⟨ji14, hji14⟩ : ∃ j_ : Int, (IntKind.u64.wrap (Go.bits .and .i64 (Int.tmod (Go.bits .and .i64 a1 65535) (wrap64 (8 * (l0.length : Int)))) 7)) = j_ := ⟨_, rfl⟩
                replace H : (if 0 ≤ (ji14) then ((crcs_Sum.f kj3 (y114.set ((ji11) : Int).toNat (Go.bits .xor .u8 (rd y114 (ji11)) (shl .u8 1 (ji14))))).bind fun t119 => ((crcs_Sum.f kj3 l0).bind fun t120 => (if t119 = t120 then (some false) else ((some (([] : List Int) : List Int)).bind fun y121 => (if y121.length + l0.length < 140737488355328 then (hocketlaw1_CrcsTurned.l0 kj3 l0 a2 (Int.tmod (Go.bits .and .i64 a1 65535) (wrap64 (8 * (l0.length : Int)))) (y121 ++ l0) false 0) else (none)))))) else (none)) = some r := by first | (rw [hji14] at H; exact H) | (simp only [hji14] at H ⊢; exact H)
                by_cases c15 : 0 ≤ (ji14)
                · rw [if_pos c15] at H
                  have c15b0 := eq_true c15
                  have c15b1 : decide (0 ≤ (ji14)) = true := decide_eq_true c15
                  clear c15
                  obtain ⟨ji16, hji16⟩ : ∃ j_ : Int, (shl .u8 1 (ji14)) = j_ := ⟨_, rfl⟩
                  replace H : ((crcs_Sum.f kj3 (y114.set ((ji11) : Int).toNat (Go.bits .xor .u8 (rd y114 (ji11)) (ji16)))).bind fun t119 => ((crcs_Sum.f kj3 l0).bind fun t120 => (if t119 = t120 then (some false) else ((some (([] : List Int) : List Int)).bind fun y121 => (if y121.length + l0.length < 140737488355328 then (hocketlaw1_CrcsTurned.l0 kj3 l0 a2 (Int.tmod (Go.bits .and .i64 a1 65535) (wrap64 (8 * (l0.length : Int)))) (y121 ++ l0) false 0) else (none)))))) = some r := by first | (rw [hji16] at H; exact H) | (simp only [hji16] at H ⊢; exact H)
                  have hji16_ : (IntKind.u8.wrap (1 * 2 ^ min (ji14).toNat 8)) = ji16 := hji16
                  have hji16z : (ji14) ≤ 8 → (IntKind.u8.wrap (1 * 2 ^ (ji14).toNat)) = ji16 := shl_small hji16
                  have hji16u : (IntKind.u8.wrap (2 ^ min (ji14).toNat 8)) = ji16 := by have h_ := hji16_; rw [Int.one_mul] at h_; exact h_
                  have hji16v : (ji14) ≤ 8 → (IntKind.u8.wrap (2 ^ (ji14).toNat)) = ji16 := fun hle_ => by have h_ := hji16z hle_; rw [Int.one_mul] at h_; exact h_
                  obtain ⟨y118, hy118⟩ : ∃ y_ : List Int, y_ = (y114.set ((ji11) : Int).toNat (Go.bits .xor .u8 (rd y114 (ji11)) (ji16))) := ⟨_, rfl⟩
                  replace H : ((crcs_Sum.f kj3 y118).bind fun t119 => ((crcs_Sum.f kj3 l0).bind fun t120 => (if t119 = t120 then (some false) else ((some (([] : List Int) : List Int)).bind fun y121 => (if y121.length + l0.length < 140737488355328 then (hocketlaw1_CrcsTurned.l0 kj3 l0 a2 (Int.tmod (Go.bits .and .i64 a1 65535) (wrap64 (8 * (l0.length : Int)))) (y121 ++ l0) false 0) else (none)))))) = some r := by first | (rw [hy118]; with_reducible exact H) | (have H2_ := (Option.bind_some _ _).symm.trans H; rw [hy118]; with_reducible exact H2_) | (have H2_ := (Option.bind_some _ _).symm.trans H; with_reducible exact H2_) | with_reducible exact H | (rw [hy118]; exact H) | exact H
                  have Ny118 := Aside0.mk hy118
                  clear hy118
                  replace H := Option.bind_eq_some_iff.mp H
                  obtain ⟨t119, A180, H⟩ := H
                  replace H : ((crcs_Sum.f kj3 l0).bind fun t120 => (if t119 = t120 then (some false) else ((some (([] : List Int) : List Int)).bind fun y121 => (if y121.length + l0.length < 140737488355328 then (hocketlaw1_CrcsTurned.l0 kj3 l0 a2 (Int.tmod (Go.bits .and .i64 a1 65535) (wrap64 (8 * (l0.length : Int)))) (y121 ++ l0) false 0) else (none))))) = some r := H
                  have A18 := Aside0.mk A180
                  clear A180
                  replace H := Option.bind_eq_some_iff.mp H
                  obtain ⟨t120, A190, H⟩ := H
                  replace H : (if t119 = t120 then (some false) else ((some (([] : List Int) : List Int)).bind fun y121 => (if y121.length + l0.length < 140737488355328 then (hocketlaw1_CrcsTurned.l0 kj3 l0 a2 (Int.tmod (Go.bits .and .i64 a1 65535) (wrap64 (8 * (l0.length : Int)))) (y121 ++ l0) false 0) else (none)))) = some r := H
                  have A19 := Aside0.mk A190
                  clear A190
                  by_cases c20 : t119 = t120
                  · rw [if_pos c20] at H
                    have c20b0 : (t119 == t120) = true := beq_iff_eq.mpr c20
                    have c20b1 : (t119 != t120) = false := bne_eq_false_iff_eq.mpr c20
                    clear c20
                    obtain rfl := Option.some.inj H
                    go_wp2_with (first | ((with_reducible refine gate_dst (N := 22) rfl ?_); (try (refine gate_guard (by rfl) ?_; dsimp only)); refine Kd.R_lit (Kd.int .u8) _ 5 ?hg (N := 22) ?hd (xs := ([] : List Int)) (inner := []) (ok := fun _ => True) (okp := fun _ => True) ?hr ?hp (fun _ hk => hk) trivial (Below.refl _ _) (Nat.le_refl _) (by simp) ?_; (case hd => rfl); (case hg => rfl); (case hr => first | (go_simp; done) | (go_simp; rfl)); (case hp => exact (Reps.none _ _)); intro v112 w21 ho22 hb hg_ hnew_; clear hg_ hnew_; (first | rw [← Ny111.out] at ho22 | (simp only [Int.reduceToNat] at ho22; rw [← Ny111.out] at ho22)); have n0_ := Aside0.mk (Kd.R_lower ho22 (below_size (by repeat (first | (with_reducible first | exact HB.out | apply below_alloc | apply pw_below_drewN | apply below_drew1) | exact HB.out)))); have n1_ := Aside0.mk (below_step (by repeat (first | (with_reducible first | exact HB.out | apply below_alloc | apply pw_below_drewN | apply below_drew1) | exact HB.out)) hb); clear HB; have HO113 := n0_; have HB := n1_; clear n0_ n1_; clear hb ho22) | ((with_reducible refine gate_builtin (b := .append) (xs := #[.tmp 22, .tmp 23]) rfl ?_); (try (refine gate_guard (by rfl) ?_; dsimp only)); at_builtin; refine Kd.R_append_rows (Kd.int .u8) (w0 := w) w.heap.size rfl (.tmp 22) (.tmp 23) 26 5 (.int .u8 0) 1 rfl Try.underlying26 info5 rfl (by decide) (by omega) v112 y111 l0 _ _ _ (fun _ => True) (fun _ => False) rfl rfl ?aO ?aR (fun _ _ h => h) (fun _ h => h.elim) ?aF ?aB ?aS ?aL ?_; (case aR => repeat (first | exact (Kd.C_below HR0.out HB.out) | (with_reducible refine Kd.C_alloc ?_ _) | (with_reducible refine Kd.C_drewN ?_ _) | (with_reducible refine Kd.C_drew ?_))); (case aB => exact (by repeat (first | (with_reducible first | exact HB.out | apply below_alloc | apply pw_below_drewN | apply below_drew1) | exact HB.out))); (case aF => exact (fun _ _ => trivial)); (case aO => exact (by (with_reducible repeat (first | apply Kd.R_alloc | apply Kd.R_drewN | apply Kd.R_drew)); exact HO113.out)); (case aS => exact (below_size (by repeat (first | (with_reducible first | exact HB.out | apply below_alloc | apply pw_below_drewN | apply below_drew1) | exact HB.out)))); (case aL => have := LMc9.out; omega); intro v115 w23 ho hb hg hat; rw [← Ny114.out] at ho; have n0_ := Aside0.mk (hb); have n1_ := Aside0.mk (ho); clear HB; clear HO113; have HB := n0_; have HO116 := n1_; clear n0_ n1_; clear ho hb hg hat; obtain ⟨Ao24, co24, eo24⟩ := Kd.R_slice HO116.out; subst eo24; have p117 : 0 ≤ ((ji11) : Int) := of_decide_eq_true (by first | (with_reducible assumption) | assumption); have q117 : (ji11) < (y114.length : Int) := of_decide_eq_true (by first | (with_reducible assumption) | assumption); obtain ⟨ad117, e117, hx117_0⟩ := Kd.at_int (Kd.R_reads' HO116.out).2.2 (ji11) p117 q117; cases e117; replace p117 := eq_true p117; replace q117 := eq_true q117; have p17 : 0 ≤ ((ji11) : Int) := of_decide_eq_true (by first | (with_reducible assumption) | assumption); have q17 : ((ji11) : Int) < ((y114.length : Int) : Int) := of_decide_eq_true (by first | (with_reducible assumption) | assumption); obtain ⟨go17, co17, eo17, gb17, gl17, cl17, HG17⟩ := Kd.R_form HO116.out (by omega); (first | cases eo17 | (injection eo17 with ea_ en_ ec_; (first | subst ea_ | (injection ea_ with ea_; subst ea_)); subst ec_; clear en_)); have GB17 := Aside0.mk gb17; have GG17 := Aside0.mk HG17; clear gb17 gl17 HG17; (first | simp only [add_plain] at hx117_0 | skip); obtain ⟨hx17_0, hf17_0⟩ := Kd.R_celln 0 HO116.out ((ji11) : Int) p17 q17; replace p17 := eq_true p17; replace q17 := eq_true q17; obtain ⟨hy25_, hz25_⟩ := Kd.R_celln 0 HO116.out ((ji11) : Int) (of_decide_eq_true (by first | (with_reducible assumption) | assumption)) (of_decide_eq_true (by first | (with_reducible assumption) | assumption)); have HP25 := Kd.R_putg HO116.out ((ji11) : Int) (Go.bits .xor .u8 (rd y114 (ji11)) (ji16))) | ((with_reducible refine gate_store (t := 5) (p := 44) rfl ?_); refine store_event (t := 5) (p := 44) (v := ?vo_w26) (w1 := (w23.setCell ⟨go17, ((ji11) : Int).toNat, none⟩ (.int .u8 (Go.bits .xor .u8 (rd y114 (ji11)) (ji16))))) ?hg ?ho ?hn ?hr ?_; (case ho => rfl); (case hg => rfl); (case hn => rfl); (case hr => first | (go_simp; done) | (go_simp; rfl)); intro w26 hw; have hg : w23.grownBy w26 (some go17) := (by rw [hw]; exact HP25.2); have hp_ : Kd.R (Kd.int .u8) 5 w26 w.heap.size (fun _ => True) (.slice (some ⟨go17, 0, none⟩) y114.length co24) y118 := (by rw [hw, Ny118.out]; exact HP25.1); clear HP25; have n0_ := Aside0.mk (hp_); have n1_ := Aside0.mk ((by rw [hw]; exact below_set (HB.out) GB17.out : Below w.heap.size w w26)); clear HO116; clear HB; have HO116 := n0_; have HB := n1_; clear n0_ n1_; clear hg hw hp_) | ((with_reducible refine gate_callee (f := 8) rfl ?_); refine goesL_ (some 46) rfl rfl Try.func8 (by kernel_rfl) rfl #[.slice (some ⟨go17, 0, none⟩) y118.length co24] rfl (by (try simp only [List.map_toArray, List.map_cons, List.map_nil]); first | done | (rw [show y118.length = y114.length from (Kd.R_reads' HO116.out).1.symm] <;> rfl) | rfl | (simp only [List.length_drop, List.length_take]; rfl)) ?_; (with_reducible refine (crcs_Sum.calls kj3 _ _ y118 t119 _ ?side1 ?side2 A18.out).mono ?_); (case side1 => repeat (first | exact (Kd.R_reads' HO116.out).2.2 | (with_reducible refine Kd.C_alloc ?_ _) | (with_reducible refine Kd.C_drewN ?_ _) | (with_reducible refine Kd.C_drew ?_))); (case side2 => rw [show y118.length = y114.length from (Kd.R_reads' HO116.out).1.symm]; exact (Kd.R_reads' HO116.out).2.1); rintro e w' ⟨rfl, ⟨nd, rfl⟩⟩; refine ⟨_, rfl, ?_⟩) | ((with_reducible refine gate_callee (f := 8) rfl ?_); refine goesL_ (some 48) rfl rfl Try.func8 (by kernel_rfl) rfl #[.slice A0 l0.length c0] rfl (by (try simp only [List.map_toArray, List.map_cons, List.map_nil]); first | done | rfl | (simp only [List.length_drop, List.length_take]; rfl)) ?_; (with_reducible refine (crcs_Sum.calls kj3 _ _ l0 t120 _ ?side1 ?side2 A19.out).mono ?_); (case side1 => repeat (first | exact (Kd.C_below HR0.out (by repeat (first | (with_reducible first | exact HB.out | apply below_alloc | apply pw_below_drewN | apply below_drew1) | exact HB.out))) | (with_reducible refine Kd.C_alloc ?_ _) | (with_reducible refine Kd.C_drewN ?_ _) | (with_reducible refine Kd.C_drew ?_))); (case side2 => exact HC0.out); rintro e w' ⟨rfl, ⟨nd, rfl⟩⟩; refine ⟨_, rfl, ?_⟩))
                    go_ret
                    exact ⟨by first | rfl | (simp [errW_none, errW_some] <;> rfl) | (simp only [← hji11, ← hji14, ← hji16]; first | rfl | (simp [errW_none, errW_some] <;> rfl)) | (simp [*, errW_none, errW_some] <;> rfl), by repeat (first | (with_reducible first | exact HB.out | apply below_alloc | apply pw_below_drewN | apply below_drew1) | exact HB.out)⟩
                  · rw [if_neg c20] at H
                    have c20b0 : (t119 == t120) = false := beq_eq_false_iff_ne.mpr c20
                    have c20b1 : (t119 != t120) = true := bne_iff_ne.mpr c20
                    obtain ⟨y121, hy121⟩ : ∃ y_ : List Int, y_ = (([] : List Int)) := ⟨_, rfl⟩
                    replace H : (if y121.length + l0.length < 140737488355328 then (hocketlaw1_CrcsTurned.l0 kj3 l0 a2 (Int.tmod (Go.bits .and .i64 a1 65535) (wrap64 (8 * (l0.length : Int)))) (y121 ++ l0) false 0) else (none)) = some r := by first | (rw [hy121]; with_reducible exact H) | (have H2_ := (Option.bind_some _ _).symm.trans H; rw [hy121]; with_reducible exact H2_) | (have H2_ := (Option.bind_some _ _).symm.trans H; with_reducible exact H2_) | with_reducible exact H | (rw [hy121]; exact H) | exact H
                    have Ny121 := Aside0.mk hy121
                    clear hy121
                    by_cases c27 : y121.length + l0.length < 140737488355328
                    · rw [if_pos c27] at H
                      have LMc27 := Aside0.mk c27
                      clear c27
                      obtain ⟨y124, hy124⟩ : ∃ y_ : List Int, y_ = (y121 ++ l0) := ⟨_, rfl⟩
                      replace H : (hocketlaw1_CrcsTurned.l0 kj3 l0 a2 (Int.tmod (Go.bits .and .i64 a1 65535) (wrap64 (8 * (l0.length : Int)))) y124 false 0) = some r := by first | (rw [hy124]; with_reducible exact H) | (have H2_ := (Option.bind_some _ _).symm.trans H; rw [hy124]; with_reducible exact H2_) | (have H2_ := (Option.bind_some _ _).symm.trans H; with_reducible exact H2_) | with_reducible exact H | (rw [hy124]; exact H) | exact H
                      have Ny124 := Aside0.mk hy124
                      clear hy124
                      have H' := Aside0.mk H
                      clear H
                      go_wp2_with (first | ((with_reducible refine gate_dst (N := 22) rfl ?_); (try (refine gate_guard (by rfl) ?_; dsimp only)); refine Kd.R_lit (Kd.int .u8) _ 5 ?hg (N := 22) ?hd (xs := ([] : List Int)) (inner := []) (ok := fun _ => True) (okp := fun _ => True) ?hr ?hp (fun _ hk => hk) trivial (Below.refl _ _) (Nat.le_refl _) (by simp) ?_; (case hd => rfl); (case hg => rfl); (case hr => first | (go_simp; done) | (go_simp; rfl)); (case hp => exact (Reps.none _ _)); intro v112 w28 ho29 hb hg_ hnew_; clear hg_ hnew_; (first | rw [← Ny111.out] at ho29 | (simp only [Int.reduceToNat] at ho29; rw [← Ny111.out] at ho29)); have n0_ := Aside0.mk (Kd.R_lower ho29 (below_size (by repeat (first | (with_reducible first | exact HB.out | apply below_alloc | apply pw_below_drewN | apply below_drew1) | exact HB.out)))); have n1_ := Aside0.mk (below_step (by repeat (first | (with_reducible first | exact HB.out | apply below_alloc | apply pw_below_drewN | apply below_drew1) | exact HB.out)) hb); clear HB; have HO113 := n0_; have HB := n1_; clear n0_ n1_; clear hb ho29) | ((with_reducible refine gate_builtin (b := .append) (xs := #[.tmp 22, .tmp 23]) rfl ?_); (try (refine gate_guard (by rfl) ?_; dsimp only)); at_builtin; refine Kd.R_append_rows (Kd.int .u8) (w0 := w) w.heap.size rfl (.tmp 22) (.tmp 23) 26 5 (.int .u8 0) 1 rfl Try.underlying26 info5 rfl (by decide) (by omega) v112 y111 l0 _ _ _ (fun _ => True) (fun _ => False) rfl rfl ?aO ?aR (fun _ _ h => h) (fun _ h => h.elim) ?aF ?aB ?aS ?aL ?_; (case aR => repeat (first | exact (Kd.C_below HR0.out HB.out) | (with_reducible refine Kd.C_alloc ?_ _) | (with_reducible refine Kd.C_drewN ?_ _) | (with_reducible refine Kd.C_drew ?_))); (case aB => exact (by repeat (first | (with_reducible first | exact HB.out | apply below_alloc | apply pw_below_drewN | apply below_drew1) | exact HB.out))); (case aF => exact (fun _ _ => trivial)); (case aO => exact (by (with_reducible repeat (first | apply Kd.R_alloc | apply Kd.R_drewN | apply Kd.R_drew)); exact HO113.out)); (case aS => exact (below_size (by repeat (first | (with_reducible first | exact HB.out | apply below_alloc | apply pw_below_drewN | apply below_drew1) | exact HB.out)))); (case aL => have := LMc9.out; omega); intro v115 w30 ho hb hg hat; rw [← Ny114.out] at ho; have n0_ := Aside0.mk (hb); have n1_ := Aside0.mk (ho); clear HB; clear HO113; have HB := n0_; have HO116 := n1_; clear n0_ n1_; clear ho hb hg hat; obtain ⟨Ao31, co31, eo31⟩ := Kd.R_slice HO116.out; subst eo31; have p117 : 0 ≤ ((ji11) : Int) := of_decide_eq_true (by first | (with_reducible assumption) | assumption); have q117 : (ji11) < (y114.length : Int) := of_decide_eq_true (by first | (with_reducible assumption) | assumption); obtain ⟨ad117, e117, hx117_0⟩ := Kd.at_int (Kd.R_reads' HO116.out).2.2 (ji11) p117 q117; cases e117; replace p117 := eq_true p117; replace q117 := eq_true q117; have p17 : 0 ≤ ((ji11) : Int) := of_decide_eq_true (by first | (with_reducible assumption) | assumption); have q17 : ((ji11) : Int) < ((y114.length : Int) : Int) := of_decide_eq_true (by first | (with_reducible assumption) | assumption); obtain ⟨go17, co17, eo17, gb17, gl17, cl17, HG17⟩ := Kd.R_form HO116.out (by omega); (first | cases eo17 | (injection eo17 with ea_ en_ ec_; (first | subst ea_ | (injection ea_ with ea_; subst ea_)); subst ec_; clear en_)); have GB17 := Aside0.mk gb17; have GG17 := Aside0.mk HG17; clear gb17 gl17 HG17; (first | simp only [add_plain] at hx117_0 | skip); obtain ⟨hx17_0, hf17_0⟩ := Kd.R_celln 0 HO116.out ((ji11) : Int) p17 q17; replace p17 := eq_true p17; replace q17 := eq_true q17; obtain ⟨hy32_, hz32_⟩ := Kd.R_celln 0 HO116.out ((ji11) : Int) (of_decide_eq_true (by first | (with_reducible assumption) | assumption)) (of_decide_eq_true (by first | (with_reducible assumption) | assumption)); have HP32 := Kd.R_putg HO116.out ((ji11) : Int) (Go.bits .xor .u8 (rd y114 (ji11)) (ji16))) | ((with_reducible refine gate_store (t := 5) (p := 44) rfl ?_); refine store_event (t := 5) (p := 44) (v := ?vo_w33) (w1 := (w30.setCell ⟨go17, ((ji11) : Int).toNat, none⟩ (.int .u8 (Go.bits .xor .u8 (rd y114 (ji11)) (ji16))))) ?hg ?ho ?hn ?hr ?_; (case ho => rfl); (case hg => rfl); (case hn => rfl); (case hr => first | (go_simp; done) | (go_simp; rfl)); intro w33 hw; have hg : w30.grownBy w33 (some go17) := (by rw [hw]; exact HP32.2); have hp_ : Kd.R (Kd.int .u8) 5 w33 w.heap.size (fun _ => True) (.slice (some ⟨go17, 0, none⟩) y114.length co31) y118 := (by rw [hw, Ny118.out]; exact HP32.1); clear HP32; have n0_ := Aside0.mk (hp_); have n1_ := Aside0.mk ((by rw [hw]; exact below_set (HB.out) GB17.out : Below w.heap.size w w33)); clear HO116; clear HB; have HO116 := n0_; have HB := n1_; clear n0_ n1_; clear hg hw hp_) | ((with_reducible refine gate_callee (f := 8) rfl ?_); refine goesL_ (some 46) rfl rfl Try.func8 (by kernel_rfl) rfl #[.slice (some ⟨go17, 0, none⟩) y118.length co31] rfl (by (try simp only [List.map_toArray, List.map_cons, List.map_nil]); first | done | (rw [show y118.length = y114.length from (Kd.R_reads' HO116.out).1.symm] <;> rfl) | rfl | (simp only [List.length_drop, List.length_take]; rfl)) ?_; (with_reducible refine (crcs_Sum.calls kj3 _ _ y118 t119 _ ?side1 ?side2 A18.out).mono ?_); (case side1 => repeat (first | exact (Kd.R_reads' HO116.out).2.2 | (with_reducible refine Kd.C_alloc ?_ _) | (with_reducible refine Kd.C_drewN ?_ _) | (with_reducible refine Kd.C_drew ?_))); (case side2 => rw [show y118.length = y114.length from (Kd.R_reads' HO116.out).1.symm]; exact (Kd.R_reads' HO116.out).2.1); rintro e w' ⟨rfl, ⟨nd, rfl⟩⟩; refine ⟨_, rfl, ?_⟩) | ((with_reducible refine gate_callee (f := 8) rfl ?_); refine goesL_ (some 48) rfl rfl Try.func8 (by kernel_rfl) rfl #[.slice A0 l0.length c0] rfl (by (try simp only [List.map_toArray, List.map_cons, List.map_nil]); first | done | rfl | (simp only [List.length_drop, List.length_take]; rfl)) ?_; (with_reducible refine (crcs_Sum.calls kj3 _ _ l0 t120 _ ?side1 ?side2 A19.out).mono ?_); (case side1 => repeat (first | exact (Kd.C_below HR0.out (by repeat (first | (with_reducible first | exact HB.out | apply below_alloc | apply pw_below_drewN | apply below_drew1) | exact HB.out))) | (with_reducible refine Kd.C_alloc ?_ _) | (with_reducible refine Kd.C_drewN ?_ _) | (with_reducible refine Kd.C_drew ?_))); (case side2 => exact HC0.out); rintro e w' ⟨rfl, ⟨nd, rfl⟩⟩; refine ⟨_, rfl, ?_⟩) | ((with_reducible refine gate_dst (N := 50) rfl ?_); (try (refine gate_guard (by rfl) ?_; dsimp only)); refine Kd.R_lit (Kd.int .u8) _ 5 ?hg (N := 50) ?hd (xs := ([] : List Int)) (inner := []) (ok := fun _ => True) (okp := fun _ => True) ?hr ?hp (fun _ hk => hk) trivial (Below.refl _ _) (Nat.le_refl _) (by simp) ?_; (case hd => rfl); (case hg => rfl); (case hr => first | (go_simp; done) | (go_simp; rfl)); (case hp => exact (Reps.none _ _)); intro v122 w34 ho35 hb hg_ hnew_; clear hg_ hnew_; (first | rw [← Ny121.out] at ho35 | (simp only [Int.reduceToNat] at ho35; rw [← Ny121.out] at ho35)); have n0_ := Aside0.mk (Kd.R_elder' (by (with_reducible repeat (first | apply Kd.R_alloc | apply Kd.R_drewN | apply Kd.R_drew)); exact HO116.out) (Kd.R_base ho35) hb); have n1_ := Aside0.mk (Kd.R_lower (Kd.R_new' ho35 (Kd.R_lt (by (with_reducible repeat (first | apply Kd.R_alloc | apply Kd.R_drewN | apply Kd.R_drew)); exact HO116.out))) (below_size (by repeat (first | (with_reducible first | exact HB.out | apply below_alloc | apply pw_below_drewN | apply below_drew1) | exact HB.out)))); have n2_ := Aside0.mk (below_step (by repeat (first | (with_reducible first | exact HB.out | apply below_alloc | apply pw_below_drewN | apply below_drew1) | exact HB.out)) hb); clear HO116; clear HB; have HO116 := n0_; have HO123 := n1_; have HB := n2_; clear n0_ n1_ n2_; clear hb ho35) | ((with_reducible refine gate_builtin (b := .append) (xs := #[.tmp 50, .tmp 51]) rfl ?_); (try (refine gate_guard (by rfl) ?_; dsimp only)); at_builtin; refine Kd.R_append_rows (Kd.int .u8) (w0 := w) w.heap.size rfl (.tmp 50) (.tmp 51) 26 5 (.int .u8 0) 1 rfl Try.underlying26 info5 rfl (by decide) (by omega) v122 y121 l0 _ _ _ (fun k_ => some k_ ≠ (.slice (some ⟨go17, 0, none⟩) y114.length co31 : Value).ownBlock) (fun _ => False) rfl rfl ?aO ?aR (fun _ _ h => h) (fun _ h => h.elim) ?aF ?aB ?aS ?aL ?_; (case aR => repeat (first | exact (Kd.C_below HR0.out HB.out) | (with_reducible refine Kd.C_alloc ?_ _) | (with_reducible refine Kd.C_drewN ?_ _) | (with_reducible refine Kd.C_drew ?_))); (case aB => exact (by repeat (first | (with_reducible first | exact HB.out | apply below_alloc | apply pw_below_drewN | apply below_drew1) | exact HB.out))); (case aF => exact (fun k_ hk => Kd.fresh' (Kd.R_lt (by (with_reducible repeat (first | apply Kd.R_alloc | apply Kd.R_drewN | apply Kd.R_drew)); exact HO116.out)) k_ hk)); (case aO => exact (by (with_reducible repeat (first | apply Kd.R_alloc | apply Kd.R_drewN | apply Kd.R_drew)); exact Kd.R_mono HO123.out (fun _ hk => hk.2))); (case aS => exact (below_size (by repeat (first | (with_reducible first | exact HB.out | apply below_alloc | apply pw_below_drewN | apply below_drew1) | exact HB.out)))); (case aL => have := LMc27.out; omega); intro v125 w36 ho hb hg hat; rw [← Ny124.out] at ho; have n0_ := Aside0.mk (Kd.R_after (ok := (fun _ => True)) (by (with_reducible repeat (first | apply Kd.R_alloc | apply Kd.R_drewN | apply Kd.R_drew)); exact HO116.out) hg hat); have n1_ := Aside0.mk (hb); have n2_ := Aside0.mk (ho); clear HO116; clear HB; clear HO123; have HO116 := n0_; have HB := n1_; have HO126 := n2_; clear n0_ n1_ n2_; clear ho hb hg hat))
                      go_loopg [10, 11] kj3 (fun kq v10 v11 w' => ∃ (x9_2 : List Int) (x10_2 : Bool) (x11_2 : Int), v10 = .bool x10_2 ∧ v11 = .int .i64 x11_2 ∧ Aside0 (hocketlaw1_CrcsTurned.l0 kq l0 a2 (Int.tmod (Go.bits .and .i64 a1 65535) (wrap64 (8 * (l0.length : Int)))) x9_2 x10_2 x11_2 = some r) ∧ Aside0 (kq ≤ kj3) ∧ Aside0 (Kd.R (Kd.int .u8) 5 w' w.heap.size (fun _ => True) v125 x9_2) ∧ Aside0 (Below w.heap.size w w'))
                      case atStart => exact ⟨(y124), (false), (0), (by first | rfl | (simp; done) | (simp [*]; done)), (by first | rfl | (simp; done) | (simp [*]; done)), H', ⟨Nat.le_refl _⟩, ⟨by (with_reducible repeat (first | apply Kd.R_alloc | apply Kd.R_drewN | apply Kd.R_drew)); exact Kd.R_mono HO126.out (fun _ hk => trivial)⟩, ⟨by repeat (first | (with_reducible first | exact HB.out | apply below_alloc | apply pw_below_drewN | apply below_drew1) | exact HB.out)⟩⟩
                      case round =>
                        clear H'
                        try clear c1
                        try clear p1
                        try clear q1
                        try clear hx1
                        try clear c2
                        try clear p2
                        try clear c5
                        try clear c5b0
                        try clear c5b1
                        try clear c6
                        try clear p6
                        try clear c8
                        try clear c9
                        try clear c10
                        try clear c10b0
                        try clear c10b1
                        try clear p11
                        try clear q11
                        try clear hx11
                        try clear c12
                        try clear c12b0
                        try clear c13
                        try clear c13b0
                        try clear c15
                        try clear c15b0
                        try clear c15b1
                        try clear p17
                        try clear q17
                        try clear hx17
                        try clear hf17
                        try clear c20
                        try clear c20b0
                        try clear c20b1
                        try clear c27
                        try clear hx117_0
                        try clear hx17_0
                        try clear p117
                        try clear p17
                        try clear p2
                        try clear q117
                        try clear q17
                        obtain ⟨x9_2, x10_2, x11_2, rfl, rfl, HA, HK2, HO_9, HB⟩ := hrel
                        cases gk with
                        | zero => exact absurd HA.out (by simp [hocketlaw1_CrcsTurned.l0])
                        | succ k2 =>
                          have H := HA.out
                          clear HA
                          simp only [hocketlaw1_CrcsTurned.l0] at H
                          by_cases c37 : x11_2 < 4
                          · rw [if_pos c37] at H
                            have c37b0 : decide (x11_2 < 4) = true := decide_eq_true c37
                            clear c37
                            by_cases c38 : (wrap64 ((wrap64 (Int.tdiv (Int.tmod (Go.bits .and .i64 a1 65535) (wrap64 (8 * (l0.length : Int)))) 8)) + x11_2)) < (x9_2.length : Int)
                            · rw [if_pos c38] at H
                              have c38b0 : decide ((wrap64 ((wrap64 (Int.tdiv (Int.tmod (Go.bits .and .i64 a1 65535) (wrap64 (8 * (l0.length : Int)))) 8)) + x11_2)) < (x9_2.length : Int)) = true := decide_eq_true c38
                              clear c38
                              obtain ⟨ji39, hji39⟩ : ∃ j_ : Int, (IntKind.u64.wrap (wrap64 (8 * x11_2))) = j_ := ⟨_, rfl⟩
                              replace H : (if 0 ≤ (ji39) then (if 0 ≤ (wrap64 ((wrap64 (Int.tdiv (Int.tmod (Go.bits .and .i64 a1 65535) (wrap64 (8 * (l0.length : Int)))) 8)) + x11_2)) then ((some (x9_2.set ((wrap64 ((wrap64 (Int.tdiv (Int.tmod (Go.bits .and .i64 a1 65535) (wrap64 (8 * (l0.length : Int)))) 8)) + x11_2)) : Int).toNat (Go.bits .xor .u8 (rd x9_2 (wrap64 ((wrap64 (Int.tdiv (Int.tmod (Go.bits .and .i64 a1 65535) (wrap64 (8 * (l0.length : Int)))) 8)) + x11_2))) ((shr .i64 a2 (ji39)) % 256)) : List Int)).bind fun y128 => (if x10_2 = true then (hocketlaw1_CrcsTurned.l0 k2 l0 a2 (Int.tmod (Go.bits .and .i64 a1 65535) (wrap64 (8 * (l0.length : Int)))) y128 true (wrap64 (x11_2 + 1))) else (hocketlaw1_CrcsTurned.l0 k2 l0 a2 (Int.tmod (Go.bits .and .i64 a1 65535) (wrap64 (8 * (l0.length : Int)))) y128 (((shr .i64 a2 (ji39)) % 256) != 0) (wrap64 (x11_2 + 1))))) else (none)) else (none)) = some r := by first | (rw [hji39] at H; exact H) | (simp only [hji39] at H ⊢; exact H)
                              by_cases c40 : 0 ≤ (ji39)
                              · rw [if_pos c40] at H
                                have c40b0 := eq_true c40
                                have c40b1 : decide (0 ≤ (ji39)) = true := decide_eq_true c40
                                clear c40
                                obtain ⟨ji41, hji41⟩ : ∃ j_ : Int, (shr .i64 a2 (ji39)) = j_ := ⟨_, rfl⟩
                                replace H : (if 0 ≤ (wrap64 ((wrap64 (Int.tdiv (Int.tmod (Go.bits .and .i64 a1 65535) (wrap64 (8 * (l0.length : Int)))) 8)) + x11_2)) then ((some (x9_2.set ((wrap64 ((wrap64 (Int.tdiv (Int.tmod (Go.bits .and .i64 a1 65535) (wrap64 (8 * (l0.length : Int)))) 8)) + x11_2)) : Int).toNat (Go.bits .xor .u8 (rd x9_2 (wrap64 ((wrap64 (Int.tdiv (Int.tmod (Go.bits .and .i64 a1 65535) (wrap64 (8 * (l0.length : Int)))) 8)) + x11_2))) ((ji41) % 256)) : List Int)).bind fun y128 => (if x10_2 = true then (hocketlaw1_CrcsTurned.l0 k2 l0 a2 (Int.tmod (Go.bits .and .i64 a1 65535) (wrap64 (8 * (l0.length : Int)))) y128 true (wrap64 (x11_2 + 1))) else (hocketlaw1_CrcsTurned.l0 k2 l0 a2 (Int.tmod (Go.bits .and .i64 a1 65535) (wrap64 (8 * (l0.length : Int)))) y128 (((ji41) % 256) != 0) (wrap64 (x11_2 + 1))))) else (none)) = some r := by first | (rw [hji41] at H; exact H) | (simp only [hji41] at H ⊢; exact H)
                                have hji41_ : (a2 / 2 ^ min (ji39).toNat 64) = ji41 := hji41
                                have hji41z : (ji39) ≤ 64 → (a2 / 2 ^ (ji39).toNat) = ji41 := shr_small hji41
                                obtain ⟨ji42, hji42⟩ : ∃ j_ : Int, (wrap64 ((wrap64 (Int.tdiv (Int.tmod (Go.bits .and .i64 a1 65535) (wrap64 (8 * (l0.length : Int)))) 8)) + x11_2)) = j_ := ⟨_, rfl⟩
                                replace H : (if 0 ≤ (ji42) then ((some (x9_2.set ((ji42) : Int).toNat (Go.bits .xor .u8 (rd x9_2 (ji42)) ((ji41) % 256)) : List Int)).bind fun y128 => (if x10_2 = true then (hocketlaw1_CrcsTurned.l0 k2 l0 a2 (Int.tmod (Go.bits .and .i64 a1 65535) (wrap64 (8 * (l0.length : Int)))) y128 true (wrap64 (x11_2 + 1))) else (hocketlaw1_CrcsTurned.l0 k2 l0 a2 (Int.tmod (Go.bits .and .i64 a1 65535) (wrap64 (8 * (l0.length : Int)))) y128 (((ji41) % 256) != 0) (wrap64 (x11_2 + 1))))) else (none)) = some r := by first | (rw [hji42] at H; exact H) | (simp only [hji42] at H ⊢; exact H)
                                (try rw [hji42] at c38b0)
                                have hji42w : (IntKind.i64.wrap ((wrap64 (Int.tdiv (Int.tmod (Go.bits .and .i64 a1 65535) (wrap64 (8 * (l0.length : Int)))) 8)) + x11_2)) = ji42 := (i64_w _).trans hji42
                                have hji42x : wrap64 (ji11 + x11_2) = ji42 := by rw [← hji11]; exact hji42
                                by_cases c43 : 0 ≤ (ji42)
                                · rw [if_pos c43] at H
                                  have c43b0 : decide (0 ≤ (ji42)) = true := decide_eq_true c43
                                  clear c43
                                  obtain ⟨y128, hy128⟩ : ∃ y_ : List Int, y_ = (x9_2.set ((ji42) : Int).toNat (Go.bits .xor .u8 (rd x9_2 (ji42)) ((ji41) % 256))) := ⟨_, rfl⟩
                                  replace H : (if x10_2 = true then (hocketlaw1_CrcsTurned.l0 k2 l0 a2 (Int.tmod (Go.bits .and .i64 a1 65535) (wrap64 (8 * (l0.length : Int)))) y128 true (wrap64 (x11_2 + 1))) else (hocketlaw1_CrcsTurned.l0 k2 l0 a2 (Int.tmod (Go.bits .and .i64 a1 65535) (wrap64 (8 * (l0.length : Int)))) y128 (((ji41) % 256) != 0) (wrap64 (x11_2 + 1)))) = some r := by first | (rw [hy128]; with_reducible exact H) | (have H2_ := (Option.bind_some _ _).symm.trans H; rw [hy128]; with_reducible exact H2_) | (have H2_ := (Option.bind_some _ _).symm.trans H; with_reducible exact H2_) | with_reducible exact H | (rw [hy128]; exact H) | exact H
                                  have Ny128 := Aside0.mk hy128
                                  clear hy128
                                  by_cases c45 : x10_2 = true
                                  · subst c45
                                    have H1 : (hocketlaw1_CrcsTurned.l0 k2 l0 a2 (Int.tmod (Go.bits .and .i64 a1 65535) (wrap64 (8 * (l0.length : Int)))) y128 true (wrap64 (x11_2 + 1))) = some r := by rw [if_pos rfl] at H; exact H
                                    clear H
                                    have H := H1
                                    clear H1
                                    have H' := Aside0.mk H
                                    clear H
                                    obtain ⟨Ao46, co46, eo46⟩ := Kd.R_slice HO_9.out
                                    subst eo46
                                    have p127 : 0 ≤ ((ji42) : Int) := of_decide_eq_true (by first | (with_reducible assumption) | assumption)
                                    have q127 : (ji42) < (x9_2.length : Int) := of_decide_eq_true (by first | (with_reducible assumption) | assumption)
                                    obtain ⟨ad127, e127, hx127_0⟩ := Kd.at_int (Kd.R_reads' HO_9.out).2.2 (ji42) p127 q127
                                    cases e127
                                    replace p127 := eq_true p127
                                    replace q127 := eq_true q127
                                    have p44 : 0 ≤ ((ji42) : Int) := of_decide_eq_true (by first | (with_reducible assumption) | assumption)
                                    have q44 : ((ji42) : Int) < ((x9_2.length : Int) : Int) := of_decide_eq_true (by first | (with_reducible assumption) | assumption)
                                    obtain ⟨go44, co44, eo44, gb44, gl44, cl44, HG44⟩ := Kd.R_form HO_9.out (by omega)
                                    (first | cases eo44 | (injection eo44 with ea_ en_ ec_; (first | subst ea_ | (injection ea_ with ea_; subst ea_)); subst ec_; clear en_))
                                    have GB44 := Aside0.mk gb44
                                    have GG44 := Aside0.mk HG44
                                    clear gb44 gl44 HG44
                                    (first | simp only [add_plain] at hx127_0 | skip)
                                    obtain ⟨hx44_0, hf44_0⟩ := Kd.R_celln 0 HO_9.out ((ji42) : Int) p44 q44
                                    replace p44 := eq_true p44
                                    replace q44 := eq_true q44
                                    have HP47 := Kd.R_putg HO_9.out ((ji42) : Int) (Go.bits .xor .u8 (rd x9_2 (ji42)) ((ji41) % 256))
                                    go_wp2_with (first | ((with_reducible refine gate_store (t := 5) (p := 84) rfl ?_); refine store_event (t := 5) (p := 84) (v := ?vo_w48) (w1 := (wr.setCell ⟨go44, ((ji42) : Int).toNat, none⟩ (.int .u8 (Go.bits .xor .u8 (rd x9_2 (ji42)) ((ji41) % 256))))) ?hg ?ho ?hn ?hr ?_; (case ho => rfl); (case hg => rfl); (case hn => rfl); (case hr => first | (go_simp; done) | (go_simp; rfl)); intro w48 hw; have hg : wr.grownBy w48 (some go44) := (by rw [hw]; exact HP47.2); have hp_ : Kd.R (Kd.int .u8) 5 w48 w.heap.size (fun _ => True) (.slice (some ⟨go44, 0, none⟩) x9_2.length co46) y128 := (by rw [hw, Ny128.out]; exact HP47.1); clear HP47; have n0_ := Aside0.mk (hp_); have n1_ := Aside0.mk ((by rw [hw]; exact below_set (HB.out) GB44.out : Below w.heap.size w w48)); clear HO_9; clear HB; have HO_9 := n0_; have HB := n1_; clear n0_ n1_; clear hg hw hp_))
                                    go_roundg k2
                                    case measure => have := HJ3.out; have := HK2.out; omega
                                    case rel => exact ⟨(y128), (true), (wrap64 (x11_2 + 1)), (by first | rfl | (simp; done) | (simp [*]; done)), (by first | rfl | (simp; done) | (simp [*]; done)), H', ⟨by have := HJ3.out; have := HK2.out; omega⟩, ⟨by (with_reducible repeat (first | apply Kd.R_alloc | apply Kd.R_drewN | apply Kd.R_drew)); exact HO_9.out⟩, ⟨by repeat (first | (with_reducible first | exact HB.out | apply below_alloc | apply pw_below_drewN | apply below_drew1) | exact HB.out)⟩⟩
                                  · replace c45 := Bool.eq_false_iff.mpr c45
                                    subst c45
                                    have H1 : (hocketlaw1_CrcsTurned.l0 k2 l0 a2 (Int.tmod (Go.bits .and .i64 a1 65535) (wrap64 (8 * (l0.length : Int)))) y128 (((ji41) % 256) != 0) (wrap64 (x11_2 + 1))) = some r := by rw [if_neg (show ¬ (false = true) by decide)] at H; exact H
                                    clear H
                                    have H := H1
                                    clear H1
                                    have H' := Aside0.mk H
                                    clear H
                                    obtain ⟨Ao49, co49, eo49⟩ := Kd.R_slice HO_9.out
                                    subst eo49
                                    have p127 : 0 ≤ ((ji42) : Int) := of_decide_eq_true (by first | (with_reducible assumption) | assumption)
                                    have q127 : (ji42) < (x9_2.length : Int) := of_decide_eq_true (by first | (with_reducible assumption) | assumption)
                                    obtain ⟨ad127, e127, hx127_0⟩ := Kd.at_int (Kd.R_reads' HO_9.out).2.2 (ji42) p127 q127
                                    cases e127
                                    replace p127 := eq_true p127
                                    replace q127 := eq_true q127
                                    have p44 : 0 ≤ ((ji42) : Int) := of_decide_eq_true (by first | (with_reducible assumption) | assumption)
                                    have q44 : ((ji42) : Int) < ((x9_2.length : Int) : Int) := of_decide_eq_true (by first | (with_reducible assumption) | assumption)
                                    obtain ⟨go44, co44, eo44, gb44, gl44, cl44, HG44⟩ := Kd.R_form HO_9.out (by omega)
                                    (first | cases eo44 | (injection eo44 with ea_ en_ ec_; (first | subst ea_ | (injection ea_ with ea_; subst ea_)); subst ec_; clear en_))
                                    have GB44 := Aside0.mk gb44
                                    have GG44 := Aside0.mk HG44
                                    clear gb44 gl44 HG44
                                    (first | simp only [add_plain] at hx127_0 | skip)
                                    obtain ⟨hx44_0, hf44_0⟩ := Kd.R_celln 0 HO_9.out ((ji42) : Int) p44 q44
                                    replace p44 := eq_true p44
                                    replace q44 := eq_true q44
                                    have HP50 := Kd.R_putg HO_9.out ((ji42) : Int) (Go.bits .xor .u8 (rd x9_2 (ji42)) ((ji41) % 256))
                                    go_wp2_with (first | ((with_reducible refine gate_store (t := 5) (p := 84) rfl ?_); refine store_event (t := 5) (p := 84) (v := ?vo_w51) (w1 := (wr.setCell ⟨go44, ((ji42) : Int).toNat, none⟩ (.int .u8 (Go.bits .xor .u8 (rd x9_2 (ji42)) ((ji41) % 256))))) ?hg ?ho ?hn ?hr ?_; (case ho => rfl); (case hg => rfl); (case hn => rfl); (case hr => first | (go_simp; done) | (go_simp; rfl)); intro w51 hw; have hg : wr.grownBy w51 (some go44) := (by rw [hw]; exact HP50.2); have hp_ : Kd.R (Kd.int .u8) 5 w51 w.heap.size (fun _ => True) (.slice (some ⟨go44, 0, none⟩) x9_2.length co49) y128 := (by rw [hw, Ny128.out]; exact HP50.1); clear HP50; have n0_ := Aside0.mk (hp_); have n1_ := Aside0.mk ((by rw [hw]; exact below_set (HB.out) GB44.out : Below w.heap.size w w51)); clear HO_9; clear HB; have HO_9 := n0_; have HB := n1_; clear n0_ n1_; clear hg hw hp_))
                                    go_roundg k2
                                    case measure => have := HJ3.out; have := HK2.out; omega
                                    case rel => exact ⟨(y128), ((((ji41) % 256) != 0)), (wrap64 (x11_2 + 1)), (by first | rfl | (simp; done) | (simp only [← hji41] <;> (first | rfl | simp)) | (simp [*]; done)), (by first | rfl | (simp; done) | (simp [*]; done)), H', ⟨by have := HJ3.out; have := HK2.out; omega⟩, ⟨by (with_reducible repeat (first | apply Kd.R_alloc | apply Kd.R_drewN | apply Kd.R_drew)); exact HO_9.out⟩, ⟨by repeat (first | (with_reducible first | exact HB.out | apply below_alloc | apply pw_below_drewN | apply below_drew1) | exact HB.out)⟩⟩
                                · rw [if_neg c43] at H
                                  exact absurd H (by simp)
                              · rw [if_neg c40] at H
                                exact absurd H (by simp)
                            · rw [if_neg c38] at H
                              have c38b0 : decide ((wrap64 ((wrap64 (Int.tdiv (Int.tmod (Go.bits .and .i64 a1 65535) (wrap64 (8 * (l0.length : Int)))) 8)) + x11_2)) < (x9_2.length : Int)) = false := decide_eq_false c38
                              have c38x : decide ((wrap64 (ji11 + x11_2)) < (x9_2.length : Int)) = false := by rw [← hji11]; exact c38b0
                              clear c38
                              have H' := Aside0.mk H
                              clear H
                              obtain ⟨Ao52, co52, eo52⟩ := Kd.R_slice HO_9.out
                              subst eo52
                              go_wp2
                              go_roundg k2
                              case measure => have := HJ3.out; have := HK2.out; omega
                              case rel => exact ⟨(x9_2), (x10_2), (wrap64 (x11_2 + 1)), (by first | rfl | (simp; done) | (simp [*]; done)), (by first | rfl | (simp; done) | (simp [*]; done)), H', ⟨by have := HJ3.out; have := HK2.out; omega⟩, ⟨by (with_reducible repeat (first | apply Kd.R_alloc | apply Kd.R_drewN | apply Kd.R_drew)); exact HO_9.out⟩, ⟨by repeat (first | (with_reducible first | exact HB.out | apply below_alloc | apply pw_below_drewN | apply below_drew1) | exact HB.out)⟩⟩
                          · rw [if_neg c37] at H
                            have c37b0 : decide (x11_2 < 4) = false := decide_eq_false c37
                            clear c37
                            replace H := Option.bind_eq_some_iff.mp H
                            obtain ⟨t129, A530, H⟩ := H
                            replace H : ((crcs_Sum.f k2 l0).bind fun t130 => (if ((t129 == t130) == (!x10_2)) = true then ((hocketlaw1_awake.f k2).bind fun t131 => (some t131)) else (some false))) = some r := H
                            have A53 := Aside0.mk A530
                            clear A530
                            replace H := Option.bind_eq_some_iff.mp H
                            obtain ⟨t130, A540, H⟩ := H
                            replace H : (if ((t129 == t130) == (!x10_2)) = true then ((hocketlaw1_awake.f k2).bind fun t131 => (some t131)) else (some false)) = some r := H
                            have A54 := Aside0.mk A540
                            clear A540
                            by_cases c55 : ((t129 == t130) == (!x10_2)) = true
                            · rw [if_pos c55] at H
                              have c55b0 : ((t129 == t130) == (!x10_2)) = true := c55
                              (try (have c55b1 : decide ((t129 == t130) = (!x10_2)) = true := by simpa using c55))
                              (try (have c55b2 : ((t129 == t130) == (!x10_2)) = true := by simpa using c55))
                              clear c55
                              replace H := Option.bind_eq_some_iff.mp H
                              obtain ⟨t131, A560, H⟩ := H
                              replace H : (some t131) = some r := H
                              have A56 := Aside0.mk A560
                              clear A560
                              obtain rfl := Option.some.inj H
                              obtain ⟨Ao57, co57, eo57⟩ := Kd.R_slice HO_9.out
                              subst eo57
                              go_wp2_with (first | ((with_reducible refine gate_callee (f := 8) rfl ?_); refine goesL_ (some 91) rfl rfl Try.func8 (by kernel_rfl) rfl #[.slice Ao57 x9_2.length co57] rfl (by (try simp only [List.map_toArray, List.map_cons, List.map_nil]); first | done | rfl | (simp only [List.length_drop, List.length_take]; rfl)) ?_; (with_reducible refine (crcs_Sum.calls k2 _ _ x9_2 t129 _ ?side1 ?side2 A53.out).mono ?_); (case side1 => repeat (first | exact (Kd.R_reads' HO_9.out).2.2 | (with_reducible refine Kd.C_alloc ?_ _) | (with_reducible refine Kd.C_drewN ?_ _) | (with_reducible refine Kd.C_drew ?_))); (case side2 => exact (Kd.R_reads' HO_9.out).2.1); rintro e w' ⟨rfl, ⟨nd, rfl⟩⟩; refine ⟨_, rfl, ?_⟩) | ((with_reducible refine gate_callee (f := 8) rfl ?_); refine goesL_ (some 93) rfl rfl Try.func8 (by kernel_rfl) rfl #[.slice A0 l0.length c0] rfl (by (try simp only [List.map_toArray, List.map_cons, List.map_nil]); first | done | rfl | (simp only [List.length_drop, List.length_take]; rfl)) ?_; (with_reducible refine (crcs_Sum.calls k2 _ _ l0 t130 _ ?side1 ?side2 A54.out).mono ?_); (case side1 => repeat (first | exact (Kd.C_below HR0.out (by repeat (first | (with_reducible first | exact HB.out | apply below_alloc | apply pw_below_drewN | apply below_drew1) | exact HB.out))) | (with_reducible refine Kd.C_alloc ?_ _) | (with_reducible refine Kd.C_drewN ?_ _) | (with_reducible refine Kd.C_drew ?_))); (case side2 => exact HC0.out); rintro e w' ⟨rfl, ⟨nd, rfl⟩⟩; refine ⟨_, rfl, ?_⟩) | (go_at_call 9; (with_reducible refine (hocketlaw1_awake.calls k2  t131 _ A56.out).mono ?_); rintro e w58 ⟨rfl, hb⟩; have n0_ := Aside0.mk (Kd.R_below (by (with_reducible repeat (first | apply Kd.R_alloc | apply Kd.R_drewN | apply Kd.R_drew)); exact HO_9.out) hb); have n1_ := Aside0.mk (below_step (by repeat (first | (with_reducible first | exact HB.out | apply below_alloc | apply pw_below_drewN | apply below_drew1) | exact HB.out)) hb); clear HO_9; clear HB; have HO_9 := n0_; have HB := n1_; clear n0_ n1_; (try clear hb); (try clear hb2); (try clear hk); (try clear hi)))
                              go_ret
                              exact ⟨by first | rfl | (simp [errW_none, errW_some] <;> rfl) | (simp only [← hji11, ← hji14, ← hji16]; first | rfl | (simp [errW_none, errW_some] <;> rfl)) | (simp [*, errW_none, errW_some] <;> rfl), by repeat (first | (with_reducible first | exact HB.out | apply below_alloc | apply pw_below_drewN | apply below_drew1) | exact HB.out)⟩
                            · rw [if_neg c55] at H
                              have c55b0 : ((t129 == t130) == (!x10_2)) = false := by simpa using c55
                              (try (have c55b1 : decide ((t129 == t130) = (!x10_2)) = false := by simpa using c55))
                              (try (have c55b2 : ((t129 == t130) == (!x10_2)) = false := by simpa using c55))
                              (try (have c55b3 : ¬ ((t129 == t130) = (!x10_2)) := by simpa using c55))
                              clear c55
                              obtain rfl := Option.some.inj H
                              obtain ⟨Ao59, co59, eo59⟩ := Kd.R_slice HO_9.out
                              subst eo59
                              go_wp2_with (first | ((with_reducible refine gate_callee (f := 8) rfl ?_); refine goesL_ (some 91) rfl rfl Try.func8 (by kernel_rfl) rfl #[.slice Ao59 x9_2.length co59] rfl (by (try simp only [List.map_toArray, List.map_cons, List.map_nil]); first | done | rfl | (simp only [List.length_drop, List.length_take]; rfl)) ?_; (with_reducible refine (crcs_Sum.calls k2 _ _ x9_2 t129 _ ?side1 ?side2 A53.out).mono ?_); (case side1 => repeat (first | exact (Kd.R_reads' HO_9.out).2.2 | (with_reducible refine Kd.C_alloc ?_ _) | (with_reducible refine Kd.C_drewN ?_ _) | (with_reducible refine Kd.C_drew ?_))); (case side2 => exact (Kd.R_reads' HO_9.out).2.1); rintro e w' ⟨rfl, ⟨nd, rfl⟩⟩; refine ⟨_, rfl, ?_⟩) | ((with_reducible refine gate_callee (f := 8) rfl ?_); refine goesL_ (some 93) rfl rfl Try.func8 (by kernel_rfl) rfl #[.slice A0 l0.length c0] rfl (by (try simp only [List.map_toArray, List.map_cons, List.map_nil]); first | done | rfl | (simp only [List.length_drop, List.length_take]; rfl)) ?_; (with_reducible refine (crcs_Sum.calls k2 _ _ l0 t130 _ ?side1 ?side2 A54.out).mono ?_); (case side1 => repeat (first | exact (Kd.C_below HR0.out (by repeat (first | (with_reducible first | exact HB.out | apply below_alloc | apply pw_below_drewN | apply below_drew1) | exact HB.out))) | (with_reducible refine Kd.C_alloc ?_ _) | (with_reducible refine Kd.C_drewN ?_ _) | (with_reducible refine Kd.C_drew ?_))); (case side2 => exact HC0.out); rintro e w' ⟨rfl, ⟨nd, rfl⟩⟩; refine ⟨_, rfl, ?_⟩))
                              go_ret
                              exact ⟨by first | rfl | (simp [errW_none, errW_some] <;> rfl) | (simp only [← hji11, ← hji14, ← hji16]; first | rfl | (simp [errW_none, errW_some] <;> rfl)) | (simp [*, errW_none, errW_some] <;> rfl), by repeat (first | (with_reducible first | exact HB.out | apply below_alloc | apply pw_below_drewN | apply below_drew1) | exact HB.out)⟩
                    · rw [if_neg c27] at H
                      exact absurd H (by simp)
                · rw [if_neg c15] at H
                  exact absurd H (by simp)
              · rw [if_neg c13] at H
                exact absurd H (by simp)
            · rw [if_neg c12] at H
              exact absurd H (by simp)
        · rw [if_neg c9] at H
          exact absurd H (by simp)

/-- THE ONE PURE STATEMENT of hocketlaw1_CrcsTurned: yours. -/
def hocketlaw1_CrcsTurned.Pure : Prop := ∀ (l0 : List Int) (a1 : Int) (a2 : Int), l0.length ≤ maxLen → l0.length * 1 ≤ 140737488351232 → (∀ x ∈ l0, (Lit.int .u8 x).wf = true) → (Lit.int .i64 a1).wf = true → (Lit.int .i64 a2).wf = true → ∃ k, hocketlaw1_CrcsTurned.f k l0 a1 a2 = some true
theorem hocketlaw1_CrcsTurned.walk (P : hocketlaw1_CrcsTurned.Pure) (a0 : Option Addr) (len0 cap0 : Nat) (z0 : List Int) (a1 : Int) (a2 : Int) (w : World) (w0 : (a0 = none ∧ len0 = 0 ∧ cap0 = 0 ∧ z0 = []) ∨ ∃ x, a0 = some x ∧ len0 ≤ cap0 ∧ cap0 ≤ maxLen ∧ z0.length = cap0 ∧ (∀ i, i < z0.length → w.cell? (x.add i) = some (.int .u8 (z0.getD i 0))) ∧ ∀ n ∈ z0, (Lit.int .u8 n).wf = true) (y0 : len0 * 1 ≤ 140737488351232) (w1 : (Lit.int .i64 a1).wf = true) (w2 : (Lit.int .i64 a2).wf = true) :
    Calls Try.prog 6 #[.slice a0 len0 cap0, .int .i64 a1, .int .i64 a2] w fun e w' => e = .returned (.bool true) ∧ Below w.heap.size w w' := by
  obtain ⟨l0, rfl, hr0, hm0, hw0, hc0⟩ := ReadsInt.ofRowC w0
  obtain ⟨k, h⟩ := P l0 a1 a2 hm0 y0 hw0 w1 w2
  refine (hocketlaw1_CrcsTurned.calls k _ _ l0 a1 a2 true w (Kd.C_of_reads (d := (0 : Int)) (h1 := fun _ => rfl) hr0) hc0 h).mono ?_
  rintro e w' ⟨rfl, hd⟩
  exact ⟨rfl, hd⟩
end Go.Proofs.Ytggjnjckhhkniaa.Cs
