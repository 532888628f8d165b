/- fifo.Still: printed by a tool of the kit over a stand-in, then turned. -/
import Derived.Test.YthfplgfpodmphaaOg
namespace Go.Proofs.Ythfplgfpodmphaa.Ob
open Go.RowKit Go.Proofs.YthfplgfpodmphaaW.PrintWords Go.Proofs.YthfplgfpodmphaaW.PrintLast Go.Proofs.YthfplgfpodmphaaW.PrintMore Go.Proofs.Ythfplgfpodmphaa.Ms
attribute [local go_sem] max2_int min2_int max_two min_two max_three min_three max_four min_four
set_option linter.unusedVariables false
set_option linter.unusedSimpArgs false
set_option maxRecDepth 100000
theorem S_cap1 {α : Type} {d : Kd α} {e : Nat} {w : World} {base : Nat} {ok : Nat → Prop} {A : Option Addr} {c : Nat} {l : List α} (h : Kd.S d e w base ok (.slice A l.length c) l) : l.length ≤ c ∧ c ≤ 9223372036854775807 ∧ (A = none → l.length = 0) := by
  obtain ⟨inner, hown⟩ := Kd.S_own h
  rcases hown.2 with ⟨h', h0⟩ | ⟨g', cap', cur, h', _, _, h1, h2, _⟩
  · simp only [Value.slice.injEq] at h'
    exact ⟨by omega, by omega, fun _ => h'.2.1⟩
  · simp only [Value.slice.injEq] at h'
    unfold maxLen at h2
    exact ⟨by omega, by omega, fun e => by rw [e] at h'; cases h'.1⟩
/-! ### fifo_Still: function 74 -/
def fifo_Still.l0 : Nat → List (List Int) → List (List Int) → Int → Int → Option ((List (List Int)))
  | 0, _, _, _, _ => none
  | k + 1, x3, x6, x7, x8 => if x8 < x7 then (if 0 ≤ x8 then (if x8 < (x6.length : Int) then ((slices_Clone_byte_byte.f (rd_L1 x6 x8)).bind fun t108 => (if x3.length < 5864062014805 then (fifo_Still.l0 k (x3 ++ [t108]) x6 x7 (wrap64 (x8 + 1))) else (none))) else (none)) else (none)) else (some x3)
def fifo_Still.f (k : Nat) (l0 : List (List Int)) : Option ((List (List Int))) := fifo_Still.l0 k ([] : List (List Int)) l0 (l0.length : Int) 0
theorem fifo_Still.mono_l : ∀ k, (∀ y0 y1 y2 y3, LeO (fifo_Still.l0 k y0 y1 y2 y3) (fifo_Still.l0 (k + 1) y0 y1 y2 y3))
  | 0 => fun _ _ _ _ r h => by simp [fifo_Still.l0] at h
  | k + 1 => by
    have ih0 := fifo_Still.mono_l k
    · intro y0 y1 y2 y3
      unfold fifo_Still.l0
      repeat' first
      | (with_reducible exact ih0 _ _ _ _)
      | (with_reducible exact LeO.refl _)
      | (with_reducible exact LeO.none _)
      | (with_reducible refine LeO.ite ?_ ?_)
      | (with_reducible refine LeO.bind ?_ (fun _ => ?_))
      | exact ih0 _ _ _ _
      | exact LeO.none _
      | refine LeO.ite ?_ ?_
      | refine LeO.bind ?_ (fun _ => ?_)
theorem fifo_Still.mono : ∀ a0 k, LeO (fifo_Still.f k a0) (fifo_Still.f (k + 1) a0) := by
  intro a0 k
  have ih0 := fifo_Still.mono_l k
  unfold fifo_Still.f
  repeat' first
      | (with_reducible exact ih0 _ _ _ _)
      | (with_reducible exact LeO.refl _)
      | (with_reducible exact LeO.none _)
      | (with_reducible refine LeO.ite ?_ ?_)
      | (with_reducible refine LeO.bind ?_ (fun _ => ?_))
      | exact ih0 _ _ _ _
      | exact LeO.none _
      | refine LeO.ite ?_ ?_
      | refine LeO.bind ?_ (fun _ => ?_)
set_option maxHeartbeats 8000000 in
set_option maxRecDepth 100000 in
theorem fifo_Still.calls (k : Nat) (A0 : Option Addr) (c0 : Nat) (l0 : List (List Int)) (r : List (List Int)) (w : World) (hr0 : Kd.C (Kd.slice 5 (Kd.int .u8)) w A0 l0.length l0) (hc0 : l0.length ≤ c0) (h : fifo_Still.f k l0 = some r) :
    Calls Try.prog 74 #[.slice A0 l0.length c0] w fun e w' => ∃ A', e = .returned (.slice A' r.length r.length) ∧ (∃ c, Kd.S (Kd.slice 5 (Kd.int .u8)) 22 w' w.heap.size (fun _ => True) (.slice A' r.length c) r) ∧ Below w.heap.size w w' := by
  have HR0 := Aside0.mk hr0
  have HC0 := Aside0.mk hc0
  clear hr0 hc0
  have HB := Aside0.mk (Below.refl w.heap.size w)
  have H : (fifo_Still.l0 k ([] : List (List Int)) l0 (l0.length : Int) 0) = some r := h
  clear h
  have H' := Aside0.mk H
  clear H
  go_enter Try.func74, Try.ntmps74
  go_wp2
  go_loopg [3, 8] k (fun kq v3 v8 w' => ∃ (x3_1 : List (List Int)) (x8_1 : Int), v8 = .int .i64 x8_1 ∧ Aside0 (fifo_Still.l0 kq x3_1 l0 (l0.length : Int) x8_1 = some r) ∧ Aside0 (kq ≤ k) ∧ Aside0 (Kd.S (Kd.slice 5 (Kd.int .u8)) 22 w' w.heap.size (fun _ => True) v3 x3_1) ∧ Aside0 (Below w.heap.size w w'))
  case atStart => exact ⟨(([] : List (List Int))), (0), (by first | rfl | (simp; done) | (simp [*]; done)), H', ⟨Nat.le_refl _⟩, ⟨by first | exact Kd.S_nil _ _ _ _ _ | exact Kd.N_nil _ _ _ _ _ | exact Kd.V_nil _ _ _ _ _ | exact Kd.Q_nil _ _ _ _ _ | exact Kd.R_nil _ _ _ _ _⟩, ⟨by repeat (first | (with_reducible first | exact HB.out | apply below_alloc | apply pw_below_drewN | apply below_drew1) | exact HB.out)⟩⟩
  case round =>
    clear H'
    obtain ⟨x3_1, x8_1, rfl, HA, HK1, HO_3, HB⟩ := hrel
    cases gk with
    | zero => exact absurd HA.out (by simp [fifo_Still.l0])
    | succ k1 =>
      have H := HA.out
      clear HA
      simp only [fifo_Still.l0] at H
      by_cases c2 : x8_1 < (l0.length : Int)
      · rw [if_pos c2] at H
        have c2b0 : decide (x8_1 < (l0.length : Int)) = true := decide_eq_true c2
        clear c2
        by_cases c3 : 0 ≤ x8_1
        · rw [if_pos c3] at H
          have c3b0 : decide (0 ≤ x8_1) = true := decide_eq_true c3
          clear c3
          by_cases c4 : x8_1 < (l0.length : Int)
          · rw [if_pos c4] at H
            have c4b0 : decide (x8_1 < (l0.length : Int)) = true := decide_eq_true c4
            clear c4
            replace H := Option.bind_eq_some_iff.mp H
            obtain ⟨t108, A50, H⟩ := H
            replace H : (if x3_1.length < 5864062014805 then (fifo_Still.l0 k1 (x3_1 ++ [t108]) l0 (l0.length : Int) (wrap64 (x8_1 + 1))) else (none)) = some r := H
            have A5 := Aside0.mk A50
            clear A50
            by_cases c6 : x3_1.length < 5864062014805
            · rw [if_pos c6] at H
              have LMc6 := Aside0.mk c6
              clear c6
              obtain ⟨y111, hy111⟩ : ∃ y_ : List (List Int), y_ = (x3_1 ++ [t108]) := ⟨_, rfl⟩
              replace H : (fifo_Still.l0 k1 y111 l0 (l0.length : Int) (wrap64 (x8_1 + 1))) = some r := by first | (rw [hy111]; with_reducible exact H) | (have H2_ := (Option.bind_some _ _).symm.trans H; rw [hy111]; with_reducible exact H2_) | (have H2_ := (Option.bind_some _ _).symm.trans H; with_reducible exact H2_) | with_reducible exact H | (rw [hy111]; exact H) | exact H
              have Ny111 := Aside0.mk hy111
              clear hy111
              have H' := Aside0.mk H
              clear H
              have p107 : 0 ≤ (x8_1 : Int) := of_decide_eq_true (by first | (with_reducible assumption) | assumption)
              have q107 : x8_1 < (l0.length : Int) := of_decide_eq_true (by first | (with_reducible assumption) | assumption)
              obtain ⟨ad107, A107_0, c107_0, e107, hx107_0, hl107_0, hi107_0⟩ := at_L1 HR0.out x8_1 p107 q107
              cases e107
              replace hx107_0 := (HB.out.cell (World.block_lt_of_cell? w _ hx107_0)).trans hx107_0
              have HR107_0 := Aside0.mk hi107_0
              have HC107_0 := Aside0.mk hl107_0
              clear hi107_0 hl107_0
              replace p107 := eq_true p107
              replace q107 := eq_true q107
              go_wp2_with (first | ((with_reducible refine gate_callee (f := 73) rfl ?_); refine goesL_ (some 14) rfl rfl Try.func73 (by kernel_rfl) rfl #[.slice A107_0 (rd_L1 l0 x8_1).length c107_0] rfl (by (try simp only [List.map_toArray, List.map_cons, List.map_nil]); first | done | rfl | (simp only [List.length_drop, List.length_take]; rfl)) ?_; (with_reducible refine (slices_Clone_byte_byte.calls _ _ (rd_L1 l0 x8_1) t108 _ ?side1 ?side2 A5.out).mono ?_); (case side1 => repeat (first | exact (Kd.C_below HR107_0.out HB.out) | (with_reducible refine Kd.C_alloc ?_ _) | (with_reducible refine Kd.C_drewN ?_ _) | (with_reducible refine Kd.C_drew ?_))); (case side2 => exact HC107_0.out); rintro e w7 ⟨v109, rfl, ho0, hb⟩; refine ⟨_, rfl, ?_⟩; have n0_ := Aside0.mk (Kd.S_elder' (by (with_reducible repeat (first | apply Kd.S_alloc | apply Kd.S_drewN | apply Kd.S_drew)); exact HO_3.out) (Kd.R_base ho0) hb); have n1_ := Aside0.mk (Kd.R_lower ho0 (below_size (by repeat (first | (with_reducible first | exact HB.out | apply below_alloc | apply pw_below_drewN | apply below_drew1) | exact HB.out)))); have n2_ := Aside0.mk (below_step (by repeat (first | (with_reducible first | exact HB.out | apply below_alloc | apply pw_below_drewN | apply below_drew1) | exact HB.out)) hb); clear HO_3; clear HB; have HO_3 := n0_; have HO110 := n1_; have HB := n2_; clear n0_ n1_ n2_; (try clear hb); (try clear hb2); (try clear hk); (try clear hi); (try clear ho0); obtain ⟨Ao9, co9, eo9⟩ := Kd.R_slice HO110.out; subst eo9) | ((with_reducible refine gate_builtin (b := .append) (xs := #[.tmp 12, .tmp 15]) rfl ?_); at_builtin; refine Kd.S_append (Kd.slice 5 (Kd.int .u8)) (w0 := w) w.heap.size rfl (.tmp 12) (.tmp 15) 28 22 (.slice none 0 0) 24 rfl Try.underlying28 info22 rfl (by decide) (by omega) u3 x3_1 t108 [.slice Ao9 t108.length co9] (fun _ => True) (fun k_ => some k_ = (.slice Ao9 t108.length co9 : Value).ownBlock) rfl rfl ?aP (fun k_ hk_ => ((Kd.R_mono (ok' := fun k_ => ((fun _ => True)) k_ ∧ some k_ ≠ (u3 : Value).ownBlock) (Kd.R_apart' (HO110.out) (Kd.S_typed HO_3.out) (by decide)) (fun k_ hk => ⟨trivial, hk.2⟩))).1 k_ hk_.symm) ?aF ?aO ?aB ?aS ?aL ?_; (case aP => exact Kd.M_row (Kd.R_mono (Kd.R_tight rfl (Kd.R_mono (ok' := fun k_ => ((fun _ => True)) k_ ∧ some k_ ≠ (u3 : Value).ownBlock) (Kd.R_apart' (HO110.out) (Kd.S_typed HO_3.out) (by decide)) (fun k_ hk => ⟨trivial, hk.2⟩))) (fun _ h_ => h_))); (case aB => exact (by repeat (first | (with_reducible first | exact HB.out | apply below_alloc | apply pw_below_drewN | apply below_drew1) | exact HB.out))); (case aF => exact (fun _ _ => trivial)); (case aO => exact (by (with_reducible repeat (first | apply Kd.S_alloc | apply Kd.S_drewN | apply Kd.S_drew)); exact Kd.S_mono HO_3.out (fun k_ hk => ⟨trivial, fun e_ => hk.2 e_⟩))); (case aS => exact (below_size (by repeat (first | (with_reducible first | exact HB.out | apply below_alloc | apply pw_below_drewN | apply below_drew1) | exact HB.out)))); (case aL => have := LMc6.out; omega); intro v112 w8 ho hb hg hat; rw [← Ny111.out] at ho; have n0_ := Aside0.mk (hb); have n1_ := Aside0.mk (ho); clear HB; clear HO_3; clear HO110; have HB := n0_; have HO113 := n1_; clear n0_ n1_; clear ho hb hg hat))
              go_roundg k1
              case measure => have := HK1.out; omega
              case rel => exact ⟨(y111), (wrap64 (x8_1 + 1)), (by first | rfl | (simp; done) | (simp [*]; done)), H', ⟨by have := HK1.out; omega⟩, ⟨by (with_reducible repeat (first | apply Kd.S_alloc | apply Kd.S_drewN | apply Kd.S_drew)); exact HO113.out⟩, ⟨by repeat (first | (with_reducible first | exact HB.out | apply below_alloc | apply pw_below_drewN | apply below_drew1) | exact HB.out)⟩⟩
            · rw [if_neg c6] at H
              exact absurd H (by simp)
          · rw [if_neg c4] at H
            exact absurd H (by simp)
        · rw [if_neg c3] at H
          exact absurd H (by simp)
      · rw [if_neg c2] at H
        have c2b0 : decide (x8_1 < (l0.length : Int)) = false := decide_eq_false c2
        clear c2
        obtain rfl := Option.some.inj H
        have HS2 := Aside0.mk (show Kd.S (Kd.slice 5 (Kd.int .u8)) 22 wr w.heap.size (fun _ => True) u3 x3_1 from HO_3.out)
        obtain ⟨A3, c3, rfl⟩ := Kd.S_slice HS2.out
        have hcm := S_cap1 HS2.out
        go_wp2_with fail
        refine (clip100 A3 c3 x3_1.length _ hcm.1 hcm.2.1 hcm.2.2).mono ?_
        rintro e w2 ⟨rfl, rfl⟩
        go_wp2_with fail
        go_ret
        exact ⟨A3, rfl, ⟨c3, HS2.out⟩, HB.out⟩
theorem fstill_l0 : ∀ (k i : Nat) (l : List (List Int)), i ≤ l.length → l.length < i + k → l.length < 1000000 → (∀ x ∈ l, x.length < 1000000) → fifo_Still.l0 k (l.take i) l (l.length : Int) (i : Int) = some l
  | 0, i, l, _, h, _, _ => absurd h (by omega)
  | k + 1, i, l, h1, h2, hn, hv => by
    simp only [fifo_Still.l0]
    by_cases hi : i < l.length
    · rw [if_pos (by omega), if_pos (by omega), if_pos (by omega), rd_L1_get l i hi, clone_f _ (by have := hv _ (List.getElem_mem hi); omega)]
      simp only [Option.bind_some]
      rw [if_pos (by rw [List.length_take]; omega), wrap_small _ (by omega) (by omega), show l.take i ++ [l[i]] = l.take (i + 1) from by simp]
      exact fstill_l0 k (i + 1) l (by omega) (by omega) hn hv
    · obtain rfl : i = l.length := by omega
      rw [if_neg (by omega), List.take_length]
theorem F_of_S {α : Type} {d : Kd α} {e n c base : Nat} {ok : Nat → Prop} {W : World} {A : Option Addr} {xs : List α} (h : Kd.S d e W base ok (.slice A n c) xs) : Kd.F d W (fun k => base ≤ k) A n xs := F_of_R (Kd.S_R h)
/-- fifo.Still: a copy, cut to its length. -/
theorem still74 (A0 : Option Addr) (c0 : Nat) (l0 : List (List Int)) (w : World) (hr0 : Kd.C kq w A0 l0.length l0) (hc0 : l0.length ≤ c0) (hn : l0.length < 1000000) (hv : ∀ x ∈ l0, x.length < 1000000) :
    Calls Try.prog 74 #[.slice A0 l0.length c0] w fun e w' => ∃ A', e = .returned (.slice A' l0.length l0.length) ∧ Kd.F kq w' (fun k => w.heap.size ≤ k) A' l0.length l0 ∧ (A' = none → l0.length = 0) ∧ Below w.heap.size w w' :=
  (fifo_Still.calls (l0.length + 1) A0 c0 l0 l0 w hr0 hc0 (by unfold fifo_Still.f; exact fstill_l0 (l0.length + 1) 0 l0 (by omega) (by omega) hn hv)).mono (fun e w' ⟨A', he, ⟨c, hS⟩, hb⟩ => ⟨A', he, F_of_S hS, (S_cap1 hS).2.2, hb⟩)
/-- maps.Still, in the same form. -/
theorem still76 (A0 : Option Addr) (c0 : Nat) (l0 : List S32) (w : World) (hr0 : Kd.C km w A0 l0.length l0) (hc0 : l0.length ≤ c0) (hn : l0.length < 1000000) (hv : ∀ x ∈ l0, x.f0.length < 1000000 ∧ x.f1.length < 1000000) :
    Calls Try.prog 76 #[.slice A0 l0.length c0] w fun e w' => ∃ A', e = .returned (.slice A' l0.length l0.length) ∧ Kd.F km w' (fun k => w.heap.size ≤ k) A' l0.length l0 ∧ Below w.heap.size w w' :=
  (still16 A0 c0 l0 w hr0 hc0 hn (fun x hx => ⟨by have := (hv x hx).1; omega, by have := (hv x hx).2; omega⟩)).mono (fun e w' ⟨A', he, ⟨c, hS⟩, hb⟩ => ⟨A', he, F_of_S hS, hb⟩)
end Go.Proofs.Ythfplgfpodmphaa.Ob
