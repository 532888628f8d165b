/- maps.Still, walked. -/
import Derived.Lib.SliceRun
import Derived.Outline
import Derived.Test.YthfplgfpodmphaaMa
namespace Go.Proofs.Ythfplgfpodmphaa.Ms
open Go.RowKit Go.Proofs.YthfplgfpodmphaaW.PrintWords Go.Proofs.YthfplgfpodmphaaW.PrintLast Go.Proofs.YthfplgfpodmphaaW.PrintMore
attribute [local go_sem] max2_int min2_int max_two min_two max_three min_three max_four min_four
set_option linter.unusedVariables false
set_option linter.unusedSimpArgs false
set_option maxRecDepth 100000

theorem cell_old {W w' : World} {a : Addr} {v : Value} (hb : Below W.heap.size W w') (h : W.cell? a = some v) : w'.cell? a = some v := (hb.cell (World.block_lt_of_cell? W a h)).trans h
theorem rd_get (l : List S32) (k : Nat) (h : k < l.length) : rd_T32 l (k : Int) = l[k] := by
  simp [rd_T32, List.getD_eq_getElem?_getD, List.getElem?_eq_getElem h]
theorem S_cap {w : World} {base : Nat} {ok : Nat → Prop} {A : Option Addr} {c : Nat} {l : List S32} (h : Kd.S k32 42 w base ok (.slice A l.length c) l) : c ≤ 9223372036854775807 ∧ (A = none → l.length = 0) := by
  obtain ⟨inner, hown⟩ := Kd.S_own h
  rcases hown.2 with ⟨h', h0⟩ | ⟨g', cap', cur, h', _, _, h1, h2, _⟩
  · simp only [Value.slice.injEq] at h'
    exact ⟨by omega, fun _ => h'.2.1⟩
  · simp only [Value.slice.injEq] at h'
    unfold maxLen at h2
    exact ⟨by omega, fun e => by rw [e] at h'; cases h'.1⟩
def StillEnd (w : World) (l : List S32) (e : Ending) (w' : World) : Prop := ∃ A', e = .returned (.slice A' l.length l.length) ∧ (∃ c, Kd.S k32 42 w' w.heap.size (fun _ => True) (.slice A' l.length c) l) ∧ Below w.heap.size w w'
set_option maxHeartbeats 1000000 in
set_option maxRecDepth 100000 in
theorem still16 (A : Option Addr) (c : Nat) (l : List S32) (w : World) (hr : Kd.C k32 w A l.length l) (hc : l.length ≤ c) (hn : l.length < 1000000) (hv : ∀ x ∈ l, x.f0.length < 140737488355328 ∧ x.f1.length < 140737488355328) :
    Calls Try.prog 76 #[.slice A l.length c] w (StillEnd w l) := by
  have HR := Aside0.mk hr
  have HC := Aside0.mk hc
  have HN := Aside0.mk hn
  have HVs := Aside0.mk hv
  clear hr hc hv
  go_enter Try.func76, Try.ntmps76
  go_wp2_with fail
  go_loopw [3, 8] (fun v3 v8 w' => ∃ j : Nat, v8 = .int .i64 j ∧ j ≤ l.length ∧ Aside0 (Kd.S k32 42 w' w.heap.size (fun _ => True) v3 (l.take j)) ∧ Aside0 (Below w.heap.size w w')) (fun _ v8 _ => l.length - (intOf v8).toNat)
  case atStart => exact ⟨0, rfl, Nat.zero_le _, ⟨Kd.S_nil _ _ _ _ _⟩, ⟨Below.refl _ _⟩⟩
  case round =>
    obtain ⟨j, rfl, hj, HS, HB⟩ := hrel
    by_cases hjl : j < l.length
    · obtain ⟨ad, A0, c0, A1, c1, e, h0, h1, l0, g0, l1, g1⟩ := at_T32 (Kd.C_below HR.out HB.out) (j : Int) (by omega) (by omega)
      cases e
      simp only [Int.toNat_natCast] at h0 h1
      have hx : rd_T32 l (j : Int) = l[j] := rd_get l j hjl
      have HV := Aside0.mk (HVs.out _ (List.getElem_mem hjl))
      have HT := Aside0.mk (show l.take j ++ [l[j]] = l.take (j + 1) from by simp)
      rw [hx] at h0 h1 l0 g0 l1 g1
      generalize l[j] = x at h0 h1 l0 g0 l1 g1 HV HT
      have HL0 := Aside0.mk l0
      have HG0 := Aside0.mk g0
      have HL1 := Aside0.mk l1
      have HG1 := Aside0.mk g1
      clear l0 g0 l1 g1 hx
      go_wp2_with fail
      have hb1 : Below wr.heap.size wr (wr.alloc (.cells #[.slice A0 x.f0.length c0, .slice A1 x.f1.length c1] 42)) := below_alloc (Below.refl _ _) _
      have hk1 := heap_alloc_self wr (.cells #[.slice A0 x.f0.length c0, .slice A1 x.f1.length c1] 42)
      have z0 := (cell_of_heap (j := 0) hk1).1
      have z1 := (cell_of_heap (j := 1) hk1).1
      refine start_ (n := 11) (S := fun w' => w'.cell? ⟨wr.heap.size, 0, none⟩ = some (.slice A0 x.f0.length c0) ∧ w'.cell? ⟨wr.heap.size, 1, none⟩ = some (.slice A1 x.f1.length c1)) (ds := []) #[false, false, false, false, false, false, false, false, false, false, false] (by kernel_rfl) rfl rfl ⟨z0, z1⟩ (fun hHeld => ?_)
      have hW : Below wr.heap.size wr (wr.alloc (.cells #[.slice A0 x.f0.length c0, .slice A1 x.f1.length c1] 42)).drew := below_drew hb1
      generalize (wr.alloc (.cells #[.slice A0 x.f0.length c0, .slice A1 x.f1.length c1] 42)).drew = W2 at hHeld hW ⊢
      have HW := Aside0.mk hW
      have HS2 := Aside0.mk (Kd.S_below HS.out hW)
      have HB2 := Aside0.mk (below_then HB.out HB.out.size hW)
      clear hW hb1 hk1 z0 z1
      refine pure_ (i := 0) (N := some 12) (v := ?_) (a' := ?_) #[true, false, false, false, false, false, false, false, false, false, false] rfl rfl (by kernel_rfl) (fun _ _ _ h => h) (Or.inl ⟨by rfl, ?_⟩) ?_ ?_
      rotate_left
      · intro w'
        go_simp
        with_reducible rfl
      rotate_left
      · simp only [Act.put, List.setIfInBounds_toArray, List.set_cons_zero, List.set_cons_succ, i64_w, i32_w]
        rfl
      refine pure_ (i := 1) (N := some 13) (v := ?_) (a' := ?_) #[true, true, false, false, false, false, false, false, false, false, false] rfl rfl (by kernel_rfl) (fun _ _ _ h => h) (Or.inl ⟨by rfl, ?_⟩) ?_ ?_
      rotate_left
      · intro w'
        go_simp
        with_reducible rfl
      rotate_left
      · simp only [Act.put, List.setIfInBounds_toArray, List.set_cons_zero, List.set_cons_succ, i64_w, i32_w]
        rfl
      refine pure_ (i := 4) (N := some 16) (v := ?_) (a' := ?_) #[true, true, false, false, true, false, false, false, false, false, false] rfl rfl (by kernel_rfl) (fun _ _ _ h => h) (Or.inl ⟨by rfl, ?_⟩) ?_ ?_
      rotate_left
      · intro w'
        go_simp
        with_reducible rfl
      rotate_left
      · simp only [Act.put, List.setIfInBounds_toArray, List.set_cons_zero, List.set_cons_succ, i64_w, i32_w]
        rfl
      refine take_ (i := 2) (N := some 14) (v := ?_) (a' := ?_) #[true, true, true, false, true, false, false, false, false, false, false] rfl rfl (by kernel_rfl) (fun _ _ _ h => h) (Or.inl ⟨by rfl, ?_⟩) hHeld ?_ ?_
      rotate_left
      · rintro w' ⟨s0, s1⟩
        go_simp
        with_reducible rfl
      rotate_left
      · simp only [Act.put, List.setIfInBounds_toArray, List.set_cons_zero, List.set_cons_succ, i64_w, i32_w]
        rfl
      refine take_ (i := 5) (N := some 17) (v := ?_) (a' := ?_) #[true, true, true, false, true, true, false, false, false, false, false] rfl rfl (by kernel_rfl) (fun _ _ _ h => h) (Or.inl ⟨by rfl, ?_⟩) hHeld ?_ ?_
      rotate_left
      · rintro w' ⟨s0, s1⟩
        go_simp
        with_reducible rfl
      rotate_left
      · simp only [Act.put, List.setIfInBounds_toArray, List.set_cons_zero, List.set_cons_succ, i64_w, i32_w]
        rfl
      refine one_ (i := 3) (N := some 15) #[true, true, true, true, true, true, false, false, false, false, false] rfl rfl (by kernel_rfl) (by decide) (fun K hK => ?_)
      refine goes_ Try.func73 (by kernel_rfl) rfl #[.slice A0 x.f0.length c0] (by rfl) rfl rfl (by (try simp only [List.map_toArray, List.map_cons, List.map_nil]); first | done | rfl) ?_
      refine (clone18 A0 c0 x.f0 W2 (Kd.C_below HG0.out HW.out) HL0.out HV.out.1).mono ?_
      rintro e w3 ⟨u0, rfl, ho0, hb3⟩
      have HS3 := Aside0.mk (Kd.S_elder' HS2.out (Kd.R_base ho0) hb3)
      have HU3 := Aside0.mk (Kd.R_lower ho0 HB2.out.size)
      have HB3 := Aside0.mk (below_then HB2.out HB2.out.size hb3)
      have HG3 := Aside0.mk (Kd.C_below (Kd.C_below HG1.out HW.out) hb3)
      have hHeld' := Aside0.mk (show _ ∧ _ from ⟨cell_old hb3 hHeld.1, cell_old hb3 hHeld.2⟩)
      clear ho0 hb3
      refine ⟨_, rfl, ?_⟩
      refine hK.out _ _ hHeld'.out (fun hHeld => ?_)
      clear hK K
      refine norm_ (a' := ?_) ?_ ?_
      rotate_left
      · show Act.put _ (some 15) _ = _
        simp only [Act.put, List.setIfInBounds_toArray, List.set_cons_zero, List.set_cons_succ, i64_w, i32_w]
        rfl
      clear hHeld'
      refine one_ (i := 6) (N := some 18) #[true, true, true, true, true, true, true, false, false, false, false] rfl rfl (by kernel_rfl) (by decide) (fun K hK => ?_)
      refine goes_ Try.func73 (by kernel_rfl) rfl #[.slice A1 x.f1.length c1] (by rfl) rfl rfl (by (try simp only [List.map_toArray, List.map_cons, List.map_nil]); first | done | rfl) ?_
      refine (clone18 A1 c1 x.f1 w3 HG3.out HL1.out HV.out.2).mono ?_
      rintro e w4 ⟨u1, rfl, ho1, hb4⟩
      have HS4 := Aside0.mk (Kd.S_elder' HS3.out (Kd.R_base ho1) hb4)
      have HU4 := Aside0.mk (Kd.R_elder' HU3.out (Kd.R_base ho1) hb4)
      have HX4 := Aside0.mk (Kd.R_lower (Kd.R_new' ho1 (Kd.R_lt HU3.out)) HB3.out.size)
      have HB4 := Aside0.mk (below_then HB3.out HB3.out.size hb4)
      have hHeld' := Aside0.mk (show _ ∧ _ from ⟨cell_old hb4 hHeld.1, cell_old hb4 hHeld.2⟩)
      clear ho1 hb4
      obtain ⟨P0, p0, rfl⟩ := Kd.R_slice HU4.out
      obtain ⟨P1, p1, rfl⟩ := Kd.R_slice HX4.out
      refine ⟨_, rfl, ?_⟩
      refine hK.out _ _ hHeld'.out (fun hHeld => ?_)
      clear hK K
      refine norm_ (a' := ?_) ?_ ?_
      rotate_left
      · show Act.put _ (some 18) _ = _
        simp only [Act.put, List.setIfInBounds_toArray, List.set_cons_zero, List.set_cons_succ, i64_w, i32_w]
        rfl
      clear hHeld'
      have HH4 := Aside0.mk hHeld
      refine pure_ (i := 7) (N := some 19) (v := ?_) (a' := ?_) #[true, true, true, true, true, true, true, true, false, false, false] rfl rfl (by kernel_rfl) (fun _ _ _ h => h) (Or.inl ⟨by rfl, ?_⟩) ?_ ?_
      rotate_left
      · intro w'
        go_simp
        with_reducible rfl
      rotate_left
      · simp only [Act.put, List.setIfInBounds_toArray, List.set_cons_zero, List.set_cons_succ, i64_w, i32_w]
        rfl
      refine one_ (i := 8) (N := some 20) #[true, true, true, true, true, true, true, true, true, false, false] rfl rfl (by kernel_rfl) (by decide) (fun K hK => ?_)
      refine value_ (w1 := ?_) (v := ?_) (by rfl) rfl ?_ ?_
      rotate_left 2
      · go_simp
        constructor
        · rfl
        · rfl
      refine hK.out _ _ ⟨cell_old (below_alloc (Below.refl _ _) _) hHeld.1, cell_old (below_alloc (Below.refl _ _) _) hHeld.2⟩ (fun hHeld => ?_)
      clear hK K
      refine norm_ (a' := ?_) ?_ ?_
      rotate_left
      · show Act.put _ (some 20) _ = _
        simp only [Act.put, List.setIfInBounds_toArray, List.set_cons_zero, List.set_cons_succ, i64_w, i32_w]
        rfl
      refine one_ (i := 9) (N := some 21) #[true, true, true, true, true, true, true, true, true, true, false] rfl rfl (by kernel_rfl) (by decide) (fun K hK => ?_)
      refine Kd.S_append_step k32 (w0 := w) w.heap.size (by rfl) (.tmp 12) (.tmp 20) 30 42 (.agg #[(.slice none 0 0), (.slice none 0 0)]) 48 rfl Try.underlying30 info32 rfl (by decide) (by omega) u3 (l.take j) x [.slice P0 x.f0.length p0, .slice P1 x.f1.length p1] (fun _ => True) (fun k_ => some k_ = (Value.slice P0 x.f0.length p0).ownBlock ∨ some k_ = (Value.slice P1 x.f1.length p1).ownBlock) rfl rfl ?aP (fun k_ hk_ => hk_.elim (fun h_ => (Kd.R_mono (ok' := fun k_ => True ∧ some k_ ≠ u3.ownBlock) (Kd.R_apart' HU4.out (Kd.S_typed HS4.out) (by decide)) (fun k_ hk => ⟨trivial, hk.2⟩)).1 k_ h_.symm) (fun h_ => (Kd.R_mono (ok' := fun k_ => True ∧ some k_ ≠ u3.ownBlock) (Kd.R_apart' HX4.out (Kd.S_typed HS4.out) (by decide)) (fun k_ hk => ⟨trivial, hk.2⟩)).1 k_ h_.symm)) ?aF ?aO ?aB ?aS ?aL ?_
      case aP => exact k32_mkM _ _ _ x (Kd.R_mono (Kd.R_tight rfl (Kd.R_mono (ok' := fun k_ => True ∧ some k_ ≠ u3.ownBlock) (Kd.R_apart' HU4.out (Kd.S_typed HS4.out) (by decide)) (fun k_ hk => ⟨trivial, hk.2⟩))) (fun _ h_ => Or.inl h_)) (Kd.R_mono (Kd.R_tight rfl (Kd.R_mono (ok' := fun k_ => True ∧ some k_ ≠ u3.ownBlock) (Kd.R_apart' HX4.out (Kd.S_typed HS4.out) (by decide)) (fun k_ hk => ⟨trivial, hk.2⟩))) (fun _ h_ => Or.inr h_))
      case aB => exact HB4.out
      case aF => exact (fun _ _ => trivial)
      case aO => exact Kd.S_mono HS4.out (fun k_ hk => ⟨trivial, fun e_ => e_.elim (fun h_ => hk.1.2 h_) (fun h_ => hk.2 h_)⟩)
      case aS => exact HB4.out.size
      case aL => have := HN.out; rw [List.length_take]; omega
      intro v5 w5 ho hb hg hat
      have HS5 := Aside0.mk ho
      have HB5 := Aside0.mk hb
      have hne : some wr.heap.size ≠ u3.ownBlock := fun e => Nat.lt_irrefl _ (Kd.S_lt HS.out _ e.symm)
      have hH5 := Aside0.mk (show _ ∧ _ from ⟨(World.cell?_of_block (hg.block wr.heap.size (World.block_lt_of_cell? w4 _ HH4.out.1) hne)).trans HH4.out.1, (World.cell?_of_block (hg.block wr.heap.size (World.block_lt_of_cell? w4 _ HH4.out.1) hne)).trans HH4.out.2⟩)
      clear ho hg hat
      refine hK.out _ _ hH5.out (fun hHeld => ?_)
      clear hK K
      refine norm_ (a' := ?_) ?_ ?_
      rotate_left
      · show Act.put _ (some 21) _ = _
        simp only [Act.put, List.setIfInBounds_toArray, List.set_cons_zero, List.set_cons_succ, i64_w, i32_w]
        rfl
      refine pure_ (i := 10) (N := some 3) (v := ?_) (a' := ?_) #[true, true, true, true, true, true, true, true, true, true, true] rfl rfl (by kernel_rfl) (fun _ _ _ h => h) (Or.inl ⟨by rfl, ?_⟩) ?_ ?_
      rotate_left
      · intro w'
        go_simp
        with_reducible rfl
      rotate_left
      · simp only [Act.put, List.setIfInBounds_toArray, List.set_cons_zero, List.set_cons_succ, i64_w, i32_w]
        rfl
      refine done_ (by kernel_rfl) ?_
      have HS6 := Aside0.mk (show Kd.S k32 42 w5 w.heap.size (fun _ => True) v5 (l.take (j + 1)) from by rw [← HT.out]; exact HS5.out)
      clear hHeld
      try go_wp2
      go_roundw
      case rel => exact ⟨j + 1, by go_num, by omega, HS6, HB5⟩
      case measure => simp [intOf]; omega
    · obtain rfl : j = l.length := by omega
      have HS2 := Aside0.mk (show Kd.S k32 42 wr w.heap.size (fun _ => True) u3 l from by have := HS.out; rw [List.take_length] at this; exact this)
      obtain ⟨A3, c3, rfl⟩ := Kd.S_slice HS2.out
      obtain ⟨_, hc3, hC3⟩ := Kd.S_reads' HS2.out
      have hcm : c3 ≤ 9223372036854775807 ∧ (A3 = none → l.length = 0) := S_cap HS2.out
      clear hC3
      go_wp2_with fail
      refine (clip25 A3 c3 l.length _ hc3 hcm.1 hcm.2).mono ?_
      rintro e w2 ⟨rfl, rfl⟩
      go_wp2_with fail
      go_ret
      exact ⟨A3, rfl, ⟨c3, HS2.out⟩, HB.out⟩
end Go.Proofs.Ythfplgfpodmphaa.Ms
