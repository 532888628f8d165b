/- Pairs by a function, that are the same. -/
import Derived.Test.YthfplgfpodmphaaOe3
namespace Go.Proofs.Ythfplgfpodmphaa.Ob
open Go.RowKit Go.Proofs.YthfplgfpodmphaaW.PrintWords Go.Proofs.YthfplgfpodmphaaW.PrintLast Go.Proofs.YthfplgfpodmphaaW.PrintMore Go.Proofs.Ythfplgfpodmphaa.Ms
attribute [local go_sem] max2_int min2_int max_two min_two max_three min_three max_four min_four
set_option linter.unusedVariables false
set_option linter.unusedSimpArgs false
set_option maxRecDepth 100000
set_option maxHeartbeats 1000000 in
theorem efunc60 (A0 : Option Addr) (c0 : Nat) (l0 : List S32) (A1 : Option Addr) (c1 : Nat) (l1 : List S32) (w : World) (hr0 : Kd.C km w A0 l0.length l0) (hr1 : Kd.C km w A1 l1.length l1) :
  Calls Try.prog 60 #[.slice A0 l0.length c0, .slice A1 l1.length c1, .func (.func 56) #[] #[]] w fun e w' => e = .returned (.bool (eqM l0 l1)) ∧ Below w.heap.size w w' := by
 have HR := Aside0.mk hr0
 have HS := Aside0.mk hr1
 have hm0 : l0.length ≤ 9223372036854775807 := hr0.2.1
 clear hr0 hr1
 by_cases hlen : l0.length = l1.length
 ·
  have HL := Aside0.mk hlen
  rw [← hlen]
  clear hlen
  go_enter Try.func60, Try.ntmps60
  go_wp2_with fail
  go_loopw [17] (fun v5 w' => ∃ j : Nat, v5 = .int .i64 j ∧ j ≤ l0.length ∧ Aside0 (∀ i (h1 : i < j) (h2 : i < l0.length) (h3 : i < l1.length), eqP l0[i] l1[i] = true) ∧ Aside0 (Below w.heap.size w w')) (fun v5 _ => l0.length - (intOf v5).toNat)
  case atStart => exact ⟨0, rfl, Nat.zero_le _, ⟨fun i h => absurd h (by omega)⟩, ⟨Below.refl _ _⟩⟩
  case round =>
   obtain ⟨j, rfl, hj, HT, HB⟩ := hrel
   by_cases hlt : j < l0.length
   ·
    have hlt1 : j < l1.length := by have := HL.out; omega
    have e2 : IntKind.i64.wrap ((j : Int) + 1) = (j : Int) + 1 := by rw [IntKind.wrap_i64]; omega
    have hbd := HB.out
    obtain ⟨ad, B0, d0, B1, d1, e, h0, h1, L0, g0, L1, g1⟩ := at_T32 (Kd.C_below HR.out hbd) (j : Int) (by omega) (by omega)
    obtain ⟨bd, E0, f0, E1, f1, e', h0', h1', L0', g0', L1', g1'⟩ := at_T32 (Kd.C_below HS.out hbd) (j : Int) (by omega) (by omega)
    cases e
    cases e'
    simp only [Int.toNat_natCast] at h0 h1 h0' h1'
    have HX := Aside0.mk (rd_T_get l0 j hlt).symm
    have HY := Aside0.mk (rd_T_get l1 j hlt1).symm
    generalize rd_T32 l0 (j : Int) = x at h0 h1 g0 g1 HX L0 L1
    generalize rd_T32 l1 (j : Int) = y at h0' h1' g0' g1' HY L0' L1'
    have HL0 := Aside0.mk L0
    have HL1 := Aside0.mk L1
    have HL0' := Aside0.mk L0'
    have HL1' := Aside0.mk L1'
    clear L0 L1 L0' L1'
    have HBD := Aside0.mk hbd
    clear hbd
    cases hq : eqP x y with
    | true =>
     have HQ := Aside0.mk hq
     have G0 := Aside0.mk g0
     have G1 := Aside0.mk g1
     have G0' := Aside0.mk g0'
     have G1' := Aside0.mk g1'
     have HQQ : Aside0 (eqP x y = true) := Aside0.mk hq
     have ba_ : Below wr.heap.size wr (wr.alloc (.cells #[.slice B0 x.f0.length d0, .slice B1 x.f1.length d1] 42)) := below_alloc (Below.refl _ _) _
     have k0 := cell_old ba_ h0'
     have k1 := cell_old ba_ h1'
     clear g0 g1 g0' g1' ba_ h0' h1'
     clear hq
     go_wp2_with fail
     obtain ⟨V, hV⟩ : ∃ V_, V_ = ((wr.alloc (.cells #[.slice B0 x.f0.length d0, .slice B1 x.f1.length d1] 42)).alloc (.cells #[.slice E0 y.f0.length f0, .slice E1 y.f1.length f1] 42)) := ⟨_, rfl⟩
     rw [← hV]
     have hb1 : Below wr.heap.size wr V := by
      rw [hV]
      exact below_alloc (below_alloc (Below.refl _ _) _) _
     clear hV
     refine (same56 x y B0 d0 B1 d1 E0 f0 E1 f1 V HL0 (Kd.C_below G0.out hb1) HL1 (Kd.C_below G1.out hb1) HL0' (Kd.C_below G0'.out hb1) HL1' (Kd.C_below G1'.out hb1)).mono ?_
     rintro e w2 ⟨rfl, hb_⟩
     have HB2 := Aside0.mk (below_then (below_then HB.out HB.out.size hb1) (Nat.le_trans HB.out.size hb1.size) hb_)
     have hqq := HQQ.out
     rw [hqq]
     clear hb_ hb1 hqq
     go_wp2_with fail
     go_roundw
     case rel => exact ⟨j + 1, by go_num, by omega, ⟨fun i h1 h2 h3 => by
      rcases Nat.lt_or_ge i j with h | h
      ·
       exact HT.out i h h2 h3
      ·
       obtain rfl : i = j := by omega
       have := HQ.out
       rwa [← HX.out, ← HY.out] at this⟩, HB2⟩
     case measure => simp [intOf]; omega
    | false =>
     have HE := Aside0.mk (eqL_at eqP l0 l1 j hlt (by have := HL.out; omega) (by rw [HX.out, HY.out]; exact hq))
     have G0 := Aside0.mk g0
     have G1 := Aside0.mk g1
     have G0' := Aside0.mk g0'
     have G1' := Aside0.mk g1'
     have HQQ : Aside0 (eqP x y = false) := Aside0.mk hq
     have ba_ : Below wr.heap.size wr (wr.alloc (.cells #[.slice B0 x.f0.length d0, .slice B1 x.f1.length d1] 42)) := below_alloc (Below.refl _ _) _
     have k0 := cell_old ba_ h0'
     have k1 := cell_old ba_ h1'
     clear g0 g1 g0' g1' ba_ h0' h1'
     clear hq
     go_wp2_with fail
     obtain ⟨V, hV⟩ : ∃ V_, V_ = ((wr.alloc (.cells #[.slice B0 x.f0.length d0, .slice B1 x.f1.length d1] 42)).alloc (.cells #[.slice E0 y.f0.length f0, .slice E1 y.f1.length f1] 42)) := ⟨_, rfl⟩
     rw [← hV]
     have hb1 : Below wr.heap.size wr V := by
      rw [hV]
      exact below_alloc (below_alloc (Below.refl _ _) _) _
     clear hV
     refine (same56 x y B0 d0 B1 d1 E0 f0 E1 f1 V HL0 (Kd.C_below G0.out hb1) HL1 (Kd.C_below G1.out hb1) HL0' (Kd.C_below G0'.out hb1) HL1' (Kd.C_below G1'.out hb1)).mono ?_
     rintro e w2 ⟨rfl, hb_⟩
     have HB2 := Aside0.mk (below_then (below_then HB.out HB.out.size hb1) (Nat.le_trans HB.out.size hb1.size) hb_)
     have hqq := HQQ.out
     rw [hqq]
     clear hb_ hb1 hqq
     go_wp2_with fail
     go_ret
     have HE2 : eqM l0 l1 = false := HE.out
     exact ⟨by first | (rw [HE2]; rfl) | rw [HE2], HB2.out⟩
   ·
    obtain rfl : j = l0.length := by omega
    have HE : eqM l0 l1 = true := (eqL_iff _ _ _).2 ⟨HL.out, fun i h1 h2 => HT.out i h1 h1 h2⟩
    clear HT HL
    go_wp2_with fail
    go_ret
    exact ⟨by first | (rw [HE]; rfl) | rw [HE], HB.out⟩
 ·
  have HE : eqM l0 l1 = false := eqL_len _ _ _ hlen
  have n1 : ¬ (l0.length : Int) = (l1.length : Int) := by omega
  go_enter Try.func60, Try.ntmps60
  go_wp2_with fail
  go_ret
  exact ⟨by first | (rw [HE]; rfl) | rw [HE], Below.refl _ _⟩
end Go.Proofs.Ythfplgfpodmphaa.Ob
