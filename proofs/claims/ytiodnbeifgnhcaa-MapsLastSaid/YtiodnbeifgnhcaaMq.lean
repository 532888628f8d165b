/- The document's SamePairs, walked: equal rows are the same. -/
import Derived.Test.YtiodnbeifgnhcaaMk
namespace Go.Proofs.Ytiodnbeifgnhcaa.Ms
open Go.RowKit Go.Proofs.YtiodnbeifgnhcaaW.PrintWords Go.Proofs.YtiodnbeifgnhcaaW.PrintLast Go.Proofs.YtiodnbeifgnhcaaW.PrintMore
attribute [local go_sem] max2_int min2_int max_two min_two max_three min_three max_four min_four
set_option linter.unusedVariables false
set_option linter.unusedSimpArgs false

set_option maxHeartbeats 4000000 in
set_option maxRecDepth 100000 in
/-- SamePairs tells that equal rows are the same. -/
theorem same7 (A B : Option Addr) (c d n : Nat) (l : List S32) (w : World) (hl : l.length = n) (hr : Kd.C k32 w A l.length l) (hs : Kd.C k32 w B l.length l) :
    Calls Try.prog 7 #[.slice A n c, .slice B n d] w fun e w' => e = .returned (.bool true) ∧ Below w.heap.size w w' := by
  subst hl
  have HR := Aside0.mk hr
  have HS := Aside0.mk hs
  have hlen : l.length ≤ 9223372036854775807 := hr.2.1
  clear hr hs
  go_enter Try.func7, Try.ntmps7
  go_wp2_with fail
  go_loopw [5] (fun v5 w' => ∃ j : Nat, v5 = .int .i64 j ∧ j ≤ l.length ∧ Aside0 (Below w.heap.size w w')) (fun v5 _ => l.length - (intOf v5).toNat)
  case atStart => exact ⟨0, rfl, Nat.zero_le _, ⟨Below.refl _ _⟩⟩
  case round =>
    obtain ⟨j, rfl, hj, HB⟩ := hrel
    by_cases hlt : j < l.length
    · have hbd := below_drew1 HB.out
      obtain ⟨ad, A0, c0, A1, c1, e, h0, h1, l0, g0, l1, g1⟩ := at_T32 (Kd.C_below HR.out hbd) (j : Int) (by omega) (by omega)
      obtain ⟨bd, B0, d0, B1, d1, e', h0', h1', l0', g0', l1', g1'⟩ := at_T32 (Kd.C_below HS.out hbd) (j : Int) (by omega) (by omega)
      cases e
      cases e'
      have q1 := Kd.C_string (P := Try.prog) (A := A0) (c := c0) Try.underlying24 Try.underlying5 Try.underlying9 g0
      have q2 := Kd.C_string (P := Try.prog) (A := A1) (c := c1) Try.underlying24 Try.underlying5 Try.underlying9 g1
      have q3 := Kd.C_string (P := Try.prog) (A := B0) (c := d0) Try.underlying24 Try.underlying5 Try.underlying9 g0'
      have q4 := Kd.C_string (P := Try.prog) (A := B1) (c := d1) Try.underlying24 Try.underlying5 Try.underlying9 g1'
      simp only [Int.toNat_natCast] at h0 h1 h0' h1'
      have e2 : IntKind.i64.wrap ((j : Int) + 1) = (j : Int) + 1 := by rw [IntKind.wrap_i64]; omega
      have HBD := Aside0.mk hbd
      clear l0 l1 l0' l1' g0 g1 g0' g1' hbd
      go_wp2_with fail
      go_region
      go_wp2
      go_roundw
      case rel => exact ⟨j + 1, by go_num, by omega, HBD⟩
      case measure => simp [intOf]; omega
    · obtain rfl : j = l.length := by omega
      go_wp2_with fail
      go_ret
      exact ⟨rfl, HB.out⟩
end Go.Proofs.Ytiodnbeifgnhcaa.Ms
