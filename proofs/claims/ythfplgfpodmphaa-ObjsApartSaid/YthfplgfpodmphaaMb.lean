/- bytes.Compare, walked. -/
import Derived.Lib.SliceRun
import Derived.Lib.Bytealg
import Derived.Lib.BytesEntry
import Derived.Laws.Externs
import Derived.Outline
import Derived.Test.YthfplgfpodmphaaMa
namespace Go.Proofs.Ythfplgfpodmphaa.Ms
open Go.RowKit Go.Proofs.YthfplgfpodmphaaW.PrintWords Go.Proofs.YthfplgfpodmphaaW.PrintLast Go.Proofs.YthfplgfpodmphaaW.PrintMore
attribute [local go_sem] max2_int min2_int max_two min_two max_three min_three max_four min_four
set_option linter.unusedVariables false
set_option linter.unusedSimpArgs false
set_option maxRecDepth 100000

theorem byte_rows {w : World} {A : Option Addr} {l : List Int} (h : Kd.C (Kd.int .u8) w A l.length l) (c : Nat) : ∃ s : ByteArray, s.data.toList = Lib.bytesOf l ∧ (Extern.Bytes.bytesOf (.slice A l.length c)).run Try.prog w = .ok s w := by
  rcases Nat.eq_zero_or_pos l.length with h0 | h0
  · obtain rfl : l = [] := List.eq_nil_of_length_eq_zero h0
    cases A with
    | none => exact ⟨.empty, rfl, rfl⟩
    | some ad => exact ⟨.empty, rfl, by simp [Extern.Bytes.bytesOf, Extern.Bytes.loadBytes]⟩
  · obtain ⟨ad, rfl, hc⟩ := h.2.2 h0
    refine ⟨⟨(ByteArray.empty).data ++ (Lib.bytesOf l).toArray⟩, by simp, ?_⟩
    exact Lib.run_loadBytesX w l ad .empty (fun j x hj => by
      obtain ⟨cs, h1, h2, h3⟩ := hc j x hj
      have h4 : cs = [.int .u8 x] := h2
      subst h4
      rw [show j = j * 1 + 0 from by omega]
      exact h3 0 _ rfl)
set_option maxHeartbeats 1000000 in
theorem cmp27 (A B : Option Addr) (c d : Nat) (l m : List Int) (w : World) (hA : Kd.C (Kd.int .u8) w A l.length l) (hB : Kd.C (Kd.int .u8) w B m.length m) :
    Calls Try.prog 95 #[.slice A l.length c, .slice B m.length d] w fun e w' => e = .returned (.int .i64 (Lib.compareBytes (Lib.bytesOf l) (Lib.bytesOf m))) ∧ w = w' := by
  obtain ⟨s, hs1, hs2⟩ := byte_rows hA c
  obtain ⟨t, ht1, ht2⟩ := byte_rows hB d
  have HR : Aside0 ((Extern.BytealgCompare.compare #[.slice A l.length c, .slice B m.length d]).run Try.prog w = .ok (.int .i64 (Lib.compareBytes (Lib.bytesOf l) (Lib.bytesOf m))) w) := by
    refine ⟨?_⟩
    change Sem.run Try.prog (do pure (goInt (Extern.BytealgCompare.cmp (← Extern.Bytes.bytesOf (.slice A l.length c)) (← Extern.Bytes.bytesOf (.slice B m.length d))))) w = _
    simp only [Sem.run_bind, hs2, ht2, Result.andThen, Sem.run_pure]
    rw [Lib.cmp_eq, hs1, ht1]
    rfl
  clear hs1 hs2 ht1 ht2 hA hB
  go_enter Try.func95, Try.ntmps95
  go_wp2
  rw [run_callFunc_extern Try.func114 (by kernel_rfl) (by kernel_rfl) (by kernel_rfl) (e := Extern.BytealgCompare.compare) (by kernel_rfl), HR.out]
  simp only [Result.andThen]
  rw [Oper.upon_value]
  go_wp2
  go_ret
  exact ⟨rfl, rfl⟩
end Go.Proofs.Ythfplgfpodmphaa.Ms
