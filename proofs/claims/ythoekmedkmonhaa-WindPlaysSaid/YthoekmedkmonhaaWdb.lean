/- Cut of a window. -/
import Derived.Outline
import Derived.IntWalk
import Derived.Deep.QuietTactic
import Derived.Deep.RegionHeld3
import Derived.BigQuiet
import Derived.Test.YthoekmedkmonhaaWds
namespace Go.Proofs.Ythoekmedkmonhaa.Wi
open Go Go.RowKit Go.Maps Go.Proofs.Ythoekmedkmonhaa Go.Proofs.YthoekmedkmonhaaW.PrintWords Go.Proofs.YthoekmedkmonhaaW.PrintLast Go.Proofs.YthoekmedkmonhaaW.PrintMore
attribute [local go_sem] max2_int min2_int max_two min_two
set_option linter.unusedVariables false
set_option linter.unusedSimpArgs false

set_option maxHeartbeats 1000000 in
theorem cut32_low (b m n : Nat) (s : Wd) (i : Int) (w : World) (h : Wn 74 w b m n s) (hv : Iv n s) (h1 : i ≤ s.fr) :
    Calls Try.prog 32 #[.pointer (some ⟨b, 0, none⟩), .int .i64 i] w (CutEnd 74 w b m n s i) := by
  have hc := h.c0
  have HP := Aside0.mk (fun w' => cut_no (w' := w') (i := i) h hv (by omega))
  clear h hv
  go_enter Try.func32, Try.ntmps32
  go_wp2_with fail
  refine bodyPost_ret (results_none rfl _ _ _) rfl ?_
  exact HP.out _ rfl

set_option maxHeartbeats 1000000 in
theorem cut32_far (b m n : Nat) (s : Wd) (i : Int) (w : World) (h : Wn 74 w b m n s) (hv : Iv n s) (h1 : s.fr < i) (h2 : s.wh < i) :
    Calls Try.prog 32 #[.pointer (some ⟨b, 0, none⟩), .int .i64 i] w (CutEnd 74 w b m n s i) := by
  have hc := h.c0
  have hc1 := h.c1
  have HP := Aside0.mk (fun w' => cut_no (w' := w') (i := i) h hv (by omega))
  clear h hv
  go_enter Try.func32, Try.ntmps32
  go_wp2_with fail
  refine bodyPost_ret (results_none rfl _ _ _) rfl ?_
  exact HP.out _ rfl

set_option maxHeartbeats 2000000 in
theorem cut32_on (b m n : Nat) (s : Wd) (i : Int) (w : World) (h : Wn 74 w b m n s) (hv : Iv n s) (hn : n < 1000000) (h1 : s.fr < i) (h2 : i ≤ s.wh) :
    Calls Try.prog 32 #[.pointer (some ⟨b, 0, none⟩), .int .i64 i] w (CutEnd 74 w b m n s i) := by
  have hc := h.c0
  have hc1 := h.c1
  have HW0 := Aside0.mk h
  have HV := Aside0.mk hv
  have HN := Aside0.mk hn
  have HI := Aside0.mk (And.intro h1 h2)
  have hp0 := hv.p0
  clear h hv hn
  go_enter Try.func32, Try.ntmps32
  go_wp2_with fail
  clear hc hc1
  go_loopw [] (fun wr => ∃ k : Int, s.fr ≤ k ∧ k ≤ i ∧ Aside0 (Wn 74 wr b m n ⟨k, s.wh, s.tp, cutf s k⟩) ∧ Aside0 (Tn b m w wr)) (fun wr => (i - frOf b wr).toNat)
  case atStart => exact ⟨s.fr, Int.le_refl _, by omega, ⟨by rw [cutf_start HV.out]; exact HW0.out⟩, ⟨Tn.refl _ _ _⟩⟩
  case round =>
    obtain ⟨k, hk1, hk2, HW, HTn⟩ := hrel
    have hc0 := HW.out.c0
    dsimp only at hc0
    by_cases hlt : k < i
    · have hk3 : k ≤ 2000000000000 := by have := HV.out.p4; have := HN.out; omega
      have hkw : Wf (k + 1) := ⟨by omega, by omega⟩
      have hc3 := HW.out.c3
      have hd0 := HW.out.drew.c0
      have hd3 := HW.out.drew.c3
      dsimp only at hd0
      obtain ⟨w1, hrun, hm1, ht1⟩ := HW.out.drew.hm.del Try.underlying72 hkw 0
      have hw1 := HW.out.drew.turned ht1 hm1
      dsimp only at hw1
      rw [cutf_next] at hw1
      have hx0 := hw1.c0
      have hxf := hw1.fz 0
      have hx3 := hw1.c3
      dsimp only at hx0
      have HW1 := Aside0.mk hw1
      have HT1 := Aside0.mk (Tn.of_turned (b := b) ht1).drew0
      clear hw1 hm1 ht1
      have hwrap : IntKind.i64.wrap (k + 1) = k + 1 := IntWalk.i64_in _ (by omega)
      go_wp2_with fail
      go_region_held3 (fun w' => w'.cell? ⟨b, 0, none⟩ = some (.int .i64 k) ∧ w'.cell? ⟨b, 3, none⟩ = some (.map (some m)) ) (go_keep) (fail)
      go_wp2_with fail
      go_roundw
      case rel => exact ⟨k + 1, by omega, by omega, ⟨HW1.out.set0 (k + 1)⟩, ⟨(HTn.out.trans HT1.out).trans (Tn.setCell b m _ 0 _)⟩⟩
      case measure => rw [frOf_eq HW.out, frOf_eq (HW1.out.set0 (k + 1))]; simp; omega
    · obtain rfl : k = i := by omega
      have hc2 := HW.out.c2
      have hf2 := HW.out.fz 2
      dsimp only at hc2
      have hle : k ≤ s.tp := by have := HV.out.p2; omega
      have hmax : (if s.tp < k then k else s.tp) = s.tp := by split <;> omega
      have hd0 := HW.out.drew.c0
      have hd2 := HW.out.drew.c2
      dsimp only at hd0 hd2
      go_wp2_with fail
      go_region
      go_end0
      exact ⟨⟨k, s.wh, s.tp, cutf s k⟩, rfl, ⟨rfl, rfl, by rw [if_pos ⟨h1, h2⟩], fun j => rfl⟩, (HW.out.set2 s.tp).drew, cut_iv HV.out h1 h2, (HTn.out.trans (Tn.setCell b m _ 2 _)).drew⟩

theorem cut32 (b m n : Nat) (s : Wd) (i : Int) (w : World) (h : Wn 74 w b m n s) (hv : Iv n s) (hn : n < 1000000) :
    Calls Try.prog 32 #[.pointer (some ⟨b, 0, none⟩), .int .i64 i] w (CutEnd 74 w b m n s i) := by
  by_cases h1 : s.fr < i
  · by_cases h2 : i ≤ s.wh
    · exact cut32_on b m n s i w h hv hn h1 h2
    · exact cut32_far b m n s i w h hv h1 (by omega)
  · exact cut32_low b m n s i w h hv (by omega)
end Go.Proofs.Ythoekmedkmonhaa.Wi
