/- Cut of a window. -/
import Derived.Outline
import Derived.IntWalk
import Derived.Deep.QuietTactic
import Derived.Deep.RegionHeld3
import Derived.BigQuiet
import Derived.Test.YthoekmedkmonhaaWcs
namespace Go.Proofs.Ythoekmedkmonhaa.Wi
open Go Go.RowKit Go.Maps Go.Proofs.Ythoekmedkmonhaa Go.Proofs.YthoekmedkmonhaaW.PrintWords Go.Proofs.YthoekmedkmonhaaW.PrintLast Go.Proofs.YthoekmedkmonhaaW.PrintMore
attribute [local go_sem] max2_int min2_int max_two min_two
set_option linter.unusedVariables false
set_option linter.unusedSimpArgs false

/-- What Cut comes to. -/
def CutEnd (T : TypeId) (w : World) (b m n : Nat) (s : Wd) (i : Int) (e : Ending) (w' : World) : Prop :=
  ∃ s', e = .returned (.tuple #[]) ∧ CutIs s i s' ∧ Wn T w' b m n s' ∧ Iv n s' ∧ Tn b m w w'

theorem cut_no {T : TypeId} {w w' : World} {b m n : Nat} {s : Wd} {i : Int} (h : Wn T w b m n s) (hv : Iv n s) (hno : ¬(s.fr < i ∧ i ≤ s.wh)) (hw : w' = w) : CutEnd T w b m n s i (.returned (.tuple #[])) w' := by
  subst hw
  refine ⟨s, rfl, ⟨rfl, rfl, by rw [if_neg hno], fun j => ?_⟩, h, hv, Tn.refl _ _ _⟩
  split
  · cases hj : s.f j with
    | none => rfl
    | some y => have := (hv.in3 j (by rw [hj]; rfl)).1; omega
  · rfl

def cutf (s : Wd) (k : Int) : Int → Option Value := fun j => if j ≤ k then none else s.f j
theorem cutf_start {n : Nat} {s : Wd} (hv : Iv n s) : cutf s s.fr = s.f := by
  funext j
  unfold cutf
  split
  · cases hj : s.f j with
    | none => rfl
    | some y => have := (hv.in3 j (by rw [hj]; rfl)).1; omega
  · rfl
theorem cutf_next (s : Wd) (k : Int) : upd (cutf s k) (k + 1) none = cutf s (k + 1) := by
  funext j
  unfold upd cutf
  by_cases h1 : j = k + 1
  · rw [if_pos h1, if_pos (by omega)]
  · rw [if_neg h1]
    by_cases h2 : j ≤ k
    · rw [if_pos h2, if_pos (by omega)]
    · rw [if_neg h2, if_neg (by omega)]

theorem cut_iv {n : Nat} {s : Wd} {i : Int} (hv : Iv n s) (h1 : s.fr < i) (h2 : i ≤ s.wh) : Iv n ⟨i, s.wh, s.tp, cutf s i⟩ where
  p0 := by show 0 ≤ i; have := hv.p0; omega
  p1 := h2
  p2 := hv.p2
  p3 := hv.p3
  p4 := hv.p4
  in1 := fun j a b => by
    show (cutf s i j).isSome = true
    have a' : i < j := a
    unfold cutf
    rw [if_neg (by omega)]
    exact hv.in1 j (by omega) b
  in2 := by
    show (cutf s i (s.wh + 1)).isSome = false
    unfold cutf
    rw [if_neg (by omega)]
    exact hv.in2
  in3 := fun j hj => by
    have hj' : (cutf s i j).isSome = true := hj
    unfold cutf at hj'
    split at hj'
    · cases hj'
    · exact ⟨by show i < j; omega, (hv.in3 j hj').2⟩
  in4 := fun h => by
    have h' : i < s.tp := h
    show (cutf s i s.tp).isSome = true
    unfold cutf
    rw [if_neg (by omega)]
    exact hv.in4 (by omega)

def frOf (b : Nat) (w : World) : Int := intOf ((w.cell? ⟨b, 0, none⟩).getD undef)
theorem frOf_eq {T : TypeId} {w : World} {b m n : Nat} {s : Wd} (h : Wn T w b m n s) : frOf b w = s.fr := by simp [frOf, h.c0, intOf]

set_option maxHeartbeats 1000000 in
theorem cut17_low (b m n : Nat) (s : Wd) (i : Int) (w : World) (h : Wn 67 w b m n s) (hv : Iv n s) (h1 : i ≤ s.fr) :
    Calls Try.prog 17 #[.pointer (some ⟨b, 0, none⟩), .int .i64 i] w (CutEnd 67 w b m n s i) := by
  have hc := h.c0
  have HP := Aside0.mk (fun w' => cut_no (w' := w') (i := i) h hv (by omega))
  clear h hv
  go_enter Try.func17, Try.ntmps17
  go_wp2_with fail
  refine bodyPost_ret (results_none rfl _ _ _) rfl ?_
  exact HP.out _ rfl

set_option maxHeartbeats 1000000 in
theorem cut17_far (b m n : Nat) (s : Wd) (i : Int) (w : World) (h : Wn 67 w b m n s) (hv : Iv n s) (h1 : s.fr < i) (h2 : s.wh < i) :
    Calls Try.prog 17 #[.pointer (some ⟨b, 0, none⟩), .int .i64 i] w (CutEnd 67 w b m n s i) := by
  have hc := h.c0
  have hc1 := h.c1
  have HP := Aside0.mk (fun w' => cut_no (w' := w') (i := i) h hv (by omega))
  clear h hv
  go_enter Try.func17, Try.ntmps17
  go_wp2_with fail
  refine bodyPost_ret (results_none rfl _ _ _) rfl ?_
  exact HP.out _ rfl

set_option maxHeartbeats 2000000 in
theorem cut17_on (b m n : Nat) (s : Wd) (i : Int) (w : World) (h : Wn 67 w b m n s) (hv : Iv n s) (hn : n < 1000000) (h1 : s.fr < i) (h2 : i ≤ s.wh) :
    Calls Try.prog 17 #[.pointer (some ⟨b, 0, none⟩), .int .i64 i] w (CutEnd 67 w b m n s i) := by
  have hc := h.c0
  have hc1 := h.c1
  have HW0 := Aside0.mk h
  have HV := Aside0.mk hv
  have HN := Aside0.mk hn
  have HI := Aside0.mk (And.intro h1 h2)
  have hp0 := hv.p0
  clear h hv hn
  go_enter Try.func17, Try.ntmps17
  go_wp2_with fail
  clear hc hc1
  go_loopw [] (fun wr => ∃ k : Int, s.fr ≤ k ∧ k ≤ i ∧ Aside0 (Wn 67 wr b m n ⟨k, s.wh, s.tp, cutf s k⟩) ∧ Aside0 (Tn b m w wr)) (fun wr => (i - frOf b wr).toNat)
  case atStart => exact ⟨s.fr, Int.le_refl _, by omega, ⟨by rw [cutf_start HV.out]; exact HW0.out⟩, ⟨Tn.refl _ _ _⟩⟩
  case round =>
    obtain ⟨k, hk1, hk2, HW, HTn⟩ := hrel
    have hc0 := HW.out.c0
    dsimp only at hc0
    by_cases hlt : k < i
    · have hk3 : k ≤ 2000000000000 := by have := HV.out.p4; have := HN.out; omega
      have hkw : Wf (k + 1) := ⟨by omega, by omega⟩
      have hc3 := HW.out.c3
      have hd0 := HW.out.drew.c0
      have hd3 := HW.out.drew.c3
      dsimp only at hd0
      obtain ⟨w1, hrun, hm1, ht1⟩ := HW.out.drew.hm.del Try.underlying65 hkw 0
      have hw1 := HW.out.drew.turned ht1 hm1
      dsimp only at hw1
      rw [cutf_next] at hw1
      have hx0 := hw1.c0
      have hxf := hw1.fz 0
      have hx3 := hw1.c3
      dsimp only at hx0
      have HW1 := Aside0.mk hw1
      have HT1 := Aside0.mk (Tn.of_turned (b := b) ht1).drew0
      clear hw1 hm1 ht1
      have hwrap : IntKind.i64.wrap (k + 1) = k + 1 := IntWalk.i64_in _ (by omega)
      go_wp2_with fail
      go_region_held3 (fun w' => w'.cell? ⟨b, 0, none⟩ = some (.int .i64 k) ∧ w'.cell? ⟨b, 3, none⟩ = some (.map (some m)) ) (go_keep) (fail)
      go_wp2_with fail
      go_roundw
      case rel => exact ⟨k + 1, by omega, by omega, ⟨HW1.out.set0 (k + 1)⟩, ⟨(HTn.out.trans HT1.out).trans (Tn.setCell b m _ 0 _)⟩⟩
      case measure => rw [frOf_eq HW.out, frOf_eq (HW1.out.set0 (k + 1))]; simp; omega
    · obtain rfl : k = i := by omega
      have hc2 := HW.out.c2
      have hf2 := HW.out.fz 2
      dsimp only at hc2
      have hle : k ≤ s.tp := by have := HV.out.p2; omega
      have hmax : (if s.tp < k then k else s.tp) = s.tp := by split <;> omega
      have hd0 := HW.out.drew.c0
      have hd2 := HW.out.drew.c2
      dsimp only at hd0 hd2
      go_wp2_with fail
      go_region
      go_end0
      exact ⟨⟨k, s.wh, s.tp, cutf s k⟩, rfl, ⟨rfl, rfl, by rw [if_pos ⟨h1, h2⟩], fun j => rfl⟩, (HW.out.set2 s.tp).drew, cut_iv HV.out h1 h2, (HTn.out.trans (Tn.setCell b m _ 2 _)).drew⟩

theorem cut17 (b m n : Nat) (s : Wd) (i : Int) (w : World) (h : Wn 67 w b m n s) (hv : Iv n s) (hn : n < 1000000) :
    Calls Try.prog 17 #[.pointer (some ⟨b, 0, none⟩), .int .i64 i] w (CutEnd 67 w b m n s i) := by
  by_cases h1 : s.fr < i
  · by_cases h2 : i ≤ s.wh
    · exact cut17_on b m n s i w h hv hn h1 h2
    · exact cut17_far b m n s i w h hv h1 (by omega)
  · exact cut17_low b m n s i w h hv (by omega)
end Go.Proofs.Ythoekmedkmonhaa.Wi
