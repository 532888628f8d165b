/- Put of a window. -/
import Derived.Outline
import Derived.IntWalk
import Derived.Deep.QuietTactic
import Derived.Deep.RegionHeld3
import Derived.BigQuiet
import Derived.Test.YthoekmedkmonhaaWb
namespace Go.Proofs.Ythoekmedkmonhaa.Wi
open Go Go.RowKit Go.Maps Go.Proofs.Ythoekmedkmonhaa Go.Proofs.YthoekmedkmonhaaW.PrintWords Go.Proofs.YthoekmedkmonhaaW.PrintLast Go.Proofs.YthoekmedkmonhaaW.PrintMore
attribute [local go_sem] max2_int min2_int max_two min_two
set_option linter.unusedVariables false
set_option linter.unusedSimpArgs false

/-- What Put comes to. -/
def PutEnd (T : TypeId) (w : World) (b m n : Nat) (s : Wd) (i : Int) (x : Value) (e : Ending) (w' : World) : Prop :=
  ∃ r s', e = .returned (.bool r) ∧ PutIs s i x r s' ∧ Wn T w' b m (n + 1) s' ∧ Iv (n + 1) s' ∧ Tn b m w w'

theorem put_no {T : TypeId} {w w' : World} {b m n : Nat} {s : Wd} {i : Int} {x : Value} (h : Wn T w b m n s) (hv : Iv n s) (hno : (decide (s.fr < i) && decide (i ≤ s.wh + 64) && !(s.f i).isSome) = false) (hw : w' = w) : PutEnd T w b m n s i x (.returned (.bool false)) w' := by
  subst hw
  exact ⟨false, s, rfl, ⟨hno.symm, rfl, fun _ => rfl, fun h => (by cases h), fun h => (by cases h)⟩, h.mono (by omega), hv.mono (by omega), Tn.refl _ _ _⟩

/-- Where whole stands in the midst of its growth. -/
structure Gr (s : Wd) (i : Int) (x : Value) (t k : Int) : Prop where
  g0 : s.wh ≤ k
  g1 : k ≤ t
  g2 : ∀ j, s.fr < j → j ≤ k → (upd s.f i (some x) j).isSome = true

theorem upd_some {s : Wd} {i : Int} {x : Value} {j : Int} (h : (s.f j).isSome = true) : (upd s.f i (some x) j).isSome = true := by
  unfold upd; split <;> simp [h]

theorem gr_start {n : Nat} {s : Wd} {i : Int} {x : Value} (hv : Iv n s) : Gr s i x (max s.tp i) s.wh :=
  ⟨Int.le_refl _, by have := hv.p2; omega, fun j a b => upd_some (hv.in1 j a b)⟩

theorem gr_le {n : Nat} {s : Wd} {i : Int} {x : Value} (hv : Iv n s) {j : Int} (h : (upd s.f i (some x) j).isSome = true) : j ≤ max s.tp i := by
  unfold upd at h
  split at h
  · omega
  · have := (hv.in3 j h).2; omega

theorem gr_next {n : Nat} {s : Wd} {i : Int} {x : Value} {k : Int} (hv : Iv n s) (hg : Gr s i x (max s.tp i) k) (h : (upd s.f i (some x) (k + 1)).isSome = true) : Gr s i x (max s.tp i) (k + 1) :=
  ⟨by have := hg.g0; omega, gr_le hv h, fun j a b => by
    by_cases e : j = k + 1
    · rw [e]; exact h
    · exact hg.g2 j a (by omega)⟩

theorem gr_end {n : Nat} {s : Wd} {i : Int} {x : Value} {k : Int} (hv : Iv n s) (h1 : s.fr < i) (h2 : i ≤ s.wh + 64) (hg : Gr s i x (max s.tp i) k) (h : (upd s.f i (some x) (k + 1)).isSome = false) :
    Iv (n + 1) ⟨s.fr, k, max s.tp i, upd s.f i (some x)⟩ where
  p0 := hv.p0
  p1 := by show s.fr ≤ k; have := hg.g0; have := hv.p1; omega
  p2 := hg.g1
  p3 := by show max s.tp i ≤ k + 64; have := hg.g0; have := hv.p3; omega
  p4 := by show k ≤ 1099511627776 + 64 * ((n + 1 : Nat) : Int); have := hg.g1; have := hv.p3; have := hv.p4; omega
  in1 := hg.g2
  in2 := h
  in3 := fun j hj => by
    show s.fr < j ∧ j ≤ max s.tp i
    refine ⟨?_, gr_le hv hj⟩
    have hj' : (upd s.f i (some x) j).isSome = true := hj
    unfold upd at hj'
    split at hj'
    · omega
    · exact (hv.in3 j hj').1
  in4 := fun _ => by
    show (upd s.f i (some x) (max s.tp i)).isSome = true
    by_cases e : s.tp ≤ i
    · rw [show max s.tp i = i by omega, upd_same]; rfl
    · rw [show max s.tp i = s.tp by omega]
      exact upd_some (hv.in4 (by have := hv.p0; omega))

/-- Cell 1 of block b, as a number. -/
def whOf (b : Nat) (w : World) : Int := intOf ((w.cell? ⟨b, 1, none⟩).getD undef)
theorem whOf_eq {T : TypeId} {w : World} {b m n : Nat} {s : Wd} (h : Wn T w b m n s) : whOf b w = s.wh := by simp [whOf, h.c1, intOf]

set_option maxHeartbeats 1000000 in
theorem put16_low (b m n : Nat) (s : Wd) (i : Int) (x : Value) (w : World) (h : Wn 67 w b m n s) (hv : Iv n s) (h1 : i ≤ s.fr) :
    Calls Try.prog 16 #[.pointer (some ⟨b, 0, none⟩), .int .i64 i, x] w (PutEnd 67 w b m n s i x) := by
  have hc := h.c0
  have HP := Aside0.mk (fun w' => put_no (w' := w') (i := i) (x := x) h hv (by simp; omega))
  clear h hv
  go_enter Try.func16, Try.ntmps16
  go_wp2_with fail
  go_ret
  exact HP.out _ rfl

set_option maxHeartbeats 1000000 in
theorem put16_far (b m n : Nat) (s : Wd) (i : Int) (x : Value) (w : World) (h : Wn 67 w b m n s) (hv : Iv n s) (hi : Wf i) (h0 : 0 ≤ s.fr) (h1 : s.fr < i) (h2 : s.wh + 64 < i) :
    Calls Try.prog 16 #[.pointer (some ⟨b, 0, none⟩), .int .i64 i, x] w (PutEnd 67 w b m n s i x) := by
  have hc := h.c0
  have hc1 := h.c1
  have hi1 := hi.1
  have hi2 := hi.2
  have h2' : s.wh < i - 64 := by omega
  have HP := Aside0.mk (fun w' => put_no (w' := w') (i := i) (x := x) h hv (by have : decide (i ≤ s.wh + 64) = false := decide_eq_false (by omega); simp [this]))
  clear h hv hi
  go_enter Try.func16, Try.ntmps16
  go_wp2_with fail
  go_ret
  exact HP.out _ rfl

set_option maxHeartbeats 1000000 in
theorem put16_there (b m n : Nat) (s : Wd) (i : Int) (x : Value) (w : World) (h : Wn 67 w b m n s) (hv : Iv n s) (hi : Wf i) (h0 : 0 ≤ s.fr) (h1 : s.fr < i) (h2 : i ≤ s.wh + 64) (h3 : (s.f i).isSome = true) :
    Calls Try.prog 16 #[.pointer (some ⟨b, 0, none⟩), .int .i64 i, x] w (PutEnd 67 w b m n s i x) := by
  have hc := h.c0
  have hc1 := h.c1
  have hc3 := h.c3
  have hi1 := hi.1
  have hi2 := hi.2
  have h2' : i - 64 ≤ s.wh := by omega
  have hl := h.hm.look Try.underlying65 (Try.zeroValue9 w) hi
  rw [h3] at hl
  have HP := Aside0.mk (fun w' => put_no (w' := w') (i := i) (x := x) h hv (by simp [h3]))
  clear h hv hi
  go_enter Try.func16, Try.ntmps16
  go_wp2_with fail
  go_ret
  exact HP.out _ rfl

set_option maxHeartbeats 2000000 in
theorem put16_on (b m n : Nat) (s : Wd) (i : Int) (x : Value) (w : World) (h : Wn 67 w b m n s) (hv : Iv n s) (hn : n < 1000000) (hi : Wf i) (h0 : 0 ≤ s.fr) (h1 : s.fr < i) (h2 : i ≤ s.wh + 64) (h3 : (s.f i).isSome = false) :
    Calls Try.prog 16 #[.pointer (some ⟨b, 0, none⟩), .int .i64 i, x] w (PutEnd 67 w b m n s i x) := by
  obtain ⟨t, ht⟩ : ∃ t, t = max s.tp i := ⟨_, rfl⟩
  have hmax : (if s.tp < i then i else s.tp) = t := by split <;> omega
  have hc := h.c0
  have hc1 := h.c1
  have hc3 := h.c3
  have hi1 := hi.1
  have hi2 := hi.2
  have h2' : i - 64 ≤ s.wh := by omega
  have hl := h.hm.look Try.underlying65 (Try.zeroValue9 w) hi
  rw [h3] at hl
  obtain ⟨w1, hrun, hm1, ht1⟩ := h.hm.put Try.underlying65 (by simp [maxLen]; omega) hi x
  have hw1 := h.turned ht1 hm1
  have e2 := hw1.c2
  have ef2 := hw1.fz 2
  have hw2 := hw1.set2 t
  have HT2 := Aside0.mk ((Tn.of_turned (b := b) ht1).trans (Tn.setCell b m w1 2 (.int .i64 t)))
  have HW2 := Aside0.mk hw2
  have HT := Aside0.mk ht
  have HV := Aside0.mk hv
  have HH := Aside0.mk (And.intro hi (And.intro h1 (And.intro h2 h3)))
  have HN := Aside0.mk hn
  clear h hv hi ht hm1 ht1 hw1 hw2 h3 hn
  go_enter Try.func16, Try.ntmps16
  go_wp2_with fail
  obtain ⟨W2, hW2⟩ : ∃ W2, w1.setCell ⟨b, 2, none⟩ (.int .i64 t) = W2 := ⟨_, rfl⟩
  simp only [hW2] at HT2 HW2 ⊢
  clear hW2 hrun hl hc hc1 hc3 e2 ef2
  go_loopw [9, 10] (fun _ _ wr => ∃ k : Int, Aside0 (Wn 67 wr b m (n + 1) ⟨s.fr, k, t, upd s.f i (some x)⟩) ∧ Aside0 (Gr s i x t k) ∧ Aside0 (Tn b m w wr)) (fun _ _ wr => (t - whOf b wr).toNat)
  case atStart => exact ⟨s.wh, HW2, ⟨by rw [HT.out]; exact gr_start HV.out⟩, HT2⟩
  case round =>
    clear HW2 HT2
    obtain ⟨k, HW, HG, HTn⟩ := hrel
    have hk0 : 0 ≤ k := by have := HG.out.g0; have := HV.out.p1; omega
    have hk1 : k ≤ 2000000000000 := by have := HG.out.g1; have := HV.out.p3; have := HV.out.p4; have := HT.out; have := HN.out; omega
    have hkw : Wf (k + 1) := ⟨by omega, by omega⟩
    have hc1 := HW.out.c1
    have hc3 := HW.out.c3
    have hf1 := HW.out.fz 1
    have hl := HW.out.hm.look Try.underlying65 (Try.zeroValue9 wr) hkw
    have hd1 := HW.out.drew.c1
    have hd3 := HW.out.drew.c3
    have hdl := HW.out.drew.hm.look Try.underlying65 (Try.zeroValue9 wr.drew) hkw
    dsimp only at hl hdl hc1 hd1
    have hwrap : IntKind.i64.wrap (k + 1) = k + 1 := IntWalk.i64_in _ (by omega)
    obtain ⟨y, hy⟩ : ∃ y, y = (upd s.f i (some x) (k + 1)).getD (.string ⟨#[]⟩) := ⟨_, rfl⟩
    rw [← hy] at hl hdl
    clear hy
    cases hs : (upd s.f i (some x) (k + 1)).isSome with
    | false =>
      rw [hs] at hl hdl
      go_wp2_with fail
      go_region_held3 (fun w' => w'.cell? ⟨b, 1, none⟩ = some (.int .i64 k) ∧ w'.cell? ⟨b, 3, none⟩ = some (.map (some m)) ∧ (Instr.lookup 65 (.map (some m)) (.int .i64 (k + 1)) true).run Try.prog w' = .ok (.tuple #[y, .bool false]) w') (go_keep) (fail)
      go_wp2_with fail
      go_ret
      exact ⟨true, ⟨s.fr, k, t, upd s.f i (some x)⟩, rfl, ⟨by have := HH.out; simp [this.2.1, this.2.2.1, this.2.2.2], rfl, fun h => (by cases h), fun _ => HT.out, fun _ => rfl⟩, HW.out, by rw [HT.out]; exact gr_end HV.out HH.out.2.1 HH.out.2.2.1 (by rw [← HT.out]; exact HG.out) hs, HTn.out.drew⟩
    | true =>
      rw [hs] at hl hdl
      go_wp2_with fail
      go_region_held3 (fun w' => w'.cell? ⟨b, 1, none⟩ = some (.int .i64 k) ∧ w'.cell? ⟨b, 3, none⟩ = some (.map (some m)) ∧ (Instr.lookup 65 (.map (some m)) (.int .i64 (k + 1)) true).run Try.prog w' = .ok (.tuple #[y, .bool true]) w') (go_keep) (fail)
      go_wp2_with fail
      go_roundw
      case rel => exact ⟨k + 1, ⟨HW.out.drew.set1 (k + 1)⟩, ⟨by rw [HT.out]; exact gr_next HV.out (by rw [← HT.out]; exact HG.out) hs⟩, ⟨HTn.out.drew.trans (Tn.setCell b m _ 1 _)⟩⟩
      case measure => rw [whOf_eq HW.out, whOf_eq (HW.out.set1 (k + 1)).drew]; have := gr_le HV.out hs; have := HT.out; simp; omega
theorem put16 (b m n : Nat) (s : Wd) (i : Int) (x : Value) (w : World) (h : Wn 67 w b m n s) (hv : Iv n s) (hn : n < 1000000) (hi : Wf i) :
    Calls Try.prog 16 #[.pointer (some ⟨b, 0, none⟩), .int .i64 i, x] w (PutEnd 67 w b m n s i x) := by
  by_cases h1 : s.fr < i
  · by_cases h2 : i ≤ s.wh + 64
    · cases h3 : (s.f i).isSome with
      | true => exact put16_there b m n s i x w h hv hi hv.p0 h1 h2 h3
      | false => exact put16_on b m n s i x w h hv hn hi hv.p0 h1 h2 h3
    · exact put16_far b m n s i x w h hv hi hv.p0 h1 (by omega)
  · exact put16_low b m n s i x w h hv (by omega)
end Go.Proofs.Ythoekmedkmonhaa.Wi
