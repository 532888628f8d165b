/- WindFar: for all arguments, with no condition. -/
import Derived.Outline
import Derived.IntWalk
import Derived.Test.YthoekmedkmonhaaRows
import Derived.ProofKit
import Derived.OpenShut
import Derived.ShutString
import Derived.ChangeOld
import Derived.SizedLaws
import Derived.Test.YthoekmedkmonhaaWh
namespace Go.Proofs.Ythoekmedkmonhaa.Wi
open Go Go.RowKit Go.Maps Go.Shelf Go.Proofs.Ythoekmedkmonhaa Go.Proofs.YthoekmedkmonhaaW.PrintWords Go.Proofs.YthoekmedkmonhaaW.PrintLast Go.Proofs.YthoekmedkmonhaaW.PrintMore
attribute [local go_sem] Oper.semAt_some
attribute [local go_sem] max2_int min2_int max_two min_two
set_option linter.unusedVariables false
set_option linter.unusedSimpArgs false

theorem wf_inv {n : Int} (h : (Lit.int .i64 n).wf = true) : Wf n := by
  simp [Lit.wf, IntKind.min, IntKind.max, IntKind.signed, IntKind.bits] at h
  exact h

theorem bits_lt (n : Int) (p m : Nat) (e : Int) (he : e = ((m : Nat) : Int)) (hm : m < 2 ^ p) (hp : p < 60) : ∃ N : Nat, Go.bits .and .i64 n e = (N : Int) ∧ N ≤ m := by
  subst he
  simp only [Go.bits, BitVec.ofInt_natCast, BitVec.toNat_and]
  have h : (BitVec.ofInt IntKind.i64.bits n).toNat &&& (BitVec.ofNat IntKind.i64.bits m).toNat ≤ m := Nat.le_trans Nat.and_le_right (by rw [BitVec.toNat_ofNat]; exact Nat.mod_le _ _)
  have h2 : m < 2 ^ 60 := Nat.lt_of_lt_of_le hm (Nat.pow_le_pow_right (by decide) (by omega))
  generalize (BitVec.ofInt IntKind.i64.bits n).toNat &&& (BitVec.ofNat IntKind.i64.bits m).toNat = t at h ⊢
  exact ⟨t, by rw [IntKind.wrap_i64]; omega, h⟩

/-- The window when k things were put behind seven. -/
def sF (x : Value) (k : Nat) : Wd := ⟨7, 7 + (k : Int), 7 + (k : Int), fun j => if 8 ≤ j ∧ j ≤ 7 + (k : Int) then some x else none⟩
theorem sF_zero (x : Value) : (⟨7, 7, 7, fun _ => none⟩ : Wd) = sF x 0 := wd_ext rfl rfl rfl (by
  funext j
  show none = (if 8 ≤ j ∧ j ≤ 7 + ((0 : Nat) : Int) then some x else none)
  rw [if_neg (by omega)])
theorem sF_put {x : Value} {k n : Nat} {r : Bool} {s : Wd} (h : PutIs (sF x k) (8 + (k : Int)) x r s) (hv : Iv n s) : r = true ∧ s = sF x (k + 1) := by
  have hnone : (sF x k).f (8 + (k : Int)) = none := by show (if 8 ≤ 8 + (k : Int) ∧ 8 + (k : Int) ≤ 7 + (k : Int) then some x else none) = none; rw [if_neg (by omega)]
  have hr : r = true := by
    rw [h.an, hnone]
    show (decide ((7 : Int) < 8 + (k : Int)) && decide (8 + (k : Int) ≤ 7 + (k : Int) + 64) && true) = true
    rw [decide_eq_true (by omega), decide_eq_true (by omega)]; rfl
  have hf := h.f hr
  have h0 : s.fr = 7 := h.fr
  have hfe : s.f = (sF x (k + 1)).f := by
    rw [hf]
    funext j
    show (if j = 8 + (k : Int) then some x else (if 8 ≤ j ∧ j ≤ 7 + (k : Int) then some x else none)) = (if 8 ≤ j ∧ j ≤ 7 + ((k + 1 : Nat) : Int) then some x else none)
    by_cases h1 : j = 8 + (k : Int)
    · rw [if_pos h1, if_pos (by omega)]
    · rw [if_neg h1]
      by_cases h2 : 8 ≤ j ∧ j ≤ 7 + (k : Int)
      · rw [if_pos h2, if_pos (by omega)]
      · rw [if_neg h2, if_neg (by omega)]
  refine ⟨hr, wd_ext h0 (wh_eq hv (by rw [h0]; show (7 : Int) ≤ 7 + ((k + 1 : Nat) : Int); omega) (fun j h1 h2 => ?_) ?_) ?_ hfe⟩
  · rw [h0] at h1
    rw [hfe]
    show (if 8 ≤ j ∧ j ≤ 7 + ((k + 1 : Nat) : Int) then some x else none).isSome = true
    have h2' : j ≤ 7 + ((k + 1 : Nat) : Int) := h2
    rw [if_pos (by omega)]; rfl
  · rw [hfe]
    show (if 8 ≤ 7 + ((k + 1 : Nat) : Int) + 1 ∧ 7 + ((k + 1 : Nat) : Int) + 1 ≤ 7 + ((k + 1 : Nat) : Int) then some x else none).isSome = false
    rw [if_neg (by omega)]; rfl
  · rw [h.tp hr]
    show max (7 + (k : Int)) (8 + (k : Int)) = 7 + ((k + 1 : Nat) : Int)
    omega

theorem far_put {x y : Value} {N : Int} {n : Nat} {r : Bool} {s : Wd} (h : PutIs (sF x 13) N y r s) (hv : Iv n s) :
    r = (decide (20 < N) && decide (N ≤ 84)) ∧ s.fr = 7 ∧ s.wh = (if N = 21 then 21 else 20) := by
  have hfN : ((sF x 13).f N).isSome = decide (8 ≤ N ∧ N ≤ 20) := by
    show (if 8 ≤ N ∧ N ≤ 7 + ((13 : Nat) : Int) then some x else none).isSome = _
    by_cases h1 : 8 ≤ N ∧ N ≤ 20
    · rw [if_pos (by omega), decide_eq_true h1]; rfl
    · rw [if_neg (by omega), decide_eq_false h1]; rfl
  have hr : r = (decide (20 < N) && decide (N ≤ 84)) := by
    rw [h.an, hfN]
    show (decide ((7 : Int) < N) && decide (N ≤ 7 + ((13 : Nat) : Int) + 64) && !decide (8 ≤ N ∧ N ≤ 20)) = _
    rw [Bool.eq_iff_iff]
    simp only [Bool.and_eq_true, decide_eq_true_eq, Bool.not_eq_true', decide_eq_false_iff_not]
    omega
  refine ⟨hr, h.fr, ?_⟩
  cases hb : r with
  | false =>
    rw [h.no hb]
    rw [hb] at hr
    have : ¬ N = 21 := fun e => by rw [e] at hr; exact absurd hr (by decide)
    rw [if_neg this]
    rfl
  | true =>
    have hf := h.f hb
    have h0 : s.fr = 7 := h.fr
    rw [hb] at hr
    have hrange := hr.symm
    simp only [Bool.and_eq_true, decide_eq_true_eq] at hrange
    by_cases e : N = 21
    · rw [if_pos e]
      refine wh_eq hv (by omega) (fun j h1 h2 => ?_) ?_
      · rw [hf]
        by_cases h3 : j = N
        · rw [h3, upd_same]; rfl
        · rw [upd_other _ _ _ h3]
          show (if 8 ≤ j ∧ j ≤ 7 + ((13 : Nat) : Int) then some x else none).isSome = true
          rw [if_pos (by omega)]; rfl
      · rw [hf, upd_other _ _ _ (by omega)]
        show (if 8 ≤ (21 : Int) + 1 ∧ (21 : Int) + 1 ≤ 7 + ((13 : Nat) : Int) then some x else none).isSome = false
        rw [if_neg (by omega)]; rfl
    · rw [if_neg e]
      refine wh_eq hv (by omega) (fun j h1 h2 => ?_) ?_
      · rw [hf, upd_other _ _ _ (by omega)]
        show (if 8 ≤ j ∧ j ≤ 7 + ((13 : Nat) : Int) then some x else none).isSome = true
        rw [if_pos (by omega)]; rfl
      · rw [hf, upd_other _ _ _ (by omega)]
        show (if 8 ≤ (20 : Int) + 1 ∧ (20 : Int) + 1 ≤ 7 + ((13 : Nat) : Int) then some x else none).isSome = false
        rw [if_neg (by omega)]; rfl

theorem own_none {n : Nat} {s : Wd} (hv : Iv n s) : s.f s.fr = none := by
  cases h : s.f s.fr with
  | none => rfl
  | some v => have := (hv.in3 s.fr (by rw [h]; rfl)).1; omega
theorem put_own {s s' : Wd} {x : Value} {r : Bool} (h : PutIs s s.fr x r s') : r = false ∧ s' = s := by
  have hr : r = false := by rw [h.an, decide_eq_false (Int.lt_irrefl _)]; rfl
  exact ⟨hr, h.no hr⟩

set_option maxRecDepth 100000 in
set_option maxHeartbeats 4000000 in
theorem far_ax (a0 a1 : Int) (N C : Nat) (w : World) (hbN : Go.bits .and .i64 a0 127 = (N : Int)) (hbC : Go.bits .and .i64 a1 63 = (C : Int)) (hN : N ≤ 127) (hC : C ≤ 63) (hn : (N : Int) ≤ 20) (hc : (C : Int) ≤ 7) : Calls Try.prog 4 #[.int .i64 a0, .int .i64 a1] w (SameEnd w true) := by
  have hN0 : (0 : Int) ≤ N := by omega
  have hC0 : (0 : Int) ≤ C := by omega
  have g1 : ¬ (20 < (N : Int)) := by omega
  have g3 : ¬ ((N : Int) = 21) := by omega
  have c1 : ¬ (7 < (C : Int)) := by omega
  go_enter Try.func4, Try.ntmps4
  go_wp2_with fail
  refine (new15 7 w).mono ?_
  rintro e w1 ⟨b, m, rfl, hb0, hm0, hw1, hB1⟩
  have hw1 : Wn 67 w1 b m 0 ⟨7, 7, 7, fun _ => none⟩ := hw1
  have hi1 : Iv 0 ⟨7, 7, 7, fun _ => none⟩ := new_iv 7 (by decide) (by decide)
  rw [sF_zero (.string ⟨#[120]⟩)] at hw1 hi1
  have HT := Aside0.mk hB1
  have HW := Aside0.mk hw1
  have HI := Aside0.mk hi1
  clear hB1 hw1 hi1
  go_wp2_with fail
  go_loopw [6] (fun v wr => ∃ k : Nat, v = .int .i64 (8 + (k : Int)) ∧ k ≤ 13 ∧ Aside0 (Wn 67 wr b m k (sF (.string ⟨#[120]⟩) k)) ∧ Aside0 (Iv k (sF (.string ⟨#[120]⟩) k)) ∧ Aside0 (Below w.heap.size w wr)) (fun v _ => (21 - intOf v).toNat)
  case atStart => exact ⟨0, rfl, Nat.zero_le _, HW, HI, HT⟩
  case round =>
    clear HT HW HI
    obtain ⟨k, rfl, hk, HW, HI, HT⟩ := hrel
    by_cases hlt : k < 13
    · have hle : 8 + (k : Int) ≤ 20 := by omega
      go_wp2_with fail
      refine (put16 b m k (sF (.string ⟨#[120]⟩) k) (8 + (k : Int)) (.string ⟨#[120]⟩) wr HW.out HI.out (by omega) ⟨by omega, by omega⟩).mono ?_
      rintro e w2 ⟨r, s, rfl, hp, hw, hi, ht⟩
      obtain ⟨rfl, rfl⟩ := sF_put hp hi
      have HT := Aside0.mk (HT.out.trans (ht.below hb0 hm0 HT.out.size))
      have HW := Aside0.mk hw
      have HI := Aside0.mk hi
      clear hp hw hi ht
      go_wp2_with fail
      go_roundw
      case rel => exact ⟨k + 1, by push_cast; rw [show (8 : Int) + ((k : Int) + 1) = 8 + (k : Int) + 1 by omega], by omega, HW, HI, HT⟩
      case measure => simp [intOf]; omega
    · obtain rfl : k = 13 := by omega
      clear hlt hk
      have hgt : ¬ (8 + ((13 : Nat) : Int) ≤ 20) := by decide
      go_wp2_with fail
      refine (put16 b m 13 (sF (.string ⟨#[120]⟩) 13) ((N : Int)) (.string ⟨#[121]⟩) wr HW.out HI.out (by omega) ⟨by omega, by omega⟩).mono ?_
      rintro e w2 ⟨r, s1, rfl, hp, hw, hi, ht⟩
      obtain ⟨rfl, hfr1, hwh1⟩ := far_put hp hi
      rw [if_neg g3] at hwh1
      rw [decide_eq_false (show ¬ (20 < (N : Int)) by omega)]
      simp only [Bool.and_true, Bool.and_false, Bool.false_and, Bool.true_and]
      have HT := Aside0.mk (HT.out.trans (ht.below hb0 hm0 HT.out.size))
      have HW := Aside0.mk hw
      have HI := Aside0.mk hi
      clear hp hw hi ht
      have HF1 := Aside0.mk hfr1
      have HH1 := Aside0.mk hwh1
      clear hfr1 hwh1
      go_wp2_with fail
      refine (cut17 b m 14 s1 (C : Int) w2 HW.out HI.out (by omega)).mono ?_
      rintro e w3 ⟨s2, rfl, hp, hw, hi, ht⟩
      have hfr2 : s2.fr = 7 := by rw [hp.fr, HF1.out, HH1.out]; rw [if_neg (by omega)]
      have hwh2 : s2.wh = 20 := by rw [hp.wh, HH1.out]
      have HT := Aside0.mk (HT.out.trans (ht.below hb0 hm0 HT.out.size))
      have HW := Aside0.mk hw
      have HI := Aside0.mk hi
      clear hp hw hi ht
      have HF2 := Aside0.mk hfr2
      have HH2 := Aside0.mk hwh2
      clear hfr2 hwh2
      go_wp2_with fail
      refine (cut17 b m 14 s2 (6) w3 HW.out HI.out (by omega)).mono ?_
      rintro e w4 ⟨s3, rfl, hp, hw, hi, ht⟩
      have hfr3 : s3.fr = 7 := by rw [hp.fr, HF2.out, HH2.out, if_neg (by omega)]
      have hwh3 : s3.wh = 20 := by rw [hp.wh, HH2.out]
      have HT := Aside0.mk (HT.out.trans (ht.below hb0 hm0 HT.out.size))
      have HW := Aside0.mk hw
      have HI := Aside0.mk hi
      clear hp hw hi ht
      have HF3 := Aside0.mk hfr3
      have HH3 := Aside0.mk hwh3
      go_wp2_with fail
      have hg := get18 b m 14 s3 s3.fr w4 HW.out ⟨by rw [HF3.out]; omega, by rw [HF3.out]; omega⟩
      rw [own_none HI.out, HF3.out] at hg
      simp only [Option.getD_none, Option.isSome_none] at hg
      clear hfr3 hwh3
      refine hg.mono ?_
      rintro e w5 ⟨rfl, rfl⟩
      clear hg
      go_wp2_with fail
      have hg := from19 b m 14 s3 w5 HW.out
      rw [HF3.out] at hg
      refine hg.mono ?_
      rintro e w6 ⟨rfl, rfl⟩
      clear hg
      go_wp2_with fail
      have hg := put16 b m 14 s3 s3.fr (.string ⟨#[122]⟩) w6 HW.out HI.out (by omega) ⟨by rw [HF3.out]; omega, by rw [HF3.out]; omega⟩
      rw [HF3.out] at hg
      refine hg.mono ?_
      rintro e w7 ⟨r, s4, rfl, hp, hw, hi, ht⟩
      rw [← HF3.out] at hp
      obtain ⟨rfl, rfl⟩ := put_own hp
      have HT := Aside0.mk (HT.out.trans (ht.below hb0 hm0 HT.out.size))
      have HW := Aside0.mk hw
      clear hp hw hi ht hg
      go_wp2_with fail
      have hg := whole20 b m 15 s4 w7 HW.out
      rw [HH3.out] at hg
      refine hg.mono ?_
      rintro e w8 ⟨rfl, rfl⟩
      clear hg
      go_wp2_with fail
      refine (awake14 w8).mono ?_
      rintro e w9 ⟨rfl, hb⟩
      have HT := Aside0.mk (HT.out.trans (hb.mono HT.out.size))
      clear hb
      go_wp2_with fail
      go_ret
      exact ⟨rfl, HT.out⟩

set_option maxRecDepth 100000 in
set_option maxHeartbeats 4000000 in
theorem far_ay (a0 a1 : Int) (N C : Nat) (w : World) (hbN : Go.bits .and .i64 a0 127 = (N : Int)) (hbC : Go.bits .and .i64 a1 63 = (C : Int)) (hN : N ≤ 127) (hC : C ≤ 63) (hn : (N : Int) ≤ 20) (hc : 7 < (C : Int) ∧ (C : Int) ≤ 20) : Calls Try.prog 4 #[.int .i64 a0, .int .i64 a1] w (SameEnd w true) := by
  have hN0 : (0 : Int) ≤ N := by omega
  have hC0 : (0 : Int) ≤ C := by omega
  have g1 : ¬ (20 < (N : Int)) := by omega
  have g3 : ¬ ((N : Int) = 21) := by omega
  have c1 : 7 < (C : Int) := by omega
  have c2 : (C : Int) ≤ 20 := by omega
  go_enter Try.func4, Try.ntmps4
  go_wp2_with fail
  refine (new15 7 w).mono ?_
  rintro e w1 ⟨b, m, rfl, hb0, hm0, hw1, hB1⟩
  have hw1 : Wn 67 w1 b m 0 ⟨7, 7, 7, fun _ => none⟩ := hw1
  have hi1 : Iv 0 ⟨7, 7, 7, fun _ => none⟩ := new_iv 7 (by decide) (by decide)
  rw [sF_zero (.string ⟨#[120]⟩)] at hw1 hi1
  have HT := Aside0.mk hB1
  have HW := Aside0.mk hw1
  have HI := Aside0.mk hi1
  clear hB1 hw1 hi1
  go_wp2_with fail
  go_loopw [6] (fun v wr => ∃ k : Nat, v = .int .i64 (8 + (k : Int)) ∧ k ≤ 13 ∧ Aside0 (Wn 67 wr b m k (sF (.string ⟨#[120]⟩) k)) ∧ Aside0 (Iv k (sF (.string ⟨#[120]⟩) k)) ∧ Aside0 (Below w.heap.size w wr)) (fun v _ => (21 - intOf v).toNat)
  case atStart => exact ⟨0, rfl, Nat.zero_le _, HW, HI, HT⟩
  case round =>
    clear HT HW HI
    obtain ⟨k, rfl, hk, HW, HI, HT⟩ := hrel
    by_cases hlt : k < 13
    · have hle : 8 + (k : Int) ≤ 20 := by omega
      go_wp2_with fail
      refine (put16 b m k (sF (.string ⟨#[120]⟩) k) (8 + (k : Int)) (.string ⟨#[120]⟩) wr HW.out HI.out (by omega) ⟨by omega, by omega⟩).mono ?_
      rintro e w2 ⟨r, s, rfl, hp, hw, hi, ht⟩
      obtain ⟨rfl, rfl⟩ := sF_put hp hi
      have HT := Aside0.mk (HT.out.trans (ht.below hb0 hm0 HT.out.size))
      have HW := Aside0.mk hw
      have HI := Aside0.mk hi
      clear hp hw hi ht
      go_wp2_with fail
      go_roundw
      case rel => exact ⟨k + 1, by push_cast; rw [show (8 : Int) + ((k : Int) + 1) = 8 + (k : Int) + 1 by omega], by omega, HW, HI, HT⟩
      case measure => simp [intOf]; omega
    · obtain rfl : k = 13 := by omega
      clear hlt hk
      have hgt : ¬ (8 + ((13 : Nat) : Int) ≤ 20) := by decide
      go_wp2_with fail
      refine (put16 b m 13 (sF (.string ⟨#[120]⟩) 13) ((N : Int)) (.string ⟨#[121]⟩) wr HW.out HI.out (by omega) ⟨by omega, by omega⟩).mono ?_
      rintro e w2 ⟨r, s1, rfl, hp, hw, hi, ht⟩
      obtain ⟨rfl, hfr1, hwh1⟩ := far_put hp hi
      rw [if_neg g3] at hwh1
      rw [decide_eq_false (show ¬ (20 < (N : Int)) by omega)]
      simp only [Bool.and_true, Bool.and_false, Bool.false_and, Bool.true_and]
      have HT := Aside0.mk (HT.out.trans (ht.below hb0 hm0 HT.out.size))
      have HW := Aside0.mk hw
      have HI := Aside0.mk hi
      clear hp hw hi ht
      have HF1 := Aside0.mk hfr1
      have HH1 := Aside0.mk hwh1
      clear hfr1 hwh1
      go_wp2_with fail
      refine (cut17 b m 14 s1 (C : Int) w2 HW.out HI.out (by omega)).mono ?_
      rintro e w3 ⟨s2, rfl, hp, hw, hi, ht⟩
      have hfr2 : s2.fr = (C : Int) := by rw [hp.fr, HF1.out, HH1.out]; rw [if_pos (by omega)]
      have hwh2 : s2.wh = 20 := by rw [hp.wh, HH1.out]
      have HT := Aside0.mk (HT.out.trans (ht.below hb0 hm0 HT.out.size))
      have HW := Aside0.mk hw
      have HI := Aside0.mk hi
      clear hp hw hi ht
      have HF2 := Aside0.mk hfr2
      have HH2 := Aside0.mk hwh2
      clear hfr2 hwh2
      go_wp2_with fail
      refine (cut17 b m 14 s2 ((C : Int) - 1) w3 HW.out HI.out (by omega)).mono ?_
      rintro e w4 ⟨s3, rfl, hp, hw, hi, ht⟩
      have hfr3 : s3.fr = (C : Int) := by rw [hp.fr, HF2.out, HH2.out, if_neg (by omega)]
      have hwh3 : s3.wh = 20 := by rw [hp.wh, HH2.out]
      have HT := Aside0.mk (HT.out.trans (ht.below hb0 hm0 HT.out.size))
      have HW := Aside0.mk hw
      have HI := Aside0.mk hi
      clear hp hw hi ht
      have HF3 := Aside0.mk hfr3
      have HH3 := Aside0.mk hwh3
      go_wp2_with fail
      have hg := get18 b m 14 s3 s3.fr w4 HW.out ⟨by rw [HF3.out]; omega, by rw [HF3.out]; omega⟩
      rw [own_none HI.out, HF3.out] at hg
      simp only [Option.getD_none, Option.isSome_none] at hg
      clear hfr3 hwh3
      refine hg.mono ?_
      rintro e w5 ⟨rfl, rfl⟩
      clear hg
      go_wp2_with fail
      have hg := from19 b m 14 s3 w5 HW.out
      rw [HF3.out] at hg
      refine hg.mono ?_
      rintro e w6 ⟨rfl, rfl⟩
      clear hg
      go_wp2_with fail
      have hg := put16 b m 14 s3 s3.fr (.string ⟨#[122]⟩) w6 HW.out HI.out (by omega) ⟨by rw [HF3.out]; omega, by rw [HF3.out]; omega⟩
      rw [HF3.out] at hg
      refine hg.mono ?_
      rintro e w7 ⟨r, s4, rfl, hp, hw, hi, ht⟩
      rw [← HF3.out] at hp
      obtain ⟨rfl, rfl⟩ := put_own hp
      have HT := Aside0.mk (HT.out.trans (ht.below hb0 hm0 HT.out.size))
      have HW := Aside0.mk hw
      clear hp hw hi ht hg
      go_wp2_with fail
      have hg := whole20 b m 15 s4 w7 HW.out
      rw [HH3.out] at hg
      refine hg.mono ?_
      rintro e w8 ⟨rfl, rfl⟩
      clear hg
      go_wp2_with fail
      refine (awake14 w8).mono ?_
      rintro e w9 ⟨rfl, hb⟩
      have HT := Aside0.mk (HT.out.trans (hb.mono HT.out.size))
      clear hb
      go_wp2_with fail
      go_ret
      exact ⟨rfl, HT.out⟩

set_option maxRecDepth 100000 in
set_option maxHeartbeats 4000000 in
theorem far_az (a0 a1 : Int) (N C : Nat) (w : World) (hbN : Go.bits .and .i64 a0 127 = (N : Int)) (hbC : Go.bits .and .i64 a1 63 = (C : Int)) (hN : N ≤ 127) (hC : C ≤ 63) (hn : (N : Int) ≤ 20) (hc : 20 < (C : Int)) : Calls Try.prog 4 #[.int .i64 a0, .int .i64 a1] w (SameEnd w true) := by
  have hN0 : (0 : Int) ≤ N := by omega
  have hC0 : (0 : Int) ≤ C := by omega
  have g1 : ¬ (20 < (N : Int)) := by omega
  have g3 : ¬ ((N : Int) = 21) := by omega
  have c1 : 7 < (C : Int) := by omega
  have c2 : ¬ ((C : Int) ≤ 20) := by omega
  go_enter Try.func4, Try.ntmps4
  go_wp2_with fail
  refine (new15 7 w).mono ?_
  rintro e w1 ⟨b, m, rfl, hb0, hm0, hw1, hB1⟩
  have hw1 : Wn 67 w1 b m 0 ⟨7, 7, 7, fun _ => none⟩ := hw1
  have hi1 : Iv 0 ⟨7, 7, 7, fun _ => none⟩ := new_iv 7 (by decide) (by decide)
  rw [sF_zero (.string ⟨#[120]⟩)] at hw1 hi1
  have HT := Aside0.mk hB1
  have HW := Aside0.mk hw1
  have HI := Aside0.mk hi1
  clear hB1 hw1 hi1
  go_wp2_with fail
  go_loopw [6] (fun v wr => ∃ k : Nat, v = .int .i64 (8 + (k : Int)) ∧ k ≤ 13 ∧ Aside0 (Wn 67 wr b m k (sF (.string ⟨#[120]⟩) k)) ∧ Aside0 (Iv k (sF (.string ⟨#[120]⟩) k)) ∧ Aside0 (Below w.heap.size w wr)) (fun v _ => (21 - intOf v).toNat)
  case atStart => exact ⟨0, rfl, Nat.zero_le _, HW, HI, HT⟩
  case round =>
    clear HT HW HI
    obtain ⟨k, rfl, hk, HW, HI, HT⟩ := hrel
    by_cases hlt : k < 13
    · have hle : 8 + (k : Int) ≤ 20 := by omega
      go_wp2_with fail
      refine (put16 b m k (sF (.string ⟨#[120]⟩) k) (8 + (k : Int)) (.string ⟨#[120]⟩) wr HW.out HI.out (by omega) ⟨by omega, by omega⟩).mono ?_
      rintro e w2 ⟨r, s, rfl, hp, hw, hi, ht⟩
      obtain ⟨rfl, rfl⟩ := sF_put hp hi
      have HT := Aside0.mk (HT.out.trans (ht.below hb0 hm0 HT.out.size))
      have HW := Aside0.mk hw
      have HI := Aside0.mk hi
      clear hp hw hi ht
      go_wp2_with fail
      go_roundw
      case rel => exact ⟨k + 1, by push_cast; rw [show (8 : Int) + ((k : Int) + 1) = 8 + (k : Int) + 1 by omega], by omega, HW, HI, HT⟩
      case measure => simp [intOf]; omega
    · obtain rfl : k = 13 := by omega
      clear hlt hk
      have hgt : ¬ (8 + ((13 : Nat) : Int) ≤ 20) := by decide
      go_wp2_with fail
      refine (put16 b m 13 (sF (.string ⟨#[120]⟩) 13) ((N : Int)) (.string ⟨#[121]⟩) wr HW.out HI.out (by omega) ⟨by omega, by omega⟩).mono ?_
      rintro e w2 ⟨r, s1, rfl, hp, hw, hi, ht⟩
      obtain ⟨rfl, hfr1, hwh1⟩ := far_put hp hi
      rw [if_neg g3] at hwh1
      rw [decide_eq_false (show ¬ (20 < (N : Int)) by omega)]
      simp only [Bool.and_true, Bool.and_false, Bool.false_and, Bool.true_and]
      have HT := Aside0.mk (HT.out.trans (ht.below hb0 hm0 HT.out.size))
      have HW := Aside0.mk hw
      have HI := Aside0.mk hi
      clear hp hw hi ht
      have HF1 := Aside0.mk hfr1
      have HH1 := Aside0.mk hwh1
      clear hfr1 hwh1
      go_wp2_with fail
      refine (cut17 b m 14 s1 (C : Int) w2 HW.out HI.out (by omega)).mono ?_
      rintro e w3 ⟨s2, rfl, hp, hw, hi, ht⟩
      have hfr2 : s2.fr = 7 := by rw [hp.fr, HF1.out, HH1.out]; rw [if_neg (by omega)]
      have hwh2 : s2.wh = 20 := by rw [hp.wh, HH1.out]
      have HT := Aside0.mk (HT.out.trans (ht.below hb0 hm0 HT.out.size))
      have HW := Aside0.mk hw
      have HI := Aside0.mk hi
      clear hp hw hi ht
      have HF2 := Aside0.mk hfr2
      have HH2 := Aside0.mk hwh2
      clear hfr2 hwh2
      go_wp2_with fail
      refine (cut17 b m 14 s2 (6) w3 HW.out HI.out (by omega)).mono ?_
      rintro e w4 ⟨s3, rfl, hp, hw, hi, ht⟩
      have hfr3 : s3.fr = 7 := by rw [hp.fr, HF2.out, HH2.out, if_neg (by omega)]
      have hwh3 : s3.wh = 20 := by rw [hp.wh, HH2.out]
      have HT := Aside0.mk (HT.out.trans (ht.below hb0 hm0 HT.out.size))
      have HW := Aside0.mk hw
      have HI := Aside0.mk hi
      clear hp hw hi ht
      have HF3 := Aside0.mk hfr3
      have HH3 := Aside0.mk hwh3
      go_wp2_with fail
      have hg := get18 b m 14 s3 s3.fr w4 HW.out ⟨by rw [HF3.out]; omega, by rw [HF3.out]; omega⟩
      rw [own_none HI.out, HF3.out] at hg
      simp only [Option.getD_none, Option.isSome_none] at hg
      clear hfr3 hwh3
      refine hg.mono ?_
      rintro e w5 ⟨rfl, rfl⟩
      clear hg
      go_wp2_with fail
      have hg := from19 b m 14 s3 w5 HW.out
      rw [HF3.out] at hg
      refine hg.mono ?_
      rintro e w6 ⟨rfl, rfl⟩
      clear hg
      go_wp2_with fail
      have hg := put16 b m 14 s3 s3.fr (.string ⟨#[122]⟩) w6 HW.out HI.out (by omega) ⟨by rw [HF3.out]; omega, by rw [HF3.out]; omega⟩
      rw [HF3.out] at hg
      refine hg.mono ?_
      rintro e w7 ⟨r, s4, rfl, hp, hw, hi, ht⟩
      rw [← HF3.out] at hp
      obtain ⟨rfl, rfl⟩ := put_own hp
      have HT := Aside0.mk (HT.out.trans (ht.below hb0 hm0 HT.out.size))
      have HW := Aside0.mk hw
      clear hp hw hi ht hg
      go_wp2_with fail
      have hg := whole20 b m 15 s4 w7 HW.out
      rw [HH3.out] at hg
      refine hg.mono ?_
      rintro e w8 ⟨rfl, rfl⟩
      clear hg
      go_wp2_with fail
      refine (awake14 w8).mono ?_
      rintro e w9 ⟨rfl, hb⟩
      have HT := Aside0.mk (HT.out.trans (hb.mono HT.out.size))
      clear hb
      go_wp2_with fail
      go_ret
      exact ⟨rfl, HT.out⟩

set_option maxRecDepth 100000 in
set_option maxHeartbeats 4000000 in
theorem far_bx (a0 a1 : Int) (N C : Nat) (w : World) (hbN : Go.bits .and .i64 a0 127 = (N : Int)) (hbC : Go.bits .and .i64 a1 63 = (C : Int)) (hN : N ≤ 127) (hC : C ≤ 63) (hn : (N : Int) = 21) (hc : (C : Int) ≤ 7) : Calls Try.prog 4 #[.int .i64 a0, .int .i64 a1] w (SameEnd w true) := by
  have hN0 : (0 : Int) ≤ N := by omega
  have hC0 : (0 : Int) ≤ C := by omega
  obtain rfl : N = 21 := by omega
  have c1 : ¬ (7 < (C : Int)) := by omega
  go_enter Try.func4, Try.ntmps4
  go_wp2_with fail
  refine (new15 7 w).mono ?_
  rintro e w1 ⟨b, m, rfl, hb0, hm0, hw1, hB1⟩
  have hw1 : Wn 67 w1 b m 0 ⟨7, 7, 7, fun _ => none⟩ := hw1
  have hi1 : Iv 0 ⟨7, 7, 7, fun _ => none⟩ := new_iv 7 (by decide) (by decide)
  rw [sF_zero (.string ⟨#[120]⟩)] at hw1 hi1
  have HT := Aside0.mk hB1
  have HW := Aside0.mk hw1
  have HI := Aside0.mk hi1
  clear hB1 hw1 hi1
  go_wp2_with fail
  go_loopw [6] (fun v wr => ∃ k : Nat, v = .int .i64 (8 + (k : Int)) ∧ k ≤ 13 ∧ Aside0 (Wn 67 wr b m k (sF (.string ⟨#[120]⟩) k)) ∧ Aside0 (Iv k (sF (.string ⟨#[120]⟩) k)) ∧ Aside0 (Below w.heap.size w wr)) (fun v _ => (21 - intOf v).toNat)
  case atStart => exact ⟨0, rfl, Nat.zero_le _, HW, HI, HT⟩
  case round =>
    clear HT HW HI
    obtain ⟨k, rfl, hk, HW, HI, HT⟩ := hrel
    by_cases hlt : k < 13
    · have hle : 8 + (k : Int) ≤ 20 := by omega
      go_wp2_with fail
      refine (put16 b m k (sF (.string ⟨#[120]⟩) k) (8 + (k : Int)) (.string ⟨#[120]⟩) wr HW.out HI.out (by omega) ⟨by omega, by omega⟩).mono ?_
      rintro e w2 ⟨r, s, rfl, hp, hw, hi, ht⟩
      obtain ⟨rfl, rfl⟩ := sF_put hp hi
      have HT := Aside0.mk (HT.out.trans (ht.below hb0 hm0 HT.out.size))
      have HW := Aside0.mk hw
      have HI := Aside0.mk hi
      clear hp hw hi ht
      go_wp2_with fail
      go_roundw
      case rel => exact ⟨k + 1, by push_cast; rw [show (8 : Int) + ((k : Int) + 1) = 8 + (k : Int) + 1 by omega], by omega, HW, HI, HT⟩
      case measure => simp [intOf]; omega
    · obtain rfl : k = 13 := by omega
      clear hlt hk
      have hgt : ¬ (8 + ((13 : Nat) : Int) ≤ 20) := by decide
      go_wp2_with fail
      refine (put16 b m 13 (sF (.string ⟨#[120]⟩) 13) (((21 : Nat) : Int)) (.string ⟨#[121]⟩) wr HW.out HI.out (by omega) ⟨by omega, by omega⟩).mono ?_
      rintro e w2 ⟨r, s1, rfl, hp, hw, hi, ht⟩
      obtain ⟨rfl, hfr1, hwh1⟩ := far_put hp hi
      rw [if_pos (by rfl)] at hwh1
      rw [show (decide ((20 : Int) < ((21 : Nat) : Int)) && decide (((21 : Nat) : Int) ≤ 84)) = true from by decide]
      have HT := Aside0.mk (HT.out.trans (ht.below hb0 hm0 HT.out.size))
      have HW := Aside0.mk hw
      have HI := Aside0.mk hi
      clear hp hw hi ht
      have HF1 := Aside0.mk hfr1
      have HH1 := Aside0.mk hwh1
      clear hfr1 hwh1
      go_wp2_with fail
      refine (cut17 b m 14 s1 (C : Int) w2 HW.out HI.out (by omega)).mono ?_
      rintro e w3 ⟨s2, rfl, hp, hw, hi, ht⟩
      have hfr2 : s2.fr = 7 := by rw [hp.fr, HF1.out, HH1.out]; rw [if_neg (by omega)]
      have hwh2 : s2.wh = 21 := by rw [hp.wh, HH1.out]
      have HT := Aside0.mk (HT.out.trans (ht.below hb0 hm0 HT.out.size))
      have HW := Aside0.mk hw
      have HI := Aside0.mk hi
      clear hp hw hi ht
      have HF2 := Aside0.mk hfr2
      have HH2 := Aside0.mk hwh2
      clear hfr2 hwh2
      go_wp2_with fail
      refine (cut17 b m 14 s2 (6) w3 HW.out HI.out (by omega)).mono ?_
      rintro e w4 ⟨s3, rfl, hp, hw, hi, ht⟩
      have hfr3 : s3.fr = 7 := by rw [hp.fr, HF2.out, HH2.out, if_neg (by omega)]
      have hwh3 : s3.wh = 21 := by rw [hp.wh, HH2.out]
      have HT := Aside0.mk (HT.out.trans (ht.below hb0 hm0 HT.out.size))
      have HW := Aside0.mk hw
      have HI := Aside0.mk hi
      clear hp hw hi ht
      have HF3 := Aside0.mk hfr3
      have HH3 := Aside0.mk hwh3
      go_wp2_with fail
      have hg := get18 b m 14 s3 s3.fr w4 HW.out ⟨by rw [HF3.out]; omega, by rw [HF3.out]; omega⟩
      rw [own_none HI.out, HF3.out] at hg
      simp only [Option.getD_none, Option.isSome_none] at hg
      clear hfr3 hwh3
      refine hg.mono ?_
      rintro e w5 ⟨rfl, rfl⟩
      clear hg
      go_wp2_with fail
      have hg := from19 b m 14 s3 w5 HW.out
      rw [HF3.out] at hg
      refine hg.mono ?_
      rintro e w6 ⟨rfl, rfl⟩
      clear hg
      go_wp2_with fail
      have hg := put16 b m 14 s3 s3.fr (.string ⟨#[122]⟩) w6 HW.out HI.out (by omega) ⟨by rw [HF3.out]; omega, by rw [HF3.out]; omega⟩
      rw [HF3.out] at hg
      refine hg.mono ?_
      rintro e w7 ⟨r, s4, rfl, hp, hw, hi, ht⟩
      rw [← HF3.out] at hp
      obtain ⟨rfl, rfl⟩ := put_own hp
      have HT := Aside0.mk (HT.out.trans (ht.below hb0 hm0 HT.out.size))
      have HW := Aside0.mk hw
      clear hp hw hi ht hg
      go_wp2_with fail
      have hg := whole20 b m 15 s4 w7 HW.out
      rw [HH3.out] at hg
      refine hg.mono ?_
      rintro e w8 ⟨rfl, rfl⟩
      clear hg
      go_wp2_with fail
      refine (awake14 w8).mono ?_
      rintro e w9 ⟨rfl, hb⟩
      have HT := Aside0.mk (HT.out.trans (hb.mono HT.out.size))
      clear hb
      go_wp2_with fail
      go_ret
      exact ⟨rfl, HT.out⟩

set_option maxRecDepth 100000 in
set_option maxHeartbeats 4000000 in
theorem far_by (a0 a1 : Int) (N C : Nat) (w : World) (hbN : Go.bits .and .i64 a0 127 = (N : Int)) (hbC : Go.bits .and .i64 a1 63 = (C : Int)) (hN : N ≤ 127) (hC : C ≤ 63) (hn : (N : Int) = 21) (hc : 7 < (C : Int) ∧ (C : Int) ≤ 21) : Calls Try.prog 4 #[.int .i64 a0, .int .i64 a1] w (SameEnd w true) := by
  have hN0 : (0 : Int) ≤ N := by omega
  have hC0 : (0 : Int) ≤ C := by omega
  obtain rfl : N = 21 := by omega
  have c1 : 7 < (C : Int) := by omega
  have c2 : (C : Int) ≤ 21 := by omega
  go_enter Try.func4, Try.ntmps4
  go_wp2_with fail
  refine (new15 7 w).mono ?_
  rintro e w1 ⟨b, m, rfl, hb0, hm0, hw1, hB1⟩
  have hw1 : Wn 67 w1 b m 0 ⟨7, 7, 7, fun _ => none⟩ := hw1
  have hi1 : Iv 0 ⟨7, 7, 7, fun _ => none⟩ := new_iv 7 (by decide) (by decide)
  rw [sF_zero (.string ⟨#[120]⟩)] at hw1 hi1
  have HT := Aside0.mk hB1
  have HW := Aside0.mk hw1
  have HI := Aside0.mk hi1
  clear hB1 hw1 hi1
  go_wp2_with fail
  go_loopw [6] (fun v wr => ∃ k : Nat, v = .int .i64 (8 + (k : Int)) ∧ k ≤ 13 ∧ Aside0 (Wn 67 wr b m k (sF (.string ⟨#[120]⟩) k)) ∧ Aside0 (Iv k (sF (.string ⟨#[120]⟩) k)) ∧ Aside0 (Below w.heap.size w wr)) (fun v _ => (21 - intOf v).toNat)
  case atStart => exact ⟨0, rfl, Nat.zero_le _, HW, HI, HT⟩
  case round =>
    clear HT HW HI
    obtain ⟨k, rfl, hk, HW, HI, HT⟩ := hrel
    by_cases hlt : k < 13
    · have hle : 8 + (k : Int) ≤ 20 := by omega
      go_wp2_with fail
      refine (put16 b m k (sF (.string ⟨#[120]⟩) k) (8 + (k : Int)) (.string ⟨#[120]⟩) wr HW.out HI.out (by omega) ⟨by omega, by omega⟩).mono ?_
      rintro e w2 ⟨r, s, rfl, hp, hw, hi, ht⟩
      obtain ⟨rfl, rfl⟩ := sF_put hp hi
      have HT := Aside0.mk (HT.out.trans (ht.below hb0 hm0 HT.out.size))
      have HW := Aside0.mk hw
      have HI := Aside0.mk hi
      clear hp hw hi ht
      go_wp2_with fail
      go_roundw
      case rel => exact ⟨k + 1, by push_cast; rw [show (8 : Int) + ((k : Int) + 1) = 8 + (k : Int) + 1 by omega], by omega, HW, HI, HT⟩
      case measure => simp [intOf]; omega
    · obtain rfl : k = 13 := by omega
      clear hlt hk
      have hgt : ¬ (8 + ((13 : Nat) : Int) ≤ 20) := by decide
      go_wp2_with fail
      refine (put16 b m 13 (sF (.string ⟨#[120]⟩) 13) (((21 : Nat) : Int)) (.string ⟨#[121]⟩) wr HW.out HI.out (by omega) ⟨by omega, by omega⟩).mono ?_
      rintro e w2 ⟨r, s1, rfl, hp, hw, hi, ht⟩
      obtain ⟨rfl, hfr1, hwh1⟩ := far_put hp hi
      rw [if_pos (by rfl)] at hwh1
      rw [show (decide ((20 : Int) < ((21 : Nat) : Int)) && decide (((21 : Nat) : Int) ≤ 84)) = true from by decide]
      have HT := Aside0.mk (HT.out.trans (ht.below hb0 hm0 HT.out.size))
      have HW := Aside0.mk hw
      have HI := Aside0.mk hi
      clear hp hw hi ht
      have HF1 := Aside0.mk hfr1
      have HH1 := Aside0.mk hwh1
      clear hfr1 hwh1
      go_wp2_with fail
      refine (cut17 b m 14 s1 (C : Int) w2 HW.out HI.out (by omega)).mono ?_
      rintro e w3 ⟨s2, rfl, hp, hw, hi, ht⟩
      have hfr2 : s2.fr = (C : Int) := by rw [hp.fr, HF1.out, HH1.out]; rw [if_pos (by omega)]
      have hwh2 : s2.wh = 21 := by rw [hp.wh, HH1.out]
      have HT := Aside0.mk (HT.out.trans (ht.below hb0 hm0 HT.out.size))
      have HW := Aside0.mk hw
      have HI := Aside0.mk hi
      clear hp hw hi ht
      have HF2 := Aside0.mk hfr2
      have HH2 := Aside0.mk hwh2
      clear hfr2 hwh2
      go_wp2_with fail
      refine (cut17 b m 14 s2 ((C : Int) - 1) w3 HW.out HI.out (by omega)).mono ?_
      rintro e w4 ⟨s3, rfl, hp, hw, hi, ht⟩
      have hfr3 : s3.fr = (C : Int) := by rw [hp.fr, HF2.out, HH2.out, if_neg (by omega)]
      have hwh3 : s3.wh = 21 := by rw [hp.wh, HH2.out]
      have HT := Aside0.mk (HT.out.trans (ht.below hb0 hm0 HT.out.size))
      have HW := Aside0.mk hw
      have HI := Aside0.mk hi
      clear hp hw hi ht
      have HF3 := Aside0.mk hfr3
      have HH3 := Aside0.mk hwh3
      go_wp2_with fail
      have hg := get18 b m 14 s3 s3.fr w4 HW.out ⟨by rw [HF3.out]; omega, by rw [HF3.out]; omega⟩
      rw [own_none HI.out, HF3.out] at hg
      simp only [Option.getD_none, Option.isSome_none] at hg
      clear hfr3 hwh3
      refine hg.mono ?_
      rintro e w5 ⟨rfl, rfl⟩
      clear hg
      go_wp2_with fail
      have hg := from19 b m 14 s3 w5 HW.out
      rw [HF3.out] at hg
      refine hg.mono ?_
      rintro e w6 ⟨rfl, rfl⟩
      clear hg
      go_wp2_with fail
      have hg := put16 b m 14 s3 s3.fr (.string ⟨#[122]⟩) w6 HW.out HI.out (by omega) ⟨by rw [HF3.out]; omega, by rw [HF3.out]; omega⟩
      rw [HF3.out] at hg
      refine hg.mono ?_
      rintro e w7 ⟨r, s4, rfl, hp, hw, hi, ht⟩
      rw [← HF3.out] at hp
      obtain ⟨rfl, rfl⟩ := put_own hp
      have HT := Aside0.mk (HT.out.trans (ht.below hb0 hm0 HT.out.size))
      have HW := Aside0.mk hw
      clear hp hw hi ht hg
      go_wp2_with fail
      have hg := whole20 b m 15 s4 w7 HW.out
      rw [HH3.out] at hg
      refine hg.mono ?_
      rintro e w8 ⟨rfl, rfl⟩
      clear hg
      go_wp2_with fail
      refine (awake14 w8).mono ?_
      rintro e w9 ⟨rfl, hb⟩
      have HT := Aside0.mk (HT.out.trans (hb.mono HT.out.size))
      clear hb
      go_wp2_with fail
      go_ret
      exact ⟨rfl, HT.out⟩

set_option maxRecDepth 100000 in
set_option maxHeartbeats 4000000 in
theorem far_bz (a0 a1 : Int) (N C : Nat) (w : World) (hbN : Go.bits .and .i64 a0 127 = (N : Int)) (hbC : Go.bits .and .i64 a1 63 = (C : Int)) (hN : N ≤ 127) (hC : C ≤ 63) (hn : (N : Int) = 21) (hc : 21 < (C : Int)) : Calls Try.prog 4 #[.int .i64 a0, .int .i64 a1] w (SameEnd w true) := by
  have hN0 : (0 : Int) ≤ N := by omega
  have hC0 : (0 : Int) ≤ C := by omega
  obtain rfl : N = 21 := by omega
  have c1 : 7 < (C : Int) := by omega
  have c2 : ¬ ((C : Int) ≤ 21) := by omega
  go_enter Try.func4, Try.ntmps4
  go_wp2_with fail
  refine (new15 7 w).mono ?_
  rintro e w1 ⟨b, m, rfl, hb0, hm0, hw1, hB1⟩
  have hw1 : Wn 67 w1 b m 0 ⟨7, 7, 7, fun _ => none⟩ := hw1
  have hi1 : Iv 0 ⟨7, 7, 7, fun _ => none⟩ := new_iv 7 (by decide) (by decide)
  rw [sF_zero (.string ⟨#[120]⟩)] at hw1 hi1
  have HT := Aside0.mk hB1
  have HW := Aside0.mk hw1
  have HI := Aside0.mk hi1
  clear hB1 hw1 hi1
  go_wp2_with fail
  go_loopw [6] (fun v wr => ∃ k : Nat, v = .int .i64 (8 + (k : Int)) ∧ k ≤ 13 ∧ Aside0 (Wn 67 wr b m k (sF (.string ⟨#[120]⟩) k)) ∧ Aside0 (Iv k (sF (.string ⟨#[120]⟩) k)) ∧ Aside0 (Below w.heap.size w wr)) (fun v _ => (21 - intOf v).toNat)
  case atStart => exact ⟨0, rfl, Nat.zero_le _, HW, HI, HT⟩
  case round =>
    clear HT HW HI
    obtain ⟨k, rfl, hk, HW, HI, HT⟩ := hrel
    by_cases hlt : k < 13
    · have hle : 8 + (k : Int) ≤ 20 := by omega
      go_wp2_with fail
      refine (put16 b m k (sF (.string ⟨#[120]⟩) k) (8 + (k : Int)) (.string ⟨#[120]⟩) wr HW.out HI.out (by omega) ⟨by omega, by omega⟩).mono ?_
      rintro e w2 ⟨r, s, rfl, hp, hw, hi, ht⟩
      obtain ⟨rfl, rfl⟩ := sF_put hp hi
      have HT := Aside0.mk (HT.out.trans (ht.below hb0 hm0 HT.out.size))
      have HW := Aside0.mk hw
      have HI := Aside0.mk hi
      clear hp hw hi ht
      go_wp2_with fail
      go_roundw
      case rel => exact ⟨k + 1, by push_cast; rw [show (8 : Int) + ((k : Int) + 1) = 8 + (k : Int) + 1 by omega], by omega, HW, HI, HT⟩
      case measure => simp [intOf]; omega
    · obtain rfl : k = 13 := by omega
      clear hlt hk
      have hgt : ¬ (8 + ((13 : Nat) : Int) ≤ 20) := by decide
      go_wp2_with fail
      refine (put16 b m 13 (sF (.string ⟨#[120]⟩) 13) (((21 : Nat) : Int)) (.string ⟨#[121]⟩) wr HW.out HI.out (by omega) ⟨by omega, by omega⟩).mono ?_
      rintro e w2 ⟨r, s1, rfl, hp, hw, hi, ht⟩
      obtain ⟨rfl, hfr1, hwh1⟩ := far_put hp hi
      rw [if_pos (by rfl)] at hwh1
      rw [show (decide ((20 : Int) < ((21 : Nat) : Int)) && decide (((21 : Nat) : Int) ≤ 84)) = true from by decide]
      have HT := Aside0.mk (HT.out.trans (ht.below hb0 hm0 HT.out.size))
      have HW := Aside0.mk hw
      have HI := Aside0.mk hi
      clear hp hw hi ht
      have HF1 := Aside0.mk hfr1
      have HH1 := Aside0.mk hwh1
      clear hfr1 hwh1
      go_wp2_with fail
      refine (cut17 b m 14 s1 (C : Int) w2 HW.out HI.out (by omega)).mono ?_
      rintro e w3 ⟨s2, rfl, hp, hw, hi, ht⟩
      have hfr2 : s2.fr = 7 := by rw [hp.fr, HF1.out, HH1.out]; rw [if_neg (by omega)]
      have hwh2 : s2.wh = 21 := by rw [hp.wh, HH1.out]
      have HT := Aside0.mk (HT.out.trans (ht.below hb0 hm0 HT.out.size))
      have HW := Aside0.mk hw
      have HI := Aside0.mk hi
      clear hp hw hi ht
      have HF2 := Aside0.mk hfr2
      have HH2 := Aside0.mk hwh2
      clear hfr2 hwh2
      go_wp2_with fail
      refine (cut17 b m 14 s2 (6) w3 HW.out HI.out (by omega)).mono ?_
      rintro e w4 ⟨s3, rfl, hp, hw, hi, ht⟩
      have hfr3 : s3.fr = 7 := by rw [hp.fr, HF2.out, HH2.out, if_neg (by omega)]
      have hwh3 : s3.wh = 21 := by rw [hp.wh, HH2.out]
      have HT := Aside0.mk (HT.out.trans (ht.below hb0 hm0 HT.out.size))
      have HW := Aside0.mk hw
      have HI := Aside0.mk hi
      clear hp hw hi ht
      have HF3 := Aside0.mk hfr3
      have HH3 := Aside0.mk hwh3
      go_wp2_with fail
      have hg := get18 b m 14 s3 s3.fr w4 HW.out ⟨by rw [HF3.out]; omega, by rw [HF3.out]; omega⟩
      rw [own_none HI.out, HF3.out] at hg
      simp only [Option.getD_none, Option.isSome_none] at hg
      clear hfr3 hwh3
      refine hg.mono ?_
      rintro e w5 ⟨rfl, rfl⟩
      clear hg
      go_wp2_with fail
      have hg := from19 b m 14 s3 w5 HW.out
      rw [HF3.out] at hg
      refine hg.mono ?_
      rintro e w6 ⟨rfl, rfl⟩
      clear hg
      go_wp2_with fail
      have hg := put16 b m 14 s3 s3.fr (.string ⟨#[122]⟩) w6 HW.out HI.out (by omega) ⟨by rw [HF3.out]; omega, by rw [HF3.out]; omega⟩
      rw [HF3.out] at hg
      refine hg.mono ?_
      rintro e w7 ⟨r, s4, rfl, hp, hw, hi, ht⟩
      rw [← HF3.out] at hp
      obtain ⟨rfl, rfl⟩ := put_own hp
      have HT := Aside0.mk (HT.out.trans (ht.below hb0 hm0 HT.out.size))
      have HW := Aside0.mk hw
      clear hp hw hi ht hg
      go_wp2_with fail
      have hg := whole20 b m 15 s4 w7 HW.out
      rw [HH3.out] at hg
      refine hg.mono ?_
      rintro e w8 ⟨rfl, rfl⟩
      clear hg
      go_wp2_with fail
      refine (awake14 w8).mono ?_
      rintro e w9 ⟨rfl, hb⟩
      have HT := Aside0.mk (HT.out.trans (hb.mono HT.out.size))
      clear hb
      go_wp2_with fail
      go_ret
      exact ⟨rfl, HT.out⟩

set_option maxRecDepth 100000 in
set_option maxHeartbeats 4000000 in
theorem far_cx (a0 a1 : Int) (N C : Nat) (w : World) (hbN : Go.bits .and .i64 a0 127 = (N : Int)) (hbC : Go.bits .and .i64 a1 63 = (C : Int)) (hN : N ≤ 127) (hC : C ≤ 63) (hn : 21 < (N : Int) ∧ (N : Int) ≤ 84) (hc : (C : Int) ≤ 7) : Calls Try.prog 4 #[.int .i64 a0, .int .i64 a1] w (SameEnd w true) := by
  have hN0 : (0 : Int) ≤ N := by omega
  have hC0 : (0 : Int) ≤ C := by omega
  have g1 : 20 < (N : Int) := by omega
  have g2 : (N : Int) ≤ 84 := by omega
  have g3 : ¬ ((N : Int) = 21) := by omega
  have c1 : ¬ (7 < (C : Int)) := by omega
  go_enter Try.func4, Try.ntmps4
  go_wp2_with fail
  refine (new15 7 w).mono ?_
  rintro e w1 ⟨b, m, rfl, hb0, hm0, hw1, hB1⟩
  have hw1 : Wn 67 w1 b m 0 ⟨7, 7, 7, fun _ => none⟩ := hw1
  have hi1 : Iv 0 ⟨7, 7, 7, fun _ => none⟩ := new_iv 7 (by decide) (by decide)
  rw [sF_zero (.string ⟨#[120]⟩)] at hw1 hi1
  have HT := Aside0.mk hB1
  have HW := Aside0.mk hw1
  have HI := Aside0.mk hi1
  clear hB1 hw1 hi1
  go_wp2_with fail
  go_loopw [6] (fun v wr => ∃ k : Nat, v = .int .i64 (8 + (k : Int)) ∧ k ≤ 13 ∧ Aside0 (Wn 67 wr b m k (sF (.string ⟨#[120]⟩) k)) ∧ Aside0 (Iv k (sF (.string ⟨#[120]⟩) k)) ∧ Aside0 (Below w.heap.size w wr)) (fun v _ => (21 - intOf v).toNat)
  case atStart => exact ⟨0, rfl, Nat.zero_le _, HW, HI, HT⟩
  case round =>
    clear HT HW HI
    obtain ⟨k, rfl, hk, HW, HI, HT⟩ := hrel
    by_cases hlt : k < 13
    · have hle : 8 + (k : Int) ≤ 20 := by omega
      go_wp2_with fail
      refine (put16 b m k (sF (.string ⟨#[120]⟩) k) (8 + (k : Int)) (.string ⟨#[120]⟩) wr HW.out HI.out (by omega) ⟨by omega, by omega⟩).mono ?_
      rintro e w2 ⟨r, s, rfl, hp, hw, hi, ht⟩
      obtain ⟨rfl, rfl⟩ := sF_put hp hi
      have HT := Aside0.mk (HT.out.trans (ht.below hb0 hm0 HT.out.size))
      have HW := Aside0.mk hw
      have HI := Aside0.mk hi
      clear hp hw hi ht
      go_wp2_with fail
      go_roundw
      case rel => exact ⟨k + 1, by push_cast; rw [show (8 : Int) + ((k : Int) + 1) = 8 + (k : Int) + 1 by omega], by omega, HW, HI, HT⟩
      case measure => simp [intOf]; omega
    · obtain rfl : k = 13 := by omega
      clear hlt hk
      have hgt : ¬ (8 + ((13 : Nat) : Int) ≤ 20) := by decide
      go_wp2_with fail
      refine (put16 b m 13 (sF (.string ⟨#[120]⟩) 13) ((N : Int)) (.string ⟨#[121]⟩) wr HW.out HI.out (by omega) ⟨by omega, by omega⟩).mono ?_
      rintro e w2 ⟨r, s1, rfl, hp, hw, hi, ht⟩
      obtain ⟨rfl, hfr1, hwh1⟩ := far_put hp hi
      rw [if_neg g3] at hwh1
      rw [decide_eq_true g1, decide_eq_true g2]
      simp only [Bool.and_true, Bool.and_false, Bool.false_and, Bool.true_and]
      have HT := Aside0.mk (HT.out.trans (ht.below hb0 hm0 HT.out.size))
      have HW := Aside0.mk hw
      have HI := Aside0.mk hi
      clear hp hw hi ht
      have HF1 := Aside0.mk hfr1
      have HH1 := Aside0.mk hwh1
      clear hfr1 hwh1
      go_wp2_with fail
      refine (cut17 b m 14 s1 (C : Int) w2 HW.out HI.out (by omega)).mono ?_
      rintro e w3 ⟨s2, rfl, hp, hw, hi, ht⟩
      have hfr2 : s2.fr = 7 := by rw [hp.fr, HF1.out, HH1.out]; rw [if_neg (by omega)]
      have hwh2 : s2.wh = 20 := by rw [hp.wh, HH1.out]
      have HT := Aside0.mk (HT.out.trans (ht.below hb0 hm0 HT.out.size))
      have HW := Aside0.mk hw
      have HI := Aside0.mk hi
      clear hp hw hi ht
      have HF2 := Aside0.mk hfr2
      have HH2 := Aside0.mk hwh2
      clear hfr2 hwh2
      go_wp2_with fail
      refine (cut17 b m 14 s2 (6) w3 HW.out HI.out (by omega)).mono ?_
      rintro e w4 ⟨s3, rfl, hp, hw, hi, ht⟩
      have hfr3 : s3.fr = 7 := by rw [hp.fr, HF2.out, HH2.out, if_neg (by omega)]
      have hwh3 : s3.wh = 20 := by rw [hp.wh, HH2.out]
      have HT := Aside0.mk (HT.out.trans (ht.below hb0 hm0 HT.out.size))
      have HW := Aside0.mk hw
      have HI := Aside0.mk hi
      clear hp hw hi ht
      have HF3 := Aside0.mk hfr3
      have HH3 := Aside0.mk hwh3
      go_wp2_with fail
      have hg := get18 b m 14 s3 s3.fr w4 HW.out ⟨by rw [HF3.out]; omega, by rw [HF3.out]; omega⟩
      rw [own_none HI.out, HF3.out] at hg
      simp only [Option.getD_none, Option.isSome_none] at hg
      clear hfr3 hwh3
      refine hg.mono ?_
      rintro e w5 ⟨rfl, rfl⟩
      clear hg
      go_wp2_with fail
      have hg := from19 b m 14 s3 w5 HW.out
      rw [HF3.out] at hg
      refine hg.mono ?_
      rintro e w6 ⟨rfl, rfl⟩
      clear hg
      go_wp2_with fail
      have hg := put16 b m 14 s3 s3.fr (.string ⟨#[122]⟩) w6 HW.out HI.out (by omega) ⟨by rw [HF3.out]; omega, by rw [HF3.out]; omega⟩
      rw [HF3.out] at hg
      refine hg.mono ?_
      rintro e w7 ⟨r, s4, rfl, hp, hw, hi, ht⟩
      rw [← HF3.out] at hp
      obtain ⟨rfl, rfl⟩ := put_own hp
      have HT := Aside0.mk (HT.out.trans (ht.below hb0 hm0 HT.out.size))
      have HW := Aside0.mk hw
      clear hp hw hi ht hg
      go_wp2_with fail
      have hg := whole20 b m 15 s4 w7 HW.out
      rw [HH3.out] at hg
      refine hg.mono ?_
      rintro e w8 ⟨rfl, rfl⟩
      clear hg
      go_wp2_with fail
      refine (awake14 w8).mono ?_
      rintro e w9 ⟨rfl, hb⟩
      have HT := Aside0.mk (HT.out.trans (hb.mono HT.out.size))
      clear hb
      go_wp2_with fail
      go_ret
      exact ⟨rfl, HT.out⟩

set_option maxRecDepth 100000 in
set_option maxHeartbeats 4000000 in
theorem far_cy (a0 a1 : Int) (N C : Nat) (w : World) (hbN : Go.bits .and .i64 a0 127 = (N : Int)) (hbC : Go.bits .and .i64 a1 63 = (C : Int)) (hN : N ≤ 127) (hC : C ≤ 63) (hn : 21 < (N : Int) ∧ (N : Int) ≤ 84) (hc : 7 < (C : Int) ∧ (C : Int) ≤ 20) : Calls Try.prog 4 #[.int .i64 a0, .int .i64 a1] w (SameEnd w true) := by
  have hN0 : (0 : Int) ≤ N := by omega
  have hC0 : (0 : Int) ≤ C := by omega
  have g1 : 20 < (N : Int) := by omega
  have g2 : (N : Int) ≤ 84 := by omega
  have g3 : ¬ ((N : Int) = 21) := by omega
  have c1 : 7 < (C : Int) := by omega
  have c2 : (C : Int) ≤ 20 := by omega
  go_enter Try.func4, Try.ntmps4
  go_wp2_with fail
  refine (new15 7 w).mono ?_
  rintro e w1 ⟨b, m, rfl, hb0, hm0, hw1, hB1⟩
  have hw1 : Wn 67 w1 b m 0 ⟨7, 7, 7, fun _ => none⟩ := hw1
  have hi1 : Iv 0 ⟨7, 7, 7, fun _ => none⟩ := new_iv 7 (by decide) (by decide)
  rw [sF_zero (.string ⟨#[120]⟩)] at hw1 hi1
  have HT := Aside0.mk hB1
  have HW := Aside0.mk hw1
  have HI := Aside0.mk hi1
  clear hB1 hw1 hi1
  go_wp2_with fail
  go_loopw [6] (fun v wr => ∃ k : Nat, v = .int .i64 (8 + (k : Int)) ∧ k ≤ 13 ∧ Aside0 (Wn 67 wr b m k (sF (.string ⟨#[120]⟩) k)) ∧ Aside0 (Iv k (sF (.string ⟨#[120]⟩) k)) ∧ Aside0 (Below w.heap.size w wr)) (fun v _ => (21 - intOf v).toNat)
  case atStart => exact ⟨0, rfl, Nat.zero_le _, HW, HI, HT⟩
  case round =>
    clear HT HW HI
    obtain ⟨k, rfl, hk, HW, HI, HT⟩ := hrel
    by_cases hlt : k < 13
    · have hle : 8 + (k : Int) ≤ 20 := by omega
      go_wp2_with fail
      refine (put16 b m k (sF (.string ⟨#[120]⟩) k) (8 + (k : Int)) (.string ⟨#[120]⟩) wr HW.out HI.out (by omega) ⟨by omega, by omega⟩).mono ?_
      rintro e w2 ⟨r, s, rfl, hp, hw, hi, ht⟩
      obtain ⟨rfl, rfl⟩ := sF_put hp hi
      have HT := Aside0.mk (HT.out.trans (ht.below hb0 hm0 HT.out.size))
      have HW := Aside0.mk hw
      have HI := Aside0.mk hi
      clear hp hw hi ht
      go_wp2_with fail
      go_roundw
      case rel => exact ⟨k + 1, by push_cast; rw [show (8 : Int) + ((k : Int) + 1) = 8 + (k : Int) + 1 by omega], by omega, HW, HI, HT⟩
      case measure => simp [intOf]; omega
    · obtain rfl : k = 13 := by omega
      clear hlt hk
      have hgt : ¬ (8 + ((13 : Nat) : Int) ≤ 20) := by decide
      go_wp2_with fail
      refine (put16 b m 13 (sF (.string ⟨#[120]⟩) 13) ((N : Int)) (.string ⟨#[121]⟩) wr HW.out HI.out (by omega) ⟨by omega, by omega⟩).mono ?_
      rintro e w2 ⟨r, s1, rfl, hp, hw, hi, ht⟩
      obtain ⟨rfl, hfr1, hwh1⟩ := far_put hp hi
      rw [if_neg g3] at hwh1
      rw [decide_eq_true g1, decide_eq_true g2]
      simp only [Bool.and_true, Bool.and_false, Bool.false_and, Bool.true_and]
      have HT := Aside0.mk (HT.out.trans (ht.below hb0 hm0 HT.out.size))
      have HW := Aside0.mk hw
      have HI := Aside0.mk hi
      clear hp hw hi ht
      have HF1 := Aside0.mk hfr1
      have HH1 := Aside0.mk hwh1
      clear hfr1 hwh1
      go_wp2_with fail
      refine (cut17 b m 14 s1 (C : Int) w2 HW.out HI.out (by omega)).mono ?_
      rintro e w3 ⟨s2, rfl, hp, hw, hi, ht⟩
      have hfr2 : s2.fr = (C : Int) := by rw [hp.fr, HF1.out, HH1.out]; rw [if_pos (by omega)]
      have hwh2 : s2.wh = 20 := by rw [hp.wh, HH1.out]
      have HT := Aside0.mk (HT.out.trans (ht.below hb0 hm0 HT.out.size))
      have HW := Aside0.mk hw
      have HI := Aside0.mk hi
      clear hp hw hi ht
      have HF2 := Aside0.mk hfr2
      have HH2 := Aside0.mk hwh2
      clear hfr2 hwh2
      go_wp2_with fail
      refine (cut17 b m 14 s2 ((C : Int) - 1) w3 HW.out HI.out (by omega)).mono ?_
      rintro e w4 ⟨s3, rfl, hp, hw, hi, ht⟩
      have hfr3 : s3.fr = (C : Int) := by rw [hp.fr, HF2.out, HH2.out, if_neg (by omega)]
      have hwh3 : s3.wh = 20 := by rw [hp.wh, HH2.out]
      have HT := Aside0.mk (HT.out.trans (ht.below hb0 hm0 HT.out.size))
      have HW := Aside0.mk hw
      have HI := Aside0.mk hi
      clear hp hw hi ht
      have HF3 := Aside0.mk hfr3
      have HH3 := Aside0.mk hwh3
      go_wp2_with fail
      have hg := get18 b m 14 s3 s3.fr w4 HW.out ⟨by rw [HF3.out]; omega, by rw [HF3.out]; omega⟩
      rw [own_none HI.out, HF3.out] at hg
      simp only [Option.getD_none, Option.isSome_none] at hg
      clear hfr3 hwh3
      refine hg.mono ?_
      rintro e w5 ⟨rfl, rfl⟩
      clear hg
      go_wp2_with fail
      have hg := from19 b m 14 s3 w5 HW.out
      rw [HF3.out] at hg
      refine hg.mono ?_
      rintro e w6 ⟨rfl, rfl⟩
      clear hg
      go_wp2_with fail
      have hg := put16 b m 14 s3 s3.fr (.string ⟨#[122]⟩) w6 HW.out HI.out (by omega) ⟨by rw [HF3.out]; omega, by rw [HF3.out]; omega⟩
      rw [HF3.out] at hg
      refine hg.mono ?_
      rintro e w7 ⟨r, s4, rfl, hp, hw, hi, ht⟩
      rw [← HF3.out] at hp
      obtain ⟨rfl, rfl⟩ := put_own hp
      have HT := Aside0.mk (HT.out.trans (ht.below hb0 hm0 HT.out.size))
      have HW := Aside0.mk hw
      clear hp hw hi ht hg
      go_wp2_with fail
      have hg := whole20 b m 15 s4 w7 HW.out
      rw [HH3.out] at hg
      refine hg.mono ?_
      rintro e w8 ⟨rfl, rfl⟩
      clear hg
      go_wp2_with fail
      refine (awake14 w8).mono ?_
      rintro e w9 ⟨rfl, hb⟩
      have HT := Aside0.mk (HT.out.trans (hb.mono HT.out.size))
      clear hb
      go_wp2_with fail
      go_ret
      exact ⟨rfl, HT.out⟩

set_option maxRecDepth 100000 in
set_option maxHeartbeats 4000000 in
theorem far_cz (a0 a1 : Int) (N C : Nat) (w : World) (hbN : Go.bits .and .i64 a0 127 = (N : Int)) (hbC : Go.bits .and .i64 a1 63 = (C : Int)) (hN : N ≤ 127) (hC : C ≤ 63) (hn : 21 < (N : Int) ∧ (N : Int) ≤ 84) (hc : 20 < (C : Int)) : Calls Try.prog 4 #[.int .i64 a0, .int .i64 a1] w (SameEnd w true) := by
  have hN0 : (0 : Int) ≤ N := by omega
  have hC0 : (0 : Int) ≤ C := by omega
  have g1 : 20 < (N : Int) := by omega
  have g2 : (N : Int) ≤ 84 := by omega
  have g3 : ¬ ((N : Int) = 21) := by omega
  have c1 : 7 < (C : Int) := by omega
  have c2 : ¬ ((C : Int) ≤ 20) := by omega
  go_enter Try.func4, Try.ntmps4
  go_wp2_with fail
  refine (new15 7 w).mono ?_
  rintro e w1 ⟨b, m, rfl, hb0, hm0, hw1, hB1⟩
  have hw1 : Wn 67 w1 b m 0 ⟨7, 7, 7, fun _ => none⟩ := hw1
  have hi1 : Iv 0 ⟨7, 7, 7, fun _ => none⟩ := new_iv 7 (by decide) (by decide)
  rw [sF_zero (.string ⟨#[120]⟩)] at hw1 hi1
  have HT := Aside0.mk hB1
  have HW := Aside0.mk hw1
  have HI := Aside0.mk hi1
  clear hB1 hw1 hi1
  go_wp2_with fail
  go_loopw [6] (fun v wr => ∃ k : Nat, v = .int .i64 (8 + (k : Int)) ∧ k ≤ 13 ∧ Aside0 (Wn 67 wr b m k (sF (.string ⟨#[120]⟩) k)) ∧ Aside0 (Iv k (sF (.string ⟨#[120]⟩) k)) ∧ Aside0 (Below w.heap.size w wr)) (fun v _ => (21 - intOf v).toNat)
  case atStart => exact ⟨0, rfl, Nat.zero_le _, HW, HI, HT⟩
  case round =>
    clear HT HW HI
    obtain ⟨k, rfl, hk, HW, HI, HT⟩ := hrel
    by_cases hlt : k < 13
    · have hle : 8 + (k : Int) ≤ 20 := by omega
      go_wp2_with fail
      refine (put16 b m k (sF (.string ⟨#[120]⟩) k) (8 + (k : Int)) (.string ⟨#[120]⟩) wr HW.out HI.out (by omega) ⟨by omega, by omega⟩).mono ?_
      rintro e w2 ⟨r, s, rfl, hp, hw, hi, ht⟩
      obtain ⟨rfl, rfl⟩ := sF_put hp hi
      have HT := Aside0.mk (HT.out.trans (ht.below hb0 hm0 HT.out.size))
      have HW := Aside0.mk hw
      have HI := Aside0.mk hi
      clear hp hw hi ht
      go_wp2_with fail
      go_roundw
      case rel => exact ⟨k + 1, by push_cast; rw [show (8 : Int) + ((k : Int) + 1) = 8 + (k : Int) + 1 by omega], by omega, HW, HI, HT⟩
      case measure => simp [intOf]; omega
    · obtain rfl : k = 13 := by omega
      clear hlt hk
      have hgt : ¬ (8 + ((13 : Nat) : Int) ≤ 20) := by decide
      go_wp2_with fail
      refine (put16 b m 13 (sF (.string ⟨#[120]⟩) 13) ((N : Int)) (.string ⟨#[121]⟩) wr HW.out HI.out (by omega) ⟨by omega, by omega⟩).mono ?_
      rintro e w2 ⟨r, s1, rfl, hp, hw, hi, ht⟩
      obtain ⟨rfl, hfr1, hwh1⟩ := far_put hp hi
      rw [if_neg g3] at hwh1
      rw [decide_eq_true g1, decide_eq_true g2]
      simp only [Bool.and_true, Bool.and_false, Bool.false_and, Bool.true_and]
      have HT := Aside0.mk (HT.out.trans (ht.below hb0 hm0 HT.out.size))
      have HW := Aside0.mk hw
      have HI := Aside0.mk hi
      clear hp hw hi ht
      have HF1 := Aside0.mk hfr1
      have HH1 := Aside0.mk hwh1
      clear hfr1 hwh1
      go_wp2_with fail
      refine (cut17 b m 14 s1 (C : Int) w2 HW.out HI.out (by omega)).mono ?_
      rintro e w3 ⟨s2, rfl, hp, hw, hi, ht⟩
      have hfr2 : s2.fr = 7 := by rw [hp.fr, HF1.out, HH1.out]; rw [if_neg (by omega)]
      have hwh2 : s2.wh = 20 := by rw [hp.wh, HH1.out]
      have HT := Aside0.mk (HT.out.trans (ht.below hb0 hm0 HT.out.size))
      have HW := Aside0.mk hw
      have HI := Aside0.mk hi
      clear hp hw hi ht
      have HF2 := Aside0.mk hfr2
      have HH2 := Aside0.mk hwh2
      clear hfr2 hwh2
      go_wp2_with fail
      refine (cut17 b m 14 s2 (6) w3 HW.out HI.out (by omega)).mono ?_
      rintro e w4 ⟨s3, rfl, hp, hw, hi, ht⟩
      have hfr3 : s3.fr = 7 := by rw [hp.fr, HF2.out, HH2.out, if_neg (by omega)]
      have hwh3 : s3.wh = 20 := by rw [hp.wh, HH2.out]
      have HT := Aside0.mk (HT.out.trans (ht.below hb0 hm0 HT.out.size))
      have HW := Aside0.mk hw
      have HI := Aside0.mk hi
      clear hp hw hi ht
      have HF3 := Aside0.mk hfr3
      have HH3 := Aside0.mk hwh3
      go_wp2_with fail
      have hg := get18 b m 14 s3 s3.fr w4 HW.out ⟨by rw [HF3.out]; omega, by rw [HF3.out]; omega⟩
      rw [own_none HI.out, HF3.out] at hg
      simp only [Option.getD_none, Option.isSome_none] at hg
      clear hfr3 hwh3
      refine hg.mono ?_
      rintro e w5 ⟨rfl, rfl⟩
      clear hg
      go_wp2_with fail
      have hg := from19 b m 14 s3 w5 HW.out
      rw [HF3.out] at hg
      refine hg.mono ?_
      rintro e w6 ⟨rfl, rfl⟩
      clear hg
      go_wp2_with fail
      have hg := put16 b m 14 s3 s3.fr (.string ⟨#[122]⟩) w6 HW.out HI.out (by omega) ⟨by rw [HF3.out]; omega, by rw [HF3.out]; omega⟩
      rw [HF3.out] at hg
      refine hg.mono ?_
      rintro e w7 ⟨r, s4, rfl, hp, hw, hi, ht⟩
      rw [← HF3.out] at hp
      obtain ⟨rfl, rfl⟩ := put_own hp
      have HT := Aside0.mk (HT.out.trans (ht.below hb0 hm0 HT.out.size))
      have HW := Aside0.mk hw
      clear hp hw hi ht hg
      go_wp2_with fail
      have hg := whole20 b m 15 s4 w7 HW.out
      rw [HH3.out] at hg
      refine hg.mono ?_
      rintro e w8 ⟨rfl, rfl⟩
      clear hg
      go_wp2_with fail
      refine (awake14 w8).mono ?_
      rintro e w9 ⟨rfl, hb⟩
      have HT := Aside0.mk (HT.out.trans (hb.mono HT.out.size))
      clear hb
      go_wp2_with fail
      go_ret
      exact ⟨rfl, HT.out⟩

set_option maxRecDepth 100000 in
set_option maxHeartbeats 4000000 in
theorem far_dx (a0 a1 : Int) (N C : Nat) (w : World) (hbN : Go.bits .and .i64 a0 127 = (N : Int)) (hbC : Go.bits .and .i64 a1 63 = (C : Int)) (hN : N ≤ 127) (hC : C ≤ 63) (hn : 84 < (N : Int)) (hc : (C : Int) ≤ 7) : Calls Try.prog 4 #[.int .i64 a0, .int .i64 a1] w (SameEnd w true) := by
  have hN0 : (0 : Int) ≤ N := by omega
  have hC0 : (0 : Int) ≤ C := by omega
  have g1 : 20 < (N : Int) := by omega
  have g2 : ¬ ((N : Int) ≤ 84) := by omega
  have g3 : ¬ ((N : Int) = 21) := by omega
  have c1 : ¬ (7 < (C : Int)) := by omega
  go_enter Try.func4, Try.ntmps4
  go_wp2_with fail
  refine (new15 7 w).mono ?_
  rintro e w1 ⟨b, m, rfl, hb0, hm0, hw1, hB1⟩
  have hw1 : Wn 67 w1 b m 0 ⟨7, 7, 7, fun _ => none⟩ := hw1
  have hi1 : Iv 0 ⟨7, 7, 7, fun _ => none⟩ := new_iv 7 (by decide) (by decide)
  rw [sF_zero (.string ⟨#[120]⟩)] at hw1 hi1
  have HT := Aside0.mk hB1
  have HW := Aside0.mk hw1
  have HI := Aside0.mk hi1
  clear hB1 hw1 hi1
  go_wp2_with fail
  go_loopw [6] (fun v wr => ∃ k : Nat, v = .int .i64 (8 + (k : Int)) ∧ k ≤ 13 ∧ Aside0 (Wn 67 wr b m k (sF (.string ⟨#[120]⟩) k)) ∧ Aside0 (Iv k (sF (.string ⟨#[120]⟩) k)) ∧ Aside0 (Below w.heap.size w wr)) (fun v _ => (21 - intOf v).toNat)
  case atStart => exact ⟨0, rfl, Nat.zero_le _, HW, HI, HT⟩
  case round =>
    clear HT HW HI
    obtain ⟨k, rfl, hk, HW, HI, HT⟩ := hrel
    by_cases hlt : k < 13
    · have hle : 8 + (k : Int) ≤ 20 := by omega
      go_wp2_with fail
      refine (put16 b m k (sF (.string ⟨#[120]⟩) k) (8 + (k : Int)) (.string ⟨#[120]⟩) wr HW.out HI.out (by omega) ⟨by omega, by omega⟩).mono ?_
      rintro e w2 ⟨r, s, rfl, hp, hw, hi, ht⟩
      obtain ⟨rfl, rfl⟩ := sF_put hp hi
      have HT := Aside0.mk (HT.out.trans (ht.below hb0 hm0 HT.out.size))
      have HW := Aside0.mk hw
      have HI := Aside0.mk hi
      clear hp hw hi ht
      go_wp2_with fail
      go_roundw
      case rel => exact ⟨k + 1, by push_cast; rw [show (8 : Int) + ((k : Int) + 1) = 8 + (k : Int) + 1 by omega], by omega, HW, HI, HT⟩
      case measure => simp [intOf]; omega
    · obtain rfl : k = 13 := by omega
      clear hlt hk
      have hgt : ¬ (8 + ((13 : Nat) : Int) ≤ 20) := by decide
      go_wp2_with fail
      refine (put16 b m 13 (sF (.string ⟨#[120]⟩) 13) ((N : Int)) (.string ⟨#[121]⟩) wr HW.out HI.out (by omega) ⟨by omega, by omega⟩).mono ?_
      rintro e w2 ⟨r, s1, rfl, hp, hw, hi, ht⟩
      obtain ⟨rfl, hfr1, hwh1⟩ := far_put hp hi
      rw [if_neg g3] at hwh1
      rw [decide_eq_true g1, decide_eq_false (show ¬ ((N : Int) ≤ 84) by omega)]
      simp only [Bool.and_true, Bool.and_false, Bool.false_and, Bool.true_and]
      have HT := Aside0.mk (HT.out.trans (ht.below hb0 hm0 HT.out.size))
      have HW := Aside0.mk hw
      have HI := Aside0.mk hi
      clear hp hw hi ht
      have HF1 := Aside0.mk hfr1
      have HH1 := Aside0.mk hwh1
      clear hfr1 hwh1
      go_wp2_with fail
      refine (cut17 b m 14 s1 (C : Int) w2 HW.out HI.out (by omega)).mono ?_
      rintro e w3 ⟨s2, rfl, hp, hw, hi, ht⟩
      have hfr2 : s2.fr = 7 := by rw [hp.fr, HF1.out, HH1.out]; rw [if_neg (by omega)]
      have hwh2 : s2.wh = 20 := by rw [hp.wh, HH1.out]
      have HT := Aside0.mk (HT.out.trans (ht.below hb0 hm0 HT.out.size))
      have HW := Aside0.mk hw
      have HI := Aside0.mk hi
      clear hp hw hi ht
      have HF2 := Aside0.mk hfr2
      have HH2 := Aside0.mk hwh2
      clear hfr2 hwh2
      go_wp2_with fail
      refine (cut17 b m 14 s2 (6) w3 HW.out HI.out (by omega)).mono ?_
      rintro e w4 ⟨s3, rfl, hp, hw, hi, ht⟩
      have hfr3 : s3.fr = 7 := by rw [hp.fr, HF2.out, HH2.out, if_neg (by omega)]
      have hwh3 : s3.wh = 20 := by rw [hp.wh, HH2.out]
      have HT := Aside0.mk (HT.out.trans (ht.below hb0 hm0 HT.out.size))
      have HW := Aside0.mk hw
      have HI := Aside0.mk hi
      clear hp hw hi ht
      have HF3 := Aside0.mk hfr3
      have HH3 := Aside0.mk hwh3
      go_wp2_with fail
      have hg := get18 b m 14 s3 s3.fr w4 HW.out ⟨by rw [HF3.out]; omega, by rw [HF3.out]; omega⟩
      rw [own_none HI.out, HF3.out] at hg
      simp only [Option.getD_none, Option.isSome_none] at hg
      clear hfr3 hwh3
      refine hg.mono ?_
      rintro e w5 ⟨rfl, rfl⟩
      clear hg
      go_wp2_with fail
      have hg := from19 b m 14 s3 w5 HW.out
      rw [HF3.out] at hg
      refine hg.mono ?_
      rintro e w6 ⟨rfl, rfl⟩
      clear hg
      go_wp2_with fail
      have hg := put16 b m 14 s3 s3.fr (.string ⟨#[122]⟩) w6 HW.out HI.out (by omega) ⟨by rw [HF3.out]; omega, by rw [HF3.out]; omega⟩
      rw [HF3.out] at hg
      refine hg.mono ?_
      rintro e w7 ⟨r, s4, rfl, hp, hw, hi, ht⟩
      rw [← HF3.out] at hp
      obtain ⟨rfl, rfl⟩ := put_own hp
      have HT := Aside0.mk (HT.out.trans (ht.below hb0 hm0 HT.out.size))
      have HW := Aside0.mk hw
      clear hp hw hi ht hg
      go_wp2_with fail
      have hg := whole20 b m 15 s4 w7 HW.out
      rw [HH3.out] at hg
      refine hg.mono ?_
      rintro e w8 ⟨rfl, rfl⟩
      clear hg
      go_wp2_with fail
      refine (awake14 w8).mono ?_
      rintro e w9 ⟨rfl, hb⟩
      have HT := Aside0.mk (HT.out.trans (hb.mono HT.out.size))
      clear hb
      go_wp2_with fail
      go_ret
      exact ⟨rfl, HT.out⟩

set_option maxRecDepth 100000 in
set_option maxHeartbeats 4000000 in
theorem far_dy (a0 a1 : Int) (N C : Nat) (w : World) (hbN : Go.bits .and .i64 a0 127 = (N : Int)) (hbC : Go.bits .and .i64 a1 63 = (C : Int)) (hN : N ≤ 127) (hC : C ≤ 63) (hn : 84 < (N : Int)) (hc : 7 < (C : Int) ∧ (C : Int) ≤ 20) : Calls Try.prog 4 #[.int .i64 a0, .int .i64 a1] w (SameEnd w true) := by
  have hN0 : (0 : Int) ≤ N := by omega
  have hC0 : (0 : Int) ≤ C := by omega
  have g1 : 20 < (N : Int) := by omega
  have g2 : ¬ ((N : Int) ≤ 84) := by omega
  have g3 : ¬ ((N : Int) = 21) := by omega
  have c1 : 7 < (C : Int) := by omega
  have c2 : (C : Int) ≤ 20 := by omega
  go_enter Try.func4, Try.ntmps4
  go_wp2_with fail
  refine (new15 7 w).mono ?_
  rintro e w1 ⟨b, m, rfl, hb0, hm0, hw1, hB1⟩
  have hw1 : Wn 67 w1 b m 0 ⟨7, 7, 7, fun _ => none⟩ := hw1
  have hi1 : Iv 0 ⟨7, 7, 7, fun _ => none⟩ := new_iv 7 (by decide) (by decide)
  rw [sF_zero (.string ⟨#[120]⟩)] at hw1 hi1
  have HT := Aside0.mk hB1
  have HW := Aside0.mk hw1
  have HI := Aside0.mk hi1
  clear hB1 hw1 hi1
  go_wp2_with fail
  go_loopw [6] (fun v wr => ∃ k : Nat, v = .int .i64 (8 + (k : Int)) ∧ k ≤ 13 ∧ Aside0 (Wn 67 wr b m k (sF (.string ⟨#[120]⟩) k)) ∧ Aside0 (Iv k (sF (.string ⟨#[120]⟩) k)) ∧ Aside0 (Below w.heap.size w wr)) (fun v _ => (21 - intOf v).toNat)
  case atStart => exact ⟨0, rfl, Nat.zero_le _, HW, HI, HT⟩
  case round =>
    clear HT HW HI
    obtain ⟨k, rfl, hk, HW, HI, HT⟩ := hrel
    by_cases hlt : k < 13
    · have hle : 8 + (k : Int) ≤ 20 := by omega
      go_wp2_with fail
      refine (put16 b m k (sF (.string ⟨#[120]⟩) k) (8 + (k : Int)) (.string ⟨#[120]⟩) wr HW.out HI.out (by omega) ⟨by omega, by omega⟩).mono ?_
      rintro e w2 ⟨r, s, rfl, hp, hw, hi, ht⟩
      obtain ⟨rfl, rfl⟩ := sF_put hp hi
      have HT := Aside0.mk (HT.out.trans (ht.below hb0 hm0 HT.out.size))
      have HW := Aside0.mk hw
      have HI := Aside0.mk hi
      clear hp hw hi ht
      go_wp2_with fail
      go_roundw
      case rel => exact ⟨k + 1, by push_cast; rw [show (8 : Int) + ((k : Int) + 1) = 8 + (k : Int) + 1 by omega], by omega, HW, HI, HT⟩
      case measure => simp [intOf]; omega
    · obtain rfl : k = 13 := by omega
      clear hlt hk
      have hgt : ¬ (8 + ((13 : Nat) : Int) ≤ 20) := by decide
      go_wp2_with fail
      refine (put16 b m 13 (sF (.string ⟨#[120]⟩) 13) ((N : Int)) (.string ⟨#[121]⟩) wr HW.out HI.out (by omega) ⟨by omega, by omega⟩).mono ?_
      rintro e w2 ⟨r, s1, rfl, hp, hw, hi, ht⟩
      obtain ⟨rfl, hfr1, hwh1⟩ := far_put hp hi
      rw [if_neg g3] at hwh1
      rw [decide_eq_true g1, decide_eq_false (show ¬ ((N : Int) ≤ 84) by omega)]
      simp only [Bool.and_true, Bool.and_false, Bool.false_and, Bool.true_and]
      have HT := Aside0.mk (HT.out.trans (ht.below hb0 hm0 HT.out.size))
      have HW := Aside0.mk hw
      have HI := Aside0.mk hi
      clear hp hw hi ht
      have HF1 := Aside0.mk hfr1
      have HH1 := Aside0.mk hwh1
      clear hfr1 hwh1
      go_wp2_with fail
      refine (cut17 b m 14 s1 (C : Int) w2 HW.out HI.out (by omega)).mono ?_
      rintro e w3 ⟨s2, rfl, hp, hw, hi, ht⟩
      have hfr2 : s2.fr = (C : Int) := by rw [hp.fr, HF1.out, HH1.out]; rw [if_pos (by omega)]
      have hwh2 : s2.wh = 20 := by rw [hp.wh, HH1.out]
      have HT := Aside0.mk (HT.out.trans (ht.below hb0 hm0 HT.out.size))
      have HW := Aside0.mk hw
      have HI := Aside0.mk hi
      clear hp hw hi ht
      have HF2 := Aside0.mk hfr2
      have HH2 := Aside0.mk hwh2
      clear hfr2 hwh2
      go_wp2_with fail
      refine (cut17 b m 14 s2 ((C : Int) - 1) w3 HW.out HI.out (by omega)).mono ?_
      rintro e w4 ⟨s3, rfl, hp, hw, hi, ht⟩
      have hfr3 : s3.fr = (C : Int) := by rw [hp.fr, HF2.out, HH2.out, if_neg (by omega)]
      have hwh3 : s3.wh = 20 := by rw [hp.wh, HH2.out]
      have HT := Aside0.mk (HT.out.trans (ht.below hb0 hm0 HT.out.size))
      have HW := Aside0.mk hw
      have HI := Aside0.mk hi
      clear hp hw hi ht
      have HF3 := Aside0.mk hfr3
      have HH3 := Aside0.mk hwh3
      go_wp2_with fail
      have hg := get18 b m 14 s3 s3.fr w4 HW.out ⟨by rw [HF3.out]; omega, by rw [HF3.out]; omega⟩
      rw [own_none HI.out, HF3.out] at hg
      simp only [Option.getD_none, Option.isSome_none] at hg
      clear hfr3 hwh3
      refine hg.mono ?_
      rintro e w5 ⟨rfl, rfl⟩
      clear hg
      go_wp2_with fail
      have hg := from19 b m 14 s3 w5 HW.out
      rw [HF3.out] at hg
      refine hg.mono ?_
      rintro e w6 ⟨rfl, rfl⟩
      clear hg
      go_wp2_with fail
      have hg := put16 b m 14 s3 s3.fr (.string ⟨#[122]⟩) w6 HW.out HI.out (by omega) ⟨by rw [HF3.out]; omega, by rw [HF3.out]; omega⟩
      rw [HF3.out] at hg
      refine hg.mono ?_
      rintro e w7 ⟨r, s4, rfl, hp, hw, hi, ht⟩
      rw [← HF3.out] at hp
      obtain ⟨rfl, rfl⟩ := put_own hp
      have HT := Aside0.mk (HT.out.trans (ht.below hb0 hm0 HT.out.size))
      have HW := Aside0.mk hw
      clear hp hw hi ht hg
      go_wp2_with fail
      have hg := whole20 b m 15 s4 w7 HW.out
      rw [HH3.out] at hg
      refine hg.mono ?_
      rintro e w8 ⟨rfl, rfl⟩
      clear hg
      go_wp2_with fail
      refine (awake14 w8).mono ?_
      rintro e w9 ⟨rfl, hb⟩
      have HT := Aside0.mk (HT.out.trans (hb.mono HT.out.size))
      clear hb
      go_wp2_with fail
      go_ret
      exact ⟨rfl, HT.out⟩

set_option maxRecDepth 100000 in
set_option maxHeartbeats 4000000 in
theorem far_dz (a0 a1 : Int) (N C : Nat) (w : World) (hbN : Go.bits .and .i64 a0 127 = (N : Int)) (hbC : Go.bits .and .i64 a1 63 = (C : Int)) (hN : N ≤ 127) (hC : C ≤ 63) (hn : 84 < (N : Int)) (hc : 20 < (C : Int)) : Calls Try.prog 4 #[.int .i64 a0, .int .i64 a1] w (SameEnd w true) := by
  have hN0 : (0 : Int) ≤ N := by omega
  have hC0 : (0 : Int) ≤ C := by omega
  have g1 : 20 < (N : Int) := by omega
  have g2 : ¬ ((N : Int) ≤ 84) := by omega
  have g3 : ¬ ((N : Int) = 21) := by omega
  have c1 : 7 < (C : Int) := by omega
  have c2 : ¬ ((C : Int) ≤ 20) := by omega
  go_enter Try.func4, Try.ntmps4
  go_wp2_with fail
  refine (new15 7 w).mono ?_
  rintro e w1 ⟨b, m, rfl, hb0, hm0, hw1, hB1⟩
  have hw1 : Wn 67 w1 b m 0 ⟨7, 7, 7, fun _ => none⟩ := hw1
  have hi1 : Iv 0 ⟨7, 7, 7, fun _ => none⟩ := new_iv 7 (by decide) (by decide)
  rw [sF_zero (.string ⟨#[120]⟩)] at hw1 hi1
  have HT := Aside0.mk hB1
  have HW := Aside0.mk hw1
  have HI := Aside0.mk hi1
  clear hB1 hw1 hi1
  go_wp2_with fail
  go_loopw [6] (fun v wr => ∃ k : Nat, v = .int .i64 (8 + (k : Int)) ∧ k ≤ 13 ∧ Aside0 (Wn 67 wr b m k (sF (.string ⟨#[120]⟩) k)) ∧ Aside0 (Iv k (sF (.string ⟨#[120]⟩) k)) ∧ Aside0 (Below w.heap.size w wr)) (fun v _ => (21 - intOf v).toNat)
  case atStart => exact ⟨0, rfl, Nat.zero_le _, HW, HI, HT⟩
  case round =>
    clear HT HW HI
    obtain ⟨k, rfl, hk, HW, HI, HT⟩ := hrel
    by_cases hlt : k < 13
    · have hle : 8 + (k : Int) ≤ 20 := by omega
      go_wp2_with fail
      refine (put16 b m k (sF (.string ⟨#[120]⟩) k) (8 + (k : Int)) (.string ⟨#[120]⟩) wr HW.out HI.out (by omega) ⟨by omega, by omega⟩).mono ?_
      rintro e w2 ⟨r, s, rfl, hp, hw, hi, ht⟩
      obtain ⟨rfl, rfl⟩ := sF_put hp hi
      have HT := Aside0.mk (HT.out.trans (ht.below hb0 hm0 HT.out.size))
      have HW := Aside0.mk hw
      have HI := Aside0.mk hi
      clear hp hw hi ht
      go_wp2_with fail
      go_roundw
      case rel => exact ⟨k + 1, by push_cast; rw [show (8 : Int) + ((k : Int) + 1) = 8 + (k : Int) + 1 by omega], by omega, HW, HI, HT⟩
      case measure => simp [intOf]; omega
    · obtain rfl : k = 13 := by omega
      clear hlt hk
      have hgt : ¬ (8 + ((13 : Nat) : Int) ≤ 20) := by decide
      go_wp2_with fail
      refine (put16 b m 13 (sF (.string ⟨#[120]⟩) 13) ((N : Int)) (.string ⟨#[121]⟩) wr HW.out HI.out (by omega) ⟨by omega, by omega⟩).mono ?_
      rintro e w2 ⟨r, s1, rfl, hp, hw, hi, ht⟩
      obtain ⟨rfl, hfr1, hwh1⟩ := far_put hp hi
      rw [if_neg g3] at hwh1
      rw [decide_eq_true g1, decide_eq_false (show ¬ ((N : Int) ≤ 84) by omega)]
      simp only [Bool.and_true, Bool.and_false, Bool.false_and, Bool.true_and]
      have HT := Aside0.mk (HT.out.trans (ht.below hb0 hm0 HT.out.size))
      have HW := Aside0.mk hw
      have HI := Aside0.mk hi
      clear hp hw hi ht
      have HF1 := Aside0.mk hfr1
      have HH1 := Aside0.mk hwh1
      clear hfr1 hwh1
      go_wp2_with fail
      refine (cut17 b m 14 s1 (C : Int) w2 HW.out HI.out (by omega)).mono ?_
      rintro e w3 ⟨s2, rfl, hp, hw, hi, ht⟩
      have hfr2 : s2.fr = 7 := by rw [hp.fr, HF1.out, HH1.out]; rw [if_neg (by omega)]
      have hwh2 : s2.wh = 20 := by rw [hp.wh, HH1.out]
      have HT := Aside0.mk (HT.out.trans (ht.below hb0 hm0 HT.out.size))
      have HW := Aside0.mk hw
      have HI := Aside0.mk hi
      clear hp hw hi ht
      have HF2 := Aside0.mk hfr2
      have HH2 := Aside0.mk hwh2
      clear hfr2 hwh2
      go_wp2_with fail
      refine (cut17 b m 14 s2 (6) w3 HW.out HI.out (by omega)).mono ?_
      rintro e w4 ⟨s3, rfl, hp, hw, hi, ht⟩
      have hfr3 : s3.fr = 7 := by rw [hp.fr, HF2.out, HH2.out, if_neg (by omega)]
      have hwh3 : s3.wh = 20 := by rw [hp.wh, HH2.out]
      have HT := Aside0.mk (HT.out.trans (ht.below hb0 hm0 HT.out.size))
      have HW := Aside0.mk hw
      have HI := Aside0.mk hi
      clear hp hw hi ht
      have HF3 := Aside0.mk hfr3
      have HH3 := Aside0.mk hwh3
      go_wp2_with fail
      have hg := get18 b m 14 s3 s3.fr w4 HW.out ⟨by rw [HF3.out]; omega, by rw [HF3.out]; omega⟩
      rw [own_none HI.out, HF3.out] at hg
      simp only [Option.getD_none, Option.isSome_none] at hg
      clear hfr3 hwh3
      refine hg.mono ?_
      rintro e w5 ⟨rfl, rfl⟩
      clear hg
      go_wp2_with fail
      have hg := from19 b m 14 s3 w5 HW.out
      rw [HF3.out] at hg
      refine hg.mono ?_
      rintro e w6 ⟨rfl, rfl⟩
      clear hg
      go_wp2_with fail
      have hg := put16 b m 14 s3 s3.fr (.string ⟨#[122]⟩) w6 HW.out HI.out (by omega) ⟨by rw [HF3.out]; omega, by rw [HF3.out]; omega⟩
      rw [HF3.out] at hg
      refine hg.mono ?_
      rintro e w7 ⟨r, s4, rfl, hp, hw, hi, ht⟩
      rw [← HF3.out] at hp
      obtain ⟨rfl, rfl⟩ := put_own hp
      have HT := Aside0.mk (HT.out.trans (ht.below hb0 hm0 HT.out.size))
      have HW := Aside0.mk hw
      clear hp hw hi ht hg
      go_wp2_with fail
      have hg := whole20 b m 15 s4 w7 HW.out
      rw [HH3.out] at hg
      refine hg.mono ?_
      rintro e w8 ⟨rfl, rfl⟩
      clear hg
      go_wp2_with fail
      refine (awake14 w8).mono ?_
      rintro e w9 ⟨rfl, hb⟩
      have HT := Aside0.mk (HT.out.trans (hb.mono HT.out.size))
      clear hb
      go_wp2_with fail
      go_ret
      exact ⟨rfl, HT.out⟩

theorem far_calls (a0 a1 : Int) (w : World) : Calls Try.prog 4 #[.int .i64 a0, .int .i64 a1] w (SameEnd w true) := by
  obtain ⟨N, hbN, hN⟩ := bits_lt a0 7 127 127 rfl (by decide) (by decide)
  obtain ⟨C, hbC, hC⟩ := bits_lt a1 6 63 63 rfl (by decide) (by decide)
  have c1 : (N : Int) ≤ 20 ∨ (N : Int) = 21 ∨ (21 < (N : Int) ∧ (N : Int) ≤ 84) ∨ 84 < (N : Int) := by omega
  rcases c1 with h | h | h | h
  · have c2 : (C : Int) ≤ 7 ∨ (7 < (C : Int) ∧ (C : Int) ≤ 20) ∨ 20 < (C : Int) := by omega
    rcases c2 with k | k | k
    · exact far_ax a0 a1 N C w hbN hbC hN hC h k
    · exact far_ay a0 a1 N C w hbN hbC hN hC h k
    · exact far_az a0 a1 N C w hbN hbC hN hC h k
  · have c2 : (C : Int) ≤ 7 ∨ (7 < (C : Int) ∧ (C : Int) ≤ 21) ∨ 21 < (C : Int) := by omega
    rcases c2 with k | k | k
    · exact far_bx a0 a1 N C w hbN hbC hN hC h k
    · exact far_by a0 a1 N C w hbN hbC hN hC h k
    · exact far_bz a0 a1 N C w hbN hbC hN hC h k
  · have c2 : (C : Int) ≤ 7 ∨ (7 < (C : Int) ∧ (C : Int) ≤ 20) ∨ 20 < (C : Int) := by omega
    rcases c2 with k | k | k
    · exact far_cx a0 a1 N C w hbN hbC hN hC h k
    · exact far_cy a0 a1 N C w hbN hbC hN hC h k
    · exact far_cz a0 a1 N C w hbN hbC hN hC h k
  · have c2 : (C : Int) ≤ 7 ∨ (7 < (C : Int) ∧ (C : Int) ≤ 20) ∨ 20 < (C : Int) := by omega
    rcases c2 with k | k | k
    · exact far_dx a0 a1 N C w hbN hbC hN hC h k
    · exact far_dy a0 a1 N C w hbN hbC hN hC h k
    · exact far_dz a0 a1 N C w hbN hbC hN hC h k
end Go.Proofs.Ythoekmedkmonhaa.Wi
namespace Go.Proofs.Ythoekmedkmonhaa.windFar
open Go.ChangeShapes Go.WideShapes Go.ChangeAt Go.RowKit Go.Proofs.YthoekmedkmonhaaW
open Go.ChangeMaps (open_string shut_string)
theorem own : ownKnob Try.prog.godebug = none := by kernel_rfl
theorem laidOut : laidOutB Try.prog = true := by kernel_rfl
def IsRow (k : IntKind) (w : World) (a : Option Addr) (len cap : Nat) (zs : List Int) : Prop :=
  (a = none ∧ len = 0 ∧ cap = 0 ∧ zs = []) ∨
  ∃ x, a = some x ∧ len ≤ cap ∧ cap ≤ maxLen ∧ zs.length = cap ∧ (∀ i, i < zs.length → w.cell? (x.add i) = some (.int k (zs.getD i 0))) ∧ ∀ n ∈ zs, (Lit.int k n).wf = true
set_option maxRecDepth 100000 in
theorem lifted (os : Os) (started : os.Started) (H : Type) (enc : TypeId × Value → H) :
    ReturnsInHanded {} Try.checked os 4 .any (Rows.windFarSpec.pre6 enc Try.prog Try.f4 Rows.windFarRow.domain false) (Rows.windFarSpec.post enc Try.prog Try.f4 false true false false) := by
  refine returnsInHanded_of_change_sized (C := Try.checked) own started (by kernel_rfl) Try.func4
    (ChangeSpec.witness6 (enc := enc) (C := Try.checked) false ⟨#[], #[.int .i64 0, .int .i64 0], []⟩ 8 (by kernel_rfl) (by kernel_rfl) (by kernel_rfl) (by kernel_rfl)) ?_
  intro W base args ds gs before hval0 hW hcnd hsz0 _
  have hsz : (DataW.weightsEach Try.prog (Try.f4.params.toList ++ Rows.windFarSpec.plain.varTypes Try.prog) (ds ++ gs)).all (· ≤ reachBytes) = true := hsz0
  have hval : ∀ (j : Nat) t v, Try.f4.params[j]? = some t → args[j]? = some v → Value.okWide Try.prog W .any base t v := hval0
  have hW' := hW
  obtain ⟨p, q, hA0, hV, rfl, hfz, hnd⟩ := hW
  have hA : DataW.TrodAll enc Try.prog W 0 (fun _ => true) true Try.f4.params.toList args.toList ds p := hA0
  rw [Try.params4] at hA hval hsz
  obtain ⟨v0, vs0, d0, ds0, p0, q0, hargs, rfl, rfl, h0, r0⟩ := trodAll_cons hA
  obtain ⟨v1, vs1, d1, ds1, p1, q1, rfl, rfl, rfl, h1, r1⟩ := trodAll_cons r0
  obtain ⟨rfl, rfl, rfl⟩ := trodAll_nil r1
  obtain rfl : args = #[v0, v1] := by cases args; simp_all
  obtain ⟨rfl, rfl⟩ := trodVars_none hV
  obtain ⟨a0, rfl, rfl, rfl, w0⟩ := open_int Try.underlying3 (hval 0 3 v0 rfl rfl) h0
  obtain ⟨a1, rfl, rfl, rfl, w1⟩ := open_int Try.underlying3 (hval 1 3 v1 rfl rfl) h1
  clear hA0 hval0 hsz0 hsz
  refine (Wi.far_calls a0 a1 W).mono fun e W' ⟨he, bel⟩ => ?_
  subst he
  exact ⟨_, rfl, _, _, _, [], _, [], hW', trodAll_mk1 (shut_bool Try.underlying4 _), (trodAll_cons_mk (shut_int Try.underlying3 w0) (trodAll_cons_mk (shut_int Try.underlying3 w1) trodAll_mk0)), rfl, bel.frame _, fun h => by cases h⟩
theorem over : Rows.windFarRow.holds Try.pinned (OpenSpec.ofChange Rows.windFarSpec) :=
  OpenClaim.holds_of_wide 4 Try.f4 rfl rfl rfl rfl rfl rfl rfl ⟨rfl, rfl, rfl, rfl, rfl⟩ rfl rfl rfl rfl rfl (by kernel_rfl) Try.func4 (by kernel_rfl)
    (of_decide_eq_true (by kernel_rfl)) (by unfold Func.isWrapper; first | (rw [if_pos (by decide +kernel)]; kernel_rfl) | (rw [if_neg (by decide +kernel)]; exact ⟨rfl, rfl⟩))
    (fun os started H enc _ => lifted os started H enc)
theorem proved : Rows.WindFarSaid := over
end Go.Proofs.Ythoekmedkmonhaa.windFar
namespace Go.Proofs.Ythoekmedkmonhaa
/-- The row, under a short name, for the claim. -/
theorem windFar_holds : Rows.WindFarSaid := windFar.proved
end Go.Proofs.Ythoekmedkmonhaa
