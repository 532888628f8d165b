/- Rows of bytes, and pairs, that are the same. -/
import Derived.Test.YthfplgfpodmphaaOg
namespace Go.Proofs.Ythfplgfpodmphaa.Ob
open Go.RowKit Go.Proofs.YthfplgfpodmphaaW.PrintWords Go.Proofs.YthfplgfpodmphaaW.PrintLast Go.Proofs.YthfplgfpodmphaaW.PrintMore Go.Proofs.Ythfplgfpodmphaa.Ms
attribute [local go_sem] max2_int min2_int max_two min_two max_three min_three max_four min_four
set_option linter.unusedVariables false
set_option linter.unusedSimpArgs false
set_option maxRecDepth 100000
def eqL {α : Type} (f : α → α → Bool) : List α → List α → Bool
 | [], [] => true
 | x :: a, y :: b => f x y && eqL f a b
 | _, _ => false
theorem eqL_iff {α : Type} (f : α → α → Bool) : ∀ (a b : List α), eqL f a b = true ↔ a.length = b.length ∧ ∀ i (h1 : i < a.length) (h2 : i < b.length), f a[i] b[i] = true
 | [], [] => by simp [eqL]
 | [], y :: b => by simp [eqL]
 | x :: a, [] => by simp [eqL]
 | x :: a, y :: b => by
  simp only [eqL, Bool.and_eq_true, eqL_iff f a b, List.length_cons]
  constructor
  ·
   rintro ⟨h1, h2, h3⟩
   refine ⟨by omega, fun i hi hj => ?_⟩
   cases i with
   | zero => exact h1
   | succ i => exact h3 i (by simpa using hi) (by simpa using hj)
  ·
   rintro ⟨h1, h2⟩
   exact ⟨h2 0 (by simp) (by simp), by omega, fun i hi hj => h2 (i + 1) (by simpa using hi) (by simpa using hj)⟩
theorem eqL_len {α : Type} (f : α → α → Bool) (a b : List α) (h : a.length ≠ b.length) : eqL f a b = false := by
 rw [← Bool.not_eq_true]; intro h2; exact h ((eqL_iff f a b).1 h2).1
theorem eqL_at {α : Type} (f : α → α → Bool) (a b : List α) (i : Nat) (h1 : i < a.length) (h2 : i < b.length) (h : f a[i] b[i] = false) : eqL f a b = false := by
 rw [← Bool.not_eq_true]; intro h3
 have := ((eqL_iff f a b).1 h3).2 i h1 h2
 rw [h] at this; cases this
theorem eqL_refl {α : Type} (f : α → α → Bool) (hf : ∀ x, f x x = true) : ∀ a : List α, eqL f a a = true
 | [] => rfl
 | x :: a => by simp [eqL, hf x, eqL_refl f hf a]
def eqQ : List (List Int) → List (List Int) → Bool := eqL eqB
def eqP (x y : S32) : Bool := eqB x.f0 y.f0 && eqB x.f1 y.f1
def eqM : List S32 → List S32 → Bool := eqL eqP
def eqI : List Int → List Int → Bool := eqL (fun x y => x == y)
def sameO (a b : O) : Bool := eqB a.reg b.reg && eqQ a.que b.que && eqI a.loc b.loc && eqM a.map b.map
theorem sameO_refl (a : O) : sameO a a = true := by
 simp [sameO, eqB_refl, eqQ, eqM, eqI, eqL_refl eqB eqB_refl, eqL_refl eqP (fun x => by simp [eqP, eqB_refl]), eqL_refl (fun x y : Int => x == y) (fun x => by simp)]
def sameR (a b : S26) : Bool := a.f0 == b.f0 && eqB a.f1 b.f1 && a.f2 == b.f2
theorem rd_T_get (l : List S32) (k : Nat) (h : k < l.length) : Ms.rd_T32 l (k : Int) = l[k] := by simp [Ms.rd_T32, List.getD_eq_getElem?_getD, List.getElem?_eq_getElem h]
theorem get_S32 {l : List S32} {i : Nat} (h : i < l.length) (q : S32 → S32 → Bool) : True := trivial
set_option maxHeartbeats 1000000 in
theorem rows20 (A0 : Option Addr) (c0 : Nat) (l0 : List (List Int)) (A1 : Option Addr) (c1 : Nat) (l1 : List (List Int)) (w : World) (hr0 : Kd.C kq w A0 l0.length l0) (hr1 : Kd.C kq w A1 l1.length l1) :
  Calls Try.prog 20 #[.slice A0 l0.length c0, .slice A1 l1.length c1] w fun e w' => e = .returned (.bool (eqQ l0 l1)) ∧ Below w.heap.size w w' := by
 have HR := Aside0.mk hr0
 have HS := Aside0.mk hr1
 have hm0 : l0.length ≤ 9223372036854775807 := hr0.2.1
 clear hr0 hr1
 by_cases hlen : l0.length = l1.length
 ·
  have HL := Aside0.mk hlen
  rw [← hlen]
  clear hlen
  go_enter Try.func20, Try.ntmps20
  go_wp2_with fail
  go_loopw [5] (fun v5 w' => ∃ j : Nat, v5 = .int .i64 j ∧ j ≤ l0.length ∧ Aside0 (∀ i (h1 : i < j) (h2 : i < l0.length) (h3 : i < l1.length), eqB l0[i] l1[i] = true) ∧ Aside0 (Below w.heap.size w w')) (fun v5 _ => l0.length - (intOf v5).toNat)
  case atStart => exact ⟨0, rfl, Nat.zero_le _, ⟨fun i h => absurd h (by omega)⟩, ⟨Below.refl _ _⟩⟩
  case round =>
   obtain ⟨j, rfl, hj, HT, HB⟩ := hrel
   by_cases hlt : j < l0.length
   ·
    have hlt1 : j < l1.length := by have := HL.out; omega
    have e2 : IntKind.i64.wrap ((j : Int) + 1) = (j : Int) + 1 := by rw [IntKind.wrap_i64]; omega
    have hbd := below_drew1 HB.out
    obtain ⟨ad, B0, d0, e, h0, _, g0⟩ := at_L1 (Kd.C_below HR.out hbd) (j : Int) (by omega) (by omega)
    obtain ⟨bd, B1, d1, e', h1, _, g1⟩ := at_L1 (Kd.C_below HS.out hbd) (j : Int) (by omega) (by omega)
    cases e
    cases e'
    simp only [Int.toNat_natCast] at h0 h1
    have HX := Aside0.mk (rd_L1_get l0 j hlt).symm
    have HY := Aside0.mk (rd_L1_get l1 j hlt1).symm
    generalize rd_L1 l0 (j : Int) = x at h0 g0 HX
    generalize rd_L1 l1 (j : Int) = y at h1 g1 HY
    have HBD := Aside0.mk hbd
    clear hbd
    cases hq : eqB x y with
    | true =>
     have HQ := Aside0.mk hq
     have q1 := Kd.C_string (P := Try.prog) (A := B0) (c := d0) Try.underlying22 Try.underlying5 Try.underlying9 g0
     have q2 := Kd.C_string (P := Try.prog) (A := B1) (c := d1) Try.underlying22 Try.underlying5 Try.underlying9 g1
     have q3 : ((strOfNums x).toList == (strOfNums y).toList) = true := hq
     have q4 : ((strOfNums x).toList != (strOfNums y).toList) = false := by rw [bne, q3]; rfl
     clear g0 g1
     clear hq
     go_wp2_with fail
     go_region
     go_wp2
     go_roundw
     case rel => exact ⟨j + 1, by go_num, by omega, ⟨fun i h1 h2 h3 => by
      rcases Nat.lt_or_ge i j with h | h
      ·
       exact HT.out i h h2 h3
      ·
       obtain rfl : i = j := by omega
       have := HQ.out
       rwa [← HX.out, ← HY.out] at this⟩, HBD⟩
     case measure => simp [intOf]; omega
    | false =>
     have HE := Aside0.mk (eqL_at eqB l0 l1 j hlt (by have := HL.out; omega) (by rw [HX.out, HY.out]; exact hq))
     have q1 := Kd.C_string (P := Try.prog) (A := B0) (c := d0) Try.underlying22 Try.underlying5 Try.underlying9 g0
     have q2 := Kd.C_string (P := Try.prog) (A := B1) (c := d1) Try.underlying22 Try.underlying5 Try.underlying9 g1
     have q3 : ((strOfNums x).toList == (strOfNums y).toList) = false := hq
     have q4 : ((strOfNums x).toList != (strOfNums y).toList) = true := by rw [bne, q3]; rfl
     clear g0 g1
     clear hq
     go_wp2_with fail
     go_region
     go_wp2
     go_ret
     have HE2 : eqQ l0 l1 = false := HE.out
     exact ⟨by first | (rw [HE2]; rfl) | rw [HE2], HBD.out⟩
   ·
    obtain rfl : j = l0.length := by omega
    have HE : eqQ l0 l1 = true := (eqL_iff _ _ _).2 ⟨HL.out, fun i h1 h2 => HT.out i h1 h1 h2⟩
    clear HT HL
    go_wp2_with fail
    go_ret
    exact ⟨by first | (rw [HE]; rfl) | rw [HE], HB.out⟩
 ·
  have HE : eqQ l0 l1 = false := eqL_len _ _ _ hlen
  have n1 : ¬ (l0.length : Int) = (l1.length : Int) := by omega
  go_enter Try.func20, Try.ntmps20
  go_wp2_with fail
  go_ret
  exact ⟨by first | (rw [HE]; rfl) | rw [HE], Below.refl _ _⟩
set_option maxHeartbeats 1000000 in
theorem pairs21 (A0 : Option Addr) (c0 : Nat) (l0 : List S32) (A1 : Option Addr) (c1 : Nat) (l1 : List S32) (w : World) (hr0 : Kd.C km w A0 l0.length l0) (hr1 : Kd.C km w A1 l1.length l1) :
  Calls Try.prog 21 #[.slice A0 l0.length c0, .slice A1 l1.length c1] w fun e w' => e = .returned (.bool (eqM l0 l1)) ∧ Below w.heap.size w w' := by
 have HR := Aside0.mk hr0
 have HS := Aside0.mk hr1
 have hm0 : l0.length ≤ 9223372036854775807 := hr0.2.1
 clear hr0 hr1
 by_cases hlen : l0.length = l1.length
 ·
  have HL := Aside0.mk hlen
  rw [← hlen]
  clear hlen
  go_enter Try.func21, Try.ntmps21
  go_wp2_with fail
  go_loopw [5] (fun v5 w' => ∃ j : Nat, v5 = .int .i64 j ∧ j ≤ l0.length ∧ Aside0 (∀ i (h1 : i < j) (h2 : i < l0.length) (h3 : i < l1.length), eqP l0[i] l1[i] = true) ∧ Aside0 (Below w.heap.size w w')) (fun v5 _ => l0.length - (intOf v5).toNat)
  case atStart => exact ⟨0, rfl, Nat.zero_le _, ⟨fun i h => absurd h (by omega)⟩, ⟨Below.refl _ _⟩⟩
  case round =>
   obtain ⟨j, rfl, hj, HT, HB⟩ := hrel
   by_cases hlt : j < l0.length
   ·
    have hlt1 : j < l1.length := by have := HL.out; omega
    have e2 : IntKind.i64.wrap ((j : Int) + 1) = (j : Int) + 1 := by rw [IntKind.wrap_i64]; omega
    have hbd := below_drew1 HB.out
    obtain ⟨ad, B0, d0, B1, d1, e, h0, h1, _, g0, _, g1⟩ := at_T32 (Kd.C_below HR.out hbd) (j : Int) (by omega) (by omega)
    obtain ⟨bd, E0, f0, E1, f1, e', h0', h1', _, g0', _, g1'⟩ := at_T32 (Kd.C_below HS.out hbd) (j : Int) (by omega) (by omega)
    cases e
    cases e'
    simp only [Int.toNat_natCast] at h0 h1 h0' h1'
    have HX := Aside0.mk (rd_T_get l0 j hlt).symm
    have HY := Aside0.mk (rd_T_get l1 j hlt1).symm
    generalize rd_T32 l0 (j : Int) = x at h0 h1 g0 g1 HX
    generalize rd_T32 l1 (j : Int) = y at h0' h1' g0' g1' HY
    have HBD := Aside0.mk hbd
    clear hbd
    cases hq : eqP x y with
    | true =>
     have HQ := Aside0.mk hq
     have q1 := Kd.C_string (P := Try.prog) (A := B0) (c := d0) Try.underlying22 Try.underlying5 Try.underlying9 g0
     have q2 := Kd.C_string (P := Try.prog) (A := B1) (c := d1) Try.underlying22 Try.underlying5 Try.underlying9 g1
     have q3 := Kd.C_string (P := Try.prog) (A := E0) (c := f0) Try.underlying22 Try.underlying5 Try.underlying9 g0'
     have q4 := Kd.C_string (P := Try.prog) (A := E1) (c := f1) Try.underlying22 Try.underlying5 Try.underlying9 g1'
     clear g0 g1 g0' g1'
     have hq2 := hq
     simp only [eqP, Bool.and_eq_true] at hq2
     have q5 : ((strOfNums x.f0).toList == (strOfNums y.f0).toList) = true := hq2.1
     have q6 : ((strOfNums x.f0).toList != (strOfNums y.f0).toList) = false := by rw [bne, q5]; rfl
     have q7 : ((strOfNums x.f1).toList == (strOfNums y.f1).toList) = true := hq2.2
     have q8 : ((strOfNums x.f1).toList != (strOfNums y.f1).toList) = false := by rw [bne, q7]; rfl
     clear hq2
     clear hq
     go_wp2_with fail
     go_region
     go_wp2
     go_roundw
     case rel => exact ⟨j + 1, by go_num, by omega, ⟨fun i h1 h2 h3 => by
      rcases Nat.lt_or_ge i j with h | h
      ·
       exact HT.out i h h2 h3
      ·
       obtain rfl : i = j := by omega
       have := HQ.out
       rwa [← HX.out, ← HY.out] at this⟩, HBD⟩
     case measure => simp [intOf]; omega
    | false =>
     have HE := Aside0.mk (eqL_at eqP l0 l1 j hlt (by have := HL.out; omega) (by rw [HX.out, HY.out]; exact hq))
     have q1 := Kd.C_string (P := Try.prog) (A := B0) (c := d0) Try.underlying22 Try.underlying5 Try.underlying9 g0
     have q2 := Kd.C_string (P := Try.prog) (A := B1) (c := d1) Try.underlying22 Try.underlying5 Try.underlying9 g1
     have q3 := Kd.C_string (P := Try.prog) (A := E0) (c := f0) Try.underlying22 Try.underlying5 Try.underlying9 g0'
     have q4 := Kd.C_string (P := Try.prog) (A := E1) (c := f1) Try.underlying22 Try.underlying5 Try.underlying9 g1'
     clear g0 g1 g0' g1'
     cases hA : eqB x.f0 y.f0 with
     | false =>
      have q5 : ((strOfNums x.f0).toList == (strOfNums y.f0).toList) = false := hA
      have q6 : ((strOfNums x.f0).toList != (strOfNums y.f0).toList) = true := by rw [bne, q5]; rfl
      clear hq hA
      go_wp2_with fail
      go_region
      go_wp2
      go_ret
      have HE2 : eqM l0 l1 = false := HE.out
      exact ⟨by first | (rw [HE2]; rfl) | rw [HE2], HBD.out⟩
     | true =>
     have q5 : ((strOfNums x.f0).toList == (strOfNums y.f0).toList) = true := hA
     have q6 : ((strOfNums x.f0).toList != (strOfNums y.f0).toList) = false := by rw [bne, q5]; rfl
     have q7 : ((strOfNums x.f1).toList == (strOfNums y.f1).toList) = false := by rw [eqP, hA] at hq; exact hq
     have q8 : ((strOfNums x.f1).toList != (strOfNums y.f1).toList) = true := by rw [bne, q7]; rfl
     clear hA
     clear hq
     go_wp2_with fail
     go_region
     go_wp2
     go_ret
     have HE2 : eqM l0 l1 = false := HE.out
     exact ⟨by first | (rw [HE2]; rfl) | rw [HE2], HBD.out⟩
   ·
    obtain rfl : j = l0.length := by omega
    have HE : eqM l0 l1 = true := (eqL_iff _ _ _).2 ⟨HL.out, fun i h1 h2 => HT.out i h1 h1 h2⟩
    clear HT HL
    go_wp2_with fail
    go_ret
    exact ⟨by first | (rw [HE]; rfl) | rw [HE], HB.out⟩
 ·
  have HE : eqM l0 l1 = false := eqL_len _ _ _ hlen
  have n1 : ¬ (l0.length : Int) = (l1.length : Int) := by omega
  go_enter Try.func21, Try.ntmps21
  go_wp2_with fail
  go_ret
  exact ⟨by first | (rw [HE]; rfl) | rw [HE], Below.refl _ _⟩
end Go.Proofs.Ythfplgfpodmphaa.Ob
