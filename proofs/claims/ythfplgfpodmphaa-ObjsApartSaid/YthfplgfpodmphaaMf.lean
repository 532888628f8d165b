/- maps.find, walked. -/
import Derived.Lib.SliceRun
import Derived.Outline
import Derived.Test.YthfplgfpodmphaaMb
import Derived.Test.YthfplgfpodmphaaMbe
namespace Go.Proofs.Ythfplgfpodmphaa.Ms
open Go.RowKit Go.Proofs.YthfplgfpodmphaaW.PrintWords Go.Proofs.YthfplgfpodmphaaW.PrintLast Go.Proofs.YthfplgfpodmphaaW.PrintMore
attribute [local go_sem] max2_int min2_int max_two min_two max_three min_three max_four min_four
set_option linter.unusedVariables false
set_option linter.unusedSimpArgs false
set_option maxRecDepth 100000

def sameB (a b : List Int) : Bool := (strOfNums a).toList == (strOfNums b).toList
def lessB (a b : List Int) : Bool := decide (Lib.compareBytes (Lib.bytesOf a) (Lib.bytesOf b) < 0)
def eqI (l : List S32) (k : List Int) : Nat := (l.takeWhile (fun x => !sameB x.f0 k)).length
def insN (l : List S32) (k : List Int) : Nat → Nat
  | 0 => 0
  | i + 1 => if lessB k (rd_T32 l (i : Int)).f0 = true then insN l k i else i + 1
/-- What maps.find answers. -/
def findR (l : List S32) (k : List Int) : Nat × Bool := if eqI l k < l.length then (eqI l k, true) else (insN l k l.length, false)
theorem tw_of (p : S32 → Bool) (l : List S32) : ∀ (k : Nat), k ≤ l.length → (∀ j, j < k → p (rd_T32 l (j : Int)) = true) → (k = l.length ∨ p (rd_T32 l (k : Int)) = false) → (l.takeWhile p).length = k := by
  induction l with
  | nil => intro k hk _ _; simp at hk; subst hk; rfl
  | cons x l ih =>
    intro k hk h1 h2
    cases k with
    | zero =>
      rcases h2 with h2 | h2
      · simp at h2
      · have hx : p x = false := h2
        simp [hx]
    | succ k =>
      have hx : p x = true := h1 0 (by omega)
      rw [List.takeWhile_cons, hx, if_pos rfl, List.length_cons]
      have e : ∀ j : Nat, rd_T32 (x :: l) ((j + 1 : Nat) : Int) = rd_T32 l (j : Int) := fun j => by simp only [rd_T32, Int.toNat_natCast, List.getD_cons_succ]
      rw [ih k (by simpa using hk) (fun j hj => by rw [← e]; exact h1 (j + 1) (by omega)) (by rcases h2 with h2 | h2
                                                                                              · exact .inl (by simpa using h2)
                                                                                              · rw [e] at h2; exact .inr h2)]
theorem find_t (l : List S32) (k : List Int) (j : Nat) (hj : j < l.length) (h1 : ∀ i, i < j → sameB (rd_T32 l (i : Int)).f0 k = false) (h2 : sameB (rd_T32 l (j : Int)).f0 k = true) : findR l k = (j, true) := by
  have e : eqI l k = j := tw_of _ l j (by omega) (fun i hi => by simp [h1 i hi]) (.inr (by simp [h2]))
  rw [findR, e, if_pos hj]
theorem insN_skip (l : List S32) (k : List Int) (i : Nat) (d : Nat) : ∀ n, n = i + d → (∀ j, i ≤ j → j < n → lessB k (rd_T32 l (j : Int)).f0 = true) → insN l k n = insN l k i := by
  induction d with
  | zero => intro n hn _; rw [hn]; rfl
  | succ d ih =>
    intro n hn h
    subst hn
    show (if lessB k (rd_T32 l ((i + d : Nat) : Int)).f0 = true then insN l k (i + d) else i + d + 1) = _
    rw [if_pos (h (i + d) (by omega) (by omega))]
    exact ih (i + d) rfl (fun j a b => h j a (by omega))
theorem find_f (l : List S32) (k : List Int) (i : Nat) (hi : i ≤ l.length) (h1 : ∀ j, j < l.length → sameB (rd_T32 l (j : Int)).f0 k = false) (h2 : ∀ j, i ≤ j → j < l.length → lessB k (rd_T32 l (j : Int)).f0 = true) (h3 : i = 0 ∨ lessB k (rd_T32 l ((i - 1 : Nat) : Int)).f0 = false) : findR l k = (i, false) := by
  have e : eqI l k = l.length := tw_of _ l l.length (Nat.le_refl _) (fun j hj => by simp [h1 j hj]) (.inl rfl)
  rw [findR, e, if_neg (Nat.lt_irrefl _), insN_skip l k i (l.length - i) l.length (by omega) h2]
  cases i with
  | zero => rfl
  | succ i =>
    rcases h3 with h3 | h3
    · omega
    · have h3' : lessB k (rd_T32 l (i : Int)).f0 = false := h3
      rw [insN, h3', if_neg (by simp)]
set_option maxHeartbeats 1000000 in
theorem find17 (A B : Option Addr) (c d : Nat) (l : List S32) (k : List Int) (w : World) (hr : Kd.C k32 w A l.length l) (hc : l.length ≤ c) (hk : Kd.C (Kd.int .u8) w B k.length k) (hd : k.length ≤ d) :
    Calls Try.prog 80 #[.slice A l.length c, .slice B k.length d] w fun e w' => e = .returned (.tuple #[.int .i64 ((findR l k).1 : Nat), .bool (findR l k).2]) ∧ Below w.heap.size w w' := by
  have HR := Aside0.mk hr
  have HC := Aside0.mk hc
  have HK := Aside0.mk hk
  have HD := Aside0.mk hd
  have hlen : l.length ≤ 9223372036854775807 := hr.2.1
  clear hr hc hk hd
  go_enter Try.func80, Try.ntmps80
  go_wp2_with fail
  go_loopw [11] (fun v11 w' => ∃ j : Nat, v11 = .int .i64 j ∧ j ≤ l.length ∧ Aside0 (∀ i, i < j → sameB (rd_T32 l (i : Int)).f0 k = false) ∧ Aside0 (Below w.heap.size w w')) (fun v11 _ => l.length - (intOf v11).toNat)
  case atStart => exact ⟨0, rfl, Nat.zero_le _, ⟨fun i hi => absurd hi (Nat.not_lt_zero i)⟩, ⟨Below.refl _ _⟩⟩
  case round =>
    obtain ⟨j, rfl, hj, HA, HB⟩ := hrel
    by_cases hjl : j < l.length
    · obtain ⟨ad, A0, c0, A1, c1, e, h0, h1, l0, g0, l1, g1⟩ := at_T32 (Kd.C_below HR.out HB.out) (j : Int) (by omega) (by omega)
      cases e
      simp only [Int.toNat_natCast] at h0 h1
      have HL0 := Aside0.mk l0
      have HG0 := Aside0.mk g0
      clear l0 g0 l1 g1
      go_wp2_with fail
      refine (bytes_Equal.calls A0 c0 (rd_T32 l (j : Int)).f0 B d k (sameB (rd_T32 l (j : Int)).f0 k) _ (Kd.C_alloc HG0.out _) HL0.out (Kd.C_below (Kd.C_below HK.out HB.out) (below_alloc (Below.refl _ _) _)) HD.out rfl).mono ?_
      rintro e w1 ⟨rfl, nd, rfl⟩
      have HB1 := Aside0.mk (pw_below_drewN (below_alloc HB.out (.cells #[.slice A0 (rd_T32 l (j : Int)).f0.length c0, .slice A1 (rd_T32 l (j : Int)).f1.length c1] 42)) nd)
      cases hs : sameB (rd_T32 l (j : Int)).f0 k with
      | true =>
        have HF := Aside0.mk (find_t l k j hjl HA.out hs)
        go_wp2_with fail
        go_ret2
        rw [HF.out]
        exact ⟨rfl, HB1.out⟩
      | false =>
        have HA2 := Aside0.mk (show ∀ i, i < j + 1 → sameB (rd_T32 l (i : Int)).f0 k = false from fun i hi => by
          rcases Nat.lt_or_eq_of_le (Nat.le_of_lt_succ hi) with h | rfl
          · exact HA.out i h
          · exact hs)
        go_wp2_with fail
        go_roundw
        case rel => exact ⟨j + 1, by go_num, by omega, HA2, HB1⟩
        case measure => simp [intOf]; omega
    · obtain rfl : j = l.length := by omega
      go_wp2_with fail
      go_loopw [8] (fun v8 w' => ∃ i : Nat, v8 = .int .i64 i ∧ i ≤ l.length ∧ Aside0 (∀ j, i ≤ j → j < l.length → lessB k (rd_T32 l (j : Int)).f0 = true) ∧ Aside0 (Below w.heap.size w w')) (fun v8 _ => (intOf v8).toNat)
      case atStart => exact ⟨l.length, rfl, Nat.le_refl _, ⟨fun j a b => absurd b (by omega)⟩, HB⟩
      case round =>
        obtain ⟨i, rfl, hi, HL, HB2⟩ := hrel
        rcases Nat.eq_zero_or_pos i with rfl | h0
        · have HF := Aside0.mk (find_f l k 0 hi HA.out HL.out (.inl rfl))
          go_wp2_with fail
          go_ret2
          rw [HF.out]
          exact ⟨rfl, HB2.out⟩
        · obtain ⟨ad, A0, c0, A1, c1, e, h0', h1, l0, g0, l1, g1⟩ := at_T32 (Kd.C_below HR.out HB2.out) ((i - 1 : Nat) : Int) (by omega) (by omega)
          cases e
          simp only [Int.toNat_natCast] at h0'
          have HL0 := Aside0.mk l0
          have HG0 := Aside0.mk g0
          have e1 : IntKind.i64.wrap ((i : Int) - 1) = ((i - 1 : Nat) : Int) := by rw [IntKind.wrap_i64]; omega
          have e2 : ((i - 1 : Nat) : Int) < (l.length : Int) := by omega
          have e3 : decide ((0 : Int) < (i : Int)) = true := decide_eq_true (by omega)
          have e4 : (0 : Int) < (i : Int) := by omega
          clear l0 g0 l1 g1 h1
          go_wp2_with fail
          refine (cmp27 B A0 d c0 k (rd_T32 l ((i - 1 : Nat) : Int)).f0 _ (Kd.C_below HK.out HB2.out) HG0.out).mono ?_
          rintro e w1 ⟨rfl, rfl⟩
          cases hs : lessB k (rd_T32 l ((i - 1 : Nat) : Int)).f0 with
          | true =>
            have hs' : decide (Lib.compareBytes (Lib.bytesOf k) (Lib.bytesOf (rd_T32 l ((i - 1 : Nat) : Int)).f0) < 0) = true := hs
            have HL2 := Aside0.mk (show ∀ j, i - 1 ≤ j → j < l.length → lessB k (rd_T32 l (j : Int)).f0 = true from fun j a b => by
              rcases Nat.lt_or_ge j i with h | h
              · obtain rfl : j = i - 1 := by omega
                exact hs
              · exact HL.out j h b)
            clear hs
            go_wp2_with fail
            go_roundw
            case rel => exact ⟨i - 1, rfl, by omega, HL2, HB2⟩
            case measure => simp [intOf]; omega
          | false =>
            have hs' : decide (Lib.compareBytes (Lib.bytesOf k) (Lib.bytesOf (rd_T32 l ((i - 1 : Nat) : Int)).f0) < 0) = false := hs
            have HF := Aside0.mk (find_f l k i hi HA.out HL.out (.inr hs))
            clear hs
            go_wp2_with fail
            go_ret2
            rw [HF.out]
            exact ⟨rfl, HB2.out⟩
end Go.Proofs.Ythfplgfpodmphaa.Ms
