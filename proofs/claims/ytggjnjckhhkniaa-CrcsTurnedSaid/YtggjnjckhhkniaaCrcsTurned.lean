/- Bytes of which one bit, or any bits within four bytes in a row, were turned have another sum; no conditions. -/
import Derived.Test.YtggjnjckhhkniaaRows
import Derived.WalkKit
import Derived.ProofKit
import Derived.OpenShut
import Derived.ShutString
import Derived.ChangeOld
import Derived.Below
import Derived.SizedLaws
import Derived.Test.YtggjnjckhhkniaaWSized
import Derived.Test.YtggjnjckhhkniaaCrcsTurnedB
import Derived.Test.YtggjnjckhhkniaaCs
namespace Go.Proofs.Ytggjnjckhhkniaa.Cs
open Go.RowKit Go.Proofs.YtggjnjckhhkniaaW.PrintWords Go.Proofs.YtggjnjckhhkniaaW.PrintLast Go.Proofs.YtggjnjckhhkniaaW.PrintMore
attribute [local go_sem] max2_int min2_int max_two min_two max_three min_three max_four min_four
set_option linter.unusedVariables false
set_option linter.unusedSimpArgs false

theorem diff_zero (p q : Nat) (E : List Nat) (hE : E.length ≤ 4) (hb : ∀ x ∈ E, x < 256) (h : Crc.run 0 (List.replicate p 0 ++ E ++ List.replicate q 0) = 0) : ∀ x ∈ E, x = 0 := by
  rw [Crc.run_append, Crc.run_append, Crc.run_zeros] at h
  have h0 : Crc.run 0 E = 0 := Crc.run_zeros_inj q (Crc.run_lt E 0 (by decide) hb) h
  have h4 : Crc.run 0 (E ++ List.replicate (4 - E.length) 0) = 0 := by rw [Crc.run_append, h0, Crc.run_zeros]
  intro x hx
  match E, hE, hb, h4, hx with
  | [a], _, hb, h4, hx =>
    obtain ⟨z, _⟩ := Crc.four (hb a (by simp)) (by decide) (by decide) (by decide) h4
    rw [List.mem_singleton.1 hx]
    exact z
  | [a, b], _, hb, h4, hx =>
    obtain ⟨z1, z2, _⟩ := Crc.four (hb a (by simp)) (hb b (by simp)) (by decide) (by decide) h4
    simp at hx
    rcases hx with rfl | rfl <;> assumption
  | [a, b, c], _, hb, h4, hx =>
    obtain ⟨z1, z2, z3, _⟩ := Crc.four (hb a (by simp)) (hb b (by simp)) (hb c (by simp)) (by decide) h4
    simp at hx
    rcases hx with rfl | rfl | rfl <;> assumption
  | [a, b, c, d], _, hb, h4, hx =>
    obtain ⟨z1, z2, z3, z4⟩ := Crc.four (hb a (by simp)) (hb b (by simp)) (hb c (by simp)) (hb d (by simp)) h4
    simp at hx
    rcases hx with rfl | rfl | rfl | rfl <;> assumption
/-- What is laid on the row between p and p + E.length turns the sum, unless it is nought. -/
theorem sm_diff (l X : List Nat) (p q : Nat) (E : List Nat) (hn : l.length = p + E.length + q) (hE : E.length ≤ 4) (hb : ∀ x ∈ E, x < 256) (hX : X = List.zipWith (· ^^^ ·) l (List.replicate p 0 ++ E ++ List.replicate q 0)) :
    Crc.sm X = Crc.sm l ↔ ∀ x ∈ E, x = 0 := by
  have r := Crc.run_xor l (List.replicate p 0 ++ E ++ List.replicate q 0) 4294967295 0 (by simp; omega)
  rw [Nat.xor_zero, ← hX] at r
  unfold Crc.sm
  constructor
  · intro h
    rw [Nat.xor_comm, Nat.xor_comm (Crc.run _ l)] at h
    have h2 := Crc.xcancel h
    rw [r] at h2
    have h3 : Crc.run 0 (List.replicate p 0 ++ E ++ List.replicate q 0) = 0 := by
      have := Crc.xx (Crc.run 4294967295 l) (Crc.run 0 (List.replicate p 0 ++ E ++ List.replicate q 0))
      rw [h2, Nat.xor_self] at this
      exact this.symm
    exact diff_zero p q E hE hb h3
  · intro h
    have hz : E = List.replicate E.length 0 := List.eq_replicate_iff.2 ⟨rfl, h⟩
    have : Crc.run 0 (List.replicate p 0 ++ E ++ List.replicate q 0) = 0 := by
      rw [hz, List.replicate_append_replicate, List.replicate_append_replicate, Crc.run_zeros]
    rw [r, this, Nat.xor_zero]
theorem u64_nonneg (x : Int) : 0 ≤ IntKind.u64.wrap x := by
  simp only [IntKind.wrap, IntKind.bits, IntKind.signed]
  exact Int.emod_nonneg _ (by decide)
theorem u64_small (x : Int) (h0 : 0 ≤ x) (h1 : x < 10000) : IntKind.u64.wrap x = x := by
  simp only [IntKind.wrap, IntKind.bits, IntKind.signed]
  exact Int.emod_eq_of_lt h0 (Int.lt_trans h1 (by decide))
def dig (x : Int) (i : Nat) : Nat := (x / 2 ^ (8 * i) % 256).toNat
theorem dig_lt (x : Int) (i : Nat) : dig x i < 256 := by
  unfold dig
  omega
theorem dig_eq (x : Int) (i : Nat) (hi : i < 4) : (shr .i64 x (IntKind.u64.wrap (wrap64 (8 * ((i : Nat) : Int))))) % 256 = ((dig x i : Nat) : Int) := by
  have e1 : wrap64 (8 * ((i : Nat) : Int)) = ((8 * i : Nat) : Int) := by unfold wrap64; omega
  have e2 : IntKind.u64.wrap ((8 * i : Nat) : Int) = ((8 * i : Nat) : Int) := u64_small _ (by omega) (by omega)
  rw [e1, e2]
  unfold shr dig
  rw [Int.toNat_natCast, Nat.min_eq_left (by show 8 * i ≤ 64; omega)]
  omega
/-- The row with the first i turned. -/
def Laid (l X : List Int) (p i : Nat) (x2 : Int) : Prop :=
  X.length = l.length ∧ Bytes X ∧ ∀ j (h : j < l.length), ((X.map Int.toNat)[j]?) = some ((l[j]).toNat ^^^ (if p ≤ j ∧ j < p + i then dig x2 (j - p) else 0))
theorem laid_sum (l X : List Int) (hl : Bytes l) (p : Nat) (x2 : Int) (hp : p < l.length) (h : Laid l X p 4 x2) :
    Crc.sm (X.map Int.toNat) = Crc.sm (l.map Int.toNat) ↔ ∀ i, i < 4 → p + i < l.length → dig x2 i = 0 := by
  obtain ⟨hlen, _, hat⟩ := h
  have hE : ((List.range (min 4 (l.length - p))).map (dig x2)).length = min 4 (l.length - p) := by simp
  rw [sm_diff (l.map Int.toNat) (X.map Int.toNat) p (l.length - p - min 4 (l.length - p)) ((List.range (min 4 (l.length - p))).map (dig x2)) (by rw [hE, List.length_map]; omega) (by rw [hE]; omega) (by
      intro x hx
      obtain ⟨i, _, rfl⟩ := List.mem_map.1 hx
      exact dig_lt x2 i) ?_]
  · constructor
    · intro h i hi hpi
      exact h _ (List.mem_map.2 ⟨i, List.mem_range.2 (by omega), rfl⟩)
    · intro h x hx
      obtain ⟨i, hi, rfl⟩ := List.mem_map.1 hx
      have := List.mem_range.1 hi
      exact h i (by omega) (by omega)
  · apply List.ext_getElem?
    intro j
    rcases Nat.lt_or_ge j l.length with hj | hj
    · rw [hat j hj, List.getElem?_zipWith]
      rw [List.getElem?_map, List.getElem?_eq_getElem hj]
      have : (List.replicate p 0 ++ List.map (dig x2) (List.range (min 4 (l.length - p))) ++ List.replicate (l.length - p - min 4 (l.length - p)) 0)[j]? = some (if p ≤ j ∧ j < p + 4 then dig x2 (j - p) else 0) := by
        rcases Nat.lt_or_ge j p with h1 | h1
        · rw [List.append_assoc, List.getElem?_append_left (by simpa using h1), List.getElem?_replicate, if_pos h1, if_neg (by omega)]
        · rcases Nat.lt_or_ge j (p + 4) with h2 | h2
          · rw [List.getElem?_append_left (by simp; omega), List.getElem?_append_right (by simpa using h1), List.length_replicate, List.getElem?_map, List.getElem?_range (by omega), if_pos ⟨h1, h2⟩]
            rfl
          · rw [List.getElem?_append_right (by simp; omega), List.getElem?_replicate, if_pos (by simp; omega), if_neg (by omega)]
      rw [this]
      rfl
    · rw [List.getElem?_eq_none (by simp; omega), List.getElem?_eq_none (by simp; omega)]
theorem turned_l (l : List Int) (hb : Bytes l) (hl : l.length ≤ 300) (x2 : Int) (t p : Nat) (htp : t / 8 = p) (hp : p < l.length) (j : Nat) : ∀ (k : Nat) (X : List Int) (f : Bool), j ≤ 4 → j + 400 < k → Laid l X p (4 - j) x2 →
    (f = true ↔ ∃ i, i < 4 - j ∧ p + i < l.length ∧ dig x2 i ≠ 0) →
    hocketlaw1_CrcsTurned.l0 k l x2 (t : Int) X f ((4 - j : Nat) : Int) = some true := by
  have ht3 : t < 3000 := by omega
  have e8 : wrap64 (Int.tdiv (t : Int) 8) = (p : Int) := by
    rw [show Int.tdiv (t : Int) 8 = ((t / 8 : Nat) : Int) from rfl, htp]
    unfold wrap64
    omega
  induction j with
  | zero =>
    intro k X f _ hk hX hf
    obtain ⟨k, rfl⟩ : ∃ m, k = m + 1 := ⟨k - 1, by omega⟩
    simp only [hocketlaw1_CrcsTurned.l0]
    rw [if_neg (by omega), crcs_sum_f X hX.2.1 (by have := hX.1; omega) k (by have := hX.1; omega)]
    simp only [Option.bind_some]
    rw [crcs_sum_f l hb (by omega) k (by omega)]
    simp only [Option.bind_some]
    have hs := laid_sum l X hb p x2 hp hX
    rw [if_pos, awake_f k (by omega)]
    · rfl
    · rw [beq_iff_eq, Bool.eq_iff_iff, beq_iff_eq]
      constructor
      · intro h
        have h2 := hs.1 (by omega)
        cases f with
        | false => rfl
        | true =>
          obtain ⟨i, h3, h4, h5⟩ := hf.1 rfl
          exact absurd (h2 i h3 h4) h5
      · intro h
        cases f with
        | true => simp at h
        | false =>
          rw [hs.2]
          intro i hi hpi
          rcases Nat.eq_zero_or_pos (dig x2 i) with h0 | h0
          · exact h0
          · exact absurd (hf.2 ⟨i, hi, hpi, by omega⟩) (by simp)
  | succ j ih =>
    intro k X f hj hk hX hf
    obtain ⟨k, rfl⟩ : ∃ m, k = m + 1 := ⟨k - 1, by omega⟩
    have hlen := hX.1
    simp only [hocketlaw1_CrcsTurned.l0]
    have ei : wrap64 ((p : Int) + ((4 - (j + 1) : Nat) : Int)) = ((p + (4 - (j + 1)) : Nat) : Int) := by unfold wrap64; omega
    rw [if_pos (by omega), e8, ei, wrap_up _ (by omega), show 4 - (j + 1) + 1 = 4 - j from by omega, dig_eq x2 (4 - (j + 1)) (by omega)]
    have esh : 0 ≤ IntKind.u64.wrap (wrap64 (8 * ((4 - (j + 1) : Nat) : Int))) := u64_nonneg _
    by_cases hin : p + (4 - (j + 1)) < l.length
    · rw [if_pos (by omega), if_pos esh, if_pos (by omega)]
      simp only [Option.bind_some, Int.toNat_natCast]
      have hv : ((X.map Int.toNat)[p + (4 - (j + 1))]?) = some ((l[p + (4 - (j + 1))]).toNat ^^^ 0) := by
        have := hX.2.2 _ hin
        rw [if_neg (by omega)] at this
        exact this
      rw [Nat.xor_zero] at hv
      obtain ⟨y, hy, ey, _⟩ := rd_nat X hX.2.1 (p + (4 - (j + 1))) (by omega)
      have hyl : y = (l[p + (4 - (j + 1))]).toNat := by
        rw [List.getElem?_map, List.getElem?_eq_getElem (by omega : p + (4 - (j + 1)) < X.length)] at hv
        have e2 : X[p + (4 - (j + 1))] = (y : Int) := by
          have e3 : rd X ((p + (4 - (j + 1)) : Nat) : Int) = X[p + (4 - (j + 1))] := by
            simp only [rd, Int.toNat_natCast, List.getD_eq_getElem?_getD]
            rw [List.getElem?_eq_getElem (by omega)]
            rfl
          rw [← e3]
          exact ey
        rw [e2] at hv
        simpa using hv
      rw [ey, xu8 y _ hy (dig_lt _ _)]
      have hlt : y ^^^ dig x2 (4 - (j + 1)) < 2 ^ 8 := Nat.xor_lt_two_pow hy (dig_lt _ _)
      have hX2 : Laid l (X.set (p + (4 - (j + 1))) ((y ^^^ dig x2 (4 - (j + 1)) : Nat) : Int)) p (4 - j) x2 := by
        refine ⟨by simpa using hlen, ?_, ?_⟩
        · intro v hv
          rcases List.mem_or_eq_of_mem_set hv with hv | rfl
          · exact hX.2.1 v hv
          · exact u8_wf (by omega) (by omega)
        · intro q hq
          rw [List.map_set]
          rcases Nat.lt_trichotomy q (p + (4 - (j + 1))) with h1 | h1 | h1
          · rw [List.getElem?_set_ne (by omega), hX.2.2 q hq]
            congr 2
            by_cases h2 : p ≤ q
            · rw [if_pos (by omega), if_pos (by omega)]
            · rw [if_neg (by omega), if_neg (by omega)]
          · subst h1
            rw [List.getElem?_set_self (by simpa using (by omega : p + (4 - (j + 1)) < X.length)), if_pos (by omega), ← hyl, Int.toNat_natCast, show p + (4 - (j + 1)) - p = 4 - (j + 1) from by omega]
          · rw [List.getElem?_set_ne (by omega), hX.2.2 q hq, if_neg (by omega), if_neg (by omega)]
      have hf2 : ∀ g : Bool, (g = true ↔ (f = true ∨ dig x2 (4 - (j + 1)) ≠ 0)) → (g = true ↔ ∃ i, i < 4 - j ∧ p + i < l.length ∧ dig x2 i ≠ 0) := by
        intro g hg
        rw [hg, hf]
        constructor
        · rintro (⟨i, h1, h2, h3⟩ | h3)
          · exact ⟨i, by omega, h2, h3⟩
          · exact ⟨4 - (j + 1), by omega, hin, h3⟩
        · rintro ⟨i, h1, h2, h3⟩
          rcases Nat.lt_or_ge i (4 - (j + 1)) with h4 | h4
          · exact .inl ⟨i, h4, h2, h3⟩
          · obtain rfl : i = 4 - (j + 1) := by omega
            exact .inr h3
      split
      · rename_i hft
        exact ih k _ true (by omega) (by omega) hX2 (hf2 true (by simp [hft]))
      · rename_i hft
        refine ih k _ _ (by omega) (by omega) hX2 (hf2 _ ?_)
        simp only [bne_iff_ne, ne_eq]
        constructor
        · intro h
          exact .inr (by omega)
        · rintro (h | h)
          · exact absurd h hft
          · omega
    · rw [if_neg (by omega)]
      refine ih k X f (by omega) (by omega) ⟨hX.1, hX.2.1, ?_⟩ ?_
      · intro q hq
        rw [hX.2.2 q hq]
        congr 2
        by_cases h2 : p ≤ q ∧ q < p + (4 - (j + 1))
        · rw [if_pos h2, if_pos (by omega)]
        · rw [if_neg h2, if_neg (by omega)]
      · rw [hf]
        constructor
        · rintro ⟨i, h1, h2, h3⟩
          exact ⟨i, by omega, h2, h3⟩
        · rintro ⟨i, h1, h2, h3⟩
          exact ⟨i, by omega, h2, h3⟩
theorem and_mask_range (a : Int) : 0 ≤ Go.bits .and .i64 a 65535 ∧ Go.bits .and .i64 a 65535 < 65536 := by
  have e : (65535 : Int) = ((65535 : Nat) : Int) := rfl
  simp only [Go.bits, e, BitVec.ofInt_natCast, BitVec.toNat_and]
  have h : (BitVec.ofInt IntKind.i64.bits a).toNat &&& (BitVec.ofNat IntKind.i64.bits 65535).toNat < 2 ^ 16 := Nat.and_lt_two_pow _ (by decide)
  generalize (BitVec.ofInt IntKind.i64.bits a).toNat &&& (BitVec.ofNat IntKind.i64.bits 65535).toNat = t at h ⊢
  rw [IntKind.wrap_i64]
  omega
theorem and7 (t : Nat) (h : t < 3000) : Go.bits .and .i64 (t : Int) 7 = ((t % 8 : Nat) : Int) := by
  have e : (7 : Int) = ((7 : Nat) : Int) := rfl
  simp only [Go.bits, e, BitVec.ofInt_natCast, BitVec.toNat_and, BitVec.toNat_ofNat]
  rw [show IntKind.i64.bits = 64 from rfl, Nat.mod_eq_of_lt (by omega : t < 2 ^ 64), show 7 % 2 ^ 64 = 2 ^ 3 - 1 from by decide, Nat.and_two_pow_sub_one_eq_mod, IntKind.wrap_i64]
  omega
theorem CrcsTurned : hocketlaw1_CrcsTurned.Pure := by
  intro l a x2 hl1 hl2 hb ha hx2
  obtain ⟨K, hK⟩ : ∃ K, K = 1000 + l.length := ⟨_, rfl⟩
  refine ⟨K, ?_⟩
  have aw : ∀ k, 30 < k → hocketlaw1_CrcsTurned.j0 k l a x2 true = some true := by
    intro k hk
    obtain ⟨k, rfl⟩ : ∃ m, k = m + 1 := ⟨k - 1, by omega⟩
    simp only [hocketlaw1_CrcsTurned.j0, if_true]
    rw [awake_f k (by omega)]
    rfl
  unfold hocketlaw1_CrcsTurned.f
  by_cases hlen : (l.length : Int) > 300
  · rw [if_pos hlen]
    exact aw _ (by omega)
  rw [if_neg hlen]
  by_cases h0 : l.length = 0
  · rw [show ((l.length : Int) == 0) = true from by rw [h0]; rfl]
    exact aw _ (by omega)
  rw [show ((l.length : Int) == 0) = false from by rw [beq_eq_false_iff_ne]; omega]
  have hlen3 : l.length ≤ 300 := by omega
  obtain ⟨k, hk⟩ : ∃ m, K = m + 1 := ⟨K - 1, by omega⟩
  rw [hk]
  simp only [hocketlaw1_CrcsTurned.j0]
  have hft : ¬ (false = true) := by decide
  rw [if_neg hft, Option.bind_some, if_pos (by simp; omega), Option.bind_some, List.nil_append]
  have e8 : wrap64 (8 * (l.length : Int)) = ((8 * l.length : Nat) : Int) := by unfold wrap64; omega
  rw [e8, if_neg (by omega)]
  obtain ⟨t, ht, ht2⟩ : ∃ t : Nat, Int.tmod (Go.bits .and .i64 a 65535) ((8 * l.length : Nat) : Int) = (t : Int) ∧ t < 8 * l.length := by
    have hp := (and_mask_range a).1
    have h1 := Int.tmod_nonneg ((8 * l.length : Nat) : Int) hp
    have h2 := Int.tmod_lt_of_pos (Go.bits .and .i64 a 65535) (show (0 : Int) < ((8 * l.length : Nat) : Int) from by omega)
    exact ⟨(Int.tmod (Go.bits .and .i64 a 65535) ((8 * l.length : Nat) : Int)).toNat, by omega, by omega⟩
  rw [ht]
  have ep : wrap64 (Int.tdiv (t : Int) 8) = ((t / 8 : Nat) : Int) := by
    rw [show Int.tdiv (t : Int) 8 = ((t / 8 : Nat) : Int) from rfl]
    unfold wrap64
    omega
  have er : IntKind.u64.wrap ((t % 8 : Nat) : Int) = ((t % 8 : Nat) : Int) := u64_small _ (by omega) (by omega)
  rw [ep, and7 t (by omega), er, if_pos (by omega), if_pos (by omega), if_pos (by omega)]
  obtain ⟨y, hy, ey, _⟩ := rd_nat l hb (t / 8) (by omega)
  have eb : shl .u8 1 ((t % 8 : Nat) : Int) = ((2 ^ (t % 8) : Nat) : Int) ∧ 2 ^ (t % 8) < 256 ∧ 2 ^ (t % 8) ≠ 0 := by
    have hr : t % 8 < 8 := by omega
    generalize t % 8 = r at hr ⊢
    match r, hr with
    | 0, _ => decide
    | 1, _ => decide
    | 2, _ => decide
    | 3, _ => decide
    | 4, _ => decide
    | 5, _ => decide
    | 6, _ => decide
    | 7, _ => decide
  obtain ⟨eb1, eb2, eb3⟩ := eb
  rw [ey, eb1, xu8 y _ hy eb2, Int.toNat_natCast]
  have hlt : y ^^^ 2 ^ (t % 8) < 2 ^ 8 := Nat.xor_lt_two_pow hy eb2
  have hbx : Bytes (l.set (t / 8) ((y ^^^ 2 ^ (t % 8) : Nat) : Int)) := by
    intro v hv
    rcases List.mem_or_eq_of_mem_set hv with hv | rfl
    · exact hb v hv
    · exact u8_wf (by omega) (by omega)
  rw [crcs_sum_f _ hbx (by simp; omega) k (by simp; omega)]
  rw [Option.bind_some]
  rw [crcs_sum_f l hb (by omega) k (by omega)]
  rw [Option.bind_some]
  have hyl : (l.map Int.toNat)[t / 8]? = some y := by
    rw [List.getElem?_map, List.getElem?_eq_getElem (by omega : t / 8 < l.length)]
    have e3 : rd l ((t / 8 : Nat) : Int) = l[t / 8]'(by omega) := by
      simp only [rd, Int.toNat_natCast, List.getD_eq_getElem?_getD]
      rw [List.getElem?_eq_getElem (by omega)]
      rfl
    rw [e3] at ey
    simp [ey]
  have hne : Crc.sm ((l.set (t / 8) ((y ^^^ 2 ^ (t % 8) : Nat) : Int)).map Int.toNat) ≠ Crc.sm (l.map Int.toNat) := by
    intro he
    have := (sm_diff (l.map Int.toNat) ((l.set (t / 8) ((y ^^^ 2 ^ (t % 8) : Nat) : Int)).map Int.toNat) (t / 8) (l.length - t / 8 - 1) [2 ^ (t % 8)] (by simp; omega) (by simp) (by simpa using eb2) (by
      rw [List.map_set, Int.toNat_natCast]
      apply List.ext_getElem?
      intro j
      rw [List.getElem?_zipWith]
      rcases Nat.lt_trichotomy j (t / 8) with h1 | h1 | h1
      · rw [List.getElem?_set_ne (by omega), List.append_assoc, List.getElem?_append_left (by simpa using h1), List.getElem?_replicate, if_pos h1]
        cases (l.map Int.toNat)[j]? <;> simp
      · subst h1
        rw [List.getElem?_set_self (by simp; omega), hyl, List.append_assoc, List.getElem?_append_right (by simp)]
        simp
      · rw [List.getElem?_set_ne (by omega), List.getElem?_append_right (by simp; omega), List.getElem?_replicate]
        rcases Nat.lt_or_ge j l.length with h2 | h2
        · rw [if_pos (by simp; omega)]
          cases (l.map Int.toNat)[j]? <;> simp
        · rw [List.getElem?_eq_none (by simpa using h2)])).1 he
    exact eb3 (this _ (by simp))
  rw [if_neg (by omega), Option.bind_some, if_pos (by simp; omega), List.nil_append]
  have := turned_l l hb hlen3 x2 t (t / 8) rfl (by omega) 4 k l false (by omega) (by omega) ⟨rfl, hb, ?_⟩ ?_
  · rw [Nat.sub_self] at this
    exact this
  · intro q hq
    rw [if_neg (by omega), Nat.xor_zero, List.getElem?_map, List.getElem?_eq_getElem hq]
    rfl
  · constructor
    · intro h
      simp at h
    · rintro ⟨i, h, _⟩
      omega
end Go.Proofs.Ytggjnjckhhkniaa.Cs
namespace Go.Proofs.Ytggjnjckhhkniaa.crcsTurned
open Go.ChangeShapes Go.WideShapes Go.ChangeAt Go.RowKit
open Go.ChangeMaps (open_string shut_string)
set_option linter.unusedVariables false
theorem own : ownKnob Try.prog.godebug = none := by kernel_rfl
theorem laidOut : laidOutB Try.prog = true := by kernel_rfl
def IsRow (k : IntKind) (w : World) (a : Option Addr) (len cap : Nat) (zs : List Int) : Prop :=
  (a = none ∧ len = 0 ∧ cap = 0 ∧ zs = []) ∨
  ∃ x, a = some x ∧ len ≤ cap ∧ cap ≤ maxLen ∧ zs.length = cap ∧ (∀ i, i < zs.length → w.cell? (x.add i) = some (.int k (zs.getD i 0))) ∧ ∀ n ∈ zs, (Lit.int k n).wf = true
set_option maxRecDepth 100000 in
theorem lifted (os : Os) (started : os.Started) (H : Type) (enc : TypeId × Value → H) :
    ReturnsInHanded {} Try.checked os 6 .any (Rows.crcsTurnedSpec.pre6 enc Try.prog Try.f6 Rows.crcsTurnedRow.domain false) (Rows.crcsTurnedSpec.post enc Try.prog Try.f6 false true false false) := by
  refine returnsInHanded_of_change_sized (C := Try.checked) own started (by kernel_rfl) Try.func6
    (ChangeSpec.witness6 (enc := enc) (C := Try.checked) false ⟨#[], #[.slice none 0 0, .int .i64 0, .int .i64 0], []⟩ 8 (by kernel_rfl) (by kernel_rfl) (by kernel_rfl) (by kernel_rfl)) ?_
  intro W base args ds gs before hval0 hW hcnd hsz0 _
  have hsz : (DataW.weightsEach Try.prog (Try.f6.params.toList ++ Rows.crcsTurnedSpec.plain.varTypes Try.prog) (ds ++ gs)).all (· ≤ reachBytes) = true := hsz0
  have hval : ∀ (j : Nat) t v, Try.f6.params[j]? = some t → args[j]? = some v → Value.okWide Try.prog W .any base t v := hval0
  have hW' := hW
  obtain ⟨p, q, hA0, hV, rfl, hfz, hnd⟩ := hW
  have hA : DataW.TrodAll enc Try.prog W 0 (fun _ => true) true Try.f6.params.toList args.toList ds p := hA0
  rw [Try.params6] at hA hval hsz
  obtain ⟨v0, vs0, d0, ds0, p0, q0, hargs, rfl, rfl, h0, r0⟩ := trodAll_cons hA
  obtain ⟨v1, vs1, d1, ds1, p1, q1, rfl, rfl, rfl, h1, r1⟩ := trodAll_cons r0
  obtain ⟨v2, vs2, d2, ds2, p2, q2, rfl, rfl, rfl, h2, r2⟩ := trodAll_cons r1
  obtain ⟨rfl, rfl, rfl⟩ := trodAll_nil r2
  obtain rfl : args = #[v0, v1, v2] := by cases args; simp_all
  obtain ⟨rfl, rfl⟩ := trodVars_none hV
  obtain ⟨a0, len0, cap0, rfl⟩ := okWide_slice Try.underlying26 (hval 0 26 v0 rfl rfl)
  have k0 := h0
  have lt0 : ∀ x ∈ p0, x.block < W.heap.size := by obtain ⟨m, hm⟩ := k0; exact DataW.trod_lt m _ _ _ hm
  obtain ⟨z0, w0⟩ : ∃ zs, IsRow .u8 W a0 len0 cap0 zs := by
    obtain ⟨fuel, hf⟩ := h0
    rcases open_ints Try.underlying26 Try.underlying5 (by kernel_rfl) hf with ⟨hcs, _⟩ | ⟨x, l, c, zs, hcs, _, hl, hm, hz, _, hcell, hwz⟩
    · simp [Value.cells] at hcs
      obtain ⟨rfl, rfl, rfl⟩ := hcs
      exact ⟨[], .inl ⟨rfl, rfl, rfl, rfl⟩⟩
    · simp [Value.cells] at hcs
      obtain ⟨rfl, rfl, rfl⟩ := hcs
      exact ⟨zs, .inr ⟨_, rfl, hl, hm, by simpa using hz, hcell, hwz⟩⟩
  have y0 : len0 * 1 ≤ 140737488351232 := YtggjnjckhhkniaaW.PrintWords.sized_ints hsz (j := 0) (t := 26) rfl rfl Try.underlying26 Try.underlying5 (by kernel_rfl) (by kernel_rfl) h0
  obtain ⟨a1, rfl, rfl, rfl, w1⟩ := open_int Try.underlying3 (hval 1 3 v1 rfl rfl) h1
  obtain ⟨a2, rfl, rfl, rfl, w2⟩ := open_int Try.underlying3 (hval 2 3 v2 rfl rfl) h2
  clear hA0 hval0 hsz0 hsz
  refine (Cs.hocketlaw1_CrcsTurned.walk Cs.CrcsTurned a0 len0 cap0 z0 a1 a2 W w0 y0 w1 w2).mono fun e W' ⟨he, bel⟩ => ?_
  subst he
  exact ⟨_, rfl, _, _, _, [], _, [], hW', trodAll_mk1 (shut_bool Try.underlying4 _), (trodAll_cons_mk (Below.trod laidOut (by kernel_rfl) (of_decide_eq_true (by kernel_rfl)) k0 bel lt0) (trodAll_cons_mk (shut_int Try.underlying3 w1) (trodAll_cons_mk (shut_int Try.underlying3 w2) trodAll_mk0))), rfl, bel.frame _, fun h => by cases h⟩
theorem over : Rows.crcsTurnedRow.holds Try.pinned (OpenSpec.ofChange Rows.crcsTurnedSpec) :=
  OpenClaim.holds_of_wide 6 Try.f6 rfl rfl rfl rfl rfl rfl rfl ⟨rfl, rfl, rfl, rfl, rfl⟩ rfl rfl rfl rfl rfl (by kernel_rfl) Try.func6 (by kernel_rfl)
    (of_decide_eq_true (by kernel_rfl)) (by unfold Func.isWrapper; first | (rw [if_pos (by decide +kernel)]; kernel_rfl) | (rw [if_neg (by decide +kernel)]; exact ⟨rfl, rfl⟩))
    (fun os started H enc _ => lifted os started H enc)
theorem proved : Rows.CrcsTurnedSaid := over
end Go.Proofs.Ytggjnjckhhkniaa.crcsTurned
namespace Go.Proofs.Ytggjnjckhhkniaa
/-- The row, under a short name, for the claim. -/
theorem crcsTurned_holds : Rows.CrcsTurnedSaid := crcsTurned.proved
end Go.Proofs.Ytggjnjckhhkniaa
