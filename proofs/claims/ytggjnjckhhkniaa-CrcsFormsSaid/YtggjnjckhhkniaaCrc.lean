/- The plain law of the sums: stepping by one bit is linear and loses nothing; over numbers alone. -/
namespace Go.Proofs.Ytggjnjckhhkniaa
namespace Crc
def P : Nat := 3988292384
def st (c : Nat) : Nat := if c % 2 = 1 then (c / 2) ^^^ P else c / 2
def sts : Nat → Nat → Nat
  | 0, c => c
  | n + 1, c => sts n (st c)
def nx (c b : Nat) : Nat := sts 8 (c ^^^ b)
def run (c : Nat) (l : List Nat) : Nat := l.foldl nx c
def sm (l : List Nat) : Nat := run 4294967295 l ^^^ 4294967295

theorem xlc (a b c : Nat) : a ^^^ (b ^^^ c) = b ^^^ (a ^^^ c) := by
  rw [← Nat.xor_assoc, Nat.xor_comm a b, Nat.xor_assoc]
theorem xx (a b : Nat) : a ^^^ (a ^^^ b) = b := by
  rw [← Nat.xor_assoc, Nat.xor_self, Nat.zero_xor]
theorem x0 {a b : Nat} (h : a ^^^ b = 0) : a = b := by
  have := xx a b
  rw [h, Nat.xor_zero] at this
  exact this
theorem xcancel {a b c : Nat} (h : a ^^^ b = a ^^^ c) : b = c := by
  have := xx a b
  rw [h, xx] at this
  exact this.symm
theorem xor_mod2 (a b : Nat) : (a ^^^ b) % 2 = (a + b) % 2 := by
  have h := Nat.testBit_xor a b 0
  simp only [Nat.testBit_zero] at h
  have ha : a % 2 = 0 ∨ a % 2 = 1 := by omega
  have hb : b % 2 = 0 ∨ b % 2 = 1 := by omega
  have hx : (a ^^^ b) % 2 = 0 ∨ (a ^^^ b) % 2 = 1 := by omega
  rcases ha with ha | ha <;> rcases hb with hb | hb <;> rcases hx with hx | hx <;> simp [ha, hb, hx] at h <;> omega
theorem st_xor (a b : Nat) : st (a ^^^ b) = st a ^^^ st b := by
  unfold st
  rw [Nat.xor_div_two, xor_mod2]
  have ha : a % 2 = 0 ∨ a % 2 = 1 := by omega
  have hb : b % 2 = 0 ∨ b % 2 = 1 := by omega
  rcases ha with ha | ha <;> rcases hb with hb | hb
  · rw [if_neg (by omega), if_neg (by omega), if_neg (by omega)]
  · rw [if_pos (by omega), if_neg (by omega), if_pos (by omega), Nat.xor_assoc]
  · rw [if_pos (by omega), if_pos (by omega), if_neg (by omega), Nat.xor_assoc, Nat.xor_assoc, Nat.xor_comm P]
  · rw [if_neg (by omega), if_pos (by omega), if_pos (by omega), Nat.xor_assoc, xlc P, Nat.xor_self, Nat.xor_zero]
theorem st_lt {c : Nat} (h : c < 2 ^ 32) : st c < 2 ^ 32 := by
  unfold st
  split
  · exact Nat.xor_lt_two_pow (by omega) (by decide)
  · omega
theorem st_zero {c : Nat} (h : c < 2 ^ 32) (h0 : st c = 0) : c = 0 := by
  unfold st at h0
  split at h0
  · have := x0 h0
    unfold P at this
    omega
  · omega
theorem st0 : st 0 = 0 := by decide
theorem sts_xor (n a b : Nat) : sts n (a ^^^ b) = sts n a ^^^ sts n b := by
  induction n generalizing a b with
  | zero => rfl
  | succ n ih => simp only [sts]; rw [st_xor, ih]
theorem sts_lt (n : Nat) {c : Nat} (h : c < 2 ^ 32) : sts n c < 2 ^ 32 := by
  induction n generalizing c with
  | zero => exact h
  | succ n ih => exact ih (st_lt h)
theorem sts_zero (n : Nat) {c : Nat} (h : c < 2 ^ 32) (h0 : sts n c = 0) : c = 0 := by
  induction n generalizing c with
  | zero => exact h0
  | succ n ih => exact st_zero h (ih (st_lt h) h0)
theorem sts0 (n : Nat) : sts n 0 = 0 := by
  induction n with
  | zero => rfl
  | succ n ih => simp only [sts, st0]; exact ih
theorem sts_add (m n c : Nat) : sts (m + n) c = sts n (sts m c) := by
  induction m generalizing c with
  | zero => simp [sts]
  | succ m ih => rw [Nat.succ_add]; simp only [sts]; exact ih _
theorem sts_inj (n : Nat) {a b : Nat} (ha : a < 2 ^ 32) (hb : b < 2 ^ 32) (h : sts n a = sts n b) : a = b := by
  apply x0
  apply sts_zero n (Nat.xor_lt_two_pow ha hb)
  rw [sts_xor, h, Nat.xor_self]
theorem sts_shift (n d : Nat) : sts n (d * 2 ^ n) = d := by
  induction n with
  | zero => simp [sts]
  | succ n ih =>
    simp only [sts]
    have : st (d * 2 ^ (n + 1)) = d * 2 ^ n := by
      unfold st
      have e : d * 2 ^ (n + 1) = 2 * (d * 2 ^ n) := by rw [Nat.pow_succ]; rw [← Nat.mul_assoc, Nat.mul_comm]
      rw [e, if_neg (by omega)]
      omega
    rw [this, ih]
theorem nx_lt {c b : Nat} (h : c < 2 ^ 32) (hb : b < 2 ^ 8) : nx c b < 2 ^ 32 :=
  sts_lt 8 (Nat.xor_lt_two_pow h (by omega))
theorem nx_inj {c a b : Nat} (h : c < 2 ^ 32) (ha : a < 2 ^ 8) (hb : b < 2 ^ 8) (e : nx c a = nx c b) : a = b :=
  xcancel (sts_inj 8 (Nat.xor_lt_two_pow h (by omega)) (Nat.xor_lt_two_pow h (by omega)) e)
theorem nx_xor (c d a b : Nat) : nx (c ^^^ d) (a ^^^ b) = nx c a ^^^ nx d b := by
  unfold nx
  rw [← sts_xor]
  congr 1
  rw [Nat.xor_assoc, Nat.xor_assoc, xlc d a b]
theorem run_lt (l : List Nat) (c : Nat) (h : c < 2 ^ 32) (hl : ∀ x ∈ l, x < 2 ^ 8) : run c l < 2 ^ 32 := by
  induction l generalizing c with
  | nil => exact h
  | cons b l ih => exact ih _ (nx_lt h (hl b (by simp))) (fun x hx => hl x (by simp [hx]))
theorem run_xor (l m : List Nat) (c d : Nat) (hl : l.length = m.length) : run (c ^^^ d) (List.zipWith (· ^^^ ·) l m) = run c l ^^^ run d m := by
  induction l generalizing m c d with
  | nil => cases m with
    | nil => rfl
    | cons _ _ => simp at hl
  | cons a l ih => cases m with
    | nil => simp at hl
    | cons b m =>
      simp only [List.zipWith_cons_cons]
      show run (nx (c ^^^ d) (a ^^^ b)) _ = run (nx c a) l ^^^ run (nx d b) m
      rw [nx_xor, ih]
      simpa using hl
theorem run_append (l m : List Nat) (c : Nat) : run c (l ++ m) = run (run c l) m := by
  unfold run; rw [List.foldl_append]
theorem run_zeros (n : Nat) : run 0 (List.replicate n 0) = 0 := by
  induction n with
  | zero => rfl
  | succ n ih =>
    have e : run 0 (0 :: List.replicate n 0) = run (nx 0 0) (List.replicate n 0) := rfl
    rw [List.replicate_succ, e, show nx 0 0 = 0 from by decide, ih]
theorem run_zeros_inj (n : Nat) {c : Nat} (hc : c < 2 ^ 32) (h : run c (List.replicate n 0) = 0) : c = 0 := by
  induction n generalizing c with
  | zero => exact h
  | succ n ih =>
    rw [List.replicate_succ] at h
    have h1 : nx c 0 = 0 := ih (nx_lt hc (by decide)) h
    unfold nx at h1
    rw [Nat.xor_zero] at h1
    exact sts_zero 8 hc h1
theorem run_inj (l : List Nat) {c d : Nat} (hc : c < 2 ^ 32) (hd : d < 2 ^ 32) (h : run c l = run d l) : c = d := by
  have h1 := run_xor l l c d rfl
  have h2 : List.zipWith (· ^^^ ·) l l = List.replicate l.length 0 := by
    clear h h1
    induction l with
    | nil => rfl
    | cons a l ih => simp only [List.zipWith_cons_cons, Nat.xor_self, List.length_cons, List.replicate_succ]; rw [ih]
  rw [h2, h, Nat.xor_self] at h1
  exact x0 (run_zeros_inj _ (Nat.xor_lt_two_pow hc hd) h1)
/-- four bytes fed to nought: the state is their number, stepped. -/
theorem four {a b c d : Nat} (ha : a < 256) (hb : b < 256) (hc : c < 256) (hd : d < 256) (h : run 0 [a, b, c, d] = 0) : a = 0 ∧ b = 0 ∧ c = 0 ∧ d = 0 := by
  have e : run 0 [a, b, c, d] = sts 32 (a ^^^ (b * 2 ^ 8) ^^^ (c * 2 ^ 16) ^^^ (d * 2 ^ 24)) := by
    show nx (nx (nx (nx 0 a) b) c) d = _
    have r1 : nx 0 a = sts 8 a := by unfold nx; rw [Nat.zero_xor]
    have r2 : nx (sts 8 a) b = sts 16 (a ^^^ (b * 2 ^ 8)) := by
      unfold nx
      rw [show sts 8 a ^^^ b = sts 8 (a ^^^ (b * 2 ^ 8)) from by rw [sts_xor, sts_shift], ← sts_add]
    have r3 : nx (sts 16 (a ^^^ (b * 2 ^ 8))) c = sts 24 (a ^^^ (b * 2 ^ 8) ^^^ (c * 2 ^ 16)) := by
      unfold nx
      rw [show sts 16 (a ^^^ (b * 2 ^ 8)) ^^^ c = sts 16 (a ^^^ (b * 2 ^ 8) ^^^ (c * 2 ^ 16)) from by rw [sts_xor 16 _ (c * 2 ^ 16), sts_shift], ← sts_add]
    have r4 : nx (sts 24 (a ^^^ (b * 2 ^ 8) ^^^ (c * 2 ^ 16))) d = sts 32 (a ^^^ (b * 2 ^ 8) ^^^ (c * 2 ^ 16) ^^^ (d * 2 ^ 24)) := by
      unfold nx
      rw [show sts 24 (a ^^^ (b * 2 ^ 8) ^^^ (c * 2 ^ 16)) ^^^ d = sts 24 (a ^^^ (b * 2 ^ 8) ^^^ (c * 2 ^ 16) ^^^ (d * 2 ^ 24)) from by rw [sts_xor 24 _ (d * 2 ^ 24), sts_shift], ← sts_add]
    rw [r1, r2, r3, r4]
  rw [e] at h
  have lt : a ^^^ (b * 2 ^ 8) ^^^ (c * 2 ^ 16) ^^^ (d * 2 ^ 24) < 2 ^ 32 :=
    Nat.xor_lt_two_pow (Nat.xor_lt_two_pow (Nat.xor_lt_two_pow (by omega) (by omega)) (by omega)) (by omega)
  have z := sts_zero 32 lt h
  have z1 := x0 z
  -- d * 2^24 has no low bits
  have low : (a ^^^ (b * 2 ^ 8) ^^^ (c * 2 ^ 16)) < 2 ^ 24 := Nat.xor_lt_two_pow (Nat.xor_lt_two_pow (by omega) (by omega)) (by omega)
  have hd0 : d = 0 := by omega
  subst hd0
  have z2 := x0 (by simpa using z1 : a ^^^ (b * 2 ^ 8) ^^^ (c * 2 ^ 16) = 0)
  have low2 : a ^^^ (b * 2 ^ 8) < 2 ^ 16 := Nat.xor_lt_two_pow (by omega) (by omega)
  have hc0 : c = 0 := by omega
  subst hc0
  have z3 := x0 (by simpa using z2 : a ^^^ (b * 2 ^ 8) = 0)
  refine ⟨by omega, by omega, rfl, rfl⟩
end Crc
end Go.Proofs.Ytggjnjckhhkniaa
