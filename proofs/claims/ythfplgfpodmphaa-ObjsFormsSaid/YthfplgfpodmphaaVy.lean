/- The evaluator by value: what it tells, the model does. -/
import Derived.Test.YthfplgfpodmphaaVx
namespace Go.Proofs.Ythfplgfpodmphaa.VE
variable {C : Cfg}
theorem range_split {n i : Nat} (h : i ≤ n) : List.range n = List.range i ++ (List.range (n - i)).map (i + ·) := by
  rw [← List.range_add, Nat.add_sub_cancel' h]
theorem wins_ok {own : Nat → Bool} {ops : List Oper} {ws : List (Nat × Nat)} (h : winsOf own ops = some ws) :
    (∀ i j, i ∈ effIdx own ops → j ∈ effIdx own ops → i ≠ j → ordered (befores ops []) i j = true) ∧
    (∀ i j t, i < ops.length → j < ops.length → t ∈ namesOf ops (opAt ops i) → (opAt ops j).dst = some t → i ≠ j → ordered (befores ops []) i j = true) ∧
    (∀ i, i < ops.length → ∀ e ∈ (opAt ops i).after.toList, Region.binds .any e = true → e.on < i) ∧
    ∀ i, i < ops.length → ws[i]? = some (((effIdx own ops).filter fun j => ((befores ops []).getD i 0).testBit j).length, (effIdx own ops).length - ((effIdx own ops).filter fun j => ((befores ops []).getD j 0).testBit i).length) := by
  unfold winsOf at h
  simp only at h
  split at h
  · rename_i hc
    simp only [Bool.and_eq_true, List.all_eq_true, List.mem_range, Bool.or_eq_true, beq_iff_eq, bne_iff_ne, ne_eq, Bool.not_eq_true', decide_eq_true_eq] at hc
    obtain ⟨⟨h1, h2⟩, h3⟩ := hc
    cases h
    refine ⟨fun i j hi hj hne => ?_, fun i j t hi hj ht hd hne => ?_, fun i hi e he hb => ?_, fun i hi => ?_⟩
    · rcases h1 j hj i hi with h | h
      · exact absurd h hne
      · exact h
    · rcases h2 i hi t ht j hj with (h | h) | h
      · exact absurd hd h
      · exact absurd h hne
      · exact h
    · rcases h3 i hi e he with h | h
      · rw [hb] at h; cases h
      · exact h
    · rw [List.getElem?_map, List.getElem?_range hi]
      rfl
  · cases h
theorem mem_eff {own : Nat → Bool} {ops : List Oper} {i : Nat} : i ∈ effIdx own ops ↔ i < ops.length ∧ isEff (own i) (opAt ops i).op = true := by
  simp [effIdx]
/-- What may be said of the order of what is done. -/
structure DOk (ops : List Oper) (D : Nat → Bool) : Prop where
  closed : ∀ i, i < ops.length → D i = true → ∀ e ∈ (opAt ops i).after.toList, Region.binds .any e = true → D e.on = true
theorem ord_done {ops : List Oper} {D : Nat → Bool} (hD : DOk ops D) {i j : Nat} (hi : i < ops.length) (hj : j < ops.length) (hne : i ≠ j) (hDi : D i = false) (hr : ∀ e ∈ (opAt ops i).after.toList, Region.binds .any e = true → D e.on = true)
    (h : ordered (befores ops []) i j = true) : D j = decide (j < i) := by
  unfold ordered at h
  split at h
  · rename_i hlt
    have hn : ¬ j < i := by omega
    rw [decide_eq_false hn]
    cases hDj : D j with
    | false => rfl
    | true =>
      have := closed_bits hD.closed j hj (fun e he hb => hD.closed j hj hDj e he hb) i h
      rw [hDi] at this; cases this
  · rename_i hge
    have hlt : j < i := by omega
    rw [decide_eq_true hlt]
    exact closed_bits hD.closed i hi hr j h
theorem countP_le {α : Type} {p q : α → Bool} : ∀ (l : List α), (∀ x ∈ l, p x = true → q x = true) → (l.filter p).length ≤ (l.filter q).length
  | [], _ => by simp
  | x :: r, h => by
    have ih := countP_le r (fun y hy => h y (by simp [hy]))
    simp only [List.filter_cons]
    by_cases hp : p x = true
    · rw [if_pos hp, if_pos (h x (by simp) hp)]
      simp only [List.length_cons]; omega
    · rw [if_neg hp]
      split
      · simp only [List.length_cons]; omega
      · exact ih
theorem countP_add {α : Type} {p q : α → Bool} : ∀ (l : List α), (∀ x ∈ l, p x = true → q x = false) → (l.filter p).length + (l.filter q).length ≤ l.length
  | [], _ => by simp
  | x :: r, h => by
    have ih := countP_add r (fun y hy => h y (by simp [hy]))
    simp only [List.filter_cons, List.length_cons]
    by_cases hp : p x = true
    · rw [if_pos hp, h x (by simp) hp]
      simp only [Bool.false_eq_true, if_false, List.length_cons]; omega
    · rw [if_neg hp]
      split
      · simp only [List.length_cons]; omega
      · omega
theorem filter_lt (p : Nat → Bool) : ∀ (n j : Nat), j ≤ n → ((List.range n).filter p).filter (fun e => decide (e < j)) = (List.range j).filter p := by
  intro n
  induction n with
  | zero => intro j hj; have : j = 0 := by omega
            subst this; rfl
  | succ n ih =>
    intro j hj
    rw [List.range_succ, List.filter_append, List.filter_append]
    by_cases h : j = n + 1
    · subst h
      rw [List.range_succ, List.filter_append]
      congr 1
      · rw [List.filter_filter]
        refine List.filter_congr fun x hx => ?_
        have : x < n := List.mem_range.1 hx
        simp; omega
      · rw [List.filter_filter]
        refine List.filter_congr fun x hx => ?_
        have : x = n := by simpa using hx
        simp; omega
    · rw [ih j (by omega)]
      have : (List.filter p [n]).filter (fun e => decide (e < j)) = [] := by
        rw [List.filter_eq_nil_iff]
        intro x hx
        have : x = n := by have := (List.mem_filter.1 hx).1; simpa using this
        simp; omega
      rw [this, List.append_nil]
/-- The states of a trace turn at what turns something alone. -/
theorem S_heaps {S : Nat → St} {p : Nat → Bool} {n : Nat} (hS : ∀ i, i < n → p i = false → S (i + 1) = S i) : ∀ j, j ≤ n → ((S 0).heap :: ((List.range n).filter p).map fun e => (S (e + 1)).heap)[((List.range j).filter p).length]? = some (S j).heap := by
  intro j
  induction j with
  | zero => intro _; rfl
  | succ j ih =>
    intro hj
    have := ih (by omega)
    rw [List.range_succ, List.filter_append, List.length_append]
    by_cases hp : p j = true
    · have h1 : List.filter p [j] = [j] := by simp [hp]
      rw [h1]
      simp only [List.length_cons, List.length_nil, Nat.zero_add, List.getElem?_cons_succ, List.getElem?_map]
      have h2 : (List.range n).filter p = (List.range j).filter p ++ j :: ((List.range (n - (j + 1))).map (j + 1 + ·)).filter p := by
        rw [range_split (show j + 1 ≤ n from hj), List.filter_append, List.range_succ, List.filter_append, h1]
        simp
      rw [h2, List.getElem?_append_right (Nat.le_refl _)]
      simp
    · simp only [Bool.not_eq_true] at hp
      have h1 : List.filter p [j] = [] := by simp [hp]
      rw [h1, hS j (by omega) hp]
      simpa using this
theorem S_same {S : Nat → St} {p : Nat → Bool} {n : Nat} (hS : ∀ i, i < n → p i = false → S (i + 1) = S i) {i j : Nat} (hij : i ≤ j) (hj : j ≤ n) (h : ∀ e, i ≤ e → e < j → p e = false) : S j = S i := by
  induction j with
  | zero => have : i = 0 := by omega
            subst this; rfl
  | succ j ih =>
    by_cases hi : i = j + 1
    · rw [hi]
    · rw [hS j (by omega) (h j (by omega) (by omega))]
      exact ih (by omega) (by omega) (fun e h1 h2 => h e h1 (by omega))
theorem S_same' {S : Nat → St} {p : Nat → Bool} {n : Nat} (hS : ∀ i, i < n → p i = false → S (i + 1) = S i) {i j : Nat} (hi : i ≤ n) (hj : j ≤ n) (h : ∀ e, e < n → p e = true → (e < i ↔ e < j)) : S j = S i := by
  rcases Nat.le_total i j with hij | hij
  · refine S_same hS hij hj fun e h1 h2 => ?_
    cases hp : p e with
    | false => rfl
    | true => have := (h e (by omega) hp).2 h2; omega
  · refine (S_same hS hij hi fun e h1 h2 => ?_).symm
    cases hp : p e with
    | false => rfl
    | true => have := (h e (by omega) hp).1 h2; omega
end Go.Proofs.Ythfplgfpodmphaa.VE
