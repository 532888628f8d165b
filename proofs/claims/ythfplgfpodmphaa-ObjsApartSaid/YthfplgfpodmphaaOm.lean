/- Where a number stands in a row. -/
import Derived.Test.YthfplgfpodmphaaOi
namespace Go.Proofs.Ythfplgfpodmphaa.Ob
open Go.RowKit Go.Proofs.YthfplgfpodmphaaW.PrintWords Go.Proofs.YthfplgfpodmphaaW.PrintLast Go.Proofs.YthfplgfpodmphaaW.PrintMore Go.Proofs.Ythfplgfpodmphaa.Ms
attribute [local go_sem] max2_int min2_int max_two min_two max_three min_three max_four min_four
set_option linter.unusedVariables false
set_option linter.unusedSimpArgs false
set_option maxRecDepth 100000
theorem R_cap {α : Type} {d : Kd α} {e : Nat} {w : World} {base : Nat} {ok : Nat → Prop} {A : Option Addr} {n c : Nat} {l : List α} (h : Kd.R d e w base ok (.slice A n c) l) : n ≤ c ∧ c ≤ 9223372036854775807 ∧ (A = none → n = 0) ∧ n = l.length := by
  obtain ⟨_, inner, ho, hr⟩ := h
  rcases ho.2 with ⟨h', h0⟩ | ⟨g', cap', cur, h', _, _, h1, h2, _⟩
  · simp only [Value.slice.injEq] at h'
    exact ⟨by omega, by omega, fun _ => h'.2.1, by omega⟩
  · simp only [Value.slice.injEq] at h'
    unfold maxLen at h2
    exact ⟨by omega, by omega, (fun e => by rw [e] at h'; cases h'.1), by omega⟩
theorem idxR_eq : ∀ (l : List Int) (a : Int) (i : Nat) (h : i < l.length), l[i] = a → (∀ j (hj : j < i), l[j]'(by omega) ≠ a) → idxR l a = i
  | [], _, i, h, _, _ => absurd h (by simp)
  | x :: r, a, 0, h, e, _ => by simp only [List.getElem_cons_zero] at e; simp [idxR, e]
  | x :: r, a, i + 1, h, e, hn => by
    have h0 : x ≠ a := hn 0 (by omega)
    simp only [idxR, if_neg h0]
    rw [idxR_eq r a i (by simpa using h) (by simpa using e) (fun j hj => by have := hn (j + 1) (by omega); simpa using this)]
theorem idxR_none : ∀ (l : List Int) (a : Int), (∀ j (hj : j < l.length), l[j] ≠ a) → idxR l a = l.length
  | [], _, _ => rfl
  | x :: r, a, hn => by
    have h0 : x ≠ a := hn 0 (by simp)
    simp only [idxR, if_neg h0, List.length_cons]
    rw [idxR_none r a (fun j hj => by have := hn (j + 1) (by simpa using hj); simpa using this)]
def idxI (l : List Int) (a : Int) : Int := if idxR l a < l.length then (idxR l a : Int) else -1
theorem index_l0 : ∀ (k i : Nat) (l : List Int) (a : Int), i ≤ l.length → l.length < i + k → l.length < 1000000 → (∀ j (hj : j < i) (h2 : j < l.length), l[j] ≠ a) → slices_Index_int_int.l0 k l a (l.length : Int) (i : Int) = some (idxI l a)
  | 0, i, l, a, _, h, _, _ => absurd h (by omega)
  | k + 1, i, l, a, h1, h2, hn, hv => by
    simp only [slices_Index_int_int.l0]
    by_cases hi : i < l.length
    · rw [if_pos (by omega), if_pos (by omega), if_pos (by omega), rd_get' l i hi]
      by_cases hx : a = l[i]
      · have he := idxR_eq l a i hi hx.symm (fun j hj => hv j hj (by omega))
        rw [if_pos hx, idxI, he, if_pos hi]
      · rw [if_neg hx, wrap_small _ (by omega) (by omega)]
        exact index_l0 k (i + 1) l a (by omega) (by omega) hn (fun j hj h2 => by
          rcases Nat.lt_or_ge j i with h | h
          · exact hv j h h2
          · obtain rfl : j = i := by omega
            exact fun h => hx h.symm)
    · rw [if_neg (by omega), idxI, idxR_none l a (fun j hj => hv j (by omega) hj), if_neg (by omega)]
theorem index_f (l : List Int) (a : Int) (hn : l.length < 1000000) : slices_Index_int_int.f (l.length + 1) l a = some (idxI l a) := index_l0 _ 0 l a (by omega) (by omega) hn (fun j hj => absurd hj (by omega))
theorem contains_f (l : List Int) (a : Int) (hn : l.length < 1000000) : slices_Contains_int_int.f (l.length + 1) l a = some (decide (idxR l a < l.length)) := by
  unfold slices_Contains_int_int.f
  rw [index_f l a hn, Option.bind_some, idxI]
  congr 1
  split
  · rename_i h; simp [h]
  · rename_i h; simp [h]
end Go.Proofs.Ythfplgfpodmphaa.Ob
