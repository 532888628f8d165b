/- What Missing tells are the holes, rising, no more than asked for. -/
import Derived.Test.YthoekmedkmonhaaWj
namespace Go.Proofs.Ythoekmedkmonhaa.Wi
open Go Go.RowKit Go.Maps Go.Shelf Go.Proofs.Ythoekmedkmonhaa
set_option linter.unusedVariables false
set_option linter.unusedSimpArgs false

/-- The numbers that are not there among the first k behind from. -/
def holesTo (s : Wd) (k : Nat) : List Int := ((List.range k).map (fun i : Nat => s.fr + 1 + (i : Int))).filter (fun j => !(s.f j).isSome)
theorem holesTo_succ (s : Wd) (k : Nat) : holesTo s (k + 1) = holesTo s k ++ (if (s.f (s.fr + 1 + (k : Int))).isSome then [] else [s.fr + 1 + (k : Int)]) := by
  unfold holesTo
  rw [List.range_succ, List.map_append, List.filter_append]
  congr 1
  simp only [List.map_cons, List.map_nil, List.filter_cons, List.filter_nil]
  cases (s.f (s.fr + 1 + (k : Int))).isSome <;> rfl
theorem holesTo_gaps (s : Wd) (d : Nat) : ∀ e : Nat, (∀ j : Nat, d ≤ j → j < d + e → (s.f (s.fr + 1 + (j : Int))).isSome = false) → holesTo s (d + e) = holesTo s d ++ gapsN (s.fr + 1 + (d : Int)) e
  | 0, _ => by simp [gapsN]
  | e + 1, h => by
    show holesTo s (d + e + 1) = _
    rw [holesTo_succ, holesTo_gaps s d e (fun j a b => h j a (by omega)), gapsN_succ, h (d + e) (by omega) (by omega)]
    simp only [Bool.false_eq_true, if_false, List.append_assoc]
    congr 2
    push_cast
    simp only [List.cons.injEq, and_true]
    omega
theorem take_app {α : Type} (A B : List α) (c : Nat) : (A ++ B).take c = A.take c ++ B.take (c - (A.take c).length) := by
  rw [List.take_append, List.length_take]
  congr 2
  omega
theorem gaps_eq (a : Int) (e : Nat) : gaps a (a + (e : Int)) = gapsN a e := by
  unfold gaps gapsN
  rw [show (a + (e : Int) - a).toNat = e by omega]

theorem msF_al (s : Wd) (c : Nat) : ∀ k : Nat, ∃ d : Nat, d ≤ k ∧ (msF s c (al s k)).1 = s.fr + 1 + (d : Int) ∧ (msF s c (al s k)).2 = (holesTo s d).take c ∧ (∀ j : Nat, d ≤ j → j < k → (s.f (s.fr + 1 + (j : Int))).isSome = false) ∧ (d = 0 ∨ (s.f (s.fr + (d : Int))).isSome = true)
  | 0 => ⟨0, Nat.le_refl _, by simp [al, msF], by simp [al, msF, holesTo], fun j a b => by omega, .inl rfl⟩
  | k + 1 => by
    obtain ⟨d, hd, h1, h2, h3, h4⟩ := msF_al s c k
    cases h : s.f (s.fr + 1 + (k : Int)) with
    | none =>
      refine ⟨d, by omega, by rw [al_none h]; exact h1, by rw [al_none h]; exact h2, fun j a b => ?_, h4⟩
      by_cases e : j = k
      · rw [e, h]; rfl
      · exact h3 j a (by omega)
    | some v =>
      refine ⟨k + 1, Nat.le_refl _, ?_, ?_, fun j a b => by omega, .inr (by rw [show s.fr + ((k + 1 : Nat) : Int) = s.fr + 1 + (k : Int) by push_cast; omega, h]; rfl)⟩
      · rw [al_some h, msF_snoc]
        show s.fr + 1 + (k : Int) + 1 = s.fr + 1 + ((k + 1 : Nat) : Int)
        push_cast; omega
      · rw [al_some h, msF_snoc]
        show (msF s c (al s k)).2 ++ (gaps (msF s c (al s k)).1 (s.fr + 1 + (k : Int))).take (c - (msF s c (al s k)).2.length) = _
        obtain ⟨e, rfl⟩ : ∃ e, k = d + e := ⟨k - d, by omega⟩
        rw [h1, h2, holesTo_succ, h, show s.fr + 1 + ((d + e : Nat) : Int) = s.fr + 1 + (d : Int) + (e : Int) by push_cast; omega, gaps_eq]
        simp only [Option.isSome_some, if_true, List.append_nil]
        rw [holesTo_gaps s d e h3, take_app]

theorem missOf_eq {n : Nat} {s : Wd} (hv : Iv n s) (c : Nat) : missOf s c = (holesTo s (allN s)).take c := by
  obtain ⟨d, hd, h1, h2, h3, h4⟩ := msF_al s c (allN s)
  show (msF s c (al s (allN s))).2 = _
  rw [h2]
  have hA : ((allN s : Nat) : Int) = s.tp - s.fr := by unfold allN; have := hv.p1; have := hv.p2; omega
  have : d = allN s := by
    rcases Nat.eq_zero_or_pos (allN s) with h0 | h0
    · omega
    · have h5 := hv.in4 (by omega)
      rcases Nat.lt_or_ge d (allN s) with h6 | h6
      · have h7 := h3 (allN s - 1) (by omega) (by omega)
        rw [show s.fr + 1 + ((allN s - 1 : Nat) : Int) = s.tp by omega, h5] at h7
        cases h7
      · omega
  rw [this]
end Go.Proofs.Ythoekmedkmonhaa.Wi
