/- Lemmas on fresh rows and what keeps them; no program is walked here. -/
import Derived.Test.YthfplgfpodmphaaMk
namespace Go.Proofs.Ythfplgfpodmphaa.Ms
open Go.RowKit Go.Proofs.YthfplgfpodmphaaW.PrintWords Go.Proofs.YthfplgfpodmphaaW.PrintLast Go.Proofs.YthfplgfpodmphaaW.PrintMore
attribute [local go_sem] max2_int min2_int max_two min_two max_three min_three max_four min_four
set_option linter.unusedVariables false
set_option linter.unusedSimpArgs false
set_option maxRecDepth 100000

theorem M_keep3 {α : Type} {d : Kd α} {w1 w' : World} {base : Nat} {ok : Nat → Prop} {y : α} {cs : List Value} (h : d.M w1 base ok y cs) (hk : ∀ k, base ≤ k → k < w1.heap.size → ok k → w'.heap[k]? = w1.heap[k]?) : d.M w' base ok y cs :=
  d.M_mono (fun _ h => h.1) (d.M_move (fun k h => hk k h.2.1 h.2.2.1 h.1) (d.M_bound h))
theorem R_keep3 {α : Type} {d : Kd α} {e : Nat} {w1 w' : World} {base : Nat} {ok : Nat → Prop} {v : Value} {xs : List α} (h : Kd.R d e w1 base ok v xs) (hk : ∀ k, base ≤ k → k < w1.heap.size → ok k → w'.heap[k]? = w1.heap[k]?) : Kd.R d e w' base ok v xs :=
  Kd.R_mono (Kd.R_move (Kd.R_bound h) (fun k h => hk k h.2.1 h.2.2.1 h.1)) (fun _ h => h.1)
theorem Fr.keep {α : Type} {d : Kd α} {e : Nat} {w w1 : World} {base : Nat} {A : Option Addr} {xs : List α} (h : Fr d e w base A xs) (hk : ∀ k, base ≤ k → k < w.heap.size → w1.heap[k]? = w.heap[k]?) : Fr d e w1 base A xs := by
  rcases h with rfl | ⟨g, cur, rfl, hbg, hg, hs, hm, hr⟩
  · exact .inl rfl
  · have hlt := (Array.getElem?_eq_some_iff.1 hg).1
    exact .inr ⟨g, cur, rfl, hbg, (hk g hbg hlt).trans hg, hs, hm, hr.imp_ (fun _ _ hp => M_keep3 hp (fun k a b _ => hk k a b))⟩
theorem S_Fr {α : Type} {d : Kd α} {e : Nat} {w : World} {base : Nat} {A : Option Addr} {c : Nat} {l : List α} (h : Kd.S d e w base (fun _ => True) (.slice A l.length c) l) : Fr d e w base A l := by
  obtain ⟨_, inner, ho, hr⟩ := Kd.S_R h
  rcases ho.2 with ⟨h', h0⟩ | ⟨g, cap, cur, h', hb, hg, h1, h2, h3, h4⟩
  · exact .inl (List.eq_nil_of_length_eq_zero h0)
  · simp only [Value.slice.injEq] at h'
    obtain ⟨rfl, _, rfl⟩ := h'
    refine .inr ⟨g, cur, rfl, hb, hg, by rw [h3]; exact Nat.mul_le_mul_right _ h1, Nat.le_trans h1 h2, ?_⟩
    rw [h4]
    exact hr.imp_ (fun _ _ hp => d.M_mono (fun k hk hkg => hk.2 (by simp [Value.ownBlock, hkg])) hp)
theorem heap_alloc_lt (W : World) (o : Obj) (k : Nat) (h : k < W.heap.size) : (W.alloc o).heap[k]? = W.heap[k]? := (Array.getElem?_push_lt h).trans (Array.getElem?_eq_getElem h).symm
theorem keep_put (W : World) (g o k : Nat) (a : Value) (h : k ≠ g) : (W.setCell ⟨g, o, none⟩ a).heap[k]? = W.heap[k]? := Below.heap_setCell _ ⟨g, o, none⟩ _ k h
theorem keep_put3 (W : World) (g o0 o1 o2 k : Nat) (a0 a1 a2 : Value) (h : k ≠ g) : (((W.setCell ⟨g, o0, none⟩ a0).setCell ⟨g, o1, none⟩ a1).setCell ⟨g, o2, none⟩ a2).heap[k]? = W.heap[k]? := by
  rw [keep_put _ _ _ _ _ h, keep_put _ _ _ _ _ h, keep_put _ _ _ _ _ h]
end Go.Proofs.Ythfplgfpodmphaa.Ms
