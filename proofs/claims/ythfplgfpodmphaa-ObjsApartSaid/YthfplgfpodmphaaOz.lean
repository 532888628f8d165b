/- What a command turns, and how long rows may be: no program is walked here. -/
import Derived.Test.YthfplgfpodmphaaOs
import Derived.Test.YthfplgfpodmphaaOe2
namespace Go.Proofs.Ythfplgfpodmphaa.Ob
open Go.RowKit Go.Proofs.YthfplgfpodmphaaW.PrintWords Go.Proofs.YthfplgfpodmphaaW.PrintLast Go.Proofs.YthfplgfpodmphaaW.PrintMore Go.Proofs.Ythfplgfpodmphaa.Ms
attribute [local go_sem] max2_int min2_int max_two min_two max_three min_three max_four min_four
set_option linter.unusedVariables false
set_option linter.unusedSimpArgs false
set_option maxRecDepth 100000
theorem writeR_err (s v : List Int) : (writeR s v).2.f0 = 0 ∨ (writeR s v).1 = s := by unfold writeR; split <;> simp
theorem casR_err (s o v : List Int) : (casR s o v).2.f0 = 0 ∨ (casR s o v).1 = s := by
  unfold casR
  split
  · simp
  · split <;> simp
theorem pushR_err (s : List (List Int)) (v : List Int) : (pushR s v).2.f0 = 0 ∨ (pushR s v).1 = s := by
  unfold pushR
  split
  · simp
  · split <;> simp
theorem popR_err (s : List (List Int)) : (popR s).2.f0 = 0 ∨ (popR s).1 = s := by cases s <;> simp [popR]
theorem takeR_err (s : List Int) (a : Int) : (takeR s a).2.f0 = 0 ∨ (takeR s a).1 = s := by
  unfold takeR
  split
  · simp
  · split <;> simp
theorem freeR_err (s : List Int) (a : Int) : (freeR s a).2.f0 = 0 ∨ (freeR s a).1 = s := by
  unfold freeR
  split
  · cases dropR s a <;> simp
  · simp
theorem putR_err (l : List S32) (k v : List Int) : (putR l k v).2.f0 = 0 ∨ (putR l k v).1 = l := by
  unfold putR
  split
  · simp
  · split
    · simp
    · split <;> simp
theorem delR_err (l : List S32) (k : List Int) : (delR l k).2.f0 = 0 ∨ (delR l k).1 = l := by
  unfold delR
  split <;> simp
theorem eqQ_refl (a : List (List Int)) : eqQ a a = true := eqL_refl eqB eqB_refl a
theorem eqM_refl (a : List S32) : eqM a a = true := eqL_refl eqP (fun x => by simp [eqP, eqB_refl]) a
theorem eqI_refl (a : List Int) : eqI a a = true := eqL_refl (fun x y : Int => x == y) (fun x => by simp) a
/-- What a command turns, and when. -/
def Apart (e k : Int) (b1 b2 b3 b4 : Bool) : Prop := (b1 = true ∧ b2 = true ∧ b3 = true ∧ b4 = true) ∨ (e = 0 ∧ ((b1 = false ∧ b2 = true ∧ b3 = true ∧ b4 = true ∧ (k = 2 ∨ k = 3)) ∨ (b1 = true ∧ b2 = false ∧ b3 = true ∧ b4 = true ∧ (k = 4 ∨ k = 5)) ∨ (b1 = true ∧ b2 = true ∧ b3 = false ∧ b4 = true ∧ (k = 6 ∨ k = 7)) ∨ (b1 = true ∧ b2 = true ∧ b3 = true ∧ b4 = false ∧ (k = 9 ∨ k = 11))))
theorem apart (o : O) (k a : Int) (ke va ol : List Int) : Apart (applyR o k a ke va ol).2.f0 k (eqB o.reg (applyR o k a ke va ol).1.reg) (eqQ o.que (applyR o k a ke va ol).1.que) (eqI o.loc (applyR o k a ke va ol).1.loc) (eqM o.map (applyR o k a ke va ol).1.map) := by
  have r1 := eqB_refl o.reg
  have r2 := eqQ_refl o.que
  have r3 := eqI_refl o.loc
  have r4 := eqM_refl o.map
  unfold applyR
  split
  · exact .inl ⟨r1, r2, r3, r4⟩
  split
  · rename_i hk
    rcases Bool.eq_false_or_eq_true (eqB o.reg (writeR o.reg va).1) with hb | hb
    · exact .inl ⟨hb, r2, r3, r4⟩
    ·
      rcases writeR_err o.reg va with h | h
      · exact .inr ⟨h, .inl ⟨hb, r2, r3, r4, .inl hk⟩⟩
      · rw [h, r1] at hb; cases hb
  split
  · rename_i hk
    rcases Bool.eq_false_or_eq_true (eqB o.reg (casR o.reg ol va).1) with hb | hb
    · exact .inl ⟨hb, r2, r3, r4⟩
    ·
      rcases casR_err o.reg ol va with h | h
      · exact .inr ⟨h, .inl ⟨hb, r2, r3, r4, .inr hk⟩⟩
      · rw [h, r1] at hb; cases hb
  split
  · rename_i hk
    rcases Bool.eq_false_or_eq_true (eqQ o.que (pushR o.que va).1) with hb | hb
    · exact .inl ⟨r1, hb, r3, r4⟩
    ·
      rcases pushR_err o.que va with h | h
      · exact .inr ⟨h, .inr (.inl ⟨r1, hb, r3, r4, .inl hk⟩)⟩
      · rw [h, r2] at hb; cases hb
  split
  · rename_i hk
    rcases Bool.eq_false_or_eq_true (eqQ o.que (popR o.que).1) with hb | hb
    · exact .inl ⟨r1, hb, r3, r4⟩
    ·
      rcases popR_err o.que with h | h
      · exact .inr ⟨h, .inr (.inl ⟨r1, hb, r3, r4, .inr hk⟩)⟩
      · rw [h, r2] at hb; cases hb
  split
  · rename_i hk
    rcases Bool.eq_false_or_eq_true (eqI o.loc (locksR o.loc k a).1) with hb | hb
    · exact .inl ⟨r1, r2, hb, r4⟩
    ·
      have hl : (locksR o.loc k a).2.f0 = 0 ∨ (locksR o.loc k a).1 = o.loc := by
        unfold locksR
        split
        · exact .inr rfl
        split
        · exact .inr rfl
        split
        · exact takeR_err _ _
        · exact freeR_err _ _
      have h8 : k ≠ 8 := by
        intro h8
        unfold locksR at hb
        rw [if_pos h8, r3] at hb
        cases hb
      rcases hl with h | h
      · exact .inr ⟨h, .inr (.inr (.inl ⟨r1, r2, hb, r4, by omega⟩))⟩
      · rw [h, r3] at hb; cases hb
  split
  · rename_i hk
    rcases Bool.eq_false_or_eq_true (eqM o.map (putR o.map ke va).1) with hb | hb
    · exact .inl ⟨r1, r2, r3, hb⟩
    ·
      rcases putR_err o.map ke va with h | h
      · exact .inr ⟨h, .inr (.inr (.inr ⟨r1, r2, r3, hb, .inl hk⟩))⟩
      · rw [h, r4] at hb; cases hb
  split
  · exact .inl ⟨r1, r2, r3, r4⟩
  split
  · rename_i hk
    rcases Bool.eq_false_or_eq_true (eqM o.map (delR o.map ke).1) with hb | hb
    · exact .inl ⟨r1, r2, r3, hb⟩
    ·
      rcases delR_err o.map ke with h | h
      · exact .inr ⟨h, .inr (.inr (.inr ⟨r1, r2, r3, hb, .inr hk⟩))⟩
      · rw [h, r4] at hb; cases hb
  · exact .inl ⟨r1, r2, r3, r4⟩
theorem dropR_len (l : List Int) (a : Int) : (dropR l a).length ≤ l.length := by simp [dropR]; have := idxR_le l a; omega
theorem rd_T_mem (l : List S32) (i : Nat) (h : i < l.length) : rd_T32 l (i : Int) ∈ l := by rw [rd_T_get l i h]; exact List.getElem_mem h
theorem ob_apply (o : O) (k a : Int) (ke va ol : List Int) (h : OB o) (hk : ke.length < 1000000) (hv : va.length < 1000000) : OB (applyR o k a ke va ol).1 := by
  unfold applyR
  split
  · exact h
  split
  · refine ⟨?_, h.b1, h.e1, h.b2, h.b3, h.e3⟩
    show (writeR o.reg va).1.length < _
    unfold writeR
    split
    · exact h.b0
    · exact hv
  split
  · refine ⟨?_, h.b1, h.e1, h.b2, h.b3, h.e3⟩
    show (casR o.reg ol va).1.length < _
    unfold casR
    split
    · exact h.b0
    · split
      · exact hv
      · exact h.b0
  split
  · have h1 : (pushR o.que va).1.length < 1000000 ∧ ∀ x ∈ (pushR o.que va).1, x.length < 1000000 := by
      unfold pushR
      split
      · exact ⟨h.b1, h.e1⟩
      · split
        · exact ⟨h.b1, h.e1⟩
        · exact ⟨by simp; omega, fun x hx => by
            rcases List.mem_append.1 hx with hx | hx
            · exact h.e1 x hx
            · rw [List.mem_singleton.1 hx]; exact hv⟩
    exact ⟨h.b0, h1.1, h1.2, h.b2, h.b3, h.e3⟩
  split
  · have h1 : (popR o.que).1.length < 1000000 ∧ ∀ x ∈ (popR o.que).1, x.length < 1000000 := by
      have hb := h.b1
      have he := h.e1
      cases hq : o.que with
      | nil => simp [popR]
      | cons y r =>
        rw [hq] at hb he
        exact ⟨by simp at hb; simp [popR]; omega, fun x hx => he x (List.mem_cons_of_mem _ hx)⟩
    exact ⟨h.b0, h1.1, h1.2, h.b2, h.b3, h.e3⟩
  split
  · have h1 : (locksR o.loc k a).1.length < 1000000 := by
      have hb := h.b2
      unfold locksR
      split
      · exact hb
      split
      · exact hb
      split
      · unfold takeR
        split
        · exact hb
        · split
          · exact hb
          · simp; omega
      · unfold freeR
        split
        · have := dropR_len o.loc a
          cases hd : dropR o.loc a with
          | nil => simp
          | cons x r => rw [hd] at this; show (x :: r).length < _; omega
        · exact hb
    exact ⟨h.b0, h.b1, h.e1, h1, h.b3, h.e3⟩
  split
  · have h1 : (putR o.map ke va).1.length < 1000000 ∧ ∀ x ∈ (putR o.map ke va).1, x.f0.length < 1000000 ∧ x.f1.length < 1000000 := by
      unfold putR
      split
      · exact ⟨h.b3, h.e3⟩
      · split
        · refine ⟨by simpa using h.b3, fun x hx => ?_⟩
          rcases List.mem_or_eq_of_mem_set hx with hx | rfl
          · exact h.e3 x hx
          · refine ⟨?_, hv⟩
            show (rd_T32 o.map _).f0.length < _
            rcases Nat.lt_or_ge (findR o.map ke).1 o.map.length with hlt | hge
            · exact (h.e3 _ (rd_T_mem o.map _ hlt)).1
            · simp [rd_T32, List.getD_eq_getElem?_getD, List.getElem?_eq_none hge, z32]
        · split
          · exact ⟨h.b3, h.e3⟩
          · refine ⟨by have := findR_le o.map ke; simp; omega, fun x hx => ?_⟩
            rcases List.mem_append.1 hx with hx | hx
            · exact h.e3 x (List.mem_of_mem_take hx)
            · rcases List.mem_cons.1 hx with rfl | hx
              · exact ⟨hk, hv⟩
              · exact h.e3 x (List.mem_of_mem_drop hx)
    exact ⟨h.b0, h.b1, h.e1, h.b2, h1.1, h1.2⟩
  split
  · exact h
  split
  · have h1 : (delR o.map ke).1.length < 1000000 ∧ ∀ x ∈ (delR o.map ke).1, x.f0.length < 1000000 ∧ x.f1.length < 1000000 := by
      unfold delR
      split
      · refine ⟨by have := h.b3; simp; omega, fun x hx => ?_⟩
        rcases List.mem_append.1 hx with hx | hx
        · exact h.e3 x (List.mem_of_mem_take hx)
        · exact h.e3 x (List.mem_of_mem_drop hx)
      · exact ⟨h.b3, h.e3⟩
    exact ⟨h.b0, h.b1, h.e1, h.b2, h1.1, h1.2⟩
  · exact h
end Go.Proofs.Ythfplgfpodmphaa.Ob
