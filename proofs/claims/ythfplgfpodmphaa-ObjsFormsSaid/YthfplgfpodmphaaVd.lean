/- The evaluator by value: what it tells, the model does. -/
import Derived.Test.YthfplgfpodmphaaVc
namespace Go.Proofs.Ythfplgfpodmphaa.VE
variable {G G' : Gh} {w w' : World}
theorem cl_iff {b : Nat} : ∀ (l : List PV) (o : Nat), Cl G w b o l ↔ ∀ j x, l[j]? = some x → ∃ v, w.cell? ⟨b, o + j, none⟩ = some v ∧ VR G w x v ∧ plainV v = true ∧ G.imm b (o + j)
  | [], o => by simp [Cl]
  | x :: r, o => by
    simp only [Cl, cl_iff r (o + 1)]
    constructor
    · rintro ⟨h0, h⟩ j y hj
      cases j with
      | zero => cases hj; exact h0
      | succ j => have := h j y hj; rwa [show o + 1 + j = o + (j + 1) from by omega] at this
    · intro h
      refine ⟨h 0 x rfl, fun j y hj => ?_⟩
      have := h (j + 1) y hj
      rwa [show o + (j + 1) = o + 1 + j from by omega] at this
theorem rw_iff {b sz : Nat} : ∀ (r : List (List PV)) (o : Nat), Rw G w b sz o r ↔ ∀ i x, r[i]? = some x → x.length = sz ∧ Cl G w b (o + i * sz) x
  | [], o => by simp [Rw]
  | x :: r, o => by
    simp only [Rw, rw_iff r (o + sz)]
    constructor
    · rintro ⟨h0, h1, h⟩ j y hj
      cases j with
      | zero => cases hj; exact ⟨h0, by simpa using h1⟩
      | succ j => have := h j y hj; rwa [show o + sz + j * sz = o + (j + 1) * sz from by rw [Nat.add_mul]; omega] at this
    · intro h
      have h0 := h 0 x rfl
      refine ⟨h0.1, by simpa using h0.2, fun j y hj => ?_⟩
      have := h (j + 1) y hj
      rwa [show o + (j + 1) * sz = o + sz + j * sz from by rw [Nat.add_mul]; omega] at this
theorem vrl_len : ∀ (l : List PV) (vs : List Value), VRl G w l vs → l.length = vs.length
  | [], vs, h => by simp only [VRl] at h; simp [h]
  | x :: r, vs, h => by
    simp only [VRl] at h
    obtain ⟨v, t, rfl, _, h⟩ := h
    simp [vrl_len r t h]
theorem vrl_at : ∀ (l : List PV) (vs : List Value), VRl G w l vs → ∀ (i : Nat) (x : PV), l[i]? = some x → ∃ v, vs[i]? = some v ∧ VR G w x v
  | [], vs, h, i, x, hi => by simp at hi
  | y :: r, vs, h, i, x, hi => by
    simp only [VRl] at h
    obtain ⟨v, t, rfl, hv, h⟩ := h
    cases i with
    | zero => cases hi; exact ⟨v, rfl, hv⟩
    | succ i => exact vrl_at r t h i x hi
theorem vrl_mk : ∀ (l : List PV) (vs : List Value), l.length = vs.length → (∀ (i : Nat) (x : PV) (v : Value), l[i]? = some x → vs[i]? = some v → VR G w x v) → VRl G w l vs
  | [], vs, h, _ => by simp only [VRl]; exact List.length_eq_zero_iff.1 h.symm
  | x :: r, [], h, _ => by simp at h
  | x :: r, v :: t, h, hh => by
    simp only [VRl]
    exact ⟨v, t, rfl, hh 0 x v rfl rfl, vrl_mk r t (by simpa using h) fun i x v h1 h2 => hh (i + 1) x v h1 h2⟩
theorem vrl_append {l l' : List PV} {vs vs' : List Value} (h : VRl G w l vs) (h' : VRl G w l' vs') : VRl G w (l ++ l') (vs ++ vs') := by
  induction l generalizing vs with
  | nil => simp only [VRl] at h; subst h; exact h'
  | cons x r ih =>
    simp only [VRl] at h
    obtain ⟨v, t, rfl, hv, h⟩ := h
    simp only [List.cons_append, VRl]
    exact ⟨v, t ++ vs', rfl, hv, ih h⟩
theorem vrl_drop {l : List PV} {vs : List Value} (n : Nat) (h : VRl G w l vs) : VRl G w (l.drop n) (vs.drop n) := by
  induction n generalizing l vs with
  | zero => exact h
  | succ n ih => cases l with
    | nil => simp only [VRl] at h; subst h; simp [VRl]
    | cons x r =>
      simp only [VRl] at h
      obtain ⟨v, t, rfl, hv, h⟩ := h
      exact ih h
theorem vrl_take {l : List PV} {vs : List Value} (n : Nat) (h : VRl G w l vs) : VRl G w (l.take n) (vs.take n) := by
  induction n generalizing l vs with
  | zero => simp [VRl]
  | succ n ih => cases l with
    | nil => simp only [VRl] at h; subst h; simp [VRl]
    | cons x r =>
      simp only [VRl] at h
      obtain ⟨v, t, rfl, hv, h⟩ := h
      simp only [List.take_succ_cons, VRl]
      exact ⟨v, t.take n, rfl, hv, ih h⟩
theorem vr_ofCell (v : Value) : VR G w (ofCell v) v := by
  unfold ofCell
  split
  · simp only [VR]; exact .inl ⟨trivial, trivial, fun k h => (by cases h; rfl), fun k h => by cases h⟩
  · simp only [VR]
theorem vrl_ofCells : ∀ vs : List Value, VRl G w (vs.map ofCell) vs
  | [] => by simp [VRl]
  | v :: t => by simp only [List.map_cons, VRl]; exact ⟨v, t, rfl, vr_ofCell v, vrl_ofCells t⟩
theorem vr_ofVal (v : Value) : VR G w (ofVal v) v := by
  unfold ofVal
  split
  · split
    · rename_i h
      simp only [VR]
      exact ⟨_, by simp, vrl_ofCells _, fun u hu => List.all_eq_true.1 h u hu⟩
    · simp only [VR]
  · exact vr_ofCell v
theorem vrl_lits : ∀ (l : List PV) (vs us : List Value), litsOf l = some vs → VRl G w l us → us = vs
  | [], vs, us, h, h' => by simp only [litsOf, Option.some.injEq] at h; simp only [VRl] at h'; rw [h', h]
  | x :: r, vs, us, h, h' => by
    cases x <;> simp only [litsOf, Option.map_eq_some_iff, reduceCtorEq] at h
    obtain ⟨t, h, rfl⟩ := h
    simp only [VRl, VR] at h'
    obtain ⟨v, t', rfl, rfl, h'⟩ := h'
    rw [vrl_lits r t t' h h']
theorem vr_lit {x : PV} {v u : Value} (h : toLit x = some v) (h' : VR G w x u) : u = v := by
  unfold toLit at h
  split at h
  · simp only [VR] at h'; cases h; exact h'
  · simp only [Option.map_eq_some_iff] at h
    obtain ⟨vs, h, rfl⟩ := h
    simp only [VR] at h'
    obtain ⟨us, rfl, h', _⟩ := h'
    rw [vrl_lits _ _ _ h h']
  · cases h
/-- What is known stays known. -/
structure Ext (G : Gh) (w : World) (G' : Gh) (w' : World) : Prop where
  loc : ∀ g x, G.loc g = some x → G'.loc g = some x
  imm : ∀ b o, G.imm b o → G'.imm b o ∧ w'.cell? ⟨b, o, none⟩ = w.cell? ⟨b, o, none⟩
  soft : ∀ b, G.soft b → G'.soft b
theorem Ext.refl : Ext G w G w := ⟨fun _ _ h => h, fun _ _ h => ⟨h, rfl⟩, fun _ h => h⟩
theorem Ext.trans {G1 G2 G3 : Gh} {w1 w2 w3 : World} (h : Ext G1 w1 G2 w2) (k : Ext G2 w2 G3 w3) : Ext G1 w1 G3 w3 :=
  ⟨fun g x e => k.loc g x (h.loc g x e), fun b o e => ⟨(k.imm b o (h.imm b o e).1).1, ((k.imm b o (h.imm b o e).1).2).trans (h.imm b o e).2⟩, fun b e => k.soft b (h.soft b e)⟩
mutual
theorem VR.ext (hE : Ext G w G' w') : ∀ (x : PV) (v : Value), VR G w x v → VR G' w' x v
  | .lit _, _, h => by simp only [VR] at h ⊢; exact h
  | .agg l, v, h => by simp only [VR] at h ⊢; obtain ⟨vs, e, h, hp⟩ := h; exact ⟨vs, e, VRl.ext hE l vs h, hp⟩
  | .tup l, v, h => by simp only [VR] at h ⊢; obtain ⟨vs, e, h⟩ := h; exact ⟨vs, e, VRl.ext hE l vs h⟩
  | .sl z r c, v, h => by
    simp only [VR] at h ⊢
    rcases h with h | ⟨b, o, cap, h1, h2, h3, h4, h5⟩
    · exact .inl h
    · exact .inr ⟨b, o, cap, h1, h2, h3, fun k e => hE.soft b (h4 k e), Rw.ext hE b z r o h5⟩
  | .rf g o n c, v, h => by
    simp only [VR] at h ⊢
    obtain ⟨b, o0, sz, ce, a, cap, h1, h2⟩ := h
    exact ⟨b, o0, sz, ce, a, cap, hE.loc _ _ h1, h2⟩
  | .ptr g i k, v, h => by
    simp only [VR] at h ⊢
    obtain ⟨b, o0, sz, ce, h1, h2⟩ := h
    exact ⟨b, o0, sz, ce, hE.loc _ _ h1, h2⟩
  | .rp l k, v, h => by
    simp only [VR] at h ⊢
    obtain ⟨b, o, h1, h2⟩ := h
    exact ⟨b, o, h1, Cl.ext hE b l o h2⟩
  | .fn f a c, v, h => by
    simp only [VR] at h ⊢
    obtain ⟨as, cs, h1, h2, h3⟩ := h
    exact ⟨as, cs, h1, VRl.ext hE a as h2, VRl.ext hE c cs h3⟩
theorem VRl.ext (hE : Ext G w G' w') : ∀ (l : List PV) (vs : List Value), VRl G w l vs → VRl G' w' l vs
  | [], vs, h => by simp only [VRl] at h ⊢; exact h
  | x :: r, vs, h => by
    simp only [VRl] at h ⊢
    obtain ⟨v, t, e, h1, h2⟩ := h
    exact ⟨v, t, e, VR.ext hE x v h1, VRl.ext hE r t h2⟩
theorem Cl.ext (hE : Ext G w G' w') (b : Nat) : ∀ (l : List PV) (o : Nat), Cl G w b o l → Cl G' w' b o l
  | [], o, h => by simp only [Cl]
  | x :: r, o, h => by
    simp only [Cl] at h ⊢
    obtain ⟨⟨v, h1, h2, hp, h3⟩, h4⟩ := h
    exact ⟨⟨v, ((hE.imm b o h3).2).trans h1, VR.ext hE x v h2, hp, (hE.imm b o h3).1⟩, Cl.ext hE b r (o + 1) h4⟩
theorem Rw.ext (hE : Ext G w G' w') (b sz : Nat) : ∀ (r : List (List PV)) (o : Nat), Rw G w b sz o r → Rw G' w' b sz o r
  | [], o, h => by simp only [Rw]
  | x :: r, o, h => by
    simp only [Rw] at h ⊢
    exact ⟨h.1, Cl.ext hE b x o h.2.1, Rw.ext hE b sz r (o + sz) h.2.2⟩
end
theorem vr_plain {x : PV} {v : Value} (h : plainP x = true) (h' : VR G w x v) : plainV v = true := by
  cases x <;> simp only [plainP, Bool.false_eq_true] at h <;> simp only [VR] at h'
  · rw [h']; exact h
  · rcases h' with ⟨_, rfl, _⟩ | ⟨_, _, _, rfl, _⟩ <;> rfl
  · obtain ⟨_, _, _, _, _, _, _, rfl, _⟩ := h'; rfl
  · obtain ⟨_, _, _, _, _, rfl⟩ := h'; rfl
  · obtain ⟨_, _, rfl, _⟩ := h'; rfl
  · obtain ⟨_, _, rfl, _⟩ := h'; rfl
/-- The cells of a value. -/
theorem vr_leaves {x : PV} {v : Value} {l : List PV} (h : leaves x = some l) (h' : VR G w x v) : VRl G w l v.cells.toList ∧ ∀ u ∈ v.cells.toList, plainV u = true := by
  unfold leaves at h
  split at h
  · cases h
    simp only [VR] at h'
    obtain ⟨vs, rfl, h1, h2⟩ := h'
    exact ⟨by simpa [Value.cells] using h1, by simpa [Value.cells] using h2⟩
  · split at h
    · cases h
      rename_i hp
      have hv := vr_plain hp h'
      have hc : v.cells = #[v] := by cases v <;> first | rfl | (simp [plainV] at hv)
      rw [hc]
      refine ⟨?_, by simpa using hv⟩
      show VRl G w [x] [v]
      simp only [VRl]
      exact ⟨v, [], rfl, h', rfl⟩
    · cases h
end Go.Proofs.Ythfplgfpodmphaa.VE
