/- The evaluator by value: what it tells, the model does. -/
import Derived.Test.YthfplgfpodmphaaVv
namespace Go.Proofs.Ythfplgfpodmphaa.VE
variable {G G' : Gh} {w w' : World} {s s' : St} {C : Cfg}
/-- A step, of which some names are not told. -/
structure StpN (n : Nat) (G : Gh) (s : St) (w : World) (G' : Gh) (s' : St) (w' : World) : Prop where
  ext : Ext G w G' w'
  sim : Sim G' s' w'
  os : w'.os = w.os
  tape : w'.tape = w.tape
  output : w'.output = w.output
  size : w.heap.size ≤ w'.heap.size
  own : ∀ k, k < w.heap.size → Owned G' s' k → Owned G s k
  soft : ∀ k, k < w.heap.size → G'.soft k → G.soft k
  block : ∀ k, k < w.heap.size → ¬ Owned G s k → ¬ G.soft k → w'.heap[k]? = w.heap[k]?
  unb : ∀ g, g < n → G.loc g = none → get s'.heap g = get s.heap g ∧ G'.loc g = none
  next : s.next ≤ s'.next
  immo : ∀ b o, b < w.heap.size → G'.imm b o → G.imm b o ∨ Owned G s b
theorem StpN.of {n : Nat} (h : Stp G s w G' s' w') (hn : n ≤ s.next) : StpN n G s w G' s' w' :=
  ⟨h.ext, h.sim, h.os, h.tape, h.output, h.size, h.own, h.soft, h.block, fun g hg hl => h.unb g (Nat.lt_of_lt_of_le hg hn) hl, h.next, h.immo⟩
theorem StpN.to (h : StpN s.next G s w G' s' w') : Stp G s w G' s' w' :=
  ⟨h.ext, h.sim, h.os, h.tape, h.output, h.size, h.own, h.soft, h.block, h.unb, h.next, h.immo⟩
theorem StpN.trans {n : Nat} {G1 G2 G3 : Gh} {s1 s2 s3 : St} {w1 w2 w3 : World} (h : StpN n G1 s1 w1 G2 s2 w2) (k : StpN n G2 s2 w2 G3 s3 w3) : StpN n G1 s1 w1 G3 s3 w3 where
  ext := h.ext.trans k.ext
  sim := k.sim
  os := k.os.trans h.os
  tape := k.tape.trans h.tape
  output := k.output.trans h.output
  size := Nat.le_trans h.size k.size
  own b hb ho := h.own b hb (k.own b (Nat.lt_of_lt_of_le hb h.size) ho)
  soft b hb ho := h.soft b hb (k.soft b (Nat.lt_of_lt_of_le hb h.size) ho)
  block b hb h1 h2 := (k.block b (Nat.lt_of_lt_of_le hb h.size) (fun h3 => h1 (h.own b hb h3)) (fun h3 => h2 (h.soft b hb h3))).trans (h.block b hb h1 h2)
  unb g hg hn :=
    let ⟨e1, e2⟩ := h.unb g hg hn
    let ⟨e3, e4⟩ := k.unb g hg e2
    ⟨e3.trans e1, e4⟩
  next := Nat.le_trans h.next k.next
  immo b o hb hi := (k.immo b o (Nat.lt_of_lt_of_le hb h.size) hi).elim (fun hi => h.immo b o hb hi) (fun ho => .inr (h.own b hb ho))
/-- What was made ahead comes to be. -/
theorem birth (h : Sim G s w) {g n : Nat} {l : List PV} {v : Value} (t : TypeId) (hg : get s.heap g = some ⟨l.length, [l], 0⟩) (hl : G.loc g = none) (hn : n ≤ g) (hv : VRl G w l v.cells.toList) (hp : ∀ u ∈ v.cells.toList, plainV u = true) :
    StpN n G s w (G.born g (w.heap.size, 0, l.length, 1) 0) s (w.alloc (.cells v.cells t)) ∧ VR (G.born g (w.heap.size, 0, l.length, 1) 0) (w.alloc (.cells v.cells t)) (.ptr g 0 0) (.pointer (some ⟨w.heap.size, 0, none⟩)) := by
  have hln := vrl_len _ _ hv
  simp only [Array.length_toList] at hln
  have hgn : g < s.next := by
    false_or_by_contra; rename_i hh
    have := (h.nx g (by omega)).2
    rw [hg] at this; cases this
  have hE : Ext G w (G.born g (w.heap.size, 0, l.length, 1) 0) (w.alloc (.cells v.cells t)) :=
    ext_born hl (fun b o hi => World.cell?_of_block (a := ⟨b, o, none⟩) (alloc_block w _ b (h.imm_lt hi))) _ _
  have hi0 : ∀ k o, (G.born g (w.heap.size, 0, l.length, 1) 0).imm k o → G.imm k o := fun k o hi => hi.elim id (fun x => by omega)
  have hloc : ∀ k, k ≠ g → (G.born g (w.heap.size, 0, l.length, 1) 0).loc k = G.loc k := fun k hk => if_neg hk
  have hloc' : (G.born g (w.heap.size, 0, l.length, 1) 0).loc g = some (w.heap.size, 0, l.length, 1) := if_pos rfl
  refine ⟨⟨hE, ⟨?_, ?_, ?_, ?_, ?_⟩, rfl, rfl, rfl, by simp, ?_, fun _ _ h => h, fun k hk _ _ => alloc_block w _ k hk, ?_, Nat.le_refl _, fun b o _ hi => .inl (hi0 b o hi)⟩, ?_⟩
  · intro k e b o0 sz ce h1 h2
    by_cases hk : k = g
    · subst hk
      rw [hg] at h1
      rw [hloc'] at h2
      cases h1; cases h2
      refine ⟨rfl, by simp, by simp, ⟨v.cells, t, alloc_new w _, by omega⟩, fun i x hi => ?_, fun o ho => ?_, fun k hk => by simp at hk⟩
      · cases i with
        | zero =>
          cases hi
          refine ⟨rfl, fun j y hj => ?_⟩
          obtain ⟨u, h3, h4⟩ := vrl_at _ _ hv j y hj
          exact ⟨u, by rw [alloc_cell]; simpa using h3, VR.ext hE y u h4, hp u (List.mem_of_getElem? h3)⟩
        | succ i => simp at hi
      · exact absurd (h.imm_lt (hi0 _ o ho)) (Nat.lt_irrefl _)
    · rw [hloc k hk] at h2
      have he := h.ent k e b o0 sz ce h1 h2
      exact he.ext hE (alloc_block w _ b he.lt) (fun o ho => hi0 b o ho)
  · intro k k' e1 e2 b o0 sz ce1 o0' sz' ce2 h1 h2 h3 h4
    by_cases hk : k = g <;> by_cases hk' : k' = g
    · rw [hk, hk']
    · subst hk
      rw [hloc'] at h3
      rw [hloc k' hk'] at h4
      cases h3
      exact absurd (h.ent k' e2 _ _ _ _ h2 h4).lt (Nat.lt_irrefl _)
    · subst hk'
      rw [hloc k hk] at h3
      rw [hloc'] at h4
      cases h4
      exact absurd (h.ent k e1 _ _ _ _ h1 h3).lt (Nat.lt_irrefl _)
    · rw [hloc k hk] at h3
      rw [hloc k' hk'] at h4
      exact h.inj k k' e1 e2 b _ _ _ _ _ _ h1 h2 h3 h4
  · intro k hk
    rw [hloc k (by omega)]
    exact h.nx k hk
  · intro b o hi
    obtain ⟨u, hu⟩ := h.imm b o (hi0 b o hi)
    exact ⟨u, (World.cell?_of_block (a := ⟨b, o, none⟩) (alloc_block w _ b (h.imm_lt (hi0 b o hi)))).trans hu⟩
  · intro b hb
    refine ⟨by have := (h.soft b hb).1; simp; omega, fun k e b' o0 sz ce h1 h2 => ?_⟩
    by_cases hk : k = g
    · subst hk
      rw [hloc'] at h2
      cases h2
      have := (h.soft b hb).1
      omega
    · rw [hloc k hk] at h2
      exact (h.soft b hb).2 k e b' o0 sz ce h1 h2
  · rintro k hk ⟨k', e, o0, sz, ce, h1, h2⟩
    by_cases hk' : k' = g
    · subst hk'
      rw [hloc'] at h2
      cases h2
      exact absurd hk (Nat.lt_irrefl _)
    · rw [hloc k' hk'] at h2
      exact ⟨k', e, o0, sz, ce, h1, h2⟩
  · intro k hk hk2
    rw [hloc k (by omega)]
    exact ⟨rfl, hk2⟩
  · simp only [VR]
    exact ⟨w.heap.size, 0, l.length, 1, hloc', by simp⟩
/-- What is made ahead. -/
theorem pre_ok : ∀ (l : List Oper) (i : Nat) (s s1 : St) (B : Nat → Nat), preAll C l s = some s1 → Sim G s w → B i = s.next → (∀ j o, l[j]? = some o → B (i + j + 1) = B (i + j) + if isAlloc o.op then 1 else 0) →
    StpN s.next G s w G s1 w ∧ s1.next = B (i + l.length) ∧ ∀ j o, l[j]? = some o → isAlloc o.op = true → ∃ t z, o.op = .alloc t ∧ zeroL C.P t = some z ∧ get s1.heap (B (i + j)) = some ⟨z.length, [z], 0⟩ ∧ s.next ≤ B (i + j)
  | [], i, s, s1, B, h, hS, hB, _ => by
    simp only [preAll, Option.some.injEq] at h
    subst h
    exact ⟨StpN.of (Stp.refl hS) (Nat.le_refl _), hB.symm, fun j o hj => by simp at hj⟩
  | o :: r, i, s, s1, B, h, hS, hB, hn => by
    have hn0 := hn 0 o rfl
    have hnr : ∀ j o', r[j]? = some o' → B (i + 1 + j + 1) = B (i + 1 + j) + if isAlloc o'.op then 1 else 0 := fun j o' hj => by
      have := hn (j + 1) o' hj
      rwa [show i + (j + 1) = i + 1 + j from by omega] at this
    simp only [preAll] at h
    split at h
    · rename_i t ho
      split at h
      · rename_i z hz
        split at h
        · rename_i hzl
          have hne := hS.nx s.next (Nat.le_refl _)
          have hget : ∀ k x, get (s.new ⟨z.length, [z], 0⟩).heap k = some x → k ≠ s.next → get s.heap k = some x := fun k x hk hne' => by rw [get_new, if_neg hne'] at hk; exact hk
          have hS1 : Sim G (s.new ⟨z.length, [z], 0⟩) w := by
            have hk : ∀ k x, G.loc k = some x → k ≠ s.next := fun k x hx e => by rw [e, hne.1] at hx; cases hx
            refine ⟨fun k e b o0 sz ce h1 h2 => hS.ent k e b o0 sz ce (hget k e h1 (hk k _ h2)) h2, fun k k' e e' b o0 sz ce o0' sz' ce' h1 h2 h3 h4 => hS.inj k k' e e' b _ _ _ _ _ _ (hget k e h1 (hk k _ h3)) (hget k' e' h2 (hk k' _ h4)) h3 h4, fun k hk' => ?_, hS.imm, fun b hb => ⟨(hS.soft b hb).1, fun k e b' o0 sz ce h1 h2 => (hS.soft b hb).2 k e b' o0 sz ce (hget k e h1 (hk k _ h2)) h2⟩⟩
            have hk'' : s.next + 1 ≤ k := hk'
            refine ⟨(hS.nx k (by omega)).1, ?_⟩
            rw [get_new, if_neg (by omega)]
            exact (hS.nx k (by omega)).2
          have hst1 : StpN s.next G s w G (s.new ⟨z.length, [z], 0⟩) w := by
            refine ⟨.refl, hS1, rfl, rfl, rfl, Nat.le_refl _, ?_, fun _ _ h => h, fun _ _ _ _ => rfl, fun k hk hl => ⟨by rw [get_new, if_neg (by omega)], hl⟩, by simp [St.new], fun _ _ _ h => .inl h⟩
            rintro k _ ⟨k', e, o0, sz, ce, h1, h2⟩
            exact ⟨k', e, o0, sz, ce, hget k' e h1 (fun e' => by rw [e', hne.1] at h2; cases h2), h2⟩
          rw [if_pos (by rw [ho]; rfl)] at hn0
          obtain ⟨h1, h2, h3⟩ := pre_ok r (i + 1) (s.new ⟨z.length, [z], 0⟩) s1 B h hS1 (by rw [show i + 1 = i + 0 + 1 from rfl, hn0]; show B i + 1 = s.next + 1; rw [hB]) hnr
          have h1' : StpN s.next G (s.new ⟨z.length, [z], 0⟩) w G s1 w := ⟨h1.ext, h1.sim, h1.os, h1.tape, h1.output, h1.size, h1.own, h1.soft, h1.block, fun g hg hl => h1.unb g (by simp [St.new]; omega) hl, h1.next, h1.immo⟩
          refine ⟨hst1.trans h1', by rw [h2, List.length_cons, show i + 1 + r.length = i + (r.length + 1) from by omega], fun j o' hj ha => ?_⟩
          cases j with
          | zero =>
            cases hj
            refine ⟨t, z, ho, hz, ?_, by rw [Nat.add_zero, hB]; exact Nat.le_refl _⟩
            rw [Nat.add_zero, hB]
            have := (h1.unb s.next (by simp [St.new]) hne.1).1
            rw [this, get_new, if_pos rfl]
          | succ j =>
            obtain ⟨t', z', q1, q2, q3, q4⟩ := h3 j o' hj ha
            rw [show i + 1 + j = i + (j + 1) from by omega] at q3 q4
            exact ⟨t', z', q1, q2, q3, by simp [St.new] at q4; omega⟩
        · cases h
      · cases h
    · rename_i hno
      have hna : isAlloc o.op = false := by
        cases ho : o.op <;> first | rfl | exact absurd ho (hno _)
      rw [if_neg (by rw [hna]; simp)] at hn0
      obtain ⟨h1, h2, h3⟩ := pre_ok r (i + 1) s s1 B h hS (by rw [show i + 1 = i + 0 + 1 from rfl, hn0, Nat.add_zero, Nat.add_zero, hB]) hnr
      refine ⟨h1, by rw [h2, List.length_cons, show i + 1 + r.length = i + (r.length + 1) from by omega], fun j o' hj ha => ?_⟩
      cases j with
      | zero => cases hj; rw [hna] at ha; cases ha
      | succ j =>
        obtain ⟨t', z', q1, q2, q3, q4⟩ := h3 j o' hj ha
        rw [show i + 1 + j = i + (j + 1) from by omega] at q3 q4
        exact ⟨t', z', q1, q2, q3, q4⟩
end Go.Proofs.Ythfplgfpodmphaa.VE
