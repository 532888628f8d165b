/- The evaluator by value: what it tells, the model does. -/
import Derived.Test.YthfplgfpodmphaaVe
namespace Go.Proofs.Ythfplgfpodmphaa.VE
variable {G G' : Gh} {w w' : World} {s s' : St}
theorem EntOk.ext {e : Ent} {b o0 sz ce : Nat} (h : EntOk G w e b o0 sz ce) (hE : Ext G w G' w') (hb : w'.heap[b]? = w.heap[b]?) (hi : ∀ o, G'.imm b o → G.imm b o) : EntOk G' w' e b o0 sz ce where
  z := h.z
  len := h.len
  lw := h.lw
  obj := by rw [hb]; exact h.obj
  rows i l hl := by
    obtain ⟨h1, h2⟩ := h.rows i l hl
    refine ⟨h1, fun j x hj => ?_⟩
    obtain ⟨v, h3, h4, h5⟩ := h2 j x hj
    exact ⟨v, (World.cell?_of_block (a := ⟨b, _, none⟩) hb).trans h3, VR.ext hE x v h4, h5⟩
  imm o ho := h.imm o (hi o ho)
  fz k hk := (hE.imm _ _ (h.fz k hk)).1
theorem EntOk.lt {e : Ent} {b o0 sz ce : Nat} (h : EntOk G w e b o0 sz ce) : b < w.heap.size := by
  obtain ⟨c, t, h1, _⟩ := h.obj
  exact (Array.getElem?_eq_some_iff.1 h1).1
theorem cell_lt {b o : Nat} {v : Value} (h : w.cell? ⟨b, o, none⟩ = some v) : b < w.heap.size := World.block_lt_of_cell? w (a := ⟨b, o, none⟩) h
theorem Sim.imm_lt (h : Sim G s w) {b o : Nat} (hi : G.imm b o) : b < w.heap.size := let ⟨_, hv⟩ := h.imm b o hi; cell_lt hv
/-- A draw turns nothing. -/
theorem Stp.drew (h : Sim G s w) : Stp G s w G s w.drew := by
  have hE : Ext G w G w.drew := ⟨fun _ _ h => h, fun _ _ h => ⟨h, rfl⟩, fun _ h => h⟩
  exact ⟨hE, ⟨fun g e b o0 sz ce h1 h2 => (h.ent g e b o0 sz ce h1 h2).ext hE rfl (fun _ h => h), h.inj, h.nx, h.imm, h.soft⟩, rfl, rfl, rfl, Nat.le_refl _, fun _ _ h => h, fun _ _ h => h, fun _ _ _ _ => rfl, fun _ _ h => ⟨rfl, h⟩, Nat.le_refl _, fun _ _ _ h => .inl h⟩
theorem alloc_block (w : World) (o : Obj) (k : Nat) (h : k < w.heap.size) : (w.alloc o).heap[k]? = w.heap[k]? := by
  show (w.heap.push o)[k]? = _
  rw [Array.getElem?_push, if_neg (by omega)]
theorem alloc_new (w : World) (o : Obj) : (w.alloc o).heap[w.heap.size]? = some o := by
  show (w.heap.push o)[w.heap.size]? = _
  rw [Array.getElem?_push, if_pos rfl]
theorem alloc_cell (w : World) (c : Array Value) (t : TypeId) (o : Nat) (fz : Nat × Nat := (0, 0)) : (w.alloc (.cells c t fz)).cell? ⟨w.heap.size, o, none⟩ = c[o]? := by
  simp only [World.cell?, alloc_new]
  simp
/-- What is known when a row is new that nobody ever writes. -/
def Gh.made (G : Gh) (b n : Nat) : Gh := ⟨G.loc, fun k o => G.imm k o ∨ (k = b ∧ o < n), fun k => G.soft k ∨ k = b⟩
theorem ext_alloc (h : Sim G s w) (c : Array Value) (t : TypeId) (fz : Nat × Nat := (0, 0)) : Ext G w (G.made w.heap.size c.size) (w.alloc (.cells c t fz)) :=
  ⟨fun _ _ h => h, fun b o hi => ⟨.inl hi, World.cell?_of_block (a := ⟨b, o, none⟩) (alloc_block w _ b (h.imm_lt hi))⟩, fun _ h => .inl h⟩
theorem Stp.made (h : Sim G s w) (c : Array Value) (t : TypeId) (fz : Nat × Nat := (0, 0)) : Stp G s w (G.made w.heap.size c.size) s (w.alloc (.cells c t fz)) where
  ext := ext_alloc h c t fz
  sim :=
    { ent := fun g e b o0 sz ce h1 h2 => by
        have he := h.ent g e b o0 sz ce h1 h2
        exact he.ext (ext_alloc h c t fz) (alloc_block w _ b he.lt) (fun o ho => by
          rcases ho with ho | ⟨rfl, _⟩
          · exact ho
          · exact absurd he.lt (Nat.lt_irrefl _))
      inj := h.inj
      nx := h.nx
      imm := fun b o hi => by
        rcases hi with hi | ⟨rfl, hi⟩
        · obtain ⟨v, hv⟩ := h.imm b o hi
          exact ⟨v, (World.cell?_of_block (a := ⟨b, o, none⟩) (alloc_block w _ b (h.imm_lt hi))).trans hv⟩
        · exact ⟨c[o], by rw [alloc_cell w c t o fz]; simp [hi]⟩
      soft := fun b hb => by
        rcases hb with hb | rfl
        · exact ⟨Nat.lt_succ_of_lt (h.soft b hb).1 |> fun x => by simpa using x, (h.soft b hb).2⟩
        · refine ⟨by simp, fun g e b' o0 sz ce h1 h2 => ?_⟩
          have := (h.ent g e b' o0 sz ce h1 h2).lt
          omega }
  os := rfl
  tape := rfl
  output := rfl
  size := by simp
  own _ _ h := h
  soft k hk hs := by
    rcases hs with hs | rfl
    · exact hs
    · exact absurd hk (Nat.lt_irrefl _)
  block k hk _ _ := alloc_block w _ k hk
  unb _ _ h := ⟨rfl, h⟩
  next := Nat.le_refl _
  immo b o hb hi := by
    rcases hi with hi | ⟨rfl, _⟩
    · exact .inl hi
    · exact absurd hb (Nat.lt_irrefl _)
/-- What is known when a row of one's own is new: of its cells the first n never turn. -/
def Gh.born (G : Gh) (g : Nat) (x : Nat × Nat × Nat × Nat) (n : Nat) : Gh := ⟨fun k => if k = g then some x else G.loc k, fun b o => G.imm b o ∨ (b = x.1 ∧ x.2.1 ≤ o ∧ o < x.2.1 + n), G.soft⟩
theorem ext_born {g : Nat} (h : G.loc g = none) (hc : ∀ b o, G.imm b o → w'.cell? ⟨b, o, none⟩ = w.cell? ⟨b, o, none⟩) (x : Nat × Nat × Nat × Nat) (n : Nat) : Ext G w (G.born g x n) w' :=
  ⟨fun k y hk => by
    show (if k = g then some x else G.loc k) = some y
    rw [if_neg (fun e => by rw [e, h] at hk; cases hk)]; exact hk, fun b o hi => ⟨.inl hi, hc b o hi⟩, fun _ h => h⟩
/-- A row of one's own is new: under a new name. -/
theorem Stp.born (h : Sim G s w) (c : Array Value) (t : TypeId) (e : Ent) (ce : Nat) (hlen : e.r.length ≤ ce) (hsz : ce * e.z ≤ c.size) (hlw : e.lw ≤ e.r.length)
    (hr : ∀ i l, e.r[i]? = some l → l.length = e.z ∧ ∀ j x, l[j]? = some x → ∃ v, c[i * e.z + j]? = some v ∧ VR G w x v ∧ plainV v = true) :
    Stp G s w (G.born s.next (w.heap.size, 0, e.z, ce) (e.lw * e.z)) (s.new e) (w.alloc (.cells c t)) := by
  have hn := h.nx s.next (Nat.le_refl _)
  have hE : Ext G w (G.born s.next (w.heap.size, 0, e.z, ce) (e.lw * e.z)) (w.alloc (.cells c t)) :=
    ext_born hn.1 (fun b o hi => World.cell?_of_block (a := ⟨b, o, none⟩) (alloc_block w _ b (h.imm_lt hi))) _ _
  have hlwz : e.lw * e.z ≤ c.size := Nat.le_trans (Nat.mul_le_mul_right _ (Nat.le_trans hlw hlen)) hsz
  have himm : ∀ b o, b < w.heap.size → (G.born s.next (w.heap.size, 0, e.z, ce) (e.lw * e.z)).imm b o → G.imm b o := by
    rintro b o hb (hi | ⟨rfl, _⟩)
    · exact hi
    · exact absurd hb (Nat.lt_irrefl _)
  refine ⟨hE, ?_, rfl, rfl, rfl, by simp, ?_, fun _ _ h => h, fun k hk _ _ => alloc_block w _ k hk, ?_, by simp [St.new], fun b o hb hi => .inl (himm b o hb hi)⟩
  · refine ⟨?_, ?_, ?_, ?_, ?_⟩
    · intro g e' b o0 sz ce' h1 h2
      rw [get_new] at h1
      change (if g = s.next then _ else _) = _ at h2
      by_cases hg : g = s.next
      · rw [if_pos hg] at h1 h2
        cases h1; cases h2
        refine ⟨rfl, hlen, hlw, ⟨c, t, alloc_new w _, by omega⟩, fun i l hl => ?_, fun o ho => ?_, fun k hk => .inr ⟨rfl, by simp, by simpa using hk⟩⟩
        · obtain ⟨h3, h4⟩ := hr i l hl
          refine ⟨h3, fun j x hj => ?_⟩
          obtain ⟨v, h5, h6, h7⟩ := h4 j x hj
          exact ⟨v, by rw [alloc_cell, Nat.zero_add]; exact h5, VR.ext hE x v h6, h7⟩
        · rcases ho with ho | ⟨_, _, ho⟩
          · exact absurd (h.imm_lt ho) (Nat.lt_irrefl _)
          · exact ho
      · rw [if_neg hg] at h1 h2
        have he := h.ent g e' b o0 sz ce' h1 h2
        exact he.ext hE (alloc_block w _ b he.lt) (fun o ho => himm b o he.lt ho)
    · intro g g' e1 e2 b o0 sz ce1 o0' sz' ce2 h1 h2 h3 h4
      rw [get_new] at h1 h2
      change (if g = s.next then _ else _) = _ at h3
      change (if g' = s.next then _ else _) = _ at h4
      by_cases hg : g = s.next <;> by_cases hg' : g' = s.next
      · rw [hg, hg']
      · rw [if_pos hg] at h1 h3
        rw [if_neg hg'] at h2 h4
        cases h3
        exact absurd (h.ent g' e2 _ _ _ _ h2 h4).lt (Nat.lt_irrefl _)
      · rw [if_neg hg] at h1 h3
        rw [if_pos hg'] at h2 h4
        cases h4
        exact absurd (h.ent g e1 _ _ _ _ h1 h3).lt (Nat.lt_irrefl _)
      · rw [if_neg hg] at h1 h3
        rw [if_neg hg'] at h2 h4
        exact h.inj g g' e1 e2 b _ _ _ _ _ _ h1 h2 h3 h4
    · intro g hg
      have hg' : s.next + 1 ≤ g := hg
      have := h.nx g (by omega)
      refine ⟨?_, ?_⟩
      · show (if g = s.next then _ else G.loc g) = none
        rw [if_neg (by omega)]; exact this.1
      · rw [get_new, if_neg (by omega)]; exact this.2
    · intro b o hi
      rcases hi with hi | ⟨rfl, _, ho⟩
      · obtain ⟨v, hv⟩ := h.imm b o hi
        exact ⟨v, (World.cell?_of_block (a := ⟨b, o, none⟩) (alloc_block w _ b (h.imm_lt hi))).trans hv⟩
      · have hoc : o < c.size := by simp at ho; omega
        exact ⟨c[o], by rw [alloc_cell]; simp [hoc]⟩
    · intro b hb
      refine ⟨by have := (h.soft b hb).1; simp; omega, fun g e' b' o0 sz ce' h1 h2 => ?_⟩
      rw [get_new] at h1
      change (if g = s.next then _ else _) = _ at h2
      by_cases hg : g = s.next
      · rw [if_pos hg] at h2
        cases h2
        have := (h.soft b hb).1
        omega
      · rw [if_neg hg] at h1 h2
        exact (h.soft b hb).2 g e' b' o0 sz ce' h1 h2
  · rintro k hk ⟨g, e', o0, sz, ce', h1, h2⟩
    rw [get_new] at h1
    change (if g = s.next then _ else _) = _ at h2
    by_cases hg : g = s.next
    · rw [if_pos hg] at h2
      cases h2
      exact absurd hk (Nat.lt_irrefl _)
    · rw [if_neg hg] at h1 h2
      exact ⟨g, e', o0, sz, ce', h1, h2⟩
  · intro g hg hl
    rw [get_new, if_neg (by omega)]
    refine ⟨rfl, ?_⟩
    show (if g = s.next then _ else G.loc g) = none
    rw [if_neg (by omega)]; exact hl
/-- A name is let go. -/
theorem Stp.kill (h : Sim G s w) (g : Nat) (hg : ∃ x, G.loc g = some x) : Stp G s w G ⟨del s.heap g, s.next⟩ w := by
  have hget : ∀ k x, get (del s.heap g) k = some x → k ≠ g ∧ get s.heap k = some x := by
    intro k x hk
    rw [get_del] at hk
    split at hk
    · cases hk
    · exact ⟨by assumption, hk⟩
  refine ⟨.refl, ⟨fun k e b o0 sz ce h1 h2 => h.ent k e b o0 sz ce (hget k e h1).2 h2, fun k k' e e' b o0 sz ce o0' sz' ce' h1 h2 h3 h4 => h.inj k k' e e' b _ _ _ _ _ _ (hget k e h1).2 (hget k' e' h2).2 h3 h4, fun k hk => ?_, h.imm, fun b hb => ⟨(h.soft b hb).1, fun k e b' o0 sz ce h1 h2 => (h.soft b hb).2 k e b' o0 sz ce (hget k e h1).2 h2⟩⟩,
    rfl, rfl, rfl, Nat.le_refl _, ?_, fun _ _ h => h, fun _ _ _ _ => rfl, fun k hk hn => ⟨?_, hn⟩, Nat.le_refl _, fun _ _ _ h => .inl h⟩
  · refine ⟨(h.nx k hk).1, ?_⟩
    show get (del s.heap g) k = none
    rw [get_del]
    split
    · rfl
    · exact (h.nx k hk).2
  · rintro k _ ⟨g', e, o0, sz, ce, h1, h2⟩
    exact ⟨g', e, o0, sz, ce, (hget g' e h1).2, h2⟩
  · show get (del s.heap g) k = _
    rw [get_del, if_neg]
    rintro rfl
    obtain ⟨x, hx⟩ := hg
    rw [hx] at hn
    cases hn
end Go.Proofs.Ythfplgfpodmphaa.VE
