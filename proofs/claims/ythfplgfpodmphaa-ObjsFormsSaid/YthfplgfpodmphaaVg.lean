/- The evaluator by value: what it tells, the model does. -/
import Derived.Test.YthfplgfpodmphaaVf
namespace Go.Proofs.Ythfplgfpodmphaa.VE
variable {G G' : Gh} {w w' : World} {s s' : St}
theorem upd_none (h : Hp) (g k : Nat) (e : Ent) (hk : k ≠ g) : get (upd h g e) k = get h k := by rw [get_upd, if_neg hk]
theorem upd_some {h : Hp} {g : Nat} {x : Ent} (e : Ent) (hg : get h g = some x) : get (upd h g e) g = some e := by rw [get_upd, if_pos rfl, hg]; rfl
theorem get_upd_iff {h : Hp} {g k : Nat} {e x y : Ent} (hg : get h g = some x) (hk : get (upd h g e) k = some y) : (k = g ∧ y = e) ∨ (k ≠ g ∧ get h k = some y) := by
  by_cases he : k = g
  · subst he
    rw [upd_some e hg] at hk
    cases hk
    exact .inl ⟨rfl, rfl⟩
  · rw [upd_none h g k e he] at hk
    exact .inr ⟨he, hk⟩
/-- Rows of one's own are written. -/
theorem Stp.put (h : Sim G s w) {g : Nat} {e e' : Ent} {b o0 sz ce : Nat} (hg : get s.heap g = some e) (hl : G.loc g = some (b, o0, sz, ce)) {c c' : Array Value} {t : TypeId}
    (hobj : w.heap[b]? = some (.cells c t (0, 0))) (hsize : c'.size = c.size) (hz : e'.z = e.z) (hlw : e'.lw = e.lw) (hlen : e'.r.length ≤ ce) (hlw' : e.lw ≤ e'.r.length)
    (hkeep : ∀ o, o < o0 + e.lw * sz → c'[o]? = c[o]?)
    (hr : ∀ i l, e'.r[i]? = some l → l.length = sz ∧ ∀ j x, l[j]? = some x → ∃ v, c'[o0 + i * sz + j]? = some v ∧ VR G w x v ∧ plainV v = true) :
    Stp G s w G ⟨upd s.heap g e', s.next⟩ (w.setRow b c') := by
  have he := h.ent g e b o0 sz ce hg hl
  have hE : Ext G w G (w.setRow b c') := ⟨fun _ _ h => h, fun k o hi => ⟨hi, by
    by_cases hk : k = b
    · subst hk
      rw [cell_setRow_same w k o c c' t (0, 0) hobj]
      have := hkeep o (he.imm o hi)
      rw [this]
      simp [World.cell?, hobj]
    · exact cell_setRow_other w b c' ⟨k, o, none⟩ hk⟩, fun _ h => h⟩
  refine ⟨hE, ⟨?_, ?_, ?_, ?_, ?_⟩, rfl, rfl, rfl, by simp, ?_, fun _ _ h => h, ?_, ?_, Nat.le_refl _, fun _ _ _ h => .inl h⟩
  · intro k x b' o0' sz' ce' h1 h2
    rcases get_upd_iff hg h1 with ⟨rfl, rfl⟩ | ⟨hne, h1⟩
    · rw [hl] at h2
      cases h2
      refine ⟨by rw [hz]; exact he.z, hlen, by rw [hlw]; exact hlw', ⟨c', t, setRow_heap w b c c' t (0, 0) hobj, ?_⟩, fun i l hi => ?_, fun o ho => by rw [hlw]; exact he.imm o ho, fun k hk => by rw [hlw] at hk; exact he.fz k hk⟩
      · obtain ⟨c1, t1, h3, h4⟩ := he.obj
        rw [hobj] at h3
        cases h3
        rw [hsize]; exact h4
      · obtain ⟨h3, h4⟩ := hr i l hi
        refine ⟨h3, fun j x hj => ?_⟩
        obtain ⟨v, h5, h6, h7⟩ := h4 j x hj
        exact ⟨v, by rw [cell_setRow_same w b _ c c' t (0, 0) hobj]; exact h5, VR.ext hE x v h6, h7⟩
    · have hx := h.ent k x b' o0' sz' ce' h1 h2
      have hb : b' ≠ b := fun e1 => by
        subst e1
        exact hne (h.inj k g x e b' _ _ _ _ _ _ h1 hg h2 hl)
      exact hx.ext hE (setRow_other w b b' c' hb) (fun _ h => h)
  · intro k k' x x' b' o1 s1 c1 o2 s2 c2 h1 h2 h3 h4
    have hx : ∃ y, get s.heap k = some y := by rcases get_upd_iff hg h1 with ⟨rfl, _⟩ | ⟨_, h1⟩; exact ⟨_, hg⟩; exact ⟨_, h1⟩
    have hx' : ∃ y, get s.heap k' = some y := by rcases get_upd_iff hg h2 with ⟨rfl, _⟩ | ⟨_, h2⟩; exact ⟨_, hg⟩; exact ⟨_, h2⟩
    obtain ⟨y, hy⟩ := hx
    obtain ⟨y', hy'⟩ := hx'
    exact h.inj k k' y y' b' _ _ _ _ _ _ hy hy' h3 h4
  · intro k hk
    have := h.nx k hk
    refine ⟨this.1, ?_⟩
    show get (upd s.heap g e') k = none
    rw [upd_none _ _ _ _ (fun e1 => by rw [e1, hg] at this; cases this.2)]
    exact this.2
  · intro k o hi
    obtain ⟨v, hv⟩ := h.imm k o hi
    exact ⟨v, ((hE.imm k o hi).2).trans hv⟩
  · intro k hk
    refine ⟨by have := (h.soft k hk).1; simpa using this, fun g' x b' o1 s1 c1 h1 h2 => ?_⟩
    rcases get_upd_iff hg h1 with ⟨rfl, _⟩ | ⟨_, h1⟩
    · exact (h.soft k hk).2 g' e b' o1 s1 c1 hg h2
    · exact (h.soft k hk).2 g' x b' o1 s1 c1 h1 h2
  · rintro k hk ⟨g', x, o1, s1, c1, h1, h2⟩
    rcases get_upd_iff hg h1 with ⟨rfl, _⟩ | ⟨_, h1⟩
    · exact ⟨g', e, o1, s1, c1, hg, h2⟩
    · exact ⟨g', x, o1, s1, c1, h1, h2⟩
  · intro k hk ho _
    exact setRow_other w b k c' (fun e1 => ho (e1 ▸ ⟨g, e, o0, sz, ce, hg, hl⟩))
  · intro k hk hn
    refine ⟨?_, hn⟩
    show get (upd s.heap g e') k = _
    rw [upd_none _ _ _ _ (fun e1 => by rw [e1, hl] at hn; cases hn)]
/-- A name goes, another one comes for what is behind it in the same block. -/
theorem Stp.move (h : Sim G s w) {g : Nat} {e e' : Ent} {b o0 sz ce o1 ce' : Nat} (hg : get s.heap g = some e) (hl : G.loc g = some (b, o0, sz, ce)) {c c' : Array Value} {t : TypeId}
    (hobj : w.heap[b]? = some (.cells c t (0, 0))) (hsize : c'.size = c.size) (hz : e'.z = sz) (hlen : e'.r.length ≤ ce') (hfit : o1 + ce' * sz ≤ c.size)
    (hlw : e'.lw ≤ e'.r.length) (himm : ∀ o, G.imm b o → o < o1 + e'.lw * sz) (hfz : ∀ k, k < e'.lw * sz → G.imm b (o1 + k))
    (hkeep : ∀ o, G.imm b o → c'[o]? = c[o]?)
    (hr : ∀ i l, e'.r[i]? = some l → l.length = sz ∧ ∀ j x, l[j]? = some x → ∃ v, c'[o1 + i * sz + j]? = some v ∧ VR G w x v ∧ plainV v = true) :
    Stp G s w (G.born s.next (b, o1, sz, ce') 0) ((⟨del s.heap g, s.next⟩ : St).new e') (w.setRow b c') := by
  have hn := h.nx s.next (Nat.le_refl _)
  have hgn : g ≠ s.next := fun e1 => by rw [e1] at hg; rw [hn.2] at hg; cases hg
  have hE : Ext G w (G.born s.next (b, o1, sz, ce') 0) (w.setRow b c') := ext_born hn.1 (fun k o hi => by
    by_cases hk : k = b
    · subst hk
      rw [cell_setRow_same w k o c c' t (0, 0) hobj, hkeep o hi]
      simp [World.cell?, hobj]
    · exact cell_setRow_other w b c' ⟨k, o, none⟩ hk) _ _
  have hi0 : ∀ k o, (G.born s.next (b, o1, sz, ce') 0).imm k o → G.imm k o := fun k o hi => hi.elim id (fun x => by omega)
  have hget : ∀ k x, get ((⟨del s.heap g, s.next⟩ : St).new e').heap k = some x → (k = s.next ∧ x = e') ∨ (k ≠ s.next ∧ k ≠ g ∧ get s.heap k = some x) := by
    intro k x hk
    rw [get_new] at hk
    by_cases h1 : k = s.next
    · rw [if_pos h1] at hk; cases hk; exact .inl ⟨h1, rfl⟩
    · rw [if_neg h1] at hk
      change get (del s.heap g) k = _ at hk
      rw [get_del] at hk
      by_cases h2 : k = g
      · rw [if_pos h2] at hk; cases hk
      · rw [if_neg h2] at hk; exact .inr ⟨h1, h2, hk⟩
  have hloc : ∀ k, k ≠ s.next → (G.born s.next (b, o1, sz, ce') 0).loc k = G.loc k := fun k hk => if_neg hk
  have hloc' : (G.born s.next (b, o1, sz, ce') 0).loc s.next = some (b, o1, sz, ce') := if_pos rfl
  refine ⟨hE, ⟨?_, ?_, ?_, ?_, ?_⟩, rfl, rfl, rfl, by simp, ?_, fun _ _ h => h, ?_, ?_, by simp [St.new], fun b o _ hi => .inl (hi0 b o hi)⟩
  · intro k x b' o2 s2 c2 h1 h2
    rcases hget k x h1 with ⟨rfl, rfl⟩ | ⟨hk, hk', h1⟩
    · rw [hloc'] at h2
      cases h2
      refine ⟨hz, hlen, hlw, ⟨c', t, setRow_heap w b c c' t (0, 0) hobj, by rw [hsize]; exact hfit⟩, fun i l hi => ?_, fun o ho => himm o (hi0 _ o ho), fun k hk => .inl (hfz k hk)⟩
      obtain ⟨h3, h4⟩ := hr i l hi
      refine ⟨h3, fun j x hj => ?_⟩
      obtain ⟨v, h5, h6, h7⟩ := h4 j x hj
      exact ⟨v, by rw [cell_setRow_same w b _ c c' t (0, 0) hobj]; exact h5, VR.ext hE x v h6, h7⟩
    · rw [hloc k hk] at h2
      have hx := h.ent k x b' o2 s2 c2 h1 h2
      have hb : b' ≠ b := fun e1 => by
        subst e1
        exact hk' (h.inj k g x e b' _ _ _ _ _ _ h1 hg h2 hl)
      exact hx.ext hE (setRow_other w b b' c' hb) (fun o ho => hi0 b' o ho)
  · intro k k' x x' b' p1 s1 c1 p2 s2 c2 h1 h2 h3 h4
    rcases hget k x h1 with ⟨rfl, rfl⟩ | ⟨hk, hk', q1⟩ <;> rcases hget k' x' h2 with ⟨rfl, rfl⟩ | ⟨hm, hm', q2⟩
    · rfl
    · rw [hloc'] at h3
      rw [hloc k' hm] at h4
      cases h3
      exact absurd (h.inj k' g x' e b _ _ _ _ _ _ q2 hg h4 hl) hm'
    · rw [hloc k hk] at h3
      rw [hloc'] at h4
      cases h4
      exact absurd (h.inj k g x e b _ _ _ _ _ _ q1 hg h3 hl) hk'
    · rw [hloc k hk] at h3
      rw [hloc k' hm] at h4
      exact h.inj k k' x x' b' _ _ _ _ _ _ q1 q2 h3 h4
  · intro k hk
    have hk' : s.next + 1 ≤ k := hk
    have := h.nx k (by omega)
    refine ⟨by rw [hloc k (by omega)]; exact this.1, ?_⟩
    rw [get_new, if_neg (show ¬ k = s.next by omega)]
    show get (del s.heap g) k = none
    rw [get_del]
    split
    · rfl
    · exact this.2
  · intro k o hi
    obtain ⟨v, hv⟩ := h.imm k o (hi0 k o hi)
    exact ⟨v, ((hE.imm k o (hi0 k o hi)).2).trans hv⟩
  · intro k hk
    refine ⟨by have := (h.soft k hk).1; simpa using this, fun g' x b' p1 s1 c1 h1 h2 => ?_⟩
    rcases hget g' x h1 with ⟨rfl, rfl⟩ | ⟨hm, hm', h1⟩
    · rw [hloc'] at h2
      cases h2
      exact (h.soft k hk).2 g e b _ _ _ hg hl
    · rw [hloc g' hm] at h2
      exact (h.soft k hk).2 g' x b' p1 s1 c1 h1 h2
  · rintro k hk ⟨g', x, p1, s1, c1, h1, h2⟩
    rcases hget g' x h1 with ⟨rfl, rfl⟩ | ⟨hm, hm', h1⟩
    · rw [hloc'] at h2
      cases h2
      exact ⟨g, e, o0, sz, ce, hg, hl⟩
    · rw [hloc g' hm] at h2
      exact ⟨g', x, p1, s1, c1, h1, h2⟩
  · intro k hk ho _
    exact setRow_other w b k c' (fun e1 => ho (e1 ▸ ⟨g, e, o0, sz, ce, hg, hl⟩))
  · intro k hk hn'
    rw [get_new, if_neg (show ¬ k = s.next by omega), hloc k (by omega)]
    refine ⟨?_, hn'⟩
    show get (del s.heap g) k = _
    rw [get_del, if_neg (fun e1 => by rw [e1, hl] at hn'; cases hn')]
end Go.Proofs.Ythfplgfpodmphaa.VE
