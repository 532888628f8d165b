/- The evaluator by value: what it tells, the model does. -/
import Derived.Test.YthfplgfpodmphaaVab
namespace Go.Proofs.Ythfplgfpodmphaa.VE
variable {G G0 G1 G' Ga : Gh} {w w' w1 : World} {s s' s1 : St}
theorem get_freeze (h : Hp) (g k : Nat) : get (freezeN h g) k = if k = g then (get h k).map fun e => ⟨e.z, e.r, e.r.length⟩ else get h k := by
  unfold freezeN
  split
  · rename_i e he
    rw [get_upd]
    by_cases hk : k = g
    · subst hk; simp [he]
    · simp [hk]
  · rename_i he
    by_cases hk : k = g
    · subst hk; simp [he]
    · simp [hk]
theorem get_freezes (k : Nat) : ∀ (N : List Nat) (h : Hp), get (N.foldl freezeN h) k = (get h k).map fun e => if k ∈ N then ⟨e.z, e.r, e.r.length⟩ else e
  | [], h => by simp
  | g :: N, h => by
    rw [List.foldl_cons, get_freezes k N, get_freeze]
    by_cases hk : k = g
    · subst hk
      rw [if_pos rfl]
      cases get h k with
      | none => rfl
      | some e => simp
    · rw [if_neg hk]
      simp [hk]
/-- The cells of what is named. -/
def live (G : Gh) (h : Hp) (p : Nat → Prop) (b o : Nat) : Prop := ∃ g e o0 sz ce, p g ∧ get h g = some e ∧ G.loc g = some (b, o0, sz, ce) ∧ o0 ≤ o ∧ o < o0 + e.r.length * sz
/-- What one knows who is called by value. -/
def Gh.inner (G : Gh) (h : Hp) (N : List Nat) : Gh := ⟨fun _ => none, fun b o => G.imm b o ∨ live G h (· ∈ N) b o, G.soft⟩
/-- What is known after it. -/
def Gh.outer (G : Gh) (h : Hp) (N : List Nat) (n : Nat) (G1 : Gh) (H : Hp) : Gh := ⟨G.loc, fun b o => (G.inner h N).imm b o ∨ (n ≤ b ∧ (G1.imm b o ∨ live G1 H (fun _ => True) b o)), G.soft⟩
theorem EntOk.cell {e : Ent} {b o0 sz ce : Nat} (h : EntOk G w e b o0 sz ce) {o : Nat} (h1 : o0 ≤ o) (h2 : o < o0 + e.r.length * sz) : ∃ v, w.cell? ⟨b, o, none⟩ = some v := by
  have hsz : 0 < sz := by
    rcases Nat.eq_zero_or_pos sz with rfl | h
    · rw [Nat.mul_zero] at h2; omega
    · exact h
  have hi : (o - o0) / sz < e.r.length := by
    rw [Nat.div_lt_iff_lt_mul hsz]; omega
  obtain ⟨h3, h4⟩ := h.rows ((o - o0) / sz) e.r[(o - o0) / sz] (List.getElem?_eq_getElem hi)
  have hj : (o - o0) % sz < (e.r[(o - o0) / sz]).length := by rw [h3]; exact Nat.mod_lt _ hsz
  obtain ⟨v, h5, _⟩ := h4 ((o - o0) % sz) _ (List.getElem?_eq_getElem hj)
  refine ⟨v, ?_⟩
  rw [← h5]
  congr 2
  have := Nat.div_add_mod (o - o0) sz
  rw [Nat.mul_comm] at this
  omega
theorem inner_sim (h : Sim G s w) (N : List Nat) : Sim (G.inner s.heap N) ⟨[], 0⟩ w := by
  refine ⟨?_, ?_, fun g _ => ⟨rfl, rfl⟩, ?_, ?_⟩
  · intro g e b o0 sz ce h1; cases h1
  · intro g g' e e' b o0 sz ce o0' sz' ce' h1; cases h1
  · rintro b o (hi | ⟨g, e, o0, sz, ce, _, h1, h2, h3, h4⟩)
    · exact h.imm b o hi
    · exact (h.ent g e b o0 sz ce h1 h2).cell h3 h4
  · intro b hb
    refine ⟨(h.soft b hb).1, fun g e b' o0 sz ce h1 => ?_⟩
    cases h1
section
variable {N : List Nat} {H : Hp} (h : Sim G s w) (k : Stp (G.inner s.heap N) ⟨[], 0⟩ w G1 s1 w1)
include k
theorem no_own {b : Nat} (hb : b < w.heap.size) : ¬ Owned G1 s1 b := by
  intro ho
  obtain ⟨g, e, _, _, _, h1, _⟩ := k.own b hb ho
  cases h1
theorem inner_block {b : Nat} (hb : b < w.heap.size) (hs : ¬ G.soft b) : w1.heap[b]? = w.heap[b]? := by
  refine k.block b hb ?_ hs
  rintro ⟨g, e, _, _, _, h1, _⟩
  cases h1
theorem inner_imm {b o : Nat} (hb : b < w.heap.size) (hi : G1.imm b o) : (G.inner s.heap N).imm b o := by
  rcases k.immo b o hb hi with h | ⟨g, e, _, _, _, h1, _⟩
  · exact h
  · cases h1
theorem outer_ext : Ext G w (G.outer s.heap N w.heap.size G1 H) w1 :=
  ⟨fun _ _ h => h, fun b o hi => ⟨.inl (.inl hi), (k.ext.imm b o (.inl hi)).2⟩, fun _ h => h⟩
include h
theorem outer_stp (hN : ∀ g ∈ N, ∃ y, G.loc g = some y) (hH : ∀ g e, get H g = some e → get s1.heap g = some e) : Stp G s w (G.outer s.heap N w.heap.size G1 H) ⟨N.foldl freezeN s.heap, s.next⟩ w1 := by
  have hE : Ext G w (G.outer s.heap N w.heap.size G1 H) w1 := outer_ext k
  have hget : ∀ g e', get (N.foldl freezeN s.heap) g = some e' → ∃ e, get s.heap g = some e ∧ e' = if g ∈ N then ⟨e.z, e.r, e.r.length⟩ else e := by
    intro g e' h1
    rw [get_freezes] at h1
    simp only [Option.map_eq_some_iff] at h1
    obtain ⟨e, h2, h3⟩ := h1
    exact ⟨e, h2, h3.symm⟩
  have hold : ∀ b o, b < w.heap.size → (G.outer s.heap N w.heap.size G1 H).imm b o → (G.inner s.heap N).imm b o := by
    rintro b o hb (hi | ⟨hn, _⟩)
    · exact hi
    · omega
  have hblk : ∀ g e b o0 sz ce, get s.heap g = some e → G.loc g = some (b, o0, sz, ce) → w1.heap[b]? = w.heap[b]? := fun g e b o0 sz ce h1 h2 =>
    inner_block k (h.ent g e b o0 sz ce h1 h2).lt fun hs => (h.soft b hs).2 g e b o0 sz ce h1 h2 rfl
  refine ⟨hE, ⟨?_, ?_, ?_, ?_, ?_⟩, k.os, k.tape, k.output, k.size, ?_, fun _ _ h => h, ?_, ?_, Nat.le_refl _, ?_⟩
  · intro g e' b o0 sz ce h1 h2
    obtain ⟨e, h3, rfl⟩ := hget g e' h1
    have he := h.ent g e b o0 sz ce h3 h2
    have hb := hblk g e b o0 sz ce h3 h2
    have hcell : ∀ o, w1.cell? ⟨b, o, none⟩ = w.cell? ⟨b, o, none⟩ := fun o => World.cell?_of_block (a := ⟨b, o, none⟩) hb
    have himm : ∀ o, (G.outer s.heap N w.heap.size G1 H).imm b o → G.imm b o ∨ (g ∈ N ∧ o < o0 + e.r.length * sz) := by
      intro o hi
      rcases hold b o he.lt hi with hi | ⟨g', e'', o0', sz', ce', h4, h5, h6, h7, h8⟩
      · exact .inl hi
      · have := h.inj g g' e e'' b _ _ _ _ _ _ h3 h5 h2 h6
        subst this
        rw [h3] at h5; cases h5
        have h2' : G.loc g = some (b, o0, sz, ce) := h2
        rw [h2'] at h6; cases h6
        exact .inr ⟨h4, h8⟩
    have hrows : ∀ (i : Nat) (l : List PV), e.r[i]? = some l → l.length = sz ∧ ∀ (j : Nat) (x : PV), l[j]? = some x → ∃ v, w1.cell? ⟨b, o0 + i * sz + j, none⟩ = some v ∧ VR (G.outer s.heap N w.heap.size G1 H) w1 x v ∧ plainV v = true := by
      intro i l hl
      obtain ⟨h4, h5⟩ := he.rows i l hl
      refine ⟨h4, fun j x hj => ?_⟩
      obtain ⟨v, h6, h7, h8⟩ := h5 j x hj
      exact ⟨v, by rw [hcell]; exact h6, VR.ext hE x v h7, h8⟩
    obtain ⟨c, t, h9, h10⟩ := he.obj
    by_cases hg : g ∈ N
    · rw [if_pos hg]
      refine ⟨he.z, he.len, Nat.le_refl _, ⟨c, t, hb.trans h9, h10⟩, hrows, fun o hi => ?_, fun k hk => .inl (.inr ⟨g, e, o0, sz, ce, hg, h3, h2, by omega, ?_⟩)⟩
      · rcases himm o hi with hi | ⟨_, hi⟩
        · have := he.imm o hi
          have := Nat.mul_le_mul_right sz he.lw
          show o < o0 + e.r.length * sz
          omega
        · exact hi
      · have : k < e.r.length * sz := hk
        omega
    · rw [if_neg hg]
      refine ⟨he.z, he.len, he.lw, ⟨c, t, hb.trans h9, h10⟩, hrows, fun o hi => ?_, fun k hk => .inl (.inl (he.fz k hk))⟩
      rcases himm o hi with hi | ⟨hi, _⟩
      · exact he.imm o hi
      · exact absurd hi hg
  · intro g g' e e' b o0 sz ce o0' sz' ce' h1 h2 h3 h4
    obtain ⟨e1, h5, _⟩ := hget g e h1
    obtain ⟨e2, h6, _⟩ := hget g' e' h2
    exact h.inj g g' e1 e2 b _ _ _ _ _ _ h5 h6 h3 h4
  · intro g hg
    have := h.nx g hg
    refine ⟨this.1, ?_⟩
    show get (N.foldl freezeN s.heap) g = none
    rw [get_freezes, this.2]; rfl
  · rintro b o (hi | ⟨_, hi | ⟨g, e, o0, sz, ce, _, h1, h2, h3, h4⟩⟩)
    · obtain ⟨v, hv⟩ := (inner_sim h N).imm b o hi
      exact ⟨v, (k.ext.imm b o hi).2.trans hv⟩
    · exact k.sim.imm b o hi
    · exact (k.sim.ent g e b o0 sz ce (hH g e h1) h2).cell h3 h4
  · intro b hb
    refine ⟨Nat.lt_of_lt_of_le (h.soft b hb).1 k.size, fun g e' b' o0 sz ce h1 h2 => ?_⟩
    obtain ⟨e, h3, _⟩ := hget g e' h1
    exact (h.soft b hb).2 g e b' o0 sz ce h3 h2
  · rintro b hb ⟨g, e', o0, sz, ce, h1, h2⟩
    obtain ⟨e, h3, _⟩ := hget g e' h1
    exact ⟨g, e, o0, sz, ce, h3, h2⟩
  · intro b hb _ hs
    exact inner_block k hb hs
  · intro g hg hn
    refine ⟨?_, hn⟩
    show get (N.foldl freezeN s.heap) g = _
    rw [get_freezes]
    have : g ∉ N := fun hm => by
      obtain ⟨y, hy⟩ := hN g hm
      rw [hn] at hy; cases hy
    simp [this]
  · intro b o hb hi
    rcases hold b o hb hi with hi | ⟨g, e, o0, sz, ce, _, h1, h2, _⟩
    · exact .inl hi
    · exact .inr ⟨g, e, o0, sz, ce, h1, h2⟩
/-- What comes back is one value alone. -/
theorem plain_stp : Stp G s w G s w1 := by
  have hE : Ext G w G w1 := ⟨fun _ _ h => h, fun b o hi => ⟨hi, (k.ext.imm b o (.inl hi)).2⟩, fun _ h => h⟩
  refine ⟨hE, ⟨?_, h.inj, h.nx, ?_, ?_⟩, k.os, k.tape, k.output, k.size, fun _ _ h => h, fun _ _ h => h, fun b hb _ hs => inner_block k hb hs, fun _ _ h => ⟨rfl, h⟩, Nat.le_refl _, fun _ _ _ h => .inl h⟩
  · intro g e b o0 sz ce h1 h2
    have he := h.ent g e b o0 sz ce h1 h2
    exact he.ext hE (inner_block k he.lt fun hs => (h.soft b hs).2 g e b o0 sz ce h1 h2 rfl) (fun _ h => h)
  · intro b o hi
    obtain ⟨v, hv⟩ := h.imm b o hi
    exact ⟨v, (k.ext.imm b o (.inl hi)).2.trans hv⟩
  · intro b hb
    exact ⟨Nat.lt_of_lt_of_le (h.soft b hb).1 k.size, (h.soft b hb).2⟩
omit h
theorem outer_imm {b o : Nat} (hi : G1.imm b o) : (G.outer s.heap N w.heap.size G1 H).imm b o := by
  by_cases hb : b < w.heap.size
  · exact .inl (inner_imm k hb hi)
  · exact .inr ⟨by omega, .inl hi⟩
theorem outer_live (hH : ∀ g e, get H g = some e → get s1.heap g = some e) {g : Nat} {e : Ent} {b o0 sz ce : Nat} (h1 : get H g = some e) (h2 : G1.loc g = some (b, o0, sz, ce)) {o : Nat} (ho : o < e.r.length * sz) : (G.outer s.heap N w.heap.size G1 H).imm b (o0 + o) := by
  have hb : ¬ b < w.heap.size := fun hb => no_own k hb ⟨g, e, o0, sz, ce, hH g e h1, h2⟩
  exact .inr ⟨by omega, .inr ⟨g, e, o0, sz, ce, trivial, h1, h2, by omega, by omega⟩⟩
/-- What comes back, by value. -/
theorem outer_vr (hH : ∀ g e, get H g = some e → get s1.heap g = some e) (d : Nat) (v v' : PV) (x : Value) (hs : strip H d v = some v') (hv : VR G1 w1 v x) : VR (G.outer s.heap N w.heap.size G1 H) w1 v' x :=
  strip_ok (fun g e b o0 sz ce h1 h2 => k.sim.ent g e b o0 sz ce (hH g e h1) h2) (fun _ _ hi => outer_imm k hi) (fun _ _ _ _ _ _ h1 h2 _ hj => outer_live k hH h1 h2 hj) d v v' x hs hv
end
/-- A block that nobody owns is taken under a new name. -/
theorem Stp.adopt (h : Stp G s w Ga s' w1) {e : Ent} {b o1 ce : Nat} (hb : w.heap.size ≤ b) (hno : ¬ Owned Ga s' b) (hso : ¬ Ga.soft b) (hi : ∀ o, Ga.imm b o → o < o1) (hlw : e.lw = 0) (hlen : e.r.length ≤ ce)
    (hobj : ∃ c t, w1.heap[b]? = some (.cells c t (0, 0)) ∧ o1 + ce * e.z ≤ c.size)
    (hr : ∀ i l, e.r[i]? = some l → l.length = e.z ∧ ∀ j x, l[j]? = some x → ∃ v, w1.cell? ⟨b, o1 + i * e.z + j, none⟩ = some v ∧ VR Ga w1 x v ∧ plainV v = true) :
    Stp G s w (Ga.born s'.next (b, o1, e.z, ce) 0) (s'.new e) w1 := by
  have hn := h.sim.nx s'.next (Nat.le_refl _)
  have hE : Ext Ga w1 (Ga.born s'.next (b, o1, e.z, ce) 0) w1 := ext_born hn.1 (fun _ _ _ => rfl) _ _
  have himm : ∀ k o, (Ga.born s'.next (b, o1, e.z, ce) 0).imm k o → Ga.imm k o := by
    rintro k o (hi | ⟨rfl, h1, h2⟩)
    · exact hi
    · simp only at h1 h2; omega
  refine ⟨h.ext.trans hE, ⟨?_, ?_, ?_, ?_, ?_⟩, h.os, h.tape, h.output, h.size, ?_, h.soft, h.block, ?_, Nat.le_trans h.next (Nat.le_succ _), fun k o hk hi => h.immo k o hk (himm k o hi)⟩
  · intro g e' b' o0 sz ce' h1 h2
    rw [get_new] at h1
    change (if g = s'.next then _ else _) = _ at h2
    by_cases hg : g = s'.next
    · rw [if_pos hg] at h1 h2
      cases h1; cases h2
      refine ⟨rfl, hlen, by omega, hobj, fun i l hl => ?_, fun o ho => ?_, fun k hk => ?_⟩
      · obtain ⟨h3, h4⟩ := hr i l hl
        refine ⟨h3, fun j x hj => ?_⟩
        obtain ⟨v, h5, h6, h7⟩ := h4 j x hj
        exact ⟨v, h5, VR.ext hE x v h6, h7⟩
      · have := hi o (himm _ o ho)
        rw [hlw]; omega
      · rw [hlw] at hk; omega
    · rw [if_neg hg] at h1 h2
      exact (h.sim.ent g e' b' o0 sz ce' h1 h2).ext hE rfl (fun o ho => himm _ o ho)
  · intro g g' e1 e2 k o0 sz ce1 o0' sz' ce2 h1 h2 h3 h4
    rw [get_new] at h1 h2
    change (if g = s'.next then _ else _) = _ at h3
    change (if g' = s'.next then _ else _) = _ at h4
    by_cases hg : g = s'.next <;> by_cases hg' : g' = s'.next
    · rw [hg, hg']
    · rw [if_pos hg] at h1 h3
      rw [if_neg hg'] at h2 h4
      cases h3
      exact absurd ⟨g', e2, _, _, _, h2, h4⟩ hno
    · rw [if_neg hg] at h1 h3
      rw [if_pos hg'] at h2 h4
      cases h4
      exact absurd ⟨g, e1, _, _, _, h1, h3⟩ hno
    · rw [if_neg hg] at h1 h3
      rw [if_neg hg'] at h2 h4
      exact h.sim.inj g g' e1 e2 k _ _ _ _ _ _ h1 h2 h3 h4
  · intro g hg
    have hg' : s'.next + 1 ≤ g := hg
    have := h.sim.nx g (by omega)
    refine ⟨?_, ?_⟩
    · show (if g = s'.next then _ else Ga.loc g) = none
      rw [if_neg (by omega)]; exact this.1
    · rw [get_new, if_neg (by omega)]; exact this.2
  · intro k o hi
    exact h.sim.imm k o (himm k o hi)
  · intro k hk
    refine ⟨(h.sim.soft k hk).1, fun g e' b' o0 sz ce' h1 h2 => ?_⟩
    rw [get_new] at h1
    change (if g = s'.next then _ else _) = _ at h2
    by_cases hg : g = s'.next
    · rw [if_pos hg] at h2
      cases h2
      rintro rfl
      exact hso hk
    · rw [if_neg hg] at h1 h2
      exact (h.sim.soft k hk).2 g e' b' o0 sz ce' h1 h2
  · rintro k hk ⟨g, e', o0, sz, ce', h1, h2⟩
    rw [get_new] at h1
    change (if g = s'.next then _ else _) = _ at h2
    by_cases hg : g = s'.next
    · rw [if_pos hg] at h2
      cases h2
      omega
    · rw [if_neg hg] at h1 h2
      exact h.own k hk ⟨g, e', o0, sz, ce', h1, h2⟩
  · intro g hg hl
    obtain ⟨h1, h2⟩ := h.unb g hg hl
    have := h.next
    rw [get_new, if_neg (by omega)]
    refine ⟨h1, ?_⟩
    show (if g = s'.next then _ else Ga.loc g) = none
    rw [if_neg (by omega)]; exact h2
section
variable {N : List Nat} (h : Sim G s w) (k : Stp (G.inner s.heap N) ⟨[], 0⟩ w G1 s1 w1) (hN : ∀ g ∈ N, ∃ y, G.loc g = some y)
include h k hN
/-- Rows of one's own come back. -/
theorem back_rf {g o n : Nat} {c : Option Nat} {e : Ent} {r rs : List (List PV)} {x : Value} (hg : get s1.heap g = some e) (hp : part e o n = some r) (hlw : e.lw ≤ o) (hs : allSome (allSome (strip (del s1.heap g) depth)) r = some rs) (hv : VR G1 w1 (.rf g o n c) x) :
    ∃ G2, Stp G s w G2 ((⟨N.foldl freezeN s.heap, s.next⟩ : St).new ⟨e.z, rs, 0⟩) w1 ∧ VR G2 w1 (.rf s.next 0 n c) x ∧ Ext (G.outer s.heap N w.heap.size G1 (del s1.heap g)) w1 G2 w1 := by
  simp only [VR] at hv
  obtain ⟨b, o0, sz, ce, a, cap, hl, rfl, hn, hoc, hck, hcn, had, hsp⟩ := hv
  have he := k.sim.ent g e b o0 sz ce hg hl
  have hz := he.z
  subst hz
  have hb : w.heap.size ≤ b := by
    false_or_by_contra; rename_i hb
    exact no_own k (Nat.lt_of_not_le hb) ⟨g, e, _, _, _, hg, hl⟩
  have hH : ∀ k e, get (del s1.heap g) k = some e → get s1.heap k = some e := by
    intro k e h1
    rw [get_del] at h1
    split at h1
    · cases h1
    · exact h1
  obtain ⟨hp1, hp2⟩ := part_some hp
  obtain ⟨hs1, hs2⟩ := allSome_at hs
  have hrn : rs.length = n := by rw [hs1, hp2]; simp; omega
  have hst := outer_stp (H := del s1.heap g) h k hN hH
  obtain ⟨ca, t, hc1, hc2⟩ := he.obj
  have hmul : (ce - o) * e.z = ce * e.z - o * e.z := Nat.sub_mul _ _ _
  have hle : o * e.z ≤ ce * e.z := Nat.mul_le_mul_right _ (by omega)
  have hsn : (⟨N.foldl freezeN s.heap, s.next⟩ : St).next = s.next := rfl
  refine ⟨_, hst.adopt (e := ⟨e.z, rs, 0⟩) (b := b) (o1 := o0 + o * e.z) (ce := ce - o) hb ?_ ?_ ?_ rfl (by show rs.length ≤ _; omega) ⟨ca, t, hc1, by show o0 + o * e.z + (ce - o) * e.z ≤ _; omega⟩ ?_, ?_, ?_⟩
  · rintro ⟨g', e', o0', sz', ce', h1, h2⟩
    rw [get_freezes] at h1
    simp only [Option.map_eq_some_iff] at h1
    obtain ⟨e1, h1, _⟩ := h1
    have := (h.ent g' e1 b o0' sz' ce' h1 h2).lt
    omega
  · intro hs
    have := (h.soft b hs).1
    omega
  · rintro o' (hi | ⟨_, hi | ⟨g', e', o0', sz', ce', _, h1, h2, _⟩⟩)
    · obtain ⟨v, hv⟩ := (inner_sim h N).imm b o' hi
      have := cell_lt hv
      omega
    · have := he.imm o' hi
      have := Nat.mul_le_mul_right e.z hlw
      omega
    · have hgg := k.sim.inj g g' e e' b _ _ _ _ _ _ hg (hH g' e' h1) hl h2
      subst hgg
      rw [get_del, if_pos rfl] at h1
      cases h1
  · intro i l hi
    obtain ⟨l0, h5, h6⟩ := hs2 i l hi
    rw [hp2, List.getElem?_take] at h5
    split at h5
    · rw [List.getElem?_drop] at h5
      obtain ⟨h7, h8⟩ := he.rows (o + i) l0 h5
      obtain ⟨h9, h10⟩ := allSome_at h6
      refine ⟨by rw [h9]; exact h7, fun j q hq => ?_⟩
      obtain ⟨p, h11, h12⟩ := h10 j q hq
      obtain ⟨v, h13, h14, h15⟩ := h8 j p h11
      refine ⟨v, ?_, outer_vr k hH depth p q v h12 h14, h15⟩
      rw [← h13]
      have hmul : (o + i) * e.z = o * e.z + i * e.z := Nat.add_mul _ _ _
      congr 2
      show o0 + o * e.z + i * e.z + j = _
      omega
    · cases h5
  · simp only [VR]
    refine ⟨b, o0 + o * e.z, e.z, ce - o, a, cap, ?_, rfl, hn, by omega, hck, fun hc => by rw [hcn hc]; omega, fun hc => by rw [had hc]; simp, hsp⟩
    show (if s.next = s.next then _ else _) = _
    rw [if_pos rfl]
  · exact ext_born (G := G.outer s.heap N w.heap.size G1 (del s1.heap g)) (h.nx s.next (Nat.le_refl _)).1 (fun _ _ _ => rfl) _ _
omit h hN in
theorem back_sl {z : Nat} {r rs : List (List PV)} {c : Cap} {x : Value} (hs : allSome (allSome (strip s1.heap depth)) r = some rs) (hv : VR G1 w1 (.sl z r c) x) : VR (G.outer s.heap N w.heap.size G1 s1.heap) w1 (.sl z rs (.of c.get)) x := by
  have hH : ∀ g e, get s1.heap g = some e → get s1.heap g = some e := fun _ _ h => h
  simp only [VR] at hv ⊢
  have hml := (allSome_at hs).1
  have hcg : (Cap.of c.get).get = c.get := by cases c <;> rfl
  have hcm : ∀ k, (Cap.of c.get) ≠ .mine k := by intro k hk; cases c <;> cases hk
  rcases hv with ⟨rfl, e, hc, _⟩ | ⟨b, o, cap, e, h1, hc, _, h2⟩
  · refine .inl ⟨List.length_eq_zero_iff.1 (by simpa using hml), e, ?_, hcm⟩
    rw [hcg]; exact hc
  · refine .inr ⟨b, o, cap, by rw [hml]; exact e, by omega, by rw [hcg]; exact hc, fun k hk => absurd hk (hcm k), ?_⟩
    exact rw_some (fun l _ x _ y u h3 h4 => outer_vr k hH depth x y u h3 h4) (fun _ _ hi => outer_imm k hi) hs h2
/-- What comes back where rows of one's own are asked for. -/
theorem back_own {v v' : PV} {s2 : St} {x : Value} (hs : ownR s1.heap ⟨N.foldl freezeN s.heap, s.next⟩ v = some (v', s2)) (hv : VR G1 w1 v x) : ∃ G2, Stp G s w G2 s2 w1 ∧ VR G2 w1 v' x := by
  have hH : ∀ g e, get s1.heap g = some e → get s1.heap g = some e := fun _ _ h => h
  unfold ownR at hs
  split at hs
  · rename_i g o n c
    split at hs
    · rename_i e hg
      split at hs
      · rename_i r hp
        split at hs
        · rename_i hlw
          split at hs
          · rename_i rs hr
            cases hs
            obtain ⟨G2, h1, h2, _⟩ := back_rf h k hN hg hp hlw hr hv
            exact ⟨G2, h1, h2⟩
          · cases hs
        · cases hs
      · cases hs
    · cases hs
  · simp only [Option.map_eq_some_iff, Prod.mk.injEq] at hs
    obtain ⟨rs, hr, rfl, rfl⟩ := hs
    exact ⟨_, outer_stp h k hN hH, back_sl k hr hv⟩
  · rename_i g o n c l
    split at hs
    · rename_i e hg
      split at hs
      · rename_i r hp
        split at hs
        · rename_i hlw
          split at hs
          · rename_i rs ls hr hl
            cases hs
            simp only [VR, VRl] at hv
            obtain ⟨_, rfl, v1, t, rfl, hv1, hv2⟩ := hv
            have hH' : ∀ k e, get (del s1.heap g) k = some e → get s1.heap k = some e := by
              intro k e h1
              rw [get_del] at h1
              split at h1
              · cases h1
              · exact h1
            have hv1' : VR G1 w1 (.rf g o n c) v1 := by simp only [VR]; exact hv1
            obtain ⟨G2, h1, h2, h3⟩ := back_rf h k hN hg hp hlw hr hv1'
            refine ⟨G2, h1, ?_⟩
            have h4 := vrl_some (G' := G.outer s.heap N w.heap.size G1 (del s1.heap g)) (w' := w1) (fun x _ y u h3 h4 => outer_vr k hH' depth x y u h3 h4) hl hv2
            rw [VR]
            refine ⟨v1 :: t, rfl, ?_⟩
            rw [VRl]
            exact ⟨v1, t, rfl, h2, VRl.ext h3 _ _ h4⟩
          · cases hs
        · cases hs
      · cases hs
    · cases hs
  · rename_i z r c l
    split at hs
    · rename_i rs ls hr hl
      cases hs
      rw [VR] at hv
      obtain ⟨_, rfl, hv⟩ := hv
      rw [VRl] at hv
      obtain ⟨v1, t, rfl, hv1, hv2⟩ := hv
      refine ⟨_, outer_stp h k hN hH, ?_⟩
      have h4 := vrl_some (G' := G.outer s.heap N w.heap.size G1 s1.heap) (w' := w1) (fun x _ y u h3 h4 => outer_vr k hH depth x y u h3 h4) hl hv2
      rw [VR]
      refine ⟨v1 :: t, rfl, ?_⟩
      rw [VRl]
      exact ⟨v1, t, rfl, back_sl k hr hv1, h4⟩
    · cases hs
  · simp only [Option.map_eq_some_iff, Prod.mk.injEq] at hs
    obtain ⟨y, hr, rfl, rfl⟩ := hs
    exact ⟨_, outer_stp h k hN hH, outer_vr k hH depth v y x hr hv⟩
end
end Go.Proofs.Ythfplgfpodmphaa.VE
