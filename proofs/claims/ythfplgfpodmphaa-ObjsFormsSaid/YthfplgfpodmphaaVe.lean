/- The evaluator by value: what it tells, the model does. -/
import Derived.Test.YthfplgfpodmphaaVd
namespace Go.Proofs.Ythfplgfpodmphaa.VE
variable {G G' : Gh} {w w' : World} {s s' : St}
/-- What is made lies in a block of its own. -/
structure EntOk (G : Gh) (w : World) (e : Ent) (b o0 sz ce : Nat) : Prop where
  z : e.z = sz
  len : e.r.length ≤ ce
  lw : e.lw ≤ e.r.length
  obj : ∃ c t, w.heap[b]? = some (.cells c t (0, 0)) ∧ o0 + ce * sz ≤ c.size
  rows : ∀ i l, e.r[i]? = some l → l.length = sz ∧ ∀ j x, l[j]? = some x → ∃ v, w.cell? ⟨b, o0 + i * sz + j, none⟩ = some v ∧ VR G w x v ∧ plainV v = true
  imm : ∀ o, G.imm b o → o < o0 + e.lw * sz
  fz : ∀ k, k < e.lw * sz → G.imm b (o0 + k)
structure Sim (G : Gh) (s : St) (w : World) : Prop where
  ent : ∀ g e b o0 sz ce, get s.heap g = some e → G.loc g = some (b, o0, sz, ce) → EntOk G w e b o0 sz ce
  inj : ∀ g g' e e' b o0 sz ce o0' sz' ce', get s.heap g = some e → get s.heap g' = some e' → G.loc g = some (b, o0, sz, ce) → G.loc g' = some (b, o0', sz', ce') → g = g'
  nx : ∀ g, s.next ≤ g → G.loc g = none ∧ get s.heap g = none
  imm : ∀ b o, G.imm b o → ∃ v, w.cell? ⟨b, o, none⟩ = some v
  soft : ∀ b, G.soft b → b < w.heap.size ∧ ∀ g e b' o0 sz ce, get s.heap g = some e → G.loc g = some (b', o0, sz, ce) → b' ≠ b
def Owned (G : Gh) (s : St) (b : Nat) : Prop := ∃ g e o0 sz ce, get s.heap g = some e ∧ G.loc g = some (b, o0, sz, ce)
/-- A step: what is known stays; of what was there only what is owned, or soft, may have turned. -/
structure Stp (G : Gh) (s : St) (w : World) (G' : Gh) (s' : St) (w' : World) : Prop where
  ext : Ext G w G' w'
  sim : Sim G' s' w'
  os : w'.os = w.os
  tape : w'.tape = w.tape
  output : w'.output = w.output
  size : w.heap.size ≤ w'.heap.size
  own : ∀ k, k < w.heap.size → Owned G' s' k → Owned G s k
  soft : ∀ k, k < w.heap.size → G'.soft k → G.soft k
  block : ∀ k, k < w.heap.size → ¬ Owned G s k → ¬ G.soft k → w'.heap[k]? = w.heap[k]?
  unb : ∀ g, g < s.next → G.loc g = none → get s'.heap g = get s.heap g ∧ G'.loc g = none
  next : s.next ≤ s'.next
  immo : ∀ b o, b < w.heap.size → G'.imm b o → G.imm b o ∨ Owned G s b
theorem Stp.refl (h : Sim G s w) : Stp G s w G s w :=
  ⟨.refl, h, rfl, rfl, rfl, Nat.le_refl _, fun _ _ h => h, fun _ _ h => h, fun _ _ _ _ => rfl, fun _ _ h => ⟨rfl, h⟩, Nat.le_refl _, fun _ _ _ h => .inl h⟩
theorem Stp.trans {G1 G2 G3 : Gh} {s1 s2 s3 : St} {w1 w2 w3 : World} (h : Stp G1 s1 w1 G2 s2 w2) (k : Stp G2 s2 w2 G3 s3 w3) : Stp G1 s1 w1 G3 s3 w3 where
  ext := h.ext.trans k.ext
  sim := k.sim
  os := k.os.trans h.os
  tape := k.tape.trans h.tape
  output := k.output.trans h.output
  size := Nat.le_trans h.size k.size
  own b hb ho := h.own b hb (k.own b (Nat.lt_of_lt_of_le hb h.size) ho)
  soft b hb ho := h.soft b hb (k.soft b (Nat.lt_of_lt_of_le hb h.size) ho)
  block b hb h1 h2 := (k.block b (Nat.lt_of_lt_of_le hb h.size) (fun h3 => h1 (h.own b hb h3)) (fun h3 => h2 (h.soft b hb h3))).trans (h.block b hb h1 h2)
  unb g hg hn :=
    let ⟨e1, e2⟩ := h.unb g hg hn
    let ⟨e3, e4⟩ := k.unb g (Nat.lt_of_lt_of_le hg h.next) e2
    ⟨e3.trans e1, e4⟩
  next := Nat.le_trans h.next k.next
  immo b o hb hi := (k.immo b o (Nat.lt_of_lt_of_le hb h.size) hi).elim (fun hi => h.immo b o hb hi) (fun ho => .inr (h.own b hb ho))
theorem get_new (s : St) (e : Ent) (g : Nat) : get (s.new e).heap g = if g = s.next then some e else get s.heap g := by
  simp only [St.new, get]
  by_cases h : s.next = g
  · simp [h]
  · rw [if_neg h, if_neg (fun e => h e.symm)]
theorem get_upd (h : Hp) (g : Nat) (e : Ent) (k : Nat) : get (upd h g e) k = if k = g then (get h g).map fun _ => e else get h k := by
  induction h with
  | nil => simp [upd, get]
  | cons x r ih =>
    obtain ⟨j, y⟩ := x
    simp only [upd, get]
    by_cases h1 : j = g
    · subst h1
      simp only [if_true, get]
      by_cases h2 : j = k
      · simp [h2]
      · rw [if_neg h2, if_neg h2, if_neg (fun e => h2 e.symm)]
    · rw [if_neg h1]
      simp only [get, ih]
      by_cases h2 : j = k
      · subst h2; simp [h1]
      · simp [h2, h1]
theorem get_del (h : Hp) (g : Nat) (k : Nat) : get (del h g) k = if k = g then none else get h k := by
  induction h with
  | nil => simp [del, get]
  | cons x r ih =>
    obtain ⟨j, y⟩ := x
    simp only [del, get]
    by_cases h1 : j = g
    · subst h1
      rw [if_pos rfl, ih]
      by_cases h2 : j = k
      · simp [h2]
      · rw [if_neg h2, if_neg (fun e => h2 e.symm)]
    · rw [if_neg h1]
      simp only [get, ih]
      by_cases h2 : j = k
      · subst h2; simp [h1]
      · simp [h2]
theorem part_some {e : Ent} {o n : Nat} {r : List (List PV)} (h : part e o n = some r) : o + n ≤ e.r.length ∧ r = (e.r.drop o).take n := by
  unfold part at h; split at h
  · cases h; exact ⟨by assumption, rfl⟩
  · cases h
end Go.Proofs.Ythfplgfpodmphaa.VE
