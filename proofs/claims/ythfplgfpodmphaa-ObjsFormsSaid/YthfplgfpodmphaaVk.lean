/- The evaluator by value: what it tells, the model does. -/
import Derived.Test.YthfplgfpodmphaaVj
namespace Go.Proofs.Ythfplgfpodmphaa.VE
variable {G G' : Gh} {w w' : World} {s s' : St} {P : Program}
theorem setL_len {l vs : List PV} {o : Nat} (h : o + vs.length ≤ l.length) : (setL l o vs).length = l.length := by
  simp [setL]; omega
theorem foldl_set (vs : List Value) : ∀ (cs : Array Value) (o k : Nat), o + k + vs.length ≤ cs.size →
    ((vs.zipIdx k).foldl (fun cs x => cs.setIfInBounds (o + x.2) x.1) cs).toList = cs.toList.take (o + k) ++ vs ++ cs.toList.drop (o + k + vs.length) := by
  induction vs with
  | nil => intro cs o k _; simp
  | cons v vs ih =>
    intro cs o k hk
    simp only [List.zipIdx_cons, List.foldl_cons]
    rw [ih _ o (k + 1) (by simp at hk ⊢; omega)]
    simp only [List.length_cons] at hk ⊢
    simp only [Array.toList_setIfInBounds]
    have h1 : o + k < cs.toList.length := by simp; omega
    rw [show o + (k + 1) = (o + k) + 1 from by omega]
    rw [List.take_set, List.take_succ_eq_append_getElem h1, List.drop_set_of_lt (by omega)]
    rw [List.set_append_right _ _ (by simp; omega)]
    simp only [List.length_take]
    rw [show o + k - min (o + k) cs.toList.length = 0 from by omega]
    simp only [List.set_cons_zero, List.append_assoc, List.cons_append, List.nil_append]
    rw [show o + k + 1 + vs.length = o + k + (vs.length + 1) from by omega]
theorem zipIdx_fold (v : Value) (cs : Array Value) (o : Nat) (h : o + v.cells.size ≤ cs.size) :
    (v.cells.zipIdx.foldl (fun cs x => cs.setIfInBounds (o + x.2) x.1) cs).toList = cs.toList.take o ++ v.cells.toList ++ cs.toList.drop (o + v.cells.size) := by
  rw [← Array.foldl_toList, Array.toList_zipIdx]
  have := foldl_set v.cells.toList cs o 0 (by simpa using h)
  simpa using this
theorem fill_ok {place : Nat → Option (Nat × Nat)} : ∀ (ps : List (Nat × PV)) (qs : List (Nat × Value)) (l l' : List PV) (cs : Array Value),
    fillP place l ps = some l' → VRl G w l cs.toList → (∀ u ∈ cs.toList, plainV u = true) → ps.length = qs.length → (∀ (i : Nat) (p : Nat × PV) (q : Nat × Value), ps[i]? = some p → qs[i]? = some q → p.1 = q.1 ∧ VR G w p.2 q.2) →
    ∃ cs', Instr.fill place cs qs = some cs' ∧ VRl G w l' cs'.toList ∧ (∀ u ∈ cs'.toList, plainV u = true) ∧ l'.length = l.length
  | [], [], l, l', cs, h, hl, hp, _, _ => by simp only [fillP, Option.some.injEq] at h; subst h; exact ⟨cs, rfl, hl, hp, rfl⟩
  | [], q :: qs, l, l', cs, h, hl, hp, hlen, _ => by simp at hlen
  | p :: ps, [], l, l', cs, h, hl, hp, hlen, _ => by simp at hlen
  | (i, x) :: ps, (i', v) :: qs, l, l', cs, h, hl, hp, hlen, hr => by
    obtain ⟨hi, hx⟩ := hr 0 _ _ rfl rfl
    simp only at hi hx
    subst hi
    simp only [fillP] at h
    split at h
    · cases h
    · rename_i off size hpl
      split at h
      · rename_i vs hlv
        split at h
        · cases h
        · rename_i hc
          obtain ⟨h1, h2⟩ := vr_leaves hlv hx
          have hll := vrl_len _ _ hl
          have hvl := vrl_len _ _ h1
          simp only [Array.length_toList] at hll hvl
          have hsz : v.cells.size = size ∧ off + v.cells.size ≤ cs.size := by omega
          have hnew : VRl G w (setL l off vs) (v.cells.zipIdx.foldl (fun cs x => cs.setIfInBounds (off + x.2) x.1) cs).toList := by
            rw [zipIdx_fold v cs off hsz.2]
            unfold setL
            rw [hvl]
            exact vrl_append (vrl_append (vrl_take _ hl) h1) (vrl_drop _ hl)
          have hplain : ∀ u ∈ (v.cells.zipIdx.foldl (fun cs x => cs.setIfInBounds (off + x.2) x.1) cs).toList, plainV u = true := by
            rw [zipIdx_fold v cs off hsz.2]
            intro u hu
            rcases List.mem_append.1 hu with hu | hu
            · rcases List.mem_append.1 hu with hu | hu
              · exact hp u (List.mem_of_mem_take hu)
              · exact h2 u hu
            · exact hp u (List.mem_of_mem_drop hu)
          obtain ⟨cs', h3, h4, h5, h6⟩ := fill_ok ps qs _ l' _ h hnew hplain (by simpa using hlen) (fun k p q e1 e2 => hr (k + 1) p q e1 e2)
          refine ⟨cs', ?_, h4, h5, by rw [h6, setL_len (by omega)]⟩
          simp only [Instr.fill, hpl]
          rw [if_neg (by simp; omega)]
          exact h3
      · cases h
theorem zero_ok {t : TypeId} {z : List PV} (h : zeroL P t = some z) (w : World) (G : Gh) : ∃ i v, P.info? t = some i ∧ i.zero = some v ∧ VRl G w z v.cells.toList ∧ (∀ u ∈ v.cells.toList, plainV u = true) := by
  unfold zeroL at h
  simp only [Option.bind_eq_some_iff] at h
  obtain ⟨v, ⟨i, hi, hz⟩, hl⟩ := h
  obtain ⟨h1, h2⟩ := vr_leaves (G := G) (w := w) hl (vr_ofVal v)
  exact ⟨i, v, hi, hz, h1, h2⟩
theorem parts_ok {ρ : Operand → PV} {ρ' : Operand → Value} (hρ : ∀ x, VR G w (ρ x) (ρ' x)) (parts : Array (Nat × Operand)) :
    (partsOf ρ parts).length = (parts.map fun (i, x) => (i, ρ' x)).toList.length ∧ ∀ (i : Nat) (p : Nat × PV) (q : Nat × Value), (partsOf ρ parts)[i]? = some p → (parts.map fun (i, x) => (i, ρ' x)).toList[i]? = some q → p.1 = q.1 ∧ VR G w p.2 q.2 := by
  refine ⟨by simp [partsOf], fun i p q h1 h2 => ?_⟩
  simp only [partsOf, List.getElem?_map, Option.map_eq_some_iff] at h1
  simp only [Array.toList_map, List.getElem?_map, Option.map_eq_some_iff] at h2
  obtain ⟨a, ha, rfl⟩ := h1
  obtain ⟨b, hb, rfl⟩ := h2
  rw [ha] at hb
  cases hb
  exact ⟨rfl, hρ a.2⟩
theorem build_ok {t : TypeId} {parts : Array (Nat × Operand)} {z l : List PV} {f : Nat → Option (Nat × Nat)} {ρ : Operand → PV} {ρ' : Operand → Value} (hρ : ∀ x, VR G w (ρ x) (ρ' x))
    (hz : zeroL P t = some z) (hf : placesOf P t = some f) (h : fillP f z (partsOf ρ parts) = some l) :
    ∃ y, (Instr.build t (parts.map fun (i, x) => (i, ρ' x))).run P w = .ok y w ∧ VR G w (.agg l) y := by
  obtain ⟨i, v, hi, hzv, h1, h2⟩ := zero_ok hz w G
  obtain ⟨hlen, hps⟩ := parts_ok hρ parts
  obtain ⟨cs, h3, h4, h5, _⟩ := fill_ok _ _ _ _ _ h h1 h2 hlen hps
  refine ⟨.agg cs, run_build w t _ cs ?_, ?_⟩
  · unfold placesOf at hf
    unfold Program.built
    rw [hi]
    cases hu : P.underlying t with
    | none => rw [hu] at hf; cases hf
    | some d =>
      rw [hu] at hf
      cases d <;> simp only [reduceCtorEq, Option.map_eq_some_iff] at hf
      · obtain ⟨ie, he, rfl⟩ := hf
        simp only [hzv, he]
        exact h3
      · obtain ⟨pl, he, rfl⟩ := hf
        simp only [hzv, he]
        exact h3
  · simp only [VR]
    exact ⟨cs.toList, by simp, h4, h5⟩
theorem flat_rep (zs : List Value) (hz : 0 < zs.length) : ∀ (n i : Nat), ((List.replicate n zs).flatten)[i]? = if i < n * zs.length then zs[i % zs.length]? else none
  | 0, i => by simp
  | n + 1, i => by
    rw [List.replicate_succ, List.flatten_cons, List.getElem?_append]
    by_cases h : i < zs.length
    · rw [if_pos h, if_pos (by rw [Nat.add_mul]; omega), Nat.mod_eq_of_lt h]
    · rw [if_neg h, flat_rep zs hz n (i - zs.length)]
      have : (i - zs.length) % zs.length = i % zs.length := by rw [← Nat.mod_eq_sub_mod (by omega)]
      rw [this]
      by_cases h2 : i - zs.length < n * zs.length
      · rw [if_pos h2, if_pos (by rw [Nat.add_mul]; omega)]
      · rw [if_neg h2, if_neg (by rw [Nat.add_mul]; omega)]
theorem zeros_eq (v : Value) (n : Nat) (hz : 0 < v.cells.size) : ((Array.range (n * v.cells.size)).map (v.cells[· % v.cells.size]!)).toList = (List.replicate n v.cells.toList).flatten := by
  apply List.ext_getElem?
  intro i
  rw [flat_rep _ (by simpa using hz)]
  simp only [Array.toList_map, Array.toList_range, List.getElem?_map, Array.length_toList]
  by_cases h : i < n * v.cells.size
  · have hm : i % v.cells.size < v.cells.size := Nat.mod_lt _ hz
    rw [if_pos h, List.getElem?_range h]
    simp [hm]
  · rw [if_neg h, List.getElem?_eq_none (by simp; omega)]
    rfl
theorem vrl_rep {z : List PV} {us : List Value} (h : VRl G w z us) : ∀ n, VRl G w ((List.replicate n z).flatten) ((List.replicate n us).flatten)
  | 0 => by simp [VRl]
  | n + 1 => by
    rw [List.replicate_succ, List.flatten_cons, List.replicate_succ, List.flatten_cons]
    exact vrl_append h (vrl_rep h n)
theorem mem_rep {us : List Value} {n : Nat} {u : Value} (h : u ∈ (List.replicate n us).flatten) : u ∈ us := by
  obtain ⟨l, hl, hu⟩ := List.mem_flatten.1 h
  rw [List.eq_of_mem_replicate hl] at hu
  exact hu
theorem chunk_at (sz : Nat) : ∀ (n : Nat) (l : List PV) (i : Nat) (x : List PV), (chunk sz n l)[i]? = some x → x = (l.drop (i * sz)).take sz ∧ i < n
  | 0, l, i, x, h => by simp [chunk] at h
  | n + 1, l, i, x, h => by
    cases i with
    | zero => simp [chunk] at h; subst h; simp
    | succ i =>
      have := chunk_at sz n (l.drop sz) i x (by simpa [chunk] using h)
      rw [List.drop_drop] at this
      refine ⟨?_, by omega⟩
      rw [this.1, Nat.add_mul]
      congr 2
      omega
theorem chunk_len (sz : Nat) : ∀ (n : Nat) (l : List PV), (chunk sz n l).length = n
  | 0, l => rfl
  | n + 1, l => by simp [chunk, chunk_len sz n]
/-- Rows of a new block that nobody writes. -/
theorem made_rw {n sz : Nat} {l : List PV} {c : Array Value} (hl : l.length = n * sz) (hr : VRl G w l (c.toList.take (n * sz))) (hp : ∀ u ∈ c.toList.take (n * sz), plainV u = true) {b : Nat}
    (hc : ∀ o, w.cell? ⟨b, o, none⟩ = c[o]?) (hi : ∀ o, o < n * sz → G.imm b o) : Rw G w b sz 0 (chunk sz n l) := by
  rw [rw_iff]
  intro i x hx
  obtain ⟨rfl, hin⟩ := chunk_at sz n l i x hx
  have hle : i * sz + sz ≤ n * sz := by
    have : (i + 1) * sz ≤ n * sz := Nat.mul_le_mul_right _ hin
    rw [Nat.add_mul] at this; omega
  refine ⟨by simp; omega, ?_⟩
  rw [cl_iff]
  intro j y hj
  rw [List.getElem?_take] at hj
  split at hj
  · rw [List.getElem?_drop] at hj
    obtain ⟨v, h1, h2⟩ := vrl_at _ _ hr _ _ hj
    have hv := hp v (List.mem_of_getElem? h1)
    rw [List.getElem?_take] at h1
    split at h1
    · refine ⟨v, ?_, h2, hv, hi _ (by omega)⟩
      rw [hc, Nat.zero_add]
      simpa using h1
    · cases h1
  · cases hj
end Go.Proofs.Ythfplgfpodmphaa.VE
