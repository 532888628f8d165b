/- The evaluator by value: what it tells, the model does. -/
import Derived.Test.YthfplgfpodmphaaVk
namespace Go.Proofs.Ythfplgfpodmphaa.VE
variable {G G' : Gh} {w w' : World} {s s' : St} {P : Program}
theorem vr_made {n sz : Nat} {l : List PV} {c : Array Value} {t : TypeId} {fz : Nat × Nat} (hl : l.length = n * sz) (hc : n * sz ≤ c.size) (hS : Sim G s w) (hr : VRl G w l (c.toList.take (n * sz))) (hp : ∀ u ∈ c.toList.take (n * sz), plainV u = true)
    {cap : Nat} (hcap : n ≤ cap) {k : Cap} (hk : capOk k.get cap) :
    VR (G.made w.heap.size c.size) (w.alloc (.cells c t fz)) (.sl sz (chunk sz n l) k) (.slice (some ⟨w.heap.size, 0, none⟩) n cap) := by
  simp only [VR]
  refine .inr ⟨w.heap.size, 0, cap, by rw [chunk_len], by rw [chunk_len]; exact hcap, hk, fun _ _ => .inr rfl, ?_⟩
  exact made_rw hl (VRl.ext (ext_alloc hS c t fz) _ _ hr) hp (fun o => alloc_cell w c t o fz) (fun o ho => .inr ⟨rfl, by omega⟩)
theorem chunk_flat (sz : Nat) (r : List (List PV)) (h : ∀ x ∈ r, x.length = sz) : chunk sz r.length r.flatten = r := by
  induction r with
  | nil => rfl
  | cons x r ih =>
    have hx := h x (by simp)
    simp only [List.length_cons, chunk, List.flatten_cons]
    rw [← hx, List.take_left, List.drop_left, hx, ih (fun y hy => h y (by simp [hy]))]
theorem buildSlice_ok {t e : TypeId} {n : Nat} {parts : Array (Nat × Operand)} {z l : List PV} {ρ : Operand → PV} {ρ' : Operand → Value} (hρ : ∀ x, VR G w (ρ x) (ρ' x)) (hS : Sim G s w)
    (hu : P.underlying t = some (.slice e)) (hz : zeroL P e = some z) (h1 : ¬ n * P.cellsOf e > 2 ^ 24) (h2 : P.cellsOf e ≠ 0) (h3 : z.length = P.cellsOf e) (h4 : ¬ (n = 0 ∧ parts.size ≠ 0))
    (h : fillP (fun i => some (i * P.cellsOf e, P.cellsOf e)) ((List.replicate n z).flatten) (partsOf ρ parts) = some l) :
    ∃ y w' G', (Instr.buildSlice t n (parts.map fun (i, x) => (i, ρ' x))).run P w = .ok y w' ∧ Stp G s w G' s w' ∧ VR G' w' (.sl (P.cellsOf e) (chunk (P.cellsOf e) n l) (.mine n)) y := by
  obtain ⟨i, v, hi, hzv, hv1, hv2⟩ := zero_ok hz w G
  have hsz : i.size = P.cellsOf e := by simp [Program.cellsOf, hi]
  have hvl := vrl_len _ _ hv1
  simp only [Array.length_toList] at hvl
  obtain ⟨hlen, hps⟩ := parts_ok hρ parts
  have hrl : ((List.replicate n z).flatten).length = n * P.cellsOf e := by simp [h3]
  by_cases hn : n = 0
  · subst hn
    have hp0 : parts = #[] := by
      have : parts.size = 0 := by false_or_by_contra; rename_i hh; exact h4 ⟨rfl, hh⟩
      exact Array.size_eq_zero_iff.1 this
    subst hp0
    have hl0 : l = [] := by simpa [partsOf, fillP] using h.symm
    subst hl0
    refine ⟨.slice (some ⟨w.heap.size, 0, none⟩) 0 0, w.alloc (.cells #[] e), _, ?_, Stp.made hS #[] e, ?_⟩
    · simp [Instr.buildSlice, run_underlying hu, run_sizeOf hi, Instr.fill, newRow, Array.range_zero']
    · exact vr_made (by simp) (by simp) hS (by simp [VRl]) (by simp) (Nat.le_refl _) (by simp [capOk, Cap.get])
  · have hbase : VRl G w ((List.replicate n z).flatten) ((Array.range (n * v.cells.size)).map (v.cells[· % v.cells.size]!)).toList := by
      rw [zeros_eq v n (by omega)]
      exact vrl_rep hv1 n
    have hbp : ∀ u ∈ ((Array.range (n * v.cells.size)).map (v.cells[· % v.cells.size]!)).toList, plainV u = true := by
      rw [zeros_eq v n (by omega)]
      exact fun u hu => hv2 u (mem_rep hu)
    obtain ⟨cs, g1, g2, g3, g4⟩ := fill_ok _ _ _ _ _ h hbase hbp hlen hps
    have hcl := vrl_len _ _ g2
    simp only [Array.length_toList] at hcl
    have hpos : ¬ n * i.size = 0 := by
      rw [hsz]
      exact Nat.mul_ne_zero hn h2
    refine ⟨_, _, _, run_buildSlice w t e n _ cs i v hu hi hzv (by rw [hsz]; exact h1) hpos ?_, Stp.made hS cs e, ?_⟩
    · rw [hsz]
      have : n * P.cellsOf e = n * v.cells.size := by rw [← hvl, h3]
      rw [this]
      exact g1
    · have hln : l.length = n * P.cellsOf e := by rw [g4, hrl]
      have htk : cs.toList.take (n * P.cellsOf e) = cs.toList := List.take_of_length_le (by simp; omega)
      exact vr_made hln (by omega) hS (by rw [htk]; exact g2) (by rw [htk]; exact g3) (Nat.le_refl _) (by simp [capOk, Cap.get])
theorem makeSlice_ok {t e : TypeId} {n c : Int} {kn kc : IntKind} {z : List PV} (hu : P.underlying t = some (.slice e)) (hz : zeroL P e = some z) (h0 : 0 ≤ n) (h1 : n ≤ c) (h2 : room c.toNat = true) (h3 : z.length = P.cellsOf e) (h4 : P.cellsOf e ≠ 0) (h5 : P.bytesOf e ≤ 2 ^ 16) :
    ∃ cs : Array Value, (Instr.makeSlice t (.int kn n) (.int kc c)).run P w = .ok (.slice (some ⟨w.heap.size, 0, none⟩) n.toNat c.toNat) (w.alloc (.cells cs e)) ∧ cs.size = c.toNat * P.cellsOf e ∧
      VRl G w ((List.replicate c.toNat z).flatten) cs.toList ∧ ∀ u ∈ cs.toList, plainV u = true := by
  obtain ⟨i, v, hi, hzv, hv1, hv2⟩ := zero_ok hz w G
  have hsz : i.size = P.cellsOf e := by simp [Program.cellsOf, hi]
  have hby : i.bytes = P.bytesOf e := by simp [Program.bytesOf, hi]
  have hvl := vrl_len _ _ hv1
  simp only [Array.length_toList] at hvl
  have hroom : c.toNat ≤ 2 ^ 30 := by simpa [room] using h2
  have hb : (i.bytes : Int) * c ≤ 281474976710656 := by
    have : i.bytes * c.toNat ≤ 2 ^ 16 * 2 ^ 30 := Nat.mul_le_mul (by omega) hroom
    have hc : c = (c.toNat : Int) := by omega
    rw [hc]
    have h' : i.bytes * c.toNat ≤ 281474976710656 := Nat.le_trans this (by decide)
    rw [← Int.natCast_mul]
    exact Int.ofNat_le.2 h'
  have hrun := run_make (P := P) w t e i v hu hi hzv kn kc n c h0 h1 hb (by omega)
  have hcs : (madeCells v.cells (c.toNat * i.size)).toList = (List.replicate c.toNat v.cells.toList).flatten := by
    rw [← zeros_eq v c.toNat (by omega), hsz, ← h3, hvl]
    rfl
  refine ⟨_, hrun, by rw [size_madeCells, hsz], ?_, ?_⟩
  · rw [hcs]; exact vrl_rep hv1 _
  · rw [hcs]; exact fun u hu => hv2 u (mem_rep hu)
theorem flat_len1 (l : List UInt8) : ((l.map byteRow).flatten).length = l.length := by
  induction l with
  | nil => rfl
  | cons b l ih => simp only [List.map_cons, List.flatten_cons, List.length_append, ih, byteRow, List.length_cons, List.length_nil]; omega
theorem strBytes_ok {src dst e : TypeId} {st : ByteArray} (hS : Sim G s w) (hs : P.underlying src = some .string) (hd : P.underlying dst = some (.slice e)) (he : P.underlying e = some (.int .u8)) :
    ∃ y w' G', (convert src dst (.string st)).run P w = .ok y w' ∧ Stp G s w G' s w' ∧ VR G' w' (.sl 1 (st.data.toList.map byteRow) .any) y := by
  have hrun := run_bytes_of_string (P := P) w src dst e st hs hd he
  generalize hcs : bytesRow st (grownCap w st.size 0 e) = cs at hrun
  have hS1 : Sim G s w.drew := (Stp.drew hS).sim
  refine ⟨_, _, _, hrun, (Stp.drew hS).trans (Stp.made hS1 cs e (cs.size, cs.size + 1)), ?_⟩
  have hflat : ∀ l : List UInt8, VRl G w.drew ((l.map byteRow).flatten) (l.map fun b => Value.int .u8 b.toNat) := by
    intro l
    induction l with
    | nil => simp [VRl]
    | cons b l ih =>
      simp only [List.map_cons, List.flatten_cons, byteRow, List.cons_append, List.nil_append, VRl, VR]
      exact ⟨_, _, rfl, rfl, ih⟩
  have hlen : (st.data.toList.map byteRow).length = st.size := by simp
  have htk : cs.toList.take (st.size * 1) = st.data.toList.map fun b => Value.int .u8 b.toNat := by
    rw [← hcs]
    simp [bytesRow]
  have hg := grownCap_ge w st.size 0 e
  have := vr_made (G := G) (w := w.drew) (n := st.size) (sz := 1) (l := (st.data.toList.map byteRow).flatten) (c := cs) (t := e) (fz := (cs.size, cs.size + 1)) (by rw [flat_len1]; simp) (by rw [← hcs]; simp [bytesRow]) hS1
    (by rw [htk]; exact hflat _) (by rw [htk]; simp [plainV]) (cap := grownCap w st.size 0 e) hg (k := .any) (fun k h => by cases h)
  have hch := chunk_flat 1 (st.data.toList.map byteRow) (by simp [byteRow])
  rw [hlen] at hch
  rw [hch] at this
  exact this
end Go.Proofs.Ythfplgfpodmphaa.VE
