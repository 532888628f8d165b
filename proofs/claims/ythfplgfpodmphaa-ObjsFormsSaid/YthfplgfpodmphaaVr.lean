/- The evaluator by value: what it tells, the model does. -/
import Derived.Test.YthfplgfpodmphaaVq
namespace Go.Proofs.Ythfplgfpodmphaa.VE
variable {G G' : Gh} {w w' : World} {s s' : St} {P : Program}
theorem src_take {z m : Nat} {r : List (List PV)} {u : Value} {vs : List Value} (hm : m ≤ r.length) (h3 : vs.length = r.length * z)
    (h : (∃ b o c, u = .slice (some ⟨b, o, none⟩) r.length c ∧ ∀ j v, vs[j]? = some v → w.cell? ⟨b, o + j, none⟩ = some v) ∨ (u = .slice none 0 0 ∧ r = []) ∨ (∃ a c, u = .slice (some a) 0 c ∧ r = []) ∨
        ∃ st : ByteArray, u = .string st ∧ z = 1 ∧ r.length = st.size ∧ vs = st.data.toList.map fun b => Value.int .u8 b.toNat) :
    (Builtin.firstCells z m u).run P w = .ok (vs.take (m * z)).toArray w := by
  have hmz : m * z ≤ r.length * z := Nat.mul_le_mul_right _ hm
  rcases h with ⟨b, o, c, rfl, hc⟩ | ⟨rfl, rfl⟩ | ⟨a, c, rfl, rfl⟩ | ⟨st, rfl, rfl, hl, rfl⟩
  · exact run_firstCells_some (P := P) w z m ⟨b, o, none⟩ r.length c (vs.take (m * z)) (by simp; omega) (fun j v hj => by
      rw [add_off]
      rw [List.getElem?_take] at hj
      split at hj
      · exact hc j v hj
      · cases hj)
  · have h0 : m = 0 := by simpa using hm
    subst h0
    simp [Builtin.firstCells]
  · have h0 : m = 0 := by simpa using hm
    subst h0
    simp [Builtin.firstCells, loadCells, loadCellsFrom]
  · have e : st.extract 0 m = ⟨(st.data.toList.take m).toArray⟩ := by
      obtain ⟨d⟩ := st
      have h1 := ByteArray.extract_mk d.toList 0 m
      simp only [List.drop_zero, Nat.sub_zero] at h1
      exact h1
    simp only [Builtin.firstCells, Sem.run_pure, Result.ok.injEq, and_true]
    rw [e, Nat.mul_one]
    apply Array.ext'
    simp [List.map_take]
theorem rf_at {g o n : Nat} {c : Option Nat} {u : Value} {e : Ent} (hS : Sim G s w) (hg : get s.heap g = some e) (hx : VR G w (.rf g o n c) u) :
    ∃ b o0 sz ce a cap, G.loc g = some (b, o0, sz, ce) ∧ u = .slice (some a) n cap ∧ e.z = sz ∧ (0 < n → a = ⟨b, o0 + o * sz, none⟩) := by
  simp only [VR] at hx
  obtain ⟨b, o0, sz, ce, a, cap, hl, rfl, hn, _, _, _, had, _⟩ := hx
  exact ⟨b, o0, sz, ce, a, cap, hl, rfl, (hS.ent g e b o0 sz ce hg hl).z, fun h => had (by omega)⟩
theorem copy_ok {argTypes : Array TypeId} {t el ty : TypeId} {g o n : Nat} {c : Option Nat} {y : PV} {u z : Value} {e : Ent} {ys : List (List PV)} (hS : Sim G s w) (h0 : argTypes[0]? = some t) (ht : P.underlying t = some (.slice el)) (hne : P.cellsOf el ≠ 0) (hg : get s.heap g = some e) (hz : e.z = P.cellsOf el)
    (hy : rowsOf s.heap e.z y = some ys) (hx : VR G w (.rf g o n c) u) (hyv : VR G w y z) (hlw : e.lw ≤ o) (hlen : o + n ≤ e.r.length) :
    ∃ r w' G', (Builtin.copy_ argTypes ty #[u, z]).run P w = .ok r w' ∧ Stp G s w G' ⟨upd s.heap g ⟨e.z, e.r.take o ++ ys.take (min n ys.length) ++ e.r.drop (o + min n ys.length), e.lw⟩, s.next⟩ w' ∧ VR G' w' (.lit (goInt (min n ys.length : Nat))) r := by
  obtain ⟨b, o0, sz, ce, a, cap, hl, rfl, hez, ha⟩ := rf_at hS hg hx
  obtain ⟨vs, g1, g2, g3, g4, g5⟩ := rows_ok hy hS hyv
  have hlenOf := (src_of (P := P) g3 g5).1
  have hcells := src_take (P := P) (m := min n ys.length) (by omega) g3 g5
  obtain ⟨i, hi⟩ := info_of_cells hne
  have hsz : i.size = P.cellsOf el := by simp [Program.cellsOf, hi]
  generalize hm : min n ys.length = m at *
  have htl : (ys.take m).length = m := by simp; omega
  have hflat : (ys.take m).flatten = ys.flatten.take (m * e.z) := by
    have : ys.flatten = (ys.take m).flatten ++ (ys.drop m).flatten := by rw [← List.flatten_append, List.take_append_drop]
    have hl2 : ∀ (l : List (List PV)), (∀ x ∈ l, x.length = e.z) → l.flatten.length = l.length * e.z := by
      intro l hl
      induction l with
      | nil => simp
      | cons x l ih => rw [List.flatten_cons, List.length_append, hl x (by simp), ih (fun y hy => hl y (by simp [hy])), List.length_cons, Nat.add_mul]; omega
    have hl3 := hl2 (ys.take m) (fun x hx => g4 x (List.mem_of_mem_take hx))
    rw [htl] at hl3
    rw [this, ← hl3, List.take_left]
  obtain ⟨w1, k1, k2⟩ := rows_write (P := P) hS hg hl (ys := ys.take m) (us := vs.take (m * e.z)) (by rw [hflat]; exact vrl_take _ g1) (fun v hv => g2 v (List.mem_of_mem_take hv)) (by
      rw [htl, ← hez]
      have : m * e.z ≤ ys.length * e.z := Nat.mul_le_mul_right _ (by omega)
      simp; omega) (fun x hx => by rw [← hez]; exact g4 x (List.mem_of_mem_take hx)) (p := o) hlw (by rw [htl]; omega)
  rw [htl] at k2
  refine ⟨goInt m, w1, G, ?_, k2, by simp only [VR]⟩
  have hmin : Nat.min ys.length n = m := by rw [← hm]; exact Nat.min_comm _ _
  have hst : (storeCells a (vs.take (m * e.z))).run P w = .ok () w1 := by
    by_cases h00 : 0 < n
    · rw [ha h00]; exact k1
    · have hm0 : m = 0 := by omega
      subst hm0
      simp only [Nat.zero_mul, List.take_zero, storeCells, Sem.run_pure, Result.ok.injEq, true_and] at k1 ⊢
      exact k1
  rw [hz] at hst hcells
  simp [Builtin.copy_, h0, run_underlying ht, sizeOf, typeInfo, hi, hsz, hlenOf, hmin, hcells, hst]
theorem clear_ok {argTypes : Array TypeId} {t el ty : TypeId} {g o n : Nat} {c : Option Nat} {u : Value} {e : Ent} {zl : List PV} (hS : Sim G s w) (h0 : argTypes[0]? = some t) (ht : P.underlying t = some (.slice el)) (hg : get s.heap g = some e) (hz : e.z = P.cellsOf el)
    (hzl : zeroL P el = some zl) (hzn : zl.length = P.cellsOf el) (hx : VR G w (.rf g o n c) u) (hlw : e.lw ≤ o) (hlen : o + n ≤ e.r.length) :
    ∃ r w' G', (Builtin.clear_ argTypes ty #[u]).run P w = .ok r w' ∧ Stp G s w G' ⟨upd s.heap g ⟨e.z, e.r.take o ++ List.replicate n zl ++ e.r.drop (o + n), e.lw⟩, s.next⟩ w' ∧ VR G' w' undefV r := by
  obtain ⟨b, o0, sz, ce, a, cap, hl, rfl, hez, ha⟩ := rf_at hS hg hx
  obtain ⟨i, v, hi, hzv, hv1, hv2⟩ := zero_ok hzl w G
  have hvl := vrl_len _ _ hv1
  simp only [Array.length_toList] at hvl
  obtain ⟨w1, k1, k2⟩ := rows_write (P := P) hS hg hl (ys := List.replicate n zl) (us := (List.replicate n v.cells.toList).flatten) (vrl_rep hv1 n) (fun u hu => hv2 u (mem_rep hu)) (by
    simp only [List.length_flatten, List.map_replicate, List.sum_replicate_nat, List.length_replicate, Array.length_toList]
    rw [show v.cells.size = sz from by omega]) (fun x hx => by rw [List.eq_of_mem_replicate hx]; omega) (p := o) hlw (by simpa using hlen)
  rw [List.length_replicate] at k2
  refine ⟨undef, w1, G, ?_, k2, by simp only [VR, undefV]; rfl⟩
  cases n with
  | zero =>
    simp only [List.replicate_zero, List.flatten_nil, storeCells, Sem.run_pure, Result.ok.injEq, true_and] at k1
    subst k1
    simp [Builtin.clear_, h0, run_underlying ht, undef]
  | succ n =>
    have hzc : (Builtin.zeroCells v.cells (n + 1)).toList = (List.replicate (n + 1) v.cells.toList).flatten := by
      by_cases hv0 : 0 < v.cells.size
      · exact zeros_eq v (n + 1) hv0
      · have h1 : v.cells.size = 0 := by omega
        have h2 : v.cells = #[] := Array.size_eq_zero_iff.1 h1
        simp [Builtin.zeroCells, h2]
    rw [ha (by omega)]
    simp [Builtin.clear_, h0, run_underlying ht, zeroValue, typeInfo, hi, hzv, hzc, k1, undef]
theorem makeOwn_ok {t e : TypeId} {n c : Int} {kn kc : IntKind} {z : List PV} (hS : Sim G s w) (hu : P.underlying t = some (.slice e)) (hz : zeroL P e = some z) (h0 : 0 ≤ n) (h1 : n ≤ c) (h2 : room c.toNat = true) (h3 : z.length = P.cellsOf e) (h4 : P.cellsOf e ≠ 0) (h5 : P.bytesOf e ≤ 2 ^ 16) :
    ∃ y w' G', (Instr.makeSlice t (.int kn n) (.int kc c)).run P w = .ok y w' ∧ Stp G s w G' (s.new ⟨P.cellsOf e, List.replicate c.toNat z, 0⟩) w' ∧ VR G' w' (.rf s.next 0 n.toNat (some c.toNat)) y := by
  obtain ⟨cs, g1, g2, g3, g4⟩ := makeSlice_ok (G := G) (w := w) (kn := kn) (kc := kc) hu hz h0 h1 h2 h3 h4 h5
  have hall := rowsL_at g3 g4 (z := P.cellsOf e) (r := List.replicate c.toNat z) (fun l hl => by rw [List.eq_of_mem_replicate hl]; exact h3)
  have hb := Stp.born hS cs e ⟨P.cellsOf e, List.replicate c.toNat z, 0⟩ c.toNat (by simp) (by simp [g2]) (by simp) (fun i l hi => by
    obtain ⟨q1, q2⟩ := hall i l hi
    exact ⟨q1, fun j x hj => let ⟨v, q3, q4, q5⟩ := q2 j x hj; ⟨v, by simpa using q3, q4, q5⟩⟩)
  refine ⟨_, _, _, g1, hb, ?_⟩
  simp only [VR]
  exact ⟨w.heap.size, 0, P.cellsOf e, c.toNat, ⟨w.heap.size, 0, none⟩, c.toNat, if_pos rfl, rfl, by omega, by omega, fun k hk => (by cases hk; rfl), fun hk => (by cases hk), fun _ => (by simp), rfl⟩
end Go.Proofs.Ythfplgfpodmphaa.VE
