/- The evaluator by value: what it tells, the model does. -/
import Derived.Test.YthfplgfpodmphaaVo
namespace Go.Proofs.Ythfplgfpodmphaa.VE
variable {G G' : Gh} {w w' : World} {s s' : St} {P : Program}
theorem flat_at {z : Nat} : ∀ (ys : List (List PV)) (i j : Nat) (l : List PV) (x : PV), (∀ y ∈ ys, y.length = z) → ys[i]? = some l → l[j]? = some x → ys.flatten[i * z + j]? = some x
  | [], i, j, l, x, _, hi, _ => by simp at hi
  | y :: ys, i, j, l, x, hz, hi, hj => by
    have hy := hz y (by simp)
    rw [List.flatten_cons]
    cases i with
    | zero =>
      cases hi
      have hjl : j < y.length := by
        false_or_by_contra; rename_i hh
        rw [List.getElem?_eq_none (by omega)] at hj; cases hj
      rw [List.getElem?_append_left (by omega)]
      simpa using hj
    | succ i =>
      rw [List.getElem?_append_right (by rw [Nat.add_mul]; omega), show (i + 1) * z + j - y.length = i * z + j from by rw [Nat.add_mul]; omega]
      exact flat_at ys i j l x (fun y hy => hz y (by simp [hy])) (by simpa using hi) hj
theorem rows_get {r ys : List (List PV)} {p : Nat} (h : p + ys.length ≤ r.length) (k : Nat) : (r.take p ++ ys ++ r.drop (p + ys.length))[k]? = if k < p then r[k]? else if k < p + ys.length then ys[k - p]? else r[k]? := by
  rw [List.append_assoc, List.getElem?_append]
  simp only [List.length_take]
  by_cases h1 : k < p
  · rw [if_pos (by omega), if_pos h1, List.getElem?_take, if_pos h1]
  · rw [if_neg (by omega), if_neg h1, List.getElem?_append]
    rw [show min p r.length = p from by omega]
    by_cases h2 : k < p + ys.length
    · rw [if_pos (by omega), if_pos h2]
    · rw [if_neg (by omega), if_neg h2, List.getElem?_drop]
      congr 1
      omega
theorem rows_len {r ys : List (List PV)} {p : Nat} (h : p + ys.length ≤ r.length) : (r.take p ++ ys ++ r.drop (p + ys.length)).length = r.length := by simp; omega
/-- Whole rows are written over rows of one's own. -/
theorem rows_write (hS : Sim G s w) {g : Nat} {e : Ent} {b o0 sz ce : Nat} (hg : get s.heap g = some e) (hl : G.loc g = some (b, o0, sz, ce)) {ys : List (List PV)} {us : List Value}
    (hu : VRl G w ys.flatten us) (hp : ∀ u ∈ us, plainV u = true) (hlen : us.length = ys.length * sz) (hz : ∀ y ∈ ys, y.length = sz) {p : Nat} (hlo : e.lw ≤ p) (hhi : p + ys.length ≤ e.r.length) :
    ∃ w', (storeCells ⟨b, o0 + p * sz, none⟩ us).run P w = .ok () w' ∧ Stp G s w G ⟨upd s.heap g ⟨e.z, e.r.take p ++ ys ++ e.r.drop (p + ys.length), e.lw⟩, s.next⟩ w' := by
  have he := hS.ent g e b o0 sz ce hg hl
  have hcap : p * sz + us.length ≤ ce * sz := by
    rw [hlen, ← Nat.add_mul]
    exact Nat.mul_le_mul_right _ (Nat.le_trans hhi he.len)
  refine write_ok (P := P) hS hg hl hp (Nat.mul_le_mul_right _ hlo) hcap (by rw [rows_len hhi]; exact he.len) (by rw [rows_len hhi]; exact he.lw) (fun i l hi => ?_)
  rw [rows_get hhi] at hi
  have hrow : ∀ l0, e.r[i]? = some l0 → l0.length = sz := fun l0 h0 => (he.rows i l0 h0).1
  by_cases q1 : i < p
  · rw [if_pos q1] at hi
    refine ⟨hrow l hi, fun j x hj => ?_⟩
    have hjl : j < sz := by
      false_or_by_contra; rename_i hh
      rw [List.getElem?_eq_none (by rw [hrow l hi]; omega)] at hj; cases hj
    have : (i + 1) * sz ≤ p * sz := Nat.mul_le_mul_right _ q1
    rw [Nat.add_mul] at this
    rw [if_pos (by omega)]
    exact ⟨l, hi, hj⟩
  · rw [if_neg q1] at hi
    have hpi : p * sz ≤ i * sz := Nat.mul_le_mul_right _ (by omega)
    by_cases q2 : i < p + ys.length
    · rw [if_pos q2] at hi
      have hl' := hz l (List.mem_of_getElem? hi)
      refine ⟨hl', fun j x hj => ?_⟩
      have hjl : j < sz := by
        false_or_by_contra; rename_i hh
        rw [List.getElem?_eq_none (by rw [hl']; omega)] at hj; cases hj
      have h2 : (i + 1) * sz ≤ (p + ys.length) * sz := Nat.mul_le_mul_right _ q2
      rw [Nat.add_mul, Nat.add_mul] at h2
      rw [if_neg (by omega), if_pos (by omega)]
      have hf := flat_at ys (i - p) j l x hz hi hj
      obtain ⟨v, h3, h4⟩ := vrl_at _ _ hu _ _ hf
      refine ⟨v, ?_, h4⟩
      rwa [show i * sz + j - p * sz = (i - p) * sz + j from by rw [Nat.sub_mul]; omega]
    · rw [if_neg q2] at hi
      refine ⟨hrow l hi, fun j x hj => ?_⟩
      have h2 : (p + ys.length) * sz ≤ i * sz := Nat.mul_le_mul_right _ (by omega)
      rw [Nat.add_mul] at h2
      rw [if_neg (by omega), if_neg (by omega)]
      exact ⟨l, hi, hj⟩
/-- What a slice, a string has, in any world whose cells are the same. -/
def SrcR (P : Program) (w : World) (z n : Nat) (u : Value) (vs : List Value) : Prop :=
  (∀ W, (Builtin.lenOf u).run P W = .ok n W) ∧ ∀ W : World, (∀ a, W.cell? a = w.cell? a) → (Builtin.firstCells z n u).run P W = .ok vs.toArray W
theorem src_of {z : Nat} {r : List (List PV)} {u : Value} {vs : List Value} (h3 : vs.length = r.length * z)
    (h : (∃ b o c, u = .slice (some ⟨b, o, none⟩) r.length c ∧ ∀ j v, vs[j]? = some v → w.cell? ⟨b, o + j, none⟩ = some v) ∨ (u = .slice none 0 0 ∧ r = []) ∨ (∃ a c, u = .slice (some a) 0 c ∧ r = []) ∨
        ∃ st : ByteArray, u = .string st ∧ z = 1 ∧ r.length = st.size ∧ vs = st.data.toList.map fun b => Value.int .u8 b.toNat) : SrcR P w z r.length u vs := by
  rcases h with ⟨b, o, c, rfl, hc⟩ | ⟨rfl, rfl⟩ | ⟨a, c, rfl, rfl⟩ | ⟨st, rfl, rfl, hl, rfl⟩
  · refine ⟨fun W => by simp [Builtin.lenOf], fun W hW => ?_⟩
    exact run_firstCells_some (P := P) W z r.length ⟨b, o, none⟩ r.length c vs h3 (fun j v hj => by rw [add_off, hW]; exact hc j v hj)
  · have : vs = [] := by simpa using h3
    subst this
    exact ⟨fun W => by simp [Builtin.lenOf], fun W _ => by simp [Builtin.firstCells]⟩
  · have : vs = [] := by simpa using h3
    subst this
    exact ⟨fun W => by simp [Builtin.lenOf], fun W _ => by simp [Builtin.firstCells, loadCells, loadCellsFrom]⟩
  · refine ⟨fun W => by simp [Builtin.lenOf, hl], fun W _ => ?_⟩
    have e : st.extract 0 st.size = st := by
      obtain ⟨d⟩ := st
      have h1 := ByteArray.extract_mk d.toList 0 d.toList.length
      simp only [List.drop_zero, Nat.sub_zero, List.take_length] at h1
      exact h1
    simp only [Builtin.firstCells, Sem.run_pure, Result.ok.injEq, and_true]
    rw [hl, e]
    apply Array.ext'
    simp
def NoNum (P : Program) (t : TypeId) : Prop := (∃ e, P.underlying t = some (.slice e)) ∨ P.underlying t = some .string
/-- append in the room that is there -/
theorem run_app_in {argTypes : Array TypeId} {t t1 e ty : TypeId} {i : TypeInfo} (h0 : argTypes[0]? = some t) (h1 : argTypes[1]? = some t1) (ht : P.underlying t = some (.slice e)) (hd : NoNum P t1) (hi : P.info? e = some i)
    {y : Value} {n : Nat} {news : List Value} (hs : SrcR P w i.size n y news) {a : Addr} {sl sc : Nat} (hroom : sl + n ≤ sc) {w2 : World} (hst : (storeCells (a.add (sl * i.size)) news).run P w = .ok () w2) :
    (Builtin.append_ argTypes ty #[.slice (some a) sl sc, y]).run P w = .ok (.slice (some a) (sl + n) sc) w2 := by
  have hc := hs.2 w (fun _ => rfl)
  rcases hd with ⟨e1, hd⟩ | hd <;>
    simp [Builtin.append_, h0, h1, run_underlying ht, run_underlying hd, sizeOf, typeInfo, hi, hs.1, hroom, hc, hst]
theorem run_app_nil {argTypes : Array TypeId} {t t1 e ty : TypeId} {i : TypeInfo} (h0 : argTypes[0]? = some t) (h1 : argTypes[1]? = some t1) (ht : P.underlying t = some (.slice e)) (hd : NoNum P t1) (hi : P.info? e = some i)
    {y : Value} {news : List Value} (hs : SrcR P w i.size 0 y news) {b : Option Addr} {sl sc : Nat} (hroom : sl ≤ sc) (hn : news = []) :
    (Builtin.append_ argTypes ty #[.slice b sl sc, y]).run P w = .ok (.slice b sl sc) w := by
  have hc := hs.2 w (fun _ => rfl)
  subst hn
  rcases hd with ⟨e1, hd⟩ | hd <;> cases b <;>
    simp [Builtin.append_, h0, h1, run_underlying ht, run_underlying hd, sizeOf, typeInfo, hi, hs.1, hroom, hc, storeCells]
/-- append beyond the room that is there -/
theorem run_app_grow {argTypes : Array TypeId} {t t1 e ty : TypeId} {i : TypeInfo} {z : Value} (h0 : argTypes[0]? = some t) (h1 : argTypes[1]? = some t1) (ht : P.underlying t = some (.slice e)) (hd : NoNum P t1) (hi : P.info? e = some i) (hz : i.zero = some z)
    {x y : Value} {n sl sc : Nat} {b : Option Addr} {olds news : List Value} (hx : x = .slice b sl sc) (ho : SrcR P w i.size sl x olds) (hs : SrcR P w i.size n y news) (hroom : sc < sl + n) (h30 : sl + n ≤ 2 ^ 30) (hb : i.bytes ≤ 2 ^ 16) :
    (Builtin.append_ argTypes ty #[x, y]).run P w = .ok (.slice (some ⟨w.heap.size, 0, none⟩) (sl + n) (grownCap w (sl + n) sc e)) (w.drew.alloc (.cells (olds.toArray ++ news.toArray ++ Builtin.zeroCells z.cells (grownCap w (sl + n) sc e - (sl + n))) e)) := by
  have hn : ¬ (sl + n ≤ sc) := by omega
  have h63' : ¬ (9223372036854775807 < ((sl : Int) + (n : Int))) := by omega
  have hfit : Builtin.nextslicecap (sl + n) sc * i.bytes ≤ 281474976710656 := growslice_fits hroom (by
    have : (sl + n) * i.bytes ≤ 2 ^ 30 * 2 ^ 16 := Nat.mul_le_mul h30 hb
    exact Nat.le_trans this (by decide))
  have h48' : ¬ (281474976710656 < Builtin.nextslicecap (sl + n) sc * i.bytes) := by omega
  have hf := hs.2 w.drew (fun _ => rfl)
  have hfo := ho.2 w.drew (fun _ => rfl)
  subst hx
  rcases hd with ⟨e1, hd⟩ | hd <;>
  · simp [Builtin.append_, h0, h1, run_underlying ht, run_underlying hd, sizeOf, typeInfo, zeroValue, hi, hz, hs.1, hn, h63', h48', Question.forced, hf, hfo, newRow, grownCap]
    try
      congr 2
      apply Array.ext'
      simp [List.append_assoc]
end Go.Proofs.Ythfplgfpodmphaa.VE
