/- The evaluator by value: what it tells, the model does. -/
import Derived.Test.YthfplgfpodmphaaVi
namespace Go.Proofs.Ythfplgfpodmphaa.VE
variable {G G' : Gh} {w w' : World} {s s' : St} {P : Program}
theorem info_of_cells {t : TypeId} (h : P.cellsOf t ≠ 0) : ∃ i, P.info? t = some i := by
  unfold Program.cellsOf at h
  cases hi : P.info? t with
  | none => rw [hi] at h; exact absurd rfl h
  | some i => exact ⟨i, rfl⟩
theorem part_ok {t : TypeId} {l : List PV} {o : Nat} {v : PV} {us : List Value} (h : mk P t l o = some v) (hl : VRl G w l us) (hp : ∀ u ∈ us, plainV u = true) :
    ∃ u, (Go.part t us.toArray o).run P w = .ok u w ∧ VR G w v u := by
  unfold mk at h
  cases hu : P.underlying t with
  | none => rw [hu] at h; cases h
  | some d =>
    rw [hu] at h
    simp only at h
    obtain ⟨i, hi⟩ := info_of_underlying hu
    by_cases hd : isAggD d = true
    · rw [if_pos hd] at h
      split at h
      · rename_i hle
        cases h
        refine ⟨.agg (us.toArray.extract o (o + P.cellsOf t)), ?_, ?_⟩
        · simp only [Go.part, Sem.run_bind, run_isAgg hu, Result.andThen_ok, hd, if_true, run_sizeOf hi, Sem.run_pure]
        · simp only [VR]
          refine ⟨(us.drop o).take (P.cellsOf t), ?_, vrl_take _ (vrl_drop _ hl), fun u hu' => hp u (List.mem_of_mem_drop (List.mem_of_mem_take hu'))⟩
          congr 1
          apply Array.ext'
          simp
      · cases h
    · rw [if_neg hd] at h
      obtain ⟨u, h1, h2⟩ := vrl_at l us hl o v h
      refine ⟨u, ?_, h2⟩
      simp only [Bool.not_eq_true] at hd
      have : us.toArray[o]? = some u := by simpa using h1
      simp only [Go.part, Sem.run_bind, run_isAgg hu, Result.andThen_ok, hd, Bool.false_eq_true, if_false, this, Sem.run_pure]
theorem field_off {t : TypeId} {f d : Nat} {ty : TypeId} (h : fieldOff P t f = some (d, ty)) : ∃ fs x, P.underlying t = some (.struct fs) ∧ fs[f]? = some x ∧ x.offset = d ∧ x.type = ty ∧ P.cellsOf x.type ≠ 0 := by
  unfold fieldOff at h
  split at h
  · rename_i fs hu
    split at h
    · rename_i x hx
      split at h
      · cases h
      · rename_i hc
        cases h
        exact ⟨fs, x, hu, hx, rfl, rfl, hc⟩
    · cases h
  · cases h
theorem addrAdd_ok {x v : PV} {d : Nat} {u : Value} (h : addrAdd x d = some v) (hx : VR G w x u) : ∃ b o, u = .pointer (some ⟨b, o, none⟩) ∧ VR G w v (.pointer (some ⟨b, o + d, none⟩)) := by
  unfold addrAdd at h
  split at h
  · rename_i g i o
    cases h
    simp only [VR] at hx ⊢
    obtain ⟨b, o0, sz, ce, hl, rfl⟩ := hx
    exact ⟨b, _, rfl, b, o0, sz, ce, hl, by simp only [Value.pointer.injEq, Option.some.injEq, Addr.mk.injEq, true_and, and_true]; omega⟩
  · rename_i l o
    cases h
    simp only [VR] at hx ⊢
    obtain ⟨b, base, rfl, hc⟩ := hx
    exact ⟨b, _, rfl, b, base, by simp only [Value.pointer.injEq, Option.some.injEq, Addr.mk.injEq, true_and, and_true]; omega, hc⟩
  · cases h
theorem fieldAddr_ok {t : TypeId} {f d : Nat} {ty : TypeId} {x v : PV} {u : Value} (h : fieldOff P t f = some (d, ty)) (hv : addrAdd x d = some v) (hx : VR G w x u) :
    ∃ y, (Instr.fieldAt t u f).run P w = .ok y w ∧ VR G w v y := by
  obtain ⟨fs, fd, hu, hf, rfl, rfl, hc⟩ := field_off h
  obtain ⟨b, o, rfl, hv'⟩ := addrAdd_ok hv hx
  obtain ⟨i, hi⟩ := info_of_cells hc
  refine ⟨_, ?_, hv'⟩
  simp only [Instr.fieldAt, Sem.run_bind, run_underlying hu, Result.andThen_ok, hf, Instr.sureAddr, Sem.run_pure, fieldPlace, run_sizeOf hi, if_neg hc, add_off]
theorem field_ok {t : TypeId} {f d : Nat} {ty : TypeId} {l : List PV} {v : PV} {u : Value} (h : fieldOff P t f = some (d, ty)) (hv : mk P ty l d = some v) (hx : VR G w (.agg l) u) :
    ∃ y, (Instr.field t u f).run P w = .ok y w ∧ VR G w v y := by
  obtain ⟨fs, fd, hu, hf, rfl, rfl, hc⟩ := field_off h
  simp only [VR] at hx
  obtain ⟨us, rfl, h1, h2⟩ := hx
  obtain ⟨y, h3, h4⟩ := part_ok (P := P) hv h1 h2
  refine ⟨y, ?_, h4⟩
  simp only [Instr.field, Sem.run_bind, run_underlying hu, Result.andThen_ok, hf, asAgg, Sem.run_pure, h3]
theorem idx_ok {x : PV} {n k : Nat} {u : Value} (h : idx x n = some k) (hx : VR G w x u) : ∃ kd i, u = .int kd i ∧ 0 ≤ i ∧ i < (n : Int) ∧ i.toNat = k := by
  unfold idx at h
  split at h
  · rename_i i hi
    split at h
    · rename_i hc
      cases h
      obtain ⟨kd, rfl⟩ := vr_asI hi hx
      exact ⟨kd, i, rfl, hc.1, hc.2, rfl⟩
    · cases h
  · cases h
theorem indexAddr_ok {t : TypeId} {x ix v : PV} {u z : Value} (h : indexAddrP P s.heap t x ix = some v) (hS : Sim G s w) (hx : VR G w x u) (hi : VR G w ix z) :
    ∃ y, (Instr.indexAt t u z).run P w = .ok y w ∧ VR G w v y := by
  unfold indexAddrP at h
  split at h
  · rename_i n e hu
    split at h
    · cases h
    · rename_i k hk
      split at h
      · cases h
      rename_i hne
      obtain ⟨kd, i, rfl, h0, h1, rfl⟩ := idx_ok hk hi
      obtain ⟨b, o, rfl, hv⟩ := addrAdd_ok h hx
      obtain ⟨inf, hinf⟩ := info_of_cells hne
      refine ⟨_, ?_, hv⟩
      simp [Instr.indexAt, asIntOf, run_underlying hu, Instr.sureAddr, h0, h1, run_sizeOf hinf, add_off]
  · rename_i e hu
    split at h
    · cases h
    rename_i hne
    obtain ⟨inf, hinf⟩ := info_of_cells hne
    split at h
    · rename_i zz r c
      split at h
      · rename_i k hk
        split at h
        · rename_i hz
          simp only [Option.map_eq_some_iff] at h
          obtain ⟨row, hr, rfl⟩ := h
          obtain ⟨kd, i, rfl, h0, h1, rfl⟩ := idx_ok hk hi
          simp only [VR] at hx
          rcases hx with ⟨rfl, _⟩ | ⟨b, o, cap, rfl, hlen, hcap, _, hrw⟩
          · simp at hr
          · rw [rw_iff] at hrw
            obtain ⟨_, hcl⟩ := hrw _ row hr
            refine ⟨.pointer (some ⟨b, o + i.toNat * P.cellsOf e, none⟩), ?_, ?_⟩
            · simp [Instr.indexAt, asIntOf, run_underlying hu, h0, h1, run_sizeOf hinf, add_off]
            · simp only [VR]
              exact ⟨b, o + i.toNat * P.cellsOf e, rfl, by rw [← hz]; exact hcl⟩
        · cases h
      · cases h
    · rename_i g o n c
      split at h
      · rename_i k x hk hg
        split at h
        · rename_i hz
          cases h
          obtain ⟨kd, i, rfl, h0, h1, rfl⟩ := idx_ok hk hi
          simp only [VR] at hx
          obtain ⟨b, o0, sz, ce, ad, cap, hl, rfl, hn, hoc, hcap, hcn, had, hsp⟩ := hx
          have he := hS.ent g x b o0 sz ce hg hl
          have hsz : sz = P.cellsOf e := by rw [← hz, he.z]
          refine ⟨.pointer (some ⟨b, o0 + o * sz + i.toNat * P.cellsOf e, none⟩), ?_, ?_⟩
          · rw [had (by omega)]
            simp [Instr.indexAt, asIntOf, run_underlying hu, h0, h1, run_sizeOf hinf, add_off]
          · simp only [VR]
            refine ⟨b, o0, sz, ce, hl, ?_⟩
            rw [← hsz, Nat.add_mul]
            simp only [Value.pointer.injEq, Option.some.injEq, Addr.mk.injEq, true_and, and_true]
            omega
        · cases h
      · cases h
    · cases h
  · cases h
theorem index_ok {t e : TypeId} {n k : Nat} {l : List PV} {ix v : PV} {u z : Value} (hu : P.underlying t = some (.array n e)) (hk : idx ix n = some k) (hv : mk P e l (k * P.cellsOf e) = some v) (hx : VR G w (.agg l) u) (hi : VR G w ix z) :
    ∃ y, (Instr.index t u z).run P w = .ok y w ∧ VR G w v y := by
  obtain ⟨kd, i, rfl, h0, h1, rfl⟩ := idx_ok hk hi
  simp only [VR] at hx
  obtain ⟨us, rfl, h2, h3⟩ := hx
  obtain ⟨y, h4, h5⟩ := part_ok (P := P) hv h2 h3
  have hinf : ∃ inf, P.info? e = some inf := by
    unfold mk at hv
    cases hue : P.underlying e with
    | none => rw [hue] at hv; cases hv
    | some d => exact info_of_underlying hue
  obtain ⟨inf, hinf⟩ := hinf
  refine ⟨y, ?_, h5⟩
  simp [Instr.index, asIntOf, run_underlying hu, h0, h1, run_sizeOf hinf, h4]
theorem lenP_ok {x : PV} {n : Nat} {u : Value} (h : lenP x = some n) (hx : VR G w x u) : (∃ b c, u = .slice b n c) ∨ ∃ st, u = .string st ∧ n = st.size := by
  unfold lenP at h
  split at h <;> first | cases h | skip
  · simp only [VR] at hx
    rcases hx with ⟨rfl, rfl, _⟩ | ⟨b, o, cap, rfl, _⟩
    · exact .inl ⟨_, _, rfl⟩
    · exact .inl ⟨_, _, rfl⟩
  · simp only [VR] at hx
    obtain ⟨b, o0, sz, ce, ad, cap, _, rfl, _⟩ := hx
    exact .inl ⟨_, _, rfl⟩
  · simp only [VR] at hx
    exact .inr ⟨_, hx, rfl⟩
/-- The rows of a slice, as cells. -/
theorem rows_ok {z : Nat} {x : PV} {r : List (List PV)} {u : Value} (h : rowsOf s.heap z x = some r) (hS : Sim G s w) (hx : VR G w x u) :
    ∃ vs : List Value, VRl G w r.flatten vs ∧ (∀ v ∈ vs, plainV v = true) ∧ vs.length = r.length * z ∧ (∀ l ∈ r, l.length = z) ∧
      ((∃ b o c, u = .slice (some ⟨b, o, none⟩) r.length c ∧ ∀ j v, vs[j]? = some v → w.cell? ⟨b, o + j, none⟩ = some v) ∨ (u = .slice none 0 0 ∧ r = []) ∨ (∃ a c, u = .slice (some a) 0 c ∧ r = []) ∨
        ∃ st : ByteArray, u = .string st ∧ z = 1 ∧ r.length = st.size ∧ vs = st.data.toList.map fun b => Value.int .u8 b.toNat) := by
  have key : ∀ (r : List (List PV)) (b o : Nat), (∀ i l, r[i]? = some l → l.length = z ∧ ∀ j y, l[j]? = some y → ∃ v, w.cell? ⟨b, o + i * z + j, none⟩ = some v ∧ VR G w y v ∧ plainV v = true) →
      ∃ vs : List Value, VRl G w r.flatten vs ∧ (∀ v ∈ vs, plainV v = true) ∧ vs.length = r.length * z ∧ ∀ j v, vs[j]? = some v → w.cell? ⟨b, o + j, none⟩ = some v := by
    intro r
    induction r with
    | nil => intro b o _; exact ⟨[], by simp [VRl], by simp, by simp, by simp⟩
    | cons l r ih =>
      intro b o hr
      obtain ⟨vs, h1, h2, h3, h4⟩ := ih b (o + z) (fun i l hl => by
        have := hr (i + 1) l hl
        refine ⟨this.1, fun j y hj => ?_⟩
        have := this.2 j y hj
        rwa [show o + (i + 1) * z + j = o + z + i * z + j from by rw [Nat.add_mul]; omega] at this)
      obtain ⟨hl, hc⟩ := hr 0 l rfl
      have hrow : ∀ (l : List PV) (p : Nat), (∀ j y, l[j]? = some y → ∃ v, w.cell? ⟨b, p + j, none⟩ = some v ∧ VR G w y v ∧ plainV v = true) →
          ∃ us : List Value, VRl G w l us ∧ (∀ v ∈ us, plainV v = true) ∧ us.length = l.length ∧ ∀ j v, us[j]? = some v → w.cell? ⟨b, p + j, none⟩ = some v := by
        intro l
        induction l with
        | nil => intro p _; exact ⟨[], by simp [VRl], by simp, rfl, by simp⟩
        | cons y l ih2 =>
          intro p hp
          obtain ⟨us, g1, g2, g3, g4⟩ := ih2 (p + 1) (fun j y hj => by have := hp (j + 1) y hj; rwa [show p + (j + 1) = p + 1 + j from by omega] at this)
          obtain ⟨v, g5, g6, g7⟩ := hp 0 y rfl
          refine ⟨v :: us, by simp only [VRl]; exact ⟨v, us, rfl, g6, g1⟩, ?_, by simp [g3], ?_⟩
          · intro x hx
            rcases List.mem_cons.1 hx with rfl | hx
            · exact g7
            · exact g2 x hx
          · intro j x hj
            cases j with
            | zero => cases hj; exact g5
            | succ j => have := g4 j x hj; rwa [show p + 1 + j = p + (j + 1) from by omega] at this
      obtain ⟨us, g1, g2, g3, g4⟩ := hrow l o (fun j y hj => by have := hc j y hj; rwa [show o + 0 * z + j = o + j from by omega] at this)
      refine ⟨us ++ vs, by rw [List.flatten_cons]; exact vrl_append g1 h1, ?_, by simp [g3, h3, hl, Nat.add_mul]; omega, ?_⟩
      · intro x hx
        rcases List.mem_append.1 hx with hx | hx
        · exact g2 x hx
        · exact h2 x hx
      · intro j x hj
        rw [List.getElem?_append] at hj
        split at hj
        · exact g4 j x hj
        · rename_i hlt
          have := h4 _ x hj
          rwa [show o + z + (j - us.length) = o + j from by omega] at this
  unfold rowsOf at h
  split at h
  · rename_i y r' c
    split at h
    · rename_i hyz
      cases h
      simp only [VR] at hx
      rcases hx with ⟨rfl, rfl, _⟩ | ⟨b, o, cap, rfl, hlen, _, _, hrw⟩
      · exact ⟨[], by simp [VRl], by simp, by simp, by simp, .inr (.inl ⟨rfl, rfl⟩)⟩
      · by_cases h0 : r = []
        · subst h0
          exact ⟨[], by simp [VRl], by simp, by simp, by simp, .inr (.inr (.inl ⟨_, _, rfl, rfl⟩))⟩
        · have hyz' : y = z := hyz.resolve_left h0
          subst hyz'
          rw [rw_iff] at hrw
          have hr : ∀ i l, r[i]? = some l → l.length = y ∧ ∀ j x, l[j]? = some x → ∃ v, w.cell? ⟨b, o + i * y + j, none⟩ = some v ∧ VR G w x v ∧ plainV v = true := by
            intro i l hl
            obtain ⟨g1, g2⟩ := hrw i l hl
            rw [cl_iff] at g2
            exact ⟨g1, fun j x hj => let ⟨v, q1, q2, q3, _⟩ := g2 j x hj; ⟨v, q1, q2, q3⟩⟩
          obtain ⟨vs, h1, h2, h3, h4⟩ := key r b o hr
          refine ⟨vs, h1, h2, h3, fun l hl => ?_, .inl ⟨b, o, cap, rfl, h4⟩⟩
          obtain ⟨i, hi⟩ := List.mem_iff_getElem?.1 hl
          exact (hr i l hi).1
    · cases h
  · rename_i st
    split at h
    · rename_i hz
      cases h
      simp only [VR] at hx
      subst hx hz
      refine ⟨st.data.toList.map fun b => Value.int .u8 b.toNat, ?_, by simp [plainV], by simp, by simp [byteRow], .inr (.inr (.inr ⟨st, rfl, rfl, by simp, rfl⟩))⟩
      have : ∀ l : List UInt8, VRl G w (l.map byteRow).flatten (l.map fun b => Value.int .u8 b.toNat) := by
        intro l
        induction l with
        | nil => simp [VRl]
        | cons b l ih =>
          simp only [List.map_cons, List.flatten_cons, byteRow, List.cons_append, List.nil_append, VRl, VR]
          exact ⟨_, _, rfl, rfl, ih⟩
      exact this _
    · cases h
  · cases h
    simp only [VR] at hx
    exact ⟨[], by simp [VRl], by simp, by simp, by simp, .inr (.inr (.inl ⟨_, _, hx, rfl⟩))⟩
  · rename_i g o n c
    split at h
    · rename_i e hg
      split at h
      · rename_i hz
        obtain ⟨hp1, hp2⟩ := part_some h
        simp only [VR] at hx
        obtain ⟨b, o0, sz, ce, ad, cap, hl, rfl, hn, hoc, hcap, hcn, had, hsp⟩ := hx
        have he := hS.ent g e b o0 sz ce hg hl
        have hsz : sz = z := by rw [← hz, he.z]
        subst hsz
        have hrl : r.length = n := by rw [hp2]; simp; omega
        by_cases h0 : n = 0
        · have : r = [] := List.length_eq_zero_iff.1 (by omega)
          subst this
          subst h0
          exact ⟨[], by simp [VRl], by simp, by simp, by simp, .inr (.inr (.inl ⟨_, _, rfl, rfl⟩))⟩
        · have hr : ∀ i l, r[i]? = some l → l.length = sz ∧ ∀ j x, l[j]? = some x → ∃ v, w.cell? ⟨b, o0 + o * sz + i * sz + j, none⟩ = some v ∧ VR G w x v ∧ plainV v = true := by
            intro i l hil
            rw [hp2, List.getElem?_take] at hil
            split at hil
            · rw [List.getElem?_drop] at hil
              obtain ⟨g1, g2⟩ := he.rows (o + i) l hil
              refine ⟨g1, fun j x hj => ?_⟩
              have := g2 j x hj
              rwa [show o0 + (o + i) * sz + j = o0 + o * sz + i * sz + j from by rw [Nat.add_mul]; omega] at this
            · cases hil
          obtain ⟨vs, h1, h2, h3, h4⟩ := key r b (o0 + o * sz) hr
          refine ⟨vs, h1, h2, h3, fun l hl' => ?_, .inl ⟨b, o0 + o * sz, cap, by rw [had (by omega), hrl], h4⟩⟩
          obtain ⟨i, hi⟩ := List.mem_iff_getElem?.1 hl'
          exact (hr i l hi).1
      · cases h
    · cases h
  · cases h
end Go.Proofs.Ythfplgfpodmphaa.VE
