/- The evaluator by value: what it tells, the model does. -/
import Derived.Test.YthfplgfpodmphaaVg
namespace Go.Proofs.Ythfplgfpodmphaa.VE
variable {G G' : Gh} {w w' : World} {s s' : St} {P : Program}
theorem info_of_underlying {t : TypeId} {d : TypeDesc} (h : P.underlying t = some d) : ∃ i, P.info? t = some i := by
  unfold Program.underlying at h
  cases hi : P.info? t with
  | none => rw [hi] at h; cases h
  | some i => exact ⟨i, rfl⟩
theorem run_sizeOf {t : TypeId} {i : TypeInfo} (h : P.info? t = some i) : (sizeOf t).run P w = .ok (P.cellsOf t) w := by
  simp [sizeOf, typeInfo, h, Program.cellsOf]
theorem run_isAgg {t : TypeId} {d : TypeDesc} (h : P.underlying t = some d) : (isAgg t).run P w = .ok (isAggD d) w := by
  simp only [isAgg, underlying, Sem.run_bind, run_program, Result.andThen_ok, h, Sem.run_pure]
  cases d <;> rfl
theorem add_off (b o j : Nat) : (⟨b, o, none⟩ : Addr).add j = ⟨b, o + j, none⟩ := by unfold Addr.add; split <;> simp_all
/-- Cells from a place, seen as a value. -/
theorem mk_ok {t : TypeId} {l : List PV} {o : Nat} {v : PV} (h : mk P t l o = some v) {b base : Nat}
    (hc : ∀ j x, l[j]? = some x → ∃ u, w.cell? ⟨b, base + j, none⟩ = some u ∧ VR G w x u ∧ plainV u = true) :
    ∃ u, (loadVar t ⟨b, base + o, none⟩).run P w = .ok u w ∧ VR G w v u := by
  unfold mk at h
  cases hu : P.underlying t with
  | none => rw [hu] at h; cases h
  | some d =>
    rw [hu] at h
    simp only at h
    obtain ⟨i, hi⟩ := info_of_underlying hu
    by_cases hd : isAggD d = true
    · rw [if_pos hd] at h
      split at h
      · rename_i hle
        cases h
        have hex : ∃ us : List Value, VRl G w ((l.drop o).take (P.cellsOf t)) us ∧ (∀ u ∈ us, plainV u = true) ∧ us.length = P.cellsOf t ∧ ∀ j u, us[j]? = some u → w.cell? ⟨b, base + o + j, none⟩ = some u := by
          have key : ∀ (n o : Nat), o + n ≤ l.length → ∃ us : List Value, VRl G w ((l.drop o).take n) us ∧ (∀ u ∈ us, plainV u = true) ∧ us.length = n ∧ ∀ j u, us[j]? = some u → w.cell? ⟨b, base + o + j, none⟩ = some u := by
            intro n
            induction n with
            | zero => intro o _; exact ⟨[], by simp [VRl], by simp, rfl, by simp⟩
            | succ n ih =>
              intro o ho
              obtain ⟨us, h1, h2, h3, h4⟩ := ih (o + 1) (by omega)
              have hlt : o < l.length := by omega
              obtain ⟨u, h5, h6, h7⟩ := hc o l[o] (List.getElem?_eq_getElem hlt)
              refine ⟨u :: us, ?_, ?_, by simp [h3], ?_⟩
              · rw [List.drop_eq_getElem_cons hlt, List.take_succ_cons]
                simp only [VRl]
                exact ⟨u, us, rfl, h6, h1⟩
              · intro x hx
                rcases List.mem_cons.1 hx with rfl | hx
                · exact h7
                · exact h2 x hx
              · intro j x hj
                cases j with
                | zero => cases hj; exact h5
                | succ j => have := h4 j x hj; rwa [show base + (o + 1) + j = base + o + (j + 1) from by omega] at this
          exact key _ _ hle
        obtain ⟨us, h1, h2, h3, h4⟩ := hex
        refine ⟨.agg us.toArray, ?_, ?_⟩
        · have hl := run_loadCells_list (P := P) w ⟨b, base + o, none⟩ us (fun j u hj => by rw [add_off]; exact h4 j u hj)
          rw [h3] at hl
          simp only [loadVar, Sem.run_bind, run_isAgg hu, Result.andThen_ok, hd, if_true, run_sizeOf hi, hl, Sem.run_pure]
        · simp only [VR]
          exact ⟨us, rfl, h1, h2⟩
      · cases h
    · rw [if_neg hd] at h
      obtain ⟨u, h1, h2, _⟩ := hc o v h
      refine ⟨u, ?_, h2⟩
      simp only [Bool.not_eq_true] at hd
      simp only [loadVar, Sem.run_bind, run_isAgg hu, Result.andThen_ok, hd, Bool.false_eq_true, if_false, run_load, h1]
theorem load_ok {t : TypeId} {p v : PV} {u : Value} (h : loadP P t s.heap p = some v) (hS : Sim G s w) (hp : VR G w p u) :
    ∃ x, (Instr.loadAt t u).run P w = .ok x w ∧ VR G w v x := by
  unfold loadP at h
  split at h
  · rename_i g i o
    simp only [VR] at hp
    obtain ⟨b, o0, sz, ce, hl, rfl⟩ := hp
    cases hg : get s.heap g with
    | none => rw [hg] at h; cases h
    | some e =>
      rw [hg] at h
      simp only at h
      cases hi : e.r[i]? with
      | none => rw [hi] at h; cases h
      | some l =>
        rw [hi] at h
        have he := hS.ent g e b o0 sz ce hg hl
        obtain ⟨_, hc⟩ := he.rows i l hi
        obtain ⟨x, h1, h2⟩ := mk_ok h (b := b) (base := o0 + i * sz) hc
        exact ⟨x, by simpa [Instr.loadAt, Instr.sureAddr] using h1, h2⟩
  · rename_i l o
    simp only [VR] at hp
    obtain ⟨b, base, rfl, hc⟩ := hp
    rw [cl_iff] at hc
    obtain ⟨x, h1, h2⟩ := mk_ok h (b := b) (base := base) (fun j x hj => by
      obtain ⟨u, h3, h4, h5, _⟩ := hc j x hj
      exact ⟨u, h3, h4, h5⟩)
    exact ⟨x, by simpa [Instr.loadAt, Instr.sureAddr] using h1, h2⟩
  · cases h
end Go.Proofs.Ythfplgfpodmphaa.VE
