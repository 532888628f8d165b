/- The evaluator by value: what it tells, the model does. -/
import Derived.Test.YthfplgfpodmphaaVm
namespace Go.Proofs.Ythfplgfpodmphaa.VE
variable {G G' : Gh} {w w' : World} {s s' : St} {P : Program}
def valS (x : Sem Value) : Sem Next := do pure (.value (← x))
theorem valS_run {x : Sem Value} {y : Value} {w1 w2 : World} (h : x.run P w1 = .ok y w2) : (valS x).run P w1 = .ok (.value y) w2 := by
  simp only [valS, Sem.run_bind, h, Result.andThen_ok, Sem.run_pure]
def QOk (P : Program) (G : Gh) (s : St) (w : World) (v : PV) (x : Sem Value) : Prop := ∃ y w' G', x.run P w = .ok y w' ∧ Stp G s w G' s w' ∧ VR G' w' v y
theorem QOk.of {v : PV} {x : Sem Value} (hS : Sim G s w) (h : ∃ y, x.run P w = .ok y w ∧ VR G w v y) : QOk P G s w v x :=
  let ⟨y, h1, h2⟩ := h; ⟨y, w, G, h1, Stp.refl hS, h2⟩
theorem vrl_map {ρ : Operand → PV} {ρ' : Operand → Value} (hρ : ∀ x, VR G w (ρ x) (ρ' x)) : ∀ l : List Operand, VRl G w (l.map ρ) (l.map ρ')
  | [] => by simp [VRl]
  | x :: l => by simp only [List.map_cons, VRl]; exact ⟨_, _, rfl, hρ x, vrl_map hρ l⟩
theorem conv_ok {src dst : TypeId} {x v : PV} {u : Value} (h : convP P s.heap src dst x = some v) (hS : Sim G s w) (hx : VR G w x u) : QOk P G s w v (convert src dst u) := by
  unfold convP at h
  split at h
  · rename_i e hs hd
    split at h
    · rename_i he
      split at h
      · rename_i hr
        simp only [Option.map_eq_some_iff] at h
        obtain ⟨bs, hb, rfl⟩ := h
        exact QOk.of hS ⟨_, bytesStr_ok hb hS hx hr hs hd he, by simp only [VR]⟩
      · cases h
    · cases h
  · rename_i e st hs hd
    split at h
    · rename_i he
      cases h
      simp only [VR] at hx
      subst hx
      exact strBytes_ok hS hs hd he
    · cases h
  · rename_i e e' z r n hs hd
    split at h
    · rename_i heq he
      cases h
      have : src = dst := by simpa using heq
      subst this
      obtain ⟨y, w1, h1, h2, h3⟩ := convMark_ok hS hs (by rw [hs] at hd; cases hd; exact he) hx
      exact ⟨y, w1, G, h1, h2, h3⟩
    · cases h
  · exact QOk.of hS (litOp_ok h hx)
theorem vr_bool {x : PV} {b : Bool} (h : VR G w x (.bool b)) : x = .lit (.bool b) := by
  cases x <;> simp only [VR] at h
  · rw [h]
  · obtain ⟨_, h, _⟩ := h; cases h
  · obtain ⟨_, h, _⟩ := h; cases h
  · rcases h with ⟨_, h, _⟩ | ⟨_, _, _, h, _⟩ <;> cases h
  · obtain ⟨_, _, _, _, _, _, _, h, _⟩ := h; cases h
  · obtain ⟨_, _, _, _, _, h⟩ := h; cases h
  · obtain ⟨_, _, h, _⟩ := h; cases h
  · obtain ⟨_, _, h, _⟩ := h; cases h
theorem opt_ok {ρ : Operand → PV} {ρ' : Operand → Value} (hρ : ∀ x, VR G w (ρ x) (ρ' x)) (x : Option Operand) : OptR G w (x.map ρ) (x.map ρ') := by
  cases x with
  | none => trivial
  | some x => exact hρ x
theorem litArgs_ok {ρ : Operand → PV} {ρ' : Operand → Value} (hρ : ∀ x, VR G w (ρ x) (ρ' x)) {x : Option Operand} {v : Option Value} (h : litArgs ρ x = some v) : x.map ρ' = v := by
  cases x with
  | none => simpa [litArgs] using h
  | some x =>
    simp only [litArgs] at h
    split at h
    · rename_i y hy
      cases h
      have := hρ x
      rw [hy] at this
      simp only [VR] at this
      simp [this]
    · cases h
theorem arr_map {α β : Type} (f : α → β) (p : Array α) : p.map f = (p.toList.map f).toArray := by apply Array.ext'; simp
theorem quiet_ok {o : Oper} {ρ : Operand → PV} {v : PV} (a : Act) (hρ : ∀ x, VR G w (ρ x) (a.eval x)) (h : quiet P s.heap ρ o = some v) (hS : Sim G s w) :
    ∃ y w' G', (execOp a.eval o).run P w = .ok (.value y) w' ∧ Stp G s w G' s w' ∧ VR G' w' v y := by
  have fin : ∀ {x : Sem Value}, QOk P G s w v x → execOp a.eval o = valS x → ∃ y w' G', (execOp a.eval o).run P w = .ok (.value y) w' ∧ Stp G s w G' s w' ∧ VR G' w' v y := by
    rintro x ⟨y, w1, G1, h1, h2, h3⟩ e
    exact ⟨y, w1, G1, by rw [e]; exact valS_run h1, h2, h3⟩
  obtain ⟨dst, op, ty, pos, after, guard⟩ := o
  cases op <;> simp only [quiet, reduceCtorEq] at h
  case move x => cases h; exact ⟨_, w, G, rfl, Stp.refl hS, hρ x⟩
  case assign x => cases h; exact ⟨_, w, G, rfl, Stp.refl hS, hρ x⟩
  case pick c x y =>
    split at h
    · rename_i q hq
      cases h
      have hc := hρ c
      rw [hq] at hc
      simp only [VR] at hc
      refine ⟨if q then a.eval x else a.eval y, w, G, ?_, Stp.refl hS, ?_⟩
      · simp [execOp, hc, asBool]
      · cases q
        · exact hρ y
        · exact hρ x
    · cases h
  case build t parts =>
    split at h
    · rename_i z f hz hf
      simp only [Option.map_eq_some_iff] at h
      obtain ⟨l, hl, rfl⟩ := h
      exact fin (QOk.of hS (build_ok hρ hz hf hl)) rfl
    · cases h
  case buildSlice t n parts =>
    split at h
    · rename_i e hu
      split at h
      · rename_i z hz
        split at h
        · cases h
        · rename_i hc
          simp only [not_or] at hc
          simp only [Option.map_eq_some_iff] at h
          obtain ⟨l, hl, rfl⟩ := h
          exact fin (buildSlice_ok hρ hS hu hz hc.1 hc.2.1 (by simpa using hc.2.2.1) hc.2.2.2 hl) rfl
      · cases h
    · cases h
  case load t x => exact fin (QOk.of hS (load_ok h hS (hρ x))) rfl
  case nilCheck x =>
    split at h
    · rename_i g i k hx
      cases h
      have := hρ x
      rw [hx] at this
      have h2 := this
      simp only [VR] at this
      obtain ⟨b, o0, sz, ce, _, e⟩ := this
      exact ⟨a.eval x, w, G, by simp [execOp, e], Stp.refl hS, h2⟩
    · rename_i l k hx
      cases h
      have := hρ x
      rw [hx] at this
      have h2 := this
      simp only [VR] at this
      obtain ⟨b, o0, e, _⟩ := this
      exact ⟨a.eval x, w, G, by simp [execOp, e], Stp.refl hS, h2⟩
    · rename_i f p q hx
      cases h
      have := hρ x
      rw [hx] at this
      have h2 := this
      simp only [VR] at this
      obtain ⟨as, cs, e, _⟩ := this
      exact ⟨a.eval x, w, G, by simp [execOp, e], Stp.refl hS, h2⟩
    · cases h
  case binOp op t x y yt => exact fin (QOk.of hS (bin_ok a h (hρ x) (hρ y) rfl)) rfl
  case unOp op t x => exact fin (QOk.of hS (litOp_ok h (hρ x))) rfl
  case convert src d x => exact fin (conv_ok h hS (hρ x)) rfl
  case makeFunc f p q =>
    cases h
    refine ⟨_, w, G, rfl, Stp.refl hS, ?_⟩
    simp only [VR]
    exact ⟨p.toList.map a.eval, q.toList.map a.eval, by rw [← arr_map, ← arr_map], vrl_map hρ _, vrl_map hρ _⟩
  case makeSlice t n c =>
    split at h
    · rename_i e kn kc hu hn hc
      split at h
      · rename_i z hz
        split at h
        · rename_i hcond
          cases h
          obtain ⟨q1, e1⟩ := vr_asI hn (hρ n)
          obtain ⟨q2, e2⟩ := vr_asI hc (hρ c)
          obtain ⟨cs, g1, g2, g3, g4⟩ := makeSlice_ok (G := G) (w := w) (kn := q1) (kc := q2) hu hz hcond.1 hcond.2.1 hcond.2.2.1 hcond.2.2.2.1 hcond.2.2.2.2.1 hcond.2.2.2.2.2
          refine fin (x := Instr.makeSlice t (a.eval n) (a.eval c)) ⟨_, _, _, by rw [e1, e2]; exact g1, Stp.made hS cs e, ?_⟩ rfl
          have hle : kn.toNat ≤ kc.toNat := by omega
          have hrep : (List.replicate kn.toNat z).flatten.length = kn.toNat * P.cellsOf e := by simp [hcond.2.2.2.1]
          have htk : VRl G w ((List.replicate kn.toNat z).flatten) (cs.toList.take (kn.toNat * P.cellsOf e)) := by
            have : (List.replicate kn.toNat z).flatten = ((List.replicate kc.toNat z).flatten).take (kn.toNat * P.cellsOf e) := by
              rw [show kc.toNat = kn.toNat + (kc.toNat - kn.toNat) from by omega, ← List.replicate_append_replicate, List.flatten_append, ← hrep, List.take_left]
            rw [this]
            exact vrl_take _ g3
          have := vr_made (G := G) (w := w) (s := s) (t := e) (fz := (0, 0)) (k := .is kc.toNat) hrep (by rw [g2]; exact Nat.mul_le_mul_right _ hle) hS htk (fun u hu' => g4 u (List.mem_of_mem_take hu')) hle (by simp [capOk, Cap.get])
          have hch := chunk_flat (P.cellsOf e) (List.replicate kn.toNat z) (fun x hx => by rw [List.eq_of_mem_replicate hx]; exact hcond.2.2.2.1)
          rw [List.length_replicate] at hch
          rwa [hch] at this
        · cases h
      · cases h
    · cases h
  case slice t x lo hi mx =>
    split at h
    · rename_i u hx
      split at h
      · rename_i p q r hp hq hr
        have hu := hρ x
        rw [hx] at hu
        simp only [VR] at hu
        obtain ⟨y, h1, h2⟩ := litMap_ok (G := G) h w
        refine fin (x := Instr.sliceAt t (a.eval x) (lo.map a.eval) (hi.map a.eval) (mx.map a.eval)) (QOk.of hS ⟨y, ?_, h2⟩) rfl
        rw [hu, litArgs_ok hρ hp, litArgs_ok hρ hq, litArgs_ok hρ hr]
        exact h1
      · cases h
    · split at h
      · rename_i e hu
        split at h
        · cases h
        · rename_i hne
          obtain ⟨i, hi'⟩ := info_of_cells hne
          exact fin (QOk.of hS (slice_ok hu hi' h hS (hρ x) (opt_ok hρ lo) (opt_ok hρ hi) (opt_ok hρ mx))) rfl
      · cases h
  case fieldAddr t x f =>
    split at h
    · rename_i d ty hf
      exact fin (QOk.of hS (fieldAddr_ok hf h (hρ x))) rfl
    · cases h
  case field t x f =>
    split at h
    · rename_i d ty l hf hx
      have := hρ x
      rw [hx] at this
      exact fin (QOk.of hS (field_ok hf h this)) rfl
    · cases h
  case indexAddr t x i => exact fin (QOk.of hS (indexAddr_ok h hS (hρ x) (hρ i))) rfl
  case index t x i =>
    split at h
    · rename_i u hx
      split at h
      · rename_i z hi
        have h1 := hρ x
        have h2 := hρ i
        rw [hx] at h1
        rw [hi] at h2
        simp only [VR] at h1 h2
        refine fin (x := Instr.index t (a.eval x) (a.eval i)) (QOk.of hS ?_) rfl
        rw [h1, h2]
        exact litMap_ok h w
      · cases h
    · rename_i l hx
      split at h
      · rename_i n e hu
        split at h
        · rename_i k hk
          have := hρ x
          rw [hx] at this
          exact fin (QOk.of hS (index_ok hu hk h this (hρ i))) rfl
        · cases h
      · cases h
    · cases h
  case extract x i =>
    split at h
    · rename_i l hx
      have := hρ x
      rw [hx] at this
      simp only [VR] at this
      obtain ⟨vs, e, hl⟩ := this
      obtain ⟨y, h1, h2⟩ := vrl_at l vs hl i v h
      refine fin (x := Instr.extract (a.eval x) i) (QOk.of hS ⟨y, ?_, h2⟩) rfl
      rw [e]
      simp [Instr.extract, h1]
    · cases h
  case call c =>
    obtain ⟨callee, args, argTypes⟩ := c
    have hargs := vrl_map hρ args.toList
    have hmap : (args.map a.eval).toList = args.toList.map a.eval := by simp
    split at h
    · rename_i hb
      simp only at hb
      subst hb
      refine fin (x := Builtin.len_ argTypes ty (args.map a.eval)) (QOk.of hS ?_) rfl
      split at h
      · rename_i x hx
        rw [hx] at hargs
        simp only [VRl] at hargs
        obtain ⟨u, t, ht, hu, rfl⟩ := hargs
        have ha0 : (args.map a.eval)[0]? = some u := by
          rw [← Array.getElem?_toList, hmap, ht]; rfl
        simp only at h
        cases ha : argTypes[0]? with
        | none => rw [ha] at h; simp at h
        | some t0 =>
          rw [ha] at h
          simp only [Option.bind_some] at h
          split at h
          · rename_i e hut
            split at h
            · rename_i hr
              simp only [Option.map_eq_some_iff] at h
              obtain ⟨n, hn, rfl⟩ := h
              rcases lenP_ok hn hu with ⟨b, c, rfl⟩ | ⟨st, rfl, _⟩
              · exact ⟨goInt n, by simp [Builtin.len_, ha, ha0, run_underlying hut], by simp only [VR]⟩
              · cases x <;> simp only [isRow, Bool.false_eq_true] at hr <;> simp only [VR] at hu
                · rcases hu with ⟨_, hu, _⟩ | ⟨_, _, _, hu, _⟩ <;> cases hu
                · obtain ⟨_, _, _, _, _, _, _, hu, _⟩ := hu; cases hu
            · cases h
          · rename_i hut
            split at h
            · rename_i st
              cases h
              simp only [VR] at hu
              subst hu
              exact ⟨goInt st.size, by simp [Builtin.len_, ha, ha0, run_underlying hut], by simp only [VR]⟩
            · cases h
          · rename_i n e hut
            cases h
            exact ⟨goInt n, by simp [Builtin.len_, ha, ha0, run_underlying hut], by simp only [VR]⟩
          · cases h
      · cases h
    · rename_i hb
      simp only at hb
      subst hb
      refine fin (x := Builtin.cap_ argTypes ty (args.map a.eval)) (QOk.of hS ?_) rfl
      simp only at h
      split at h
      · rename_i z r k hx
        rw [hx] at hargs
        simp only [VRl] at hargs
        obtain ⟨u, t, ht, hu, rfl⟩ := hargs
        have ha0 : (args.map a.eval)[0]? = some u := by
          rw [← Array.getElem?_toList, hmap, ht]; rfl
        cases ha : argTypes[0]? with
        | none => rw [ha] at h; simp at h
        | some t0 =>
          rw [ha] at h
          simp only [Option.bind_some] at h
          split at h
          · rename_i e hut
            simp only [Option.map_eq_some_iff] at h
            obtain ⟨n, hn, rfl⟩ := h
            simp only [VR] at hu
            rcases hu with ⟨_, rfl, hc, _⟩ | ⟨b, o, cap, rfl, _, hc, _⟩
            · exact ⟨goInt n, by simp [Builtin.cap_, ha, ha0, run_underlying hut, ← hc n hn], by simp only [VR]⟩
            · exact ⟨goInt n, by simp [Builtin.cap_, ha, ha0, run_underlying hut, hc n hn], by simp only [VR]⟩
          · cases h
      · rename_i g o n k hx
        rw [hx] at hargs
        simp only [VRl] at hargs
        obtain ⟨u, t, ht, hu, rfl⟩ := hargs
        have ha0 : (args.map a.eval)[0]? = some u := by
          rw [← Array.getElem?_toList, hmap, ht]; rfl
        cases ha : argTypes[0]? with
        | none => rw [ha] at h; simp at h
        | some t0 =>
          rw [ha] at h
          simp only [Option.bind_some] at h
          split at h
          · rename_i e hut
            simp only [Option.map_eq_some_iff] at h
            obtain ⟨m, hm, rfl⟩ := h
            simp only [VR] at hu
            obtain ⟨b, o0, sz, ce, ad, cap, _, rfl, _, _, hc, _⟩ := hu
            exact ⟨goInt m, by simp [Builtin.cap_, ha, ha0, run_underlying hut, hc m hm], by simp only [VR]⟩
          · cases h
      · cases h
    · rename_i hb
      simp only at hb
      subst hb
      simp only [Option.bind_eq_some_iff] at h
      obtain ⟨vs, hv, h⟩ := h
      have := vrl_lits _ _ _ hv hargs
      refine fin (x := Builtin.min_ argTypes ty (args.map a.eval)) (QOk.of hS ?_) rfl
      have e : args.map a.eval = vs.toArray := by apply Array.ext'; rw [hmap, this]
      rw [e]
      exact litMap_ok h w
    · rename_i hb
      simp only at hb
      subst hb
      simp only [Option.bind_eq_some_iff] at h
      obtain ⟨vs, hv, h⟩ := h
      have := vrl_lits _ _ _ hv hargs
      refine fin (x := Builtin.max_ argTypes ty (args.map a.eval)) (QOk.of hS ?_) rfl
      have e : args.map a.eval = vs.toArray := by apply Array.ext'; rw [hmap, this]
      rw [e]
      exact litMap_ok h w
    · cases h
end Go.Proofs.Ythfplgfpodmphaa.VE
