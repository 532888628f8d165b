/- The evaluator by value: what it tells, the model does. -/
import Derived.Test.YthfplgfpodmphaaVn
namespace Go.Proofs.Ythfplgfpodmphaa.VE
variable {G G' : Gh} {w w' : World} {s s' : St} {P : Program}
theorem plain_one {v : Value} (h : plainV v = true) : v.oneCell' = true := by cases v <;> first | rfl | cases h
/-- An operation that may turn what was made. -/
def EOk (P : Program) (G : Gh) (s : St) (w : World) (v : PV) (s' : St) (x : Sem Next) : Prop :=
  ∃ n y w' G', x.run P w = .ok n w' ∧ (n = .value y ∨ (n = .skip ∧ y = undef)) ∧ Stp G s w G' s' w' ∧ VR G' w' v y
theorem EOk.val {v : PV} {x : Sem Value} (h : ∃ y w' G', x.run P w = .ok y w' ∧ Stp G s w G' s' w' ∧ VR G' w' v y) : EOk P G s w v s' (valS x) :=
  let ⟨y, w1, G1, h1, h2, h3⟩ := h; ⟨.value y, y, w1, G1, valS_run h1, .inl rfl, h2, h3⟩
/-- A row of one thing that is new. -/
theorem new_one (hS : Sim G s w) {l : List PV} {v : Value} (t : TypeId) (hl : VRl G w l v.cells.toList) (hp : ∀ u ∈ v.cells.toList, plainV u = true) :
    Stp G s w (G.born s.next (w.heap.size, 0, l.length, 1) 0) (s.new ⟨l.length, [l], 0⟩) (w.alloc (.cells v.cells t)) ∧
      VR (G.born s.next (w.heap.size, 0, l.length, 1) 0) (w.alloc (.cells v.cells t)) (.ptr s.next 0 0) (.pointer (some ⟨w.heap.size, 0, none⟩)) := by
  have hln := vrl_len _ _ hl
  simp only [Array.length_toList] at hln
  have hb := Stp.born hS v.cells t ⟨l.length, [l], 0⟩ 1 (by simp) (by simp; omega) (by simp) (fun i x hx => ?_)
  rw [Nat.zero_mul] at hb
  refine ⟨hb, ?_⟩
  rotate_left
  · cases i with
    | zero =>
      cases hx
      refine ⟨rfl, fun j y hj => ?_⟩
      obtain ⟨u, h1, h2⟩ := vrl_at _ _ hl j y hj
      exact ⟨u, by simpa using h1, h2, hp u (List.mem_of_getElem? h1)⟩
    | succ i => simp at hx
  · simp only [VR]
    exact ⟨w.heap.size, 0, l.length, 1, if_pos rfl, by simp⟩
theorem alloc_ok {t : TypeId} {z : List PV} (hS : Sim G s w) (hz : zeroL P t = some z) : ∃ y w' G', (Instr.alloc t true (.tuple #[])).run P w = .ok y w' ∧ Stp G s w G' (s.new ⟨z.length, [z], 0⟩) w' ∧ VR G' w' (.ptr s.next 0 0) y := by
  obtain ⟨i, v, hi, hzv, h1, h2⟩ := zero_ok hz w G
  obtain ⟨h3, h4⟩ := new_one hS t h1 h2
  exact ⟨_, _, _, by simp [Instr.alloc, zeroValue, typeInfo, hi, hzv, newVar, newRow], h3, h4⟩
theorem box_ok {t : TypeId} {x : PV} {l : List PV} {u : Value} (hS : Sim G s w) (hl : leaves x = some l) (hx : VR G w x u) : ∃ y w' G', (Instr.box t u).run P w = .ok y w' ∧ Stp G s w G' (s.new ⟨l.length, [l], 0⟩) w' ∧ VR G' w' (.ptr s.next 0 0) y := by
  obtain ⟨h1, h2⟩ := vr_leaves hl hx
  obtain ⟨h3, h4⟩ := new_one hS t h1 h2
  exact ⟨_, _, _, by simp [Instr.box, newVar, newRow], h3, h4⟩
theorem seg_get {cs us : List Value} {p : Nat} (h : p + us.length ≤ cs.length) (k : Nat) : (cs.take p ++ us ++ cs.drop (p + us.length))[k]? = if k < p then cs[k]? else if k < p + us.length then us[k - p]? else cs[k]? := by
  rw [List.append_assoc, List.getElem?_append]
  simp only [List.length_take]
  by_cases h1 : k < p
  · rw [if_pos (by omega), if_pos h1, List.getElem?_take, if_pos h1]
  · rw [if_neg (by omega), if_neg h1, List.getElem?_append]
    rw [show min p cs.length = p from by omega]
    by_cases h2 : k < p + us.length
    · rw [if_pos (by omega), if_pos h2]
    · rw [if_neg (by omega), if_neg h2, List.getElem?_drop]
      congr 1
      omega
/-- Cells of one's own rows are written: the world behind it. -/
theorem write_ok (hS : Sim G s w) {g : Nat} {e : Ent} {b o0 sz ce : Nat} (hg : get s.heap g = some e) (hl : G.loc g = some (b, o0, sz, ce)) {us : List Value} (hp : ∀ u ∈ us, plainV u = true) {p : Nat} (hlo : e.lw * sz ≤ p) (hhi : p + us.length ≤ ce * sz)
    {r' : List (List PV)} (hrl : r'.length ≤ ce) (hlw : e.lw ≤ r'.length)
    (hr : ∀ i l, r'[i]? = some l → l.length = sz ∧ ∀ j x, l[j]? = some x → if i * sz + j < p then (∃ l0, e.r[i]? = some l0 ∧ l0[j]? = some x) else if i * sz + j < p + us.length then (∃ v, us[i * sz + j - p]? = some v ∧ VR G w x v) else (∃ l0, e.r[i]? = some l0 ∧ l0[j]? = some x)) :
    ∃ w', (storeCells ⟨b, o0 + p, none⟩ us).run P w = .ok () w' ∧ Stp G s w G ⟨upd s.heap g ⟨e.z, r', e.lw⟩, s.next⟩ w' := by
  have he := hS.ent g e b o0 sz ce hg hl
  obtain ⟨c, t, hobj, hsz⟩ := he.obj
  have hfit : o0 + p + us.length ≤ c.toList.length := by simp; omega
  have hst := run_storeCells_at (P := P) b (o0 + p) t us 0 c w hobj (by simp; omega) (fun u hu => plain_one (hp u hu))
  refine ⟨_, hst, ?_⟩
  have hget : ∀ k, (c.toList.take (o0 + p + 0) ++ us ++ c.toList.drop (o0 + p + 0 + us.length)).toArray[k]? = if k < o0 + p then c[k]? else if k < o0 + p + us.length then us[k - (o0 + p)]? else c[k]? := by
    intro k
    have := seg_get (cs := c.toList) (us := us) (p := o0 + p) hfit k
    simpa using this
  refine Stp.put hS hg hl hobj (by simp at hfit ⊢; omega) rfl rfl hrl hlw (fun o ho => ?_) (fun i l hi => ?_)
  · rw [hget, if_pos (by omega)]
  · obtain ⟨h1, h2⟩ := hr i l hi
    refine ⟨h1, fun j x hj => ?_⟩
    have h3 := h2 j x hj
    have old : (∃ l0, e.r[i]? = some l0 ∧ l0[j]? = some x) → ∃ v, c[o0 + i * sz + j]? = some v ∧ VR G w x v ∧ plainV v = true := by
      rintro ⟨l0, h4, h5⟩
      obtain ⟨_, h6⟩ := he.rows i l0 h4
      obtain ⟨v, h7, h8, h9⟩ := h6 j x h5
      refine ⟨v, ?_, h8, h9⟩
      simpa [World.cell?, hobj] using h7
    rw [hget]
    by_cases q1 : i * sz + j < p
    · rw [if_pos (by omega)]
      rw [if_pos q1] at h3
      exact old h3
    · rw [if_neg (by omega)]
      rw [if_neg q1] at h3
      by_cases q2 : i * sz + j < p + us.length
      · rw [if_pos (by omega)]
        rw [if_pos q2] at h3
        obtain ⟨v, h4, h5⟩ := h3
        refine ⟨v, ?_, h5, hp v (List.mem_of_getElem? h4)⟩
        rwa [show o0 + i * sz + j - (o0 + p) = i * sz + j - p from by omega]
      · rw [if_neg (by omega)]
        rw [if_neg q2] at h3
        exact old h3
theorem setL_get {l vs : List PV} {o : Nat} (h : o + vs.length ≤ l.length) (k : Nat) : (setL l o vs)[k]? = if k < o then l[k]? else if k < o + vs.length then vs[k - o]? else l[k]? := by
  unfold setL
  rw [List.append_assoc, List.getElem?_append]
  simp only [List.length_take]
  by_cases h1 : k < o
  · rw [if_pos (by omega), if_pos h1, List.getElem?_take, if_pos h1]
  · rw [if_neg (by omega), if_neg h1, List.getElem?_append]
    rw [show min o l.length = o from by omega]
    by_cases h2 : k < o + vs.length
    · rw [if_pos (by omega), if_pos h2]
    · rw [if_neg (by omega), if_neg h2, List.getElem?_drop]
      congr 1
      omega
theorem store_ok {t : TypeId} {p x : PV} {h' : Hp} {u v : Value} (hS : Sim G s w) (h : storeP P t s.heap p x = some h') (hp : VR G w p u) (hx : VR G w x v) :
    ∃ w', (Instr.storeAt t u v).run P w = .ok () w' ∧ Stp G s w G ⟨h', s.next⟩ w' := by
  unfold storeP at h
  split at h
  · rename_i g i o
    split at h
    · rename_i e hg
      split at h
      · rename_i l hi
        split at h
        · rename_i vs hvs
          split at h
          · rename_i hc
            cases h
            simp only [VR] at hp
            obtain ⟨b, o0, sz, ce, hl, rfl⟩ := hp
            have he := hS.ent g e b o0 sz ce hg hl
            obtain ⟨h1, h2⟩ := vr_leaves hvs hx
            have hvl := vrl_len _ _ h1
            have hil : i < e.r.length := by
              false_or_by_contra; rename_i hh
              rw [List.getElem?_eq_none (by omega)] at hi; cases hi
            have hll := (he.rows i l hi).1
            obtain ⟨inf, hinf⟩ := info_of_cells hc.2.2.1
            have hle : i * sz + sz ≤ ce * sz := by
              have : (i + 1) * sz ≤ ce * sz := Nat.mul_le_mul_right _ (by have := he.len; omega)
              rw [Nat.add_mul] at this; omega
            have hlo : e.lw * sz ≤ i * sz := Nat.mul_le_mul_right _ hc.1
            obtain ⟨w', h3, h4⟩ := write_ok (P := P) hS hg hl (us := v.cells.toList) h2 (p := i * sz + o) (by omega) (by omega) (r' := e.r.set i (setL l o vs)) (by simp; exact he.len) (by simp; exact he.lw) (fun i' l' hi' => by
              rw [List.getElem?_set] at hi'
              by_cases hii : i = i'
              · subst hii
                rw [if_pos rfl, if_pos hil] at hi'
                cases hi'
                refine ⟨by rw [setL_len (by omega)]; exact hll, fun j y hj => ?_⟩
                rw [setL_get (by omega)] at hj
                by_cases q1 : j < o
                · rw [if_pos q1] at hj
                  rw [if_pos (by omega)]
                  exact ⟨l, hi, hj⟩
                · rw [if_neg q1] at hj
                  rw [if_neg (by omega)]
                  by_cases q2 : j < o + vs.length
                  · rw [if_pos q2] at hj
                    rw [if_pos (by omega)]
                    obtain ⟨q, h5, h6⟩ := vrl_at _ _ h1 _ _ hj
                    exact ⟨q, by rwa [show i * sz + j - (i * sz + o) = j - o from by omega], h6⟩
                  · rw [if_neg q2] at hj
                    rw [if_neg (by omega)]
                    exact ⟨l, hi, hj⟩
              · rw [if_neg hii] at hi'
                have hl' := (he.rows i' l' hi').1
                refine ⟨hl', fun j y hj => ?_⟩
                have hjl : j < sz := by
                  false_or_by_contra; rename_i hh
                  rw [List.getElem?_eq_none (by omega)] at hj; cases hj
                rcases Nat.lt_or_gt_of_ne hii with hlt | hgt
                · have : (i + 1) * sz ≤ i' * sz := Nat.mul_le_mul_right _ hlt
                  rw [Nat.add_mul] at this
                  rw [if_neg (by omega), if_neg (by omega)]
                  exact ⟨l', hi', hj⟩
                · have : (i' + 1) * sz ≤ i * sz := Nat.mul_le_mul_right _ hgt
                  rw [Nat.add_mul] at this
                  rw [if_pos (by omega)]
                  exact ⟨l', hi', hj⟩)
            refine ⟨w', ?_, h4⟩
            have hcs : v.cells.size = P.cellsOf t := by
              rw [← hc.2.1, hvl]; simp
            simp only [Instr.storeAt, Instr.sureAddr, Sem.run_bind, Sem.run_pure, Result.andThen_ok, storeVar, run_sizeOf hinf, hcs, ne_eq, not_true_eq_false, if_false]
            rw [show o0 + i * sz + o = o0 + (i * sz + o) from by omega]
            exact h3
          · cases h
        · cases h
      · cases h
    · cases h
  · cases h
end Go.Proofs.Ythfplgfpodmphaa.VE
