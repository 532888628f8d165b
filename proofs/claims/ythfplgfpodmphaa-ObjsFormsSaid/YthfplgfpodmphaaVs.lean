/- The evaluator by value: what it tells, the model does. -/
import Derived.Test.YthfplgfpodmphaaVr
namespace Go.Proofs.Ythfplgfpodmphaa.VE
variable {G G' : Gh} {w w' : World} {s s' : St} {C : Cfg}
theorem two_args {ρ : Operand → PV} {ρ' : Operand → Value} (hρ : ∀ x, VR G w (ρ x) (ρ' x)) {args : Array Operand} {x y : PV} (h : args.toList.map ρ = [x, y]) : ∃ u z, args.map ρ' = #[u, z] ∧ VR G w x u ∧ VR G w y z := by
  have hv := vrl_map hρ args.toList
  rw [h] at hv
  simp only [VRl] at hv
  obtain ⟨u, t, ht, hu, z, t', rfl, hz, rfl⟩ := hv
  exact ⟨u, z, by rw [arr_map, ht], hu, hz⟩
theorem one_arg {ρ : Operand → PV} {ρ' : Operand → Value} (hρ : ∀ x, VR G w (ρ x) (ρ' x)) {args : Array Operand} {x : PV} (h : args.toList.map ρ = [x]) : ∃ u, args.map ρ' = #[u] ∧ VR G w x u := by
  have hv := vrl_map hρ args.toList
  rw [h] at hv
  simp only [VRl] at hv
  obtain ⟨u, t, ht, hu, rfl⟩ := hv
  exact ⟨u, by rw [arr_map, ht], hu⟩
theorem vr_undef : VR G w undefV undef := by simp only [VR, undefV]; rfl
theorem bind_arg {P : Program} {a : Array TypeId} {i : Nat} {d : TypeDesc} (h : (a[i]?).bind P.underlying = some d) : ∃ t, a[i]? = some t ∧ P.underlying t = some d := by
  simp only [Option.bind_eq_some_iff] at h
  exact h
theorem appRun_src {P : Program} {argTypes : Array TypeId} {t t1 e ty : TypeId} {i : TypeInfo} {z : Value} {y : Value} {n : Nat} {news : List Value} (h0 : argTypes[0]? = some t) (h1 : argTypes[1]? = some t1) (ht : P.underlying t = some (.slice e)) (hd : NoNum P t1) (hi : P.info? e = some i) (hz : i.zero = some z) (hb : i.bytes ≤ 2 ^ 16)
    (hs : SrcR P w i.size n y news) (hlen : news.length = n * i.size) : AppRun P argTypes ty e z i.size w y n news where
  room a sl sc w2 _ h h' := run_app_in h0 h1 ht hd hi hs h h'
  none hn b sl sc h := by
    subst hn
    exact run_app_nil h0 h1 ht hd hi hs h (by simpa using hlen)
  grow x sl sc b olds _ hx ho h h' := run_app_grow h0 h1 ht hd hi hz hx ho hs h h' hb
theorem appRun_num {P : Program} {argTypes : Array TypeId} {t t1 e ty : TypeId} {i : TypeInfo} {z : Value} {k kk : IntKind} {m : Int} (h0 : argTypes[0]? = some t) (h1 : argTypes[1]? = some t1) (ht : P.underlying t = some (.slice e)) (hd : P.underlying t1 = some (.int k)) (hi : P.info? e = some i) (hz : i.zero = some z) (hb : i.bytes ≤ 2 ^ 16)
    (hm : 0 ≤ m) (hm2 : m.toNat ≤ 2 ^ 30) (hne : i.size ≠ 0) : AppRun P argTypes ty e z i.size w (.int kk m) m.toNat (Builtin.zeroCells z.cells m.toNat).toList where
  room a sl sc w2 hp h h' := run_app_in_z h0 h1 ht hd hi hz hm hm2 hb (Nat.mul_ne_zero (by omega) hne) h h'
  none hn b sl sc h := by
    have hm0 : m = 0 := by omega
    subst hm0
    have wl : IntKind.i64.wrap 0 = 0 := by rw [IntKind.wrap_i64]; omega
    cases b <;> simp [Builtin.append_, h0, h1, run_underlying ht, run_underlying hd, sizeOf, typeInfo, zeroValue, hi, hz, asInt, asIntOf, wl, h, storeCells]
  grow x sl sc b olds hp hx ho h h' := run_app_grow_z h0 h1 ht hd hi hz hm hb (Nat.mul_ne_zero (by omega) hne) hx ho h h'
theorem app_ok {P : Program} {ts : Array TypeId} {ty : TypeId} {x y v : PV} {u z : Value} (h : appStep P ts x y s = some (v, s')) (hS : Sim G s w) (hx : VR G w x u) (hy : VR G w y z) :
    ∃ r w' G', (Builtin.append_ ts ty #[u, z]).run P w = .ok r w' ∧ Stp G s w G' s' w' ∧ VR G' w' v r := by
  unfold appStep at h
  split at h
  · rename_i e he
    obtain ⟨t, h0, ht⟩ := bind_arg he
    split at h
    · cases h
    · rename_i hc
      simp only [not_or] at hc
      split at h
      · cases h
      · rename_i zl hzl
        split at h
        · cases h
        · rename_i hlen
          simp only [ne_eq, Classical.not_not] at hlen
          obtain ⟨i, zv, hi, hzv, hv1, hv2⟩ := zero_ok hzl w G
          have hvl := vrl_len _ _ hv1
          simp only [Array.length_toList] at hvl
          have hsz : i.size = P.cellsOf e := by simp [Program.cellsOf, hi]
          have hby : i.bytes ≤ 2 ^ 16 := by
            have : i.bytes = P.bytesOf e := by simp [Program.bytesOf, hi]
            omega
          have hzc : zv.cells.size = P.cellsOf e := by omega
          have src : ∀ t1 ys, ts[1]? = some t1 → NoNum P t1 → rowsOf s.heap (P.cellsOf e) y = some ys → appendP s (P.cellsOf e) x ys = some (v, s') → ∃ r w' G', (Builtin.append_ ts ty #[u, z]).run P w = .ok r w' ∧ Stp G s w G' s' w' ∧ VR G' w' v r := by
            intro t1 ys h1 hd hr ha
            obtain ⟨vs, g1, g2, g3, g4, g5⟩ := rows_ok hr hS hy
            have hA := appRun_src (P := P) (ty := ty) h0 h1 ht hd hi hzv hby (by rw [hsz]; exact src_of (P := P) g3 g5) (by rw [hsz]; exact g3)
            rw [hsz] at hA
            exact append_ok hA hS ha hx g1 g2 g4 g3 hzc
          split at h
          · rename_i k hk
            obtain ⟨t1, h1, hd⟩ := bind_arg hk
            split at h
            · rename_i n hn
              split at h
              · rename_i hcond
                obtain ⟨kk, rfl⟩ := vr_asI hn hy
                have hA := appRun_num (P := P) (ty := ty) (kk := kk) (w := w) h0 h1 ht hd hi hzv hby hcond.1 (by simpa [room] using hcond.2) (by rw [hsz]; exact hc.1)
                have hzs : (Builtin.zeroCells zv.cells n.toNat).toList = (List.replicate n.toNat zv.cells.toList).flatten := zeros_eq zv n.toNat (by omega)
                rw [hzs, hsz] at hA
                have hrl : (List.replicate n.toNat zl).length = n.toNat := by simp
                refine append_ok (ys := List.replicate n.toNat zl) (by rw [hrl]; exact hA) hS h hx (vrl_rep hv1 _) (fun q hq => hv2 q (mem_rep hq)) (fun l hl => by rw [List.eq_of_mem_replicate hl]; exact hlen) ?_ hzc
                simp [hzc]
              · cases h
            · cases h
          · rename_i e1 hk
            obtain ⟨t1, h1, hd⟩ := bind_arg hk
            split at h
            · rename_i ys hr
              exact src t1 ys h1 (.inl ⟨_, hd⟩) hr h
            · cases h
          · rename_i hk
            obtain ⟨t1, h1, hd⟩ := bind_arg hk
            split at h
            · rename_i ys hr
              exact src t1 ys h1 (.inr hd) hr h
            · cases h
          · cases h
  · cases h
theorem eff_ok {P : Program} {o : Oper} {ρ : Operand → PV} {v : PV} (a : Act) (hρ : ∀ x, VR G w (ρ x) (a.eval x)) (h : effP P ρ s o.op = some (v, s')) (hS : Sim G s w) : EOk P G s w v s' (execOp a.eval o) := by
  obtain ⟨dst, op, ty, pos, after, guard⟩ := o
  cases op <;> simp only [effP, reduceCtorEq] at h
  case box t x =>
    simp only [Option.map_eq_some_iff, Prod.mk.injEq] at h
    obtain ⟨l, hl, rfl, rfl⟩ := h
    exact EOk.val (box_ok hS hl (hρ x))
  case store t p x =>
    simp only [Option.map_eq_some_iff, Prod.mk.injEq] at h
    obtain ⟨h', hh, rfl, rfl⟩ := h
    obtain ⟨w1, h1, h2⟩ := store_ok hS hh (hρ p) (hρ x)
    exact ⟨.skip, undef, w1, G, by simp [execOp, h1], .inr ⟨rfl, rfl⟩, h2, vr_undef⟩
  case makeSlice t n c =>
    unfold makeStep at h
    split at h
    · rename_i e kn kc hu hn hc
      split at h
      · rename_i z hz
        split at h
        · rename_i hcond
          cases h
          obtain ⟨q1, e1⟩ := vr_asI hn (hρ n)
          obtain ⟨q2, e2⟩ := vr_asI hc (hρ c)
          have := makeOwn_ok (P := P) (kn := q1) (kc := q2) hS hu hz hcond.1 hcond.2.1 hcond.2.2.1 hcond.2.2.2.1 hcond.2.2.2.2.1 hcond.2.2.2.2.2
          rw [← e1, ← e2] at this
          exact EOk.val this
        · cases h
      · cases h
    · cases h
  case call c =>
    obtain ⟨callee, args, argTypes⟩ := c
    cases callee <;> simp only [reduceCtorEq] at h
    case builtin b =>
      unfold builtinStep at h
      split at h
      · rename_i x y hargs
        obtain ⟨u, z, ha, hu, hz⟩ := two_args hρ hargs
        have := app_ok (ty := ty) h hS hu hz
        rw [← ha] at this
        exact EOk.val this
      · rename_i x y hargs
        obtain ⟨u, z, ha, hu, hz⟩ := two_args hρ hargs
        unfold copyStep at h
        split at h
        · rename_i g k n c
          split at h
          · rename_i e t hg ht
            obtain ⟨t0, h0, ht0⟩ := bind_arg ht
            split at h
            · rename_i ys hys
              split at h
              · rename_i hcond
                cases h
                have := copy_ok (P := P) (ty := ty) hS h0 ht0 hcond.2.2.2 hg hcond.2.2.1 hys hu hz hcond.1 hcond.2.1
                rw [← ha] at this
                exact EOk.val this
              · cases h
            · cases h
          · cases h
        · cases h
      · rename_i x hargs
        obtain ⟨u, ha, hu⟩ := one_arg hρ hargs
        unfold clearStep at h
        split at h
        · rename_i g k n c
          split at h
          · rename_i e t hg ht
            obtain ⟨t0, h0, ht0⟩ := bind_arg ht
            split at h
            · rename_i z hz
              split at h
              · rename_i hcond
                cases h
                have := clear_ok (P := P) (ty := ty) hS h0 ht0 hg hcond.2.2.2 hz hcond.2.2.1 hu hcond.1 hcond.2.1
                rw [← ha] at this
                exact EOk.val this
              · cases h
            · cases h
          · cases h
        · cases h
      · cases h
end Go.Proofs.Ythfplgfpodmphaa.VE
