/- The evaluator by value: what it tells, the model does. -/
import Derived.Test.YthfplgfpodmphaaVs
namespace Go.Proofs.Ythfplgfpodmphaa.VE
variable {G G' : Gh} {w w' : World} {s s' : St} {C : Cfg}
/-- A function is called: what comes of it. -/
def Ran (P : Program) (f : Nat) (vargs : Array Value) (w : World) (R : Value → World → Prop) : Prop :=
  (∃ y w', (callFunc f vargs).run P w = .ok (.value y) w' ∧ R y w') ∨ ((callFunc f vargs).run P w = .ok (.enter f vargs) w ∧ Calls P f vargs w fun e w' => ∃ y, e = .returned y ∧ R y w')
def CallSound (C : Cfg) (call : CallT) : Prop :=
  ∀ f s args own v s', call f s args own = some (v, s') → ∀ G w vargs, Sim G s w → VRl G w args vargs → Ran C.P f vargs.toArray w fun y w' => ∃ G', Stp G s w G' s' w' ∧ VR G' w' v y
theorem eval_ok {tmps : List PV} {a : Act} (h : VRl G w tmps a.tmps.toList) (x : Operand) : VR G w (evArg tmps x) (a.eval x) := by
  cases x with
  | tmp t =>
    simp only [evArg, Act.eval]
    have hl := vrl_len _ _ h
    simp only [Array.length_toList] at hl
    by_cases ht : t < tmps.length
    · obtain ⟨v, h1, h2⟩ := vrl_at _ _ h t tmps[t] (List.getElem?_eq_getElem ht)
      rw [List.getD_eq_getElem?_getD, List.getElem?_eq_getElem ht]
      have : a.tmps[t]? = some v := by simpa using h1
      rw [Array.getD_eq_getD_getElem?, this]
      exact h2
    · rw [List.getD_eq_getElem?_getD, List.getElem?_eq_none (Nat.le_of_not_lt ht), Array.getD_eq_getD_getElem?, Array.getElem?_eq_none (hl ▸ Nat.le_of_not_lt ht)]
      exact vr_undef
  | const v => exact vr_ofVal v
  | global g => simp only [evArg, Act.eval, VR]
  | func f => simp only [evArg, Act.eval, VR]; exact ⟨[], [], by simp, by simp [VRl], by simp [VRl]⟩
theorem vrl_set {l : List PV} {vs : List Value} {x : PV} {v : Value} (h : VRl G w l vs) (hx : VR G w x v) (t : Nat) : VRl G w (l.set t x) (vs.set t v) := by
  refine vrl_mk _ _ (by simp [vrl_len _ _ h]) fun i y u h1 h2 => ?_
  rw [List.getElem?_set] at h1 h2
  by_cases hi : t = i
  · rw [if_pos hi] at h1 h2
    have hl := vrl_len _ _ h
    split at h1
    · rw [if_pos (by omega)] at h2
      cases h1; cases h2
      exact hx
    · cases h1
  · rw [if_neg hi] at h1 h2
    obtain ⟨u', h3, h4⟩ := vrl_at _ _ h i y h1
    rw [h2] at h3
    cases h3
    exact h4
theorem put_ok {tmps : List PV} {a : Act} {x : PV} {v : Value} (h : VRl G w tmps a.tmps.toList) (hx : VR G w x v) (d : Option Tmp) : VRl G w (putT tmps d x) (a.put d v).tmps.toList := by
  cases d with
  | none => exact h
  | some t =>
    simp only [putT, Act.put, Array.toList_setIfInBounds]
    exact vrl_set h hx t
theorem put_defers (a : Act) (d : Option Tmp) (v : Value) : (a.put d v).defers = a.defers := by cases d <;> rfl
theorem yield_ok {tmps : List PV} {a : Act} (ops : Array Oper) (h : VRl G w tmps a.tmps.toList) (j : Nat) : yielded ops a.tmps j = yieldedP ops.toList tmps j := by
  unfold yielded yieldedP
  have e : (ops.toList[j]?).bind (·.dst) = (ops[j]?).bind (·.dst) := by simp
  rw [e]
  cases hd : (ops[j]?).bind (·.dst) with
  | none => simp
  | some t =>
    simp only [Option.bind_some]
    have hl := vrl_len _ _ h
    simp only [Array.length_toList] at hl
    by_cases ht : t < tmps.length
    · obtain ⟨v, h1, h2⟩ := vrl_at _ _ h t tmps[t] (List.getElem?_eq_getElem ht)
      have h3 : a.tmps[t]? = some v := by simpa using h1
      rw [h3, List.getElem?_eq_getElem ht]
      generalize tmps[t] = x at h2
      cases v <;> first
        | (have := vr_bool h2; subst this; rfl)
        | (cases x <;> first
            | rfl
            | (simp only [VR] at h2; subst h2; rfl))
    · rw [List.getElem?_eq_none (Nat.le_of_not_lt ht), Array.getElem?_eq_none (hl ▸ Nat.le_of_not_lt ht)]
theorem callee_ok {op : Op} {x : Operand} {args : Array Operand} (h : calleeOf op = some (x, args)) : ∃ c, op = .call c ∧ c.callee = .value x ∧ c.args = args := by
  unfold calleeOf at h
  split at h
  · rename_i c
    split at h
    · rename_i y hy
      cases h
      exact ⟨c, rfl, hy, rfl⟩
    · cases h
  · cases h
theorem exec_call {P : Program} {o : Oper} {c : Call} {x : Operand} {g : Nat} {as cs : List Value} (a : Act) (ho : o.op = .call c) (hc : c.callee = .value x) (hx : a.eval x = .func (.func g) as.toArray cs.toArray) (w : World) :
    (execOp a.eval o).run P w = (callFunc g (as ++ c.args.toList.map a.eval ++ cs).toArray).run P w := by
  have e : (as ++ c.args.toList.map a.eval ++ cs).toArray = (as.toArray ++ c.args.map a.eval) ++ cs.toArray := by
    apply Array.ext'; simp
  rw [e]
  unfold execOp
  rw [ho]
  simp only [resolve, hc, hx, Deferred.ofValue, Sem.run_bind, Sem.run_pure, Result.andThen_ok, invoke]
theorem step_wp {call : CallT} (hcall : CallSound C call) {f id i : Nat} {o : Oper} {tmps : List PV} {v : PV} {a : Act} (h : step C call f id i o tmps s = some (v, s')) (hS : Sim G s w) (hT : VRl G w tmps a.tmps.toList)
    {K : Act → World → Prop} {Q : Exit → Act → World → Prop} (hK : ∀ y w' G', Stp G s w G' s' w' → VR G' w' v y → K (a.put o.dst y) w') : o.wp C.P a w K Q := by
  have hρ := eval_ok hT
  have ofE : EOk C.P G s w v s' (execOp a.eval o) → o.wp C.P a w K Q := by
    rintro ⟨n, y, w1, G1, h1, h2, h3, h4⟩
    unfold Oper.wp
    rw [h1]
    rcases h2 with rfl | ⟨rfl, rfl⟩
    · exact hK y w1 G1 h3 h4
    · exact hK undef w1 G1 h3 h4
  unfold step at h
  split at h
  · rename_i t ho
    simp only [Option.bind_eq_some_iff] at h
    obtain ⟨z, hz, h⟩ := h
    split at h
    · cases h
      refine ofE ?_
      have : execOp a.eval o = valS (Instr.alloc t true (.tuple #[])) := by unfold execOp; rw [ho]; rfl
      rw [this]
      exact EOk.val (alloc_ok hS hz)
    · cases h
  · split at h
    · split at h
      · rename_i x args hc
        obtain ⟨c, ho, hcc, rfl⟩ := callee_ok hc
        split at h
        · rename_i g fs cp hx
          have hv := hρ x
          rw [hx] at hv
          simp only [VR] at hv
          obtain ⟨as, cs, he, h1, h2⟩ := hv
          have hr := hcall g s _ _ v s' h G w (as ++ c.args.toList.map a.eval ++ cs) hS (vrl_append (vrl_append h1 (vrl_map hρ _)) h2)
          unfold Oper.wp
          rw [exec_call a ho hcc he w]
          rcases hr with ⟨y, w1, h3, G1, h4, h5⟩ | ⟨h3, h4⟩
          · rw [h3]
            exact hK y w1 G1 h4 h5
          · rw [h3]
            rw [Oper.upon_enter]
            refine h4.mono ?_
            rintro e w1 ⟨y, rfl, G1, h5, h6⟩
            exact hK y w1 G1 h5 h6
        · cases h
      · exact ofE (eff_ok a hρ h hS)
    · simp only [Option.map_eq_some_iff, Prod.mk.injEq] at h
      obtain ⟨x, hq, rfl, rfl⟩ := h
      obtain ⟨y, w1, G1, h1, h2, h3⟩ := quiet_ok a hρ hq hS
      exact ofE ⟨.value y, y, w1, G1, h1, .inl rfl, h2, h3⟩
theorem ops1_ok {call : CallT} (hcall : CallSound C call) {f id : Nat} (ops : Array Oper) {Q : Exit → Act → World → Prop} : ∀ (l : List Oper) (i : Nat) (tmps tmps' : List PV) (s s' : St) (G : Gh) (w : World) (a : Act),
    ops1 C call f id ops.toList i l tmps s = some (tmps', s') → Sim G s w → VRl G w tmps a.tmps.toList →
    (∀ a' w' G', Stp G s w G' s' w' → VRl G' w' tmps' a'.tmps.toList → a'.defers = a.defers → Q .normal a' w') → wpList C.P ops Q l a w
  | [], i, tmps, tmps', s, s', G, w, a, h, hS, hT, hQ => by
    simp only [ops1, Option.some.injEq, Prod.mk.injEq] at h
    obtain ⟨rfl, rfl⟩ := h
    exact wpList_nil (hQ a w G (Stp.refl hS) hT rfl)
  | o :: r, i, tmps, tmps', s, s', G, w, a, h, hS, hT, hQ => by
    refine wpList_step fun K hKw => ?_
    have hy : yielded ops a.tmps = yieldedP ops.toList tmps := funext fun j => yield_ok ops hT j
    rw [hy]
    simp only [ops1] at h
    split at h
    · rename_i hw
      rw [if_pos hw]
      split at h
      · rename_i v s1 hs
        refine step_wp hcall hs hS hT fun y w1 G1 h1 h2 => hKw _ _ ?_
        refine ops1_ok hcall ops r (i + 1) _ tmps' s1 s' G1 w1 _ h h1.sim (put_ok (VRl.ext h1.ext _ _ hT) h2 _) fun a' w' G' h3 h4 h5 => hQ a' w' G' (h1.trans h3) h4 (h5.trans (put_defers _ _ _))
      · cases h
    · rename_i hw
      rw [if_neg hw]
      refine hKw _ _ ?_
      exact ops1_ok hcall ops r (i + 1) _ tmps' s s' G w _ h hS (put_ok hT vr_undef _) fun a' w' G' h3 h4 h5 => hQ a' w' G' h3 h4 (h5.trans (put_defers _ _ _))
end Go.Proofs.Ythfplgfpodmphaa.VE
