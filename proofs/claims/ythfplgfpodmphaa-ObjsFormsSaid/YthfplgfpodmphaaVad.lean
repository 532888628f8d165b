/- The evaluator by value: what it tells, the model does. -/
import Derived.Test.YthfplgfpodmphaaVac
namespace Go.Proofs.Ythfplgfpodmphaa.VE
variable {G G' : Gh} {w w' : World} {s s' : St} {C : Cfg}
/-- What is asked of what the evaluator is told. -/
structure CfgBase (C : Cfg) : Prop where
  mixed : C.P.follows .mixedOrders = true
  chk : ∀ (f : Nat) (fn : Func) (c : Code), C.P.funcs[f]? = some fn → fn.body = some c → chkCode C f c = true
  name : ∀ (f : Nat) (fn : Func) (c : Code), C.P.funcs[f]? = some fn → fn.body = some c → (fn.name == "runtime.NumGoroutine") = false
structure CfgOk (C : Cfg) : Prop extends CfgBase C where
  ext : ∀ (f : Nat) (fn : Func) (g : Hp → List PV → Option PV), C.P.funcs[f]? = some fn → fn.body = none → C.ext f = some g → ∀ (s : St) (args : List PV) (v : PV), g s.heap args = some v → ∀ (G : Gh) (w : World) (vargs : List Value), Sim G s w → VRl G w args vargs → Ran C.P f vargs.toArray w fun y w' => ∃ G', Stp G s w G' s w' ∧ VR G' w' v y
  clone : ∀ (f : Nat) (t : TypeId), C.clone f = some t → ¬ (C.P.cellsOf t = 0 ∨ C.P.bytesOf t > 2 ^ 16) → ∀ (s : St) (args : List PV) (v : PV) (s' : St), cloneP s (C.P.cellsOf t) args = some (v, s') → ∀ (G : Gh) (w : World) (vargs : List Value), Sim G s w → VRl G w args vargs → Ran C.P f vargs.toArray w fun y w' => ∃ G', Stp G s w G' s' w' ∧ VR G' w' v y
theorem run_enter {P : Program} {f : FuncId} {fn : Func} {c : Code} (hf : P.funcs[f]? = some fn) (hname : (fn.name == "runtime.NumGoroutine") = false) (hb : fn.body = some c) (args : Array Value) (w : World) :
    (callFunc f args).run P w = .ok (.enter f args) w := by
  have h1 : fn.name ≠ "runtime.NumGoroutine" := by simpa using hname
  simp [callFunc, hf, h1, hb]
theorem Ran.mono {P : Program} {f : Nat} {vargs : Array Value} {R R' : Value → World → Prop} (h : Ran P f vargs w R) (hR : ∀ y w', R y w' → R' y w') : Ran P f vargs w R' := by
  rcases h with ⟨y, w1, h1, h2⟩ | ⟨h1, h2⟩
  · exact .inl ⟨y, w1, h1, hR _ _ h2⟩
  · exact .inr ⟨h1, h2.mono fun e w1 ⟨y, h3, h4⟩ => ⟨y, h3, hR _ _ h4⟩⟩
theorem run_mapM {P : Program} {α β : Type} {f : α → Sem β} : ∀ (l : List α) (ys : List β), ys.length = l.length → (∀ (i : Nat) (x : α) (y : β), l[i]? = some x → ys[i]? = some y → (f x).run P w = .ok y w) → (l.mapM f).run P w = .ok ys w
  | [], [], _, _ => by simp
  | x :: l, y :: ys, h, hf => by
    have h1 := hf 0 x y rfl rfl
    have h2 := run_mapM l ys (by simpa using h) fun i x y hx hy => hf (i + 1) x y hx hy
    rw [List.mapM_cons]
    simp only [Sem.run_bind, h1, Result.andThen_ok, h2, Sem.run_pure]
  | x :: l, [], h, _ => by simp at h
  | [], y :: ys, h, _ => by simp at h
theorem vars_ok {P : Program} {t : TypeId} {p v : PV} {u : Value} (h : loadP P t s.heap p = some v) (hS : Sim G s w) (hp : VR G w p u) :
    ∃ a x, u = .pointer (some a) ∧ (loadVar t a).run P w = .ok x w ∧ VR G w v x := by
  obtain ⟨x, h1, h2⟩ := load_ok h hS hp
  unfold loadP at h
  split at h
  · simp only [VR] at hp
    obtain ⟨b, o0, sz, ce, hl, rfl⟩ := hp
    exact ⟨_, x, rfl, by simpa [Instr.loadAt, Instr.sureAddr] using h1, h2⟩
  · simp only [VR] at hp
    obtain ⟨b, base, rfl, hc⟩ := hp
    exact ⟨_, x, rfl, by simpa [Instr.loadAt, Instr.sureAddr] using h1, h2⟩
  · cases h
theorem getD_ok {tmps : List PV} {a : Act} (h : VRl G w tmps a.tmps.toList) (t : Nat) : VR G w (tmps.getD t undefV) (a.tmps.getD t undef) := eval_ok h (.tmp t)
theorem list_ex {α β : Type} {p : Nat → α → β → Prop} : ∀ (l : List α), (∀ (i : Nat) (x : α), l[i]? = some x → ∃ y, p i x y) → ∃ ys : List β, ys.length = l.length ∧ ∀ (i : Nat) (x : α) (y : β), l[i]? = some x → ys[i]? = some y → p i x y := by
  intro l
  induction l generalizing p with
  | nil => exact fun _ => ⟨[], rfl, fun i x y h => by simp at h⟩
  | cons a l ih =>
    intro h
    obtain ⟨y, hy⟩ := h 0 a rfl
    obtain ⟨ys, h1, h2⟩ := ih (p := fun i => p (i + 1)) fun i x hx => h (i + 1) x hx
    refine ⟨y :: ys, by simp [h1], fun i x z hx hz => ?_⟩
    cases i with
    | zero => cases hx; cases hz; exact hy
    | succ i => exact h2 i x z hx hz
theorem vr_tupV {vs : List PV} {ys : Array Value} (h : VRl G w vs ys.toList) : VR G w (tupV vs) (if h : ys.size = 1 then ys[0] else .tuple ys) := by
  obtain ⟨ys⟩ := ys
  have hl := vrl_len _ _ h
  split
  · rename_i h1
    simp only [List.size_toArray] at h1
    match vs, ys, h, hl, h1 with
    | [v], [y], h, _, _ =>
      simp only [VRl] at h
      obtain ⟨_, _, e, h, _⟩ := h
      cases e
      exact h
  · rename_i h1
    simp only [List.size_toArray] at h1 hl
    have : tupV vs = .tup vs := by
      match vs, hl with
      | [], _ => rfl
      | [v], hl => exact absurd hl.symm h1
      | _ :: _ :: _, _ => rfl
    rw [this]
    simp only [VR]
    exact ⟨ys, rfl, h⟩
theorem results_ok {fn : Func} {tmps vs : List PV} {a : Act} (hs : allSome (resV C.P tmps s.heap) fn.results.toList = some vs) (hS : Sim G s w) (hT : VRl G w tmps a.tmps.toList) :
    ∃ y, (results fn a.tmps).run C.P w = .ok y w ∧ VR G w (tupV vs) y := by
  obtain ⟨h1, h2⟩ := allSome_at hs
  let f : ResultVar → Sem Value := fun
    | .tmp t => pure (a.tmps.getD t undef)
    | .cell x t => do loadVar t (← asAddr (a.tmps.getD x undef))
  have hlt : ∀ (i : Nat) (x : ResultVar), fn.results.toList[i]? = some x → ∃ v, vs[i]? = some v := by
    intro i x hx
    have : i < vs.length := by
      rw [h1]
      false_or_by_contra; rename_i hh
      rw [List.getElem?_eq_none (by omega)] at hx; cases hx
    exact ⟨_, List.getElem?_eq_getElem this⟩
  obtain ⟨ys, h3, h4⟩ := list_ex (p := fun (i : Nat) (x : ResultVar) (y : Value) => (f x).run C.P w = .ok y w ∧ ∀ v : PV, vs[i]? = some v → VR G w v y) fn.results.toList (by
    intro i x hx
    obtain ⟨v, hv⟩ := hlt i x hx
    obtain ⟨x', h5, h6⟩ := h2 i v hv
    rw [hx] at h5
    cases h5
    cases x with
    | tmp t =>
      simp only [resV, Option.some.injEq] at h6
      subst h6
      refine ⟨a.tmps.getD t undef, rfl, fun v' hv' => ?_⟩
      rw [hv] at hv'
      cases hv'
      exact getD_ok hT t
    | cell b t =>
      simp only [resV] at h6
      obtain ⟨ad, y, h7, h8, h9⟩ := vars_ok h6 hS (getD_ok hT b)
      refine ⟨y, ?_, fun v' hv' => ?_⟩
      · show (asAddr (a.tmps.getD b undef) >>= fun ad => loadVar t ad).run C.P w = _
        rw [h7]
        simp only [asAddr, pure_bind, h8]
      · rw [hv] at hv'
        cases hv'
        exact h9)
  refine ⟨if h : ys.toArray.size = 1 then ys.toArray[0] else .tuple ys.toArray, ?_, vr_tupV (vrl_mk _ _ (by simp [h1, h3]) fun (i : Nat) (x : PV) (v : Value) hx hv => ?_)⟩
  · have hm := run_mapM (P := C.P) (w := w) (f := f) fn.results.toList ys h3 fun i x y hx hy => (h4 i x y hx hy).1
    show ((fn.results.mapM f) >>= fun vs => pure (if h : vs.size = 1 then vs[0] else .tuple vs)).run C.P w = _
    rw [Array.mapM_eq_mapM_toList]
    simp only [map_eq_pure_bind, bind_assoc, pure_bind, Sem.run_bind, hm, Result.andThen_ok, Sem.run_pure]
  · obtain ⟨r, hr⟩ : ∃ r, fn.results.toList[i]? = some r := by
      have : i < fn.results.toList.length := by
        rw [← h1]
        false_or_by_contra; rename_i hh
        rw [List.getElem?_eq_none (by omega)] at hx; cases hx
      exact ⟨_, List.getElem?_eq_getElem this⟩
    exact (h4 i r v hr (by simpa using hv)).2 x hx
/-- A body is run. -/
theorem body_ok (hC : CfgBase C) {n : Nat} (hc : ∀ k, k ≤ n → CallSound C (F C k).call) {f : Nat} {fn : Func} {c : Code} {args : List PV} {v : PV} (hf : C.P.funcs[f]? = some fn) (hb : fn.body = some c) (h : body C (F C n) f fn c s args = some (v, s'))
    {vargs : List Value} (hS : Sim G s w) (hA : VRl G w args vargs) : Ran C.P f vargs.toArray w fun y w' => ∃ G', Stp G s w G' s' w' ∧ VR G' w' v y := by
  refine .inr ⟨run_enter hf (hC.name f fn c hf hb) hb _ _, calls_of_wp hf hb ?_⟩
  unfold body at h
  have hT : VRl G w (args ++ List.replicate (fn.ntmps - args.length) undefV) ({ tmps := vargs.toArray ++ Array.replicate (fn.ntmps - vargs.toArray.size) undef, defers := [] } : Act).tmps.toList := by
    have hl := vrl_len _ _ hA
    simp only [Array.toList_append, Array.toList_replicate, List.size_toArray, hl]
    refine vrl_append hA (vrl_mk _ _ (by simp) fun i x v hx hv => ?_)
    rw [List.getElem?_replicate] at hx hv
    split at hx
    · rename_i hi
      rw [if_pos hi] at hv
      cases hx; cases hv
      exact vr_undef
    · cases hx
  split at h
  · cases h
  · rename_i o tmps s1 hne hx
    simp only [Option.map_eq_some_iff, Prod.mk.injEq] at h
    obtain ⟨vs, hr, rfl, rfl⟩ := h
    refine code_ok hC.mixed f c n hc (hC.chk f fn c hf hb) n (Nat.le_refl _) _ _ _ hx G w _ _ hS hT fun a1 w1 G1 h1 h2 h3 => ?_
    obtain ⟨y, h4, h5⟩ := results_ok hr h1.sim h2
    cases o with
    | normal => exact ⟨h3, y, h4, y, rfl, G1, h1, h5⟩
    | ret => exact ⟨h3, y, h4, y, rfl, G1, h1, h5⟩
    | exit id => exact (hne id rfl).elim
  · cases h
theorem vr_scalar {v : PV} {x : Value} (h : scalar v = true) (hv : VR G w v x) : VR G' w' v x := by
  unfold scalar at h
  split at h
  · simp only [VR] at hv ⊢; exact hv
  · rename_i l
    simp only [VR] at hv ⊢
    obtain ⟨vs, e, h1⟩ := hv
    refine ⟨vs, e, vrl_mk _ _ (vrl_len _ _ h1) fun i y u hy hu => ?_⟩
    obtain ⟨u', h2, h3⟩ := vrl_at _ _ h1 i y hy
    rw [hu] at h2
    cases h2
    have := List.all_eq_true.1 h y (List.mem_of_getElem? hy)
    unfold isLit at this
    split at this
    · simp only [VR] at h3 ⊢; exact h3
    · cases this
  · cases h
theorem call_sound (hC : CfgOk C) : ∀ n k, k ≤ n → CallSound C (F C k).call
  | n, 0, _ => fun f s args own v s' h => by simp [F, bot] at h
  | n, k + 1, hk => by
    have hc : ∀ j, j ≤ k → CallSound C (F C j).call := fun j hj => call_sound hC k j hj
    intro f s args own v s' h G w vargs hS hA
    have h : callF C (F C k) f s args own = some (v, s') := h
    unfold callF at h
    split at h
    · cases h
    · rename_i fn hf
      split at h
      · rename_i hb
        split at h
        · rename_i g hg
          simp only [Option.map_eq_some_iff, Prod.mk.injEq] at h
          obtain ⟨v, h9, rfl, rfl⟩ := h
          exact hC.ext f fn g hf hb hg s args v h9 G w vargs hS hA
        · cases h
      · rename_i c hb
        split at h
        · rename_i t ht
          split at h
          · cases h
          · rename_i hz
            exact hC.clone f t ht hz s args v s' h G w vargs hS hA
        · split at h
          · split at h
            · cases h
            · rename_i args' hargs
              split at h
              · cases h
              · rename_i v1 s1 hbody
                -- what is shown to who is called
                have hN : ∀ g ∈ args.flatMap (names s.heap depth), ∃ y, G.loc g = some y := by
                  intro g hg
                  obtain ⟨x, hx, hg⟩ := List.mem_flatMap.1 hg
                  obtain ⟨i, hi⟩ := List.mem_iff_getElem?.1 hx
                  obtain ⟨u, _, h5⟩ := vrl_at _ _ hA i x hi
                  exact names_loc hS depth x u h5 g hg
                have hA' : VRl (G.inner s.heap (args.flatMap (names s.heap depth))) w args' vargs := by
                  refine vrl_some (fun x hx y u h1 h2 => view_ok (N := args.flatMap (names s.heap depth)) hS ?_ ?_ depth x y u h1 h2 ?_) hargs hA
                  · exact fun _ _ hi => .inl hi
                  · exact fun g hg e b o0 sz ce h1 h2 k hk => .inr ⟨g, e, o0, sz, ce, hg, h1, h2, by omega, by omega⟩
                  · exact fun g hg => List.mem_flatMap.2 ⟨x, hx, hg⟩
                have hr := body_ok hC.toCfgBase hc hf hb hbody (inner_sim hS _) hA'
                refine hr.mono fun y w1 hy => ?_
                obtain ⟨G1, k1, hv⟩ := hy
                split at h
                · rename_i hsc
                  cases h
                  exact ⟨G, plain_stp hS k1, vr_scalar hsc hv⟩
                · split at h
                  · exact back_own hS k1 hN h hv
                  · simp only [Option.map_eq_some_iff, Prod.mk.injEq] at h
                    obtain ⟨v2, h2, rfl, rfl⟩ := h
                    exact ⟨_, outer_stp hS k1 hN (fun _ _ h => h), outer_vr k1 (fun _ _ h => h) depth _ _ y h2 hv⟩
          · exact body_ok hC.toCfgBase hc hf hb h hS hA
end Go.Proofs.Ythfplgfpodmphaa.VE
