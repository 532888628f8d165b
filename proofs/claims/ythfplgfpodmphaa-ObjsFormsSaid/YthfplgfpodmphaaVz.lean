/- The evaluator by value: what it tells, the model does. -/
import Derived.Test.YthfplgfpodmphaaVy
namespace Go.Proofs.Ythfplgfpodmphaa.VE
variable {C : Cfg} {G : Gh} {w : World} {s s' : St}
theorem evArg_agree {t1 t2 : List PV} {x : Operand} (h : ∀ t, x = .tmp t → t1[t]? = t2[t]?) : evArg t1 x = evArg t2 x := by
  cases x with
  | tmp t => simp only [evArg, List.getD_eq_getElem?_getD, h t rfl]
  | const v => rfl
  | global g => rfl
  | func f => rfl
theorem tmps_mem {l : List Operand} {t : Nat} (h : Operand.tmp t ∈ l) : t ∈ tmpsOf l := by
  unfold tmpsOf
  exact List.mem_filterMap.2 ⟨_, h, rfl⟩
theorem yield_agree {ops : List Oper} {t1 t2 : List PV} {j : Nat} (h : ∀ t, (ops[j]?).bind (·.dst) = some t → t1[t]? = t2[t]?) : yieldedP ops t1 j = yieldedP ops t2 j := by
  unfold yieldedP
  cases hd : (ops[j]?).bind (·.dst) with
  | none => rfl
  | some t => simp only [Option.bind_some]; rw [h t hd]
theorem wanted_agree {ops : List Oper} {o : Oper} {t1 t2 : List PV} (h : ∀ t, t ∈ namesOf ops o → t1[t]? = t2[t]?) : Region.wanted o (yieldedP ops t1) = Region.wanted o (yieldedP ops t2) := by
  unfold Region.wanted
  cases hg : o.guard with
  | none => rfl
  | some q =>
    obtain ⟨j, b⟩ := q
    simp only
    rw [yield_agree (t1 := t1) (t2 := t2) fun t ht => h t ?_]
    unfold namesOf
    rw [hg]
    exact List.mem_append_right _ (by simp [ht])
theorem getD_set {l : Array Bool} {i : Nat} (hi : i < l.size) (k : Nat) : (l.setIfInBounds i true).getD k false = if k = i then true else l.getD k false := by
  simp only [Array.getD_eq_getD_getElem?, Array.getElem?_setIfInBounds]
  by_cases h : i = k
  · subst h; simp [hi]
  · rw [if_neg h, if_neg (Ne.symm h)]
theorem opAt_get {ops : Array Oper} {i : Nat} (hi : i < ops.toList.length) : ops[i]? = some (opAt ops.toList i) ∧ ops.toList[i]? = some (opAt ops.toList i) := by
  have h1 : ops.toList[i]? = some (opAt ops.toList i) := by
    rw [List.getElem?_eq_getElem hi]
    simp [opAt, List.getD_eq_getElem?_getD, List.getElem?_eq_getElem hi]
  exact ⟨by rw [← Array.getElem?_toList]; exact h1, h1⟩
theorem drawn_ok {call : CallT} (hcall : CallSound C call) (hm : C.P.follows .mixedOrders = true) {f id : Nat} {ops : Array Oper} {ws : List (Nat × Nat)} (hw : winsOf (C.own f id) ops.toList = some ws) {tmps tmps' : List PV} {a : Act}
    (h : drawn C call f id ops.toList ws tmps s = some (tmps', s')) (hS : Sim G s w) (hT : VRl G w tmps a.tmps.toList) {Q : Exit → Act → World → Prop}
    (hQ : ∀ a' w' G', Stp G s w G' s' w' → VRl G' w' tmps' a'.tmps.toList → a'.defers = a.defers → Q .normal a' w') : (Code.region id ops true).wp C.P Q a w := by
  unfold drawn at h
  split at h
  · rename_i s1 hpre
    split at h
    · rename_i tm st hs se hops
      split at h
      · rename_i hall
        cases h
        obtain ⟨T, S, V, B, t0, t1, t2, t3, t4, _, t6, t7⟩ := ops2_trace _ _ _ _ _ _ _ _ _ _ _ hops
        generalize hl : ops.toList = l at *
        have hsize : ops.size = l.length := by rw [← hl]; simp
        obtain ⟨n, hn⟩ : ∃ n, n = l.length := ⟨_, rfl⟩
        obtain ⟨w1, w2, w3, w4⟩ := wins_ok hw
        simp only [Nat.zero_add] at t3 t4 t7
        rw [← hn] at t3 t4 t7 hsize
        have hop : ∀ i, i < n → ops[i]? = some (opAt l i) ∧ l[i]? = some (opAt l i) := fun i hi => by
          have := opAt_get (ops := ops) (i := i) (by rw [hl]; omega)
          rw [hl] at this
          exact this
        have tr : ∀ i, i < n → TrAt C call f id l T S V B se i (opAt l i) := fun i hi => by
          have := t6 i _ (hop i hi).2
          rwa [Nat.zero_add] at this
        have hB : ∀ i, i < n → B (i + 1) = B i + if isAlloc (opAt l i).op then 1 else 0 := fun i hi => by
          cases ha : isAlloc (opAt l i).op with
          | true => rw [if_pos rfl]; exact ((tr i hi).alloc ha).2.1
          | false =>
            rw [if_neg (by simp)]
            cases he : isEff (C.own f id i) (opAt l i).op with
            | true => exact ((tr i hi).eff ha he).1
            | false => exact ((tr i hi).quiet ha he).1
        have hSn : ∀ i, i < n → isEff (C.own f id i) (opAt l i).op = false → S (i + 1) = S i := fun i hi he => by
          cases ha : isAlloc (opAt l i).op with
          | true => exact ((tr i hi).alloc ha).1
          | false => exact ((tr i hi).quiet ha he).2.1
        obtain ⟨p1, p2, p3⟩ := pre_ok l 0 s s1 B hpre hS t2 (fun j o hj => by
          have hjn : j < n := by
            false_or_by_contra; rename_i hh
            rw [List.getElem?_eq_none (by omega)] at hj; cases hj
          have := (hop j hjn).2
          rw [hj] at this
          cases this
          rw [Nat.zero_add]
          exact hB j hjn)
        have hmono : ∀ i j, i ≤ j → j ≤ n → B i ≤ B j := by
          intro i j hij
          induction j with
          | zero => intro _; have : i = 0 := by omega
                    subst this; exact Nat.le_refl _
          | succ j ih =>
            intro hj
            by_cases hi : i = j + 1
            · rw [hi]; exact Nat.le_refl _
            · have := ih (by omega) (by omega)
              rw [hB j (by omega)]
              omega
        have hBne : ∀ i j, i < n → j < n → isAlloc (opAt l i).op = true → isAlloc (opAt l j).op = true → i ≠ j → B i ≠ B j := by
          intro i j hi hj hai haj hne e
          rcases Nat.lt_or_gt_of_ne hne with hlt | hgt
          · have h1 := hmono (i + 1) j hlt (by omega)
            rw [hB i hi, if_pos hai] at h1
            omega
          · have h1 := hmono (j + 1) i hgt (by omega)
            rw [hB j hj, if_pos haj] at h1
            omega
        have hp : ∀ i, (decide (i ∈ effIdx (C.own f id) l)) = (decide (i < n) && isEff (C.own f id i) (opAt l i).op) := fun i => by
          rw [hn]; simp [mem_eff]
        have heffs : effIdx (C.own f id) l = (List.range n).filter fun j => isEff (C.own f id j) (opAt l j).op := by rw [hn]; rfl
        -- slots, by what is done
        have hTi : ∀ i, i ≤ n → T i = TD (fun j => (opAt l j).dst) V (fun _ => true) (List.range i) tmps := by
          intro i
          induction i with
          | zero => intro _; exact t0
          | succ i ih =>
            intro hi
            rw [List.range_succ, TD_append, ← ih (by omega), (tr i (by omega)).tmps]
            rfl
        have main : ∀ (fuel : Nat) (listed : Array Bool) (u : List Nat) (a1 : Act) (w1' : World) (G1 : Gh) (j : Nat), u.length = fuel → u.Nodup → listed.size = n → (∀ i, i < n → (listed.getD i false = false ↔ i ∈ u)) → (∀ i ∈ u, i < n) →
            DOk l (fun i => listed.getD i false) → j ≤ n → (∀ e, e < n → isEff (C.own f id e) (opAt l e).op = true → (listed.getD e false = true ↔ e < j)) → StpN s.next G s w G1 (S j) w1' →
            (∀ k, k < n → isAlloc (opAt l k).op = true → listed.getD k false = false → G1.loc (B k) = none ∧ ∃ t z, (opAt l k).op = .alloc t ∧ zeroL C.P t = some z ∧ get (S j).heap (B k) = some ⟨z.length, [z], 0⟩ ∧ s.next ≤ B k) →
            VRl G1 w1' (TD (fun j => (opAt l j).dst) V (fun i => listed.getD i false) (List.range n) tmps) a1.tmps.toList → a1.defers = a.defers → wpAny C.P .any ops Q fuel listed a1 w1' := by
          intro fuel
          induction fuel with
          | zero =>
            intro listed u a1 w1' G1 j hul _ hls hlu _ hD hj hje hst _ htm hdf
            have hu : u = [] := List.length_eq_zero_iff.1 hul
            have hall' : ∀ i, i < n → listed.getD i false = true := fun i hi => by
              cases hb : listed.getD i false with
              | true => rfl
              | false => rw [hlu i hi, hu] at hb; simp at hb
            refine ⟨?_, ?_⟩
            · unfold Region.ready
              rw [List.filter_eq_nil_iff]
              intro i hi
              have hin : i < n := by rw [← hsize]; exact List.mem_range.1 hi
              have hb := hall' i hin
              have : listed.getD i true = true := by
                rw [Array.getD_eq_getD_getElem?] at hb ⊢
                rw [Array.getElem?_eq_getElem (by omega)] at hb ⊢
                exact hb
              simp [this]
            · have hSn' : S n = S j := S_same' (n := n) hSn hj (Nat.le_refl _) (fun e he hpe => by
                have := (hje e he hpe).1 (hall' e he)
                exact ⟨fun _ => he, fun _ => this⟩)
              have htd : TD (fun j => (opAt l j).dst) V (fun i => listed.getD i false) (List.range n) tmps = tmps' := by
                rw [← t3, hTi n (Nat.le_refl _)]
                apply List.ext_getElem?
                intro t
                exact TD_agree _ _ _ (fun k hk _ => hall' k (List.mem_range.1 hk)) rfl rfl
              rw [htd] at htm
              rw [← hSn', t4] at hst
              exact hQ a1 w1' G1 hst.to htm hdf
          | succ fuel ih =>
            intro listed u a1 w1' G1 j hul hnd hls hlu hun hD hj hje hst hub htm hdf
            have hready : ∀ i, i < n → listed.getD i false = false → ∃ k, k ∈ Region.ready .any ops listed := by
              intro i
              induction i using Nat.strongRecOn with
              | ind i ih2 =>
                intro hi hb
                by_cases hr : ∀ e ∈ (opAt l i).after.toList, Region.binds .any e = true → listed.getD e.on false = true
                · refine ⟨i, ?_⟩
                  unfold Region.ready
                  rw [List.mem_filter]
                  refine ⟨List.mem_range.2 (by omega), ?_⟩
                  have h1 : listed.getD i true = false := by
                    rw [Array.getD_eq_getD_getElem?] at hb ⊢
                    rw [Array.getElem?_eq_getElem (by omega)] at hb ⊢
                    exact hb
                  rw [h1, (hop i hi).1]
                  simp only [Bool.not_false, Bool.true_and, Option.map_some, Option.getD_some]
                  rw [← Array.all_toList, List.all_eq_true]
                  intro e he
                  cases hbe : Region.binds .any e with
                  | false => rfl
                  | true => simp only [Bool.not_true, Bool.false_or]; exact hr e he hbe
                · simp only [Classical.not_forall] at hr
                  obtain ⟨e, he, hbe, hne⟩ := hr
                  have hlt := w3 i (by omega) e he hbe
                  exact ih2 e.on hlt (by omega) (by simpa using hne)
            refine ⟨fun hnil => ?_, fun i hir => ?_⟩
            · exfalso
              cases hu : u with
              | nil => rw [hu] at hul; simp at hul
              | cons x r =>
                have hxn := hun x (by rw [hu]; simp)
                obtain ⟨k, hk⟩ := hready x hxn ((hlu x hxn).2 (by rw [hu]; simp))
                rw [hnil] at hk; cases hk
            · unfold Region.ready at hir
              rw [List.mem_filter] at hir
              obtain ⟨hin', hir⟩ := hir
              have hin : i < n := by have := List.mem_range.1 hin'; omega
              rw [(hop i hin).1] at hir
              simp only [Option.map_some, Option.getD_some, Bool.and_eq_true, Bool.not_eq_true'] at hir
              obtain ⟨hb1, hr⟩ := hir
              have hb : listed.getD i false = false := by
                rw [Array.getD_eq_getD_getElem?] at hb1 ⊢
                rw [Array.getElem?_eq_getElem (by omega)] at hb1 ⊢
                exact hb1
              rw [← Array.all_toList, List.all_eq_true] at hr
              have hedge : ∀ e ∈ (opAt l i).after.toList, Region.binds .any e = true → listed.getD e.on false = true := fun e he hbe => by
                have := hr e he
                rw [hbe] at this
                simpa using this
              have hord : ∀ k, k < n → k ≠ i → ordered (befores l []) i k = true → listed.getD k false = decide (k < i) := fun k hk hne ho =>
                ord_done hD (by omega) (by omega) (Ne.symm hne) hb hedge ho
              -- the slots that it looks at
              have hnames : ∀ t, t ∈ namesOf l (opAt l i) → (TD (fun j => (opAt l j).dst) V (fun i => listed.getD i false) (List.range n) tmps)[t]? = (T i)[t]? := by
                intro t ht
                rw [hTi i (by omega), range_split (show i ≤ n from by omega), TD_append, TD_none]
                · refine TD_agree _ _ _ (fun k hk hdk => ?_) rfl rfl
                  have hki : k < i := List.mem_range.1 hk
                  rw [hord k (by omega) (by omega) (w2 i k t (by omega) (by omega) ht hdk (by omega))]
                  exact decide_eq_true hki
                · intro k hk hdk
                  obtain ⟨q, hq, rfl⟩ := List.mem_map.1 hk
                  have hqn : q < n - i := List.mem_range.1 hq
                  by_cases h0 : q = 0
                  · subst h0; exact hb
                  · rw [hord (i + q) (by omega) (by omega) (w2 i (i + q) t (by omega) (by omega) ht hdk (by omega))]
                    exact decide_eq_false (by omega)
              have hev : ∀ x ∈ (opAt l i).op.operands.toList, evArg (TD (fun j => (opAt l j).dst) V (fun i => listed.getD i false) (List.range n) tmps) x = evArg (T i) x := fun x hx =>
                evArg_agree fun t ht => hnames t (by
                  unfold namesOf
                  exact List.mem_append_left _ (List.mem_append_right _ (tmps_mem (ht ▸ hx))))
              have hwant : Region.wanted (opAt l i) (yielded ops a1.tmps) = Region.wanted (opAt l i) (yieldedP l (T i)) := by
                have h1 : yielded ops a1.tmps = yieldedP l (TD (fun j => (opAt l j).dst) V (fun i => listed.getD i false) (List.range n) tmps) := by
                  funext k
                  have := yield_ok ops htm k
                  rw [hl] at this
                  exact this
                rw [h1]
                exact wanted_agree hnames
              have hset := fun k => getD_set (l := listed) (i := i) (by omega) k
              have hwr : ∀ t, (opAt l i).dst = some t → t ∈ namesOf l (opAt l i) := fun t ht => by
                unfold namesOf
                exact List.mem_append_left _ (List.mem_append_left _ (by simp [ht]))
              -- the slots behind it
              have htd : TD (fun j => (opAt l j).dst) V (fun k => (listed.setIfInBounds i true).getD k false) (List.range n) tmps = putT (TD (fun j => (opAt l j).dst) V (fun i => listed.getD i false) (List.range n) tmps) (opAt l i).dst (V i) := by
                apply List.ext_getElem?
                intro t
                by_cases hd : (opAt l i).dst = some t
                · have htn := hwr t hd
                  rw [hd]
                  by_cases htl : t < tmps.length
                  · rw [putT_same (by rw [TD_len]; exact htl)]
                    rw [range_split (show i ≤ n from by omega), TD_append]
                    have h1 : (List.range (n - i)).map (i + ·) = i :: ((List.range (n - i - 1)).map (i + 1 + ·)) := by
                      rw [show n - i = (n - i - 1) + 1 from by omega, List.range_succ_eq_map, List.map_cons, List.map_map]
                      congr 1
                      refine List.map_congr_left fun q _ => ?_
                      simp only [Function.comp]; omega
                    rw [h1]
                    simp only [TD]
                    rw [hset i, if_pos rfl, if_pos rfl, TD_none]
                    · rw [hd]
                      exact putT_same (by rw [TD_len]; exact htl)
                    · intro k hk hdk
                      obtain ⟨q, hq, rfl⟩ := List.mem_map.1 hk
                      have hqn : q < n - i - 1 := List.mem_range.1 hq
                      rw [hset, if_neg (by omega), hord (i + 1 + q) (by omega) (by omega) (w2 i (i + 1 + q) t (by omega) (by omega) htn hdk (by omega))]
                      exact decide_eq_false (by omega)
                  · rw [List.getElem?_eq_none (by rw [TD_len]; omega), List.getElem?_eq_none (by rw [putT_len, TD_len]; omega)]
                · rw [putT_other hd]
                  refine TD_agree _ _ _ (fun k hk hdk => ?_) rfl rfl
                  rw [hset, if_neg]
                  rintro rfl
                  exact hd hdk
              -- going on
              have hnext : ∀ (a2 : Act) (w2' : World) (G2 : Gh) (j2 : Nat), j2 ≤ n → (∀ e, e < n → isEff (C.own f id e) (opAt l e).op = true → ((listed.setIfInBounds i true).getD e false = true ↔ e < j2)) → StpN s.next G s w G2 (S j2) w2' →
                  (∀ k, k < n → k ≠ i → isAlloc (opAt l k).op = true → listed.getD k false = false → G2.loc (B k) = none ∧ get (S j2).heap (B k) = get (S j).heap (B k)) →
                  VRl G2 w2' (putT (TD (fun j => (opAt l j).dst) V (fun i => listed.getD i false) (List.range n) tmps) (opAt l i).dst (V i)) a2.tmps.toList → a2.defers = a.defers → wpAny C.P .any ops Q fuel (listed.setIfInBounds i true) a2 w2' := by
                intro a2 w2' G2 j2 hj2 hje2 hst2 hub2 htm2 hdf2
                have hiu : i ∈ u := (hlu i hin).1 hb
                refine ih (listed.setIfInBounds i true) (u.erase i) a2 w2' G2 j2 ?_ (hnd.erase i) (by simpa using hls) (fun k hk => ?_) (fun k hk => hun k (List.mem_of_mem_erase hk)) ⟨fun k hk hDk e he hbe => ?_⟩ hj2 hje2 hst2 (fun k hk hka hDk => ?_) (by rw [htd]; exact htm2) hdf2
                · rw [List.length_erase_of_mem hiu]; omega
                · rw [hset, hnd.mem_erase_iff]
                  by_cases hki : k = i
                  · simp [hki]
                  · rw [if_neg hki, hlu k hk]; simp [hki]
                · simp only [hset] at hDk ⊢
                  by_cases hki : k = i
                  · subst hki
                    split
                    · rfl
                    · exact hedge e he hbe
                  · rw [if_neg hki] at hDk
                    split
                    · rfl
                    · exact hD.closed k hk hDk e he hbe
                · rw [hset] at hDk
                  by_cases hki : k = i
                  · rw [if_pos hki] at hDk; cases hDk
                  · rw [if_neg hki] at hDk
                    obtain ⟨q1, q2⟩ := hub2 k hk hki hka hDk
                    obtain ⟨_, t, z, q3, q4, q5, q6⟩ := hub k hk hka hDk
                    exact ⟨q1, t, z, q3, q4, by rw [q2]; exact q5, q6⟩
              have hjq : isEff (C.own f id i) (opAt l i).op = false → ∀ e, e < n → isEff (C.own f id e) (opAt l e).op = true → ((listed.setIfInBounds i true).getD e false = true ↔ e < j) := fun hne e he hpe => by
                rw [hset, if_neg (by rintro rfl; rw [hne] at hpe; cases hpe)]
                exact hje e he hpe
              have hje' : isEff (C.own f id i) (opAt l i).op = true → (∀ e, e < n → isEff (C.own f id e) (opAt l e).op = true → ((listed.setIfInBounds i true).getD e false = true ↔ e < i + 1)) ∧ S j = S i := fun hpi => by
                have hDe : ∀ e, e < n → isEff (C.own f id e) (opAt l e).op = true → e ≠ i → listed.getD e false = decide (e < i) := fun e he hpe hne => by
                  refine hord e he hne (w1 i e ?_ ?_ (Ne.symm hne))
                  · rw [mem_eff]; exact ⟨by omega, hpi⟩
                  · rw [mem_eff]; exact ⟨by omega, hpe⟩
                refine ⟨fun e he hpe => ?_, ?_⟩
                · rw [hset]
                  by_cases hei : e = i
                  · simp [hei]
                  · rw [if_neg hei, hDe e he hpe hei, decide_eq_true_iff]
                    omega
                · refine S_same' (n := n) hSn (by omega) hj fun e he hpe => ?_
                  by_cases hei : e = i
                  · subst hei
                    have := hje e he hpe
                    rw [hb] at this
                    simp at this
                    omega
                  · rw [← hje e he hpe, hDe e he hpe hei, decide_eq_true_iff]
              unfold wpOp
              rw [(hop i hin).1]
              simp only
              rw [hwant]
              have htri := tr i hin
              cases ha : isAlloc (opAt l i).op with
              | true =>
                have hne := eff_not_alloc (b := C.own f id i) ha
                obtain ⟨_, _, hV⟩ := htri.alloc ha
                split
                · rename_i hwt
                  rw [if_pos hwt] at hV
                  refine .inl ?_
                  obtain ⟨q1, t, z, q2, q3, q4, q5⟩ := hub i hin ha hb
                  obtain ⟨ii, v, r1, r2, r3, r4⟩ := zero_ok q3 w1' G1
                  obtain ⟨b1, b2⟩ := birth hst.sim t q4 q1 q5 r3 r4
                  have hrun : (execOp a1.eval (opAt l i)).run C.P w1' = .ok (.value (.pointer (some ⟨w1'.heap.size, 0, none⟩))) (w1'.alloc (.cells v.cells t)) := by
                    have : execOp a1.eval (opAt l i) = valS (Instr.alloc t true (.tuple #[])) := by unfold execOp; rw [q2]; rfl
                    rw [this]
                    exact valS_run (by simp [Instr.alloc, zeroValue, typeInfo, r1, r2, newVar, newRow])
                  unfold Oper.wp
                  rw [hrun]
                  refine hnext _ _ _ j hj (hjq hne) (hst.trans b1) (fun k hk hki hka hDk => ⟨?_, rfl⟩) (put_ok (VRl.ext b1.ext _ _ htm) (by rw [hV]; exact b2) _) ((put_defers _ _ _).trans hdf)
                  show (if B k = B i then _ else G1.loc (B k)) = none
                  rw [if_neg (hBne k i hk hin hka ha hki)]
                  exact (hub k hk hka hDk).1
                · rename_i hwt
                  rw [if_neg hwt] at hV
                  exact hnext _ _ _ j hj (hjq hne) hst (fun k hk hki hka hDk => ⟨(hub k hk hka hDk).1, rfl⟩) (put_ok htm (by rw [hV]; exact vr_undef) _) ((put_defers _ _ _).trans hdf)
              | false =>
                cases he : isEff (C.own f id i) (opAt l i).op with
                | true =>
                  obtain ⟨hj1, hSji⟩ := hje' he
                  obtain ⟨_, g1, g2⟩ := htri.eff ha he
                  split
                  · rename_i hwt
                    refine .inl ?_
                    have hstep := g1 hwt
                    rw [← step_congr (S i) hev, ← hSji] at hstep
                    refine step_wp hcall hstep hst.sim htm fun y w2' G2 k1 k2 => ?_
                    have hnx : s.next ≤ (S j).next := hst.next
                    have hBn : ∀ k, k < n → isAlloc (opAt l k).op = true → listed.getD k false = false → B k < (S j).next := fun k hk hka hDk => by
                      obtain ⟨_, t, z, _, _, q5, _⟩ := hub k hk hka hDk
                      false_or_by_contra; rename_i hh
                      rw [(hst.sim.nx (B k) (by omega)).2] at q5
                      cases q5
                    refine hnext _ _ _ (i + 1) (by omega) hj1 (hst.trans (StpN.of k1 hnx)) (fun k hk hki hka hDk => ?_) (put_ok (VRl.ext k1.ext _ _ htm) k2 _) ((put_defers _ _ _).trans hdf)
                    obtain ⟨q1, q2⟩ := k1.unb (B k) (hBn k hk hka hDk) (hub k hk hka hDk).1
                    exact ⟨q2, q1⟩
                  · rename_i hwt
                    simp only [Bool.not_eq_true] at hwt
                    obtain ⟨hV, hSi⟩ := g2 hwt
                    rw [hSji, ← hSi] at hst
                    refine hnext _ _ _ (i + 1) (by omega) hj1 hst (fun k hk hki hka hDk => ⟨(hub k hk hka hDk).1, by rw [hSi, hSji]⟩) (put_ok htm (by rw [hV]; exact vr_undef) _) ((put_defers _ _ _).trans hdf)
                | false =>
                  obtain ⟨_, _, g1, g2⟩ := htri.quiet ha he
                  split
                  · rename_i hwt
                    refine .inl ?_
                    obtain ⟨_, hmem⟩ := g1 hwt
                    -- at this state, too
                    have hso := List.all_eq_true.1 hall _ hmem
                    have hq : quiet C.P (S j).heap (evArg (T i)) (opAt l i) = some (V i) := by
                      unfold seenOk at hso
                      simp only at hso
                      rw [w4 i (by omega)] at hso
                      simp only at hso
                      rw [List.all_eq_true] at hso
                      have hcnt : ((List.range j).filter fun e => isEff (C.own f id e) (opAt l e).op).length = ((effIdx (C.own f id) l).filter fun e => listed.getD e false).length := by
                        rw [← filter_lt _ n j hj, ← heffs]
                        congr 1
                        refine List.filter_congr fun e hee => ?_
                        rw [mem_eff] at hee
                        have := hje e (by omega) hee.2
                        cases hb2 : listed.getD e false with
                        | true => exact decide_eq_true (this.1 hb2)
                        | false => exact decide_eq_false (fun h => by rw [this.2 h] at hb2; cases hb2)
                      have hlo : ((effIdx (C.own f id) l).filter fun e => ((befores l []).getD i 0).testBit e).length ≤ ((effIdx (C.own f id) l).filter fun e => listed.getD e false).length :=
                        countP_le _ fun e _ hbit => closed_bits hD.closed i (by omega) hedge e hbit
                      have hhi : ((effIdx (C.own f id) l).filter fun e => listed.getD e false).length + ((effIdx (C.own f id) l).filter fun e => ((befores l []).getD e 0).testBit i).length ≤ (effIdx (C.own f id) l).length :=
                        countP_add _ fun e hee hDe => by
                          cases hbit : ((befores l []).getD e 0).testBit i with
                          | false => rfl
                          | true =>
                            rw [mem_eff] at hee
                            have := closed_bits hD.closed e hee.1 (fun e' he' hbe => hD.closed e hee.1 hDe e' he' hbe) i hbit
                            rw [hb] at this; cases this
                      have hheap : hs.reverse[((List.range j).filter fun e => isEff (C.own f id e) (opAt l e).op).length]? = some (S j).heap := by
                        rw [t7]
                        have := S_heaps (S := S) (n := n) hSn j hj
                        rw [t1] at this
                        simpa using this
                      have hin2 : (S j).heap ∈ (hs.reverse.take ((effIdx (C.own f id) l).length - ((effIdx (C.own f id) l).filter fun j => ((befores l []).getD j 0).testBit i).length + 1)).drop ((effIdx (C.own f id) l).filter fun j => ((befores l []).getD i 0).testBit j).length := by
                        rw [List.mem_iff_getElem?]
                        refine ⟨((List.range j).filter fun e => isEff (C.own f id e) (opAt l e).op).length - ((effIdx (C.own f id) l).filter fun j => ((befores l []).getD i 0).testBit j).length, ?_⟩
                        rw [List.getElem?_drop, List.getElem?_take, if_pos (by omega)]
                        rw [show ((effIdx (C.own f id) l).filter fun j => ((befores l []).getD i 0).testBit j).length + (((List.range j).filter fun e => isEff (C.own f id e) (opAt l e).op).length - ((effIdx (C.own f id) l).filter fun j => ((befores l []).getD i 0).testBit j).length) = ((List.range j).filter fun e => isEff (C.own f id e) (opAt l e).op).length from by omega]
                        exact hheap
                      have := hso _ hin2
                      split at this
                      · rename_i v hv
                        rw [hv, pEq_eq _ _ _ this]
                      · cases this
                    rw [← quiet_congr (S j).heap hev] at hq
                    obtain ⟨y, w2', G2, k1, k2, k3⟩ := quiet_ok a1 (eval_ok htm) hq hst.sim
                    unfold Oper.wp
                    rw [k1]
                    have hnx : s.next ≤ (S j).next := hst.next
                    have hBn : ∀ k, k < n → isAlloc (opAt l k).op = true → listed.getD k false = false → B k < (S j).next := fun k hk hka hDk => by
                      obtain ⟨_, t, z, _, _, q5, _⟩ := hub k hk hka hDk
                      false_or_by_contra; rename_i hh
                      rw [(hst.sim.nx (B k) (by omega)).2] at q5
                      cases q5
                    refine hnext _ _ _ j hj (hjq he) (hst.trans (StpN.of k2 hnx)) (fun k hk hki hka hDk => ?_) (put_ok (VRl.ext k2.ext _ _ htm) k3 _) ((put_defers _ _ _).trans hdf)
                    exact ⟨(k2.unb (B k) (hBn k hk hka hDk) (hub k hk hka hDk).1).2, rfl⟩
                  · rename_i hwt
                    simp only [Bool.not_eq_true] at hwt
                    exact hnext _ _ _ j hj (hjq he) hst (fun k hk hki hka hDk => ⟨(hub k hk hka hDk).1, rfl⟩) (put_ok htm (by rw [g2 hwt]; exact vr_undef) _) ((put_defers _ _ _).trans hdf)
        have hdr := Stp.drew hS
        refine wp_region_any hm ?_
        have h0 : ∀ k, (Array.replicate ops.size false).getD k false = false := fun k => by
          rw [Array.getD_eq_getD_getElem?, Array.getElem?_replicate]
          split <;> rfl
        rw [hsize]
        have h0' : ∀ k, (Array.replicate n false).getD k false = false := fun k => by rw [← hsize]; exact h0 k
        refine main n (Array.replicate n false) (List.range n) a _ G 0 (by simp) List.nodup_range (by simp) (fun i hi => by simp [h0' i, hi]) (fun i hi => List.mem_range.1 hi) ⟨fun i _ hDi => by rw [h0' i] at hDi; cases hDi⟩ (Nat.zero_le _) (fun e _ _ => by rw [h0' e]; simp) ?_ (fun k hk hka _ => ?_) ?_ rfl
        · rw [t1]
          have hpn : s.next ≤ s1.next := p1.next
          exact p1.trans (StpN.of (Stp.drew p1.sim) hpn)
        · obtain ⟨t, z, q1, q2, q3, q4⟩ := p3 k _ (hop k hk).2 hka
          rw [Nat.zero_add] at q3 q4
          exact ⟨(hS.nx (B k) q4).1, t, z, q1, q2, by rw [t1]; exact q3, q4⟩
        · have e : TD (fun j => (opAt l j).dst) V (fun i => (Array.replicate n false).getD i false) (List.range n) tmps = tmps := by
            apply List.ext_getElem?
            intro t
            exact TD_none _ _ fun k _ _ => h0' k
          rw [e]
          exact VRl.ext hdr.ext _ _ hT
      · cases h
    · cases h
  · cases h
end Go.Proofs.Ythfplgfpodmphaa.VE
