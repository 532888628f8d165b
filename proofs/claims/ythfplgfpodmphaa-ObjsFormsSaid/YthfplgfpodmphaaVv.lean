/- The evaluator by value: what it tells, the model does. -/
import Derived.Test.YthfplgfpodmphaaVu
namespace Go.Proofs.Ythfplgfpodmphaa.VE
theorem bits_spec (acc : List Nat) (o : Oper) (j : Nat) (h : (bitsOf acc o).testBit j = true) : ∃ e ∈ o.after.toList, Region.binds .any e = true ∧ (e.on = j ∨ (acc.getD e.on 0).testBit j = true) := by
  have key : ∀ (l : List Edge) (s : Nat), (l.foldl (fun s e => if Region.binds .any e then s ||| 2 ^ e.on ||| acc.getD e.on 0 else s) s).testBit j = true → s.testBit j = true ∨ ∃ e ∈ l, Region.binds .any e = true ∧ (e.on = j ∨ (acc.getD e.on 0).testBit j = true) := by
    intro l
    induction l with
    | nil => intro s h; exact .inl h
    | cons e l ih =>
      intro s h
      rw [List.foldl_cons] at h
      rcases ih _ h with h1 | ⟨e', h1, h2⟩
      · split at h1
        · rename_i hb
          rw [Nat.testBit_or, Nat.testBit_or, Nat.testBit_two_pow] at h1
          simp only [Bool.or_eq_true, decide_eq_true_eq] at h1
          rcases h1 with (h1 | h1) | h1
          · exact .inl h1
          · exact .inr ⟨e, by simp, hb, .inl h1⟩
          · exact .inr ⟨e, by simp, hb, .inr h1⟩
        · exact .inl h1
      · exact .inr ⟨e', by simp [h1], h2⟩
  rcases key o.after.toList 0 h with h1 | h1
  · simp at h1
  · exact h1
theorem befores_spec : ∀ (ops : List Oper) (acc : List Nat), (befores ops acc).length = acc.length + ops.length ∧ (∀ k, k < acc.length → (befores ops acc)[k]? = acc[k]?) ∧
    ∀ i, i < ops.length → (befores ops acc)[acc.length + i]? = some (bitsOf ((befores ops acc).take (acc.length + i)) (opAt ops i))
  | [], acc => ⟨rfl, fun _ _ => rfl, fun i h => by simp at h⟩
  | o :: r, acc => by
    obtain ⟨h1, h2, h3⟩ := befores_spec r (acc ++ [bitsOf acc o])
    simp only [List.length_append, List.length_cons, List.length_nil] at h1 h2 h3
    simp only [befores]
    have htake : (befores r (acc ++ [bitsOf acc o])).take acc.length = acc := by
      apply List.ext_getElem?
      intro k
      rw [List.getElem?_take]
      split
      · rename_i hk
        rw [h2 k (by omega), List.getElem?_append_left hk]
      · rw [List.getElem?_eq_none (by omega)]
    refine ⟨by rw [h1, List.length_cons]; omega, fun k hk => ?_, fun i hi => ?_⟩
    · rw [h2 k (by omega), List.getElem?_append_left hk]
    · cases i with
      | zero =>
        simp only [Nat.add_zero]
        rw [h2 acc.length (by omega), List.getElem?_append_right (Nat.le_refl _), htake]
        simp [opAt]
      | succ i =>
        have := h3 i (by simpa using hi)
        rw [show acc.length + (0 + 1) + i = acc.length + (i + 1) from by omega] at this
        rw [this]
        simp [opAt]
/-- What is done is closed under what comes ahead. -/
theorem closed_bits {ops : List Oper} {D : Nat → Bool} (hD : ∀ i, i < ops.length → D i = true → ∀ e ∈ (opAt ops i).after.toList, Region.binds .any e = true → D e.on = true) :
    ∀ (i : Nat), i < ops.length → (∀ e ∈ (opAt ops i).after.toList, Region.binds .any e = true → D e.on = true) → ∀ j, ((befores ops []).getD i 0).testBit j = true → D j = true := by
  intro i
  induction i using Nat.strongRecOn with
  | ind i ih =>
    intro hi he j hj
    obtain ⟨h1, _, h3⟩ := befores_spec ops []
    have h4 := h3 i hi
    simp only [List.length_nil, Nat.zero_add] at h1 h4
    rw [List.getD_eq_getElem?_getD, h4] at hj
    obtain ⟨e, he1, he2, he3⟩ := bits_spec _ _ _ hj
    rcases he3 with rfl | he3
    · exact he e he1 he2
    · rw [List.getD_eq_getElem?_getD, List.getElem?_take] at he3
      split at he3
      · rename_i hlt
        have hon : e.on < ops.length := by omega
        refine ih e.on hlt hon (fun e' h5 h6 => hD e.on hon (he e he1 he2) e' h5 h6) j ?_
        rw [List.getD_eq_getElem?_getD]
        exact he3
      · simp at he3
/-- What is known of a trace of a region, operation by operation. -/
structure TrAt (C : Cfg) (call : CallT) (f id : Nat) (ops : List Oper) (T : Nat → List PV) (S : Nat → St) (V : Nat → PV) (B : Nat → Nat) (se : List Seen) (i : Nat) (o : Oper) : Prop where
  tmps : T (i + 1) = putT (T i) o.dst (V i)
  alloc : isAlloc o.op = true → S (i + 1) = S i ∧ B (i + 1) = B i + 1 ∧ V i = if Region.wanted o (yieldedP ops (T i)) then .ptr (B i) 0 0 else undefV
  eff : isAlloc o.op = false → isEff (C.own f id i) o.op = true → B (i + 1) = B i ∧ (Region.wanted o (yieldedP ops (T i)) = true → step C call f id i o (T i) (S i) = some (V i, S (i + 1))) ∧
    (Region.wanted o (yieldedP ops (T i)) = false → V i = undefV ∧ S (i + 1) = S i)
  quiet : isAlloc o.op = false → isEff (C.own f id i) o.op = false → B (i + 1) = B i ∧ S (i + 1) = S i ∧
    (Region.wanted o (yieldedP ops (T i)) = true → VE.quiet C.P (S i).heap (evArg (T i)) o = some (V i) ∧ ⟨i, o, T i, V i⟩ ∈ se) ∧ (Region.wanted o (yieldedP ops (T i)) = false → V i = undefV)
theorem eff_not_alloc {b : Bool} {op : Op} (h : isAlloc op = true) : isEff b op = false := by
  cases op <;> first | rfl | cases h
theorem ops2_trace {C : Cfg} {call : CallT} {f id : Nat} {ops : List Oper} : ∀ (l : List Oper) (i b : Nat) (tmps tmps' : List PV) (s s' : St) (hs hs' : List Hp) (se se' : List Seen),
    ops2 C call f id ops i b l tmps s hs se = some (tmps', s', hs', se') →
    ∃ (T : Nat → List PV) (S : Nat → St) (V : Nat → PV) (B : Nat → Nat), T i = tmps ∧ S i = s ∧ B i = b ∧ T (i + l.length) = tmps' ∧ S (i + l.length) = s' ∧ (∀ x ∈ se, x ∈ se') ∧
      (∀ j o, l[j]? = some o → TrAt C call f id ops T S V B se' (i + j) o) ∧
      hs'.reverse = hs.reverse ++ ((List.range l.length).filter fun j => isEff (C.own f id (i + j)) (opAt l j).op).map fun j => (S (i + j + 1)).heap
  | [], i, b, tmps, tmps', s, s', hs, hs', se, se', h => by
    simp only [ops2, Option.some.injEq, Prod.mk.injEq] at h
    obtain ⟨rfl, rfl, rfl, rfl⟩ := h
    exact ⟨fun _ => tmps, fun _ => s, fun _ => undefV, fun _ => b, rfl, rfl, rfl, rfl, rfl, fun _ h => h, fun j o h => by simp at h, by simp⟩
  | o :: r, i, b, tmps, tmps', s, s', hs, hs', se, se', h => by
    have fin : ∀ (v : PV) (b1 : Nat) (s1 : St) (hs1 : List Hp) (se1 : List Seen), ops2 C call f id ops (i + 1) b1 r (putT tmps o.dst v) s1 hs1 se1 = some (tmps', s', hs', se') → (∀ x ∈ se, x ∈ se1) →
        (∀ (T : Nat → List PV) (S : Nat → St) (V : Nat → PV) (B : Nat → Nat), T i = tmps → S i = s → V i = v → B i = b → T (i + 1) = putT tmps o.dst v → S (i + 1) = s1 → B (i + 1) = b1 → (∀ x ∈ se1, x ∈ se') → TrAt C call f id ops T S V B se' i o) →
        (hs1.reverse = hs.reverse ++ if isEff (C.own f id i) o.op then [s1.heap] else []) → ∃ (T : Nat → List PV) (S : Nat → St) (V : Nat → PV) (B : Nat → Nat), T i = tmps ∧ S i = s ∧ B i = b ∧ T (i + (o :: r).length) = tmps' ∧ S (i + (o :: r).length) = s' ∧ (∀ x ∈ se, x ∈ se') ∧
      (∀ j o', (o :: r)[j]? = some o' → TrAt C call f id ops T S V B se' (i + j) o') ∧
      hs'.reverse = hs.reverse ++ ((List.range (o :: r).length).filter fun j => isEff (C.own f id (i + j)) (opAt (o :: r) j).op).map fun j => (S (i + j + 1)).heap := by
      intro v b1 s1 hs1 se1 hrec hse hat hhs
      obtain ⟨T, S, V, B, h1, h2, h3, h4, h5, h6, h7, h8⟩ := ops2_trace r (i + 1) b1 _ tmps' s1 s' hs1 hs' se1 se' hrec
      have hne : ∀ j, ¬ (i + 1 + j = i) := fun j => by omega
      refine ⟨fun k => if k = i then tmps else T k, fun k => if k = i then s else S k, fun k => if k = i then v else V k, fun k => if k = i then b else B k, if_pos rfl, if_pos rfl, if_pos rfl, ?_, ?_, fun x hx => h6 x (hse x hx), ?_, ?_⟩
      · simp only [List.length_cons]
        rw [if_neg (by omega), show i + (r.length + 1) = i + 1 + r.length from by omega]; exact h4
      · simp only [List.length_cons]
        rw [if_neg (by omega), show i + (r.length + 1) = i + 1 + r.length from by omega]; exact h5
      · intro j o' hj
        cases j with
        | zero =>
          cases hj
          exact hat _ _ _ _ (if_pos rfl) (if_pos rfl) (if_pos rfl) (if_pos rfl) ((if_neg (by omega)).trans h1) ((if_neg (by omega)).trans h2) ((if_neg (by omega)).trans h3) h6
        | succ j =>
          have := h7 j o' hj
          rw [show i + (j + 1) = i + 1 + j from by omega]
          have hn2 : ¬ (i + 1 + j + 1 = i) := by omega
          refine ⟨?_, ?_, ?_, ?_⟩
          · simp only [if_neg (hne j), if_neg hn2]; exact this.tmps
          · simp only [if_neg (hne j), if_neg hn2]; exact this.alloc
          · simp only [if_neg (hne j), if_neg hn2]; exact this.eff
          · simp only [if_neg (hne j), if_neg hn2]; exact this.quiet
      · rw [h8, hhs, List.append_assoc]
        congr 1
        simp only [List.length_cons]
        rw [List.range_succ_eq_map, List.filter_cons]
        have htail : (((List.range r.length).map Nat.succ).filter fun j => isEff (C.own f id (i + j)) (opAt (o :: r) j).op).map (fun j => (if i + j + 1 = i then s else S (i + j + 1)).heap) =
            ((List.range r.length).filter fun j => isEff (C.own f id (i + 1 + j)) (opAt r j).op).map fun j => (S (i + 1 + j + 1)).heap := by
          rw [List.filter_map, List.map_map]
          have e1 : ((fun j => isEff (C.own f id (i + j)) (opAt (o :: r) j).op) ∘ Nat.succ) = fun j => isEff (C.own f id (i + 1 + j)) (opAt r j).op := by
            funext j
            simp only [Function.comp, Nat.succ_eq_add_one, opAt, List.getD_cons_succ]
            rw [show i + (j + 1) = i + 1 + j from by omega]
          rw [e1]
          refine List.map_congr_left fun j _ => ?_
          simp only [Function.comp, Nat.succ_eq_add_one]
          rw [if_neg (by omega), show i + (j + 1) + 1 = i + 1 + j + 1 from by omega]
        simp only [Nat.add_zero, opAt, List.getD_cons_zero]
        by_cases he : isEff (C.own f id i) o.op = true
        · rw [if_pos he, if_pos he, List.map_cons]
          simp only [List.cons_append, List.nil_append]
          congr 1
          · rw [if_neg (by omega)]; rw [h2]
          · exact htail.symm
        · rw [if_neg he, if_neg he]
          exact htail.symm
    simp only [ops2] at h
    split at h
    · rename_i ha
      refine fin _ _ _ _ _ h (fun _ h => h) ?_ (by rw [if_neg (by rw [eff_not_alloc ha]; simp)]; simp)
      intro T S V B q1 q2 q3 q4 q5 q6 q7 _
      exact ⟨by rw [q5, q1, q3], fun _ => ⟨by rw [q6, q2], by rw [q7, q4], by rw [q3, q1, q4]⟩, fun hna => by rw [hna] at ha; simp at ha, fun hna => by rw [hna] at ha; simp at ha⟩
    · rename_i ha
      simp only [Bool.not_eq_true] at ha
      split at h
      · rename_i he
        split at h
        · rename_i hw
          split at h
          · rename_i v s1 hst
            refine fin _ _ _ _ _ h (fun _ h => h) ?_ (by rw [if_pos he]; simp)
            intro T S V B q1 q2 q3 q4 q5 q6 q7 _
            exact ⟨by rw [q5, q1, q3], fun hna => by rw [hna] at ha; simp at ha, fun _ _ => ⟨by rw [q7, q4], fun _ => by rw [q1, q2, q3, q6]; exact hst, fun hn => by rw [q1, hw] at hn; simp at hn⟩, fun _ hn => by rw [he] at hn; simp at hn⟩
          · cases h
        · rename_i hw
          simp only [Bool.not_eq_true] at hw
          refine fin _ _ _ _ _ h (fun _ h => h) ?_ (by rw [if_pos he]; simp)
          intro T S V B q1 q2 q3 q4 q5 q6 q7 _
          exact ⟨by rw [q5, q1, q3], fun hna => by rw [hna] at ha; simp at ha, fun _ _ => ⟨by rw [q7, q4], fun hn => by rw [q1, hw] at hn; simp at hn, fun _ => ⟨q3, by rw [q6, q2]⟩⟩, fun _ hn => by rw [he] at hn; simp at hn⟩
      · rename_i he
        simp only [Bool.not_eq_true] at he
        split at h
        · rename_i hw
          split at h
          · rename_i v hq
            refine fin _ _ _ _ _ h (fun x hx => by simp [hx]) ?_ (by rw [if_neg (by rw [he]; simp)]; simp)
            intro T S V B q1 q2 q3 q4 q5 q6 q7 q8
            exact ⟨by rw [q5, q1, q3], fun hna => by rw [hna] at ha; simp at ha, fun _ hn => by rw [he] at hn; simp at hn, fun _ _ => ⟨by rw [q7, q4], by rw [q6, q2], fun _ => ⟨by rw [q1, q2, q3]; exact hq, q8 _ (by rw [q1, q3]; simp)⟩, fun hn => by rw [q1, hw] at hn; simp at hn⟩⟩
          · cases h
        · rename_i hw
          simp only [Bool.not_eq_true] at hw
          refine fin _ _ _ _ _ h (fun _ h => h) ?_ (by rw [if_neg (by rw [he]; simp)]; simp)
          intro T S V B q1 q2 q3 q4 q5 q6 q7 _
          exact ⟨by rw [q5, q1, q3], fun hna => by rw [hna] at ha; simp at ha, fun _ hn => by rw [he] at hn; simp at hn, fun _ _ => ⟨by rw [q7, q4], by rw [q6, q2], fun hn => by rw [q1, hw] at hn; simp at hn, fun _ => q3⟩⟩
end Go.Proofs.Ythfplgfpodmphaa.VE
