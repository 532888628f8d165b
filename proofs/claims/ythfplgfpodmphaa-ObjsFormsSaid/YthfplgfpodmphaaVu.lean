/- The evaluator by value: what it tells, the model does. -/
import Derived.Test.YthfplgfpodmphaaVt
namespace Go.Proofs.Ythfplgfpodmphaa.VE
variable {P : Program} {C : Cfg}
theorem vEq_eq {a b : Value} (h : vEq a b = true) : a = b := by
  unfold vEq at h
  split at h
  · simp at h; rw [h]
  · simp at h; rw [h.1, h.2]
  · rename_i x y
    obtain ⟨⟨l⟩⟩ := x
    obtain ⟨⟨m⟩⟩ := y
    simp at h; rw [h]
  · rfl
  · simp at h; rw [h.1, h.2]
  · rfl
  · rename_i x y
    simp only [Bool.and_eq_true, beq_iff_eq] at h
    rw [Array.size_eq_zero_iff.1 h.1, Array.size_eq_zero_iff.1 h.2]
  · cases h
theorem allEq_eq {α : Type} {f : α → α → Bool} (hf : ∀ a b, f a b = true → a = b) : ∀ l m : List α, allEq f l m = true → l = m
  | [], [], _ => rfl
  | x :: r, y :: t, h => by
    simp only [allEq, Bool.and_eq_true] at h
    rw [hf x y h.1, allEq_eq hf r t h.2]
  | [], _ :: _, h => by simp [allEq] at h
  | _ :: _, [], h => by simp [allEq] at h
theorem pEq_eq : ∀ (d : Nat) (x y : PV), pEq d x y = true → x = y
  | 0, x, y, h => by simp [pEq] at h
  | d + 1, x, y, h => by
    have h1 := allEq_eq (pEq_eq d)
    have h2 := allEq_eq h1
    unfold pEq at h
    split at h
    · rw [vEq_eq h]
    · rw [h1 _ _ h]
    · rw [h1 _ _ h]
    · simp only [Bool.and_eq_true, beq_iff_eq] at h; rw [h.1.1, h2 _ _ h.1.2, h.2]
    · simp only [Bool.and_eq_true, beq_iff_eq] at h; rw [h.1.1.1, h.1.1.2, h.1.2, h.2]
    · simp only [Bool.and_eq_true, beq_iff_eq] at h; rw [h.1.1, h.1.2, h.2]
    · simp only [Bool.and_eq_true, beq_iff_eq] at h; rw [h1 _ _ h.1, h.2]
    · simp only [Bool.and_eq_true, beq_iff_eq] at h; rw [h.1.1, h1 _ _ h.1.2, h1 _ _ h.2]
    · cases h
theorem parts_congr {ρ ρ' : Operand → PV} (parts : Array (Nat × Operand)) (h : ∀ x ∈ parts.toList.map (·.2), ρ x = ρ' x) : partsOf ρ parts = partsOf ρ' parts := by
  unfold partsOf
  refine List.map_congr_left fun p hp => ?_
  rw [h p.2 (List.mem_map.2 ⟨p, hp, rfl⟩)]
theorem opt_congr {ρ ρ' : Operand → PV} {x : Option Operand} (h : ∀ y ∈ x.toList, ρ y = ρ' y) : x.map ρ = x.map ρ' ∧ litArgs ρ x = litArgs ρ' x := by
  cases x with
  | none => exact ⟨rfl, rfl⟩
  | some y => simp [litArgs, h y (by simp)]
theorem quiet_congr {ρ ρ' : Operand → PV} {o : Oper} (hp : Hp) (h : ∀ x ∈ o.op.operands.toList, ρ x = ρ' x) : quiet P hp ρ o = quiet P hp ρ' o := by
  obtain ⟨dst, op, ty, pos, after, guard⟩ := o
  cases op <;> simp only [quiet]
  case move x => rw [h x (by simp [Op.operands])]
  case assign x => rw [h x (by simp [Op.operands])]
  case pick c x y => rw [h c (by simp [Op.operands]), h x (by simp [Op.operands]), h y (by simp [Op.operands])]
  case build t parts => rw [parts_congr parts (fun x hx => h x (by simpa [Op.operands] using hx))]
  case buildSlice t n parts => rw [parts_congr parts (fun x hx => h x (by simpa [Op.operands] using hx))]
  case load t x => rw [h x (by simp [Op.operands])]
  case nilCheck x => rw [h x (by simp [Op.operands])]
  case binOp op t x y yt => rw [h x (by simp [Op.operands]), h y (by simp [Op.operands])]
  case unOp op t x => rw [h x (by simp [Op.operands])]
  case convert src d x => rw [h x (by simp [Op.operands])]
  case makeFunc f a b =>
    rw [List.map_congr_left (fun x hx => h x (by simp [Op.operands]; exact .inl (by simpa using hx))), List.map_congr_left (fun x hx => h x (by simp [Op.operands]; exact .inr (by simpa using hx)))]
  case makeSlice t n c => rw [h n (by simp [Op.operands]), h c (by simp [Op.operands])]
  case slice t x lo hi mx =>
    have h1 := opt_congr (x := lo) (fun y hy => h y (by simp [Op.operands] at hy ⊢; simp [hy]))
    have h2 := opt_congr (x := hi) (fun y hy => h y (by simp [Op.operands] at hy ⊢; simp [hy]))
    have h3 := opt_congr (x := mx) (fun y hy => h y (by simp [Op.operands] at hy ⊢; simp [hy]))
    rw [h x (by simp [Op.operands]), h1.1, h1.2, h2.1, h2.2, h3.1, h3.2]
  case fieldAddr t x f => rw [h x (by simp [Op.operands])]
  case field t x f => rw [h x (by simp [Op.operands])]
  case indexAddr t x i => rw [h x (by simp [Op.operands]), h i (by simp [Op.operands])]
  case index t x i => rw [h x (by simp [Op.operands]), h i (by simp [Op.operands])]
  case extract x i => rw [h x (by simp [Op.operands])]
  case call c =>
    have : c.args.toList.map ρ = c.args.toList.map ρ' := List.map_congr_left fun x hx => h x (by simp [Op.operands, Call.operands]; exact .inr (by simpa using hx))
    rw [this]
theorem eff_congr {ρ ρ' : Operand → PV} {op : Op} (s : St) (h : ∀ x ∈ op.operands.toList, ρ x = ρ' x) : effP P ρ s op = effP P ρ' s op := by
  cases op <;> simp only [effP]
  case box t x => rw [h x (by simp [Op.operands])]
  case store t a x => rw [h a (by simp [Op.operands]), h x (by simp [Op.operands])]
  case makeSlice t n c => rw [h n (by simp [Op.operands]), h c (by simp [Op.operands])]
  case call c =>
    have : c.args.toList.map ρ = c.args.toList.map ρ' := List.map_congr_left fun x hx => h x (by simp [Op.operands, Call.operands]; exact .inr (by simpa using hx))
    rw [this]
theorem step_congr {call : CallT} {f id i : Nat} {o : Oper} {t1 t2 : List PV} (s : St) (h : ∀ x ∈ o.op.operands.toList, evArg t1 x = evArg t2 x) : step C call f id i o t1 s = step C call f id i o t2 s := by
  unfold step
  split
  · rfl
  · split
    · cases hc : calleeOf o.op with
      | none => simp only; exact eff_congr s h
      | some q =>
        obtain ⟨x, args⟩ := q
        obtain ⟨c, ho, hx, rfl⟩ := callee_ok hc
        have h1 : evArg t1 x = evArg t2 x := h x (by rw [ho]; simp [Op.operands, Call.operands, hx])
        have h2 : c.args.toList.map (evArg t1) = c.args.toList.map (evArg t2) := List.map_congr_left fun y hy => h y (by rw [ho]; simp [Op.operands, Call.operands]; exact .inr (by simpa using hy))
        simp only [h1, h2]
    · rw [quiet_congr s.heap h]
/-- Slots, of which some operations have been done. -/
def TD (dst : Nat → Option Tmp) (V : Nat → PV) (D : Nat → Bool) : List Nat → List PV → List PV
  | [], acc => acc
  | j :: r, acc => TD dst V D r (if D j then putT acc (dst j) (V j) else acc)
theorem putT_len (l : List PV) (d : Option Tmp) (v : PV) : (putT l d v).length = l.length := by cases d <;> simp [putT]
theorem putT_other {l : List PV} {d : Option Tmp} {v : PV} {t : Nat} (h : d ≠ some t) : (putT l d v)[t]? = l[t]? := by
  cases d with
  | none => rfl
  | some k =>
    simp only [putT, List.getElem?_set]
    rw [if_neg (fun e => h (by rw [e]))]
theorem putT_same {l : List PV} {v : PV} {t : Nat} (h : t < l.length) : (putT l (some t) v)[t]? = some v := by
  simp only [putT, List.getElem?_set]
  rw [if_pos trivial, if_pos h]
variable {dst : Nat → Option Tmp} {V : Nat → PV}
theorem TD_len (D : Nat → Bool) : ∀ (L : List Nat) (acc : List PV), (TD dst V D L acc).length = acc.length
  | [], acc => rfl
  | j :: r, acc => by
    simp only [TD]
    rw [TD_len D r]
    split
    · exact putT_len _ _ _
    · rfl
theorem TD_agree {D E : Nat → Bool} {t : Nat} : ∀ (L : List Nat) (acc acc' : List PV), (∀ j ∈ L, dst j = some t → D j = E j) → acc[t]? = acc'[t]? → acc.length = acc'.length → (TD dst V D L acc)[t]? = (TD dst V E L acc')[t]?
  | [], acc, acc', _, h, _ => h
  | j :: r, acc, acc', hL, h, hl => by
    simp only [TD]
    refine TD_agree r _ _ (fun k hk => hL k (by simp [hk])) ?_ ?_
    · by_cases hd : dst j = some t
      · rw [hL j (by simp) hd]
        split
        · rw [hd]
          by_cases ht : t < acc.length
          · rw [putT_same ht, putT_same (by omega)]
          · rw [List.getElem?_eq_none (by rw [putT_len]; omega), List.getElem?_eq_none (by rw [putT_len]; omega)]
        · exact h
      · have h1 : ∀ (b : Bool) (l : List PV), (if b then putT l (dst j) (V j) else l)[t]? = l[t]? := by
          intro b l
          cases b
          · rfl
          · exact putT_other hd
        rw [h1, h1]; exact h
    · split <;> split <;> simp [putT_len, hl]
theorem TD_none {D : Nat → Bool} {t : Nat} (L : List Nat) (acc : List PV) (h : ∀ j ∈ L, dst j = some t → D j = false) : (TD dst V D L acc)[t]? = acc[t]? := by
  have := TD_agree (dst := dst) (V := V) (D := D) (E := fun _ => false) (t := t) L acc acc h rfl rfl
  rw [this]
  have e : ∀ (L : List Nat) (acc : List PV), TD dst V (fun _ => false) L acc = acc := by
    intro L
    induction L with
    | nil => intro acc; rfl
    | cons j r ih => intro acc; simp only [TD, Bool.false_eq_true, if_false]; exact ih acc
  rw [e]
theorem TD_append (D : Nat → Bool) : ∀ (L1 L2 : List Nat) (acc : List PV), TD dst V D (L1 ++ L2) acc = TD dst V D L2 (TD dst V D L1 acc)
  | [], L2, acc => rfl
  | j :: r, L2, acc => by simp only [List.cons_append, TD]; exact TD_append D r L2 _
end Go.Proofs.Ythfplgfpodmphaa.VE
