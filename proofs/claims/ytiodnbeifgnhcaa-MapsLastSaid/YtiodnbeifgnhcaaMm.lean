/- What a map of keys and a row of pairs that mirror each other keep: plain, no program is walked here. -/
import Derived.Maps.OwnSet
import Derived.Maps.Views
import Derived.Test.YtiodnbeifgnhcaaMrj
namespace Go.Proofs.Ytiodnbeifgnhcaa.Ms
open Go.RowKit Go.Proofs.YtiodnbeifgnhcaaW.PrintWords Go.Proofs.YtiodnbeifgnhcaaW.PrintLast Go.Proofs.YtiodnbeifgnhcaaW.PrintMore
attribute [local go_sem] max2_int min2_int max_two min_two max_three min_three max_four min_four
set_option linter.unusedVariables false
set_option linter.unusedSimpArgs false

section
open Op
theorem bl_trans : ∀ (x y z : List UInt8), bytesLess x y = true → bytesLess y z = true → bytesLess x z = true
  | _, _, [], _, h => by simp [bytesLess] at h
  | [], _, _ :: _, _, _ => by simp [bytesLess]
  | _ :: _, [], _, h, _ => by simp [bytesLess] at h
  | a :: x, b :: y, c :: z, h1, h2 => by
    simp only [bytesLess, Bool.or_eq_true, Bool.and_eq_true, decide_eq_true_eq, beq_iff_eq, UInt8.lt_iff_toNat_lt] at h1 h2 ⊢
    rcases h1 with h1 | ⟨rfl, h1⟩
    · rcases h2 with h2 | ⟨rfl, h2⟩
      · exact .inl (by omega)
      · exact .inl h1
    · rcases h2 with h2 | ⟨rfl, h2⟩
      · exact .inl h2
      · exact .inr ⟨rfl, bl_trans x y z h1 h2⟩
theorem bl_irrefl : ∀ (x : List UInt8), bytesLess x x = false
  | [] => by simp [bytesLess]
  | a :: x => by simp [bytesLess, bl_irrefl x]
theorem bl_tri : ∀ (x y : List UInt8), bytesLess x y = true ∨ x = y ∨ bytesLess y x = true
  | [], [] => .inr (.inl rfl)
  | [], _ :: _ => .inl (by simp [bytesLess])
  | _ :: _, [] => .inr (.inr (by simp [bytesLess]))
  | a :: x, b :: y => by
    simp only [bytesLess, Bool.or_eq_true, Bool.and_eq_true, decide_eq_true_eq, beq_iff_eq, UInt8.lt_iff_toNat_lt]
    rcases Nat.lt_trichotomy a.toNat b.toNat with h | h | h
    · exact .inl (.inl h)
    · have e : a = b := UInt8.toNat_inj.1 h
      subst e
      rcases bl_tri x y with h' | rfl | h'
      · exact .inl (.inr ⟨rfl, h'⟩)
      · exact .inr (.inl rfl)
      · exact .inr (.inr (.inr ⟨rfl, h'⟩))
    · exact .inr (.inr (.inl h))
end
theorem lessB_bl (a b : List Int) : lessB a b = Op.bytesLess (Lib.bytesOf a) (Lib.bytesOf b) := by
  rw [← lessB_eq, Lib.strOfNums_toList, Lib.strOfNums_toList]
theorem sameB_iff {a b : List Int} : sameB a b = true ↔ Lib.bytesOf a = Lib.bytesOf b := by
  simp [sameB, Lib.strOfNums_toList]
def Srt (l : List S32) : Prop := l.Pairwise (fun a b => lessB a.f0 b.f0 = true)
theorem Srt.ne {l : List S32} (h : Srt l) {i j : Nat} (hij : i < j) (hj : j < l.length) : Lib.bytesOf (l[i]'(by omega)).f0 ≠ Lib.bytesOf l[j].f0 := by
  intro e
  have h1 := List.pairwise_iff_getElem.1 h i j (by omega) hj hij
  rw [lessB_bl, e, bl_irrefl] at h1
  cases h1
theorem Srt.ne' {l : List S32} (h : Srt l) {i j : Nat} (hi : i < l.length) (hj : j < l.length) (hij : i ≠ j) : Lib.bytesOf l[i].f0 ≠ Lib.bytesOf l[j].f0 := by
  rcases Nat.lt_or_gt_of_ne hij with h1 | h1
  · exact h.ne h1 hj
  · exact (h.ne h1 hi).symm
theorem tw_at {α : Type} (p : α → Bool) : ∀ (l : List α) (h : (l.takeWhile p).length < l.length), p (l[(l.takeWhile p).length]'h) = false
  | [], h => absurd h (by simp)
  | a :: l, h => by
    cases hp : p a with
    | false => simp [hp]
    | true =>
      simp only [List.takeWhile_cons, hp, if_true, List.length_cons] at h ⊢
      exact tw_at p l (by omega)
theorem find_same {l : List S32} {k : List Int} (h : (findR l k).2 = true) : Lib.bytesOf (rd_T32 l ((findR l k).1 : Int)).f0 = Lib.bytesOf k := by
  unfold findR at h ⊢
  split at h
  · rename_i hlt
    rw [if_pos hlt]
    have h1 : (!sameB (l[eqI l k]'hlt).f0 k) = false := tw_at (fun x : S32 => !sameB x.f0 k) l hlt
    rw [rd_get l _ hlt]
    refine sameB_iff.1 ?_
    simpa using h1
  · cases h
theorem ins_spec (l : List S32) (k : List Int) : ∀ n, (∀ j, insN l k n ≤ j → j < n → lessB k (rd_T32 l (j : Int)).f0 = true) ∧ (insN l k n = 0 ∨ lessB k (rd_T32 l ((insN l k n - 1 : Nat) : Int)).f0 = false)
  | 0 => ⟨fun j a b => by omega, .inl rfl⟩
  | n + 1 => by
    rw [insN]
    cases h : lessB k (rd_T32 l (n : Int)).f0 with
    | true =>
      rw [if_pos rfl]
      refine ⟨fun j a b => ?_, (ins_spec l k n).2⟩
      rcases Nat.lt_or_ge j n with h' | h'
      · exact (ins_spec l k n).1 j a h'
      · obtain rfl : j = n := by omega
        exact h
    | false =>
      rw [if_neg (by simp)]
      exact ⟨fun j a b => by omega, .inr h⟩
theorem srt_ins {l : List S32} {x : S32} {i : Nat} (h : Srt l) (hi : i ≤ l.length) (h1 : ∀ j (hj : j < l.length), i ≤ j → lessB x.f0 l[j].f0 = true) (h2 : ∀ j (hj : j < l.length), j < i → lessB l[j].f0 x.f0 = true) : Srt (l.take i ++ x :: l.drop i) := by
  have hs : Srt (l.take i ++ l.drop i) := by rw [List.take_append_drop]; exact h
  obtain ⟨ha, hb, hc⟩ := List.pairwise_append.1 hs
  refine List.pairwise_append.2 ⟨ha, List.pairwise_cons.2 ⟨fun y hy => ?_, hb⟩, fun a haa b hbb => ?_⟩
  · obtain ⟨j, hj, rfl⟩ := List.mem_iff_getElem.1 hy
    rw [List.getElem_drop]
    exact h1 _ (by rw [List.length_drop] at hj; omega) (by omega)
  · rcases List.mem_cons.1 hbb with rfl | hbb
    · obtain ⟨j, hj, rfl⟩ := List.mem_iff_getElem.1 haa
      rw [List.getElem_take]
      exact h2 _ (by rw [List.length_take] at hj; omega) (by rw [List.length_take] at hj; omega)
    · exact hc a haa b hbb
theorem srt_put {l : List S32} {k v : List Int} (h : Srt l) : Srt (putR l k v).1 := by
  unfold putR
  split
  · exact h
  · cases ht : (findR l k).2 with
    | true =>
      rw [if_pos rfl]
      have hlt := findR_lt l k ht
      rw [rd_get l _ hlt]
      have e : (l.set (findR l k).1 ⟨l[(findR l k).1].f0, v⟩).map S32.f0 = l.map S32.f0 := by
        rw [List.map_set]
        apply List.ext_getElem?
        intro m
        rw [List.getElem?_set]
        split
        · rename_i e
          subst e
          simp [hlt]
        · rfl
      have hm : (l.map S32.f0).Pairwise (fun a b => lessB a b = true) := List.pairwise_map.2 h
      rw [← e] at hm
      exact List.pairwise_map.1 hm
    | false =>
      rw [if_neg (by simp)]
      split
      · exact h
      · have hf : (findR l k).1 = insN l k l.length := by
          unfold findR at ht ⊢
          split at ht
          · cases ht
          · rename_i hn; rw [if_neg hn]
        obtain ⟨h1, h2⟩ := ins_spec l k l.length
        have hle := insN_le l k l.length
        rw [hf]
        refine srt_ins h hle (fun j hj hij => ?_) (fun j hj hij => ?_)
        · have := h1 j hij hj
          rwa [rd_get l j hj] at this
        · rcases h2 with h2 | h2
          · omega
          · have hi1 : insN l k l.length - 1 < l.length := by omega
            rw [rd_get l _ hi1] at h2
            have hne := no_key ht (insN l k l.length - 1) hi1
            rw [rd_get l _ hi1] at hne
            have hlast : lessB l[insN l k l.length - 1].f0 k = true := by
              rw [lessB_bl] at h2 ⊢
              rcases bl_tri (Lib.bytesOf l[insN l k l.length - 1].f0) (Lib.bytesOf k) with h3 | h3 | h3
              · exact h3
              · rw [sameB_iff.2 h3] at hne; cases hne
              · rw [h2] at h3; cases h3
            rcases Nat.lt_or_eq_of_le (Nat.le_sub_one_of_lt hij) with h3 | h3
            · have h4 := List.pairwise_iff_getElem.1 h j _ hj hi1 h3
              rw [lessB_bl] at h4 hlast ⊢
              exact bl_trans _ _ _ h4 hlast
            · subst h3
              exact hlast
theorem srt_del {l : List S32} {k : List Int} (h : Srt l) : Srt (delR l k).1 := by
  unfold delR
  split
  · refine List.Pairwise.sublist ?_ h
    show (l.take _ ++ l.drop _).Sublist l
    rw [← List.eraseIdx_eq_take_drop_succ]
    exact List.eraseIdx_sublist _ _
  · exact h
/-! The map beside it -/
def ent (x : S32) : Lit × DataW Unit := (.string (Lib.bytesOf x.f0), .lit (.int .u8 (x.f1.getD 0 0)))
def Mir (D : DataW Unit) (l : List S32) : Prop := ∃ E, D = .map E ∧ E.Perm (l.map ent)
theorem mem_ent {l : List S32} {p : Lit × DataW Unit} (h : p ∈ l.map ent) : ∃ j, ∃ hj : j < l.length, p = ent l[j] := by
  obtain ⟨x, hx, rfl⟩ := List.mem_map.1 h
  obtain ⟨j, hj, rfl⟩ := List.mem_iff_getElem.1 hx
  exact ⟨j, hj, rfl⟩
theorem mir_has {D : DataW Unit} {l : List S32} (h : Mir D l) (k : List Int) : Maps.has D (.string (Lib.bytesOf k)) = (findR l k).2 := by
  obtain ⟨E, rfl, hp⟩ := h
  rw [Maps.has_eq, Bool.eq_iff_iff, List.any_eq_true]
  constructor
  · rintro ⟨p, hpE, hs⟩
    obtain ⟨j, hj, rfl⟩ := mem_ent (hp.mem_iff.1 hpE)
    have hs : (Lib.bytesOf l[j].f0 == Lib.bytesOf k) = true := hs
    cases ht : (findR l k).2 with
    | true => rfl
    | false =>
      have := no_key ht j hj
      rw [rd_get l j hj, sameB_iff.2 (beq_iff_eq.1 hs)] at this
      cases this
  · intro ht
    have hlt := findR_lt l k ht
    have hsm := find_same ht
    rw [rd_get l _ hlt] at hsm
    exact ⟨ent l[(findR l k).1], hp.mem_iff.2 (List.mem_map.2 ⟨_, List.getElem_mem hlt, rfl⟩), show (Lib.bytesOf _ == Lib.bytesOf k) = true from beq_iff_eq.2 hsm⟩
theorem mir_size {D : DataW Unit} {l : List S32} (h : Mir D l) : Maps.size D = l.length := by
  obtain ⟨E, rfl, hp⟩ := h
  rw [Maps.size_eq, hp.length_eq, List.length_map]
theorem mir_at {D : DataW Unit} {l : List S32} (h : Mir D l) (hs : Srt l) {j : Nat} (hj : j < l.length) (z : DataW Unit) : D.atKey (.string (Lib.bytesOf l[j].f0)) z = .lit (.int .u8 (l[j].f1.getD 0 0)) := by
  obtain ⟨E, rfl, hp⟩ := h
  unfold DataW.atKey
  dsimp only
  cases hf : E.find? (fun p => p.1.sameKey (.string (Lib.bytesOf l[j].f0))) with
  | none =>
    have := List.find?_eq_none.1 hf (ent l[j]) (hp.mem_iff.2 (List.mem_map.2 ⟨_, List.getElem_mem hj, rfl⟩))
    exact absurd (show (Lib.bytesOf _ == Lib.bytesOf l[j].f0) = true from beq_iff_eq.2 rfl) this
  | some p =>
    have h1 := List.find?_some hf
    have h2 := List.mem_of_find?_eq_some hf
    obtain ⟨i, hi, rfl⟩ := mem_ent (hp.mem_iff.1 h2)
    have h1 : (Lib.bytesOf l[i].f0 == Lib.bytesOf l[j].f0) = true := h1
    by_cases hij : i = j
    · subst hij; rfl
    · exact absurd (beq_iff_eq.1 h1) (hs.ne' hi hj hij)
theorem insert_perm (x : Lit × DataW Unit) : ∀ l : List (Lit × DataW Unit), (DataW.insert x l).Perm (x :: l)
  | [] => List.Perm.refl _
  | y :: r => by
    unfold DataW.insert
    split
    · exact List.Perm.refl _
    · exact ((insert_perm x r).cons y).trans (List.Perm.swap x y r)
def nk (k : List Int) (p : Lit × DataW Unit) : Bool := !p.1.sameKey (.string (Lib.bytesOf k))
theorem nk_ent {x : S32} {k : List Int} : nk k (ent x) = true ↔ Lib.bytesOf x.f0 ≠ Lib.bytesOf k := by
  show (!(Lib.bytesOf x.f0 == Lib.bytesOf k)) = true ↔ _
  simp
theorem filter_split {l : List S32} {k : List Int} (hs : Srt l) (ht : (findR l k).2 = true) : (l.map ent).filter (nk k) = (l.take (findR l k).1).map ent ++ (l.drop ((findR l k).1 + 1)).map ent := by
  have hlt := findR_lt l k ht
  have hsm := find_same ht
  rw [rd_get l _ hlt] at hsm
  have e : l.map ent = (l.take (findR l k).1).map ent ++ ent l[(findR l k).1] :: (l.drop ((findR l k).1 + 1)).map ent := by
    rw [← List.map_cons, ← List.map_append, ← List.drop_eq_getElem_cons hlt, List.take_append_drop]
  rw [e, List.filter_append, List.filter_cons, if_neg (by rw [nk_ent]; exact fun h => h hsm)]
  congr 1
  · refine List.filter_eq_self.2 (fun p hp => ?_)
    obtain ⟨j, hj, rfl⟩ := mem_ent hp
    rw [nk_ent, List.getElem_take, ← hsm]
    exact hs.ne' _ hlt (by rw [List.length_take] at hj; omega)
  · refine List.filter_eq_self.2 (fun p hp => ?_)
    obtain ⟨j, hj, rfl⟩ := mem_ent hp
    rw [nk_ent, List.getElem_drop, ← hsm]
    exact hs.ne' (by rw [List.length_drop] at hj; omega) hlt (by omega)
theorem filter_none {l : List S32} {k : List Int} (ht : (findR l k).2 = false) : (l.map ent).filter (nk k) = l.map ent := by
  refine List.filter_eq_self.2 (fun p hp => ?_)
  obtain ⟨j, hj, rfl⟩ := mem_ent hp
  rw [nk_ent]
  intro e
  have := no_key ht j hj
  rw [rd_get l j hj, sameB_iff.2 e] at this
  cases this
theorem mir_put {D : DataW Unit} {l : List S32} (h : Mir D l) (hs : Srt l) {k : List Int} {v : Int} (h0 : (putR l k [v]).2.f0 = 0) : Mir (D.put (.string (Lib.bytesOf k)) (.lit (.int .u8 v))) (putR l k [v]).1 := by
  obtain ⟨E, rfl, hp⟩ := h
  refine ⟨DataW.insert (.string (Lib.bytesOf k), .lit (.int .u8 v)) (E.filter (nk k)), rfl, (insert_perm _ _).trans ?_⟩
  have hp2 := hp.filter (nk k)
  unfold putR at h0 ⊢
  split at h0
  · cases h0
  · rename_i hkv
    rw [if_neg hkv]
    cases ht : (findR l k).2 with
    | true =>
      rw [if_pos rfl]
      have hlt := findR_lt l k ht
      have hsm := find_same ht
      rw [filter_split hs ht] at hp2
      refine (hp2.cons _).trans ?_
      rw [List.set_eq_take_append_cons_drop, if_pos hlt, List.map_append, List.map_cons]
      have e : ent ⟨(rd_T32 l ((findR l k).1 : Int)).f0, [v]⟩ = (.string (Lib.bytesOf k), .lit (.int .u8 v)) := by
        show (Lit.string _, _) = _
        rw [hsm]
        rfl
      rw [e]
      exact List.perm_middle.symm
    | false =>
      rw [ht, if_neg (by simp)] at h0
      rw [if_neg (by simp)]
      split at h0
      · cases h0
      · rename_i h8
        rw [if_neg h8]
        rw [filter_none ht] at hp2
        refine (hp2.cons _).trans ?_
        rw [List.map_append, List.map_cons]
        have e : l.map ent = (l.take (findR l k).1).map ent ++ (l.drop (findR l k).1).map ent := by rw [← List.map_append, List.take_append_drop]
        rw [e]
        exact List.perm_middle.symm
theorem mir_del {D : DataW Unit} {l : List S32} (h : Mir D l) (hs : Srt l) (k : List Int) : Mir (D.del (.string (Lib.bytesOf k))) (delR l k).1 := by
  obtain ⟨E, rfl, hp⟩ := h
  refine ⟨E.filter (nk k), rfl, ?_⟩
  have hp2 := hp.filter (nk k)
  unfold delR
  cases ht : (findR l k).2 with
  | true =>
    rw [if_pos rfl]
    rw [filter_split hs ht, ← List.map_append] at hp2
    exact hp2
  | false =>
    rw [if_neg (by simp)]
    rw [filter_none ht] at hp2
    exact hp2
theorem put_err (l : List S32) (k : List Int) (v : Int) : ((putR l k [v]).2.f0 = 0) ↔ (k.length ≤ 8 ∧ ((findR l k).2 = true ∨ l.length < 8)) := by
  unfold putR
  split
  · rename_i h
    have : 8 < k.length := by simpa using h
    constructor
    · intro h'; cases h'
    · intro h'; omega
  · rename_i h
    have hk : k.length ≤ 8 := by simp at h; omega
    cases ht : (findR l k).2 with
    | true => rw [if_pos rfl]; simp [hk]
    | false =>
      rw [if_neg (by simp)]
      split
      · rename_i h8
        constructor
        · intro h'; cases h'
        · rintro ⟨_, h' | h'⟩
          · cases h'
          · omega
      · rename_i h8
        simp [hk]
        omega
theorem put_err2 {l : List S32} {k : List Int} {v : Int} (h : (putR l k [v]).2.f0 ≠ 0) : (putR l k [v]).1 = l := by
  unfold putR at h ⊢
  split
  · rfl
  · rename_i hk
    rw [if_neg hk] at h
    split
    · rename_i ht; rw [if_pos ht] at h; exact absurd rfl h
    · rename_i ht
      rw [if_neg ht] at h
      split
      · rfl
      · rename_i h8; rw [if_neg h8] at h; exact absurd rfl h
theorem del_err (l : List S32) (k : List Int) : ((delR l k).2.f0 = 0) ↔ (findR l k).2 = true := by
  unfold delR
  cases (findR l k).2 <;> simp
def ones (l : List S32) : Prop := ∀ x ∈ l, x.f1.length = 1
theorem ones_put {l : List S32} {k : List Int} {v : Int} (h : ones l) : ones (putR l k [v]).1 := by
  intro x hx
  unfold putR at hx
  split at hx
  · exact h x hx
  · split at hx
    · rcases List.mem_or_eq_of_mem_set hx with h' | rfl
      · exact h x h'
      · rfl
    · split at hx
      · exact h x hx
      · rcases List.mem_append.1 hx with hx | hx
        · exact h x (List.mem_of_mem_take hx)
        · rcases List.mem_cons.1 hx with rfl | hx
          · rfl
          · exact h x (List.mem_of_mem_drop hx)
theorem ones_del {l : List S32} {k : List Int} (h : ones l) : ones (delR l k).1 := by
  intro x hx
  unfold delR at hx
  split at hx
  · rcases List.mem_append.1 hx with hx | hx
    · exact h x (List.mem_of_mem_take hx)
    · exact h x (List.mem_of_mem_drop hx)
  · exact h x hx
end Go.Proofs.Ytiodnbeifgnhcaa.Ms
