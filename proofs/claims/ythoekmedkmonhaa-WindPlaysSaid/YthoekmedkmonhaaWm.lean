/- WindPlays: what a round does to what the law holds. -/
import Derived.Test.YthoekmedkmonhaaWl
import Derived.Deep.AppendLies
namespace Go.Proofs.Ythoekmedkmonhaa.Wi
open Go Go.RowKit Go.Maps Go.Shelf Go.Proofs.Ythoekmedkmonhaa Go.Proofs.YthoekmedkmonhaaW.PrintWords
set_option linter.unusedVariables false
set_option linter.unusedSimpArgs false

/-- How the law's blocks lie. -/
def Ord (B3 bw mw bv mv mh : Nat) : Prop := B3 + 1 + 1 < bw ∧ B3 + 1 + 1 < mw ∧ bw < bv ∧ bw < mv ∧ mw < bv ∧ mw < mv ∧ bv < mh ∧ mv < mh ∧ bw ≠ mw ∧ bv ≠ mv

/-- What the law holds, but for the map of its own and what links it to the windows. -/
structure PlB (w : World) (B3 bw mw bv mv mh : Nat) (fr : Int) (a2 : Int) (i : Nat) (ds : List Nat) (sw sv : Wd) (wr : World) : Prop where
  b3 : Boxed wr B3 3 (.int .i64 fr)
  b5 : Boxed wr (B3 + 1) 3 (.int .i64 a2)
  b6 : Boxed wr (B3 + 1 + 1) 4 (.bool false)
  b9 : Boxed wr (mh + 1) 49 (.map (some mh))
  hw : Wn 61 wr bw mw i sw
  hv : Wn 74 wr bv mv i sv
  dd : ∀ D ∈ ds, wr.heap[D]? = some (.deferred (some [])) ∧ mh + 1 < D
  bel : Below w.heap.size w wr

/-- Two windows turn, each with a step of its own; a block of one byte is laid between. -/
theorem plb_two {w : World} {B3 bw mw bv mv mh : Nat} {a2 : Int} {i : Nat} {ds : List Nat} {sw sv sw1 sv1 : Wd} {wr u1 u2 u3 : World}
    (HP : PlI w B3 (B3 + 1) (B3 + 1 + 1) (mh + 1) bw mw bv mv mh a2 i ds sw sv wr) (HO : Ord B3 bw mw bv mv mh) (hwB : w.heap.size ≤ B3)
    (ht1 : Tn bw mw wr u1) (hw1 : Wn 61 u1 bw mw (i + 1) sw1) (h12 : Below u1.heap.size u1 u2) (ht2 : Tn bv mv u2 u3) (hv1 : Wn 74 u3 bv mv (i + 1) sv1) :
    PlB w B3 bw mw bv mv mh sw.fr a2 (i + 1) ds sw1 sv1 u3 ∧ Mf u3 mh i sw.f ∧ (∀ (g : Nat) (x : Array Value), wr.heap[g]? = some (Obj.cells x 5 (0, 0)) → u3.heap[g]? = some (Obj.cells x 5 (0, 0))) ∧
      (∀ (g : Nat) (x : Array Value), u1.heap.size ≤ g → u2.heap[g]? = some (Obj.cells x 5 (0, 0)) → u3.heap[g]? = some (Obj.cells x 5 (0, 0))) := by
  obtain ⟨o1, o2, o3, o4, o5, o6, o7, o8, o9, o10⟩ := HO
  have s1 := ht1.size
  have s2 := h12.size
  have keep : ∀ j, j < wr.heap.size → j ≠ bw → j ≠ mw → j ≠ bv → j ≠ mv → u3.heap[j]? = wr.heap[j]? := fun j h0 h1 h2 h3 h4 =>
    (ht2.block j (by omega) h3 h4).trans ((h12.block j (by omega)).trans (ht1.block j h0 h1 h2))
  have lb3 := HP.b3.lt
  have lb5 := HP.b5.lt
  have lb6 := HP.b6.lt
  have lb9 := HP.b9.lt
  have lm := HP.hm.lt
  refine ⟨⟨(keep _ lb3 (by omega) (by omega) (by omega) (by omega)).trans HP.b3, (keep _ lb5 (by omega) (by omega) (by omega) (by omega)).trans HP.b5, (keep _ lb6 (by omega) (by omega) (by omega) (by omega)).trans HP.b6, (keep _ lb9 (by omega) (by omega) (by omega) (by omega)).trans HP.b9, ?_, hv1, fun D hD => ?_, ?_⟩, ?_, ?_, ?_⟩
  · have hw2 := hw1.below h12 hw1.blt hw1.mlt
    exact hw2.keep (ht2.block bw hw2.blt (by omega) (by omega)) (ht2.block mw hw2.mlt (by omega) (by omega))
  · obtain ⟨d1, d2⟩ := HP.dd D hD
    exact ⟨(keep D (Array.getElem?_eq_some_iff.1 d1).1 (by omega) (by omega) (by omega) (by omega)).trans d1, d2⟩
  · exact ((HP.bel.trans (ht1.below (by omega) (by omega) HP.bel.size)).trans (h12.mono (by have := HP.bel.size; omega))).trans (ht2.below (by omega) (by omega) (by have := HP.bel.size; omega))
  · exact HP.hm.of_block (keep mh lm (by omega) (by omega) (by omega) (by omega))
  · intro g x hg
    refine (keep g (Array.getElem?_eq_some_iff.1 hg).1 ?_ ?_ ?_ ?_).trans hg
    · rintro rfl; have := HP.hw.hb.symm.trans hg; simp at this
    · rintro rfl; exact HP.hw.hm.not_cells hg rfl
    · rintro rfl; have := HP.hv.hb.symm.trans hg; simp at this
    · rintro rfl; exact HP.hv.hm.not_cells hg rfl
  · intro g x hg hx
    have q1 := HP.hv.blt
    have q2 := HP.hv.mlt
    exact (ht2.block g (Array.getElem?_eq_some_iff.1 hx).1 (by omega) (by omega)).trans hx

/-- Nothing was put. -/
theorem pli_stay {w : World} {B3 bw mw bv mv mh : Nat} {a2 : Int} {i : Nat} {ds : List Nat} {sw sv : Wd} {wr u3 : World}
    (HP : PlI w B3 (B3 + 1) (B3 + 1 + 1) (mh + 1) bw mw bv mv mh a2 i ds sw sv wr) (h : PlB w B3 bw mw bv mv mh sw.fr a2 (i + 1) ds sw sv u3) (hm : Mf u3 mh i sw.f)
    (hk : ∀ (g : Nat) (x : Array Value), wr.heap[g]? = some (Obj.cells x 5 (0, 0)) → u3.heap[g]? = some (Obj.cells x 5 (0, 0))) :
    PlI w B3 (B3 + 1) (B3 + 1 + 1) (mh + 1) bw mw bv mv mh a2 (i + 1) ds sw sv u3 :=
  ⟨h.b3, h.b5, h.b6, h.b9, h.hw, HP.iw.mono (by omega), h.hv, HP.iv.mono (by omega), hm.mono (by omega), HP.lk.keep hk, h.dd, HP.nd, h.bel⟩

/-- Something was put into both, and into the map. -/
theorem pli_put {w : World} {B3 bw mw bv mv mh : Nat} {a2 : Int} {i g : Nat} {k : Int} {ds : List Nat} {sw sv sw1 sv1 : Wd} {wr u3 u4 : World}
    (HP : PlI w B3 (B3 + 1) (B3 + 1 + 1) (mh + 1) bw mw bv mv mh a2 i ds sw sv wr) (HO : Ord B3 bw mw bv mv mh) (hwB : w.heap.size ≤ B3) (h : PlB w B3 bw mw bv mv mh sw.fr a2 (i + 1) ds sw1 sv1 u3)
    (hk : ∀ (g : Nat) (x : Array Value), wr.heap[g]? = some (Obj.cells x 5 (0, 0)) → u3.heap[g]? = some (Obj.cells x 5 (0, 0)))
    (hi : i < 60) (hg : u3.heap[g]? = some (Obj.cells #[.int .u8 (i : Int)] 5 (0, 0)))
    (hpw : PutIs sw k (.int .i64 (i : Int)) true sw1) (hiw : Iv (i + 1) sw1) (hpv : PutIs sv k (.slice (some ⟨g, 0, none⟩) 1 1) true sv1) (hiv : Iv (i + 1) sv1)
    (ht : u3.mapTurned u4 mh) (hm : Mf u4 mh (i + 1) (upd sw.f k (some (.int .i64 (i : Int))))) :
    PlI w B3 (B3 + 1) (B3 + 1 + 1) (mh + 1) bw mw bv mv mh a2 (i + 1) ds sw1 sv1 u4 := by
  obtain ⟨o1, o2, o3, o4, o5, o6, o7, o8, o9, o10⟩ := HO
  have hgr := ht.grown
  have keep : ∀ j, j < u3.heap.size → j ≠ mh → u4.heap[j]? = u3.heap[j]? := fun j h0 h1 => hgr.block j h0 (fun e => h1 (by injection e))
  have hfw := hpw.f rfl
  have hfv := hpv.f rfl
  have k5 : ∀ (g : Nat) (x : Array Value), u3.heap[g]? = some (Obj.cells x 5 (0, 0)) → u4.heap[g]? = some (Obj.cells x 5 (0, 0)) := fun g x hx =>
    (keep g (Array.getElem?_eq_some_iff.1 hx).1 (fun e => by obtain ⟨es, c, _, _, hb, _⟩ := ht; rw [e] at hx; rw [hb] at hx; cases hx)).trans hx
  refine ⟨by rw [hpw.fr]; exact (keep _ h.b3.lt (by omega)).trans h.b3, (keep _ h.b5.lt (by omega)).trans h.b5, (keep _ h.b6.lt (by omega)).trans h.b6, (keep _ h.b9.lt (by omega)).trans h.b9, h.hw.keep (keep _ h.hw.blt (by omega)) (keep _ h.hw.mlt (by omega)), hiw,
    h.hv.keep (keep _ h.hv.blt (by omega)) (keep _ h.hv.mlt (by omega)), hiv, by rw [hfw]; exact hm, ⟨by rw [hpw.fr, hpv.fr]; exact HP.lk.fr, fun j hj => ?_, fun j v hj => ?_⟩, fun D hD => ?_, HP.nd, ?_⟩
  · rw [hfw] at hj
    rw [hfv]
    by_cases e : j = k
    · subst e; rw [upd_same] at hj; cases hj
    · rw [upd_other _ _ _ e] at hj ⊢
      exact HP.lk.no j hj
  · rw [hfw] at hj
    rw [hfv]
    by_cases e : j = k
    · subst e
      rw [upd_same] at hj ⊢
      cases hj
      exact ⟨i, g, rfl, hi, rfl, k5 g _ hg⟩
    · rw [upd_other _ _ _ e] at hj ⊢
      obtain ⟨x, g', h1, h2, h3, h4⟩ := HP.lk.yes j v hj
      exact ⟨x, g', h1, h2, h3, k5 g' _ (hk g' _ h4)⟩
  · obtain ⟨d1, d2⟩ := h.dd D hD
    exact ⟨(keep D (Array.getElem?_eq_some_iff.1 d1).1 (by omega)).trans d1, d2⟩
  · exact h.bel.trans ⟨hgr.os, hgr.tape, hgr.output, hgr.size, fun j hj => keep j (by have := h.bel.size; omega) (by omega)⟩

theorem cut_same {n : Nat} {s s' : Wd} {i : Int} (h : CutIs s i s') (hv : Iv n s) (hno : ¬(s.fr < i ∧ i ≤ s.wh)) : s' = s := by
  have hfr : s'.fr = s.fr := by rw [h.fr, if_neg hno]
  refine wd_ext hfr h.wh h.tp ?_
  funext j
  rw [h.f j, hfr]
  split
  · cases hj : s.f j with
    | none => rfl
    | some y => have := (hv.in3 j (by rw [hj]; rfl)).1; omega
  · rfl
theorem cut_fr {s s' : Wd} {i : Int} (h : CutIs s i s') (h1 : s.fr < i) (h2 : i ≤ s.wh) : s'.fr = i := by rw [h.fr, if_pos ⟨h1, h2⟩]

/-- What a map's datum says at a number. -/
def At (D : DataW Value) (j : Int) (v : Option Value) : Prop := Maps.has D (.int .i64 j) = v.isSome ∧ ∀ z, D.atKey (.int .i64 j) (.held z) = .held (v.getD z)
/-- In the midst of a range that lets go what lies up to k. -/
def Dl (f : Int → Option Value) (k : Int) (D : DataW Value) (left : Lit → Bool) : Prop :=
  ∀ j, Wf j → (k < j → At D j (f j)) ∧ (j ≤ k → (left (.int .i64 j) = true ∧ At D j (f j)) ∨ At D j none)
theorem dl_start {f : Int → Option Value} {k : Int} {D : DataW Value} (h : ∀ j, Wf j → At D j (f j)) : Dl f k D (Maps.has D) := fun j hj =>
  ⟨fun _ => h j hj, fun _ => by
    cases hf : f j with
    | none => right; have := h j hj; rw [hf] at this; exact this
    | some v => left; have := h j hj; rw [hf] at this; exact ⟨this.1, this⟩⟩
theorem dl_skip {f : Int → Option Value} {k x : Int} {D : DataW Value} {left : Lit → Bool} (h : Dl f k D left) (hx : k < x) : Dl f k D (fun z => left z && !z.sameKey (.int .i64 x)) := fun j hj =>
  ⟨(h j hj).1, fun hjk => by
    rcases (h j hj).2 hjk with h1 | h1
    · left
      refine ⟨?_, h1.2⟩
      have hne : Lit.sameKey (.int .i64 j) (.int .i64 x) = false := by simp [Lit.sameKey]; omega
      simp [h1.1, hne]
    · exact .inr h1⟩
theorem dl_del {f : Int → Option Value} {k x : Int} {D : DataW Value} {left : Lit → Bool} (h : Dl f k D left) (hx : x ≤ k) : Dl f k (D.del (.int .i64 x)) (fun z => (left z && !z.sameKey (.int .i64 x)) && !z.sameKey (.int .i64 x)) := fun j hj => by
  by_cases e : j = x
  · subst e
    exact ⟨fun hk => by omega, fun _ => .inr ⟨has_del_same, fun z => atKey_del_same _⟩⟩
  · have hne : Lit.sameKey (.int .i64 j) (.int .i64 x) = false := by simp [Lit.sameKey, e]
    have tr : ∀ v, At D j v → At (D.del (.int .i64 x)) j v := fun v hv => ⟨by rw [has_del_other (key_ne e)]; exact hv.1, fun z => by rw [atKey_del_other (key_ne e)]; exact hv.2 z⟩
    refine ⟨fun hk => tr _ ((h j hj).1 hk), fun hk => ?_⟩
    rcases (h j hj).2 hk with h1 | h1
    · exact .inl ⟨by simp [h1.1, hne], tr _ h1.2⟩
    · exact .inr (tr _ h1)
theorem dl_end {f : Int → Option Value} {k : Int} {D : DataW Value} {left : Lit → Bool} (h : Dl f k D left) (hl : ∀ kl, left kl = false) : ∀ j, Wf j → At D j (if j ≤ k then none else f j) := fun j hj => by
  by_cases e : j ≤ k
  · rw [if_pos e]
    rcases (h j hj).2 e with h1 | h1
    · rw [hl] at h1; cases h1.1
    · exact h1
  · rw [if_neg e]
    exact (h j hj).1 (by omega)

/-- What lay up to k was let go of both windows, and of the map. -/
theorem pli_cut {w : World} {B3 bw mw bv mv mh : Nat} {a2 : Int} {i : Nat} {k : Int} {ds : List Nat} {sw sv sw1 sv1 : Wd} {wr u3 u4 : World}
    (HP : PlI w B3 (B3 + 1) (B3 + 1 + 1) (mh + 1) bw mw bv mv mh a2 i ds sw sv wr) (HO : Ord B3 bw mw bv mv mh) (hwB : w.heap.size ≤ B3) (h : PlB w B3 bw mw bv mv mh k a2 (i + 1) ds sw1 sv1 u3)
    (hk : ∀ (g : Nat) (x : Array Value), wr.heap[g]? = some (Obj.cells x 5 (0, 0)) → u3.heap[g]? = some (Obj.cells x 5 (0, 0)))
    (hcw : CutIs sw k sw1) (hiw : Iv i sw1) (hcv : CutIs sv k sv1) (hiv : Iv i sv1) (h1 : sw.fr < k) (h2 : k ≤ sw.wh) (h3 : sv.fr < k) (h4 : k ≤ sv.wh)
    (hkeep : ∀ j, j < u3.heap.size → j ≠ mh → u4.heap[j]? = u3.heap[j]?) (hos : u4.os = u3.os ∧ u4.tape = u3.tape ∧ u4.output = u3.output ∧ u3.heap.size ≤ u4.heap.size) (hm3 : ∃ es c, u3.heap[mh]? = some (.map es c)) (hm : Mf u4 mh i (fun j => if j ≤ k then none else sw.f j)) :
    PlI w B3 (B3 + 1) (B3 + 1 + 1) (mh + 1) bw mw bv mv mh a2 (i + 1) ds sw1 sv1 u4 := by
  obtain ⟨o1, o2, o3, o4, o5, o6, o7, o8, o9, o10⟩ := HO
  have fw := cut_fr hcw h1 h2
  have fv := cut_fr hcv h3 h4
  have k5 : ∀ (g : Nat) (x : Array Value), u3.heap[g]? = some (Obj.cells x 5 (0, 0)) → u4.heap[g]? = some (Obj.cells x 5 (0, 0)) := fun g x hx =>
    (hkeep g (Array.getElem?_eq_some_iff.1 hx).1 (fun e => by obtain ⟨es, c, hb⟩ := hm3; rw [e] at hx; rw [hb] at hx; cases hx)).trans hx
  have hff : (fun j => if j ≤ k then none else sw.f j) = sw1.f := by funext j; rw [hcw.f j, fw]
  rw [hff] at hm
  refine ⟨by rw [fw]; exact (hkeep _ h.b3.lt (by omega)).trans h.b3, (hkeep _ h.b5.lt (by omega)).trans h.b5, (hkeep _ h.b6.lt (by omega)).trans h.b6, (hkeep _ h.b9.lt (by omega)).trans h.b9, h.hw.keep (hkeep _ h.hw.blt (by omega)) (hkeep _ h.hw.mlt (by omega)), hiw.mono (by omega),
    h.hv.keep (hkeep _ h.hv.blt (by omega)) (hkeep _ h.hv.mlt (by omega)), hiv.mono (by omega), hm.mono (by omega), ⟨by rw [fw, fv], fun j hj => ?_, fun j v hj => ?_⟩, fun D hD => ?_, HP.nd, ?_⟩
  · rw [hcw.f j, fw] at hj
    rw [hcv.f j, fv]
    by_cases e : j ≤ k
    · rw [if_pos e]
    · rw [if_neg e] at hj ⊢
      exact HP.lk.no j hj
  · rw [hcw.f j, fw] at hj
    rw [hcv.f j, fv]
    by_cases e : j ≤ k
    · rw [if_pos e] at hj; cases hj
    · rw [if_neg e] at hj ⊢
      obtain ⟨x, g', p1, p2, p3, p4⟩ := HP.lk.yes j v hj
      exact ⟨x, g', p1, p2, p3, k5 g' _ (hk g' _ p4)⟩
  · obtain ⟨d1, d2⟩ := h.dd D hD
    exact ⟨(hkeep D (Array.getElem?_eq_some_iff.1 d1).1 (by omega)).trans d1, d2⟩
  · exact h.bel.trans ⟨hos.1, hos.2.1, hos.2.2.1, hos.2.2.2, fun j hj => hkeep j (by have := h.bel.size; omega) (by omega)⟩

theorem plb_store {w : World} {B3 bw mw bv mv mh : Nat} {fr a2 : Int} {i : Nat} {ds : List Nat} {sw sv : Wd} {wr : World} (h : PlB w B3 bw mw bv mv mh fr a2 i ds sw sv wr) (HO : Ord B3 bw mw bv mv mh) (hwB : w.heap.size ≤ B3) (k : Int) :
    PlB w B3 bw mw bv mv mh k a2 i ds sw sv (wr.setCell ⟨B3, 0, none⟩ (.int .i64 k)) := by
  obtain ⟨o1, o2, o3, o4, o5, o6, o7, o8, o9, o10⟩ := HO
  exact ⟨h.b3.set _, h.b5.other (by omega) _, h.b6.other (by omega) _, h.b9.other (by omega) _, h.hw.set (p := ⟨B3, 0, none⟩) (by show bw ≠ B3; omega) (by show mw ≠ B3; omega) _, h.hv.set (p := ⟨B3, 0, none⟩) (by show bv ≠ B3; omega) (by show mv ≠ B3; omega) _,
    fun D hD => ⟨(Below.heap_setCell _ _ _ _ (by show D ≠ B3; have := (h.dd D hD).2; omega)).trans (h.dd D hD).1, (h.dd D hD).2⟩, h.bel.setCell (p := ⟨B3, 0, none⟩) hwB _⟩

/-- The greatest number so far, in a range over the map. -/
structure Tp (s : Wd) (t : Int) (left : Lit → Bool) : Prop where
  ge : s.fr ≤ t
  is : t = s.fr ∨ (s.f t).isSome = true
  all : ∀ j, Wf j → (s.f j).isSome = true → j ≤ t ∨ left (.int .i64 j) = true
  lf : ∀ j, Wf j → left (.int .i64 j) = true → (s.f j).isSome = true
theorem tp_start {s : Wd} {D : DataW Value} (h : ∀ j, Wf j → Maps.has D (.int .i64 j) = (s.f j).isSome ∧ ∀ z, D.atKey (.int .i64 j) (.held z) = .held ((s.f j).getD z)) : Tp s s.fr (Maps.has D) :=
  ⟨Int.le_refl _, .inl rfl, fun j hj hs => .inr (by rw [(h j hj).1]; exact hs), fun j hj hl => by rw [← (h j hj).1]; exact hl⟩
theorem tp_step {n : Nat} {s : Wd} {t x : Int} {left : Lit → Bool} (hv : Iv n s) (h : Tp s t left) (hl : left (.int .i64 x) = true) (hx : Wf x) : Tp s (max t x) (fun z => left z && !z.sameKey (.int .i64 x)) := by
  have hxs := h.lf x hx hl
  have hxr := hv.in3 x hxs
  refine ⟨by have := h.ge; omega, ?_, fun j hj hs => ?_, fun j hj hz => h.lf j hj (by simp at hz; exact hz.1)⟩
  · by_cases e : t < x
    · rw [show max t x = x by omega]; exact .inr hxs
    · rw [show max t x = t by omega]; exact h.is
  · by_cases e : j = x
    · left; omega
    · rcases h.all j hj hs with h1 | h1
      · left; omega
      · right
        have hne : Lit.sameKey (.int .i64 j) (.int .i64 x) = false := by simp [Lit.sameKey, e]
        simp [h1, hne]
theorem tp_end {n : Nat} {s : Wd} {t : Int} {left : Lit → Bool} (hv : Iv n s) (hn : n ≤ 1000000) (h : Tp s t left) (hl : ∀ kl, left kl = false) : t = s.tp := by
  have h1 := hv.p1
  have h2 := hv.p2
  have h3 := h.ge
  have hle : t ≤ s.tp := by
    rcases h.is with e | e
    · omega
    · exact (hv.in3 t e).2
  rcases Int.lt_or_le s.fr s.tp with h4 | h4
  · have h5 := hv.in4 h4
    have h6 := hv.p3
    have h7 := hv.p4
    have hw : Wf s.tp := ⟨by have := hv.p0; omega, by omega⟩
    rcases h.all s.tp hw h5 with h8 | h8
    · omega
    · rw [hl] at h8; cases h8
  · omega

/-- One number is appended to a row of one's own: where the new row lies. -/
theorem wpList_app1 {w : World} {ops : Array Oper} {rest : List Oper} {o : Oper} {a : Act} {Q : Exit → Act → World → Prop} (hgd : o.guard = none) (s x : Operand)
    (ho : o.op = .call { callee := .builtin .append, args := #[s, x], argTypes := #[22, 22] }) (base : Nat) (v : Value) (n : Nat) (xs : List Value) (hs : a.eval s = v) (hown : w.ownsRow base 3 1 v n xs) (g0 : Nat) (u : Int)
    (hx : a.eval x = .slice (some ⟨g0, 0, none⟩) 1 1) (hu : w.heap[g0]? = some (.cells #[.int .i64 u] 3 (0, 0))) (hn : n < 4398046511104) (hbase : base ≤ w.heap.size)
    (h : ∀ g cap w', w'.ownsRow base 3 1 (.slice (some ⟨g, 0, none⟩) (n + 1) cap) (n + 1) (xs ++ [.int .i64 u]) → w.grownBy w' v.ownBlock → (v.ownBlock = some g ∨ g = w.heap.size) → wpList Try.prog ops Q rest (a.put o.dst (.slice (some ⟨g, 0, none⟩) (n + 1) cap)) w') :
    wpList Try.prog ops Q (o :: rest) a w := by
  obtain ⟨i0, hi, hz0, hz1, hz2⟩ := info_parts info3
  refine wpList_plain hgd fun K hK => ?_
  refine wp_append_lies w s x 22 ho base 3 i0 (.int .i64 0) 1 8 Try.underlying22 hi hz0 hz1 hz2 rfl (by decide) v n xs hs hown ⟨g0, 0, none⟩ 1 1 [.int .i64 u] hx rfl (World.news_of_block (cs := #[.int .i64 u]) hu) (by simp [Value.oneCell']) (by decide) (by simp [maxLen]; omega) (by omega) hbase w.heap.size rfl ?_
  intro g cap w' h1 h2 h3 _
  exact hK _ _ (h g cap w' h1 h2 h3)

/-- Two rows of numbers of one's own, in blocks of their own. -/
structure Rw2 (w : World) (base : Nat) (A1 : Option Addr) (n1 c1 : Nat) (l1 : List Int) (A2 : Option Addr) (n2 c2 : Nat) (l2 : List Int) : Prop where
  r1 : w.ownsRow base 3 1 (.slice A1 n1 c1) n1 (l1.map (Value.int .i64))
  r2 : w.ownsRow base 3 1 (.slice A2 n2 c2) n2 (l2.map (Value.int .i64))
  ne : ∀ g, A1 = some ⟨g, 0, none⟩ → A2 ≠ some ⟨g, 0, none⟩
theorem Rw2.swap {w : World} {base : Nat} {A1 A2 : Option Addr} {n1 c1 n2 c2 : Nat} {l1 l2 : List Int} (h : Rw2 w base A1 n1 c1 l1 A2 n2 c2 l2) : Rw2 w base A2 n2 c2 l2 A1 n1 c1 l1 :=
  ⟨h.r2, h.r1, fun g h2 h1 => h.ne g h1 h2⟩
theorem Rw2.start (w : World) (base : Nat) : Rw2 w base none 0 0 [] none 0 0 [] := ⟨World.ownsRow_nil _ _ _ _, World.ownsRow_nil _ _ _ _, fun _ h => by cases h⟩
theorem Rw2.grow {w w' : World} {base : Nat} {A1 A2 : Option Addr} {n1 c1 n2 c2 g cap : Nat} {l1 l2 : List Int} {u : Int} {o : Obj} (h : Rw2 w base A1 n1 c1 l1 A2 n2 c2 l2)
    (hown : w'.ownsRow base 3 1 (.slice (some ⟨g, 0, none⟩) (n1 + 1) cap) (n1 + 1) (l1.map (Value.int .i64) ++ [.int .i64 u])) (hg : (w.alloc o).grownBy w' (Value.slice A1 n1 c1).ownBlock) (hl : (Value.slice A1 n1 c1).ownBlock = some g ∨ g = (w.alloc o).heap.size) :
    Rw2 w' base (some ⟨g, 0, none⟩) (n1 + 1) cap (l1 ++ [u]) A2 n2 c2 l2 := by
  have hne : ∀ g2, A2 = some ⟨g2, 0, none⟩ → (Value.slice A1 n1 c1).ownBlock ≠ some g2 := fun g2 h2 e => by
    rcases h.r1.2 with ⟨e1, _⟩ | ⟨g1, cap1, cur, e1, _⟩
    · rw [e1] at e; simp [Value.ownBlock] at e
    · injection e1 with e1 _ _
      rw [e1] at e
      simp [Value.ownBlock] at e
      subst e
      exact h.ne _ e1 h2
  refine ⟨by rw [List.map_append]; exact hown, ?_, fun g' hg' h2 => ?_⟩
  · refine ⟨h.r2.1, ?_⟩
    rcases h.r2.2 with e | ⟨g2, cap2, cur, e1, e2, e3, e4⟩
    · exact .inl e
    · refine .inr ⟨g2, cap2, cur, e1, e2, ?_, e4⟩
      injection e1 with e1 _ _
      exact (hg.block g2 (by simp; have := (Array.getElem?_eq_some_iff.1 e3).1; omega) (fun e => hne g2 e1 e.symm)).trans ((Below.heap_alloc _ _ _ (Array.getElem?_eq_some_iff.1 e3).1).trans e3)
  · injection hg' with hg'
    injection hg' with hg' _ _
    subst hg'
    rcases hl with hl | hl
    · exact hne _ h2 hl
    · rcases h.r2.2 with ⟨e, _⟩ | ⟨g2, cap2, cur, e1, e2, e3, e4⟩
      · injection e with e _ _; rw [e] at h2; cases h2
      · injection e1 with e1 _ _
        rw [h2] at e1
        injection e1 with e1
        injection e1 with e1 _ _
        have := (Array.getElem?_eq_some_iff.1 e3).1
        simp at hl
        omega
theorem Rw2.below {w w' : World} {base : Nat} {A1 A2 : Option Addr} {n1 c1 n2 c2 : Nat} {l1 l2 : List Int} (h : Rw2 w base A1 n1 c1 l1 A2 n2 c2 l2) (hb : Below w.heap.size w w') : Rw2 w' base A1 n1 c1 l1 A2 n2 c2 l2 :=
  ⟨row_below h.r1 hb, row_below h.r2 hb, h.ne⟩
theorem Rw2.grown {w w' W0 : World} {base : Nat} {A1 A2 : Option Addr} {n1 c1 n2 c2 : Nat} {l1 l2 : List Int} {o : Obj} (h : Rw2 w base A1 n1 c1 l1 A2 n2 c2 l2) (hg : (w.alloc o).grownBy w' (Value.slice A1 n1 c1).ownBlock) (hb : Below base W0 w) (hs : base ≤ w.heap.size) : Below base W0 w' :=
  (hb.alloc hs o).grown hg (by simp; omega) (fun j e => by
    rcases h.r1.2 with ⟨e1, _⟩ | ⟨g1, cap1, cur, e1, e2, _⟩
    · rw [e1] at e; simp [Value.ownBlock] at e
    · rw [e1] at e; simp [Value.ownBlock] at e; omega)
theorem holes_take {s : Wd} {p M : Nat} (h : (s.f (s.fr + 1 + (p : Int))).isSome = false) :
    (((holesTo s p).take M).length < M → (holesTo s (p + 1)).take M = (holesTo s p).take M ++ [s.fr + 1 + (p : Int)]) ∧ (¬ ((holesTo s p).take M).length < M → (holesTo s (p + 1)).take M = (holesTo s p).take M) := by
  rw [holesTo_succ, h]
  simp only [Bool.false_eq_true, if_false]
  rw [take_app]
  refine ⟨fun hl => ?_, fun hl => ?_⟩
  · rw [List.take_of_length_le (l := [s.fr + 1 + (p : Int)]) (by show 1 ≤ M - ((holesTo s p).take M).length; omega)]
  · rw [show M - ((holesTo s p).take M).length = 0 by omega]
    simp
theorem holes_some {s : Wd} {p M : Nat} (h : (s.f (s.fr + 1 + (p : Int))).isSome = true) : (holesTo s (p + 1)).take M = (holesTo s p).take M := by
  rw [holesTo_succ, h]; simp

theorem PlI.bx {w : World} {B3 B5 B6 B9 bw mw bv mv mh : Nat} {a2 : Int} {i : Nat} {ds : List Nat} {sw sv : Wd} {v0 W : World} {k H : Nat} {u : Value} (h : PlI w B3 B5 B6 B9 bw mw bv mv mh a2 i ds sw sv v0) (hb : Bx k H v0 W) (hk : v0.heap.size ≤ k) (hH : Boxed v0 H 22 u) (hwH : w.heap.size ≤ H) :
    PlI w B3 B5 B6 B9 bw mw bv mv mh a2 i ds sw sv W := by
  have hH' : v0.heap[H]? = some (.cells #[u] 22 (0, 0)) := hH
  have tr : ∀ (j : Nat) (o : Obj), v0.heap[j]? = some o → o ≠ .cells #[u] 22 (0, 0) → W.heap[j]? = some o := fun j o hj ho =>
    (hb.block j (by have := (Array.getElem?_eq_some_iff.1 hj).1; omega) (fun e => by rw [e, hH'] at hj; exact ho (by injection hj with hj; exact hj.symm))).trans hj
  have trm : ∀ {m n : Nat} {f : Int → Option Value}, Mf v0 m n f → Mf W m n f := fun {m n f} hm => by
    obtain ⟨D, ⟨es, c, h1, h2⟩, r⟩ := hm
    exact ⟨D, ⟨es, c, tr _ _ h1 (by simp), h2⟩, r⟩
  refine ⟨tr _ _ h.b3 (by simp), tr _ _ h.b5 (by simp), tr _ _ h.b6 (by simp), tr _ _ h.b9 (by simp), ⟨tr _ _ h.hw.1 (by simp), trm h.hw.2⟩, h.iw, ⟨tr _ _ h.hv.1 (by simp), trm h.hv.2⟩, h.iv, trm h.hm, h.lk.keep (fun g x hg => tr _ _ hg (by simp)), fun D hD => ⟨tr _ _ (h.dd D hD).1 (by simp), (h.dd D hD).2⟩, h.nd, ?_⟩
  exact h.bel.trans ⟨hb.os, hb.tape, hb.output, hb.size, fun j hj => hb.block j (by have := h.bel.size; omega) (by omega)⟩

theorem cell_b {W W' : World} {p : Addr} {v : Value} (hb : Below W.drew.heap.size W.drew W') (h : W.cell? p = some v) : W'.cell? p = some v := (hb.cell (p := p) (World.block_lt_of_cell? W _ h)).trans h
theorem miss_call {w : World} {B3 B5 B6 B9 bw mw bv mv mh : Nat} {a2 : Int} {i M : Nat} {ds : List Nat} {sw sv : Wd} {W wq : World} (h : PlI w B3 B5 B6 B9 bw mw bv mv mh a2 i ds sw sv W) (hb : Below W.heap.size W wq) (hi : i < 1000000) (hM : M ≤ 64) :
    Calls Try.prog 13 #[.pointer (some ⟨bw, 0, none⟩), .int .i64 (M : Int)] wq (MissEnd wq (missOf sw M)) :=
  callsIn_wide.1 (missing13_in Fence.wide 9 trivial trivial trivial rfl (by omega) bw mw i sw M wq (h.hw.below hb h.hw.blt h.hw.mlt) h.iw hi hM)
theorem same_call {w : World} {n c1 c2 : Nat} {A B : Option Addr} {l : List Int} (hn : n = l.length) (hl : l.length < 1000000000000) (h1 : IR w A l) (h2 : IR w B l) : Calls Try.prog 12 #[.slice A n c1, .slice B n c2] w (SameEnd w true) := by
  have h := same12 A B c1 c2 l l w h1 h2 hl
  rw [decide_eq_true rfl, ← hn] at h
  exact h
theorem sl_ok {m c : Nat} (h : m ≤ c) : (0 : Int) ≤ (m : Int) ∧ (m : Int) ≤ (c : Int) := ⟨Int.natCast_nonneg _, Int.ofNat_le.2 h⟩
end Go.Proofs.Ythoekmedkmonhaa.Wi
