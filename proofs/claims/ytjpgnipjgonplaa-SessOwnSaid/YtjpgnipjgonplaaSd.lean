/- The walk of sess.Put. -/
import Derived.Lib.SliceRun
import Derived.Outline
import Derived.Test.YtjpgnipjgonplaaSc
namespace Go.Proofs.Ytjpgnipjgonplaa.Ss
open Go.RowKit Go.Proofs.YtjpgnipjgonplaaW.PrintWords Go.Proofs.YtjpgnipjgonplaaW.PrintLast Go.Proofs.YtjpgnipjgonplaaW.PrintMore
attribute [local go_sem] max2_int min2_int max_two min_two max_three min_three max_four min_four
set_option linter.unusedVariables false
set_option linter.unusedSimpArgs false

section
variable {α : Type} {R : α → List Value → Prop} {sz : Nat}
theorem reps_take {ps : List α} {cs : List Value} (h : Reps R sz ps cs) (i : Nat) (hi : i ≤ ps.length) : Reps R sz (ps.take i) (cs.take (i * sz)) := by
  have hm : i * sz ≤ ps.length * sz := Nat.mul_le_mul_right _ hi
  refine ⟨by rw [List.length_take, List.length_take, h.1, Nat.min_eq_left hm, Nat.min_eq_left hi], fun j p hj => ?_⟩
  rw [List.getElem?_take] at hj
  split at hj
  · rename_i hji
    have h1 : (j + 1) * sz ≤ i * sz := Nat.mul_le_mul_right _ hji
    rw [Nat.succ_mul] at h1
    rw [List.drop_take, List.take_take, Nat.min_eq_left (by omega)]
    exact h.2 j p hj
  · cases hj
theorem reps_drop {ps : List α} {cs : List Value} (h : Reps R sz ps cs) (i : Nat) : Reps R sz (ps.drop i) (cs.drop (i * sz)) := by
  refine ⟨by rw [List.length_drop, List.length_drop, h.1, Nat.sub_mul], fun j p hj => ?_⟩
  rw [List.getElem?_drop] at hj
  rw [List.drop_drop, ← Nat.add_mul]
  exact h.2 _ p hj
theorem reps_app {ps qs : List α} {cs ds : List Value} (h : Reps R sz ps cs) (h' : Reps R sz qs ds) : Reps R sz (ps ++ qs) (cs ++ ds) := by
  refine ⟨by rw [List.length_append, List.length_append, h.1, h'.1, Nat.add_mul], fun j p hj => ?_⟩
  rcases Nat.lt_or_ge j ps.length with hlt | hge
  · rw [List.getElem?_append_left hlt] at hj
    have h1 : j * sz + sz ≤ cs.length := by rw [h.1, ← Nat.succ_mul]; exact Nat.mul_le_mul_right _ hlt
    rw [List.drop_append_of_le_length (by omega), List.take_append_of_le_length (by rw [List.length_drop]; omega)]
    exact h.2 j p hj
  · rw [List.getElem?_append_right hge] at hj
    have h1 : j * sz = cs.length + (j - ps.length) * sz := by rw [h.1, ← Nat.add_mul]; congr 1; omega
    rw [h1, List.drop_append, List.drop_eq_nil_of_le (Nat.le_add_right _ _), List.nil_append, Nat.add_sub_cancel_left]
    exact h'.2 _ p hj
theorem reps_one {p : α} {c : List Value} (h : R p c) (hl : c.length = sz) : Reps R sz [p] c := by
  refine ⟨by simp [hl], fun j q hq => ?_⟩
  cases j with
  | zero =>
    obtain rfl := Option.some.inj hq
    rw [Nat.zero_mul, List.drop_zero, ← hl, List.take_length]
    exact h
  | succ j => simp at hq
end
theorem Fr_ins {w w' : World} {base g i : Nat} {ok : Nat → Prop} {l : List S31} {x : S31} {olds xc : List Value} {cur : Array Value} (hi : i ≤ l.length) (hr : Reps (k31.M w base ok) 5 l olds) (hx : k31.M w base ok x xc) (hbel : Below w.heap.size w w') (hgw : w.heap.size ≤ g) (hb : base ≤ g)
    (hg : w'.heap[g]? = some (.cells cur 31 (0, 0))) (hs : (l.length + 1) * 5 ≤ cur.size) (hm : l.length + 1 ≤ maxLen) (hc : cur.toList.take ((l.length + 1) * 5) = olds.take (i * 5) ++ xc ++ olds.drop (i * 5)) : Fr k31 31 w' base (some ⟨g, 0, none⟩) (l.take i ++ x :: l.drop i) := by
  have hl : (l.take i ++ x :: l.drop i).length = l.length + 1 := by simp; omega
  refine .inr ⟨g, cur, rfl, hb, hg, by rw [hl]; exact hs, by rw [hl]; exact hm, ?_⟩
  rw [hl]
  show Reps _ 5 _ (cur.toList.take ((l.length + 1) * 5))
  rw [hc]
  have hR := reps_app (reps_app (reps_take hr i hi) (reps_one hx (k31.K_len (k31.K_of_M hx)))) (reps_drop hr i)
  rw [List.append_assoc] at hR
  exact hR.imp_ (fun y c hy => Kd.M_below (k31.M_mono (fun k hk => by have := hk.2.2.1; omega) (k31.M_bound hy)) hbel)
theorem take_setIf (cur : Array Value) (j m : Nat) (u : Value) : (cur.setIfInBounds j u).toList.take m = (cur.toList.take m).set j u := by
  rw [Array.toList_setIfInBounds, List.take_set]
theorem len5 {cs : List Value} (h : cs.length = 5) (a b c d e : Value) : ((((cs.set 0 a).set 1 b).set 2 c).set 3 d).set 4 e = [a, b, c, d, e] := by
  match cs, h with
  | [_, _, _, _, _], _ => rfl
theorem Fr_set {w w' : World} {base g i : Nat} {l : List S31} {x : S31} {cur cur' : Array Value} {a0 a1 a2 a3 a4 : Value} (hi : i < l.length) (hb : base ≤ g) (hs : l.length * 5 ≤ cur.size) (hm : l.length ≤ maxLen) (hr : Reps (k31.M w base (fun k => k ≠ g)) 5 l (cur.toList.take (l.length * 5)))
    (hmono : ∀ y c, k31.M w base (fun k => k ≠ g) y c → k31.M w' base (fun k => k ≠ g) y c) (hx : k31.M w' base (fun k => k ≠ g) x [a0, a1, a2, a3, a4]) (hg : w'.heap[g]? = some (.cells cur' 31 (0, 0)))
    (hc : cur' = ((((cur.setIfInBounds (i * 5) a0).setIfInBounds (i * 5 + 1) a1).setIfInBounds (i * 5 + 2) a2).setIfInBounds (i * 5 + 3) a3).setIfInBounds (i * 5 + 4) a4) : Fr k31 31 w' base (some ⟨g, 0, none⟩) (l.set i x) := by
  subst hc
  refine .inr ⟨g, _, rfl, hb, hg, by rw [List.length_set]; show _ * 5 ≤ _; simpa only [Array.size_setIfInBounds] using hs, by simpa using hm, ?_⟩
  rw [List.length_set]
  show Reps _ 5 _ (List.take (l.length * 5) _)
  rw [take_setIf, take_setIf, take_setIf, take_setIf, take_setIf]
  generalize hin : cur.toList.take (l.length * 5) = inner at hr
  refine ⟨by simp [hr.1], fun j y hy => ?_⟩
  show k31.M w' base _ y (chunk 5 j _)
  by_cases hj : i = j
  · subst hj
    rw [List.getElem?_set_self hi] at hy
    obtain rfl := Option.some.inj hy
    rw [chunk_set_eq (by decide), chunk_set_eq (by decide), chunk_set_eq (by decide), chunk_set_eq (by decide), show i * 5 = i * 5 + 0 from rfl, chunk_set_eq (by decide), len5]
    · exact hx
    · have := hr.1
      simp [chunk]
      omega
  · rw [List.getElem?_set_ne hj] at hy
    rw [chunk_set_ne (by omega), chunk_set_ne (by omega), chunk_set_ne (by omega), chunk_set_ne (by omega), chunk_set_ne (by omega)]
    exact hmono _ _ (hr.2 j y hy)
def putP (l : List S31) (s : Int) (x : S31) : List S31 := if there l s then l.set (fi l s) x else l.take (fi l s) ++ x :: l.drop (fi l s)
def PutEnd (w : World) (l' : List S31) (e : Ending) (w' : World) : Prop := ∃ A' c', e = .returned (.slice A' l'.length c') ∧ l'.length ≤ c' ∧ Fr k31 31 w' w.heap.size A' l' ∧ Below w.heap.size w w'

theorem M_keep3 {w1 w' : World} {base : Nat} {ok : Nat → Prop} {y : S31} {cs : List Value} (h : k31.M w1 base ok y cs) (hk : ∀ k, base ≤ k → k < w1.heap.size → ok k → w'.heap[k]? = w1.heap[k]?) : k31.M w' base ok y cs :=
  k31.M_mono (fun _ h => h.1) (k31.M_move (fun k h => hk k h.2.1 h.2.2.1 h.1) (k31.M_bound h))
theorem R_keep3 {w1 w' : World} {base : Nat} {ok : Nat → Prop} {v : Value} {xs : List Int} (h : Kd.R (Kd.int .u8) 5 w1 base ok v xs) (hk : ∀ k, base ≤ k → k < w1.heap.size → ok k → w'.heap[k]? = w1.heap[k]?) : Kd.R (Kd.int .u8) 5 w' base ok v xs :=
  Kd.R_mono (Kd.R_move (Kd.R_bound h) (fun k h => hk k h.2.1 h.2.2.1 h.1)) (fun _ h => h.1)
theorem keep_set5 (W : World) (g o0 o1 o2 o3 o4 k : Nat) (a0 a1 a2 a3 a4 : Value) (h : k ≠ g) : (((((W.setCell ⟨g, o0, none⟩ a0).setCell ⟨g, o1, none⟩ a1).setCell ⟨g, o2, none⟩ a2).setCell ⟨g, o3, none⟩ a3).setCell ⟨g, o4, none⟩ a4).heap[k]? = W.heap[k]? := by
  rw [Below.heap_setCell _ ⟨g, o4, none⟩ _ k h, Below.heap_setCell _ ⟨g, o3, none⟩ _ k h, Below.heap_setCell _ ⟨g, o2, none⟩ _ k h, Below.heap_setCell _ ⟨g, o1, none⟩ _ k h, Below.heap_setCell _ ⟨g, o0, none⟩ _ k h]
theorem heap_alloc_lt (W : World) (o : Obj) (k : Nat) (h : k < W.heap.size) : (W.alloc o).heap[k]? = W.heap[k]? := (Array.getElem?_push_lt h).trans (Array.getElem?_eq_getElem h).symm
theorem cells5 {w : World} {g t n i : Nat} {cur : Array Value} (h : w.heap[g]? = some (.cells cur t (0, 0))) (hs : n * 5 ≤ cur.size) (hi : i < n) : ∃ b0 b1 b2 b3 b4, w.cell? ⟨g, i * 5, none⟩ = some b0 ∧ w.cell? ⟨g, i * 5 + 1, none⟩ = some b1 ∧ w.cell? ⟨g, i * 5 + 2, none⟩ = some b2 ∧ w.cell? ⟨g, i * 5 + 3, none⟩ = some b3 ∧ w.cell? ⟨g, i * 5 + 4, none⟩ = some b4 ∧ (∀ j, w.frozen? ⟨g, j, none⟩ = false) :=
  ⟨_, _, _, _, _, (cell_of_heap h).1.trans (Array.getElem?_eq_getElem (by omega)), (cell_of_heap h).1.trans (Array.getElem?_eq_getElem (by omega)), (cell_of_heap h).1.trans (Array.getElem?_eq_getElem (by omega)), (cell_of_heap h).1.trans (Array.getElem?_eq_getElem (by omega)), (cell_of_heap h).1.trans (Array.getElem?_eq_getElem (by omega)), fun _ => (cell_of_heap h).2⟩
set_option maxHeartbeats 1000000 in
theorem put_there (A : Option Addr) (c : Nat) (l : List S31) (s q : Int) (r : S26) (Av : Option Addr) (cv : Nat) (w : World) (hr : Kd.C k31 w A l.length l) (hc : l.length ≤ c) (hn : l.length < 1000000) (hv : ∀ x ∈ l, x.f2.f1.length < 140737488355328) (hrv : Kd.C (Kd.int .u8) w Av r.f1.length r.f1) (hcv : r.f1.length ≤ cv) (hvl : r.f1.length < 140737488355328) (ht : there l s = true) :
    Calls Try.prog 9 #[.slice A l.length c, .int .i64 s, .int .i64 q, .agg #[.int .i64 r.f0, .slice Av r.f1.length cv, .int .i64 r.f2]] w (PutEnd w (putP l s ⟨s, q, r⟩)) := by
  have W0 : ∃ W0, W0 = w.alloc (.cells #[.int .i64 r.f0, .slice Av r.f1.length cv, .int .i64 r.f2] 26) := ⟨_, rfl⟩
  obtain ⟨W0, hW0⟩ := W0
  have hb0 : Below w.heap.size w W0 := by rw [hW0]; exact below_alloc (Below.refl _ _) _
  have hk0 : W0.heap[w.heap.size]? = some (.cells #[.int .i64 r.f0, .slice Av r.f1.length cv, .int .i64 r.f2] 26 (0, 0)) := by rw [hW0]; exact heap_alloc_self w _
  have HI := Aside0.mk (still18 A c l W0 (Kd.C_below hr hb0) hc (by omega) hv)
  have HRV := Aside0.mk hrv
  have HCV := Aside0.mk hcv
  have HVL := Aside0.mk hvl
  have HN := Aside0.mk hn
  have HB0 := Aside0.mk hb0
  have HK0 := Aside0.mk hk0
  have hlt : fi l s < l.length := by have := ht; simp [there] at this; exact this.1
  have HT := Aside0.mk ht
  clear hr hc hv hrv hcv hvl ht hb0 hk0
  have hsz0 : W0.heap.size = w.heap.size + 1 := by rw [hW0]; simp
  go_enter Try.func9, Try.ntmps9
  go_wp2_with fail
  rw [← hW0]
  clear hW0
  refine HI.out.mono ?_
  intro e w1 h
  obtain ⟨A', rfl, hA', hFr, hb1⟩ := h
  clear HI
  obtain ⟨g, cur, rfl, hgb, hg1, hgs, hgm, hgr⟩ : ∃ g cur, A' = some ⟨g, 0, none⟩ ∧ W0.heap.size ≤ g ∧ w1.heap[g]? = some (.cells cur 31 (0, 0)) ∧ l.length * 5 ≤ cur.size ∧ l.length ≤ maxLen ∧ Reps (k31.M w1 W0.heap.size (fun k => k ≠ g)) 5 l (cur.toList.take (l.length * 5)) := by
    rcases hFr with h | h
    · rw [h] at hlt; simp at hlt
    · exact h
  have BK := blk_cells3 ((hb1.block _ (by omega)).trans HK0.out)
  obtain ⟨x0, x1, x2, x3⟩ := BK
  have y1 := x3 1
  have HX0 := Aside0.mk x0
  have HX2 := Aside0.mk x2
  have HX3 := Aside0.mk x3
  have HG := Aside0.mk (show _ ∧ _ ∧ _ ∧ _ ∧ _ from ⟨hgb, hg1, hgs, hgm, hgr⟩)
  have HB1 := Aside0.mk (below_then HB0.out HB0.out.size hb1)
  clear hFr hgb hg1 hgs hgm hgr x3 x0 x2
  go_wp2_with fail
  refine (clone17 Av cv r.f1 w1 (Kd.C_below HRV.out HB1.out) HCV.out HVL.out).mono ?_
  rintro e w2 ⟨v, rfl, ho, hb2⟩
  obtain ⟨Av2, cv2, rfl⟩ := Kd.R_slice ho
  have hlt1 : w.heap.size < w1.heap.size := (World.block_lt_of_cell? w1 _ x1)
  have z1 := (hb2.cell (p := ⟨w.heap.size, 1, none⟩) hlt1).trans x1
  have zf := (hb2.frozen (p := ⟨w.heap.size, 1, none⟩) hlt1).trans y1
  obtain ⟨w3, hw3⟩ : ∃ w3, w3 = w2.setCell ⟨w.heap.size, 1, none⟩ (.slice Av2 r.f1.length cv2) := ⟨_, rfl⟩
  have hk3 : ∀ k, k < w1.heap.size → k ≠ w.heap.size → w3.heap[k]? = w1.heap[k]? := fun k h h' => by
    rw [hw3]
    exact (Below.heap_setCell w2 _ _ k h').trans (hb2.block k h)
  have hF3 : Fr k31 31 w3 W0.heap.size (some ⟨g, 0, none⟩) l := by
    obtain ⟨h1, h2, h3, h4, h5⟩ := HG.out
    have hgl := (Array.getElem?_eq_some_iff.1 h2).1
    exact .inr ⟨g, cur, rfl, h1, (hk3 g hgl (by omega)).trans h2, h3, h4, h5.imp_ (fun _ _ h => M_keep3 h (fun k a b _ => hk3 k b (by omega)))⟩
  have hR3 : Kd.R (Kd.int .u8) 5 w3 w1.heap.size (fun _ => True) (.slice Av2 r.f1.length cv2) r.f1 := by
    refine R_keep3 ho (fun k a b _ => ?_)
    rw [hw3]
    exact Below.heap_setCell w2 _ _ k (by show k ≠ w.heap.size; omega)
  have hB3 : Below w.heap.size w w3 := by
    rw [hw3]
    exact (below_then HB1.out HB1.out.size hb2).setCell (p := ⟨w.heap.size, 1, none⟩) (Nat.le_refl _) _
  have hs3 : w2.heap.size = w3.heap.size := by rw [hw3]; simp
  have BK3 : w3.heap[w.heap.size]? = some (.cells #[.int .i64 r.f0, .slice Av2 r.f1.length cv2, .int .i64 r.f2] 26 (0, 0)) := by
    rw [hw3]
    have h1 := (hb2.block _ hlt1).trans (hb1.block _ (by omega)) |>.trans HK0.out
    exact heap_setCell_same w2 _ 1 _ 26 _ h1
  have HI := Aside0.mk (find15 (some ⟨g, 0, none⟩) l.length l s w3 (Fr.C hF3) (Nat.le_refl _))
  rw [HT.out] at HI
  have HF3 := Aside0.mk hF3
  have HR3 := Aside0.mk hR3
  have HB3 := Aside0.mk hB3
  have HBK3 := Aside0.mk BK3
  have HK3 := Aside0.mk hk3
  have HB2s := Aside0.mk hb2.size
  clear hF3 hR3 hB3 BK3 hk3 x1 y1 ho hb2
  go_wp2_with fail
  rw [← hw3]
  clear hw3 z1 zf
  refine HI.out.mono ?_
  rintro e w4 ⟨rfl, hb4⟩
  have BK := blk_cells3 ((hb4.block _ (by have := HB2s.out; omega)).trans HBK3.out)
  obtain ⟨u0, u1, u2, u3⟩ := BK
  have u30 := u3 0
  have u31 := u3 1
  have u32 := u3 2
  have hgl : g < w1.heap.size := (Array.getElem?_eq_some_iff.1 HG.out.2.1).1
  have hg4 : w4.heap[g]? = some (.cells cur 31 (0, 0)) := (hb4.block g (by have := HB2s.out; omega)).trans ((HK3.out g hgl (by have := HG.out.1; omega)).trans HG.out.2.1)
  obtain ⟨W5, hW5⟩ : ∃ W5, W5 = w4.alloc (.cells #[.int .i64 s, .int .i64 q, .int .i64 r.f0, .slice Av2 r.f1.length cv2, .int .i64 r.f2] 31) := ⟨_, rfl⟩
  have hg5 : W5.heap[g]? = some (.cells cur 31 (0, 0)) := by rw [hW5]; exact (Array.getElem?_push_lt (blk_lt hg4)).trans ((Array.getElem?_eq_getElem (blk_lt hg4)).symm.trans hg4)
  obtain ⟨b0, b1, b2, b3, b4, g0, g1, g2, g3, g4, gf⟩ := cells5 hg5 HG.out.2.2.1 hlt
  have gf0 := gf (fi l s * 5)
  have gf1 := gf (fi l s * 5 + 1)
  have gf2 := gf (fi l s * 5 + 2)
  have gf3 := gf (fi l s * 5 + 3)
  have gf4 := gf (fi l s * 5 + 4)
  have HG5 := Aside0.mk hg5
  have HB4 := Aside0.mk hb4
  clear u3 hb4 HI hg4 hg5 gf
  rw [hW5] at g0 g1 g2 g3 g4 gf0 gf1 gf2 gf3 gf4
  go_wp2_with fail
  rw [← hW5]
  have hs5 : W5.heap.size = w4.heap.size + 1 := by rw [hW5]; simp
  have hk5 : ∀ k, k < w4.heap.size → W5.heap[k]? = w4.heap[k]? := fun k h => by rw [hW5]; exact heap_alloc_lt _ _ _ h
  have hbel : Below w.heap.size w W5 := by rw [hW5]; exact below_alloc (below_then HB3.out HB3.out.size HB4.out) _
  clear g0 g1 g2 g3 g4 gf0 gf1 gf2 gf3 gf4 hW5
  go_ret
  have hp : putP l s ⟨s, q, r⟩ = l.set (fi l s) ⟨s, q, r⟩ := by rw [putP, HT.out, if_pos rfl]
  have h4s := HB4.out.size
  have h2s := HB2s.out
  obtain ⟨h1, h2, h3, h4, h5⟩ := HG.out
  rw [hp]
  refine ⟨some ⟨g, 0, none⟩, l.length, by rw [List.length_set]; rfl, by rw [List.length_set]; exact Nat.le_refl _, ?_, ?_⟩
  · refine Fr.lower (Fr_set (w := w1) (base := W0.heap.size) hlt h1 h3 h4 h5 (fun y cs hy => M_keep3 hy (fun k a b e => ?_)) (k31_mkM _ _ _ ⟨s, q, r⟩ ?_) (heap_set_same _ (heap_set_same _ (heap_set_same _ (heap_set_same _ (heap_set_same _ HG5.out))))) rfl) (by omega)
    · rw [keep_set5 _ _ _ _ _ _ _ _ _ _ _ _ _ e, hk5 k (by omega), HB4.out.block k (by omega), HK3.out k b (by omega)]
    · refine Kd.R_lower (Kd.R_mono (Kd.R_bound (R_keep3 HR3.out (fun k a b e => ?_))) (fun k hk => by have := hk.2.1; omega)) (by omega : W0.heap.size ≤ w1.heap.size)
      have hkg : k ≠ g := by omega
      rw [keep_set5 _ _ _ _ _ _ _ _ _ _ _ _ _ hkg, hk5 k (by omega), HB4.out.block k (by omega)]
  · have hwg : w.heap.size ≤ g := by omega
    exact ((((hbel.setCell (p := ⟨g, _, none⟩) hwg _).setCell (p := ⟨g, _, none⟩) hwg _).setCell (p := ⟨g, _, none⟩) hwg _).setCell (p := ⟨g, _, none⟩) hwg _).setCell (p := ⟨g, _, none⟩) hwg _

theorem Fr_olds {w : World} {base : Nat} {A : Option Addr} {l : List S31} (h : Fr k31 31 w base A l) (hA : A = none → l = []) : ∃ olds : List Value, olds.length = l.length * 5 ∧ (∀ ad, A = some ad → ∀ j v, olds[j]? = some v → w.cell? (ad.add j) = some v) ∧ Reps (k31.M w base (fun _ => True)) 5 l olds := by
  rcases h with rfl | ⟨g, cur, rfl, hb, hg, hs, hm, hr⟩
  · exact ⟨[], rfl, fun _ _ j v hj => by simp at hj, Reps.none _ _⟩
  · refine ⟨cur.toList.take (l.length * 5), ?_, fun ad had j v hj => ?_, hr.imp_ (fun _ _ h => k31.M_mono (fun _ _ => trivial) h)⟩
    · rw [List.length_take, Array.length_toList]
      exact Nat.min_eq_left hs
    · cases had
      rw [add_plain, (cell_of_heap hg).1]
      rw [List.getElem?_take] at hj
      split at hj
      · rw [Array.getElem?_toList] at hj
        exact hj
      · cases hj
theorem reps_cells {w : World} {base : Nat} {ok : Nat → Prop} {l : List S31} {olds : List Value} (h : Reps (k31.M w base ok) 5 l olds) : ∀ v ∈ olds, v.oneCell' = true := by
  intro v hv
  obtain ⟨m, hm, rfl⟩ := List.mem_iff_getElem.1 hv
  have hj : m / 5 < l.length := by have := h.1; omega
  refine k31.K_one (k31.K_of_M (h.2 (m / 5) _ (List.getElem?_eq_getElem hj))) _ (List.mem_iff_getElem?.2 ⟨m % 5, ?_⟩)
  rw [List.getElem?_take, if_pos (Nat.mod_lt _ (by decide)), List.getElem?_drop, show m / 5 * 5 + m % 5 = m from by omega, List.getElem?_eq_getElem hm]
theorem ins19 (n i : Nat) (olds xc : List Value) (w : World) (A : Option Addr) (xa : Addr) (xcap : Nat) (hn : n < 1000000) (hi : i ≤ n) (hA : A = none → n = 0) (hol : olds.length = n * 5) (ho : ∀ ad, A = some ad → ∀ j v, olds[j]? = some v → w.cell? (ad.add j) = some v) (h1 : ∀ v ∈ olds, v.oneCell' = true) (hxl : xc.length = 5) (hx : ∀ j v, xc[j]? = some v → w.cell? (xa.add j) = some v) (h2 : ∀ v ∈ xc, v.oneCell' = true) :
    Calls Try.prog 19 #[.slice A n n, .int .i64 i, .slice (some xa) 1 xcap] w (InsEnd w (n + 1) (olds.take (i * 5) ++ xc ++ olds.drop (i * 5))) := by
  cases A with
  | none =>
    obtain rfl := hA rfl
    obtain rfl : i = 0 := by omega
    obtain rfl : olds = [] := List.eq_nil_of_length_eq_zero (by omega)
    have h := ins_nil 0 0 xc w xa xcap hxl hx
    simp only [Nat.zero_mul, List.take_nil, List.drop_nil, List.nil_append, List.append_nil]
    exact h
  | some ad =>
    rcases Nat.lt_or_eq_of_le hi with hlt | rfl
    · exact ins_mid 0 n i olds xc w ad xa xcap hn hlt hol (ho ad rfl) h1 hxl hx h2
    · rw [← hol, List.take_length, List.drop_length, List.append_nil]
      exact ins_end 0 i olds xc w ad xa xcap hn hol (ho ad rfl) hxl hx
end Go.Proofs.Ytjpgnipjgonplaa.Ss
