/- maps.Put, walked. -/
import Derived.Lib.SliceRun
import Derived.Outline
import Derived.Test.YthfplgfpodmphaaMg
import Derived.Test.YthfplgfpodmphaaMh
import Derived.Test.YthfplgfpodmphaaMc
namespace Go.Proofs.Ythfplgfpodmphaa.Ms
open Go.RowKit Go.Proofs.YthfplgfpodmphaaW.PrintWords Go.Proofs.YthfplgfpodmphaaW.PrintLast Go.Proofs.YthfplgfpodmphaaW.PrintMore
attribute [local go_sem] max2_int min2_int max_two min_two max_three min_three max_four min_four
set_option linter.unusedVariables false
set_option linter.unusedSimpArgs false
set_option maxRecDepth 100000

theorem Fr_ins {w w' : World} {base g i : Nat} {ok : Nat → Prop} {l : List S32} {x : S32} {olds xc : List Value} {cur : Array Value} (hi : i ≤ l.length) (hr : Reps (k32.M w base ok) 2 l olds) (hx : k32.M w base ok x xc) (hbel : Below w.heap.size w w') (hgw : w.heap.size ≤ g) (hb : base ≤ g)
    (hg : w'.heap[g]? = some (.cells cur 42 (0, 0))) (hs : (l.length + 1) * 2 ≤ cur.size) (hm : l.length + 1 ≤ maxLen) (hc : cur.toList.take ((l.length + 1) * 2) = olds.take (i * 2) ++ xc ++ olds.drop (i * 2)) : Fr k32 42 w' base (some ⟨g, 0, none⟩) (l.take i ++ x :: l.drop i) := by
  have hl : (l.take i ++ x :: l.drop i).length = l.length + 1 := by simp; omega
  refine .inr ⟨g, cur, rfl, hb, hg, by rw [hl]; exact hs, by rw [hl]; exact hm, ?_⟩
  rw [hl]
  show Reps _ 2 _ (cur.toList.take ((l.length + 1) * 2))
  rw [hc]
  have hR := reps_app (reps_app (reps_take hr i hi) (reps_one hx (k32.K_len (k32.K_of_M hx)))) (reps_drop hr i)
  rw [List.append_assoc] at hR
  exact hR.imp_ (fun y c hy => Kd.M_below (k32.M_mono (fun k hk => by have := hk.2.2.1; omega) (k32.M_bound hy)) hbel)
theorem Fr_olds {w : World} {base : Nat} {A : Option Addr} {l : List S32} (h : Fr k32 42 w base A l) (hA : A = none → l = []) : ∃ olds : List Value, olds.length = l.length * 2 ∧ (∀ ad, A = some ad → ∀ j v, olds[j]? = some v → w.cell? (ad.add j) = some v) ∧ Reps (k32.M w base (fun _ => True)) 2 l olds := by
  rcases h with rfl | ⟨g, cur, rfl, hb, hg, hs, hm, hr⟩
  · exact ⟨[], rfl, fun _ _ j v hj => by simp at hj, Reps.none _ _⟩
  · refine ⟨cur.toList.take (l.length * 2), ?_, fun ad had j v hj => ?_, hr.imp_ (fun _ _ h => k32.M_mono (fun _ _ => trivial) h)⟩
    · rw [List.length_take, Array.length_toList]
      exact Nat.min_eq_left hs
    · cases had
      rw [add_plain, (cell_of_heap hg).1]
      rw [List.getElem?_take] at hj
      split at hj
      · rw [Array.getElem?_toList] at hj
        exact hj
      · cases hj
theorem reps_cells {w : World} {base : Nat} {ok : Nat → Prop} {l : List S32} {olds : List Value} (h : Reps (k32.M w base ok) 2 l olds) : ∀ v ∈ olds, v.oneCell' = true := by
  intro v hv
  obtain ⟨m, hm, rfl⟩ := List.mem_iff_getElem.1 hv
  have hj : m / 2 < l.length := by have := h.1; omega
  refine k32.K_one (k32.K_of_M (h.2 (m / 2) _ (List.getElem?_eq_getElem hj))) _ (List.mem_iff_getElem?.2 ⟨m % 2, ?_⟩)
  rw [List.getElem?_take, if_pos (Nat.mod_lt _ (by decide)), List.getElem?_drop, show m / 2 * 2 + m % 2 = m from by omega, List.getElem?_eq_getElem hm]
theorem ins19 (n i : Nat) (olds xc : List Value) (w : World) (A : Option Addr) (xa : Addr) (xcap : Nat) (hn : n < 1000000) (hi : i ≤ n) (hA : A = none → n = 0) (hol : olds.length = n * 2) (ho : ∀ ad, A = some ad → ∀ j v, olds[j]? = some v → w.cell? (ad.add j) = some v) (h1 : ∀ v ∈ olds, v.oneCell' = true) (hxl : xc.length = 2) (hx : ∀ j v, xc[j]? = some v → w.cell? (xa.add j) = some v) (h2 : ∀ v ∈ xc, v.oneCell' = true) :
    Calls Try.prog 81 #[.slice A n n, .int .i64 i, .slice (some xa) 1 xcap] w (InsEnd w (n + 1) (olds.take (i * 2) ++ xc ++ olds.drop (i * 2))) := by
  cases A with
  | none =>
    obtain rfl := hA rfl
    obtain rfl : i = 0 := by omega
    obtain rfl : olds = [] := List.eq_nil_of_length_eq_zero (by omega)
    have h := ins_nil 0 0 xc w xa xcap hxl hx
    simp only [Nat.zero_mul, List.take_nil, List.drop_nil, List.nil_append, List.append_nil]
    exact h
  | some ad =>
    rcases Nat.lt_or_eq_of_le hi with hlt | rfl
    · exact ins_mid 0 n i olds xc w ad xa xcap hn hlt hol (ho ad rfl) h1 hxl hx h2
    · rw [← hol, List.take_length, List.drop_length, List.append_nil]
      exact ins_end 0 i olds xc w ad xa xcap hn hol (ho ad rfl) hxl hx
theorem Fr_set1 {w w' : World} {base g i : Nat} {l : List S32} {x : S32} {cur : Array Value} {v0 u : Value} (hi : i < l.length) (hb : base ≤ g) (hs : l.length * 2 ≤ cur.size) (hm : l.length ≤ maxLen) (hr : Reps (k32.M w base (fun k => k ≠ g)) 2 l (cur.toList.take (l.length * 2))) (hmono : ∀ y c, k32.M w base (fun k => k ≠ g) y c → k32.M w' base (fun k => k ≠ g) y c) (hc0 : cur[i * 2]? = some v0) (hx : k32.M w' base (fun k => k ≠ g) x [v0, u]) (hg : w'.heap[g]? = some (.cells (cur.setIfInBounds (i * 2 + 1) u) 42 (0, 0))) : Fr k32 42 w' base (some ⟨g, 0, none⟩) (l.set i x) := by
  refine .inr ⟨g, _, rfl, hb, hg, by rw [List.length_set]; show _ * 2 ≤ _; simpa only [Array.size_setIfInBounds] using hs, by simpa using hm, ?_⟩
  rw [List.length_set]
  show Reps _ 2 _ (List.take (l.length * 2) _)
  rw [take_setIf]
  have hin0 : (cur.toList.take (l.length * 2))[i * 2 + 0]? = some v0 := by
    rw [List.getElem?_take, if_pos (by omega), Array.getElem?_toList]
    exact hc0
  generalize hin : cur.toList.take (l.length * 2) = inner at hr hin0
  refine ⟨by simp [hr.1], fun j y hy => ?_⟩
  show k32.M w' base _ y (chunk 2 j _)
  by_cases hj : i = j
  · subst hj
    rw [List.getElem?_set_self hi] at hy
    obtain rfl := Option.some.inj hy
    rw [chunk_set_eq (by decide)]
    have hl : (chunk 2 i inner).length = 2 := by
      have := hr.1
      simp [chunk]
      omega
    rw [← chunk_get (by decide : 0 < 2)] at hin0
    match hch : chunk 2 i inner, hl with
    | [a, b], _ =>
      rw [hch] at hin0
      obtain rfl := Option.some.inj hin0
      exact hx
  · rw [List.getElem?_set_ne hj] at hy
    rw [chunk_set_ne (by omega)]
    exact hmono _ _ (hr.2 j y hy)

def PutEnd (w : World) (l' : List S32) (r : S26) (e : Ending) (w' : World) : Prop := ∃ A' c' v1, e = .returned (.tuple #[.slice A' l'.length c', .agg #[.int .i64 r.f0, v1, .int .i64 r.f2]]) ∧ l'.length ≤ c' ∧ Fr k32 42 w' w.heap.size A' l' ∧ Kd.R (Kd.int .u8) 5 w' w.heap.size (fun _ => True) v1 r.f1 ∧ Below w.heap.size w w'
set_option maxHeartbeats 1000000 in
theorem put_long1 (A B D : Option Addr) (c d f : Nat) (l : List S32) (k v : List Int) (w : World) (hr : Kd.C k32 w A l.length l) (hc : l.length ≤ c) (hn : l.length < 1000000) (hv : ∀ x ∈ l, x.f0.length < 140737488355328 ∧ x.f1.length < 140737488355328) (hk : Kd.C (Kd.int .u8) w B k.length k) (hd : k.length ≤ d) (h8 : 8 < k.length) :
    Calls Try.prog 35 #[.slice A l.length c, .slice B k.length d, .slice D v.length f] w (PutEnd w l ⟨1, [], 0⟩) := by
  obtain ⟨W0, hW0⟩ : ∃ W0, W0 = w.alloc (.cells #[.int .i64 0, .slice none 0 0, .int .i64 0] 34) := ⟨_, rfl⟩
  have hb0 : Below w.heap.size w W0 := by rw [hW0]; exact below_alloc (Below.refl _ _) _
  have hk0 : W0.heap[w.heap.size]? = some (.cells #[.int .i64 0, .slice none 0 0, .int .i64 0] 34 (0, 0)) := by rw [hW0]; exact heap_alloc_self w _
  have hs0 : W0.heap.size = w.heap.size + 1 := by rw [hW0]; simp
  have HI := Aside0.mk (still16 A c l W0 (Kd.C_below hr hb0) hc hn hv)
  have HB0 := Aside0.mk hb0
  have HK0 := Aside0.mk hk0
  have HS0 := Aside0.mk hs0
  have HK := Aside0.mk hk
  have HD := Aside0.mk hd
  have HN := Aside0.mk hn
  have c1 : decide ((8 : Int) < (k.length : Int)) = true := decide_eq_true (by omega)
  clear hr hc hv hb0 hk0 hk hd hs0 hn
  go_enter Try.func35, Try.ntmps35
  go_wp2_with fail
  rw [← hW0]
  refine HI.out.mono ?_
  rintro e w1 ⟨A', rfl, ⟨c', hS⟩, hb1⟩
  clear HI
  have HF1 := Aside0.mk (S_Fr hS)
  have HA1 := Aside0.mk (S_cap hS).2
  have HI := Aside0.mk (find17 A' B l.length d l k w1 (Fr.C HF1.out) (Nat.le_refl _) (Kd.C_below HK.out (below_then HB0.out HB0.out.size hb1)) HD.out)
  have HB1 := Aside0.mk hb1
  clear hS hb1
  go_wp2_with fail
  refine HI.out.mono ?_
  rintro e w2 ⟨rfl, hb2⟩
  have BK : w2.heap[w.heap.size]? = some (.cells #[.int .i64 0, .slice none 0 0, .int .i64 0] 34 (0, 0)) := (hb2.block _ (by have := HB1.out.size; have := HS0.out; omega)).trans ((HB1.out.block _ (by have := HS0.out; omega)).trans HK0.out)
  obtain ⟨x0, x1, x2, x3⟩ := blk_cells3 BK
  have x30 := x3 0
  have x31 := x3 1
  have x32 := x3 2
  have BKs := Aside0.mk BK
  have HB2 := Aside0.mk hb2
  clear BK hb2 HI x3
  go_wp2_with fail
  refine bodyPost_ret (results_tc rfl _ _ w.heap.size 34 #[.int .i64 1, .slice none 0 0, .int .i64 0] (0, 0) _ rfl (by refine blk_put (cs := #[.int .i64 1, .slice none 0 0, .int .i64 0]) ?_ 2 _ rfl; refine blk_put (cs := #[.int .i64 1, .slice none 0 0, .int .i64 0]) ?_ 1 _ rfl; refine blk_put (cs := #[.int .i64 0, .slice none 0 0, .int .i64 0]) ?_ 0 _ rfl; exact BKs.out) Try.underlying34 rfl (by kernel_rfl)) rfl ?_
  have hs0 := HS0.out
  have hB2 := below_then (below_then HB0.out HB0.out.size HB1.out) (by have := HB1.out.size; omega) HB2.out
  refine ⟨A', l.length, _, rfl, Nat.le_refl _, ?_, Kd.R_nil _ _ _ _ _, ((hB2.setCell (Nat.le_refl _) _).setCell (Nat.le_refl _) _).setCell (Nat.le_refl _) _⟩
  refine Fr.lower (Fr.keep (Fr.below HF1.out HB2.out) (fun k a b => keep_put3 _ _ _ _ _ _ _ _ _ (by omega))) (by omega)
set_option maxHeartbeats 1000000 in
theorem put_long2 (A B D : Option Addr) (c d f : Nat) (l : List S32) (k v : List Int) (w : World) (hr : Kd.C k32 w A l.length l) (hc : l.length ≤ c) (hn : l.length < 1000000) (hv : ∀ x ∈ l, x.f0.length < 140737488355328 ∧ x.f1.length < 140737488355328) (hk : Kd.C (Kd.int .u8) w B k.length k) (hd : k.length ≤ d) (h8 : k.length ≤ 8) (h16 : 16 < v.length) :
    Calls Try.prog 35 #[.slice A l.length c, .slice B k.length d, .slice D v.length f] w (PutEnd w l ⟨1, [], 0⟩) := by
  obtain ⟨W0, hW0⟩ : ∃ W0, W0 = w.alloc (.cells #[.int .i64 0, .slice none 0 0, .int .i64 0] 34) := ⟨_, rfl⟩
  have hb0 : Below w.heap.size w W0 := by rw [hW0]; exact below_alloc (Below.refl _ _) _
  have hk0 : W0.heap[w.heap.size]? = some (.cells #[.int .i64 0, .slice none 0 0, .int .i64 0] 34 (0, 0)) := by rw [hW0]; exact heap_alloc_self w _
  have hs0 : W0.heap.size = w.heap.size + 1 := by rw [hW0]; simp
  have HI := Aside0.mk (still16 A c l W0 (Kd.C_below hr hb0) hc hn hv)
  have HB0 := Aside0.mk hb0
  have HK0 := Aside0.mk hk0
  have HS0 := Aside0.mk hs0
  have HK := Aside0.mk hk
  have HD := Aside0.mk hd
  have HN := Aside0.mk hn
  have c1 : decide ((8 : Int) < (k.length : Int)) = false := decide_eq_false (by omega)
  have c2 : decide ((16 : Int) < (v.length : Int)) = true := decide_eq_true (by omega)
  clear hr hc hv hb0 hk0 hk hd hs0 hn
  go_enter Try.func35, Try.ntmps35
  go_wp2_with fail
  rw [← hW0]
  refine HI.out.mono ?_
  rintro e w1 ⟨A', rfl, ⟨c', hS⟩, hb1⟩
  clear HI
  have HF1 := Aside0.mk (S_Fr hS)
  have HA1 := Aside0.mk (S_cap hS).2
  have HI := Aside0.mk (find17 A' B l.length d l k w1 (Fr.C HF1.out) (Nat.le_refl _) (Kd.C_below HK.out (below_then HB0.out HB0.out.size hb1)) HD.out)
  have HB1 := Aside0.mk hb1
  clear hS hb1
  go_wp2_with fail
  refine HI.out.mono ?_
  rintro e w2 ⟨rfl, hb2⟩
  have BK : w2.heap[w.heap.size]? = some (.cells #[.int .i64 0, .slice none 0 0, .int .i64 0] 34 (0, 0)) := (hb2.block _ (by have := HB1.out.size; have := HS0.out; omega)).trans ((HB1.out.block _ (by have := HS0.out; omega)).trans HK0.out)
  obtain ⟨x0, x1, x2, x3⟩ := blk_cells3 BK
  have x30 := x3 0
  have x31 := x3 1
  have x32 := x3 2
  have BKs := Aside0.mk BK
  have HB2 := Aside0.mk hb2
  clear BK hb2 HI x3
  go_wp2_with fail
  refine bodyPost_ret (results_tc rfl _ _ w.heap.size 34 #[.int .i64 1, .slice none 0 0, .int .i64 0] (0, 0) _ rfl (by refine blk_put (cs := #[.int .i64 1, .slice none 0 0, .int .i64 0]) ?_ 2 _ rfl; refine blk_put (cs := #[.int .i64 1, .slice none 0 0, .int .i64 0]) ?_ 1 _ rfl; refine blk_put (cs := #[.int .i64 0, .slice none 0 0, .int .i64 0]) ?_ 0 _ rfl; exact BKs.out) Try.underlying34 rfl (by kernel_rfl)) rfl ?_
  have hs0 := HS0.out
  have hB2 := below_then (below_then HB0.out HB0.out.size HB1.out) (by have := HB1.out.size; omega) HB2.out
  refine ⟨A', l.length, _, rfl, Nat.le_refl _, ?_, Kd.R_nil _ _ _ _ _, ((hB2.setCell (Nat.le_refl _) _).setCell (Nat.le_refl _) _).setCell (Nat.le_refl _) _⟩
  refine Fr.lower (Fr.keep (Fr.below HF1.out HB2.out) (fun k a b => keep_put3 _ _ _ _ _ _ _ _ _ (by omega))) (by omega)
set_option maxHeartbeats 1000000 in
theorem put_full (A B D : Option Addr) (c d f : Nat) (l : List S32) (k v : List Int) (w : World) (hr : Kd.C k32 w A l.length l) (hc : l.length ≤ c) (hn : l.length < 1000000) (hv : ∀ x ∈ l, x.f0.length < 140737488355328 ∧ x.f1.length < 140737488355328) (hk : Kd.C (Kd.int .u8) w B k.length k) (hd : k.length ≤ d) (h8 : k.length ≤ 8) (h16 : v.length ≤ 16) (ht : (findR l k).2 = false) (hf : 8 ≤ l.length) :
    Calls Try.prog 35 #[.slice A l.length c, .slice B k.length d, .slice D v.length f] w (PutEnd w l ⟨3, [], 0⟩) := by
  obtain ⟨W0, hW0⟩ : ∃ W0, W0 = w.alloc (.cells #[.int .i64 0, .slice none 0 0, .int .i64 0] 34) := ⟨_, rfl⟩
  have hb0 : Below w.heap.size w W0 := by rw [hW0]; exact below_alloc (Below.refl _ _) _
  have hk0 : W0.heap[w.heap.size]? = some (.cells #[.int .i64 0, .slice none 0 0, .int .i64 0] 34 (0, 0)) := by rw [hW0]; exact heap_alloc_self w _
  have hs0 : W0.heap.size = w.heap.size + 1 := by rw [hW0]; simp
  have HI := Aside0.mk (still16 A c l W0 (Kd.C_below hr hb0) hc hn hv)
  have HB0 := Aside0.mk hb0
  have HK0 := Aside0.mk hk0
  have HS0 := Aside0.mk hs0
  have HK := Aside0.mk hk
  have HD := Aside0.mk hd
  have HN := Aside0.mk hn
  have c1 : decide ((8 : Int) < (k.length : Int)) = false := decide_eq_false (by omega)
  have c2 : decide ((16 : Int) < (v.length : Int)) = false := decide_eq_false (by omega)
  have c3 : decide ((8 : Int) ≤ (l.length : Int)) = true := decide_eq_true (by omega)
  clear hr hc hv hb0 hk0 hk hd hs0 hn
  go_enter Try.func35, Try.ntmps35
  go_wp2_with fail
  rw [← hW0]
  refine HI.out.mono ?_
  rintro e w1 ⟨A', rfl, ⟨c', hS⟩, hb1⟩
  clear HI
  have HF1 := Aside0.mk (S_Fr hS)
  have HA1 := Aside0.mk (S_cap hS).2
  have HI := Aside0.mk (find17 A' B l.length d l k w1 (Fr.C HF1.out) (Nat.le_refl _) (Kd.C_below HK.out (below_then HB0.out HB0.out.size hb1)) HD.out)
  have HB1 := Aside0.mk hb1
  clear hS hb1
  rw [ht] at HI
  go_wp2_with fail
  refine HI.out.mono ?_
  rintro e w2 ⟨rfl, hb2⟩
  have BK : w2.heap[w.heap.size]? = some (.cells #[.int .i64 0, .slice none 0 0, .int .i64 0] 34 (0, 0)) := (hb2.block _ (by have := HB1.out.size; have := HS0.out; omega)).trans ((HB1.out.block _ (by have := HS0.out; omega)).trans HK0.out)
  obtain ⟨x0, x1, x2, x3⟩ := blk_cells3 BK
  have x30 := x3 0
  have x31 := x3 1
  have x32 := x3 2
  have BKs := Aside0.mk BK
  have HB2 := Aside0.mk hb2
  clear BK hb2 HI x3
  go_wp2_with fail
  refine bodyPost_ret (results_tc rfl _ _ w.heap.size 34 #[.int .i64 3, .slice none 0 0, .int .i64 0] (0, 0) _ rfl (by refine blk_put (cs := #[.int .i64 3, .slice none 0 0, .int .i64 0]) ?_ 2 _ rfl; refine blk_put (cs := #[.int .i64 3, .slice none 0 0, .int .i64 0]) ?_ 1 _ rfl; refine blk_put (cs := #[.int .i64 0, .slice none 0 0, .int .i64 0]) ?_ 0 _ rfl; exact BKs.out) Try.underlying34 rfl (by kernel_rfl)) rfl ?_
  have hs0 := HS0.out
  have hB2 := below_then (below_then HB0.out HB0.out.size HB1.out) (by have := HB1.out.size; omega) HB2.out
  refine ⟨A', l.length, _, rfl, Nat.le_refl _, ?_, Kd.R_nil _ _ _ _ _, ((hB2.setCell (Nat.le_refl _) _).setCell (Nat.le_refl _) _).setCell (Nat.le_refl _) _⟩
  refine Fr.lower (Fr.keep (Fr.below HF1.out HB2.out) (fun k a b => keep_put3 _ _ _ _ _ _ _ _ _ (by omega))) (by omega)
set_option maxHeartbeats 1000000 in
theorem put_there (A B D : Option Addr) (c d f : Nat) (l : List S32) (k v : List Int) (w : World) (hr : Kd.C k32 w A l.length l) (hc : l.length ≤ c) (hn : l.length < 1000000) (hv : ∀ x ∈ l, x.f0.length < 140737488355328 ∧ x.f1.length < 140737488355328) (hk : Kd.C (Kd.int .u8) w B k.length k) (hd : k.length ≤ d) (hvr : Kd.C (Kd.int .u8) w D v.length v) (hvf : v.length ≤ f) (h8 : k.length ≤ 8) (h16 : v.length ≤ 16) (ht : (findR l k).2 = true) :
    Calls Try.prog 35 #[.slice A l.length c, .slice B k.length d, .slice D v.length f] w (PutEnd w (l.set (findR l k).1 ⟨(rd_T32 l ((findR l k).1 : Int)).f0, v⟩) ⟨0, (rd_T32 l ((findR l k).1 : Int)).f1, (l.length : Int)⟩) := by
  obtain ⟨W0, hW0⟩ : ∃ W0, W0 = w.alloc (.cells #[.int .i64 0, .slice none 0 0, .int .i64 0] 34) := ⟨_, rfl⟩
  have hb0 : Below w.heap.size w W0 := by rw [hW0]; exact below_alloc (Below.refl _ _) _
  have hk0 : W0.heap[w.heap.size]? = some (.cells #[.int .i64 0, .slice none 0 0, .int .i64 0] 34 (0, 0)) := by rw [hW0]; exact heap_alloc_self w _
  have hs0 : W0.heap.size = w.heap.size + 1 := by rw [hW0]; simp
  have HI := Aside0.mk (still16 A c l W0 (Kd.C_below hr hb0) hc hn hv)
  have HB0 := Aside0.mk hb0
  have HK0 := Aside0.mk hk0
  have HS0 := Aside0.mk hs0
  have HK := Aside0.mk hk
  have HD := Aside0.mk hd
  have HN := Aside0.mk hn
  have c1 : decide ((8 : Int) < (k.length : Int)) = false := decide_eq_false (by omega)
  have c2 : decide ((16 : Int) < (v.length : Int)) = false := decide_eq_false (by omega)
  have HV := Aside0.mk hvr
  have HVF := Aside0.mk hvf
  clear hvr hvf
  clear hr hc hv hb0 hk0 hk hd hs0 hn
  go_enter Try.func35, Try.ntmps35
  go_wp2_with fail
  rw [← hW0]
  refine HI.out.mono ?_
  rintro e w1 ⟨A', rfl, ⟨c', hS⟩, hb1⟩
  clear HI
  have HF1 := Aside0.mk (S_Fr hS)
  have HA1 := Aside0.mk (S_cap hS).2
  have HI := Aside0.mk (find17 A' B l.length d l k w1 (Fr.C HF1.out) (Nat.le_refl _) (Kd.C_below HK.out (below_then HB0.out HB0.out.size hb1)) HD.out)
  have HB1 := Aside0.mk hb1
  clear hS hb1
  rw [ht] at HI
  go_wp2_with fail
  refine HI.out.mono ?_
  rintro e w2 ⟨rfl, hb2⟩
  have BK : w2.heap[w.heap.size]? = some (.cells #[.int .i64 0, .slice none 0 0, .int .i64 0] 34 (0, 0)) := (hb2.block _ (by have := HB1.out.size; have := HS0.out; omega)).trans ((HB1.out.block _ (by have := HS0.out; omega)).trans HK0.out)
  have hlt : (findR l k).1 < l.length := findR_lt l k ht
  obtain ⟨g, cur, rfl, hgb, hg1, hgs, hgm, hgr⟩ : ∃ g cur, A' = some ⟨g, 0, none⟩ ∧ W0.heap.size ≤ g ∧ w1.heap[g]? = some (.cells cur 42 (0, 0)) ∧ l.length * 2 ≤ cur.size ∧ l.length ≤ maxLen ∧ Reps (k32.M w1 W0.heap.size (fun k => k ≠ g)) 2 l (cur.toList.take (l.length * 2)) := by
    rcases HF1.out with h | h
    · rw [h] at hlt; simp at hlt
    · exact h
  have hM := hgr.2 (findR l k).1 (rd_T32 l ((findR l k).1 : Int)) (by rw [rd_get l _ hlt]; exact List.getElem?_eq_getElem hlt)
  obtain ⟨u0, u1, hcs, hR0, hR1⟩ := k32_openM hM
  have hcell : ∀ j u, j < 2 → [u0, u1][j]? = some u → cur[(findR l k).1 * 2 + j]? = some u := fun j u hj hu => by
    rw [← hcs, List.getElem?_take, if_pos hj, List.getElem?_drop, List.getElem?_take, if_pos (by omega), Array.getElem?_toList] at hu
    exact hu
  have hg2 : w2.heap[g]? = some (.cells cur 42 (0, 0)) := (hb2.block g (blk_lt hg1)).trans hg1
  obtain ⟨A1, c1', rfl⟩ := Kd.R_slice hR1
  have z1 : w2.cell? ⟨g, (findR l k).1 * 2 + 1, none⟩ = some (.slice A1 (rd_T32 l ((findR l k).1 : Int)).f1.length c1') := (cell_of_heap hg2).1.trans (hcell 1 _ (by decide) rfl)
  have HG := Aside0.mk (show _ ∧ _ ∧ _ ∧ _ ∧ _ from ⟨hgb, hg1, hgs, hgm, hgr⟩)
  have HC := Aside0.mk hcell
  have HR0 := Aside0.mk hR0
  have HR1 := Aside0.mk hR1
  have HG2 := Aside0.mk hg2
  have HB2 := Aside0.mk hb2
  have BKs := Aside0.mk BK
  have HLT := Aside0.mk hlt
  clear BK hb2 HI hgb hg1 hgs hgm hgr hM hcs hcell hR0 hR1 hg2
  go_wp2_with fail
  refine (clone18 D f v w2 (Kd.C_below (Kd.C_below HV.out (below_then HB0.out HB0.out.size HB1.out)) HB2.out) HVF.out (by omega)).mono ?_
  rintro e w3 ⟨va, rfl, ho, hb3⟩
  obtain ⟨Av, cv, rfl⟩ := Kd.R_slice ho
  have hg3 : w3.heap[g]? = some (.cells cur 42 (0, 0)) := (hb3.block g (blk_lt HG2.out)).trans HG2.out
  have z3 : w3.cell? ⟨g, (findR l k).1 * 2 + 1, none⟩ = some (.slice A1 (rd_T32 l ((findR l k).1 : Int)).f1.length c1') := (cell_of_heap hg3).1.trans (HC.out 1 _ (by decide) rfl)
  have z4 : w3.frozen? ⟨g, (findR l k).1 * 2 + 1, none⟩ = false := (cell_of_heap hg3).2
  have BK3 : w3.heap[w.heap.size]? = some (.cells #[.int .i64 0, .slice none 0 0, .int .i64 0] 34 (0, 0)) := (hb3.block _ (blk_lt BKs.out)).trans BKs.out
  obtain ⟨W4, hW4⟩ : ∃ W4, W4 = w3.setCell ⟨g, (findR l k).1 * 2 + 1, none⟩ (.slice Av v.length cv) := ⟨_, rfl⟩
  have hne : w.heap.size ≠ g := by have := HG.out.1; have := HS0.out; omega
  have hg4 : W4.heap[g]? = some (.cells (cur.setIfInBounds ((findR l k).1 * 2 + 1) (.slice Av v.length cv)) 42 (0, 0)) := by rw [hW4]; exact heap_set_same _ hg3
  have BK4 : W4.heap[w.heap.size]? = some (.cells #[.int .i64 0, .slice none 0 0, .int .i64 0] 34 (0, 0)) := by rw [hW4]; exact blk_far BK3 hne _
  have hk4 : ∀ k, k ≠ g → W4.heap[k]? = w3.heap[k]? := fun k h => by rw [hW4]; exact Below.heap_setCell _ _ _ k h
  have hs4 : W4.heap.size = w3.heap.size := by rw [hW4]; simp [World.setCell]
  obtain ⟨x0, x1, x2, x3⟩ := blk_cells3 BK4
  have x30 := x3 0
  have x31 := x3 1
  have x32 := x3 2
  have HO := Aside0.mk ho
  have HB3 := Aside0.mk hb3
  have HG4 := Aside0.mk hg4
  have HK4 := Aside0.mk hk4
  have HS4 := Aside0.mk hs4
  have BKs4 := Aside0.mk BK4
  have HW4 := Aside0.mk hW4
  have HNE := Aside0.mk hne
  rw [hW4] at x0 x1 x2 x30 x31 x32
  clear BK3 ho hb3 x3 hg4 hk4 hs4 BK4 hg3 hne hW4
  go_wp2_with fail
  rw [← HW4.out]
  refine bodyPost_ret (results_tc rfl _ _ w.heap.size 34 #[.int .i64 0, .slice A1 (rd_T32 l ((findR l k).1 : Int)).f1.length c1', .int .i64 (l.length : Int)] (0, 0) _ rfl (by refine blk_put (cs := #[.int .i64 0, .slice A1 (rd_T32 l ((findR l k).1 : Int)).f1.length c1', .int .i64 0]) ?_ 2 _ rfl; refine blk_put (cs := #[.int .i64 0, .slice none 0 0, .int .i64 0]) ?_ 1 _ rfl; refine blk_put (cs := #[.int .i64 0, .slice none 0 0, .int .i64 0]) ?_ 0 _ rfl; exact BKs4.out) Try.underlying34 rfl (by kernel_rfl)) rfl ?_
  have hs0 := HS0.out
  have h1s := HB1.out.size
  have h2s := HB2.out.size
  have h3s := HB3.out.size
  have h4s := HS4.out
  obtain ⟨h1, h2, h3, h4, h5⟩ := HG.out
  have hB3 := below_then (below_then (below_then HB0.out HB0.out.size HB1.out) (by omega) HB2.out) (by omega) HB3.out
  have hB4 : Below w.heap.size w W4 := by rw [HW4.out]; exact hB3.setCell (p := ⟨g, _, none⟩) (by show w.heap.size ≤ g; omega) _
  have hgl := blk_lt h2
  refine ⟨some ⟨g, 0, none⟩, l.length, _, by rw [List.length_set]; rfl, by rw [List.length_set]; exact Nat.le_refl _, ?_, ?_, ((hB4.setCell (Nat.le_refl _) _).setCell (Nat.le_refl _) _).setCell (Nat.le_refl _) _⟩
  · refine Fr.lower (Fr_set1 (w := w1) (base := W0.heap.size) (u := .slice Av v.length cv) HLT.out h1 h3 h4 h5 (fun y cs hy => M_keep3 hy (fun k a b e => ?_)) (HC.out 0 _ (by decide) rfl) (k32_mkM _ _ _ ⟨(rd_T32 l ((findR l k).1 : Int)).f0, v⟩ (R_keep3 HR0.out (fun k a b e => ?_)) (Kd.R_lower (Kd.R_mono (Kd.R_bound (R_keep3 HO.out (fun k a b e => ?_))) (fun k hk => ?_)) (by omega : W0.heap.size ≤ w2.heap.size))) ?_) (by omega)
    · rw [keep_put3 _ _ _ _ _ _ _ _ _ (by omega), HK4.out k e, HB3.out.block k (by omega), HB2.out.block k (by omega)]
    · rw [keep_put3 _ _ _ _ _ _ _ _ _ (by omega), HK4.out k e, HB3.out.block k (by omega), HB2.out.block k (by omega)]
    · rw [keep_put3 _ _ _ _ _ _ _ _ _ (by omega), HK4.out k (by omega)]
    · have := hk.2.1; omega
    · rw [keep_put3 _ _ _ _ _ _ _ _ _ (by omega)]; exact HG4.out
  · refine Kd.R_lower (Kd.R_mono (R_keep3 HR1.out (fun k a b e => ?_)) (fun _ _ => trivial)) (by omega)
    rw [keep_put3 _ _ _ _ _ _ _ _ _ (by omega), HK4.out k e, HB3.out.block k (by omega), HB2.out.block k (by omega)]
set_option maxHeartbeats 1000000 in
theorem put_new (A B D : Option Addr) (c d f : Nat) (l : List S32) (k v : List Int) (w : World) (hr : Kd.C k32 w A l.length l) (hc : l.length ≤ c) (hn : l.length < 1000000) (hv : ∀ x ∈ l, x.f0.length < 140737488355328 ∧ x.f1.length < 140737488355328) (hk : Kd.C (Kd.int .u8) w B k.length k) (hd : k.length ≤ d) (hvr : Kd.C (Kd.int .u8) w D v.length v) (hvf : v.length ≤ f) (h8 : k.length ≤ 8) (h16 : v.length ≤ 16) (ht : (findR l k).2 = false) (hf : l.length < 8) :
    Calls Try.prog 35 #[.slice A l.length c, .slice B k.length d, .slice D v.length f] w (PutEnd w (l.take (findR l k).1 ++ ⟨k, v⟩ :: l.drop (findR l k).1) ⟨0, [], (l.length : Int) + 1⟩) := by
  obtain ⟨W0, hW0⟩ : ∃ W0, W0 = w.alloc (.cells #[.int .i64 0, .slice none 0 0, .int .i64 0] 34) := ⟨_, rfl⟩
  have hb0 : Below w.heap.size w W0 := by rw [hW0]; exact below_alloc (Below.refl _ _) _
  have hk0 : W0.heap[w.heap.size]? = some (.cells #[.int .i64 0, .slice none 0 0, .int .i64 0] 34 (0, 0)) := by rw [hW0]; exact heap_alloc_self w _
  have hs0 : W0.heap.size = w.heap.size + 1 := by rw [hW0]; simp
  have HI := Aside0.mk (still16 A c l W0 (Kd.C_below hr hb0) hc hn hv)
  have HB0 := Aside0.mk hb0
  have HK0 := Aside0.mk hk0
  have HS0 := Aside0.mk hs0
  have HK := Aside0.mk hk
  have HD := Aside0.mk hd
  have HN := Aside0.mk hn
  have c1 : decide ((8 : Int) < (k.length : Int)) = false := decide_eq_false (by omega)
  have c2 : decide ((16 : Int) < (v.length : Int)) = false := decide_eq_false (by omega)
  have c3 : decide ((8 : Int) ≤ (l.length : Int)) = false := decide_eq_false (by omega)
  have HV := Aside0.mk hvr
  have HVF := Aside0.mk hvf
  clear hvr hvf
  clear hr hc hv hb0 hk0 hk hd hs0 hn
  go_enter Try.func35, Try.ntmps35
  go_wp2_with fail
  rw [← hW0]
  refine HI.out.mono ?_
  rintro e w1 ⟨A', rfl, ⟨c', hS⟩, hb1⟩
  clear HI
  have HF1 := Aside0.mk (S_Fr hS)
  have HA1 := Aside0.mk (S_cap hS).2
  have HI := Aside0.mk (find17 A' B l.length d l k w1 (Fr.C HF1.out) (Nat.le_refl _) (Kd.C_below HK.out (below_then HB0.out HB0.out.size hb1)) HD.out)
  have HB1 := Aside0.mk hb1
  clear hS hb1
  rw [ht] at HI
  go_wp2_with fail
  refine HI.out.mono ?_
  rintro e w2 ⟨rfl, hb2⟩
  have BK : w2.heap[w.heap.size]? = some (.cells #[.int .i64 0, .slice none 0 0, .int .i64 0] 34 (0, 0)) := (hb2.block _ (by have := HB1.out.size; have := HS0.out; omega)).trans ((HB1.out.block _ (by have := HS0.out; omega)).trans HK0.out)
  have hfi : (findR l k).1 ≤ l.length := findR_le l k
  have HFI := Aside0.mk hfi
  have HB2 := Aside0.mk hb2
  have BKs := Aside0.mk BK
  clear BK hb2 HI hfi
  go_wp2_with fail
  refine (clone18 B d k w2 (Kd.C_below (Kd.C_below HK.out (below_then HB0.out HB0.out.size HB1.out)) HB2.out) HD.out (by omega)).mono ?_
  rintro e w3 ⟨va, rfl, ho, hb3⟩
  obtain ⟨Ak, ck, rfl⟩ := Kd.R_slice ho
  have HO3 := Aside0.mk ho
  have HB3 := Aside0.mk hb3
  clear ho hb3
  go_wp2_with fail
  refine (clone18 D f v w3 (Kd.C_below (Kd.C_below (Kd.C_below HV.out (below_then HB0.out HB0.out.size HB1.out)) HB2.out) HB3.out) HVF.out (by omega)).mono ?_
  rintro e w4 ⟨va, rfl, ho, hb4⟩
  obtain ⟨Av, cv, rfl⟩ := Kd.R_slice ho
  have HO4 := Aside0.mk ho
  have HB4 := Aside0.mk hb4
  clear ho hb4
  go_wp2_with fail
  obtain ⟨W5, hW5⟩ : ∃ W5, W5 = w4.alloc (.cells #[.slice Ak k.length ck, .slice Av v.length cv] 42) := ⟨_, rfl⟩
  have hb5 : Below w4.heap.size w4 W5 := by rw [hW5]; exact below_alloc (Below.refl _ _) _
  have hs5 : W5.heap.size = w4.heap.size + 1 := by rw [hW5]; simp
  have hx5 : W5.heap[w4.heap.size]? = some (.cells #[.slice Ak k.length ck, .slice Av v.length cv] 42 (0, 0)) := by rw [hW5]; exact heap_alloc_self _ _
  rw [← hW5]
  have h1s := HB1.out.size
  have h2s := HB2.out.size
  have h3s := HB3.out.size
  have h4s := HB4.out.size
  have hs0 := HS0.out
  have hF5 := Fr.below (Fr.below (Fr.below (Fr.below HF1.out HB2.out) HB3.out) HB4.out) hb5
  have hR5 : Kd.R (Kd.int .u8) 5 W5 W0.heap.size (fun _ => True) (.slice Ak k.length ck) k := Kd.R_lower (R_keep3 HO3.out (fun k a b e => by rw [hb5.block k (by omega), HB4.out.block k (by omega)])) (by omega)
  have hV5 : Kd.R (Kd.int .u8) 5 W5 W0.heap.size (fun _ => True) (.slice Av v.length cv) v := Kd.R_lower (R_keep3 HO4.out (fun k a b e => by rw [hb5.block k (by omega)])) (by omega)
  have hbel5 : Below w.heap.size w W5 := below_then (below_then (below_then (below_then (below_then HB0.out HB0.out.size HB1.out) (by omega) HB2.out) (by omega) HB3.out) (by omega) HB4.out) (by omega) hb5
  have hBK5 := (hb5.block _ (by omega)).trans ((HB4.out.block _ (by omega)).trans ((HB3.out.block _ (by omega)).trans BKs.out))
  obtain ⟨olds, ho1, ho2, ho3⟩ := Fr_olds hF5 (fun h => List.eq_nil_of_length_eq_zero (HA1.out h))
  have hx := k32_mkM W5 W0.heap.size (fun _ => True) ⟨k, v⟩ hR5 hV5
  refine (ins19 l.length (findR l k).1 olds [.slice Ak k.length ck, .slice Av v.length cv] W5 A' ⟨w4.heap.size, 0, none⟩ 1 HN.out HFI.out HA1.out ho1 ho2 (reps_cells ho3) rfl (fun j v hj => ?_) (k32.K_one (k32.K_of_M hx))).mono ?_
  · rw [add_plain, (cell_of_heap hx5).1, ← hj, ← Array.getElem?_toList]
  · rintro e w7 ⟨cap, cur7, rfl, hcap, h7, hs7, ht7, hb7⟩
    have BK7 := (hb7.block _ (by omega)).trans hBK5
    obtain ⟨x0, x1, x2, x3⟩ := blk_cells3 BK7
    have x30 := x3 0
    have x31 := x3 1
    have x32 := x3 2
    have BKs7 := Aside0.mk BK7
    have hxs := Aside0.mk hx
    have HH := Aside0.mk (show _ ∧ _ ∧ _ ∧ _ from ⟨h7, hs7, ht7, hb7⟩)
    have HOL := Aside0.mk ho3
    have HL5 := Aside0.mk hbel5
    have HS := Aside0.mk (show _ ∧ _ ∧ _ ∧ _ ∧ _ from ⟨h1s, h2s, h3s, h4s, hs5⟩)
    have e3 : ((l.length + 1 : Nat) : Int) = (l.length : Int) + 1 := by omega
    clear hs5 hx h7 hs7 ht7 hb7 ho3 ho1 ho2 hx5 hF5 hR5 hV5 hbel5 hb5 BK7 hBK5 h1s h2s h3s h4s hs0 x3 hW5 hW0
    go_wp2_with fail
    refine bodyPost_ret (results_tc rfl _ _ w.heap.size 34 #[.int .i64 0, .slice none 0 0, .int .i64 ((l.length : Int) + 1)] (0, 0) _ rfl (by refine blk_put (cs := #[.int .i64 0, .slice none 0 0, .int .i64 0]) ?_ 2 _ rfl; refine blk_put (cs := #[.int .i64 0, .slice none 0 0, .int .i64 0]) ?_ 1 _ rfl; refine blk_put (cs := #[.int .i64 0, .slice none 0 0, .int .i64 0]) ?_ 0 _ rfl; exact BKs7.out) Try.underlying34 rfl (by kernel_rfl)) rfl ?_
    obtain ⟨h7, hs7, ht7, hb7⟩ := HH.out
    obtain ⟨h1s, h2s, h3s, h4s, hs5⟩ := HS.out
    have hs0 := HS0.out
    have h7s := hb7.size
    have hl : (l.take (findR l k).1 ++ (⟨k, v⟩ : S32) :: l.drop (findR l k).1).length = l.length + 1 := by have := HFI.out; simp; omega
    have hB7 := below_then HL5.out (by omega) hb7
    refine ⟨some ⟨W5.heap.size, 0, none⟩, cap, _, by rw [hl]; rfl, by rw [hl]; exact hcap, ?_, Kd.R_nil _ _ _ _ _, ((hB7.setCell (Nat.le_refl _) _).setCell (Nat.le_refl _) _).setCell (Nat.le_refl _) _⟩
    refine Fr.lower (Fr.keep (Fr_ins (base := W0.heap.size) HFI.out HOL.out hxs.out hb7 (Nat.le_refl _) (by omega) h7 hs7 (by unfold maxLen; have := HN.out; omega) ht7) (fun k a b => keep_put3 _ _ _ _ _ _ _ _ _ (by omega))) (by omega)
def putR (l : List S32) (k v : List Int) : List S32 × S26 := if 8 < k.length ∨ 16 < v.length then (l, ⟨1, [], 0⟩) else if (findR l k).2 = true then (l.set (findR l k).1 ⟨(rd_T32 l ((findR l k).1 : Int)).f0, v⟩, ⟨0, (rd_T32 l ((findR l k).1 : Int)).f1, (l.length : Int)⟩) else if 8 ≤ l.length then (l, ⟨3, [], 0⟩) else (l.take (findR l k).1 ++ ⟨k, v⟩ :: l.drop (findR l k).1, ⟨0, [], (l.length : Int) + 1⟩)
theorem put6 (A B D : Option Addr) (c d f : Nat) (l : List S32) (k v : List Int) (w : World) (hr : Kd.C k32 w A l.length l) (hc : l.length ≤ c) (hn : l.length < 1000000) (hv : ∀ x ∈ l, x.f0.length < 140737488355328 ∧ x.f1.length < 140737488355328) (hk : Kd.C (Kd.int .u8) w B k.length k) (hd : k.length ≤ d) (hvr : Kd.C (Kd.int .u8) w D v.length v) (hvf : v.length ≤ f) : Calls Try.prog 35 #[.slice A l.length c, .slice B k.length d, .slice D v.length f] w (PutEnd w (putR l k v).1 (putR l k v).2) := by
  unfold putR
  by_cases h8 : 8 < k.length
  · rw [if_pos (.inl h8)]; exact put_long1 A B D c d f l k v w hr hc hn hv hk hd h8
  · by_cases h16 : 16 < v.length
    · rw [if_pos (.inr h16)]; exact put_long2 A B D c d f l k v w hr hc hn hv hk hd (by omega) h16
    · rw [if_neg (by omega)]
      cases ht : (findR l k).2 with
      | true => rw [if_pos rfl]; exact put_there A B D c d f l k v w hr hc hn hv hk hd hvr hvf (by omega) (by omega) ht
      | false =>
        rw [if_neg (by simp)]
        by_cases hf : 8 ≤ l.length
        · rw [if_pos hf]; exact put_full A B D c d f l k v w hr hc hn hv hk hd (by omega) (by omega) ht hf
        · rw [if_neg hf]; exact put_new A B D c d f l k v w hr hc hn hv hk hd hvr hvf (by omega) (by omega) ht (by omega)
end Go.Proofs.Ythfplgfpodmphaa.Ms
