/- The document's Put and Del, walked. -/
import Derived.Test.YtiodnbeifgnhcaaMrk
import Derived.Test.YtiodnbeifgnhcaaMr1
import Derived.Test.YtiodnbeifgnhcaaMd
namespace Go.Proofs.Ytiodnbeifgnhcaa.Ms
open Go.RowKit Go.Proofs.YtiodnbeifgnhcaaW.PrintWords Go.Proofs.YtiodnbeifgnhcaaW.PrintLast Go.Proofs.YtiodnbeifgnhcaaW.PrintMore
attribute [local go_sem] max2_int min2_int max_two min_two max_three min_three max_four min_four
set_option linter.unusedVariables false
set_option linter.unusedSimpArgs false

theorem pairs_aux (l : List S32) (hn : l.length < 1000000) (hv : ∀ x ∈ l, x.f0.length < 140737488355328 ∧ x.f1.length < 140737488355328) : ∀ (d j : Nat), j + d = l.length → hocketref4_pairs.l0 (d + 1) l (l.take j) (j : Int) = some l := by
  intro d
  induction d with
  | zero =>
    intro j hj
    obtain rfl : j = l.length := by omega
    rw [hocketref4_pairs.l0, if_neg (by omega), List.take_length]
  | succ d ih =>
    intro j hj
    have hlt : j < l.length := by omega
    have hx := hv _ (List.getElem_mem hlt)
    have hr : rd_T32 l (j : Int) = l[j] := rd_get l j hlt
    have ho : ∀ b : List Int, b.length < 140737488355328 → hocketref4_own.f b = some b := fun b hb => by simp [hocketref4_own.f, hb]
    rw [hocketref4_pairs.l0, if_pos (by omega), if_pos (by omega), hr, ho _ hx.1, Option.bind_some, ho _ hx.2, Option.bind_some, if_pos (by rw [List.length_take]; omega)]
    have e1 : wrap64 ((j : Int) + 1) = ((j + 1 : Nat) : Int) := by unfold wrap64; omega
    have e2 : l.take j ++ [(⟨l[j].f0, l[j].f1⟩ : S32)] = l.take (j + 1) := by
      rw [List.take_add_one, List.getElem?_eq_getElem hlt]; rfl
    rw [e1, e2]
    exact ih (j + 1) (by omega)
theorem pairs20 (A : Option Addr) (c : Nat) (l : List S32) (w : World) (hr : Kd.C k32 w A l.length l) (hc : l.length ≤ c) (hn : l.length < 1000000) (hv : ∀ x ∈ l, x.f0.length < 140737488355328 ∧ x.f1.length < 140737488355328) :
    Calls Try.prog 20 #[.slice A l.length c] w fun e w' => ∃ A' c', e = .returned (.slice A' l.length c') ∧ l.length ≤ c' ∧ Kd.S k32 32 w' w.heap.size (fun _ => True) (.slice A' l.length c') l ∧ Below w.heap.size w w' := by
  refine (hocketref4_pairs.calls (l.length + 1) A c l l w hr hc (pairs_aux l hn hv l.length 0 (by omega))).mono ?_
  rintro e w' ⟨v, rfl, hS, hb⟩
  obtain ⟨A', c', rfl⟩ := Kd.S_slice hS
  exact ⟨A', c', rfl, (Kd.S_reads' hS).2.1, hS, hb⟩
theorem S_row {α : Type} {d : Kd α} {e : Nat} {w : World} {base : Nat} {A : Option Addr} {c : Nat} {l : List α} (h : Kd.S d e w base (fun _ => True) (.slice A l.length c) l) (hl : l ≠ []) : ∃ g cur, A = some ⟨g, 0, none⟩ ∧ base ≤ g ∧ w.heap[g]? = some (.cells cur e (0, 0)) ∧ l.length ≤ c ∧ c ≤ maxLen ∧ cur.size = c * d.sz ∧ Reps (d.M w base (fun k => k ≠ g)) d.sz l (cur.toList.take (l.length * d.sz)) := by
  obtain ⟨_, inner, ho, hr⟩ := Kd.S_R h
  rcases ho.2 with ⟨h', h0⟩ | ⟨g, cap, cur, h', hb, hg, h1, h2, h3, h4⟩
  · exact absurd (List.eq_nil_of_length_eq_zero h0) hl
  · simp only [Value.slice.injEq] at h'
    obtain ⟨rfl, _, rfl⟩ := h'
    refine ⟨g, cur, rfl, hb, hg, h1, h2, h3, ?_⟩
    rw [h4]
    exact hr.imp_ (fun _ _ hp => d.M_mono (fun k hk hkg => hk.2 (by simp [Value.ownBlock, hkg])) hp)
set_option maxHeartbeats 1000000 in
theorem rdel_none (A B : Option Addr) (c d : Nat) (l : List S32) (k : List Int) (w : World) (hr : Kd.C k32 w A l.length l) (hc : l.length ≤ c) (hn : l.length < 1000000) (hv : ∀ x ∈ l, x.f0.length < 140737488355328 ∧ x.f1.length < 140737488355328) (hk : Kd.C (Kd.int .u8) w B k.length k) (hd : k.length ≤ d) (ht : (findR l k).2 = false) :
    Calls Try.prog 13 #[.slice A l.length c, .slice B k.length d] w (PutEnd w l ⟨5, [], 0⟩) := by
  obtain ⟨W0, hW0⟩ : ∃ W0, W0 = w.alloc (.cells #[.int .i64 0, .slice none 0 0, .int .i64 0] 26) := ⟨_, rfl⟩
  have hb0 : Below w.heap.size w W0 := by rw [hW0]; exact below_alloc (Below.refl _ _) _
  have hk0 : W0.heap[w.heap.size]? = some (.cells #[.int .i64 0, .slice none 0 0, .int .i64 0] 26 (0, 0)) := by rw [hW0]; exact heap_alloc_self w _
  have hs0 : W0.heap.size = w.heap.size + 1 := by rw [hW0]; simp
  have HI := Aside0.mk (pairs20 A c l W0 (Kd.C_below hr hb0) hc hn hv)
  have HB0 := Aside0.mk hb0
  have HK0 := Aside0.mk hk0
  have HS0 := Aside0.mk hs0
  have HR := Aside0.mk hr
  have HRc := Aside0.mk hc
  have HK := Aside0.mk hk
  have HD := Aside0.mk hd
  have HN := Aside0.mk hn
  clear hr hc hv hb0 hk0 hk hd hs0 hn
  go_enter Try.func13, Try.ntmps13
  go_wp2_with fail
  rw [← hW0]
  refine HI.out.mono ?_
  rintro e w1 ⟨A', c', rfl, hc', hS, hb1⟩
  clear HI
  have HS1 := Aside0.mk hS
  have HF1 := Aside0.mk (S_Fr hS)
  have HC1 := Aside0.mk hc'
  have HA1 := Aside0.mk (S_cap hS).2
  have HB1 := Aside0.mk hb1
  have HI := Aside0.mk (key22 A B c d l k w1 (Kd.C_below HR.out (below_then HB0.out HB0.out.size hb1)) HRc.out (Kd.C_below HK.out (below_then HB0.out HB0.out.size hb1)) HD.out)
  rw [keyR, ht, if_neg (by simp)] at HI
  clear hS hb1 hc'
  go_wp2_with fail
  refine HI.out.mono ?_
  rintro e w2 ⟨rfl, hb2⟩
  have BK : w2.heap[w.heap.size]? = some (.cells #[.int .i64 0, .slice none 0 0, .int .i64 0] 26 (0, 0)) := (hb2.block _ (by have := HB1.out.size; have := HS0.out; omega)).trans ((HB1.out.block _ (by have := HS0.out; omega)).trans HK0.out)
  have BKs := Aside0.mk BK
  have HB2 := Aside0.mk hb2
  clear BK hb2 HI
  go_wp2_with fail
  refine (bad21 5 w2).mono ?_
  rintro e wb ⟨Ab, cb, rfl, hR, hbb⟩
  have BK : wb.heap[w.heap.size]? = some (.cells #[.int .i64 0, .slice none 0 0, .int .i64 0] 26 (0, 0)) := (hbb.block _ (blk_lt BKs.out)).trans BKs.out
  obtain ⟨x0, x1, x2, x3⟩ := blk_cells3 BK
  have x30 := x3 0
  have x31 := x3 1
  have x32 := x3 2
  have BKb := Aside0.mk BK
  have HBb := Aside0.mk hbb
  have HRb := Aside0.mk hR
  have HLE := Aside0.mk (blk_lt BKs.out)
  clear BK hbb x3 hR
  go_wp2_with fail
  refine bodyPost_ret (results_tc rfl _ _ w.heap.size 26 #[.int .i64 5, .slice Ab 0 cb, .int .i64 0] (0, 0) _ rfl (by refine blk_put (cs := #[.int .i64 5, .slice Ab 0 cb, .int .i64 0]) ?_ 2 _ rfl; refine blk_put (cs := #[.int .i64 5, .slice none 0 0, .int .i64 0]) ?_ 1 _ rfl; refine blk_put (cs := #[.int .i64 0, .slice none 0 0, .int .i64 0]) ?_ 0 _ rfl; exact BKb.out) Try.underlying26 rfl (by kernel_rfl)) rfl ?_
  have hs0 := HS0.out
  have h1s := HB1.out.size
  have hle := HLE.out
  have hBB := below_then (below_then HB0.out HB0.out.size HB1.out) (by have := HB1.out.size; have := HS0.out; omega) HB2.out
  have hB2 := below_then hBB hBB.size HBb.out
  refine ⟨A', c', _, rfl, HC1.out, ?_, Kd.R_lower (R_keep3 HRb.out (fun k a b _ => keep_put3 _ _ _ _ _ _ _ _ _ (by omega))) (by omega), ((hB2.setCell (Nat.le_refl _) _).setCell (Nat.le_refl _) _).setCell (Nat.le_refl _) _⟩
  refine Fr.lower (Fr.keep (Fr.below (Fr.below HF1.out HB2.out) HBb.out) (fun k a b => keep_put3 _ _ _ _ _ _ _ _ _ (by omega))) (by omega)
set_option maxHeartbeats 1000000 in
theorem rput_long1 (A B D : Option Addr) (c d f : Nat) (l : List S32) (k v : List Int) (w : World) (hr : Kd.C k32 w A l.length l) (hc : l.length ≤ c) (hn : l.length < 1000000) (hv : ∀ x ∈ l, x.f0.length < 140737488355328 ∧ x.f1.length < 140737488355328) (hk : Kd.C (Kd.int .u8) w B k.length k) (hd : k.length ≤ d) (h8 : 8 < k.length) :
    Calls Try.prog 11 #[.slice A l.length c, .slice B k.length d, .slice D v.length f] w (PutEnd w l ⟨1, [], 0⟩) := by
  obtain ⟨W0, hW0⟩ : ∃ W0, W0 = w.alloc (.cells #[.int .i64 0, .slice none 0 0, .int .i64 0] 26) := ⟨_, rfl⟩
  have hb0 : Below w.heap.size w W0 := by rw [hW0]; exact below_alloc (Below.refl _ _) _
  have hk0 : W0.heap[w.heap.size]? = some (.cells #[.int .i64 0, .slice none 0 0, .int .i64 0] 26 (0, 0)) := by rw [hW0]; exact heap_alloc_self w _
  have hs0 : W0.heap.size = w.heap.size + 1 := by rw [hW0]; simp
  have HI := Aside0.mk (pairs20 A c l W0 (Kd.C_below hr hb0) hc hn hv)
  have HB0 := Aside0.mk hb0
  have HK0 := Aside0.mk hk0
  have HS0 := Aside0.mk hs0
  have HR := Aside0.mk hr
  have HRc := Aside0.mk hc
  have HK := Aside0.mk hk
  have HD := Aside0.mk hd
  have HN := Aside0.mk hn
  have c1 : decide ((8 : Int) < (k.length : Int)) = true := decide_eq_true (by omega)
  clear hr hc hv hb0 hk0 hk hd hs0 hn
  go_enter Try.func11, Try.ntmps11
  go_wp2_with fail
  rw [← hW0]
  refine HI.out.mono ?_
  rintro e w1 ⟨A', c', rfl, hc', hS, hb1⟩
  clear HI
  have HS1 := Aside0.mk hS
  have HF1 := Aside0.mk (S_Fr hS)
  have HC1 := Aside0.mk hc'
  have HA1 := Aside0.mk (S_cap hS).2
  have HB1 := Aside0.mk hb1
  have BK : w1.heap[w.heap.size]? = some (.cells #[.int .i64 0, .slice none 0 0, .int .i64 0] 26 (0, 0)) := (HB1.out.block _ (by have := HS0.out; omega)).trans HK0.out
  have BKs := Aside0.mk BK
  clear hS hb1 hc' BK
  go_wp2_with fail
  refine (bad21 1 w1).mono ?_
  rintro e wb ⟨Ab, cb, rfl, hR, hbb⟩
  have BK : wb.heap[w.heap.size]? = some (.cells #[.int .i64 0, .slice none 0 0, .int .i64 0] 26 (0, 0)) := (hbb.block _ (blk_lt BKs.out)).trans BKs.out
  obtain ⟨x0, x1, x2, x3⟩ := blk_cells3 BK
  have x30 := x3 0
  have x31 := x3 1
  have x32 := x3 2
  have BKb := Aside0.mk BK
  have HBb := Aside0.mk hbb
  have HRb := Aside0.mk hR
  have HLE := Aside0.mk (blk_lt BKs.out)
  clear BK hbb x3 hR
  go_wp2_with fail
  refine bodyPost_ret (results_tc rfl _ _ w.heap.size 26 #[.int .i64 1, .slice Ab 0 cb, .int .i64 0] (0, 0) _ rfl (by refine blk_put (cs := #[.int .i64 1, .slice Ab 0 cb, .int .i64 0]) ?_ 2 _ rfl; refine blk_put (cs := #[.int .i64 1, .slice none 0 0, .int .i64 0]) ?_ 1 _ rfl; refine blk_put (cs := #[.int .i64 0, .slice none 0 0, .int .i64 0]) ?_ 0 _ rfl; exact BKb.out) Try.underlying26 rfl (by kernel_rfl)) rfl ?_
  have hs0 := HS0.out
  have h1s := HB1.out.size
  have hle := HLE.out
  have hBB := below_then HB0.out HB0.out.size HB1.out
  have hB2 := below_then hBB hBB.size HBb.out
  refine ⟨A', c', _, rfl, HC1.out, ?_, Kd.R_lower (R_keep3 HRb.out (fun k a b _ => keep_put3 _ _ _ _ _ _ _ _ _ (by omega))) (by omega), ((hB2.setCell (Nat.le_refl _) _).setCell (Nat.le_refl _) _).setCell (Nat.le_refl _) _⟩
  refine Fr.lower (Fr.keep (Fr.below HF1.out HBb.out) (fun k a b => keep_put3 _ _ _ _ _ _ _ _ _ (by omega))) (by omega)
set_option maxHeartbeats 1000000 in
theorem rput_long2 (A B D : Option Addr) (c d f : Nat) (l : List S32) (k v : List Int) (w : World) (hr : Kd.C k32 w A l.length l) (hc : l.length ≤ c) (hn : l.length < 1000000) (hv : ∀ x ∈ l, x.f0.length < 140737488355328 ∧ x.f1.length < 140737488355328) (hk : Kd.C (Kd.int .u8) w B k.length k) (hd : k.length ≤ d) (h8 : k.length ≤ 8) (h16 : 16 < v.length) :
    Calls Try.prog 11 #[.slice A l.length c, .slice B k.length d, .slice D v.length f] w (PutEnd w l ⟨1, [], 0⟩) := by
  obtain ⟨W0, hW0⟩ : ∃ W0, W0 = w.alloc (.cells #[.int .i64 0, .slice none 0 0, .int .i64 0] 26) := ⟨_, rfl⟩
  have hb0 : Below w.heap.size w W0 := by rw [hW0]; exact below_alloc (Below.refl _ _) _
  have hk0 : W0.heap[w.heap.size]? = some (.cells #[.int .i64 0, .slice none 0 0, .int .i64 0] 26 (0, 0)) := by rw [hW0]; exact heap_alloc_self w _
  have hs0 : W0.heap.size = w.heap.size + 1 := by rw [hW0]; simp
  have HI := Aside0.mk (pairs20 A c l W0 (Kd.C_below hr hb0) hc hn hv)
  have HB0 := Aside0.mk hb0
  have HK0 := Aside0.mk hk0
  have HS0 := Aside0.mk hs0
  have HR := Aside0.mk hr
  have HRc := Aside0.mk hc
  have HK := Aside0.mk hk
  have HD := Aside0.mk hd
  have HN := Aside0.mk hn
  have c1 : decide ((8 : Int) < (k.length : Int)) = false := decide_eq_false (by omega)
  have c2 : decide ((16 : Int) < (v.length : Int)) = true := decide_eq_true (by omega)
  clear hr hc hv hb0 hk0 hk hd hs0 hn
  go_enter Try.func11, Try.ntmps11
  go_wp2_with fail
  rw [← hW0]
  refine HI.out.mono ?_
  rintro e w1 ⟨A', c', rfl, hc', hS, hb1⟩
  clear HI
  have HS1 := Aside0.mk hS
  have HF1 := Aside0.mk (S_Fr hS)
  have HC1 := Aside0.mk hc'
  have HA1 := Aside0.mk (S_cap hS).2
  have HB1 := Aside0.mk hb1
  have BK : w1.heap[w.heap.size]? = some (.cells #[.int .i64 0, .slice none 0 0, .int .i64 0] 26 (0, 0)) := (HB1.out.block _ (by have := HS0.out; omega)).trans HK0.out
  have BKs := Aside0.mk BK
  clear hS hb1 hc' BK
  go_wp2_with fail
  refine (bad21 1 w1).mono ?_
  rintro e wb ⟨Ab, cb, rfl, hR, hbb⟩
  have BK : wb.heap[w.heap.size]? = some (.cells #[.int .i64 0, .slice none 0 0, .int .i64 0] 26 (0, 0)) := (hbb.block _ (blk_lt BKs.out)).trans BKs.out
  obtain ⟨x0, x1, x2, x3⟩ := blk_cells3 BK
  have x30 := x3 0
  have x31 := x3 1
  have x32 := x3 2
  have BKb := Aside0.mk BK
  have HBb := Aside0.mk hbb
  have HRb := Aside0.mk hR
  have HLE := Aside0.mk (blk_lt BKs.out)
  clear BK hbb x3 hR
  go_wp2_with fail
  refine bodyPost_ret (results_tc rfl _ _ w.heap.size 26 #[.int .i64 1, .slice Ab 0 cb, .int .i64 0] (0, 0) _ rfl (by refine blk_put (cs := #[.int .i64 1, .slice Ab 0 cb, .int .i64 0]) ?_ 2 _ rfl; refine blk_put (cs := #[.int .i64 1, .slice none 0 0, .int .i64 0]) ?_ 1 _ rfl; refine blk_put (cs := #[.int .i64 0, .slice none 0 0, .int .i64 0]) ?_ 0 _ rfl; exact BKb.out) Try.underlying26 rfl (by kernel_rfl)) rfl ?_
  have hs0 := HS0.out
  have h1s := HB1.out.size
  have hle := HLE.out
  have hBB := below_then HB0.out HB0.out.size HB1.out
  have hB2 := below_then hBB hBB.size HBb.out
  refine ⟨A', c', _, rfl, HC1.out, ?_, Kd.R_lower (R_keep3 HRb.out (fun k a b _ => keep_put3 _ _ _ _ _ _ _ _ _ (by omega))) (by omega), ((hB2.setCell (Nat.le_refl _) _).setCell (Nat.le_refl _) _).setCell (Nat.le_refl _) _⟩
  refine Fr.lower (Fr.keep (Fr.below HF1.out HBb.out) (fun k a b => keep_put3 _ _ _ _ _ _ _ _ _ (by omega))) (by omega)
set_option maxHeartbeats 1000000 in
theorem rput_full (A B D : Option Addr) (c d f : Nat) (l : List S32) (k v : List Int) (w : World) (hr : Kd.C k32 w A l.length l) (hc : l.length ≤ c) (hn : l.length < 1000000) (hv : ∀ x ∈ l, x.f0.length < 140737488355328 ∧ x.f1.length < 140737488355328) (hk : Kd.C (Kd.int .u8) w B k.length k) (hd : k.length ≤ d) (h8 : k.length ≤ 8) (h16 : v.length ≤ 16) (ht : (findR l k).2 = false) (hf : 8 ≤ l.length) :
    Calls Try.prog 11 #[.slice A l.length c, .slice B k.length d, .slice D v.length f] w (PutEnd w l ⟨3, [], 0⟩) := by
  obtain ⟨W0, hW0⟩ : ∃ W0, W0 = w.alloc (.cells #[.int .i64 0, .slice none 0 0, .int .i64 0] 26) := ⟨_, rfl⟩
  have hb0 : Below w.heap.size w W0 := by rw [hW0]; exact below_alloc (Below.refl _ _) _
  have hk0 : W0.heap[w.heap.size]? = some (.cells #[.int .i64 0, .slice none 0 0, .int .i64 0] 26 (0, 0)) := by rw [hW0]; exact heap_alloc_self w _
  have hs0 : W0.heap.size = w.heap.size + 1 := by rw [hW0]; simp
  have HI := Aside0.mk (pairs20 A c l W0 (Kd.C_below hr hb0) hc hn hv)
  have HB0 := Aside0.mk hb0
  have HK0 := Aside0.mk hk0
  have HS0 := Aside0.mk hs0
  have HR := Aside0.mk hr
  have HRc := Aside0.mk hc
  have HK := Aside0.mk hk
  have HD := Aside0.mk hd
  have HN := Aside0.mk hn
  have c1 : decide ((8 : Int) < (k.length : Int)) = false := decide_eq_false (by omega)
  have c2 : decide ((16 : Int) < (v.length : Int)) = false := decide_eq_false (by omega)
  have c3 : decide ((8 : Int) ≤ (l.length : Int)) = true := decide_eq_true (by omega)
  clear hr hc hv hb0 hk0 hk hd hs0 hn
  go_enter Try.func11, Try.ntmps11
  go_wp2_with fail
  rw [← hW0]
  refine HI.out.mono ?_
  rintro e w1 ⟨A', c', rfl, hc', hS, hb1⟩
  clear HI
  have HS1 := Aside0.mk hS
  have HF1 := Aside0.mk (S_Fr hS)
  have HC1 := Aside0.mk hc'
  have HA1 := Aside0.mk (S_cap hS).2
  have HB1 := Aside0.mk hb1
  have HI := Aside0.mk (key22 A B c d l k w1 (Kd.C_below HR.out (below_then HB0.out HB0.out.size hb1)) HRc.out (Kd.C_below HK.out (below_then HB0.out HB0.out.size hb1)) HD.out)
  rw [keyR, ht, if_neg (by simp)] at HI
  clear hS hb1 hc'
  go_wp2_with fail
  refine HI.out.mono ?_
  rintro e w2 ⟨rfl, hb2⟩
  have BK : w2.heap[w.heap.size]? = some (.cells #[.int .i64 0, .slice none 0 0, .int .i64 0] 26 (0, 0)) := (hb2.block _ (by have := HB1.out.size; have := HS0.out; omega)).trans ((HB1.out.block _ (by have := HS0.out; omega)).trans HK0.out)
  have BKs := Aside0.mk BK
  have HB2 := Aside0.mk hb2
  clear BK hb2 HI
  go_wp2_with fail
  refine (bad21 3 w2).mono ?_
  rintro e wb ⟨Ab, cb, rfl, hR, hbb⟩
  have BK : wb.heap[w.heap.size]? = some (.cells #[.int .i64 0, .slice none 0 0, .int .i64 0] 26 (0, 0)) := (hbb.block _ (blk_lt BKs.out)).trans BKs.out
  obtain ⟨x0, x1, x2, x3⟩ := blk_cells3 BK
  have x30 := x3 0
  have x31 := x3 1
  have x32 := x3 2
  have BKb := Aside0.mk BK
  have HBb := Aside0.mk hbb
  have HRb := Aside0.mk hR
  have HLE := Aside0.mk (blk_lt BKs.out)
  clear BK hbb x3 hR
  go_wp2_with fail
  refine bodyPost_ret (results_tc rfl _ _ w.heap.size 26 #[.int .i64 3, .slice Ab 0 cb, .int .i64 0] (0, 0) _ rfl (by refine blk_put (cs := #[.int .i64 3, .slice Ab 0 cb, .int .i64 0]) ?_ 2 _ rfl; refine blk_put (cs := #[.int .i64 3, .slice none 0 0, .int .i64 0]) ?_ 1 _ rfl; refine blk_put (cs := #[.int .i64 0, .slice none 0 0, .int .i64 0]) ?_ 0 _ rfl; exact BKb.out) Try.underlying26 rfl (by kernel_rfl)) rfl ?_
  have hs0 := HS0.out
  have h1s := HB1.out.size
  have hle := HLE.out
  have hBB := below_then (below_then HB0.out HB0.out.size HB1.out) (by have := HB1.out.size; have := HS0.out; omega) HB2.out
  have hB2 := below_then hBB hBB.size HBb.out
  refine ⟨A', c', _, rfl, HC1.out, ?_, Kd.R_lower (R_keep3 HRb.out (fun k a b _ => keep_put3 _ _ _ _ _ _ _ _ _ (by omega))) (by omega), ((hB2.setCell (Nat.le_refl _) _).setCell (Nat.le_refl _) _).setCell (Nat.le_refl _) _⟩
  refine Fr.lower (Fr.keep (Fr.below (Fr.below HF1.out HB2.out) HBb.out) (fun k a b => keep_put3 _ _ _ _ _ _ _ _ _ (by omega))) (by omega)
end Go.Proofs.Ytiodnbeifgnhcaa.Ms
