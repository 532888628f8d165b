/- The document's key, walked. -/
import Derived.Test.YtiodnbeifgnhcaaMr0
import Derived.Test.YtiodnbeifgnhcaaMh
import Derived.Test.YtiodnbeifgnhcaaMg
namespace Go.Proofs.Ytiodnbeifgnhcaa.Ms
open Go.RowKit Go.Proofs.YtiodnbeifgnhcaaW.PrintWords Go.Proofs.YtiodnbeifgnhcaaW.PrintLast Go.Proofs.YtiodnbeifgnhcaaW.PrintMore
attribute [local go_sem] max2_int min2_int max_two min_two max_three min_three max_four min_four
set_option linter.unusedVariables false
set_option linter.unusedSimpArgs false

theorem own23 (A : Option Addr) (c : Nat) (l : List Int) (w : World) (hr : Kd.C (Kd.int .u8) w A l.length l) (hc : l.length ≤ c) (hl : l.length < 140737488355328) :
    Calls Try.prog 23 #[.slice A l.length c] w fun e w' => ∃ v0_ : Value, e = .returned (v0_) ∧ Kd.R (Kd.int .u8) 5 w' w.heap.size (fun _ => True) v0_ l ∧ Below w.heap.size w w' :=
  hocketref4_own.calls A c l l w hr hc (by simp [hocketref4_own.f, hl])
theorem bad21 (a : Int) (w : World) : Calls Try.prog 21 #[.int .i64 a] w fun e w' => ∃ A c, e = .returned (.agg #[.int .i64 a, .slice A 0 c, .int .i64 0]) ∧ Kd.R (Kd.int .u8) 5 w' w.heap.size (fun _ => True) (.slice A 0 c) [] ∧ Below w.heap.size w w' :=
  (hocketref4_bad.calls a a [] 0 w rfl).mono (by
    rintro e w' ⟨v, rfl, hv, hb⟩
    obtain ⟨A, c, rfl⟩ := Kd.R_slice hv
    exact ⟨A, c, rfl, hv, hb⟩)
def keyR (l : List S32) (k : List Int) : Int := if (findR l k).2 = true then ((findR l k).1 : Int) else -1
set_option maxHeartbeats 1000000 in
theorem key22 (A B : Option Addr) (c d : Nat) (l : List S32) (k : List Int) (w : World) (hr : Kd.C k32 w A l.length l) (hc : l.length ≤ c) (hk : Kd.C (Kd.int .u8) w B k.length k) (hd : k.length ≤ d) :
    Calls Try.prog 22 #[.slice A l.length c, .slice B k.length d] w fun e w' => e = .returned (.int .i64 (keyR l k)) ∧ Below w.heap.size w w' := by
  have HR := Aside0.mk hr
  have HC := Aside0.mk hc
  have HK := Aside0.mk hk
  have HD := Aside0.mk hd
  have hlen : l.length ≤ 9223372036854775807 := hr.2.1
  clear hr hc hk hd
  go_enter Try.func22, Try.ntmps22
  go_wp2_with fail
  go_loopw [5] (fun v11 w' => ∃ j : Nat, v11 = .int .i64 j ∧ j ≤ l.length ∧ Aside0 (∀ i, i < j → sameB (rd_T32 l (i : Int)).f0 k = false) ∧ Aside0 (Below w.heap.size w w')) (fun v11 _ => l.length - (intOf v11).toNat)
  case atStart => exact ⟨0, rfl, Nat.zero_le _, ⟨fun i hi => absurd hi (Nat.not_lt_zero i)⟩, ⟨Below.refl _ _⟩⟩
  case round =>
    obtain ⟨j, rfl, hj, HA, HB⟩ := hrel
    by_cases hjl : j < l.length
    · have hbd := below_drew1 HB.out
      obtain ⟨ad, A0, c0, A1, c1, e, h0, h1, l0, g0, l1, g1⟩ := at_T32 (Kd.C_below HR.out hbd) (j : Int) (by omega) (by omega)
      cases e
      simp only [Int.toNat_natCast] at h0 h1
      have q1 := Kd.C_string (P := Try.prog) (A := A0) (c := c0) Try.underlying24 Try.underlying5 Try.underlying9 g0
      have q2 := Kd.C_string (P := Try.prog) (A := B) (c := d) Try.underlying24 Try.underlying5 Try.underlying9 (Kd.C_below HK.out hbd)
      have HBD := Aside0.mk hbd
      clear l0 g0 l1 g1 hbd h1
      cases hs : sameB (rd_T32 l (j : Int)).f0 k with
      | true =>
        have HF := Aside0.mk (find_t l k j hjl HA.out hs)
        have hs' : ((strOfNums (rd_T32 l (j : Int)).f0).toList == (strOfNums k).toList) = true := hs
        clear hs
        go_wp2_with fail
        go_region
        go_wp2_with fail
        go_ret
        have hf := HF.out
        refine ⟨by simp [keyR, hf], HBD.out⟩
      | false =>
        have HA2 := Aside0.mk (show ∀ i, i < j + 1 → sameB (rd_T32 l (i : Int)).f0 k = false from fun i hi => by
          rcases Nat.lt_or_eq_of_le (Nat.le_of_lt_succ hi) with h | rfl
          · exact HA.out i h
          · exact hs)
        have hs' : ((strOfNums (rd_T32 l (j : Int)).f0).toList == (strOfNums k).toList) = false := hs
        clear hs
        go_wp2_with fail
        go_region
        go_wp2_with fail
        go_roundw
        case rel => exact ⟨j + 1, by go_num, by omega, HA2, HBD⟩
        case measure => simp [intOf]; omega
    · obtain rfl : j = l.length := by omega
      go_wp2_with fail
      go_ret
      have hf : (findR l k).2 = false := by
        have e : eqI l k = l.length := tw_of _ l l.length (Nat.le_refl _) (fun j hj => by simp [HA.out j hj]) (.inl rfl)
        rw [findR, e, if_neg (Nat.lt_irrefl _)]
      refine ⟨by simp [keyR, hf], HB.out⟩
set_option maxHeartbeats 1000000 in
theorem rget_none (A B : Option Addr) (c d : Nat) (l : List S32) (k : List Int) (w : World) (hr : Kd.C k32 w A l.length l) (hc : l.length ≤ c) (hk : Kd.C (Kd.int .u8) w B k.length k) (hd : k.length ≤ d) (ht : (findR l k).2 = false) :
    Calls Try.prog 14 #[.slice A l.length c, .slice B k.length d] w (ResEnd w ⟨5, [], 0⟩) := by
  have HI := Aside0.mk (key22 A B c d l k (w.alloc (.cells #[.int .i64 0, .slice none 0 0, .int .i64 0] 26)) (Kd.C_alloc hr _) hc (Kd.C_alloc hk _) hd)
  rw [keyR, ht, if_neg (by simp)] at HI
  clear hr hc hk hd ht
  go_enter Try.func14, Try.ntmps14
  go_wp2_with fail
  refine HI.out.mono ?_
  rintro e w1 ⟨rfl, hb1⟩
  have BK : w1.heap[w.heap.size]? = some (.cells #[.int .i64 0, .slice none 0 0, .int .i64 0] 26 (0, 0)) := (hb1.block _ (by simp)).trans (heap_alloc_self w _)
  have hB : Below w.heap.size w w1 := below_then (below_alloc (Below.refl _ _) _) (by simp) hb1
  have BK0 := Aside0.mk BK
  have HB0 := Aside0.mk hB
  clear BK hB hb1 HI
  go_wp2_with fail
  refine (bad21 5 w1).mono ?_
  rintro e w2 ⟨Ab, cb, rfl, hR, hb2⟩
  have BK : w2.heap[w.heap.size]? = some (.cells #[.int .i64 0, .slice none 0 0, .int .i64 0] 26 (0, 0)) := (hb2.block _ (blk_lt BK0.out)).trans BK0.out
  have hlt := blk_lt BK0.out
  obtain ⟨x0, x1, x2, x3⟩ := blk_cells3 BK
  have x30 := x3 0
  have x31 := x3 1
  have x32 := x3 2
  have BKs := Aside0.mk BK
  have HBs := Aside0.mk (below_then HB0.out HB0.out.size hb2)
  have HR := Aside0.mk hR
  have HLE := Aside0.mk hlt
  clear BK hb2 x3 hR hlt
  go_wp2_with fail
  refine bodyPost_ret (results_cell_row rfl _ _ w.heap.size 26 #[.int .i64 5, .slice Ab 0 cb, .int .i64 0] (0, 0) _ rfl (by refine blk_put (cs := #[.int .i64 5, .slice Ab 0 cb, .int .i64 0]) ?_ 2 _ rfl; refine blk_put (cs := #[.int .i64 5, .slice none 0 0, .int .i64 0]) ?_ 1 _ rfl; refine blk_put (cs := #[.int .i64 0, .slice none 0 0, .int .i64 0]) ?_ 0 _ rfl; exact BKs.out) Try.underlying26 rfl (by kernel_rfl)) rfl ?_
  have h := HLE.out
  exact ⟨_, rfl, Kd.R_lower (R_keep3 HR.out (fun k a b _ => keep_put3 _ _ _ _ _ _ _ _ _ (by omega))) (by omega), ((HBs.out.setCell (Nat.le_refl _) _).setCell (Nat.le_refl _) _).setCell (Nat.le_refl _) _⟩
set_option maxHeartbeats 1000000 in
theorem rget_some (A B : Option Addr) (c d : Nat) (l : List S32) (k : List Int) (w : World) (hr : Kd.C k32 w A l.length l) (hc : l.length ≤ c) (hk : Kd.C (Kd.int .u8) w B k.length k) (hd : k.length ≤ d) (ht : (findR l k).2 = true) (hlt : (findR l k).1 < l.length) (hv : (rd_T32 l ((findR l k).1 : Int)).f1.length < 140737488355328) :
    Calls Try.prog 14 #[.slice A l.length c, .slice B k.length d] w (ResEnd w ⟨0, (rd_T32 l ((findR l k).1 : Int)).f1, 0⟩) := by
  have HR := Aside0.mk hr
  have HI := Aside0.mk (key22 A B c d l k (w.alloc (.cells #[.int .i64 0, .slice none 0 0, .int .i64 0] 26)) (Kd.C_alloc hr _) hc (Kd.C_alloc hk _) hd)
  rw [keyR, ht, if_pos rfl] at HI
  clear hr hc hk hd ht
  go_enter Try.func14, Try.ntmps14
  go_wp2_with fail
  refine HI.out.mono ?_
  rintro e w1 ⟨rfl, hb1⟩
  have BK : w1.heap[w.heap.size]? = some (.cells #[.int .i64 0, .slice none 0 0, .int .i64 0] 26 (0, 0)) := (hb1.block _ (by simp)).trans (heap_alloc_self w _)
  have hB : Below w.heap.size w w1 := below_then (below_alloc (Below.refl _ _) _) (by simp) hb1
  have BKs := Aside0.mk BK
  have HBs := Aside0.mk hB
  clear BK hB hb1 HI
  obtain ⟨ad, A0, c0, A1, c1, e, h0, h1, l0, g0, l1, g1⟩ := at_T32 (Kd.C_below HR.out HBs.out) ((findR l k).1 : Int) (by omega) (by omega)
  cases e
  simp only [Int.toNat_natCast] at h0 h1
  have HG1 := Aside0.mk g1
  have HL1 := Aside0.mk l1
  clear g1 l1 g0 l0 h0
  go_wp2_with fail
  refine (own23 A1 c1 _ w1 HG1.out HL1.out hv).mono ?_
  rintro e w2 ⟨v, rfl, ho, hb2⟩
  obtain ⟨Av, cv, rfl⟩ := Kd.R_slice ho
  have BK2 : w2.heap[w.heap.size]? = some (.cells #[.int .i64 0, .slice none 0 0, .int .i64 0] 26 (0, 0)) := (hb2.block _ (blk_lt BKs.out)).trans BKs.out
  obtain ⟨x0, x1, x2, x3⟩ := blk_cells3 BK2
  have x30 := x3 0
  have x31 := x3 1
  have x32 := x3 2
  have BKs2 := Aside0.mk BK2
  have HBs2 := Aside0.mk (below_then HBs.out HBs.out.size hb2)
  have HO := Aside0.mk ho
  have HLE := Aside0.mk (blk_lt BKs.out)
  clear BK2 x3 ho hb2
  go_wp2_with fail
  refine bodyPost_ret (results_cell_row rfl _ _ w.heap.size 26 #[.int .i64 0, .slice Av (rd_T32 l ((findR l k).1 : Int)).f1.length cv, .int .i64 0] (0, 0) _ rfl (by refine blk_put (cs := #[.int .i64 0, .slice Av (rd_T32 l ((findR l k).1 : Int)).f1.length cv, .int .i64 0]) ?_ 2 _ rfl; refine blk_put (cs := #[.int .i64 0, .slice none 0 0, .int .i64 0]) ?_ 1 _ rfl; refine blk_put (cs := #[.int .i64 0, .slice none 0 0, .int .i64 0]) ?_ 0 _ rfl; exact BKs2.out) Try.underlying26 rfl (by kernel_rfl)) rfl ?_
  have h := HLE.out
  exact ⟨_, rfl, Kd.R_lower (R_keep3 HO.out (fun k a b _ => keep_put3 _ _ _ _ _ _ _ _ _ (by omega))) (by omega), ((HBs2.out.setCell (Nat.le_refl _) _).setCell (Nat.le_refl _) _).setCell (Nat.le_refl _) _⟩
theorem rget14 (A B : Option Addr) (c d : Nat) (l : List S32) (k : List Int) (w : World) (hr : Kd.C k32 w A l.length l) (hc : l.length ≤ c) (hk : Kd.C (Kd.int .u8) w B k.length k) (hd : k.length ≤ d) (hv : ∀ x ∈ l, x.f1.length < 140737488355328) :
    Calls Try.prog 14 #[.slice A l.length c, .slice B k.length d] w (ResEnd w (getR l k)) := by
  unfold getR
  cases ht : (findR l k).2 with
  | false => exact rget_none A B c d l k w hr hc hk hd ht
  | true =>
    have hlt := findR_lt l k ht
    exact rget_some A B c d l k w hr hc hk hd ht hlt (hv _ (by rw [rd_get l _ hlt]; exact List.getElem_mem hlt))
end Go.Proofs.Ytiodnbeifgnhcaa.Ms
