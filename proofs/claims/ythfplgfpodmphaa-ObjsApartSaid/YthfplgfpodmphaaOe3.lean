/- Whole numbers, rows and pairs by a function, that are the same. -/
import Derived.Test.YthfplgfpodmphaaOe2
import Derived.Test.YthfplgfpodmphaaOb
import Derived.Test.YthfplgfpodmphaaOi
namespace Go.Proofs.Ythfplgfpodmphaa.Ob
open Go.RowKit Go.Proofs.YthfplgfpodmphaaW.PrintWords Go.Proofs.YthfplgfpodmphaaW.PrintLast Go.Proofs.YthfplgfpodmphaaW.PrintMore Go.Proofs.Ythfplgfpodmphaa.Ms
attribute [local go_sem] max2_int min2_int max_two min_two max_three min_three max_four min_four
set_option linter.unusedVariables false
set_option linter.unusedSimpArgs false
set_option maxRecDepth 100000
set_option maxHeartbeats 1000000 in
theorem ints59 (A0 : Option Addr) (c0 : Nat) (l0 : List Int) (A1 : Option Addr) (c1 : Nat) (l1 : List Int) (w : World) (hr0 : Kd.C ki w A0 l0.length l0) (hr1 : Kd.C ki w A1 l1.length l1) :
  Calls Try.prog 59 #[.slice A0 l0.length c0, .slice A1 l1.length c1] w fun e w' => e = .returned (.bool (eqI l0 l1)) ∧ Below w.heap.size w w' := by
 have HR := Aside0.mk hr0
 have HS := Aside0.mk hr1
 have hm0 : l0.length ≤ 9223372036854775807 := hr0.2.1
 clear hr0 hr1
 by_cases hlen : l0.length = l1.length
 ·
  have HL := Aside0.mk hlen
  rw [← hlen]
  clear hlen
  go_enter Try.func59, Try.ntmps59
  go_wp2_with fail
  go_loopw [13] (fun v5 w' => ∃ j : Nat, v5 = .int .i64 j ∧ j ≤ l0.length ∧ Aside0 (∀ i (h1 : i < j) (h2 : i < l0.length) (h3 : i < l1.length), (fun x y : Int => x == y) l0[i] l1[i] = true) ∧ Aside0 (Below w.heap.size w w')) (fun v5 _ => l0.length - (intOf v5).toNat)
  case atStart => exact ⟨0, rfl, Nat.zero_le _, ⟨fun i h => absurd h (by omega)⟩, ⟨Below.refl _ _⟩⟩
  case round =>
   obtain ⟨j, rfl, hj, HT, HB⟩ := hrel
   by_cases hlt : j < l0.length
   ·
    have hlt1 : j < l1.length := by have := HL.out; omega
    have e2 : IntKind.i64.wrap ((j : Int) + 1) = (j : Int) + 1 := by rw [IntKind.wrap_i64]; omega
    have hbd := below_drew1 HB.out
    obtain ⟨ad, c, e, _, hK, hc0⟩ := Kd.C_get (Kd.C_below HR.out hbd) 0 (j : Int) (by omega) (by omega)
    obtain ⟨bd, c', e', _, hK', hc0'⟩ := Kd.C_get (Kd.C_below HS.out hbd) 0 (j : Int) (by omega) (by omega)
    cases e
    cases e'
    have h0 := hc0 0 (.int .i64 (l0.getD (j : Int).toNat 0)) (by rw [show c = [.int .i64 (l0.getD (j : Int).toNat 0)] from hK]; rfl)
    have h1 := hc0' 0 (.int .i64 (l1.getD (j : Int).toNat 0)) (by rw [show c' = [.int .i64 (l1.getD (j : Int).toNat 0)] from hK']; rfl)
    simp only [Int.toNat_natCast, show ki.sz = 1 from rfl, Nat.mul_one, Nat.add_zero] at h0 h1
    have HX := Aside0.mk (show l0[j] = l0.getD j 0 by simp [List.getD_eq_getElem?_getD, List.getElem?_eq_getElem hlt])
    have HY := Aside0.mk (show l1[j] = l1.getD j 0 by simp [List.getD_eq_getElem?_getD, List.getElem?_eq_getElem hlt1])
    clear hK hK' hc0 hc0'
    generalize l0.getD j 0 = x at h0 HX
    generalize l1.getD j 0 = y at h1 HY
    have HBD := Aside0.mk hbd
    clear hbd
    cases hq : (fun x y : Int => x == y) x y with
    | true =>
     have HQ := Aside0.mk hq
     have q3 : (x == y) = true := hq
     have q4 : (x != y) = false := by rw [bne, q3]; rfl
     have q5 : x = y := beq_iff_eq.1 hq
     have Q5 := Aside0.mk q5
     clear q5
     clear hq
     go_wp2_with fail
     go_region
     go_wp2
     go_roundw
     case rel => exact ⟨j + 1, by go_num, by omega, ⟨fun i h1 h2 h3 => by
      rcases Nat.lt_or_ge i j with h | h
      ·
       exact HT.out i h h2 h3
      ·
       obtain rfl : i = j := by omega
       have := HQ.out
       rwa [← HX.out, ← HY.out] at this⟩, HBD⟩
     case measure => simp [intOf]; omega
    | false =>
     have HE := Aside0.mk (eqL_at (fun x y : Int => x == y) l0 l1 j hlt (by have := HL.out; omega) (by rw [HX.out, HY.out]; exact hq))
     have q3 : (x == y) = false := hq
     have q4 : (x != y) = true := by rw [bne, q3]; rfl
     have q5 : ¬ x = y := beq_eq_false_iff_ne.1 hq
     have Q5 := Aside0.mk q5
     clear q5
     clear hq
     go_wp2_with fail
     go_region
     go_wp2
     go_ret
     have HE2 : eqI l0 l1 = false := HE.out
     exact ⟨by first | (rw [HE2]; rfl) | rw [HE2], HBD.out⟩
   ·
    obtain rfl : j = l0.length := by omega
    have HE : eqI l0 l1 = true := (eqL_iff _ _ _).2 ⟨HL.out, fun i h1 h2 => HT.out i h1 h1 h2⟩
    clear HT HL
    go_wp2_with fail
    go_ret
    exact ⟨by first | (rw [HE]; rfl) | rw [HE], HB.out⟩
 ·
  have HE : eqI l0 l1 = false := eqL_len _ _ _ hlen
  have n1 : ¬ (l0.length : Int) = (l1.length : Int) := by omega
  go_enter Try.func59, Try.ntmps59
  go_wp2_with fail
  go_ret
  exact ⟨by first | (rw [HE]; rfl) | rw [HE], Below.refl _ _⟩
set_option maxHeartbeats 1000000 in
theorem ints55 (A0 : Option Addr) (c0 : Nat) (l0 : List Int) (A1 : Option Addr) (c1 : Nat) (l1 : List Int) (w : World) (hr0 : Kd.C ki w A0 l0.length l0) (hr1 : Kd.C ki w A1 l1.length l1) :
  Calls Try.prog 55 #[.slice A0 l0.length c0, .slice A1 l1.length c1] w fun e w' => e = .returned (.bool (eqI l0 l1)) ∧ Below w.heap.size w w' := by
 have HR := Aside0.mk hr0
 have HS := Aside0.mk hr1
 have hm0 : l0.length ≤ 9223372036854775807 := hr0.2.1
 clear hr0 hr1
 by_cases hlen : l0.length = l1.length
 ·
  have HL := Aside0.mk hlen
  rw [← hlen]
  clear hlen
  go_enter Try.func55, Try.ntmps55
  go_wp2_with fail
  go_loopw [5] (fun v5 w' => ∃ j : Nat, v5 = .int .i64 j ∧ j ≤ l0.length ∧ Aside0 (∀ i (h1 : i < j) (h2 : i < l0.length) (h3 : i < l1.length), (fun x y : Int => x == y) l0[i] l1[i] = true) ∧ Aside0 (Below w.heap.size w w')) (fun v5 _ => l0.length - (intOf v5).toNat)
  case atStart => exact ⟨0, rfl, Nat.zero_le _, ⟨fun i h => absurd h (by omega)⟩, ⟨Below.refl _ _⟩⟩
  case round =>
   obtain ⟨j, rfl, hj, HT, HB⟩ := hrel
   by_cases hlt : j < l0.length
   ·
    have hlt1 : j < l1.length := by have := HL.out; omega
    have e2 : IntKind.i64.wrap ((j : Int) + 1) = (j : Int) + 1 := by rw [IntKind.wrap_i64]; omega
    have hbd := below_drew1 HB.out
    obtain ⟨ad, c, e, _, hK, hc0⟩ := Kd.C_get (Kd.C_below HR.out hbd) 0 (j : Int) (by omega) (by omega)
    obtain ⟨bd, c', e', _, hK', hc0'⟩ := Kd.C_get (Kd.C_below HS.out hbd) 0 (j : Int) (by omega) (by omega)
    cases e
    cases e'
    have h0 := hc0 0 (.int .i64 (l0.getD (j : Int).toNat 0)) (by rw [show c = [.int .i64 (l0.getD (j : Int).toNat 0)] from hK]; rfl)
    have h1 := hc0' 0 (.int .i64 (l1.getD (j : Int).toNat 0)) (by rw [show c' = [.int .i64 (l1.getD (j : Int).toNat 0)] from hK']; rfl)
    simp only [Int.toNat_natCast, show ki.sz = 1 from rfl, Nat.mul_one, Nat.add_zero] at h0 h1
    have HX := Aside0.mk (show l0[j] = l0.getD j 0 by simp [List.getD_eq_getElem?_getD, List.getElem?_eq_getElem hlt])
    have HY := Aside0.mk (show l1[j] = l1.getD j 0 by simp [List.getD_eq_getElem?_getD, List.getElem?_eq_getElem hlt1])
    clear hK hK' hc0 hc0'
    generalize l0.getD j 0 = x at h0 HX
    generalize l1.getD j 0 = y at h1 HY
    have HBD := Aside0.mk hbd
    clear hbd
    cases hq : (fun x y : Int => x == y) x y with
    | true =>
     have HQ := Aside0.mk hq
     have q3 : (x == y) = true := hq
     have q4 : (x != y) = false := by rw [bne, q3]; rfl
     have q5 : x = y := beq_iff_eq.1 hq
     have Q5 := Aside0.mk q5
     clear q5
     clear hq
     go_wp2_with fail
     go_region
     go_wp2
     go_roundw
     case rel => exact ⟨j + 1, by go_num, by omega, ⟨fun i h1 h2 h3 => by
      rcases Nat.lt_or_ge i j with h | h
      ·
       exact HT.out i h h2 h3
      ·
       obtain rfl : i = j := by omega
       have := HQ.out
       rwa [← HX.out, ← HY.out] at this⟩, HBD⟩
     case measure => simp [intOf]; omega
    | false =>
     have HE := Aside0.mk (eqL_at (fun x y : Int => x == y) l0 l1 j hlt (by have := HL.out; omega) (by rw [HX.out, HY.out]; exact hq))
     have q3 : (x == y) = false := hq
     have q4 : (x != y) = true := by rw [bne, q3]; rfl
     have q5 : ¬ x = y := beq_eq_false_iff_ne.1 hq
     have Q5 := Aside0.mk q5
     clear q5
     clear hq
     go_wp2_with fail
     go_region
     go_wp2
     go_ret
     have HE2 : eqI l0 l1 = false := HE.out
     exact ⟨by first | (rw [HE2]; rfl) | rw [HE2], HBD.out⟩
   ·
    obtain rfl : j = l0.length := by omega
    have HE : eqI l0 l1 = true := (eqL_iff _ _ _).2 ⟨HL.out, fun i h1 h2 => HT.out i h1 h1 h2⟩
    clear HT HL
    go_wp2_with fail
    go_ret
    exact ⟨by first | (rw [HE]; rfl) | rw [HE], HB.out⟩
 ·
  have HE : eqI l0 l1 = false := eqL_len _ _ _ hlen
  have n1 : ¬ (l0.length : Int) = (l1.length : Int) := by omega
  go_enter Try.func55, Try.ntmps55
  go_wp2_with fail
  go_ret
  exact ⟨by first | (rw [HE]; rfl) | rw [HE], Below.refl _ _⟩
set_option maxHeartbeats 1000000 in
theorem efunc58 (A0 : Option Addr) (c0 : Nat) (l0 : List (List Int)) (A1 : Option Addr) (c1 : Nat) (l1 : List (List Int)) (w : World) (hr0 : Kd.C kq w A0 l0.length l0) (hr1 : Kd.C kq w A1 l1.length l1) :
  Calls Try.prog 58 #[.slice A0 l0.length c0, .slice A1 l1.length c1, .func (.func 57) #[] #[]] w fun e w' => e = .returned (.bool (eqQ l0 l1)) ∧ Below w.heap.size w w' := by
 have HR := Aside0.mk hr0
 have HS := Aside0.mk hr1
 have hm0 : l0.length ≤ 9223372036854775807 := hr0.2.1
 clear hr0 hr1
 by_cases hlen : l0.length = l1.length
 ·
  have HL := Aside0.mk hlen
  rw [← hlen]
  clear hlen
  go_enter Try.func58, Try.ntmps58
  go_wp2_with fail
  go_loopw [17] (fun v5 w' => ∃ j : Nat, v5 = .int .i64 j ∧ j ≤ l0.length ∧ Aside0 (∀ i (h1 : i < j) (h2 : i < l0.length) (h3 : i < l1.length), eqB l0[i] l1[i] = true) ∧ Aside0 (Below w.heap.size w w')) (fun v5 _ => l0.length - (intOf v5).toNat)
  case atStart => exact ⟨0, rfl, Nat.zero_le _, ⟨fun i h => absurd h (by omega)⟩, ⟨Below.refl _ _⟩⟩
  case round =>
   obtain ⟨j, rfl, hj, HT, HB⟩ := hrel
   by_cases hlt : j < l0.length
   ·
    have hlt1 : j < l1.length := by have := HL.out; omega
    have e2 : IntKind.i64.wrap ((j : Int) + 1) = (j : Int) + 1 := by rw [IntKind.wrap_i64]; omega
    have hbd := HB.out
    obtain ⟨ad, B0, d0, e, h0, L0, g0⟩ := at_L1 (Kd.C_below HR.out hbd) (j : Int) (by omega) (by omega)
    obtain ⟨bd, B1, d1, e', h1, L1, g1⟩ := at_L1 (Kd.C_below HS.out hbd) (j : Int) (by omega) (by omega)
    cases e
    cases e'
    simp only [Int.toNat_natCast] at h0 h1
    have HX := Aside0.mk (rd_L1_get l0 j hlt).symm
    have HY := Aside0.mk (rd_L1_get l1 j hlt1).symm
    generalize rd_L1 l0 (j : Int) = x at h0 g0 HX L0
    generalize rd_L1 l1 (j : Int) = y at h1 g1 HY L1
    have HL0 := Aside0.mk L0
    have HL1 := Aside0.mk L1
    clear L0 L1
    have HBD := Aside0.mk hbd
    clear hbd
    cases hq : eqB x y with
    | true =>
     have HQ := Aside0.mk hq
     have hqq : eqB x y = true := hq
     clear hq
     go_wp2_with fail
     refine (bytes_Equal.calls B0 d0 x B1 d1 y true wr g0 HL0.out g1 HL1.out (by rw [← hqq]; rfl)).mono ?_
     rintro e w2 ⟨rfl, hd⟩
     have hb_ := hd.below
     have HB2 := Aside0.mk (below_then HB.out HB.out.size hb_)
     clear hd hb_ hqq g0 g1
     go_wp2_with fail
     go_roundw
     case rel => exact ⟨j + 1, by go_num, by omega, ⟨fun i h1 h2 h3 => by
      rcases Nat.lt_or_ge i j with h | h
      ·
       exact HT.out i h h2 h3
      ·
       obtain rfl : i = j := by omega
       have := HQ.out
       rwa [← HX.out, ← HY.out] at this⟩, HB2⟩
     case measure => simp [intOf]; omega
    | false =>
     have HE := Aside0.mk (eqL_at eqB l0 l1 j hlt (by have := HL.out; omega) (by rw [HX.out, HY.out]; exact hq))
     have hqq : eqB x y = false := hq
     clear hq
     go_wp2_with fail
     refine (bytes_Equal.calls B0 d0 x B1 d1 y false wr g0 HL0.out g1 HL1.out (by rw [← hqq]; rfl)).mono ?_
     rintro e w2 ⟨rfl, hd⟩
     have hb_ := hd.below
     have HB2 := Aside0.mk (below_then HB.out HB.out.size hb_)
     clear hd hb_ hqq g0 g1
     go_wp2_with fail
     go_ret
     have HE2 : eqQ l0 l1 = false := HE.out
     exact ⟨by first | (rw [HE2]; rfl) | rw [HE2], HB2.out⟩
   ·
    obtain rfl : j = l0.length := by omega
    have HE : eqQ l0 l1 = true := (eqL_iff _ _ _).2 ⟨HL.out, fun i h1 h2 => HT.out i h1 h1 h2⟩
    clear HT HL
    go_wp2_with fail
    go_ret
    exact ⟨by first | (rw [HE]; rfl) | rw [HE], HB.out⟩
 ·
  have HE : eqQ l0 l1 = false := eqL_len _ _ _ hlen
  have n1 : ¬ (l0.length : Int) = (l1.length : Int) := by omega
  go_enter Try.func58, Try.ntmps58
  go_wp2_with fail
  go_ret
  exact ⟨by first | (rw [HE]; rfl) | rw [HE], Below.refl _ _⟩
theorem cells2 {W : World} {g : Nat} {t : TypeId} {a b : Value} (h : W.heap[g]? = some (.cells #[a, b] t (0, 0))) : W.cell? ⟨g, 0, none⟩ = some a ∧ W.cell? ⟨g, 1, none⟩ = some b ∧ ∀ j, W.frozen? ⟨g, j, none⟩ = false :=
 ⟨(cell_of_heap h).1, (cell_of_heap h).1, fun _ => (cell_of_heap h).2⟩
set_option maxHeartbeats 1000000 in
theorem s56_ff (x y : S32) (B0 : Option Addr) (d0 : Nat) (B1 : Option Addr) (d1 : Nat) (E0 : Option Addr) (f0 : Nat) (E1 : Option Addr) (f1 : Nat) (w : World) (HL0 : Aside0 (x.f0.length ≤ d0)) (g0 : Kd.C kb w B0 x.f0.length x.f0) (HL1 : Aside0 (x.f1.length ≤ d1)) (g1 : Kd.C kb w B1 x.f1.length x.f1) (HL0' : Aside0 (y.f0.length ≤ f0)) (g0' : Kd.C kb w E0 y.f0.length y.f0) (HL1' : Aside0 (y.f1.length ≤ f1)) (g1' : Kd.C kb w E1 y.f1.length y.f1) (hA : eqB x.f0 y.f0 = false) : Calls Try.prog 56 #[.agg #[.slice B0 x.f0.length d0, .slice B1 x.f1.length d1], .agg #[.slice E0 y.f0.length f0, .slice E1 y.f1.length f1]] w fun e w' => e = .returned (.bool false) ∧ Below w.heap.size w w' := by
 have G0 := Aside0.mk g0
 have G1 := Aside0.mk g1
 have G0' := Aside0.mk g0'
 have G1' := Aside0.mk g1'
 clear g0 g1 g0' g1'
 have HB := Aside0.mk (Below.refl w.heap.size w)
 go_enter Try.func56, Try.ntmps56
 go_wp2_with fail
 obtain ⟨V0, hV0⟩ : ∃ V_, V_ = ((w.alloc (.cells #[.slice B0 x.f0.length d0, .slice B1 x.f1.length d1] 42)).alloc (.cells #[.slice E0 y.f0.length f0, .slice E1 y.f1.length f1] 42)) := ⟨_, rfl⟩
 rw [← hV0]
 have hb_ : Below w.heap.size w V0 := by rw [hV0]; exact (below_alloc (below_alloc (Below.refl _ _) (.cells #[.slice B0 x.f0.length d0, .slice B1 x.f1.length d1] 42)) (.cells #[.slice E0 y.f0.length f0, .slice E1 y.f1.length f1] 42))
 have K0 : Aside0 (V0.heap[w.heap.size]? = some (.cells #[.slice B0 x.f0.length d0, .slice B1 x.f1.length d1] 42 (0, 0))) := Aside0.mk (by have h_ := blk_alloc (heap_alloc_self w (.cells #[.slice B0 x.f0.length d0, .slice B1 x.f1.length d1] 42)) (.cells #[.slice E0 y.f0.length f0, .slice E1 y.f1.length f1] 42); rw [hV0]; simpa using h_)
 have K1 : Aside0 (V0.heap[w.heap.size + 1]? = some (.cells #[.slice E0 y.f0.length f0, .slice E1 y.f1.length f1] 42 (0, 0))) := Aside0.mk (by have h_ := heap_alloc_self (w.alloc (.cells #[.slice B0 x.f0.length d0, .slice B1 x.f1.length d1] 42)) (.cells #[.slice E0 y.f0.length f0, .slice E1 y.f1.length f1] 42); rw [hV0]; simpa using h_)
 have SV0 : Aside0 (V0.heap.size = w.heap.size + 2) := Aside0.mk (by rw [hV0]; simp)
 clear hV0
 replace HB := Aside0.mk (below_then HB.out HB.out.size hb_)
 clear hb_
 obtain ⟨u0, u1, u2⟩ := cells2 K0.out
 have u20 := u2 0
 have u21 := u2 1
 clear u2
 obtain ⟨v0, v1, v2⟩ := cells2 K1.out
 have v20 := v2 0
 have v21 := v2 1
 clear v2
 refine (bytes_Equal.calls B0 d0 x.f0 E0 f0 y.f0 false V0 (Kd.C_below G0.out HB.out) HL0.out (Kd.C_below G0'.out HB.out) HL0'.out (by rw [← hA]; rfl)).mono ?_
 rintro e w2 ⟨rfl, hd⟩
 have hb_ := hd.below
 clear hd
 clear u0 u1 u20 u21
 clear v0 v1 v20 v21
 replace HB := Aside0.mk (below_then HB.out HB.out.size hb_)
 replace K0 := Aside0.mk (blk_keep K0.out hb_)
 replace K1 := Aside0.mk (blk_keep K1.out hb_)
 clear hb_
 obtain ⟨u0, u1, u2⟩ := cells2 K0.out
 have u20 := u2 0
 have u21 := u2 1
 clear u2
 obtain ⟨v0, v1, v2⟩ := cells2 K1.out
 have v20 := v2 0
 have v21 := v2 1
 clear v2
 go_wp2_with fail
 go_ret
 exact ⟨rfl, HB.out⟩
set_option maxHeartbeats 1000000 in
theorem s56_tt (x y : S32) (B0 : Option Addr) (d0 : Nat) (B1 : Option Addr) (d1 : Nat) (E0 : Option Addr) (f0 : Nat) (E1 : Option Addr) (f1 : Nat) (w : World) (HL0 : Aside0 (x.f0.length ≤ d0)) (g0 : Kd.C kb w B0 x.f0.length x.f0) (HL1 : Aside0 (x.f1.length ≤ d1)) (g1 : Kd.C kb w B1 x.f1.length x.f1) (HL0' : Aside0 (y.f0.length ≤ f0)) (g0' : Kd.C kb w E0 y.f0.length y.f0) (HL1' : Aside0 (y.f1.length ≤ f1)) (g1' : Kd.C kb w E1 y.f1.length y.f1) (hA : eqB x.f0 y.f0 = true) (hC : eqB x.f1 y.f1 = true) : Calls Try.prog 56 #[.agg #[.slice B0 x.f0.length d0, .slice B1 x.f1.length d1], .agg #[.slice E0 y.f0.length f0, .slice E1 y.f1.length f1]] w fun e w' => e = .returned (.bool true) ∧ Below w.heap.size w w' := by
 have G0 := Aside0.mk g0
 have G1 := Aside0.mk g1
 have G0' := Aside0.mk g0'
 have G1' := Aside0.mk g1'
 clear g0 g1 g0' g1'
 have HB := Aside0.mk (Below.refl w.heap.size w)
 go_enter Try.func56, Try.ntmps56
 go_wp2_with fail
 obtain ⟨V0, hV0⟩ : ∃ V_, V_ = ((w.alloc (.cells #[.slice B0 x.f0.length d0, .slice B1 x.f1.length d1] 42)).alloc (.cells #[.slice E0 y.f0.length f0, .slice E1 y.f1.length f1] 42)) := ⟨_, rfl⟩
 rw [← hV0]
 have hb_ : Below w.heap.size w V0 := by rw [hV0]; exact (below_alloc (below_alloc (Below.refl _ _) (.cells #[.slice B0 x.f0.length d0, .slice B1 x.f1.length d1] 42)) (.cells #[.slice E0 y.f0.length f0, .slice E1 y.f1.length f1] 42))
 have K0 : Aside0 (V0.heap[w.heap.size]? = some (.cells #[.slice B0 x.f0.length d0, .slice B1 x.f1.length d1] 42 (0, 0))) := Aside0.mk (by have h_ := blk_alloc (heap_alloc_self w (.cells #[.slice B0 x.f0.length d0, .slice B1 x.f1.length d1] 42)) (.cells #[.slice E0 y.f0.length f0, .slice E1 y.f1.length f1] 42); rw [hV0]; simpa using h_)
 have K1 : Aside0 (V0.heap[w.heap.size + 1]? = some (.cells #[.slice E0 y.f0.length f0, .slice E1 y.f1.length f1] 42 (0, 0))) := Aside0.mk (by have h_ := heap_alloc_self (w.alloc (.cells #[.slice B0 x.f0.length d0, .slice B1 x.f1.length d1] 42)) (.cells #[.slice E0 y.f0.length f0, .slice E1 y.f1.length f1] 42); rw [hV0]; simpa using h_)
 have SV0 : Aside0 (V0.heap.size = w.heap.size + 2) := Aside0.mk (by rw [hV0]; simp)
 clear hV0
 replace HB := Aside0.mk (below_then HB.out HB.out.size hb_)
 clear hb_
 obtain ⟨u0, u1, u2⟩ := cells2 K0.out
 have u20 := u2 0
 have u21 := u2 1
 clear u2
 obtain ⟨v0, v1, v2⟩ := cells2 K1.out
 have v20 := v2 0
 have v21 := v2 1
 clear v2
 refine (bytes_Equal.calls B0 d0 x.f0 E0 f0 y.f0 true V0 (Kd.C_below G0.out HB.out) HL0.out (Kd.C_below G0'.out HB.out) HL0'.out (by rw [← hA]; rfl)).mono ?_
 rintro e w2 ⟨rfl, hd⟩
 have hb_ := hd.below
 clear hd
 clear u0 u1 u20 u21
 clear v0 v1 v20 v21
 replace HB := Aside0.mk (below_then HB.out HB.out.size hb_)
 replace K0 := Aside0.mk (blk_keep K0.out hb_)
 replace K1 := Aside0.mk (blk_keep K1.out hb_)
 clear hb_
 obtain ⟨u0, u1, u2⟩ := cells2 K0.out
 have u20 := u2 0
 have u21 := u2 1
 clear u2
 obtain ⟨v0, v1, v2⟩ := cells2 K1.out
 have v20 := v2 0
 have v21 := v2 1
 clear v2
 go_wp2_with fail
 refine (bytes_Equal.calls B1 d1 x.f1 E1 f1 y.f1 true w2 (Kd.C_below G1.out HB.out) HL1.out (Kd.C_below G1'.out HB.out) HL1'.out (by rw [← hC]; rfl)).mono ?_
 rintro e w3 ⟨rfl, hd⟩
 have hb_ := hd.below
 clear hd
 clear u0 u1 u20 u21
 clear v0 v1 v20 v21
 replace HB := Aside0.mk (below_then HB.out HB.out.size hb_)
 replace K0 := Aside0.mk (blk_keep K0.out hb_)
 replace K1 := Aside0.mk (blk_keep K1.out hb_)
 clear hb_
 go_wp2_with fail
 go_ret
 exact ⟨rfl, HB.out⟩
set_option maxHeartbeats 1000000 in
theorem s56_tf (x y : S32) (B0 : Option Addr) (d0 : Nat) (B1 : Option Addr) (d1 : Nat) (E0 : Option Addr) (f0 : Nat) (E1 : Option Addr) (f1 : Nat) (w : World) (HL0 : Aside0 (x.f0.length ≤ d0)) (g0 : Kd.C kb w B0 x.f0.length x.f0) (HL1 : Aside0 (x.f1.length ≤ d1)) (g1 : Kd.C kb w B1 x.f1.length x.f1) (HL0' : Aside0 (y.f0.length ≤ f0)) (g0' : Kd.C kb w E0 y.f0.length y.f0) (HL1' : Aside0 (y.f1.length ≤ f1)) (g1' : Kd.C kb w E1 y.f1.length y.f1) (hA : eqB x.f0 y.f0 = true) (hC : eqB x.f1 y.f1 = false) : Calls Try.prog 56 #[.agg #[.slice B0 x.f0.length d0, .slice B1 x.f1.length d1], .agg #[.slice E0 y.f0.length f0, .slice E1 y.f1.length f1]] w fun e w' => e = .returned (.bool false) ∧ Below w.heap.size w w' := by
 have G0 := Aside0.mk g0
 have G1 := Aside0.mk g1
 have G0' := Aside0.mk g0'
 have G1' := Aside0.mk g1'
 clear g0 g1 g0' g1'
 have HB := Aside0.mk (Below.refl w.heap.size w)
 go_enter Try.func56, Try.ntmps56
 go_wp2_with fail
 obtain ⟨V0, hV0⟩ : ∃ V_, V_ = ((w.alloc (.cells #[.slice B0 x.f0.length d0, .slice B1 x.f1.length d1] 42)).alloc (.cells #[.slice E0 y.f0.length f0, .slice E1 y.f1.length f1] 42)) := ⟨_, rfl⟩
 rw [← hV0]
 have hb_ : Below w.heap.size w V0 := by rw [hV0]; exact (below_alloc (below_alloc (Below.refl _ _) (.cells #[.slice B0 x.f0.length d0, .slice B1 x.f1.length d1] 42)) (.cells #[.slice E0 y.f0.length f0, .slice E1 y.f1.length f1] 42))
 have K0 : Aside0 (V0.heap[w.heap.size]? = some (.cells #[.slice B0 x.f0.length d0, .slice B1 x.f1.length d1] 42 (0, 0))) := Aside0.mk (by have h_ := blk_alloc (heap_alloc_self w (.cells #[.slice B0 x.f0.length d0, .slice B1 x.f1.length d1] 42)) (.cells #[.slice E0 y.f0.length f0, .slice E1 y.f1.length f1] 42); rw [hV0]; simpa using h_)
 have K1 : Aside0 (V0.heap[w.heap.size + 1]? = some (.cells #[.slice E0 y.f0.length f0, .slice E1 y.f1.length f1] 42 (0, 0))) := Aside0.mk (by have h_ := heap_alloc_self (w.alloc (.cells #[.slice B0 x.f0.length d0, .slice B1 x.f1.length d1] 42)) (.cells #[.slice E0 y.f0.length f0, .slice E1 y.f1.length f1] 42); rw [hV0]; simpa using h_)
 have SV0 : Aside0 (V0.heap.size = w.heap.size + 2) := Aside0.mk (by rw [hV0]; simp)
 clear hV0
 replace HB := Aside0.mk (below_then HB.out HB.out.size hb_)
 clear hb_
 obtain ⟨u0, u1, u2⟩ := cells2 K0.out
 have u20 := u2 0
 have u21 := u2 1
 clear u2
 obtain ⟨v0, v1, v2⟩ := cells2 K1.out
 have v20 := v2 0
 have v21 := v2 1
 clear v2
 refine (bytes_Equal.calls B0 d0 x.f0 E0 f0 y.f0 true V0 (Kd.C_below G0.out HB.out) HL0.out (Kd.C_below G0'.out HB.out) HL0'.out (by rw [← hA]; rfl)).mono ?_
 rintro e w2 ⟨rfl, hd⟩
 have hb_ := hd.below
 clear hd
 clear u0 u1 u20 u21
 clear v0 v1 v20 v21
 replace HB := Aside0.mk (below_then HB.out HB.out.size hb_)
 replace K0 := Aside0.mk (blk_keep K0.out hb_)
 replace K1 := Aside0.mk (blk_keep K1.out hb_)
 clear hb_
 obtain ⟨u0, u1, u2⟩ := cells2 K0.out
 have u20 := u2 0
 have u21 := u2 1
 clear u2
 obtain ⟨v0, v1, v2⟩ := cells2 K1.out
 have v20 := v2 0
 have v21 := v2 1
 clear v2
 go_wp2_with fail
 refine (bytes_Equal.calls B1 d1 x.f1 E1 f1 y.f1 false w2 (Kd.C_below G1.out HB.out) HL1.out (Kd.C_below G1'.out HB.out) HL1'.out (by rw [← hC]; rfl)).mono ?_
 rintro e w3 ⟨rfl, hd⟩
 have hb_ := hd.below
 clear hd
 clear u0 u1 u20 u21
 clear v0 v1 v20 v21
 replace HB := Aside0.mk (below_then HB.out HB.out.size hb_)
 replace K0 := Aside0.mk (blk_keep K0.out hb_)
 replace K1 := Aside0.mk (blk_keep K1.out hb_)
 clear hb_
 go_wp2_with fail
 go_ret
 exact ⟨rfl, HB.out⟩
theorem same56 (x y : S32) (B0 : Option Addr) (d0 : Nat) (B1 : Option Addr) (d1 : Nat) (E0 : Option Addr) (f0 : Nat) (E1 : Option Addr) (f1 : Nat) (w : World) (HL0 : Aside0 (x.f0.length ≤ d0)) (g0 : Kd.C kb w B0 x.f0.length x.f0) (HL1 : Aside0 (x.f1.length ≤ d1)) (g1 : Kd.C kb w B1 x.f1.length x.f1) (HL0' : Aside0 (y.f0.length ≤ f0)) (g0' : Kd.C kb w E0 y.f0.length y.f0) (HL1' : Aside0 (y.f1.length ≤ f1)) (g1' : Kd.C kb w E1 y.f1.length y.f1) : Calls Try.prog 56 #[.agg #[.slice B0 x.f0.length d0, .slice B1 x.f1.length d1], .agg #[.slice E0 y.f0.length f0, .slice E1 y.f1.length f1]] w fun e w' => e = .returned (.bool (eqP x y)) ∧ Below w.heap.size w w' := by
 unfold eqP
 cases hA : eqB x.f0 y.f0 with
 | false => exact s56_ff x y B0 d0 B1 d1 E0 f0 E1 f1 w HL0 g0 HL1 g1 HL0' g0' HL1' g1' hA
 | true =>
  cases hC : eqB x.f1 y.f1 with
  | false => exact s56_tf x y B0 d0 B1 d1 E0 f0 E1 f1 w HL0 g0 HL1 g1 HL0' g0' HL1' g1' hA hC
  | true => exact s56_tt x y B0 d0 B1 d1 E0 f0 E1 f1 w HL0 g0 HL1 g1 HL0' g0' HL1' g1' hA hC
end Go.Proofs.Ythfplgfpodmphaa.Ob
