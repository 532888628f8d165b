/- MapsForms: a map holds as many keys as may be, and no more: for all whole numbers, with no condition. -/
import Derived.Lib.SliceRun
import Derived.Outline
import Derived.Test.YtiodnbeifgnhcaaRows
import Derived.WalkKit
import Derived.ProofKit
import Derived.OpenShut
import Derived.ShutString
import Derived.ChangeOld
import Derived.Below
import Derived.SizedLaws
import Derived.Test.YtiodnbeifgnhcaaMaw
import Derived.Test.YtiodnbeifgnhcaaMq
namespace Go.Proofs.Ytiodnbeifgnhcaa.Ms
open Go.RowKit Go.Proofs.YtiodnbeifgnhcaaW.PrintWords Go.Proofs.YtiodnbeifgnhcaaW.PrintLast Go.Proofs.YtiodnbeifgnhcaaW.PrintMore
attribute [local go_sem] max2_int min2_int max_two min_two max_three min_three max_four min_four
set_option linter.unusedVariables false
set_option linter.unusedSimpArgs false

def fm (m : Nat) : List S32 := (List.range m).map fun (i : Nat) => ⟨[97 + (i : Int)], [(i : Int)]⟩
theorem fm_len (m : Nat) : (fm m).length = m := by simp [fm]
def e32 (x y : S32) : Bool := x.f0 == y.f0 && x.f1 == y.f1
def eL32 : List S32 → List S32 → Bool
  | [], [] => true
  | x :: l, y :: m => e32 x y && eL32 l m
  | _, _ => false
theorem eL32_eq : ∀ {l m : List S32}, eL32 l m = true → l = m
  | [], [], _ => rfl
  | ⟨a, b⟩ :: l, ⟨c, d⟩ :: m, h => by
    simp only [eL32, e32, Bool.and_eq_true, beq_iff_eq] at h
    obtain ⟨⟨rfl, rfl⟩, h⟩ := h
    rw [eL32_eq h]
  | [], _ :: _, h => by cases h
  | _ :: _, [], h => by cases h
def e26 (x y : S26) : Bool := x.f0 == y.f0 && x.f1 == y.f1 && x.f2 == y.f2
theorem e26_eq {x y : S26} (h : e26 x y = true) : x = y := by
  obtain ⟨a, b, c⟩ := x
  obtain ⟨a', b', c'⟩ := y
  simp only [e26, Bool.and_eq_true, beq_iff_eq] at h
  obtain ⟨⟨rfl, rfl⟩, rfl⟩ := h
  rfl
def eP (x : List S32 × S26) (l : List S32) (r : S26) : Bool := eL32 x.1 l && e26 x.2 r
theorem eP_eq {x : List S32 × S26} {l : List S32} {r : S26} (h : eP x l r = true) : x = (l, r) := by
  simp only [eP, Bool.and_eq_true] at h
  exact Prod.ext (eL32_eq h.1) (e26_eq h.2)
theorem forms_new : ∀ i : Nat, i < 8 → eP (putR (fm i) [97 + (i : Int)] [(i : Int)]) (fm (i + 1)) ⟨0, [], (i : Int) + 1⟩ = true := by decide +kernel
theorem forms_full : ∀ i : Nat, i < 16 → 8 ≤ i → eP (putR (fm 8) [97 + (i : Int)] [(i : Int)]) (fm 8) ⟨3, [], 0⟩ = true := by decide +kernel
def zs (k : Nat) : List Int := List.replicate k 0
theorem zs_len (k : Nat) : (zs k).length = k := List.length_replicate
theorem forms_zero : ∀ m : Nat, m < 9 → ∀ k : Nat, k < 16 → (findR (fm m) (zs k) == (0, false)) = true := by decide +kernel
theorem forms_a : ∀ m : Nat, m < 9 → 0 < m → eP (putR (fm m) [97] [110, 101, 119]) ((fm m).set 0 ⟨[97], [110, 101, 119]⟩) ⟨0, [0], (m : Int)⟩ = true ∧ e26 (getR ((fm m).set 0 ⟨[97], [110, 101, 119]⟩) [97]) ⟨0, [110, 101, 119], 0⟩ = true := by decide +kernel
theorem forms_zz : ∀ m : Nat, m < 9 → e26 (getR (fm m) [122, 122]) ⟨5, [], 0⟩ = true := by decide +kernel
theorem fm_v (m : Nat) : ∀ x ∈ fm m, x.f0.length < 140737488355328 ∧ x.f1.length < 140737488355328 := fun x hx => by
  simp only [fm, List.mem_map] at hx
  obtain ⟨i, _, rfl⟩ := hx
  exact ⟨by show 1 < _; decide, by show 1 < _; decide⟩
theorem made_C {w : World} {g Kn : Nat} (h : w.heap[g]? = some (.cells (madeCells #[.int .u8 0] Kn) 5 (0, 0))) (hm : Kn ≤ 1000) : Kd.C (Kd.int .u8) w (some ⟨g, 0, none⟩) (zs Kn).length (zs Kn) := by
  refine lit_u8 (fr := (0, 0)) (zs Kn) ?_ (by simp only [zs, List.length_replicate]; omega) rfl
  rw [h]
  congr 2
  apply Array.ext
  · simp [zs, madeCells]
  · intro i h1 h2
    simp [zs, madeCells, Nat.mod_one]
theorem get_n {A B : Option Addr} {c n a m : Nat} {l : List S32} {k : List Int} {r : S26} {w : World} (hr : Kd.C k32 w A l.length l) (hc : l.length ≤ c) (hk : Kd.C (Kd.int .u8) w B k.length k) (hv : ∀ x ∈ l, x.f1.length < 140737488355328) (h : getR l k = r) (e1 : l.length = n) (e2 : k.length = a) (e3 : r.f1.length = m) :
    Calls Try.prog 8 #[.slice A n c, .slice B a a] w fun e w' => ∃ Av cv, e = .returned (.agg #[.int .i64 r.f0, .slice Av m cv, .int .i64 r.f2]) ∧ Kd.C (Kd.int .u8) w' Av m r.f1 ∧ Below w.heap.size w w' := by
  subst e1 e2 e3
  exact get_at A B c l k r w hr hc hk hv h
theorem getR_head (l : List S32) (k v : List Int) : getR (⟨k, v⟩ :: l) k = ⟨0, v, 0⟩ := by
  have h : findR (⟨k, v⟩ :: l) k = (0, true) := find_t _ _ 0 (by simp) (fun i hi => absurd hi (by omega)) (by simp [sameB, rd_T32])
  simp [getR, h, rd_T32]
theorem fm_v' (M Kn V : Nat) (hK : Kn ≤ 15) (hV : V ≤ 31) : ∀ x ∈ (⟨zs Kn, zs V⟩ : S32) :: fm M, x.f1.length < 140737488355328 := fun x hx => by
  rw [List.mem_cons] at hx
  rcases hx with rfl | hx
  · show (zs V).length < _
    rw [zs, List.length_replicate]; omega
  · exact (fm_v M x hx).2
theorem fm_w (M : Nat) : ∀ x ∈ (fm M).set 0 (⟨[97], [110, 101, 119]⟩ : S32), x.f1.length < 140737488355328 := fun x hx => by
  rcases List.mem_or_eq_of_mem_set hx with h | rfl
  · exact (fm_v M x h).2
  · exact (show 3 < 140737488355328 by decide)
def FI (w : World) (m : Nat) (A : Option Addr) (c : Nat) (w' : World) : Prop := (fm m).length ≤ c ∧ Kd.C k32 w' A (fm m).length (fm m) ∧ Below w.heap.size w w'
theorem put_n {A B D : Option Addr} {c n a b : Nat} {l l' : List S32} {k v : List Int} {r : S26} {w : World} (hr : Kd.C k32 w A l.length l) (hc : l.length ≤ c) (hk : Kd.C (Kd.int .u8) w B k.length k) (hvr : Kd.C (Kd.int .u8) w D v.length v) (hv : ∀ x ∈ l, x.f0.length < 140737488355328 ∧ x.f1.length < 140737488355328) (hn : l.length < 1000000) (hkk : k.length < 1000) (hvv : v.length < 1000) (h : putR l k v = (l', r)) (e1 : l.length = n) (e2 : k.length = a) (e3 : v.length = b) :
    Calls Try.prog 6 #[.slice A n c, .slice B a a, .slice D b b] w (PutAt w l' r) := by
  subst e1 e2 e3
  exact put_at A B D c l l' k v r w hr hc hk hvr hn hv hkk hvv h
set_option maxHeartbeats 100000000 in
set_option maxRecDepth 100000 in
theorem forms_n (n k v : Int) (N Kn V : Nat) (w : World) (hn : Go.bits .and .i64 n 15 = N) (hk : Go.bits .and .i64 k 15 = Kn) (hv : Go.bits .and .i64 v 31 = V) (hN : N ≤ 15) (hK : Kn ≤ 15) (hV : V ≤ 31) :
    Calls Try.prog 3 #[.int .i64 n, .int .i64 k, .int .i64 v] w fun e w' => e = .returned (.bool true) ∧ Below w.heap.size w w' := by
  go_enter Try.func3, Try.ntmps3
  go_wp2_with fail
  go_loopw [7, 8] (fun v5 v6 w' => ∃ (i M : Nat) (A : Option Addr) (c : Nat), v6 = .int .i64 i ∧ v5 = .slice A M c ∧ M = min i 8 ∧ i ≤ N ∧ Aside0 (FI w M A c w')) (fun _ v6 _ => N - (intOf v6).toNat)
  case atStart => exact ⟨0, 0, none, 0, rfl, rfl, rfl, Nat.zero_le _, ⟨⟨Nat.zero_le _, ⟨rfl, by decide, fun h => absurd h (by decide)⟩, Below.refl _ _⟩⟩⟩
  case round =>
    obtain ⟨i, M, A, c, rfl, rfl, hM, hi, HI⟩ := hrel
    have e1 : IntKind.i64.wrap (97 + (i : Int)) = 97 + (i : Int) := by rw [IntKind.wrap_i64]; omega
    by_cases hlt : i < N
    · have e2 : IntKind.u8.wrap (97 + (i : Int)) = 97 + (i : Int) := by rw [IntKind.wrap_u8]; omega
      have e3 : IntKind.u8.wrap (i : Int) = (i : Int) := by rw [IntKind.wrap_u8]; omega
      have key : ∃ M' r, putR (fm M) [97 + (i : Int)] [(i : Int)] = (fm M', r) ∧ r.f1 = [] ∧ M' = min (i + 1) 8 ∧ ((i < 8 ∧ r.f0 = 0) ∨ (8 ≤ i ∧ r.f0 = 3)) := by
        by_cases h8 : i < 8
        · obtain rfl : M = i := by omega
          exact ⟨M + 1, _, eP_eq (forms_new M h8), rfl, by omega, .inl ⟨h8, rfl⟩⟩
        · obtain rfl : M = 8 := by omega
          exact ⟨8, _, eP_eq (forms_full i (by omega) (by omega)), rfl, by omega, .inr ⟨by omega, rfl⟩⟩
      obtain ⟨M', ⟨r0, r1, r2⟩, hp, hr1, hM', hr⟩ := key
      cases hr1
      have HP := Aside0.mk hp
      have HM := Aside0.mk hM
      have HM' := Aside0.mk hM'
      have HR := Aside0.mk hr
      clear hp hM hM' hr
      go_wp2_with fail
      obtain ⟨V1, hV1⟩ : ∃ V_, V_ = (wr.alloc (.cells #[.int .u8 (97 + (i : Int))] 5)).alloc (.cells #[.int .u8 (i : Int)] 5) := ⟨_, rfl⟩
      rw [← hV1]
      have hb_ : Below wr.heap.size wr V1 := by rw [hV1]; exact below_alloc (below_alloc (Below.refl _ _) _) _
      have L1 : V1.heap[wr.heap.size]? = some (.cells #[.int .u8 (97 + (i : Int))] 5 (0, 0)) := by rw [hV1]; exact blk_alloc (heap_alloc_self _ _) _
      have L2 : V1.heap[wr.heap.size + 1]? = some (.cells #[.int .u8 (i : Int)] 5 (0, 0)) := by rw [hV1]; have h_ := heap_alloc_self (wr.alloc (.cells #[.int .u8 (97 + (i : Int))] 5)) (.cells #[.int .u8 (i : Int)] 5); simpa using h_
      refine (put_n (Kd.C_below HI.out.2.1 hb_) HI.out.1 (lit_u8 [97 + (i : Int)] L1 (show 1 ≤ _ by decide) rfl) (lit_u8 [(i : Int)] L2 (show 1 ≤ _ by decide) rfl) (fm_v M) (by rw [fm_len]; have := HM.out; omega) (show 1 < 1000 by decide) (show 1 < 1000 by decide) HP.out (fm_len M) rfl rfl).mono ?_
      rintro e w1 ⟨A1, c1, Av, cv, rfl, hc1, hC1, hV, hb1⟩
      have HX := Aside0.mk (show FI w M' A1 c1 (w1.alloc (.cells #[.int .i64 r0, .slice Av 0 cv, .int .i64 r2] 26)) from ⟨hc1, Kd.C_alloc hC1 _, below_alloc (below_then (below_then HI.out.2.2 HI.out.2.2.size hb_) (by have := hb_.size; have := HI.out.2.2.size; omega) hb1) _⟩)
      rw [fm_len]
      clear hb_ L1 L2 hV1 hc1 hC1 hV hb1
      rcases HR.out with ⟨h8, h0⟩ | ⟨h8, h0⟩
      · have h0 : r0 = 0 := h0
        subst h0
        have h80 : decide ((i : Int) < 8) = true := decide_eq_true (by omega)
        clear HR h8
        go_wp2_with fail
        go_roundw
        case rel => exact ⟨i + 1, M', A1, c1, by go_num, rfl, HM'.out, by omega, HX⟩
        case measure => simp [intOf]; omega
      · have h0 : r0 = 3 := h0
        subst h0
        have h80 : decide ((i : Int) < 8) = false := decide_eq_false (by omega)
        clear HR h8
        go_wp2_with fail
        go_roundw
        case rel => exact ⟨i + 1, M', A1, c1, by go_num, rfl, HM'.out, by omega, HX⟩
        case measure => simp [intOf]; omega
    · obtain rfl : i = N := by omega
      have HM := Aside0.mk hM
      clear hM
      have mK := fun w => run_make_row' (P := Try.prog) 24 5 (.int .u8 0) 1 Try.underlying24 info5 rfl .i64 .i64 Kn (by omega) (by omega) w
      have mV := fun w => run_make_row' (P := Try.prog) 24 5 (.int .u8 0) 1 Try.underlying24 info5 rfl .i64 .i64 V (by omega) (by omega) w
      go_wp2_with fail
      go_region
      · skip
        by_cases q1 : 8 < Kn
        · by_cases q3 : 8 ≤ i
          · skip
            have kK : 8 < Kn := by assumption
            have kN : 8 ≤ i := by assumption
            obtain rfl : M = 8 := by have := HM.out; omega
            have d1 : decide ((8 : Int) < (Kn : Int)) = true := decide_eq_true (by omega)
            have d3 : decide ((8 : Int) ≤ (i : Int)) = true := decide_eq_true (by omega)
            have d4 : decide ((0 : Int) < (i : Int)) = true := decide_eq_true (by omega)
            obtain ⟨W1, hW1⟩ : ∃ V_, V_ = ((wr.alloc (.cells (madeCells #[.int .u8 0] Kn) 5)).alloc (.cells (madeCells #[.int .u8 0] V) 5)).drew := ⟨_, rfl⟩
            have hb_ : Below wr.heap.size wr W1 := by rw [hW1]; exact below_drew1 (below_alloc (below_alloc (Below.refl _ _) _) _)
            have LK : W1.heap[wr.heap.size]? = some (.cells (madeCells #[.int .u8 0] Kn) 5 (0, 0)) := by rw [hW1]; show ((wr.alloc (.cells (madeCells #[.int .u8 0] Kn) 5)).alloc (.cells (madeCells #[.int .u8 0] V) 5)).heap[_]? = _; have h_ := blk_alloc (heap_alloc_self wr (.cells (madeCells #[.int .u8 0] Kn) 5)) (.cells (madeCells #[.int .u8 0] V) 5); simpa using h_
            have LV : W1.heap[wr.heap.size + 1]? = some (.cells (madeCells #[.int .u8 0] V) 5 (0, 0)) := by rw [hW1]; show ((wr.alloc (.cells (madeCells #[.int .u8 0] Kn) 5)).alloc (.cells (madeCells #[.int .u8 0] V) 5)).heap[_]? = _; have h_ := heap_alloc_self (wr.alloc (.cells (madeCells #[.int .u8 0] Kn) 5)) (.cells (madeCells #[.int .u8 0] V) 5); simpa using h_
            have CK := Aside0.mk (made_C LK (by omega))
            have CV := Aside0.mk (made_C LV (by omega))
            have HS := Aside0.mk (Kd.C_below HI.out.2.1 hb_)
            have HB := Aside0.mk (below_then HI.out.2.2 HI.out.2.2.size hb_)
            have Hc := Aside0.mk HI.out.1
            clear LK LV hb_ HI mK mV
            go_wp2_with fail
            rw [← hW1]
            clear hW1
            refine (put_n (l' := fm 8) (r := ⟨1, [], 0⟩) HS.out Hc.out CK.out CV.out (fm_v 8) (by rw [fm_len]; have := HM.out; omega) (by simp only [zs, List.length_replicate]; omega) (by simp only [zs, List.length_replicate]; omega) (by rw [putR, if_pos (by simp only [zs, List.length_replicate]; omega)]) (fm_len 8) List.length_replicate List.length_replicate).mono ?_
            rintro e w1 ⟨A1, c1, Av, cv, rfl, hc1, hC1, hV1, hb_⟩
            have hb_ := below_alloc hb_ (.cells #[.int .i64 1, .slice Av 0 cv, .int .i64 0] 26)
            replace CK := Aside0.mk (Kd.C_below CK.out hb_)
            replace CV := Aside0.mk (Kd.C_below CV.out hb_)
            replace HS := Aside0.mk (Kd.C_below HS.out hb_)
            replace HB := Aside0.mk (below_then HB.out HB.out.size hb_)
            have H1 := Aside0.mk (Kd.C_alloc hC1 (.cells #[.int .i64 1, .slice Av 0 cv, .int .i64 0] 26))
            have BR := Aside0.mk (heap_alloc_self w1 (.cells #[.int .i64 1, .slice Av 0 cv, .int .i64 0] 26))
            have Hc1 := Aside0.mk hc1
            clear hb_ hc1 hC1 hV1
            rw [fm_len]
            go_wp2_with fail
            generalize w1.alloc (.cells #[.int .i64 1, .slice Av 0 cv, .int .i64 0] 26) = V2 at CK CV HS HB H1 BR ⊢
            refine (same7 A A1 c c1 8 (fm 8) V2 (fm_len 8) HS.out H1.out).mono ?_
            rintro e w2 ⟨rfl, hb_⟩
            clear H1 BR CK CV
            replace HS := Aside0.mk (Kd.C_below HS.out hb_)
            replace HB := Aside0.mk (below_then HB.out HB.out.size hb_)
            clear hb_
            go_wp2_with fail
            go_region
            replace HS := Aside0.mk (Kd.C_below HS.out (below_drew1 (Below.refl w2.heap.size w2)))
            replace HB := Aside0.mk (below_then HB.out HB.out.size (below_drew1 (Below.refl w2.heap.size w2)))
            generalize w2.drew = w2d at HS HB ⊢
            have kc := conv_same
            go_wp2_with fail
            obtain ⟨V3, hV3⟩ : ∃ V_, V_ = ((w2d.alloc (.cells #[.int .u8 97] 5 (1, 2))).alloc (.cells #[.int .u8 110, .int .u8 101, .int .u8 119] 5 (3, 4))) := ⟨_, rfl⟩
            rw [← hV3]
            have hb_ : Below w2d.heap.size w2d V3 := by rw [hV3]; exact (below_alloc (below_alloc (Below.refl _ _) (.cells #[.int .u8 97] 5 (1, 2))) (.cells #[.int .u8 110, .int .u8 101, .int .u8 119] 5 (3, 4)))
            replace HS := Aside0.mk (Kd.C_below HS.out hb_)
            replace HB := Aside0.mk (below_then HB.out HB.out.size hb_)
            have LA : Aside0 (V3.heap[w2d.heap.size]? = some (.cells #[.int .u8 97] 5 (1, 2))) := Aside0.mk (by rw [hV3]; have h_ := blk_alloc (heap_alloc_self w2d (.cells #[.int .u8 97] 5 (1, 2))) (.cells #[.int .u8 110, .int .u8 101, .int .u8 119] 5 (3, 4)); simpa using h_)
            have LW : Aside0 (V3.heap[w2d.heap.size + 1]? = some (.cells #[.int .u8 110, .int .u8 101, .int .u8 119] 5 (3, 4))) := Aside0.mk (by rw [hV3]; have h_ := heap_alloc_self (w2d.alloc (.cells #[.int .u8 97] 5 (1, 2))) (.cells #[.int .u8 110, .int .u8 101, .int .u8 119] 5 (3, 4)); simpa using h_)
            clear hV3 hb_
            have HFA := Aside0.mk (forms_a 8 (by have := HM.out; omega) (by have := HM.out; omega))
            refine (put_n (l' := (fm 8).set 0 ⟨[97], [110, 101, 119]⟩) (r := ⟨0, [0], 8⟩) HS.out Hc.out (lit_u8 [97] LA.out (by decide) rfl) (lit_u8 [110, 101, 119] LW.out (by decide) rfl) (fm_v 8) (by rw [fm_len]; have := HM.out; omega) (by decide) (by decide) (eP_eq HFA.out.1) (fm_len 8) rfl rfl).mono ?_
            rintro e w3 ⟨A2, c2, Av2, cv2, rfl, hc2, hC2, hV2, hb_⟩
            clear LA LW
            replace HS := Aside0.mk (Kd.C_below HS.out hb_)
            replace HB := Aside0.mk (below_then HB.out HB.out.size hb_)
            rw [show ((fm 8).set 0 (⟨[97], [110, 101, 119]⟩ : S32)).length = 8 from by rw [List.length_set, fm_len]]
            simp only [List.length_cons, List.length_nil, Nat.zero_add, Nat.reduceAdd]
            have H2 := Aside0.mk (hC2)
            have CV2 := Aside0.mk (hV2)
            have Hc2 := Aside0.mk hc2
            have q1 := Kd.C_string (P := Try.prog) (A := Av2) (c := cv2) Try.underlying24 Try.underlying5 Try.underlying9 (Kd.C_alloc CV2.out (.cells #[.int .i64 0, .slice Av2 1 cv2, .int .i64 8] 26))
            simp only [List.length_cons, List.length_nil, Nat.zero_add, Nat.reduceAdd] at q1
            have j1 : strOfNums [0] = ⟨#[0]⟩ := rfl
            have j2 : strOfNums [110, 101, 119] = ⟨#[110, 101, 119]⟩ := rfl
            have hf1 := field1
            have e8 : (if (8 : Int) < (i : Int) then (8 : Int) else (i : Int)) = 8 := by have := HM.out; split <;> omega
            clear hc2 hC2 hV2 hb_
            go_wp2_with fail
            clear q1 e8
            obtain ⟨V4, hV4⟩ : ∃ V_, V_ = ((w3.alloc (.cells #[.int .i64 0, .slice Av2 1 cv2, .int .i64 8] 26)).alloc (.cells #[.int .u8 97] 5 (1, 2))) := ⟨_, rfl⟩
            rw [← hV4]
            have hb_ : Below w3.heap.size w3 V4 := by rw [hV4]; exact (below_alloc (below_alloc (Below.refl _ _) (.cells #[.int .i64 0, .slice Av2 1 cv2, .int .i64 8] 26)) (.cells #[.int .u8 97] 5 (1, 2)))
            replace HS := Aside0.mk (Kd.C_below HS.out hb_)
            replace HB := Aside0.mk (below_then HB.out HB.out.size hb_)
            replace H2 := Aside0.mk (Kd.C_below H2.out hb_)
            replace CV2 := Aside0.mk (Kd.C_below CV2.out hb_)
            have BQ : Aside0 (V4.heap[w3.heap.size]? = some (.cells #[.int .i64 0, .slice Av2 1 cv2, .int .i64 8] 26 (0, 0))) := Aside0.mk (by rw [hV4]; have h_ := blk_alloc (heap_alloc_self w3 (.cells #[.int .i64 0, .slice Av2 1 cv2, .int .i64 8] 26)) (.cells #[.int .u8 97] 5 (1, 2)); simpa using h_)
            have LB : Aside0 (V4.heap[w3.heap.size + 1]? = some (.cells #[.int .u8 97] 5 (1, 2))) := Aside0.mk (by rw [hV4]; have h_ := heap_alloc_self (w3.alloc (.cells #[.int .i64 0, .slice Av2 1 cv2, .int .i64 8] 26)) (.cells #[.int .u8 97] 5 (1, 2)); simpa using h_)
            clear hV4 hb_
            refine (get_n (l := (fm 8).set 0 ⟨[97], [110, 101, 119]⟩) (r := ⟨0, [110, 101, 119], 0⟩) (m := 3) H2.out Hc2.out (lit_u8 [97] LB.out (by decide) rfl) (fm_w 8) (e26_eq HFA.out.2) (by rw [List.length_set, fm_len]) rfl rfl).mono ?_
            rintro e w4 ⟨Av3, cv3, rfl, hV3, hb_⟩
            clear BQ LB H2 CV2
            replace HS := Aside0.mk (Kd.C_below HS.out hb_)
            replace HB := Aside0.mk (below_then HB.out HB.out.size hb_)
            have q1 := Kd.C_string (P := Try.prog) (A := Av3) (c := cv3) Try.underlying24 Try.underlying5 Try.underlying9 hV3
            clear hb_ hV3
            go_wp2_with fail
            clear q1
            obtain ⟨V5, hV5⟩ : ∃ V_, V_ = (w4.alloc (.cells #[.int .u8 122, .int .u8 122] 5 (2, 3))) := ⟨_, rfl⟩
            rw [← hV5]
            have hb_ : Below w4.heap.size w4 V5 := by rw [hV5]; exact (below_alloc (Below.refl _ _) (.cells #[.int .u8 122, .int .u8 122] 5 (2, 3)))
            replace HS := Aside0.mk (Kd.C_below HS.out hb_)
            replace HB := Aside0.mk (below_then HB.out HB.out.size hb_)
            have LZ : Aside0 (V5.heap[w4.heap.size]? = some (.cells #[.int .u8 122, .int .u8 122] 5 (2, 3))) := Aside0.mk (by rw [hV5]; have h_ := heap_alloc_self w4 (.cells #[.int .u8 122, .int .u8 122] 5 (2, 3)); simpa using h_)
            clear hV5 hb_
            refine (get_n (l := fm 8) (r := ⟨5, [], 0⟩) (m := 0) HS.out Hc.out (lit_u8 [122, 122] LZ.out (by decide) rfl) (fun x hx => (fm_v 8 x hx).2) (e26_eq (forms_zz 8 (by have := HM.out; omega))) (fm_len 8) rfl rfl).mono ?_
            rintro e w5 ⟨Av5, cv5, rfl, hV5, hb_⟩
            clear LZ HS
            replace HB := Aside0.mk (below_then HB.out HB.out.size hb_)
            clear hb_ hV5
            have hf0 := field0
            go_wp2_with fail
            refine (awake9 w5).mono ?_
            rintro e w6 ⟨rfl, hb_⟩
            replace HB := Aside0.mk (below_then HB.out HB.out.size hb_)
            clear hb_
            go_wp2_with fail
            go_ret
            exact ⟨rfl, HB.out⟩
          · rcases Nat.eq_zero_or_pos i with q4 | q4
            · skip
              have kK : 8 < Kn := by assumption
              obtain rfl : i = 0 := by assumption
              obtain rfl : M = 0 := by have := HM.out; omega
              have d1 : decide ((8 : Int) < (Kn : Int)) = true := decide_eq_true (by omega)
              obtain ⟨W1, hW1⟩ : ∃ V_, V_ = ((wr.alloc (.cells (madeCells #[.int .u8 0] Kn) 5)).alloc (.cells (madeCells #[.int .u8 0] V) 5)).drew := ⟨_, rfl⟩
              have hb_ : Below wr.heap.size wr W1 := by rw [hW1]; exact below_drew1 (below_alloc (below_alloc (Below.refl _ _) _) _)
              have LK : W1.heap[wr.heap.size]? = some (.cells (madeCells #[.int .u8 0] Kn) 5 (0, 0)) := by rw [hW1]; show ((wr.alloc (.cells (madeCells #[.int .u8 0] Kn) 5)).alloc (.cells (madeCells #[.int .u8 0] V) 5)).heap[_]? = _; have h_ := blk_alloc (heap_alloc_self wr (.cells (madeCells #[.int .u8 0] Kn) 5)) (.cells (madeCells #[.int .u8 0] V) 5); simpa using h_
              have LV : W1.heap[wr.heap.size + 1]? = some (.cells (madeCells #[.int .u8 0] V) 5 (0, 0)) := by rw [hW1]; show ((wr.alloc (.cells (madeCells #[.int .u8 0] Kn) 5)).alloc (.cells (madeCells #[.int .u8 0] V) 5)).heap[_]? = _; have h_ := heap_alloc_self (wr.alloc (.cells (madeCells #[.int .u8 0] Kn) 5)) (.cells (madeCells #[.int .u8 0] V) 5); simpa using h_
              have CK := Aside0.mk (made_C LK (by omega))
              have CV := Aside0.mk (made_C LV (by omega))
              have HS := Aside0.mk (Kd.C_below HI.out.2.1 hb_)
              have HB := Aside0.mk (below_then HI.out.2.2 HI.out.2.2.size hb_)
              have Hc := Aside0.mk HI.out.1
              clear LK LV hb_ HI mK mV
              go_wp2_with fail
              rw [← hW1]
              clear hW1
              refine (put_n (l' := fm 0) (r := ⟨1, [], 0⟩) HS.out Hc.out CK.out CV.out (fm_v 0) (by rw [fm_len]; have := HM.out; omega) (by simp only [zs, List.length_replicate]; omega) (by simp only [zs, List.length_replicate]; omega) (by rw [putR, if_pos (by simp only [zs, List.length_replicate]; omega)]) (fm_len 0) List.length_replicate List.length_replicate).mono ?_
              rintro e w1 ⟨A1, c1, Av, cv, rfl, hc1, hC1, hV1, hb_⟩
              have hb_ := below_alloc hb_ (.cells #[.int .i64 1, .slice Av 0 cv, .int .i64 0] 26)
              replace CK := Aside0.mk (Kd.C_below CK.out hb_)
              replace CV := Aside0.mk (Kd.C_below CV.out hb_)
              replace HS := Aside0.mk (Kd.C_below HS.out hb_)
              replace HB := Aside0.mk (below_then HB.out HB.out.size hb_)
              have H1 := Aside0.mk (Kd.C_alloc hC1 (.cells #[.int .i64 1, .slice Av 0 cv, .int .i64 0] 26))
              have BR := Aside0.mk (heap_alloc_self w1 (.cells #[.int .i64 1, .slice Av 0 cv, .int .i64 0] 26))
              have Hc1 := Aside0.mk hc1
              clear hb_ hc1 hC1 hV1
              rw [fm_len]
              go_wp2_with fail
              generalize w1.alloc (.cells #[.int .i64 1, .slice Av 0 cv, .int .i64 0] 26) = V2 at CK CV HS HB H1 BR ⊢
              refine (same7 A A1 c c1 0 (fm 0) V2 (fm_len 0) HS.out H1.out).mono ?_
              rintro e w2 ⟨rfl, hb_⟩
              clear H1 BR CK CV
              replace HS := Aside0.mk (Kd.C_below HS.out hb_)
              replace HB := Aside0.mk (below_then HB.out HB.out.size hb_)
              clear hb_
              go_wp2_with fail
              go_region
              replace HS := Aside0.mk (Kd.C_below HS.out (below_drew1 (Below.refl w2.heap.size w2)))
              replace HB := Aside0.mk (below_then HB.out HB.out.size (below_drew1 (Below.refl w2.heap.size w2)))
              generalize w2.drew = w2d at HS HB ⊢
              have kc := conv_same
              go_wp2_with fail
              obtain ⟨V5, hV5⟩ : ∃ V_, V_ = (w2d.alloc (.cells #[.int .u8 122, .int .u8 122] 5 (2, 3))) := ⟨_, rfl⟩
              rw [← hV5]
              have hb_ : Below w2d.heap.size w2d V5 := by rw [hV5]; exact (below_alloc (Below.refl _ _) (.cells #[.int .u8 122, .int .u8 122] 5 (2, 3)))
              replace HS := Aside0.mk (Kd.C_below HS.out hb_)
              replace HB := Aside0.mk (below_then HB.out HB.out.size hb_)
              have LZ : Aside0 (V5.heap[w2d.heap.size]? = some (.cells #[.int .u8 122, .int .u8 122] 5 (2, 3))) := Aside0.mk (by rw [hV5]; have h_ := heap_alloc_self w2d (.cells #[.int .u8 122, .int .u8 122] 5 (2, 3)); simpa using h_)
              clear hV5 hb_
              refine (get_n (l := fm 0) (r := ⟨5, [], 0⟩) (m := 0) HS.out Hc.out (lit_u8 [122, 122] LZ.out (by decide) rfl) (fun x hx => (fm_v 0 x hx).2) (e26_eq (forms_zz 0 (by have := HM.out; omega))) (fm_len 0) rfl rfl).mono ?_
              rintro e w5 ⟨Av5, cv5, rfl, hV5, hb_⟩
              clear LZ HS
              replace HB := Aside0.mk (below_then HB.out HB.out.size hb_)
              clear hb_ hV5
              have hf0 := field0
              go_wp2_with fail
              refine (awake9 w5).mono ?_
              rintro e w6 ⟨rfl, hb_⟩
              replace HB := Aside0.mk (below_then HB.out HB.out.size hb_)
              clear hb_
              go_wp2_with fail
              go_ret
              exact ⟨rfl, HB.out⟩
            · skip
              have kK : 8 < Kn := by assumption
              have kN : 0 < i ∧ i < 8 := by omega
              obtain rfl : i = M := by have := HM.out; omega
              have d1 : decide ((8 : Int) < (Kn : Int)) = true := decide_eq_true (by omega)
              have d3 : decide ((8 : Int) ≤ (i : Int)) = false := decide_eq_false (by omega)
              have d4 : decide ((0 : Int) < (i : Int)) = true := decide_eq_true (by omega)
              obtain ⟨W1, hW1⟩ : ∃ V_, V_ = ((wr.alloc (.cells (madeCells #[.int .u8 0] Kn) 5)).alloc (.cells (madeCells #[.int .u8 0] V) 5)).drew := ⟨_, rfl⟩
              have hb_ : Below wr.heap.size wr W1 := by rw [hW1]; exact below_drew1 (below_alloc (below_alloc (Below.refl _ _) _) _)
              have LK : W1.heap[wr.heap.size]? = some (.cells (madeCells #[.int .u8 0] Kn) 5 (0, 0)) := by rw [hW1]; show ((wr.alloc (.cells (madeCells #[.int .u8 0] Kn) 5)).alloc (.cells (madeCells #[.int .u8 0] V) 5)).heap[_]? = _; have h_ := blk_alloc (heap_alloc_self wr (.cells (madeCells #[.int .u8 0] Kn) 5)) (.cells (madeCells #[.int .u8 0] V) 5); simpa using h_
              have LV : W1.heap[wr.heap.size + 1]? = some (.cells (madeCells #[.int .u8 0] V) 5 (0, 0)) := by rw [hW1]; show ((wr.alloc (.cells (madeCells #[.int .u8 0] Kn) 5)).alloc (.cells (madeCells #[.int .u8 0] V) 5)).heap[_]? = _; have h_ := heap_alloc_self (wr.alloc (.cells (madeCells #[.int .u8 0] Kn) 5)) (.cells (madeCells #[.int .u8 0] V) 5); simpa using h_
              have CK := Aside0.mk (made_C LK (by omega))
              have CV := Aside0.mk (made_C LV (by omega))
              have HS := Aside0.mk (Kd.C_below HI.out.2.1 hb_)
              have HB := Aside0.mk (below_then HI.out.2.2 HI.out.2.2.size hb_)
              have Hc := Aside0.mk HI.out.1
              clear LK LV hb_ HI mK mV
              go_wp2_with fail
              rw [← hW1]
              clear hW1
              refine (put_n (l' := fm i) (r := ⟨1, [], 0⟩) HS.out Hc.out CK.out CV.out (fm_v i) (by rw [fm_len]; have := HM.out; omega) (by simp only [zs, List.length_replicate]; omega) (by simp only [zs, List.length_replicate]; omega) (by rw [putR, if_pos (by simp only [zs, List.length_replicate]; omega)]) (fm_len i) List.length_replicate List.length_replicate).mono ?_
              rintro e w1 ⟨A1, c1, Av, cv, rfl, hc1, hC1, hV1, hb_⟩
              have hb_ := below_alloc hb_ (.cells #[.int .i64 1, .slice Av 0 cv, .int .i64 0] 26)
              replace CK := Aside0.mk (Kd.C_below CK.out hb_)
              replace CV := Aside0.mk (Kd.C_below CV.out hb_)
              replace HS := Aside0.mk (Kd.C_below HS.out hb_)
              replace HB := Aside0.mk (below_then HB.out HB.out.size hb_)
              have H1 := Aside0.mk (Kd.C_alloc hC1 (.cells #[.int .i64 1, .slice Av 0 cv, .int .i64 0] 26))
              have BR := Aside0.mk (heap_alloc_self w1 (.cells #[.int .i64 1, .slice Av 0 cv, .int .i64 0] 26))
              have Hc1 := Aside0.mk hc1
              clear hb_ hc1 hC1 hV1
              rw [fm_len]
              go_wp2_with fail
              generalize w1.alloc (.cells #[.int .i64 1, .slice Av 0 cv, .int .i64 0] 26) = V2 at CK CV HS HB H1 BR ⊢
              refine (same7 A A1 c c1 i (fm i) V2 (fm_len i) HS.out H1.out).mono ?_
              rintro e w2 ⟨rfl, hb_⟩
              clear H1 BR CK CV
              replace HS := Aside0.mk (Kd.C_below HS.out hb_)
              replace HB := Aside0.mk (below_then HB.out HB.out.size hb_)
              clear hb_
              go_wp2_with fail
              go_region
              replace HS := Aside0.mk (Kd.C_below HS.out (below_drew1 (Below.refl w2.heap.size w2)))
              replace HB := Aside0.mk (below_then HB.out HB.out.size (below_drew1 (Below.refl w2.heap.size w2)))
              generalize w2.drew = w2d at HS HB ⊢
              have kc := conv_same
              go_wp2_with fail
              obtain ⟨V3, hV3⟩ : ∃ V_, V_ = ((w2d.alloc (.cells #[.int .u8 97] 5 (1, 2))).alloc (.cells #[.int .u8 110, .int .u8 101, .int .u8 119] 5 (3, 4))) := ⟨_, rfl⟩
              rw [← hV3]
              have hb_ : Below w2d.heap.size w2d V3 := by rw [hV3]; exact (below_alloc (below_alloc (Below.refl _ _) (.cells #[.int .u8 97] 5 (1, 2))) (.cells #[.int .u8 110, .int .u8 101, .int .u8 119] 5 (3, 4)))
              replace HS := Aside0.mk (Kd.C_below HS.out hb_)
              replace HB := Aside0.mk (below_then HB.out HB.out.size hb_)
              have LA : Aside0 (V3.heap[w2d.heap.size]? = some (.cells #[.int .u8 97] 5 (1, 2))) := Aside0.mk (by rw [hV3]; have h_ := blk_alloc (heap_alloc_self w2d (.cells #[.int .u8 97] 5 (1, 2))) (.cells #[.int .u8 110, .int .u8 101, .int .u8 119] 5 (3, 4)); simpa using h_)
              have LW : Aside0 (V3.heap[w2d.heap.size + 1]? = some (.cells #[.int .u8 110, .int .u8 101, .int .u8 119] 5 (3, 4))) := Aside0.mk (by rw [hV3]; have h_ := heap_alloc_self (w2d.alloc (.cells #[.int .u8 97] 5 (1, 2))) (.cells #[.int .u8 110, .int .u8 101, .int .u8 119] 5 (3, 4)); simpa using h_)
              clear hV3 hb_
              have HFA := Aside0.mk (forms_a i (by have := HM.out; omega) (by have := HM.out; omega))
              refine (put_n (l' := (fm i).set 0 ⟨[97], [110, 101, 119]⟩) (r := ⟨0, [0], (i : Int)⟩) HS.out Hc.out (lit_u8 [97] LA.out (by decide) rfl) (lit_u8 [110, 101, 119] LW.out (by decide) rfl) (fm_v i) (by rw [fm_len]; have := HM.out; omega) (by decide) (by decide) (eP_eq HFA.out.1) (fm_len i) rfl rfl).mono ?_
              rintro e w3 ⟨A2, c2, Av2, cv2, rfl, hc2, hC2, hV2, hb_⟩
              clear LA LW
              replace HS := Aside0.mk (Kd.C_below HS.out hb_)
              replace HB := Aside0.mk (below_then HB.out HB.out.size hb_)
              rw [show ((fm i).set 0 (⟨[97], [110, 101, 119]⟩ : S32)).length = i from by rw [List.length_set, fm_len]]
              simp only [List.length_cons, List.length_nil, Nat.zero_add, Nat.reduceAdd]
              have H2 := Aside0.mk (hC2)
              have CV2 := Aside0.mk (hV2)
              have Hc2 := Aside0.mk hc2
              have q1 := Kd.C_string (P := Try.prog) (A := Av2) (c := cv2) Try.underlying24 Try.underlying5 Try.underlying9 (Kd.C_alloc CV2.out (.cells #[.int .i64 0, .slice Av2 1 cv2, .int .i64 (i : Int)] 26))
              simp only [List.length_cons, List.length_nil, Nat.zero_add, Nat.reduceAdd] at q1
              have j1 : strOfNums [0] = ⟨#[0]⟩ := rfl
              have j2 : strOfNums [110, 101, 119] = ⟨#[110, 101, 119]⟩ := rfl
              have hf1 := field1
              have e8 : (if (8 : Int) < (i : Int) then (8 : Int) else (i : Int)) = (i : Int) := by have := HM.out; split <;> omega
              clear hc2 hC2 hV2 hb_
              go_wp2_with fail
              clear q1 e8
              obtain ⟨V4, hV4⟩ : ∃ V_, V_ = ((w3.alloc (.cells #[.int .i64 0, .slice Av2 1 cv2, .int .i64 (i : Int)] 26)).alloc (.cells #[.int .u8 97] 5 (1, 2))) := ⟨_, rfl⟩
              rw [← hV4]
              have hb_ : Below w3.heap.size w3 V4 := by rw [hV4]; exact (below_alloc (below_alloc (Below.refl _ _) (.cells #[.int .i64 0, .slice Av2 1 cv2, .int .i64 (i : Int)] 26)) (.cells #[.int .u8 97] 5 (1, 2)))
              replace HS := Aside0.mk (Kd.C_below HS.out hb_)
              replace HB := Aside0.mk (below_then HB.out HB.out.size hb_)
              replace H2 := Aside0.mk (Kd.C_below H2.out hb_)
              replace CV2 := Aside0.mk (Kd.C_below CV2.out hb_)
              have BQ : Aside0 (V4.heap[w3.heap.size]? = some (.cells #[.int .i64 0, .slice Av2 1 cv2, .int .i64 (i : Int)] 26 (0, 0))) := Aside0.mk (by rw [hV4]; have h_ := blk_alloc (heap_alloc_self w3 (.cells #[.int .i64 0, .slice Av2 1 cv2, .int .i64 (i : Int)] 26)) (.cells #[.int .u8 97] 5 (1, 2)); simpa using h_)
              have LB : Aside0 (V4.heap[w3.heap.size + 1]? = some (.cells #[.int .u8 97] 5 (1, 2))) := Aside0.mk (by rw [hV4]; have h_ := heap_alloc_self (w3.alloc (.cells #[.int .i64 0, .slice Av2 1 cv2, .int .i64 (i : Int)] 26)) (.cells #[.int .u8 97] 5 (1, 2)); simpa using h_)
              clear hV4 hb_
              refine (get_n (l := (fm i).set 0 ⟨[97], [110, 101, 119]⟩) (r := ⟨0, [110, 101, 119], 0⟩) (m := 3) H2.out Hc2.out (lit_u8 [97] LB.out (by decide) rfl) (fm_w i) (e26_eq HFA.out.2) (by rw [List.length_set, fm_len]) rfl rfl).mono ?_
              rintro e w4 ⟨Av3, cv3, rfl, hV3, hb_⟩
              clear BQ LB H2 CV2
              replace HS := Aside0.mk (Kd.C_below HS.out hb_)
              replace HB := Aside0.mk (below_then HB.out HB.out.size hb_)
              have q1 := Kd.C_string (P := Try.prog) (A := Av3) (c := cv3) Try.underlying24 Try.underlying5 Try.underlying9 hV3
              clear hb_ hV3
              go_wp2_with fail
              clear q1
              obtain ⟨V5, hV5⟩ : ∃ V_, V_ = (w4.alloc (.cells #[.int .u8 122, .int .u8 122] 5 (2, 3))) := ⟨_, rfl⟩
              rw [← hV5]
              have hb_ : Below w4.heap.size w4 V5 := by rw [hV5]; exact (below_alloc (Below.refl _ _) (.cells #[.int .u8 122, .int .u8 122] 5 (2, 3)))
              replace HS := Aside0.mk (Kd.C_below HS.out hb_)
              replace HB := Aside0.mk (below_then HB.out HB.out.size hb_)
              have LZ : Aside0 (V5.heap[w4.heap.size]? = some (.cells #[.int .u8 122, .int .u8 122] 5 (2, 3))) := Aside0.mk (by rw [hV5]; have h_ := heap_alloc_self w4 (.cells #[.int .u8 122, .int .u8 122] 5 (2, 3)); simpa using h_)
              clear hV5 hb_
              refine (get_n (l := fm i) (r := ⟨5, [], 0⟩) (m := 0) HS.out Hc.out (lit_u8 [122, 122] LZ.out (by decide) rfl) (fun x hx => (fm_v i x hx).2) (e26_eq (forms_zz i (by have := HM.out; omega))) (fm_len i) rfl rfl).mono ?_
              rintro e w5 ⟨Av5, cv5, rfl, hV5, hb_⟩
              clear LZ HS
              replace HB := Aside0.mk (below_then HB.out HB.out.size hb_)
              clear hb_ hV5
              have hf0 := field0
              go_wp2_with fail
              refine (awake9 w5).mono ?_
              rintro e w6 ⟨rfl, hb_⟩
              replace HB := Aside0.mk (below_then HB.out HB.out.size hb_)
              clear hb_
              go_wp2_with fail
              go_ret
              exact ⟨rfl, HB.out⟩
        · by_cases q2 : 16 < V
          · by_cases q3 : 8 ≤ i
            · skip
              have kK : Kn ≤ 8 := by omega
              have kV : 16 < V := by assumption
              have kN : 8 ≤ i := by assumption
              obtain rfl : M = 8 := by have := HM.out; omega
              have d1 : decide ((8 : Int) < (Kn : Int)) = false := decide_eq_false (by omega)
              have d2 : decide ((16 : Int) < (V : Int)) = true := decide_eq_true (by omega)
              have d3 : decide ((8 : Int) ≤ (i : Int)) = true := decide_eq_true (by omega)
              have d4 : decide ((0 : Int) < (i : Int)) = true := decide_eq_true (by omega)
              obtain ⟨W1, hW1⟩ : ∃ V_, V_ = ((wr.alloc (.cells (madeCells #[.int .u8 0] Kn) 5)).alloc (.cells (madeCells #[.int .u8 0] V) 5)).drew := ⟨_, rfl⟩
              have hb_ : Below wr.heap.size wr W1 := by rw [hW1]; exact below_drew1 (below_alloc (below_alloc (Below.refl _ _) _) _)
              have LK : W1.heap[wr.heap.size]? = some (.cells (madeCells #[.int .u8 0] Kn) 5 (0, 0)) := by rw [hW1]; show ((wr.alloc (.cells (madeCells #[.int .u8 0] Kn) 5)).alloc (.cells (madeCells #[.int .u8 0] V) 5)).heap[_]? = _; have h_ := blk_alloc (heap_alloc_self wr (.cells (madeCells #[.int .u8 0] Kn) 5)) (.cells (madeCells #[.int .u8 0] V) 5); simpa using h_
              have LV : W1.heap[wr.heap.size + 1]? = some (.cells (madeCells #[.int .u8 0] V) 5 (0, 0)) := by rw [hW1]; show ((wr.alloc (.cells (madeCells #[.int .u8 0] Kn) 5)).alloc (.cells (madeCells #[.int .u8 0] V) 5)).heap[_]? = _; have h_ := heap_alloc_self (wr.alloc (.cells (madeCells #[.int .u8 0] Kn) 5)) (.cells (madeCells #[.int .u8 0] V) 5); simpa using h_
              have CK := Aside0.mk (made_C LK (by omega))
              have CV := Aside0.mk (made_C LV (by omega))
              have HS := Aside0.mk (Kd.C_below HI.out.2.1 hb_)
              have HB := Aside0.mk (below_then HI.out.2.2 HI.out.2.2.size hb_)
              have Hc := Aside0.mk HI.out.1
              clear LK LV hb_ HI mK mV
              go_wp2_with fail
              rw [← hW1]
              clear hW1
              refine (put_n (l' := fm 8) (r := ⟨1, [], 0⟩) HS.out Hc.out CK.out CV.out (fm_v 8) (by rw [fm_len]; have := HM.out; omega) (by simp only [zs, List.length_replicate]; omega) (by simp only [zs, List.length_replicate]; omega) (by rw [putR, if_pos (by simp only [zs, List.length_replicate]; omega)]) (fm_len 8) List.length_replicate List.length_replicate).mono ?_
              rintro e w1 ⟨A1, c1, Av, cv, rfl, hc1, hC1, hV1, hb_⟩
              have hb_ := below_alloc hb_ (.cells #[.int .i64 1, .slice Av 0 cv, .int .i64 0] 26)
              replace CK := Aside0.mk (Kd.C_below CK.out hb_)
              replace CV := Aside0.mk (Kd.C_below CV.out hb_)
              replace HS := Aside0.mk (Kd.C_below HS.out hb_)
              replace HB := Aside0.mk (below_then HB.out HB.out.size hb_)
              have H1 := Aside0.mk (Kd.C_alloc hC1 (.cells #[.int .i64 1, .slice Av 0 cv, .int .i64 0] 26))
              have BR := Aside0.mk (heap_alloc_self w1 (.cells #[.int .i64 1, .slice Av 0 cv, .int .i64 0] 26))
              have Hc1 := Aside0.mk hc1
              clear hb_ hc1 hC1 hV1
              rw [fm_len]
              go_wp2_with fail
              generalize w1.alloc (.cells #[.int .i64 1, .slice Av 0 cv, .int .i64 0] 26) = V2 at CK CV HS HB H1 BR ⊢
              refine (same7 A A1 c c1 8 (fm 8) V2 (fm_len 8) HS.out H1.out).mono ?_
              rintro e w2 ⟨rfl, hb_⟩
              clear H1 BR CK CV
              replace HS := Aside0.mk (Kd.C_below HS.out hb_)
              replace HB := Aside0.mk (below_then HB.out HB.out.size hb_)
              clear hb_
              go_wp2_with fail
              go_region
              replace HS := Aside0.mk (Kd.C_below HS.out (below_drew1 (Below.refl w2.heap.size w2)))
              replace HB := Aside0.mk (below_then HB.out HB.out.size (below_drew1 (Below.refl w2.heap.size w2)))
              generalize w2.drew = w2d at HS HB ⊢
              have kc := conv_same
              go_wp2_with fail
              obtain ⟨V3, hV3⟩ : ∃ V_, V_ = ((w2d.alloc (.cells #[.int .u8 97] 5 (1, 2))).alloc (.cells #[.int .u8 110, .int .u8 101, .int .u8 119] 5 (3, 4))) := ⟨_, rfl⟩
              rw [← hV3]
              have hb_ : Below w2d.heap.size w2d V3 := by rw [hV3]; exact (below_alloc (below_alloc (Below.refl _ _) (.cells #[.int .u8 97] 5 (1, 2))) (.cells #[.int .u8 110, .int .u8 101, .int .u8 119] 5 (3, 4)))
              replace HS := Aside0.mk (Kd.C_below HS.out hb_)
              replace HB := Aside0.mk (below_then HB.out HB.out.size hb_)
              have LA : Aside0 (V3.heap[w2d.heap.size]? = some (.cells #[.int .u8 97] 5 (1, 2))) := Aside0.mk (by rw [hV3]; have h_ := blk_alloc (heap_alloc_self w2d (.cells #[.int .u8 97] 5 (1, 2))) (.cells #[.int .u8 110, .int .u8 101, .int .u8 119] 5 (3, 4)); simpa using h_)
              have LW : Aside0 (V3.heap[w2d.heap.size + 1]? = some (.cells #[.int .u8 110, .int .u8 101, .int .u8 119] 5 (3, 4))) := Aside0.mk (by rw [hV3]; have h_ := heap_alloc_self (w2d.alloc (.cells #[.int .u8 97] 5 (1, 2))) (.cells #[.int .u8 110, .int .u8 101, .int .u8 119] 5 (3, 4)); simpa using h_)
              clear hV3 hb_
              have HFA := Aside0.mk (forms_a 8 (by have := HM.out; omega) (by have := HM.out; omega))
              refine (put_n (l' := (fm 8).set 0 ⟨[97], [110, 101, 119]⟩) (r := ⟨0, [0], 8⟩) HS.out Hc.out (lit_u8 [97] LA.out (by decide) rfl) (lit_u8 [110, 101, 119] LW.out (by decide) rfl) (fm_v 8) (by rw [fm_len]; have := HM.out; omega) (by decide) (by decide) (eP_eq HFA.out.1) (fm_len 8) rfl rfl).mono ?_
              rintro e w3 ⟨A2, c2, Av2, cv2, rfl, hc2, hC2, hV2, hb_⟩
              clear LA LW
              replace HS := Aside0.mk (Kd.C_below HS.out hb_)
              replace HB := Aside0.mk (below_then HB.out HB.out.size hb_)
              rw [show ((fm 8).set 0 (⟨[97], [110, 101, 119]⟩ : S32)).length = 8 from by rw [List.length_set, fm_len]]
              simp only [List.length_cons, List.length_nil, Nat.zero_add, Nat.reduceAdd]
              have H2 := Aside0.mk (hC2)
              have CV2 := Aside0.mk (hV2)
              have Hc2 := Aside0.mk hc2
              have q1 := Kd.C_string (P := Try.prog) (A := Av2) (c := cv2) Try.underlying24 Try.underlying5 Try.underlying9 (Kd.C_alloc CV2.out (.cells #[.int .i64 0, .slice Av2 1 cv2, .int .i64 8] 26))
              simp only [List.length_cons, List.length_nil, Nat.zero_add, Nat.reduceAdd] at q1
              have j1 : strOfNums [0] = ⟨#[0]⟩ := rfl
              have j2 : strOfNums [110, 101, 119] = ⟨#[110, 101, 119]⟩ := rfl
              have hf1 := field1
              have e8 : (if (8 : Int) < (i : Int) then (8 : Int) else (i : Int)) = 8 := by have := HM.out; split <;> omega
              clear hc2 hC2 hV2 hb_
              go_wp2_with fail
              clear q1 e8
              obtain ⟨V4, hV4⟩ : ∃ V_, V_ = ((w3.alloc (.cells #[.int .i64 0, .slice Av2 1 cv2, .int .i64 8] 26)).alloc (.cells #[.int .u8 97] 5 (1, 2))) := ⟨_, rfl⟩
              rw [← hV4]
              have hb_ : Below w3.heap.size w3 V4 := by rw [hV4]; exact (below_alloc (below_alloc (Below.refl _ _) (.cells #[.int .i64 0, .slice Av2 1 cv2, .int .i64 8] 26)) (.cells #[.int .u8 97] 5 (1, 2)))
              replace HS := Aside0.mk (Kd.C_below HS.out hb_)
              replace HB := Aside0.mk (below_then HB.out HB.out.size hb_)
              replace H2 := Aside0.mk (Kd.C_below H2.out hb_)
              replace CV2 := Aside0.mk (Kd.C_below CV2.out hb_)
              have BQ : Aside0 (V4.heap[w3.heap.size]? = some (.cells #[.int .i64 0, .slice Av2 1 cv2, .int .i64 8] 26 (0, 0))) := Aside0.mk (by rw [hV4]; have h_ := blk_alloc (heap_alloc_self w3 (.cells #[.int .i64 0, .slice Av2 1 cv2, .int .i64 8] 26)) (.cells #[.int .u8 97] 5 (1, 2)); simpa using h_)
              have LB : Aside0 (V4.heap[w3.heap.size + 1]? = some (.cells #[.int .u8 97] 5 (1, 2))) := Aside0.mk (by rw [hV4]; have h_ := heap_alloc_self (w3.alloc (.cells #[.int .i64 0, .slice Av2 1 cv2, .int .i64 8] 26)) (.cells #[.int .u8 97] 5 (1, 2)); simpa using h_)
              clear hV4 hb_
              refine (get_n (l := (fm 8).set 0 ⟨[97], [110, 101, 119]⟩) (r := ⟨0, [110, 101, 119], 0⟩) (m := 3) H2.out Hc2.out (lit_u8 [97] LB.out (by decide) rfl) (fm_w 8) (e26_eq HFA.out.2) (by rw [List.length_set, fm_len]) rfl rfl).mono ?_
              rintro e w4 ⟨Av3, cv3, rfl, hV3, hb_⟩
              clear BQ LB H2 CV2
              replace HS := Aside0.mk (Kd.C_below HS.out hb_)
              replace HB := Aside0.mk (below_then HB.out HB.out.size hb_)
              have q1 := Kd.C_string (P := Try.prog) (A := Av3) (c := cv3) Try.underlying24 Try.underlying5 Try.underlying9 hV3
              clear hb_ hV3
              go_wp2_with fail
              clear q1
              obtain ⟨V5, hV5⟩ : ∃ V_, V_ = (w4.alloc (.cells #[.int .u8 122, .int .u8 122] 5 (2, 3))) := ⟨_, rfl⟩
              rw [← hV5]
              have hb_ : Below w4.heap.size w4 V5 := by rw [hV5]; exact (below_alloc (Below.refl _ _) (.cells #[.int .u8 122, .int .u8 122] 5 (2, 3)))
              replace HS := Aside0.mk (Kd.C_below HS.out hb_)
              replace HB := Aside0.mk (below_then HB.out HB.out.size hb_)
              have LZ : Aside0 (V5.heap[w4.heap.size]? = some (.cells #[.int .u8 122, .int .u8 122] 5 (2, 3))) := Aside0.mk (by rw [hV5]; have h_ := heap_alloc_self w4 (.cells #[.int .u8 122, .int .u8 122] 5 (2, 3)); simpa using h_)
              clear hV5 hb_
              refine (get_n (l := fm 8) (r := ⟨5, [], 0⟩) (m := 0) HS.out Hc.out (lit_u8 [122, 122] LZ.out (by decide) rfl) (fun x hx => (fm_v 8 x hx).2) (e26_eq (forms_zz 8 (by have := HM.out; omega))) (fm_len 8) rfl rfl).mono ?_
              rintro e w5 ⟨Av5, cv5, rfl, hV5, hb_⟩
              clear LZ HS
              replace HB := Aside0.mk (below_then HB.out HB.out.size hb_)
              clear hb_ hV5
              have hf0 := field0
              go_wp2_with fail
              refine (awake9 w5).mono ?_
              rintro e w6 ⟨rfl, hb_⟩
              replace HB := Aside0.mk (below_then HB.out HB.out.size hb_)
              clear hb_
              go_wp2_with fail
              go_ret
              exact ⟨rfl, HB.out⟩
            · rcases Nat.eq_zero_or_pos i with q4 | q4
              · skip
                have kK : Kn ≤ 8 := by omega
                have kV : 16 < V := by assumption
                obtain rfl : i = 0 := by assumption
                obtain rfl : M = 0 := by have := HM.out; omega
                have d1 : decide ((8 : Int) < (Kn : Int)) = false := decide_eq_false (by omega)
                have d2 : decide ((16 : Int) < (V : Int)) = true := decide_eq_true (by omega)
                obtain ⟨W1, hW1⟩ : ∃ V_, V_ = ((wr.alloc (.cells (madeCells #[.int .u8 0] Kn) 5)).alloc (.cells (madeCells #[.int .u8 0] V) 5)).drew := ⟨_, rfl⟩
                have hb_ : Below wr.heap.size wr W1 := by rw [hW1]; exact below_drew1 (below_alloc (below_alloc (Below.refl _ _) _) _)
                have LK : W1.heap[wr.heap.size]? = some (.cells (madeCells #[.int .u8 0] Kn) 5 (0, 0)) := by rw [hW1]; show ((wr.alloc (.cells (madeCells #[.int .u8 0] Kn) 5)).alloc (.cells (madeCells #[.int .u8 0] V) 5)).heap[_]? = _; have h_ := blk_alloc (heap_alloc_self wr (.cells (madeCells #[.int .u8 0] Kn) 5)) (.cells (madeCells #[.int .u8 0] V) 5); simpa using h_
                have LV : W1.heap[wr.heap.size + 1]? = some (.cells (madeCells #[.int .u8 0] V) 5 (0, 0)) := by rw [hW1]; show ((wr.alloc (.cells (madeCells #[.int .u8 0] Kn) 5)).alloc (.cells (madeCells #[.int .u8 0] V) 5)).heap[_]? = _; have h_ := heap_alloc_self (wr.alloc (.cells (madeCells #[.int .u8 0] Kn) 5)) (.cells (madeCells #[.int .u8 0] V) 5); simpa using h_
                have CK := Aside0.mk (made_C LK (by omega))
                have CV := Aside0.mk (made_C LV (by omega))
                have HS := Aside0.mk (Kd.C_below HI.out.2.1 hb_)
                have HB := Aside0.mk (below_then HI.out.2.2 HI.out.2.2.size hb_)
                have Hc := Aside0.mk HI.out.1
                clear LK LV hb_ HI mK mV
                go_wp2_with fail
                rw [← hW1]
                clear hW1
                refine (put_n (l' := fm 0) (r := ⟨1, [], 0⟩) HS.out Hc.out CK.out CV.out (fm_v 0) (by rw [fm_len]; have := HM.out; omega) (by simp only [zs, List.length_replicate]; omega) (by simp only [zs, List.length_replicate]; omega) (by rw [putR, if_pos (by simp only [zs, List.length_replicate]; omega)]) (fm_len 0) List.length_replicate List.length_replicate).mono ?_
                rintro e w1 ⟨A1, c1, Av, cv, rfl, hc1, hC1, hV1, hb_⟩
                have hb_ := below_alloc hb_ (.cells #[.int .i64 1, .slice Av 0 cv, .int .i64 0] 26)
                replace CK := Aside0.mk (Kd.C_below CK.out hb_)
                replace CV := Aside0.mk (Kd.C_below CV.out hb_)
                replace HS := Aside0.mk (Kd.C_below HS.out hb_)
                replace HB := Aside0.mk (below_then HB.out HB.out.size hb_)
                have H1 := Aside0.mk (Kd.C_alloc hC1 (.cells #[.int .i64 1, .slice Av 0 cv, .int .i64 0] 26))
                have BR := Aside0.mk (heap_alloc_self w1 (.cells #[.int .i64 1, .slice Av 0 cv, .int .i64 0] 26))
                have Hc1 := Aside0.mk hc1
                clear hb_ hc1 hC1 hV1
                rw [fm_len]
                go_wp2_with fail
                generalize w1.alloc (.cells #[.int .i64 1, .slice Av 0 cv, .int .i64 0] 26) = V2 at CK CV HS HB H1 BR ⊢
                refine (same7 A A1 c c1 0 (fm 0) V2 (fm_len 0) HS.out H1.out).mono ?_
                rintro e w2 ⟨rfl, hb_⟩
                clear H1 BR CK CV
                replace HS := Aside0.mk (Kd.C_below HS.out hb_)
                replace HB := Aside0.mk (below_then HB.out HB.out.size hb_)
                clear hb_
                go_wp2_with fail
                go_region
                replace HS := Aside0.mk (Kd.C_below HS.out (below_drew1 (Below.refl w2.heap.size w2)))
                replace HB := Aside0.mk (below_then HB.out HB.out.size (below_drew1 (Below.refl w2.heap.size w2)))
                generalize w2.drew = w2d at HS HB ⊢
                have kc := conv_same
                go_wp2_with fail
                obtain ⟨V5, hV5⟩ : ∃ V_, V_ = (w2d.alloc (.cells #[.int .u8 122, .int .u8 122] 5 (2, 3))) := ⟨_, rfl⟩
                rw [← hV5]
                have hb_ : Below w2d.heap.size w2d V5 := by rw [hV5]; exact (below_alloc (Below.refl _ _) (.cells #[.int .u8 122, .int .u8 122] 5 (2, 3)))
                replace HS := Aside0.mk (Kd.C_below HS.out hb_)
                replace HB := Aside0.mk (below_then HB.out HB.out.size hb_)
                have LZ : Aside0 (V5.heap[w2d.heap.size]? = some (.cells #[.int .u8 122, .int .u8 122] 5 (2, 3))) := Aside0.mk (by rw [hV5]; have h_ := heap_alloc_self w2d (.cells #[.int .u8 122, .int .u8 122] 5 (2, 3)); simpa using h_)
                clear hV5 hb_
                refine (get_n (l := fm 0) (r := ⟨5, [], 0⟩) (m := 0) HS.out Hc.out (lit_u8 [122, 122] LZ.out (by decide) rfl) (fun x hx => (fm_v 0 x hx).2) (e26_eq (forms_zz 0 (by have := HM.out; omega))) (fm_len 0) rfl rfl).mono ?_
                rintro e w5 ⟨Av5, cv5, rfl, hV5, hb_⟩
                clear LZ HS
                replace HB := Aside0.mk (below_then HB.out HB.out.size hb_)
                clear hb_ hV5
                have hf0 := field0
                go_wp2_with fail
                refine (awake9 w5).mono ?_
                rintro e w6 ⟨rfl, hb_⟩
                replace HB := Aside0.mk (below_then HB.out HB.out.size hb_)
                clear hb_
                go_wp2_with fail
                go_ret
                exact ⟨rfl, HB.out⟩
              · skip
                have kK : Kn ≤ 8 := by omega
                have kV : 16 < V := by assumption
                have kN : 0 < i ∧ i < 8 := by omega
                obtain rfl : i = M := by have := HM.out; omega
                have d1 : decide ((8 : Int) < (Kn : Int)) = false := decide_eq_false (by omega)
                have d2 : decide ((16 : Int) < (V : Int)) = true := decide_eq_true (by omega)
                have d3 : decide ((8 : Int) ≤ (i : Int)) = false := decide_eq_false (by omega)
                have d4 : decide ((0 : Int) < (i : Int)) = true := decide_eq_true (by omega)
                obtain ⟨W1, hW1⟩ : ∃ V_, V_ = ((wr.alloc (.cells (madeCells #[.int .u8 0] Kn) 5)).alloc (.cells (madeCells #[.int .u8 0] V) 5)).drew := ⟨_, rfl⟩
                have hb_ : Below wr.heap.size wr W1 := by rw [hW1]; exact below_drew1 (below_alloc (below_alloc (Below.refl _ _) _) _)
                have LK : W1.heap[wr.heap.size]? = some (.cells (madeCells #[.int .u8 0] Kn) 5 (0, 0)) := by rw [hW1]; show ((wr.alloc (.cells (madeCells #[.int .u8 0] Kn) 5)).alloc (.cells (madeCells #[.int .u8 0] V) 5)).heap[_]? = _; have h_ := blk_alloc (heap_alloc_self wr (.cells (madeCells #[.int .u8 0] Kn) 5)) (.cells (madeCells #[.int .u8 0] V) 5); simpa using h_
                have LV : W1.heap[wr.heap.size + 1]? = some (.cells (madeCells #[.int .u8 0] V) 5 (0, 0)) := by rw [hW1]; show ((wr.alloc (.cells (madeCells #[.int .u8 0] Kn) 5)).alloc (.cells (madeCells #[.int .u8 0] V) 5)).heap[_]? = _; have h_ := heap_alloc_self (wr.alloc (.cells (madeCells #[.int .u8 0] Kn) 5)) (.cells (madeCells #[.int .u8 0] V) 5); simpa using h_
                have CK := Aside0.mk (made_C LK (by omega))
                have CV := Aside0.mk (made_C LV (by omega))
                have HS := Aside0.mk (Kd.C_below HI.out.2.1 hb_)
                have HB := Aside0.mk (below_then HI.out.2.2 HI.out.2.2.size hb_)
                have Hc := Aside0.mk HI.out.1
                clear LK LV hb_ HI mK mV
                go_wp2_with fail
                rw [← hW1]
                clear hW1
                refine (put_n (l' := fm i) (r := ⟨1, [], 0⟩) HS.out Hc.out CK.out CV.out (fm_v i) (by rw [fm_len]; have := HM.out; omega) (by simp only [zs, List.length_replicate]; omega) (by simp only [zs, List.length_replicate]; omega) (by rw [putR, if_pos (by simp only [zs, List.length_replicate]; omega)]) (fm_len i) List.length_replicate List.length_replicate).mono ?_
                rintro e w1 ⟨A1, c1, Av, cv, rfl, hc1, hC1, hV1, hb_⟩
                have hb_ := below_alloc hb_ (.cells #[.int .i64 1, .slice Av 0 cv, .int .i64 0] 26)
                replace CK := Aside0.mk (Kd.C_below CK.out hb_)
                replace CV := Aside0.mk (Kd.C_below CV.out hb_)
                replace HS := Aside0.mk (Kd.C_below HS.out hb_)
                replace HB := Aside0.mk (below_then HB.out HB.out.size hb_)
                have H1 := Aside0.mk (Kd.C_alloc hC1 (.cells #[.int .i64 1, .slice Av 0 cv, .int .i64 0] 26))
                have BR := Aside0.mk (heap_alloc_self w1 (.cells #[.int .i64 1, .slice Av 0 cv, .int .i64 0] 26))
                have Hc1 := Aside0.mk hc1
                clear hb_ hc1 hC1 hV1
                rw [fm_len]
                go_wp2_with fail
                generalize w1.alloc (.cells #[.int .i64 1, .slice Av 0 cv, .int .i64 0] 26) = V2 at CK CV HS HB H1 BR ⊢
                refine (same7 A A1 c c1 i (fm i) V2 (fm_len i) HS.out H1.out).mono ?_
                rintro e w2 ⟨rfl, hb_⟩
                clear H1 BR CK CV
                replace HS := Aside0.mk (Kd.C_below HS.out hb_)
                replace HB := Aside0.mk (below_then HB.out HB.out.size hb_)
                clear hb_
                go_wp2_with fail
                go_region
                replace HS := Aside0.mk (Kd.C_below HS.out (below_drew1 (Below.refl w2.heap.size w2)))
                replace HB := Aside0.mk (below_then HB.out HB.out.size (below_drew1 (Below.refl w2.heap.size w2)))
                generalize w2.drew = w2d at HS HB ⊢
                have kc := conv_same
                go_wp2_with fail
                obtain ⟨V3, hV3⟩ : ∃ V_, V_ = ((w2d.alloc (.cells #[.int .u8 97] 5 (1, 2))).alloc (.cells #[.int .u8 110, .int .u8 101, .int .u8 119] 5 (3, 4))) := ⟨_, rfl⟩
                rw [← hV3]
                have hb_ : Below w2d.heap.size w2d V3 := by rw [hV3]; exact (below_alloc (below_alloc (Below.refl _ _) (.cells #[.int .u8 97] 5 (1, 2))) (.cells #[.int .u8 110, .int .u8 101, .int .u8 119] 5 (3, 4)))
                replace HS := Aside0.mk (Kd.C_below HS.out hb_)
                replace HB := Aside0.mk (below_then HB.out HB.out.size hb_)
                have LA : Aside0 (V3.heap[w2d.heap.size]? = some (.cells #[.int .u8 97] 5 (1, 2))) := Aside0.mk (by rw [hV3]; have h_ := blk_alloc (heap_alloc_self w2d (.cells #[.int .u8 97] 5 (1, 2))) (.cells #[.int .u8 110, .int .u8 101, .int .u8 119] 5 (3, 4)); simpa using h_)
                have LW : Aside0 (V3.heap[w2d.heap.size + 1]? = some (.cells #[.int .u8 110, .int .u8 101, .int .u8 119] 5 (3, 4))) := Aside0.mk (by rw [hV3]; have h_ := heap_alloc_self (w2d.alloc (.cells #[.int .u8 97] 5 (1, 2))) (.cells #[.int .u8 110, .int .u8 101, .int .u8 119] 5 (3, 4)); simpa using h_)
                clear hV3 hb_
                have HFA := Aside0.mk (forms_a i (by have := HM.out; omega) (by have := HM.out; omega))
                refine (put_n (l' := (fm i).set 0 ⟨[97], [110, 101, 119]⟩) (r := ⟨0, [0], (i : Int)⟩) HS.out Hc.out (lit_u8 [97] LA.out (by decide) rfl) (lit_u8 [110, 101, 119] LW.out (by decide) rfl) (fm_v i) (by rw [fm_len]; have := HM.out; omega) (by decide) (by decide) (eP_eq HFA.out.1) (fm_len i) rfl rfl).mono ?_
                rintro e w3 ⟨A2, c2, Av2, cv2, rfl, hc2, hC2, hV2, hb_⟩
                clear LA LW
                replace HS := Aside0.mk (Kd.C_below HS.out hb_)
                replace HB := Aside0.mk (below_then HB.out HB.out.size hb_)
                rw [show ((fm i).set 0 (⟨[97], [110, 101, 119]⟩ : S32)).length = i from by rw [List.length_set, fm_len]]
                simp only [List.length_cons, List.length_nil, Nat.zero_add, Nat.reduceAdd]
                have H2 := Aside0.mk (hC2)
                have CV2 := Aside0.mk (hV2)
                have Hc2 := Aside0.mk hc2
                have q1 := Kd.C_string (P := Try.prog) (A := Av2) (c := cv2) Try.underlying24 Try.underlying5 Try.underlying9 (Kd.C_alloc CV2.out (.cells #[.int .i64 0, .slice Av2 1 cv2, .int .i64 (i : Int)] 26))
                simp only [List.length_cons, List.length_nil, Nat.zero_add, Nat.reduceAdd] at q1
                have j1 : strOfNums [0] = ⟨#[0]⟩ := rfl
                have j2 : strOfNums [110, 101, 119] = ⟨#[110, 101, 119]⟩ := rfl
                have hf1 := field1
                have e8 : (if (8 : Int) < (i : Int) then (8 : Int) else (i : Int)) = (i : Int) := by have := HM.out; split <;> omega
                clear hc2 hC2 hV2 hb_
                go_wp2_with fail
                clear q1 e8
                obtain ⟨V4, hV4⟩ : ∃ V_, V_ = ((w3.alloc (.cells #[.int .i64 0, .slice Av2 1 cv2, .int .i64 (i : Int)] 26)).alloc (.cells #[.int .u8 97] 5 (1, 2))) := ⟨_, rfl⟩
                rw [← hV4]
                have hb_ : Below w3.heap.size w3 V4 := by rw [hV4]; exact (below_alloc (below_alloc (Below.refl _ _) (.cells #[.int .i64 0, .slice Av2 1 cv2, .int .i64 (i : Int)] 26)) (.cells #[.int .u8 97] 5 (1, 2)))
                replace HS := Aside0.mk (Kd.C_below HS.out hb_)
                replace HB := Aside0.mk (below_then HB.out HB.out.size hb_)
                replace H2 := Aside0.mk (Kd.C_below H2.out hb_)
                replace CV2 := Aside0.mk (Kd.C_below CV2.out hb_)
                have BQ : Aside0 (V4.heap[w3.heap.size]? = some (.cells #[.int .i64 0, .slice Av2 1 cv2, .int .i64 (i : Int)] 26 (0, 0))) := Aside0.mk (by rw [hV4]; have h_ := blk_alloc (heap_alloc_self w3 (.cells #[.int .i64 0, .slice Av2 1 cv2, .int .i64 (i : Int)] 26)) (.cells #[.int .u8 97] 5 (1, 2)); simpa using h_)
                have LB : Aside0 (V4.heap[w3.heap.size + 1]? = some (.cells #[.int .u8 97] 5 (1, 2))) := Aside0.mk (by rw [hV4]; have h_ := heap_alloc_self (w3.alloc (.cells #[.int .i64 0, .slice Av2 1 cv2, .int .i64 (i : Int)] 26)) (.cells #[.int .u8 97] 5 (1, 2)); simpa using h_)
                clear hV4 hb_
                refine (get_n (l := (fm i).set 0 ⟨[97], [110, 101, 119]⟩) (r := ⟨0, [110, 101, 119], 0⟩) (m := 3) H2.out Hc2.out (lit_u8 [97] LB.out (by decide) rfl) (fm_w i) (e26_eq HFA.out.2) (by rw [List.length_set, fm_len]) rfl rfl).mono ?_
                rintro e w4 ⟨Av3, cv3, rfl, hV3, hb_⟩
                clear BQ LB H2 CV2
                replace HS := Aside0.mk (Kd.C_below HS.out hb_)
                replace HB := Aside0.mk (below_then HB.out HB.out.size hb_)
                have q1 := Kd.C_string (P := Try.prog) (A := Av3) (c := cv3) Try.underlying24 Try.underlying5 Try.underlying9 hV3
                clear hb_ hV3
                go_wp2_with fail
                clear q1
                obtain ⟨V5, hV5⟩ : ∃ V_, V_ = (w4.alloc (.cells #[.int .u8 122, .int .u8 122] 5 (2, 3))) := ⟨_, rfl⟩
                rw [← hV5]
                have hb_ : Below w4.heap.size w4 V5 := by rw [hV5]; exact (below_alloc (Below.refl _ _) (.cells #[.int .u8 122, .int .u8 122] 5 (2, 3)))
                replace HS := Aside0.mk (Kd.C_below HS.out hb_)
                replace HB := Aside0.mk (below_then HB.out HB.out.size hb_)
                have LZ : Aside0 (V5.heap[w4.heap.size]? = some (.cells #[.int .u8 122, .int .u8 122] 5 (2, 3))) := Aside0.mk (by rw [hV5]; have h_ := heap_alloc_self w4 (.cells #[.int .u8 122, .int .u8 122] 5 (2, 3)); simpa using h_)
                clear hV5 hb_
                refine (get_n (l := fm i) (r := ⟨5, [], 0⟩) (m := 0) HS.out Hc.out (lit_u8 [122, 122] LZ.out (by decide) rfl) (fun x hx => (fm_v i x hx).2) (e26_eq (forms_zz i (by have := HM.out; omega))) (fm_len i) rfl rfl).mono ?_
                rintro e w5 ⟨Av5, cv5, rfl, hV5, hb_⟩
                clear LZ HS
                replace HB := Aside0.mk (below_then HB.out HB.out.size hb_)
                clear hb_ hV5
                have hf0 := field0
                go_wp2_with fail
                refine (awake9 w5).mono ?_
                rintro e w6 ⟨rfl, hb_⟩
                replace HB := Aside0.mk (below_then HB.out HB.out.size hb_)
                clear hb_
                go_wp2_with fail
                go_ret
                exact ⟨rfl, HB.out⟩
          · by_cases q3 : 8 ≤ i
            · skip
              have kK : Kn ≤ 8 := by omega
              have kV : V ≤ 16 := by omega
              have kN : 8 ≤ i := by assumption
              obtain rfl : M = 8 := by have := HM.out; omega
              have d1 : decide ((8 : Int) < (Kn : Int)) = false := decide_eq_false (by omega)
              have d2 : decide ((16 : Int) < (V : Int)) = false := decide_eq_false (by omega)
              have d3 : decide ((8 : Int) ≤ (i : Int)) = true := decide_eq_true (by omega)
              have d4 : decide ((0 : Int) < (i : Int)) = true := decide_eq_true (by omega)
              obtain ⟨W1, hW1⟩ : ∃ V_, V_ = ((wr.alloc (.cells (madeCells #[.int .u8 0] Kn) 5)).alloc (.cells (madeCells #[.int .u8 0] V) 5)).drew := ⟨_, rfl⟩
              have hb_ : Below wr.heap.size wr W1 := by rw [hW1]; exact below_drew1 (below_alloc (below_alloc (Below.refl _ _) _) _)
              have LK : W1.heap[wr.heap.size]? = some (.cells (madeCells #[.int .u8 0] Kn) 5 (0, 0)) := by rw [hW1]; show ((wr.alloc (.cells (madeCells #[.int .u8 0] Kn) 5)).alloc (.cells (madeCells #[.int .u8 0] V) 5)).heap[_]? = _; have h_ := blk_alloc (heap_alloc_self wr (.cells (madeCells #[.int .u8 0] Kn) 5)) (.cells (madeCells #[.int .u8 0] V) 5); simpa using h_
              have LV : W1.heap[wr.heap.size + 1]? = some (.cells (madeCells #[.int .u8 0] V) 5 (0, 0)) := by rw [hW1]; show ((wr.alloc (.cells (madeCells #[.int .u8 0] Kn) 5)).alloc (.cells (madeCells #[.int .u8 0] V) 5)).heap[_]? = _; have h_ := heap_alloc_self (wr.alloc (.cells (madeCells #[.int .u8 0] Kn) 5)) (.cells (madeCells #[.int .u8 0] V) 5); simpa using h_
              have CK := Aside0.mk (made_C LK (by omega))
              have CV := Aside0.mk (made_C LV (by omega))
              have HS := Aside0.mk (Kd.C_below HI.out.2.1 hb_)
              have HB := Aside0.mk (below_then HI.out.2.2 HI.out.2.2.size hb_)
              have Hc := Aside0.mk HI.out.1
              clear LK LV hb_ HI mK mV
              go_wp2_with fail
              rw [← hW1]
              clear hW1
              refine (put_n (l' := fm 8) (r := ⟨3, [], 0⟩) HS.out Hc.out CK.out CV.out (fm_v 8) (by rw [fm_len]; have := HM.out; omega) (by simp only [zs, List.length_replicate]; omega) (by simp only [zs, List.length_replicate]; omega) (by rw [putR, if_neg (by simp only [zs, List.length_replicate]; omega), beq_iff_eq.1 (forms_zero 8 (by have := HM.out; omega) Kn (by omega)), if_neg (by decide), fm_len, if_pos (by have := HM.out; omega)]) (fm_len 8) List.length_replicate List.length_replicate).mono ?_
              rintro e w1 ⟨A1, c1, Av, cv, rfl, hc1, hC1, hV1, hb_⟩
              have hb_ := below_alloc hb_ (.cells #[.int .i64 3, .slice Av 0 cv, .int .i64 0] 26)
              replace CK := Aside0.mk (Kd.C_below CK.out hb_)
              replace CV := Aside0.mk (Kd.C_below CV.out hb_)
              replace HS := Aside0.mk (Kd.C_below HS.out hb_)
              replace HB := Aside0.mk (below_then HB.out HB.out.size hb_)
              have H1 := Aside0.mk (Kd.C_alloc hC1 (.cells #[.int .i64 3, .slice Av 0 cv, .int .i64 0] 26))
              have BR := Aside0.mk (heap_alloc_self w1 (.cells #[.int .i64 3, .slice Av 0 cv, .int .i64 0] 26))
              have Hc1 := Aside0.mk hc1
              clear hb_ hc1 hC1 hV1
              rw [fm_len]
              go_wp2_with fail
              generalize w1.alloc (.cells #[.int .i64 3, .slice Av 0 cv, .int .i64 0] 26) = V2 at CK CV HS HB H1 BR ⊢
              refine (same7 A A1 c c1 8 (fm 8) V2 (fm_len 8) HS.out H1.out).mono ?_
              rintro e w2 ⟨rfl, hb_⟩
              clear H1 BR CK CV
              replace HS := Aside0.mk (Kd.C_below HS.out hb_)
              replace HB := Aside0.mk (below_then HB.out HB.out.size hb_)
              clear hb_
              go_wp2_with fail
              go_region
              replace HS := Aside0.mk (Kd.C_below HS.out (below_drew1 (Below.refl w2.heap.size w2)))
              replace HB := Aside0.mk (below_then HB.out HB.out.size (below_drew1 (Below.refl w2.heap.size w2)))
              generalize w2.drew = w2d at HS HB ⊢
              have kc := conv_same
              go_wp2_with fail
              obtain ⟨V3, hV3⟩ : ∃ V_, V_ = ((w2d.alloc (.cells #[.int .u8 97] 5 (1, 2))).alloc (.cells #[.int .u8 110, .int .u8 101, .int .u8 119] 5 (3, 4))) := ⟨_, rfl⟩
              rw [← hV3]
              have hb_ : Below w2d.heap.size w2d V3 := by rw [hV3]; exact (below_alloc (below_alloc (Below.refl _ _) (.cells #[.int .u8 97] 5 (1, 2))) (.cells #[.int .u8 110, .int .u8 101, .int .u8 119] 5 (3, 4)))
              replace HS := Aside0.mk (Kd.C_below HS.out hb_)
              replace HB := Aside0.mk (below_then HB.out HB.out.size hb_)
              have LA : Aside0 (V3.heap[w2d.heap.size]? = some (.cells #[.int .u8 97] 5 (1, 2))) := Aside0.mk (by rw [hV3]; have h_ := blk_alloc (heap_alloc_self w2d (.cells #[.int .u8 97] 5 (1, 2))) (.cells #[.int .u8 110, .int .u8 101, .int .u8 119] 5 (3, 4)); simpa using h_)
              have LW : Aside0 (V3.heap[w2d.heap.size + 1]? = some (.cells #[.int .u8 110, .int .u8 101, .int .u8 119] 5 (3, 4))) := Aside0.mk (by rw [hV3]; have h_ := heap_alloc_self (w2d.alloc (.cells #[.int .u8 97] 5 (1, 2))) (.cells #[.int .u8 110, .int .u8 101, .int .u8 119] 5 (3, 4)); simpa using h_)
              clear hV3 hb_
              have HFA := Aside0.mk (forms_a 8 (by have := HM.out; omega) (by have := HM.out; omega))
              refine (put_n (l' := (fm 8).set 0 ⟨[97], [110, 101, 119]⟩) (r := ⟨0, [0], 8⟩) HS.out Hc.out (lit_u8 [97] LA.out (by decide) rfl) (lit_u8 [110, 101, 119] LW.out (by decide) rfl) (fm_v 8) (by rw [fm_len]; have := HM.out; omega) (by decide) (by decide) (eP_eq HFA.out.1) (fm_len 8) rfl rfl).mono ?_
              rintro e w3 ⟨A2, c2, Av2, cv2, rfl, hc2, hC2, hV2, hb_⟩
              clear LA LW
              replace HS := Aside0.mk (Kd.C_below HS.out hb_)
              replace HB := Aside0.mk (below_then HB.out HB.out.size hb_)
              rw [show ((fm 8).set 0 (⟨[97], [110, 101, 119]⟩ : S32)).length = 8 from by rw [List.length_set, fm_len]]
              simp only [List.length_cons, List.length_nil, Nat.zero_add, Nat.reduceAdd]
              have H2 := Aside0.mk (hC2)
              have CV2 := Aside0.mk (hV2)
              have Hc2 := Aside0.mk hc2
              have q1 := Kd.C_string (P := Try.prog) (A := Av2) (c := cv2) Try.underlying24 Try.underlying5 Try.underlying9 (Kd.C_alloc CV2.out (.cells #[.int .i64 0, .slice Av2 1 cv2, .int .i64 8] 26))
              simp only [List.length_cons, List.length_nil, Nat.zero_add, Nat.reduceAdd] at q1
              have j1 : strOfNums [0] = ⟨#[0]⟩ := rfl
              have j2 : strOfNums [110, 101, 119] = ⟨#[110, 101, 119]⟩ := rfl
              have hf1 := field1
              have e8 : (if (8 : Int) < (i : Int) then (8 : Int) else (i : Int)) = 8 := by have := HM.out; split <;> omega
              clear hc2 hC2 hV2 hb_
              go_wp2_with fail
              clear q1 e8
              obtain ⟨V4, hV4⟩ : ∃ V_, V_ = ((w3.alloc (.cells #[.int .i64 0, .slice Av2 1 cv2, .int .i64 8] 26)).alloc (.cells #[.int .u8 97] 5 (1, 2))) := ⟨_, rfl⟩
              rw [← hV4]
              have hb_ : Below w3.heap.size w3 V4 := by rw [hV4]; exact (below_alloc (below_alloc (Below.refl _ _) (.cells #[.int .i64 0, .slice Av2 1 cv2, .int .i64 8] 26)) (.cells #[.int .u8 97] 5 (1, 2)))
              replace HS := Aside0.mk (Kd.C_below HS.out hb_)
              replace HB := Aside0.mk (below_then HB.out HB.out.size hb_)
              replace H2 := Aside0.mk (Kd.C_below H2.out hb_)
              replace CV2 := Aside0.mk (Kd.C_below CV2.out hb_)
              have BQ : Aside0 (V4.heap[w3.heap.size]? = some (.cells #[.int .i64 0, .slice Av2 1 cv2, .int .i64 8] 26 (0, 0))) := Aside0.mk (by rw [hV4]; have h_ := blk_alloc (heap_alloc_self w3 (.cells #[.int .i64 0, .slice Av2 1 cv2, .int .i64 8] 26)) (.cells #[.int .u8 97] 5 (1, 2)); simpa using h_)
              have LB : Aside0 (V4.heap[w3.heap.size + 1]? = some (.cells #[.int .u8 97] 5 (1, 2))) := Aside0.mk (by rw [hV4]; have h_ := heap_alloc_self (w3.alloc (.cells #[.int .i64 0, .slice Av2 1 cv2, .int .i64 8] 26)) (.cells #[.int .u8 97] 5 (1, 2)); simpa using h_)
              clear hV4 hb_
              refine (get_n (l := (fm 8).set 0 ⟨[97], [110, 101, 119]⟩) (r := ⟨0, [110, 101, 119], 0⟩) (m := 3) H2.out Hc2.out (lit_u8 [97] LB.out (by decide) rfl) (fm_w 8) (e26_eq HFA.out.2) (by rw [List.length_set, fm_len]) rfl rfl).mono ?_
              rintro e w4 ⟨Av3, cv3, rfl, hV3, hb_⟩
              clear BQ LB H2 CV2
              replace HS := Aside0.mk (Kd.C_below HS.out hb_)
              replace HB := Aside0.mk (below_then HB.out HB.out.size hb_)
              have q1 := Kd.C_string (P := Try.prog) (A := Av3) (c := cv3) Try.underlying24 Try.underlying5 Try.underlying9 hV3
              clear hb_ hV3
              go_wp2_with fail
              clear q1
              obtain ⟨V5, hV5⟩ : ∃ V_, V_ = (w4.alloc (.cells #[.int .u8 122, .int .u8 122] 5 (2, 3))) := ⟨_, rfl⟩
              rw [← hV5]
              have hb_ : Below w4.heap.size w4 V5 := by rw [hV5]; exact (below_alloc (Below.refl _ _) (.cells #[.int .u8 122, .int .u8 122] 5 (2, 3)))
              replace HS := Aside0.mk (Kd.C_below HS.out hb_)
              replace HB := Aside0.mk (below_then HB.out HB.out.size hb_)
              have LZ : Aside0 (V5.heap[w4.heap.size]? = some (.cells #[.int .u8 122, .int .u8 122] 5 (2, 3))) := Aside0.mk (by rw [hV5]; have h_ := heap_alloc_self w4 (.cells #[.int .u8 122, .int .u8 122] 5 (2, 3)); simpa using h_)
              clear hV5 hb_
              refine (get_n (l := fm 8) (r := ⟨5, [], 0⟩) (m := 0) HS.out Hc.out (lit_u8 [122, 122] LZ.out (by decide) rfl) (fun x hx => (fm_v 8 x hx).2) (e26_eq (forms_zz 8 (by have := HM.out; omega))) (fm_len 8) rfl rfl).mono ?_
              rintro e w5 ⟨Av5, cv5, rfl, hV5, hb_⟩
              clear LZ HS
              replace HB := Aside0.mk (below_then HB.out HB.out.size hb_)
              clear hb_ hV5
              have hf0 := field0
              go_wp2_with fail
              refine (awake9 w5).mono ?_
              rintro e w6 ⟨rfl, hb_⟩
              replace HB := Aside0.mk (below_then HB.out HB.out.size hb_)
              clear hb_
              go_wp2_with fail
              go_ret
              exact ⟨rfl, HB.out⟩
            · rcases Nat.eq_zero_or_pos i with q4 | q4
              · skip
                have kK : Kn ≤ 8 := by omega
                have kV : V ≤ 16 := by omega
                obtain rfl : i = 0 := by assumption
                obtain rfl : M = 0 := by have := HM.out; omega
                have d1 : decide ((8 : Int) < (Kn : Int)) = false := decide_eq_false (by omega)
                have d2 : decide ((16 : Int) < (V : Int)) = false := decide_eq_false (by omega)
                obtain ⟨W1, hW1⟩ : ∃ V_, V_ = ((wr.alloc (.cells (madeCells #[.int .u8 0] Kn) 5)).alloc (.cells (madeCells #[.int .u8 0] V) 5)).drew := ⟨_, rfl⟩
                have hb_ : Below wr.heap.size wr W1 := by rw [hW1]; exact below_drew1 (below_alloc (below_alloc (Below.refl _ _) _) _)
                have LK : W1.heap[wr.heap.size]? = some (.cells (madeCells #[.int .u8 0] Kn) 5 (0, 0)) := by rw [hW1]; show ((wr.alloc (.cells (madeCells #[.int .u8 0] Kn) 5)).alloc (.cells (madeCells #[.int .u8 0] V) 5)).heap[_]? = _; have h_ := blk_alloc (heap_alloc_self wr (.cells (madeCells #[.int .u8 0] Kn) 5)) (.cells (madeCells #[.int .u8 0] V) 5); simpa using h_
                have LV : W1.heap[wr.heap.size + 1]? = some (.cells (madeCells #[.int .u8 0] V) 5 (0, 0)) := by rw [hW1]; show ((wr.alloc (.cells (madeCells #[.int .u8 0] Kn) 5)).alloc (.cells (madeCells #[.int .u8 0] V) 5)).heap[_]? = _; have h_ := heap_alloc_self (wr.alloc (.cells (madeCells #[.int .u8 0] Kn) 5)) (.cells (madeCells #[.int .u8 0] V) 5); simpa using h_
                have CK := Aside0.mk (made_C LK (by omega))
                have CV := Aside0.mk (made_C LV (by omega))
                have HS := Aside0.mk (Kd.C_below HI.out.2.1 hb_)
                have HB := Aside0.mk (below_then HI.out.2.2 HI.out.2.2.size hb_)
                have Hc := Aside0.mk HI.out.1
                clear LK LV hb_ HI mK mV
                go_wp2_with fail
                rw [← hW1]
                clear hW1
                refine (put_n (l' := (⟨zs Kn, zs V⟩ :: fm 0)) (r := ⟨0, [], 1⟩) HS.out Hc.out CK.out CV.out (fm_v 0) (by rw [fm_len]; have := HM.out; omega) (by simp only [zs, List.length_replicate]; omega) (by simp only [zs, List.length_replicate]; omega) (by rw [putR, if_neg (by simp only [zs, List.length_replicate]; omega), beq_iff_eq.1 (forms_zero 0 (by have := HM.out; omega) Kn (by omega)), if_neg (by decide), fm_len, if_neg (by have := HM.out; omega)]; rfl) (fm_len 0) List.length_replicate List.length_replicate).mono ?_
                rintro e w1 ⟨A1, c1, Av, cv, rfl, hc1, hC1, hV1, hb_⟩
                have hb_ := below_alloc hb_ (.cells #[.int .i64 0, .slice Av 0 cv, .int .i64 1] 26)
                replace CK := Aside0.mk (Kd.C_below CK.out hb_)
                replace CV := Aside0.mk (Kd.C_below CV.out hb_)
                replace HS := Aside0.mk (Kd.C_below HS.out hb_)
                replace HB := Aside0.mk (below_then HB.out HB.out.size hb_)
                have H1 := Aside0.mk (Kd.C_alloc hC1 (.cells #[.int .i64 0, .slice Av 0 cv, .int .i64 1] 26))
                have BR := Aside0.mk (heap_alloc_self w1 (.cells #[.int .i64 0, .slice Av 0 cv, .int .i64 1] 26))
                have Hc1 := Aside0.mk hc1
                clear hb_ hc1 hC1 hV1
                rw [show (⟨zs Kn, zs V⟩ :: fm 0 : List S32).length = 1 from by rw [List.length_cons, fm_len]]
                go_wp2_with fail
                generalize w1.alloc (.cells #[.int .i64 0, .slice Av 0 cv, .int .i64 1] 26) = V2 at CK CV HS HB H1 BR ⊢
                obtain ⟨ad, K0, k0, K1, k1, e_, g0, g1, l0, r0, l1, r1⟩ := at_T32 H1.out 0 (by decide) (by simp)
                cases e_
                clear g1 l0 l1 r1
                simp only [Int.toNat_zero, Nat.zero_mul, Addr.add_zero'] at g0
                rw [show rd_T32 (⟨zs Kn, zs V⟩ :: fm 0) 0 = ⟨zs Kn, zs V⟩ from rfl] at g0 r0
                have z1 : (zs Kn).length = Kn := List.length_replicate
                have z2 : (zs V).length = V := List.length_replicate
                simp only [z1] at g0 r0
                have hbd := below_drew1 (Below.refl V2.heap.size V2)
                obtain ⟨b0, b1, b2, b3⟩ := blk_cells3 BR.out
                clear b3
                have cv_ := CV.out
                rw [z2] at cv_
                have ck_ := CK.out
                rw [z1] at ck_
                have HG := Aside0.mk (Kd.C_below H1.out hbd)
                have HKd := Aside0.mk (Kd.C_below CK.out hbd)
                have HG0 := Aside0.mk g0
                have HR0 := Aside0.mk (Kd.C_below r0 hbd)
                have HCV := Aside0.mk (Kd.C_below cv_ hbd)
                have HCK := Aside0.mk (Kd.C_below ck_ hbd)
                have B2 := Aside0.mk b2
                have e20 : IntKind.i64.wrap 1 = 1 := by rw [IntKind.wrap_i64]; omega
                have hf1 := field1
                have Hbd := Aside0.mk hbd
                clear g0 r0 cv_ ck_ hbd b0 b1 b2
                go_wp2_with fail
                refine start_ (n := 34) (S := fun w' => w'.cell? ⟨w1.heap.size, 2, none⟩ = some (.int .i64 1) ∧ w'.cell? ad = some (.slice K0 Kn k0) ∧ (convert 24 9 (.slice K0 Kn k0)).run Try.prog w' = .ok (.string (strOfNums (zs Kn))) w' ∧ (convert 24 9 (.slice (some ⟨wr.heap.size, 0, none⟩) Kn Kn)).run Try.prog w' = .ok (.string (strOfNums (zs Kn))) w' ∧ (convert 24 9 (.slice (some ⟨wr.heap.size + 1, 0, none⟩) V V)).run Try.prog w' = .ok (.string (strOfNums (zs V))) w') (ds := []) #[false, false, false, false, false, false, false, false, false, false, false, false, false, false, false, false, false, false, false, false, false, false, false, false, false, false, false, false, false, false, false, false, false, false] (by kernel_rfl) rfl rfl ⟨B2.out, HG0.out, (Kd.C_string (P := Try.prog) (A := K0) (c := k0) Try.underlying24 Try.underlying5 Try.underlying9 (HR0.out)), (Kd.C_string (P := Try.prog) (A := (some ⟨wr.heap.size, 0, none⟩)) (c := Kn) Try.underlying24 Try.underlying5 Try.underlying9 (HCK.out)), (Kd.C_string (P := Try.prog) (A := (some ⟨wr.heap.size + 1, 0, none⟩)) (c := V) Try.underlying24 Try.underlying5 Try.underlying9 (HCV.out))⟩ (fun hHeld => ?_)
                refine pure_ (i := 0) (N := some 91) (v := ?_) (a' := ?_) #[true, false, false, false, false, false, false, false, false, false, false, false, false, false, false, false, false, false, false, false, false, false, false, false, false, false, false, false, false, false, false, false, false, false] rfl rfl (by kernel_rfl) (fun _ _ _ h => h) (Or.inl ⟨by rfl, ?_⟩) ?_ ?_
                rotate_left
                · intro w'
                  go_simp
                  with_reducible rfl
                rotate_left
                · simp only [Act.put, List.setIfInBounds_toArray, List.set_cons_zero, List.set_cons_succ, i64_w, i32_w]
                  rfl
                refine pure_ (i := 1) (N := some 92) (v := ?_) (a' := ?_) #[true, true, false, false, false, false, false, false, false, false, false, false, false, false, false, false, false, false, false, false, false, false, false, false, false, false, false, false, false, false, false, false, false, false] rfl rfl (by kernel_rfl) (fun _ _ _ h => h) (Or.inl ⟨by rfl, ?_⟩) ?_ ?_
                rotate_left
                · intro w'
                  go_simp
                  with_reducible rfl
                rotate_left
                · simp only [Act.put, List.setIfInBounds_toArray, List.set_cons_zero, List.set_cons_succ, i64_w, i32_w]
                  rfl
                refine pure_ (i := 2) (N := some 93) (v := ?_) (a' := ?_) #[true, true, true, false, false, false, false, false, false, false, false, false, false, false, false, false, false, false, false, false, false, false, false, false, false, false, false, false, false, false, false, false, false, false] rfl rfl (by kernel_rfl) (fun _ _ _ h => h) (Or.inl ⟨by rfl, ?_⟩) ?_ ?_
                rotate_left
                · intro w'
                  go_simp
                  with_reducible rfl
                rotate_left
                · simp only [Act.put, List.setIfInBounds_toArray, List.set_cons_zero, List.set_cons_succ, i64_w, i32_w]
                  rfl
                refine pure_ (i := 3) (N := some 94) (v := ?_) (a' := ?_) #[true, true, true, true, false, false, false, false, false, false, false, false, false, false, false, false, false, false, false, false, false, false, false, false, false, false, false, false, false, false, false, false, false, false] rfl rfl (by kernel_rfl) (fun _ _ _ h => h) (Or.inl ⟨by rfl, ?_⟩) ?_ ?_
                rotate_left
                · intro w'
                  go_simp
                  with_reducible rfl
                rotate_left
                · simp only [Act.put, List.setIfInBounds_toArray, List.set_cons_zero, List.set_cons_succ, i64_w, i32_w]
                  rfl
                refine pure_ (i := 5) (N := some 96) (v := ?_) (a' := ?_) #[true, true, true, true, false, true, false, false, false, false, false, false, false, false, false, false, false, false, false, false, false, false, false, false, false, false, false, false, false, false, false, false, false, false] rfl rfl (by kernel_rfl) (fun _ _ _ h => h) (Or.inl ⟨by rfl, ?_⟩) ?_ ?_
                rotate_left
                · intro w'
                  go_simp
                  with_reducible rfl
                rotate_left
                · simp only [Act.put, List.setIfInBounds_toArray, List.set_cons_zero, List.set_cons_succ, i64_w, i32_w]
                  rfl
                refine pure_ (i := 6) (N := some 97) (v := ?_) (a' := ?_) #[true, true, true, true, false, true, true, false, false, false, false, false, false, false, false, false, false, false, false, false, false, false, false, false, false, false, false, false, false, false, false, false, false, false] rfl rfl (by kernel_rfl) (fun _ _ _ h => h) (Or.inl ⟨by rfl, ?_⟩) ?_ ?_
                rotate_left
                · intro w'
                  go_simp
                  with_reducible rfl
                rotate_left
                · simp only [Act.put, List.setIfInBounds_toArray, List.set_cons_zero, List.set_cons_succ, i64_w, i32_w]
                  rfl
                refine take_ (i := 4) (N := some 95) (v := ?_) (a' := ?_) #[true, true, true, true, true, true, true, false, false, false, false, false, false, false, false, false, false, false, false, false, false, false, false, false, false, false, false, false, false, false, false, false, false, false] rfl rfl (by kernel_rfl) (fun _ _ _ h => h) (Or.inl ⟨by rfl, ?_⟩) hHeld ?_ ?_
                rotate_left
                · rintro w' ⟨s0, s1, s2, s3, s4⟩
                  go_simp
                  with_reducible rfl
                rotate_left
                · simp only [Act.put, List.setIfInBounds_toArray, List.set_cons_zero, List.set_cons_succ, i64_w, i32_w]
                  rfl
                refine pure_ (i := 7) (N := some 98) (v := ?_) (a' := ?_) #[true, true, true, true, true, true, true, true, false, false, false, false, false, false, false, false, false, false, false, false, false, false, false, false, false, false, false, false, false, false, false, false, false, false] rfl rfl (by kernel_rfl) (fun _ _ _ h => h) (Or.inl ⟨by rfl, ?_⟩) ?_ ?_
                rotate_left
                · intro w'
                  go_simp
                  with_reducible rfl
                rotate_left
                · simp only [Act.put, List.setIfInBounds_toArray, List.set_cons_zero, List.set_cons_succ, i64_w, i32_w]
                  rfl
                refine pure_ (i := 8) (N := some 99) (v := ?_) (a' := ?_) #[true, true, true, true, true, true, true, true, true, false, false, false, false, false, false, false, false, false, false, false, false, false, false, false, false, false, false, false, false, false, false, false, false, false] rfl rfl (by kernel_rfl) (fun _ _ _ h => h) (Or.inl ⟨by rfl, ?_⟩) ?_ ?_
                rotate_left
                · intro w'
                  go_simp
                  with_reducible rfl
                rotate_left
                · simp only [Act.put, List.setIfInBounds_toArray, List.set_cons_zero, List.set_cons_succ, i64_w, i32_w]
                  rfl
                refine pure_ (i := 9) (N := some 100) (v := ?_) (a' := ?_) #[true, true, true, true, true, true, true, true, true, true, false, false, false, false, false, false, false, false, false, false, false, false, false, false, false, false, false, false, false, false, false, false, false, false] rfl rfl (by kernel_rfl) (fun _ _ _ h => h) (Or.inl ⟨by rfl, ?_⟩) ?_ ?_
                rotate_left
                · intro w'
                  go_simp
                  with_reducible rfl
                rotate_left
                · simp only [Act.put, List.setIfInBounds_toArray, List.set_cons_zero, List.set_cons_succ, i64_w, i32_w]
                  rfl
                refine pure_ (i := 10) (N := some 101) (v := ?_) (a' := ?_) #[true, true, true, true, true, true, true, true, true, true, true, false, false, false, false, false, false, false, false, false, false, false, false, false, false, false, false, false, false, false, false, false, false, false] rfl rfl (by kernel_rfl) (fun _ _ _ h => h) (Or.inl ⟨by rfl, ?_⟩) ?_ ?_
                rotate_left
                · intro w'
                  go_simp
                  with_reducible rfl
                rotate_left
                · simp only [Act.put, List.setIfInBounds_toArray, List.set_cons_zero, List.set_cons_succ, i64_w, i32_w]
                  rfl
                refine pure_ (i := 14) (N := some 105) (v := ?_) (a' := ?_) #[true, true, true, true, true, true, true, true, true, true, true, false, false, false, true, false, false, false, false, false, false, false, false, false, false, false, false, false, false, false, false, false, false, false] rfl rfl (by kernel_rfl) (fun _ _ _ h => h) (Or.inl ⟨by rfl, ?_⟩) ?_ ?_
                rotate_left
                · intro w'
                  go_simp
                  with_reducible rfl
                rotate_left
                · simp only [Act.put, List.setIfInBounds_toArray, List.set_cons_zero, List.set_cons_succ, i64_w, i32_w]
                  rfl
                refine take_ (i := 15) (N := some 106) (v := ?_) (a' := ?_) #[true, true, true, true, true, true, true, true, true, true, true, false, false, false, true, true, false, false, false, false, false, false, false, false, false, false, false, false, false, false, false, false, false, false] rfl rfl (by kernel_rfl) (fun _ _ _ h => h) (Or.inl ⟨by rfl, ?_⟩) hHeld ?_ ?_
                rotate_left
                · rintro w' ⟨s0, s1, s2, s3, s4⟩
                  go_simp
                  with_reducible rfl
                rotate_left
                · simp only [Act.put, List.setIfInBounds_toArray, List.set_cons_zero, List.set_cons_succ, i64_w, i32_w]
                  rfl
                refine one_ (i := 11) (N := some 102) #[true, true, true, true, true, true, true, true, true, true, true, true, false, false, true, true, false, false, false, false, false, false, false, false, false, false, false, false, false, false, false, false, false, false] rfl rfl (by kernel_rfl) (by decide) (fun K_ hK => ?_)
                refine goes_ Try.func8 (by kernel_rfl) rfl #[.slice (some ad) (1) c1, .slice (some ⟨wr.heap.size, 0, none⟩) Kn Kn] (by rfl) rfl rfl (by simp only [List.map_toArray, List.map_cons, List.map_nil]; rfl) ?_
                with_reducible refine (get_n (l := ⟨zs Kn, zs V⟩ :: fm 0) (r := ⟨0, zs V, 0⟩) (m := V) HG.out Hc1.out HKd.out (fm_v' 0 Kn V (by omega) (by omega)) (getR_head _ _ _) (by simp [fm_len]) (zs_len _) (zs_len _)).mono ?_
                rintro e w2 ⟨Av2, cv2, rfl, hV2, hb_⟩
                have q3 := (Kd.C_string (P := Try.prog) (A := Av2) (c := cv2) Try.underlying24 Try.underlying5 Try.underlying9 (hV2))
                have HX2 := Aside0.mk hb_
                clear hV2 hb_
                refine ⟨_, rfl, ?_⟩
                refine hK.out _ _ ⟨cell_old HX2.out hHeld.1, cell_old HX2.out hHeld.2.1, (Kd.C_string (P := Try.prog) (A := K0) (c := k0) Try.underlying24 Try.underlying5 Try.underlying9 (Kd.C_below HR0.out HX2.out)), (Kd.C_string (P := Try.prog) (A := (some ⟨wr.heap.size, 0, none⟩)) (c := Kn) Try.underlying24 Try.underlying5 Try.underlying9 (Kd.C_below HCK.out HX2.out)), (Kd.C_string (P := Try.prog) (A := (some ⟨wr.heap.size + 1, 0, none⟩)) (c := V) Try.underlying24 Try.underlying5 Try.underlying9 (Kd.C_below HCV.out HX2.out))⟩ (fun hHeld => ?_)
                clear hK K_
                refine norm_ (a' := ?_) ?_ ?_
                rotate_left
                · show Act.put _ (some 102) _ = _
                  simp only [Act.put, List.setIfInBounds_toArray, List.set_cons_zero, List.set_cons_succ, i64_w, i32_w]
                  rfl
                refine pure_ (i := 12) (N := some 103) (v := ?_) (a' := ?_) #[true, true, true, true, true, true, true, true, true, true, true, true, true, false, true, true, false, false, false, false, false, false, false, false, false, false, false, false, false, false, false, false, false, false] rfl rfl (by kernel_rfl) (fun _ _ _ h => h) (Or.inl ⟨by rfl, ?_⟩) ?_ ?_
                rotate_left
                · intro w'
                  go_simp
                  with_reducible rfl
                rotate_left
                · simp only [Act.put, List.setIfInBounds_toArray, List.set_cons_zero, List.set_cons_succ, i64_w, i32_w]
                  rfl
                refine one_ (i := 13) (N := some 104) #[true, true, true, true, true, true, true, true, true, true, true, true, true, true, true, true, false, false, false, false, false, false, false, false, false, false, false, false, false, false, false, false, false, false] rfl rfl (by kernel_rfl) (by decide) (fun K_ hK => ?_)
                refine value_ (w1 := ?_) (v := ?_) (by rfl) rfl ?_ ?_
                rotate_left 2
                · go_simp
                  constructor
                  · rfl
                  · rfl
                refine hK.out _ _ ⟨hHeld.1, hHeld.2.1, hHeld.2.2.1, hHeld.2.2.2.1, hHeld.2.2.2.2⟩ (fun hHeld => ?_)
                clear hK K_
                refine norm_ (a' := ?_) ?_ ?_
                rotate_left
                · show Act.put _ (some 104) _ = _
                  simp only [Act.put, List.setIfInBounds_toArray, List.set_cons_zero, List.set_cons_succ, i64_w, i32_w]
                  rfl
                refine pure_ (i := 16) (N := some 107) (v := ?_) (a' := ?_) #[true, true, true, true, true, true, true, true, true, true, true, true, true, true, true, true, true, false, false, false, false, false, false, false, false, false, false, false, false, false, false, false, false, false] rfl rfl (by kernel_rfl) (fun _ _ _ h => h) (Or.inl ⟨by rfl, ?_⟩) ?_ ?_
                rotate_left
                · intro w'
                  go_simp
                  with_reducible rfl
                rotate_left
                · simp only [Act.put, List.setIfInBounds_toArray, List.set_cons_zero, List.set_cons_succ, i64_w, i32_w]
                  rfl
                refine pure_ (i := 17) (N := some 108) (v := ?_) (a' := ?_) #[true, true, true, true, true, true, true, true, true, true, true, true, true, true, true, true, true, true, false, false, false, false, false, false, false, false, false, false, false, false, false, false, false, false] rfl rfl (by kernel_rfl) (fun _ _ _ h => h) (Or.inl ⟨by rfl, ?_⟩) ?_ ?_
                rotate_left
                · intro w'
                  go_simp
                  with_reducible rfl
                rotate_left
                · simp only [Act.put, List.setIfInBounds_toArray, List.set_cons_zero, List.set_cons_succ, i64_w, i32_w]
                  rfl
                refine pure_ (i := 18) (N := some 109) (v := ?_) (a' := ?_) #[true, true, true, true, true, true, true, true, true, true, true, true, true, true, true, true, true, true, true, false, false, false, false, false, false, false, false, false, false, false, false, false, false, false] rfl rfl (by kernel_rfl) (fun _ _ _ h => h) (Or.inl ⟨by rfl, ?_⟩) ?_ ?_
                rotate_left
                · intro w'
                  go_simp
                  with_reducible rfl
                rotate_left
                · simp only [Act.put, List.setIfInBounds_toArray, List.set_cons_zero, List.set_cons_succ, i64_w, i32_w]
                  rfl
                refine pure_ (i := 19) (N := some 110) (v := ?_) (a' := ?_) #[true, true, true, true, true, true, true, true, true, true, true, true, true, true, true, true, true, true, true, true, false, false, false, false, false, false, false, false, false, false, false, false, false, false] rfl rfl (by kernel_rfl) (fun _ _ _ h => h) (Or.inl ⟨by rfl, ?_⟩) ?_ ?_
                rotate_left
                · intro w'
                  go_simp
                  with_reducible rfl
                rotate_left
                · simp only [Act.put, List.setIfInBounds_toArray, List.set_cons_zero, List.set_cons_succ, i64_w, i32_w]
                  rfl
                refine pure_ (i := 20) (N := some 111) (v := ?_) (a' := ?_) #[true, true, true, true, true, true, true, true, true, true, true, true, true, true, true, true, true, true, true, true, true, false, false, false, false, false, false, false, false, false, false, false, false, false] rfl rfl (by kernel_rfl) (fun _ _ _ h => h) (Or.inl ⟨by rfl, ?_⟩) ?_ ?_
                rotate_left
                · intro w'
                  go_simp
                  with_reducible rfl
                rotate_left
                · simp only [Act.put, List.setIfInBounds_toArray, List.set_cons_zero, List.set_cons_succ, i64_w, i32_w]
                  rfl
                refine pure_ (i := 21) (N := some 112) (v := ?_) (a' := ?_) #[true, true, true, true, true, true, true, true, true, true, true, true, true, true, true, true, true, true, true, true, true, true, false, false, false, false, false, false, false, false, false, false, false, false] rfl rfl (by kernel_rfl) (fun _ _ _ h => h) (Or.inl ⟨by rfl, ?_⟩) ?_ ?_
                rotate_left
                · intro w'
                  go_simp
                  with_reducible rfl
                rotate_left
                · simp only [Act.put, List.setIfInBounds_toArray, List.set_cons_zero, List.set_cons_succ, i64_w, i32_w]
                  rfl
                refine pure_ (i := 22) (N := some 113) (v := ?_) (a' := ?_) #[true, true, true, true, true, true, true, true, true, true, true, true, true, true, true, true, true, true, true, true, true, true, true, false, false, false, false, false, false, false, false, false, false, false] rfl rfl (by kernel_rfl) (fun _ _ _ h => h) (Or.inl ⟨by rfl, ?_⟩) ?_ ?_
                rotate_left
                · intro w'
                  go_simp
                  with_reducible rfl
                rotate_left
                · simp only [Act.put, List.setIfInBounds_toArray, List.set_cons_zero, List.set_cons_succ, i64_w, i32_w]
                  rfl
                refine pure_ (i := 23) (N := some 114) (v := ?_) (a' := ?_) #[true, true, true, true, true, true, true, true, true, true, true, true, true, true, true, true, true, true, true, true, true, true, true, true, false, false, false, false, false, false, false, false, false, false] rfl rfl (by kernel_rfl) (fun _ _ _ h => h) (Or.inl ⟨by rfl, ?_⟩) ?_ ?_
                rotate_left
                · intro w'
                  go_simp
                  with_reducible rfl
                rotate_left
                · simp only [Act.put, List.setIfInBounds_toArray, List.set_cons_zero, List.set_cons_succ, i64_w, i32_w]
                  rfl
                refine pure_ (i := 24) (N := some 115) (v := ?_) (a' := ?_) #[true, true, true, true, true, true, true, true, true, true, true, true, true, true, true, true, true, true, true, true, true, true, true, true, true, false, false, false, false, false, false, false, false, false] rfl rfl (by kernel_rfl) (fun _ _ _ h => h) (Or.inl ⟨by rfl, ?_⟩) ?_ ?_
                rotate_left
                · intro w'
                  go_simp
                  with_reducible rfl
                rotate_left
                · simp only [Act.put, List.setIfInBounds_toArray, List.set_cons_zero, List.set_cons_succ, i64_w, i32_w]
                  rfl
                refine pure_ (i := 25) (N := some 116) (v := ?_) (a' := ?_) #[true, true, true, true, true, true, true, true, true, true, true, true, true, true, true, true, true, true, true, true, true, true, true, true, true, true, false, false, false, false, false, false, false, false] rfl rfl (by kernel_rfl) (fun _ _ _ h => h) (Or.inl ⟨by rfl, ?_⟩) ?_ ?_
                rotate_left
                · intro w'
                  go_simp
                  with_reducible rfl
                rotate_left
                · simp only [Act.put, List.setIfInBounds_toArray, List.set_cons_zero, List.set_cons_succ, i64_w, i32_w]
                  rfl
                refine pure_ (i := 26) (N := some 117) (v := ?_) (a' := ?_) #[true, true, true, true, true, true, true, true, true, true, true, true, true, true, true, true, true, true, true, true, true, true, true, true, true, true, true, false, false, false, false, false, false, false] rfl rfl (by kernel_rfl) (fun _ _ _ h => h) (Or.inl ⟨by rfl, ?_⟩) ?_ ?_
                rotate_left
                · intro w'
                  go_simp
                  with_reducible rfl
                rotate_left
                · simp only [Act.put, List.setIfInBounds_toArray, List.set_cons_zero, List.set_cons_succ, i64_w, i32_w]
                  rfl
                refine pure_ (i := 29) (N := some 120) (v := ?_) (a' := ?_) #[true, true, true, true, true, true, true, true, true, true, true, true, true, true, true, true, true, true, true, true, true, true, true, true, true, true, true, false, false, true, false, false, false, false] rfl rfl (by kernel_rfl) (fun _ _ _ h => h) (Or.inl ⟨by rfl, ?_⟩) ?_ ?_
                rotate_left
                · intro w'
                  go_simp
                  with_reducible rfl
                rotate_left
                · simp only [Act.put, List.setIfInBounds_toArray, List.set_cons_zero, List.set_cons_succ, i64_w, i32_w]
                  rfl
                refine take_ (i := 27) (N := some 118) (v := ?_) (a' := ?_) #[true, true, true, true, true, true, true, true, true, true, true, true, true, true, true, true, true, true, true, true, true, true, true, true, true, true, true, true, false, true, false, false, false, false] rfl rfl (by kernel_rfl) (fun _ _ _ h => h) (Or.inl ⟨by rfl, ?_⟩) hHeld ?_ ?_
                rotate_left
                · rintro w' ⟨s0, s1, s2, s3, s4⟩
                  go_simp
                  with_reducible rfl
                rotate_left
                · simp only [Act.put, List.setIfInBounds_toArray, List.set_cons_zero, List.set_cons_succ, i64_w, i32_w]
                  rfl
                refine take_ (i := 28) (N := some 119) (v := ?_) (a' := ?_) #[true, true, true, true, true, true, true, true, true, true, true, true, true, true, true, true, true, true, true, true, true, true, true, true, true, true, true, true, true, true, false, false, false, false] rfl rfl (by kernel_rfl) (fun _ _ _ h => h) (Or.inl ⟨by rfl, ?_⟩) hHeld ?_ ?_
                rotate_left
                · rintro w' ⟨s0, s1, s2, s3, s4⟩
                  go_simp
                  with_reducible rfl
                rotate_left
                · simp only [Act.put, List.setIfInBounds_toArray, List.set_cons_zero, List.set_cons_succ, i64_w, i32_w]
                  rfl
                refine take_ (i := 30) (N := some 121) (v := ?_) (a' := ?_) #[true, true, true, true, true, true, true, true, true, true, true, true, true, true, true, true, true, true, true, true, true, true, true, true, true, true, true, true, true, true, true, false, false, false] rfl rfl (by kernel_rfl) (fun _ _ _ h => h) (Or.inl ⟨by rfl, ?_⟩) hHeld ?_ ?_
                rotate_left
                · rintro w' ⟨s0, s1, s2, s3, s4⟩
                  go_simp
                  with_reducible rfl
                rotate_left
                · simp only [Act.put, List.setIfInBounds_toArray, List.set_cons_zero, List.set_cons_succ, i64_w, i32_w]
                  rfl
                refine pure_ (i := 31) (N := some 122) (v := ?_) (a' := ?_) #[true, true, true, true, true, true, true, true, true, true, true, true, true, true, true, true, true, true, true, true, true, true, true, true, true, true, true, true, true, true, true, true, false, false] rfl rfl (by kernel_rfl) (fun _ _ _ h => h) (Or.inl ⟨by rfl, ?_⟩) ?_ ?_
                rotate_left
                · intro w'
                  go_simp
                  with_reducible rfl
                rotate_left
                · simp only [Act.put, List.setIfInBounds_toArray, List.set_cons_zero, List.set_cons_succ, i64_w, i32_w]
                  rfl
                refine pure_ (i := 32) (N := some 123) (v := ?_) (a' := ?_) #[true, true, true, true, true, true, true, true, true, true, true, true, true, true, true, true, true, true, true, true, true, true, true, true, true, true, true, true, true, true, true, true, true, false] rfl rfl (by kernel_rfl) (fun _ _ _ h => h) (Or.inl ⟨by rfl, ?_⟩) ?_ ?_
                rotate_left
                · intro w'
                  go_simp
                  with_reducible rfl
                rotate_left
                · simp only [Act.put, List.setIfInBounds_toArray, List.set_cons_zero, List.set_cons_succ, i64_w, i32_w]
                  rfl
                refine pure_ (i := 33) (N := some 124) (v := ?_) (a' := ?_) #[true, true, true, true, true, true, true, true, true, true, true, true, true, true, true, true, true, true, true, true, true, true, true, true, true, true, true, true, true, true, true, true, true, true] rfl rfl (by kernel_rfl) (fun _ _ _ h => h) (Or.inl ⟨by rfl, ?_⟩) ?_ ?_
                rotate_left
                · intro w'
                  go_simp
                  with_reducible rfl
                rotate_left
                · simp only [Act.put, List.setIfInBounds_toArray, List.set_cons_zero, List.set_cons_succ, i64_w, i32_w]
                  rfl
                refine done_ (by kernel_rfl) ?_
                have HBX := Aside0.mk (below_then Hbd.out Hbd.out.size HX2.out)
                replace CK := Aside0.mk (Kd.C_below CK.out HBX.out)
                replace CV := Aside0.mk (Kd.C_below CV.out HBX.out)
                replace HS := Aside0.mk (Kd.C_below HS.out HBX.out)
                replace HB := Aside0.mk (below_then HB.out HB.out.size HBX.out)
                replace H1 := Aside0.mk (Kd.C_below H1.out HBX.out)
                replace BR := Aside0.mk (blk3_keep BR.out HBX.out)
                clear q3 hHeld HG HKd HG0 HR0 HCV HCK HBX HX2 Hbd B2
                clear H1 BR CK CV
                have kc := conv_same
                go_wp2_with fail
                obtain ⟨V5, hV5⟩ : ∃ V_, V_ = (w2.alloc (.cells #[.int .u8 122, .int .u8 122] 5 (2, 3))) := ⟨_, rfl⟩
                rw [← hV5]
                have hb_ : Below w2.heap.size w2 V5 := by rw [hV5]; exact (below_alloc (Below.refl _ _) (.cells #[.int .u8 122, .int .u8 122] 5 (2, 3)))
                replace HS := Aside0.mk (Kd.C_below HS.out hb_)
                replace HB := Aside0.mk (below_then HB.out HB.out.size hb_)
                have LZ : Aside0 (V5.heap[w2.heap.size]? = some (.cells #[.int .u8 122, .int .u8 122] 5 (2, 3))) := Aside0.mk (by rw [hV5]; have h_ := heap_alloc_self w2 (.cells #[.int .u8 122, .int .u8 122] 5 (2, 3)); simpa using h_)
                clear hV5 hb_
                refine (get_n (l := fm 0) (r := ⟨5, [], 0⟩) (m := 0) HS.out Hc.out (lit_u8 [122, 122] LZ.out (by decide) rfl) (fun x hx => (fm_v 0 x hx).2) (e26_eq (forms_zz 0 (by have := HM.out; omega))) (fm_len 0) rfl rfl).mono ?_
                rintro e w5 ⟨Av5, cv5, rfl, hV5, hb_⟩
                clear LZ HS
                replace HB := Aside0.mk (below_then HB.out HB.out.size hb_)
                clear hb_ hV5
                have hf0 := field0
                go_wp2_with fail
                refine (awake9 w5).mono ?_
                rintro e w6 ⟨rfl, hb_⟩
                replace HB := Aside0.mk (below_then HB.out HB.out.size hb_)
                clear hb_
                go_wp2_with fail
                go_ret
                exact ⟨rfl, HB.out⟩
              · skip
                have kK : Kn ≤ 8 := by omega
                have kV : V ≤ 16 := by omega
                have kN : 0 < i ∧ i < 8 := by omega
                obtain rfl : i = M := by have := HM.out; omega
                have d1 : decide ((8 : Int) < (Kn : Int)) = false := decide_eq_false (by omega)
                have d2 : decide ((16 : Int) < (V : Int)) = false := decide_eq_false (by omega)
                have d3 : decide ((8 : Int) ≤ (i : Int)) = false := decide_eq_false (by omega)
                have d4 : decide ((0 : Int) < (i : Int)) = true := decide_eq_true (by omega)
                obtain ⟨W1, hW1⟩ : ∃ V_, V_ = ((wr.alloc (.cells (madeCells #[.int .u8 0] Kn) 5)).alloc (.cells (madeCells #[.int .u8 0] V) 5)).drew := ⟨_, rfl⟩
                have hb_ : Below wr.heap.size wr W1 := by rw [hW1]; exact below_drew1 (below_alloc (below_alloc (Below.refl _ _) _) _)
                have LK : W1.heap[wr.heap.size]? = some (.cells (madeCells #[.int .u8 0] Kn) 5 (0, 0)) := by rw [hW1]; show ((wr.alloc (.cells (madeCells #[.int .u8 0] Kn) 5)).alloc (.cells (madeCells #[.int .u8 0] V) 5)).heap[_]? = _; have h_ := blk_alloc (heap_alloc_self wr (.cells (madeCells #[.int .u8 0] Kn) 5)) (.cells (madeCells #[.int .u8 0] V) 5); simpa using h_
                have LV : W1.heap[wr.heap.size + 1]? = some (.cells (madeCells #[.int .u8 0] V) 5 (0, 0)) := by rw [hW1]; show ((wr.alloc (.cells (madeCells #[.int .u8 0] Kn) 5)).alloc (.cells (madeCells #[.int .u8 0] V) 5)).heap[_]? = _; have h_ := heap_alloc_self (wr.alloc (.cells (madeCells #[.int .u8 0] Kn) 5)) (.cells (madeCells #[.int .u8 0] V) 5); simpa using h_
                have CK := Aside0.mk (made_C LK (by omega))
                have CV := Aside0.mk (made_C LV (by omega))
                have HS := Aside0.mk (Kd.C_below HI.out.2.1 hb_)
                have HB := Aside0.mk (below_then HI.out.2.2 HI.out.2.2.size hb_)
                have Hc := Aside0.mk HI.out.1
                clear LK LV hb_ HI mK mV
                go_wp2_with fail
                rw [← hW1]
                clear hW1
                refine (put_n (l' := (⟨zs Kn, zs V⟩ :: fm i)) (r := ⟨0, [], ((i : Int) + 1)⟩) HS.out Hc.out CK.out CV.out (fm_v i) (by rw [fm_len]; have := HM.out; omega) (by simp only [zs, List.length_replicate]; omega) (by simp only [zs, List.length_replicate]; omega) (by rw [putR, if_neg (by simp only [zs, List.length_replicate]; omega), beq_iff_eq.1 (forms_zero i (by have := HM.out; omega) Kn (by omega)), if_neg (by decide), fm_len, if_neg (by have := HM.out; omega)]; rfl) (fm_len i) List.length_replicate List.length_replicate).mono ?_
                rintro e w1 ⟨A1, c1, Av, cv, rfl, hc1, hC1, hV1, hb_⟩
                have hb_ := below_alloc hb_ (.cells #[.int .i64 0, .slice Av 0 cv, .int .i64 ((i : Int) + 1)] 26)
                replace CK := Aside0.mk (Kd.C_below CK.out hb_)
                replace CV := Aside0.mk (Kd.C_below CV.out hb_)
                replace HS := Aside0.mk (Kd.C_below HS.out hb_)
                replace HB := Aside0.mk (below_then HB.out HB.out.size hb_)
                have H1 := Aside0.mk (Kd.C_alloc hC1 (.cells #[.int .i64 0, .slice Av 0 cv, .int .i64 ((i : Int) + 1)] 26))
                have BR := Aside0.mk (heap_alloc_self w1 (.cells #[.int .i64 0, .slice Av 0 cv, .int .i64 ((i : Int) + 1)] 26))
                have Hc1 := Aside0.mk hc1
                clear hb_ hc1 hC1 hV1
                rw [show (⟨zs Kn, zs V⟩ :: fm i : List S32).length = i + 1 from by rw [List.length_cons, fm_len]]
                go_wp2_with fail
                generalize w1.alloc (.cells #[.int .i64 0, .slice Av 0 cv, .int .i64 ((i : Int) + 1)] 26) = V2 at CK CV HS HB H1 BR ⊢
                obtain ⟨ad, K0, k0, K1, k1, e_, g0, g1, l0, r0, l1, r1⟩ := at_T32 H1.out 0 (by decide) (by simp)
                cases e_
                clear g1 l0 l1 r1
                simp only [Int.toNat_zero, Nat.zero_mul, Addr.add_zero'] at g0
                rw [show rd_T32 (⟨zs Kn, zs V⟩ :: fm i) 0 = ⟨zs Kn, zs V⟩ from rfl] at g0 r0
                have z1 : (zs Kn).length = Kn := List.length_replicate
                have z2 : (zs V).length = V := List.length_replicate
                simp only [z1] at g0 r0
                have hbd := below_drew1 (Below.refl V2.heap.size V2)
                obtain ⟨b0, b1, b2, b3⟩ := blk_cells3 BR.out
                clear b3
                have cv_ := CV.out
                rw [z2] at cv_
                have ck_ := CK.out
                rw [z1] at ck_
                have HG := Aside0.mk (Kd.C_below H1.out hbd)
                have HKd := Aside0.mk (Kd.C_below CK.out hbd)
                have HG0 := Aside0.mk g0
                have HR0 := Aside0.mk (Kd.C_below r0 hbd)
                have HCV := Aside0.mk (Kd.C_below cv_ hbd)
                have HCK := Aside0.mk (Kd.C_below ck_ hbd)
                have B2 := Aside0.mk b2
                have e17 : IntKind.i64.wrap ((i : Int) + 1) = (i : Int) + 1 := by rw [IntKind.wrap_i64]; omega
                have hf1 := field1
                have Hbd := Aside0.mk hbd
                clear g0 r0 cv_ ck_ hbd b0 b1 b2
                go_wp2_with fail
                refine start_ (n := 34) (S := fun w' => w'.cell? ⟨w1.heap.size, 2, none⟩ = some (.int .i64 ((i : Int) + 1)) ∧ w'.cell? ad = some (.slice K0 Kn k0) ∧ (convert 24 9 (.slice K0 Kn k0)).run Try.prog w' = .ok (.string (strOfNums (zs Kn))) w' ∧ (convert 24 9 (.slice (some ⟨wr.heap.size, 0, none⟩) Kn Kn)).run Try.prog w' = .ok (.string (strOfNums (zs Kn))) w' ∧ (convert 24 9 (.slice (some ⟨wr.heap.size + 1, 0, none⟩) V V)).run Try.prog w' = .ok (.string (strOfNums (zs V))) w') (ds := []) #[false, false, false, false, false, false, false, false, false, false, false, false, false, false, false, false, false, false, false, false, false, false, false, false, false, false, false, false, false, false, false, false, false, false] (by kernel_rfl) rfl rfl ⟨B2.out, HG0.out, (Kd.C_string (P := Try.prog) (A := K0) (c := k0) Try.underlying24 Try.underlying5 Try.underlying9 (HR0.out)), (Kd.C_string (P := Try.prog) (A := (some ⟨wr.heap.size, 0, none⟩)) (c := Kn) Try.underlying24 Try.underlying5 Try.underlying9 (HCK.out)), (Kd.C_string (P := Try.prog) (A := (some ⟨wr.heap.size + 1, 0, none⟩)) (c := V) Try.underlying24 Try.underlying5 Try.underlying9 (HCV.out))⟩ (fun hHeld => ?_)
                refine pure_ (i := 0) (N := some 91) (v := ?_) (a' := ?_) #[true, false, false, false, false, false, false, false, false, false, false, false, false, false, false, false, false, false, false, false, false, false, false, false, false, false, false, false, false, false, false, false, false, false] rfl rfl (by kernel_rfl) (fun _ _ _ h => h) (Or.inl ⟨by rfl, ?_⟩) ?_ ?_
                rotate_left
                · intro w'
                  go_simp
                  with_reducible rfl
                rotate_left
                · simp only [Act.put, List.setIfInBounds_toArray, List.set_cons_zero, List.set_cons_succ, i64_w, i32_w]
                  rfl
                refine pure_ (i := 1) (N := some 92) (v := ?_) (a' := ?_) #[true, true, false, false, false, false, false, false, false, false, false, false, false, false, false, false, false, false, false, false, false, false, false, false, false, false, false, false, false, false, false, false, false, false] rfl rfl (by kernel_rfl) (fun _ _ _ h => h) (Or.inl ⟨by rfl, ?_⟩) ?_ ?_
                rotate_left
                · intro w'
                  go_simp
                  with_reducible rfl
                rotate_left
                · simp only [Act.put, List.setIfInBounds_toArray, List.set_cons_zero, List.set_cons_succ, i64_w, i32_w]
                  rfl
                refine pure_ (i := 2) (N := some 93) (v := ?_) (a' := ?_) #[true, true, true, false, false, false, false, false, false, false, false, false, false, false, false, false, false, false, false, false, false, false, false, false, false, false, false, false, false, false, false, false, false, false] rfl rfl (by kernel_rfl) (fun _ _ _ h => h) (Or.inl ⟨by rfl, ?_⟩) ?_ ?_
                rotate_left
                · intro w'
                  go_simp
                  with_reducible rfl
                rotate_left
                · simp only [Act.put, List.setIfInBounds_toArray, List.set_cons_zero, List.set_cons_succ, i64_w, i32_w]
                  rfl
                refine pure_ (i := 3) (N := some 94) (v := ?_) (a' := ?_) #[true, true, true, true, false, false, false, false, false, false, false, false, false, false, false, false, false, false, false, false, false, false, false, false, false, false, false, false, false, false, false, false, false, false] rfl rfl (by kernel_rfl) (fun _ _ _ h => h) (Or.inl ⟨by rfl, ?_⟩) ?_ ?_
                rotate_left
                · intro w'
                  go_simp
                  with_reducible rfl
                rotate_left
                · simp only [Act.put, List.setIfInBounds_toArray, List.set_cons_zero, List.set_cons_succ, i64_w, i32_w]
                  rfl
                refine pure_ (i := 5) (N := some 96) (v := ?_) (a' := ?_) #[true, true, true, true, false, true, false, false, false, false, false, false, false, false, false, false, false, false, false, false, false, false, false, false, false, false, false, false, false, false, false, false, false, false] rfl rfl (by kernel_rfl) (fun _ _ _ h => h) (Or.inl ⟨by rfl, ?_⟩) ?_ ?_
                rotate_left
                · intro w'
                  go_simp
                  with_reducible rfl
                rotate_left
                · simp only [Act.put, List.setIfInBounds_toArray, List.set_cons_zero, List.set_cons_succ, i64_w, i32_w]
                  rfl
                refine pure_ (i := 6) (N := some 97) (v := ?_) (a' := ?_) #[true, true, true, true, false, true, true, false, false, false, false, false, false, false, false, false, false, false, false, false, false, false, false, false, false, false, false, false, false, false, false, false, false, false] rfl rfl (by kernel_rfl) (fun _ _ _ h => h) (Or.inl ⟨by rfl, ?_⟩) ?_ ?_
                rotate_left
                · intro w'
                  go_simp
                  with_reducible rfl
                rotate_left
                · simp only [Act.put, List.setIfInBounds_toArray, List.set_cons_zero, List.set_cons_succ, i64_w, i32_w]
                  rfl
                refine take_ (i := 4) (N := some 95) (v := ?_) (a' := ?_) #[true, true, true, true, true, true, true, false, false, false, false, false, false, false, false, false, false, false, false, false, false, false, false, false, false, false, false, false, false, false, false, false, false, false] rfl rfl (by kernel_rfl) (fun _ _ _ h => h) (Or.inl ⟨by rfl, ?_⟩) hHeld ?_ ?_
                rotate_left
                · rintro w' ⟨s0, s1, s2, s3, s4⟩
                  go_simp
                  with_reducible rfl
                rotate_left
                · simp only [Act.put, List.setIfInBounds_toArray, List.set_cons_zero, List.set_cons_succ, i64_w, i32_w]
                  rfl
                refine pure_ (i := 7) (N := some 98) (v := ?_) (a' := ?_) #[true, true, true, true, true, true, true, true, false, false, false, false, false, false, false, false, false, false, false, false, false, false, false, false, false, false, false, false, false, false, false, false, false, false] rfl rfl (by kernel_rfl) (fun _ _ _ h => h) (Or.inl ⟨by rfl, ?_⟩) ?_ ?_
                rotate_left
                · intro w'
                  go_simp
                  with_reducible rfl
                rotate_left
                · simp only [Act.put, List.setIfInBounds_toArray, List.set_cons_zero, List.set_cons_succ, i64_w, i32_w]
                  rfl
                refine pure_ (i := 8) (N := some 99) (v := ?_) (a' := ?_) #[true, true, true, true, true, true, true, true, true, false, false, false, false, false, false, false, false, false, false, false, false, false, false, false, false, false, false, false, false, false, false, false, false, false] rfl rfl (by kernel_rfl) (fun _ _ _ h => h) (Or.inl ⟨by rfl, ?_⟩) ?_ ?_
                rotate_left
                · intro w'
                  go_simp
                  with_reducible rfl
                rotate_left
                · simp only [Act.put, List.setIfInBounds_toArray, List.set_cons_zero, List.set_cons_succ, i64_w, i32_w]
                  rfl
                refine pure_ (i := 9) (N := some 100) (v := ?_) (a' := ?_) #[true, true, true, true, true, true, true, true, true, true, false, false, false, false, false, false, false, false, false, false, false, false, false, false, false, false, false, false, false, false, false, false, false, false] rfl rfl (by kernel_rfl) (fun _ _ _ h => h) (Or.inl ⟨by rfl, ?_⟩) ?_ ?_
                rotate_left
                · intro w'
                  go_simp
                  with_reducible rfl
                rotate_left
                · simp only [Act.put, List.setIfInBounds_toArray, List.set_cons_zero, List.set_cons_succ, i64_w, i32_w]
                  rfl
                refine pure_ (i := 10) (N := some 101) (v := ?_) (a' := ?_) #[true, true, true, true, true, true, true, true, true, true, true, false, false, false, false, false, false, false, false, false, false, false, false, false, false, false, false, false, false, false, false, false, false, false] rfl rfl (by kernel_rfl) (fun _ _ _ h => h) (Or.inl ⟨by rfl, ?_⟩) ?_ ?_
                rotate_left
                · intro w'
                  go_simp
                  with_reducible rfl
                rotate_left
                · simp only [Act.put, List.setIfInBounds_toArray, List.set_cons_zero, List.set_cons_succ, i64_w, i32_w]
                  rfl
                refine pure_ (i := 14) (N := some 105) (v := ?_) (a' := ?_) #[true, true, true, true, true, true, true, true, true, true, true, false, false, false, true, false, false, false, false, false, false, false, false, false, false, false, false, false, false, false, false, false, false, false] rfl rfl (by kernel_rfl) (fun _ _ _ h => h) (Or.inl ⟨by rfl, ?_⟩) ?_ ?_
                rotate_left
                · intro w'
                  go_simp
                  with_reducible rfl
                rotate_left
                · simp only [Act.put, List.setIfInBounds_toArray, List.set_cons_zero, List.set_cons_succ, i64_w, i32_w]
                  rfl
                refine take_ (i := 15) (N := some 106) (v := ?_) (a' := ?_) #[true, true, true, true, true, true, true, true, true, true, true, false, false, false, true, true, false, false, false, false, false, false, false, false, false, false, false, false, false, false, false, false, false, false] rfl rfl (by kernel_rfl) (fun _ _ _ h => h) (Or.inl ⟨by rfl, ?_⟩) hHeld ?_ ?_
                rotate_left
                · rintro w' ⟨s0, s1, s2, s3, s4⟩
                  go_simp
                  with_reducible rfl
                rotate_left
                · simp only [Act.put, List.setIfInBounds_toArray, List.set_cons_zero, List.set_cons_succ, i64_w, i32_w]
                  rfl
                refine one_ (i := 11) (N := some 102) #[true, true, true, true, true, true, true, true, true, true, true, true, false, false, true, true, false, false, false, false, false, false, false, false, false, false, false, false, false, false, false, false, false, false] rfl rfl (by kernel_rfl) (by decide) (fun K_ hK => ?_)
                refine goes_ Try.func8 (by kernel_rfl) rfl #[.slice (some ad) (i + 1) c1, .slice (some ⟨wr.heap.size, 0, none⟩) Kn Kn] (by rfl) rfl rfl (by simp only [List.map_toArray, List.map_cons, List.map_nil]; rfl) ?_
                with_reducible refine (get_n (l := ⟨zs Kn, zs V⟩ :: fm i) (r := ⟨0, zs V, 0⟩) (m := V) HG.out Hc1.out HKd.out (fm_v' i Kn V (by omega) (by omega)) (getR_head _ _ _) (by simp [fm_len]) (zs_len _) (zs_len _)).mono ?_
                rintro e w2 ⟨Av2, cv2, rfl, hV2, hb_⟩
                have q3 := (Kd.C_string (P := Try.prog) (A := Av2) (c := cv2) Try.underlying24 Try.underlying5 Try.underlying9 (hV2))
                have HX2 := Aside0.mk hb_
                clear hV2 hb_
                refine ⟨_, rfl, ?_⟩
                refine hK.out _ _ ⟨cell_old HX2.out hHeld.1, cell_old HX2.out hHeld.2.1, (Kd.C_string (P := Try.prog) (A := K0) (c := k0) Try.underlying24 Try.underlying5 Try.underlying9 (Kd.C_below HR0.out HX2.out)), (Kd.C_string (P := Try.prog) (A := (some ⟨wr.heap.size, 0, none⟩)) (c := Kn) Try.underlying24 Try.underlying5 Try.underlying9 (Kd.C_below HCK.out HX2.out)), (Kd.C_string (P := Try.prog) (A := (some ⟨wr.heap.size + 1, 0, none⟩)) (c := V) Try.underlying24 Try.underlying5 Try.underlying9 (Kd.C_below HCV.out HX2.out))⟩ (fun hHeld => ?_)
                clear hK K_
                refine norm_ (a' := ?_) ?_ ?_
                rotate_left
                · show Act.put _ (some 102) _ = _
                  simp only [Act.put, List.setIfInBounds_toArray, List.set_cons_zero, List.set_cons_succ, i64_w, i32_w]
                  rfl
                refine pure_ (i := 12) (N := some 103) (v := ?_) (a' := ?_) #[true, true, true, true, true, true, true, true, true, true, true, true, true, false, true, true, false, false, false, false, false, false, false, false, false, false, false, false, false, false, false, false, false, false] rfl rfl (by kernel_rfl) (fun _ _ _ h => h) (Or.inl ⟨by rfl, ?_⟩) ?_ ?_
                rotate_left
                · intro w'
                  go_simp
                  with_reducible rfl
                rotate_left
                · simp only [Act.put, List.setIfInBounds_toArray, List.set_cons_zero, List.set_cons_succ, i64_w, i32_w]
                  rfl
                refine one_ (i := 13) (N := some 104) #[true, true, true, true, true, true, true, true, true, true, true, true, true, true, true, true, false, false, false, false, false, false, false, false, false, false, false, false, false, false, false, false, false, false] rfl rfl (by kernel_rfl) (by decide) (fun K_ hK => ?_)
                refine value_ (w1 := ?_) (v := ?_) (by rfl) rfl ?_ ?_
                rotate_left 2
                · go_simp
                  constructor
                  · rfl
                  · rfl
                refine hK.out _ _ ⟨hHeld.1, hHeld.2.1, hHeld.2.2.1, hHeld.2.2.2.1, hHeld.2.2.2.2⟩ (fun hHeld => ?_)
                clear hK K_
                refine norm_ (a' := ?_) ?_ ?_
                rotate_left
                · show Act.put _ (some 104) _ = _
                  simp only [Act.put, List.setIfInBounds_toArray, List.set_cons_zero, List.set_cons_succ, i64_w, i32_w]
                  rfl
                refine pure_ (i := 16) (N := some 107) (v := ?_) (a' := ?_) #[true, true, true, true, true, true, true, true, true, true, true, true, true, true, true, true, true, false, false, false, false, false, false, false, false, false, false, false, false, false, false, false, false, false] rfl rfl (by kernel_rfl) (fun _ _ _ h => h) (Or.inl ⟨by rfl, ?_⟩) ?_ ?_
                rotate_left
                · intro w'
                  go_simp
                  with_reducible rfl
                rotate_left
                · simp only [Act.put, List.setIfInBounds_toArray, List.set_cons_zero, List.set_cons_succ, i64_w, i32_w]
                  rfl
                refine pure_ (i := 17) (N := some 108) (v := ?_) (a' := ?_) #[true, true, true, true, true, true, true, true, true, true, true, true, true, true, true, true, true, true, false, false, false, false, false, false, false, false, false, false, false, false, false, false, false, false] rfl rfl (by kernel_rfl) (fun _ _ _ h => h) (Or.inl ⟨by rfl, ?_⟩) ?_ ?_
                rotate_left
                · intro w'
                  go_simp
                  with_reducible rfl
                rotate_left
                · simp only [Act.put, List.setIfInBounds_toArray, List.set_cons_zero, List.set_cons_succ, i64_w, i32_w]
                  rfl
                refine pure_ (i := 18) (N := some 109) (v := ?_) (a' := ?_) #[true, true, true, true, true, true, true, true, true, true, true, true, true, true, true, true, true, true, true, false, false, false, false, false, false, false, false, false, false, false, false, false, false, false] rfl rfl (by kernel_rfl) (fun _ _ _ h => h) (Or.inl ⟨by rfl, ?_⟩) ?_ ?_
                rotate_left
                · intro w'
                  go_simp
                  with_reducible rfl
                rotate_left
                · simp only [Act.put, List.setIfInBounds_toArray, List.set_cons_zero, List.set_cons_succ, i64_w, i32_w]
                  rfl
                refine pure_ (i := 19) (N := some 110) (v := ?_) (a' := ?_) #[true, true, true, true, true, true, true, true, true, true, true, true, true, true, true, true, true, true, true, true, false, false, false, false, false, false, false, false, false, false, false, false, false, false] rfl rfl (by kernel_rfl) (fun _ _ _ h => h) (Or.inl ⟨by rfl, ?_⟩) ?_ ?_
                rotate_left
                · intro w'
                  go_simp
                  with_reducible rfl
                rotate_left
                · simp only [Act.put, List.setIfInBounds_toArray, List.set_cons_zero, List.set_cons_succ, i64_w, i32_w]
                  rfl
                refine pure_ (i := 20) (N := some 111) (v := ?_) (a' := ?_) #[true, true, true, true, true, true, true, true, true, true, true, true, true, true, true, true, true, true, true, true, true, false, false, false, false, false, false, false, false, false, false, false, false, false] rfl rfl (by kernel_rfl) (fun _ _ _ h => h) (Or.inl ⟨by rfl, ?_⟩) ?_ ?_
                rotate_left
                · intro w'
                  go_simp
                  with_reducible rfl
                rotate_left
                · simp only [Act.put, List.setIfInBounds_toArray, List.set_cons_zero, List.set_cons_succ, i64_w, i32_w]
                  rfl
                refine pure_ (i := 21) (N := some 112) (v := ?_) (a' := ?_) #[true, true, true, true, true, true, true, true, true, true, true, true, true, true, true, true, true, true, true, true, true, true, false, false, false, false, false, false, false, false, false, false, false, false] rfl rfl (by kernel_rfl) (fun _ _ _ h => h) (Or.inl ⟨by rfl, ?_⟩) ?_ ?_
                rotate_left
                · intro w'
                  go_simp
                  with_reducible rfl
                rotate_left
                · simp only [Act.put, List.setIfInBounds_toArray, List.set_cons_zero, List.set_cons_succ, i64_w, i32_w]
                  rfl
                refine pure_ (i := 22) (N := some 113) (v := ?_) (a' := ?_) #[true, true, true, true, true, true, true, true, true, true, true, true, true, true, true, true, true, true, true, true, true, true, true, false, false, false, false, false, false, false, false, false, false, false] rfl rfl (by kernel_rfl) (fun _ _ _ h => h) (Or.inl ⟨by rfl, ?_⟩) ?_ ?_
                rotate_left
                · intro w'
                  go_simp
                  with_reducible rfl
                rotate_left
                · simp only [Act.put, List.setIfInBounds_toArray, List.set_cons_zero, List.set_cons_succ, i64_w, i32_w]
                  rfl
                refine pure_ (i := 23) (N := some 114) (v := ?_) (a' := ?_) #[true, true, true, true, true, true, true, true, true, true, true, true, true, true, true, true, true, true, true, true, true, true, true, true, false, false, false, false, false, false, false, false, false, false] rfl rfl (by kernel_rfl) (fun _ _ _ h => h) (Or.inl ⟨by rfl, ?_⟩) ?_ ?_
                rotate_left
                · intro w'
                  go_simp
                  with_reducible rfl
                rotate_left
                · simp only [Act.put, List.setIfInBounds_toArray, List.set_cons_zero, List.set_cons_succ, i64_w, i32_w]
                  rfl
                refine pure_ (i := 24) (N := some 115) (v := ?_) (a' := ?_) #[true, true, true, true, true, true, true, true, true, true, true, true, true, true, true, true, true, true, true, true, true, true, true, true, true, false, false, false, false, false, false, false, false, false] rfl rfl (by kernel_rfl) (fun _ _ _ h => h) (Or.inl ⟨by rfl, ?_⟩) ?_ ?_
                rotate_left
                · intro w'
                  go_simp
                  with_reducible rfl
                rotate_left
                · simp only [Act.put, List.setIfInBounds_toArray, List.set_cons_zero, List.set_cons_succ, i64_w, i32_w]
                  rfl
                refine pure_ (i := 25) (N := some 116) (v := ?_) (a' := ?_) #[true, true, true, true, true, true, true, true, true, true, true, true, true, true, true, true, true, true, true, true, true, true, true, true, true, true, false, false, false, false, false, false, false, false] rfl rfl (by kernel_rfl) (fun _ _ _ h => h) (Or.inl ⟨by rfl, ?_⟩) ?_ ?_
                rotate_left
                · intro w'
                  go_simp
                  with_reducible rfl
                rotate_left
                · simp only [Act.put, List.setIfInBounds_toArray, List.set_cons_zero, List.set_cons_succ, i64_w, i32_w]
                  rfl
                refine pure_ (i := 26) (N := some 117) (v := ?_) (a' := ?_) #[true, true, true, true, true, true, true, true, true, true, true, true, true, true, true, true, true, true, true, true, true, true, true, true, true, true, true, false, false, false, false, false, false, false] rfl rfl (by kernel_rfl) (fun _ _ _ h => h) (Or.inl ⟨by rfl, ?_⟩) ?_ ?_
                rotate_left
                · intro w'
                  go_simp
                  with_reducible rfl
                rotate_left
                · simp only [Act.put, List.setIfInBounds_toArray, List.set_cons_zero, List.set_cons_succ, i64_w, i32_w]
                  rfl
                refine pure_ (i := 29) (N := some 120) (v := ?_) (a' := ?_) #[true, true, true, true, true, true, true, true, true, true, true, true, true, true, true, true, true, true, true, true, true, true, true, true, true, true, true, false, false, true, false, false, false, false] rfl rfl (by kernel_rfl) (fun _ _ _ h => h) (Or.inl ⟨by rfl, ?_⟩) ?_ ?_
                rotate_left
                · intro w'
                  go_simp
                  with_reducible rfl
                rotate_left
                · simp only [Act.put, List.setIfInBounds_toArray, List.set_cons_zero, List.set_cons_succ, i64_w, i32_w]
                  rfl
                refine take_ (i := 27) (N := some 118) (v := ?_) (a' := ?_) #[true, true, true, true, true, true, true, true, true, true, true, true, true, true, true, true, true, true, true, true, true, true, true, true, true, true, true, true, false, true, false, false, false, false] rfl rfl (by kernel_rfl) (fun _ _ _ h => h) (Or.inl ⟨by rfl, ?_⟩) hHeld ?_ ?_
                rotate_left
                · rintro w' ⟨s0, s1, s2, s3, s4⟩
                  go_simp
                  with_reducible rfl
                rotate_left
                · simp only [Act.put, List.setIfInBounds_toArray, List.set_cons_zero, List.set_cons_succ, i64_w, i32_w]
                  rfl
                refine take_ (i := 28) (N := some 119) (v := ?_) (a' := ?_) #[true, true, true, true, true, true, true, true, true, true, true, true, true, true, true, true, true, true, true, true, true, true, true, true, true, true, true, true, true, true, false, false, false, false] rfl rfl (by kernel_rfl) (fun _ _ _ h => h) (Or.inl ⟨by rfl, ?_⟩) hHeld ?_ ?_
                rotate_left
                · rintro w' ⟨s0, s1, s2, s3, s4⟩
                  go_simp
                  with_reducible rfl
                rotate_left
                · simp only [Act.put, List.setIfInBounds_toArray, List.set_cons_zero, List.set_cons_succ, i64_w, i32_w]
                  rfl
                refine take_ (i := 30) (N := some 121) (v := ?_) (a' := ?_) #[true, true, true, true, true, true, true, true, true, true, true, true, true, true, true, true, true, true, true, true, true, true, true, true, true, true, true, true, true, true, true, false, false, false] rfl rfl (by kernel_rfl) (fun _ _ _ h => h) (Or.inl ⟨by rfl, ?_⟩) hHeld ?_ ?_
                rotate_left
                · rintro w' ⟨s0, s1, s2, s3, s4⟩
                  go_simp
                  with_reducible rfl
                rotate_left
                · simp only [Act.put, List.setIfInBounds_toArray, List.set_cons_zero, List.set_cons_succ, i64_w, i32_w]
                  rfl
                refine pure_ (i := 31) (N := some 122) (v := ?_) (a' := ?_) #[true, true, true, true, true, true, true, true, true, true, true, true, true, true, true, true, true, true, true, true, true, true, true, true, true, true, true, true, true, true, true, true, false, false] rfl rfl (by kernel_rfl) (fun _ _ _ h => h) (Or.inl ⟨by rfl, ?_⟩) ?_ ?_
                rotate_left
                · intro w'
                  go_simp
                  with_reducible rfl
                rotate_left
                · simp only [Act.put, List.setIfInBounds_toArray, List.set_cons_zero, List.set_cons_succ, i64_w, i32_w]
                  rfl
                refine pure_ (i := 32) (N := some 123) (v := ?_) (a' := ?_) #[true, true, true, true, true, true, true, true, true, true, true, true, true, true, true, true, true, true, true, true, true, true, true, true, true, true, true, true, true, true, true, true, true, false] rfl rfl (by kernel_rfl) (fun _ _ _ h => h) (Or.inl ⟨by rfl, ?_⟩) ?_ ?_
                rotate_left
                · intro w'
                  go_simp
                  with_reducible rfl
                rotate_left
                · simp only [Act.put, List.setIfInBounds_toArray, List.set_cons_zero, List.set_cons_succ, i64_w, i32_w]
                  rfl
                refine pure_ (i := 33) (N := some 124) (v := ?_) (a' := ?_) #[true, true, true, true, true, true, true, true, true, true, true, true, true, true, true, true, true, true, true, true, true, true, true, true, true, true, true, true, true, true, true, true, true, true] rfl rfl (by kernel_rfl) (fun _ _ _ h => h) (Or.inl ⟨by rfl, ?_⟩) ?_ ?_
                rotate_left
                · intro w'
                  go_simp
                  with_reducible rfl
                rotate_left
                · simp only [Act.put, List.setIfInBounds_toArray, List.set_cons_zero, List.set_cons_succ, i64_w, i32_w]
                  rfl
                refine done_ (by kernel_rfl) ?_
                have HBX := Aside0.mk (below_then Hbd.out Hbd.out.size HX2.out)
                replace CK := Aside0.mk (Kd.C_below CK.out HBX.out)
                replace CV := Aside0.mk (Kd.C_below CV.out HBX.out)
                replace HS := Aside0.mk (Kd.C_below HS.out HBX.out)
                replace HB := Aside0.mk (below_then HB.out HB.out.size HBX.out)
                replace H1 := Aside0.mk (Kd.C_below H1.out HBX.out)
                replace BR := Aside0.mk (blk3_keep BR.out HBX.out)
                clear q3 hHeld HG HKd HG0 HR0 HCV HCK HBX HX2 Hbd B2
                clear H1 BR CK CV
                have kc := conv_same
                go_wp2_with fail
                obtain ⟨V3, hV3⟩ : ∃ V_, V_ = ((w2.alloc (.cells #[.int .u8 97] 5 (1, 2))).alloc (.cells #[.int .u8 110, .int .u8 101, .int .u8 119] 5 (3, 4))) := ⟨_, rfl⟩
                rw [← hV3]
                have hb_ : Below w2.heap.size w2 V3 := by rw [hV3]; exact (below_alloc (below_alloc (Below.refl _ _) (.cells #[.int .u8 97] 5 (1, 2))) (.cells #[.int .u8 110, .int .u8 101, .int .u8 119] 5 (3, 4)))
                replace HS := Aside0.mk (Kd.C_below HS.out hb_)
                replace HB := Aside0.mk (below_then HB.out HB.out.size hb_)
                have LA : Aside0 (V3.heap[w2.heap.size]? = some (.cells #[.int .u8 97] 5 (1, 2))) := Aside0.mk (by rw [hV3]; have h_ := blk_alloc (heap_alloc_self w2 (.cells #[.int .u8 97] 5 (1, 2))) (.cells #[.int .u8 110, .int .u8 101, .int .u8 119] 5 (3, 4)); simpa using h_)
                have LW : Aside0 (V3.heap[w2.heap.size + 1]? = some (.cells #[.int .u8 110, .int .u8 101, .int .u8 119] 5 (3, 4))) := Aside0.mk (by rw [hV3]; have h_ := heap_alloc_self (w2.alloc (.cells #[.int .u8 97] 5 (1, 2))) (.cells #[.int .u8 110, .int .u8 101, .int .u8 119] 5 (3, 4)); simpa using h_)
                clear hV3 hb_
                have HFA := Aside0.mk (forms_a i (by have := HM.out; omega) (by have := HM.out; omega))
                refine (put_n (l' := (fm i).set 0 ⟨[97], [110, 101, 119]⟩) (r := ⟨0, [0], (i : Int)⟩) HS.out Hc.out (lit_u8 [97] LA.out (by decide) rfl) (lit_u8 [110, 101, 119] LW.out (by decide) rfl) (fm_v i) (by rw [fm_len]; have := HM.out; omega) (by decide) (by decide) (eP_eq HFA.out.1) (fm_len i) rfl rfl).mono ?_
                rintro e w3 ⟨A2, c2, Av2, cv2, rfl, hc2, hC2, hV2, hb_⟩
                clear LA LW
                replace HS := Aside0.mk (Kd.C_below HS.out hb_)
                replace HB := Aside0.mk (below_then HB.out HB.out.size hb_)
                rw [show ((fm i).set 0 (⟨[97], [110, 101, 119]⟩ : S32)).length = i from by rw [List.length_set, fm_len]]
                simp only [List.length_cons, List.length_nil, Nat.zero_add, Nat.reduceAdd]
                have H2 := Aside0.mk (hC2)
                have CV2 := Aside0.mk (hV2)
                have Hc2 := Aside0.mk hc2
                have q1 := Kd.C_string (P := Try.prog) (A := Av2) (c := cv2) Try.underlying24 Try.underlying5 Try.underlying9 (Kd.C_alloc CV2.out (.cells #[.int .i64 0, .slice Av2 1 cv2, .int .i64 (i : Int)] 26))
                simp only [List.length_cons, List.length_nil, Nat.zero_add, Nat.reduceAdd] at q1
                have j1 : strOfNums [0] = ⟨#[0]⟩ := rfl
                have j2 : strOfNums [110, 101, 119] = ⟨#[110, 101, 119]⟩ := rfl
                have hf1 := field1
                have e8 : (if (8 : Int) < (i : Int) then (8 : Int) else (i : Int)) = (i : Int) := by have := HM.out; split <;> omega
                clear hc2 hC2 hV2 hb_
                go_wp2_with fail
                clear q1 e8
                obtain ⟨V4, hV4⟩ : ∃ V_, V_ = ((w3.alloc (.cells #[.int .i64 0, .slice Av2 1 cv2, .int .i64 (i : Int)] 26)).alloc (.cells #[.int .u8 97] 5 (1, 2))) := ⟨_, rfl⟩
                rw [← hV4]
                have hb_ : Below w3.heap.size w3 V4 := by rw [hV4]; exact (below_alloc (below_alloc (Below.refl _ _) (.cells #[.int .i64 0, .slice Av2 1 cv2, .int .i64 (i : Int)] 26)) (.cells #[.int .u8 97] 5 (1, 2)))
                replace HS := Aside0.mk (Kd.C_below HS.out hb_)
                replace HB := Aside0.mk (below_then HB.out HB.out.size hb_)
                replace H2 := Aside0.mk (Kd.C_below H2.out hb_)
                replace CV2 := Aside0.mk (Kd.C_below CV2.out hb_)
                have BQ : Aside0 (V4.heap[w3.heap.size]? = some (.cells #[.int .i64 0, .slice Av2 1 cv2, .int .i64 (i : Int)] 26 (0, 0))) := Aside0.mk (by rw [hV4]; have h_ := blk_alloc (heap_alloc_self w3 (.cells #[.int .i64 0, .slice Av2 1 cv2, .int .i64 (i : Int)] 26)) (.cells #[.int .u8 97] 5 (1, 2)); simpa using h_)
                have LB : Aside0 (V4.heap[w3.heap.size + 1]? = some (.cells #[.int .u8 97] 5 (1, 2))) := Aside0.mk (by rw [hV4]; have h_ := heap_alloc_self (w3.alloc (.cells #[.int .i64 0, .slice Av2 1 cv2, .int .i64 (i : Int)] 26)) (.cells #[.int .u8 97] 5 (1, 2)); simpa using h_)
                clear hV4 hb_
                refine (get_n (l := (fm i).set 0 ⟨[97], [110, 101, 119]⟩) (r := ⟨0, [110, 101, 119], 0⟩) (m := 3) H2.out Hc2.out (lit_u8 [97] LB.out (by decide) rfl) (fm_w i) (e26_eq HFA.out.2) (by rw [List.length_set, fm_len]) rfl rfl).mono ?_
                rintro e w4 ⟨Av3, cv3, rfl, hV3, hb_⟩
                clear BQ LB H2 CV2
                replace HS := Aside0.mk (Kd.C_below HS.out hb_)
                replace HB := Aside0.mk (below_then HB.out HB.out.size hb_)
                have q1 := Kd.C_string (P := Try.prog) (A := Av3) (c := cv3) Try.underlying24 Try.underlying5 Try.underlying9 hV3
                clear hb_ hV3
                go_wp2_with fail
                clear q1
                obtain ⟨V5, hV5⟩ : ∃ V_, V_ = (w4.alloc (.cells #[.int .u8 122, .int .u8 122] 5 (2, 3))) := ⟨_, rfl⟩
                rw [← hV5]
                have hb_ : Below w4.heap.size w4 V5 := by rw [hV5]; exact (below_alloc (Below.refl _ _) (.cells #[.int .u8 122, .int .u8 122] 5 (2, 3)))
                replace HS := Aside0.mk (Kd.C_below HS.out hb_)
                replace HB := Aside0.mk (below_then HB.out HB.out.size hb_)
                have LZ : Aside0 (V5.heap[w4.heap.size]? = some (.cells #[.int .u8 122, .int .u8 122] 5 (2, 3))) := Aside0.mk (by rw [hV5]; have h_ := heap_alloc_self w4 (.cells #[.int .u8 122, .int .u8 122] 5 (2, 3)); simpa using h_)
                clear hV5 hb_
                refine (get_n (l := fm i) (r := ⟨5, [], 0⟩) (m := 0) HS.out Hc.out (lit_u8 [122, 122] LZ.out (by decide) rfl) (fun x hx => (fm_v i x hx).2) (e26_eq (forms_zz i (by have := HM.out; omega))) (fm_len i) rfl rfl).mono ?_
                rintro e w5 ⟨Av5, cv5, rfl, hV5, hb_⟩
                clear LZ HS
                replace HB := Aside0.mk (below_then HB.out HB.out.size hb_)
                clear hb_ hV5
                have hf0 := field0
                go_wp2_with fail
                refine (awake9 w5).mono ?_
                rintro e w6 ⟨rfl, hb_⟩
                replace HB := Aside0.mk (below_then HB.out HB.out.size hb_)
                clear hb_
                go_wp2_with fail
                go_ret
                exact ⟨rfl, HB.out⟩
      · skip
        by_cases q1 : 8 < Kn
        · by_cases q3 : 8 ≤ i
          · skip
            have kK : 8 < Kn := by assumption
            have kN : 8 ≤ i := by assumption
            obtain rfl : M = 8 := by have := HM.out; omega
            have d1 : decide ((8 : Int) < (Kn : Int)) = true := decide_eq_true (by omega)
            have d3 : decide ((8 : Int) ≤ (i : Int)) = true := decide_eq_true (by omega)
            have d4 : decide ((0 : Int) < (i : Int)) = true := decide_eq_true (by omega)
            obtain ⟨W1, hW1⟩ : ∃ V_, V_ = ((wr.alloc (.cells (madeCells #[.int .u8 0] V) 5)).alloc (.cells (madeCells #[.int .u8 0] Kn) 5)).drew := ⟨_, rfl⟩
            have hb_ : Below wr.heap.size wr W1 := by rw [hW1]; exact below_drew1 (below_alloc (below_alloc (Below.refl _ _) _) _)
            have LV : W1.heap[wr.heap.size]? = some (.cells (madeCells #[.int .u8 0] V) 5 (0, 0)) := by rw [hW1]; show ((wr.alloc (.cells (madeCells #[.int .u8 0] V) 5)).alloc (.cells (madeCells #[.int .u8 0] Kn) 5)).heap[_]? = _; have h_ := blk_alloc (heap_alloc_self wr (.cells (madeCells #[.int .u8 0] V) 5)) (.cells (madeCells #[.int .u8 0] Kn) 5); simpa using h_
            have LK : W1.heap[wr.heap.size + 1]? = some (.cells (madeCells #[.int .u8 0] Kn) 5 (0, 0)) := by rw [hW1]; show ((wr.alloc (.cells (madeCells #[.int .u8 0] V) 5)).alloc (.cells (madeCells #[.int .u8 0] Kn) 5)).heap[_]? = _; have h_ := heap_alloc_self (wr.alloc (.cells (madeCells #[.int .u8 0] V) 5)) (.cells (madeCells #[.int .u8 0] Kn) 5); simpa using h_
            have CK := Aside0.mk (made_C LK (by omega))
            have CV := Aside0.mk (made_C LV (by omega))
            have HS := Aside0.mk (Kd.C_below HI.out.2.1 hb_)
            have HB := Aside0.mk (below_then HI.out.2.2 HI.out.2.2.size hb_)
            have Hc := Aside0.mk HI.out.1
            clear LK LV hb_ HI mK mV
            go_wp2_with fail
            rw [← hW1]
            clear hW1
            refine (put_n (l' := fm 8) (r := ⟨1, [], 0⟩) HS.out Hc.out CK.out CV.out (fm_v 8) (by rw [fm_len]; have := HM.out; omega) (by simp only [zs, List.length_replicate]; omega) (by simp only [zs, List.length_replicate]; omega) (by rw [putR, if_pos (by simp only [zs, List.length_replicate]; omega)]) (fm_len 8) List.length_replicate List.length_replicate).mono ?_
            rintro e w1 ⟨A1, c1, Av, cv, rfl, hc1, hC1, hV1, hb_⟩
            have hb_ := below_alloc hb_ (.cells #[.int .i64 1, .slice Av 0 cv, .int .i64 0] 26)
            replace CK := Aside0.mk (Kd.C_below CK.out hb_)
            replace CV := Aside0.mk (Kd.C_below CV.out hb_)
            replace HS := Aside0.mk (Kd.C_below HS.out hb_)
            replace HB := Aside0.mk (below_then HB.out HB.out.size hb_)
            have H1 := Aside0.mk (Kd.C_alloc hC1 (.cells #[.int .i64 1, .slice Av 0 cv, .int .i64 0] 26))
            have BR := Aside0.mk (heap_alloc_self w1 (.cells #[.int .i64 1, .slice Av 0 cv, .int .i64 0] 26))
            have Hc1 := Aside0.mk hc1
            clear hb_ hc1 hC1 hV1
            rw [fm_len]
            go_wp2_with fail
            generalize w1.alloc (.cells #[.int .i64 1, .slice Av 0 cv, .int .i64 0] 26) = V2 at CK CV HS HB H1 BR ⊢
            refine (same7 A A1 c c1 8 (fm 8) V2 (fm_len 8) HS.out H1.out).mono ?_
            rintro e w2 ⟨rfl, hb_⟩
            clear H1 BR CK CV
            replace HS := Aside0.mk (Kd.C_below HS.out hb_)
            replace HB := Aside0.mk (below_then HB.out HB.out.size hb_)
            clear hb_
            go_wp2_with fail
            go_region
            replace HS := Aside0.mk (Kd.C_below HS.out (below_drew1 (Below.refl w2.heap.size w2)))
            replace HB := Aside0.mk (below_then HB.out HB.out.size (below_drew1 (Below.refl w2.heap.size w2)))
            generalize w2.drew = w2d at HS HB ⊢
            have kc := conv_same
            go_wp2_with fail
            obtain ⟨V3, hV3⟩ : ∃ V_, V_ = ((w2d.alloc (.cells #[.int .u8 97] 5 (1, 2))).alloc (.cells #[.int .u8 110, .int .u8 101, .int .u8 119] 5 (3, 4))) := ⟨_, rfl⟩
            rw [← hV3]
            have hb_ : Below w2d.heap.size w2d V3 := by rw [hV3]; exact (below_alloc (below_alloc (Below.refl _ _) (.cells #[.int .u8 97] 5 (1, 2))) (.cells #[.int .u8 110, .int .u8 101, .int .u8 119] 5 (3, 4)))
            replace HS := Aside0.mk (Kd.C_below HS.out hb_)
            replace HB := Aside0.mk (below_then HB.out HB.out.size hb_)
            have LA : Aside0 (V3.heap[w2d.heap.size]? = some (.cells #[.int .u8 97] 5 (1, 2))) := Aside0.mk (by rw [hV3]; have h_ := blk_alloc (heap_alloc_self w2d (.cells #[.int .u8 97] 5 (1, 2))) (.cells #[.int .u8 110, .int .u8 101, .int .u8 119] 5 (3, 4)); simpa using h_)
            have LW : Aside0 (V3.heap[w2d.heap.size + 1]? = some (.cells #[.int .u8 110, .int .u8 101, .int .u8 119] 5 (3, 4))) := Aside0.mk (by rw [hV3]; have h_ := heap_alloc_self (w2d.alloc (.cells #[.int .u8 97] 5 (1, 2))) (.cells #[.int .u8 110, .int .u8 101, .int .u8 119] 5 (3, 4)); simpa using h_)
            clear hV3 hb_
            have HFA := Aside0.mk (forms_a 8 (by have := HM.out; omega) (by have := HM.out; omega))
            refine (put_n (l' := (fm 8).set 0 ⟨[97], [110, 101, 119]⟩) (r := ⟨0, [0], 8⟩) HS.out Hc.out (lit_u8 [97] LA.out (by decide) rfl) (lit_u8 [110, 101, 119] LW.out (by decide) rfl) (fm_v 8) (by rw [fm_len]; have := HM.out; omega) (by decide) (by decide) (eP_eq HFA.out.1) (fm_len 8) rfl rfl).mono ?_
            rintro e w3 ⟨A2, c2, Av2, cv2, rfl, hc2, hC2, hV2, hb_⟩
            clear LA LW
            replace HS := Aside0.mk (Kd.C_below HS.out hb_)
            replace HB := Aside0.mk (below_then HB.out HB.out.size hb_)
            rw [show ((fm 8).set 0 (⟨[97], [110, 101, 119]⟩ : S32)).length = 8 from by rw [List.length_set, fm_len]]
            simp only [List.length_cons, List.length_nil, Nat.zero_add, Nat.reduceAdd]
            have H2 := Aside0.mk (hC2)
            have CV2 := Aside0.mk (hV2)
            have Hc2 := Aside0.mk hc2
            have q1 := Kd.C_string (P := Try.prog) (A := Av2) (c := cv2) Try.underlying24 Try.underlying5 Try.underlying9 (Kd.C_alloc CV2.out (.cells #[.int .i64 0, .slice Av2 1 cv2, .int .i64 8] 26))
            simp only [List.length_cons, List.length_nil, Nat.zero_add, Nat.reduceAdd] at q1
            have j1 : strOfNums [0] = ⟨#[0]⟩ := rfl
            have j2 : strOfNums [110, 101, 119] = ⟨#[110, 101, 119]⟩ := rfl
            have hf1 := field1
            have e8 : (if (8 : Int) < (i : Int) then (8 : Int) else (i : Int)) = 8 := by have := HM.out; split <;> omega
            clear hc2 hC2 hV2 hb_
            go_wp2_with fail
            clear q1 e8
            obtain ⟨V4, hV4⟩ : ∃ V_, V_ = ((w3.alloc (.cells #[.int .i64 0, .slice Av2 1 cv2, .int .i64 8] 26)).alloc (.cells #[.int .u8 97] 5 (1, 2))) := ⟨_, rfl⟩
            rw [← hV4]
            have hb_ : Below w3.heap.size w3 V4 := by rw [hV4]; exact (below_alloc (below_alloc (Below.refl _ _) (.cells #[.int .i64 0, .slice Av2 1 cv2, .int .i64 8] 26)) (.cells #[.int .u8 97] 5 (1, 2)))
            replace HS := Aside0.mk (Kd.C_below HS.out hb_)
            replace HB := Aside0.mk (below_then HB.out HB.out.size hb_)
            replace H2 := Aside0.mk (Kd.C_below H2.out hb_)
            replace CV2 := Aside0.mk (Kd.C_below CV2.out hb_)
            have BQ : Aside0 (V4.heap[w3.heap.size]? = some (.cells #[.int .i64 0, .slice Av2 1 cv2, .int .i64 8] 26 (0, 0))) := Aside0.mk (by rw [hV4]; have h_ := blk_alloc (heap_alloc_self w3 (.cells #[.int .i64 0, .slice Av2 1 cv2, .int .i64 8] 26)) (.cells #[.int .u8 97] 5 (1, 2)); simpa using h_)
            have LB : Aside0 (V4.heap[w3.heap.size + 1]? = some (.cells #[.int .u8 97] 5 (1, 2))) := Aside0.mk (by rw [hV4]; have h_ := heap_alloc_self (w3.alloc (.cells #[.int .i64 0, .slice Av2 1 cv2, .int .i64 8] 26)) (.cells #[.int .u8 97] 5 (1, 2)); simpa using h_)
            clear hV4 hb_
            refine (get_n (l := (fm 8).set 0 ⟨[97], [110, 101, 119]⟩) (r := ⟨0, [110, 101, 119], 0⟩) (m := 3) H2.out Hc2.out (lit_u8 [97] LB.out (by decide) rfl) (fm_w 8) (e26_eq HFA.out.2) (by rw [List.length_set, fm_len]) rfl rfl).mono ?_
            rintro e w4 ⟨Av3, cv3, rfl, hV3, hb_⟩
            clear BQ LB H2 CV2
            replace HS := Aside0.mk (Kd.C_below HS.out hb_)
            replace HB := Aside0.mk (below_then HB.out HB.out.size hb_)
            have q1 := Kd.C_string (P := Try.prog) (A := Av3) (c := cv3) Try.underlying24 Try.underlying5 Try.underlying9 hV3
            clear hb_ hV3
            go_wp2_with fail
            clear q1
            obtain ⟨V5, hV5⟩ : ∃ V_, V_ = (w4.alloc (.cells #[.int .u8 122, .int .u8 122] 5 (2, 3))) := ⟨_, rfl⟩
            rw [← hV5]
            have hb_ : Below w4.heap.size w4 V5 := by rw [hV5]; exact (below_alloc (Below.refl _ _) (.cells #[.int .u8 122, .int .u8 122] 5 (2, 3)))
            replace HS := Aside0.mk (Kd.C_below HS.out hb_)
            replace HB := Aside0.mk (below_then HB.out HB.out.size hb_)
            have LZ : Aside0 (V5.heap[w4.heap.size]? = some (.cells #[.int .u8 122, .int .u8 122] 5 (2, 3))) := Aside0.mk (by rw [hV5]; have h_ := heap_alloc_self w4 (.cells #[.int .u8 122, .int .u8 122] 5 (2, 3)); simpa using h_)
            clear hV5 hb_
            refine (get_n (l := fm 8) (r := ⟨5, [], 0⟩) (m := 0) HS.out Hc.out (lit_u8 [122, 122] LZ.out (by decide) rfl) (fun x hx => (fm_v 8 x hx).2) (e26_eq (forms_zz 8 (by have := HM.out; omega))) (fm_len 8) rfl rfl).mono ?_
            rintro e w5 ⟨Av5, cv5, rfl, hV5, hb_⟩
            clear LZ HS
            replace HB := Aside0.mk (below_then HB.out HB.out.size hb_)
            clear hb_ hV5
            have hf0 := field0
            go_wp2_with fail
            refine (awake9 w5).mono ?_
            rintro e w6 ⟨rfl, hb_⟩
            replace HB := Aside0.mk (below_then HB.out HB.out.size hb_)
            clear hb_
            go_wp2_with fail
            go_ret
            exact ⟨rfl, HB.out⟩
          · rcases Nat.eq_zero_or_pos i with q4 | q4
            · skip
              have kK : 8 < Kn := by assumption
              obtain rfl : i = 0 := by assumption
              obtain rfl : M = 0 := by have := HM.out; omega
              have d1 : decide ((8 : Int) < (Kn : Int)) = true := decide_eq_true (by omega)
              obtain ⟨W1, hW1⟩ : ∃ V_, V_ = ((wr.alloc (.cells (madeCells #[.int .u8 0] V) 5)).alloc (.cells (madeCells #[.int .u8 0] Kn) 5)).drew := ⟨_, rfl⟩
              have hb_ : Below wr.heap.size wr W1 := by rw [hW1]; exact below_drew1 (below_alloc (below_alloc (Below.refl _ _) _) _)
              have LV : W1.heap[wr.heap.size]? = some (.cells (madeCells #[.int .u8 0] V) 5 (0, 0)) := by rw [hW1]; show ((wr.alloc (.cells (madeCells #[.int .u8 0] V) 5)).alloc (.cells (madeCells #[.int .u8 0] Kn) 5)).heap[_]? = _; have h_ := blk_alloc (heap_alloc_self wr (.cells (madeCells #[.int .u8 0] V) 5)) (.cells (madeCells #[.int .u8 0] Kn) 5); simpa using h_
              have LK : W1.heap[wr.heap.size + 1]? = some (.cells (madeCells #[.int .u8 0] Kn) 5 (0, 0)) := by rw [hW1]; show ((wr.alloc (.cells (madeCells #[.int .u8 0] V) 5)).alloc (.cells (madeCells #[.int .u8 0] Kn) 5)).heap[_]? = _; have h_ := heap_alloc_self (wr.alloc (.cells (madeCells #[.int .u8 0] V) 5)) (.cells (madeCells #[.int .u8 0] Kn) 5); simpa using h_
              have CK := Aside0.mk (made_C LK (by omega))
              have CV := Aside0.mk (made_C LV (by omega))
              have HS := Aside0.mk (Kd.C_below HI.out.2.1 hb_)
              have HB := Aside0.mk (below_then HI.out.2.2 HI.out.2.2.size hb_)
              have Hc := Aside0.mk HI.out.1
              clear LK LV hb_ HI mK mV
              go_wp2_with fail
              rw [← hW1]
              clear hW1
              refine (put_n (l' := fm 0) (r := ⟨1, [], 0⟩) HS.out Hc.out CK.out CV.out (fm_v 0) (by rw [fm_len]; have := HM.out; omega) (by simp only [zs, List.length_replicate]; omega) (by simp only [zs, List.length_replicate]; omega) (by rw [putR, if_pos (by simp only [zs, List.length_replicate]; omega)]) (fm_len 0) List.length_replicate List.length_replicate).mono ?_
              rintro e w1 ⟨A1, c1, Av, cv, rfl, hc1, hC1, hV1, hb_⟩
              have hb_ := below_alloc hb_ (.cells #[.int .i64 1, .slice Av 0 cv, .int .i64 0] 26)
              replace CK := Aside0.mk (Kd.C_below CK.out hb_)
              replace CV := Aside0.mk (Kd.C_below CV.out hb_)
              replace HS := Aside0.mk (Kd.C_below HS.out hb_)
              replace HB := Aside0.mk (below_then HB.out HB.out.size hb_)
              have H1 := Aside0.mk (Kd.C_alloc hC1 (.cells #[.int .i64 1, .slice Av 0 cv, .int .i64 0] 26))
              have BR := Aside0.mk (heap_alloc_self w1 (.cells #[.int .i64 1, .slice Av 0 cv, .int .i64 0] 26))
              have Hc1 := Aside0.mk hc1
              clear hb_ hc1 hC1 hV1
              rw [fm_len]
              go_wp2_with fail
              generalize w1.alloc (.cells #[.int .i64 1, .slice Av 0 cv, .int .i64 0] 26) = V2 at CK CV HS HB H1 BR ⊢
              refine (same7 A A1 c c1 0 (fm 0) V2 (fm_len 0) HS.out H1.out).mono ?_
              rintro e w2 ⟨rfl, hb_⟩
              clear H1 BR CK CV
              replace HS := Aside0.mk (Kd.C_below HS.out hb_)
              replace HB := Aside0.mk (below_then HB.out HB.out.size hb_)
              clear hb_
              go_wp2_with fail
              go_region
              replace HS := Aside0.mk (Kd.C_below HS.out (below_drew1 (Below.refl w2.heap.size w2)))
              replace HB := Aside0.mk (below_then HB.out HB.out.size (below_drew1 (Below.refl w2.heap.size w2)))
              generalize w2.drew = w2d at HS HB ⊢
              have kc := conv_same
              go_wp2_with fail
              obtain ⟨V5, hV5⟩ : ∃ V_, V_ = (w2d.alloc (.cells #[.int .u8 122, .int .u8 122] 5 (2, 3))) := ⟨_, rfl⟩
              rw [← hV5]
              have hb_ : Below w2d.heap.size w2d V5 := by rw [hV5]; exact (below_alloc (Below.refl _ _) (.cells #[.int .u8 122, .int .u8 122] 5 (2, 3)))
              replace HS := Aside0.mk (Kd.C_below HS.out hb_)
              replace HB := Aside0.mk (below_then HB.out HB.out.size hb_)
              have LZ : Aside0 (V5.heap[w2d.heap.size]? = some (.cells #[.int .u8 122, .int .u8 122] 5 (2, 3))) := Aside0.mk (by rw [hV5]; have h_ := heap_alloc_self w2d (.cells #[.int .u8 122, .int .u8 122] 5 (2, 3)); simpa using h_)
              clear hV5 hb_
              refine (get_n (l := fm 0) (r := ⟨5, [], 0⟩) (m := 0) HS.out Hc.out (lit_u8 [122, 122] LZ.out (by decide) rfl) (fun x hx => (fm_v 0 x hx).2) (e26_eq (forms_zz 0 (by have := HM.out; omega))) (fm_len 0) rfl rfl).mono ?_
              rintro e w5 ⟨Av5, cv5, rfl, hV5, hb_⟩
              clear LZ HS
              replace HB := Aside0.mk (below_then HB.out HB.out.size hb_)
              clear hb_ hV5
              have hf0 := field0
              go_wp2_with fail
              refine (awake9 w5).mono ?_
              rintro e w6 ⟨rfl, hb_⟩
              replace HB := Aside0.mk (below_then HB.out HB.out.size hb_)
              clear hb_
              go_wp2_with fail
              go_ret
              exact ⟨rfl, HB.out⟩
            · skip
              have kK : 8 < Kn := by assumption
              have kN : 0 < i ∧ i < 8 := by omega
              obtain rfl : i = M := by have := HM.out; omega
              have d1 : decide ((8 : Int) < (Kn : Int)) = true := decide_eq_true (by omega)
              have d3 : decide ((8 : Int) ≤ (i : Int)) = false := decide_eq_false (by omega)
              have d4 : decide ((0 : Int) < (i : Int)) = true := decide_eq_true (by omega)
              obtain ⟨W1, hW1⟩ : ∃ V_, V_ = ((wr.alloc (.cells (madeCells #[.int .u8 0] V) 5)).alloc (.cells (madeCells #[.int .u8 0] Kn) 5)).drew := ⟨_, rfl⟩
              have hb_ : Below wr.heap.size wr W1 := by rw [hW1]; exact below_drew1 (below_alloc (below_alloc (Below.refl _ _) _) _)
              have LV : W1.heap[wr.heap.size]? = some (.cells (madeCells #[.int .u8 0] V) 5 (0, 0)) := by rw [hW1]; show ((wr.alloc (.cells (madeCells #[.int .u8 0] V) 5)).alloc (.cells (madeCells #[.int .u8 0] Kn) 5)).heap[_]? = _; have h_ := blk_alloc (heap_alloc_self wr (.cells (madeCells #[.int .u8 0] V) 5)) (.cells (madeCells #[.int .u8 0] Kn) 5); simpa using h_
              have LK : W1.heap[wr.heap.size + 1]? = some (.cells (madeCells #[.int .u8 0] Kn) 5 (0, 0)) := by rw [hW1]; show ((wr.alloc (.cells (madeCells #[.int .u8 0] V) 5)).alloc (.cells (madeCells #[.int .u8 0] Kn) 5)).heap[_]? = _; have h_ := heap_alloc_self (wr.alloc (.cells (madeCells #[.int .u8 0] V) 5)) (.cells (madeCells #[.int .u8 0] Kn) 5); simpa using h_
              have CK := Aside0.mk (made_C LK (by omega))
              have CV := Aside0.mk (made_C LV (by omega))
              have HS := Aside0.mk (Kd.C_below HI.out.2.1 hb_)
              have HB := Aside0.mk (below_then HI.out.2.2 HI.out.2.2.size hb_)
              have Hc := Aside0.mk HI.out.1
              clear LK LV hb_ HI mK mV
              go_wp2_with fail
              rw [← hW1]
              clear hW1
              refine (put_n (l' := fm i) (r := ⟨1, [], 0⟩) HS.out Hc.out CK.out CV.out (fm_v i) (by rw [fm_len]; have := HM.out; omega) (by simp only [zs, List.length_replicate]; omega) (by simp only [zs, List.length_replicate]; omega) (by rw [putR, if_pos (by simp only [zs, List.length_replicate]; omega)]) (fm_len i) List.length_replicate List.length_replicate).mono ?_
              rintro e w1 ⟨A1, c1, Av, cv, rfl, hc1, hC1, hV1, hb_⟩
              have hb_ := below_alloc hb_ (.cells #[.int .i64 1, .slice Av 0 cv, .int .i64 0] 26)
              replace CK := Aside0.mk (Kd.C_below CK.out hb_)
              replace CV := Aside0.mk (Kd.C_below CV.out hb_)
              replace HS := Aside0.mk (Kd.C_below HS.out hb_)
              replace HB := Aside0.mk (below_then HB.out HB.out.size hb_)
              have H1 := Aside0.mk (Kd.C_alloc hC1 (.cells #[.int .i64 1, .slice Av 0 cv, .int .i64 0] 26))
              have BR := Aside0.mk (heap_alloc_self w1 (.cells #[.int .i64 1, .slice Av 0 cv, .int .i64 0] 26))
              have Hc1 := Aside0.mk hc1
              clear hb_ hc1 hC1 hV1
              rw [fm_len]
              go_wp2_with fail
              generalize w1.alloc (.cells #[.int .i64 1, .slice Av 0 cv, .int .i64 0] 26) = V2 at CK CV HS HB H1 BR ⊢
              refine (same7 A A1 c c1 i (fm i) V2 (fm_len i) HS.out H1.out).mono ?_
              rintro e w2 ⟨rfl, hb_⟩
              clear H1 BR CK CV
              replace HS := Aside0.mk (Kd.C_below HS.out hb_)
              replace HB := Aside0.mk (below_then HB.out HB.out.size hb_)
              clear hb_
              go_wp2_with fail
              go_region
              replace HS := Aside0.mk (Kd.C_below HS.out (below_drew1 (Below.refl w2.heap.size w2)))
              replace HB := Aside0.mk (below_then HB.out HB.out.size (below_drew1 (Below.refl w2.heap.size w2)))
              generalize w2.drew = w2d at HS HB ⊢
              have kc := conv_same
              go_wp2_with fail
              obtain ⟨V3, hV3⟩ : ∃ V_, V_ = ((w2d.alloc (.cells #[.int .u8 97] 5 (1, 2))).alloc (.cells #[.int .u8 110, .int .u8 101, .int .u8 119] 5 (3, 4))) := ⟨_, rfl⟩
              rw [← hV3]
              have hb_ : Below w2d.heap.size w2d V3 := by rw [hV3]; exact (below_alloc (below_alloc (Below.refl _ _) (.cells #[.int .u8 97] 5 (1, 2))) (.cells #[.int .u8 110, .int .u8 101, .int .u8 119] 5 (3, 4)))
              replace HS := Aside0.mk (Kd.C_below HS.out hb_)
              replace HB := Aside0.mk (below_then HB.out HB.out.size hb_)
              have LA : Aside0 (V3.heap[w2d.heap.size]? = some (.cells #[.int .u8 97] 5 (1, 2))) := Aside0.mk (by rw [hV3]; have h_ := blk_alloc (heap_alloc_self w2d (.cells #[.int .u8 97] 5 (1, 2))) (.cells #[.int .u8 110, .int .u8 101, .int .u8 119] 5 (3, 4)); simpa using h_)
              have LW : Aside0 (V3.heap[w2d.heap.size + 1]? = some (.cells #[.int .u8 110, .int .u8 101, .int .u8 119] 5 (3, 4))) := Aside0.mk (by rw [hV3]; have h_ := heap_alloc_self (w2d.alloc (.cells #[.int .u8 97] 5 (1, 2))) (.cells #[.int .u8 110, .int .u8 101, .int .u8 119] 5 (3, 4)); simpa using h_)
              clear hV3 hb_
              have HFA := Aside0.mk (forms_a i (by have := HM.out; omega) (by have := HM.out; omega))
              refine (put_n (l' := (fm i).set 0 ⟨[97], [110, 101, 119]⟩) (r := ⟨0, [0], (i : Int)⟩) HS.out Hc.out (lit_u8 [97] LA.out (by decide) rfl) (lit_u8 [110, 101, 119] LW.out (by decide) rfl) (fm_v i) (by rw [fm_len]; have := HM.out; omega) (by decide) (by decide) (eP_eq HFA.out.1) (fm_len i) rfl rfl).mono ?_
              rintro e w3 ⟨A2, c2, Av2, cv2, rfl, hc2, hC2, hV2, hb_⟩
              clear LA LW
              replace HS := Aside0.mk (Kd.C_below HS.out hb_)
              replace HB := Aside0.mk (below_then HB.out HB.out.size hb_)
              rw [show ((fm i).set 0 (⟨[97], [110, 101, 119]⟩ : S32)).length = i from by rw [List.length_set, fm_len]]
              simp only [List.length_cons, List.length_nil, Nat.zero_add, Nat.reduceAdd]
              have H2 := Aside0.mk (hC2)
              have CV2 := Aside0.mk (hV2)
              have Hc2 := Aside0.mk hc2
              have q1 := Kd.C_string (P := Try.prog) (A := Av2) (c := cv2) Try.underlying24 Try.underlying5 Try.underlying9 (Kd.C_alloc CV2.out (.cells #[.int .i64 0, .slice Av2 1 cv2, .int .i64 (i : Int)] 26))
              simp only [List.length_cons, List.length_nil, Nat.zero_add, Nat.reduceAdd] at q1
              have j1 : strOfNums [0] = ⟨#[0]⟩ := rfl
              have j2 : strOfNums [110, 101, 119] = ⟨#[110, 101, 119]⟩ := rfl
              have hf1 := field1
              have e8 : (if (8 : Int) < (i : Int) then (8 : Int) else (i : Int)) = (i : Int) := by have := HM.out; split <;> omega
              clear hc2 hC2 hV2 hb_
              go_wp2_with fail
              clear q1 e8
              obtain ⟨V4, hV4⟩ : ∃ V_, V_ = ((w3.alloc (.cells #[.int .i64 0, .slice Av2 1 cv2, .int .i64 (i : Int)] 26)).alloc (.cells #[.int .u8 97] 5 (1, 2))) := ⟨_, rfl⟩
              rw [← hV4]
              have hb_ : Below w3.heap.size w3 V4 := by rw [hV4]; exact (below_alloc (below_alloc (Below.refl _ _) (.cells #[.int .i64 0, .slice Av2 1 cv2, .int .i64 (i : Int)] 26)) (.cells #[.int .u8 97] 5 (1, 2)))
              replace HS := Aside0.mk (Kd.C_below HS.out hb_)
              replace HB := Aside0.mk (below_then HB.out HB.out.size hb_)
              replace H2 := Aside0.mk (Kd.C_below H2.out hb_)
              replace CV2 := Aside0.mk (Kd.C_below CV2.out hb_)
              have BQ : Aside0 (V4.heap[w3.heap.size]? = some (.cells #[.int .i64 0, .slice Av2 1 cv2, .int .i64 (i : Int)] 26 (0, 0))) := Aside0.mk (by rw [hV4]; have h_ := blk_alloc (heap_alloc_self w3 (.cells #[.int .i64 0, .slice Av2 1 cv2, .int .i64 (i : Int)] 26)) (.cells #[.int .u8 97] 5 (1, 2)); simpa using h_)
              have LB : Aside0 (V4.heap[w3.heap.size + 1]? = some (.cells #[.int .u8 97] 5 (1, 2))) := Aside0.mk (by rw [hV4]; have h_ := heap_alloc_self (w3.alloc (.cells #[.int .i64 0, .slice Av2 1 cv2, .int .i64 (i : Int)] 26)) (.cells #[.int .u8 97] 5 (1, 2)); simpa using h_)
              clear hV4 hb_
              refine (get_n (l := (fm i).set 0 ⟨[97], [110, 101, 119]⟩) (r := ⟨0, [110, 101, 119], 0⟩) (m := 3) H2.out Hc2.out (lit_u8 [97] LB.out (by decide) rfl) (fm_w i) (e26_eq HFA.out.2) (by rw [List.length_set, fm_len]) rfl rfl).mono ?_
              rintro e w4 ⟨Av3, cv3, rfl, hV3, hb_⟩
              clear BQ LB H2 CV2
              replace HS := Aside0.mk (Kd.C_below HS.out hb_)
              replace HB := Aside0.mk (below_then HB.out HB.out.size hb_)
              have q1 := Kd.C_string (P := Try.prog) (A := Av3) (c := cv3) Try.underlying24 Try.underlying5 Try.underlying9 hV3
              clear hb_ hV3
              go_wp2_with fail
              clear q1
              obtain ⟨V5, hV5⟩ : ∃ V_, V_ = (w4.alloc (.cells #[.int .u8 122, .int .u8 122] 5 (2, 3))) := ⟨_, rfl⟩
              rw [← hV5]
              have hb_ : Below w4.heap.size w4 V5 := by rw [hV5]; exact (below_alloc (Below.refl _ _) (.cells #[.int .u8 122, .int .u8 122] 5 (2, 3)))
              replace HS := Aside0.mk (Kd.C_below HS.out hb_)
              replace HB := Aside0.mk (below_then HB.out HB.out.size hb_)
              have LZ : Aside0 (V5.heap[w4.heap.size]? = some (.cells #[.int .u8 122, .int .u8 122] 5 (2, 3))) := Aside0.mk (by rw [hV5]; have h_ := heap_alloc_self w4 (.cells #[.int .u8 122, .int .u8 122] 5 (2, 3)); simpa using h_)
              clear hV5 hb_
              refine (get_n (l := fm i) (r := ⟨5, [], 0⟩) (m := 0) HS.out Hc.out (lit_u8 [122, 122] LZ.out (by decide) rfl) (fun x hx => (fm_v i x hx).2) (e26_eq (forms_zz i (by have := HM.out; omega))) (fm_len i) rfl rfl).mono ?_
              rintro e w5 ⟨Av5, cv5, rfl, hV5, hb_⟩
              clear LZ HS
              replace HB := Aside0.mk (below_then HB.out HB.out.size hb_)
              clear hb_ hV5
              have hf0 := field0
              go_wp2_with fail
              refine (awake9 w5).mono ?_
              rintro e w6 ⟨rfl, hb_⟩
              replace HB := Aside0.mk (below_then HB.out HB.out.size hb_)
              clear hb_
              go_wp2_with fail
              go_ret
              exact ⟨rfl, HB.out⟩
        · by_cases q2 : 16 < V
          · by_cases q3 : 8 ≤ i
            · skip
              have kK : Kn ≤ 8 := by omega
              have kV : 16 < V := by assumption
              have kN : 8 ≤ i := by assumption
              obtain rfl : M = 8 := by have := HM.out; omega
              have d1 : decide ((8 : Int) < (Kn : Int)) = false := decide_eq_false (by omega)
              have d2 : decide ((16 : Int) < (V : Int)) = true := decide_eq_true (by omega)
              have d3 : decide ((8 : Int) ≤ (i : Int)) = true := decide_eq_true (by omega)
              have d4 : decide ((0 : Int) < (i : Int)) = true := decide_eq_true (by omega)
              obtain ⟨W1, hW1⟩ : ∃ V_, V_ = ((wr.alloc (.cells (madeCells #[.int .u8 0] V) 5)).alloc (.cells (madeCells #[.int .u8 0] Kn) 5)).drew := ⟨_, rfl⟩
              have hb_ : Below wr.heap.size wr W1 := by rw [hW1]; exact below_drew1 (below_alloc (below_alloc (Below.refl _ _) _) _)
              have LV : W1.heap[wr.heap.size]? = some (.cells (madeCells #[.int .u8 0] V) 5 (0, 0)) := by rw [hW1]; show ((wr.alloc (.cells (madeCells #[.int .u8 0] V) 5)).alloc (.cells (madeCells #[.int .u8 0] Kn) 5)).heap[_]? = _; have h_ := blk_alloc (heap_alloc_self wr (.cells (madeCells #[.int .u8 0] V) 5)) (.cells (madeCells #[.int .u8 0] Kn) 5); simpa using h_
              have LK : W1.heap[wr.heap.size + 1]? = some (.cells (madeCells #[.int .u8 0] Kn) 5 (0, 0)) := by rw [hW1]; show ((wr.alloc (.cells (madeCells #[.int .u8 0] V) 5)).alloc (.cells (madeCells #[.int .u8 0] Kn) 5)).heap[_]? = _; have h_ := heap_alloc_self (wr.alloc (.cells (madeCells #[.int .u8 0] V) 5)) (.cells (madeCells #[.int .u8 0] Kn) 5); simpa using h_
              have CK := Aside0.mk (made_C LK (by omega))
              have CV := Aside0.mk (made_C LV (by omega))
              have HS := Aside0.mk (Kd.C_below HI.out.2.1 hb_)
              have HB := Aside0.mk (below_then HI.out.2.2 HI.out.2.2.size hb_)
              have Hc := Aside0.mk HI.out.1
              clear LK LV hb_ HI mK mV
              go_wp2_with fail
              rw [← hW1]
              clear hW1
              refine (put_n (l' := fm 8) (r := ⟨1, [], 0⟩) HS.out Hc.out CK.out CV.out (fm_v 8) (by rw [fm_len]; have := HM.out; omega) (by simp only [zs, List.length_replicate]; omega) (by simp only [zs, List.length_replicate]; omega) (by rw [putR, if_pos (by simp only [zs, List.length_replicate]; omega)]) (fm_len 8) List.length_replicate List.length_replicate).mono ?_
              rintro e w1 ⟨A1, c1, Av, cv, rfl, hc1, hC1, hV1, hb_⟩
              have hb_ := below_alloc hb_ (.cells #[.int .i64 1, .slice Av 0 cv, .int .i64 0] 26)
              replace CK := Aside0.mk (Kd.C_below CK.out hb_)
              replace CV := Aside0.mk (Kd.C_below CV.out hb_)
              replace HS := Aside0.mk (Kd.C_below HS.out hb_)
              replace HB := Aside0.mk (below_then HB.out HB.out.size hb_)
              have H1 := Aside0.mk (Kd.C_alloc hC1 (.cells #[.int .i64 1, .slice Av 0 cv, .int .i64 0] 26))
              have BR := Aside0.mk (heap_alloc_self w1 (.cells #[.int .i64 1, .slice Av 0 cv, .int .i64 0] 26))
              have Hc1 := Aside0.mk hc1
              clear hb_ hc1 hC1 hV1
              rw [fm_len]
              go_wp2_with fail
              generalize w1.alloc (.cells #[.int .i64 1, .slice Av 0 cv, .int .i64 0] 26) = V2 at CK CV HS HB H1 BR ⊢
              refine (same7 A A1 c c1 8 (fm 8) V2 (fm_len 8) HS.out H1.out).mono ?_
              rintro e w2 ⟨rfl, hb_⟩
              clear H1 BR CK CV
              replace HS := Aside0.mk (Kd.C_below HS.out hb_)
              replace HB := Aside0.mk (below_then HB.out HB.out.size hb_)
              clear hb_
              go_wp2_with fail
              go_region
              replace HS := Aside0.mk (Kd.C_below HS.out (below_drew1 (Below.refl w2.heap.size w2)))
              replace HB := Aside0.mk (below_then HB.out HB.out.size (below_drew1 (Below.refl w2.heap.size w2)))
              generalize w2.drew = w2d at HS HB ⊢
              have kc := conv_same
              go_wp2_with fail
              obtain ⟨V3, hV3⟩ : ∃ V_, V_ = ((w2d.alloc (.cells #[.int .u8 97] 5 (1, 2))).alloc (.cells #[.int .u8 110, .int .u8 101, .int .u8 119] 5 (3, 4))) := ⟨_, rfl⟩
              rw [← hV3]
              have hb_ : Below w2d.heap.size w2d V3 := by rw [hV3]; exact (below_alloc (below_alloc (Below.refl _ _) (.cells #[.int .u8 97] 5 (1, 2))) (.cells #[.int .u8 110, .int .u8 101, .int .u8 119] 5 (3, 4)))
              replace HS := Aside0.mk (Kd.C_below HS.out hb_)
              replace HB := Aside0.mk (below_then HB.out HB.out.size hb_)
              have LA : Aside0 (V3.heap[w2d.heap.size]? = some (.cells #[.int .u8 97] 5 (1, 2))) := Aside0.mk (by rw [hV3]; have h_ := blk_alloc (heap_alloc_self w2d (.cells #[.int .u8 97] 5 (1, 2))) (.cells #[.int .u8 110, .int .u8 101, .int .u8 119] 5 (3, 4)); simpa using h_)
              have LW : Aside0 (V3.heap[w2d.heap.size + 1]? = some (.cells #[.int .u8 110, .int .u8 101, .int .u8 119] 5 (3, 4))) := Aside0.mk (by rw [hV3]; have h_ := heap_alloc_self (w2d.alloc (.cells #[.int .u8 97] 5 (1, 2))) (.cells #[.int .u8 110, .int .u8 101, .int .u8 119] 5 (3, 4)); simpa using h_)
              clear hV3 hb_
              have HFA := Aside0.mk (forms_a 8 (by have := HM.out; omega) (by have := HM.out; omega))
              refine (put_n (l' := (fm 8).set 0 ⟨[97], [110, 101, 119]⟩) (r := ⟨0, [0], 8⟩) HS.out Hc.out (lit_u8 [97] LA.out (by decide) rfl) (lit_u8 [110, 101, 119] LW.out (by decide) rfl) (fm_v 8) (by rw [fm_len]; have := HM.out; omega) (by decide) (by decide) (eP_eq HFA.out.1) (fm_len 8) rfl rfl).mono ?_
              rintro e w3 ⟨A2, c2, Av2, cv2, rfl, hc2, hC2, hV2, hb_⟩
              clear LA LW
              replace HS := Aside0.mk (Kd.C_below HS.out hb_)
              replace HB := Aside0.mk (below_then HB.out HB.out.size hb_)
              rw [show ((fm 8).set 0 (⟨[97], [110, 101, 119]⟩ : S32)).length = 8 from by rw [List.length_set, fm_len]]
              simp only [List.length_cons, List.length_nil, Nat.zero_add, Nat.reduceAdd]
              have H2 := Aside0.mk (hC2)
              have CV2 := Aside0.mk (hV2)
              have Hc2 := Aside0.mk hc2
              have q1 := Kd.C_string (P := Try.prog) (A := Av2) (c := cv2) Try.underlying24 Try.underlying5 Try.underlying9 (Kd.C_alloc CV2.out (.cells #[.int .i64 0, .slice Av2 1 cv2, .int .i64 8] 26))
              simp only [List.length_cons, List.length_nil, Nat.zero_add, Nat.reduceAdd] at q1
              have j1 : strOfNums [0] = ⟨#[0]⟩ := rfl
              have j2 : strOfNums [110, 101, 119] = ⟨#[110, 101, 119]⟩ := rfl
              have hf1 := field1
              have e8 : (if (8 : Int) < (i : Int) then (8 : Int) else (i : Int)) = 8 := by have := HM.out; split <;> omega
              clear hc2 hC2 hV2 hb_
              go_wp2_with fail
              clear q1 e8
              obtain ⟨V4, hV4⟩ : ∃ V_, V_ = ((w3.alloc (.cells #[.int .i64 0, .slice Av2 1 cv2, .int .i64 8] 26)).alloc (.cells #[.int .u8 97] 5 (1, 2))) := ⟨_, rfl⟩
              rw [← hV4]
              have hb_ : Below w3.heap.size w3 V4 := by rw [hV4]; exact (below_alloc (below_alloc (Below.refl _ _) (.cells #[.int .i64 0, .slice Av2 1 cv2, .int .i64 8] 26)) (.cells #[.int .u8 97] 5 (1, 2)))
              replace HS := Aside0.mk (Kd.C_below HS.out hb_)
              replace HB := Aside0.mk (below_then HB.out HB.out.size hb_)
              replace H2 := Aside0.mk (Kd.C_below H2.out hb_)
              replace CV2 := Aside0.mk (Kd.C_below CV2.out hb_)
              have BQ : Aside0 (V4.heap[w3.heap.size]? = some (.cells #[.int .i64 0, .slice Av2 1 cv2, .int .i64 8] 26 (0, 0))) := Aside0.mk (by rw [hV4]; have h_ := blk_alloc (heap_alloc_self w3 (.cells #[.int .i64 0, .slice Av2 1 cv2, .int .i64 8] 26)) (.cells #[.int .u8 97] 5 (1, 2)); simpa using h_)
              have LB : Aside0 (V4.heap[w3.heap.size + 1]? = some (.cells #[.int .u8 97] 5 (1, 2))) := Aside0.mk (by rw [hV4]; have h_ := heap_alloc_self (w3.alloc (.cells #[.int .i64 0, .slice Av2 1 cv2, .int .i64 8] 26)) (.cells #[.int .u8 97] 5 (1, 2)); simpa using h_)
              clear hV4 hb_
              refine (get_n (l := (fm 8).set 0 ⟨[97], [110, 101, 119]⟩) (r := ⟨0, [110, 101, 119], 0⟩) (m := 3) H2.out Hc2.out (lit_u8 [97] LB.out (by decide) rfl) (fm_w 8) (e26_eq HFA.out.2) (by rw [List.length_set, fm_len]) rfl rfl).mono ?_
              rintro e w4 ⟨Av3, cv3, rfl, hV3, hb_⟩
              clear BQ LB H2 CV2
              replace HS := Aside0.mk (Kd.C_below HS.out hb_)
              replace HB := Aside0.mk (below_then HB.out HB.out.size hb_)
              have q1 := Kd.C_string (P := Try.prog) (A := Av3) (c := cv3) Try.underlying24 Try.underlying5 Try.underlying9 hV3
              clear hb_ hV3
              go_wp2_with fail
              clear q1
              obtain ⟨V5, hV5⟩ : ∃ V_, V_ = (w4.alloc (.cells #[.int .u8 122, .int .u8 122] 5 (2, 3))) := ⟨_, rfl⟩
              rw [← hV5]
              have hb_ : Below w4.heap.size w4 V5 := by rw [hV5]; exact (below_alloc (Below.refl _ _) (.cells #[.int .u8 122, .int .u8 122] 5 (2, 3)))
              replace HS := Aside0.mk (Kd.C_below HS.out hb_)
              replace HB := Aside0.mk (below_then HB.out HB.out.size hb_)
              have LZ : Aside0 (V5.heap[w4.heap.size]? = some (.cells #[.int .u8 122, .int .u8 122] 5 (2, 3))) := Aside0.mk (by rw [hV5]; have h_ := heap_alloc_self w4 (.cells #[.int .u8 122, .int .u8 122] 5 (2, 3)); simpa using h_)
              clear hV5 hb_
              refine (get_n (l := fm 8) (r := ⟨5, [], 0⟩) (m := 0) HS.out Hc.out (lit_u8 [122, 122] LZ.out (by decide) rfl) (fun x hx => (fm_v 8 x hx).2) (e26_eq (forms_zz 8 (by have := HM.out; omega))) (fm_len 8) rfl rfl).mono ?_
              rintro e w5 ⟨Av5, cv5, rfl, hV5, hb_⟩
              clear LZ HS
              replace HB := Aside0.mk (below_then HB.out HB.out.size hb_)
              clear hb_ hV5
              have hf0 := field0
              go_wp2_with fail
              refine (awake9 w5).mono ?_
              rintro e w6 ⟨rfl, hb_⟩
              replace HB := Aside0.mk (below_then HB.out HB.out.size hb_)
              clear hb_
              go_wp2_with fail
              go_ret
              exact ⟨rfl, HB.out⟩
            · rcases Nat.eq_zero_or_pos i with q4 | q4
              · skip
                have kK : Kn ≤ 8 := by omega
                have kV : 16 < V := by assumption
                obtain rfl : i = 0 := by assumption
                obtain rfl : M = 0 := by have := HM.out; omega
                have d1 : decide ((8 : Int) < (Kn : Int)) = false := decide_eq_false (by omega)
                have d2 : decide ((16 : Int) < (V : Int)) = true := decide_eq_true (by omega)
                obtain ⟨W1, hW1⟩ : ∃ V_, V_ = ((wr.alloc (.cells (madeCells #[.int .u8 0] V) 5)).alloc (.cells (madeCells #[.int .u8 0] Kn) 5)).drew := ⟨_, rfl⟩
                have hb_ : Below wr.heap.size wr W1 := by rw [hW1]; exact below_drew1 (below_alloc (below_alloc (Below.refl _ _) _) _)
                have LV : W1.heap[wr.heap.size]? = some (.cells (madeCells #[.int .u8 0] V) 5 (0, 0)) := by rw [hW1]; show ((wr.alloc (.cells (madeCells #[.int .u8 0] V) 5)).alloc (.cells (madeCells #[.int .u8 0] Kn) 5)).heap[_]? = _; have h_ := blk_alloc (heap_alloc_self wr (.cells (madeCells #[.int .u8 0] V) 5)) (.cells (madeCells #[.int .u8 0] Kn) 5); simpa using h_
                have LK : W1.heap[wr.heap.size + 1]? = some (.cells (madeCells #[.int .u8 0] Kn) 5 (0, 0)) := by rw [hW1]; show ((wr.alloc (.cells (madeCells #[.int .u8 0] V) 5)).alloc (.cells (madeCells #[.int .u8 0] Kn) 5)).heap[_]? = _; have h_ := heap_alloc_self (wr.alloc (.cells (madeCells #[.int .u8 0] V) 5)) (.cells (madeCells #[.int .u8 0] Kn) 5); simpa using h_
                have CK := Aside0.mk (made_C LK (by omega))
                have CV := Aside0.mk (made_C LV (by omega))
                have HS := Aside0.mk (Kd.C_below HI.out.2.1 hb_)
                have HB := Aside0.mk (below_then HI.out.2.2 HI.out.2.2.size hb_)
                have Hc := Aside0.mk HI.out.1
                clear LK LV hb_ HI mK mV
                go_wp2_with fail
                rw [← hW1]
                clear hW1
                refine (put_n (l' := fm 0) (r := ⟨1, [], 0⟩) HS.out Hc.out CK.out CV.out (fm_v 0) (by rw [fm_len]; have := HM.out; omega) (by simp only [zs, List.length_replicate]; omega) (by simp only [zs, List.length_replicate]; omega) (by rw [putR, if_pos (by simp only [zs, List.length_replicate]; omega)]) (fm_len 0) List.length_replicate List.length_replicate).mono ?_
                rintro e w1 ⟨A1, c1, Av, cv, rfl, hc1, hC1, hV1, hb_⟩
                have hb_ := below_alloc hb_ (.cells #[.int .i64 1, .slice Av 0 cv, .int .i64 0] 26)
                replace CK := Aside0.mk (Kd.C_below CK.out hb_)
                replace CV := Aside0.mk (Kd.C_below CV.out hb_)
                replace HS := Aside0.mk (Kd.C_below HS.out hb_)
                replace HB := Aside0.mk (below_then HB.out HB.out.size hb_)
                have H1 := Aside0.mk (Kd.C_alloc hC1 (.cells #[.int .i64 1, .slice Av 0 cv, .int .i64 0] 26))
                have BR := Aside0.mk (heap_alloc_self w1 (.cells #[.int .i64 1, .slice Av 0 cv, .int .i64 0] 26))
                have Hc1 := Aside0.mk hc1
                clear hb_ hc1 hC1 hV1
                rw [fm_len]
                go_wp2_with fail
                generalize w1.alloc (.cells #[.int .i64 1, .slice Av 0 cv, .int .i64 0] 26) = V2 at CK CV HS HB H1 BR ⊢
                refine (same7 A A1 c c1 0 (fm 0) V2 (fm_len 0) HS.out H1.out).mono ?_
                rintro e w2 ⟨rfl, hb_⟩
                clear H1 BR CK CV
                replace HS := Aside0.mk (Kd.C_below HS.out hb_)
                replace HB := Aside0.mk (below_then HB.out HB.out.size hb_)
                clear hb_
                go_wp2_with fail
                go_region
                replace HS := Aside0.mk (Kd.C_below HS.out (below_drew1 (Below.refl w2.heap.size w2)))
                replace HB := Aside0.mk (below_then HB.out HB.out.size (below_drew1 (Below.refl w2.heap.size w2)))
                generalize w2.drew = w2d at HS HB ⊢
                have kc := conv_same
                go_wp2_with fail
                obtain ⟨V5, hV5⟩ : ∃ V_, V_ = (w2d.alloc (.cells #[.int .u8 122, .int .u8 122] 5 (2, 3))) := ⟨_, rfl⟩
                rw [← hV5]
                have hb_ : Below w2d.heap.size w2d V5 := by rw [hV5]; exact (below_alloc (Below.refl _ _) (.cells #[.int .u8 122, .int .u8 122] 5 (2, 3)))
                replace HS := Aside0.mk (Kd.C_below HS.out hb_)
                replace HB := Aside0.mk (below_then HB.out HB.out.size hb_)
                have LZ : Aside0 (V5.heap[w2d.heap.size]? = some (.cells #[.int .u8 122, .int .u8 122] 5 (2, 3))) := Aside0.mk (by rw [hV5]; have h_ := heap_alloc_self w2d (.cells #[.int .u8 122, .int .u8 122] 5 (2, 3)); simpa using h_)
                clear hV5 hb_
                refine (get_n (l := fm 0) (r := ⟨5, [], 0⟩) (m := 0) HS.out Hc.out (lit_u8 [122, 122] LZ.out (by decide) rfl) (fun x hx => (fm_v 0 x hx).2) (e26_eq (forms_zz 0 (by have := HM.out; omega))) (fm_len 0) rfl rfl).mono ?_
                rintro e w5 ⟨Av5, cv5, rfl, hV5, hb_⟩
                clear LZ HS
                replace HB := Aside0.mk (below_then HB.out HB.out.size hb_)
                clear hb_ hV5
                have hf0 := field0
                go_wp2_with fail
                refine (awake9 w5).mono ?_
                rintro e w6 ⟨rfl, hb_⟩
                replace HB := Aside0.mk (below_then HB.out HB.out.size hb_)
                clear hb_
                go_wp2_with fail
                go_ret
                exact ⟨rfl, HB.out⟩
              · skip
                have kK : Kn ≤ 8 := by omega
                have kV : 16 < V := by assumption
                have kN : 0 < i ∧ i < 8 := by omega
                obtain rfl : i = M := by have := HM.out; omega
                have d1 : decide ((8 : Int) < (Kn : Int)) = false := decide_eq_false (by omega)
                have d2 : decide ((16 : Int) < (V : Int)) = true := decide_eq_true (by omega)
                have d3 : decide ((8 : Int) ≤ (i : Int)) = false := decide_eq_false (by omega)
                have d4 : decide ((0 : Int) < (i : Int)) = true := decide_eq_true (by omega)
                obtain ⟨W1, hW1⟩ : ∃ V_, V_ = ((wr.alloc (.cells (madeCells #[.int .u8 0] V) 5)).alloc (.cells (madeCells #[.int .u8 0] Kn) 5)).drew := ⟨_, rfl⟩
                have hb_ : Below wr.heap.size wr W1 := by rw [hW1]; exact below_drew1 (below_alloc (below_alloc (Below.refl _ _) _) _)
                have LV : W1.heap[wr.heap.size]? = some (.cells (madeCells #[.int .u8 0] V) 5 (0, 0)) := by rw [hW1]; show ((wr.alloc (.cells (madeCells #[.int .u8 0] V) 5)).alloc (.cells (madeCells #[.int .u8 0] Kn) 5)).heap[_]? = _; have h_ := blk_alloc (heap_alloc_self wr (.cells (madeCells #[.int .u8 0] V) 5)) (.cells (madeCells #[.int .u8 0] Kn) 5); simpa using h_
                have LK : W1.heap[wr.heap.size + 1]? = some (.cells (madeCells #[.int .u8 0] Kn) 5 (0, 0)) := by rw [hW1]; show ((wr.alloc (.cells (madeCells #[.int .u8 0] V) 5)).alloc (.cells (madeCells #[.int .u8 0] Kn) 5)).heap[_]? = _; have h_ := heap_alloc_self (wr.alloc (.cells (madeCells #[.int .u8 0] V) 5)) (.cells (madeCells #[.int .u8 0] Kn) 5); simpa using h_
                have CK := Aside0.mk (made_C LK (by omega))
                have CV := Aside0.mk (made_C LV (by omega))
                have HS := Aside0.mk (Kd.C_below HI.out.2.1 hb_)
                have HB := Aside0.mk (below_then HI.out.2.2 HI.out.2.2.size hb_)
                have Hc := Aside0.mk HI.out.1
                clear LK LV hb_ HI mK mV
                go_wp2_with fail
                rw [← hW1]
                clear hW1
                refine (put_n (l' := fm i) (r := ⟨1, [], 0⟩) HS.out Hc.out CK.out CV.out (fm_v i) (by rw [fm_len]; have := HM.out; omega) (by simp only [zs, List.length_replicate]; omega) (by simp only [zs, List.length_replicate]; omega) (by rw [putR, if_pos (by simp only [zs, List.length_replicate]; omega)]) (fm_len i) List.length_replicate List.length_replicate).mono ?_
                rintro e w1 ⟨A1, c1, Av, cv, rfl, hc1, hC1, hV1, hb_⟩
                have hb_ := below_alloc hb_ (.cells #[.int .i64 1, .slice Av 0 cv, .int .i64 0] 26)
                replace CK := Aside0.mk (Kd.C_below CK.out hb_)
                replace CV := Aside0.mk (Kd.C_below CV.out hb_)
                replace HS := Aside0.mk (Kd.C_below HS.out hb_)
                replace HB := Aside0.mk (below_then HB.out HB.out.size hb_)
                have H1 := Aside0.mk (Kd.C_alloc hC1 (.cells #[.int .i64 1, .slice Av 0 cv, .int .i64 0] 26))
                have BR := Aside0.mk (heap_alloc_self w1 (.cells #[.int .i64 1, .slice Av 0 cv, .int .i64 0] 26))
                have Hc1 := Aside0.mk hc1
                clear hb_ hc1 hC1 hV1
                rw [fm_len]
                go_wp2_with fail
                generalize w1.alloc (.cells #[.int .i64 1, .slice Av 0 cv, .int .i64 0] 26) = V2 at CK CV HS HB H1 BR ⊢
                refine (same7 A A1 c c1 i (fm i) V2 (fm_len i) HS.out H1.out).mono ?_
                rintro e w2 ⟨rfl, hb_⟩
                clear H1 BR CK CV
                replace HS := Aside0.mk (Kd.C_below HS.out hb_)
                replace HB := Aside0.mk (below_then HB.out HB.out.size hb_)
                clear hb_
                go_wp2_with fail
                go_region
                replace HS := Aside0.mk (Kd.C_below HS.out (below_drew1 (Below.refl w2.heap.size w2)))
                replace HB := Aside0.mk (below_then HB.out HB.out.size (below_drew1 (Below.refl w2.heap.size w2)))
                generalize w2.drew = w2d at HS HB ⊢
                have kc := conv_same
                go_wp2_with fail
                obtain ⟨V3, hV3⟩ : ∃ V_, V_ = ((w2d.alloc (.cells #[.int .u8 97] 5 (1, 2))).alloc (.cells #[.int .u8 110, .int .u8 101, .int .u8 119] 5 (3, 4))) := ⟨_, rfl⟩
                rw [← hV3]
                have hb_ : Below w2d.heap.size w2d V3 := by rw [hV3]; exact (below_alloc (below_alloc (Below.refl _ _) (.cells #[.int .u8 97] 5 (1, 2))) (.cells #[.int .u8 110, .int .u8 101, .int .u8 119] 5 (3, 4)))
                replace HS := Aside0.mk (Kd.C_below HS.out hb_)
                replace HB := Aside0.mk (below_then HB.out HB.out.size hb_)
                have LA : Aside0 (V3.heap[w2d.heap.size]? = some (.cells #[.int .u8 97] 5 (1, 2))) := Aside0.mk (by rw [hV3]; have h_ := blk_alloc (heap_alloc_self w2d (.cells #[.int .u8 97] 5 (1, 2))) (.cells #[.int .u8 110, .int .u8 101, .int .u8 119] 5 (3, 4)); simpa using h_)
                have LW : Aside0 (V3.heap[w2d.heap.size + 1]? = some (.cells #[.int .u8 110, .int .u8 101, .int .u8 119] 5 (3, 4))) := Aside0.mk (by rw [hV3]; have h_ := heap_alloc_self (w2d.alloc (.cells #[.int .u8 97] 5 (1, 2))) (.cells #[.int .u8 110, .int .u8 101, .int .u8 119] 5 (3, 4)); simpa using h_)
                clear hV3 hb_
                have HFA := Aside0.mk (forms_a i (by have := HM.out; omega) (by have := HM.out; omega))
                refine (put_n (l' := (fm i).set 0 ⟨[97], [110, 101, 119]⟩) (r := ⟨0, [0], (i : Int)⟩) HS.out Hc.out (lit_u8 [97] LA.out (by decide) rfl) (lit_u8 [110, 101, 119] LW.out (by decide) rfl) (fm_v i) (by rw [fm_len]; have := HM.out; omega) (by decide) (by decide) (eP_eq HFA.out.1) (fm_len i) rfl rfl).mono ?_
                rintro e w3 ⟨A2, c2, Av2, cv2, rfl, hc2, hC2, hV2, hb_⟩
                clear LA LW
                replace HS := Aside0.mk (Kd.C_below HS.out hb_)
                replace HB := Aside0.mk (below_then HB.out HB.out.size hb_)
                rw [show ((fm i).set 0 (⟨[97], [110, 101, 119]⟩ : S32)).length = i from by rw [List.length_set, fm_len]]
                simp only [List.length_cons, List.length_nil, Nat.zero_add, Nat.reduceAdd]
                have H2 := Aside0.mk (hC2)
                have CV2 := Aside0.mk (hV2)
                have Hc2 := Aside0.mk hc2
                have q1 := Kd.C_string (P := Try.prog) (A := Av2) (c := cv2) Try.underlying24 Try.underlying5 Try.underlying9 (Kd.C_alloc CV2.out (.cells #[.int .i64 0, .slice Av2 1 cv2, .int .i64 (i : Int)] 26))
                simp only [List.length_cons, List.length_nil, Nat.zero_add, Nat.reduceAdd] at q1
                have j1 : strOfNums [0] = ⟨#[0]⟩ := rfl
                have j2 : strOfNums [110, 101, 119] = ⟨#[110, 101, 119]⟩ := rfl
                have hf1 := field1
                have e8 : (if (8 : Int) < (i : Int) then (8 : Int) else (i : Int)) = (i : Int) := by have := HM.out; split <;> omega
                clear hc2 hC2 hV2 hb_
                go_wp2_with fail
                clear q1 e8
                obtain ⟨V4, hV4⟩ : ∃ V_, V_ = ((w3.alloc (.cells #[.int .i64 0, .slice Av2 1 cv2, .int .i64 (i : Int)] 26)).alloc (.cells #[.int .u8 97] 5 (1, 2))) := ⟨_, rfl⟩
                rw [← hV4]
                have hb_ : Below w3.heap.size w3 V4 := by rw [hV4]; exact (below_alloc (below_alloc (Below.refl _ _) (.cells #[.int .i64 0, .slice Av2 1 cv2, .int .i64 (i : Int)] 26)) (.cells #[.int .u8 97] 5 (1, 2)))
                replace HS := Aside0.mk (Kd.C_below HS.out hb_)
                replace HB := Aside0.mk (below_then HB.out HB.out.size hb_)
                replace H2 := Aside0.mk (Kd.C_below H2.out hb_)
                replace CV2 := Aside0.mk (Kd.C_below CV2.out hb_)
                have BQ : Aside0 (V4.heap[w3.heap.size]? = some (.cells #[.int .i64 0, .slice Av2 1 cv2, .int .i64 (i : Int)] 26 (0, 0))) := Aside0.mk (by rw [hV4]; have h_ := blk_alloc (heap_alloc_self w3 (.cells #[.int .i64 0, .slice Av2 1 cv2, .int .i64 (i : Int)] 26)) (.cells #[.int .u8 97] 5 (1, 2)); simpa using h_)
                have LB : Aside0 (V4.heap[w3.heap.size + 1]? = some (.cells #[.int .u8 97] 5 (1, 2))) := Aside0.mk (by rw [hV4]; have h_ := heap_alloc_self (w3.alloc (.cells #[.int .i64 0, .slice Av2 1 cv2, .int .i64 (i : Int)] 26)) (.cells #[.int .u8 97] 5 (1, 2)); simpa using h_)
                clear hV4 hb_
                refine (get_n (l := (fm i).set 0 ⟨[97], [110, 101, 119]⟩) (r := ⟨0, [110, 101, 119], 0⟩) (m := 3) H2.out Hc2.out (lit_u8 [97] LB.out (by decide) rfl) (fm_w i) (e26_eq HFA.out.2) (by rw [List.length_set, fm_len]) rfl rfl).mono ?_
                rintro e w4 ⟨Av3, cv3, rfl, hV3, hb_⟩
                clear BQ LB H2 CV2
                replace HS := Aside0.mk (Kd.C_below HS.out hb_)
                replace HB := Aside0.mk (below_then HB.out HB.out.size hb_)
                have q1 := Kd.C_string (P := Try.prog) (A := Av3) (c := cv3) Try.underlying24 Try.underlying5 Try.underlying9 hV3
                clear hb_ hV3
                go_wp2_with fail
                clear q1
                obtain ⟨V5, hV5⟩ : ∃ V_, V_ = (w4.alloc (.cells #[.int .u8 122, .int .u8 122] 5 (2, 3))) := ⟨_, rfl⟩
                rw [← hV5]
                have hb_ : Below w4.heap.size w4 V5 := by rw [hV5]; exact (below_alloc (Below.refl _ _) (.cells #[.int .u8 122, .int .u8 122] 5 (2, 3)))
                replace HS := Aside0.mk (Kd.C_below HS.out hb_)
                replace HB := Aside0.mk (below_then HB.out HB.out.size hb_)
                have LZ : Aside0 (V5.heap[w4.heap.size]? = some (.cells #[.int .u8 122, .int .u8 122] 5 (2, 3))) := Aside0.mk (by rw [hV5]; have h_ := heap_alloc_self w4 (.cells #[.int .u8 122, .int .u8 122] 5 (2, 3)); simpa using h_)
                clear hV5 hb_
                refine (get_n (l := fm i) (r := ⟨5, [], 0⟩) (m := 0) HS.out Hc.out (lit_u8 [122, 122] LZ.out (by decide) rfl) (fun x hx => (fm_v i x hx).2) (e26_eq (forms_zz i (by have := HM.out; omega))) (fm_len i) rfl rfl).mono ?_
                rintro e w5 ⟨Av5, cv5, rfl, hV5, hb_⟩
                clear LZ HS
                replace HB := Aside0.mk (below_then HB.out HB.out.size hb_)
                clear hb_ hV5
                have hf0 := field0
                go_wp2_with fail
                refine (awake9 w5).mono ?_
                rintro e w6 ⟨rfl, hb_⟩
                replace HB := Aside0.mk (below_then HB.out HB.out.size hb_)
                clear hb_
                go_wp2_with fail
                go_ret
                exact ⟨rfl, HB.out⟩
          · by_cases q3 : 8 ≤ i
            · skip
              have kK : Kn ≤ 8 := by omega
              have kV : V ≤ 16 := by omega
              have kN : 8 ≤ i := by assumption
              obtain rfl : M = 8 := by have := HM.out; omega
              have d1 : decide ((8 : Int) < (Kn : Int)) = false := decide_eq_false (by omega)
              have d2 : decide ((16 : Int) < (V : Int)) = false := decide_eq_false (by omega)
              have d3 : decide ((8 : Int) ≤ (i : Int)) = true := decide_eq_true (by omega)
              have d4 : decide ((0 : Int) < (i : Int)) = true := decide_eq_true (by omega)
              obtain ⟨W1, hW1⟩ : ∃ V_, V_ = ((wr.alloc (.cells (madeCells #[.int .u8 0] V) 5)).alloc (.cells (madeCells #[.int .u8 0] Kn) 5)).drew := ⟨_, rfl⟩
              have hb_ : Below wr.heap.size wr W1 := by rw [hW1]; exact below_drew1 (below_alloc (below_alloc (Below.refl _ _) _) _)
              have LV : W1.heap[wr.heap.size]? = some (.cells (madeCells #[.int .u8 0] V) 5 (0, 0)) := by rw [hW1]; show ((wr.alloc (.cells (madeCells #[.int .u8 0] V) 5)).alloc (.cells (madeCells #[.int .u8 0] Kn) 5)).heap[_]? = _; have h_ := blk_alloc (heap_alloc_self wr (.cells (madeCells #[.int .u8 0] V) 5)) (.cells (madeCells #[.int .u8 0] Kn) 5); simpa using h_
              have LK : W1.heap[wr.heap.size + 1]? = some (.cells (madeCells #[.int .u8 0] Kn) 5 (0, 0)) := by rw [hW1]; show ((wr.alloc (.cells (madeCells #[.int .u8 0] V) 5)).alloc (.cells (madeCells #[.int .u8 0] Kn) 5)).heap[_]? = _; have h_ := heap_alloc_self (wr.alloc (.cells (madeCells #[.int .u8 0] V) 5)) (.cells (madeCells #[.int .u8 0] Kn) 5); simpa using h_
              have CK := Aside0.mk (made_C LK (by omega))
              have CV := Aside0.mk (made_C LV (by omega))
              have HS := Aside0.mk (Kd.C_below HI.out.2.1 hb_)
              have HB := Aside0.mk (below_then HI.out.2.2 HI.out.2.2.size hb_)
              have Hc := Aside0.mk HI.out.1
              clear LK LV hb_ HI mK mV
              go_wp2_with fail
              rw [← hW1]
              clear hW1
              refine (put_n (l' := fm 8) (r := ⟨3, [], 0⟩) HS.out Hc.out CK.out CV.out (fm_v 8) (by rw [fm_len]; have := HM.out; omega) (by simp only [zs, List.length_replicate]; omega) (by simp only [zs, List.length_replicate]; omega) (by rw [putR, if_neg (by simp only [zs, List.length_replicate]; omega), beq_iff_eq.1 (forms_zero 8 (by have := HM.out; omega) Kn (by omega)), if_neg (by decide), fm_len, if_pos (by have := HM.out; omega)]) (fm_len 8) List.length_replicate List.length_replicate).mono ?_
              rintro e w1 ⟨A1, c1, Av, cv, rfl, hc1, hC1, hV1, hb_⟩
              have hb_ := below_alloc hb_ (.cells #[.int .i64 3, .slice Av 0 cv, .int .i64 0] 26)
              replace CK := Aside0.mk (Kd.C_below CK.out hb_)
              replace CV := Aside0.mk (Kd.C_below CV.out hb_)
              replace HS := Aside0.mk (Kd.C_below HS.out hb_)
              replace HB := Aside0.mk (below_then HB.out HB.out.size hb_)
              have H1 := Aside0.mk (Kd.C_alloc hC1 (.cells #[.int .i64 3, .slice Av 0 cv, .int .i64 0] 26))
              have BR := Aside0.mk (heap_alloc_self w1 (.cells #[.int .i64 3, .slice Av 0 cv, .int .i64 0] 26))
              have Hc1 := Aside0.mk hc1
              clear hb_ hc1 hC1 hV1
              rw [fm_len]
              go_wp2_with fail
              generalize w1.alloc (.cells #[.int .i64 3, .slice Av 0 cv, .int .i64 0] 26) = V2 at CK CV HS HB H1 BR ⊢
              refine (same7 A A1 c c1 8 (fm 8) V2 (fm_len 8) HS.out H1.out).mono ?_
              rintro e w2 ⟨rfl, hb_⟩
              clear H1 BR CK CV
              replace HS := Aside0.mk (Kd.C_below HS.out hb_)
              replace HB := Aside0.mk (below_then HB.out HB.out.size hb_)
              clear hb_
              go_wp2_with fail
              go_region
              replace HS := Aside0.mk (Kd.C_below HS.out (below_drew1 (Below.refl w2.heap.size w2)))
              replace HB := Aside0.mk (below_then HB.out HB.out.size (below_drew1 (Below.refl w2.heap.size w2)))
              generalize w2.drew = w2d at HS HB ⊢
              have kc := conv_same
              go_wp2_with fail
              obtain ⟨V3, hV3⟩ : ∃ V_, V_ = ((w2d.alloc (.cells #[.int .u8 97] 5 (1, 2))).alloc (.cells #[.int .u8 110, .int .u8 101, .int .u8 119] 5 (3, 4))) := ⟨_, rfl⟩
              rw [← hV3]
              have hb_ : Below w2d.heap.size w2d V3 := by rw [hV3]; exact (below_alloc (below_alloc (Below.refl _ _) (.cells #[.int .u8 97] 5 (1, 2))) (.cells #[.int .u8 110, .int .u8 101, .int .u8 119] 5 (3, 4)))
              replace HS := Aside0.mk (Kd.C_below HS.out hb_)
              replace HB := Aside0.mk (below_then HB.out HB.out.size hb_)
              have LA : Aside0 (V3.heap[w2d.heap.size]? = some (.cells #[.int .u8 97] 5 (1, 2))) := Aside0.mk (by rw [hV3]; have h_ := blk_alloc (heap_alloc_self w2d (.cells #[.int .u8 97] 5 (1, 2))) (.cells #[.int .u8 110, .int .u8 101, .int .u8 119] 5 (3, 4)); simpa using h_)
              have LW : Aside0 (V3.heap[w2d.heap.size + 1]? = some (.cells #[.int .u8 110, .int .u8 101, .int .u8 119] 5 (3, 4))) := Aside0.mk (by rw [hV3]; have h_ := heap_alloc_self (w2d.alloc (.cells #[.int .u8 97] 5 (1, 2))) (.cells #[.int .u8 110, .int .u8 101, .int .u8 119] 5 (3, 4)); simpa using h_)
              clear hV3 hb_
              have HFA := Aside0.mk (forms_a 8 (by have := HM.out; omega) (by have := HM.out; omega))
              refine (put_n (l' := (fm 8).set 0 ⟨[97], [110, 101, 119]⟩) (r := ⟨0, [0], 8⟩) HS.out Hc.out (lit_u8 [97] LA.out (by decide) rfl) (lit_u8 [110, 101, 119] LW.out (by decide) rfl) (fm_v 8) (by rw [fm_len]; have := HM.out; omega) (by decide) (by decide) (eP_eq HFA.out.1) (fm_len 8) rfl rfl).mono ?_
              rintro e w3 ⟨A2, c2, Av2, cv2, rfl, hc2, hC2, hV2, hb_⟩
              clear LA LW
              replace HS := Aside0.mk (Kd.C_below HS.out hb_)
              replace HB := Aside0.mk (below_then HB.out HB.out.size hb_)
              rw [show ((fm 8).set 0 (⟨[97], [110, 101, 119]⟩ : S32)).length = 8 from by rw [List.length_set, fm_len]]
              simp only [List.length_cons, List.length_nil, Nat.zero_add, Nat.reduceAdd]
              have H2 := Aside0.mk (hC2)
              have CV2 := Aside0.mk (hV2)
              have Hc2 := Aside0.mk hc2
              have q1 := Kd.C_string (P := Try.prog) (A := Av2) (c := cv2) Try.underlying24 Try.underlying5 Try.underlying9 (Kd.C_alloc CV2.out (.cells #[.int .i64 0, .slice Av2 1 cv2, .int .i64 8] 26))
              simp only [List.length_cons, List.length_nil, Nat.zero_add, Nat.reduceAdd] at q1
              have j1 : strOfNums [0] = ⟨#[0]⟩ := rfl
              have j2 : strOfNums [110, 101, 119] = ⟨#[110, 101, 119]⟩ := rfl
              have hf1 := field1
              have e8 : (if (8 : Int) < (i : Int) then (8 : Int) else (i : Int)) = 8 := by have := HM.out; split <;> omega
              clear hc2 hC2 hV2 hb_
              go_wp2_with fail
              clear q1 e8
              obtain ⟨V4, hV4⟩ : ∃ V_, V_ = ((w3.alloc (.cells #[.int .i64 0, .slice Av2 1 cv2, .int .i64 8] 26)).alloc (.cells #[.int .u8 97] 5 (1, 2))) := ⟨_, rfl⟩
              rw [← hV4]
              have hb_ : Below w3.heap.size w3 V4 := by rw [hV4]; exact (below_alloc (below_alloc (Below.refl _ _) (.cells #[.int .i64 0, .slice Av2 1 cv2, .int .i64 8] 26)) (.cells #[.int .u8 97] 5 (1, 2)))
              replace HS := Aside0.mk (Kd.C_below HS.out hb_)
              replace HB := Aside0.mk (below_then HB.out HB.out.size hb_)
              replace H2 := Aside0.mk (Kd.C_below H2.out hb_)
              replace CV2 := Aside0.mk (Kd.C_below CV2.out hb_)
              have BQ : Aside0 (V4.heap[w3.heap.size]? = some (.cells #[.int .i64 0, .slice Av2 1 cv2, .int .i64 8] 26 (0, 0))) := Aside0.mk (by rw [hV4]; have h_ := blk_alloc (heap_alloc_self w3 (.cells #[.int .i64 0, .slice Av2 1 cv2, .int .i64 8] 26)) (.cells #[.int .u8 97] 5 (1, 2)); simpa using h_)
              have LB : Aside0 (V4.heap[w3.heap.size + 1]? = some (.cells #[.int .u8 97] 5 (1, 2))) := Aside0.mk (by rw [hV4]; have h_ := heap_alloc_self (w3.alloc (.cells #[.int .i64 0, .slice Av2 1 cv2, .int .i64 8] 26)) (.cells #[.int .u8 97] 5 (1, 2)); simpa using h_)
              clear hV4 hb_
              refine (get_n (l := (fm 8).set 0 ⟨[97], [110, 101, 119]⟩) (r := ⟨0, [110, 101, 119], 0⟩) (m := 3) H2.out Hc2.out (lit_u8 [97] LB.out (by decide) rfl) (fm_w 8) (e26_eq HFA.out.2) (by rw [List.length_set, fm_len]) rfl rfl).mono ?_
              rintro e w4 ⟨Av3, cv3, rfl, hV3, hb_⟩
              clear BQ LB H2 CV2
              replace HS := Aside0.mk (Kd.C_below HS.out hb_)
              replace HB := Aside0.mk (below_then HB.out HB.out.size hb_)
              have q1 := Kd.C_string (P := Try.prog) (A := Av3) (c := cv3) Try.underlying24 Try.underlying5 Try.underlying9 hV3
              clear hb_ hV3
              go_wp2_with fail
              clear q1
              obtain ⟨V5, hV5⟩ : ∃ V_, V_ = (w4.alloc (.cells #[.int .u8 122, .int .u8 122] 5 (2, 3))) := ⟨_, rfl⟩
              rw [← hV5]
              have hb_ : Below w4.heap.size w4 V5 := by rw [hV5]; exact (below_alloc (Below.refl _ _) (.cells #[.int .u8 122, .int .u8 122] 5 (2, 3)))
              replace HS := Aside0.mk (Kd.C_below HS.out hb_)
              replace HB := Aside0.mk (below_then HB.out HB.out.size hb_)
              have LZ : Aside0 (V5.heap[w4.heap.size]? = some (.cells #[.int .u8 122, .int .u8 122] 5 (2, 3))) := Aside0.mk (by rw [hV5]; have h_ := heap_alloc_self w4 (.cells #[.int .u8 122, .int .u8 122] 5 (2, 3)); simpa using h_)
              clear hV5 hb_
              refine (get_n (l := fm 8) (r := ⟨5, [], 0⟩) (m := 0) HS.out Hc.out (lit_u8 [122, 122] LZ.out (by decide) rfl) (fun x hx => (fm_v 8 x hx).2) (e26_eq (forms_zz 8 (by have := HM.out; omega))) (fm_len 8) rfl rfl).mono ?_
              rintro e w5 ⟨Av5, cv5, rfl, hV5, hb_⟩
              clear LZ HS
              replace HB := Aside0.mk (below_then HB.out HB.out.size hb_)
              clear hb_ hV5
              have hf0 := field0
              go_wp2_with fail
              refine (awake9 w5).mono ?_
              rintro e w6 ⟨rfl, hb_⟩
              replace HB := Aside0.mk (below_then HB.out HB.out.size hb_)
              clear hb_
              go_wp2_with fail
              go_ret
              exact ⟨rfl, HB.out⟩
            · rcases Nat.eq_zero_or_pos i with q4 | q4
              · skip
                have kK : Kn ≤ 8 := by omega
                have kV : V ≤ 16 := by omega
                obtain rfl : i = 0 := by assumption
                obtain rfl : M = 0 := by have := HM.out; omega
                have d1 : decide ((8 : Int) < (Kn : Int)) = false := decide_eq_false (by omega)
                have d2 : decide ((16 : Int) < (V : Int)) = false := decide_eq_false (by omega)
                obtain ⟨W1, hW1⟩ : ∃ V_, V_ = ((wr.alloc (.cells (madeCells #[.int .u8 0] V) 5)).alloc (.cells (madeCells #[.int .u8 0] Kn) 5)).drew := ⟨_, rfl⟩
                have hb_ : Below wr.heap.size wr W1 := by rw [hW1]; exact below_drew1 (below_alloc (below_alloc (Below.refl _ _) _) _)
                have LV : W1.heap[wr.heap.size]? = some (.cells (madeCells #[.int .u8 0] V) 5 (0, 0)) := by rw [hW1]; show ((wr.alloc (.cells (madeCells #[.int .u8 0] V) 5)).alloc (.cells (madeCells #[.int .u8 0] Kn) 5)).heap[_]? = _; have h_ := blk_alloc (heap_alloc_self wr (.cells (madeCells #[.int .u8 0] V) 5)) (.cells (madeCells #[.int .u8 0] Kn) 5); simpa using h_
                have LK : W1.heap[wr.heap.size + 1]? = some (.cells (madeCells #[.int .u8 0] Kn) 5 (0, 0)) := by rw [hW1]; show ((wr.alloc (.cells (madeCells #[.int .u8 0] V) 5)).alloc (.cells (madeCells #[.int .u8 0] Kn) 5)).heap[_]? = _; have h_ := heap_alloc_self (wr.alloc (.cells (madeCells #[.int .u8 0] V) 5)) (.cells (madeCells #[.int .u8 0] Kn) 5); simpa using h_
                have CK := Aside0.mk (made_C LK (by omega))
                have CV := Aside0.mk (made_C LV (by omega))
                have HS := Aside0.mk (Kd.C_below HI.out.2.1 hb_)
                have HB := Aside0.mk (below_then HI.out.2.2 HI.out.2.2.size hb_)
                have Hc := Aside0.mk HI.out.1
                clear LK LV hb_ HI mK mV
                go_wp2_with fail
                rw [← hW1]
                clear hW1
                refine (put_n (l' := (⟨zs Kn, zs V⟩ :: fm 0)) (r := ⟨0, [], 1⟩) HS.out Hc.out CK.out CV.out (fm_v 0) (by rw [fm_len]; have := HM.out; omega) (by simp only [zs, List.length_replicate]; omega) (by simp only [zs, List.length_replicate]; omega) (by rw [putR, if_neg (by simp only [zs, List.length_replicate]; omega), beq_iff_eq.1 (forms_zero 0 (by have := HM.out; omega) Kn (by omega)), if_neg (by decide), fm_len, if_neg (by have := HM.out; omega)]; rfl) (fm_len 0) List.length_replicate List.length_replicate).mono ?_
                rintro e w1 ⟨A1, c1, Av, cv, rfl, hc1, hC1, hV1, hb_⟩
                have hb_ := below_alloc hb_ (.cells #[.int .i64 0, .slice Av 0 cv, .int .i64 1] 26)
                replace CK := Aside0.mk (Kd.C_below CK.out hb_)
                replace CV := Aside0.mk (Kd.C_below CV.out hb_)
                replace HS := Aside0.mk (Kd.C_below HS.out hb_)
                replace HB := Aside0.mk (below_then HB.out HB.out.size hb_)
                have H1 := Aside0.mk (Kd.C_alloc hC1 (.cells #[.int .i64 0, .slice Av 0 cv, .int .i64 1] 26))
                have BR := Aside0.mk (heap_alloc_self w1 (.cells #[.int .i64 0, .slice Av 0 cv, .int .i64 1] 26))
                have Hc1 := Aside0.mk hc1
                clear hb_ hc1 hC1 hV1
                rw [show (⟨zs Kn, zs V⟩ :: fm 0 : List S32).length = 1 from by rw [List.length_cons, fm_len]]
                go_wp2_with fail
                generalize w1.alloc (.cells #[.int .i64 0, .slice Av 0 cv, .int .i64 1] 26) = V2 at CK CV HS HB H1 BR ⊢
                obtain ⟨ad, K0, k0, K1, k1, e_, g0, g1, l0, r0, l1, r1⟩ := at_T32 H1.out 0 (by decide) (by simp)
                cases e_
                clear g1 l0 l1 r1
                simp only [Int.toNat_zero, Nat.zero_mul, Addr.add_zero'] at g0
                rw [show rd_T32 (⟨zs Kn, zs V⟩ :: fm 0) 0 = ⟨zs Kn, zs V⟩ from rfl] at g0 r0
                have z1 : (zs Kn).length = Kn := List.length_replicate
                have z2 : (zs V).length = V := List.length_replicate
                simp only [z1] at g0 r0
                have hbd := below_drew1 (Below.refl V2.heap.size V2)
                obtain ⟨b0, b1, b2, b3⟩ := blk_cells3 BR.out
                clear b3
                have cv_ := CV.out
                rw [z2] at cv_
                have ck_ := CK.out
                rw [z1] at ck_
                have HG := Aside0.mk (Kd.C_below H1.out hbd)
                have HKd := Aside0.mk (Kd.C_below CK.out hbd)
                have HG0 := Aside0.mk g0
                have HR0 := Aside0.mk (Kd.C_below r0 hbd)
                have HCV := Aside0.mk (Kd.C_below cv_ hbd)
                have HCK := Aside0.mk (Kd.C_below ck_ hbd)
                have B2 := Aside0.mk b2
                have e20 : IntKind.i64.wrap 1 = 1 := by rw [IntKind.wrap_i64]; omega
                have hf1 := field1
                have Hbd := Aside0.mk hbd
                clear g0 r0 cv_ ck_ hbd b0 b1 b2
                go_wp2_with fail
                refine start_ (n := 34) (S := fun w' => w'.cell? ⟨w1.heap.size, 2, none⟩ = some (.int .i64 1) ∧ w'.cell? ad = some (.slice K0 Kn k0) ∧ (convert 24 9 (.slice K0 Kn k0)).run Try.prog w' = .ok (.string (strOfNums (zs Kn))) w' ∧ (convert 24 9 (.slice (some ⟨wr.heap.size + 1, 0, none⟩) Kn Kn)).run Try.prog w' = .ok (.string (strOfNums (zs Kn))) w' ∧ (convert 24 9 (.slice (some ⟨wr.heap.size, 0, none⟩) V V)).run Try.prog w' = .ok (.string (strOfNums (zs V))) w') (ds := []) #[false, false, false, false, false, false, false, false, false, false, false, false, false, false, false, false, false, false, false, false, false, false, false, false, false, false, false, false, false, false, false, false, false, false] (by kernel_rfl) rfl rfl ⟨B2.out, HG0.out, (Kd.C_string (P := Try.prog) (A := K0) (c := k0) Try.underlying24 Try.underlying5 Try.underlying9 (HR0.out)), (Kd.C_string (P := Try.prog) (A := (some ⟨wr.heap.size + 1, 0, none⟩)) (c := Kn) Try.underlying24 Try.underlying5 Try.underlying9 (HCK.out)), (Kd.C_string (P := Try.prog) (A := (some ⟨wr.heap.size, 0, none⟩)) (c := V) Try.underlying24 Try.underlying5 Try.underlying9 (HCV.out))⟩ (fun hHeld => ?_)
                refine pure_ (i := 0) (N := some 91) (v := ?_) (a' := ?_) #[true, false, false, false, false, false, false, false, false, false, false, false, false, false, false, false, false, false, false, false, false, false, false, false, false, false, false, false, false, false, false, false, false, false] rfl rfl (by kernel_rfl) (fun _ _ _ h => h) (Or.inl ⟨by rfl, ?_⟩) ?_ ?_
                rotate_left
                · intro w'
                  go_simp
                  with_reducible rfl
                rotate_left
                · simp only [Act.put, List.setIfInBounds_toArray, List.set_cons_zero, List.set_cons_succ, i64_w, i32_w]
                  rfl
                refine pure_ (i := 1) (N := some 92) (v := ?_) (a' := ?_) #[true, true, false, false, false, false, false, false, false, false, false, false, false, false, false, false, false, false, false, false, false, false, false, false, false, false, false, false, false, false, false, false, false, false] rfl rfl (by kernel_rfl) (fun _ _ _ h => h) (Or.inl ⟨by rfl, ?_⟩) ?_ ?_
                rotate_left
                · intro w'
                  go_simp
                  with_reducible rfl
                rotate_left
                · simp only [Act.put, List.setIfInBounds_toArray, List.set_cons_zero, List.set_cons_succ, i64_w, i32_w]
                  rfl
                refine pure_ (i := 2) (N := some 93) (v := ?_) (a' := ?_) #[true, true, true, false, false, false, false, false, false, false, false, false, false, false, false, false, false, false, false, false, false, false, false, false, false, false, false, false, false, false, false, false, false, false] rfl rfl (by kernel_rfl) (fun _ _ _ h => h) (Or.inl ⟨by rfl, ?_⟩) ?_ ?_
                rotate_left
                · intro w'
                  go_simp
                  with_reducible rfl
                rotate_left
                · simp only [Act.put, List.setIfInBounds_toArray, List.set_cons_zero, List.set_cons_succ, i64_w, i32_w]
                  rfl
                refine pure_ (i := 3) (N := some 94) (v := ?_) (a' := ?_) #[true, true, true, true, false, false, false, false, false, false, false, false, false, false, false, false, false, false, false, false, false, false, false, false, false, false, false, false, false, false, false, false, false, false] rfl rfl (by kernel_rfl) (fun _ _ _ h => h) (Or.inl ⟨by rfl, ?_⟩) ?_ ?_
                rotate_left
                · intro w'
                  go_simp
                  with_reducible rfl
                rotate_left
                · simp only [Act.put, List.setIfInBounds_toArray, List.set_cons_zero, List.set_cons_succ, i64_w, i32_w]
                  rfl
                refine pure_ (i := 5) (N := some 96) (v := ?_) (a' := ?_) #[true, true, true, true, false, true, false, false, false, false, false, false, false, false, false, false, false, false, false, false, false, false, false, false, false, false, false, false, false, false, false, false, false, false] rfl rfl (by kernel_rfl) (fun _ _ _ h => h) (Or.inl ⟨by rfl, ?_⟩) ?_ ?_
                rotate_left
                · intro w'
                  go_simp
                  with_reducible rfl
                rotate_left
                · simp only [Act.put, List.setIfInBounds_toArray, List.set_cons_zero, List.set_cons_succ, i64_w, i32_w]
                  rfl
                refine pure_ (i := 6) (N := some 97) (v := ?_) (a' := ?_) #[true, true, true, true, false, true, true, false, false, false, false, false, false, false, false, false, false, false, false, false, false, false, false, false, false, false, false, false, false, false, false, false, false, false] rfl rfl (by kernel_rfl) (fun _ _ _ h => h) (Or.inl ⟨by rfl, ?_⟩) ?_ ?_
                rotate_left
                · intro w'
                  go_simp
                  with_reducible rfl
                rotate_left
                · simp only [Act.put, List.setIfInBounds_toArray, List.set_cons_zero, List.set_cons_succ, i64_w, i32_w]
                  rfl
                refine take_ (i := 4) (N := some 95) (v := ?_) (a' := ?_) #[true, true, true, true, true, true, true, false, false, false, false, false, false, false, false, false, false, false, false, false, false, false, false, false, false, false, false, false, false, false, false, false, false, false] rfl rfl (by kernel_rfl) (fun _ _ _ h => h) (Or.inl ⟨by rfl, ?_⟩) hHeld ?_ ?_
                rotate_left
                · rintro w' ⟨s0, s1, s2, s3, s4⟩
                  go_simp
                  with_reducible rfl
                rotate_left
                · simp only [Act.put, List.setIfInBounds_toArray, List.set_cons_zero, List.set_cons_succ, i64_w, i32_w]
                  rfl
                refine pure_ (i := 7) (N := some 98) (v := ?_) (a' := ?_) #[true, true, true, true, true, true, true, true, false, false, false, false, false, false, false, false, false, false, false, false, false, false, false, false, false, false, false, false, false, false, false, false, false, false] rfl rfl (by kernel_rfl) (fun _ _ _ h => h) (Or.inl ⟨by rfl, ?_⟩) ?_ ?_
                rotate_left
                · intro w'
                  go_simp
                  with_reducible rfl
                rotate_left
                · simp only [Act.put, List.setIfInBounds_toArray, List.set_cons_zero, List.set_cons_succ, i64_w, i32_w]
                  rfl
                refine pure_ (i := 8) (N := some 99) (v := ?_) (a' := ?_) #[true, true, true, true, true, true, true, true, true, false, false, false, false, false, false, false, false, false, false, false, false, false, false, false, false, false, false, false, false, false, false, false, false, false] rfl rfl (by kernel_rfl) (fun _ _ _ h => h) (Or.inl ⟨by rfl, ?_⟩) ?_ ?_
                rotate_left
                · intro w'
                  go_simp
                  with_reducible rfl
                rotate_left
                · simp only [Act.put, List.setIfInBounds_toArray, List.set_cons_zero, List.set_cons_succ, i64_w, i32_w]
                  rfl
                refine pure_ (i := 9) (N := some 100) (v := ?_) (a' := ?_) #[true, true, true, true, true, true, true, true, true, true, false, false, false, false, false, false, false, false, false, false, false, false, false, false, false, false, false, false, false, false, false, false, false, false] rfl rfl (by kernel_rfl) (fun _ _ _ h => h) (Or.inl ⟨by rfl, ?_⟩) ?_ ?_
                rotate_left
                · intro w'
                  go_simp
                  with_reducible rfl
                rotate_left
                · simp only [Act.put, List.setIfInBounds_toArray, List.set_cons_zero, List.set_cons_succ, i64_w, i32_w]
                  rfl
                refine pure_ (i := 10) (N := some 101) (v := ?_) (a' := ?_) #[true, true, true, true, true, true, true, true, true, true, true, false, false, false, false, false, false, false, false, false, false, false, false, false, false, false, false, false, false, false, false, false, false, false] rfl rfl (by kernel_rfl) (fun _ _ _ h => h) (Or.inl ⟨by rfl, ?_⟩) ?_ ?_
                rotate_left
                · intro w'
                  go_simp
                  with_reducible rfl
                rotate_left
                · simp only [Act.put, List.setIfInBounds_toArray, List.set_cons_zero, List.set_cons_succ, i64_w, i32_w]
                  rfl
                refine pure_ (i := 14) (N := some 105) (v := ?_) (a' := ?_) #[true, true, true, true, true, true, true, true, true, true, true, false, false, false, true, false, false, false, false, false, false, false, false, false, false, false, false, false, false, false, false, false, false, false] rfl rfl (by kernel_rfl) (fun _ _ _ h => h) (Or.inl ⟨by rfl, ?_⟩) ?_ ?_
                rotate_left
                · intro w'
                  go_simp
                  with_reducible rfl
                rotate_left
                · simp only [Act.put, List.setIfInBounds_toArray, List.set_cons_zero, List.set_cons_succ, i64_w, i32_w]
                  rfl
                refine take_ (i := 15) (N := some 106) (v := ?_) (a' := ?_) #[true, true, true, true, true, true, true, true, true, true, true, false, false, false, true, true, false, false, false, false, false, false, false, false, false, false, false, false, false, false, false, false, false, false] rfl rfl (by kernel_rfl) (fun _ _ _ h => h) (Or.inl ⟨by rfl, ?_⟩) hHeld ?_ ?_
                rotate_left
                · rintro w' ⟨s0, s1, s2, s3, s4⟩
                  go_simp
                  with_reducible rfl
                rotate_left
                · simp only [Act.put, List.setIfInBounds_toArray, List.set_cons_zero, List.set_cons_succ, i64_w, i32_w]
                  rfl
                refine one_ (i := 11) (N := some 102) #[true, true, true, true, true, true, true, true, true, true, true, true, false, false, true, true, false, false, false, false, false, false, false, false, false, false, false, false, false, false, false, false, false, false] rfl rfl (by kernel_rfl) (by decide) (fun K_ hK => ?_)
                refine goes_ Try.func8 (by kernel_rfl) rfl #[.slice (some ad) (1) c1, .slice (some ⟨wr.heap.size + 1, 0, none⟩) Kn Kn] (by rfl) rfl rfl (by simp only [List.map_toArray, List.map_cons, List.map_nil]; rfl) ?_
                with_reducible refine (get_n (l := ⟨zs Kn, zs V⟩ :: fm 0) (r := ⟨0, zs V, 0⟩) (m := V) HG.out Hc1.out HKd.out (fm_v' 0 Kn V (by omega) (by omega)) (getR_head _ _ _) (by simp [fm_len]) (zs_len _) (zs_len _)).mono ?_
                rintro e w2 ⟨Av2, cv2, rfl, hV2, hb_⟩
                have q3 := (Kd.C_string (P := Try.prog) (A := Av2) (c := cv2) Try.underlying24 Try.underlying5 Try.underlying9 (hV2))
                have HX2 := Aside0.mk hb_
                clear hV2 hb_
                refine ⟨_, rfl, ?_⟩
                refine hK.out _ _ ⟨cell_old HX2.out hHeld.1, cell_old HX2.out hHeld.2.1, (Kd.C_string (P := Try.prog) (A := K0) (c := k0) Try.underlying24 Try.underlying5 Try.underlying9 (Kd.C_below HR0.out HX2.out)), (Kd.C_string (P := Try.prog) (A := (some ⟨wr.heap.size + 1, 0, none⟩)) (c := Kn) Try.underlying24 Try.underlying5 Try.underlying9 (Kd.C_below HCK.out HX2.out)), (Kd.C_string (P := Try.prog) (A := (some ⟨wr.heap.size, 0, none⟩)) (c := V) Try.underlying24 Try.underlying5 Try.underlying9 (Kd.C_below HCV.out HX2.out))⟩ (fun hHeld => ?_)
                clear hK K_
                refine norm_ (a' := ?_) ?_ ?_
                rotate_left
                · show Act.put _ (some 102) _ = _
                  simp only [Act.put, List.setIfInBounds_toArray, List.set_cons_zero, List.set_cons_succ, i64_w, i32_w]
                  rfl
                refine pure_ (i := 12) (N := some 103) (v := ?_) (a' := ?_) #[true, true, true, true, true, true, true, true, true, true, true, true, true, false, true, true, false, false, false, false, false, false, false, false, false, false, false, false, false, false, false, false, false, false] rfl rfl (by kernel_rfl) (fun _ _ _ h => h) (Or.inl ⟨by rfl, ?_⟩) ?_ ?_
                rotate_left
                · intro w'
                  go_simp
                  with_reducible rfl
                rotate_left
                · simp only [Act.put, List.setIfInBounds_toArray, List.set_cons_zero, List.set_cons_succ, i64_w, i32_w]
                  rfl
                refine one_ (i := 13) (N := some 104) #[true, true, true, true, true, true, true, true, true, true, true, true, true, true, true, true, false, false, false, false, false, false, false, false, false, false, false, false, false, false, false, false, false, false] rfl rfl (by kernel_rfl) (by decide) (fun K_ hK => ?_)
                refine value_ (w1 := ?_) (v := ?_) (by rfl) rfl ?_ ?_
                rotate_left 2
                · go_simp
                  constructor
                  · rfl
                  · rfl
                refine hK.out _ _ ⟨hHeld.1, hHeld.2.1, hHeld.2.2.1, hHeld.2.2.2.1, hHeld.2.2.2.2⟩ (fun hHeld => ?_)
                clear hK K_
                refine norm_ (a' := ?_) ?_ ?_
                rotate_left
                · show Act.put _ (some 104) _ = _
                  simp only [Act.put, List.setIfInBounds_toArray, List.set_cons_zero, List.set_cons_succ, i64_w, i32_w]
                  rfl
                refine pure_ (i := 16) (N := some 107) (v := ?_) (a' := ?_) #[true, true, true, true, true, true, true, true, true, true, true, true, true, true, true, true, true, false, false, false, false, false, false, false, false, false, false, false, false, false, false, false, false, false] rfl rfl (by kernel_rfl) (fun _ _ _ h => h) (Or.inl ⟨by rfl, ?_⟩) ?_ ?_
                rotate_left
                · intro w'
                  go_simp
                  with_reducible rfl
                rotate_left
                · simp only [Act.put, List.setIfInBounds_toArray, List.set_cons_zero, List.set_cons_succ, i64_w, i32_w]
                  rfl
                refine pure_ (i := 17) (N := some 108) (v := ?_) (a' := ?_) #[true, true, true, true, true, true, true, true, true, true, true, true, true, true, true, true, true, true, false, false, false, false, false, false, false, false, false, false, false, false, false, false, false, false] rfl rfl (by kernel_rfl) (fun _ _ _ h => h) (Or.inl ⟨by rfl, ?_⟩) ?_ ?_
                rotate_left
                · intro w'
                  go_simp
                  with_reducible rfl
                rotate_left
                · simp only [Act.put, List.setIfInBounds_toArray, List.set_cons_zero, List.set_cons_succ, i64_w, i32_w]
                  rfl
                refine pure_ (i := 18) (N := some 109) (v := ?_) (a' := ?_) #[true, true, true, true, true, true, true, true, true, true, true, true, true, true, true, true, true, true, true, false, false, false, false, false, false, false, false, false, false, false, false, false, false, false] rfl rfl (by kernel_rfl) (fun _ _ _ h => h) (Or.inl ⟨by rfl, ?_⟩) ?_ ?_
                rotate_left
                · intro w'
                  go_simp
                  with_reducible rfl
                rotate_left
                · simp only [Act.put, List.setIfInBounds_toArray, List.set_cons_zero, List.set_cons_succ, i64_w, i32_w]
                  rfl
                refine pure_ (i := 19) (N := some 110) (v := ?_) (a' := ?_) #[true, true, true, true, true, true, true, true, true, true, true, true, true, true, true, true, true, true, true, true, false, false, false, false, false, false, false, false, false, false, false, false, false, false] rfl rfl (by kernel_rfl) (fun _ _ _ h => h) (Or.inl ⟨by rfl, ?_⟩) ?_ ?_
                rotate_left
                · intro w'
                  go_simp
                  with_reducible rfl
                rotate_left
                · simp only [Act.put, List.setIfInBounds_toArray, List.set_cons_zero, List.set_cons_succ, i64_w, i32_w]
                  rfl
                refine pure_ (i := 20) (N := some 111) (v := ?_) (a' := ?_) #[true, true, true, true, true, true, true, true, true, true, true, true, true, true, true, true, true, true, true, true, true, false, false, false, false, false, false, false, false, false, false, false, false, false] rfl rfl (by kernel_rfl) (fun _ _ _ h => h) (Or.inl ⟨by rfl, ?_⟩) ?_ ?_
                rotate_left
                · intro w'
                  go_simp
                  with_reducible rfl
                rotate_left
                · simp only [Act.put, List.setIfInBounds_toArray, List.set_cons_zero, List.set_cons_succ, i64_w, i32_w]
                  rfl
                refine pure_ (i := 21) (N := some 112) (v := ?_) (a' := ?_) #[true, true, true, true, true, true, true, true, true, true, true, true, true, true, true, true, true, true, true, true, true, true, false, false, false, false, false, false, false, false, false, false, false, false] rfl rfl (by kernel_rfl) (fun _ _ _ h => h) (Or.inl ⟨by rfl, ?_⟩) ?_ ?_
                rotate_left
                · intro w'
                  go_simp
                  with_reducible rfl
                rotate_left
                · simp only [Act.put, List.setIfInBounds_toArray, List.set_cons_zero, List.set_cons_succ, i64_w, i32_w]
                  rfl
                refine pure_ (i := 22) (N := some 113) (v := ?_) (a' := ?_) #[true, true, true, true, true, true, true, true, true, true, true, true, true, true, true, true, true, true, true, true, true, true, true, false, false, false, false, false, false, false, false, false, false, false] rfl rfl (by kernel_rfl) (fun _ _ _ h => h) (Or.inl ⟨by rfl, ?_⟩) ?_ ?_
                rotate_left
                · intro w'
                  go_simp
                  with_reducible rfl
                rotate_left
                · simp only [Act.put, List.setIfInBounds_toArray, List.set_cons_zero, List.set_cons_succ, i64_w, i32_w]
                  rfl
                refine pure_ (i := 23) (N := some 114) (v := ?_) (a' := ?_) #[true, true, true, true, true, true, true, true, true, true, true, true, true, true, true, true, true, true, true, true, true, true, true, true, false, false, false, false, false, false, false, false, false, false] rfl rfl (by kernel_rfl) (fun _ _ _ h => h) (Or.inl ⟨by rfl, ?_⟩) ?_ ?_
                rotate_left
                · intro w'
                  go_simp
                  with_reducible rfl
                rotate_left
                · simp only [Act.put, List.setIfInBounds_toArray, List.set_cons_zero, List.set_cons_succ, i64_w, i32_w]
                  rfl
                refine pure_ (i := 24) (N := some 115) (v := ?_) (a' := ?_) #[true, true, true, true, true, true, true, true, true, true, true, true, true, true, true, true, true, true, true, true, true, true, true, true, true, false, false, false, false, false, false, false, false, false] rfl rfl (by kernel_rfl) (fun _ _ _ h => h) (Or.inl ⟨by rfl, ?_⟩) ?_ ?_
                rotate_left
                · intro w'
                  go_simp
                  with_reducible rfl
                rotate_left
                · simp only [Act.put, List.setIfInBounds_toArray, List.set_cons_zero, List.set_cons_succ, i64_w, i32_w]
                  rfl
                refine pure_ (i := 25) (N := some 116) (v := ?_) (a' := ?_) #[true, true, true, true, true, true, true, true, true, true, true, true, true, true, true, true, true, true, true, true, true, true, true, true, true, true, false, false, false, false, false, false, false, false] rfl rfl (by kernel_rfl) (fun _ _ _ h => h) (Or.inl ⟨by rfl, ?_⟩) ?_ ?_
                rotate_left
                · intro w'
                  go_simp
                  with_reducible rfl
                rotate_left
                · simp only [Act.put, List.setIfInBounds_toArray, List.set_cons_zero, List.set_cons_succ, i64_w, i32_w]
                  rfl
                refine pure_ (i := 26) (N := some 117) (v := ?_) (a' := ?_) #[true, true, true, true, true, true, true, true, true, true, true, true, true, true, true, true, true, true, true, true, true, true, true, true, true, true, true, false, false, false, false, false, false, false] rfl rfl (by kernel_rfl) (fun _ _ _ h => h) (Or.inl ⟨by rfl, ?_⟩) ?_ ?_
                rotate_left
                · intro w'
                  go_simp
                  with_reducible rfl
                rotate_left
                · simp only [Act.put, List.setIfInBounds_toArray, List.set_cons_zero, List.set_cons_succ, i64_w, i32_w]
                  rfl
                refine pure_ (i := 29) (N := some 120) (v := ?_) (a' := ?_) #[true, true, true, true, true, true, true, true, true, true, true, true, true, true, true, true, true, true, true, true, true, true, true, true, true, true, true, false, false, true, false, false, false, false] rfl rfl (by kernel_rfl) (fun _ _ _ h => h) (Or.inl ⟨by rfl, ?_⟩) ?_ ?_
                rotate_left
                · intro w'
                  go_simp
                  with_reducible rfl
                rotate_left
                · simp only [Act.put, List.setIfInBounds_toArray, List.set_cons_zero, List.set_cons_succ, i64_w, i32_w]
                  rfl
                refine take_ (i := 27) (N := some 118) (v := ?_) (a' := ?_) #[true, true, true, true, true, true, true, true, true, true, true, true, true, true, true, true, true, true, true, true, true, true, true, true, true, true, true, true, false, true, false, false, false, false] rfl rfl (by kernel_rfl) (fun _ _ _ h => h) (Or.inl ⟨by rfl, ?_⟩) hHeld ?_ ?_
                rotate_left
                · rintro w' ⟨s0, s1, s2, s3, s4⟩
                  go_simp
                  with_reducible rfl
                rotate_left
                · simp only [Act.put, List.setIfInBounds_toArray, List.set_cons_zero, List.set_cons_succ, i64_w, i32_w]
                  rfl
                refine take_ (i := 28) (N := some 119) (v := ?_) (a' := ?_) #[true, true, true, true, true, true, true, true, true, true, true, true, true, true, true, true, true, true, true, true, true, true, true, true, true, true, true, true, true, true, false, false, false, false] rfl rfl (by kernel_rfl) (fun _ _ _ h => h) (Or.inl ⟨by rfl, ?_⟩) hHeld ?_ ?_
                rotate_left
                · rintro w' ⟨s0, s1, s2, s3, s4⟩
                  go_simp
                  with_reducible rfl
                rotate_left
                · simp only [Act.put, List.setIfInBounds_toArray, List.set_cons_zero, List.set_cons_succ, i64_w, i32_w]
                  rfl
                refine take_ (i := 30) (N := some 121) (v := ?_) (a' := ?_) #[true, true, true, true, true, true, true, true, true, true, true, true, true, true, true, true, true, true, true, true, true, true, true, true, true, true, true, true, true, true, true, false, false, false] rfl rfl (by kernel_rfl) (fun _ _ _ h => h) (Or.inl ⟨by rfl, ?_⟩) hHeld ?_ ?_
                rotate_left
                · rintro w' ⟨s0, s1, s2, s3, s4⟩
                  go_simp
                  with_reducible rfl
                rotate_left
                · simp only [Act.put, List.setIfInBounds_toArray, List.set_cons_zero, List.set_cons_succ, i64_w, i32_w]
                  rfl
                refine pure_ (i := 31) (N := some 122) (v := ?_) (a' := ?_) #[true, true, true, true, true, true, true, true, true, true, true, true, true, true, true, true, true, true, true, true, true, true, true, true, true, true, true, true, true, true, true, true, false, false] rfl rfl (by kernel_rfl) (fun _ _ _ h => h) (Or.inl ⟨by rfl, ?_⟩) ?_ ?_
                rotate_left
                · intro w'
                  go_simp
                  with_reducible rfl
                rotate_left
                · simp only [Act.put, List.setIfInBounds_toArray, List.set_cons_zero, List.set_cons_succ, i64_w, i32_w]
                  rfl
                refine pure_ (i := 32) (N := some 123) (v := ?_) (a' := ?_) #[true, true, true, true, true, true, true, true, true, true, true, true, true, true, true, true, true, true, true, true, true, true, true, true, true, true, true, true, true, true, true, true, true, false] rfl rfl (by kernel_rfl) (fun _ _ _ h => h) (Or.inl ⟨by rfl, ?_⟩) ?_ ?_
                rotate_left
                · intro w'
                  go_simp
                  with_reducible rfl
                rotate_left
                · simp only [Act.put, List.setIfInBounds_toArray, List.set_cons_zero, List.set_cons_succ, i64_w, i32_w]
                  rfl
                refine pure_ (i := 33) (N := some 124) (v := ?_) (a' := ?_) #[true, true, true, true, true, true, true, true, true, true, true, true, true, true, true, true, true, true, true, true, true, true, true, true, true, true, true, true, true, true, true, true, true, true] rfl rfl (by kernel_rfl) (fun _ _ _ h => h) (Or.inl ⟨by rfl, ?_⟩) ?_ ?_
                rotate_left
                · intro w'
                  go_simp
                  with_reducible rfl
                rotate_left
                · simp only [Act.put, List.setIfInBounds_toArray, List.set_cons_zero, List.set_cons_succ, i64_w, i32_w]
                  rfl
                refine done_ (by kernel_rfl) ?_
                have HBX := Aside0.mk (below_then Hbd.out Hbd.out.size HX2.out)
                replace CK := Aside0.mk (Kd.C_below CK.out HBX.out)
                replace CV := Aside0.mk (Kd.C_below CV.out HBX.out)
                replace HS := Aside0.mk (Kd.C_below HS.out HBX.out)
                replace HB := Aside0.mk (below_then HB.out HB.out.size HBX.out)
                replace H1 := Aside0.mk (Kd.C_below H1.out HBX.out)
                replace BR := Aside0.mk (blk3_keep BR.out HBX.out)
                clear q3 hHeld HG HKd HG0 HR0 HCV HCK HBX HX2 Hbd B2
                clear H1 BR CK CV
                have kc := conv_same
                go_wp2_with fail
                obtain ⟨V5, hV5⟩ : ∃ V_, V_ = (w2.alloc (.cells #[.int .u8 122, .int .u8 122] 5 (2, 3))) := ⟨_, rfl⟩
                rw [← hV5]
                have hb_ : Below w2.heap.size w2 V5 := by rw [hV5]; exact (below_alloc (Below.refl _ _) (.cells #[.int .u8 122, .int .u8 122] 5 (2, 3)))
                replace HS := Aside0.mk (Kd.C_below HS.out hb_)
                replace HB := Aside0.mk (below_then HB.out HB.out.size hb_)
                have LZ : Aside0 (V5.heap[w2.heap.size]? = some (.cells #[.int .u8 122, .int .u8 122] 5 (2, 3))) := Aside0.mk (by rw [hV5]; have h_ := heap_alloc_self w2 (.cells #[.int .u8 122, .int .u8 122] 5 (2, 3)); simpa using h_)
                clear hV5 hb_
                refine (get_n (l := fm 0) (r := ⟨5, [], 0⟩) (m := 0) HS.out Hc.out (lit_u8 [122, 122] LZ.out (by decide) rfl) (fun x hx => (fm_v 0 x hx).2) (e26_eq (forms_zz 0 (by have := HM.out; omega))) (fm_len 0) rfl rfl).mono ?_
                rintro e w5 ⟨Av5, cv5, rfl, hV5, hb_⟩
                clear LZ HS
                replace HB := Aside0.mk (below_then HB.out HB.out.size hb_)
                clear hb_ hV5
                have hf0 := field0
                go_wp2_with fail
                refine (awake9 w5).mono ?_
                rintro e w6 ⟨rfl, hb_⟩
                replace HB := Aside0.mk (below_then HB.out HB.out.size hb_)
                clear hb_
                go_wp2_with fail
                go_ret
                exact ⟨rfl, HB.out⟩
              · skip
                have kK : Kn ≤ 8 := by omega
                have kV : V ≤ 16 := by omega
                have kN : 0 < i ∧ i < 8 := by omega
                obtain rfl : i = M := by have := HM.out; omega
                have d1 : decide ((8 : Int) < (Kn : Int)) = false := decide_eq_false (by omega)
                have d2 : decide ((16 : Int) < (V : Int)) = false := decide_eq_false (by omega)
                have d3 : decide ((8 : Int) ≤ (i : Int)) = false := decide_eq_false (by omega)
                have d4 : decide ((0 : Int) < (i : Int)) = true := decide_eq_true (by omega)
                obtain ⟨W1, hW1⟩ : ∃ V_, V_ = ((wr.alloc (.cells (madeCells #[.int .u8 0] V) 5)).alloc (.cells (madeCells #[.int .u8 0] Kn) 5)).drew := ⟨_, rfl⟩
                have hb_ : Below wr.heap.size wr W1 := by rw [hW1]; exact below_drew1 (below_alloc (below_alloc (Below.refl _ _) _) _)
                have LV : W1.heap[wr.heap.size]? = some (.cells (madeCells #[.int .u8 0] V) 5 (0, 0)) := by rw [hW1]; show ((wr.alloc (.cells (madeCells #[.int .u8 0] V) 5)).alloc (.cells (madeCells #[.int .u8 0] Kn) 5)).heap[_]? = _; have h_ := blk_alloc (heap_alloc_self wr (.cells (madeCells #[.int .u8 0] V) 5)) (.cells (madeCells #[.int .u8 0] Kn) 5); simpa using h_
                have LK : W1.heap[wr.heap.size + 1]? = some (.cells (madeCells #[.int .u8 0] Kn) 5 (0, 0)) := by rw [hW1]; show ((wr.alloc (.cells (madeCells #[.int .u8 0] V) 5)).alloc (.cells (madeCells #[.int .u8 0] Kn) 5)).heap[_]? = _; have h_ := heap_alloc_self (wr.alloc (.cells (madeCells #[.int .u8 0] V) 5)) (.cells (madeCells #[.int .u8 0] Kn) 5); simpa using h_
                have CK := Aside0.mk (made_C LK (by omega))
                have CV := Aside0.mk (made_C LV (by omega))
                have HS := Aside0.mk (Kd.C_below HI.out.2.1 hb_)
                have HB := Aside0.mk (below_then HI.out.2.2 HI.out.2.2.size hb_)
                have Hc := Aside0.mk HI.out.1
                clear LK LV hb_ HI mK mV
                go_wp2_with fail
                rw [← hW1]
                clear hW1
                refine (put_n (l' := (⟨zs Kn, zs V⟩ :: fm i)) (r := ⟨0, [], ((i : Int) + 1)⟩) HS.out Hc.out CK.out CV.out (fm_v i) (by rw [fm_len]; have := HM.out; omega) (by simp only [zs, List.length_replicate]; omega) (by simp only [zs, List.length_replicate]; omega) (by rw [putR, if_neg (by simp only [zs, List.length_replicate]; omega), beq_iff_eq.1 (forms_zero i (by have := HM.out; omega) Kn (by omega)), if_neg (by decide), fm_len, if_neg (by have := HM.out; omega)]; rfl) (fm_len i) List.length_replicate List.length_replicate).mono ?_
                rintro e w1 ⟨A1, c1, Av, cv, rfl, hc1, hC1, hV1, hb_⟩
                have hb_ := below_alloc hb_ (.cells #[.int .i64 0, .slice Av 0 cv, .int .i64 ((i : Int) + 1)] 26)
                replace CK := Aside0.mk (Kd.C_below CK.out hb_)
                replace CV := Aside0.mk (Kd.C_below CV.out hb_)
                replace HS := Aside0.mk (Kd.C_below HS.out hb_)
                replace HB := Aside0.mk (below_then HB.out HB.out.size hb_)
                have H1 := Aside0.mk (Kd.C_alloc hC1 (.cells #[.int .i64 0, .slice Av 0 cv, .int .i64 ((i : Int) + 1)] 26))
                have BR := Aside0.mk (heap_alloc_self w1 (.cells #[.int .i64 0, .slice Av 0 cv, .int .i64 ((i : Int) + 1)] 26))
                have Hc1 := Aside0.mk hc1
                clear hb_ hc1 hC1 hV1
                rw [show (⟨zs Kn, zs V⟩ :: fm i : List S32).length = i + 1 from by rw [List.length_cons, fm_len]]
                go_wp2_with fail
                generalize w1.alloc (.cells #[.int .i64 0, .slice Av 0 cv, .int .i64 ((i : Int) + 1)] 26) = V2 at CK CV HS HB H1 BR ⊢
                obtain ⟨ad, K0, k0, K1, k1, e_, g0, g1, l0, r0, l1, r1⟩ := at_T32 H1.out 0 (by decide) (by simp)
                cases e_
                clear g1 l0 l1 r1
                simp only [Int.toNat_zero, Nat.zero_mul, Addr.add_zero'] at g0
                rw [show rd_T32 (⟨zs Kn, zs V⟩ :: fm i) 0 = ⟨zs Kn, zs V⟩ from rfl] at g0 r0
                have z1 : (zs Kn).length = Kn := List.length_replicate
                have z2 : (zs V).length = V := List.length_replicate
                simp only [z1] at g0 r0
                have hbd := below_drew1 (Below.refl V2.heap.size V2)
                obtain ⟨b0, b1, b2, b3⟩ := blk_cells3 BR.out
                clear b3
                have cv_ := CV.out
                rw [z2] at cv_
                have ck_ := CK.out
                rw [z1] at ck_
                have HG := Aside0.mk (Kd.C_below H1.out hbd)
                have HKd := Aside0.mk (Kd.C_below CK.out hbd)
                have HG0 := Aside0.mk g0
                have HR0 := Aside0.mk (Kd.C_below r0 hbd)
                have HCV := Aside0.mk (Kd.C_below cv_ hbd)
                have HCK := Aside0.mk (Kd.C_below ck_ hbd)
                have B2 := Aside0.mk b2
                have e17 : IntKind.i64.wrap ((i : Int) + 1) = (i : Int) + 1 := by rw [IntKind.wrap_i64]; omega
                have hf1 := field1
                have Hbd := Aside0.mk hbd
                clear g0 r0 cv_ ck_ hbd b0 b1 b2
                go_wp2_with fail
                refine start_ (n := 34) (S := fun w' => w'.cell? ⟨w1.heap.size, 2, none⟩ = some (.int .i64 ((i : Int) + 1)) ∧ w'.cell? ad = some (.slice K0 Kn k0) ∧ (convert 24 9 (.slice K0 Kn k0)).run Try.prog w' = .ok (.string (strOfNums (zs Kn))) w' ∧ (convert 24 9 (.slice (some ⟨wr.heap.size + 1, 0, none⟩) Kn Kn)).run Try.prog w' = .ok (.string (strOfNums (zs Kn))) w' ∧ (convert 24 9 (.slice (some ⟨wr.heap.size, 0, none⟩) V V)).run Try.prog w' = .ok (.string (strOfNums (zs V))) w') (ds := []) #[false, false, false, false, false, false, false, false, false, false, false, false, false, false, false, false, false, false, false, false, false, false, false, false, false, false, false, false, false, false, false, false, false, false] (by kernel_rfl) rfl rfl ⟨B2.out, HG0.out, (Kd.C_string (P := Try.prog) (A := K0) (c := k0) Try.underlying24 Try.underlying5 Try.underlying9 (HR0.out)), (Kd.C_string (P := Try.prog) (A := (some ⟨wr.heap.size + 1, 0, none⟩)) (c := Kn) Try.underlying24 Try.underlying5 Try.underlying9 (HCK.out)), (Kd.C_string (P := Try.prog) (A := (some ⟨wr.heap.size, 0, none⟩)) (c := V) Try.underlying24 Try.underlying5 Try.underlying9 (HCV.out))⟩ (fun hHeld => ?_)
                refine pure_ (i := 0) (N := some 91) (v := ?_) (a' := ?_) #[true, false, false, false, false, false, false, false, false, false, false, false, false, false, false, false, false, false, false, false, false, false, false, false, false, false, false, false, false, false, false, false, false, false] rfl rfl (by kernel_rfl) (fun _ _ _ h => h) (Or.inl ⟨by rfl, ?_⟩) ?_ ?_
                rotate_left
                · intro w'
                  go_simp
                  with_reducible rfl
                rotate_left
                · simp only [Act.put, List.setIfInBounds_toArray, List.set_cons_zero, List.set_cons_succ, i64_w, i32_w]
                  rfl
                refine pure_ (i := 1) (N := some 92) (v := ?_) (a' := ?_) #[true, true, false, false, false, false, false, false, false, false, false, false, false, false, false, false, false, false, false, false, false, false, false, false, false, false, false, false, false, false, false, false, false, false] rfl rfl (by kernel_rfl) (fun _ _ _ h => h) (Or.inl ⟨by rfl, ?_⟩) ?_ ?_
                rotate_left
                · intro w'
                  go_simp
                  with_reducible rfl
                rotate_left
                · simp only [Act.put, List.setIfInBounds_toArray, List.set_cons_zero, List.set_cons_succ, i64_w, i32_w]
                  rfl
                refine pure_ (i := 2) (N := some 93) (v := ?_) (a' := ?_) #[true, true, true, false, false, false, false, false, false, false, false, false, false, false, false, false, false, false, false, false, false, false, false, false, false, false, false, false, false, false, false, false, false, false] rfl rfl (by kernel_rfl) (fun _ _ _ h => h) (Or.inl ⟨by rfl, ?_⟩) ?_ ?_
                rotate_left
                · intro w'
                  go_simp
                  with_reducible rfl
                rotate_left
                · simp only [Act.put, List.setIfInBounds_toArray, List.set_cons_zero, List.set_cons_succ, i64_w, i32_w]
                  rfl
                refine pure_ (i := 3) (N := some 94) (v := ?_) (a' := ?_) #[true, true, true, true, false, false, false, false, false, false, false, false, false, false, false, false, false, false, false, false, false, false, false, false, false, false, false, false, false, false, false, false, false, false] rfl rfl (by kernel_rfl) (fun _ _ _ h => h) (Or.inl ⟨by rfl, ?_⟩) ?_ ?_
                rotate_left
                · intro w'
                  go_simp
                  with_reducible rfl
                rotate_left
                · simp only [Act.put, List.setIfInBounds_toArray, List.set_cons_zero, List.set_cons_succ, i64_w, i32_w]
                  rfl
                refine pure_ (i := 5) (N := some 96) (v := ?_) (a' := ?_) #[true, true, true, true, false, true, false, false, false, false, false, false, false, false, false, false, false, false, false, false, false, false, false, false, false, false, false, false, false, false, false, false, false, false] rfl rfl (by kernel_rfl) (fun _ _ _ h => h) (Or.inl ⟨by rfl, ?_⟩) ?_ ?_
                rotate_left
                · intro w'
                  go_simp
                  with_reducible rfl
                rotate_left
                · simp only [Act.put, List.setIfInBounds_toArray, List.set_cons_zero, List.set_cons_succ, i64_w, i32_w]
                  rfl
                refine pure_ (i := 6) (N := some 97) (v := ?_) (a' := ?_) #[true, true, true, true, false, true, true, false, false, false, false, false, false, false, false, false, false, false, false, false, false, false, false, false, false, false, false, false, false, false, false, false, false, false] rfl rfl (by kernel_rfl) (fun _ _ _ h => h) (Or.inl ⟨by rfl, ?_⟩) ?_ ?_
                rotate_left
                · intro w'
                  go_simp
                  with_reducible rfl
                rotate_left
                · simp only [Act.put, List.setIfInBounds_toArray, List.set_cons_zero, List.set_cons_succ, i64_w, i32_w]
                  rfl
                refine take_ (i := 4) (N := some 95) (v := ?_) (a' := ?_) #[true, true, true, true, true, true, true, false, false, false, false, false, false, false, false, false, false, false, false, false, false, false, false, false, false, false, false, false, false, false, false, false, false, false] rfl rfl (by kernel_rfl) (fun _ _ _ h => h) (Or.inl ⟨by rfl, ?_⟩) hHeld ?_ ?_
                rotate_left
                · rintro w' ⟨s0, s1, s2, s3, s4⟩
                  go_simp
                  with_reducible rfl
                rotate_left
                · simp only [Act.put, List.setIfInBounds_toArray, List.set_cons_zero, List.set_cons_succ, i64_w, i32_w]
                  rfl
                refine pure_ (i := 7) (N := some 98) (v := ?_) (a' := ?_) #[true, true, true, true, true, true, true, true, false, false, false, false, false, false, false, false, false, false, false, false, false, false, false, false, false, false, false, false, false, false, false, false, false, false] rfl rfl (by kernel_rfl) (fun _ _ _ h => h) (Or.inl ⟨by rfl, ?_⟩) ?_ ?_
                rotate_left
                · intro w'
                  go_simp
                  with_reducible rfl
                rotate_left
                · simp only [Act.put, List.setIfInBounds_toArray, List.set_cons_zero, List.set_cons_succ, i64_w, i32_w]
                  rfl
                refine pure_ (i := 8) (N := some 99) (v := ?_) (a' := ?_) #[true, true, true, true, true, true, true, true, true, false, false, false, false, false, false, false, false, false, false, false, false, false, false, false, false, false, false, false, false, false, false, false, false, false] rfl rfl (by kernel_rfl) (fun _ _ _ h => h) (Or.inl ⟨by rfl, ?_⟩) ?_ ?_
                rotate_left
                · intro w'
                  go_simp
                  with_reducible rfl
                rotate_left
                · simp only [Act.put, List.setIfInBounds_toArray, List.set_cons_zero, List.set_cons_succ, i64_w, i32_w]
                  rfl
                refine pure_ (i := 9) (N := some 100) (v := ?_) (a' := ?_) #[true, true, true, true, true, true, true, true, true, true, false, false, false, false, false, false, false, false, false, false, false, false, false, false, false, false, false, false, false, false, false, false, false, false] rfl rfl (by kernel_rfl) (fun _ _ _ h => h) (Or.inl ⟨by rfl, ?_⟩) ?_ ?_
                rotate_left
                · intro w'
                  go_simp
                  with_reducible rfl
                rotate_left
                · simp only [Act.put, List.setIfInBounds_toArray, List.set_cons_zero, List.set_cons_succ, i64_w, i32_w]
                  rfl
                refine pure_ (i := 10) (N := some 101) (v := ?_) (a' := ?_) #[true, true, true, true, true, true, true, true, true, true, true, false, false, false, false, false, false, false, false, false, false, false, false, false, false, false, false, false, false, false, false, false, false, false] rfl rfl (by kernel_rfl) (fun _ _ _ h => h) (Or.inl ⟨by rfl, ?_⟩) ?_ ?_
                rotate_left
                · intro w'
                  go_simp
                  with_reducible rfl
                rotate_left
                · simp only [Act.put, List.setIfInBounds_toArray, List.set_cons_zero, List.set_cons_succ, i64_w, i32_w]
                  rfl
                refine pure_ (i := 14) (N := some 105) (v := ?_) (a' := ?_) #[true, true, true, true, true, true, true, true, true, true, true, false, false, false, true, false, false, false, false, false, false, false, false, false, false, false, false, false, false, false, false, false, false, false] rfl rfl (by kernel_rfl) (fun _ _ _ h => h) (Or.inl ⟨by rfl, ?_⟩) ?_ ?_
                rotate_left
                · intro w'
                  go_simp
                  with_reducible rfl
                rotate_left
                · simp only [Act.put, List.setIfInBounds_toArray, List.set_cons_zero, List.set_cons_succ, i64_w, i32_w]
                  rfl
                refine take_ (i := 15) (N := some 106) (v := ?_) (a' := ?_) #[true, true, true, true, true, true, true, true, true, true, true, false, false, false, true, true, false, false, false, false, false, false, false, false, false, false, false, false, false, false, false, false, false, false] rfl rfl (by kernel_rfl) (fun _ _ _ h => h) (Or.inl ⟨by rfl, ?_⟩) hHeld ?_ ?_
                rotate_left
                · rintro w' ⟨s0, s1, s2, s3, s4⟩
                  go_simp
                  with_reducible rfl
                rotate_left
                · simp only [Act.put, List.setIfInBounds_toArray, List.set_cons_zero, List.set_cons_succ, i64_w, i32_w]
                  rfl
                refine one_ (i := 11) (N := some 102) #[true, true, true, true, true, true, true, true, true, true, true, true, false, false, true, true, false, false, false, false, false, false, false, false, false, false, false, false, false, false, false, false, false, false] rfl rfl (by kernel_rfl) (by decide) (fun K_ hK => ?_)
                refine goes_ Try.func8 (by kernel_rfl) rfl #[.slice (some ad) (i + 1) c1, .slice (some ⟨wr.heap.size + 1, 0, none⟩) Kn Kn] (by rfl) rfl rfl (by simp only [List.map_toArray, List.map_cons, List.map_nil]; rfl) ?_
                with_reducible refine (get_n (l := ⟨zs Kn, zs V⟩ :: fm i) (r := ⟨0, zs V, 0⟩) (m := V) HG.out Hc1.out HKd.out (fm_v' i Kn V (by omega) (by omega)) (getR_head _ _ _) (by simp [fm_len]) (zs_len _) (zs_len _)).mono ?_
                rintro e w2 ⟨Av2, cv2, rfl, hV2, hb_⟩
                have q3 := (Kd.C_string (P := Try.prog) (A := Av2) (c := cv2) Try.underlying24 Try.underlying5 Try.underlying9 (hV2))
                have HX2 := Aside0.mk hb_
                clear hV2 hb_
                refine ⟨_, rfl, ?_⟩
                refine hK.out _ _ ⟨cell_old HX2.out hHeld.1, cell_old HX2.out hHeld.2.1, (Kd.C_string (P := Try.prog) (A := K0) (c := k0) Try.underlying24 Try.underlying5 Try.underlying9 (Kd.C_below HR0.out HX2.out)), (Kd.C_string (P := Try.prog) (A := (some ⟨wr.heap.size + 1, 0, none⟩)) (c := Kn) Try.underlying24 Try.underlying5 Try.underlying9 (Kd.C_below HCK.out HX2.out)), (Kd.C_string (P := Try.prog) (A := (some ⟨wr.heap.size, 0, none⟩)) (c := V) Try.underlying24 Try.underlying5 Try.underlying9 (Kd.C_below HCV.out HX2.out))⟩ (fun hHeld => ?_)
                clear hK K_
                refine norm_ (a' := ?_) ?_ ?_
                rotate_left
                · show Act.put _ (some 102) _ = _
                  simp only [Act.put, List.setIfInBounds_toArray, List.set_cons_zero, List.set_cons_succ, i64_w, i32_w]
                  rfl
                refine pure_ (i := 12) (N := some 103) (v := ?_) (a' := ?_) #[true, true, true, true, true, true, true, true, true, true, true, true, true, false, true, true, false, false, false, false, false, false, false, false, false, false, false, false, false, false, false, false, false, false] rfl rfl (by kernel_rfl) (fun _ _ _ h => h) (Or.inl ⟨by rfl, ?_⟩) ?_ ?_
                rotate_left
                · intro w'
                  go_simp
                  with_reducible rfl
                rotate_left
                · simp only [Act.put, List.setIfInBounds_toArray, List.set_cons_zero, List.set_cons_succ, i64_w, i32_w]
                  rfl
                refine one_ (i := 13) (N := some 104) #[true, true, true, true, true, true, true, true, true, true, true, true, true, true, true, true, false, false, false, false, false, false, false, false, false, false, false, false, false, false, false, false, false, false] rfl rfl (by kernel_rfl) (by decide) (fun K_ hK => ?_)
                refine value_ (w1 := ?_) (v := ?_) (by rfl) rfl ?_ ?_
                rotate_left 2
                · go_simp
                  constructor
                  · rfl
                  · rfl
                refine hK.out _ _ ⟨hHeld.1, hHeld.2.1, hHeld.2.2.1, hHeld.2.2.2.1, hHeld.2.2.2.2⟩ (fun hHeld => ?_)
                clear hK K_
                refine norm_ (a' := ?_) ?_ ?_
                rotate_left
                · show Act.put _ (some 104) _ = _
                  simp only [Act.put, List.setIfInBounds_toArray, List.set_cons_zero, List.set_cons_succ, i64_w, i32_w]
                  rfl
                refine pure_ (i := 16) (N := some 107) (v := ?_) (a' := ?_) #[true, true, true, true, true, true, true, true, true, true, true, true, true, true, true, true, true, false, false, false, false, false, false, false, false, false, false, false, false, false, false, false, false, false] rfl rfl (by kernel_rfl) (fun _ _ _ h => h) (Or.inl ⟨by rfl, ?_⟩) ?_ ?_
                rotate_left
                · intro w'
                  go_simp
                  with_reducible rfl
                rotate_left
                · simp only [Act.put, List.setIfInBounds_toArray, List.set_cons_zero, List.set_cons_succ, i64_w, i32_w]
                  rfl
                refine pure_ (i := 17) (N := some 108) (v := ?_) (a' := ?_) #[true, true, true, true, true, true, true, true, true, true, true, true, true, true, true, true, true, true, false, false, false, false, false, false, false, false, false, false, false, false, false, false, false, false] rfl rfl (by kernel_rfl) (fun _ _ _ h => h) (Or.inl ⟨by rfl, ?_⟩) ?_ ?_
                rotate_left
                · intro w'
                  go_simp
                  with_reducible rfl
                rotate_left
                · simp only [Act.put, List.setIfInBounds_toArray, List.set_cons_zero, List.set_cons_succ, i64_w, i32_w]
                  rfl
                refine pure_ (i := 18) (N := some 109) (v := ?_) (a' := ?_) #[true, true, true, true, true, true, true, true, true, true, true, true, true, true, true, true, true, true, true, false, false, false, false, false, false, false, false, false, false, false, false, false, false, false] rfl rfl (by kernel_rfl) (fun _ _ _ h => h) (Or.inl ⟨by rfl, ?_⟩) ?_ ?_
                rotate_left
                · intro w'
                  go_simp
                  with_reducible rfl
                rotate_left
                · simp only [Act.put, List.setIfInBounds_toArray, List.set_cons_zero, List.set_cons_succ, i64_w, i32_w]
                  rfl
                refine pure_ (i := 19) (N := some 110) (v := ?_) (a' := ?_) #[true, true, true, true, true, true, true, true, true, true, true, true, true, true, true, true, true, true, true, true, false, false, false, false, false, false, false, false, false, false, false, false, false, false] rfl rfl (by kernel_rfl) (fun _ _ _ h => h) (Or.inl ⟨by rfl, ?_⟩) ?_ ?_
                rotate_left
                · intro w'
                  go_simp
                  with_reducible rfl
                rotate_left
                · simp only [Act.put, List.setIfInBounds_toArray, List.set_cons_zero, List.set_cons_succ, i64_w, i32_w]
                  rfl
                refine pure_ (i := 20) (N := some 111) (v := ?_) (a' := ?_) #[true, true, true, true, true, true, true, true, true, true, true, true, true, true, true, true, true, true, true, true, true, false, false, false, false, false, false, false, false, false, false, false, false, false] rfl rfl (by kernel_rfl) (fun _ _ _ h => h) (Or.inl ⟨by rfl, ?_⟩) ?_ ?_
                rotate_left
                · intro w'
                  go_simp
                  with_reducible rfl
                rotate_left
                · simp only [Act.put, List.setIfInBounds_toArray, List.set_cons_zero, List.set_cons_succ, i64_w, i32_w]
                  rfl
                refine pure_ (i := 21) (N := some 112) (v := ?_) (a' := ?_) #[true, true, true, true, true, true, true, true, true, true, true, true, true, true, true, true, true, true, true, true, true, true, false, false, false, false, false, false, false, false, false, false, false, false] rfl rfl (by kernel_rfl) (fun _ _ _ h => h) (Or.inl ⟨by rfl, ?_⟩) ?_ ?_
                rotate_left
                · intro w'
                  go_simp
                  with_reducible rfl
                rotate_left
                · simp only [Act.put, List.setIfInBounds_toArray, List.set_cons_zero, List.set_cons_succ, i64_w, i32_w]
                  rfl
                refine pure_ (i := 22) (N := some 113) (v := ?_) (a' := ?_) #[true, true, true, true, true, true, true, true, true, true, true, true, true, true, true, true, true, true, true, true, true, true, true, false, false, false, false, false, false, false, false, false, false, false] rfl rfl (by kernel_rfl) (fun _ _ _ h => h) (Or.inl ⟨by rfl, ?_⟩) ?_ ?_
                rotate_left
                · intro w'
                  go_simp
                  with_reducible rfl
                rotate_left
                · simp only [Act.put, List.setIfInBounds_toArray, List.set_cons_zero, List.set_cons_succ, i64_w, i32_w]
                  rfl
                refine pure_ (i := 23) (N := some 114) (v := ?_) (a' := ?_) #[true, true, true, true, true, true, true, true, true, true, true, true, true, true, true, true, true, true, true, true, true, true, true, true, false, false, false, false, false, false, false, false, false, false] rfl rfl (by kernel_rfl) (fun _ _ _ h => h) (Or.inl ⟨by rfl, ?_⟩) ?_ ?_
                rotate_left
                · intro w'
                  go_simp
                  with_reducible rfl
                rotate_left
                · simp only [Act.put, List.setIfInBounds_toArray, List.set_cons_zero, List.set_cons_succ, i64_w, i32_w]
                  rfl
                refine pure_ (i := 24) (N := some 115) (v := ?_) (a' := ?_) #[true, true, true, true, true, true, true, true, true, true, true, true, true, true, true, true, true, true, true, true, true, true, true, true, true, false, false, false, false, false, false, false, false, false] rfl rfl (by kernel_rfl) (fun _ _ _ h => h) (Or.inl ⟨by rfl, ?_⟩) ?_ ?_
                rotate_left
                · intro w'
                  go_simp
                  with_reducible rfl
                rotate_left
                · simp only [Act.put, List.setIfInBounds_toArray, List.set_cons_zero, List.set_cons_succ, i64_w, i32_w]
                  rfl
                refine pure_ (i := 25) (N := some 116) (v := ?_) (a' := ?_) #[true, true, true, true, true, true, true, true, true, true, true, true, true, true, true, true, true, true, true, true, true, true, true, true, true, true, false, false, false, false, false, false, false, false] rfl rfl (by kernel_rfl) (fun _ _ _ h => h) (Or.inl ⟨by rfl, ?_⟩) ?_ ?_
                rotate_left
                · intro w'
                  go_simp
                  with_reducible rfl
                rotate_left
                · simp only [Act.put, List.setIfInBounds_toArray, List.set_cons_zero, List.set_cons_succ, i64_w, i32_w]
                  rfl
                refine pure_ (i := 26) (N := some 117) (v := ?_) (a' := ?_) #[true, true, true, true, true, true, true, true, true, true, true, true, true, true, true, true, true, true, true, true, true, true, true, true, true, true, true, false, false, false, false, false, false, false] rfl rfl (by kernel_rfl) (fun _ _ _ h => h) (Or.inl ⟨by rfl, ?_⟩) ?_ ?_
                rotate_left
                · intro w'
                  go_simp
                  with_reducible rfl
                rotate_left
                · simp only [Act.put, List.setIfInBounds_toArray, List.set_cons_zero, List.set_cons_succ, i64_w, i32_w]
                  rfl
                refine pure_ (i := 29) (N := some 120) (v := ?_) (a' := ?_) #[true, true, true, true, true, true, true, true, true, true, true, true, true, true, true, true, true, true, true, true, true, true, true, true, true, true, true, false, false, true, false, false, false, false] rfl rfl (by kernel_rfl) (fun _ _ _ h => h) (Or.inl ⟨by rfl, ?_⟩) ?_ ?_
                rotate_left
                · intro w'
                  go_simp
                  with_reducible rfl
                rotate_left
                · simp only [Act.put, List.setIfInBounds_toArray, List.set_cons_zero, List.set_cons_succ, i64_w, i32_w]
                  rfl
                refine take_ (i := 27) (N := some 118) (v := ?_) (a' := ?_) #[true, true, true, true, true, true, true, true, true, true, true, true, true, true, true, true, true, true, true, true, true, true, true, true, true, true, true, true, false, true, false, false, false, false] rfl rfl (by kernel_rfl) (fun _ _ _ h => h) (Or.inl ⟨by rfl, ?_⟩) hHeld ?_ ?_
                rotate_left
                · rintro w' ⟨s0, s1, s2, s3, s4⟩
                  go_simp
                  with_reducible rfl
                rotate_left
                · simp only [Act.put, List.setIfInBounds_toArray, List.set_cons_zero, List.set_cons_succ, i64_w, i32_w]
                  rfl
                refine take_ (i := 28) (N := some 119) (v := ?_) (a' := ?_) #[true, true, true, true, true, true, true, true, true, true, true, true, true, true, true, true, true, true, true, true, true, true, true, true, true, true, true, true, true, true, false, false, false, false] rfl rfl (by kernel_rfl) (fun _ _ _ h => h) (Or.inl ⟨by rfl, ?_⟩) hHeld ?_ ?_
                rotate_left
                · rintro w' ⟨s0, s1, s2, s3, s4⟩
                  go_simp
                  with_reducible rfl
                rotate_left
                · simp only [Act.put, List.setIfInBounds_toArray, List.set_cons_zero, List.set_cons_succ, i64_w, i32_w]
                  rfl
                refine take_ (i := 30) (N := some 121) (v := ?_) (a' := ?_) #[true, true, true, true, true, true, true, true, true, true, true, true, true, true, true, true, true, true, true, true, true, true, true, true, true, true, true, true, true, true, true, false, false, false] rfl rfl (by kernel_rfl) (fun _ _ _ h => h) (Or.inl ⟨by rfl, ?_⟩) hHeld ?_ ?_
                rotate_left
                · rintro w' ⟨s0, s1, s2, s3, s4⟩
                  go_simp
                  with_reducible rfl
                rotate_left
                · simp only [Act.put, List.setIfInBounds_toArray, List.set_cons_zero, List.set_cons_succ, i64_w, i32_w]
                  rfl
                refine pure_ (i := 31) (N := some 122) (v := ?_) (a' := ?_) #[true, true, true, true, true, true, true, true, true, true, true, true, true, true, true, true, true, true, true, true, true, true, true, true, true, true, true, true, true, true, true, true, false, false] rfl rfl (by kernel_rfl) (fun _ _ _ h => h) (Or.inl ⟨by rfl, ?_⟩) ?_ ?_
                rotate_left
                · intro w'
                  go_simp
                  with_reducible rfl
                rotate_left
                · simp only [Act.put, List.setIfInBounds_toArray, List.set_cons_zero, List.set_cons_succ, i64_w, i32_w]
                  rfl
                refine pure_ (i := 32) (N := some 123) (v := ?_) (a' := ?_) #[true, true, true, true, true, true, true, true, true, true, true, true, true, true, true, true, true, true, true, true, true, true, true, true, true, true, true, true, true, true, true, true, true, false] rfl rfl (by kernel_rfl) (fun _ _ _ h => h) (Or.inl ⟨by rfl, ?_⟩) ?_ ?_
                rotate_left
                · intro w'
                  go_simp
                  with_reducible rfl
                rotate_left
                · simp only [Act.put, List.setIfInBounds_toArray, List.set_cons_zero, List.set_cons_succ, i64_w, i32_w]
                  rfl
                refine pure_ (i := 33) (N := some 124) (v := ?_) (a' := ?_) #[true, true, true, true, true, true, true, true, true, true, true, true, true, true, true, true, true, true, true, true, true, true, true, true, true, true, true, true, true, true, true, true, true, true] rfl rfl (by kernel_rfl) (fun _ _ _ h => h) (Or.inl ⟨by rfl, ?_⟩) ?_ ?_
                rotate_left
                · intro w'
                  go_simp
                  with_reducible rfl
                rotate_left
                · simp only [Act.put, List.setIfInBounds_toArray, List.set_cons_zero, List.set_cons_succ, i64_w, i32_w]
                  rfl
                refine done_ (by kernel_rfl) ?_
                have HBX := Aside0.mk (below_then Hbd.out Hbd.out.size HX2.out)
                replace CK := Aside0.mk (Kd.C_below CK.out HBX.out)
                replace CV := Aside0.mk (Kd.C_below CV.out HBX.out)
                replace HS := Aside0.mk (Kd.C_below HS.out HBX.out)
                replace HB := Aside0.mk (below_then HB.out HB.out.size HBX.out)
                replace H1 := Aside0.mk (Kd.C_below H1.out HBX.out)
                replace BR := Aside0.mk (blk3_keep BR.out HBX.out)
                clear q3 hHeld HG HKd HG0 HR0 HCV HCK HBX HX2 Hbd B2
                clear H1 BR CK CV
                have kc := conv_same
                go_wp2_with fail
                obtain ⟨V3, hV3⟩ : ∃ V_, V_ = ((w2.alloc (.cells #[.int .u8 97] 5 (1, 2))).alloc (.cells #[.int .u8 110, .int .u8 101, .int .u8 119] 5 (3, 4))) := ⟨_, rfl⟩
                rw [← hV3]
                have hb_ : Below w2.heap.size w2 V3 := by rw [hV3]; exact (below_alloc (below_alloc (Below.refl _ _) (.cells #[.int .u8 97] 5 (1, 2))) (.cells #[.int .u8 110, .int .u8 101, .int .u8 119] 5 (3, 4)))
                replace HS := Aside0.mk (Kd.C_below HS.out hb_)
                replace HB := Aside0.mk (below_then HB.out HB.out.size hb_)
                have LA : Aside0 (V3.heap[w2.heap.size]? = some (.cells #[.int .u8 97] 5 (1, 2))) := Aside0.mk (by rw [hV3]; have h_ := blk_alloc (heap_alloc_self w2 (.cells #[.int .u8 97] 5 (1, 2))) (.cells #[.int .u8 110, .int .u8 101, .int .u8 119] 5 (3, 4)); simpa using h_)
                have LW : Aside0 (V3.heap[w2.heap.size + 1]? = some (.cells #[.int .u8 110, .int .u8 101, .int .u8 119] 5 (3, 4))) := Aside0.mk (by rw [hV3]; have h_ := heap_alloc_self (w2.alloc (.cells #[.int .u8 97] 5 (1, 2))) (.cells #[.int .u8 110, .int .u8 101, .int .u8 119] 5 (3, 4)); simpa using h_)
                clear hV3 hb_
                have HFA := Aside0.mk (forms_a i (by have := HM.out; omega) (by have := HM.out; omega))
                refine (put_n (l' := (fm i).set 0 ⟨[97], [110, 101, 119]⟩) (r := ⟨0, [0], (i : Int)⟩) HS.out Hc.out (lit_u8 [97] LA.out (by decide) rfl) (lit_u8 [110, 101, 119] LW.out (by decide) rfl) (fm_v i) (by rw [fm_len]; have := HM.out; omega) (by decide) (by decide) (eP_eq HFA.out.1) (fm_len i) rfl rfl).mono ?_
                rintro e w3 ⟨A2, c2, Av2, cv2, rfl, hc2, hC2, hV2, hb_⟩
                clear LA LW
                replace HS := Aside0.mk (Kd.C_below HS.out hb_)
                replace HB := Aside0.mk (below_then HB.out HB.out.size hb_)
                rw [show ((fm i).set 0 (⟨[97], [110, 101, 119]⟩ : S32)).length = i from by rw [List.length_set, fm_len]]
                simp only [List.length_cons, List.length_nil, Nat.zero_add, Nat.reduceAdd]
                have H2 := Aside0.mk (hC2)
                have CV2 := Aside0.mk (hV2)
                have Hc2 := Aside0.mk hc2
                have q1 := Kd.C_string (P := Try.prog) (A := Av2) (c := cv2) Try.underlying24 Try.underlying5 Try.underlying9 (Kd.C_alloc CV2.out (.cells #[.int .i64 0, .slice Av2 1 cv2, .int .i64 (i : Int)] 26))
                simp only [List.length_cons, List.length_nil, Nat.zero_add, Nat.reduceAdd] at q1
                have j1 : strOfNums [0] = ⟨#[0]⟩ := rfl
                have j2 : strOfNums [110, 101, 119] = ⟨#[110, 101, 119]⟩ := rfl
                have hf1 := field1
                have e8 : (if (8 : Int) < (i : Int) then (8 : Int) else (i : Int)) = (i : Int) := by have := HM.out; split <;> omega
                clear hc2 hC2 hV2 hb_
                go_wp2_with fail
                clear q1 e8
                obtain ⟨V4, hV4⟩ : ∃ V_, V_ = ((w3.alloc (.cells #[.int .i64 0, .slice Av2 1 cv2, .int .i64 (i : Int)] 26)).alloc (.cells #[.int .u8 97] 5 (1, 2))) := ⟨_, rfl⟩
                rw [← hV4]
                have hb_ : Below w3.heap.size w3 V4 := by rw [hV4]; exact (below_alloc (below_alloc (Below.refl _ _) (.cells #[.int .i64 0, .slice Av2 1 cv2, .int .i64 (i : Int)] 26)) (.cells #[.int .u8 97] 5 (1, 2)))
                replace HS := Aside0.mk (Kd.C_below HS.out hb_)
                replace HB := Aside0.mk (below_then HB.out HB.out.size hb_)
                replace H2 := Aside0.mk (Kd.C_below H2.out hb_)
                replace CV2 := Aside0.mk (Kd.C_below CV2.out hb_)
                have BQ : Aside0 (V4.heap[w3.heap.size]? = some (.cells #[.int .i64 0, .slice Av2 1 cv2, .int .i64 (i : Int)] 26 (0, 0))) := Aside0.mk (by rw [hV4]; have h_ := blk_alloc (heap_alloc_self w3 (.cells #[.int .i64 0, .slice Av2 1 cv2, .int .i64 (i : Int)] 26)) (.cells #[.int .u8 97] 5 (1, 2)); simpa using h_)
                have LB : Aside0 (V4.heap[w3.heap.size + 1]? = some (.cells #[.int .u8 97] 5 (1, 2))) := Aside0.mk (by rw [hV4]; have h_ := heap_alloc_self (w3.alloc (.cells #[.int .i64 0, .slice Av2 1 cv2, .int .i64 (i : Int)] 26)) (.cells #[.int .u8 97] 5 (1, 2)); simpa using h_)
                clear hV4 hb_
                refine (get_n (l := (fm i).set 0 ⟨[97], [110, 101, 119]⟩) (r := ⟨0, [110, 101, 119], 0⟩) (m := 3) H2.out Hc2.out (lit_u8 [97] LB.out (by decide) rfl) (fm_w i) (e26_eq HFA.out.2) (by rw [List.length_set, fm_len]) rfl rfl).mono ?_
                rintro e w4 ⟨Av3, cv3, rfl, hV3, hb_⟩
                clear BQ LB H2 CV2
                replace HS := Aside0.mk (Kd.C_below HS.out hb_)
                replace HB := Aside0.mk (below_then HB.out HB.out.size hb_)
                have q1 := Kd.C_string (P := Try.prog) (A := Av3) (c := cv3) Try.underlying24 Try.underlying5 Try.underlying9 hV3
                clear hb_ hV3
                go_wp2_with fail
                clear q1
                obtain ⟨V5, hV5⟩ : ∃ V_, V_ = (w4.alloc (.cells #[.int .u8 122, .int .u8 122] 5 (2, 3))) := ⟨_, rfl⟩
                rw [← hV5]
                have hb_ : Below w4.heap.size w4 V5 := by rw [hV5]; exact (below_alloc (Below.refl _ _) (.cells #[.int .u8 122, .int .u8 122] 5 (2, 3)))
                replace HS := Aside0.mk (Kd.C_below HS.out hb_)
                replace HB := Aside0.mk (below_then HB.out HB.out.size hb_)
                have LZ : Aside0 (V5.heap[w4.heap.size]? = some (.cells #[.int .u8 122, .int .u8 122] 5 (2, 3))) := Aside0.mk (by rw [hV5]; have h_ := heap_alloc_self w4 (.cells #[.int .u8 122, .int .u8 122] 5 (2, 3)); simpa using h_)
                clear hV5 hb_
                refine (get_n (l := fm i) (r := ⟨5, [], 0⟩) (m := 0) HS.out Hc.out (lit_u8 [122, 122] LZ.out (by decide) rfl) (fun x hx => (fm_v i x hx).2) (e26_eq (forms_zz i (by have := HM.out; omega))) (fm_len i) rfl rfl).mono ?_
                rintro e w5 ⟨Av5, cv5, rfl, hV5, hb_⟩
                clear LZ HS
                replace HB := Aside0.mk (below_then HB.out HB.out.size hb_)
                clear hb_ hV5
                have hf0 := field0
                go_wp2_with fail
                refine (awake9 w5).mono ?_
                rintro e w6 ⟨rfl, hb_⟩
                replace HB := Aside0.mk (below_then HB.out HB.out.size hb_)
                clear hb_
                go_wp2_with fail
                go_ret
                exact ⟨rfl, HB.out⟩
theorem bits_lt (n : Int) (p m : Nat) (e : Int) (he : e = ((m : Nat) : Int)) (hm : m < 2 ^ p) (hp : p < 60) : ∃ N : Nat, Go.bits .and .i64 n e = (N : Int) ∧ N ≤ m := by
  subst he
  simp only [Go.bits, BitVec.ofInt_natCast, BitVec.toNat_and]
  have h : (BitVec.ofInt IntKind.i64.bits n).toNat &&& (BitVec.ofNat IntKind.i64.bits m).toNat ≤ m := Nat.le_trans Nat.and_le_right (by rw [BitVec.toNat_ofNat]; exact Nat.mod_le _ _)
  have h2 : m < 2 ^ 60 := Nat.lt_of_lt_of_le hm (Nat.pow_le_pow_right (by decide) (by omega))
  generalize (BitVec.ofInt IntKind.i64.bits n).toNat &&& (BitVec.ofNat IntKind.i64.bits m).toNat = t at h ⊢
  exact ⟨t, by rw [IntKind.wrap_i64]; omega, h⟩
theorem forms_calls (n k v : Int) (w : World) : Calls Try.prog 3 #[.int .i64 n, .int .i64 k, .int .i64 v] w fun e w' => e = .returned (.bool true) ∧ Below w.heap.size w w' := by
  obtain ⟨N, hN, hn⟩ := bits_lt n 4 15 15 rfl (by decide) (by decide)
  obtain ⟨K, hK, hk⟩ := bits_lt k 4 15 15 rfl (by decide) (by decide)
  obtain ⟨V, hV, hv⟩ := bits_lt v 5 31 31 rfl (by decide) (by decide)
  exact forms_n n k v N K V w hN hK hV hn hk hv
end Go.Proofs.Ytiodnbeifgnhcaa.Ms
namespace Go.Proofs.Ytiodnbeifgnhcaa.mapsForms
open Go.ChangeShapes Go.WideShapes Go.ChangeAt Go.RowKit Go.Proofs.YtiodnbeifgnhcaaW
open Go.ChangeMaps (open_string shut_string)
theorem own : ownKnob Try.prog.godebug = none := by kernel_rfl
theorem laidOut : laidOutB Try.prog = true := by kernel_rfl
def IsRow (k : IntKind) (w : World) (a : Option Addr) (len cap : Nat) (zs : List Int) : Prop :=
  (a = none ∧ len = 0 ∧ cap = 0 ∧ zs = []) ∨
  ∃ x, a = some x ∧ len ≤ cap ∧ cap ≤ maxLen ∧ zs.length = cap ∧ (∀ i, i < zs.length → w.cell? (x.add i) = some (.int k (zs.getD i 0))) ∧ ∀ n ∈ zs, (Lit.int k n).wf = true
set_option maxRecDepth 100000 in
theorem lifted (os : Os) (started : os.Started) (H : Type) (enc : TypeId × Value → H) :
    ReturnsInHanded {} Try.checked os 3 .any (Rows.mapsFormsSpec.pre6 enc Try.prog Try.f3 Rows.mapsFormsRow.domain false) (Rows.mapsFormsSpec.post enc Try.prog Try.f3 false true false false) := by
  refine returnsInHanded_of_change_sized (C := Try.checked) own started (by kernel_rfl) Try.func3
    (ChangeSpec.witness6 (enc := enc) (C := Try.checked) false ⟨#[], #[.int .i64 0, .int .i64 0, .int .i64 0], []⟩ 8 (by kernel_rfl) (by kernel_rfl) (by kernel_rfl) (by kernel_rfl)) ?_
  intro W base args ds gs before hval0 hW hcnd hsz0 _
  have hsz : (DataW.weightsEach Try.prog (Try.f3.params.toList ++ Rows.mapsFormsSpec.plain.varTypes Try.prog) (ds ++ gs)).all (· ≤ reachBytes) = true := hsz0
  have hval : ∀ (j : Nat) t v, Try.f3.params[j]? = some t → args[j]? = some v → Value.okWide Try.prog W .any base t v := hval0
  have hW' := hW
  obtain ⟨p, q, hA0, hV, rfl, hfz, hnd⟩ := hW
  have hA : DataW.TrodAll enc Try.prog W 0 (fun _ => true) true Try.f3.params.toList args.toList ds p := hA0
  rw [Try.params3] at hA hval hsz
  obtain ⟨v0, vs0, d0, ds0, p0, q0, hargs, rfl, rfl, h0, r0⟩ := trodAll_cons hA
  obtain ⟨v1, vs1, d1, ds1, p1, q1, rfl, rfl, rfl, h1, r1⟩ := trodAll_cons r0
  obtain ⟨v2, vs2, d2, ds2, p2, q2, rfl, rfl, rfl, h2, r2⟩ := trodAll_cons r1
  obtain ⟨rfl, rfl, rfl⟩ := trodAll_nil r2
  obtain rfl : args = #[v0, v1, v2] := by cases args; simp_all
  obtain ⟨rfl, rfl⟩ := trodVars_none hV
  obtain ⟨a0, rfl, rfl, rfl, w0⟩ := open_int Try.underlying3 (hval 0 3 v0 rfl rfl) h0
  obtain ⟨a1, rfl, rfl, rfl, w1⟩ := open_int Try.underlying3 (hval 1 3 v1 rfl rfl) h1
  obtain ⟨a2, rfl, rfl, rfl, w2⟩ := open_int Try.underlying3 (hval 2 3 v2 rfl rfl) h2
  clear hA0 hval0 hsz0 hsz
  refine (Ms.forms_calls a0 a1 a2 W).mono fun e W' ⟨he, bel⟩ => ?_
  subst he
  exact ⟨_, rfl, _, _, _, [], _, [], hW', trodAll_mk1 (shut_bool Try.underlying4 _), (trodAll_cons_mk (shut_int Try.underlying3 w0) (trodAll_cons_mk (shut_int Try.underlying3 w1) (trodAll_cons_mk (shut_int Try.underlying3 w2) trodAll_mk0))), rfl, bel.frame _, fun h => by cases h⟩
theorem over : Rows.mapsFormsRow.holds Try.pinned (OpenSpec.ofChange Rows.mapsFormsSpec) :=
  OpenClaim.holds_of_wide 3 Try.f3 rfl rfl rfl rfl rfl rfl rfl ⟨rfl, rfl, rfl, rfl, rfl⟩ rfl rfl rfl rfl rfl (by kernel_rfl) Try.func3 (by kernel_rfl)
    (of_decide_eq_true (by kernel_rfl)) (by unfold Func.isWrapper; first | (rw [if_pos (by decide +kernel)]; kernel_rfl) | (rw [if_neg (by decide +kernel)]; exact ⟨rfl, rfl⟩))
    (fun os started H enc _ => lifted os started H enc)
theorem proved : Rows.MapsFormsSaid := over
end Go.Proofs.Ytiodnbeifgnhcaa.mapsForms
namespace Go.Proofs.Ytiodnbeifgnhcaa
/-- The row, under a short name, for the claim. -/
theorem mapsForms_holds : Rows.MapsFormsSaid := mapsForms.proved
end Go.Proofs.Ytiodnbeifgnhcaa
