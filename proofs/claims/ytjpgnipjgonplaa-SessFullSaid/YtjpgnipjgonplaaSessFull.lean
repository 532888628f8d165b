/- SessFull: as many sessions are kept as may be, and no more: for all whole numbers, with no condition. -/
import Derived.Lib.SliceRun
import Derived.Outline
import Derived.Test.YtjpgnipjgonplaaRows
import Derived.WalkKit
import Derived.ProofKit
import Derived.OpenShut
import Derived.ShutString
import Derived.ChangeOld
import Derived.Below
import Derived.SizedLaws
import Derived.Test.YtjpgnipjgonplaaSf
namespace Go.Proofs.Ytjpgnipjgonplaa.Ss
open Go.RowKit Go.Proofs.YtjpgnipjgonplaaW.PrintWords Go.Proofs.YtjpgnipjgonplaaW.PrintLast Go.Proofs.YtjpgnipjgonplaaW.PrintMore
attribute [local go_sem] max2_int min2_int max_two min_two max_three min_three max_four min_four
set_option linter.unusedVariables false
set_option linter.unusedSimpArgs false

def tab : Nat → List S31
  | 0 => []
  | i + 1 => ⟨100 - (i : Int), 1, ⟨0, [], (i : Int)⟩⟩ :: tab i
theorem tab_len (m : Nat) : (tab m).length = m := by
  induction m with
  | zero => rfl
  | succ m ih => simp [tab, ih]
theorem tab_rd (m j : Nat) (h : j < m) : rd_T31 (tab m) (j : Int) = ⟨100 - ((m - 1 - j : Nat) : Int), 1, ⟨0, [], ((m - 1 - j : Nat) : Int)⟩⟩ := by
  induction m generalizing j with
  | zero => omega
  | succ m ih =>
    cases j with
    | zero => simp [rd_T31, tab]
    | succ j =>
      have h1 := ih j (by omega)
      have h2 : rd_T31 (tab (m + 1)) ((j + 1 : Nat) : Int) = rd_T31 (tab m) (j : Int) := by
        simp only [rd_T31, Int.toNat_natCast, tab, List.getD_cons_succ]
      rw [h2, h1, show m - 1 - j = m + 1 - 1 - (j + 1) from by omega]
def e26 (x y : S26) : Bool := x.f0 == y.f0 && x.f1 == y.f1 && x.f2 == y.f2
theorem e26_eq {x y : S26} (h : e26 x y = true) : x = y := by
  obtain ⟨a, b, c⟩ := x
  obtain ⟨a', b', c'⟩ := y
  simp only [e26, Bool.and_eq_true, beq_iff_eq] at h
  obtain ⟨⟨rfl, rfl⟩, rfl⟩ := h
  rfl
def eL (l : List S31) (s q : Int) (r : S26) (k : Int) : Bool := e26 (lookR l s q).1 r && (lookR l s q).2 == k
theorem eL_eq {l : List S31} {s q : Int} {r : S26} {k : Int} (h : eL l s q r k = true) : lookR l s q = (r, k) := by
  simp only [eL, Bool.and_eq_true, beq_iff_eq] at h
  exact Prod.ext (e26_eq h.1) h.2
theorem full_new : ∀ i : Nat, i < 8 → eL (tab i) (100 - (i : Int)) 1 ⟨0, [], 0⟩ 0 = true ∧ there (tab i) (100 - (i : Int)) = false ∧ fi (tab i) (100 - (i : Int)) = 0 := by decide +kernel
theorem full_bad : ∀ i : Nat, i < 16 → 8 ≤ i → eL (tab 8) (100 - (i : Int)) 1 ⟨9, [], 0⟩ 2 = true := by decide +kernel
theorem full_end : ∀ m : Nat, m < 9 → ∀ k : Nat, k < m → eL (tab m) (100 - (k : Int)) 2 ⟨0, [], 0⟩ 0 = true ∧ there (tab m) (100 - (k : Int)) = true ∧ eL (tab m) (100 - (k : Int)) 1 ⟨0, [], (k : Int)⟩ 1 = true ∧ eL ((tab m).set (fi (tab m) (100 - (k : Int))) ⟨100 - (k : Int), 2, ⟨0, [], 77⟩⟩) (100 - (k : Int)) 2 ⟨0, [], 77⟩ 1 = true := by decide +kernel
theorem full_put (i : Nat) (h : i < 8) : putP (tab i) (100 - (i : Int)) ⟨100 - (i : Int), 1, ⟨0, [], (i : Int)⟩⟩ = tab (i + 1) := by
  obtain ⟨_, h1, h2⟩ := full_new i h
  rw [putP, h1, h2]
  rfl
theorem tab_val (m : Nat) : ∀ x ∈ tab m, x.f2.f1 = [] := by
  induction m with
  | zero => intro x hx; simp [tab] at hx
  | succ m ih =>
    intro x hx
    rw [tab, List.mem_cons] at hx
    rcases hx with rfl | hx
    · rfl
    · exact ih x hx
/-- Look, where the answer is known and bears no bytes. -/
theorem look_known (l : List S31) (A : Option Addr) (c n : Nat) (s q : Int) (r : S26) (k : Int) (W : World) (hr : Kd.C k31 W A l.length l) (hc : l.length ≤ c) (hn : l.length = n) (hl : ∀ x ∈ l, x.f2.f1.length < 140737488355328) (h : lookR l s q = (r, k)) (hv : r.f1 = []) :
    Calls Try.prog 8 #[.slice A n c, .int .i64 s, .int .i64 q] W fun e w' => ∃ A1 c1, e = .returned (.tuple #[.agg #[.int .i64 r.f0, .slice A1 0 c1, .int .i64 r.f2], .int .i64 k]) ∧ Below W.heap.size W w' := by
  subst hn
  have h1 := look8 A c l s q W hr hc hl
  rw [h, hv] at h1
  refine h1.mono ?_
  rintro e w' ⟨v, rfl, hR, hb⟩
  obtain ⟨A1, c1, rfl⟩ := Kd.R_slice hR
  exact ⟨A1, c1, rfl, hb⟩
/-- Put of a result that bears no bytes. -/
theorem put_known (l l' : List S31) (A : Option Addr) (c n n' : Nat) (s q : Int) (r0 r2 : Int) (w : World) (hr : Kd.C k31 w A l.length l) (hc : l.length ≤ c) (hn : l.length = n) (hb : n < 1000000) (hl : ∀ x ∈ l, x.f2.f1.length < 140737488355328) (h : putP l s ⟨s, q, ⟨r0, [], r2⟩⟩ = l') (hn' : l'.length = n') :
    Calls Try.prog 9 #[.slice A n c, .int .i64 s, .int .i64 q, .agg #[.int .i64 r0, .slice none 0 0, .int .i64 r2]] w fun e w' => ∃ A' c', e = .returned (.slice A' n' c') ∧ l'.length ≤ c' ∧ Kd.C k31 w' A' l'.length l' ∧ Below w.heap.size w w' := by
  subst hn
  subst hn'
  subst h
  refine (put9 A c l s q ⟨r0, [], r2⟩ none 0 w hr hc hb hl ⟨rfl, Nat.zero_le _, fun h => absurd h (Nat.lt_irrefl 0)⟩ (Nat.le_refl _) (show 0 < 140737488355328 from by decide)).mono ?_
  rintro e w' ⟨A', c', rfl, hc', hF, hb'⟩
  exact ⟨A', c', rfl, hc', Fr.C hF, hb'⟩

def FI (w : World) (m : Nat) (A : Option Addr) (c : Nat) (w' : World) : Prop := (tab m).length ≤ c ∧ Kd.C k31 w' A (tab m).length (tab m) ∧ Below w.heap.size w w'
theorem tab_v (m : Nat) : ∀ x ∈ tab m, x.f2.f1.length < 140737488355328 := fun x hx => by rw [tab_val m x hx]; decide
set_option maxHeartbeats 1000000 in
theorem full_n (n which : Int) (N : Nat) (w : World) (hn : Go.bits .and .i64 n 15 = N) (hN : N ≤ 15) :
    Calls Try.prog 3 #[.int .i64 n, .int .i64 which] w fun e w' => e = .returned (.bool true) ∧ Below w.heap.size w w' := by
  go_enter Try.func3, Try.ntmps3
  go_wp2_with fail
  go_loopw [5, 6] (fun v5 v6 w' => ∃ (i M : Nat) (A : Option Addr) (c : Nat), v6 = .int .i64 i ∧ v5 = .slice A M c ∧ M = min i 8 ∧ i ≤ N ∧ Aside0 (FI w M A c w')) (fun _ v6 _ => N - (intOf v6).toNat)
  case atStart => exact ⟨0, 0, none, 0, rfl, rfl, rfl, Nat.zero_le _, ⟨⟨Nat.zero_le _, ⟨rfl, by decide, fun h => absurd h (by decide)⟩, Below.refl _ _⟩⟩⟩
  case round =>
    obtain ⟨i, M, A, c, rfl, rfl, hM, hi, HI⟩ := hrel
    obtain ⟨hc, hC, hB⟩ := HI.out
    have HC := Aside0.mk hC
    have HB := Aside0.mk hB
    have Hc := Aside0.mk hc
    have e1 : IntKind.i64.wrap (100 - (i : Int)) = 100 - (i : Int) := by rw [IntKind.wrap_i64]; omega
    by_cases hlt : i < N
    · by_cases h8 : i < 8
      · obtain rfl : i = M := by omega
        have HN := Aside0.mk (full_new i h8)
        clear hc hC hB HI hM
        go_wp2_with fail
        refine (look_known (tab i) A c i (100 - (i : Int)) 1 _ 0 wr HC.out Hc.out (tab_len i) (tab_v i) (eL_eq HN.out.1) rfl).mono ?_
        rintro e w1 ⟨A1, c1, rfl, hb1⟩
        have hb2 := below_alloc hb1 (.cells #[.int .i64 0, .slice A1 0 c1, .int .i64 0] 26)
        have HC2 := Aside0.mk (Kd.C_below HC.out hb2)
        have HB2 := Aside0.mk (below_then HB.out HB.out.size hb2)
        clear hb1 hb2
        have h80 : decide ((i : Int) < 8) = true := decide_eq_true (by omega)
        go_wp2_with fail
        refine (put_known (tab i) (tab (i + 1)) A c i (i + 1) (100 - (i : Int)) 1 0 i _ HC2.out Hc.out (tab_len i) (by omega) (tab_v i) (full_put i h8) (tab_len _)).mono ?_
        rintro e w2 ⟨A2, c2, rfl, hc2, hC2, hb2⟩
        have HH := Aside0.mk (show FI w (i + 1) A2 c2 w2 from ⟨hc2, hC2, below_then HB2.out HB2.out.size hb2⟩)
        clear hc2 hC2 hb2
        go_wp2_with fail
        go_roundw
        case rel => exact ⟨i + 1, i + 1, A2, c2, by go_num, rfl, by omega, by omega, HH⟩
        case measure => simp [intOf]; omega
      · obtain rfl : M = 8 := by omega
        have HN := Aside0.mk (full_bad i (by omega) (by omega))
        clear hc hC hB HI hM
        go_wp2_with fail
        refine (look_known (tab 8) A c 8 (100 - (i : Int)) 1 _ 2 wr HC.out Hc.out (tab_len 8) (tab_v 8) (eL_eq HN.out) rfl).mono ?_
        rintro e w1 ⟨A1, c1, rfl, hb1⟩
        have hb2 := below_alloc hb1 (.cells #[.int .i64 9, .slice A1 0 c1, .int .i64 0] 26)
        have HH := Aside0.mk (show FI w 8 A c _ from ⟨Hc.out, Kd.C_below HC.out hb2, below_then HB.out HB.out.size hb2⟩)
        clear hb1 hb2
        have h80 : decide ((i : Int) < 8) = false := decide_eq_false (by omega)
        have h81 : decide ((8 : Int) ≤ i) = true := decide_eq_true (by omega)
        go_wp2_with fail
        go_roundw
        case rel => exact ⟨i + 1, 8, A, c, by go_num, rfl, by omega, by omega, HH⟩
        case measure => simp [intOf]; omega
    · obtain rfl : i = N := by omega
      have hMle : M ≤ 8 := by omega
      have hMi : M ≤ i := by omega
      have e8 : (if (8 : Int) < (i : Int) then (8 : Int) else (i : Int)) = (M : Int) := by split <;> omega
      have HE8 := Aside0.mk e8
      have HM := Aside0.mk hM
      have HFI := HI
      clear hc hC hB HI hM HC HB Hc
      go_wp2_with fail
      go_loopw [9, 65] (fun _ v65 w' => ∃ j : Nat, v65 = .int .i64 j ∧ j ≤ M ∧ Aside0 (FI w M A c w')) (fun _ v65 _ => M - (intOf v65).toNat)
      case atStart => exact ⟨0, rfl, Nat.zero_le _, HFI⟩
      case round =>
        clear HFI
        obtain ⟨j, rfl, hj, HFI⟩ := hrel
        obtain ⟨hc, hC, hB⟩ := HFI.out
        by_cases hjM : j < M
        · rcases Nat.eq_zero_or_pos j with rfl | hj0
          · clear hc hC hB
            go_wp2_with fail
            go_region
            go_wp2
            go_roundw
            case rel => exact ⟨1, rfl, by omega, ⟨HFI.out.1, Kd.C_below HFI.out.2.1 (below_drew1 (Below.refl _ _)), below_drew1 HFI.out.2.2⟩⟩
            case measure => simp [intOf]; omega
          · obtain ⟨ad, A3, c3, e, h0, h1, h2, h3, h4, l3, g3⟩ := at_T31 hC (j : Int) (by omega) (by rw [tab_len]; omega)
            obtain ⟨ad', A3', c3', e', h0', h1', h2', h3', h4', l3', g3'⟩ := at_T31 hC ((j - 1 : Nat) : Int) (by omega) (by rw [tab_len]; omega)
            cases e
            cases e'
            rw [tab_rd M j hjM] at h0
            rw [tab_rd M (j - 1) (by omega)] at h0'
            simp only [Int.toNat_natCast] at h0 h0'
            have hab : decide ((100 - ((M - 1 - j : Nat) : Int)) ≤ (100 - ((M - 1 - (j - 1) : Nat) : Int))) = false := decide_eq_false (by omega)
            generalize (100 - ((M - 1 - j : Nat) : Int)) = b at h0 hab
            generalize (100 - ((M - 1 - (j - 1) : Nat) : Int)) = a at h0' hab
            have e2 : IntKind.i64.wrap ((j : Int) - 1) = ((j - 1 : Nat) : Int) := by rw [IntKind.wrap_i64]; omega
            have e3 : ((j - 1 : Nat) : Int) < (M : Int) := by omega
            have e4 : (0 : Int) < (j : Int) := by omega
            have e5 : decide ((0 : Int) < (j : Int)) = true := decide_eq_true e4
            clear l3 g3 h1 h2 h3 h4 l3' g3' h1' h2' h3' h4' hc hC hB
            go_wp2_with fail
            go_region
            go_wp2
            go_roundw
            case rel => exact ⟨j + 1, by go_num, by omega, ⟨HFI.out.1, Kd.C_below HFI.out.2.1 (below_drew1 (Below.refl _ _)), below_drew1 HFI.out.2.2⟩⟩
            case measure => simp [intOf]; omega
        · rcases Nat.eq_zero_or_pos i with rfl | hi0
          · have hBs := Aside0.mk hB
            clear hc hC hB HE8 e8 HFI
            go_wp2_with fail
            refine (awake10 _).mono ?_
            rintro e w1 ⟨rfl, hb1⟩
            have HB1 := Aside0.mk (below_then hBs.out hBs.out.size hb1)
            clear hb1
            go_wp2_with fail
            go_ret
            exact ⟨rfl, HB1.out⟩
          · have hM0 : 0 < M := by have := HM.out; omega
            obtain ⟨k, hk, hkM⟩ : ∃ k : Nat, Int.tmod (Go.bits .and .i64 which 255) (M : Int) = (k : Int) ∧ k < M := by
              have e : (255 : Int) = ((255 : Nat) : Int) := rfl
              have hp : 0 ≤ Go.bits .and .i64 which 255 := by
                simp only [Go.bits, e, BitVec.ofInt_natCast, BitVec.toNat_and]
                have h : (BitVec.ofInt IntKind.i64.bits which).toNat &&& (BitVec.ofNat IntKind.i64.bits 255).toNat < 2 ^ 8 := Nat.and_lt_two_pow _ (by decide)
                generalize (BitVec.ofInt IntKind.i64.bits which).toNat &&& (BitVec.ofNat IntKind.i64.bits 255).toNat = t at h ⊢
                rw [IntKind.wrap_i64]
                omega
              have h1 := Int.tmod_nonneg (M : Int) hp
              have h2 := Int.tmod_lt_of_pos (Go.bits .and .i64 which 255) (show (0 : Int) < (M : Int) from by omega)
              exact ⟨(Int.tmod (Go.bits .and .i64 which 255) (M : Int)).toNat, by omega, by omega⟩
            obtain ⟨f1, f2, f3, f4⟩ := full_end M (by omega) k hkM
            have F1 := Aside0.mk (eL_eq f1)
            have F2 := Aside0.mk f2
            have F3 := Aside0.mk (eL_eq f3)
            have F4 := Aside0.mk (eL_eq f4)
            have e9 : IntKind.i64.wrap (100 - (k : Int)) = 100 - (k : Int) := by rw [IntKind.wrap_i64]; omega
            have e10 : ¬ ((i : Int) = 0) := by omega
            have e11 : ¬ ((M : Int) = 0) := by omega
            have HC := Aside0.mk hC
            have HB := Aside0.mk hB
            have Hc := Aside0.mk hc
            clear f1 f2 f3 f4 hc hC hB HFI
            go_wp2_with fail
            refine (look_known (tab M) A c M (100 - (k : Int)) 2 _ 0 wr HC.out Hc.out (tab_len M) (tab_v M) F1.out rfl).mono ?_
            rintro e w1 ⟨A1, c1, rfl, hb1⟩
            have hb2 := below_alloc hb1 (.cells #[.int .i64 0, .slice A1 0 c1, .int .i64 0] 26)
            have HC2 := Aside0.mk (Kd.C_below HC.out hb2)
            have HB2 := Aside0.mk (below_then HB.out HB.out.size hb2)
            clear hb1 hb2
            go_wp2_with fail
            refine (put_known (tab M) ((tab M).set (fi (tab M) (100 - (k : Int))) ⟨100 - (k : Int), 2, ⟨0, [], 77⟩⟩) A c M M (100 - (k : Int)) 2 0 77 _ HC2.out Hc.out (tab_len M) (by omega) (tab_v M) (by rw [putP, F2.out, if_pos rfl]) (by rw [List.length_set, tab_len])).mono ?_
            rintro e w2 ⟨A2, c2, rfl, hc2, hC2, hb2⟩
            have hv2 : ∀ x ∈ (tab M).set (fi (tab M) (100 - (k : Int))) ⟨100 - (k : Int), 2, ⟨0, [], 77⟩⟩, x.f2.f1.length < 140737488355328 := fun x hx => by
              rcases List.mem_or_eq_of_mem_set hx with h | rfl
              · exact tab_v M x h
              · exact (show 0 < 140737488355328 from by decide)
            have Hc2 := Aside0.mk hc2
            have HD2 := Aside0.mk hC2
            have HC3 := Aside0.mk (Kd.C_below HC2.out hb2)
            have HB3 := Aside0.mk (below_then HB2.out HB2.out.size hb2)
            have HV2 := Aside0.mk hv2
            clear hc2 hC2 hb2 hv2
            go_wp2_with fail
            refine (look_known _ A2 c2 M (100 - (k : Int)) 2 _ 1 w2 HD2.out Hc2.out (by rw [List.length_set, tab_len]) HV2.out F4.out rfl).mono ?_
            rintro e w3 ⟨A3, c3, rfl, hb3⟩
            have hb4 := below_alloc hb3 (.cells #[.int .i64 0, .slice A3 0 c3, .int .i64 77] 26)
            have HC4 := Aside0.mk (Kd.C_below HC3.out hb4)
            have HB4 := Aside0.mk (below_then HB3.out HB3.out.size hb4)
            have HK := Aside0.mk (heap_alloc_self w3 (.cells #[.int .i64 0, .slice A3 0 c3, .int .i64 77] 26))
            clear hb3 hb4
            go_wp2_with fail
            generalize w3.alloc (.cells #[.int .i64 0, .slice A3 0 c3, .int .i64 77] 26) = W3 at HC4 HB4 HK ⊢
            refine (look_known (tab M) A c M (100 - (k : Int)) 1 _ 1 W3 HC4.out Hc.out (tab_len M) (tab_v M) F3.out rfl).mono ?_
            rintro e w4 ⟨A4, c4, rfl, hb4⟩
            have hb5 := below_alloc hb4 (.cells #[.int .i64 0, .slice A4 0 c4, .int .i64 k] 26)
            obtain ⟨x0, x1, x2, x3⟩ := blk_cells3 (blk3_keep HK.out hb5)
            have HB5 := Aside0.mk (below_then HB4.out HB4.out.size hb5)
            have e12 : IntKind.i64.wrap (100 - (100 - (k : Int))) = (k : Int) := by rw [IntKind.wrap_i64]; omega
            clear hb4 hb5 x0 x1 x3
            go_wp2_with fail
            refine (awake10 _).mono ?_
            rintro e w5 ⟨rfl, hb5⟩
            have HB6 := Aside0.mk (below_then HB5.out HB5.out.size hb5)
            clear hb5
            go_wp2_with fail
            go_ret
            exact ⟨rfl, HB6.out⟩
theorem full_calls (n which : Int) (w : World) : Calls Try.prog 3 #[.int .i64 n, .int .i64 which] w fun e w' => e = .returned (.bool true) ∧ Below w.heap.size w w' := by
  have e : (15 : Int) = ((15 : Nat) : Int) := rfl
  obtain ⟨N, hN, hle⟩ : ∃ N : Nat, Go.bits .and .i64 n 15 = (N : Int) ∧ N ≤ 15 := by
    simp only [Go.bits, e, BitVec.ofInt_natCast, BitVec.toNat_and]
    have h : (BitVec.ofInt IntKind.i64.bits n).toNat &&& (BitVec.ofNat IntKind.i64.bits 15).toNat < 2 ^ 4 := Nat.and_lt_two_pow _ (by decide)
    generalize (BitVec.ofInt IntKind.i64.bits n).toNat &&& (BitVec.ofNat IntKind.i64.bits 15).toNat = t at h ⊢
    exact ⟨t, by rw [IntKind.wrap_i64]; omega, by omega⟩
  exact full_n n which N w hN hle
end Go.Proofs.Ytjpgnipjgonplaa.Ss
namespace Go.Proofs.Ytjpgnipjgonplaa.sessFull
open Go.ChangeShapes Go.WideShapes Go.ChangeAt Go.RowKit
open Go.ChangeMaps (open_string shut_string)
theorem own : ownKnob Try.prog.godebug = none := by kernel_rfl
set_option maxRecDepth 100000 in
theorem lifted (os : Os) (started : os.Started) (H : Type) (enc : TypeId × Value → H) :
    ReturnsInHanded {} Try.checked os 3 .any (Rows.sessFullSpec.pre6 enc Try.prog Try.f3 Rows.sessFullRow.domain false) (Rows.sessFullSpec.post enc Try.prog Try.f3 false true false false) := by
  refine returnsInHanded_of_change_sized (C := Try.checked) own started (by kernel_rfl) Try.func3
    (ChangeSpec.witness6 (enc := enc) (C := Try.checked) false ⟨#[], #[.int .i64 0, .int .i64 0], []⟩ 8 (by kernel_rfl) (by kernel_rfl) (by kernel_rfl) (by kernel_rfl)) ?_
  intro W base args ds gs before hval0 hW hcnd hsz0 _
  have hsz : (DataW.weightsEach Try.prog (Try.f3.params.toList ++ Rows.sessFullSpec.plain.varTypes Try.prog) (ds ++ gs)).all (· ≤ reachBytes) = true := hsz0
  have hval : ∀ (j : Nat) t v, Try.f3.params[j]? = some t → args[j]? = some v → Value.okWide Try.prog W .any base t v := hval0
  have hW' := hW
  obtain ⟨p, q, hA0, hV, rfl, hfz, hnd⟩ := hW
  have hA : DataW.TrodAll enc Try.prog W 0 (fun _ => true) true Try.f3.params.toList args.toList ds p := hA0
  rw [Try.params3] at hA hval hsz
  obtain ⟨v0, vs0, d0, ds0, p0, q0, hargs, rfl, rfl, h0, r0⟩ := trodAll_cons hA
  obtain ⟨v1, vs1, d1, ds1, p1, q1, rfl, rfl, rfl, h1, r1⟩ := trodAll_cons r0
  obtain ⟨rfl, rfl, rfl⟩ := trodAll_nil r1
  obtain rfl : args = #[v0, v1] := by cases args; simp_all
  obtain ⟨rfl, rfl⟩ := trodVars_none hV
  obtain ⟨a0, rfl, rfl, rfl, w0⟩ := open_int Try.underlying3 (hval 0 3 v0 rfl rfl) h0
  obtain ⟨a1, rfl, rfl, rfl, w1⟩ := open_int Try.underlying3 (hval 1 3 v1 rfl rfl) h1
  clear hA0 hval0 hsz0 hsz
  refine (Ss.full_calls a0 a1 W).mono fun e W' ⟨he, bel⟩ => ?_
  subst he
  exact ⟨_, rfl, _, _, _, [], _, [], hW', trodAll_mk1 (shut_bool Try.underlying4 _), (trodAll_cons_mk (shut_int Try.underlying3 w0) (trodAll_cons_mk (shut_int Try.underlying3 w1) trodAll_mk0)), rfl, bel.frame _, fun h => by cases h⟩
theorem over : Rows.sessFullRow.holds Try.pinned (OpenSpec.ofChange Rows.sessFullSpec) :=
  OpenClaim.holds_of_wide 3 Try.f3 rfl rfl rfl rfl rfl rfl rfl ⟨rfl, rfl, rfl, rfl, rfl⟩ rfl rfl rfl rfl rfl (by kernel_rfl) Try.func3 (by kernel_rfl)
    (of_decide_eq_true (by kernel_rfl)) (by unfold Func.isWrapper; first | (rw [if_pos (by decide +kernel)]; kernel_rfl) | (rw [if_neg (by decide +kernel)]; exact ⟨rfl, rfl⟩))
    (fun os started H enc _ => lifted os started H enc)
theorem proved : Rows.SessFullSaid := over
end Go.Proofs.Ytjpgnipjgonplaa.sessFull
namespace Go.Proofs.Ytjpgnipjgonplaa
/-- The row, under a short name, for the claim. -/
theorem sessFull_holds : Rows.SessFullSaid := sessFull.proved
end Go.Proofs.Ytjpgnipjgonplaa
