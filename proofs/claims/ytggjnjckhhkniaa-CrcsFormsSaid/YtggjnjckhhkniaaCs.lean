/- The contracts that the laws on sums lean on: Next, Sum, the document's two, and 'awake', which answers true. Under no conditions. -/
import Derived.Test.YtggjnjckhhkniaaProg
import Derived.Below
import Derived.Deep.Draws
import Derived.Deep.AppendLies
import Derived.Maps.AppendAt
import Derived.OwnWalk
import Derived.Laws.BytesArg
import Derived.Laws.MakeOwn
import Derived.Laws.OwnMore
import Derived.Deep.OwnRows
import Derived.Tactics
import Derived.Lib.ConvBytes
import Derived.Laws.Slices
import Derived.WalkKit
import Derived.KernelRfl
import Derived.RowKit3
import Derived.Deep.LoopGhost
import Derived.Deep.QuietTactic
import Derived.BigQuiet
import Derived.WideLaws
import Derived.Deep.DeepCutAuto
import Derived.Deep.CutBlock
import Derived.Deep.RegionHeld3
import Derived.Laws.Rows
import Derived.Lib.AppendStr
import Derived.ArgAppend
import Derived.Laws.IdiomCopy
import Derived.OrdersHeld
import Derived.Laws.BitsLemmas
import Derived.RowKit
import Derived.Test.YtggjnjckhhkniaaWWords
import Derived.Test.YtggjnjckhhkniaaWLast
import Derived.Test.YtggjnjckhhkniaaWTab
import Derived.Test.YtggjnjckhhkniaaWFour
import Derived.Test.YtggjnjckhhkniaaWQPut
import Derived.Test.YtggjnjckhhkniaaWApart
import Derived.Test.YtggjnjckhhkniaaWArr
import Derived.Test.YtggjnjckhhkniaaWZeros
import Derived.Test.YtggjnjckhhkniaaWFoot
import Derived.Test.YtggjnjckhhkniaaWKept
import Derived.Test.YtggjnjckhhkniaaWShare
import Derived.Test.YtggjnjckhhkniaaWN
import Derived.Test.YtggjnjckhhkniaaWFootNe
import Derived.Test.YtggjnjckhhkniaaWAt
import Derived.Test.YtggjnjckhhkniaaWEqStruct
import Derived.Test.YtggjnjckhhkniaaWRepsOne
import Derived.Test.YtggjnjckhhkniaaWInv
import Derived.Test.YtggjnjckhhkniaaWInvWords
import Derived.Test.YtggjnjckhhkniaaWGuard
import Derived.Test.YtggjnjckhhkniaaWNEv
import Derived.Test.YtggjnjckhhkniaaWMore
import Derived.Lib.SlBytesConst
import Derived.Test.YtggjnjckhhkniaaCrc
namespace Go.Proofs.Ytggjnjckhhkniaa.Cs
open Go.RowKit Go.Proofs.YtggjnjckhhkniaaW.PrintWords Go.Proofs.YtggjnjckhhkniaaW.PrintLast Go.Proofs.YtggjnjckhhkniaaW.PrintMore
attribute [local go_sem] max2_int min2_int max_two min_two max_three min_three max_four min_four
set_option linter.unusedVariables false
set_option linter.unusedSimpArgs false




def errW : Option Int → Value
  | none => .nilIface
  | some c => .iface 0 (.int .i64 c)
theorem errW_none : errW none = .nilIface := rfl
theorem errW_some (c : Int) : errW (some c) = .iface 0 (.int .i64 c) := rfl

theorem info5 : (Try.prog.info? 5).map (fun i => (i.zero, i.size, i.bytes)) = some (some (.int .u8 0), 1, 1) := by kernel_rfl
-- the values' own types

/-! ### crcs_Next: function 11 -/
def crcs_Next.l0 : Nat → Int → Int → Option (Int)
  | 0, _, _ => none
  | k + 1, x0, x10 => if x10 < 8 then (if (Go.bits .and .u32 x0 1) = 1 then (crcs_Next.l0 k (Go.bits .xor .u32 (x0 / 2) 3988292384) (wrap64 (x10 + 1))) else (crcs_Next.l0 k (x0 / 2) (wrap64 (x10 + 1)))) else (some x0)
def crcs_Next.f (k : Nat) (a0 : Int) (a1 : Int) : Option (Int) := crcs_Next.l0 k (Go.bits .xor .u32 a0 ((a1) % 4294967296)) 0
theorem crcs_Next.mono_l : ∀ k, (∀ y0 y1, LeO (crcs_Next.l0 k y0 y1) (crcs_Next.l0 (k + 1) y0 y1))
  | 0 => fun _ _ r h => by simp [crcs_Next.l0] at h
  | k + 1 => by
    have ih0 := crcs_Next.mono_l k
    · intro y0 y1
      unfold crcs_Next.l0
      repeat' first
      | (with_reducible exact ih0 _ _)
      | (with_reducible exact LeO.refl _)
      | (with_reducible exact LeO.none _)
      | (with_reducible refine LeO.ite ?_ ?_)
      | (with_reducible refine LeO.bind ?_ (fun _ => ?_))
      | exact ih0 _ _
      | exact LeO.none _
      | refine LeO.ite ?_ ?_
      | refine LeO.bind ?_ (fun _ => ?_)
theorem crcs_Next.mono : ∀ a0 a1 k, LeO (crcs_Next.f k a0 a1) (crcs_Next.f (k + 1) a0 a1) := by
  intro a0 a1 k
  have ih0 := crcs_Next.mono_l k
  unfold crcs_Next.f
  repeat' first
      | (with_reducible exact ih0 _ _)
      | (with_reducible exact LeO.refl _)
      | (with_reducible exact LeO.none _)
      | (with_reducible refine LeO.ite ?_ ?_)
      | (with_reducible refine LeO.bind ?_ (fun _ => ?_))
      | exact ih0 _ _
      | exact LeO.none _
      | refine LeO.ite ?_ ?_
      | refine LeO.bind ?_ (fun _ => ?_)
set_option maxHeartbeats 8000000 in
set_option maxRecDepth 100000 in
theorem crcs_Next.calls (k : Nat) (a0 : Int) (a1 : Int) (r : Int) (w : World) (h : crcs_Next.f k a0 a1 = some r) :
    Calls Try.prog 11 #[.int .u32 a0, .int .u8 a1] w fun e w' => e = .returned (.int .u32 r) ∧ Drawn0 w w' := by
  have H : (crcs_Next.l0 k (Go.bits .xor .u32 a0 ((a1) % 4294967296)) 0) = some r := h
  clear h
  have H' := Aside0.mk H
  clear H
  go_enter Try.func11, Try.ntmps11
  go_wp2
  go_loopg [0, 10] k (fun kq v0 v10 w' => ∃ (x0_1 : Int) (x10_1 : Int), v0 = .int .u32 x0_1 ∧ v10 = .int .i64 x10_1 ∧ Aside0 (crcs_Next.l0 kq x0_1 x10_1 = some r) ∧ Aside0 (kq ≤ k) ∧ Drawn0 w w')
  case atStart => exact ⟨(Go.bits .xor .u32 a0 ((a1) % 4294967296)), (0), (by first | rfl | (simp; done) | (simp [*]; done)), (by first | rfl | (simp; done) | (simp [*]; done)), H', ⟨Nat.le_refl _⟩, by repeat (first | exact Drawn0.refl _ | apply Drawn0.step)⟩
  case round =>
    clear H'
    try clear c1
    try clear p2
    obtain ⟨x0_1, x10_1, rfl, rfl, HA, HK1, ⟨m1, rfl⟩⟩ := hrel
    cases gk with
    | zero => exact absurd HA.out (by simp [crcs_Next.l0])
    | succ k1 =>
      have H := HA.out
      clear HA
      simp only [crcs_Next.l0] at H
      by_cases c3 : x10_1 < 8
      · rw [if_pos c3] at H
        have c3b0 : decide (x10_1 < 8) = true := decide_eq_true c3
        clear c3
        by_cases c4 : (Go.bits .and .u32 x0_1 1) = 1
        · rw [if_pos c4] at H
          have c4b0 : ((Go.bits .and .u32 x0_1 1) == 1) = true := beq_iff_eq.mpr c4
          have c4b1 : ((Go.bits .and .u32 x0_1 1) != 1) = false := bne_eq_false_iff_eq.mpr c4
          clear c4
          have H' := Aside0.mk H
          clear H
          go_wp2
          go_roundg k1
          case measure => have := HK1.out; omega
          case rel => exact ⟨(Go.bits .xor .u32 (x0_1 / 2) 3988292384), (wrap64 (x10_1 + 1)), (by first | rfl | (simp; done) | (simp [*]; done)), (by first | rfl | (simp; done) | (simp [*]; done)), H', ⟨by have := HK1.out; omega⟩, by repeat (first | exact Drawn0.refl _ | apply Drawn0.step)⟩
        · rw [if_neg c4] at H
          have c4b0 : ((Go.bits .and .u32 x0_1 1) == 1) = false := beq_eq_false_iff_ne.mpr c4
          have c4b1 : ((Go.bits .and .u32 x0_1 1) != 1) = true := bne_iff_ne.mpr c4
          have H' := Aside0.mk H
          clear H
          go_wp2
          go_roundg k1
          case measure => have := HK1.out; omega
          case rel => exact ⟨(x0_1 / 2), (wrap64 (x10_1 + 1)), (by first | rfl | (simp; done) | (simp [*]; done)), (by first | rfl | (simp; done) | (simp [*]; done)), H', ⟨by have := HK1.out; omega⟩, by repeat (first | exact Drawn0.refl _ | apply Drawn0.step)⟩
      · rw [if_neg c3] at H
        have c3b0 : decide (x10_1 < 8) = false := decide_eq_false c3
        clear c3
        obtain rfl := Option.some.inj H
        go_wp2
        go_ret
        exact ⟨by first | rfl | (simp; done) | (simp [*]; done), by repeat (first | exact Drawn0.refl _ | apply Drawn0.step)⟩

/-! ### crcs_Sum: function 8 -/
def crcs_Sum.l0 : Nat → Int → List Int → Int → Int → Option (Int)
  | 0, _, _, _, _ => none
  | k + 1, x3, x6, x7, x8 => if x8 < x7 then (if 0 ≤ x8 then (if x8 < (x6.length : Int) then ((crcs_Next.f k x3 (rd x6 x8)).bind fun t102 => (crcs_Sum.l0 k t102 x6 x7 (wrap64 (x8 + 1)))) else (none)) else (none)) else (some (Go.bits .xor .u32 x3 4294967295))
def crcs_Sum.f (k : Nat) (l0 : List Int) : Option (Int) := crcs_Sum.l0 k 4294967295 l0 (l0.length : Int) 0
theorem crcs_Sum.mono_l : ∀ k, (∀ y0 y1 y2 y3, LeO (crcs_Sum.l0 k y0 y1 y2 y3) (crcs_Sum.l0 (k + 1) y0 y1 y2 y3))
  | 0 => fun _ _ _ _ r h => by simp [crcs_Sum.l0] at h
  | k + 1 => by
    have ih0 := crcs_Sum.mono_l k
    · intro y0 y1 y2 y3
      unfold crcs_Sum.l0
      repeat' first
      | (with_reducible exact ih0 _ _ _ _)
      | (with_reducible exact crcs_Next.mono _ _ _)
      | (with_reducible exact LeO.refl _)
      | (with_reducible exact LeO.none _)
      | (with_reducible refine LeO.ite ?_ ?_)
      | (with_reducible refine LeO.bind ?_ (fun _ => ?_))
      | exact ih0 _ _ _ _
      | exact crcs_Next.mono _ _ _
      | exact LeO.none _
      | refine LeO.ite ?_ ?_
      | refine LeO.bind ?_ (fun _ => ?_)
theorem crcs_Sum.mono : ∀ a0 k, LeO (crcs_Sum.f k a0) (crcs_Sum.f (k + 1) a0) := by
  intro a0 k
  have ih0 := crcs_Sum.mono_l k
  unfold crcs_Sum.f
  repeat' first
      | (with_reducible exact ih0 _ _ _ _)
      | (with_reducible exact crcs_Next.mono _ _ _)
      | (with_reducible exact LeO.refl _)
      | (with_reducible exact LeO.none _)
      | (with_reducible refine LeO.ite ?_ ?_)
      | (with_reducible refine LeO.bind ?_ (fun _ => ?_))
      | exact ih0 _ _ _ _
      | exact crcs_Next.mono _ _ _
      | exact LeO.none _
      | refine LeO.ite ?_ ?_
      | refine LeO.bind ?_ (fun _ => ?_)
set_option maxHeartbeats 8000000 in
set_option maxRecDepth 100000 in
theorem crcs_Sum.calls (k : Nat) (A0 : Option Addr) (c0 : Nat) (l0 : List Int) (r : Int) (w : World) (hr0 : Kd.C (Kd.int .u8) w A0 l0.length l0) (hc0 : l0.length ≤ c0) (h : crcs_Sum.f k l0 = some r) :
    Calls Try.prog 8 #[.slice A0 l0.length c0] w fun e w' => e = .returned (.int .u32 r) ∧ Drawn0 w w' := by
  have HR0 := Aside0.mk hr0
  have HC0 := Aside0.mk hc0
  clear hr0 hc0
  have H : (crcs_Sum.l0 k 4294967295 l0 (l0.length : Int) 0) = some r := h
  clear h
  have H' := Aside0.mk H
  clear H
  go_enter Try.func8, Try.ntmps8
  go_wp2
  go_loopg [3, 8] k (fun kq v3 v8 w' => ∃ (x3_1 : Int) (x8_1 : Int), v3 = .int .u32 x3_1 ∧ v8 = .int .i64 x8_1 ∧ Aside0 (crcs_Sum.l0 kq x3_1 l0 (l0.length : Int) x8_1 = some r) ∧ Aside0 (kq ≤ k) ∧ Drawn0 w w')
  case atStart => exact ⟨(4294967295), (0), (by first | rfl | (simp; done) | (simp [*]; done)), (by first | rfl | (simp; done) | (simp [*]; done)), H', ⟨Nat.le_refl _⟩, by repeat (first | exact Drawn0.refl _ | apply Drawn0.step)⟩
  case round =>
    clear H'
    obtain ⟨x3_1, x8_1, rfl, rfl, HA, HK1, ⟨m1, rfl⟩⟩ := hrel
    cases gk with
    | zero => exact absurd HA.out (by simp [crcs_Sum.l0])
    | succ k1 =>
      have H := HA.out
      clear HA
      simp only [crcs_Sum.l0] at H
      by_cases c2 : x8_1 < (l0.length : Int)
      · rw [if_pos c2] at H
        have c2b0 : decide (x8_1 < (l0.length : Int)) = true := decide_eq_true c2
        clear c2
        by_cases c3 : 0 ≤ x8_1
        · rw [if_pos c3] at H
          have c3b0 : decide (0 ≤ x8_1) = true := decide_eq_true c3
          clear c3
          by_cases c4 : x8_1 < (l0.length : Int)
          · rw [if_pos c4] at H
            have c4b0 : decide (x8_1 < (l0.length : Int)) = true := decide_eq_true c4
            clear c4
            replace H := Option.bind_eq_some_iff.mp H
            obtain ⟨t102, A50, H⟩ := H
            replace H : (crcs_Sum.l0 k1 t102 l0 (l0.length : Int) (wrap64 (x8_1 + 1))) = some r := H
            have A5 := Aside0.mk A50
            clear A50
            have H' := Aside0.mk H
            clear H
            have p101 : 0 ≤ (x8_1 : Int) := of_decide_eq_true (by first | (with_reducible assumption) | assumption)
            have q101 : x8_1 < (l0.length : Int) := of_decide_eq_true (by first | (with_reducible assumption) | assumption)
            obtain ⟨ad101, e101, hx101_0⟩ := Kd.at_int HR0.out x8_1 p101 q101
            cases e101
            replace p101 := eq_true p101
            replace q101 := eq_true q101
            go_wp2_with (first | ((with_reducible refine gate_callee (f := 11) rfl ?_); refine goesL_ (some 14) rfl rfl Try.func11 (by kernel_rfl) rfl #[.int .u32 x3_1, .int .u8 (rd l0 x8_1)] rfl (by (try simp only [List.map_toArray, List.map_cons, List.map_nil]); first | done | rfl | (simp only [List.length_drop, List.length_take]; rfl)) ?_; (with_reducible refine (crcs_Next.calls k1 x3_1 (rd l0 x8_1) t102 _ A5.out).mono ?_); rintro e w' ⟨rfl, ⟨nd, rfl⟩⟩; refine ⟨_, rfl, ?_⟩))
            go_roundg k1
            case measure => have := HK1.out; omega
            case rel => exact ⟨(t102), (wrap64 (x8_1 + 1)), (by first | rfl | (simp; done) | (simp [*]; done)), (by first | rfl | (simp; done) | (simp [*]; done)), H', ⟨by have := HK1.out; omega⟩, by repeat (first | exact Drawn0.refl _ | apply Drawn0.step)⟩
          · rw [if_neg c4] at H
            exact absurd H (by simp)
        · rw [if_neg c3] at H
          exact absurd H (by simp)
      · rw [if_neg c2] at H
        have c2b0 : decide (x8_1 < (l0.length : Int)) = false := decide_eq_false c2
        clear c2
        obtain rfl := Option.some.inj H
        go_wp2
        go_ret
        exact ⟨by first | rfl | (simp; done) | (simp [*]; done), by repeat (first | exact Drawn0.refl _ | apply Drawn0.step)⟩

/-! ### hocketlaw1_awake: function 9 -/
def hocketlaw1_awake.f (k : Nat)  : Option (Bool) := (crcs_Sum.f k (([49, 50, 51, 52, 53, 54, 55, 56, 57] : List Int))).bind fun t106 => (if t106 = 3421780262 then ((crcs_Sum.f k ([] : List Int)).bind fun t107 => (if t107 = 0 then ((crcs_Next.f k 4294967295 97).bind fun t108 => ((crcs_Next.f k 4294967295 98).bind fun t109 => (some (t108 != t109)))) else (some false))) else (some false))
theorem hocketlaw1_awake.mono : ∀ k, LeO (hocketlaw1_awake.f k ) (hocketlaw1_awake.f (k + 1) ) := by
  intro  k
  unfold hocketlaw1_awake.f
  repeat' first
      | (with_reducible exact crcs_Next.mono _ _ _)
      | (with_reducible exact crcs_Sum.mono _ _)
      | (with_reducible exact LeO.refl _)
      | (with_reducible exact LeO.none _)
      | (with_reducible refine LeO.ite ?_ ?_)
      | (with_reducible refine LeO.bind ?_ (fun _ => ?_))
      | exact crcs_Next.mono _ _ _
      | exact crcs_Sum.mono _ _
      | exact LeO.none _
      | refine LeO.ite ?_ ?_
      | refine LeO.bind ?_ (fun _ => ?_)

theorem xu32 (a b : Nat) (ha : a < 2 ^ 32) (hb : b < 2 ^ 32) : Go.bits .xor .u32 (a : Int) (b : Int) = ((a ^^^ b : Nat) : Int) := by
  have h := Nat.xor_lt_two_pow ha hb
  simp only [Go.bits, BitVec.ofInt_natCast, BitVec.toNat_xor, BitVec.toNat_ofNat]
  rw [show IntKind.u32.bits = 32 from rfl, Nat.mod_eq_of_lt ha, Nat.mod_eq_of_lt hb, IntKind.wrap_u32]
  omega
theorem xu8 (a b : Nat) (ha : a < 2 ^ 8) (hb : b < 2 ^ 8) : Go.bits .xor .u8 (a : Int) (b : Int) = ((a ^^^ b : Nat) : Int) := by
  have h := Nat.xor_lt_two_pow ha hb
  simp only [Go.bits, BitVec.ofInt_natCast, BitVec.toNat_xor, BitVec.toNat_ofNat]
  rw [show IntKind.u8.bits = 8 from rfl, Nat.mod_eq_of_lt ha, Nat.mod_eq_of_lt hb, IntKind.wrap_u8]
  omega
theorem au32 (a : Nat) (ha : a < 2 ^ 32) : Go.bits .and .u32 (a : Int) 1 = ((a % 2 : Nat) : Int) := by
  have e : (1 : Int) = ((1 : Nat) : Int) := rfl
  simp only [Go.bits, e, BitVec.ofInt_natCast, BitVec.toNat_and, BitVec.toNat_ofNat]
  rw [show IntKind.u32.bits = 32 from rfl, Nat.mod_eq_of_lt ha, show 1 % 2 ^ 32 = 1 from by decide, Nat.and_one_is_mod, IntKind.wrap_u32]
  omega
theorem wrap_up (i : Nat) (h : i < 9223372036854775807) : wrap64 ((i : Int) + 1) = ((i + 1 : Nat) : Int) := by
  unfold wrap64
  omega
def Bytes (l : List Int) : Prop := ∀ x ∈ l, (Lit.int .u8 x).wf = true
theorem wf_u8 {x : Int} (h : (Lit.int .u8 x).wf = true) : 0 ≤ x ∧ x < 256 := by
  simp [Lit.wf, IntKind.min, IntKind.max, IntKind.signed, IntKind.bits] at h
  omega
theorem u8_wf {x : Int} (h0 : 0 ≤ x) (h1 : x < 256) : (Lit.int .u8 x).wf = true := by
  simp [Lit.wf, IntKind.min, IntKind.max, IntKind.signed, IntKind.bits]
  omega
theorem rd_nat (l : List Int) (h : Bytes l) (i : Nat) (hi : i < l.length) : ∃ b : Nat, b < 256 ∧ rd l (i : Int) = (b : Int) ∧ (l.map Int.toNat).drop i = b :: (l.map Int.toNat).drop (i + 1) := by
  have hx := wf_u8 (h l[i] (List.getElem_mem hi))
  refine ⟨l[i].toNat, by omega, ?_, ?_⟩
  · simp [rd, List.getD_eq_getElem?_getD, List.getElem?_eq_getElem hi]
    omega
  · rw [List.drop_eq_getElem_cons (by simpa using hi)]
    simp
theorem nat_bytes (l : List Int) (h : Bytes l) : ∀ x ∈ l.map Int.toNat, x < 2 ^ 8 := by
  intro x hx
  obtain ⟨y, hy, rfl⟩ := List.mem_map.1 hx
  have := wf_u8 (h y hy)
  omega

theorem crcs_next_l (j : Nat) : ∀ (k c : Nat), c < 2 ^ 32 → j ≤ 8 → j < k → crcs_Next.l0 k (c : Int) ((8 - j : Nat) : Int) = some ((Crc.sts j c : Nat) : Int) := by
  induction j with
  | zero =>
    intro k c hc _ hk
    obtain ⟨k, rfl⟩ : ∃ m, k = m + 1 := ⟨k - 1, by omega⟩
    simp only [crcs_Next.l0]
    rw [if_neg (by omega)]
    rfl
  | succ j ih =>
    intro k c hc hj hk
    obtain ⟨k, rfl⟩ : ∃ m, k = m + 1 := ⟨k - 1, by omega⟩
    simp only [crcs_Next.l0]
    rw [if_pos (by omega), au32 c hc, wrap_up _ (by omega), show 8 - (j + 1) + 1 = 8 - j from by omega]
    have hst := Crc.st_lt hc
    by_cases h : c % 2 = 1
    · rw [if_pos (by omega)]
      have e : Go.bits .xor .u32 ((c : Int) / 2) 3988292384 = ((Crc.st c : Nat) : Int) := by
        have := xu32 (c / 2) Crc.P (by omega) (by decide)
        unfold Crc.st
        rw [if_pos h, ← this]
        rfl
      rw [e, ih k _ hst (by omega) (by omega)]
      rfl
    · rw [if_neg (by omega)]
      have e : (c : Int) / 2 = ((Crc.st c : Nat) : Int) := by
        unfold Crc.st
        rw [if_neg h]
        rfl
      rw [e, ih k _ hst (by omega) (by omega)]
      rfl
theorem crcs_next_f (k c b : Nat) (hc : c < 2 ^ 32) (hb : b < 256) (hk : 8 < k) : crcs_Next.f k (c : Int) (b : Int) = some ((Crc.nx c b : Nat) : Int) := by
  unfold crcs_Next.f
  rw [show ((b : Int) % 4294967296) = (b : Int) from by omega, xu32 c b hc (by omega)]
  have := crcs_next_l 8 k (c ^^^ b) (Nat.xor_lt_two_pow hc (by omega)) (by omega) hk
  exact this

theorem crcs_sum_l (l : List Int) (h : Bytes l) (hl : l.length < 9223372036854775807) (j : Nat) : ∀ (k c : Nat), c < 2 ^ 32 → j ≤ l.length → j + 8 < k →
    crcs_Sum.l0 k (c : Int) l (l.length : Int) ((l.length - j : Nat) : Int) = some ((Crc.run c ((l.map Int.toNat).drop (l.length - j)) ^^^ 4294967295 : Nat) : Int) := by
  induction j with
  | zero =>
    intro k c hc _ hk
    obtain ⟨k, rfl⟩ : ∃ m, k = m + 1 := ⟨k - 1, by omega⟩
    simp only [crcs_Sum.l0]
    rw [if_neg (by omega), List.drop_of_length_le (by simp)]
    have := xu32 c 4294967295 hc (by decide)
    rw [show ((4294967295 : Nat) : Int) = (4294967295 : Int) from rfl] at this
    rw [this]
    rfl
  | succ j ih =>
    intro k c hc hj hk
    obtain ⟨k, rfl⟩ : ∃ m, k = m + 1 := ⟨k - 1, by omega⟩
    simp only [crcs_Sum.l0]
    rw [if_pos (by omega), if_pos (by omega), if_pos (by omega)]
    obtain ⟨b, hb, e1, e2⟩ := rd_nat l h (l.length - (j + 1)) (by omega)
    rw [e1, crcs_next_f k c b hc hb (by omega)]
    simp only [Option.bind_some]
    rw [wrap_up _ (by omega), show l.length - (j + 1) + 1 = l.length - j from by omega, ih k _ (Crc.nx_lt hc hb) (by omega) (by omega)]
    rw [e2, show l.length - (j + 1) + 1 = l.length - j from by omega]
    rfl
theorem crcs_sum_f (l : List Int) (h : Bytes l) (hl : l.length < 9223372036854775807) (k : Nat) (hk : l.length + 8 < k) : crcs_Sum.f k l = some ((Crc.sm (l.map Int.toNat) : Nat) : Int) := by
  unfold crcs_Sum.f
  have := crcs_sum_l l h hl l.length k 4294967295 (by decide) (Nat.le_refl _) hk
  rw [Nat.sub_self] at this
  exact this
theorem awake_f (k : Nat) (hk : 20 < k) : hocketlaw1_awake.f k = some true := by
  unfold hocketlaw1_awake.f
  rw [crcs_sum_f _ (by intro x hx; simp at hx; rcases hx with rfl | rfl | rfl | rfl | rfl | rfl | rfl | rfl | rfl <;> decide) (by decide) k (by simp; omega)]
  rw [show Crc.sm (List.map Int.toNat [49, 50, 51, 52, 53, 54, 55, 56, 57]) = 3421780262 from by decide +kernel]
  simp only [Option.bind_some]
  rw [if_pos (by decide), crcs_sum_f [] (by intro x hx; simp at hx) (by decide) k (by simp; omega)]
  rw [show Crc.sm (List.map Int.toNat []) = 0 from by decide +kernel]
  simp only [Option.bind_some]
  have e1 := crcs_next_f k 4294967295 97 (by decide) (by decide) (by omega)
  have e2 := crcs_next_f k 4294967295 98 (by decide) (by decide) (by omega)
  rw [if_pos (by decide)]
  rw [show (4294967295 : Int) = ((4294967295 : Nat) : Int) from rfl, show (97 : Int) = ((97 : Nat) : Int) from rfl, show (98 : Int) = ((98 : Nat) : Int) from rfl, e1, e2]
  simp only [Option.bind_some]
  decide

/-- A literal's row of bytes, marked, reads as its numbers. -/
theorem lit_reads (w : World) (k : IntKind) (e : TypeId) (fr : Nat × Nat) (xs : List Int) (hn : xs.length ≤ 9223372036854775807) (C : Array Value) (hC : C = (nums k xs).toArray) :
    Kd.C (Kd.int k) (w.alloc (.cells C e fr)) (some ⟨w.heap.size, 0, none⟩) xs.length xs := by
  subst hC
  refine Kd.C_of_reads (d := (0 : Int)) (h1 := fun _ => rfl) ⟨rfl, hn, fun _ => ⟨_, rfl, fun j hj => ?_⟩⟩
  rw [add_plain]
  have hb : (w.alloc (.cells (nums k xs).toArray e fr)).heap[w.heap.size]? = some (.cells (nums k xs).toArray e fr) := by
    show (w.heap.push _)[w.heap.size]? = _
    simp
  unfold World.cell?
  simp only [hb]
  simp [nums, List.getElem?_map, List.getElem?_eq_getElem hj, List.getD_eq_getElem?_getD]
theorem awake_more (k d : Nat) (r : Bool) (h : hocketlaw1_awake.f k = some r) : hocketlaw1_awake.f (k + d) = some r := by
  induction d with
  | zero => exact h
  | succ d ih => exact hocketlaw1_awake.mono _ _ ih
set_option maxHeartbeats 8000000 in
set_option maxRecDepth 100000 in
theorem awake_calls (w : World) : Calls Try.prog 9 #[] w fun e w' => e = .returned (.bool true) ∧ Below w.heap.size w w' := by
  have A1 := Aside0.mk (crcs_sum_f [49, 50, 51, 52, 53, 54, 55, 56, 57] (by intro x hx; simp at hx; rcases hx with rfl | rfl | rfl | rfl | rfl | rfl | rfl | rfl | rfl <;> decide) (by decide) 40 (by decide))
  have A2 := Aside0.mk (crcs_sum_f [] (by intro x hx; simp at hx) (by decide) 40 (by decide))
  have A3 := Aside0.mk (crcs_next_f 40 4294967295 97 (by decide) (by decide) (by decide))
  have A4 := Aside0.mk (crcs_next_f 40 4294967295 98 (by decide) (by decide) (by decide))
  rw [show Crc.sm (List.map Int.toNat [49, 50, 51, 52, 53, 54, 55, 56, 57]) = 3421780262 from by decide +kernel] at A1
  rw [show Crc.sm (List.map Int.toNat []) = 0 from by decide +kernel] at A2
  rw [show Crc.nx 4294967295 97 = 390611388 from by decide +kernel] at A3
  rw [show Crc.nx 4294967295 98 = 2386628614 from by decide +kernel] at A4
  have kc := fun (w : World) (C : Array Value) (n c : Nat) => Lib.run_convert_bytes_const (P := Try.prog) w 26 5 C n c Try.underlying26 Try.underlying5
  go_enter Try.func9, Try.ntmps9
  go_wp2_with fail
  refine (crcs_Sum.calls 40 _ _ [49, 50, 51, 52, 53, 54, 55, 56, 57] 3421780262 _ ?side1 ?side2 A1.out).mono ?_
  case side1 => exact lit_reads w .u8 5 _ [49, 50, 51, 52, 53, 54, 55, 56, 57] (by decide) _ rfl
  case side2 => exact Nat.le_refl _
  rintro e w' ⟨rfl, ⟨nd, rfl⟩⟩
  go_wp2_with fail
  refine (crcs_Sum.calls 40 _ _ [] 0 _ ?side1 ?side2 A2.out).mono ?_
  case side1 => exact Kd.C_of_reads (d := (0 : Int)) (h1 := fun _ => rfl) ⟨rfl, by decide, fun h => absurd h (by decide)⟩
  case side2 => exact Nat.le_refl _
  rintro e w' ⟨rfl, ⟨nd2, rfl⟩⟩
  go_wp2_with fail
  refine (crcs_Next.calls 40 4294967295 97 390611388 _ A3.out).mono ?_
  rintro e w' ⟨rfl, ⟨nd3, rfl⟩⟩
  go_wp2_with fail
  refine (crcs_Next.calls 40 4294967295 98 2386628614 _ A4.out).mono ?_
  rintro e w' ⟨rfl, ⟨nd4, rfl⟩⟩
  go_wp2_with fail
  go_ret
  exact ⟨rfl, by repeat (first | exact Below.refl _ _ | apply below_alloc | apply pw_below_drewN)⟩
theorem hocketlaw1_awake.calls (k : Nat) (r : Bool) (w : World) (h : hocketlaw1_awake.f k = some r) : Calls Try.prog 9 #[] w fun e w' => e = .returned (.bool r) ∧ Below w.heap.size w w' := by
  have h1 := awake_more k 30 r h
  rw [awake_f (k + 30) (by omega)] at h1
  obtain rfl := Option.some.inj h1
  exact awake_calls w
/-! ### hocketref1_Next: function 12 -/
def hocketref1_Next.l0 : Nat → Int → Int → Option (Int)
  | 0, _, _ => none
  | k + 1, x0, x5 => if x5 < 8 then (if (Go.bits .and .u32 x0 1) = 1 then (hocketref1_Next.l0 k (Go.bits .xor .u32 (x0 / 2) 3988292384) (wrap64 (x5 + 1))) else (hocketref1_Next.l0 k (x0 / 2) (wrap64 (x5 + 1)))) else (some x0)
def hocketref1_Next.f (k : Nat) (a0 : Int) (a1 : Int) : Option (Int) := hocketref1_Next.l0 k (Go.bits .xor .u32 a0 ((a1) % 4294967296)) 0
theorem hocketref1_Next.mono_l : ∀ k, (∀ y0 y1, LeO (hocketref1_Next.l0 k y0 y1) (hocketref1_Next.l0 (k + 1) y0 y1))
  | 0 => fun _ _ r h => by simp [hocketref1_Next.l0] at h
  | k + 1 => by
    have ih0 := hocketref1_Next.mono_l k
    · intro y0 y1
      unfold hocketref1_Next.l0
      repeat' first
      | (with_reducible exact ih0 _ _)
      | (with_reducible exact LeO.refl _)
      | (with_reducible exact LeO.none _)
      | (with_reducible refine LeO.ite ?_ ?_)
      | (with_reducible refine LeO.bind ?_ (fun _ => ?_))
      | exact ih0 _ _
      | exact LeO.none _
      | refine LeO.ite ?_ ?_
      | refine LeO.bind ?_ (fun _ => ?_)
theorem hocketref1_Next.mono : ∀ a0 a1 k, LeO (hocketref1_Next.f k a0 a1) (hocketref1_Next.f (k + 1) a0 a1) := by
  intro a0 a1 k
  have ih0 := hocketref1_Next.mono_l k
  unfold hocketref1_Next.f
  repeat' first
      | (with_reducible exact ih0 _ _)
      | (with_reducible exact LeO.refl _)
      | (with_reducible exact LeO.none _)
      | (with_reducible refine LeO.ite ?_ ?_)
      | (with_reducible refine LeO.bind ?_ (fun _ => ?_))
      | exact ih0 _ _
      | exact LeO.none _
      | refine LeO.ite ?_ ?_
      | refine LeO.bind ?_ (fun _ => ?_)
set_option maxHeartbeats 8000000 in
set_option maxRecDepth 100000 in
theorem hocketref1_Next.calls (k : Nat) (a0 : Int) (a1 : Int) (r : Int) (w : World) (h : hocketref1_Next.f k a0 a1 = some r) :
    Calls Try.prog 12 #[.int .u32 a0, .int .u8 a1] w fun e w' => e = .returned (.int .u32 r) ∧ Drawn0 w w' := by
  have H : (hocketref1_Next.l0 k (Go.bits .xor .u32 a0 ((a1) % 4294967296)) 0) = some r := h
  clear h
  have H' := Aside0.mk H
  clear H
  go_enter Try.func12, Try.ntmps12
  go_wp2
  go_loopg [0, 5] k (fun kq v0 v5 w' => ∃ (x0_1 : Int) (x5_1 : Int), v0 = .int .u32 x0_1 ∧ v5 = .int .i64 x5_1 ∧ Aside0 (hocketref1_Next.l0 kq x0_1 x5_1 = some r) ∧ Aside0 (kq ≤ k) ∧ Drawn0 w w')
  case atStart => exact ⟨(Go.bits .xor .u32 a0 ((a1) % 4294967296)), (0), (by first | rfl | (simp; done) | (simp [*]; done)), (by first | rfl | (simp; done) | (simp [*]; done)), H', ⟨Nat.le_refl _⟩, by repeat (first | exact Drawn0.refl _ | apply Drawn0.step)⟩
  case round =>
    clear H'
    try clear c1
    try clear p2
    obtain ⟨x0_1, x5_1, rfl, rfl, HA, HK1, ⟨m1, rfl⟩⟩ := hrel
    cases gk with
    | zero => exact absurd HA.out (by simp [hocketref1_Next.l0])
    | succ k1 =>
      have H := HA.out
      clear HA
      simp only [hocketref1_Next.l0] at H
      by_cases c3 : x5_1 < 8
      · rw [if_pos c3] at H
        have c3b0 : decide (x5_1 < 8) = true := decide_eq_true c3
        clear c3
        by_cases c4 : (Go.bits .and .u32 x0_1 1) = 1
        · rw [if_pos c4] at H
          have c4b0 : ((Go.bits .and .u32 x0_1 1) == 1) = true := beq_iff_eq.mpr c4
          have c4b1 : ((Go.bits .and .u32 x0_1 1) != 1) = false := bne_eq_false_iff_eq.mpr c4
          clear c4
          have H' := Aside0.mk H
          clear H
          go_wp2
          go_roundg k1
          case measure => have := HK1.out; omega
          case rel => exact ⟨(Go.bits .xor .u32 (x0_1 / 2) 3988292384), (wrap64 (x5_1 + 1)), (by first | rfl | (simp; done) | (simp [*]; done)), (by first | rfl | (simp; done) | (simp [*]; done)), H', ⟨by have := HK1.out; omega⟩, by repeat (first | exact Drawn0.refl _ | apply Drawn0.step)⟩
        · rw [if_neg c4] at H
          have c4b0 : ((Go.bits .and .u32 x0_1 1) == 1) = false := beq_eq_false_iff_ne.mpr c4
          have c4b1 : ((Go.bits .and .u32 x0_1 1) != 1) = true := bne_iff_ne.mpr c4
          have H' := Aside0.mk H
          clear H
          go_wp2
          go_roundg k1
          case measure => have := HK1.out; omega
          case rel => exact ⟨(x0_1 / 2), (wrap64 (x5_1 + 1)), (by first | rfl | (simp; done) | (simp [*]; done)), (by first | rfl | (simp; done) | (simp [*]; done)), H', ⟨by have := HK1.out; omega⟩, by repeat (first | exact Drawn0.refl _ | apply Drawn0.step)⟩
      · rw [if_neg c3] at H
        have c3b0 : decide (x5_1 < 8) = false := decide_eq_false c3
        clear c3
        obtain rfl := Option.some.inj H
        go_wp2
        go_ret
        exact ⟨by first | rfl | (simp; done) | (simp [*]; done), by repeat (first | exact Drawn0.refl _ | apply Drawn0.step)⟩

/-! ### hocketref1_Sum: function 10 -/
def hocketref1_Sum.l0 : Nat → List Int → Int → Int → Option (Int)
  | 0, _, _, _ => none
  | k + 1, x0, x3, x4 => if x4 < (x0.length : Int) then (if 0 ≤ x4 then ((hocketref1_Next.f k x3 (rd x0 x4)).bind fun t111 => (hocketref1_Sum.l0 k x0 t111 (wrap64 (x4 + 1)))) else (none)) else (some (Go.bits .xor .u32 x3 4294967295))
def hocketref1_Sum.f (k : Nat) (l0 : List Int) : Option (Int) := hocketref1_Sum.l0 k l0 4294967295 0
theorem hocketref1_Sum.mono_l : ∀ k, (∀ y0 y1 y2, LeO (hocketref1_Sum.l0 k y0 y1 y2) (hocketref1_Sum.l0 (k + 1) y0 y1 y2))
  | 0 => fun _ _ _ r h => by simp [hocketref1_Sum.l0] at h
  | k + 1 => by
    have ih0 := hocketref1_Sum.mono_l k
    · intro y0 y1 y2
      unfold hocketref1_Sum.l0
      repeat' first
      | (with_reducible exact ih0 _ _ _)
      | (with_reducible exact hocketref1_Next.mono _ _ _)
      | (with_reducible exact LeO.refl _)
      | (with_reducible exact LeO.none _)
      | (with_reducible refine LeO.ite ?_ ?_)
      | (with_reducible refine LeO.bind ?_ (fun _ => ?_))
      | exact ih0 _ _ _
      | exact hocketref1_Next.mono _ _ _
      | exact LeO.none _
      | refine LeO.ite ?_ ?_
      | refine LeO.bind ?_ (fun _ => ?_)
theorem hocketref1_Sum.mono : ∀ a0 k, LeO (hocketref1_Sum.f k a0) (hocketref1_Sum.f (k + 1) a0) := by
  intro a0 k
  have ih0 := hocketref1_Sum.mono_l k
  unfold hocketref1_Sum.f
  repeat' first
      | (with_reducible exact ih0 _ _ _)
      | (with_reducible exact hocketref1_Next.mono _ _ _)
      | (with_reducible exact LeO.refl _)
      | (with_reducible exact LeO.none _)
      | (with_reducible refine LeO.ite ?_ ?_)
      | (with_reducible refine LeO.bind ?_ (fun _ => ?_))
      | exact ih0 _ _ _
      | exact hocketref1_Next.mono _ _ _
      | exact LeO.none _
      | refine LeO.ite ?_ ?_
      | refine LeO.bind ?_ (fun _ => ?_)
set_option maxHeartbeats 8000000 in
set_option maxRecDepth 100000 in
theorem hocketref1_Sum.calls (k : Nat) (A0 : Option Addr) (c0 : Nat) (l0 : List Int) (r : Int) (w : World) (hr0 : Kd.C (Kd.int .u8) w A0 l0.length l0) (hc0 : l0.length ≤ c0) (h : hocketref1_Sum.f k l0 = some r) :
    Calls Try.prog 10 #[.slice A0 l0.length c0] w fun e w' => e = .returned (.int .u32 r) ∧ Drawn0 w w' := by
  have HR0 := Aside0.mk hr0
  have HC0 := Aside0.mk hc0
  clear hr0 hc0
  have H : (hocketref1_Sum.l0 k l0 4294967295 0) = some r := h
  clear h
  have H' := Aside0.mk H
  clear H
  go_enter Try.func10, Try.ntmps10
  go_wp2
  go_loopg [3, 4] k (fun kq v3 v4 w' => ∃ (x3_1 : Int) (x4_1 : Int), v3 = .int .u32 x3_1 ∧ v4 = .int .i64 x4_1 ∧ Aside0 (hocketref1_Sum.l0 kq l0 x3_1 x4_1 = some r) ∧ Aside0 (kq ≤ k) ∧ Drawn0 w w')
  case atStart => exact ⟨(4294967295), (0), (by first | rfl | (simp; done) | (simp [*]; done)), (by first | rfl | (simp; done) | (simp [*]; done)), H', ⟨Nat.le_refl _⟩, by repeat (first | exact Drawn0.refl _ | apply Drawn0.step)⟩
  case round =>
    clear H'
    try clear c1
    obtain ⟨x3_1, x4_1, rfl, rfl, HA, HK1, ⟨m1, rfl⟩⟩ := hrel
    cases gk with
    | zero => exact absurd HA.out (by simp [hocketref1_Sum.l0])
    | succ k1 =>
      have H := HA.out
      clear HA
      simp only [hocketref1_Sum.l0] at H
      by_cases c2 : x4_1 < (l0.length : Int)
      · rw [if_pos c2] at H
        have c2b0 : decide (x4_1 < (l0.length : Int)) = true := decide_eq_true c2
        clear c2
        by_cases c3 : 0 ≤ x4_1
        · rw [if_pos c3] at H
          have c3b0 : decide (0 ≤ x4_1) = true := decide_eq_true c3
          clear c3
          replace H := Option.bind_eq_some_iff.mp H
          obtain ⟨t111, A40, H⟩ := H
          replace H : (hocketref1_Sum.l0 k1 l0 t111 (wrap64 (x4_1 + 1))) = some r := H
          have A4 := Aside0.mk A40
          clear A40
          have H' := Aside0.mk H
          clear H
          have p110 : 0 ≤ (x4_1 : Int) := of_decide_eq_true (by first | (with_reducible assumption) | assumption)
          have q110 : x4_1 < (l0.length : Int) := of_decide_eq_true (by first | (with_reducible assumption) | assumption)
          obtain ⟨ad110, e110, hx110_0⟩ := Kd.at_int HR0.out x4_1 p110 q110
          cases e110
          replace p110 := eq_true p110
          replace q110 := eq_true q110
          go_wp2_with (first | ((with_reducible refine gate_callee (f := 12) rfl ?_); refine goesL_ (some 16) rfl rfl Try.func12 (by kernel_rfl) rfl #[.int .u32 x3_1, .int .u8 (rd l0 x4_1)] rfl (by (try simp only [List.map_toArray, List.map_cons, List.map_nil]); first | done | rfl | (simp only [List.length_drop, List.length_take]; rfl)) ?_; (with_reducible refine (hocketref1_Next.calls k1 x3_1 (rd l0 x4_1) t111 _ A4.out).mono ?_); rintro e w' ⟨rfl, ⟨nd, rfl⟩⟩; refine ⟨_, rfl, ?_⟩))
          go_roundg k1
          case measure => have := HK1.out; omega
          case rel => exact ⟨(t111), (wrap64 (x4_1 + 1)), (by first | rfl | (simp; done) | (simp [*]; done)), (by first | rfl | (simp; done) | (simp [*]; done)), H', ⟨by have := HK1.out; omega⟩, by repeat (first | exact Drawn0.refl _ | apply Drawn0.step)⟩
        · rw [if_neg c3] at H
          exact absurd H (by simp)
      · rw [if_neg c2] at H
        have c2b0 : decide (x4_1 < (l0.length : Int)) = false := decide_eq_false c2
        clear c2
        obtain rfl := Option.some.inj H
        go_wp2
        go_ret
        exact ⟨by first | rfl | (simp; done) | (simp [*]; done), by repeat (first | exact Drawn0.refl _ | apply Drawn0.step)⟩


theorem hocketref1_next_l (j : Nat) : ∀ (k c : Nat), c < 2 ^ 32 → j ≤ 8 → j < k → hocketref1_Next.l0 k (c : Int) ((8 - j : Nat) : Int) = some ((Crc.sts j c : Nat) : Int) := by
  induction j with
  | zero =>
    intro k c hc _ hk
    obtain ⟨k, rfl⟩ : ∃ m, k = m + 1 := ⟨k - 1, by omega⟩
    simp only [hocketref1_Next.l0]
    rw [if_neg (by omega)]
    rfl
  | succ j ih =>
    intro k c hc hj hk
    obtain ⟨k, rfl⟩ : ∃ m, k = m + 1 := ⟨k - 1, by omega⟩
    simp only [hocketref1_Next.l0]
    rw [if_pos (by omega), au32 c hc, wrap_up _ (by omega), show 8 - (j + 1) + 1 = 8 - j from by omega]
    have hst := Crc.st_lt hc
    by_cases h : c % 2 = 1
    · rw [if_pos (by omega)]
      have e : Go.bits .xor .u32 ((c : Int) / 2) 3988292384 = ((Crc.st c : Nat) : Int) := by
        have := xu32 (c / 2) Crc.P (by omega) (by decide)
        unfold Crc.st
        rw [if_pos h, ← this]
        rfl
      rw [e, ih k _ hst (by omega) (by omega)]
      rfl
    · rw [if_neg (by omega)]
      have e : (c : Int) / 2 = ((Crc.st c : Nat) : Int) := by
        unfold Crc.st
        rw [if_neg h]
        rfl
      rw [e, ih k _ hst (by omega) (by omega)]
      rfl
theorem hocketref1_next_f (k c b : Nat) (hc : c < 2 ^ 32) (hb : b < 256) (hk : 8 < k) : hocketref1_Next.f k (c : Int) (b : Int) = some ((Crc.nx c b : Nat) : Int) := by
  unfold hocketref1_Next.f
  rw [show ((b : Int) % 4294967296) = (b : Int) from by omega, xu32 c b hc (by omega)]
  have := hocketref1_next_l 8 k (c ^^^ b) (Nat.xor_lt_two_pow hc (by omega)) (by omega) hk
  exact this

theorem ref_sum_l (l : List Int) (h : Bytes l) (hl : l.length < 9223372036854775807) (j : Nat) : ∀ (k c : Nat), c < 2 ^ 32 → j ≤ l.length → j + 8 < k →
    hocketref1_Sum.l0 k l (c : Int) ((l.length - j : Nat) : Int) = some ((Crc.run c ((l.map Int.toNat).drop (l.length - j)) ^^^ 4294967295 : Nat) : Int) := by
  induction j with
  | zero =>
    intro k c hc _ hk
    obtain ⟨k, rfl⟩ : ∃ m, k = m + 1 := ⟨k - 1, by omega⟩
    simp only [hocketref1_Sum.l0]
    rw [if_neg (by omega), List.drop_of_length_le (by simp)]
    have := xu32 c 4294967295 hc (by decide)
    rw [show ((4294967295 : Nat) : Int) = (4294967295 : Int) from rfl] at this
    rw [this]
    rfl
  | succ j ih =>
    intro k c hc hj hk
    obtain ⟨k, rfl⟩ : ∃ m, k = m + 1 := ⟨k - 1, by omega⟩
    simp only [hocketref1_Sum.l0]
    rw [if_pos (by omega), if_pos (by omega)]
    obtain ⟨b, hb, e1, e2⟩ := rd_nat l h (l.length - (j + 1)) (by omega)
    rw [e1, hocketref1_next_f k c b hc hb (by omega)]
    simp only [Option.bind_some]
    rw [wrap_up _ (by omega), show l.length - (j + 1) + 1 = l.length - j from by omega, ih k _ (Crc.nx_lt hc hb) (by omega) (by omega)]
    rw [e2, show l.length - (j + 1) + 1 = l.length - j from by omega]
    rfl
theorem ref_sum_f (l : List Int) (h : Bytes l) (hl : l.length < 9223372036854775807) (k : Nat) (hk : l.length + 8 < k) : hocketref1_Sum.f k l = some ((Crc.sm (l.map Int.toNat) : Nat) : Int) := by
  unfold hocketref1_Sum.f
  have := ref_sum_l l h hl l.length k 4294967295 (by decide) (Nat.le_refl _) hk
  rw [Nat.sub_self] at this
  exact this
end Go.Proofs.Ytggjnjckhhkniaa.Cs
