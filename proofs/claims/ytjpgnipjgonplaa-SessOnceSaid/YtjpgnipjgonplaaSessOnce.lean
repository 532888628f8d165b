/- SessOnce: each call is new once: for all rows of whole numbers that fit in memory. -/
import Derived.Lib.SliceRun
import Derived.Outline
import Derived.Test.YtjpgnipjgonplaaRows
import Derived.WalkKit
import Derived.ProofKit
import Derived.OpenShut
import Derived.ShutString
import Derived.ChangeOld
import Derived.Below
import Derived.SizedLaws
import Derived.Test.YtjpgnipjgonplaaWSized
import Derived.Test.YtjpgnipjgonplaaSf
namespace Go.Proofs.Ytjpgnipjgonplaa.Ss
open Go.RowKit Go.Proofs.YtjpgnipjgonplaaW.PrintWords Go.Proofs.YtjpgnipjgonplaaW.PrintLast Go.Proofs.YtjpgnipjgonplaaW.PrintMore
attribute [local go_sem] max2_int min2_int max_two min_two max_three min_three max_four min_four
set_option linter.unusedVariables false
set_option linter.unusedSimpArgs false
/-- Look, where the answer is known and bears no bytes. -/
theorem look_known (l : List S31) (A : Option Addr) (c n : Nat) (s q : Int) (r : S26) (k : Int) (W : World) (hr : Kd.C k31 W A l.length l) (hc : l.length ≤ c) (hn : l.length = n) (hl : ∀ x ∈ l, x.f2.f1.length < 140737488355328) (h : lookR l s q = (r, k)) (hv : r.f1 = []) :
    Calls Try.prog 8 #[.slice A n c, .int .i64 s, .int .i64 q] W fun e w' => ∃ A1 c1, e = .returned (.tuple #[.agg #[.int .i64 r.f0, .slice A1 0 c1, .int .i64 r.f2], .int .i64 k]) ∧ Below W.heap.size W w' := by
  subst hn
  have h1 := look8 A c l s q W hr hc hl
  rw [h, hv] at h1
  refine h1.mono ?_
  rintro e w' ⟨v, rfl, hR, hb⟩
  obtain ⟨A1, c1, rfl⟩ := Kd.R_slice hR
  exact ⟨A1, c1, rfl, hb⟩
/-- Put of a result that bears no bytes. -/
theorem put_known (l l' : List S31) (A : Option Addr) (c n n' : Nat) (s q : Int) (r0 r2 : Int) (w : World) (hr : Kd.C k31 w A l.length l) (hc : l.length ≤ c) (hn : l.length = n) (hb : n < 1000000) (hl : ∀ x ∈ l, x.f2.f1.length < 140737488355328) (h : putP l s ⟨s, q, ⟨r0, [], r2⟩⟩ = l') (hn' : l'.length = n') :
    Calls Try.prog 9 #[.slice A n c, .int .i64 s, .int .i64 q, .agg #[.int .i64 r0, .slice none 0 0, .int .i64 r2]] w fun e w' => ∃ A' c', e = .returned (.slice A' n' c') ∧ l'.length ≤ c' ∧ Kd.C k31 w' A' l'.length l' ∧ Below w.heap.size w w' := by
  subst hn
  subst hn'
  subst h
  refine (put9 A c l s q ⟨r0, [], r2⟩ none 0 w hr hc hb hl ⟨rfl, Nat.zero_le _, fun h => absurd h (Nat.lt_irrefl 0)⟩ (Nat.le_refl _) (show 0 < 140737488355328 from by decide)).mono ?_
  rintro e w' ⟨A', c', rfl, hc', hF, hb'⟩
  exact ⟨A', c', rfl, hc', Fr.C hF, hb'⟩

def T2 (x y : Int) : List S31 := [⟨3, x, ⟨0, [], x⟩⟩, ⟨9, y, ⟨0, [], y⟩⟩]
def T1 (x : Int) : List S31 := [⟨3, x, ⟨0, [], x⟩⟩]
theorem one_ok {n : Int} (h : 1 ≤ n) (h' : n ≤ 1073741824) : one n = true := decide_eq_true ⟨h, h'⟩
theorem lookT3 (x y q : Int) : lookR (T2 x y) 3 q = (if one q = false then (⟨10, [], 0⟩, 2) else if x < q then (⟨0, [], 0⟩, 0) else if q < x then (⟨8, [], 0⟩, 2) else (⟨0, [], x⟩, 1)) := by
  simp only [lookR, show one 3 = true from rfl, show there (T2 x y) 3 = true from rfl, show fi (T2 x y) 3 = 0 from rfl, show rd_T31 (T2 x y) ((0 : Nat) : Int) = ⟨3, x, ⟨0, [], x⟩⟩ from rfl]
  simp
theorem lookT9 (x y q : Int) : lookR (T2 x y) 9 q = (if one q = false then (⟨10, [], 0⟩, 2) else if y < q then (⟨0, [], 0⟩, 0) else if q < y then (⟨8, [], 0⟩, 2) else (⟨0, [], y⟩, 1)) := by
  simp only [lookR, show one 9 = true from rfl, show there (T2 x y) 9 = true from rfl, show fi (T2 x y) 9 = 1 from rfl, show rd_T31 (T2 x y) ((1 : Nat) : Int) = ⟨9, y, ⟨0, [], y⟩⟩ from rfl]
  simp
theorem look19 (x q : Int) : lookR (T1 x) 9 q = (if one q = false then (⟨10, [], 0⟩, 2) else (⟨0, [], 0⟩, 0)) := by
  simp only [lookR, show one 9 = true from rfl, show there (T1 x) 9 = false from rfl, show (T1 x).length = 1 from rfl]
  simp
theorem look03 (q : Int) : lookR [] 3 q = (if one q = false then (⟨10, [], 0⟩, 2) else (⟨0, [], 0⟩, 0)) := by
  simp only [lookR, show one 3 = true from rfl, show there [] 3 = false from rfl]
  simp
def OL (x y : Int) (l : List S31) : Prop := (l = [] ∧ x = 0 ∧ y = 0) ∨ (l = T2 x y ∧ 1 ≤ x ∧ 1 ≤ y)
def noV (l : List S31) : Prop := ∀ z ∈ l, z.f2.f1.length < 140737488355328
theorem once_step (l : List S31) (x y x' y' : Int) (h : OL x y l) (hx : x < x') (hy : y < y') (bx : x' ≤ 1073741824) (hby : y' ≤ 1073741824) : ∃ l1, lookR l 3 x' = (⟨0, [], 0⟩, 0) ∧ putP l 3 ⟨3, x', ⟨0, [], x'⟩⟩ = l1 ∧ lookR l1 9 y' = (⟨0, [], 0⟩, 0) ∧ putP l1 9 ⟨9, y', ⟨0, [], y'⟩⟩ = T2 x' y' ∧ noV l ∧ noV l1 ∧ l.length ≤ 2 ∧ l1.length ≤ 2 := by
  have h0 : (0 : Nat) < 140737488355328 := by decide
  rcases h with ⟨rfl, rfl, rfl⟩ | ⟨rfl, h1, h2⟩
  · refine ⟨T1 x', ?_, rfl, ?_, rfl, fun z hz => by simp at hz, fun z hz => ?_, by decide, Nat.le_succ 1⟩
    · rw [look03, one_ok (by omega) bx]; rfl
    · rw [look19, one_ok (by omega) hby]; rfl
    · obtain rfl := List.mem_singleton.1 hz
      exact h0
  · refine ⟨T2 x' y, ?_, rfl, ?_, rfl, fun z hz => ?_, fun z hz => ?_, Nat.le_refl 2, Nat.le_refl 2⟩
    · rw [lookT3, one_ok (by omega) bx, if_neg (by simp), if_pos hx]
    · rw [lookT9, one_ok (by omega) hby, if_neg (by simp), if_pos hy]
    · simp only [T2, List.mem_cons, List.not_mem_nil, or_false] at hz
      rcases hz with rfl | rfl <;> exact h0
    · simp only [T2, List.mem_cons, List.not_mem_nil, or_false] at hz
      rcases hz with rfl | rfl <;> exact h0
theorem once_end (x y : Int) (h1 : 1 ≤ x) (h2 : 1 ≤ y) (bx : x ≤ 1073741824) (hby : y ≤ 1073741824) : lookR (T2 x y) 3 x = (⟨0, [], x⟩, 1) ∧ lookR (T2 x y) 9 y = (⟨0, [], y⟩, 1) ∧ noV (T2 x y) ∧ ∃ e, lookR (T2 x y) 3 (x - 1) = (⟨e, [], 0⟩, 2) ∧ (1 < x → e = 8) := by
  refine ⟨by rw [lookT3, one_ok h1 bx]; simp, by rw [lookT9, one_ok h2 hby]; simp, fun z hz => ?_, ?_⟩
  · simp only [T2, List.mem_cons, List.not_mem_nil, or_false] at hz
    rcases hz with rfl | rfl <;> exact (show (0 : Nat) < 140737488355328 from by decide)
  · rcases Int.lt_or_eq_of_le h1 with h | h
    · refine ⟨8, ?_, fun _ => rfl⟩
      rw [lookT3, one_ok (by omega) (by omega), if_neg (by simp), if_neg (by omega), if_pos (by omega)]
    · refine ⟨10, ?_, fun h' => absurd h' (by omega)⟩
      rw [lookT3, show one (x - 1) = false from decide_eq_false (by omega), if_pos rfl]

/-- A row of whole numbers that is read. -/
def RowI (w : World) (a : Option Addr) (n : Nat) : Prop := 0 < n → ∃ ad, a = some ad ∧ ∀ j, j < n → ∃ v, w.cell? (ad.add j) = some (.int .i64 v)
theorem and7 (v : Int) : ∃ d : Nat, Go.bits .and .i64 v 7 = (d : Int) ∧ d ≤ 7 := by
  have e : (7 : Int) = ((7 : Nat) : Int) := rfl
  simp only [Go.bits, e, BitVec.ofInt_natCast, BitVec.toNat_and]
  have h : (BitVec.ofInt IntKind.i64.bits v).toNat &&& (BitVec.ofNat IntKind.i64.bits 7).toNat < 2 ^ 3 := Nat.and_lt_two_pow _ (by decide)
  generalize (BitVec.ofInt IntKind.i64.bits v).toNat &&& (BitVec.ofNat IntKind.i64.bits 7).toNat = t at h ⊢
  exact ⟨t, by rw [IntKind.wrap_i64]; omega, by omega⟩
def OI (w : World) (x y : Int) (n : Nat) (A : Option Addr) (c : Nat) (w' : World) : Prop := ∃ l, OL x y l ∧ l.length = n ∧ l.length ≤ c ∧ Kd.C k31 w' A l.length l ∧ Below w.heap.size w w'
set_option maxHeartbeats 1000000 in
set_option maxRecDepth 100000 in
theorem once_calls (a b : Option Addr) (la ca lb cb : Nat) (w : World) (ha : RowI w a la) (hb : RowI w b lb) :
    Calls Try.prog 7 #[.slice a la ca, .slice b lb cb] w fun e w' => e = .returned (.bool true) ∧ Below w.heap.size w w' := by
  have HA := Aside0.mk ha
  have HBB := Aside0.mk hb
  clear ha hb
  go_enter Try.func7, Try.ntmps7
  go_wp2_with fail
  go_loopw [5, 6, 7, 8] (fun v5 v6 v7 v8 w' => ∃ (i n : Nat) (A : Option Addr) (c : Nat) (x y : Int), v8 = .int .i64 i ∧ v5 = .slice A n c ∧ v6 = .int .i64 x ∧ v7 = .int .i64 y ∧ 0 ≤ x ∧ x ≤ 8 * i ∧ 0 ≤ y ∧ y ≤ 8 * i ∧ i ≤ 30 ∧ Aside0 (OI w x y n A c w')) (fun _ _ _ v8 _ => 30 - (intOf v8).toNat)
  case atStart => exact ⟨0, 0, none, 0, 0, 0, rfl, rfl, rfl, rfl, by omega, by omega, by omega, by omega, by omega, ⟨⟨[], .inl ⟨rfl, rfl, rfl⟩, rfl, Nat.zero_le _, ⟨rfl, by decide, fun h => absurd h (by decide)⟩, Below.refl _ _⟩⟩⟩
  case round =>
    obtain ⟨i, n, A, c, x, y, rfl, rfl, rfl, rfl, hx0, hx1, hy0, hy1, hi, HI⟩ := hrel
    by_cases h1 : i < la
    · by_cases h2 : i < lb
      · by_cases h3 : i < 30
        · obtain ⟨l, hOL, hn, hc, hC, hB⟩ := HI.out
          obtain ⟨ad, rfl, hca⟩ := HA.out (by omega)
          obtain ⟨va, hva⟩ := hca i h1
          obtain ⟨bd, rfl, hcb⟩ := HBB.out (by omega)
          obtain ⟨vb, hvb⟩ := hcb i h2
          have k1 := (hB.cell (World.block_lt_of_cell? w _ hva)).trans hva
          have k2 := (hB.cell (World.block_lt_of_cell? w _ hvb)).trans hvb
          obtain ⟨da, hda, hda7⟩ := and7 va
          obtain ⟨db, hdb, hdb7⟩ := and7 vb
          have e1 : IntKind.i64.wrap (x + (da : Int)) = x + da := by rw [IntKind.wrap_i64]; omega
          obtain ⟨X, hX⟩ : ∃ X : Int, X = x + da + 1 := ⟨_, rfl⟩
          obtain ⟨Y, hY⟩ : ∃ Y : Int, Y = y + db + 1 := ⟨_, rfl⟩
          have e2 : IntKind.i64.wrap (x + (da : Int) + 1) = X := by rw [IntKind.wrap_i64]; omega
          have e3 : IntKind.i64.wrap (y + (db : Int)) = y + db := by rw [IntKind.wrap_i64]; omega
          have e4 : IntKind.i64.wrap (y + (db : Int) + 1) = Y := by rw [IntKind.wrap_i64]; omega
          have HC := Aside0.mk hC
          have HB := Aside0.mk hB
          have HOL := Aside0.mk hOL
          have Hc := Aside0.mk hc
          have Hn := Aside0.mk hn
          obtain ⟨l1, p1, p2, p3, p4, p5, p6, p7, p8⟩ := once_step l x y X Y hOL (by omega) (by omega) (by omega) (by omega)
          obtain ⟨q1, q2, q3, ee, q4, q5⟩ := once_end X Y (by omega) (by omega) (by omega) (by omega)
          have P1 := Aside0.mk p1
          have P2 := Aside0.mk p2
          have P3 := Aside0.mk p3
          have P4 := Aside0.mk p4
          have P5 := Aside0.mk p5
          have P6 := Aside0.mk p6
          have P7 := Aside0.mk p7
          have P8 := Aside0.mk p8
          have Q1 := Aside0.mk q1
          have Q2 := Aside0.mk q2
          have Q3 := Aside0.mk q3
          have Q4 := Aside0.mk q4
          have Q5 := Aside0.mk q5
          have HX := Aside0.mk (show x < X ∧ X ≤ 8 * ((i + 1 : Nat) : Int) ∧ y < Y ∧ Y ≤ 8 * ((i + 1 : Nat) : Int) from ⟨by omega, by omega, by omega, by omega⟩)
          have e5 : IntKind.i64.wrap (X - 1) = X - 1 := by rw [IntKind.wrap_i64]; omega
          clear hX hY p1 p2 p3 p4 p5 p6 p7 p8 q1 q2 q3 q4 q5
          clear hC hB hOL hc hn hca hcb HI hva hvb
          go_wp2_with fail
          go_region
          go_wp2_with fail
          refine (look_known l A c n 3 X _ 0 _ (Kd.C_below HC.out (below_drew1 (Below.refl _ _))) Hc.out Hn.out P5.out P1.out rfl).mono ?_
          rintro e w1 ⟨A1, c1, rfl, hb1⟩
          have hb1' := below_alloc (below_then (below_drew1 (Below.refl _ _)) (Nat.le_refl _) hb1) (.cells #[.int .i64 0, .slice A1 0 c1, .int .i64 0] 26)
          have HC1 := Aside0.mk (Kd.C_below HC.out hb1')
          have HB1 := Aside0.mk (below_then HB.out HB.out.size hb1')
          clear hb1 hb1'
          go_wp2_with fail
          refine (put_known l l1 A c n l1.length 3 X 0 X _ HC1.out Hc.out Hn.out (by have := P7.out; have := Hn.out; omega) P5.out P2.out rfl).mono ?_
          rintro e w2 ⟨A2, c2, rfl, hc2, hC2, hb2⟩
          have HC2 := Aside0.mk hC2
          have Hc2 := Aside0.mk hc2
          have HB2 := Aside0.mk (below_then HB1.out HB1.out.size hb2)
          clear hc2 hC2 hb2
          go_wp2_with fail
          refine (look_known l1 A2 c2 _ 9 Y _ 0 _ HC2.out Hc2.out rfl P6.out P3.out rfl).mono ?_
          rintro e w3 ⟨A3, c3, rfl, hb3⟩
          have hb3' := below_alloc hb3 (.cells #[.int .i64 0, .slice A3 0 c3, .int .i64 0] 26)
          have HC3 := Aside0.mk (Kd.C_below HC2.out hb3')
          have HB3 := Aside0.mk (below_then HB2.out HB2.out.size hb3')
          clear hb3 hb3'
          go_wp2_with fail
          refine (put_known l1 (T2 X Y) A2 c2 _ 2 9 Y 0 Y _ HC3.out Hc2.out rfl (by have := P8.out; omega) P6.out P4.out rfl).mono ?_
          rintro e w4 ⟨A4, c4, rfl, hc4, hC4, hb4⟩
          have HC4 := Aside0.mk hC4
          have Hc4 := Aside0.mk hc4
          have HB4 := Aside0.mk (below_then HB3.out HB3.out.size hb4)
          clear hc4 hC4 hb4
          go_wp2_with fail
          refine (look_known (T2 X Y) A4 c4 2 3 X _ 1 _ HC4.out Hc4.out rfl Q3.out Q1.out rfl).mono ?_
          rintro e w5 ⟨A5, c5, rfl, hb5⟩
          have hb5' := below_alloc hb5 (.cells #[.int .i64 0, .slice A5 0 c5, .int .i64 X] 26)
          have HC5 := Aside0.mk (Kd.C_below HC4.out hb5')
          have HB5 := Aside0.mk (below_then HB4.out HB4.out.size hb5')
          have HK5 := Aside0.mk (heap_alloc_self w5 (.cells #[.int .i64 0, .slice A5 0 c5, .int .i64 X] 26))
          clear hb5 hb5'
          go_wp2_with fail
          generalize w5.alloc (.cells #[.int .i64 0, .slice A5 0 c5, .int .i64 X] 26) = W5 at HC5 HB5 HK5 ⊢
          refine (look_known (T2 X Y) A4 c4 2 9 Y _ 1 _ HC5.out Hc4.out rfl Q3.out Q2.out rfl).mono ?_
          rintro e w6 ⟨A6, c6, rfl, hb6⟩
          have hb6' := below_alloc hb6 (.cells #[.int .i64 0, .slice A6 0 c6, .int .i64 Y] 26)
          have HC6 := Aside0.mk (Kd.C_below HC5.out hb6')
          have HB6 := Aside0.mk (below_then HB5.out HB5.out.size hb6')
          have HK6 := Aside0.mk (blk3_keep HK5.out hb6')
          have HL6 := Aside0.mk (heap_alloc_self w6 (.cells #[.int .i64 0, .slice A6 0 c6, .int .i64 Y] 26))
          clear hb6 hb6'
          go_wp2_with fail
          generalize w6.alloc (.cells #[.int .i64 0, .slice A6 0 c6, .int .i64 Y] 26) = W6 at HC6 HB6 HK6 HL6 ⊢
          refine (look_known (T2 X Y) A4 c4 2 3 (X - 1) _ 2 _ HC6.out Hc4.out rfl Q3.out Q4.out rfl).mono ?_
          rintro e w7 ⟨A7, c7, rfl, hb7⟩
          have hb7' := below_alloc hb7 (.cells #[.int .i64 ee, .slice A7 0 c7, .int .i64 0] 26)
          have HC7 := Aside0.mk (Kd.C_below HC6.out hb7')
          have HB7 := Aside0.mk (below_then HB6.out HB6.out.size hb7')
          obtain ⟨a0, a1, a2, a3⟩ := blk_cells3 (blk3_keep HK6.out hb7')
          obtain ⟨b0, b1, b2, b3⟩ := blk_cells3 (blk3_keep HL6.out hb7')
          clear hb7 hb7' a0 a1 a3 b0 b1 b3
          by_cases hX1 : 1 < X
          · obtain rfl : ee = 8 := Q5.out hX1
            have hX1' : decide (1 < X) = true := decide_eq_true hX1
            go_wp2_with fail
            go_roundw
            case rel =>
              have := HX.out
              exact ⟨i + 1, 2, A4, c4, X, Y, by go_num, rfl, rfl, rfl, by omega, by omega, by omega, by omega, by omega, ⟨⟨T2 X Y, .inr ⟨rfl, by omega, by omega⟩, rfl, Hc4.out, HC7.out, HB7.out⟩⟩⟩
            case measure => simp [intOf]; omega
          · have hX1' : decide (1 < X) = false := decide_eq_false hX1
            go_wp2_with fail
            go_roundw
            case rel =>
              have := HX.out
              exact ⟨i + 1, 2, A4, c4, X, Y, by go_num, rfl, rfl, rfl, by omega, by omega, by omega, by omega, by omega, ⟨⟨T2 X Y, .inr ⟨rfl, by omega, by omega⟩, rfl, Hc4.out, HC7.out, HB7.out⟩⟩⟩
            case measure => simp [intOf]; omega
        · have e3 : decide ((i : Int) < 30) = false := decide_eq_false (by omega)
          obtain ⟨l, hOL, hn, hc, hC, hB⟩ := HI.out
          have HB := Aside0.mk hB
          clear hB hC hc hn hOL HI
          go_wp2_with fail
          refine (awake10 _).mono ?_
          rintro e w1 ⟨rfl, hb1⟩
          have HB1 := Aside0.mk (below_then HB.out HB.out.size hb1)
          clear hb1
          go_wp2_with fail
          go_ret
          exact ⟨rfl, HB1.out⟩
      · obtain ⟨l, hOL, hn, hc, hC, hB⟩ := HI.out
        have HB := Aside0.mk hB
        clear hB hC hc hn hOL HI
        go_wp2_with fail
        refine (awake10 _).mono ?_
        rintro e w1 ⟨rfl, hb1⟩
        have HB1 := Aside0.mk (below_then HB.out HB.out.size hb1)
        clear hb1
        go_wp2_with fail
        go_ret
        exact ⟨rfl, HB1.out⟩
    · obtain ⟨l, hOL, hn, hc, hC, hB⟩ := HI.out
      have HB := Aside0.mk hB
      clear hB hC hc hn hOL HI
      go_wp2_with fail
      refine (awake10 _).mono ?_
      rintro e w1 ⟨rfl, hb1⟩
      have HB1 := Aside0.mk (below_then HB.out HB.out.size hb1)
      clear hb1
      go_wp2_with fail
      go_ret
      exact ⟨rfl, HB1.out⟩
end Go.Proofs.Ytjpgnipjgonplaa.Ss
namespace Go.Proofs.Ytjpgnipjgonplaa.sessOnce
open Go.ChangeShapes Go.WideShapes Go.ChangeAt Go.RowKit Go.Proofs.YtjpgnipjgonplaaW
open Go.ChangeMaps (open_string shut_string)
theorem own : ownKnob Try.prog.godebug = none := by kernel_rfl
theorem laidOut : laidOutB Try.prog = true := by kernel_rfl
def IsRow (k : IntKind) (w : World) (a : Option Addr) (len cap : Nat) (zs : List Int) : Prop :=
  (a = none ∧ len = 0 ∧ cap = 0 ∧ zs = []) ∨
  ∃ x, a = some x ∧ len ≤ cap ∧ cap ≤ maxLen ∧ zs.length = cap ∧ (∀ i, i < zs.length → w.cell? (x.add i) = some (.int k (zs.getD i 0))) ∧ ∀ n ∈ zs, (Lit.int k n).wf = true
theorem rowI {w : World} {a : Option Addr} {len cap : Nat} {zs : List Int} (h : IsRow .i64 w a len cap zs) : Ss.RowI w a len := by
  intro h0
  rcases h with ⟨_, rfl, _⟩ | ⟨x, rfl, h1, h2, h3, h4, _⟩
  · exact absurd h0 (Nat.lt_irrefl 0)
  · exact ⟨x, rfl, fun j hj => ⟨_, h4 j (by omega)⟩⟩
set_option maxRecDepth 100000 in
theorem lifted (os : Os) (started : os.Started) (H : Type) (enc : TypeId × Value → H) :
    ReturnsInHanded {} Try.checked os 7 .any (Rows.sessOnceSpec.pre6 enc Try.prog Try.f7 Rows.sessOnceRow.domain false) (Rows.sessOnceSpec.post enc Try.prog Try.f7 false true false false) := by
  refine returnsInHanded_of_change_sized (C := Try.checked) own started (by kernel_rfl) Try.func7
    (ChangeSpec.witness6 (enc := enc) (C := Try.checked) false ⟨#[], #[.slice none 0 0, .slice none 0 0], []⟩ 8 (by kernel_rfl) (by kernel_rfl) (by kernel_rfl) (by kernel_rfl)) ?_
  intro W base args ds gs before hval0 hW hcnd hsz0 _
  have hsz : (DataW.weightsEach Try.prog (Try.f7.params.toList ++ Rows.sessOnceSpec.plain.varTypes Try.prog) (ds ++ gs)).all (· ≤ reachBytes) = true := hsz0
  have hval : ∀ (j : Nat) t v, Try.f7.params[j]? = some t → args[j]? = some v → Value.okWide Try.prog W .any base t v := hval0
  have hW' := hW
  obtain ⟨p, q, hA0, hV, rfl, hfz, hnd⟩ := hW
  have hA : DataW.TrodAll enc Try.prog W 0 (fun _ => true) true Try.f7.params.toList args.toList ds p := hA0
  rw [Try.params7] at hA hval hsz
  obtain ⟨v0, vs0, d0, ds0, p0, q0, hargs, rfl, rfl, h0, r0⟩ := trodAll_cons hA
  obtain ⟨v1, vs1, d1, ds1, p1, q1, rfl, rfl, rfl, h1, r1⟩ := trodAll_cons r0
  obtain ⟨rfl, rfl, rfl⟩ := trodAll_nil r1
  obtain rfl : args = #[v0, v1] := by cases args; simp_all
  obtain ⟨rfl, rfl⟩ := trodVars_none hV
  obtain ⟨a0, len0, cap0, rfl⟩ := okWide_slice Try.underlying37 (hval 0 37 v0 rfl rfl)
  have k0 := h0
  have lt0 : ∀ x ∈ p0, x.block < W.heap.size := by obtain ⟨m, hm⟩ := k0; exact DataW.trod_lt m _ _ _ hm
  obtain ⟨z0, w0⟩ : ∃ zs, IsRow .i64 W a0 len0 cap0 zs := by
    obtain ⟨fuel, hf⟩ := h0
    rcases open_ints Try.underlying37 Try.underlying3 (by kernel_rfl) hf with ⟨hcs, _⟩ | ⟨x, l, c, zs, hcs, _, hl, hm, hz, _, hcell, hwz⟩
    · simp [Value.cells] at hcs
      obtain ⟨rfl, rfl, rfl⟩ := hcs
      exact ⟨[], .inl ⟨rfl, rfl, rfl, rfl⟩⟩
    · simp [Value.cells] at hcs
      obtain ⟨rfl, rfl, rfl⟩ := hcs
      exact ⟨zs, .inr ⟨_, rfl, hl, hm, by simpa using hz, hcell, hwz⟩⟩
  have y0 : len0 * 8 ≤ 140737488351232 := PrintWords.sized_ints hsz (j := 0) (t := 37) rfl rfl Try.underlying37 Try.underlying3 (by kernel_rfl) (by kernel_rfl) h0
  obtain ⟨a1, len1, cap1, rfl⟩ := okWide_slice Try.underlying37 (hval 1 37 v1 rfl rfl)
  have k1 := h1
  have lt1 : ∀ x ∈ p1, x.block < W.heap.size := by obtain ⟨m, hm⟩ := k1; exact DataW.trod_lt m _ _ _ hm
  obtain ⟨z1, w1⟩ : ∃ zs, IsRow .i64 W a1 len1 cap1 zs := by
    obtain ⟨fuel, hf⟩ := h1
    rcases open_ints Try.underlying37 Try.underlying3 (by kernel_rfl) hf with ⟨hcs, _⟩ | ⟨x, l, c, zs, hcs, _, hl, hm, hz, _, hcell, hwz⟩
    · simp [Value.cells] at hcs
      obtain ⟨rfl, rfl, rfl⟩ := hcs
      exact ⟨[], .inl ⟨rfl, rfl, rfl, rfl⟩⟩
    · simp [Value.cells] at hcs
      obtain ⟨rfl, rfl, rfl⟩ := hcs
      exact ⟨zs, .inr ⟨_, rfl, hl, hm, by simpa using hz, hcell, hwz⟩⟩
  have y1 : len1 * 8 ≤ 140737488351232 := PrintWords.sized_ints hsz (j := 1) (t := 37) rfl rfl Try.underlying37 Try.underlying3 (by kernel_rfl) (by kernel_rfl) h1
  clear hA0 hval0 hsz0 hsz
  refine (Ss.once_calls a0 a1 len0 cap0 len1 cap1 W (rowI w0) (rowI w1)).mono fun e W' ⟨he, bel⟩ => ?_
  subst he
  exact ⟨_, rfl, _, _, _, [], _, [], hW', trodAll_mk1 (shut_bool Try.underlying4 _), (trodAll_cons_mk (Below.trod laidOut (by kernel_rfl) (of_decide_eq_true (by kernel_rfl)) k0 bel lt0) (trodAll_cons_mk (Below.trod laidOut (by kernel_rfl) (of_decide_eq_true (by kernel_rfl)) k1 bel lt1) trodAll_mk0)), rfl, bel.frame _, fun h => by cases h⟩
theorem over : Rows.sessOnceRow.holds Try.pinned (OpenSpec.ofChange Rows.sessOnceSpec) :=
  OpenClaim.holds_of_wide 7 Try.f7 rfl rfl rfl rfl rfl rfl rfl ⟨rfl, rfl, rfl, rfl, rfl⟩ rfl rfl rfl rfl rfl (by kernel_rfl) Try.func7 (by kernel_rfl)
    (of_decide_eq_true (by kernel_rfl)) (by unfold Func.isWrapper; first | (rw [if_pos (by decide +kernel)]; kernel_rfl) | (rw [if_neg (by decide +kernel)]; exact ⟨rfl, rfl⟩))
    (fun os started H enc _ => lifted os started H enc)
theorem proved : Rows.SessOnceSaid := over
end Go.Proofs.Ytjpgnipjgonplaa.sessOnce
namespace Go.Proofs.Ytjpgnipjgonplaa
/-- The row, under a short name, for the claim. -/
theorem sessOnce_holds : Rows.SessOnceSaid := sessOnce.proved
end Go.Proofs.Ytjpgnipjgonplaa
