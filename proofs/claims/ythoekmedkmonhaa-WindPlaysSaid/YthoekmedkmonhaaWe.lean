/- A window is gone through: the iterator's contract for every loop body. -/
import Derived.Outline
import Derived.IntWalk
import Derived.RangeFuncBox
import Derived.Test.YthoekmedkmonhaaWcs
namespace Go.Proofs.Ythoekmedkmonhaa.Wi
open Go Go.RowKit Go.Maps Go.Shelf Go.Proofs.Ythoekmedkmonhaa Go.Proofs.YthoekmedkmonhaaW.PrintWords
attribute [local go_sem] Oper.semAt_some
set_option linter.unusedVariables false
set_option linter.unusedSimpArgs false

/-- An entry of a window. -/
abbrev Ent (s : Wd) : Type := { p : Int × Value // s.f p.1 = some p.2 }
abbrev encE {s : Wd} (x : Ent s) : Array Value := #[.int .i64 x.1.1, x.1.2]

/-- The entries among the first k numbers behind from. -/
def al (s : Wd) : Nat → List (Ent s)
  | 0 => []
  | k + 1 => al s k ++ (match h : s.f (s.fr + 1 + (k : Int)) with | some v => [⟨(s.fr + 1 + (k : Int), v), h⟩] | none => [])
def allN (s : Wd) : Nat := (s.tp - s.fr).toNat
def allOf (s : Wd) : List (Ent s) := al s (allN s)

theorem al_some {s : Wd} {k : Nat} {v : Value} (h : s.f (s.fr + 1 + (k : Int)) = some v) : al s (k + 1) = al s k ++ [⟨(s.fr + 1 + (k : Int), v), h⟩] := by
  show al s k ++ _ = _
  congr 1
  split
  · rename_i v' h'
    have : v' = v := by rw [h] at h'; exact (Option.some.inj h').symm
    subst this
    rfl
  · rename_i h'
    rw [h] at h'; cases h'
theorem al_none {s : Wd} {k : Nat} (h : s.f (s.fr + 1 + (k : Int)) = none) : al s (k + 1) = al s k := by
  show al s k ++ _ = _
  split
  · rename_i v' h'
    rw [h] at h'; cases h'
  · simp
theorem al_len (s : Wd) : ∀ k, (al s k).length ≤ k
  | 0 => Nat.le_refl _
  | k + 1 => by
    have := al_len s k
    cases h : s.f (s.fr + 1 + (k : Int)) with
    | none => rw [al_none h]; omega
    | some v => rw [al_some h]; simp; omega
theorem al_prefix (s : Wd) (k : Nat) : ∀ j, al s k <+: al s (k + j)
  | 0 => List.prefix_refl _
  | j + 1 => (al_prefix s k j).trans (by
    show al s (k + j) <+: al s (k + j + 1)
    exact List.prefix_append _ _)
theorem al_prefix_all (s : Wd) {k : Nat} (h : k ≤ allN s) : al s k <+: allOf s := by
  have := al_prefix s k (allN s - k)
  rwa [show k + (allN s - k) = allN s by omega] at this
theorem mem_al (s : Wd) : ∀ (k : Nat) (x : Ent s), x ∈ al s k ↔ (s.fr < x.1.1 ∧ x.1.1 ≤ s.fr + (k : Int))
  | 0, x => by
    simp only [al, List.not_mem_nil, false_iff]
    omega
  | k + 1, x => by
    have ih := mem_al s k x
    cases h : s.f (s.fr + 1 + (k : Int)) with
    | none =>
      rw [al_none h, ih]
      have hne : x.1.1 ≠ s.fr + 1 + (k : Int) := fun e => by have := x.2; rw [e, h] at this; cases this
      push_cast
      omega
    | some v =>
      rw [al_some h, List.mem_append, ih]
      constructor
      · rintro (a | a)
        · push_cast; omega
        · have a' := List.mem_singleton.1 a
          subst a'
          show s.fr < s.fr + 1 + (k : Int) ∧ s.fr + 1 + (k : Int) ≤ s.fr + ((k + 1 : Nat) : Int)
          omega
      · intro a
        by_cases e : x.1.1 = s.fr + 1 + (k : Int)
        · right
          obtain ⟨⟨j, y⟩, hx⟩ := x
          simp only at e
          subst e
          rw [h] at hx
          cases hx
          simp
        · left; push_cast at a; omega
/-- The entries rise. -/
theorem al_rise (s : Wd) : ∀ k, (al s k).Pairwise (fun x y => x.1.1 < y.1.1)
  | 0 => List.Pairwise.nil
  | k + 1 => by
    have ih := al_rise s k
    cases h : s.f (s.fr + 1 + (k : Int)) with
    | none => rw [al_none h]; exact ih
    | some v =>
      rw [al_some h, List.pairwise_append]
      refine ⟨ih, List.pairwise_singleton _ _, fun x hx y hy => ?_⟩
      have hy' : y = ⟨(s.fr + 1 + (k : Int), v), h⟩ := by simpa using hy
      subst hy'
      have := (mem_al s k x).1 hx
      show x.1.1 < s.fr + 1 + (k : Int)
      omega

/-- What a round keeps: whatever lay below n₀, and the receiver's box. -/
def Kw (n₀ Bn : Nat) (W W' : World) : Prop := Below n₀ W W' ∧ W'.heap[Bn]? = W.heap[Bn]?
theorem Kw.refl (n₀ Bn : Nat) (W : World) : Kw n₀ Bn W W := ⟨Below.refl _ _, rfl⟩
theorem kw_t {n₀ Bn : Nat} {A B C : World} (h : Kw n₀ Bn A B) (k : Kw n₀ Bn B C) : Kw n₀ Bn A C := ⟨h.1.trans k.1, k.2.trans h.2⟩
theorem kw_b {n₀ Bn : Nat} {w : World} (hn : n₀ ≤ w.heap.size) (hB : Bn < w.heap.size) (W : World) (l : Nat) (o o' : Obj) (hl : w.heap.size ≤ l) (h : W.heap[l]? = some o) (hc : o.isCells = false) (hw : o.isWalk = false) : Kw n₀ Bn W (W.putObj l o') :=
  ⟨belowK_b hn W l o o' hl h hc hw, World.putObj_heap_other (by omega)⟩

set_option maxHeartbeats 1000000 in
/-- All: the receiver is boxed; the function value captures the box. -/
theorem all38_in (F : Fence) (n : Nat) (hf : F.fn 38) (hro : F.round = none) (p0 : Option Addr) (w : World) :
    CallsIn F n Try.prog 38 #[.pointer p0] w fun e w' => e = .returned (.func (.func 42) #[] #[.pointer (some ⟨w.heap.size, 0, none⟩)]) ∧ w' = w.alloc (.cells #[.pointer p0] 32) := by
  refine callsIn_of_wp Try.func38 rfl hf ?_ hro
  simp only [Try.ntmps38, List.size_toArray, List.length_cons, List.length_nil, Nat.reduceAdd, Nat.reduceSub, Array.replicate_succ, Array.replicate_zero, List.push_toArray, List.append_toArray, List.nil_append, List.cons_append]
  gi_wp2
  go_ret
  exact ⟨rfl, rfl⟩

set_option maxRecDepth 100000 in
set_option maxHeartbeats 2000000 in
theorem iter42_in (F : Fence) (n : Nat) (hf : F.fn 42) (hro : F.round = none) (hn : 1 ≤ n) (l Bn n₀ b m q : Nat) (s : Wd) (hv : Iv q s) (hq : q < 1000000) (hb : b < n₀) (hm : m < n₀) (J Jx : List (Ent s) → World → Prop)
    (hY : ∀ pre x W, J pre W → pre.length < allN s → YieldAt F (n - 1) Try.prog l (encE x) W fun e W' =>
      (e = .returned (.bool true) ∧ J (pre ++ [x]) W' ∧ Kw n₀ Bn W W') ∨ (e = .returned (.bool false) ∧ Jx (pre ++ [x]) W'))
    (W : World) (hB : Boxed W Bn 32 (.pointer (some ⟨b, 0, none⟩))) (hW : Wn 67 W b m q s) (h0 : J [] W) :
    CallsIn F n Try.prog 42 #[.func (.yield l) #[] #[], .pointer (some ⟨Bn, 0, none⟩)] W fun e W' => (∃ v, e = .returned v) ∧
      ((∃ ys, ys = allOf s ∧ J ys W') ∨ (∃ pre, pre <+: allOf s ∧ Jx pre W')) := by
  have hp0 := hv.p0
  have hp1 := hv.p1
  have hp2 := hv.p2
  have hp3 := hv.p3
  have hp4 := hv.p4
  have hbc := hB.cell
  have hc0 := hW.c0
  have hwr0 : IntKind.i64.wrap (s.fr + 1) = s.fr + 1 := IntWalk.i64_in _ (by omega)
  have HB := Aside0.mk hB
  have HW := Aside0.mk hW
  have HJ := Aside0.mk h0
  have HY := Aside0.mk hY
  have HN : allN s = (s.tp - s.fr).toNat := rfl
  clear hB hW h0 hY
  refine callsIn_of_wp Try.func42 rfl hf ?_ hro
  simp only [Try.ntmps42, List.size_toArray, List.length_cons, List.length_nil, Nat.reduceAdd, Nat.reduceSub, Array.replicate_succ, Array.replicate_zero, List.push_toArray, List.append_toArray, List.nil_append, List.cons_append]
  gi_wp2
  clear hbc hc0
  gi_loopw [3, 4, 5] (fun i _ _ wr => ∃ k : Nat, i = .int .i64 (s.fr + 1 + (k : Int)) ∧ k ≤ allN s ∧ Aside0 (J (al s k) wr) ∧ Aside0 (Boxed wr Bn 32 (.pointer (some ⟨b, 0, none⟩))) ∧ Aside0 (Wn 67 wr b m q s))
    (fun i _ _ _ => (s.tp + 1 - intOf i).toNat)
  case atStart =>
    exact ⟨0, by simp, Nat.zero_le _, HJ, HB, HW⟩
  case round =>
    clear HB HW HJ
    obtain ⟨k, rfl, hk, HJ, HB, HW⟩ := hrel
    have hbc := HB.out.cell
    have hc2 := HW.out.c2
    have hc3 := HW.out.c3
    by_cases hlt : k < allN s
    · have hle : s.fr + 1 + (k : Int) ≤ s.tp := by omega
      have hkw : Wf (s.fr + 1 + (k : Int)) := ⟨by omega, by omega⟩
      have hl := HW.out.hm.look Try.underlying65 (Try.zeroValue9 wr) hkw
      cases hs : s.f (s.fr + 1 + (k : Int)) with
      | none =>
        rw [hs] at hl
        simp only [Option.getD_none, Option.isSome_none] at hl
        gi_wp2
        refine ⟨fun _ h => (by cases h), ?_⟩
        gi_wp2
        go_roundw
        case rel => exact ⟨k + 1, by push_cast; rw [show s.fr + 1 + ((k : Int) + 1) = s.fr + 1 + (k : Int) + 1 by omega], by omega, ⟨by rw [al_none hs]; exact HJ.out⟩, HB, HW⟩
        case measure => simp [intOf]; omega
      | some v =>
        rw [hs] at hl
        simp only [Option.getD_some, Option.isSome_some] at hl
        obtain ⟨fn, tmps, assign, body, hy, hR⟩ := HY.out (al s k) ⟨(s.fr + 1 + (k : Int), v), hs⟩ wr HJ.out (by have := al_len s k; omega)
        dsimp only [encE] at hy
        gi_wp2
        refine hR.mono ?_
        rintro e W3 (⟨rfl, hJ3, hk3⟩ | ⟨rfl, hJx3⟩)
        · have HB3 := Aside0.mk (hk3.2.trans HB.out)
          have HW3 := Aside0.mk (HW.out.below hk3.1 hb hm)
          have HJ3 := Aside0.mk hJ3
          clear hJ3 hk3 hbc hc2 hc3 hl
          gi_wp2
          go_roundw
          case rel => exact ⟨k + 1, by push_cast; rw [show s.fr + 1 + ((k : Int) + 1) = s.fr + 1 + (k : Int) + 1 by omega], by omega, ⟨by rw [al_some hs]; exact HJ3.out⟩, HB3, HW3⟩
          case measure => simp [intOf]; omega
        · gi_wp2
          refine bodyPost_ret (results_none rfl _ _ _) rfl ?_
          exact ⟨⟨_, rfl⟩, .inr ⟨_, by rw [← al_some hs]; exact al_prefix_all s (by omega), hJx3⟩⟩
    · gi_wp2
      go_end0
      exact ⟨⟨_, rfl⟩, .inl ⟨_, by unfold allOf; rw [show allN s = k by omega], HJ.out⟩⟩

theorem stops42 (F : Fence) (n : Nat) (hf : F.fn 42) (hro : F.round = none) (hn : 1 ≤ n) (Bn n₀ b m q : Nat) (s : Wd) (hv : Iv q s) (hq : q < 1000000) (hb : b < n₀) (hm : m < n₀) (w : World) (hn₀ : n₀ ≤ w.heap.size)
    (hB : Boxed w Bn 32 (.pointer (some ⟨b, 0, none⟩))) (hW : Wn 67 w b m q s) :
    SeqStopsK F n Try.prog 42 #[.pointer (some ⟨Bn, 0, none⟩)] (fun x : Ent s => encE x) (Kw n₀ Bn) (fun ys => ys = allOf s) (fun pre => pre <+: allOf s) (allN s) w := fun l J Jx W hBW _ _ hY h0 =>
  iter42_in F n hf hro hn l Bn n₀ b m q s hv hq hb hm J Jx hY W ((hBW.block Bn hB.lt).trans hB) (hW.below hBW (by omega) (by omega)) h0

set_option maxHeartbeats 1000000 in
/-- All: the receiver is boxed; the function value captures the box. -/
theorem all35_in (F : Fence) (n : Nat) (hf : F.fn 35) (hro : F.round = none) (p0 : Option Addr) (w : World) :
    CallsIn F n Try.prog 35 #[.pointer p0] w fun e w' => e = .returned (.func (.func 41) #[] #[.pointer (some ⟨w.heap.size, 0, none⟩)]) ∧ w' = w.alloc (.cells #[.pointer p0] 23) := by
  refine callsIn_of_wp Try.func35 rfl hf ?_ hro
  simp only [Try.ntmps35, List.size_toArray, List.length_cons, List.length_nil, Nat.reduceAdd, Nat.reduceSub, Array.replicate_succ, Array.replicate_zero, List.push_toArray, List.append_toArray, List.nil_append, List.cons_append]
  gi_wp2
  go_ret
  exact ⟨rfl, rfl⟩

set_option maxRecDepth 100000 in
set_option maxHeartbeats 2000000 in
theorem iter41_in (F : Fence) (n : Nat) (hf : F.fn 41) (hro : F.round = none) (hn : 1 ≤ n) (l Bn n₀ b m q : Nat) (s : Wd) (hv : Iv q s) (hq : q < 1000000) (hb : b < n₀) (hm : m < n₀) (J Jx : List (Ent s) → World → Prop)
    (hY : ∀ pre x W, J pre W → pre.length < allN s → YieldAt F (n - 1) Try.prog l (encE x) W fun e W' =>
      (e = .returned (.bool true) ∧ J (pre ++ [x]) W' ∧ Kw n₀ Bn W W') ∨ (e = .returned (.bool false) ∧ Jx (pre ++ [x]) W'))
    (W : World) (hB : Boxed W Bn 23 (.pointer (some ⟨b, 0, none⟩))) (hW : Wn 61 W b m q s) (h0 : J [] W) :
    CallsIn F n Try.prog 41 #[.func (.yield l) #[] #[], .pointer (some ⟨Bn, 0, none⟩)] W fun e W' => (∃ v, e = .returned v) ∧
      ((∃ ys, ys = allOf s ∧ J ys W') ∨ (∃ pre, pre <+: allOf s ∧ Jx pre W')) := by
  have hp0 := hv.p0
  have hp1 := hv.p1
  have hp2 := hv.p2
  have hp3 := hv.p3
  have hp4 := hv.p4
  have hbc := hB.cell
  have hc0 := hW.c0
  have hwr0 : IntKind.i64.wrap (s.fr + 1) = s.fr + 1 := IntWalk.i64_in _ (by omega)
  have HB := Aside0.mk hB
  have HW := Aside0.mk hW
  have HJ := Aside0.mk h0
  have HY := Aside0.mk hY
  have HN : allN s = (s.tp - s.fr).toNat := rfl
  clear hB hW h0 hY
  refine callsIn_of_wp Try.func41 rfl hf ?_ hro
  simp only [Try.ntmps41, List.size_toArray, List.length_cons, List.length_nil, Nat.reduceAdd, Nat.reduceSub, Array.replicate_succ, Array.replicate_zero, List.push_toArray, List.append_toArray, List.nil_append, List.cons_append]
  gi_wp2
  clear hbc hc0
  gi_loopw [3, 4, 5] (fun i _ _ wr => ∃ k : Nat, i = .int .i64 (s.fr + 1 + (k : Int)) ∧ k ≤ allN s ∧ Aside0 (J (al s k) wr) ∧ Aside0 (Boxed wr Bn 23 (.pointer (some ⟨b, 0, none⟩))) ∧ Aside0 (Wn 61 wr b m q s))
    (fun i _ _ _ => (s.tp + 1 - intOf i).toNat)
  case atStart =>
    exact ⟨0, by simp, Nat.zero_le _, HJ, HB, HW⟩
  case round =>
    clear HB HW HJ
    obtain ⟨k, rfl, hk, HJ, HB, HW⟩ := hrel
    have hbc := HB.out.cell
    have hc2 := HW.out.c2
    have hc3 := HW.out.c3
    by_cases hlt : k < allN s
    · have hle : s.fr + 1 + (k : Int) ≤ s.tp := by omega
      have hkw : Wf (s.fr + 1 + (k : Int)) := ⟨by omega, by omega⟩
      have hl := HW.out.hm.look Try.underlying49 (Try.zeroValue3 wr) hkw
      cases hs : s.f (s.fr + 1 + (k : Int)) with
      | none =>
        rw [hs] at hl
        simp only [Option.getD_none, Option.isSome_none] at hl
        gi_wp2
        refine ⟨fun _ h => (by cases h), ?_⟩
        gi_wp2
        go_roundw
        case rel => exact ⟨k + 1, by push_cast; rw [show s.fr + 1 + ((k : Int) + 1) = s.fr + 1 + (k : Int) + 1 by omega], by omega, ⟨by rw [al_none hs]; exact HJ.out⟩, HB, HW⟩
        case measure => simp [intOf]; omega
      | some v =>
        rw [hs] at hl
        simp only [Option.getD_some, Option.isSome_some] at hl
        obtain ⟨fn, tmps, assign, body, hy, hR⟩ := HY.out (al s k) ⟨(s.fr + 1 + (k : Int), v), hs⟩ wr HJ.out (by have := al_len s k; omega)
        dsimp only [encE] at hy
        gi_wp2
        refine hR.mono ?_
        rintro e W3 (⟨rfl, hJ3, hk3⟩ | ⟨rfl, hJx3⟩)
        · have HB3 := Aside0.mk (hk3.2.trans HB.out)
          have HW3 := Aside0.mk (HW.out.below hk3.1 hb hm)
          have HJ3 := Aside0.mk hJ3
          clear hJ3 hk3 hbc hc2 hc3 hl
          gi_wp2
          go_roundw
          case rel => exact ⟨k + 1, by push_cast; rw [show s.fr + 1 + ((k : Int) + 1) = s.fr + 1 + (k : Int) + 1 by omega], by omega, ⟨by rw [al_some hs]; exact HJ3.out⟩, HB3, HW3⟩
          case measure => simp [intOf]; omega
        · gi_wp2
          refine bodyPost_ret (results_none rfl _ _ _) rfl ?_
          exact ⟨⟨_, rfl⟩, .inr ⟨_, by rw [← al_some hs]; exact al_prefix_all s (by omega), hJx3⟩⟩
    · gi_wp2
      go_end0
      exact ⟨⟨_, rfl⟩, .inl ⟨_, by unfold allOf; rw [show allN s = k by omega], HJ.out⟩⟩

theorem stops41 (F : Fence) (n : Nat) (hf : F.fn 41) (hro : F.round = none) (hn : 1 ≤ n) (Bn n₀ b m q : Nat) (s : Wd) (hv : Iv q s) (hq : q < 1000000) (hb : b < n₀) (hm : m < n₀) (w : World) (hn₀ : n₀ ≤ w.heap.size)
    (hB : Boxed w Bn 23 (.pointer (some ⟨b, 0, none⟩))) (hW : Wn 61 w b m q s) :
    SeqStopsK F n Try.prog 41 #[.pointer (some ⟨Bn, 0, none⟩)] (fun x : Ent s => encE x) (Kw n₀ Bn) (fun ys => ys = allOf s) (fun pre => pre <+: allOf s) (allN s) w := fun l J Jx W hBW _ _ hY h0 =>
  iter41_in F n hf hro hn l Bn n₀ b m q s hv hq hb hm J Jx hY W ((hBW.block Bn hB.lt).trans hB) (hW.below hBW (by omega) (by omega)) h0

set_option maxHeartbeats 1000000 in
/-- All: the receiver is boxed; the function value captures the box. -/
theorem all22_in (F : Fence) (n : Nat) (hf : F.fn 22) (hro : F.round = none) (p0 : Option Addr) (w : World) :
    CallsIn F n Try.prog 22 #[.pointer p0] w fun e w' => e = .returned (.func (.func 40) #[] #[.pointer (some ⟨w.heap.size, 0, none⟩)]) ∧ w' = w.alloc (.cells #[.pointer p0] 38) := by
  refine callsIn_of_wp Try.func22 rfl hf ?_ hro
  simp only [Try.ntmps22, List.size_toArray, List.length_cons, List.length_nil, Nat.reduceAdd, Nat.reduceSub, Array.replicate_succ, Array.replicate_zero, List.push_toArray, List.append_toArray, List.nil_append, List.cons_append]
  gi_wp2
  go_ret
  exact ⟨rfl, rfl⟩

set_option maxRecDepth 100000 in
set_option maxHeartbeats 2000000 in
theorem iter40_in (F : Fence) (n : Nat) (hf : F.fn 40) (hro : F.round = none) (hn : 1 ≤ n) (l Bn n₀ b m q : Nat) (s : Wd) (hv : Iv q s) (hq : q < 1000000) (hb : b < n₀) (hm : m < n₀) (J Jx : List (Ent s) → World → Prop)
    (hY : ∀ pre x W, J pre W → pre.length < allN s → YieldAt F (n - 1) Try.prog l (encE x) W fun e W' =>
      (e = .returned (.bool true) ∧ J (pre ++ [x]) W' ∧ Kw n₀ Bn W W') ∨ (e = .returned (.bool false) ∧ Jx (pre ++ [x]) W'))
    (W : World) (hB : Boxed W Bn 38 (.pointer (some ⟨b, 0, none⟩))) (hW : Wn 70 W b m q s) (h0 : J [] W) :
    CallsIn F n Try.prog 40 #[.func (.yield l) #[] #[], .pointer (some ⟨Bn, 0, none⟩)] W fun e W' => (∃ v, e = .returned v) ∧
      ((∃ ys, ys = allOf s ∧ J ys W') ∨ (∃ pre, pre <+: allOf s ∧ Jx pre W')) := by
  have hp0 := hv.p0
  have hp1 := hv.p1
  have hp2 := hv.p2
  have hp3 := hv.p3
  have hp4 := hv.p4
  have hbc := hB.cell
  have hc0 := hW.c0
  have hwr0 : IntKind.i64.wrap (s.fr + 1) = s.fr + 1 := IntWalk.i64_in _ (by omega)
  have HB := Aside0.mk hB
  have HW := Aside0.mk hW
  have HJ := Aside0.mk h0
  have HY := Aside0.mk hY
  have HN : allN s = (s.tp - s.fr).toNat := rfl
  clear hB hW h0 hY
  refine callsIn_of_wp Try.func40 rfl hf ?_ hro
  simp only [Try.ntmps40, List.size_toArray, List.length_cons, List.length_nil, Nat.reduceAdd, Nat.reduceSub, Array.replicate_succ, Array.replicate_zero, List.push_toArray, List.append_toArray, List.nil_append, List.cons_append]
  gi_wp2
  clear hbc hc0
  gi_loopw [3, 4, 5] (fun i _ _ wr => ∃ k : Nat, i = .int .i64 (s.fr + 1 + (k : Int)) ∧ k ≤ allN s ∧ Aside0 (J (al s k) wr) ∧ Aside0 (Boxed wr Bn 38 (.pointer (some ⟨b, 0, none⟩))) ∧ Aside0 (Wn 70 wr b m q s))
    (fun i _ _ _ => (s.tp + 1 - intOf i).toNat)
  case atStart =>
    exact ⟨0, by simp, Nat.zero_le _, HJ, HB, HW⟩
  case round =>
    clear HB HW HJ
    obtain ⟨k, rfl, hk, HJ, HB, HW⟩ := hrel
    have hbc := HB.out.cell
    have hc2 := HW.out.c2
    have hc3 := HW.out.c3
    by_cases hlt : k < allN s
    · have hle : s.fr + 1 + (k : Int) ≤ s.tp := by omega
      have hkw : Wf (s.fr + 1 + (k : Int)) := ⟨by omega, by omega⟩
      have hl := HW.out.hm.look Try.underlying68 (Try.zeroValue4 wr) hkw
      cases hs : s.f (s.fr + 1 + (k : Int)) with
      | none =>
        rw [hs] at hl
        simp only [Option.getD_none, Option.isSome_none] at hl
        gi_wp2
        refine ⟨fun _ h => (by cases h), ?_⟩
        gi_wp2
        go_roundw
        case rel => exact ⟨k + 1, by push_cast; rw [show s.fr + 1 + ((k : Int) + 1) = s.fr + 1 + (k : Int) + 1 by omega], by omega, ⟨by rw [al_none hs]; exact HJ.out⟩, HB, HW⟩
        case measure => simp [intOf]; omega
      | some v =>
        rw [hs] at hl
        simp only [Option.getD_some, Option.isSome_some] at hl
        obtain ⟨fn, tmps, assign, body, hy, hR⟩ := HY.out (al s k) ⟨(s.fr + 1 + (k : Int), v), hs⟩ wr HJ.out (by have := al_len s k; omega)
        dsimp only [encE] at hy
        gi_wp2
        refine hR.mono ?_
        rintro e W3 (⟨rfl, hJ3, hk3⟩ | ⟨rfl, hJx3⟩)
        · have HB3 := Aside0.mk (hk3.2.trans HB.out)
          have HW3 := Aside0.mk (HW.out.below hk3.1 hb hm)
          have HJ3 := Aside0.mk hJ3
          clear hJ3 hk3 hbc hc2 hc3 hl
          gi_wp2
          go_roundw
          case rel => exact ⟨k + 1, by push_cast; rw [show s.fr + 1 + ((k : Int) + 1) = s.fr + 1 + (k : Int) + 1 by omega], by omega, ⟨by rw [al_some hs]; exact HJ3.out⟩, HB3, HW3⟩
          case measure => simp [intOf]; omega
        · gi_wp2
          refine bodyPost_ret (results_none rfl _ _ _) rfl ?_
          exact ⟨⟨_, rfl⟩, .inr ⟨_, by rw [← al_some hs]; exact al_prefix_all s (by omega), hJx3⟩⟩
    · gi_wp2
      go_end0
      exact ⟨⟨_, rfl⟩, .inl ⟨_, by unfold allOf; rw [show allN s = k by omega], HJ.out⟩⟩

theorem stops40 (F : Fence) (n : Nat) (hf : F.fn 40) (hro : F.round = none) (hn : 1 ≤ n) (Bn n₀ b m q : Nat) (s : Wd) (hv : Iv q s) (hq : q < 1000000) (hb : b < n₀) (hm : m < n₀) (w : World) (hn₀ : n₀ ≤ w.heap.size)
    (hB : Boxed w Bn 38 (.pointer (some ⟨b, 0, none⟩))) (hW : Wn 70 w b m q s) :
    SeqStopsK F n Try.prog 40 #[.pointer (some ⟨Bn, 0, none⟩)] (fun x : Ent s => encE x) (Kw n₀ Bn) (fun ys => ys = allOf s) (fun pre => pre <+: allOf s) (allN s) w := fun l J Jx W hBW _ _ hY h0 =>
  iter40_in F n hf hro hn l Bn n₀ b m q s hv hq hb hm J Jx hY W ((hBW.block Bn hB.lt).trans hB) (hW.below hBW (by omega) (by omega)) h0
end Go.Proofs.Ythoekmedkmonhaa.Wi
