/- The kinds of the values that the laws on maps speak of, and lemmas on fresh rows; no program is walked here. -/
import Derived.Test.YthfplgfpodmphaaProg
import Derived.Below
import Derived.Deep.Draws
import Derived.Deep.AppendLies
import Derived.Maps.AppendAt
import Derived.OwnWalk
import Derived.Laws.BytesArg
import Derived.Laws.MakeOwn
import Derived.Laws.OwnMore
import Derived.Deep.OwnRows
import Derived.Tactics
import Derived.Lib.ConvBytes
import Derived.Laws.Slices
import Derived.WalkKit
import Derived.KernelRfl
import Derived.RowKit3
import Derived.Deep.LoopGhost
import Derived.Deep.QuietTactic
import Derived.BigQuiet
import Derived.WideLaws
import Derived.Deep.DeepCutAuto
import Derived.Deep.CutBlock
import Derived.Deep.RegionHeld3
import Derived.Laws.Rows
import Derived.Lib.AppendStr
import Derived.ArgAppend
import Derived.Laws.IdiomCopy
import Derived.OrdersHeld
import Derived.Laws.BitsLemmas
import Derived.RowKit
import Derived.Test.YthfplgfpodmphaaWWords
import Derived.Test.YthfplgfpodmphaaWLast
import Derived.Test.YthfplgfpodmphaaWQPut
import Derived.Test.YthfplgfpodmphaaWApart
import Derived.Test.YthfplgfpodmphaaWArr
import Derived.Test.YthfplgfpodmphaaWZeros
import Derived.Test.YthfplgfpodmphaaWFoot
import Derived.Test.YthfplgfpodmphaaWKept
import Derived.Test.YthfplgfpodmphaaWShare
import Derived.Test.YthfplgfpodmphaaWN
import Derived.Test.YthfplgfpodmphaaWGuard
import Derived.Test.YthfplgfpodmphaaWNEv
import Derived.Test.YthfplgfpodmphaaWMore
namespace Go.Proofs.Ythfplgfpodmphaa.Ms
open Go.RowKit Go.Proofs.YthfplgfpodmphaaW.PrintWords Go.Proofs.YthfplgfpodmphaaW.PrintLast Go.Proofs.YthfplgfpodmphaaW.PrintMore
attribute [local go_sem] max2_int min2_int max_two min_two max_three min_three max_four min_four
set_option linter.unusedVariables false
set_option linter.unusedSimpArgs false
set_option maxRecDepth 100000

section
open Go.RowKit
variable {α : Type} {d : Kd α} {e : Nat} {w w1 W : World} {base : Nat} {A : Option Addr} {xs : List α}
def chunk (sz j : Nat) (inner : List Value) : List Value := (inner.drop (j * sz)).take sz
/-- A row that is read, as rows of cells. -/
theorem C_raw {n : Nat} (h : d.C w A n xs) : ∃ rows : List (List Value), rows.length = xs.length ∧ Kd.C (Kd.raw d.sz) w A n rows ∧ ∀ (j : Nat) (x : α) (c : List Value), xs[j]? = some x → rows[j]? = some c → d.K w x c := by
  obtain ⟨hl, hm, hn⟩ := h
  rcases Nat.eq_zero_or_pos n with h0 | h0
  · refine ⟨[], by rw [hl, h0]; rfl, ⟨h0.symm, hm, fun h => absurd h (by omega)⟩, fun j x c hx _ => ?_⟩
    have := (List.getElem?_eq_some_iff.1 hx).1
    omega
  · obtain ⟨ad, rfl, hc⟩ := hn h0
    have hex : ∀ j : Nat, ∃ c : List Value, j < xs.length → c.length = d.sz ∧ (∀ x, xs[j]? = some x → d.K w x c) ∧ ∀ i u, c[i]? = some u → w.cell? (ad.add (j * d.sz + i)) = some u := by
      intro j
      rcases Nat.lt_or_ge j xs.length with hj | hj
      · obtain ⟨c, h1, h2, h3⟩ := hc j xs[j] (List.getElem?_eq_getElem hj)
        exact ⟨c, fun _ => ⟨h1, fun x hx => by rw [List.getElem?_eq_getElem hj] at hx; cases hx; exact h2, h3⟩⟩
      · exact ⟨[], fun h => absurd h (by omega)⟩
    refine ⟨(List.range xs.length).map (fun j => Classical.choose (hex j)), by simp, ⟨by simp [hl], hm, fun _ => ⟨ad, rfl, fun j p hj => ?_⟩⟩, fun j x c hx hc2 => ?_⟩
    · have hjl : j < xs.length := by have := (List.getElem?_eq_some_iff.1 hj).1; simpa using this
      have := Classical.choose_spec (hex j) hjl
      rw [List.getElem?_map, List.getElem?_range hjl] at hj
      obtain rfl := Option.some.inj hj
      obtain ⟨h1, h2, h3⟩ := this
      exact ⟨_, h1, ⟨rfl, h1, d.K_one (h2 _ (List.getElem?_eq_getElem hjl))⟩, h3⟩
    · have hjl : j < xs.length := (List.getElem?_eq_some_iff.1 hx).1
      have := Classical.choose_spec (hex j) hjl
      rw [List.getElem?_map, List.getElem?_range hjl] at hc2
      obtain rfl := Option.some.inj hc2
      exact this.2.1 _ hx
/-- A fresh row: its block from base on, maybe with more room than its slice says; what it leads to is fresh, and not it. -/
def Fr (d : Kd α) (e : Nat) (w : World) (base : Nat) (A : Option Addr) (xs : List α) : Prop :=
  xs = [] ∨ ∃ g cur, A = some ⟨g, 0, none⟩ ∧ base ≤ g ∧ w.heap[g]? = some (.cells cur e (0, 0)) ∧ xs.length * d.sz ≤ cur.size ∧ xs.length ≤ maxLen ∧ Reps (d.M w base (fun k => k ≠ g)) d.sz xs (cur.toList.take (xs.length * d.sz))
theorem cell_of_heap {g j : Nat} {cur : Array Value} {t : TypeId} (h : w.heap[g]? = some (.cells cur t (0, 0))) : w.cell? ⟨g, j, none⟩ = cur[j]? ∧ w.frozen? ⟨g, j, none⟩ = false := by
  constructor <;> simp [World.cell?, World.frozen?, h]
theorem Fr.C (h : Fr d e w base A xs) : d.C w A xs.length xs := by
  rcases h with rfl | ⟨g, cur, rfl, hb, hg, hs, hm, hr⟩
  · exact ⟨rfl, by simp, fun h => absurd h (by simp)⟩
  · refine ⟨rfl, by unfold maxLen at hm; omega, fun _ => ⟨_, rfl, fun j p hj => ⟨_, d.K_len (d.K_of_M (hr.2 j p hj)), d.K_of_M (hr.2 j p hj), fun i u hu => ?_⟩⟩⟩
    have hjl := (List.getElem?_eq_some_iff.1 hj).1
    rw [add_plain, (cell_of_heap hg).1]
    rw [List.getElem?_take] at hu
    split at hu
    · rename_i hi
      rw [List.getElem?_drop, List.getElem?_take] at hu
      split at hu
      · rw [Array.getElem?_toList] at hu
        exact hu
      · cases hu
    · cases hu
theorem Fr.below (h : Fr d e w base A xs) (hb : Below w.heap.size w w1) : Fr d e w1 base A xs := by
  rcases h with rfl | ⟨g, cur, rfl, hbg, hg, hs, hm, hr⟩
  · exact .inl rfl
  · have hlt := (Array.getElem?_eq_some_iff.1 hg).1
    exact .inr ⟨g, cur, rfl, hbg, (hb.block g hlt).trans hg, hs, hm, hr.imp_ (fun _ _ hp => Kd.M_below hp hb)⟩
theorem Fr.lower {b : Nat} (h : Fr d e w base A xs) (hb : b ≤ base) : Fr d e w b A xs := by
  rcases h with rfl | ⟨g, cur, rfl, hbg, hg, hs, hm, hr⟩
  · exact .inl rfl
  · exact .inr ⟨g, cur, rfl, Nat.le_trans hb hbg, hg, hs, hm, hr.imp_ (fun _ _ hp => d.M_lower hb hp)⟩
theorem heap_alloc_self (w : World) (o : Obj) : (w.alloc o).heap[w.heap.size]? = some o := by
  show (w.heap.push o)[w.heap.size]? = some o
  simp
theorem heap_set_same {g j : Nat} {cur : Array Value} {t : TypeId} (u : Value) (h : w.heap[g]? = some (.cells cur t (0, 0))) : (w.setCell ⟨g, j, none⟩ u).heap[g]? = some (.cells (cur.setIfInBounds j u) t (0, 0)) := heap_setCell_same w g j cur t u h
end




def errW : Option Int → Value
  | none => .nilIface
  | some c => .iface 0 (.int .i64 c)
theorem errW_none : errW none = .nilIface := rfl
theorem errW_some (c : Int) : errW (some c) = .iface 0 (.int .i64 c) := rfl

theorem info5 : (Try.prog.info? 5).map (fun i => (i.zero, i.size, i.bytes)) = some (some (.int .u8 0), 1, 1) := by kernel_rfl
theorem info32 : (Try.prog.info? 42).map (fun i => (i.zero, i.size, i.bytes)) = some (some (.agg #[(.slice none 0 0), (.slice none 0 0)]), 2, 48) := by kernel_rfl
-- the values' own types
def rd_L1 (xs : List (List Int)) (i : Int) : (List Int) := xs.getD i.toNat ([] : List Int)
theorem at_L1 {w : World} {A : Option Addr} {n : Nat} {xs : List (List Int)} (h : Kd.C (Kd.slice 5 (Kd.int .u8)) w A n xs) (i : Int) (h0 : 0 ≤ i) (h1 : i < n) : ∃ ad A0 c0, A = some ad ∧ w.cell? (ad.add i.toNat) = some (.slice A0 (rd_L1 xs i).length c0) ∧ (rd_L1 xs i).length ≤ c0 ∧ (Kd.int .u8).C w A0 (rd_L1 xs i).length (rd_L1 xs i) := by
  obtain ⟨ad, c, e, _, hK, hc0⟩ := Kd.C_get h ([] : List Int) i h0 h1
  have hc : ∀ j u, c[j]? = some u → w.cell? (ad.add (i.toNat * 1 + j)) = some u := hc0
  obtain ⟨A0, c0, rfl, l0, g0⟩ := hK
  exact ⟨ad, A0, c0, e, by have hq := hc 0 _ rfl; rwa [Nat.mul_one, Nat.add_zero] at hq, l0, g0⟩

/-! #### struct type 32 -/
structure S32 where
  f0 : (List Int)
  f1 : (List Int)
def z32 : S32 := ⟨([] : List Int), ([] : List Int)⟩
def k32 : Kd S32 := Kd.iso (Kd.pair (Kd.slice 5 (Kd.int .u8)) (Kd.slice 5 (Kd.int .u8))) (fun x : S32 => (x.f0, x.f1))
theorem k32_open {w : World} {x : S32} {cs : List Value} (h : k32.K w x cs) : ∃ A0 c0 A1 c1, cs = [.slice A0 x.f0.length c0, .slice A1 x.f1.length c1] ∧ x.f0.length ≤ c0 ∧ (Kd.int .u8).C w A0 x.f0.length x.f0 ∧ x.f1.length ≤ c1 ∧ (Kd.int .u8).C w A1 x.f1.length x.f1 := by
  obtain ⟨_, _, rfl, ⟨A0, c0, rfl, l0, g0⟩, ⟨A1, c1, rfl, l1, g1⟩⟩ := h
  exact ⟨A0, c0, A1, c1, rfl, l0, g0, l1, g1⟩
theorem k32_openM {w : World} {base : Nat} {ok : Nat → Prop} {x : S32} {cs : List Value} (h : k32.M w base ok x cs) : ∃ v0 v1, cs = [v0, v1] ∧ (Kd.int .u8).R 5 w base ok v0 x.f0 ∧ (Kd.int .u8).R 5 w base ok v1 x.f1 := by
  obtain ⟨_, _, rfl, ⟨v0, rfl, g0⟩, ⟨v1, rfl, g1⟩⟩ := h
  exact ⟨v0, v1, rfl, g0, g1⟩
theorem k32_mk (w : World) (x : S32) {A0 : Option Addr} {c0 : Nat} (l0 : x.f0.length ≤ c0) (g0 : (Kd.int .u8).C w A0 x.f0.length x.f0) {A1 : Option Addr} {c1 : Nat} (l1 : x.f1.length ≤ c1) (g1 : (Kd.int .u8).C w A1 x.f1.length x.f1) : k32.K w x [.slice A0 x.f0.length c0, .slice A1 x.f1.length c1] := ⟨[.slice A0 x.f0.length c0], [.slice A1 x.f1.length c1], rfl, ⟨A0, c0, rfl, l0, g0⟩, ⟨A1, c1, rfl, l1, g1⟩⟩
theorem k32_mkM (w : World) (base : Nat) (ok : Nat → Prop) (x : S32) {v0 : Value} (g0 : (Kd.int .u8).R 5 w base ok v0 x.f0) {v1 : Value} (g1 : (Kd.int .u8).R 5 w base ok v1 x.f1) : k32.M w base ok x [v0, v1] := ⟨[v0], [v1], rfl, ⟨v0, rfl, g0⟩, ⟨v1, rfl, g1⟩⟩
theorem k32_openF {W : World} {ok : Nat → Prop} {x : S32} {cs : List Value} (h : Kd.FK k32 W ok x cs) : ∃ A0 c0 A1 c1, cs = [.slice A0 x.f0.length c0, .slice A1 x.f1.length c1] ∧ x.f0.length ≤ c0 ∧ Kd.F (Kd.int .u8) W ok A0 x.f0.length x.f0 ∧ x.f1.length ≤ c1 ∧ Kd.F (Kd.int .u8) W ok A1 x.f1.length x.f1 := by
  obtain ⟨A0, c0, A1, c1, rfl, l0, _, l1, _⟩ := k32_open (Kd.FK_now h)
  exact ⟨A0, c0, A1, c1, rfl, l0, (fun W' hW => by obtain ⟨A0_, c0_, A1_, c1_, he, l0_, g0_, l1_, g1_⟩ := k32_open (h W' hW); injection (Option.some.inj (show some (Value.slice A0 x.f0.length c0) = some (Value.slice A0_ x.f0.length c0_) from congrArg (fun l => l[0]?) he)) with ha_ _ _; rw [ha_]; exact g0_), l1, (fun W' hW => by obtain ⟨A0_, c0_, A1_, c1_, he, l0_, g0_, l1_, g1_⟩ := k32_open (h W' hW); injection (Option.some.inj (show some (Value.slice A1 x.f1.length c1) = some (Value.slice A1_ x.f1.length c1_) from congrArg (fun l => l[1]?) he)) with ha_ _ _; rw [ha_]; exact g1_)⟩
theorem k32_mkF (W : World) (ok : Nat → Prop) (x : S32) {A0 : Option Addr} {c0 : Nat} (l0 : x.f0.length ≤ c0) (g0 : Kd.F (Kd.int .u8) W ok A0 x.f0.length x.f0) {A1 : Option Addr} {c1 : Nat} (l1 : x.f1.length ≤ c1) (g1 : Kd.F (Kd.int .u8) W ok A1 x.f1.length x.f1) : Kd.FK k32 W ok x [.slice A0 x.f0.length c0, .slice A1 x.f1.length c1] := fun W2 hW => k32_mk W2 x l0 (g0 W2 hW) l1 (g1 W2 hW)
def rd_T32 (xs : List S32) (i : Int) : S32 := xs.getD i.toNat z32
theorem at_T32 {w : World} {A : Option Addr} {n : Nat} {xs : List S32} (h : Kd.C k32 w A n xs) (i : Int) (h0 : 0 ≤ i) (h1 : i < n) : ∃ ad A0 c0 A1 c1, A = some ad ∧ w.cell? (ad.add (i.toNat * 2)) = some (.slice A0 (rd_T32 xs i).f0.length c0) ∧ w.cell? ⟨(ad.add (i.toNat * 2)).block, (ad.add (i.toNat * 2)).off + 1, none⟩ = some (.slice A1 (rd_T32 xs i).f1.length c1) ∧ (rd_T32 xs i).f0.length ≤ c0 ∧ (Kd.int .u8).C w A0 (rd_T32 xs i).f0.length (rd_T32 xs i).f0 ∧ (rd_T32 xs i).f1.length ≤ c1 ∧ (Kd.int .u8).C w A1 (rd_T32 xs i).f1.length (rd_T32 xs i).f1 := by
  obtain ⟨ad, c, e, _, hK, hc0⟩ := Kd.C_get h z32 i h0 h1
  have hc : ∀ j u, c[j]? = some u → w.cell? (ad.add (i.toNat * 2 + j)) = some u := hc0
  obtain ⟨A0, c0, A1, c1, rfl, l0, g0, l1, g1⟩ := k32_open hK
  exact ⟨ad, A0, c0, A1, c1, e, hc 0 _ rfl, by rw [← add_field _ _ 1 (by omega)]; exact hc 1 _ rfl, l0, g0, l1, g1⟩


section
variable {α : Type} {R : α → List Value → Prop} {sz : Nat}
theorem reps_take {ps : List α} {cs : List Value} (h : Reps R sz ps cs) (i : Nat) (hi : i ≤ ps.length) : Reps R sz (ps.take i) (cs.take (i * sz)) := by
  have hm : i * sz ≤ ps.length * sz := Nat.mul_le_mul_right _ hi
  refine ⟨by rw [List.length_take, List.length_take, h.1, Nat.min_eq_left hm, Nat.min_eq_left hi], fun j p hj => ?_⟩
  rw [List.getElem?_take] at hj
  split at hj
  · rename_i hji
    have h1 : (j + 1) * sz ≤ i * sz := Nat.mul_le_mul_right _ hji
    rw [Nat.succ_mul] at h1
    rw [List.drop_take, List.take_take, Nat.min_eq_left (by omega)]
    exact h.2 j p hj
  · cases hj
theorem reps_drop {ps : List α} {cs : List Value} (h : Reps R sz ps cs) (i : Nat) : Reps R sz (ps.drop i) (cs.drop (i * sz)) := by
  refine ⟨by rw [List.length_drop, List.length_drop, h.1, Nat.sub_mul], fun j p hj => ?_⟩
  rw [List.getElem?_drop] at hj
  rw [List.drop_drop, ← Nat.add_mul]
  exact h.2 _ p hj
theorem reps_app {ps qs : List α} {cs ds : List Value} (h : Reps R sz ps cs) (h' : Reps R sz qs ds) : Reps R sz (ps ++ qs) (cs ++ ds) := by
  refine ⟨by rw [List.length_append, List.length_append, h.1, h'.1, Nat.add_mul], fun j p hj => ?_⟩
  rcases Nat.lt_or_ge j ps.length with hlt | hge
  · rw [List.getElem?_append_left hlt] at hj
    have h1 : j * sz + sz ≤ cs.length := by rw [h.1, ← Nat.succ_mul]; exact Nat.mul_le_mul_right _ hlt
    rw [List.drop_append_of_le_length (by omega), List.take_append_of_le_length (by rw [List.length_drop]; omega)]
    exact h.2 j p hj
  · rw [List.getElem?_append_right hge] at hj
    have h1 : j * sz = cs.length + (j - ps.length) * sz := by rw [h.1, ← Nat.add_mul]; congr 1; omega
    rw [h1, List.drop_append, List.drop_eq_nil_of_le (Nat.le_add_right _ _), List.nil_append, Nat.add_sub_cancel_left]
    exact h'.2 _ p hj
theorem reps_one {p : α} {c : List Value} (h : R p c) (hl : c.length = sz) : Reps R sz [p] c := by
  refine ⟨by simp [hl], fun j q hq => ?_⟩
  cases j with
  | zero =>
    obtain rfl := Option.some.inj hq
    rw [Nat.zero_mul, List.drop_zero, ← hl, List.take_length]
    exact h
  | succ j => simp at hq
end
theorem take_setIf (cur : Array Value) (j m : Nat) (u : Value) : (cur.setIfInBounds j u).toList.take m = (cur.toList.take m).set j u := by
  rw [Array.toList_setIfInBounds, List.take_set]
theorem chunk_get {sz j i : Nat} {inner : List Value} (hi : i < sz) : (chunk sz j inner)[i]? = inner[j * sz + i]? := by
  simp [chunk, List.getElem?_take, hi, List.getElem?_drop]
theorem chunk_set_ne {sz j m : Nat} {inner : List Value} {v : Value} (h : m < j * sz ∨ j * sz + sz ≤ m) : chunk sz j (inner.set m v) = chunk sz j inner := by
  apply List.ext_getElem?
  intro i
  rcases Nat.lt_or_ge i sz with hi | hi
  · rw [chunk_get hi, chunk_get hi, List.getElem?_set_ne (by omega)]
  · simp [chunk, List.getElem?_take, Nat.not_lt.2 hi]
theorem chunk_set_eq {sz j i : Nat} {inner : List Value} {v : Value} (h : i < sz) : chunk sz j (inner.set (j * sz + i) v) = (chunk sz j inner).set i v := by
  apply List.ext_getElem?
  intro q
  rcases Nat.lt_or_ge q sz with hq | hq
  · rw [chunk_get hq]
    by_cases e : i = q
    · subst e
      rw [List.getElem?_set, List.getElem?_set, if_pos rfl, if_pos rfl]
      have : (j * sz + i < inner.length) ↔ (i < (chunk sz j inner).length) := by simp [chunk]; omega
      by_cases hb : j * sz + i < inner.length
      · rw [if_pos hb, if_pos (this.1 hb)]
      · rw [if_neg hb, if_neg (fun h => hb (this.2 h))]
    · rw [List.getElem?_set_ne (by omega), List.getElem?_set_ne e, chunk_get hq]
  · rw [List.getElem?_eq_none (by simp [chunk]; omega), List.getElem?_eq_none (by simp [chunk]; omega)]
end Go.Proofs.Ythfplgfpodmphaa.Ms
