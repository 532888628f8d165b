/- Texts of this claim, merged by a program: Mk Ma Ol Msl Oa Ob Mb Mbe Mf Mg Og Oh Oi Mh Mc Mp Oj Om Md Me Os -/
import Derived.Test.YthfplgfpodmphaaProg
import Derived.Below
import Derived.Deep.Draws
import Derived.Deep.AppendLies
import Derived.Maps.AppendAt
import Derived.OwnWalk
import Derived.Laws.BytesArg
import Derived.Laws.MakeOwn
import Derived.Laws.OwnMore
import Derived.Deep.OwnRows
import Derived.Tactics
import Derived.Lib.ConvBytes
import Derived.Laws.Slices
import Derived.WalkKit
import Derived.KernelRfl
import Derived.RowKit3
import Derived.Deep.LoopGhost
import Derived.Deep.QuietTactic
import Derived.BigQuiet
import Derived.WideLaws
import Derived.Deep.DeepCutAuto
import Derived.Deep.CutBlock
import Derived.Deep.RegionHeld3
import Derived.Laws.Rows
import Derived.Lib.AppendStr
import Derived.ArgAppend
import Derived.Laws.IdiomCopy
import Derived.OrdersHeld
import Derived.Laws.BitsLemmas
import Derived.RowKit
import Derived.Lib.SliceRun
import Derived.Outline
import Derived.Lib.Bytealg
import Derived.Lib.BytesEntry
import Derived.Laws.Externs
import Derived.Lib.AppendZeros
import Derived.Lib.AppendZerosOnto
import Derived.Shelf.Spec.SlicesInsert
import Derived.Laws.CopyOwn
import Derived.Deep.RegionLaw
import Derived.Test.YthfplgfpodmphaaPa
namespace Go.Proofs.Ythfplgfpodmphaa
open Go Go.RowKit Go.Proofs.YthfplgfpodmphaaW.PrintWords Go.Proofs.YthfplgfpodmphaaW.PrintLast Go.Proofs.YthfplgfpodmphaaW.PrintMore
theorem bq {w W V : World} (h : Aside0 (Below w.heap.size w W)) (hc : Below w.heap.size w W → Below w.heap.size w V := by intro h_; repeat (first | (with_reducible first | exact h_ | apply below_alloc | apply pw_below_drewN | apply below_drew1) | exact h_)) : Below w.heap.size w V := hc h.out
theorem bqs {w W V : World} {g : Nat} (h : Aside0 (Below w.heap.size w W)) (hg : Aside0 (w.heap.size ≤ g)) (hc : Below w.heap.size w W → w.heap.size ≤ g → Below w.heap.size w V := by intro h_ g_; repeat (first | (with_reducible first | exact h_ | apply below_alloc | apply pw_below_drewN | apply below_drew1 | refine below_set ?_ g_) | exact h_)) : Below w.heap.size w V := hc h.out hg.out
theorem bkq {W V : World} {g : Nat} {o : Obj} (h : Aside0 (W.heap[g]? = some o)) (hc : W.heap[g]? = some o → V.heap[g]? = some o := by intro h_; (with_reducible repeat (first | refine blk_drewN ?_ _ | refine blk_drew ?_ | refine blk_alloc ?_ _)); exact h_) : V.heap[g]? = some o := hc h.out
theorem rq {α : Type} {d : Kd α} {e base : Nat} {W V : World} {ok : Nat → Prop} {v : Value} {xs : List α} (h : Aside0 (d.R e W base ok v xs)) (hc : d.R e W base ok v xs → d.R e V base ok v xs := by intro h_; (with_reducible repeat (first | apply Kd.R_alloc | apply Kd.R_drewN | apply Kd.R_drew)); exact h_) : d.R e V base ok v xs := hc h.out
theorem mapq {α : Type} {a b : α} (h : a = b := by (try simp only [List.map_toArray, List.map_cons, List.map_nil]); first | done | rfl | (simp only [List.length_drop, List.length_take]; rfl)) : a = b := h
theorem zq {a b m k : Nat} (h : a + 4 ≤ b) (hk : b ≤ k ∧ k < m) : a ≤ k := by omega
theorem mq {b m B M : Nat} (hb : b = B) (hm : m = M) (k : Nat) (h : B ≤ k ∧ k < M) : b ≤ k ∧ k < m := by rw [hb, hm]; exact h
theorem dec3 (a : Int) : decide ((0 : Int) ≤ a) = false ∨ (decide ((0 : Int) ≤ a) = true ∧ decide (a ≤ 999) = true) ∨ (decide ((0 : Int) ≤ a) = true ∧ decide (a ≤ 999) = false) := by rcases Decidable.em (0 ≤ a) with h | h <;> rcases Decidable.em (a ≤ 999) with h2 | h2 <;> simp [h, h2]
end Go.Proofs.Ythfplgfpodmphaa
namespace Go.Proofs.Ythfplgfpodmphaa.Ms
open Go.RowKit Go.Proofs.YthfplgfpodmphaaW.PrintWords Go.Proofs.YthfplgfpodmphaaW.PrintLast Go.Proofs.YthfplgfpodmphaaW.PrintMore
attribute [local go_sem] max2_int min2_int max_two min_two max_three min_three max_four min_four
set_option linter.unusedVariables false
set_option linter.unusedSimpArgs false
set_option maxRecDepth 100000

section
open Go.RowKit
variable {α : Type} {d : Kd α} {e : Nat} {w w1 W : World} {base : Nat} {A : Option Addr} {xs : List α}
def chunk (sz j : Nat) (inner : List Value) : List Value := (inner.drop (j * sz)).take sz
/-- A fresh row: its block from base on, maybe with more room than its slice says; what it leads to is fresh, and not it. -/
def Fr (d : Kd α) (e : Nat) (w : World) (base : Nat) (A : Option Addr) (xs : List α) : Prop :=
  xs = [] ∨ ∃ g cur, A = some ⟨g, 0, none⟩ ∧ base ≤ g ∧ w.heap[g]? = some (.cells cur e (0, 0)) ∧ xs.length * d.sz ≤ cur.size ∧ xs.length ≤ maxLen ∧ Reps (d.M w base (fun k => k ≠ g)) d.sz xs (cur.toList.take (xs.length * d.sz))
theorem cell_of_heap {g j : Nat} {cur : Array Value} {t : TypeId} (h : w.heap[g]? = some (.cells cur t (0, 0))) : w.cell? ⟨g, j, none⟩ = cur[j]? ∧ w.frozen? ⟨g, j, none⟩ = false := by
  constructor <;> simp [World.cell?, World.frozen?, h]
theorem Fr.C (h : Fr d e w base A xs) : d.C w A xs.length xs := by
  rcases h with rfl | ⟨g, cur, rfl, hb, hg, hs, hm, hr⟩
  · exact ⟨rfl, by simp, fun h => absurd h (by simp)⟩
  · refine ⟨rfl, by unfold maxLen at hm; omega, fun _ => ⟨_, rfl, fun j p hj => ⟨_, d.K_len (d.K_of_M (hr.2 j p hj)), d.K_of_M (hr.2 j p hj), fun i u hu => ?_⟩⟩⟩
    have hjl := (List.getElem?_eq_some_iff.1 hj).1
    rw [add_plain, (cell_of_heap hg).1]
    rw [List.getElem?_take] at hu
    split at hu
    · rename_i hi
      rw [List.getElem?_drop, List.getElem?_take] at hu
      split at hu
      · rw [Array.getElem?_toList] at hu
        exact hu
      · cases hu
    · cases hu
theorem Fr.below (h : Fr d e w base A xs) (hb : Below w.heap.size w w1) : Fr d e w1 base A xs := by
  rcases h with rfl | ⟨g, cur, rfl, hbg, hg, hs, hm, hr⟩
  · exact .inl rfl
  · have hlt := (Array.getElem?_eq_some_iff.1 hg).1
    exact .inr ⟨g, cur, rfl, hbg, (hb.block g hlt).trans hg, hs, hm, hr.imp_ (fun _ _ hp => Kd.M_below hp hb)⟩
theorem Fr.lower {b : Nat} (h : Fr d e w base A xs) (hb : b ≤ base) : Fr d e w b A xs := by
  rcases h with rfl | ⟨g, cur, rfl, hbg, hg, hs, hm, hr⟩
  · exact .inl rfl
  · exact .inr ⟨g, cur, rfl, Nat.le_trans hb hbg, hg, hs, hm, hr.imp_ (fun _ _ hp => d.M_lower hb hp)⟩
theorem heap_alloc_self (w : World) (o : Obj) : (w.alloc o).heap[w.heap.size]? = some o := by
  show (w.heap.push o)[w.heap.size]? = some o
  simp
theorem heap_set_same {g j : Nat} {cur : Array Value} {t : TypeId} (u : Value) (h : w.heap[g]? = some (.cells cur t (0, 0))) : (w.setCell ⟨g, j, none⟩ u).heap[g]? = some (.cells (cur.setIfInBounds j u) t (0, 0)) := heap_setCell_same w g j cur t u h
end




def errW : Option Int → Value
  | none => .nilIface
  | some c => .iface 0 (.int .i64 c)
theorem errW_none : errW none = .nilIface := rfl
theorem errW_some (c : Int) : errW (some c) = .iface 0 (.int .i64 c) := rfl

theorem info5 : (Try.prog.info? 5).map (fun i => (i.zero, i.size, i.bytes)) = some (some (.int .u8 0), 1, 1) := by kernel_rfl
theorem info32 : (Try.prog.info? 42).map (fun i => (i.zero, i.size, i.bytes)) = some (some (.agg #[(.slice none 0 0), (.slice none 0 0)]), 2, 48) := by kernel_rfl
-- the values' own types
def rd_L1 (xs : List (List Int)) (i : Int) : (List Int) := xs.getD i.toNat ([] : List Int)
theorem at_L1 {w : World} {A : Option Addr} {n : Nat} {xs : List (List Int)} (h : Kd.C (Kd.slice 5 (Kd.int .u8)) w A n xs) (i : Int) (h0 : 0 ≤ i) (h1 : i < n) : ∃ ad A0 c0, A = some ad ∧ w.cell? (ad.add i.toNat) = some (.slice A0 (rd_L1 xs i).length c0) ∧ (rd_L1 xs i).length ≤ c0 ∧ (Kd.int .u8).C w A0 (rd_L1 xs i).length (rd_L1 xs i) := by
  obtain ⟨ad, c, e, _, hK, hc0⟩ := Kd.C_get h ([] : List Int) i h0 h1
  have hc : ∀ j u, c[j]? = some u → w.cell? (ad.add (i.toNat * 1 + j)) = some u := hc0
  obtain ⟨A0, c0, rfl, l0, g0⟩ := hK
  exact ⟨ad, A0, c0, e, by have hq := hc 0 _ rfl; rwa [Nat.mul_one, Nat.add_zero] at hq, l0, g0⟩

/-! #### struct type 32 -/
structure S32 where
  f0 : (List Int)
  f1 : (List Int)
def z32 : S32 := ⟨([] : List Int), ([] : List Int)⟩
def k32 : Kd S32 := Kd.iso (Kd.pair (Kd.slice 5 (Kd.int .u8)) (Kd.slice 5 (Kd.int .u8))) (fun x : S32 => (x.f0, x.f1))
theorem k32_open {w : World} {x : S32} {cs : List Value} (h : k32.K w x cs) : ∃ A0 c0 A1 c1, cs = [.slice A0 x.f0.length c0, .slice A1 x.f1.length c1] ∧ x.f0.length ≤ c0 ∧ (Kd.int .u8).C w A0 x.f0.length x.f0 ∧ x.f1.length ≤ c1 ∧ (Kd.int .u8).C w A1 x.f1.length x.f1 := by
  obtain ⟨_, _, rfl, ⟨A0, c0, rfl, l0, g0⟩, ⟨A1, c1, rfl, l1, g1⟩⟩ := h
  exact ⟨A0, c0, A1, c1, rfl, l0, g0, l1, g1⟩
theorem k32_openM {w : World} {base : Nat} {ok : Nat → Prop} {x : S32} {cs : List Value} (h : k32.M w base ok x cs) : ∃ v0 v1, cs = [v0, v1] ∧ (Kd.int .u8).R 5 w base ok v0 x.f0 ∧ (Kd.int .u8).R 5 w base ok v1 x.f1 := by
  obtain ⟨_, _, rfl, ⟨v0, rfl, g0⟩, ⟨v1, rfl, g1⟩⟩ := h
  exact ⟨v0, v1, rfl, g0, g1⟩
theorem k32_mkM (w : World) (base : Nat) (ok : Nat → Prop) (x : S32) {v0 : Value} (g0 : (Kd.int .u8).R 5 w base ok v0 x.f0) {v1 : Value} (g1 : (Kd.int .u8).R 5 w base ok v1 x.f1) : k32.M w base ok x [v0, v1] := ⟨[v0], [v1], rfl, ⟨v0, rfl, g0⟩, ⟨v1, rfl, g1⟩⟩
def rd_T32 (xs : List S32) (i : Int) : S32 := xs.getD i.toNat z32
theorem at_T32 {w : World} {A : Option Addr} {n : Nat} {xs : List S32} (h : Kd.C k32 w A n xs) (i : Int) (h0 : 0 ≤ i) (h1 : i < n) : ∃ ad A0 c0 A1 c1, A = some ad ∧ w.cell? (ad.add (i.toNat * 2)) = some (.slice A0 (rd_T32 xs i).f0.length c0) ∧ w.cell? ⟨(ad.add (i.toNat * 2)).block, (ad.add (i.toNat * 2)).off + 1, none⟩ = some (.slice A1 (rd_T32 xs i).f1.length c1) ∧ (rd_T32 xs i).f0.length ≤ c0 ∧ (Kd.int .u8).C w A0 (rd_T32 xs i).f0.length (rd_T32 xs i).f0 ∧ (rd_T32 xs i).f1.length ≤ c1 ∧ (Kd.int .u8).C w A1 (rd_T32 xs i).f1.length (rd_T32 xs i).f1 := by
  obtain ⟨ad, c, e, _, hK, hc0⟩ := Kd.C_get h z32 i h0 h1
  have hc : ∀ j u, c[j]? = some u → w.cell? (ad.add (i.toNat * 2 + j)) = some u := hc0
  obtain ⟨A0, c0, A1, c1, rfl, l0, g0, l1, g1⟩ := k32_open hK
  exact ⟨ad, A0, c0, A1, c1, e, hc 0 _ rfl, by rw [← add_field _ _ 1 (by omega)]; exact hc 1 _ rfl, l0, g0, l1, g1⟩


section
variable {α : Type} {R : α → List Value → Prop} {sz : Nat}
theorem reps_take {ps : List α} {cs : List Value} (h : Reps R sz ps cs) (i : Nat) (hi : i ≤ ps.length) : Reps R sz (ps.take i) (cs.take (i * sz)) := by
  have hm : i * sz ≤ ps.length * sz := Nat.mul_le_mul_right _ hi
  refine ⟨by rw [List.length_take, List.length_take, h.1, Nat.min_eq_left hm, Nat.min_eq_left hi], fun j p hj => ?_⟩
  rw [List.getElem?_take] at hj
  split at hj
  · rename_i hji
    have h1 : (j + 1) * sz ≤ i * sz := Nat.mul_le_mul_right _ hji
    rw [Nat.succ_mul] at h1
    rw [List.drop_take, List.take_take, Nat.min_eq_left (by omega)]
    exact h.2 j p hj
  · cases hj
theorem reps_drop {ps : List α} {cs : List Value} (h : Reps R sz ps cs) (i : Nat) : Reps R sz (ps.drop i) (cs.drop (i * sz)) := by
  refine ⟨by rw [List.length_drop, List.length_drop, h.1, Nat.sub_mul], fun j p hj => ?_⟩
  rw [List.getElem?_drop] at hj
  rw [List.drop_drop, ← Nat.add_mul]
  exact h.2 _ p hj
theorem reps_app {ps qs : List α} {cs ds : List Value} (h : Reps R sz ps cs) (h' : Reps R sz qs ds) : Reps R sz (ps ++ qs) (cs ++ ds) := by
  refine ⟨by rw [List.length_append, List.length_append, h.1, h'.1, Nat.add_mul], fun j p hj => ?_⟩
  rcases Nat.lt_or_ge j ps.length with hlt | hge
  · rw [List.getElem?_append_left hlt] at hj
    have h1 : j * sz + sz ≤ cs.length := by rw [h.1, ← Nat.succ_mul]; exact Nat.mul_le_mul_right _ hlt
    rw [List.drop_append_of_le_length (by omega), List.take_append_of_le_length (by rw [List.length_drop]; omega)]
    exact h.2 j p hj
  · rw [List.getElem?_append_right hge] at hj
    have h1 : j * sz = cs.length + (j - ps.length) * sz := by rw [h.1, ← Nat.add_mul]; congr 1; omega
    rw [h1, List.drop_append, List.drop_eq_nil_of_le (Nat.le_add_right _ _), List.nil_append, Nat.add_sub_cancel_left]
    exact h'.2 _ p hj
theorem reps_one {p : α} {c : List Value} (h : R p c) (hl : c.length = sz) : Reps R sz [p] c := by
  refine ⟨by simp [hl], fun j q hq => ?_⟩
  cases j with
  | zero =>
    obtain rfl := Option.some.inj hq
    rw [Nat.zero_mul, List.drop_zero, ← hl, List.take_length]
    exact h
  | succ j => simp at hq
end
theorem take_setIf (cur : Array Value) (j m : Nat) (u : Value) : (cur.setIfInBounds j u).toList.take m = (cur.toList.take m).set j u := by
  rw [Array.toList_setIfInBounds, List.take_set]
theorem chunk_get {sz j i : Nat} {inner : List Value} (hi : i < sz) : (chunk sz j inner)[i]? = inner[j * sz + i]? := by
  simp [chunk, List.getElem?_take, hi, List.getElem?_drop]
theorem chunk_set_ne {sz j m : Nat} {inner : List Value} {v : Value} (h : m < j * sz ∨ j * sz + sz ≤ m) : chunk sz j (inner.set m v) = chunk sz j inner := by
  apply List.ext_getElem?
  intro i
  rcases Nat.lt_or_ge i sz with hi | hi
  · rw [chunk_get hi, chunk_get hi, List.getElem?_set_ne (by omega)]
  · simp [chunk, List.getElem?_take, Nat.not_lt.2 hi]
theorem chunk_set_eq {sz j i : Nat} {inner : List Value} {v : Value} (h : i < sz) : chunk sz j (inner.set (j * sz + i) v) = (chunk sz j inner).set i v := by
  apply List.ext_getElem?
  intro q
  rcases Nat.lt_or_ge q sz with hq | hq
  · rw [chunk_get hq]
    by_cases e : i = q
    · subst e
      rw [List.getElem?_set, List.getElem?_set, if_pos rfl, if_pos rfl]
      have : (j * sz + i < inner.length) ↔ (i < (chunk sz j inner).length) := by simp [chunk]; omega
      by_cases hb : j * sz + i < inner.length
      · rw [if_pos hb, if_pos (this.1 hb)]
      · rw [if_neg hb, if_neg (fun h => hb (this.2 h))]
    · rw [List.getElem?_set_ne (by omega), List.getElem?_set_ne e, chunk_get hq]
  · rw [List.getElem?_eq_none (by simp [chunk]; omega), List.getElem?_eq_none (by simp [chunk]; omega)]
set_option maxHeartbeats 1000000 in
theorem clone18 (A : Option Addr) (c : Nat) (l : List Int) (w : World) (hr : Kd.C (Kd.int .u8) w A l.length l) (hc : l.length ≤ c) (hb : l.length < 140737488355328) :
    Calls Try.prog 73 #[.slice A l.length c] w fun e w' => ∃ v, e = .returned v ∧ Kd.R (Kd.int .u8) 5 w' w.heap.size (fun _ => True) v l ∧ Below w.heap.size w w' := by
  have HR := Aside0.mk hr
  have HC := Aside0.mk hc
  clear hr hc
  have qT := fun (w : World) (a : Option Addr) (n c n' c' : Nat) => Lib.run_eql_slice_nil (P := Try.prog) w 22 5 a n c n' c' Try.underlying22
  cases A with
  | none =>
    have hn : l.length = 0 := by
      rcases Nat.eq_zero_or_pos l.length with h | h
      · exact h
      · obtain ⟨ad, e, _⟩ := HR.out.2.2 h
        cases e
    obtain rfl : l = [] := List.eq_nil_of_length_eq_zero hn
    go_enter Try.func73, Try.ntmps73
    go_wp2_with fail
    go_ret
    exact ⟨_, rfl, Kd.R_nil _ _ _ _ _, Below.refl _ _⟩
  | some ad =>
    go_enter Try.func73, Try.ntmps73
    go_wp2_with (first | ((with_reducible refine gate_dst (N := 5) rfl ?_); refine Kd.R_lit (Kd.int .u8) _ 5 ?hg (N := 5) ?hd (xs := ([] : List Int)) (inner := []) (ok := fun _ => True) (okp := fun _ => True) ?hr ?hp (fun _ hk => hk) trivial (Below.refl _ _) (Nat.le_refl _) (by simp) ?_; (case hd => rfl); (case hg => rfl); (case hr => go_simp <;> rfl); (case hp => exact (Reps.none _ _)); intro v1 w3 ho4 hb4 hg_ hnew_; clear hg_ hnew_; have HB := Aside0.mk hb4; have HO := Aside0.mk ho4; clear hb4 ho4) | ((with_reducible refine gate_builtin (b := .append) (xs := #[.tmp 5, .tmp 6]) rfl ?_); at_builtin; refine Kd.R_append_rows (Kd.int .u8) (w0 := w) w.heap.size rfl (.tmp 5) (.tmp 6) 22 5 (.int .u8 0) 1 rfl Try.underlying22 info5 rfl (by decide) (by omega) v1 [] l _ _ _ (fun _ => True) (fun _ => False) rfl rfl ?aO ?aR (fun _ _ h => h) (fun _ h => h.elim) ?aF ?aB ?aS ?aL ?_; (case aR => exact Kd.C_below HR.out HB.out); (case aB => exact HB.out); (case aF => exact (fun _ _ => trivial)); (case aO => exact HO.out); (case aS => exact HB.out.size); (case aL => simp; omega); intro v2 w5 ho hb5 hg hat; have HB5 := Aside0.mk hb5; have HO5 := Aside0.mk ho; clear ho hb5 hg hat))
    go_ret
    exact ⟨_, rfl, HO5.out, HB5.out⟩
set_option maxHeartbeats 1000000 in
theorem clip25 (A : Option Addr) (c n : Nat) (w : World) (hc : n ≤ c) (hm : c ≤ 9223372036854775807) (hA : A = none → n = 0) :
    Calls Try.prog 101 #[.slice A n c] w fun e w' => e = .returned (.slice A n n) ∧ w = w' := by
  have HC := Aside0.mk hc
  cases A with
  | none =>
    obtain rfl := hA rfl
    clear hA
    go_enter Try.func101, Try.ntmps101
    go_wp2_with fail
    go_ret
    exact ⟨rfl, rfl⟩
  | some ad =>
    clear hA
    go_enter Try.func101, Try.ntmps101
    go_wp2_with fail
    go_ret
    exact ⟨rfl, rfl⟩
theorem info3 : (Try.prog.info? 3).map (fun i => (i.zero, i.size, i.bytes)) = some (some (.int .i64 0), 1, 8) := by kernel_rfl
set_option maxHeartbeats 1000000 in
theorem clone75 (A : Option Addr) (c : Nat) (l : List Int) (w : World) (hr : Kd.C (Kd.int .i64) w A l.length l) (hc : l.length ≤ c) (hb : l.length < 1000000) :
    Calls Try.prog 75 #[.slice A l.length c] w fun e w' => ∃ v, e = .returned v ∧ Kd.R (Kd.int .i64) 3 w' w.heap.size (fun _ => True) v l ∧ Below w.heap.size w w' := by
  have HR := Aside0.mk hr
  have HC := Aside0.mk hc
  clear hr hc
  have qT := fun (w : World) (a : Option Addr) (n c n' c' : Nat) => Lib.run_eql_slice_nil (P := Try.prog) w 29 3 a n c n' c' Try.underlying29
  cases A with
  | none =>
    have hn : l.length = 0 := by
      rcases Nat.eq_zero_or_pos l.length with h | h
      · exact h
      · obtain ⟨ad, e, _⟩ := HR.out.2.2 h
        cases e
    obtain rfl : l = [] := List.eq_nil_of_length_eq_zero hn
    go_enter Try.func75, Try.ntmps75
    go_wp2_with fail
    go_ret
    exact ⟨_, rfl, Kd.R_nil _ _ _ _ _, Below.refl _ _⟩
  | some ad =>
    go_enter Try.func75, Try.ntmps75
    go_wp2_with (first | ((with_reducible refine gate_dst (N := 5) rfl ?_); refine Kd.R_lit (Kd.int .i64) _ 3 ?hg (N := 5) ?hd (xs := ([] : List Int)) (inner := []) (ok := fun _ => True) (okp := fun _ => True) ?hr ?hp (fun _ hk => hk) trivial (Below.refl _ _) (Nat.le_refl _) (by simp) ?_; (case hd => rfl); (case hg => rfl); (case hr => go_simp <;> rfl); (case hp => exact (Reps.none _ _)); intro v1 w3 ho4 hb4 hg_ hnew_; clear hg_ hnew_; have HB := Aside0.mk hb4; have HO := Aside0.mk ho4; clear hb4 ho4) | ((with_reducible refine gate_builtin (b := .append) (xs := #[.tmp 5, .tmp 6]) rfl ?_); at_builtin; refine Kd.R_append_rows (Kd.int .i64) (w0 := w) w.heap.size rfl (.tmp 5) (.tmp 6) 29 3 (.int .i64 0) 8 rfl Try.underlying29 info3 rfl (by decide) (by omega) v1 [] l _ _ _ (fun _ => True) (fun _ => False) rfl rfl ?aO ?aR (fun _ _ h => h) (fun _ h => h.elim) ?aF ?aB ?aS ?aL ?_; (case aR => exact Kd.C_below HR.out HB.out); (case aB => exact HB.out); (case aF => exact (fun _ _ => trivial)); (case aO => exact HO.out); (case aS => exact HB.out.size); (case aL => simp; omega); intro v2 w5 ho hb5 hg hat; have HB5 := Aside0.mk hb5; have HO5 := Aside0.mk ho; clear ho hb5 hg hat))
    go_ret
    exact ⟨_, rfl, HO5.out, HB5.out⟩
set_option maxHeartbeats 1000000 in
theorem clip100 (A : Option Addr) (c n : Nat) (w : World) (hc : n ≤ c) (hm : c ≤ 9223372036854775807) (hA : A = none → n = 0) :
    Calls Try.prog 100 #[.slice A n c] w fun e w' => e = .returned (.slice A n n) ∧ w = w' := by
  have HC := Aside0.mk hc
  cases A with
  | none =>
    obtain rfl := hA rfl
    clear hA
    go_enter Try.func100, Try.ntmps100
    go_wp2_with fail
    go_ret
    exact ⟨rfl, rfl⟩
  | some ad =>
    clear hA
    go_enter Try.func100, Try.ntmps100
    go_wp2_with fail
    go_ret
    exact ⟨rfl, rfl⟩

set_option maxHeartbeats 1000000 in
theorem clip102 (A : Option Addr) (c n : Nat) (w : World) (hc : n ≤ c) (hm : c ≤ 9223372036854775807) (hA : A = none → n = 0) :
    Calls Try.prog 102 #[.slice A n c] w fun e w' => e = .returned (.slice A n n) ∧ w = w' := by
  have HC := Aside0.mk hc
  cases A with
  | none =>
    obtain rfl := hA rfl
    clear hA
    go_enter Try.func102, Try.ntmps102
    go_wp2_with fail
    go_ret
    exact ⟨rfl, rfl⟩
  | some ad =>
    clear hA
    go_enter Try.func102, Try.ntmps102
    go_wp2_with fail
    go_ret
    exact ⟨rfl, rfl⟩

theorem cell_old {W w' : World} {a : Addr} {v : Value} (hb : Below W.heap.size W w') (h : W.cell? a = some v) : w'.cell? a = some v := (hb.cell (World.block_lt_of_cell? W a h)).trans h
theorem rd_get (l : List S32) (k : Nat) (h : k < l.length) : rd_T32 l (k : Int) = l[k] := by
  simp [rd_T32, List.getD_eq_getElem?_getD, List.getElem?_eq_getElem h]
theorem S_cap {w : World} {base : Nat} {ok : Nat → Prop} {A : Option Addr} {c : Nat} {l : List S32} (h : Kd.S k32 42 w base ok (.slice A l.length c) l) : c ≤ 9223372036854775807 ∧ (A = none → l.length = 0) := by
  obtain ⟨inner, hown⟩ := Kd.S_own h
  rcases hown.2 with ⟨h', h0⟩ | ⟨g', cap', cur, h', _, _, h1, h2, _⟩
  · simp only [Value.slice.injEq] at h'
    exact ⟨by omega, fun _ => h'.2.1⟩
  · simp only [Value.slice.injEq] at h'
    unfold maxLen at h2
    exact ⟨by omega, fun e => by rw [e] at h'; cases h'.1⟩
def StillEnd (w : World) (l : List S32) (e : Ending) (w' : World) : Prop := ∃ A', e = .returned (.slice A' l.length l.length) ∧ (∃ c, Kd.S k32 42 w' w.heap.size (fun _ => True) (.slice A' l.length c) l) ∧ Below w.heap.size w w'
set_option maxHeartbeats 1000000 in
set_option maxRecDepth 100000 in
theorem still16 (A : Option Addr) (c : Nat) (l : List S32) (w : World) (hr : Kd.C k32 w A l.length l) (hc : l.length ≤ c) (hn : l.length < 1000000) (hv : ∀ x ∈ l, x.f0.length < 140737488355328 ∧ x.f1.length < 140737488355328) :
    Calls Try.prog 76 #[.slice A l.length c] w (StillEnd w l) := by
  have HR := Aside0.mk hr
  have HC := Aside0.mk hc
  have HN := Aside0.mk hn
  have HVs := Aside0.mk hv
  clear hr hc hv
  go_enter Try.func76, Try.ntmps76
  go_wp2_with fail
  go_loopw [3, 8] (fun v3 v8 w' => ∃ j : Nat, v8 = .int .i64 j ∧ j ≤ l.length ∧ Aside0 (Kd.S k32 42 w' w.heap.size (fun _ => True) v3 (l.take j)) ∧ Aside0 (Below w.heap.size w w')) (fun _ v8 _ => l.length - (intOf v8).toNat)
  case atStart => exact ⟨0, rfl, Nat.zero_le _, ⟨Kd.S_nil _ _ _ _ _⟩, ⟨Below.refl _ _⟩⟩
  case round =>
    obtain ⟨j, rfl, hj, HS, HB⟩ := hrel
    by_cases hjl : j < l.length
    · obtain ⟨ad, A0, c0, A1, c1, e, h0, h1, l0, g0, l1, g1⟩ := at_T32 (Kd.C_below HR.out HB.out) (j : Int) (by omega) (by omega)
      cases e
      simp only [Int.toNat_natCast] at h0 h1
      have hx : rd_T32 l (j : Int) = l[j] := rd_get l j hjl
      have HV := Aside0.mk (HVs.out _ (List.getElem_mem hjl))
      have HT := Aside0.mk (show l.take j ++ [l[j]] = l.take (j + 1) from by simp)
      rw [hx] at h0 h1 l0 g0 l1 g1
      generalize l[j] = x at h0 h1 l0 g0 l1 g1 HV HT
      have HL0 := Aside0.mk l0
      have HG0 := Aside0.mk g0
      have HL1 := Aside0.mk l1
      have HG1 := Aside0.mk g1
      clear l0 g0 l1 g1 hx
      go_wp2_with fail
      have hb1 : Below wr.heap.size wr (wr.alloc (.cells #[.slice A0 x.f0.length c0, .slice A1 x.f1.length c1] 42)) := below_alloc (Below.refl _ _) _
      have hk1 := heap_alloc_self wr (.cells #[.slice A0 x.f0.length c0, .slice A1 x.f1.length c1] 42)
      have z0 := (cell_of_heap (j := 0) hk1).1
      have z1 := (cell_of_heap (j := 1) hk1).1
      refine start_ (n := 11) (S := fun w' => w'.cell? ⟨wr.heap.size, 0, none⟩ = some (.slice A0 x.f0.length c0) ∧ w'.cell? ⟨wr.heap.size, 1, none⟩ = some (.slice A1 x.f1.length c1)) (ds := []) #[false, false, false, false, false, false, false, false, false, false, false] (by kernel_rfl) rfl rfl ⟨z0, z1⟩ (fun hHeld => ?_)
      have hW : Below wr.heap.size wr (wr.alloc (.cells #[.slice A0 x.f0.length c0, .slice A1 x.f1.length c1] 42)).drew := below_drew hb1
      generalize (wr.alloc (.cells #[.slice A0 x.f0.length c0, .slice A1 x.f1.length c1] 42)).drew = W2 at hHeld hW ⊢
      have HW := Aside0.mk hW
      have HS2 := Aside0.mk (Kd.S_below HS.out hW)
      have HB2 := Aside0.mk (below_then HB.out HB.out.size hW)
      clear hW hb1 hk1 z0 z1
      refine pure_ (i := 0) (N := some 12) (v := ?_) (a' := ?_) #[true, false, false, false, false, false, false, false, false, false, false] rfl rfl (by kernel_rfl) (fun _ _ _ h => h) (Or.inl ⟨by rfl, ?_⟩) ?_ ?_
      rotate_left
      · intro w'
        go_simp
        with_reducible rfl
      rotate_left
      · simp only [Act.put, List.setIfInBounds_toArray, List.set_cons_zero, List.set_cons_succ, i64_w, i32_w]
        rfl
      refine pure_ (i := 1) (N := some 13) (v := ?_) (a' := ?_) #[true, true, false, false, false, false, false, false, false, false, false] rfl rfl (by kernel_rfl) (fun _ _ _ h => h) (Or.inl ⟨by rfl, ?_⟩) ?_ ?_
      rotate_left
      · intro w'
        go_simp
        with_reducible rfl
      rotate_left
      · simp only [Act.put, List.setIfInBounds_toArray, List.set_cons_zero, List.set_cons_succ, i64_w, i32_w]
        rfl
      refine pure_ (i := 4) (N := some 16) (v := ?_) (a' := ?_) #[true, true, false, false, true, false, false, false, false, false, false] rfl rfl (by kernel_rfl) (fun _ _ _ h => h) (Or.inl ⟨by rfl, ?_⟩) ?_ ?_
      rotate_left
      · intro w'
        go_simp
        with_reducible rfl
      rotate_left
      · simp only [Act.put, List.setIfInBounds_toArray, List.set_cons_zero, List.set_cons_succ, i64_w, i32_w]
        rfl
      refine take_ (i := 2) (N := some 14) (v := ?_) (a' := ?_) #[true, true, true, false, true, false, false, false, false, false, false] rfl rfl (by kernel_rfl) (fun _ _ _ h => h) (Or.inl ⟨by rfl, ?_⟩) hHeld ?_ ?_
      rotate_left
      · rintro w' ⟨s0, s1⟩
        go_simp
        with_reducible rfl
      rotate_left
      · simp only [Act.put, List.setIfInBounds_toArray, List.set_cons_zero, List.set_cons_succ, i64_w, i32_w]
        rfl
      refine take_ (i := 5) (N := some 17) (v := ?_) (a' := ?_) #[true, true, true, false, true, true, false, false, false, false, false] rfl rfl (by kernel_rfl) (fun _ _ _ h => h) (Or.inl ⟨by rfl, ?_⟩) hHeld ?_ ?_
      rotate_left
      · rintro w' ⟨s0, s1⟩
        go_simp
        with_reducible rfl
      rotate_left
      · simp only [Act.put, List.setIfInBounds_toArray, List.set_cons_zero, List.set_cons_succ, i64_w, i32_w]
        rfl
      refine one_ (i := 3) (N := some 15) #[true, true, true, true, true, true, false, false, false, false, false] rfl rfl (by kernel_rfl) (by decide) (fun K hK => ?_)
      refine goes_ Try.func73 (by kernel_rfl) rfl #[.slice A0 x.f0.length c0] (by rfl) rfl rfl (by (try simp only [List.map_toArray, List.map_cons, List.map_nil]); first | done | rfl) ?_
      refine (clone18 A0 c0 x.f0 W2 (Kd.C_below HG0.out HW.out) HL0.out HV.out.1).mono ?_
      rintro e w3 ⟨u0, rfl, ho0, hb3⟩
      have HS3 := Aside0.mk (Kd.S_elder' HS2.out (Kd.R_base ho0) hb3)
      have HU3 := Aside0.mk (Kd.R_lower ho0 HB2.out.size)
      have HB3 := Aside0.mk (below_then HB2.out HB2.out.size hb3)
      have HG3 := Aside0.mk (Kd.C_below (Kd.C_below HG1.out HW.out) hb3)
      have hHeld' := Aside0.mk (show _ ∧ _ from ⟨cell_old hb3 hHeld.1, cell_old hb3 hHeld.2⟩)
      clear ho0 hb3
      refine ⟨_, rfl, ?_⟩
      refine hK.out _ _ hHeld'.out (fun hHeld => ?_)
      clear hK K
      refine norm_ (a' := ?_) ?_ ?_
      rotate_left
      · show Act.put _ (some 15) _ = _
        simp only [Act.put, List.setIfInBounds_toArray, List.set_cons_zero, List.set_cons_succ, i64_w, i32_w]
        rfl
      clear hHeld'
      refine one_ (i := 6) (N := some 18) #[true, true, true, true, true, true, true, false, false, false, false] rfl rfl (by kernel_rfl) (by decide) (fun K hK => ?_)
      refine goes_ Try.func73 (by kernel_rfl) rfl #[.slice A1 x.f1.length c1] (by rfl) rfl rfl (by (try simp only [List.map_toArray, List.map_cons, List.map_nil]); first | done | rfl) ?_
      refine (clone18 A1 c1 x.f1 w3 HG3.out HL1.out HV.out.2).mono ?_
      rintro e w4 ⟨u1, rfl, ho1, hb4⟩
      have HS4 := Aside0.mk (Kd.S_elder' HS3.out (Kd.R_base ho1) hb4)
      have HU4 := Aside0.mk (Kd.R_elder' HU3.out (Kd.R_base ho1) hb4)
      have HX4 := Aside0.mk (Kd.R_lower (Kd.R_new' ho1 (Kd.R_lt HU3.out)) HB3.out.size)
      have HB4 := Aside0.mk (below_then HB3.out HB3.out.size hb4)
      have hHeld' := Aside0.mk (show _ ∧ _ from ⟨cell_old hb4 hHeld.1, cell_old hb4 hHeld.2⟩)
      clear ho1 hb4
      obtain ⟨P0, p0, rfl⟩ := Kd.R_slice HU4.out
      obtain ⟨P1, p1, rfl⟩ := Kd.R_slice HX4.out
      refine ⟨_, rfl, ?_⟩
      refine hK.out _ _ hHeld'.out (fun hHeld => ?_)
      clear hK K
      refine norm_ (a' := ?_) ?_ ?_
      rotate_left
      · show Act.put _ (some 18) _ = _
        simp only [Act.put, List.setIfInBounds_toArray, List.set_cons_zero, List.set_cons_succ, i64_w, i32_w]
        rfl
      clear hHeld'
      have HH4 := Aside0.mk hHeld
      refine pure_ (i := 7) (N := some 19) (v := ?_) (a' := ?_) #[true, true, true, true, true, true, true, true, false, false, false] rfl rfl (by kernel_rfl) (fun _ _ _ h => h) (Or.inl ⟨by rfl, ?_⟩) ?_ ?_
      rotate_left
      · intro w'
        go_simp
        with_reducible rfl
      rotate_left
      · simp only [Act.put, List.setIfInBounds_toArray, List.set_cons_zero, List.set_cons_succ, i64_w, i32_w]
        rfl
      refine one_ (i := 8) (N := some 20) #[true, true, true, true, true, true, true, true, true, false, false] rfl rfl (by kernel_rfl) (by decide) (fun K hK => ?_)
      refine value_ (w1 := ?_) (v := ?_) (by rfl) rfl ?_ ?_
      rotate_left 2
      · go_simp
        constructor
        · rfl
        · rfl
      refine hK.out _ _ ⟨cell_old (below_alloc (Below.refl _ _) _) hHeld.1, cell_old (below_alloc (Below.refl _ _) _) hHeld.2⟩ (fun hHeld => ?_)
      clear hK K
      refine norm_ (a' := ?_) ?_ ?_
      rotate_left
      · show Act.put _ (some 20) _ = _
        simp only [Act.put, List.setIfInBounds_toArray, List.set_cons_zero, List.set_cons_succ, i64_w, i32_w]
        rfl
      refine one_ (i := 9) (N := some 21) #[true, true, true, true, true, true, true, true, true, true, false] rfl rfl (by kernel_rfl) (by decide) (fun K hK => ?_)
      refine Kd.S_append_step k32 (w0 := w) w.heap.size (by rfl) (.tmp 12) (.tmp 20) 30 42 (.agg #[(.slice none 0 0), (.slice none 0 0)]) 48 rfl Try.underlying30 info32 rfl (by decide) (by omega) u3 (l.take j) x [.slice P0 x.f0.length p0, .slice P1 x.f1.length p1] (fun _ => True) (fun k_ => some k_ = (Value.slice P0 x.f0.length p0).ownBlock ∨ some k_ = (Value.slice P1 x.f1.length p1).ownBlock) rfl rfl ?aP (fun k_ hk_ => hk_.elim (fun h_ => (Kd.R_mono (ok' := fun k_ => True ∧ some k_ ≠ u3.ownBlock) (Kd.R_apart' HU4.out (Kd.S_typed HS4.out) (by decide)) (fun k_ hk => ⟨trivial, hk.2⟩)).1 k_ h_.symm) (fun h_ => (Kd.R_mono (ok' := fun k_ => True ∧ some k_ ≠ u3.ownBlock) (Kd.R_apart' HX4.out (Kd.S_typed HS4.out) (by decide)) (fun k_ hk => ⟨trivial, hk.2⟩)).1 k_ h_.symm)) ?aF ?aO ?aB ?aS ?aL ?_
      case aP => exact k32_mkM _ _ _ x (Kd.R_mono (Kd.R_tight rfl (Kd.R_mono (ok' := fun k_ => True ∧ some k_ ≠ u3.ownBlock) (Kd.R_apart' HU4.out (Kd.S_typed HS4.out) (by decide)) (fun k_ hk => ⟨trivial, hk.2⟩))) (fun _ h_ => Or.inl h_)) (Kd.R_mono (Kd.R_tight rfl (Kd.R_mono (ok' := fun k_ => True ∧ some k_ ≠ u3.ownBlock) (Kd.R_apart' HX4.out (Kd.S_typed HS4.out) (by decide)) (fun k_ hk => ⟨trivial, hk.2⟩))) (fun _ h_ => Or.inr h_))
      case aB => exact HB4.out
      case aF => exact (fun _ _ => trivial)
      case aO => exact Kd.S_mono HS4.out (fun k_ hk => ⟨trivial, fun e_ => e_.elim (fun h_ => hk.1.2 h_) (fun h_ => hk.2 h_)⟩)
      case aS => exact HB4.out.size
      case aL => have := HN.out; rw [List.length_take]; omega
      intro v5 w5 ho hb hg hat
      have HS5 := Aside0.mk ho
      have HB5 := Aside0.mk hb
      have hne : some wr.heap.size ≠ u3.ownBlock := fun e => Nat.lt_irrefl _ (Kd.S_lt HS.out _ e.symm)
      have hH5 := Aside0.mk (show _ ∧ _ from ⟨(World.cell?_of_block (hg.block wr.heap.size (World.block_lt_of_cell? w4 _ HH4.out.1) hne)).trans HH4.out.1, (World.cell?_of_block (hg.block wr.heap.size (World.block_lt_of_cell? w4 _ HH4.out.1) hne)).trans HH4.out.2⟩)
      clear ho hg hat
      refine hK.out _ _ hH5.out (fun hHeld => ?_)
      clear hK K
      refine norm_ (a' := ?_) ?_ ?_
      rotate_left
      · show Act.put _ (some 21) _ = _
        simp only [Act.put, List.setIfInBounds_toArray, List.set_cons_zero, List.set_cons_succ, i64_w, i32_w]
        rfl
      refine pure_ (i := 10) (N := some 3) (v := ?_) (a' := ?_) #[true, true, true, true, true, true, true, true, true, true, true] rfl rfl (by kernel_rfl) (fun _ _ _ h => h) (Or.inl ⟨by rfl, ?_⟩) ?_ ?_
      rotate_left
      · intro w'
        go_simp
        with_reducible rfl
      rotate_left
      · simp only [Act.put, List.setIfInBounds_toArray, List.set_cons_zero, List.set_cons_succ, i64_w, i32_w]
        rfl
      refine done_ (by kernel_rfl) ?_
      have HS6 := Aside0.mk (show Kd.S k32 42 w5 w.heap.size (fun _ => True) v5 (l.take (j + 1)) from by rw [← HT.out]; exact HS5.out)
      clear hHeld
      try go_wp2
      go_roundw
      case rel => exact ⟨j + 1, by go_num, by omega, HS6, HB5⟩
      case measure => simp [intOf]; omega
    · obtain rfl : j = l.length := by omega
      have HS2 := Aside0.mk (show Kd.S k32 42 wr w.heap.size (fun _ => True) u3 l from by have := HS.out; rw [List.take_length] at this; exact this)
      obtain ⟨A3, c3, rfl⟩ := Kd.S_slice HS2.out
      obtain ⟨_, hc3, hC3⟩ := Kd.S_reads' HS2.out
      have hcm : c3 ≤ 9223372036854775807 ∧ (A3 = none → l.length = 0) := S_cap HS2.out
      clear hC3
      go_wp2_with fail
      refine (clip25 A3 c3 l.length _ hc3 hcm.1 hcm.2).mono ?_
      rintro e w2 ⟨rfl, rfl⟩
      go_wp2_with fail
      go_ret
      exact ⟨A3, rfl, ⟨c3, HS2.out⟩, HB.out⟩
end Go.Proofs.Ythfplgfpodmphaa.Ms
namespace Go.Proofs.Ythfplgfpodmphaa.Ob
open Go.RowKit Go.Proofs.YthfplgfpodmphaaW.PrintWords Go.Proofs.YthfplgfpodmphaaW.PrintLast Go.Proofs.YthfplgfpodmphaaW.PrintMore
attribute [local go_sem] max2_int min2_int max_two min_two max_three min_three max_four min_four
set_option linter.unusedVariables false
set_option linter.unusedSimpArgs false
abbrev errW := Ms.errW
theorem errW_none : errW none = .nilIface := rfl
theorem errW_some (c : Int) : errW (some c) = .iface 0 (.int .i64 c) := rfl

theorem info3 : (Try.prog.info? 3).map (fun i => (i.zero, i.size, i.bytes)) = some (some (.int .i64 0), 1, 8) := by kernel_rfl
theorem info5 : (Try.prog.info? 5).map (fun i => (i.zero, i.size, i.bytes)) = some (some (.int .u8 0), 1, 1) := by kernel_rfl
theorem info22 : (Try.prog.info? 22).map (fun i => (i.zero, i.size, i.bytes)) = some (some (.slice none 0 0), 1, 24) := by kernel_rfl
-- the values' own types
def rd_L1 (xs : List (List Int)) (i : Int) : (List Int) := xs.getD i.toNat ([] : List Int)
theorem at_L1 {w : World} {A : Option Addr} {n : Nat} {xs : List (List Int)} (h : Kd.C (Kd.slice 5 (Kd.int .u8)) w A n xs) (i : Int) (h0 : 0 ≤ i) (h1 : i < n) : ∃ ad A0 c0, A = some ad ∧ w.cell? (ad.add i.toNat) = some (.slice A0 (rd_L1 xs i).length c0) ∧ (rd_L1 xs i).length ≤ c0 ∧ (Kd.int .u8).C w A0 (rd_L1 xs i).length (rd_L1 xs i) := by
  obtain ⟨ad, c, e, _, hK, hc0⟩ := Kd.C_get h ([] : List Int) i h0 h1
  have hc : ∀ j u, c[j]? = some u → w.cell? (ad.add (i.toNat * 1 + j)) = some u := hc0
  obtain ⟨A0, c0, rfl, l0, g0⟩ := hK
  exact ⟨ad, A0, c0, e, by have hq := hc 0 _ rfl; rwa [Nat.mul_one, Nat.add_zero] at hq, l0, g0⟩

/-! #### struct type 42 -/
abbrev S42 := Ms.S32
abbrev z42 : S42 := Ms.z32
/-! #### struct type 24 -/
structure S24 where
  f0 : Int
  f1 : Int
  f2 : (List Int)
  f3 : (List Int)
  f4 : (List Int)
def z24 : S24 := ⟨(0 : Int), (0 : Int), ([] : List Int), ([] : List Int), ([] : List Int)⟩
def slices_Clone_byte_byte.f (l0 : List Int) : Option (List Int) := if l0.length < 140737488355328 then some l0 else none
theorem slices_Clone_byte_byte.calls (A0 : Option Addr) (c0 : Nat) (l0 : List Int) (r : List Int) (w : World) (hr0 : Kd.C (Kd.int .u8) w A0 l0.length l0) (hc0 : l0.length ≤ c0) (h : slices_Clone_byte_byte.f l0 = some r) :
  Calls Try.prog 73 #[.slice A0 l0.length c0] w fun e w' => ∃ v0_ : Value, e = .returned (v0_) ∧ Kd.R (Kd.int .u8) 5 w' w.heap.size (fun _ => True) v0_ r ∧ Below w.heap.size w w' := by
 unfold slices_Clone_byte_byte.f at h
 split at h
 ·
  rename_i hl
  obtain rfl := Option.some.inj h
  exact Ms.clone18 A0 c0 l0 w hr0 hc0 hl
 ·
  cases h
/-! ### regs_Read: function 29 -/
def regs_Read.f (l0 : List Int) : Option (Int × List Int × Int) := (slices_Clone_byte_byte.f l0).bind fun t152 => (some (0, t152, 0))
set_option maxHeartbeats 8000000 in
set_option maxRecDepth 100000 in
theorem regs_Read.calls (A0 : Option Addr) (c0 : Nat) (l0 : List Int) (r1 : Int) (r2 : List Int) (r3 : Int) (w : World) (hr0 : Kd.C (Kd.int .u8) w A0 l0.length l0) (hc0 : l0.length ≤ c0) (h : regs_Read.f l0 = some (r1, r2, r3)) :
  Calls Try.prog 29 #[.slice A0 l0.length c0] w fun e w' => ∃ v1_ : Value, e = .returned (.agg #[.int .i64 r1, v1_, .int .i64 r3]) ∧ Kd.R (Kd.int .u8) 5 w' w.heap.size (fun _ => True) v1_ r2 ∧ Below w.heap.size w w' := by
 have hu34 := Try.underlying34
 have HR0 := Aside0.mk hr0
 have HC0 := Aside0.mk hc0
 clear hr0 hc0
 have HB := Aside0.mk (Below.refl w.heap.size w)
 have H : ((slices_Clone_byte_byte.f l0).bind fun t152 => (some (0, t152, 0))) = some (r1, r2, r3) := h
 clear h
 replace H := Option.bind_eq_some_iff.mp H
 obtain ⟨t152, A20, H⟩ := H
 replace H : (some (0, t152, 0)) = some (r1, r2, r3) := H
 have A2 := Aside0.mk A20
 clear A20
 simp only [Option.some.injEq, Prod.mk.injEq] at H
 obtain ⟨rfl, rfl, rfl⟩ := H
 go_enter Try.func29, Try.ntmps29
 go_wp2_with (first | ((with_reducible refine gate_dst (N := 2) rfl ?_); refine box_event ?hg (N := 2) ?hd (cs := #[.int .i64 0, .slice none 0 0, .int .i64 0]) (t := 34) ?hr ?_; (case hd => rfl); (case hg => rfl); (case hr => go_simp <;> rfl); intro gb151 hg w3 hbox hb; have n0_ := Aside0.mk (below_step (bq HB) hb); have n1_ := Aside0.mk (hbox); have n2_ := Aside0.mk ((by rw [hg]; exact (below_size (bq HB)) : w.heap.size ≤ gb151)); have n3_ := Aside0.mk ((by rw [hg]; exact (below_size (bq HB)) : w.heap.size ≤ gb151)); clear HB; have HB := n0_; have BK151 := n1_; have GW151 := n2_; have GE151 := n3_; clear n0_ n1_ n2_ n3_; clear hb hbox hg) | ((with_reducible refine gate_callee (f := 73) rfl ?_); refine goesL_ (some 4) rfl rfl Try.func73 (by kernel_rfl) rfl #[.slice A0 l0.length c0] rfl mapq ?_; (with_reducible refine (slices_Clone_byte_byte.calls _ _ l0 t152 _ ?side1 ?side2 A2.out).mono ?_); (case side1 => repeat (first | exact (Kd.C_below HR0.out HB.out) | (with_reducible refine Kd.C_alloc ?_ _) | (with_reducible refine Kd.C_drewN ?_ _) | (with_reducible refine Kd.C_drew ?_))); (case side2 => exact HC0.out); rintro e w4 ⟨v153, rfl, ho0, hb⟩; refine ⟨_, rfl, ?_⟩; have n0_ := Aside0.mk (Kd.R_lower ho0 (below_size (bqs HB GE151))); have n1_ := Aside0.mk (blk_below (g := gb151) (o := .cells #[.int .i64 0, .slice none 0 0, .int .i64 0] 34 (0, 0)) (bkq BK151) hb); have n2_ := Aside0.mk (below_step (bqs HB GE151) hb); clear BK151; clear HB; have HO154 := n0_; have BK151 := n1_; have HB := n2_; clear n0_ n1_ n2_; (try clear hb); (try clear hb2); (try clear hk); (try clear hi); (try clear ho0); obtain ⟨Ao5, co5, eo5⟩ := Kd.R_slice HO154.out; subst eo5; have hcz6_0 : w4.cell? ⟨gb151, 0, none⟩ = some (.int .i64 0) := (blk_cell BK151.out 0).trans rfl; have hcz6_1 : w4.cell? ⟨gb151, 1, none⟩ = some (.slice none 0 0) := (blk_cell BK151.out 1).trans rfl; have hcz6_2 : w4.cell? ⟨gb151, 2, none⟩ = some (.int .i64 0) := (blk_cell BK151.out 2).trans rfl; have hfz6_0 := blk_frozen BK151.out 0; have hfz6_1 := blk_frozen BK151.out 1; have hfz6_2 := blk_frozen BK151.out 2))
 refine bodyPost_ret (results_cell_row rfl _ _ gb151 34 #[.int .i64 0, .slice Ao5 t152.length co5, .int .i64 0] (0, 0) _ rfl (by (with_reducible repeat (first | refine blk_drewN ?_ _ | refine blk_drew ?_ | refine blk_alloc ?_ _)); refine blk_put (cs := #[.int .i64 0, .slice Ao5 t152.length co5, .int .i64 0]) ?_ 2 _ rfl; (with_reducible repeat (first | refine blk_drewN ?_ _ | refine blk_drew ?_ | refine blk_alloc ?_ _)); refine blk_put (cs := #[.int .i64 0, .slice none 0 0, .int .i64 0]) ?_ 1 _ rfl; (with_reducible repeat (first | refine blk_drewN ?_ _ | refine blk_drew ?_ | refine blk_alloc ?_ _)); refine blk_put (cs := #[.int .i64 0, .slice none 0 0, .int .i64 0]) ?_ 0 _ rfl; (with_reducible repeat (first | refine blk_drewN ?_ _ | refine blk_drew ?_ | refine blk_alloc ?_ _)); exact BK151.out) Try.underlying34 rfl (by kernel_rfl)) rfl ?_
 exact ⟨_, by first | rfl | (simp [errW_none, errW_some] <;> rfl) | (simp [*, errW_none, errW_some] <;> rfl), by (with_reducible repeat (first | apply Kd.R_alloc | apply Kd.R_drewN | apply Kd.R_drew)); exact Kd.R_mono (Kd.R_far (p := ⟨gb151, 2, none⟩) (Kd.R_far (p := ⟨gb151, 1, none⟩) (Kd.R_far (p := ⟨gb151, 0, none⟩) (Kd.R_types HO154.out BK151.out (by decide)) (fun _ hk => hk.2) (.int .i64 0)) (fun _ hk => hk.2) (.slice Ao5 t152.length co5)) (fun _ hk => hk.2) (.int .i64 0)) (fun _ hk => trivial), by repeat (first | (with_reducible first | exact HB.out | apply below_alloc | apply pw_below_drewN | apply below_drew1 | refine below_set ?_ GE151.out) | exact HB.out)⟩

/-! ### regs_Write: function 30 -/
def regs_Write.f (l0 : List Int) (l1 : List Int) : Option (List Int × Int × List Int × Int) := if (l1.length : Int) > 16 then ((slices_Clone_byte_byte.f l0).bind fun t156 => (some (t156, 1, ([] : List Int), 0))) else ((slices_Clone_byte_byte.f l1).bind fun t159 => (some (t159, 0, ([] : List Int), 0)))
set_option maxHeartbeats 8000000 in
set_option maxRecDepth 100000 in
theorem regs_Write.calls (A0 : Option Addr) (c0 : Nat) (l0 : List Int) (A1 : Option Addr) (c1 : Nat) (l1 : List Int) (r1 : List Int) (r2 : Int) (r3 : List Int) (r4 : Int) (w : World) (hr0 : Kd.C (Kd.int .u8) w A0 l0.length l0) (hc0 : l0.length ≤ c0) (hr1 : Kd.C (Kd.int .u8) w A1 l1.length l1) (hc1 : l1.length ≤ c1) (h : regs_Write.f l0 l1 = some (r1, r2, r3, r4)) :
  Calls Try.prog 30 #[.slice A0 l0.length c0, .slice A1 l1.length c1] w fun e w' => ∃ v0_ v2_ : Value, e = .returned (.tuple #[v0_, .agg #[.int .i64 r2, v2_, .int .i64 r4]]) ∧ Kd.R (Kd.int .u8) 5 w' w.heap.size (fun k_ => some k_ ≠ (v2_ : Value).ownBlock) v0_ r1 ∧ Kd.R (Kd.int .u8) 5 w' w.heap.size (fun k_ => some k_ ≠ (v0_ : Value).ownBlock) v2_ r3 ∧ Below w.heap.size w w' := by
 have hu34 := Try.underlying34
 have HR0 := Aside0.mk hr0
 have HC0 := Aside0.mk hc0
 clear hr0 hc0
 have HR1 := Aside0.mk hr1
 have HC1 := Aside0.mk hc1
 clear hr1 hc1
 have HB := Aside0.mk (Below.refl w.heap.size w)
 have H : (if (l1.length : Int) > 16 then ((slices_Clone_byte_byte.f l0).bind fun t156 => (some (t156, 1, ([] : List Int), 0))) else ((slices_Clone_byte_byte.f l1).bind fun t159 => (some (t159, 0, ([] : List Int), 0)))) = some (r1, r2, r3, r4) := h
 clear h
 by_cases c3 : (l1.length : Int) > 16
 ·
  rw [if_pos c3] at H
  have c3b0 : decide (16 < (l1.length : Int)) = true := decide_eq_true c3
  have c3b1 : decide (16 < l1.length) = true := decide_eq_true (by omega)
  clear c3
  replace H := Option.bind_eq_some_iff.mp H
  obtain ⟨t156, A40, H⟩ := H
  replace H : (some (t156, 1, ([] : List Int), 0)) = some (r1, r2, r3, r4) := H
  have A4 := Aside0.mk A40
  clear A40
  simp only [Option.some.injEq, Prod.mk.injEq] at H
  obtain ⟨rfl, rfl, rfl, rfl⟩ := H
  go_enter Try.func30, Try.ntmps30
  go_wp2_with (first | ((with_reducible refine gate_dst (N := 5) rfl ?_); refine box_event ?hg (N := 5) ?hd (cs := #[.int .i64 0, .slice none 0 0, .int .i64 0]) (t := 34) ?hr ?_; (case hd => rfl); (case hg => rfl); (case hr => go_simp <;> rfl); intro gb155 hg w5 hbox hb; have n0_ := Aside0.mk (below_step (bq HB) hb); have n1_ := Aside0.mk (hbox); have n2_ := Aside0.mk ((by rw [hg]; exact (below_size (bq HB)) : w.heap.size ≤ gb155)); have n3_ := Aside0.mk ((by rw [hg]; exact (below_size (bq HB)) : w.heap.size ≤ gb155)); clear HB; have HB := n0_; have BK155 := n1_; have GW155 := n2_; have GE155 := n3_; clear n0_ n1_ n2_ n3_; clear hb hbox hg) | ((with_reducible refine gate_callee (f := 73) rfl ?_); refine goesL_ (some 10) rfl rfl Try.func73 (by kernel_rfl) rfl #[.slice A0 l0.length c0] rfl mapq ?_; (with_reducible refine (slices_Clone_byte_byte.calls _ _ l0 t156 _ ?side1 ?side2 A4.out).mono ?_); (case side1 => repeat (first | exact (Kd.C_below HR0.out HB.out) | (with_reducible refine Kd.C_alloc ?_ _) | (with_reducible refine Kd.C_drewN ?_ _) | (with_reducible refine Kd.C_drew ?_))); (case side2 => exact HC0.out); rintro e w6 ⟨v157, rfl, ho0, hb⟩; refine ⟨_, rfl, ?_⟩; have n0_ := Aside0.mk (Kd.R_lower ho0 (below_size (bqs HB GE155))); have n1_ := Aside0.mk (blk_below (g := gb155) (o := .cells #[.int .i64 0, .slice none 0 0, .int .i64 0] 34 (0, 0)) (bkq BK155) hb); have n2_ := Aside0.mk (below_step (bqs HB GE155) hb); clear BK155; clear HB; have HO158 := n0_; have BK155 := n1_; have HB := n2_; clear n0_ n1_ n2_; (try clear hb); (try clear hb2); (try clear hk); (try clear hi); (try clear ho0); have hcz7_0 : w6.cell? ⟨gb155, 0, none⟩ = some (.int .i64 0) := (blk_cell BK155.out 0).trans rfl; have hcz7_1 : w6.cell? ⟨gb155, 1, none⟩ = some (.slice none 0 0) := (blk_cell BK155.out 1).trans rfl; have hcz7_2 : w6.cell? ⟨gb155, 2, none⟩ = some (.int .i64 0) := (blk_cell BK155.out 2).trans rfl; have hfz7_0 := blk_frozen BK155.out 0; have hfz7_1 := blk_frozen BK155.out 1; have hfz7_2 := blk_frozen BK155.out 2))
  refine bodyPost_ret (results_tc rfl _ _ gb155 34 #[.int .i64 1, .slice none 0 0, .int .i64 0] (0, 0) _ rfl (by (with_reducible repeat (first | refine blk_drewN ?_ _ | refine blk_drew ?_ | refine blk_alloc ?_ _)); refine blk_put (cs := #[.int .i64 1, .slice none 0 0, .int .i64 0]) ?_ 2 _ rfl; (with_reducible repeat (first | refine blk_drewN ?_ _ | refine blk_drew ?_ | refine blk_alloc ?_ _)); refine blk_put (cs := #[.int .i64 1, .slice none 0 0, .int .i64 0]) ?_ 1 _ rfl; (with_reducible repeat (first | refine blk_drewN ?_ _ | refine blk_drew ?_ | refine blk_alloc ?_ _)); refine blk_put (cs := #[.int .i64 0, .slice none 0 0, .int .i64 0]) ?_ 0 _ rfl; (with_reducible repeat (first | refine blk_drewN ?_ _ | refine blk_drew ?_ | refine blk_alloc ?_ _)); exact BK155.out) Try.underlying34 rfl (by kernel_rfl)) rfl ?_
  exact ⟨_, _, by first | rfl | (simp [errW_none, errW_some] <;> rfl) | (simp [*, errW_none, errW_some] <;> rfl), by (with_reducible repeat (first | apply Kd.R_alloc | apply Kd.R_drewN | apply Kd.R_drew)); exact Kd.R_mono (Kd.R_far (p := ⟨gb155, 2, none⟩) (Kd.R_far (p := ⟨gb155, 1, none⟩) (Kd.R_far (p := ⟨gb155, 0, none⟩) (Kd.R_types HO158.out BK155.out (by decide)) (fun _ hk => hk.2) (.int .i64 1)) (fun _ hk => hk.2) (.slice none 0 0)) (fun _ hk => hk.2) (.int .i64 0)) (fun _ hk => (by simp [Value.ownBlock])), by first | exact Kd.R_nil _ _ _ _ _ | exact Kd.N_nil _ _ _ _ _ | exact Kd.V_nil _ _ _ _ _ | exact Kd.Q_nil _ _ _ _ _ | exact Kd.S_nil _ _ _ _ _, by repeat (first | (with_reducible first | exact HB.out | apply below_alloc | apply pw_below_drewN | apply below_drew1 | refine below_set ?_ GE155.out) | exact HB.out)⟩
 ·
  rw [if_neg c3] at H
  have c3b0 : decide (16 < (l1.length : Int)) = false := decide_eq_false c3
  have c3b1 : decide (16 < l1.length) = false := decide_eq_false (by omega)
  clear c3
  replace H := Option.bind_eq_some_iff.mp H
  obtain ⟨t159, A80, H⟩ := H
  replace H : (some (t159, 0, ([] : List Int), 0)) = some (r1, r2, r3, r4) := H
  have A8 := Aside0.mk A80
  clear A80
  simp only [Option.some.injEq, Prod.mk.injEq] at H
  obtain ⟨rfl, rfl, rfl, rfl⟩ := H
  go_enter Try.func30, Try.ntmps30
  go_wp2_with (first | ((with_reducible refine gate_dst (N := 5) rfl ?_); refine box_event ?hg (N := 5) ?hd (cs := #[.int .i64 0, .slice none 0 0, .int .i64 0]) (t := 34) ?hr ?_; (case hd => rfl); (case hg => rfl); (case hr => go_simp <;> rfl); intro gb155 hg w9 hbox hb; have n0_ := Aside0.mk (below_step (bq HB) hb); have n1_ := Aside0.mk (hbox); have n2_ := Aside0.mk ((by rw [hg]; exact (below_size (bq HB)) : w.heap.size ≤ gb155)); have n3_ := Aside0.mk ((by rw [hg]; exact (below_size (bq HB)) : w.heap.size ≤ gb155)); clear HB; have HB := n0_; have BK155 := n1_; have GW155 := n2_; have GE155 := n3_; clear n0_ n1_ n2_ n3_; clear hb hbox hg) | ((with_reducible refine gate_callee (f := 73) rfl ?_); refine goesL_ (some 13) rfl rfl Try.func73 (by kernel_rfl) rfl #[.slice A1 l1.length c1] rfl mapq ?_; (with_reducible refine (slices_Clone_byte_byte.calls _ _ l1 t159 _ ?side1 ?side2 A8.out).mono ?_); (case side1 => repeat (first | exact (Kd.C_below HR1.out HB.out) | (with_reducible refine Kd.C_alloc ?_ _) | (with_reducible refine Kd.C_drewN ?_ _) | (with_reducible refine Kd.C_drew ?_))); (case side2 => exact HC1.out); rintro e w10 ⟨v160, rfl, ho0, hb⟩; refine ⟨_, rfl, ?_⟩; have n0_ := Aside0.mk (Kd.R_lower ho0 (below_size (bqs HB GE155))); have n1_ := Aside0.mk (blk_below (g := gb155) (o := .cells #[.int .i64 0, .slice none 0 0, .int .i64 0] 34 (0, 0)) (bkq BK155) hb); have n2_ := Aside0.mk (below_step (bqs HB GE155) hb); clear BK155; clear HB; have HO161 := n0_; have BK155 := n1_; have HB := n2_; clear n0_ n1_ n2_; (try clear hb); (try clear hb2); (try clear hk); (try clear hi); (try clear ho0); have hcz11_0 : w10.cell? ⟨gb155, 0, none⟩ = some (.int .i64 0) := (blk_cell BK155.out 0).trans rfl; have hcz11_1 : w10.cell? ⟨gb155, 1, none⟩ = some (.slice none 0 0) := (blk_cell BK155.out 1).trans rfl; have hcz11_2 : w10.cell? ⟨gb155, 2, none⟩ = some (.int .i64 0) := (blk_cell BK155.out 2).trans rfl; have hfz11_0 := blk_frozen BK155.out 0; have hfz11_1 := blk_frozen BK155.out 1; have hfz11_2 := blk_frozen BK155.out 2))
  refine bodyPost_ret (results_tc rfl _ _ gb155 34 #[.int .i64 0, .slice none 0 0, .int .i64 0] (0, 0) _ rfl (by (with_reducible repeat (first | refine blk_drewN ?_ _ | refine blk_drew ?_ | refine blk_alloc ?_ _)); refine blk_put (cs := #[.int .i64 0, .slice none 0 0, .int .i64 0]) ?_ 2 _ rfl; (with_reducible repeat (first | refine blk_drewN ?_ _ | refine blk_drew ?_ | refine blk_alloc ?_ _)); refine blk_put (cs := #[.int .i64 0, .slice none 0 0, .int .i64 0]) ?_ 1 _ rfl; (with_reducible repeat (first | refine blk_drewN ?_ _ | refine blk_drew ?_ | refine blk_alloc ?_ _)); refine blk_put (cs := #[.int .i64 0, .slice none 0 0, .int .i64 0]) ?_ 0 _ rfl; (with_reducible repeat (first | refine blk_drewN ?_ _ | refine blk_drew ?_ | refine blk_alloc ?_ _)); exact BK155.out) Try.underlying34 rfl (by kernel_rfl)) rfl ?_
  exact ⟨_, _, by first | rfl | (simp [errW_none, errW_some] <;> rfl) | (simp [*, errW_none, errW_some] <;> rfl), by (with_reducible repeat (first | apply Kd.R_alloc | apply Kd.R_drewN | apply Kd.R_drew)); exact Kd.R_mono (Kd.R_far (p := ⟨gb155, 2, none⟩) (Kd.R_far (p := ⟨gb155, 1, none⟩) (Kd.R_far (p := ⟨gb155, 0, none⟩) (Kd.R_types HO161.out BK155.out (by decide)) (fun _ hk => hk.2) (.int .i64 0)) (fun _ hk => hk.2) (.slice none 0 0)) (fun _ hk => hk.2) (.int .i64 0)) (fun _ hk => (by simp [Value.ownBlock])), by first | exact Kd.R_nil _ _ _ _ _ | exact Kd.N_nil _ _ _ _ _ | exact Kd.V_nil _ _ _ _ _ | exact Kd.Q_nil _ _ _ _ _ | exact Kd.S_nil _ _ _ _ _, by repeat (first | (with_reducible first | exact HB.out | apply below_alloc | apply pw_below_drewN | apply below_drew1 | refine below_set ?_ GE155.out) | exact HB.out)⟩

/-! ### bytes_Equal: function 57 -/
def bytes_Equal.f (l0 : List Int) (l1 : List Int) : Option (Bool) := some ((strOfNums l0).toList == (strOfNums l1).toList)
set_option maxHeartbeats 8000000 in
set_option maxRecDepth 100000 in
theorem bytes_Equal.calls (A0 : Option Addr) (c0 : Nat) (l0 : List Int) (A1 : Option Addr) (c1 : Nat) (l1 : List Int) (r : Bool) (w : World) (hr0 : Kd.C (Kd.int .u8) w A0 l0.length l0) (hc0 : l0.length ≤ c0) (hr1 : Kd.C (Kd.int .u8) w A1 l1.length l1) (hc1 : l1.length ≤ c1) (h : bytes_Equal.f l0 l1 = some r) :
  Calls Try.prog 57 #[.slice A0 l0.length c0, .slice A1 l1.length c1] w fun e w' => e = .returned (.bool r) ∧ Drawn0 w w' := by
 have HR0 := Aside0.mk hr0
 have HC0 := Aside0.mk hc0
 clear hr0 hc0
 have HR1 := Aside0.mk hr1
 have HC1 := Aside0.mk hc1
 clear hr1 hc1
 have H : (some ((strOfNums l0).toList == (strOfNums l1).toList)) = some r := h
 clear h
 obtain rfl := Option.some.inj H
 have hcv3 := Kd.C_string (P := Try.prog) (A := A0) (c := c0) Try.underlying22 Try.underlying5 Try.underlying9 HR0.out
 have hcv4 := Kd.C_string (P := Try.prog) (A := A1) (c := c1) Try.underlying22 Try.underlying5 Try.underlying9 HR1.out
 go_enter Try.func57, Try.ntmps57
 go_wp2
 go_ret
 exact ⟨by first | rfl | (simp; done) | (simp [*]; done), by repeat (first | exact Drawn0.refl _ | apply Drawn0.step)⟩

/-! ### regs_Cas: function 31 -/
def regs_Cas.j0 : Nat → List Int → List Int → Bool → Option (List Int × Int × List Int × Int)
 | 0, _, _, _ => none
 | k + 1, x0, x2, x16 => if x16 = true then ((slices_Clone_byte_byte.f x0).bind fun t164 => ((slices_Clone_byte_byte.f x0).bind fun t167 => (some (t164, 2, t167, 0)))) else ((regs_Write.f x0 x2).bind fun bt170 => (some (bt170.1, bt170.2.1, bt170.2.2.1, bt170.2.2.2)))
def regs_Cas.f (k : Nat) (l0 : List Int) (l1 : List Int) (l2 : List Int) : Option (List Int × Int × List Int × Int) := if (l2.length : Int) ≤ 16 then ((bytes_Equal.f l0 l1).bind fun t163 => (regs_Cas.j0 k l0 l2 (!t163))) else (regs_Cas.j0 k l0 l2 false)
theorem regs_Cas.mono_l : ∀ k, (∀ y0 y1 y2, LeO (regs_Cas.j0 k y0 y1 y2) (regs_Cas.j0 (k + 1) y0 y1 y2))
 | 0 => fun _ _ _ r h => by simp [regs_Cas.j0] at h
 | k + 1 => by
  have ih0 := regs_Cas.mono_l k
  ·
   intro y0 y1 y2
   unfold regs_Cas.j0
   repeat' first
   | (with_reducible exact ih0 _ _ _)
   | (with_reducible exact LeO.refl _)
   | (with_reducible exact LeO.none _)
   | (with_reducible refine LeO.ite ?_ ?_)
   | (with_reducible refine LeO.bind ?_ (fun _ => ?_))
   | exact ih0 _ _ _
   | exact LeO.none _
   | refine LeO.ite ?_ ?_
   | refine LeO.bind ?_ (fun _ => ?_)
theorem regs_Cas.mono : ∀ a0 a1 a2 k, LeO (regs_Cas.f k a0 a1 a2) (regs_Cas.f (k + 1) a0 a1 a2) := by
 intro a0 a1 a2 k
 have ih0 := regs_Cas.mono_l k
 unfold regs_Cas.f
 repeat' first
   | (with_reducible exact ih0 _ _ _)
   | (with_reducible exact LeO.refl _)
   | (with_reducible exact LeO.none _)
   | (with_reducible refine LeO.ite ?_ ?_)
   | (with_reducible refine LeO.bind ?_ (fun _ => ?_))
   | exact ih0 _ _ _
   | exact LeO.none _
   | refine LeO.ite ?_ ?_
   | refine LeO.bind ?_ (fun _ => ?_)
set_option maxHeartbeats 8000000 in
set_option maxRecDepth 100000 in
theorem regs_Cas.calls (k : Nat) (A0 : Option Addr) (c0 : Nat) (l0 : List Int) (A1 : Option Addr) (c1 : Nat) (l1 : List Int) (A2 : Option Addr) (c2 : Nat) (l2 : List Int) (r1 : List Int) (r2 : Int) (r3 : List Int) (r4 : Int) (w : World) (hr0 : Kd.C (Kd.int .u8) w A0 l0.length l0) (hc0 : l0.length ≤ c0) (hr1 : Kd.C (Kd.int .u8) w A1 l1.length l1) (hc1 : l1.length ≤ c1) (hr2 : Kd.C (Kd.int .u8) w A2 l2.length l2) (hc2 : l2.length ≤ c2) (h : regs_Cas.f k l0 l1 l2 = some (r1, r2, r3, r4)) :
  Calls Try.prog 31 #[.slice A0 l0.length c0, .slice A1 l1.length c1, .slice A2 l2.length c2] w fun e w' => ∃ v0_ v2_ : Value, e = .returned (.tuple #[v0_, .agg #[.int .i64 r2, v2_, .int .i64 r4]]) ∧ Kd.R (Kd.int .u8) 5 w' w.heap.size (fun k_ => some k_ ≠ (v2_ : Value).ownBlock) v0_ r1 ∧ Kd.R (Kd.int .u8) 5 w' w.heap.size (fun k_ => some k_ ≠ (v0_ : Value).ownBlock) v2_ r3 ∧ Below w.heap.size w w' := by
 have hu34 := Try.underlying34
 have HR0 := Aside0.mk hr0
 have HC0 := Aside0.mk hc0
 clear hr0 hc0
 have HR1 := Aside0.mk hr1
 have HC1 := Aside0.mk hc1
 clear hr1 hc1
 have HR2 := Aside0.mk hr2
 have HC2 := Aside0.mk hc2
 clear hr2 hc2
 have HB := Aside0.mk (Below.refl w.heap.size w)
 have H : (if (l2.length : Int) ≤ 16 then ((bytes_Equal.f l0 l1).bind fun t163 => (regs_Cas.j0 k l0 l2 (!t163))) else (regs_Cas.j0 k l0 l2 false)) = some (r1, r2, r3, r4) := h
 clear h
 have HC4 := Aside0.mk H
 clear H
 go_enter Try.func31, Try.ntmps31
 go_upto_region 1 with (first | ((with_reducible refine gate_dst (N := 7) rfl ?_); refine box_event ?hg (N := 7) ?hd (cs := #[.int .i64 0, .slice none 0 0, .int .i64 0]) (t := 34) ?hr ?_; (case hd => rfl); (case hg => rfl); (case hr => go_simp <;> rfl); intro gb162 hg w5 hbox hb; have n0_ := Aside0.mk (below_step (bq HB) hb); have n1_ := Aside0.mk (hbox); have n2_ := Aside0.mk ((by rw [hg]; exact (below_size (bq HB)) : w.heap.size ≤ gb162)); have n3_ := Aside0.mk ((by rw [hg]; exact (below_size (bq HB)) : w.heap.size ≤ gb162)); clear HB; have HB := n0_; have BK162 := n1_; have GW162 := n2_; have GE162 := n3_; clear n0_ n1_ n2_ n3_; clear hb hbox hg))
 (try simp only [Act.put, List.setIfInBounds_toArray, List.set_cons_zero, List.set_cons_succ])
 go_cut [16] (fun v16 wc => ∃ (kq : Nat) (x16_3 : Bool), v16 = .bool x16_3 ∧ Aside0 (regs_Cas.j0 kq l0 l2 x16_3 = some (r1, r2, r3, r4)) ∧ Aside0 (kq ≤ k) ∧ Aside0 (wc.heap[gb162]? = some (.cells #[.int .i64 0, (.slice none 0 0), .int .i64 0] 34 (0, 0))) ∧ Aside0 (Below w.heap.size w wc))
 case first =>
  have H := HC4.out
  clear HC4
  by_cases c6 : (l2.length : Int) ≤ 16
  ·
   rw [if_pos c6] at H
   have c6b0 : decide ((l2.length : Int) ≤ 16) = true := decide_eq_true c6
   have c6b1 : decide (l2.length ≤ 16) = true := decide_eq_true (by omega)
   clear c6
   (first | rw [c6b0] | (simp only [i64_w, i32_w]; rw [c6b0]) | skip)
   replace H := Option.bind_eq_some_iff.mp H
   obtain ⟨t163, A70, H⟩ := H
   replace H : (regs_Cas.j0 k l0 l2 (!t163)) = some (r1, r2, r3, r4) := H
   have A7 := Aside0.mk A70
   clear A70
   have H' := Aside0.mk H
   clear H
   go_wp2_with (first | (go_at_call 57; (with_reducible refine (bytes_Equal.calls _ _ l0 _ _ l1 t163 _ ?side1 ?side2 ?side3 ?side4 A7.out).mono ?_); (case side1 => repeat (first | exact (Kd.C_below HR0.out HB.out) | (with_reducible refine Kd.C_alloc ?_ _) | (with_reducible refine Kd.C_drewN ?_ _) | (with_reducible refine Kd.C_drew ?_))); (case side2 => exact HC0.out); (case side3 => repeat (first | exact (Kd.C_below HR1.out HB.out) | (with_reducible refine Kd.C_alloc ?_ _) | (with_reducible refine Kd.C_drewN ?_ _) | (with_reducible refine Kd.C_drew ?_))); (case side4 => exact HC1.out); rintro e w' ⟨rfl, ⟨nd, rfl⟩⟩))
   go_meet
   case rel => exact ⟨_, (!t163), (by first | rfl | (simp; done) | (simp [*]; done)), H', ⟨by first | omega | exact Nat.le_refl _⟩, ⟨by (with_reducible repeat (first | refine blk_drewN ?_ _ | refine blk_drew ?_ | refine blk_alloc ?_ _)); exact BK162.out⟩, ⟨by repeat (first | (with_reducible first | exact HB.out | apply below_alloc | apply pw_below_drewN | apply below_drew1 | refine below_set ?_ GE162.out) | exact HB.out)⟩⟩
  ·
   rw [if_neg c6] at H
   have c6b0 : decide ((l2.length : Int) ≤ 16) = false := decide_eq_false c6
   have c6b1 : decide (l2.length ≤ 16) = false := decide_eq_false (by omega)
   clear c6
   (first | rw [c6b0] | (simp only [i64_w, i32_w]; rw [c6b0]) | skip)
   have H' := Aside0.mk H
   clear H
   go_wp2
   go_meet
   case rel => exact ⟨_, (false), (by first | rfl | (simp; done) | (simp [*]; done)), H', ⟨by first | omega | exact Nat.le_refl _⟩, ⟨by (with_reducible repeat (first | refine blk_drewN ?_ _ | refine blk_drew ?_ | refine blk_alloc ?_ _)); exact BK162.out⟩, ⟨by repeat (first | (with_reducible first | exact HB.out | apply below_alloc | apply pw_below_drewN | apply below_drew1 | refine below_set ?_ GE162.out) | exact HB.out)⟩⟩
 case rest =>
  clear HC4
  try clear c1
  try clear c2
  try clear p2
  try clear c3
  try clear c6
  try clear c6b0
  try clear c6b1
  obtain ⟨kq, x16_3, rfl, HA, HJ3, BK162, HB⟩ := hcut
  cases kq with
  | zero => exact absurd HA.out (by simp [regs_Cas.j0])
  | succ kj3 =>
   have H := HA.out
   clear HA
   simp only [regs_Cas.j0] at H
   by_cases c8 : x16_3 = true
   ·
    subst c8
    have H1 : ((slices_Clone_byte_byte.f l0).bind fun t164 => ((slices_Clone_byte_byte.f l0).bind fun t167 => (some (t164, 2, t167, 0)))) = some (r1, r2, r3, r4) := by rw [if_pos rfl] at H; exact H
    clear H
    have H := H1
    clear H1
    replace H := Option.bind_eq_some_iff.mp H
    obtain ⟨t164, A90, H⟩ := H
    replace H : ((slices_Clone_byte_byte.f l0).bind fun t167 => (some (t164, 2, t167, 0))) = some (r1, r2, r3, r4) := H
    have A9 := Aside0.mk A90
    clear A90
    replace H := Option.bind_eq_some_iff.mp H
    obtain ⟨t167, A100, H⟩ := H
    replace H : (some (t164, 2, t167, 0)) = some (r1, r2, r3, r4) := H
    have A10 := Aside0.mk A100
    clear A100
    simp only [Option.some.injEq, Prod.mk.injEq] at H
    obtain ⟨rfl, rfl, rfl, rfl⟩ := H
    go_wp2_with (first | ((with_reducible refine gate_callee (f := 73) rfl ?_); refine goesL_ (some 18) rfl rfl Try.func73 (by kernel_rfl) rfl #[.slice A0 l0.length c0] rfl mapq ?_; (with_reducible refine (slices_Clone_byte_byte.calls _ _ l0 t164 _ ?side1 ?side2 A9.out).mono ?_); (case side1 => repeat (first | exact (Kd.C_below HR0.out HB.out) | (with_reducible refine Kd.C_alloc ?_ _) | (with_reducible refine Kd.C_drewN ?_ _) | (with_reducible refine Kd.C_drew ?_))); (case side2 => exact HC0.out); rintro e w11 ⟨v165, rfl, ho0, hb⟩; refine ⟨_, rfl, ?_⟩; have n0_ := Aside0.mk (Kd.R_lower ho0 (below_size (bqs HB GE162))); have n1_ := Aside0.mk (blk_below (g := gb162) (o := .cells #[.int .i64 0, .slice none 0 0, .int .i64 0] 34 (0, 0)) (bkq BK162) hb); have n2_ := Aside0.mk (below_step (bqs HB GE162) hb); clear BK162; clear HB; have HO166 := n0_; have BK162 := n1_; have HB := n2_; clear n0_ n1_ n2_; (try clear hb); (try clear hb2); (try clear hk); (try clear hi); (try clear ho0)) | ((with_reducible refine gate_callee (f := 73) rfl ?_); refine goesL_ (some 20) rfl rfl Try.func73 (by kernel_rfl) rfl #[.slice A0 l0.length c0] rfl mapq ?_; (with_reducible refine (slices_Clone_byte_byte.calls _ _ l0 t167 _ ?side1 ?side2 A10.out).mono ?_); (case side1 => repeat (first | exact (Kd.C_below HR0.out HB.out) | (with_reducible refine Kd.C_alloc ?_ _) | (with_reducible refine Kd.C_drewN ?_ _) | (with_reducible refine Kd.C_drew ?_))); (case side2 => exact HC0.out); rintro e w12 ⟨v168, rfl, ho0, hb⟩; refine ⟨_, rfl, ?_⟩; have n0_ := Aside0.mk (Kd.R_elder' (rq HO166) (Kd.R_base ho0) hb); have n1_ := Aside0.mk (Kd.R_lower (Kd.R_new' ho0 (Kd.R_lt (rq HO166))) (below_size (bqs HB GE162))); have n2_ := Aside0.mk (blk_below (g := gb162) (o := .cells #[.int .i64 0, .slice none 0 0, .int .i64 0] 34 (0, 0)) (bkq BK162) hb); have n3_ := Aside0.mk (below_step (bqs HB GE162) hb); clear HO166; clear BK162; clear HB; have HO166 := n0_; have HO169 := n1_; have BK162 := n2_; have HB := n3_; clear n0_ n1_ n2_ n3_; (try clear hb); (try clear hb2); (try clear hk); (try clear hi); (try clear ho0); obtain ⟨Ao13, co13, eo13⟩ := Kd.R_slice HO169.out; subst eo13; have hcz14_0 : w12.cell? ⟨gb162, 0, none⟩ = some (.int .i64 0) := (blk_cell BK162.out 0).trans rfl; have hcz14_1 : w12.cell? ⟨gb162, 1, none⟩ = some (.slice none 0 0) := (blk_cell BK162.out 1).trans rfl; have hcz14_2 : w12.cell? ⟨gb162, 2, none⟩ = some (.int .i64 0) := (blk_cell BK162.out 2).trans rfl; have hfz14_0 := blk_frozen BK162.out 0; have hfz14_1 := blk_frozen BK162.out 1; have hfz14_2 := blk_frozen BK162.out 2))
    refine bodyPost_ret (results_tc rfl _ _ gb162 34 #[.int .i64 2, .slice Ao13 t167.length co13, .int .i64 0] (0, 0) _ rfl (by (with_reducible repeat (first | refine blk_drewN ?_ _ | refine blk_drew ?_ | refine blk_alloc ?_ _)); refine blk_put (cs := #[.int .i64 2, .slice Ao13 t167.length co13, .int .i64 0]) ?_ 2 _ rfl; (with_reducible repeat (first | refine blk_drewN ?_ _ | refine blk_drew ?_ | refine blk_alloc ?_ _)); refine blk_put (cs := #[.int .i64 2, .slice none 0 0, .int .i64 0]) ?_ 1 _ rfl; (with_reducible repeat (first | refine blk_drewN ?_ _ | refine blk_drew ?_ | refine blk_alloc ?_ _)); refine blk_put (cs := #[.int .i64 0, .slice none 0 0, .int .i64 0]) ?_ 0 _ rfl; (with_reducible repeat (first | refine blk_drewN ?_ _ | refine blk_drew ?_ | refine blk_alloc ?_ _)); exact BK162.out) Try.underlying34 rfl (by kernel_rfl)) rfl ?_
    exact ⟨_, _, by first | rfl | (simp [errW_none, errW_some] <;> rfl) | (simp [*, errW_none, errW_some] <;> rfl), by (with_reducible repeat (first | apply Kd.R_alloc | apply Kd.R_drewN | apply Kd.R_drew)); exact Kd.R_mono (Kd.R_far (p := ⟨gb162, 2, none⟩) (Kd.R_far (p := ⟨gb162, 1, none⟩) (Kd.R_far (p := ⟨gb162, 0, none⟩) (Kd.R_types HO166.out BK162.out (by decide)) (fun _ hk => hk.2) (.int .i64 2)) (fun _ hk => hk.2) (.slice Ao13 t167.length co13)) (fun _ hk => hk.2) (.int .i64 0)) (fun _ hk => hk.1.2), by (with_reducible repeat (first | apply Kd.R_alloc | apply Kd.R_drewN | apply Kd.R_drew)); exact Kd.R_mono (Kd.R_far (p := ⟨gb162, 2, none⟩) (Kd.R_far (p := ⟨gb162, 1, none⟩) (Kd.R_far (p := ⟨gb162, 0, none⟩) (Kd.R_types HO169.out BK162.out (by decide)) (fun _ hk => hk.2) (.int .i64 2)) (fun _ hk => hk.2) (.slice Ao13 t167.length co13)) (fun _ hk => hk.2) (.int .i64 0)) (fun _ hk => hk.1.2), by repeat (first | (with_reducible first | exact HB.out | apply below_alloc | apply pw_below_drewN | apply below_drew1 | refine below_set ?_ GE162.out) | exact HB.out)⟩
   ·
    replace c8 := Bool.eq_false_iff.mpr c8
    subst c8
    have H1 : ((regs_Write.f l0 l2).bind fun bt170 => (some (bt170.1, bt170.2.1, bt170.2.2.1, bt170.2.2.2))) = some (r1, r2, r3, r4) := by rw [if_neg (show ¬ (false = true) by decide)] at H; exact H
    clear H
    have H := H1
    clear H1
    replace H := Option.bind_eq_some_iff.mp H
    obtain ⟨⟨t170, t173, t174, t177⟩, A150, H⟩ := H
    replace H : (some (t170, t173, t174, t177)) = some (r1, r2, r3, r4) := H
    have A15 := Aside0.mk A150
    clear A150
    simp only [Option.some.injEq, Prod.mk.injEq] at H
    obtain ⟨rfl, rfl, rfl, rfl⟩ := H
    go_wp2_with (first | ((with_reducible refine gate_callee (f := 30) rfl ?_); refine goesL_ (some 24) rfl rfl Try.func30 (by kernel_rfl) rfl #[.slice A0 l0.length c0, .slice A2 l2.length c2] rfl mapq ?_; (with_reducible refine (regs_Write.calls _ _ l0 _ _ l2 t170 t173 t174 t177 _ ?side1 ?side2 ?side3 ?side4 A15.out).mono ?_); (case side1 => repeat (first | exact (Kd.C_below HR0.out HB.out) | (with_reducible refine Kd.C_alloc ?_ _) | (with_reducible refine Kd.C_drewN ?_ _) | (with_reducible refine Kd.C_drew ?_))); (case side2 => exact HC0.out); (case side3 => repeat (first | exact (Kd.C_below HR2.out HB.out) | (with_reducible refine Kd.C_alloc ?_ _) | (with_reducible refine Kd.C_drewN ?_ _) | (with_reducible refine Kd.C_drew ?_))); (case side4 => exact HC2.out); rintro e w16 ⟨v171, v175, rfl, ho0, ho1, hb⟩; refine ⟨_, rfl, ?_⟩; have n0_ := Aside0.mk (Kd.R_lower ho0 (below_size (bqs HB GE162))); have n1_ := Aside0.mk (Kd.R_lower ho1 (below_size (bqs HB GE162))); have n2_ := Aside0.mk (blk_below (g := gb162) (o := .cells #[.int .i64 0, .slice none 0 0, .int .i64 0] 34 (0, 0)) (bkq BK162) hb); have n3_ := Aside0.mk (below_step (bqs HB GE162) hb); clear BK162; clear HB; have HO172 := n0_; have HO176 := n1_; have BK162 := n2_; have HB := n3_; clear n0_ n1_ n2_ n3_; (try clear hb); (try clear hb2); (try clear hk); (try clear hi); (try clear ho0); (try clear ho1); have hcz17_0 : w16.cell? ⟨gb162, 0, none⟩ = some (.int .i64 0) := (blk_cell BK162.out 0).trans rfl; have hcz17_1 : w16.cell? ⟨gb162, 1, none⟩ = some (.slice none 0 0) := (blk_cell BK162.out 1).trans rfl; have hcz17_2 : w16.cell? ⟨gb162, 2, none⟩ = some (.int .i64 0) := (blk_cell BK162.out 2).trans rfl; have hfz17_0 := blk_frozen BK162.out 0; have hfz17_1 := blk_frozen BK162.out 1; have hfz17_2 := blk_frozen BK162.out 2; obtain ⟨Ao18, co18, eo18⟩ := Kd.R_slice HO176.out; subst eo18))
    refine bodyPost_ret (results_tc rfl _ _ gb162 34 #[.int .i64 t173, .slice Ao18 t174.length co18, .int .i64 t177] (0, 0) _ rfl (by (with_reducible repeat (first | refine blk_drewN ?_ _ | refine blk_drew ?_ | refine blk_alloc ?_ _)); refine blk_put (cs := #[.int .i64 t173, .slice Ao18 t174.length co18, .int .i64 0]) ?_ 2 _ rfl; (with_reducible repeat (first | refine blk_drewN ?_ _ | refine blk_drew ?_ | refine blk_alloc ?_ _)); refine blk_put (cs := #[.int .i64 t173, .slice none 0 0, .int .i64 0]) ?_ 1 _ rfl; (with_reducible repeat (first | refine blk_drewN ?_ _ | refine blk_drew ?_ | refine blk_alloc ?_ _)); refine blk_put (cs := #[.int .i64 0, .slice none 0 0, .int .i64 0]) ?_ 0 _ rfl; (with_reducible repeat (first | refine blk_drewN ?_ _ | refine blk_drew ?_ | refine blk_alloc ?_ _)); exact BK162.out) Try.underlying34 rfl (by kernel_rfl)) rfl ?_
    exact ⟨_, _, by first | rfl | (simp [errW_none, errW_some] <;> rfl) | (simp [*, errW_none, errW_some] <;> rfl), by (with_reducible repeat (first | apply Kd.R_alloc | apply Kd.R_drewN | apply Kd.R_drew)); exact Kd.R_mono (Kd.R_far (p := ⟨gb162, 2, none⟩) (Kd.R_far (p := ⟨gb162, 1, none⟩) (Kd.R_far (p := ⟨gb162, 0, none⟩) (Kd.R_types HO172.out BK162.out (by decide)) (fun _ hk => hk.2) (.int .i64 t173)) (fun _ hk => hk.2) (.slice Ao18 t174.length co18)) (fun _ hk => hk.2) (.int .i64 t177)) (fun _ hk => hk.1), by (with_reducible repeat (first | apply Kd.R_alloc | apply Kd.R_drewN | apply Kd.R_drew)); exact Kd.R_mono (Kd.R_far (p := ⟨gb162, 2, none⟩) (Kd.R_far (p := ⟨gb162, 1, none⟩) (Kd.R_far (p := ⟨gb162, 0, none⟩) (Kd.R_types HO176.out BK162.out (by decide)) (fun _ hk => hk.2) (.int .i64 t173)) (fun _ hk => hk.2) (.slice Ao18 t174.length co18)) (fun _ hk => hk.2) (.int .i64 t177)) (fun _ hk => hk.1), by repeat (first | (with_reducible first | exact HB.out | apply below_alloc | apply pw_below_drewN | apply below_drew1 | refine below_set ?_ GE162.out) | exact HB.out)⟩

/-! ### objs_who: function 38 -/
def objs_who.f (a0 : Int) : Option (Bool) := if a0 ≥ 0 then (some (decide (a0 ≤ 999))) else (some false)
set_option maxHeartbeats 8000000 in
set_option maxRecDepth 100000 in
theorem objs_who.calls (a0 : Int) (r : Bool) (w : World) (h : objs_who.f a0 = some r) :
  Calls Try.prog 38 #[.int .i64 a0] w fun e w' => e = .returned (.bool r) ∧ Drawn0 w w' := by
 have H : (if a0 ≥ 0 then (some (decide (a0 ≤ 999))) else (some false)) = some r := h
 clear h
 by_cases c2 : a0 ≥ 0
 ·
  rw [if_pos c2] at H
  have c2b0 : decide (0 ≤ a0) = true := decide_eq_true c2
  clear c2
  obtain rfl := Option.some.inj H
  go_enter Try.func38, Try.ntmps38
  go_wp2
  go_ret
  exact ⟨by first | rfl | (simp; done) | (simp [*]; done), by repeat (first | exact Drawn0.refl _ | apply Drawn0.step)⟩
 ·
  rw [if_neg c2] at H
  have c2b0 : decide (0 ≤ a0) = false := decide_eq_false c2
  clear c2
  obtain rfl := Option.some.inj H
  go_enter Try.func38, Try.ntmps38
  go_wp2
  go_ret
  exact ⟨by first | rfl | (simp; done) | (simp [*]; done), by repeat (first | exact Drawn0.refl _ | apply Drawn0.step)⟩

/-! ### lock_Owner: function 77 -/
def lock_Owner.f (l0 : List Int) : Option (Int × List Int × Int) := if (l0.length : Int) = 0 then (some (5, ([] : List Int), 0)) else (if 0 < (l0.length : Int) then (some (0, ([] : List Int), rd l0 0)) else (none))
set_option maxHeartbeats 8000000 in
set_option maxRecDepth 100000 in
theorem lock_Owner.calls (A0 : Option Addr) (c0 : Nat) (l0 : List Int) (r1 : Int) (r2 : List Int) (r3 : Int) (w : World) (hr0 : Kd.C (Kd.int .i64) w A0 l0.length l0) (hc0 : l0.length ≤ c0) (h : lock_Owner.f l0 = some (r1, r2, r3)) :
  Calls Try.prog 77 #[.slice A0 l0.length c0] w fun e w' => ∃ v1_ : Value, e = .returned (.agg #[.int .i64 r1, v1_, .int .i64 r3]) ∧ Kd.R (Kd.int .u8) 5 w' w.heap.size (fun _ => True) v1_ r2 ∧ Below w.heap.size w w' := by
 have hu34 := Try.underlying34
 have HR0 := Aside0.mk hr0
 have HC0 := Aside0.mk hc0
 clear hr0 hc0
 have HB := Aside0.mk (Below.refl w.heap.size w)
 have H : (if (l0.length : Int) = 0 then (some (5, ([] : List Int), 0)) else (if 0 < (l0.length : Int) then (some (0, ([] : List Int), rd l0 0)) else (none))) = some (r1, r2, r3) := h
 clear h
 by_cases c2 : (l0.length : Int) = 0
 ·
  rw [if_pos c2] at H
  have c2b0 : ((l0.length : Int) == 0) = true := beq_iff_eq.mpr c2
  have c2b1 : ((l0.length : Int) != 0) = false := bne_eq_false_iff_eq.mpr c2
  clear c2
  simp only [Option.some.injEq, Prod.mk.injEq] at H
  obtain ⟨rfl, rfl, rfl⟩ := H
  go_enter Try.func77, Try.ntmps77
  go_wp2_with (first | ((with_reducible refine gate_dst (N := 2) rfl ?_); refine box_event ?hg (N := 2) ?hd (cs := #[.int .i64 0, .slice none 0 0, .int .i64 0]) (t := 34) ?hr ?_; (case hd => rfl); (case hg => rfl); (case hr => go_simp <;> rfl); intro gb213 hg w3 hbox hb; have n0_ := Aside0.mk (below_step (bq HB) hb); have n1_ := Aside0.mk (hbox); have n2_ := Aside0.mk ((by rw [hg]; exact (below_size (bq HB)) : w.heap.size ≤ gb213)); have n3_ := Aside0.mk ((by rw [hg]; exact (below_size (bq HB)) : w.heap.size ≤ gb213)); clear HB; have HB := n0_; have BK213 := n1_; have GW213 := n2_; have GE213 := n3_; clear n0_ n1_ n2_ n3_; clear hb hbox hg; have hcz4_0 : w3.cell? ⟨gb213, 0, none⟩ = some (.int .i64 0) := (blk_cell BK213.out 0).trans rfl; have hcz4_1 : w3.cell? ⟨gb213, 1, none⟩ = some (.slice none 0 0) := (blk_cell BK213.out 1).trans rfl; have hcz4_2 : w3.cell? ⟨gb213, 2, none⟩ = some (.int .i64 0) := (blk_cell BK213.out 2).trans rfl; have hfz4_0 := blk_frozen BK213.out 0; have hfz4_1 := blk_frozen BK213.out 1; have hfz4_2 := blk_frozen BK213.out 2))
  refine bodyPost_ret (results_cell_row rfl _ _ gb213 34 #[.int .i64 5, .slice none 0 0, .int .i64 0] (0, 0) _ rfl (by (with_reducible repeat (first | refine blk_drewN ?_ _ | refine blk_drew ?_ | refine blk_alloc ?_ _)); refine blk_put (cs := #[.int .i64 5, .slice none 0 0, .int .i64 0]) ?_ 2 _ rfl; (with_reducible repeat (first | refine blk_drewN ?_ _ | refine blk_drew ?_ | refine blk_alloc ?_ _)); refine blk_put (cs := #[.int .i64 5, .slice none 0 0, .int .i64 0]) ?_ 1 _ rfl; (with_reducible repeat (first | refine blk_drewN ?_ _ | refine blk_drew ?_ | refine blk_alloc ?_ _)); refine blk_put (cs := #[.int .i64 0, .slice none 0 0, .int .i64 0]) ?_ 0 _ rfl; (with_reducible repeat (first | refine blk_drewN ?_ _ | refine blk_drew ?_ | refine blk_alloc ?_ _)); exact BK213.out) Try.underlying34 rfl (by kernel_rfl)) rfl ?_
  exact ⟨_, by first | rfl | (simp [errW_none, errW_some] <;> rfl) | (simp [*, errW_none, errW_some] <;> rfl), by first | exact Kd.R_nil _ _ _ _ _ | exact Kd.N_nil _ _ _ _ _ | exact Kd.V_nil _ _ _ _ _ | exact Kd.Q_nil _ _ _ _ _ | exact Kd.S_nil _ _ _ _ _, by repeat (first | (with_reducible first | exact HB.out | apply below_alloc | apply pw_below_drewN | apply below_drew1 | refine below_set ?_ GE213.out) | exact HB.out)⟩
 ·
  rw [if_neg c2] at H
  have c2b0 : ((l0.length : Int) == 0) = false := beq_eq_false_iff_ne.mpr c2
  have c2b1 : ((l0.length : Int) != 0) = true := bne_iff_ne.mpr c2
  have c2b2 : ¬ (l0 = []) := fun h_ => c2 (by rw [h_]; rfl)
  by_cases c5 : 0 < (l0.length : Int)
  ·
   rw [if_pos c5] at H
   have c5b0 : decide (0 < (l0.length : Int)) = true := decide_eq_true c5
   have c5b1 : decide (0 < l0.length) = true := decide_eq_true (by omega)
   clear c5
   simp only [Option.some.injEq, Prod.mk.injEq] at H
   obtain ⟨rfl, rfl, rfl⟩ := H
   go_enter Try.func77, Try.ntmps77
   go_wp2_with (first | ((with_reducible refine gate_dst (N := 2) rfl ?_); refine box_event ?hg (N := 2) ?hd (cs := #[.int .i64 0, .slice none 0 0, .int .i64 0]) (t := 34) ?hr ?_; (case hd => rfl); (case hg => rfl); (case hr => go_simp <;> rfl); intro gb213 hg w6 hbox hb; have n0_ := Aside0.mk (below_step (bq HB) hb); have n1_ := Aside0.mk (hbox); have n2_ := Aside0.mk ((by rw [hg]; exact (below_size (bq HB)) : w.heap.size ≤ gb213)); have n3_ := Aside0.mk ((by rw [hg]; exact (below_size (bq HB)) : w.heap.size ≤ gb213)); clear HB; have HB := n0_; have BK213 := n1_; have GW213 := n2_; have GE213 := n3_; clear n0_ n1_ n2_ n3_; clear hb hbox hg; have p214 : 0 ≤ (0 : Int) := (by omega); have q214 : 0 < (l0.length : Int) := of_decide_eq_true (by first | (with_reducible assumption) | assumption); obtain ⟨ad214, e214, hx214_0⟩ := Kd.at_int HR0.out 0 p214 q214; cases e214; have qi214 : (0 < l0.length) = True := eq_true (by omega); (try rw [show ((0 : Int)).toNat = 0 from rfl] at hx214_0); (try rw [Addr.add_zero'] at hx214_0); replace hx214_0 := (HB.out.cell (World.block_lt_of_cell? w _ hx214_0)).trans hx214_0; replace p214 := eq_true p214; replace q214 := eq_true q214; have hcz7_0 : w6.cell? ⟨gb213, 0, none⟩ = some (.int .i64 0) := (blk_cell BK213.out 0).trans rfl; have hcz7_1 : w6.cell? ⟨gb213, 1, none⟩ = some (.slice none 0 0) := (blk_cell BK213.out 1).trans rfl; have hcz7_2 : w6.cell? ⟨gb213, 2, none⟩ = some (.int .i64 0) := (blk_cell BK213.out 2).trans rfl; have hfz7_0 := blk_frozen BK213.out 0; have hfz7_1 := blk_frozen BK213.out 1; have hfz7_2 := blk_frozen BK213.out 2))
   refine bodyPost_ret (results_cell_row rfl _ _ gb213 34 #[.int .i64 0, .slice none 0 0, .int .i64 (rd l0 0)] (0, 0) _ rfl (by (with_reducible repeat (first | refine blk_drewN ?_ _ | refine blk_drew ?_ | refine blk_alloc ?_ _)); refine blk_put (cs := #[.int .i64 0, .slice none 0 0, .int .i64 0]) ?_ 2 _ rfl; (with_reducible repeat (first | refine blk_drewN ?_ _ | refine blk_drew ?_ | refine blk_alloc ?_ _)); refine blk_put (cs := #[.int .i64 0, .slice none 0 0, .int .i64 0]) ?_ 1 _ rfl; (with_reducible repeat (first | refine blk_drewN ?_ _ | refine blk_drew ?_ | refine blk_alloc ?_ _)); refine blk_put (cs := #[.int .i64 0, .slice none 0 0, .int .i64 0]) ?_ 0 _ rfl; (with_reducible repeat (first | refine blk_drewN ?_ _ | refine blk_drew ?_ | refine blk_alloc ?_ _)); exact BK213.out) Try.underlying34 rfl (by kernel_rfl)) rfl ?_
   exact ⟨_, by first | rfl | (simp [errW_none, errW_some] <;> rfl) | (simp [*, errW_none, errW_some] <;> rfl), by first | exact Kd.R_nil _ _ _ _ _ | exact Kd.N_nil _ _ _ _ _ | exact Kd.V_nil _ _ _ _ _ | exact Kd.Q_nil _ _ _ _ _ | exact Kd.S_nil _ _ _ _ _, by repeat (first | (with_reducible first | exact HB.out | apply below_alloc | apply pw_below_drewN | apply below_drew1 | refine below_set ?_ GE213.out) | exact HB.out)⟩
  ·
   rw [if_neg c5] at H
   exact absurd H (by simp)

/-! ### slices_Index_int_int: function 103 -/
def slices_Index_int_int.l0 : Nat → List Int → Int → Int → Int → Option (Int)
 | 0, _, _, _, _ => none
 | k + 1, x0, x1, x7, x8 => if x8 < x7 then (if 0 ≤ x8 then (if x8 < (x0.length : Int) then (if x1 = (rd x0 x8) then (some x8) else (slices_Index_int_int.l0 k x0 x1 x7 (wrap64 (x8 + 1)))) else (none)) else (none)) else (some (-1))
def slices_Index_int_int.f (k : Nat) (l0 : List Int) (a1 : Int) : Option (Int) := slices_Index_int_int.l0 k l0 a1 (l0.length : Int) 0
theorem slices_Index_int_int.mono_l : ∀ k, (∀ y0 y1 y2 y3, LeO (slices_Index_int_int.l0 k y0 y1 y2 y3) (slices_Index_int_int.l0 (k + 1) y0 y1 y2 y3))
 | 0 => fun _ _ _ _ r h => by simp [slices_Index_int_int.l0] at h
 | k + 1 => by
  have ih0 := slices_Index_int_int.mono_l k
  ·
   intro y0 y1 y2 y3
   unfold slices_Index_int_int.l0
   repeat' first
   | (with_reducible exact ih0 _ _ _ _)
   | (with_reducible exact LeO.refl _)
   | (with_reducible exact LeO.none _)
   | (with_reducible refine LeO.ite ?_ ?_)
   | (with_reducible refine LeO.bind ?_ (fun _ => ?_))
   | exact ih0 _ _ _ _
   | exact LeO.none _
   | refine LeO.ite ?_ ?_
   | refine LeO.bind ?_ (fun _ => ?_)
theorem slices_Index_int_int.mono : ∀ a0 a1 k, LeO (slices_Index_int_int.f k a0 a1) (slices_Index_int_int.f (k + 1) a0 a1) := by
 intro a0 a1 k
 have ih0 := slices_Index_int_int.mono_l k
 unfold slices_Index_int_int.f
 repeat' first
   | (with_reducible exact ih0 _ _ _ _)
   | (with_reducible exact LeO.refl _)
   | (with_reducible exact LeO.none _)
   | (with_reducible refine LeO.ite ?_ ?_)
   | (with_reducible refine LeO.bind ?_ (fun _ => ?_))
   | exact ih0 _ _ _ _
   | exact LeO.none _
   | refine LeO.ite ?_ ?_
   | refine LeO.bind ?_ (fun _ => ?_)
set_option maxHeartbeats 8000000 in
set_option maxRecDepth 100000 in
theorem slices_Index_int_int.calls (k : Nat) (A0 : Option Addr) (c0 : Nat) (l0 : List Int) (a1 : Int) (r : Int) (w : World) (hr0 : Kd.C (Kd.int .i64) w A0 l0.length l0) (hc0 : l0.length ≤ c0) (h : slices_Index_int_int.f k l0 a1 = some r) :
  Calls Try.prog 103 #[.slice A0 l0.length c0, .int .i64 a1] w fun e w' => e = .returned (.int .i64 r) ∧ Drawn0 w w' := by
 have HR0 := Aside0.mk hr0
 have HC0 := Aside0.mk hc0
 clear hr0 hc0
 have H : (slices_Index_int_int.l0 k l0 a1 (l0.length : Int) 0) = some r := h
 clear h
 have H' := Aside0.mk H
 clear H
 go_enter Try.func103, Try.ntmps103
 go_wp2
 go_loopg [8] k (fun kq v8 w' => ∃ (x8_1 : Int), v8 = .int .i64 x8_1 ∧ Aside0 (slices_Index_int_int.l0 kq l0 a1 (l0.length : Int) x8_1 = some r) ∧ Aside0 (kq ≤ k) ∧ Drawn0 w w')
 case atStart => exact ⟨(0), (by first | rfl | (simp; done) | (simp [*]; done)), H', ⟨Nat.le_refl _⟩, by repeat (first | exact Drawn0.refl _ | apply Drawn0.step)⟩
 case round =>
  clear H'
  try clear c1
  try clear p2
  obtain ⟨x8_1, rfl, HA, HK1, ⟨m1, rfl⟩⟩ := hrel
  cases gk with
  | zero => exact absurd HA.out (by simp [slices_Index_int_int.l0])
  | succ k1 =>
   have H := HA.out
   clear HA
   simp only [slices_Index_int_int.l0] at H
   by_cases c3 : x8_1 < (l0.length : Int)
   ·
    rw [if_pos c3] at H
    have c3b0 : decide (x8_1 < (l0.length : Int)) = true := decide_eq_true c3
    clear c3
    by_cases c4 : 0 ≤ x8_1
    ·
     rw [if_pos c4] at H
     have c4b0 : decide (0 ≤ x8_1) = true := decide_eq_true c4
     clear c4
     by_cases c5 : x8_1 < (l0.length : Int)
     ·
      rw [if_pos c5] at H
      have c5b0 : decide (x8_1 < (l0.length : Int)) = true := decide_eq_true c5
      clear c5
      by_cases c6 : a1 = (rd l0 x8_1)
      ·
       rw [if_pos c6] at H
       have c6b0 : (a1 == (rd l0 x8_1)) = true := beq_iff_eq.mpr c6
       have c6b1 : (a1 != (rd l0 x8_1)) = false := bne_eq_false_iff_eq.mpr c6
       clear c6
       obtain rfl := Option.some.inj H
       have p114 : 0 ≤ (x8_1 : Int) := of_decide_eq_true (by first | (with_reducible assumption) | assumption)
       have q114 : x8_1 < (l0.length : Int) := of_decide_eq_true (by first | (with_reducible assumption) | assumption)
       obtain ⟨ad114, e114, hx114_0⟩ := Kd.at_int HR0.out x8_1 p114 q114
       cases e114
       replace p114 := eq_true p114
       replace q114 := eq_true q114
       go_wp2
       go_ret
       exact ⟨by first | rfl | (simp; done) | (simp [*]; done), by repeat (first | exact Drawn0.refl _ | apply Drawn0.step)⟩
      ·
       rw [if_neg c6] at H
       have c6b0 : (a1 == (rd l0 x8_1)) = false := beq_eq_false_iff_ne.mpr c6
       have c6b1 : (a1 != (rd l0 x8_1)) = true := bne_iff_ne.mpr c6
       have H' := Aside0.mk H
       clear H
       have p114 : 0 ≤ (x8_1 : Int) := of_decide_eq_true (by first | (with_reducible assumption) | assumption)
       have q114 : x8_1 < (l0.length : Int) := of_decide_eq_true (by first | (with_reducible assumption) | assumption)
       obtain ⟨ad114, e114, hx114_0⟩ := Kd.at_int HR0.out x8_1 p114 q114
       cases e114
       replace p114 := eq_true p114
       replace q114 := eq_true q114
       go_wp2
       go_roundg k1
       case measure => have := HK1.out; omega
       case rel => exact ⟨(wrap64 (x8_1 + 1)), (by first | rfl | (simp; done) | (simp [*]; done)), H', ⟨by have := HK1.out; omega⟩, by repeat (first | exact Drawn0.refl _ | apply Drawn0.step)⟩
     ·
      rw [if_neg c5] at H
      exact absurd H (by simp)
    ·
     rw [if_neg c4] at H
     exact absurd H (by simp)
   ·
    rw [if_neg c3] at H
    have c3b0 : decide (x8_1 < (l0.length : Int)) = false := decide_eq_false c3
    clear c3
    obtain rfl := Option.some.inj H
    go_wp2
    go_ret
    exact ⟨by first | rfl | (simp; done) | (simp [*]; done), by repeat (first | exact Drawn0.refl _ | apply Drawn0.step)⟩

/-! ### slices_Contains_int_int: function 92 -/
def slices_Contains_int_int.f (k : Nat) (l0 : List Int) (a1 : Int) : Option (Bool) := (slices_Index_int_int.f k l0 a1).bind fun t115 => (some (decide (t115 ≥ 0)))
theorem slices_Contains_int_int.mono : ∀ a0 a1 k, LeO (slices_Contains_int_int.f k a0 a1) (slices_Contains_int_int.f (k + 1) a0 a1) := by
 intro a0 a1 k
 unfold slices_Contains_int_int.f
 repeat' first
   | (with_reducible exact slices_Index_int_int.mono _ _ _)
   | (with_reducible exact LeO.refl _)
   | (with_reducible exact LeO.none _)
   | (with_reducible refine LeO.ite ?_ ?_)
   | (with_reducible refine LeO.bind ?_ (fun _ => ?_))
   | exact slices_Index_int_int.mono _ _ _
   | exact LeO.none _
   | refine LeO.ite ?_ ?_
   | refine LeO.bind ?_ (fun _ => ?_)
set_option maxHeartbeats 8000000 in
set_option maxRecDepth 100000 in
theorem slices_Contains_int_int.calls (k : Nat) (A0 : Option Addr) (c0 : Nat) (l0 : List Int) (a1 : Int) (r : Bool) (w : World) (hr0 : Kd.C (Kd.int .i64) w A0 l0.length l0) (hc0 : l0.length ≤ c0) (h : slices_Contains_int_int.f k l0 a1 = some r) :
  Calls Try.prog 92 #[.slice A0 l0.length c0, .int .i64 a1] w fun e w' => e = .returned (.bool r) ∧ Drawn0 w w' := by
 have HR0 := Aside0.mk hr0
 have HC0 := Aside0.mk hc0
 clear hr0 hc0
 have H : ((slices_Index_int_int.f k l0 a1).bind fun t115 => (some (decide (t115 ≥ 0)))) = some r := h
 clear h
 replace H := Option.bind_eq_some_iff.mp H
 obtain ⟨t115, A30, H⟩ := H
 replace H : (some (decide (t115 ≥ 0))) = some r := H
 have A3 := Aside0.mk A30
 clear A30
 obtain rfl := Option.some.inj H
 go_enter Try.func92, Try.ntmps92
 go_wp2_with (first | ((with_reducible refine gate_callee (f := 103) rfl ?_); refine goesL_ (some 7) rfl rfl Try.func103 (by kernel_rfl) rfl #[.slice A0 l0.length c0, .int .i64 a1] rfl mapq ?_; (with_reducible refine (slices_Index_int_int.calls k _ _ l0 a1 t115 _ ?side1 ?side2 A3.out).mono ?_); (case side1 => repeat (first | exact HR0.out | (with_reducible refine Kd.C_alloc ?_ _) | (with_reducible refine Kd.C_drewN ?_ _) | (with_reducible refine Kd.C_drew ?_))); (case side2 => exact HC0.out); rintro e w' ⟨rfl, ⟨nd, rfl⟩⟩; refine ⟨_, rfl, ?_⟩))
 go_ret
 exact ⟨by first | rfl | (simp; done) | (simp [*]; done), by repeat (first | exact Drawn0.refl _ | apply Drawn0.step)⟩
end Go.Proofs.Ythfplgfpodmphaa.Ob
namespace Go.Proofs.Ythfplgfpodmphaa.Ms
open Go.RowKit Go.Proofs.YthfplgfpodmphaaW.PrintWords Go.Proofs.YthfplgfpodmphaaW.PrintLast Go.Proofs.YthfplgfpodmphaaW.PrintMore
attribute [local go_sem] max2_int min2_int max_two min_two max_three min_three max_four min_four
set_option linter.unusedVariables false
set_option linter.unusedSimpArgs false
set_option maxRecDepth 100000

theorem byte_rows {w : World} {A : Option Addr} {l : List Int} (h : Kd.C (Kd.int .u8) w A l.length l) (c : Nat) : ∃ s : ByteArray, s.data.toList = Lib.bytesOf l ∧ (Extern.Bytes.bytesOf (.slice A l.length c)).run Try.prog w = .ok s w := by
  rcases Nat.eq_zero_or_pos l.length with h0 | h0
  · obtain rfl : l = [] := List.eq_nil_of_length_eq_zero h0
    cases A with
    | none => exact ⟨.empty, rfl, rfl⟩
    | some ad => exact ⟨.empty, rfl, by simp [Extern.Bytes.bytesOf, Extern.Bytes.loadBytes]⟩
  · obtain ⟨ad, rfl, hc⟩ := h.2.2 h0
    refine ⟨⟨(ByteArray.empty).data ++ (Lib.bytesOf l).toArray⟩, by simp, ?_⟩
    exact Lib.run_loadBytesX w l ad .empty (fun j x hj => by
      obtain ⟨cs, h1, h2, h3⟩ := hc j x hj
      have h4 : cs = [.int .u8 x] := h2
      subst h4
      rw [show j = j * 1 + 0 from by omega]
      exact h3 0 _ rfl)
set_option maxHeartbeats 1000000 in
theorem cmp27 (A B : Option Addr) (c d : Nat) (l m : List Int) (w : World) (hA : Kd.C (Kd.int .u8) w A l.length l) (hB : Kd.C (Kd.int .u8) w B m.length m) :
    Calls Try.prog 95 #[.slice A l.length c, .slice B m.length d] w fun e w' => e = .returned (.int .i64 (Lib.compareBytes (Lib.bytesOf l) (Lib.bytesOf m))) ∧ w = w' := by
  obtain ⟨s, hs1, hs2⟩ := byte_rows hA c
  obtain ⟨t, ht1, ht2⟩ := byte_rows hB d
  have HR : Aside0 ((Extern.BytealgCompare.compare #[.slice A l.length c, .slice B m.length d]).run Try.prog w = .ok (.int .i64 (Lib.compareBytes (Lib.bytesOf l) (Lib.bytesOf m))) w) := by
    refine ⟨?_⟩
    change Sem.run Try.prog (do pure (goInt (Extern.BytealgCompare.cmp (← Extern.Bytes.bytesOf (.slice A l.length c)) (← Extern.Bytes.bytesOf (.slice B m.length d))))) w = _
    simp only [Sem.run_bind, hs2, ht2, Result.andThen, Sem.run_pure]
    rw [Lib.cmp_eq, hs1, ht1]
    rfl
  clear hs1 hs2 ht1 ht2 hA hB
  go_enter Try.func95, Try.ntmps95
  go_wp2
  rw [run_callFunc_extern Try.func114 (by kernel_rfl) (by kernel_rfl) (by kernel_rfl) (e := Extern.BytealgCompare.compare) (by kernel_rfl), HR.out]
  simp only [Result.andThen]
  rw [Oper.upon_value]
  go_wp2
  go_ret
  exact ⟨rfl, rfl⟩
/-! ### bytes_Equal: function 26 -/
def bytes_Equal.f (l0 : List Int) (l1 : List Int) : Option (Bool) := some ((strOfNums l0).toList == (strOfNums l1).toList)
set_option maxHeartbeats 8000000 in
set_option maxRecDepth 100000 in
theorem bytes_Equal.calls (A0 : Option Addr) (c0 : Nat) (l0 : List Int) (A1 : Option Addr) (c1 : Nat) (l1 : List Int) (r : Bool) (w : World) (hr0 : Kd.C (Kd.int .u8) w A0 l0.length l0) (hc0 : l0.length ≤ c0) (hr1 : Kd.C (Kd.int .u8) w A1 l1.length l1) (hc1 : l1.length ≤ c1) (h : bytes_Equal.f l0 l1 = some r) :
    Calls Try.prog 57 #[.slice A0 l0.length c0, .slice A1 l1.length c1] w fun e w' => e = .returned (.bool r) ∧ Drawn0 w w' := by
  have HR0 := Aside0.mk hr0
  have HC0 := Aside0.mk hc0
  clear hr0 hc0
  have HR1 := Aside0.mk hr1
  have HC1 := Aside0.mk hc1
  clear hr1 hc1
  have H : (some ((strOfNums l0).toList == (strOfNums l1).toList)) = some r := h
  clear h
  obtain rfl := Option.some.inj H
  have hcv3 := Kd.C_string (P := Try.prog) (A := A0) (c := c0) Try.underlying22 Try.underlying5 Try.underlying9 HR0.out
  have hcv4 := Kd.C_string (P := Try.prog) (A := A1) (c := c1) Try.underlying22 Try.underlying5 Try.underlying9 HR1.out
  go_enter Try.func57, Try.ntmps57
  go_wp2
  go_ret
  exact ⟨by first | rfl | (simp; done) | (simp [*]; done), by repeat (first | exact Drawn0.refl _ | apply Drawn0.step)⟩

-- NOT PRINTED: function 30 (bytealg_Compare)

-- NOT PRINTED: function 27 (bytes_Compare)

-- NOT PRINTED: function 17 (maps_find)

-- NOT PRINTED: function 28 (api_Pair_28)

-- NOT PRINTED: function 32 (api_Pair_32)

-- NOT PRINTED: function 31 (api_Pair_31)

-- NOT PRINTED: function 29 (api_Pair_29)

-- NOT PRINTED: function 19 (api_Pair_19)

-- NOT PRINTED: function 6 (maps_Put)

def sameB (a b : List Int) : Bool := (strOfNums a).toList == (strOfNums b).toList
def lessB (a b : List Int) : Bool := decide (Lib.compareBytes (Lib.bytesOf a) (Lib.bytesOf b) < 0)
def eqI (l : List S32) (k : List Int) : Nat := (l.takeWhile (fun x => !sameB x.f0 k)).length
def insN (l : List S32) (k : List Int) : Nat → Nat
  | 0 => 0
  | i + 1 => if lessB k (rd_T32 l (i : Int)).f0 = true then insN l k i else i + 1
/-- What maps.find answers. -/
def findR (l : List S32) (k : List Int) : Nat × Bool := if eqI l k < l.length then (eqI l k, true) else (insN l k l.length, false)
theorem tw_of (p : S32 → Bool) (l : List S32) : ∀ (k : Nat), k ≤ l.length → (∀ j, j < k → p (rd_T32 l (j : Int)) = true) → (k = l.length ∨ p (rd_T32 l (k : Int)) = false) → (l.takeWhile p).length = k := by
  induction l with
  | nil => intro k hk _ _; simp at hk; subst hk; rfl
  | cons x l ih =>
    intro k hk h1 h2
    cases k with
    | zero =>
      rcases h2 with h2 | h2
      · simp at h2
      · have hx : p x = false := h2
        simp [hx]
    | succ k =>
      have hx : p x = true := h1 0 (by omega)
      rw [List.takeWhile_cons, hx, if_pos rfl, List.length_cons]
      have e : ∀ j : Nat, rd_T32 (x :: l) ((j + 1 : Nat) : Int) = rd_T32 l (j : Int) := fun j => by simp only [rd_T32, Int.toNat_natCast, List.getD_cons_succ]
      rw [ih k (by simpa using hk) (fun j hj => by rw [← e]; exact h1 (j + 1) (by omega)) (by rcases h2 with h2 | h2
                                                                                              · exact .inl (by simpa using h2)
                                                                                              · rw [e] at h2; exact .inr h2)]
theorem find_t (l : List S32) (k : List Int) (j : Nat) (hj : j < l.length) (h1 : ∀ i, i < j → sameB (rd_T32 l (i : Int)).f0 k = false) (h2 : sameB (rd_T32 l (j : Int)).f0 k = true) : findR l k = (j, true) := by
  have e : eqI l k = j := tw_of _ l j (by omega) (fun i hi => by simp [h1 i hi]) (.inr (by simp [h2]))
  rw [findR, e, if_pos hj]
theorem insN_skip (l : List S32) (k : List Int) (i : Nat) (d : Nat) : ∀ n, n = i + d → (∀ j, i ≤ j → j < n → lessB k (rd_T32 l (j : Int)).f0 = true) → insN l k n = insN l k i := by
  induction d with
  | zero => intro n hn _; rw [hn]; rfl
  | succ d ih =>
    intro n hn h
    subst hn
    show (if lessB k (rd_T32 l ((i + d : Nat) : Int)).f0 = true then insN l k (i + d) else i + d + 1) = _
    rw [if_pos (h (i + d) (by omega) (by omega))]
    exact ih (i + d) rfl (fun j a b => h j a (by omega))
theorem find_f (l : List S32) (k : List Int) (i : Nat) (hi : i ≤ l.length) (h1 : ∀ j, j < l.length → sameB (rd_T32 l (j : Int)).f0 k = false) (h2 : ∀ j, i ≤ j → j < l.length → lessB k (rd_T32 l (j : Int)).f0 = true) (h3 : i = 0 ∨ lessB k (rd_T32 l ((i - 1 : Nat) : Int)).f0 = false) : findR l k = (i, false) := by
  have e : eqI l k = l.length := tw_of _ l l.length (Nat.le_refl _) (fun j hj => by simp [h1 j hj]) (.inl rfl)
  rw [findR, e, if_neg (Nat.lt_irrefl _), insN_skip l k i (l.length - i) l.length (by omega) h2]
  cases i with
  | zero => rfl
  | succ i =>
    rcases h3 with h3 | h3
    · omega
    · have h3' : lessB k (rd_T32 l (i : Int)).f0 = false := h3
      rw [insN, h3', if_neg (by simp)]
set_option maxHeartbeats 1000000 in
theorem find17 (A B : Option Addr) (c d : Nat) (l : List S32) (k : List Int) (w : World) (hr : Kd.C k32 w A l.length l) (hc : l.length ≤ c) (hk : Kd.C (Kd.int .u8) w B k.length k) (hd : k.length ≤ d) :
    Calls Try.prog 80 #[.slice A l.length c, .slice B k.length d] w fun e w' => e = .returned (.tuple #[.int .i64 ((findR l k).1 : Nat), .bool (findR l k).2]) ∧ Below w.heap.size w w' := by
  have HR := Aside0.mk hr
  have HC := Aside0.mk hc
  have HK := Aside0.mk hk
  have HD := Aside0.mk hd
  have hlen : l.length ≤ 9223372036854775807 := hr.2.1
  clear hr hc hk hd
  go_enter Try.func80, Try.ntmps80
  go_wp2_with fail
  go_loopw [11] (fun v11 w' => ∃ j : Nat, v11 = .int .i64 j ∧ j ≤ l.length ∧ Aside0 (∀ i, i < j → sameB (rd_T32 l (i : Int)).f0 k = false) ∧ Aside0 (Below w.heap.size w w')) (fun v11 _ => l.length - (intOf v11).toNat)
  case atStart => exact ⟨0, rfl, Nat.zero_le _, ⟨fun i hi => absurd hi (Nat.not_lt_zero i)⟩, ⟨Below.refl _ _⟩⟩
  case round =>
    obtain ⟨j, rfl, hj, HA, HB⟩ := hrel
    by_cases hjl : j < l.length
    · obtain ⟨ad, A0, c0, A1, c1, e, h0, h1, l0, g0, l1, g1⟩ := at_T32 (Kd.C_below HR.out HB.out) (j : Int) (by omega) (by omega)
      cases e
      simp only [Int.toNat_natCast] at h0 h1
      have HL0 := Aside0.mk l0
      have HG0 := Aside0.mk g0
      clear l0 g0 l1 g1
      go_wp2_with fail
      refine (bytes_Equal.calls A0 c0 (rd_T32 l (j : Int)).f0 B d k (sameB (rd_T32 l (j : Int)).f0 k) _ (Kd.C_alloc HG0.out _) HL0.out (Kd.C_below (Kd.C_below HK.out HB.out) (below_alloc (Below.refl _ _) _)) HD.out rfl).mono ?_
      rintro e w1 ⟨rfl, nd, rfl⟩
      have HB1 := Aside0.mk (pw_below_drewN (below_alloc HB.out (.cells #[.slice A0 (rd_T32 l (j : Int)).f0.length c0, .slice A1 (rd_T32 l (j : Int)).f1.length c1] 42)) nd)
      cases hs : sameB (rd_T32 l (j : Int)).f0 k with
      | true =>
        have HF := Aside0.mk (find_t l k j hjl HA.out hs)
        go_wp2_with fail
        go_ret2
        rw [HF.out]
        exact ⟨rfl, HB1.out⟩
      | false =>
        have HA2 := Aside0.mk (show ∀ i, i < j + 1 → sameB (rd_T32 l (i : Int)).f0 k = false from fun i hi => by
          rcases Nat.lt_or_eq_of_le (Nat.le_of_lt_succ hi) with h | rfl
          · exact HA.out i h
          · exact hs)
        go_wp2_with fail
        go_roundw
        case rel => exact ⟨j + 1, by go_num, by omega, HA2, HB1⟩
        case measure => simp [intOf]; omega
    · obtain rfl : j = l.length := by omega
      go_wp2_with fail
      go_loopw [8] (fun v8 w' => ∃ i : Nat, v8 = .int .i64 i ∧ i ≤ l.length ∧ Aside0 (∀ j, i ≤ j → j < l.length → lessB k (rd_T32 l (j : Int)).f0 = true) ∧ Aside0 (Below w.heap.size w w')) (fun v8 _ => (intOf v8).toNat)
      case atStart => exact ⟨l.length, rfl, Nat.le_refl _, ⟨fun j a b => absurd b (by omega)⟩, HB⟩
      case round =>
        obtain ⟨i, rfl, hi, HL, HB2⟩ := hrel
        rcases Nat.eq_zero_or_pos i with rfl | h0
        · have HF := Aside0.mk (find_f l k 0 hi HA.out HL.out (.inl rfl))
          go_wp2_with fail
          go_ret2
          rw [HF.out]
          exact ⟨rfl, HB2.out⟩
        · obtain ⟨ad, A0, c0, A1, c1, e, h0', h1, l0, g0, l1, g1⟩ := at_T32 (Kd.C_below HR.out HB2.out) ((i - 1 : Nat) : Int) (by omega) (by omega)
          cases e
          simp only [Int.toNat_natCast] at h0'
          have HL0 := Aside0.mk l0
          have HG0 := Aside0.mk g0
          have e1 : IntKind.i64.wrap ((i : Int) - 1) = ((i - 1 : Nat) : Int) := by rw [IntKind.wrap_i64]; omega
          have e2 : ((i - 1 : Nat) : Int) < (l.length : Int) := by omega
          have e3 : decide ((0 : Int) < (i : Int)) = true := decide_eq_true (by omega)
          have e4 : (0 : Int) < (i : Int) := by omega
          clear l0 g0 l1 g1 h1
          go_wp2_with fail
          refine (cmp27 B A0 d c0 k (rd_T32 l ((i - 1 : Nat) : Int)).f0 _ (Kd.C_below HK.out HB2.out) HG0.out).mono ?_
          rintro e w1 ⟨rfl, rfl⟩
          cases hs : lessB k (rd_T32 l ((i - 1 : Nat) : Int)).f0 with
          | true =>
            have hs' : decide (Lib.compareBytes (Lib.bytesOf k) (Lib.bytesOf (rd_T32 l ((i - 1 : Nat) : Int)).f0) < 0) = true := hs
            have HL2 := Aside0.mk (show ∀ j, i - 1 ≤ j → j < l.length → lessB k (rd_T32 l (j : Int)).f0 = true from fun j a b => by
              rcases Nat.lt_or_ge j i with h | h
              · obtain rfl : j = i - 1 := by omega
                exact hs
              · exact HL.out j h b)
            clear hs
            go_wp2_with fail
            go_roundw
            case rel => exact ⟨i - 1, rfl, by omega, HL2, HB2⟩
            case measure => simp [intOf]; omega
          | false =>
            have hs' : decide (Lib.compareBytes (Lib.bytesOf k) (Lib.bytesOf (rd_T32 l ((i - 1 : Nat) : Int)).f0) < 0) = false := hs
            have HF := Aside0.mk (find_f l k i hi HA.out HL.out (.inr hs))
            clear hs
            go_wp2_with fail
            go_ret2
            rw [HF.out]
            exact ⟨rfl, HB2.out⟩

structure S26 where
  f0 : Int
  f1 : List Int
  f2 : Int

theorem blk_cells3 {w : World} {g t : Nat} {a b c : Value} (h : w.heap[g]? = some (.cells #[a, b, c] t (0, 0))) : w.cell? ⟨g, 0, none⟩ = some a ∧ w.cell? ⟨g, 1, none⟩ = some b ∧ w.cell? ⟨g, 2, none⟩ = some c ∧ (∀ j, w.frozen? ⟨g, j, none⟩ = false) := by
  refine ⟨?_, ?_, ?_, fun j => ?_⟩ <;> simp [World.cell?, World.frozen?, h]
def ResEnd (w : World) (r : S26) (e : Ending) (w' : World) : Prop := ∃ v1_ : Value, e = .returned (.agg #[.int .i64 r.f0, v1_, .int .i64 r.f2]) ∧ Kd.R (Kd.int .u8) 5 w' w.heap.size (fun _ => True) v1_ r.f1 ∧ Below w.heap.size w w'
def getR (l : List S32) (k : List Int) : S26 := if (findR l k).2 = true then ⟨0, (rd_T32 l ((findR l k).1 : Int)).f1, 0⟩ else ⟨5, [], 0⟩
set_option maxHeartbeats 1000000 in
theorem get_none (A B : Option Addr) (c d : Nat) (l : List S32) (k : List Int) (w : World) (hr : Kd.C k32 w A l.length l) (hc : l.length ≤ c) (hk : Kd.C (Kd.int .u8) w B k.length k) (hd : k.length ≤ d) (ht : (findR l k).2 = false) :
    Calls Try.prog 36 #[.slice A l.length c, .slice B k.length d] w (ResEnd w ⟨5, [], 0⟩) := by
  have HI := Aside0.mk (find17 A B c d l k (w.alloc (.cells #[.int .i64 0, .slice none 0 0, .int .i64 0] 34)) (Kd.C_alloc hr _) hc (Kd.C_alloc hk _) hd)
  rw [ht] at HI
  clear hr hc hk hd ht
  go_enter Try.func36, Try.ntmps36
  go_wp2_with fail
  refine HI.out.mono ?_
  rintro e w1 ⟨rfl, hb1⟩
  have BK : w1.heap[w.heap.size]? = some (.cells #[.int .i64 0, .slice none 0 0, .int .i64 0] 34 (0, 0)) := (hb1.block _ (by simp)).trans (heap_alloc_self w _)
  have hB : Below w.heap.size w w1 := below_then (below_alloc (Below.refl _ _) _) (by simp) hb1
  obtain ⟨x0, x1, x2, x3⟩ := blk_cells3 BK
  have x30 := x3 0
  have x31 := x3 1
  have x32 := x3 2
  have BKs := Aside0.mk BK
  have HBs := Aside0.mk hB
  clear BK hB hb1 HI x3
  go_wp2_with fail
  refine bodyPost_ret (results_cell_row rfl _ _ w.heap.size 34 #[.int .i64 5, .slice none 0 0, .int .i64 0] (0, 0) _ rfl (by refine blk_put (cs := #[.int .i64 5, .slice none 0 0, .int .i64 0]) ?_ 2 _ rfl; refine blk_put (cs := #[.int .i64 5, .slice none 0 0, .int .i64 0]) ?_ 1 _ rfl; refine blk_put (cs := #[.int .i64 0, .slice none 0 0, .int .i64 0]) ?_ 0 _ rfl; exact BKs.out) Try.underlying34 rfl (by kernel_rfl)) rfl ?_
  exact ⟨_, rfl, Kd.R_nil _ _ _ _ _, ((HBs.out.setCell (Nat.le_refl _) _).setCell (Nat.le_refl _) _).setCell (Nat.le_refl _) _⟩
set_option maxHeartbeats 1000000 in
theorem get_some (A B : Option Addr) (c d : Nat) (l : List S32) (k : List Int) (w : World) (hr : Kd.C k32 w A l.length l) (hc : l.length ≤ c) (hk : Kd.C (Kd.int .u8) w B k.length k) (hd : k.length ≤ d) (ht : (findR l k).2 = true) (hlt : (findR l k).1 < l.length) (hv : (rd_T32 l ((findR l k).1 : Int)).f1.length < 140737488355328) :
    Calls Try.prog 36 #[.slice A l.length c, .slice B k.length d] w (ResEnd w ⟨0, (rd_T32 l ((findR l k).1 : Int)).f1, 0⟩) := by
  have HR := Aside0.mk hr
  have HI := Aside0.mk (find17 A B c d l k (w.alloc (.cells #[.int .i64 0, .slice none 0 0, .int .i64 0] 34)) (Kd.C_alloc hr _) hc (Kd.C_alloc hk _) hd)
  rw [ht] at HI
  clear hr hc hk hd ht
  go_enter Try.func36, Try.ntmps36
  go_wp2_with fail
  refine HI.out.mono ?_
  rintro e w1 ⟨rfl, hb1⟩
  have BK : w1.heap[w.heap.size]? = some (.cells #[.int .i64 0, .slice none 0 0, .int .i64 0] 34 (0, 0)) := (hb1.block _ (by simp)).trans (heap_alloc_self w _)
  have hB : Below w.heap.size w w1 := below_then (below_alloc (Below.refl _ _) _) (by simp) hb1
  obtain ⟨x0, x1, x2, x3⟩ := blk_cells3 BK
  have x30 := x3 0
  have x31 := x3 1
  have x32 := x3 2
  have BKs := Aside0.mk BK
  have HBs := Aside0.mk hB
  clear BK hB hb1 HI x3
  obtain ⟨ad, A0, c0, A1, c1, e, h0, h1, l0, g0, l1, g1⟩ := at_T32 (Kd.C_below HR.out HBs.out) ((findR l k).1 : Int) (by omega) (by omega)
  cases e
  simp only [Int.toNat_natCast] at h0 h1
  have HG1 := Aside0.mk g1
  have HL1 := Aside0.mk l1
  clear g1 l1 g0 l0 h0
  go_wp2_with fail
  refine (clone18 A1 c1 _ w1 HG1.out HL1.out hv).mono ?_
  rintro e w2 ⟨v, rfl, ho, hb2⟩
  obtain ⟨Av, cv, rfl⟩ := Kd.R_slice ho
  have BK2 : w2.heap[w.heap.size]? = some (.cells #[.int .i64 0, .slice none 0 0, .int .i64 0] 34 (0, 0)) := (hb2.block _ (blk_lt BKs.out)).trans BKs.out
  obtain ⟨x0, x1, x2, x3⟩ := blk_cells3 BK2
  have x30 := x3 0
  have x31 := x3 1
  have x32 := x3 2
  have BKs2 := Aside0.mk BK2
  have HBs2 := Aside0.mk (below_then HBs.out HBs.out.size hb2)
  have HO := Aside0.mk (Kd.R_newB ho BKs.out)
  have hle := HBs.out.size
  have HLE := Aside0.mk hle
  clear BK2 x3 ho hb2 hle
  go_wp2_with fail
  refine bodyPost_ret (results_cell_row rfl _ _ w.heap.size 34 #[.int .i64 0, .slice Av (rd_T32 l ((findR l k).1 : Int)).f1.length cv, .int .i64 0] (0, 0) _ rfl (by refine blk_put (cs := #[.int .i64 0, .slice Av (rd_T32 l ((findR l k).1 : Int)).f1.length cv, .int .i64 0]) ?_ 2 _ rfl; refine blk_put (cs := #[.int .i64 0, .slice none 0 0, .int .i64 0]) ?_ 1 _ rfl; refine blk_put (cs := #[.int .i64 0, .slice none 0 0, .int .i64 0]) ?_ 0 _ rfl; exact BKs2.out) Try.underlying34 rfl (by kernel_rfl)) rfl ?_
  exact ⟨_, rfl, Kd.R_lower (Kd.R_mono (Kd.R_far (p := ⟨w.heap.size, 2, none⟩) (Kd.R_far (p := ⟨w.heap.size, 1, none⟩) (Kd.R_far (p := ⟨w.heap.size, 0, none⟩) HO.out (fun _ hk => hk.2) _) (fun _ hk => hk.2) _) (fun _ hk => hk.2) _) (fun _ _ => trivial)) HLE.out, ((HBs2.out.setCell (Nat.le_refl _) _).setCell (Nat.le_refl _) _).setCell (Nat.le_refl _) _⟩
theorem findR_lt (l : List S32) (k : List Int) (h : (findR l k).2 = true) : (findR l k).1 < l.length := by
  unfold findR at h ⊢
  split at h
  · rename_i h1
    rw [if_pos h1]
    exact h1
  · cases h
theorem insN_le (l : List S32) (k : List Int) (n : Nat) : insN l k n ≤ n := by
  induction n with
  | zero => exact Nat.le_refl 0
  | succ n ih =>
    unfold insN
    split
    · exact Nat.le_succ_of_le ih
    · exact Nat.le_refl _
theorem findR_le (l : List S32) (k : List Int) : (findR l k).1 ≤ l.length := by
  unfold findR
  split
  · rename_i h; exact Nat.le_of_lt h
  · exact insN_le l k _
theorem get8 (A B : Option Addr) (c d : Nat) (l : List S32) (k : List Int) (w : World) (hr : Kd.C k32 w A l.length l) (hc : l.length ≤ c) (hk : Kd.C (Kd.int .u8) w B k.length k) (hd : k.length ≤ d) (hv : ∀ x ∈ l, x.f1.length < 140737488355328) :
    Calls Try.prog 36 #[.slice A l.length c, .slice B k.length d] w (ResEnd w (getR l k)) := by
  unfold getR
  cases ht : (findR l k).2 with
  | false => exact get_none A B c d l k w hr hc hk hd ht
  | true =>
    have hlt := findR_lt l k ht
    exact get_some A B c d l k w hr hc hk hd ht hlt (hv _ (by rw [rd_get l _ hlt]; exact List.getElem_mem hlt))
end Go.Proofs.Ythfplgfpodmphaa.Ms
namespace Go.Proofs.Ythfplgfpodmphaa.Ob
open Go.RowKit Go.Proofs.YthfplgfpodmphaaW.PrintWords Go.Proofs.YthfplgfpodmphaaW.PrintLast Go.Proofs.YthfplgfpodmphaaW.PrintMore Go.Proofs.Ythfplgfpodmphaa.Ms
attribute [local go_sem] max2_int min2_int max_two min_two max_three min_three max_four min_four
set_option linter.unusedVariables false
set_option linter.unusedSimpArgs false
set_option maxRecDepth 100000
abbrev kb : Kd Int := Kd.int .u8
abbrev ki : Kd Int := Kd.int .i64
abbrev kq : Kd (List Int) := Kd.slice 5 (Kd.int .u8)
abbrev km : Kd S32 := Ms.k32
structure O where
  reg : List Int
  que : List (List Int)
  loc : List Int
  map : List S32
/-- Objects that are read. -/
structure OC (W : World) (o : O) (A0 : Option Addr) (c0 : Nat) (A1 : Option Addr) (c1 : Nat) (A2 : Option Addr) (c2 : Nat) (A3 : Option Addr) (c3 : Nat) : Prop where
  h0 : o.reg.length ≤ c0
  r0 : Kd.C kb W A0 o.reg.length o.reg
  h1 : o.que.length ≤ c1
  r1 : Kd.C kq W A1 o.que.length o.que
  h2 : o.loc.length ≤ c2
  r2 : Kd.C ki W A2 o.loc.length o.loc
  h3 : o.map.length ≤ c3
  r3 : Kd.C km W A3 o.map.length o.map
/-- Objects that lie behind base alone. -/
structure OF (base : Nat) (W : World) (o : O) (A0 : Option Addr) (c0 : Nat) (A1 : Option Addr) (c1 : Nat) (A2 : Option Addr) (c2 : Nat) (A3 : Option Addr) (c3 : Nat) : Prop where
  h0 : o.reg.length ≤ c0
  r0 : Kd.F kb W (fun k => base ≤ k) A0 o.reg.length o.reg
  h1 : o.que.length ≤ c1
  r1 : Kd.F kq W (fun k => base ≤ k) A1 o.que.length o.que
  h2 : o.loc.length ≤ c2
  r2 : Kd.F ki W (fun k => base ≤ k) A2 o.loc.length o.loc
  h3 : o.map.length ≤ c3
  r3 : Kd.F km W (fun k => base ≤ k) A3 o.map.length o.map
/-- No row is too long. -/
structure OB (o : O) : Prop where
  b0 : o.reg.length < 1000000
  b1 : o.que.length < 1000000
  e1 : ∀ x ∈ o.que, x.length < 1000000
  b2 : o.loc.length < 1000000
  b3 : o.map.length < 1000000
  e3 : ∀ x ∈ o.map, x.f0.length < 1000000 ∧ x.f1.length < 1000000
section
variable {W W' w w' : World} {o : O} {base b' : Nat} {A0 A1 A2 A3 : Option Addr} {c0 c1 c2 c3 : Nat}
theorem OF.C (h : OF base W o A0 c0 A1 c1 A2 c2 A3 c3) : OC W o A0 c0 A1 c1 A2 c2 A3 c3 := ⟨h.h0, Kd.F_now h.r0, h.h1, Kd.F_now h.r1, h.h2, Kd.F_now h.r2, h.h3, Kd.F_now h.r3⟩
theorem OC.below (h : OC W o A0 c0 A1 c1 A2 c2 A3 c3) (hb : Below W.heap.size W W') : OC W' o A0 c0 A1 c1 A2 c2 A3 c3 := ⟨h.h0, Kd.C_below h.r0 hb, h.h1, Kd.C_below h.r1 hb, h.h2, Kd.C_below h.r2 hb, h.h3, Kd.C_below h.r3 hb⟩
theorem OF.below (h : OF base W o A0 c0 A1 c1 A2 c2 A3 c3) (hb : Below W.heap.size W W') : OF base W' o A0 c0 A1 c1 A2 c2 A3 c3 := ⟨h.h0, Kd.F_below h.r0 hb, h.h1, Kd.F_below h.r1 hb, h.h2, Kd.F_below h.r2 hb, h.h3, Kd.F_below h.r3 hb⟩
theorem OF.step (h : OF base W o A0 c0 A1 c1 A2 c2 A3 c3) (hk : ∀ k, base ≤ k → k < W.heap.size → W'.heap[k]? = W.heap[k]?) : OF base W' o A0 c0 A1 c1 A2 c2 A3 c3 := ⟨h.h0, Kd.F_step h.r0 hk, h.h1, Kd.F_step h.r1 hk, h.h2, Kd.F_step h.r2 hk, h.h3, Kd.F_step h.r3 hk⟩
theorem OF.lower (h : OF base W o A0 c0 A1 c1 A2 c2 A3 c3) (hb : b' ≤ base) : OF b' W o A0 c0 A1 c1 A2 c2 A3 c3 := ⟨h.h0, Kd.F_mono h.r0 (fun k hk => Nat.le_trans hb hk), h.h1, Kd.F_mono h.r1 (fun k hk => Nat.le_trans hb hk), h.h2, Kd.F_mono h.r2 (fun k hk => Nat.le_trans hb hk), h.h3, Kd.F_mono h.r3 (fun k hk => Nat.le_trans hb hk)⟩
end
section
variable {α : Type} {d : Kd α} {e n c base : Nat} {ok : Nat → Prop} {W w w' : World} {A : Option Addr} {v v0 v2 : Value} {xs : List α}
theorem F_of_R (h : d.R e W base ok (.slice A n c) xs) : Kd.F d W (fun k => base ≤ k) A n xs := Kd.R_F (Kd.R_mono (Kd.R_bound h) (fun k hk => hk.2.1))
/-- One result: a Result. -/
def T1 (w : World) (r : S26) (e : Ending) (w' : World) : Prop := ∃ Av cv, e = .returned (.agg #[.int .i64 r.f0, .slice Av r.f1.length cv, .int .i64 r.f2]) ∧ r.f1.length ≤ cv ∧ Kd.F kb w' (fun k => w.heap.size ≤ k) Av r.f1.length r.f1 ∧ Below w.heap.size w w'
/-- Two results: a row and a Result. -/
def T2 (d : Kd α) (w : World) (xs : List α) (r : S26) (e : Ending) (w' : World) : Prop := ∃ A c Av cv, e = .returned (.tuple #[.slice A xs.length c, .agg #[.int .i64 r.f0, .slice Av r.f1.length cv, .int .i64 r.f2]]) ∧ xs.length ≤ c ∧ Kd.F d w' (fun k => w.heap.size ≤ k) A xs.length xs ∧ r.f1.length ≤ cv ∧ Kd.F kb w' (fun k => w.heap.size ≤ k) Av r.f1.length r.f1 ∧ Below w.heap.size w w'
theorem T1_R {r2 r4 : Int} {r3 : List Int} {ok2 : Nat → Prop} {en : Ending} (he : en = .returned (.agg #[.int .i64 r2, v2, .int .i64 r4])) (h2 : Kd.R kb 5 w' w.heap.size ok2 v2 r3) (hb : Below w.heap.size w w') : T1 w ⟨r2, r3, r4⟩ en w' := by
  obtain ⟨A2, c2, rfl⟩ := Kd.R_slice h2
  exact ⟨A2, c2, he, (Kd.R_reads' h2).2.1, F_of_R h2, hb⟩
theorem T2_R {r2 r4 : Int} {r3 : List Int} {ok2 : Nat → Prop} {en : Ending} (he : en = .returned (.tuple #[v0, .agg #[.int .i64 r2, v2, .int .i64 r4]])) (h0 : d.R e w' w.heap.size ok v0 xs) (h2 : Kd.R kb 5 w' w.heap.size ok2 v2 r3) (hb : Below w.heap.size w w') : T2 d w xs ⟨r2, r3, r4⟩ en w' := by
  obtain ⟨A, c, rfl⟩ := Kd.R_slice h0
  obtain ⟨A2, c2, rfl⟩ := Kd.R_slice h2
  exact ⟨A, c, A2, c2, he, (Kd.R_reads' h0).2.1, F_of_R h0, (Kd.R_reads' h2).2.1, F_of_R h2, hb⟩
theorem T2_S {r2 r4 : Int} {r3 : List Int} {ok2 : Nat → Prop} {en : Ending} (he : en = .returned (.tuple #[v0, .agg #[.int .i64 r2, v2, .int .i64 r4]])) (h0 : Kd.S d e w' w.heap.size ok v0 xs) (h2 : Kd.R kb 5 w' w.heap.size ok2 v2 r3) (hb : Below w.heap.size w w') : T2 d w xs ⟨r2, r3, r4⟩ en w' := T2_R he (Kd.S_R h0) h2 hb
end
theorem wrap_small (x : Int) (h0 : -9223372036854775808 ≤ x) (h1 : x < 9223372036854775808) : wrap64 x = x := by unfold wrap64; omega
theorem rd_L1_get (l : List (List Int)) (k : Nat) (h : k < l.length) : rd_L1 l (k : Int) = l[k] := by simp [rd_L1, List.getD_eq_getElem?_getD, List.getElem?_eq_getElem h]
theorem rd_get' (l : List Int) (k : Nat) (h : k < l.length) : rd l (k : Int) = l[k] := by simp [rd, List.getD_eq_getElem?_getD, List.getElem?_eq_getElem h]
def eqB (a b : List Int) : Bool := (strOfNums a).toList == (strOfNums b).toList
theorem eqB_refl (a : List Int) : eqB a a = true := by simp [eqB]
/-! what they answer -/
def writeR (s v : List Int) : List Int × S26 := if 16 < v.length then (s, ⟨1, [], 0⟩) else (v, ⟨0, [], 0⟩)
def casR (s old v : List Int) : List Int × S26 := if 16 < v.length then (s, ⟨1, [], 0⟩) else if eqB s old = true then (v, ⟨0, [], 0⟩) else (s, ⟨2, s, 0⟩)
def pushR (q : List (List Int)) (v : List Int) : List (List Int) × S26 := if 16 < v.length then (q, ⟨1, [], 0⟩) else if 8 ≤ q.length then (q, ⟨3, [], 0⟩) else (q ++ [v], ⟨0, [], (q.length : Int) + 1⟩)
def popR : List (List Int) → List (List Int) × S26
  | [] => ([], ⟨4, [], 0⟩)
  | x :: r => (r, ⟨0, x, 0⟩)
def ownerR : List Int → S26
  | [] => ⟨5, [], 0⟩
  | x :: r => ⟨0, [], x⟩
def idxR : List Int → Int → Nat
  | [], _ => 0
  | x :: r, a => if x = a then 0 else idxR r a + 1
theorem idxR_le (l : List Int) (a : Int) : idxR l a ≤ l.length := by
  induction l with
  | nil => exact Nat.le_refl _
  | cons x r ih => unfold idxR; split <;> simp <;> omega
def takeR (l : List Int) (a : Int) : List Int × S26 := if idxR l a < l.length then (l, ⟨6, [], 0⟩) else if 5 ≤ l.length then (l, ⟨3, [], 0⟩) else (l ++ [a], ⟨0, [], (l.length : Int)⟩)
def dropR (l : List Int) (a : Int) : List Int := l.take (idxR l a) ++ l.drop (idxR l a + 1)
def freeR (l : List Int) (a : Int) : List Int × S26 := if idxR l a < l.length then (match dropR l a with | [] => ([], ⟨0, [], -1⟩) | x :: r => (x :: r, ⟨0, [], x⟩)) else (l, ⟨5, [], 0⟩)
/-! what is printed answers so -/
theorem clone_f (l : List Int) (h : l.length < 140737488355328) : slices_Clone_byte_byte.f l = some l := by unfold slices_Clone_byte_byte.f; rw [if_pos h]
theorem read29 (A0 : Option Addr) (c0 : Nat) (l0 : List Int) (w : World) (hr0 : Kd.C kb w A0 l0.length l0) (hc0 : l0.length ≤ c0) (hb0 : l0.length < 1000000) :
    Calls Try.prog 29 #[.slice A0 l0.length c0] w (T1 w ⟨0, l0, 0⟩) :=
  (regs_Read.calls A0 c0 l0 0 l0 0 w hr0 hc0 (by unfold regs_Read.f; rw [clone_f _ (by omega)]; rfl)).mono (fun e w' ⟨v1, he, hR, hb⟩ => T1_R he hR hb)
theorem write30 (A0 : Option Addr) (c0 : Nat) (l0 : List Int) (A1 : Option Addr) (c1 : Nat) (l1 : List Int) (w : World) (hr0 : Kd.C kb w A0 l0.length l0) (hc0 : l0.length ≤ c0) (hb0 : l0.length < 1000000) (hr1 : Kd.C kb w A1 l1.length l1) (hc1 : l1.length ≤ c1) (hb1 : l1.length < 1000000) :
    Calls Try.prog 30 #[.slice A0 l0.length c0, .slice A1 l1.length c1] w (T2 kb w (writeR l0 l1).1 (writeR l0 l1).2) := by
  unfold writeR
  split
  · exact (regs_Write.calls A0 c0 l0 A1 c1 l1 l0 1 [] 0 w hr0 hc0 hr1 hc1 (by unfold regs_Write.f; rw [if_pos (by omega), clone_f _ (by omega)]; rfl)).mono (fun e w' ⟨v0, v2, he, hR0, hR2, hb⟩ => T2_R he hR0 hR2 hb)
  · exact (regs_Write.calls A0 c0 l0 A1 c1 l1 l1 0 [] 0 w hr0 hc0 hr1 hc1 (by unfold regs_Write.f; rw [if_neg (by omega), clone_f _ (by omega)]; rfl)).mono (fun e w' ⟨v0, v2, he, hR0, hR2, hb⟩ => T2_R he hR0 hR2 hb)
theorem owner77 (A0 : Option Addr) (c0 : Nat) (l0 : List Int) (w : World) (hr0 : Kd.C ki w A0 l0.length l0) (hc0 : l0.length ≤ c0) : Calls Try.prog 77 #[.slice A0 l0.length c0] w (T1 w (ownerR l0)) := by
  cases l0 with
  | nil => exact (lock_Owner.calls A0 c0 [] 5 [] 0 w hr0 hc0 (by simp [lock_Owner.f])).mono (fun e w' ⟨v1, he, hR, hb⟩ => T1_R he hR hb)
  | cons x r => exact (lock_Owner.calls A0 c0 (x :: r) 0 [] x w hr0 hc0 (by unfold lock_Owner.f; rw [if_neg (by simp <;> omega), if_pos (by simp <;> omega)]; rfl)).mono (fun e w' ⟨v1, he, hR, hb⟩ => T1_R he hR hb)
theorem S_cap1 {α : Type} {d : Kd α} {e : Nat} {w : World} {base : Nat} {ok : Nat → Prop} {A : Option Addr} {c : Nat} {l : List α} (h : Kd.S d e w base ok (.slice A l.length c) l) : l.length ≤ c ∧ c ≤ 9223372036854775807 ∧ (A = none → l.length = 0) := by
  obtain ⟨inner, hown⟩ := Kd.S_own h
  rcases hown.2 with ⟨h', h0⟩ | ⟨g', cap', cur, h', _, _, h1, h2, _⟩
  · simp only [Value.slice.injEq] at h'
    exact ⟨by omega, by omega, fun _ => h'.2.1⟩
  · simp only [Value.slice.injEq] at h'
    unfold maxLen at h2
    exact ⟨by omega, by omega, fun e => by rw [e] at h'; cases h'.1⟩
/-! ### fifo_Still: function 74 -/
def fifo_Still.l0 : Nat → List (List Int) → List (List Int) → Int → Int → Option ((List (List Int)))
  | 0, _, _, _, _ => none
  | k + 1, x3, x6, x7, x8 => if x8 < x7 then (if 0 ≤ x8 then (if x8 < (x6.length : Int) then ((slices_Clone_byte_byte.f (rd_L1 x6 x8)).bind fun t108 => (if x3.length < 5864062014805 then (fifo_Still.l0 k (x3 ++ [t108]) x6 x7 (wrap64 (x8 + 1))) else (none))) else (none)) else (none)) else (some x3)
def fifo_Still.f (k : Nat) (l0 : List (List Int)) : Option ((List (List Int))) := fifo_Still.l0 k ([] : List (List Int)) l0 (l0.length : Int) 0
theorem fifo_Still.mono_l : ∀ k, (∀ y0 y1 y2 y3, LeO (fifo_Still.l0 k y0 y1 y2 y3) (fifo_Still.l0 (k + 1) y0 y1 y2 y3))
  | 0 => fun _ _ _ _ r h => by simp [fifo_Still.l0] at h
  | k + 1 => by
    have ih0 := fifo_Still.mono_l k
    · intro y0 y1 y2 y3
      unfold fifo_Still.l0
      repeat' first
      | (with_reducible exact ih0 _ _ _ _)
      | (with_reducible exact LeO.refl _)
      | (with_reducible exact LeO.none _)
      | (with_reducible refine LeO.ite ?_ ?_)
      | (with_reducible refine LeO.bind ?_ (fun _ => ?_))
      | exact ih0 _ _ _ _
      | exact LeO.none _
      | refine LeO.ite ?_ ?_
      | refine LeO.bind ?_ (fun _ => ?_)
theorem fifo_Still.mono : ∀ a0 k, LeO (fifo_Still.f k a0) (fifo_Still.f (k + 1) a0) := by
  intro a0 k
  have ih0 := fifo_Still.mono_l k
  unfold fifo_Still.f
  repeat' first
      | (with_reducible exact ih0 _ _ _ _)
      | (with_reducible exact LeO.refl _)
      | (with_reducible exact LeO.none _)
      | (with_reducible refine LeO.ite ?_ ?_)
      | (with_reducible refine LeO.bind ?_ (fun _ => ?_))
      | exact ih0 _ _ _ _
      | exact LeO.none _
      | refine LeO.ite ?_ ?_
      | refine LeO.bind ?_ (fun _ => ?_)
set_option maxHeartbeats 8000000 in
set_option maxRecDepth 100000 in
theorem fifo_Still.calls (k : Nat) (A0 : Option Addr) (c0 : Nat) (l0 : List (List Int)) (r : List (List Int)) (w : World) (hr0 : Kd.C (Kd.slice 5 (Kd.int .u8)) w A0 l0.length l0) (hc0 : l0.length ≤ c0) (h : fifo_Still.f k l0 = some r) :
    Calls Try.prog 74 #[.slice A0 l0.length c0] w fun e w' => ∃ A', e = .returned (.slice A' r.length r.length) ∧ (∃ c, Kd.S (Kd.slice 5 (Kd.int .u8)) 22 w' w.heap.size (fun _ => True) (.slice A' r.length c) r) ∧ Below w.heap.size w w' := by
  have HR0 := Aside0.mk hr0
  have HC0 := Aside0.mk hc0
  clear hr0 hc0
  have HB := Aside0.mk (Below.refl w.heap.size w)
  have H : (fifo_Still.l0 k ([] : List (List Int)) l0 (l0.length : Int) 0) = some r := h
  clear h
  have H' := Aside0.mk H
  clear H
  go_enter Try.func74, Try.ntmps74
  go_wp2
  go_loopg [3, 8] k (fun kq v3 v8 w' => ∃ (x3_1 : List (List Int)) (x8_1 : Int), v8 = .int .i64 x8_1 ∧ Aside0 (fifo_Still.l0 kq x3_1 l0 (l0.length : Int) x8_1 = some r) ∧ Aside0 (kq ≤ k) ∧ Aside0 (Kd.S (Kd.slice 5 (Kd.int .u8)) 22 w' w.heap.size (fun _ => True) v3 x3_1) ∧ Aside0 (Below w.heap.size w w'))
  case atStart => exact ⟨(([] : List (List Int))), (0), (by first | rfl | (simp; done) | (simp [*]; done)), H', ⟨Nat.le_refl _⟩, ⟨by first | exact Kd.S_nil _ _ _ _ _ | exact Kd.N_nil _ _ _ _ _ | exact Kd.V_nil _ _ _ _ _ | exact Kd.Q_nil _ _ _ _ _ | exact Kd.R_nil _ _ _ _ _⟩, ⟨by repeat (first | (with_reducible first | exact HB.out | apply below_alloc | apply pw_below_drewN | apply below_drew1) | exact HB.out)⟩⟩
  case round =>
    clear H'
    obtain ⟨x3_1, x8_1, rfl, HA, HK1, HO_3, HB⟩ := hrel
    cases gk with
    | zero => exact absurd HA.out (by simp [fifo_Still.l0])
    | succ k1 =>
      have H := HA.out
      clear HA
      simp only [fifo_Still.l0] at H
      by_cases c2 : x8_1 < (l0.length : Int)
      · rw [if_pos c2] at H
        have c2b0 : decide (x8_1 < (l0.length : Int)) = true := decide_eq_true c2
        clear c2
        by_cases c3 : 0 ≤ x8_1
        · rw [if_pos c3] at H
          have c3b0 : decide (0 ≤ x8_1) = true := decide_eq_true c3
          clear c3
          by_cases c4 : x8_1 < (l0.length : Int)
          · rw [if_pos c4] at H
            have c4b0 : decide (x8_1 < (l0.length : Int)) = true := decide_eq_true c4
            clear c4
            replace H := Option.bind_eq_some_iff.mp H
            obtain ⟨t108, A50, H⟩ := H
            replace H : (if x3_1.length < 5864062014805 then (fifo_Still.l0 k1 (x3_1 ++ [t108]) l0 (l0.length : Int) (wrap64 (x8_1 + 1))) else (none)) = some r := H
            have A5 := Aside0.mk A50
            clear A50
            by_cases c6 : x3_1.length < 5864062014805
            · rw [if_pos c6] at H
              have LMc6 := Aside0.mk c6
              clear c6
              obtain ⟨y111, hy111⟩ : ∃ y_ : List (List Int), y_ = (x3_1 ++ [t108]) := ⟨_, rfl⟩
              replace H : (fifo_Still.l0 k1 y111 l0 (l0.length : Int) (wrap64 (x8_1 + 1))) = some r := by first | (rw [hy111]; with_reducible exact H) | (have H2_ := (Option.bind_some _ _).symm.trans H; rw [hy111]; with_reducible exact H2_) | (have H2_ := (Option.bind_some _ _).symm.trans H; with_reducible exact H2_) | with_reducible exact H | (rw [hy111]; exact H) | exact H
              have Ny111 := Aside0.mk hy111
              clear hy111
              have H' := Aside0.mk H
              clear H
              have p107 : 0 ≤ (x8_1 : Int) := of_decide_eq_true (by first | (with_reducible assumption) | assumption)
              have q107 : x8_1 < (l0.length : Int) := of_decide_eq_true (by first | (with_reducible assumption) | assumption)
              obtain ⟨ad107, A107_0, c107_0, e107, hx107_0, hl107_0, hi107_0⟩ := at_L1 HR0.out x8_1 p107 q107
              cases e107
              replace hx107_0 := (HB.out.cell (World.block_lt_of_cell? w _ hx107_0)).trans hx107_0
              have HR107_0 := Aside0.mk hi107_0
              have HC107_0 := Aside0.mk hl107_0
              clear hi107_0 hl107_0
              replace p107 := eq_true p107
              replace q107 := eq_true q107
              go_wp2_with (first | ((with_reducible refine gate_callee (f := 73) rfl ?_); refine goesL_ (some 14) rfl rfl Try.func73 (by kernel_rfl) rfl #[.slice A107_0 (rd_L1 l0 x8_1).length c107_0] rfl mapq ?_; (with_reducible refine (slices_Clone_byte_byte.calls _ _ (rd_L1 l0 x8_1) t108 _ ?side1 ?side2 A5.out).mono ?_); (case side1 => repeat (first | exact (Kd.C_below HR107_0.out HB.out) | (with_reducible refine Kd.C_alloc ?_ _) | (with_reducible refine Kd.C_drewN ?_ _) | (with_reducible refine Kd.C_drew ?_))); (case side2 => exact HC107_0.out); rintro e w7 ⟨v109, rfl, ho0, hb⟩; refine ⟨_, rfl, ?_⟩; have n0_ := Aside0.mk (Kd.S_elder' (by (with_reducible repeat (first | apply Kd.S_alloc | apply Kd.S_drewN | apply Kd.S_drew)); exact HO_3.out) (Kd.R_base ho0) hb); have n1_ := Aside0.mk (Kd.R_lower ho0 (below_size (bq HB))); have n2_ := Aside0.mk (below_step (bq HB) hb); clear HO_3; clear HB; have HO_3 := n0_; have HO110 := n1_; have HB := n2_; clear n0_ n1_ n2_; (try clear hb); (try clear hb2); (try clear hk); (try clear hi); (try clear ho0); obtain ⟨Ao9, co9, eo9⟩ := Kd.R_slice HO110.out; subst eo9) | ((with_reducible refine gate_builtin (b := .append) (xs := #[.tmp 12, .tmp 15]) rfl ?_); at_builtin; refine Kd.S_append (Kd.slice 5 (Kd.int .u8)) (w0 := w) w.heap.size rfl (.tmp 12) (.tmp 15) 28 22 (.slice none 0 0) 24 rfl Try.underlying28 info22 rfl (by decide) (by omega) u3 x3_1 t108 [.slice Ao9 t108.length co9] (fun _ => True) (fun k_ => some k_ = (.slice Ao9 t108.length co9 : Value).ownBlock) rfl rfl ?aP (fun k_ hk_ => ((Kd.R_mono (ok' := fun k_ => ((fun _ => True)) k_ ∧ some k_ ≠ (u3 : Value).ownBlock) (Kd.R_apart' (HO110.out) (Kd.S_typed HO_3.out) (by decide)) (fun k_ hk => ⟨trivial, hk.2⟩))).1 k_ hk_.symm) ?aF ?aO ?aB ?aS ?aL ?_; (case aP => exact Kd.M_row (Kd.R_mono (Kd.R_tight rfl (Kd.R_mono (ok' := fun k_ => ((fun _ => True)) k_ ∧ some k_ ≠ (u3 : Value).ownBlock) (Kd.R_apart' (HO110.out) (Kd.S_typed HO_3.out) (by decide)) (fun k_ hk => ⟨trivial, hk.2⟩))) (fun _ h_ => h_))); (case aB => exact (bq HB)); (case aF => exact (fun _ _ => trivial)); (case aO => exact (by (with_reducible repeat (first | apply Kd.S_alloc | apply Kd.S_drewN | apply Kd.S_drew)); exact Kd.S_mono HO_3.out (fun k_ hk => ⟨trivial, fun e_ => hk.2 e_⟩))); (case aS => exact (below_size (bq HB))); (case aL => have := LMc6.out; omega); intro v112 w8 ho hb hg hat; rw [← Ny111.out] at ho; have n0_ := Aside0.mk (hb); have n1_ := Aside0.mk (ho); clear HB; clear HO_3; clear HO110; have HB := n0_; have HO113 := n1_; clear n0_ n1_; clear ho hb hg hat))
              go_roundg k1
              case measure => have := HK1.out; omega
              case rel => exact ⟨(y111), (wrap64 (x8_1 + 1)), (by first | rfl | (simp; done) | (simp [*]; done)), H', ⟨by have := HK1.out; omega⟩, ⟨by (with_reducible repeat (first | apply Kd.S_alloc | apply Kd.S_drewN | apply Kd.S_drew)); exact HO113.out⟩, ⟨by repeat (first | (with_reducible first | exact HB.out | apply below_alloc | apply pw_below_drewN | apply below_drew1) | exact HB.out)⟩⟩
            · rw [if_neg c6] at H
              exact absurd H (by simp)
          · rw [if_neg c4] at H
            exact absurd H (by simp)
        · rw [if_neg c3] at H
          exact absurd H (by simp)
      · rw [if_neg c2] at H
        have c2b0 : decide (x8_1 < (l0.length : Int)) = false := decide_eq_false c2
        clear c2
        obtain rfl := Option.some.inj H
        have HS2 := Aside0.mk (show Kd.S (Kd.slice 5 (Kd.int .u8)) 22 wr w.heap.size (fun _ => True) u3 x3_1 from HO_3.out)
        obtain ⟨A3, c3, rfl⟩ := Kd.S_slice HS2.out
        have hcm := S_cap1 HS2.out
        go_wp2_with fail
        refine (clip100 A3 c3 x3_1.length _ hcm.1 hcm.2.1 hcm.2.2).mono ?_
        rintro e w2 ⟨rfl, rfl⟩
        go_wp2_with fail
        go_ret
        exact ⟨A3, rfl, ⟨c3, HS2.out⟩, HB.out⟩
theorem fstill_l0 : ∀ (k i : Nat) (l : List (List Int)), i ≤ l.length → l.length < i + k → l.length < 1000000 → (∀ x ∈ l, x.length < 1000000) → fifo_Still.l0 k (l.take i) l (l.length : Int) (i : Int) = some l
  | 0, i, l, _, h, _, _ => absurd h (by omega)
  | k + 1, i, l, h1, h2, hn, hv => by
    simp only [fifo_Still.l0]
    by_cases hi : i < l.length
    · rw [if_pos (by omega), if_pos (by omega), if_pos (by omega), rd_L1_get l i hi, clone_f _ (by have := hv _ (List.getElem_mem hi); omega)]
      simp only [Option.bind_some]
      rw [if_pos (by rw [List.length_take]; omega), wrap_small _ (by omega) (by omega), show l.take i ++ [l[i]] = l.take (i + 1) from by simp]
      exact fstill_l0 k (i + 1) l (by omega) (by omega) hn hv
    · obtain rfl : i = l.length := by omega
      rw [if_neg (by omega), List.take_length]
theorem F_of_S {α : Type} {d : Kd α} {e n c base : Nat} {ok : Nat → Prop} {W : World} {A : Option Addr} {xs : List α} (h : Kd.S d e W base ok (.slice A n c) xs) : Kd.F d W (fun k => base ≤ k) A n xs := F_of_R (Kd.S_R h)
/-- fifo.Still: a copy, cut to its length. -/
theorem still74 (A0 : Option Addr) (c0 : Nat) (l0 : List (List Int)) (w : World) (hr0 : Kd.C kq w A0 l0.length l0) (hc0 : l0.length ≤ c0) (hn : l0.length < 1000000) (hv : ∀ x ∈ l0, x.length < 1000000) :
    Calls Try.prog 74 #[.slice A0 l0.length c0] w fun e w' => ∃ A', e = .returned (.slice A' l0.length l0.length) ∧ Kd.F kq w' (fun k => w.heap.size ≤ k) A' l0.length l0 ∧ (A' = none → l0.length = 0) ∧ Below w.heap.size w w' :=
  (fifo_Still.calls (l0.length + 1) A0 c0 l0 l0 w hr0 hc0 (by unfold fifo_Still.f; exact fstill_l0 (l0.length + 1) 0 l0 (by omega) (by omega) hn hv)).mono (fun e w' ⟨A', he, ⟨c, hS⟩, hb⟩ => ⟨A', he, F_of_S hS, (S_cap1 hS).2.2, hb⟩)
/-- maps.Still, in the same form. -/
theorem still76 (A0 : Option Addr) (c0 : Nat) (l0 : List S32) (w : World) (hr0 : Kd.C km w A0 l0.length l0) (hc0 : l0.length ≤ c0) (hn : l0.length < 1000000) (hv : ∀ x ∈ l0, x.f0.length < 1000000 ∧ x.f1.length < 1000000) :
    Calls Try.prog 76 #[.slice A0 l0.length c0] w fun e w' => ∃ A', e = .returned (.slice A' l0.length l0.length) ∧ Kd.F km w' (fun k => w.heap.size ≤ k) A' l0.length l0 ∧ Below w.heap.size w w' :=
  (still16 A0 c0 l0 w hr0 hc0 hn (fun x hx => ⟨by have := (hv x hx).1; omega, by have := (hv x hx).2; omega⟩)).mono (fun e w' ⟨A', he, ⟨c, hS⟩, hb⟩ => ⟨A', he, F_of_S hS, hb⟩)
/-- Cells of a block that were stored, one behind the other. -/
def St (B : Nat) (w : World) (g : Nat) (t : TypeId) (cs : Array Value) (W W' : World) : Prop := Below B w W' ∧ W'.heap[g]? = some (.cells cs t (0, 0)) ∧ (∀ k, k ≠ g → W'.heap[k]? = W.heap[k]?) ∧ W'.heap.size = W.heap.size
theorem St.first {B : Nat} {w W : World} {g : Nat} {t : TypeId} {cs cs' : Array Value} (hB : Below B w W) (hg : B ≤ g) (h : W.heap[g]? = some (.cells cs t (0, 0))) (i : Nat) (v : Value) (e : cs.setIfInBounds i v = cs') : St B w g t cs' W (W.setCell ⟨g, i, none⟩ v) :=
 ⟨hB.setCell (p := ⟨g, i, none⟩) hg v, by rw [← e]; exact heap_set_same v h, fun k hk => Below.heap_setCell _ ⟨g, i, none⟩ _ k hk, by simp⟩
theorem St.next {B : Nat} {w W W1 : World} {g : Nat} {t : TypeId} {cs cs' : Array Value} (h : St B w g t cs W W1) (hg : B ≤ g) (i : Nat) (v : Value) (e : cs.setIfInBounds i v = cs') : St B w g t cs' W (W1.setCell ⟨g, i, none⟩ v) :=
 ⟨h.1.setCell (p := ⟨g, i, none⟩) hg v, by rw [← e]; exact heap_set_same v h.2.1, fun k hk => (Below.heap_setCell _ ⟨g, i, none⟩ _ k hk).trans (h.2.2.1 k hk), by rw [← h.2.2.2]; simp⟩
theorem blk_keep {W W' : World} {g : Nat} {o : Obj} (h : W.heap[g]? = some o) (hb : Below W.heap.size W W') : W'.heap[g]? = some o := (hb.block g (Array.getElem?_eq_some_iff.1 h).1).trans h
theorem cells4 {W : World} {g : Nat} {t : TypeId} {a b c d : Value} (h : W.heap[g]? = some (.cells #[a, b, c, d] t (0, 0))) : W.cell? ⟨g, 0, none⟩ = some a ∧ W.cell? ⟨g, 1, none⟩ = some b ∧ W.cell? ⟨g, 2, none⟩ = some c ∧ W.cell? ⟨g, 3, none⟩ = some d ∧ ∀ j, W.frozen? ⟨g, j, none⟩ = false :=
 ⟨(cell_of_heap h).1, (cell_of_heap h).1, (cell_of_heap h).1, (cell_of_heap h).1, fun _ => (cell_of_heap h).2⟩
theorem cells5 {W : World} {g : Nat} {t : TypeId} {a b c d e : Value} (h : W.heap[g]? = some (.cells #[a, b, c, d, e] t (0, 0))) : W.cell? ⟨g, 0, none⟩ = some a ∧ W.cell? ⟨g, 1, none⟩ = some b ∧ W.cell? ⟨g, 2, none⟩ = some c ∧ W.cell? ⟨g, 3, none⟩ = some d ∧ W.cell? ⟨g, 4, none⟩ = some e ∧ ∀ j, W.frozen? ⟨g, j, none⟩ = false :=
 ⟨(cell_of_heap h).1, (cell_of_heap h).1, (cell_of_heap h).1, (cell_of_heap h).1, (cell_of_heap h).1, fun _ => (cell_of_heap h).2⟩
theorem cells3 {W : World} {g : Nat} {t : TypeId} {a b c : Value} (h : W.heap[g]? = some (.cells #[a, b, c] t (0, 0))) : W.cell? ⟨g, 0, none⟩ = some a ∧ W.cell? ⟨g, 1, none⟩ = some b ∧ W.cell? ⟨g, 2, none⟩ = some c ∧ ∀ j, W.frozen? ⟨g, j, none⟩ = false :=
 ⟨(cell_of_heap h).1, (cell_of_heap h).1, (cell_of_heap h).1, fun _ => (cell_of_heap h).2⟩
theorem FS {α : Type} {d : Kd α} {B : Nat} {w W W' : World} {g n : Nat} {t : TypeId} {cs : Array Value} {ok : Nat → Prop} {A : Option Addr} {xs : List α} (h : Aside0 (Kd.F d W ok A n xs)) (s : St B w g t cs W W') (hne : ∀ k, ok k → k ≠ g) : Aside0 (Kd.F d W' ok A n xs) := ⟨Kd.F_step h.out (fun k hk _ => s.2.2.1 k (hne k hk))⟩
theorem KS {B : Nat} {w W W' : World} {g k : Nat} {t : TypeId} {cs : Array Value} {o : Option Obj} (h : Aside0 (W.heap[k]? = o)) (s : St B w g t cs W W') (hne : k ≠ g) : Aside0 (W'.heap[k]? = o) := ⟨(s.2.2.1 k hne).trans h.out⟩
theorem FB {α : Type} {d : Kd α} {W W' : World} {n : Nat} {ok : Nat → Prop} {A : Option Addr} {xs : List α} (h : Aside0 (Kd.F d W ok A n xs)) (hb : Below W.heap.size W W') : Aside0 (Kd.F d W' ok A n xs) := ⟨Kd.F_below h.out hb⟩
theorem KB {W W' : World} {g : Nat} {o : Obj} (h : Aside0 (W.heap[g]? = some o)) (hb : Below W.heap.size W W') : Aside0 (W'.heap[g]? = some o) := ⟨blk_keep h.out hb⟩
theorem HBs {w W W' : World} (h : Aside0 (Below w.heap.size w W)) (hb : Below W.heap.size W W') : Aside0 (Below w.heap.size w W') := ⟨below_then h.out h.out.size hb⟩
theorem cel3 {W : World} {g : Nat} {t : TypeId} {a b c : Value} (h : W.heap[g]? = some (.cells #[a, b, c] t (0, 0))) : W.cell? ⟨g, 0, none⟩ = some a ∧ W.cell? ⟨g, 1, none⟩ = some b ∧ W.cell? ⟨g, 2, none⟩ = some c ∧ W.frozen? ⟨g, 0, none⟩ = false ∧ W.frozen? ⟨g, 1, none⟩ = false ∧ W.frozen? ⟨g, 2, none⟩ = false := by
 obtain ⟨h0, h1, h2, hf⟩ := cells3 h
 exact ⟨h0, h1, h2, hf 0, hf 1, hf 2⟩
theorem cel4 {W : World} {g : Nat} {t : TypeId} {a b c d : Value} (h : W.heap[g]? = some (.cells #[a, b, c, d] t (0, 0))) : W.cell? ⟨g, 0, none⟩ = some a ∧ W.cell? ⟨g, 1, none⟩ = some b ∧ W.cell? ⟨g, 2, none⟩ = some c ∧ W.cell? ⟨g, 3, none⟩ = some d ∧ W.frozen? ⟨g, 0, none⟩ = false ∧ W.frozen? ⟨g, 1, none⟩ = false ∧ W.frozen? ⟨g, 2, none⟩ = false ∧ W.frozen? ⟨g, 3, none⟩ = false := by
 obtain ⟨h0, h1, h2, h3, hf⟩ := cells4 h
 exact ⟨h0, h1, h2, h3, hf 0, hf 1, hf 2, hf 3⟩
theorem cel5 {W : World} {g : Nat} {t : TypeId} {a b c d e : Value} (h : W.heap[g]? = some (.cells #[a, b, c, d, e] t (0, 0))) : W.cell? ⟨g, 0, none⟩ = some a ∧ W.cell? ⟨g, 1, none⟩ = some b ∧ W.cell? ⟨g, 2, none⟩ = some c ∧ W.cell? ⟨g, 3, none⟩ = some d ∧ W.cell? ⟨g, 4, none⟩ = some e ∧ W.frozen? ⟨g, 0, none⟩ = false ∧ W.frozen? ⟨g, 1, none⟩ = false ∧ W.frozen? ⟨g, 2, none⟩ = false ∧ W.frozen? ⟨g, 3, none⟩ = false ∧ W.frozen? ⟨g, 4, none⟩ = false := by
 obtain ⟨h0, h1, h2, h3, h4, hf⟩ := cells5 h
 exact ⟨h0, h1, h2, h3, h4, hf 0, hf 1, hf 2, hf 3, hf 4⟩
theorem st3 {B g : Nat} {w W V : World} {t : TypeId} {a0 a1 a2 b0 b1 b2 : Value} (hB : Below B w W) (hg : B ≤ g) (h : W.heap[g]? = some (.cells #[a0, a1, a2] t (0, 0))) (hV : ((W.setCell ⟨g, 0, none⟩ b0).setCell ⟨g, 1, none⟩ b1).setCell ⟨g, 2, none⟩ b2 = V) : St B w g t #[b0, b1, b2] W V := by
 rw [← hV]; exact ((St.first hB hg h 0 _ rfl).next hg 1 _ rfl).next hg 2 _ rfl
theorem st4 {B g : Nat} {w W V : World} {t : TypeId} {a0 a1 a2 a3 b0 b1 b2 b3 : Value} (hB : Below B w W) (hg : B ≤ g) (h : W.heap[g]? = some (.cells #[a0, a1, a2, a3] t (0, 0))) (hV : (((W.setCell ⟨g, 0, none⟩ b0).setCell ⟨g, 1, none⟩ b1).setCell ⟨g, 2, none⟩ b2).setCell ⟨g, 3, none⟩ b3 = V) : St B w g t #[b0, b1, b2, b3] W V := by
 rw [← hV]; exact (((St.first hB hg h 0 _ rfl).next hg 1 _ rfl).next hg 2 _ rfl).next hg 3 _ rfl
theorem st5 {B g : Nat} {w W V : World} {t : TypeId} {a0 a1 a2 a3 a4 b0 b1 b2 b3 b4 : Value} (hB : Below B w W) (hg : B ≤ g) (h : W.heap[g]? = some (.cells #[a0, a1, a2, a3, a4] t (0, 0))) (hV : ((((W.setCell ⟨g, 0, none⟩ b0).setCell ⟨g, 1, none⟩ b1).setCell ⟨g, 2, none⟩ b2).setCell ⟨g, 3, none⟩ b3).setCell ⟨g, 4, none⟩ b4 = V) : St B w g t #[b0, b1, b2, b3, b4] W V := by
 rw [← hV]; exact ((((St.first hB hg h 0 _ rfl).next hg 1 _ rfl).next hg 2 _ rfl).next hg 3 _ rfl).next hg 4 _ rfl
theorem al1 {W V : World} {o1 : Obj} (h : W.alloc o1 = V) : Aside0 (V.heap[W.heap.size]? = some o1) ∧ Below W.heap.size W V ∧ Aside0 (V.heap.size = W.heap.size + 1) := by
 subst h; exact ⟨⟨heap_alloc_self W _⟩, below_alloc (Below.refl _ _) _, ⟨by simp⟩⟩
theorem al2 {W V : World} {o1 o2 : Obj} (h : (W.alloc o1).alloc o2 = V) : Aside0 (V.heap[W.heap.size]? = some o1) ∧ Aside0 (V.heap[W.heap.size + 1]? = some o2) ∧ Below W.heap.size W V ∧ Aside0 (V.heap.size = W.heap.size + 2) := by
 obtain ⟨k1, b1, s1⟩ := al1 (rfl : W.alloc o1 = _)
 obtain ⟨k2, b2, s2⟩ := al1 h
 rw [s1.out] at k2 s2
 exact ⟨KB k1 b2, k2, below_then b1 b1.size b2, s2⟩
theorem al4 {W V : World} {o1 o2 o3 o4 : Obj} (h : (((W.alloc o1).alloc o2).alloc o3).alloc o4 = V) : Aside0 (V.heap[W.heap.size]? = some o1) ∧ Aside0 (V.heap[W.heap.size + 1]? = some o2) ∧ Aside0 (V.heap[W.heap.size + 1 + 1]? = some o3) ∧ Aside0 (V.heap[W.heap.size + 1 + 1 + 1]? = some o4) ∧ Below W.heap.size W V ∧ Aside0 (V.heap.size = W.heap.size + 4) := by
 obtain ⟨k1, k2, b1, s1⟩ := al2 (rfl : (W.alloc o1).alloc o2 = _)
 obtain ⟨k3, k4, b2, s2⟩ := al2 h
 rw [s1.out] at k3 k4 s2
 exact ⟨KB k1 b2, KB k2 b2, k3, k4, below_then b1 b1.size b2, s2⟩
set_option maxHeartbeats 2000000 in
/-- objs.Still: objects of their own. -/
theorem objs28 (A0 : Option Addr) (c0 : Nat) (A1 : Option Addr) (c1 : Nat) (A2 : Option Addr) (c2 : Nat) (A3 : Option Addr) (c3 : Nat) (o : O) (w : World) (hc : OC w o A0 c0 A1 c1 A2 c2 A3 c3) (hb : OB o) :
  Calls Try.prog 28 #[.agg #[.slice A0 o.reg.length c0, .slice A1 o.que.length c1, .slice A2 o.loc.length c2, .slice A3 o.map.length c3]] w (fun e w' => ∃ B0 d0 B1 d1 B2 d2 B3 d3, e = .returned (.agg #[.slice B0 o.reg.length d0, .slice B1 o.que.length d1, .slice B2 o.loc.length d2, .slice B3 o.map.length d3]) ∧ OF w.heap.size w' o B0 d0 B1 d1 B2 d2 B3 d3 ∧ Below w.heap.size w w') := by
 have HC := Aside0.mk hc
 have HO := Aside0.mk hb
 clear hc hb
 have HB := Aside0.mk (Below.refl w.heap.size w)
 go_enter Try.func28, Try.ntmps28
 go_wp2_with fail
 generalize hV0 : World.alloc _ _ = V0
 obtain ⟨K0, K1, hb_, SV0⟩ := al2 hV0
 clear hV0
 replace HB := HBs HB hb_
 clear hb_
 have bd_ := below_drew1 (Below.refl V0.heap.size V0)
 have HB1 := Aside0.mk (below_then HB.out HB.out.size bd_)
 have HD := Aside0.mk bd_
 clear bd_
 refine start_ (n := 14) (S := fun w' => w'.cell? ⟨w.heap.size, 0, none⟩ = some (.slice A0 o.reg.length c0) ∧ w'.cell? ⟨w.heap.size, 1, none⟩ = some (.slice A1 o.que.length c1) ∧ w'.cell? ⟨w.heap.size, 2, none⟩ = some (.slice A2 o.loc.length c2) ∧ w'.cell? ⟨w.heap.size, 3, none⟩ = some (.slice A3 o.map.length c3)) (ds := [13]) #[false, false, false, false, false, false, false, false, false, false, false, false, false, false] (by kernel_rfl) rfl rfl ⟨cell_old HD.out (cells4 K0.out).1, cell_old HD.out (cells4 K0.out).2.1, cell_old HD.out (cells4 K0.out).2.2.1, cell_old HD.out (cells4 K0.out).2.2.2.1⟩ (fun hHeld => ?_)
 refine pure_ (i := 0) (N := some 3) (v := ?_) (a' := ?_) #[true, false, false, false, false, false, false, false, false, false, false, false, false, false] rfl rfl (by kernel_rfl) (fun _ _ _ h => h) (Or.inl ⟨by rfl, ?_⟩) ?_ ?_
 rotate_left
 ·
  intro w'
  go_simp
  with_reducible rfl
 rotate_left
 ·
  simp only [Act.put, List.setIfInBounds_toArray, List.set_cons_zero, List.set_cons_succ, i64_w, i32_w]
  rfl
 refine pure_ (i := 3) (N := some 6) (v := ?_) (a' := ?_) #[true, false, false, true, false, false, false, false, false, false, false, false, false, false] rfl rfl (by kernel_rfl) (fun _ _ _ h => h) (Or.inl ⟨by rfl, ?_⟩) ?_ ?_
 rotate_left
 ·
  intro w'
  go_simp
  with_reducible rfl
 rotate_left
 ·
  simp only [Act.put, List.setIfInBounds_toArray, List.set_cons_zero, List.set_cons_succ, i64_w, i32_w]
  rfl
 refine pure_ (i := 6) (N := some 9) (v := ?_) (a' := ?_) #[true, false, false, true, false, false, true, false, false, false, false, false, false, false] rfl rfl (by kernel_rfl) (fun _ _ _ h => h) (Or.inl ⟨by rfl, ?_⟩) ?_ ?_
 rotate_left
 ·
  intro w'
  go_simp
  with_reducible rfl
 rotate_left
 ·
  simp only [Act.put, List.setIfInBounds_toArray, List.set_cons_zero, List.set_cons_succ, i64_w, i32_w]
  rfl
 refine pure_ (i := 9) (N := some 12) (v := ?_) (a' := ?_) #[true, false, false, true, false, false, true, false, false, true, false, false, false, false] rfl rfl (by kernel_rfl) (fun _ _ _ h => h) (Or.inl ⟨by rfl, ?_⟩) ?_ ?_
 rotate_left
 ·
  intro w'
  go_simp
  with_reducible rfl
 rotate_left
 ·
  simp only [Act.put, List.setIfInBounds_toArray, List.set_cons_zero, List.set_cons_succ, i64_w, i32_w]
  rfl
 refine take_ (i := 1) (N := some 4) (v := ?_) (a' := ?_) #[true, true, false, true, false, false, true, false, false, true, false, false, false, false] rfl rfl (by kernel_rfl) (fun _ _ _ h => h) (Or.inl ⟨by rfl, ?_⟩) hHeld ?_ ?_
 rotate_left
 ·
  rintro w' ⟨s0, s1, s2, s3⟩
  go_simp
  with_reducible rfl
 rotate_left
 ·
  simp only [Act.put, List.setIfInBounds_toArray, List.set_cons_zero, List.set_cons_succ, i64_w, i32_w]
  rfl
 refine take_ (i := 4) (N := some 7) (v := ?_) (a' := ?_) #[true, true, false, true, true, false, true, false, false, true, false, false, false, false] rfl rfl (by kernel_rfl) (fun _ _ _ h => h) (Or.inl ⟨by rfl, ?_⟩) hHeld ?_ ?_
 rotate_left
 ·
  rintro w' ⟨s0, s1, s2, s3⟩
  go_simp
  with_reducible rfl
 rotate_left
 ·
  simp only [Act.put, List.setIfInBounds_toArray, List.set_cons_zero, List.set_cons_succ, i64_w, i32_w]
  rfl
 refine take_ (i := 7) (N := some 10) (v := ?_) (a' := ?_) #[true, true, false, true, true, false, true, true, false, true, false, false, false, false] rfl rfl (by kernel_rfl) (fun _ _ _ h => h) (Or.inl ⟨by rfl, ?_⟩) hHeld ?_ ?_
 rotate_left
 ·
  rintro w' ⟨s0, s1, s2, s3⟩
  go_simp
  with_reducible rfl
 rotate_left
 ·
  simp only [Act.put, List.setIfInBounds_toArray, List.set_cons_zero, List.set_cons_succ, i64_w, i32_w]
  rfl
 refine take_ (i := 10) (N := some 13) (v := ?_) (a' := ?_) #[true, true, false, true, true, false, true, true, false, true, true, false, false, false] rfl rfl (by kernel_rfl) (fun _ _ _ h => h) (Or.inl ⟨by rfl, ?_⟩) hHeld ?_ ?_
 rotate_left
 ·
  rintro w' ⟨s0, s1, s2, s3⟩
  go_simp
  with_reducible rfl
 rotate_left
 ·
  simp only [Act.put, List.setIfInBounds_toArray, List.set_cons_zero, List.set_cons_succ, i64_w, i32_w]
  rfl
 refine one_ (i := 2) (N := some 5) #[true, true, true, true, true, false, true, true, false, true, true, false, false, false] rfl rfl (by kernel_rfl) (by decide) (fun K_ hK => ?_)
 refine goes_ Try.func73 (by kernel_rfl) rfl #[.slice A0 o.reg.length c0] (by rfl) rfl rfl (by simp only [List.map_toArray, List.map_cons, List.map_nil]; rfl) ?_
 with_reducible refine (clone18 A0 c0 o.reg _ (Kd.C_below HC.out.r0 HB1.out) HC.out.h0 (by have := HO.out.b0; omega)).mono ?_
 rintro e u1 ⟨v0, rfl, hR, hb_⟩
 obtain ⟨P0, p0, rfl⟩ := Kd.R_slice hR
 have L0 := Aside0.mk (Kd.R_reads' hR).2.1
 have F0 := Aside0.mk (F_of_R hR)
 have HB2 := Aside0.mk (below_then HB1.out HB1.out.size hb_)
 have X0 := Aside0.mk hb_
 clear hR hb_
 refine ⟨_, rfl, ?_⟩
 refine hK.out _ _ ⟨cell_old X0.out hHeld.1, cell_old X0.out hHeld.2.1, cell_old X0.out hHeld.2.2.1, cell_old X0.out hHeld.2.2.2⟩ (fun hHeld => ?_)
 clear hK K_
 refine norm_ (a' := ?_) ?_ ?_
 rotate_left
 ·
  show Act.put _ (some 5) _ = _
  simp only [Act.put, List.setIfInBounds_toArray, List.set_cons_zero, List.set_cons_succ, i64_w, i32_w]
  rfl
 refine one_ (i := 5) (N := some 8) #[true, true, true, true, true, true, true, true, false, true, true, false, false, false] rfl rfl (by kernel_rfl) (by decide) (fun K_ hK => ?_)
 refine goes_ Try.func74 (by kernel_rfl) rfl #[.slice A1 o.que.length c1] (by rfl) rfl rfl (by simp only [List.map_toArray, List.map_cons, List.map_nil]; rfl) ?_
 with_reducible refine (still74 A1 c1 o.que _ (Kd.C_below HC.out.r1 HB2.out) HC.out.h1 HO.out.b1 HO.out.e1).mono ?_
 rintro e u2 ⟨P1, rfl, hR, _, hb_⟩
 have F1 := Aside0.mk hR
 replace F0 := Aside0.mk (Kd.F_below F0.out hb_)
 have HB3 := Aside0.mk (below_then HB2.out HB2.out.size hb_)
 have X1 := Aside0.mk hb_
 clear hR hb_
 refine ⟨_, rfl, ?_⟩
 refine hK.out _ _ ⟨cell_old X1.out hHeld.1, cell_old X1.out hHeld.2.1, cell_old X1.out hHeld.2.2.1, cell_old X1.out hHeld.2.2.2⟩ (fun hHeld => ?_)
 clear hK K_
 refine norm_ (a' := ?_) ?_ ?_
 rotate_left
 ·
  show Act.put _ (some 8) _ = _
  simp only [Act.put, List.setIfInBounds_toArray, List.set_cons_zero, List.set_cons_succ, i64_w, i32_w]
  rfl
 refine one_ (i := 8) (N := some 11) #[true, true, true, true, true, true, true, true, true, true, true, false, false, false] rfl rfl (by kernel_rfl) (by decide) (fun K_ hK => ?_)
 refine goes_ Try.func75 (by kernel_rfl) rfl #[.slice A2 o.loc.length c2] (by rfl) rfl rfl (by simp only [List.map_toArray, List.map_cons, List.map_nil]; rfl) ?_
 with_reducible refine (clone75 A2 c2 o.loc _ (Kd.C_below HC.out.r2 HB3.out) HC.out.h2 HO.out.b2).mono ?_
 rintro e u3 ⟨v2, rfl, hR, hb_⟩
 obtain ⟨P2, p2, rfl⟩ := Kd.R_slice hR
 have L2 := Aside0.mk (Kd.R_reads' hR).2.1
 have F2 := Aside0.mk (F_of_R hR)
 replace F0 := Aside0.mk (Kd.F_below F0.out hb_)
 replace F1 := Aside0.mk (Kd.F_below F1.out hb_)
 have HB4 := Aside0.mk (below_then HB3.out HB3.out.size hb_)
 have X2 := Aside0.mk hb_
 clear hR hb_
 refine ⟨_, rfl, ?_⟩
 refine hK.out _ _ ⟨cell_old X2.out hHeld.1, cell_old X2.out hHeld.2.1, cell_old X2.out hHeld.2.2.1, cell_old X2.out hHeld.2.2.2⟩ (fun hHeld => ?_)
 clear hK K_
 refine norm_ (a' := ?_) ?_ ?_
 rotate_left
 ·
  show Act.put _ (some 11) _ = _
  simp only [Act.put, List.setIfInBounds_toArray, List.set_cons_zero, List.set_cons_succ, i64_w, i32_w]
  rfl
 refine one_ (i := 11) (N := some 14) #[true, true, true, true, true, true, true, true, true, true, true, true, false, false] rfl rfl (by kernel_rfl) (by decide) (fun K_ hK => ?_)
 refine goes_ Try.func76 (by kernel_rfl) rfl #[.slice A3 o.map.length c3] (by rfl) rfl rfl (by simp only [List.map_toArray, List.map_cons, List.map_nil]; rfl) ?_
 with_reducible refine (still76 A3 c3 o.map _ (Kd.C_below HC.out.r3 HB4.out) HC.out.h3 HO.out.b3 HO.out.e3).mono ?_
 rintro e u4 ⟨P3, rfl, hR, hb_⟩
 have F3 := Aside0.mk hR
 replace F0 := Aside0.mk (Kd.F_below F0.out hb_)
 replace F1 := Aside0.mk (Kd.F_below F1.out hb_)
 replace F2 := Aside0.mk (Kd.F_below F2.out hb_)
 have HB5 := Aside0.mk (below_then HB4.out HB4.out.size hb_)
 have X3 := Aside0.mk hb_
 clear hR hb_
 refine ⟨_, rfl, ?_⟩
 refine hK.out _ _ ⟨cell_old X3.out hHeld.1, cell_old X3.out hHeld.2.1, cell_old X3.out hHeld.2.2.1, cell_old X3.out hHeld.2.2.2⟩ (fun hHeld => ?_)
 clear hK K_
 refine norm_ (a' := ?_) ?_ ?_
 rotate_left
 ·
  show Act.put _ (some 14) _ = _
  simp only [Act.put, List.setIfInBounds_toArray, List.set_cons_zero, List.set_cons_succ, i64_w, i32_w]
  rfl
 refine pure_ (i := 12) (N := some 15) (v := ?_) (a' := ?_) #[true, true, true, true, true, true, true, true, true, true, true, true, true, false] rfl rfl (by kernel_rfl) (fun _ _ _ h => h) (Or.inl ⟨by rfl, ?_⟩) ?_ ?_
 rotate_left
 ·
  intro w'
  go_simp
  with_reducible rfl
 rotate_left
 ·
  simp only [Act.put, List.setIfInBounds_toArray, List.set_cons_zero, List.set_cons_succ, i64_w, i32_w]
  rfl
 refine last_ (i := 13) (N := none) #[true, true, true, true, true, true, true, true, true, true, true, true, true, true] rfl rfl (by kernel_rfl) (by decide) (fun K_ hK => ?_)
 have k1_ := blk_keep (blk_keep (blk_keep (blk_keep (blk_keep K1.out HD.out) X0.out) X1.out) X2.out) X3.out
 obtain ⟨z0, z1, z2, z3, z4⟩ := cells4 k1_
 have z40 := z4 0
 have z41 := z4 1
 have z42 := z4 2
 have z43 := z4 3
 clear z4 k1_
 refine skip_ (w1 := ?_) (by rfl) rfl ?_ ?_
 rotate_left
 ·
  go_simp
  rfl
 refine hK.out _ _ ?_
 clear hK K_
 refine done_ (by kernel_rfl) ?_
 have s0_ := SV0.out
 have k1_ := blk_keep (blk_keep (blk_keep (blk_keep (blk_keep K1.out HD.out) X0.out) X1.out) X2.out) X3.out
 have HK1 := Aside0.mk k1_
 have HX := Aside0.mk (show w.heap.size + 2 ≤ V0.drew.heap.size ∧ V0.drew.heap.size ≤ u1.heap.size ∧ u1.heap.size ≤ u2.heap.size ∧ u2.heap.size ≤ u3.heap.size ∧ u3.heap.size ≤ u4.heap.size from ⟨by have := HD.out.size; omega, X0.out.size, X1.out.size, X2.out.size, X3.out.size⟩)
 clear k1_ s0_
 obtain ⟨V9, hV9⟩ : ∃ V_, V_ = ((((u4.setCell ⟨w.heap.size + 1, 0, none⟩ (.slice P0 o.reg.length p0)).setCell ⟨w.heap.size + 1, 1, none⟩ (.slice P1 o.que.length o.que.length)).setCell ⟨w.heap.size + 1, 2, none⟩ (.slice P2 o.loc.length p2)).setCell ⟨w.heap.size + 1, 3, none⟩ (.slice P3 o.map.length o.map.length)) := ⟨_, rfl⟩
 rw [← hV9]
 have hst_ : St w.heap.size w (w.heap.size + 1) 32 #[.slice P0 o.reg.length p0, .slice P1 o.que.length o.que.length, .slice P2 o.loc.length p2, .slice P3 o.map.length o.map.length] u4 V9 := by rw [hV9]; exact (St.next (St.next (St.next (St.first HB5.out (Nat.le_add_right _ _) HK1.out 0 _ (cs' := #[.slice P0 o.reg.length p0, .slice none 0 0, .slice none 0 0, .slice none 0 0]) rfl) (Nat.le_add_right _ _) 1 _ (cs' := #[.slice P0 o.reg.length p0, .slice P1 o.que.length o.que.length, .slice none 0 0, .slice none 0 0]) rfl) (Nat.le_add_right _ _) 2 _ (cs' := #[.slice P0 o.reg.length p0, .slice P1 o.que.length o.que.length, .slice P2 o.loc.length p2, .slice none 0 0]) rfl) (Nat.le_add_right _ _) 3 _ (cs' := #[.slice P0 o.reg.length p0, .slice P1 o.que.length o.que.length, .slice P2 o.loc.length p2, .slice P3 o.map.length o.map.length]) rfl)
 clear hV9
 have HS := Aside0.mk hst_
 clear hst_ K0 K1 HB HB1 HB2 HB3 HB4
 go_wp2_with fail
 refine bodyPost_ret (results_cell_row rfl _ _ (w.heap.size + 1) 32 #[.slice P0 o.reg.length p0, .slice P1 o.que.length o.que.length, .slice P2 o.loc.length p2, .slice P3 o.map.length o.map.length] (0, 0) _ rfl HS.out.2.1 Try.underlying32 rfl (by kernel_rfl)) rfl ?_
 obtain ⟨x1, x2, x3, x4, x5⟩ := HX.out
 have hk := HS.out.2.2.1
 refine ⟨P0, p0, P1, _, P2, p2, P3, _, rfl, ⟨L0.out, ?_, Nat.le_refl _, ?_, L2.out, ?_, Nat.le_refl _, ?_⟩, HS.out.1⟩
 ·
  exact Kd.F_mono (Kd.F_step F0.out (fun k h _ => hk k (by have h2 : V0.drew.heap.size ≤ k := h; omega))) (fun k h => by have h2 : V0.drew.heap.size ≤ k := h; show w.heap.size ≤ k; omega)
 ·
  exact Kd.F_mono (Kd.F_step F1.out (fun k h _ => hk k (by have h2 : u1.heap.size ≤ k := h; omega))) (fun k h => by have h2 : u1.heap.size ≤ k := h; show w.heap.size ≤ k; omega)
 ·
  exact Kd.F_mono (Kd.F_step F2.out (fun k h _ => hk k (by have h2 : u2.heap.size ≤ k := h; omega))) (fun k h => by have h2 : u2.heap.size ≤ k := h; show w.heap.size ≤ k; omega)
 ·
  exact Kd.F_mono (Kd.F_step F3.out (fun k h _ => hk k (by have h2 : u3.heap.size ≤ k := h; omega))) (fun k h => by have h2 : u3.heap.size ≤ k := h; show w.heap.size ≤ k; omega)
end Go.Proofs.Ythfplgfpodmphaa.Ob
namespace Go.Proofs.Ythfplgfpodmphaa.Ms
open Go.RowKit Go.Proofs.YthfplgfpodmphaaW.PrintWords Go.Proofs.YthfplgfpodmphaaW.PrintLast Go.Proofs.YthfplgfpodmphaaW.PrintMore
attribute [local go_sem] max2_int min2_int max_two min_two max_three min_three max_four min_four
set_option linter.unusedVariables false
set_option linter.unusedSimpArgs false
set_option maxRecDepth 100000

theorem M_keep3 {α : Type} {d : Kd α} {w1 w' : World} {base : Nat} {ok : Nat → Prop} {y : α} {cs : List Value} (h : d.M w1 base ok y cs) (hk : ∀ k, base ≤ k → k < w1.heap.size → ok k → w'.heap[k]? = w1.heap[k]?) : d.M w' base ok y cs :=
  d.M_mono (fun _ h => h.1) (d.M_move (fun k h => hk k h.2.1 h.2.2.1 h.1) (d.M_bound h))
theorem R_keep3 {α : Type} {d : Kd α} {e : Nat} {w1 w' : World} {base : Nat} {ok : Nat → Prop} {v : Value} {xs : List α} (h : Kd.R d e w1 base ok v xs) (hk : ∀ k, base ≤ k → k < w1.heap.size → ok k → w'.heap[k]? = w1.heap[k]?) : Kd.R d e w' base ok v xs :=
  Kd.R_mono (Kd.R_move (Kd.R_bound h) (fun k h => hk k h.2.1 h.2.2.1 h.1)) (fun _ h => h.1)
theorem Fr.keep {α : Type} {d : Kd α} {e : Nat} {w w1 : World} {base : Nat} {A : Option Addr} {xs : List α} (h : Fr d e w base A xs) (hk : ∀ k, base ≤ k → k < w.heap.size → w1.heap[k]? = w.heap[k]?) : Fr d e w1 base A xs := by
  rcases h with rfl | ⟨g, cur, rfl, hbg, hg, hs, hm, hr⟩
  · exact .inl rfl
  · have hlt := (Array.getElem?_eq_some_iff.1 hg).1
    exact .inr ⟨g, cur, rfl, hbg, (hk g hbg hlt).trans hg, hs, hm, hr.imp_ (fun _ _ hp => M_keep3 hp (fun k a b _ => hk k a b))⟩
theorem S_Fr {α : Type} {d : Kd α} {e : Nat} {w : World} {base : Nat} {A : Option Addr} {c : Nat} {l : List α} (h : Kd.S d e w base (fun _ => True) (.slice A l.length c) l) : Fr d e w base A l := by
  obtain ⟨_, inner, ho, hr⟩ := Kd.S_R h
  rcases ho.2 with ⟨h', h0⟩ | ⟨g, cap, cur, h', hb, hg, h1, h2, h3, h4⟩
  · exact .inl (List.eq_nil_of_length_eq_zero h0)
  · simp only [Value.slice.injEq] at h'
    obtain ⟨rfl, _, rfl⟩ := h'
    refine .inr ⟨g, cur, rfl, hb, hg, by rw [h3]; exact Nat.mul_le_mul_right _ h1, Nat.le_trans h1 h2, ?_⟩
    rw [h4]
    exact hr.imp_ (fun _ _ hp => d.M_mono (fun k hk hkg => hk.2 (by simp [Value.ownBlock, hkg])) hp)
theorem heap_alloc_lt (W : World) (o : Obj) (k : Nat) (h : k < W.heap.size) : (W.alloc o).heap[k]? = W.heap[k]? := (Array.getElem?_push_lt h).trans (Array.getElem?_eq_getElem h).symm
theorem keep_put (W : World) (g o k : Nat) (a : Value) (h : k ≠ g) : (W.setCell ⟨g, o, none⟩ a).heap[k]? = W.heap[k]? := Below.heap_setCell _ ⟨g, o, none⟩ _ k h
theorem keep_put3 (W : World) (g o0 o1 o2 k : Nat) (a0 a1 a2 : Value) (h : k ≠ g) : (((W.setCell ⟨g, o0, none⟩ a0).setCell ⟨g, o1, none⟩ a1).setCell ⟨g, o2, none⟩ a2).heap[k]? = W.heap[k]? := by
  rw [keep_put _ _ _ _ _ h, keep_put _ _ _ _ _ h, keep_put _ _ _ _ _ h]
/-- append that makes a new row, by numbers. -/
theorem app_grow {P : Program} (w : World) (t ty e : TypeId) (z : Value) (sz by_ : Nat) (ht : P.underlying t = some (.slice e)) (hinfo : (P.info? e).map (fun i => (i.zero, i.size, i.bytes)) = some (some z, sz, by_))
    (b : Addr) (sLen sCap : Nat) (olds : List Value) (hlo : olds.length = sLen * sz) (holds : ∀ j v, olds[j]? = some v → w.cell? (b.add j) = some v)
    (a : Addr) (n c : Nat) (news : List Value) (hl : news.length = n * sz) (hnews : ∀ j v, news[j]? = some v → w.cell? (a.add j) = some v)
    (hg : sCap < sLen + n) (hfit : (sLen + n) * by_ ≤ 140737488355328) (hby : 0 < by_) :
    (Builtin.append_ #[t, t] ty #[.slice (some b) sLen sCap, .slice (some a) n c]).run P w =
      .ok (.slice (some ⟨w.heap.size, 0, none⟩) (sLen + n) (grownCap w (sLen + n) sCap e))
        (w.drew.alloc (.cells (olds.toArray ++ news.toArray ++ Builtin.zeroCells z.cells (grownCap w (sLen + n) sCap e - (sLen + n))) e)) := by
  obtain ⟨i, hi, hzz⟩ := Option.map_eq_some_iff.1 hinfo
  simp only [Prod.mk.injEq] at hzz
  obtain ⟨hz, rfl, rfl⟩ := hzz
  have h1 : sLen + n ≤ 140737488355328 := Nat.le_trans (Nat.le_mul_of_pos_right _ hby) hfit
  have h2 := nextslicecap_le hg
  have h3 : Builtin.nextslicecap (sLen + n) sCap * i.bytes ≤ 2 * (sLen + n) * i.bytes := Nat.mul_le_mul_right _ h2
  have h4 : 2 * (sLen + n) * i.bytes = 2 * ((sLen + n) * i.bytes) := Nat.mul_assoc _ _ _
  exact run_append_grow w t ty e i z ht hi hz b sLen sCap olds hlo holds a n c news hl hnews hg (by omega) (by omega)
theorem app_zeros {P : Program} (w : World) (t tn ty e : TypeId) (z : Value) (sz by_ : Nat) (kq kn : IntKind) (ht : P.underlying t = some (.slice e)) (htn : P.underlying tn = some (.int kn)) (hinfo : (P.info? e).map (fun i => (i.zero, i.size, i.bytes)) = some (some z, sz, by_))
    (b : Addr) (sLen sCap : Nat) (olds : List Value) (hlo : olds.length = sLen * sz) (holds : ∀ j v, olds[j]? = some v → w.cell? (b.add j) = some v)
    (k : Nat) (h0 : 0 < k) (hs : 0 < sz) (hg : sCap < sLen + k) (hfit : (sLen + k) * by_ ≤ 140737488355328) (hby : 0 < by_) :
    (Builtin.append_ #[t, tn] ty #[.slice (some b) sLen sCap, .int kq k]).run P w =
      .ok (.slice (some ⟨w.heap.size, 0, none⟩) (sLen + k) (grownCap w (sLen + k) sCap e))
        (w.drew.alloc (.cells (olds.toArray ++ Builtin.zeroCells z.cells k ++ Builtin.zeroCells z.cells (grownCap w (sLen + k) sCap e - (sLen + k))) e)) := by
  obtain ⟨i, hi, hzz⟩ := Option.map_eq_some_iff.1 hinfo
  simp only [Prod.mk.injEq] at hzz
  obtain ⟨hz, rfl, rfl⟩ := hzz
  have h1 : sLen + k ≤ 140737488355328 := Nat.le_trans (Nat.le_mul_of_pos_right _ hby) hfit
  have h2 := nextslicecap_le hg
  have h3 : Builtin.nextslicecap (sLen + k) sCap * i.bytes ≤ 2 * (sLen + k) * i.bytes := Nat.mul_le_mul_right _ h2
  have h4 : 2 * (sLen + k) * i.bytes = 2 * ((sLen + k) * i.bytes) := Nat.mul_assoc _ _ _
  have h5 : k * i.bytes ≤ (sLen + k) * i.bytes := Nat.mul_le_mul_right _ (Nat.le_add_left _ _)
  exact Lib.run_append_grow_zeros w t tn ty e i z kq kn ht htn hi hz (some b) sLen sCap olds (run_firstCells_some w.drew i.size sLen b sLen sCap olds hlo (by simpa using holds)) k h0 hs hg (by omega) (by omega) (by omega)
/-- copy of elements of several cells. -/
theorem run_copy_k {P : Program} (w : World) (dT sT ty elem : TypeId) (sz g o dLen dCap : Nat) (a : Addr) (sLen sCap : Nat) (cur : Array Value) (t : TypeId) (cs : List Value) (m : Nat)
    (hu : P.underlying dT = some (.slice elem)) (hs : (P.info? elem).map (·.size) = some sz)
    (hg : w.heap[g]? = some (.cells cur t (0, 0))) (hm : Nat.min sLen dLen = m) (hn : cs.length = m * sz)
    (hsrc : ∀ j v, cs[j]? = some v → w.cell? (a.add j) = some v) (hfit : o + cs.length ≤ cur.size) (h1 : ∀ v ∈ cs, v.oneCell' = true) :
    (Builtin.copy_ #[dT, sT] ty #[.slice (some ⟨g, o, none⟩) dLen dCap, .slice (some a) sLen sCap]).run P w =
      .ok (goInt m) (w.setRow g (cur.toList.take o ++ cs ++ cur.toList.drop (o + cs.length)).toArray) := by
  have hl := run_loadCells_list (P := P) w a cs hsrc
  have hst := run_storeCells_at P g o t cs 0 cur w hg (by simpa using hfit) h1
  rw [hn] at hl
  cases hq : P.info? elem with
  | none => simp [hq] at hs
  | some i =>
    have hi : i.size = sz := by simpa [hq] using hs
    simp [Builtin.copy_, run_underlying hu, Builtin.lenOf, Builtin.firstCells, sizeOf, typeInfo, hq, hi, hm, hl, hst]
def InsEnd (w : World) (m : Nat) (ys : List Value) (e : Ending) (w' : World) : Prop := ∃ cap cur, e = .returned (.slice (some ⟨w.heap.size, 0, none⟩) m cap) ∧ m ≤ cap ∧ w'.heap[w.heap.size]? = some (.cells cur 42 (0, 0)) ∧ m * 2 ≤ cur.size ∧ cur.toList.take (m * 2) = ys ∧ Below w.heap.size w w'
def z32v : Value := .agg #[(.slice none 0 0), (.slice none 0 0)]
theorem zeroCells_size (cs : Array Value) (n : Nat) : (Builtin.zeroCells cs n).size = n * cs.size := by
  induction n with
  | zero => simp [Builtin.zeroCells]
  | succ k ih => simp [Builtin.zeroCells, Nat.succ_mul] at ih ⊢
theorem take_app3 (a b : List Value) (c : Array Value) (m : Nat) (h : (a ++ b).length = m) : (a.toArray ++ b.toArray ++ c).toList.take m = a ++ b := by
  rw [← h, show (a.toArray ++ b.toArray ++ c).toList = (a ++ b) ++ c.toList from by simp, List.take_left']
  rfl
theorem take_app2 (a b : List Value) (c : Array Value) (m : Nat) (h : (a ++ b).length = m) : ((a ++ b).toArray ++ c).toList.take m = a ++ b := by
  rw [← h, show ((a ++ b).toArray ++ c).toList = (a ++ b) ++ c.toList from by simp, List.take_left']
  rfl
set_option maxHeartbeats 1000000 in
theorem ins_nil (c m : Nat) (xc : List Value) (w : World) (xa : Addr) (xcap : Nat) (hxl : xc.length = 2) (hx : ∀ j v, xc[j]? = some v → w.cell? (xa.add j) = some v) :
    Calls Try.prog 81 #[.slice none 0 0, .int .i64 0, .slice (some xa) 1 xcap] w (InsEnd w 1 xc) := by
  obtain ⟨iv, hi, hzz⟩ := Option.map_eq_some_iff.1 info32
  simp only [Prod.mk.injEq] at hzz
  obtain ⟨hz, h5, h56⟩ := hzz
  have HR := Aside0.mk (fun ty => run_append_nil (P := Try.prog) w 30 ty 42 iv z32v Try.underlying30 hi hz xa 1 xcap xc (by rw [hxl, h5]) hx (by decide) (by decide) (by rw [h56]; decide))
  clear hx hi hz h5 h56
  go_enter Try.func81, Try.ntmps81
  go_wp2_with ((with_reducible refine gate_builtin (b := .append) (xs := #[.tmp 23, .tmp 24]) rfl ?_); at_builtin; refine Lib.wpList_append_run _ rfl _ _ _ _ rfl _ _ rfl rfl _ _ (HR.out _) ?_)
  go_ret
  refine ⟨_, _, rfl, grownCap_ge _ _ _ _, heap_alloc_self _ _, ?_, ?_, below_alloc (below_drew (Below.refl _ _)) _⟩
  · simp [hxl]
  · simp [hxl]
set_option maxHeartbeats 1000000 in
theorem ins_end (c n : Nat) (olds xc : List Value) (w : World) (ad xa : Addr) (xcap : Nat) (hn : n < 1000000) (hol : olds.length = n * 2) (ho : ∀ j v, olds[j]? = some v → w.cell? (ad.add j) = some v) (hxl : xc.length = 2) (hx : ∀ j v, xc[j]? = some v → w.cell? (xa.add j) = some v) :
    Calls Try.prog 81 #[.slice (some ad) n n, .int .i64 n, .slice (some xa) 1 xcap] w (InsEnd w (n + 1) (olds ++ xc)) := by
  have HR := Aside0.mk (fun ty => app_grow (P := Try.prog) w 30 ty 42 z32v 2 48 Try.underlying30 info32 ad n n olds hol ho xa 1 xcap xc (by rw [hxl]) hx (by omega) (by omega) (by decide))
  have HN := Aside0.mk hn
  have HOL := Aside0.mk hol
  clear hx ho hn hol
  go_enter Try.func81, Try.ntmps81
  go_wp2_with ((with_reducible refine gate_builtin (b := .append) (xs := #[.tmp 23, .tmp 24]) rfl ?_); at_builtin; refine Lib.wpList_append_run _ rfl _ _ _ _ rfl _ _ rfl rfl _ _ (HR.out _) ?_)
  go_ret
  refine ⟨_, _, rfl, grownCap_ge _ _ _ _, heap_alloc_self _ _, ?_, ?_, below_alloc (below_drew (Below.refl _ _)) _⟩
  · have := HOL.out
    simp [hxl, this]
    omega
  · exact take_app2 olds xc _ _ (by have h1 := HOL.out; simp [hxl, h1]; omega)

theorem cells_old {cs : List Value} {ad : Addr} {w w' : World} (h : ∀ j v, cs[j]? = some v → w.cell? (ad.add j) = some v) (hb : Below w.heap.size w w') : ∀ j v, cs[j]? = some v → w'.cell? (ad.add j) = some v :=
  fun j v hj => (hb.cell (World.block_lt_of_cell? w _ (h j v hj))).trans (h j v hj)
set_option maxHeartbeats 1000000 in
theorem ins_mid (c n i : Nat) (olds xc : List Value) (w : World) (ad xa : Addr) (xcap : Nat) (hn : n < 1000000) (hi : i < n) (hol : olds.length = n * 2) (ho : ∀ j v, olds[j]? = some v → w.cell? (ad.add j) = some v) (h1 : ∀ v ∈ olds, v.oneCell' = true) (hxl : xc.length = 2) (hx : ∀ j v, xc[j]? = some v → w.cell? (xa.add j) = some v) (h2 : ∀ v ∈ xc, v.oneCell' = true) :
    Calls Try.prog 81 #[.slice (some ad) n n, .int .i64 i, .slice (some xa) 1 xcap] w (InsEnd w (n + 1) (olds.take (i * 2) ++ xc ++ olds.drop (i * 2))) := by
  have hik : i + (n + 1 - i) = n + 1 := by omega
  have hadl : ad.block < w.heap.size := World.block_lt_of_cell? w _ (ho 0 _ (List.getElem?_eq_getElem (by omega)))
  have hrz : ∀ ty, (Builtin.append_ #[30, 3] ty #[.slice (some ad) i n, .int .i64 ((n + 1 - i : Nat) : Int)]).run Try.prog w = _ := fun ty =>
    app_zeros w 30 3 ty 42 z32v 2 48 .i64 .i64 Try.underlying30 Try.underlying3 info32 ad i n (olds.take (i * 2)) (by rw [List.length_take]; omega) (fun j v hj => by
      rw [List.getElem?_take] at hj
      split at hj
      · exact ho j v hj
      · cases hj) (n + 1 - i) (by omega) (by decide) (by omega) (by omega) (by decide)
  have hG0 : n + 1 ≤ grownCap w (i + (n + 1 - i)) n 42 := by rw [hik]; exact grownCap_ge _ _ _ _
  have hG1 : grownCap w (i + (n + 1 - i)) n 42 ≤ 9223372036854775807 := by
    have := grownCap_le_maxLen w (i + (n + 1 - i)) n 42 (by unfold maxLen; omega)
    unfold maxLen at this
    omega
  have hRs : (n + 1) * 2 ≤ ((olds.take (i * 2)).toArray ++ Builtin.zeroCells z32v.cells (n + 1 - i) ++ Builtin.zeroCells z32v.cells (grownCap w (i + (n + 1 - i)) n 42 - (i + (n + 1 - i)))).size := by
    rw [Array.size_append, Array.size_append, zeroCells_size, zeroCells_size, show z32v.cells.size = 2 from rfl, List.size_toArray, List.length_take]
    omega
  have hRt : ((olds.take (i * 2)).toArray ++ Builtin.zeroCells z32v.cells (n + 1 - i) ++ Builtin.zeroCells z32v.cells (grownCap w (i + (n + 1 - i)) n 42 - (i + (n + 1 - i)))).toList.take (i * 2) = olds.take (i * 2) := by
    rw [Array.toList_append, Array.toList_append, List.append_assoc, List.take_append_of_le_length (by simp; omega)]
    show List.take _ (List.take _ _) = _
    rw [List.take_take, Nat.min_self]
  have hB1 := below_alloc (below_drew (Below.refl w.heap.size w)) (.cells ((olds.take (i * 2)).toArray ++ Builtin.zeroCells z32v.cells (n + 1 - i) ++ Builtin.zeroCells z32v.cells (grownCap w (i + (n + 1 - i)) n 42 - (i + (n + 1 - i)))) 42)
  have hH1 := heap_alloc_self w.drew (.cells ((olds.take (i * 2)).toArray ++ Builtin.zeroCells z32v.cells (n + 1 - i) ++ Builtin.zeroCells z32v.cells (grownCap w (i + (n + 1 - i)) n 42 - (i + (n + 1 - i)))) 42)
  rw [show w.drew.heap.size = w.heap.size from rfl] at hH1
  generalize w.drew.alloc (.cells ((olds.take (i * 2)).toArray ++ Builtin.zeroCells z32v.cells (n + 1 - i) ++ Builtin.zeroCells z32v.cells (grownCap w (i + (n + 1 - i)) n 42 - (i + (n + 1 - i)))) 42) = W1 at hB1 hH1 hrz
  generalize (olds.take (i * 2)).toArray ++ Builtin.zeroCells z32v.cells (n + 1 - i) ++ Builtin.zeroCells z32v.cells (grownCap w (i + (n + 1 - i)) n 42 - (i + (n + 1 - i))) = ROW at hH1 hRs hRt
  rw [hik] at hrz hG0 hG1
  generalize grownCap w (n + 1) n 42 = G at hrz hG0 hG1
  have hcA : ∀ ty dc, (Builtin.copy_ #[30, 30] ty #[.slice (some ⟨w.heap.size, i * 2, none⟩) (n + 1 - i) dc, .slice (some xa) 1 xcap]).run Try.prog W1 = _ := fun ty dc =>
    run_copy_k W1 30 30 ty 42 2 w.heap.size (i * 2) (n + 1 - i) dc xa 1 xcap ROW 42 xc 1 Try.underlying30 rfl hH1 (by simp only [Nat.min_def]; split <;> omega) hxl (cells_old hx hB1) (by omega) h2
  rw [hxl] at hcA
  have hH2 := setRow_heap W1 w.heap.size ROW (ROW.toList.take (i * 2) ++ xc ++ ROW.toList.drop (i * 2 + 2)).toArray 42 (0, 0) hH1
  have hB2 := below_setRow hB1 (Nat.le_refl _) (ROW.toList.take (i * 2) ++ xc ++ ROW.toList.drop (i * 2 + 2)).toArray
  rw [hRt] at hcA hH2 hB2
  have hsz2 : (olds.take (i * 2) ++ xc ++ ROW.toList.drop (i * 2 + 2)).toArray.size = ROW.size := by
    simp [hxl]
    omega
  have hta : ∀ t : List Value, ((olds.take (i * 2) ++ xc ++ t).toArray).toList.take ((i + 1) * 2) = olds.take (i * 2) ++ xc := fun t => by
    rw [List.take_append_of_le_length (by simp [hxl]; omega), List.take_of_length_le (by simp [hxl]; omega)]
  have hta := hta (ROW.toList.drop (i * 2 + 2))
  generalize (olds.take (i * 2) ++ xc ++ ROW.toList.drop (i * 2 + 2)).toArray = C2 at *
  have hcB : ∀ (W : World), W.heap = (W1.setRow w.heap.size C2).heap → ∀ ty dc sc, (Builtin.copy_ #[30, 30] ty #[.slice (some ⟨w.heap.size, (i + 1) * 2, none⟩) (n + 1 - (i + 1)) dc, .slice (some (ad.add (i * 2))) (n - i) sc]).run Try.prog W = _ := fun W hW ty dc sc =>
    run_copy_k W 30 30 ty 42 2 w.heap.size ((i + 1) * 2) (n + 1 - (i + 1)) dc (ad.add (i * 2)) (n - i) sc C2 42 (olds.drop (i * 2)) (n - i) Try.underlying30 rfl (by rw [hW]; exact hH2) (by simp only [Nat.min_def]; split <;> omega) (by rw [List.length_drop]; omega) (by
      intro j v hj
      rw [List.getElem?_drop] at hj
      have h3 := ho _ _ hj
      have h4 := (hB2.cell (World.block_lt_of_cell? w _ h3)).trans h3
      rw [Addr.add_add, ← h4]
      simp only [World.cell?, hW]) (by rw [List.length_drop]; omega) (fun v hv => h1 v (List.mem_of_mem_drop hv))
  rw [hta, List.length_drop, hol, show n + 1 - (i + 1) = n - i from by omega] at hcB
  have e7 : (0 : Int) ≤ (i : Int) + 1 := by omega
  have e1 : decide ((n : Int) < (n : Int) + 1) = true := decide_eq_true (by omega)
  have e2 : ((i : Int) = (n : Int)) = False := by simp; omega
  have e3 : IntKind.i64.wrap ((n : Int) + 1) = (n : Int) + 1 := by rw [IntKind.wrap_i64]; omega
  have e4 : IntKind.i64.wrap ((n : Int) + 1 - (i : Int)) = ((n + 1 - i : Nat) : Int) := by rw [IntKind.wrap_i64]; omega
  have e5 : IntKind.i64.wrap ((i : Int) + 1) = (i : Int) + 1 := by rw [IntKind.wrap_i64]; omega
  have e6 : ((i : Int) + 1).toNat = i + 1 := by omega
  have hci : ¬ (n = i) := by omega
  have hGi : ¬ (G = i) := by omega
  have hGi1 : ¬ (G = i + 1) := by omega
  have hin : i ≤ n := by omega
  have HO := Aside0.mk ho
  have HX := Aside0.mk hx
  have HB2 := Aside0.mk hB2
  have HH2 := Aside0.mk hH2
  have HRZ := Aside0.mk hrz
  have HCA := Aside0.mk hcA
  have HCB := Aside0.mk hcB
  have H1 := Aside0.mk h1
  have H2 := Aside0.mk h2
  have HL := Aside0.mk hol
  have HXL := Aside0.mk hxl
  have HTA := Aside0.mk hta
  have HSZ := Aside0.mk hsz2
  have HRS := Aside0.mk hRs
  clear hx ho hB1 hB2 hH1 hH2 hrz hcA hcB h1 h2 hol hxl hik hadl hRs hRt hta hsz2
  go_enter Try.func81, Try.ntmps81
  go_wp2_with (first | ((with_reducible refine gate_builtin (b := .append) (xs := #[.tmp 34, .tmp 39]) rfl ?_); at_builtin; refine Lib.wpList_append_run _ rfl _ _ _ _ rfl _ _ rfl rfl _ _ (HRZ.out _) ?_) | ((with_reducible refine gate_builtin (b := .copy) (xs := #[.tmp 43, .tmp 44]) rfl ?_); refine wpList_copy_runI _ rfl _ _ 30 30 rfl _ _ rfl rfl (HCA.out _ _) ?_))
  go_region_law (refine step_copy_runI rfl _ _ 30 30 rfl (.slice (some ⟨w.heap.size, (i + 1) * 2, none⟩) (n - i) (G - (i + 1))) (.slice (some (ad.add (i * 2))) (n - i) (n - i)) (by simp [Act.eval, Act.put]) (by simp [Act.eval, Act.put]) (HCB.out (W1.setRow w.heap.size C2).drew rfl _ _ _) ?_)
  go_wp2
  go_ret
  have hl : (olds.take (i * 2) ++ xc ++ olds.drop (i * 2)).length = (n + 1) * 2 := by
    have h3 := HL.out
    have h4 := HXL.out
    rw [List.length_append, List.length_append, List.length_take, List.length_drop]
    omega
  refine ⟨G, _, rfl, hG0, setRow_heap _ _ _ _ _ _ HH2.out, ?_, ?_, below_setRow (below_drew HB2.out) (Nat.le_refl _) _⟩
  · rw [← List.append_assoc, ← List.append_assoc, List.size_toArray, List.length_append, hl]
    omega
  · show List.take _ (_ ++ _) = _
    rw [← List.append_assoc, ← List.append_assoc, ← hl, List.take_left']
    rfl

theorem Fr_ins {w w' : World} {base g i : Nat} {ok : Nat → Prop} {l : List S32} {x : S32} {olds xc : List Value} {cur : Array Value} (hi : i ≤ l.length) (hr : Reps (k32.M w base ok) 2 l olds) (hx : k32.M w base ok x xc) (hbel : Below w.heap.size w w') (hgw : w.heap.size ≤ g) (hb : base ≤ g)
  (hg : w'.heap[g]? = some (.cells cur 42 (0, 0))) (hs : (l.length + 1) * 2 ≤ cur.size) (hm : l.length + 1 ≤ maxLen) (hc : cur.toList.take ((l.length + 1) * 2) = olds.take (i * 2) ++ xc ++ olds.drop (i * 2)) : Fr k32 42 w' base (some ⟨g, 0, none⟩) (l.take i ++ x :: l.drop i) := by
 have hl : (l.take i ++ x :: l.drop i).length = l.length + 1 := by simp; omega
 refine .inr ⟨g, cur, rfl, hb, hg, by rw [hl]; exact hs, by rw [hl]; exact hm, ?_⟩
 rw [hl]
 show Reps _ 2 _ (cur.toList.take ((l.length + 1) * 2))
 rw [hc]
 have hR := reps_app (reps_app (reps_take hr i hi) (reps_one hx (k32.K_len (k32.K_of_M hx)))) (reps_drop hr i)
 rw [List.append_assoc] at hR
 exact hR.imp_ (fun y c hy => Kd.M_below (k32.M_mono (fun k hk => by have := hk.2.2.1; omega) (k32.M_bound hy)) hbel)
theorem Fr_olds {w : World} {base : Nat} {A : Option Addr} {l : List S32} (h : Fr k32 42 w base A l) (hA : A = none → l = []) : ∃ olds : List Value, olds.length = l.length * 2 ∧ (∀ ad, A = some ad → ∀ j v, olds[j]? = some v → w.cell? (ad.add j) = some v) ∧ Reps (k32.M w base (fun _ => True)) 2 l olds := by
 rcases h with rfl | ⟨g, cur, rfl, hb, hg, hs, hm, hr⟩
 ·
  exact ⟨[], rfl, fun _ _ j v hj => by simp at hj, Reps.none _ _⟩
 ·
  refine ⟨cur.toList.take (l.length * 2), ?_, fun ad had j v hj => ?_, hr.imp_ (fun _ _ h => k32.M_mono (fun _ _ => trivial) h)⟩
  ·
   rw [List.length_take, Array.length_toList]
   exact Nat.min_eq_left hs
  ·
   cases had
   rw [add_plain, (cell_of_heap hg).1]
   rw [List.getElem?_take] at hj
   split at hj
   ·
    rw [Array.getElem?_toList] at hj
    exact hj
   ·
    cases hj
theorem reps_cells {w : World} {base : Nat} {ok : Nat → Prop} {l : List S32} {olds : List Value} (h : Reps (k32.M w base ok) 2 l olds) : ∀ v ∈ olds, v.oneCell' = true := by
 intro v hv
 obtain ⟨m, hm, rfl⟩ := List.mem_iff_getElem.1 hv
 have hj : m / 2 < l.length := by have := h.1; omega
 refine k32.K_one (k32.K_of_M (h.2 (m / 2) _ (List.getElem?_eq_getElem hj))) _ (List.mem_iff_getElem?.2 ⟨m % 2, ?_⟩)
 rw [List.getElem?_take, if_pos (Nat.mod_lt _ (by decide)), List.getElem?_drop, show m / 2 * 2 + m % 2 = m from by omega, List.getElem?_eq_getElem hm]
theorem ins19 (n i : Nat) (olds xc : List Value) (w : World) (A : Option Addr) (xa : Addr) (xcap : Nat) (hn : n < 1000000) (hi : i ≤ n) (hA : A = none → n = 0) (hol : olds.length = n * 2) (ho : ∀ ad, A = some ad → ∀ j v, olds[j]? = some v → w.cell? (ad.add j) = some v) (h1 : ∀ v ∈ olds, v.oneCell' = true) (hxl : xc.length = 2) (hx : ∀ j v, xc[j]? = some v → w.cell? (xa.add j) = some v) (h2 : ∀ v ∈ xc, v.oneCell' = true) :
  Calls Try.prog 81 #[.slice A n n, .int .i64 i, .slice (some xa) 1 xcap] w (InsEnd w (n + 1) (olds.take (i * 2) ++ xc ++ olds.drop (i * 2))) := by
 cases A with
 | none =>
  obtain rfl := hA rfl
  obtain rfl : i = 0 := by omega
  obtain rfl : olds = [] := List.eq_nil_of_length_eq_zero (by omega)
  have h := ins_nil 0 0 xc w xa xcap hxl hx
  simp only [Nat.zero_mul, List.take_nil, List.drop_nil, List.nil_append, List.append_nil]
  exact h
 | some ad =>
  rcases Nat.lt_or_eq_of_le hi with hlt | rfl
  ·
   exact ins_mid 0 n i olds xc w ad xa xcap hn hlt hol (ho ad rfl) h1 hxl hx h2
  ·
   rw [← hol, List.take_length, List.drop_length, List.append_nil]
   exact ins_end 0 i olds xc w ad xa xcap hn hol (ho ad rfl) hxl hx
theorem Fr_set1 {w w' : World} {base g i : Nat} {l : List S32} {x : S32} {cur : Array Value} {v0 u : Value} (hi : i < l.length) (hb : base ≤ g) (hs : l.length * 2 ≤ cur.size) (hm : l.length ≤ maxLen) (hr : Reps (k32.M w base (fun k => k ≠ g)) 2 l (cur.toList.take (l.length * 2))) (hmono : ∀ y c, k32.M w base (fun k => k ≠ g) y c → k32.M w' base (fun k => k ≠ g) y c) (hc0 : cur[i * 2]? = some v0) (hx : k32.M w' base (fun k => k ≠ g) x [v0, u]) (hg : w'.heap[g]? = some (.cells (cur.setIfInBounds (i * 2 + 1) u) 42 (0, 0))) : Fr k32 42 w' base (some ⟨g, 0, none⟩) (l.set i x) := by
 refine .inr ⟨g, _, rfl, hb, hg, by rw [List.length_set]; show _ * 2 ≤ _; simpa only [Array.size_setIfInBounds] using hs, by simpa using hm, ?_⟩
 rw [List.length_set]
 show Reps _ 2 _ (List.take (l.length * 2) _)
 rw [take_setIf]
 have hin0 : (cur.toList.take (l.length * 2))[i * 2 + 0]? = some v0 := by
  rw [List.getElem?_take, if_pos (by omega), Array.getElem?_toList]
  exact hc0
 generalize hin : cur.toList.take (l.length * 2) = inner at hr hin0
 refine ⟨by simp [hr.1], fun j y hy => ?_⟩
 show k32.M w' base _ y (chunk 2 j _)
 by_cases hj : i = j
 ·
  subst hj
  rw [List.getElem?_set_self hi] at hy
  obtain rfl := Option.some.inj hy
  rw [chunk_set_eq (by decide)]
  have hl : (chunk 2 i inner).length = 2 := by
   have := hr.1
   simp [chunk]
   omega
  rw [← chunk_get (by decide : 0 < 2)] at hin0
  match hch : chunk 2 i inner, hl with
  | [a, b], _ =>
   rw [hch] at hin0
   obtain rfl := Option.some.inj hin0
   exact hx
 ·
  rw [List.getElem?_set_ne hj] at hy
  rw [chunk_set_ne (by omega)]
  exact hmono _ _ (hr.2 j y hy)

def PutEnd (w : World) (l' : List S32) (r : S26) (e : Ending) (w' : World) : Prop := ∃ A' c' v1, e = .returned (.tuple #[.slice A' l'.length c', .agg #[.int .i64 r.f0, v1, .int .i64 r.f2]]) ∧ l'.length ≤ c' ∧ Fr k32 42 w' w.heap.size A' l' ∧ Kd.R (Kd.int .u8) 5 w' w.heap.size (fun _ => True) v1 r.f1 ∧ Below w.heap.size w w'
set_option maxHeartbeats 1000000 in
theorem put_long1 (A B D : Option Addr) (c d f : Nat) (l : List S32) (k v : List Int) (w : World) (hr : Kd.C k32 w A l.length l) (hc : l.length ≤ c) (hn : l.length < 1000000) (hv : ∀ x ∈ l, x.f0.length < 140737488355328 ∧ x.f1.length < 140737488355328) (hk : Kd.C (Kd.int .u8) w B k.length k) (hd : k.length ≤ d) (h8 : 8 < k.length) :
  Calls Try.prog 35 #[.slice A l.length c, .slice B k.length d, .slice D v.length f] w (PutEnd w l ⟨1, [], 0⟩) := by
 obtain ⟨W0, hW0⟩ : ∃ W0, W0 = w.alloc (.cells #[.int .i64 0, .slice none 0 0, .int .i64 0] 34) := ⟨_, rfl⟩
 have hb0 : Below w.heap.size w W0 := by rw [hW0]; exact below_alloc (Below.refl _ _) _
 have hk0 : W0.heap[w.heap.size]? = some (.cells #[.int .i64 0, .slice none 0 0, .int .i64 0] 34 (0, 0)) := by rw [hW0]; exact heap_alloc_self w _
 have hs0 : W0.heap.size = w.heap.size + 1 := by rw [hW0]; simp
 have HI := Aside0.mk (still16 A c l W0 (Kd.C_below hr hb0) hc hn hv)
 have HB0 := Aside0.mk hb0
 have HK0 := Aside0.mk hk0
 have HS0 := Aside0.mk hs0
 have HK := Aside0.mk hk
 have HD := Aside0.mk hd
 have HN := Aside0.mk hn
 have c1 : decide ((8 : Int) < (k.length : Int)) = true := decide_eq_true (by omega)
 clear hr hc hv hb0 hk0 hk hd hs0 hn
 go_enter Try.func35, Try.ntmps35
 go_wp2_with fail
 rw [← hW0]
 refine HI.out.mono ?_
 rintro e w1 ⟨A', rfl, ⟨c', hS⟩, hb1⟩
 clear HI
 have HF1 := Aside0.mk (S_Fr hS)
 have HA1 := Aside0.mk (S_cap hS).2
 have HI := Aside0.mk (find17 A' B l.length d l k w1 (Fr.C HF1.out) (Nat.le_refl _) (Kd.C_below HK.out (below_then HB0.out HB0.out.size hb1)) HD.out)
 have HB1 := Aside0.mk hb1
 clear hS hb1
 go_wp2_with fail
 refine HI.out.mono ?_
 rintro e w2 ⟨rfl, hb2⟩
 have BK : w2.heap[w.heap.size]? = some (.cells #[.int .i64 0, .slice none 0 0, .int .i64 0] 34 (0, 0)) := (hb2.block _ (by have := HB1.out.size; have := HS0.out; omega)).trans ((HB1.out.block _ (by have := HS0.out; omega)).trans HK0.out)
 obtain ⟨x0, x1, x2, x3⟩ := blk_cells3 BK
 have x30 := x3 0
 have x31 := x3 1
 have x32 := x3 2
 have BKs := Aside0.mk BK
 have HB2 := Aside0.mk hb2
 clear BK hb2 HI x3
 go_wp2_with fail
 refine bodyPost_ret (results_tc rfl _ _ w.heap.size 34 #[.int .i64 1, .slice none 0 0, .int .i64 0] (0, 0) _ rfl (by refine blk_put (cs := #[.int .i64 1, .slice none 0 0, .int .i64 0]) ?_ 2 _ rfl; refine blk_put (cs := #[.int .i64 1, .slice none 0 0, .int .i64 0]) ?_ 1 _ rfl; refine blk_put (cs := #[.int .i64 0, .slice none 0 0, .int .i64 0]) ?_ 0 _ rfl; exact BKs.out) Try.underlying34 rfl (by kernel_rfl)) rfl ?_
 have hs0 := HS0.out
 have hB2 := below_then (below_then HB0.out HB0.out.size HB1.out) (by have := HB1.out.size; omega) HB2.out
 refine ⟨A', l.length, _, rfl, Nat.le_refl _, ?_, Kd.R_nil _ _ _ _ _, ((hB2.setCell (Nat.le_refl _) _).setCell (Nat.le_refl _) _).setCell (Nat.le_refl _) _⟩
 refine Fr.lower (Fr.keep (Fr.below HF1.out HB2.out) (fun k a b => keep_put3 _ _ _ _ _ _ _ _ _ (by omega))) (by omega)
set_option maxHeartbeats 1000000 in
theorem put_long2 (A B D : Option Addr) (c d f : Nat) (l : List S32) (k v : List Int) (w : World) (hr : Kd.C k32 w A l.length l) (hc : l.length ≤ c) (hn : l.length < 1000000) (hv : ∀ x ∈ l, x.f0.length < 140737488355328 ∧ x.f1.length < 140737488355328) (hk : Kd.C (Kd.int .u8) w B k.length k) (hd : k.length ≤ d) (h8 : k.length ≤ 8) (h16 : 16 < v.length) :
  Calls Try.prog 35 #[.slice A l.length c, .slice B k.length d, .slice D v.length f] w (PutEnd w l ⟨1, [], 0⟩) := by
 obtain ⟨W0, hW0⟩ : ∃ W0, W0 = w.alloc (.cells #[.int .i64 0, .slice none 0 0, .int .i64 0] 34) := ⟨_, rfl⟩
 have hb0 : Below w.heap.size w W0 := by rw [hW0]; exact below_alloc (Below.refl _ _) _
 have hk0 : W0.heap[w.heap.size]? = some (.cells #[.int .i64 0, .slice none 0 0, .int .i64 0] 34 (0, 0)) := by rw [hW0]; exact heap_alloc_self w _
 have hs0 : W0.heap.size = w.heap.size + 1 := by rw [hW0]; simp
 have HI := Aside0.mk (still16 A c l W0 (Kd.C_below hr hb0) hc hn hv)
 have HB0 := Aside0.mk hb0
 have HK0 := Aside0.mk hk0
 have HS0 := Aside0.mk hs0
 have HK := Aside0.mk hk
 have HD := Aside0.mk hd
 have HN := Aside0.mk hn
 have c1 : decide ((8 : Int) < (k.length : Int)) = false := decide_eq_false (by omega)
 have c2 : decide ((16 : Int) < (v.length : Int)) = true := decide_eq_true (by omega)
 clear hr hc hv hb0 hk0 hk hd hs0 hn
 go_enter Try.func35, Try.ntmps35
 go_wp2_with fail
 rw [← hW0]
 refine HI.out.mono ?_
 rintro e w1 ⟨A', rfl, ⟨c', hS⟩, hb1⟩
 clear HI
 have HF1 := Aside0.mk (S_Fr hS)
 have HA1 := Aside0.mk (S_cap hS).2
 have HI := Aside0.mk (find17 A' B l.length d l k w1 (Fr.C HF1.out) (Nat.le_refl _) (Kd.C_below HK.out (below_then HB0.out HB0.out.size hb1)) HD.out)
 have HB1 := Aside0.mk hb1
 clear hS hb1
 go_wp2_with fail
 refine HI.out.mono ?_
 rintro e w2 ⟨rfl, hb2⟩
 have BK : w2.heap[w.heap.size]? = some (.cells #[.int .i64 0, .slice none 0 0, .int .i64 0] 34 (0, 0)) := (hb2.block _ (by have := HB1.out.size; have := HS0.out; omega)).trans ((HB1.out.block _ (by have := HS0.out; omega)).trans HK0.out)
 obtain ⟨x0, x1, x2, x3⟩ := blk_cells3 BK
 have x30 := x3 0
 have x31 := x3 1
 have x32 := x3 2
 have BKs := Aside0.mk BK
 have HB2 := Aside0.mk hb2
 clear BK hb2 HI x3
 go_wp2_with fail
 refine bodyPost_ret (results_tc rfl _ _ w.heap.size 34 #[.int .i64 1, .slice none 0 0, .int .i64 0] (0, 0) _ rfl (by refine blk_put (cs := #[.int .i64 1, .slice none 0 0, .int .i64 0]) ?_ 2 _ rfl; refine blk_put (cs := #[.int .i64 1, .slice none 0 0, .int .i64 0]) ?_ 1 _ rfl; refine blk_put (cs := #[.int .i64 0, .slice none 0 0, .int .i64 0]) ?_ 0 _ rfl; exact BKs.out) Try.underlying34 rfl (by kernel_rfl)) rfl ?_
 have hs0 := HS0.out
 have hB2 := below_then (below_then HB0.out HB0.out.size HB1.out) (by have := HB1.out.size; omega) HB2.out
 refine ⟨A', l.length, _, rfl, Nat.le_refl _, ?_, Kd.R_nil _ _ _ _ _, ((hB2.setCell (Nat.le_refl _) _).setCell (Nat.le_refl _) _).setCell (Nat.le_refl _) _⟩
 refine Fr.lower (Fr.keep (Fr.below HF1.out HB2.out) (fun k a b => keep_put3 _ _ _ _ _ _ _ _ _ (by omega))) (by omega)
set_option maxHeartbeats 1000000 in
theorem put_full (A B D : Option Addr) (c d f : Nat) (l : List S32) (k v : List Int) (w : World) (hr : Kd.C k32 w A l.length l) (hc : l.length ≤ c) (hn : l.length < 1000000) (hv : ∀ x ∈ l, x.f0.length < 140737488355328 ∧ x.f1.length < 140737488355328) (hk : Kd.C (Kd.int .u8) w B k.length k) (hd : k.length ≤ d) (h8 : k.length ≤ 8) (h16 : v.length ≤ 16) (ht : (findR l k).2 = false) (hf : 8 ≤ l.length) :
  Calls Try.prog 35 #[.slice A l.length c, .slice B k.length d, .slice D v.length f] w (PutEnd w l ⟨3, [], 0⟩) := by
 obtain ⟨W0, hW0⟩ : ∃ W0, W0 = w.alloc (.cells #[.int .i64 0, .slice none 0 0, .int .i64 0] 34) := ⟨_, rfl⟩
 have hb0 : Below w.heap.size w W0 := by rw [hW0]; exact below_alloc (Below.refl _ _) _
 have hk0 : W0.heap[w.heap.size]? = some (.cells #[.int .i64 0, .slice none 0 0, .int .i64 0] 34 (0, 0)) := by rw [hW0]; exact heap_alloc_self w _
 have hs0 : W0.heap.size = w.heap.size + 1 := by rw [hW0]; simp
 have HI := Aside0.mk (still16 A c l W0 (Kd.C_below hr hb0) hc hn hv)
 have HB0 := Aside0.mk hb0
 have HK0 := Aside0.mk hk0
 have HS0 := Aside0.mk hs0
 have HK := Aside0.mk hk
 have HD := Aside0.mk hd
 have HN := Aside0.mk hn
 have c1 : decide ((8 : Int) < (k.length : Int)) = false := decide_eq_false (by omega)
 have c2 : decide ((16 : Int) < (v.length : Int)) = false := decide_eq_false (by omega)
 have c3 : decide ((8 : Int) ≤ (l.length : Int)) = true := decide_eq_true (by omega)
 clear hr hc hv hb0 hk0 hk hd hs0 hn
 go_enter Try.func35, Try.ntmps35
 go_wp2_with fail
 rw [← hW0]
 refine HI.out.mono ?_
 rintro e w1 ⟨A', rfl, ⟨c', hS⟩, hb1⟩
 clear HI
 have HF1 := Aside0.mk (S_Fr hS)
 have HA1 := Aside0.mk (S_cap hS).2
 have HI := Aside0.mk (find17 A' B l.length d l k w1 (Fr.C HF1.out) (Nat.le_refl _) (Kd.C_below HK.out (below_then HB0.out HB0.out.size hb1)) HD.out)
 have HB1 := Aside0.mk hb1
 clear hS hb1
 rw [ht] at HI
 go_wp2_with fail
 refine HI.out.mono ?_
 rintro e w2 ⟨rfl, hb2⟩
 have BK : w2.heap[w.heap.size]? = some (.cells #[.int .i64 0, .slice none 0 0, .int .i64 0] 34 (0, 0)) := (hb2.block _ (by have := HB1.out.size; have := HS0.out; omega)).trans ((HB1.out.block _ (by have := HS0.out; omega)).trans HK0.out)
 obtain ⟨x0, x1, x2, x3⟩ := blk_cells3 BK
 have x30 := x3 0
 have x31 := x3 1
 have x32 := x3 2
 have BKs := Aside0.mk BK
 have HB2 := Aside0.mk hb2
 clear BK hb2 HI x3
 go_wp2_with fail
 refine bodyPost_ret (results_tc rfl _ _ w.heap.size 34 #[.int .i64 3, .slice none 0 0, .int .i64 0] (0, 0) _ rfl (by refine blk_put (cs := #[.int .i64 3, .slice none 0 0, .int .i64 0]) ?_ 2 _ rfl; refine blk_put (cs := #[.int .i64 3, .slice none 0 0, .int .i64 0]) ?_ 1 _ rfl; refine blk_put (cs := #[.int .i64 0, .slice none 0 0, .int .i64 0]) ?_ 0 _ rfl; exact BKs.out) Try.underlying34 rfl (by kernel_rfl)) rfl ?_
 have hs0 := HS0.out
 have hB2 := below_then (below_then HB0.out HB0.out.size HB1.out) (by have := HB1.out.size; omega) HB2.out
 refine ⟨A', l.length, _, rfl, Nat.le_refl _, ?_, Kd.R_nil _ _ _ _ _, ((hB2.setCell (Nat.le_refl _) _).setCell (Nat.le_refl _) _).setCell (Nat.le_refl _) _⟩
 refine Fr.lower (Fr.keep (Fr.below HF1.out HB2.out) (fun k a b => keep_put3 _ _ _ _ _ _ _ _ _ (by omega))) (by omega)
set_option maxHeartbeats 1000000 in
theorem put_there (A B D : Option Addr) (c d f : Nat) (l : List S32) (k v : List Int) (w : World) (hr : Kd.C k32 w A l.length l) (hc : l.length ≤ c) (hn : l.length < 1000000) (hv : ∀ x ∈ l, x.f0.length < 140737488355328 ∧ x.f1.length < 140737488355328) (hk : Kd.C (Kd.int .u8) w B k.length k) (hd : k.length ≤ d) (hvr : Kd.C (Kd.int .u8) w D v.length v) (hvf : v.length ≤ f) (h8 : k.length ≤ 8) (h16 : v.length ≤ 16) (ht : (findR l k).2 = true) :
  Calls Try.prog 35 #[.slice A l.length c, .slice B k.length d, .slice D v.length f] w (PutEnd w (l.set (findR l k).1 ⟨(rd_T32 l ((findR l k).1 : Int)).f0, v⟩) ⟨0, (rd_T32 l ((findR l k).1 : Int)).f1, (l.length : Int)⟩) := by
 obtain ⟨W0, hW0⟩ : ∃ W0, W0 = w.alloc (.cells #[.int .i64 0, .slice none 0 0, .int .i64 0] 34) := ⟨_, rfl⟩
 have hb0 : Below w.heap.size w W0 := by rw [hW0]; exact below_alloc (Below.refl _ _) _
 have hk0 : W0.heap[w.heap.size]? = some (.cells #[.int .i64 0, .slice none 0 0, .int .i64 0] 34 (0, 0)) := by rw [hW0]; exact heap_alloc_self w _
 have hs0 : W0.heap.size = w.heap.size + 1 := by rw [hW0]; simp
 have HI := Aside0.mk (still16 A c l W0 (Kd.C_below hr hb0) hc hn hv)
 have HB0 := Aside0.mk hb0
 have HK0 := Aside0.mk hk0
 have HS0 := Aside0.mk hs0
 have HK := Aside0.mk hk
 have HD := Aside0.mk hd
 have HN := Aside0.mk hn
 have c1 : decide ((8 : Int) < (k.length : Int)) = false := decide_eq_false (by omega)
 have c2 : decide ((16 : Int) < (v.length : Int)) = false := decide_eq_false (by omega)
 have HV := Aside0.mk hvr
 have HVF := Aside0.mk hvf
 clear hvr hvf
 clear hr hc hv hb0 hk0 hk hd hs0 hn
 go_enter Try.func35, Try.ntmps35
 go_wp2_with fail
 rw [← hW0]
 refine HI.out.mono ?_
 rintro e w1 ⟨A', rfl, ⟨c', hS⟩, hb1⟩
 clear HI
 have HF1 := Aside0.mk (S_Fr hS)
 have HA1 := Aside0.mk (S_cap hS).2
 have HI := Aside0.mk (find17 A' B l.length d l k w1 (Fr.C HF1.out) (Nat.le_refl _) (Kd.C_below HK.out (below_then HB0.out HB0.out.size hb1)) HD.out)
 have HB1 := Aside0.mk hb1
 clear hS hb1
 rw [ht] at HI
 go_wp2_with fail
 refine HI.out.mono ?_
 rintro e w2 ⟨rfl, hb2⟩
 have BK : w2.heap[w.heap.size]? = some (.cells #[.int .i64 0, .slice none 0 0, .int .i64 0] 34 (0, 0)) := (hb2.block _ (by have := HB1.out.size; have := HS0.out; omega)).trans ((HB1.out.block _ (by have := HS0.out; omega)).trans HK0.out)
 have hlt : (findR l k).1 < l.length := findR_lt l k ht
 obtain ⟨g, cur, rfl, hgb, hg1, hgs, hgm, hgr⟩ : ∃ g cur, A' = some ⟨g, 0, none⟩ ∧ W0.heap.size ≤ g ∧ w1.heap[g]? = some (.cells cur 42 (0, 0)) ∧ l.length * 2 ≤ cur.size ∧ l.length ≤ maxLen ∧ Reps (k32.M w1 W0.heap.size (fun k => k ≠ g)) 2 l (cur.toList.take (l.length * 2)) := by
  rcases HF1.out with h | h
  ·
   rw [h] at hlt; simp at hlt
  ·
   exact h
 have hM := hgr.2 (findR l k).1 (rd_T32 l ((findR l k).1 : Int)) (by rw [rd_get l _ hlt]; exact List.getElem?_eq_getElem hlt)
 obtain ⟨u0, u1, hcs, hR0, hR1⟩ := k32_openM hM
 have hcell : ∀ j u, j < 2 → [u0, u1][j]? = some u → cur[(findR l k).1 * 2 + j]? = some u := fun j u hj hu => by
  rw [← hcs, List.getElem?_take, if_pos hj, List.getElem?_drop, List.getElem?_take, if_pos (by omega), Array.getElem?_toList] at hu
  exact hu
 have hg2 : w2.heap[g]? = some (.cells cur 42 (0, 0)) := (hb2.block g (blk_lt hg1)).trans hg1
 obtain ⟨A1, c1', rfl⟩ := Kd.R_slice hR1
 have z1 : w2.cell? ⟨g, (findR l k).1 * 2 + 1, none⟩ = some (.slice A1 (rd_T32 l ((findR l k).1 : Int)).f1.length c1') := (cell_of_heap hg2).1.trans (hcell 1 _ (by decide) rfl)
 have HG := Aside0.mk (show _ ∧ _ ∧ _ ∧ _ ∧ _ from ⟨hgb, hg1, hgs, hgm, hgr⟩)
 have HC := Aside0.mk hcell
 have HR0 := Aside0.mk hR0
 have HR1 := Aside0.mk hR1
 have HG2 := Aside0.mk hg2
 have HB2 := Aside0.mk hb2
 have BKs := Aside0.mk BK
 have HLT := Aside0.mk hlt
 clear BK hb2 HI hgb hg1 hgs hgm hgr hM hcs hcell hR0 hR1 hg2
 go_wp2_with fail
 refine (clone18 D f v w2 (Kd.C_below (Kd.C_below HV.out (below_then HB0.out HB0.out.size HB1.out)) HB2.out) HVF.out (by omega)).mono ?_
 rintro e w3 ⟨va, rfl, ho, hb3⟩
 obtain ⟨Av, cv, rfl⟩ := Kd.R_slice ho
 have hg3 : w3.heap[g]? = some (.cells cur 42 (0, 0)) := (hb3.block g (blk_lt HG2.out)).trans HG2.out
 have z3 : w3.cell? ⟨g, (findR l k).1 * 2 + 1, none⟩ = some (.slice A1 (rd_T32 l ((findR l k).1 : Int)).f1.length c1') := (cell_of_heap hg3).1.trans (HC.out 1 _ (by decide) rfl)
 have z4 : w3.frozen? ⟨g, (findR l k).1 * 2 + 1, none⟩ = false := (cell_of_heap hg3).2
 have BK3 : w3.heap[w.heap.size]? = some (.cells #[.int .i64 0, .slice none 0 0, .int .i64 0] 34 (0, 0)) := (hb3.block _ (blk_lt BKs.out)).trans BKs.out
 obtain ⟨W4, hW4⟩ : ∃ W4, W4 = w3.setCell ⟨g, (findR l k).1 * 2 + 1, none⟩ (.slice Av v.length cv) := ⟨_, rfl⟩
 have hne : w.heap.size ≠ g := by have := HG.out.1; have := HS0.out; omega
 have hg4 : W4.heap[g]? = some (.cells (cur.setIfInBounds ((findR l k).1 * 2 + 1) (.slice Av v.length cv)) 42 (0, 0)) := by rw [hW4]; exact heap_set_same _ hg3
 have BK4 : W4.heap[w.heap.size]? = some (.cells #[.int .i64 0, .slice none 0 0, .int .i64 0] 34 (0, 0)) := by rw [hW4]; exact blk_far BK3 hne _
 have hk4 : ∀ k, k ≠ g → W4.heap[k]? = w3.heap[k]? := fun k h => by rw [hW4]; exact Below.heap_setCell _ _ _ k h
 have hs4 : W4.heap.size = w3.heap.size := by rw [hW4]; simp [World.setCell]
 obtain ⟨x0, x1, x2, x3⟩ := blk_cells3 BK4
 have x30 := x3 0
 have x31 := x3 1
 have x32 := x3 2
 have HO := Aside0.mk ho
 have HB3 := Aside0.mk hb3
 have HG4 := Aside0.mk hg4
 have HK4 := Aside0.mk hk4
 have HS4 := Aside0.mk hs4
 have BKs4 := Aside0.mk BK4
 have HW4 := Aside0.mk hW4
 have HNE := Aside0.mk hne
 rw [hW4] at x0 x1 x2 x30 x31 x32
 clear BK3 ho hb3 x3 hg4 hk4 hs4 BK4 hg3 hne hW4
 go_wp2_with fail
 rw [← HW4.out]
 refine bodyPost_ret (results_tc rfl _ _ w.heap.size 34 #[.int .i64 0, .slice A1 (rd_T32 l ((findR l k).1 : Int)).f1.length c1', .int .i64 (l.length : Int)] (0, 0) _ rfl (by refine blk_put (cs := #[.int .i64 0, .slice A1 (rd_T32 l ((findR l k).1 : Int)).f1.length c1', .int .i64 0]) ?_ 2 _ rfl; refine blk_put (cs := #[.int .i64 0, .slice none 0 0, .int .i64 0]) ?_ 1 _ rfl; refine blk_put (cs := #[.int .i64 0, .slice none 0 0, .int .i64 0]) ?_ 0 _ rfl; exact BKs4.out) Try.underlying34 rfl (by kernel_rfl)) rfl ?_
 have hs0 := HS0.out
 have h1s := HB1.out.size
 have h2s := HB2.out.size
 have h3s := HB3.out.size
 have h4s := HS4.out
 obtain ⟨h1, h2, h3, h4, h5⟩ := HG.out
 have hB3 := below_then (below_then (below_then HB0.out HB0.out.size HB1.out) (by omega) HB2.out) (by omega) HB3.out
 have hB4 : Below w.heap.size w W4 := by rw [HW4.out]; exact hB3.setCell (p := ⟨g, _, none⟩) (by show w.heap.size ≤ g; omega) _
 have hgl := blk_lt h2
 refine ⟨some ⟨g, 0, none⟩, l.length, _, by rw [List.length_set]; rfl, by rw [List.length_set]; exact Nat.le_refl _, ?_, ?_, ((hB4.setCell (Nat.le_refl _) _).setCell (Nat.le_refl _) _).setCell (Nat.le_refl _) _⟩
 ·
  refine Fr.lower (Fr_set1 (w := w1) (base := W0.heap.size) (u := .slice Av v.length cv) HLT.out h1 h3 h4 h5 (fun y cs hy => M_keep3 hy (fun k a b e => ?_)) (HC.out 0 _ (by decide) rfl) (k32_mkM _ _ _ ⟨(rd_T32 l ((findR l k).1 : Int)).f0, v⟩ (R_keep3 HR0.out (fun k a b e => ?_)) (Kd.R_lower (Kd.R_mono (Kd.R_bound (R_keep3 HO.out (fun k a b e => ?_))) (fun k hk => ?_)) (by omega : W0.heap.size ≤ w2.heap.size))) ?_) (by omega)
  ·
   rw [keep_put3 _ _ _ _ _ _ _ _ _ (by omega), HK4.out k e, HB3.out.block k (by omega), HB2.out.block k (by omega)]
  ·
   rw [keep_put3 _ _ _ _ _ _ _ _ _ (by omega), HK4.out k e, HB3.out.block k (by omega), HB2.out.block k (by omega)]
  ·
   rw [keep_put3 _ _ _ _ _ _ _ _ _ (by omega), HK4.out k (by omega)]
  ·
   have := hk.2.1; omega
  ·
   rw [keep_put3 _ _ _ _ _ _ _ _ _ (by omega)]; exact HG4.out
 ·
  refine Kd.R_lower (Kd.R_mono (R_keep3 HR1.out (fun k a b e => ?_)) (fun _ _ => trivial)) (by omega)
  rw [keep_put3 _ _ _ _ _ _ _ _ _ (by omega), HK4.out k e, HB3.out.block k (by omega), HB2.out.block k (by omega)]
set_option maxHeartbeats 1000000 in
theorem put_new (A B D : Option Addr) (c d f : Nat) (l : List S32) (k v : List Int) (w : World) (hr : Kd.C k32 w A l.length l) (hc : l.length ≤ c) (hn : l.length < 1000000) (hv : ∀ x ∈ l, x.f0.length < 140737488355328 ∧ x.f1.length < 140737488355328) (hk : Kd.C (Kd.int .u8) w B k.length k) (hd : k.length ≤ d) (hvr : Kd.C (Kd.int .u8) w D v.length v) (hvf : v.length ≤ f) (h8 : k.length ≤ 8) (h16 : v.length ≤ 16) (ht : (findR l k).2 = false) (hf : l.length < 8) :
  Calls Try.prog 35 #[.slice A l.length c, .slice B k.length d, .slice D v.length f] w (PutEnd w (l.take (findR l k).1 ++ ⟨k, v⟩ :: l.drop (findR l k).1) ⟨0, [], (l.length : Int) + 1⟩) := by
 obtain ⟨W0, hW0⟩ : ∃ W0, W0 = w.alloc (.cells #[.int .i64 0, .slice none 0 0, .int .i64 0] 34) := ⟨_, rfl⟩
 have hb0 : Below w.heap.size w W0 := by rw [hW0]; exact below_alloc (Below.refl _ _) _
 have hk0 : W0.heap[w.heap.size]? = some (.cells #[.int .i64 0, .slice none 0 0, .int .i64 0] 34 (0, 0)) := by rw [hW0]; exact heap_alloc_self w _
 have hs0 : W0.heap.size = w.heap.size + 1 := by rw [hW0]; simp
 have HI := Aside0.mk (still16 A c l W0 (Kd.C_below hr hb0) hc hn hv)
 have HB0 := Aside0.mk hb0
 have HK0 := Aside0.mk hk0
 have HS0 := Aside0.mk hs0
 have HK := Aside0.mk hk
 have HD := Aside0.mk hd
 have HN := Aside0.mk hn
 have c1 : decide ((8 : Int) < (k.length : Int)) = false := decide_eq_false (by omega)
 have c2 : decide ((16 : Int) < (v.length : Int)) = false := decide_eq_false (by omega)
 have c3 : decide ((8 : Int) ≤ (l.length : Int)) = false := decide_eq_false (by omega)
 have HV := Aside0.mk hvr
 have HVF := Aside0.mk hvf
 clear hvr hvf
 clear hr hc hv hb0 hk0 hk hd hs0 hn
 go_enter Try.func35, Try.ntmps35
 go_wp2_with fail
 rw [← hW0]
 refine HI.out.mono ?_
 rintro e w1 ⟨A', rfl, ⟨c', hS⟩, hb1⟩
 clear HI
 have HF1 := Aside0.mk (S_Fr hS)
 have HA1 := Aside0.mk (S_cap hS).2
 have HI := Aside0.mk (find17 A' B l.length d l k w1 (Fr.C HF1.out) (Nat.le_refl _) (Kd.C_below HK.out (below_then HB0.out HB0.out.size hb1)) HD.out)
 have HB1 := Aside0.mk hb1
 clear hS hb1
 rw [ht] at HI
 go_wp2_with fail
 refine HI.out.mono ?_
 rintro e w2 ⟨rfl, hb2⟩
 have BK : w2.heap[w.heap.size]? = some (.cells #[.int .i64 0, .slice none 0 0, .int .i64 0] 34 (0, 0)) := (hb2.block _ (by have := HB1.out.size; have := HS0.out; omega)).trans ((HB1.out.block _ (by have := HS0.out; omega)).trans HK0.out)
 have hfi : (findR l k).1 ≤ l.length := findR_le l k
 have HFI := Aside0.mk hfi
 have HB2 := Aside0.mk hb2
 have BKs := Aside0.mk BK
 clear BK hb2 HI hfi
 go_wp2_with fail
 refine (clone18 B d k w2 (Kd.C_below (Kd.C_below HK.out (below_then HB0.out HB0.out.size HB1.out)) HB2.out) HD.out (by omega)).mono ?_
 rintro e w3 ⟨va, rfl, ho, hb3⟩
 obtain ⟨Ak, ck, rfl⟩ := Kd.R_slice ho
 have HO3 := Aside0.mk ho
 have HB3 := Aside0.mk hb3
 clear ho hb3
 go_wp2_with fail
 refine (clone18 D f v w3 (Kd.C_below (Kd.C_below (Kd.C_below HV.out (below_then HB0.out HB0.out.size HB1.out)) HB2.out) HB3.out) HVF.out (by omega)).mono ?_
 rintro e w4 ⟨va, rfl, ho, hb4⟩
 obtain ⟨Av, cv, rfl⟩ := Kd.R_slice ho
 have HO4 := Aside0.mk ho
 have HB4 := Aside0.mk hb4
 clear ho hb4
 go_wp2_with fail
 obtain ⟨W5, hW5⟩ : ∃ W5, W5 = w4.alloc (.cells #[.slice Ak k.length ck, .slice Av v.length cv] 42) := ⟨_, rfl⟩
 have hb5 : Below w4.heap.size w4 W5 := by rw [hW5]; exact below_alloc (Below.refl _ _) _
 have hs5 : W5.heap.size = w4.heap.size + 1 := by rw [hW5]; simp
 have hx5 : W5.heap[w4.heap.size]? = some (.cells #[.slice Ak k.length ck, .slice Av v.length cv] 42 (0, 0)) := by rw [hW5]; exact heap_alloc_self _ _
 rw [← hW5]
 have h1s := HB1.out.size
 have h2s := HB2.out.size
 have h3s := HB3.out.size
 have h4s := HB4.out.size
 have hs0 := HS0.out
 have hF5 := Fr.below (Fr.below (Fr.below (Fr.below HF1.out HB2.out) HB3.out) HB4.out) hb5
 have hR5 : Kd.R (Kd.int .u8) 5 W5 W0.heap.size (fun _ => True) (.slice Ak k.length ck) k := Kd.R_lower (R_keep3 HO3.out (fun k a b e => by rw [hb5.block k (by omega), HB4.out.block k (by omega)])) (by omega)
 have hV5 : Kd.R (Kd.int .u8) 5 W5 W0.heap.size (fun _ => True) (.slice Av v.length cv) v := Kd.R_lower (R_keep3 HO4.out (fun k a b e => by rw [hb5.block k (by omega)])) (by omega)
 have hbel5 : Below w.heap.size w W5 := below_then (below_then (below_then (below_then (below_then HB0.out HB0.out.size HB1.out) (by omega) HB2.out) (by omega) HB3.out) (by omega) HB4.out) (by omega) hb5
 have hBK5 := (hb5.block _ (by omega)).trans ((HB4.out.block _ (by omega)).trans ((HB3.out.block _ (by omega)).trans BKs.out))
 obtain ⟨olds, ho1, ho2, ho3⟩ := Fr_olds hF5 (fun h => List.eq_nil_of_length_eq_zero (HA1.out h))
 have hx := k32_mkM W5 W0.heap.size (fun _ => True) ⟨k, v⟩ hR5 hV5
 refine (ins19 l.length (findR l k).1 olds [.slice Ak k.length ck, .slice Av v.length cv] W5 A' ⟨w4.heap.size, 0, none⟩ 1 HN.out HFI.out HA1.out ho1 ho2 (reps_cells ho3) rfl (fun j v hj => ?_) (k32.K_one (k32.K_of_M hx))).mono ?_
 ·
  rw [add_plain, (cell_of_heap hx5).1, ← hj, ← Array.getElem?_toList]
 ·
  rintro e w7 ⟨cap, cur7, rfl, hcap, h7, hs7, ht7, hb7⟩
  have BK7 := (hb7.block _ (by omega)).trans hBK5
  obtain ⟨x0, x1, x2, x3⟩ := blk_cells3 BK7
  have x30 := x3 0
  have x31 := x3 1
  have x32 := x3 2
  have BKs7 := Aside0.mk BK7
  have hxs := Aside0.mk hx
  have HH := Aside0.mk (show _ ∧ _ ∧ _ ∧ _ from ⟨h7, hs7, ht7, hb7⟩)
  have HOL := Aside0.mk ho3
  have HL5 := Aside0.mk hbel5
  have HS := Aside0.mk (show _ ∧ _ ∧ _ ∧ _ ∧ _ from ⟨h1s, h2s, h3s, h4s, hs5⟩)
  have e3 : ((l.length + 1 : Nat) : Int) = (l.length : Int) + 1 := by omega
  clear hs5 hx h7 hs7 ht7 hb7 ho3 ho1 ho2 hx5 hF5 hR5 hV5 hbel5 hb5 BK7 hBK5 h1s h2s h3s h4s hs0 x3 hW5 hW0
  go_wp2_with fail
  refine bodyPost_ret (results_tc rfl _ _ w.heap.size 34 #[.int .i64 0, .slice none 0 0, .int .i64 ((l.length : Int) + 1)] (0, 0) _ rfl (by refine blk_put (cs := #[.int .i64 0, .slice none 0 0, .int .i64 0]) ?_ 2 _ rfl; refine blk_put (cs := #[.int .i64 0, .slice none 0 0, .int .i64 0]) ?_ 1 _ rfl; refine blk_put (cs := #[.int .i64 0, .slice none 0 0, .int .i64 0]) ?_ 0 _ rfl; exact BKs7.out) Try.underlying34 rfl (by kernel_rfl)) rfl ?_
  obtain ⟨h7, hs7, ht7, hb7⟩ := HH.out
  obtain ⟨h1s, h2s, h3s, h4s, hs5⟩ := HS.out
  have hs0 := HS0.out
  have h7s := hb7.size
  have hl : (l.take (findR l k).1 ++ (⟨k, v⟩ : S32) :: l.drop (findR l k).1).length = l.length + 1 := by have := HFI.out; simp; omega
  have hB7 := below_then HL5.out (by omega) hb7
  refine ⟨some ⟨W5.heap.size, 0, none⟩, cap, _, by rw [hl]; rfl, by rw [hl]; exact hcap, ?_, Kd.R_nil _ _ _ _ _, ((hB7.setCell (Nat.le_refl _) _).setCell (Nat.le_refl _) _).setCell (Nat.le_refl _) _⟩
  refine Fr.lower (Fr.keep (Fr_ins (base := W0.heap.size) HFI.out HOL.out hxs.out hb7 (Nat.le_refl _) (by omega) h7 hs7 (by unfold maxLen; have := HN.out; omega) ht7) (fun k a b => keep_put3 _ _ _ _ _ _ _ _ _ (by omega))) (by omega)
def putR (l : List S32) (k v : List Int) : List S32 × S26 := if 8 < k.length ∨ 16 < v.length then (l, ⟨1, [], 0⟩) else if (findR l k).2 = true then (l.set (findR l k).1 ⟨(rd_T32 l ((findR l k).1 : Int)).f0, v⟩, ⟨0, (rd_T32 l ((findR l k).1 : Int)).f1, (l.length : Int)⟩) else if 8 ≤ l.length then (l, ⟨3, [], 0⟩) else (l.take (findR l k).1 ++ ⟨k, v⟩ :: l.drop (findR l k).1, ⟨0, [], (l.length : Int) + 1⟩)
theorem put6 (A B D : Option Addr) (c d f : Nat) (l : List S32) (k v : List Int) (w : World) (hr : Kd.C k32 w A l.length l) (hc : l.length ≤ c) (hn : l.length < 1000000) (hv : ∀ x ∈ l, x.f0.length < 140737488355328 ∧ x.f1.length < 140737488355328) (hk : Kd.C (Kd.int .u8) w B k.length k) (hd : k.length ≤ d) (hvr : Kd.C (Kd.int .u8) w D v.length v) (hvf : v.length ≤ f) : Calls Try.prog 35 #[.slice A l.length c, .slice B k.length d, .slice D v.length f] w (PutEnd w (putR l k v).1 (putR l k v).2) := by
 unfold putR
 by_cases h8 : 8 < k.length
 ·
  rw [if_pos (.inl h8)]; exact put_long1 A B D c d f l k v w hr hc hn hv hk hd h8
 ·
  by_cases h16 : 16 < v.length
  ·
   rw [if_pos (.inr h16)]; exact put_long2 A B D c d f l k v w hr hc hn hv hk hd (by omega) h16
  ·
   rw [if_neg (by omega)]
   cases ht : (findR l k).2 with
   | true => rw [if_pos rfl]; exact put_there A B D c d f l k v w hr hc hn hv hk hd hvr hvf (by omega) (by omega) ht
   | false =>
    rw [if_neg (by simp)]
    by_cases hf : 8 ≤ l.length
    ·
     rw [if_pos hf]; exact put_full A B D c d f l k v w hr hc hn hv hk hd (by omega) (by omega) ht hf
    ·
     rw [if_neg hf]; exact put_new A B D c d f l k v w hr hc hn hv hk hd hvr hvf (by omega) (by omega) ht (by omega)
end Go.Proofs.Ythfplgfpodmphaa.Ms
namespace Go.Proofs.Ythfplgfpodmphaa.Ob
open Go.RowKit Go.Proofs.YthfplgfpodmphaaW.PrintWords Go.Proofs.YthfplgfpodmphaaW.PrintLast Go.Proofs.YthfplgfpodmphaaW.PrintMore Go.Proofs.Ythfplgfpodmphaa.Ms
attribute [local go_sem] max2_int min2_int max_two min_two max_three min_three max_four min_four
set_option linter.unusedVariables false
set_option linter.unusedSimpArgs false
set_option maxRecDepth 100000
theorem F_block {α : Type} {d : Kd α} {W : World} {ok : Nat → Prop} {g : Nat} {cur : Array Value} {e : TypeId} {xs : List α} (hg : W.heap[g]? = some (.cells cur e (0, 0))) (hm : xs.length < 9223372036854775807) (hr : Reps (fun x c => Kd.FK d W ok x c) d.sz xs (cur.toList.take (xs.length * d.sz))) : Kd.F d W (fun k => ok k ∨ k = g) (some ⟨g, 0, none⟩) xs.length xs := by
 intro W' hW
 have hlt := (Array.getElem?_eq_some_iff.1 hg).1
 have hg' : W'.heap[g]? = some (.cells cur e (0, 0)) := (hW g (.inr rfl) hlt).trans hg
 refine ⟨rfl, by omega, fun _ => ⟨_, rfl, fun j p hj => ?_⟩⟩
 have hk : d.K W' p (((cur.toList.take (xs.length * d.sz)).drop (j * d.sz)).take d.sz) := hr.2 j p hj W' (fun k hk hlt => hW k (.inl hk) hlt)
 refine ⟨_, d.K_len hk, hk, fun i u hu => ?_⟩
 rw [add_plain, (cell_of_heap hg').1]
 rw [List.getElem?_take] at hu
 split at hu
 ·
  rw [List.getElem?_drop, List.getElem?_take] at hu
  split at hu
  ·
   rw [Array.getElem?_toList] at hu
   exact hu
  ·
   cases hu
 ·
  cases hu
theorem FK_slice {W : World} {ok : Nat → Prop} {A : Option Addr} {c : Nat} {v : List Int} (h : Kd.F kb W ok A v.length v) (hc : v.length ≤ c) : Kd.FK kq W ok v [.slice A v.length c] := fun W' hW => ⟨A, c, rfl, hc, h W' hW⟩
theorem FK_int {W : World} {ok : Nat → Prop} {x : Int} : Kd.FK ki W ok x [.int .i64 x] := fun W' hW => rfl
/-- append of one to a row that is as long as it may be: a new row. -/
theorem app1 {α : Type} (d : Kd α) (W : World) (t e : TypeId) (z : Value) (sz by_ : Nat) (hsz : d.sz = sz) (ht : Try.prog.underlying t = some (.slice e)) (hinfo : (Try.prog.info? e).map (fun i => (i.zero, i.size, i.bytes)) = some (some z, sz, by_)) (hby : 0 < by_) (hby2 : by_ ≤ 1000)
  (ok : Nat → Prop) (A : Option Addr) (l : List α) (hF : Kd.F d W ok A l.length l) (hn : l.length < 1000000) (hA : A = none → l.length = 0)
  (xa : Addr) (xcap : Nat) (x : α) (xc : List Value) (hx : ∀ j v, xc[j]? = some v → W.cell? (xa.add j) = some v) (hK : Kd.FK d W ok x xc) :
  ∃ g c' W', (∀ ty, (Builtin.append_ #[t, t] ty #[.slice A l.length l.length, .slice (some xa) 1 xcap]).run Try.prog W = .ok (.slice (some ⟨g, 0, none⟩) (l.length + 1) c') W') ∧ l.length + 1 ≤ c' ∧ Below W.heap.size W W' ∧ Kd.F d W' (fun k => ok k ∨ W.heap.size ≤ k) (some ⟨g, 0, none⟩) (l ++ [x]).length (l ++ [x]) := by
 have hxl : xc.length = sz := by rw [← hsz]; exact d.K_len (Foot.now hK)
 have hmove : ∀ {y c} (o : Obj), Kd.FK d W ok y c → Kd.FK d (W.drew.alloc o) ok y c := fun o h => Foot.step h (fun k _ hlt => heap_alloc_lt W.drew _ k hlt)
 cases A with
 | none =>
  have h0 := hA rfl
  obtain rfl : l = [] := List.eq_nil_of_length_eq_zero h0
  obtain ⟨iv, hi, hzz⟩ := Option.map_eq_some_iff.1 hinfo
  simp only [Prod.mk.injEq] at hzz
  obtain ⟨hz, h5, h56⟩ := hzz
  have hb1 : 1 * iv.bytes ≤ 281474976710656 := by rw [h56]; omega
  refine ⟨W.heap.size, _, _, fun ty => run_append_nil (P := Try.prog) W t ty e iv z ht hi hz xa 1 xcap xc (by rw [hxl, h5]; omega) hx (by decide) (by decide) hb1, grownCap_ge _ _ _ _, below_alloc (below_drew (Below.refl _ _)) _, ?_⟩
  refine Kd.F_mono (F_block (heap_alloc_self W.drew _) (by simp) ?_) (fun k hk => hk.elim .inl (fun h => .inr (by rw [h]; exact Nat.le_refl _)))
  have ht : (xc.toArray ++ Builtin.zeroCells z.cells (grownCap W 1 0 e - 1)).toList.take (1 * d.sz) = xc := by
   rw [show (xc.toArray ++ Builtin.zeroCells z.cells (grownCap W 1 0 e - 1)).toList = xc ++ (Builtin.zeroCells z.cells (grownCap W 1 0 e - 1)).toList from by simp, Nat.one_mul, hsz, ← hxl, List.take_left']
   rfl
  show Reps _ _ [x] (List.take (1 * d.sz) _)
  rw [ht]
  exact reps_one (hmove _ hK) (by rw [hxl, hsz])
 | some ad =>
  obtain ⟨olds, hr, ho⟩ := (Kd.F_rows hF).inner_
  have hol : olds.length = l.length * sz := by rw [hr.1, hsz]
  have h1000 : (l.length + 1) * by_ ≤ (l.length + 1) * 1000 := Nat.mul_le_mul_left _ hby2
  refine ⟨W.heap.size, _, _, fun ty => app_grow W t ty e z sz by_ ht hinfo ad l.length l.length olds hol ho xa 1 xcap xc (by rw [hxl]; omega) hx (by omega) (by omega) hby, grownCap_ge _ _ _ _, below_alloc (below_drew (Below.refl _ _)) _, ?_⟩
  refine Kd.F_mono (F_block (heap_alloc_self W.drew _) (by simp; omega) ?_) (fun k hk => hk.elim .inl (fun h => .inr (by rw [h]; exact Nat.le_refl _)))
  have h2 : (olds ++ xc).length = (l ++ [x]).length * d.sz := by simp [hol, hxl, hsz, Nat.add_mul]
  rw [take_app3 olds xc _ _ h2]
  exact reps_app (hr.imp_ (fun _ _ h => hmove _ h)) (reps_one (hmove _ hK) (by rw [hxl, hsz]))
set_option maxHeartbeats 1000000 in
theorem push_long (A0 : Option Addr) (c0 : Nat) (l0 : List (List Int)) (A1 : Option Addr) (c1 : Nat) (l1 : List Int) (w : World) (hr0 : Kd.C kq w A0 l0.length l0) (hc0 : l0.length ≤ c0) (hb0 : l0.length < 1000000) (hv : ∀ x ∈ l0, x.length < 1000000) (hr1 : Kd.C kb w A1 l1.length l1) (hc1 : l1.length ≤ c1) (hb1 : l1.length < 1000000) (h16 : 16 < l1.length) :
  Calls Try.prog 32 #[.slice A0 l0.length c0, .slice A1 l1.length c1] w (T2 kq w l0 ⟨1, [], 0⟩) := by
 have HR0 := Aside0.mk hr0
 have HC0 := Aside0.mk hc0
 have HN := Aside0.mk hb0
 have HV := Aside0.mk hv
 have HR1 := Aside0.mk hr1
 have HC1 := Aside0.mk hc1
 have HN1 := Aside0.mk hb1
 have dc1 : decide ((16 : Int) < (l1.length : Int)) = true := decide_eq_true (by omega)
 clear hr0 hc0 hb0 hv hr1 hc1 hb1 h16
 have HB := Aside0.mk (Below.refl w.heap.size w)
 go_enter Try.func32, Try.ntmps32
 go_wp2_with fail
 generalize hV0 : World.alloc _ _ = V0
 obtain ⟨K0, hb_, SV0⟩ := al1 hV0
 clear hV0
 replace HB := HBs HB hb_
 clear hb_
 refine (still74 A0 c0 l0 V0 (Kd.C_below HR0.out HB.out) HC0.out HN.out HV.out).mono ?_
 rintro e w1 ⟨P0, rfl, hF, hA, hb_⟩
 have HA := Aside0.mk hA
 have S1 := Aside0.mk hb_.size
 obtain ⟨b1, hb1⟩ : ∃ b_, b_ = V0.heap.size := ⟨_, rfl⟩
 rw [← hb1] at hF
 have F0 := Aside0.mk hF
 have Zb1 := Aside0.mk (show w.heap.size + 1 ≤ b1 by have := SV0.out; omega)
 clear hb1 hF hA
 replace HB := HBs HB hb_
 replace K0 := KB K0 hb_
 clear hb_
 obtain ⟨x0, x1, x2, x30, x31, x32⟩ := cel3 K0.out
 go_wp2_with fail
 clear x0 x1 x2 x30 x31 x32
 generalize hV2 : World.setCell (World.setCell (World.setCell w1 _ _) _ _) _ _ = V2
 have hge_ : w.heap.size ≤ w.heap.size := by have z_ := Zb1.out; omega
 have hst_ := st3 HB.out hge_ K0.out hV2
 replace HB := Aside0.mk hst_.1
 replace K0 := Aside0.mk hst_.2.1
 have z_ := Zb1.out
 have e0_ : ∀ k_, (b1 ≤ k_) → k_ ≠ w.heap.size := fun k_ h_ => by omega
 replace F0 := FS F0 hst_ e0_
 clear e0_
 have SV2 := Aside0.mk hst_.2.2.2
 clear hV2 hst_ hge_ z_
 refine bodyPost_ret (results_tc rfl _ _ w.heap.size 34 #[.int .i64 1, .slice none 0 0, .int .i64 0] (0, 0) _ rfl K0.out Try.underlying34 rfl (by kernel_rfl)) rfl ?_
 exact ⟨P0, _, none, 0, rfl, Nat.le_refl _, Kd.F_mono F0.out (fun k hk => by have h2 : b1 ≤ k := hk; have := Zb1.out; show w.heap.size ≤ k; omega), Nat.le_refl _, Kd.F_nil _ _ _, HB.out⟩
set_option maxHeartbeats 1000000 in
theorem push_full (A0 : Option Addr) (c0 : Nat) (l0 : List (List Int)) (A1 : Option Addr) (c1 : Nat) (l1 : List Int) (w : World) (hr0 : Kd.C kq w A0 l0.length l0) (hc0 : l0.length ≤ c0) (hb0 : l0.length < 1000000) (hv : ∀ x ∈ l0, x.length < 1000000) (hr1 : Kd.C kb w A1 l1.length l1) (hc1 : l1.length ≤ c1) (hb1 : l1.length < 1000000) (h16 : ¬ 16 < l1.length) (h8 : 8 ≤ l0.length) :
  Calls Try.prog 32 #[.slice A0 l0.length c0, .slice A1 l1.length c1] w (T2 kq w l0 ⟨3, [], 0⟩) := by
 have HR0 := Aside0.mk hr0
 have HC0 := Aside0.mk hc0
 have HN := Aside0.mk hb0
 have HV := Aside0.mk hv
 have HR1 := Aside0.mk hr1
 have HC1 := Aside0.mk hc1
 have HN1 := Aside0.mk hb1
 have dc1 : decide ((16 : Int) < (l1.length : Int)) = false := decide_eq_false (by omega)
 have dc2 : decide ((8 : Int) ≤ (l0.length : Int)) = true := decide_eq_true (by omega)
 clear hr0 hc0 hb0 hv hr1 hc1 hb1 h16 h8
 have HB := Aside0.mk (Below.refl w.heap.size w)
 go_enter Try.func32, Try.ntmps32
 go_wp2_with fail
 generalize hV0 : World.alloc _ _ = V0
 obtain ⟨K0, hb_, SV0⟩ := al1 hV0
 clear hV0
 replace HB := HBs HB hb_
 clear hb_
 refine (still74 A0 c0 l0 V0 (Kd.C_below HR0.out HB.out) HC0.out HN.out HV.out).mono ?_
 rintro e w1 ⟨P0, rfl, hF, hA, hb_⟩
 have HA := Aside0.mk hA
 have S1 := Aside0.mk hb_.size
 obtain ⟨b1, hb1⟩ : ∃ b_, b_ = V0.heap.size := ⟨_, rfl⟩
 rw [← hb1] at hF
 have F0 := Aside0.mk hF
 have Zb1 := Aside0.mk (show w.heap.size + 1 ≤ b1 by have := SV0.out; omega)
 clear hb1 hF hA
 replace HB := HBs HB hb_
 replace K0 := KB K0 hb_
 clear hb_
 obtain ⟨x0, x1, x2, x30, x31, x32⟩ := cel3 K0.out
 go_wp2_with fail
 clear x0 x1 x2 x30 x31 x32
 generalize hV2 : World.setCell (World.setCell (World.setCell w1 _ _) _ _) _ _ = V2
 have hge_ : w.heap.size ≤ w.heap.size := by have z_ := Zb1.out; omega
 have hst_ := st3 HB.out hge_ K0.out hV2
 replace HB := Aside0.mk hst_.1
 replace K0 := Aside0.mk hst_.2.1
 have z_ := Zb1.out
 have e0_ : ∀ k_, (b1 ≤ k_) → k_ ≠ w.heap.size := fun k_ h_ => by omega
 replace F0 := FS F0 hst_ e0_
 clear e0_
 have SV2 := Aside0.mk hst_.2.2.2
 clear hV2 hst_ hge_ z_
 refine bodyPost_ret (results_tc rfl _ _ w.heap.size 34 #[.int .i64 3, .slice none 0 0, .int .i64 0] (0, 0) _ rfl K0.out Try.underlying34 rfl (by kernel_rfl)) rfl ?_
 exact ⟨P0, _, none, 0, rfl, Nat.le_refl _, Kd.F_mono F0.out (fun k hk => by have h2 : b1 ≤ k := hk; have := Zb1.out; show w.heap.size ≤ k; omega), Nat.le_refl _, Kd.F_nil _ _ _, HB.out⟩
set_option maxHeartbeats 1000000 in
theorem push_new (A0 : Option Addr) (c0 : Nat) (l0 : List (List Int)) (A1 : Option Addr) (c1 : Nat) (l1 : List Int) (w : World) (hr0 : Kd.C kq w A0 l0.length l0) (hc0 : l0.length ≤ c0) (hb0 : l0.length < 1000000) (hv : ∀ x ∈ l0, x.length < 1000000) (hr1 : Kd.C kb w A1 l1.length l1) (hc1 : l1.length ≤ c1) (hb1 : l1.length < 1000000) (h16 : ¬ 16 < l1.length) (h8 : ¬ 8 ≤ l0.length) :
  Calls Try.prog 32 #[.slice A0 l0.length c0, .slice A1 l1.length c1] w (T2 kq w (l0 ++ [l1]) ⟨0, [], (l0.length : Int) + 1⟩) := by
 have HR0 := Aside0.mk hr0
 have HC0 := Aside0.mk hc0
 have HN := Aside0.mk hb0
 have HV := Aside0.mk hv
 have HR1 := Aside0.mk hr1
 have HC1 := Aside0.mk hc1
 have HN1 := Aside0.mk hb1
 have dc1 : decide ((16 : Int) < (l1.length : Int)) = false := decide_eq_false (by omega)
 have dc2 : decide ((8 : Int) ≤ (l0.length : Int)) = false := decide_eq_false (by omega)
 have e3 : IntKind.i64.wrap ((l0.length : Int) + 1) = (l0.length : Int) + 1 := by rw [IntKind.wrap_i64]; omega
 have H8 := Aside0.mk h8
 clear hr0 hc0 hb0 hv hr1 hc1 hb1 h16 h8
 have HB := Aside0.mk (Below.refl w.heap.size w)
 go_enter Try.func32, Try.ntmps32
 go_wp2_with fail
 generalize hV0 : World.alloc _ _ = V0
 obtain ⟨K0, hb_, SV0⟩ := al1 hV0
 clear hV0
 replace HB := HBs HB hb_
 clear hb_
 refine (still74 A0 c0 l0 V0 (Kd.C_below HR0.out HB.out) HC0.out HN.out HV.out).mono ?_
 rintro e w1 ⟨P0, rfl, hF, hA, hb_⟩
 have HA := Aside0.mk hA
 have S1 := Aside0.mk hb_.size
 obtain ⟨b1, hb1⟩ : ∃ b_, b_ = V0.heap.size := ⟨_, rfl⟩
 rw [← hb1] at hF
 have F0 := Aside0.mk hF
 have Zb1 := Aside0.mk (show w.heap.size + 1 ≤ b1 by have := SV0.out; omega)
 clear hb1 hF hA
 replace HB := HBs HB hb_
 replace K0 := KB K0 hb_
 clear hb_
 obtain ⟨x0, x1, x2, x30, x31, x32⟩ := cel3 K0.out
 go_wp2_with fail
 refine (clone18 A1 c1 l1 w1 (Kd.C_below HR1.out HB.out) HC1.out (by have := HN1.out; omega)).mono ?_
 rintro e w2 ⟨v2, rfl, hR, hb_⟩
 obtain ⟨P1, p1, rfl⟩ := Kd.R_slice hR
 have L1 := Aside0.mk (Kd.R_reads' hR).2.1
 have F1 := Aside0.mk (Kd.F_mono (F_of_R hR) (fun k hk => (show w.heap.size + 1 ≤ k from by have h2 : w1.heap.size ≤ k := hk; have := S1.out; have := SV0.out; omega)))
 have F0 := Aside0.mk (Kd.F_mono F0.out (fun k hk => (show w.heap.size + 1 ≤ k from by have h2 : b1 ≤ k := hk; have := Zb1.out; omega)))
 clear hR
 clear x0 x1 x2 x30 x31 x32
 replace HB := HBs HB hb_
 replace K0 := KB K0 hb_
 replace F0 := FB F0 hb_
 have S2 := Aside0.mk hb_.size
 clear hb_
 go_wp2_with (
  (with_reducible refine gate_builtin (b := .append) (xs := #[.tmp 20, .tmp 23]) rfl ?_)
  at_builtin
  generalize hV3 : World.alloc _ _ = V3
  obtain ⟨K1, hb_, SV3⟩ := al1 hV3
  clear hV3
  replace HB := HBs HB hb_
  replace K0 := KB K0 hb_
  replace F0 := FB F0 hb_
  replace F1 := FB F1 hb_
  clear hb_
  obtain ⟨g, c9, W4, hrun, hc9, hb_, hF9⟩ := app1 kq V3 28 22 (.slice none 0 0) 1 24 rfl Try.underlying28 info22 (by decide) (by decide) _ P0 l0 F0.out HN.out HA.out ⟨w2.heap.size, 0, none⟩ 1 l1 [.slice P1 l1.length p1] (fun j v hj => by rw [add_plain, (cell_of_heap K1.out).1, ← hj, ← Array.getElem?_toList]) (FK_slice F1.out L1.out)
  have HR := Aside0.mk hrun
  have HC9 := Aside0.mk hc9
  have F9 := Aside0.mk (Kd.F_mono hF9 (fun k hk => hk.elim id (fun h => (show w.heap.size + 1 ≤ k from by have := S1.out; have := S2.out; have := SV3.out; have := SV0.out; omega))))
  clear hrun hc9 hF9
  clear K1
  replace HB := HBs HB hb_
  replace K0 := KB K0 hb_
  replace F0 := FB F0 hb_
  replace F1 := FB F1 hb_
  clear hb_
  obtain ⟨x0, x1, x2, x30, x31, x32⟩ := cel3 K0.out
  refine Lib.wpList_append_run _ rfl _ _ _ _ rfl _ _ rfl rfl _ _ (HR.out _) ?_)
 clear x0 x1 x2 x30 x31 x32
 generalize hV5 : World.setCell (World.setCell (World.setCell W4 _ _) _ _) _ _ = V5
 have hge_ : w.heap.size ≤ w.heap.size := by omega
 have hst_ := st3 HB.out hge_ K0.out hV5
 replace HB := Aside0.mk hst_.1
 replace K0 := Aside0.mk hst_.2.1
 have e0_ : ∀ k_, (w.heap.size + 1 ≤ k_) → k_ ≠ w.heap.size := fun k_ h_ => by omega
 replace F9 := FS F9 hst_ e0_
 clear e0_
 have SV5 := Aside0.mk hst_.2.2.2
 clear hV5 hst_ hge_
 refine bodyPost_ret (results_tc rfl _ _ w.heap.size 34 #[.int .i64 0, .slice none 0 0, .int .i64 ((l0.length : Int) + 1)] (0, 0) _ rfl K0.out Try.underlying34 rfl (by kernel_rfl)) rfl ?_
 refine ⟨some ⟨g, 0, none⟩, c9, none, 0, by rw [List.length_append]; rfl, by rw [List.length_append]; exact HC9.out, Kd.F_mono F9.out (fun k hk => by have h2 : w.heap.size + 1 ≤ k := hk; show w.heap.size ≤ k; omega), Nat.le_refl _, Kd.F_nil _ _ _, HB.out⟩
theorem push32 (A0 : Option Addr) (c0 : Nat) (l0 : List (List Int)) (A1 : Option Addr) (c1 : Nat) (l1 : List Int) (w : World) (hr0 : Kd.C kq w A0 l0.length l0) (hc0 : l0.length ≤ c0) (hb0 : l0.length < 1000000) (hv : ∀ x ∈ l0, x.length < 1000000) (hr1 : Kd.C kb w A1 l1.length l1) (hc1 : l1.length ≤ c1) (hb1 : l1.length < 1000000) : Calls Try.prog 32 #[.slice A0 l0.length c0, .slice A1 l1.length c1] w (T2 kq w (pushR l0 l1).1 (pushR l0 l1).2) := by
 unfold pushR
 split
 ·
  exact push_long A0 c0 l0 A1 c1 l1 w hr0 hc0 hb0 hv hr1 hc1 hb1 (by assumption)
 ·
  split
  ·
   exact push_full A0 c0 l0 A1 c1 l1 w hr0 hc0 hb0 hv hr1 hc1 hb1 (by assumption) (by assumption)
  ·
   exact push_new A0 c0 l0 A1 c1 l1 w hr0 hc0 hb0 hv hr1 hc1 hb1 (by assumption) (by assumption)
theorem R_cap {α : Type} {d : Kd α} {e : Nat} {w : World} {base : Nat} {ok : Nat → Prop} {A : Option Addr} {n c : Nat} {l : List α} (h : Kd.R d e w base ok (.slice A n c) l) : n ≤ c ∧ c ≤ 9223372036854775807 ∧ (A = none → n = 0) ∧ n = l.length := by
  obtain ⟨_, inner, ho, hr⟩ := h
  rcases ho.2 with ⟨h', h0⟩ | ⟨g', cap', cur, h', _, _, h1, h2, _⟩
  · simp only [Value.slice.injEq] at h'
    exact ⟨by omega, by omega, fun _ => h'.2.1, by omega⟩
  · simp only [Value.slice.injEq] at h'
    unfold maxLen at h2
    exact ⟨by omega, by omega, (fun e => by rw [e] at h'; cases h'.1), by omega⟩
theorem idxR_eq : ∀ (l : List Int) (a : Int) (i : Nat) (h : i < l.length), l[i] = a → (∀ j (hj : j < i), l[j]'(by omega) ≠ a) → idxR l a = i
  | [], _, i, h, _, _ => absurd h (by simp)
  | x :: r, a, 0, h, e, _ => by simp only [List.getElem_cons_zero] at e; simp [idxR, e]
  | x :: r, a, i + 1, h, e, hn => by
    have h0 : x ≠ a := hn 0 (by omega)
    simp only [idxR, if_neg h0]
    rw [idxR_eq r a i (by simpa using h) (by simpa using e) (fun j hj => by have := hn (j + 1) (by omega); simpa using this)]
theorem idxR_none : ∀ (l : List Int) (a : Int), (∀ j (hj : j < l.length), l[j] ≠ a) → idxR l a = l.length
  | [], _, _ => rfl
  | x :: r, a, hn => by
    have h0 : x ≠ a := hn 0 (by simp)
    simp only [idxR, if_neg h0, List.length_cons]
    rw [idxR_none r a (fun j hj => by have := hn (j + 1) (by simpa using hj); simpa using this)]
def idxI (l : List Int) (a : Int) : Int := if idxR l a < l.length then (idxR l a : Int) else -1
theorem index_l0 : ∀ (k i : Nat) (l : List Int) (a : Int), i ≤ l.length → l.length < i + k → l.length < 1000000 → (∀ j (hj : j < i) (h2 : j < l.length), l[j] ≠ a) → slices_Index_int_int.l0 k l a (l.length : Int) (i : Int) = some (idxI l a)
  | 0, i, l, a, _, h, _, _ => absurd h (by omega)
  | k + 1, i, l, a, h1, h2, hn, hv => by
    simp only [slices_Index_int_int.l0]
    by_cases hi : i < l.length
    · rw [if_pos (by omega), if_pos (by omega), if_pos (by omega), rd_get' l i hi]
      by_cases hx : a = l[i]
      · have he := idxR_eq l a i hi hx.symm (fun j hj => hv j hj (by omega))
        rw [if_pos hx, idxI, he, if_pos hi]
      · rw [if_neg hx, wrap_small _ (by omega) (by omega)]
        exact index_l0 k (i + 1) l a (by omega) (by omega) hn (fun j hj h2 => by
          rcases Nat.lt_or_ge j i with h | h
          · exact hv j h h2
          · obtain rfl : j = i := by omega
            exact fun h => hx h.symm)
    · rw [if_neg (by omega), idxI, idxR_none l a (fun j hj => hv j (by omega) hj), if_neg (by omega)]
theorem index_f (l : List Int) (a : Int) (hn : l.length < 1000000) : slices_Index_int_int.f (l.length + 1) l a = some (idxI l a) := index_l0 _ 0 l a (by omega) (by omega) hn (fun j hj => absurd hj (by omega))
theorem contains_f (l : List Int) (a : Int) (hn : l.length < 1000000) : slices_Contains_int_int.f (l.length + 1) l a = some (decide (idxR l a < l.length)) := by
  unfold slices_Contains_int_int.f
  rw [index_f l a hn, Option.bind_some, idxI]
  congr 1
  split
  · rename_i h; simp [h]
  · rename_i h; simp [h]
end Go.Proofs.Ythfplgfpodmphaa.Ob
namespace Go.Proofs.Ythfplgfpodmphaa.Ms
open Go.RowKit Go.Proofs.YthfplgfpodmphaaW.PrintWords Go.Proofs.YthfplgfpodmphaaW.PrintLast Go.Proofs.YthfplgfpodmphaaW.PrintMore
attribute [local go_sem] max2_int min2_int max_two min_two max_three min_three max_four min_four
set_option linter.unusedVariables false
set_option linter.unusedSimpArgs false
set_option maxRecDepth 100000

theorem setCells_row {w : World} {g o : Nat} {t : TypeId} {vs : List Value} {cur : Array Value} (hg : w.heap[g]? = some (.cells cur t (0, 0))) (hl : o + vs.length ≤ cur.size) (h1 : ∀ v ∈ vs, v.oneCell' = true) :
    w.setCells g o vs = w.setRow g (cur.toList.take o ++ vs ++ cur.toList.drop (o + vs.length)).toArray := by
  have a := run_storeCells_at (P := Try.prog) g o t vs 0 cur w hg (by simpa using hl) h1
  have b := run_storeCells_cells (P := Try.prog) g o vs 0 w (fun j hj => by rw [(cell_of_heap hg).1, Array.getElem?_eq_getElem (by omega)]; rfl) (fun j hj => (cell_of_heap hg).2) h1
  rw [b] at a
  simpa using a
theorem run_clear_k {P : Program} (w : World) (t e ty : TypeId) (z : Value) (ht : P.underlying t = some (.slice e)) (hv : ∀ w, (zeroValue e).run P w = .ok z w) (b o n c : Nat) (cs : List Value) (hcs : (Builtin.zeroCells z.cells n).toList = cs) (hn : 0 < n) (h1 : ∀ u ∈ cs, u.oneCell' = true)
    (hc : ∀ j, j < cs.length → (w.cell? ⟨b, o + j, none⟩).isSome = true) (hf : ∀ j, j < cs.length → w.frozen? ⟨b, o + j, none⟩ = false) :
    (Builtin.clear_ #[t] ty #[.slice (some ⟨b, o, none⟩) n c]).run P w = .ok (.tuple #[]) (w.setCells b o cs) := by
  have hst := run_storeCells_cells (P := P) b o cs 0 w (by simpa using hc) (by simpa using hf) h1
  simp only [Nat.add_zero] at hst
  obtain ⟨m, rfl⟩ : ∃ m, n = m + 1 := ⟨n - 1, by omega⟩
  simp [Builtin.clear_, run_underlying ht, hv, hcs, hst]
theorem zero32 (w : World) : (zeroValue 42).run Try.prog w = .ok z32v w := by kernel_rfl
def DelEnd (g n : Nat) (cur : Array Value) (ys : List Value) (w : World) (e : Ending) (w' : World) : Prop := e = .returned (.slice (some ⟨g, 0, none⟩) n (n + 1)) ∧ (∃ cur', w'.heap[g]? = some (.cells cur' 42 (0, 0)) ∧ cur'.size = cur.size ∧ cur'.toList.take (n * 2) = ys) ∧ (∀ k, k ≠ g → w'.heap[k]? = w.heap[k]?) ∧ w'.heap.size = w.heap.size ∧ ∀ B w0, Below B w0 w → B ≤ g → Below B w0 w'
set_option maxHeartbeats 4000000 in
set_option maxRecDepth 1000000 in
theorem del24 (g n i : Nat) (cur : Array Value) (w : World) (hg : w.heap[g]? = some (.cells cur 42 (0, 0))) (hs : (n + 1) * 2 ≤ cur.size) (hn : n < 1000000) (hi : i ≤ n) (h1 : ∀ v ∈ cur.toList.take ((n + 1) * 2), v.oneCell' = true) :
    Calls Try.prog 82 #[.slice (some ⟨g, 0, none⟩) (n + 1) (n + 1), .int .i64 (i : Nat), .int .i64 ((i : Int) + 1)] w (DelEnd g n cur (cur.toList.take (i * 2) ++ (cur.toList.drop ((i + 1) * 2)).take ((n - i) * 2)) w) := by
  obtain ⟨i0, hi0, hzz⟩ := Option.map_eq_some_iff.1 info32
  simp only [Prod.mk.injEq] at hzz
  obtain ⟨hz0, hz1, hz2⟩ := hzz
  obtain ⟨news, hnews⟩ : ∃ news, news = (cur.toList.drop ((i + 1) * 2)).take ((n - i) * 2) := ⟨_, rfl⟩
  have hlen : news.length = (n - i) * 2 := by rw [hnews]; simp; omega
  have hone : ∀ v ∈ news, v.oneCell' = true := fun v hv => by
    rw [hnews] at hv
    obtain ⟨j, hj, rfl⟩ := List.mem_iff_getElem.1 hv
    simp only [List.length_take, List.length_drop, Array.length_toList] at hj
    rw [List.getElem_take, List.getElem_drop]
    refine h1 _ (List.mem_iff_getElem.2 ⟨(i + 1) * 2 + j, by simp; omega, ?_⟩)
    rw [List.getElem_take]
  have hget : ∀ t u, news[t]? = some u → w.drew.cell? ⟨g, (i + 1) * 2 + t, none⟩ = some u := fun t u hu => by
    rw [hnews, List.getElem?_take] at hu
    split at hu
    · rw [List.getElem?_drop, Array.getElem?_toList] at hu
      exact (cell_of_heap (w := w.drew) hg).1.trans hu
    · cases hu
  obtain ⟨A, hA, hsrc⟩ : ∃ A : Addr, (if n = i then some (⟨g, 0, none⟩ : Addr) else some ⟨g, (i + 1) * 2, none⟩) = some A ∧ Hid (∀ t u, news[t]? = some u → w.drew.cell? (A.add t) = some u) := by
    by_cases h : n = i
    · refine ⟨⟨g, 0, none⟩, by simp [h], fun t u hu => ?_⟩
      have h0 : news.length = 0 := by rw [hlen]; omega
      rw [List.length_eq_zero_iff.1 h0] at hu
      simp at hu
    · refine ⟨⟨g, (i + 1) * 2, none⟩, by simp only [if_neg h], fun t u hu => ?_⟩
      rw [Addr.add_lit]
      exact hget t u hu
  have s1 : Hid (news.length = (n - i) * 2) := hlen
  have s2 : Hid (∀ u ∈ news, u.oneCell' = true) := hone
  have s3 : Hid (∀ t, t < news.length → (w.drew.cell? ⟨g, 0 + i * 2 + t, none⟩).isSome = true ∧ w.drew.frozen? ⟨g, 0 + i * 2 + t, none⟩ = false) := by
    intro t ht
    rw [hlen] at ht
    exact ⟨by rw [(cell_of_heap (w := w.drew) hg).1, Array.getElem?_eq_getElem (by omega)]; rfl, (cell_of_heap (w := w.drew) hg).2⟩
  obtain ⟨W1, hW1⟩ : ∃ W1, W1 = w.drew.setCells g (0 + i * 2) news := ⟨_, rfl⟩
  have hr1 := setCells_row (w := w.drew) (o := 0 + i * 2) hg (by rw [hlen]; omega) hone
  obtain ⟨cur1, hcur1⟩ : ∃ cur1, cur1 = (cur.toList.take (0 + i * 2) ++ news ++ cur.toList.drop (0 + i * 2 + news.length)).toArray := ⟨_, rfl⟩
  rw [← hcur1] at hr1
  have hg1 : W1.heap[g]? = some (.cells cur1 42 (0, 0)) := by rw [hW1, hr1]; exact setRow_heap w.drew g cur cur1 42 (0, 0) hg
  have hs1 : cur1.size = cur.size := by rw [hcur1]; simp [hlen]; omega
  have hb1 : ∀ B w0, Below B w0 w → B ≤ g → Below B w0 W1 := fun B w0 h hB => by rw [hW1, hr1]; exact below_setRow h.drew hB _
  have ho1 : ∀ k, k ≠ g → W1.heap[k]? = w.heap[k]? := fun k hk => by rw [hW1, hr1]; exact setRow_other w.drew g k _ hk
  have hz1' : W1.heap.size = w.heap.size := by rw [hW1, hr1]; simp
  have ht1 : cur1.toList.take (n * 2) = cur.toList.take (i * 2) ++ news := by
    rw [hcur1]
    show List.take _ (_ ++ _ ++ _) = _
    rw [List.take_append_of_le_length (by simp [hlen]; omega), Nat.zero_add, List.take_of_length_le (by simp [hlen]; omega)]
  have hcl : ∀ ty, (Builtin.clear_ #[30] ty #[.slice (some ⟨g, n * 2, none⟩) 1 1]).run Try.prog W1 = .ok (.tuple #[]) (W1.setCells g (n * 2) [.slice none 0 0, .slice none 0 0]) :=
    fun ty => run_clear_k W1 30 42 ty z32v Try.underlying30 zero32 g (n * 2) 1 1 _ (by kernel_rfl) (by decide) (by decide) (fun j hj => by
      have hj : j < 2 := hj
      rw [(cell_of_heap hg1).1, Array.getElem?_eq_getElem (by omega)]; rfl) (fun j hj => (cell_of_heap hg1).2)
  have hr2 := setCells_row (o := n * 2) (vs := [.slice none 0 0, .slice none 0 0]) hg1 (by simp; omega) (by decide)
  have X := Aside0.mk (show _ ∧ _ ∧ _ ∧ _ ∧ _ ∧ _ from ⟨hg1, hs1, hb1, ho1, hz1', ht1⟩)
  have hW : Hid (W1 = w.drew.setCells g (0 + i * 2) news) := hW1
  have HR2 := Aside0.mk hr2
  have HS := Aside0.mk hs
  have e1 : (i : Int) ≤ (i : Int) + 1 := by omega
  have e2 : ((i : Int) + 1).toNat = i + 1 := by omega
  have e3 : (0 : Int) ≤ (i : Int) + 1 := by omega
  have e4 : (i : Int) + 1 ≤ ((n + 1 : Nat) : Int) := by omega
  have e10 : (i : Int) ≤ (n : Int) + 1 := by omega
  have e11 : (i : Int) + 1 ≤ (n : Int) + 1 := by omega
  have e12 : (i : Int) ≤ (n : Int) := by omega
  have e13 : (n : Int) ≤ (n : Int) + 1 := by omega
  have e5 : ¬ ((i : Int) = (i : Int) + 1) := by omega
  have e6 : n + 1 - (i + 1) = n - i := by omega
  have e7 : i + (n - i) = n := by omega
  have e8 : i ≤ n + 1 := by omega
  have e9 : n + 1 - n = 1 := by omega
  have HN := Aside0.mk hnews
  clear hW1 hr1 hcur1 hg1 hs1 hb1 ho1 hz1' ht1 hr2 hs hg h1 hlen hone hget hnews
  go_enter Try.func82, Try.ntmps82
  go_wp2_with fail
  go_region_law (refine step_append_room rfl (.tmp 22) (.tmp 25) 30 rfl 42 i0 2 Try.underlying30 hi0 hz1 g 0 i (n + 1) (by simp [Act.eval, Act.put]) A (n - i) (n - i) news (by simp [Act.eval, Act.put]) s1.out hsrc.out s2.out (by omega) s3.out ?_; rw [← hW.out])
  go_wp2
  go_ret
  obtain ⟨hg1, hs1, hb1, ho1, hz1', ht1⟩ := X.out
  have hs := HS.out
  show DelEnd g n cur _ w _ (W1.setCells g (n * 2) [.slice none 0 0, .slice none 0 0])
  rw [HR2.out]
  refine ⟨rfl, ⟨_, setRow_heap W1 g cur1 _ 42 (0, 0) hg1, by simp; omega, ?_⟩, fun k hk => (setRow_other W1 g k _ hk).trans (ho1 k hk), by simp [hz1'], fun B w0 h hB => below_setRow (hb1 B w0 h hB) hB _⟩
  show List.take _ (_ ++ _ ++ _) = _
  rw [List.append_assoc, List.take_append_of_le_length (by simp; omega), List.take_take, Nat.min_self, ht1, HN.out]
set_option maxHeartbeats 1000000 in
theorem delk_none (A B : Option Addr) (c d : Nat) (l : List S32) (k : List Int) (w : World) (hr : Kd.C k32 w A l.length l) (hc : l.length ≤ c) (hn : l.length < 1000000) (hv : ∀ x ∈ l, x.f0.length < 140737488355328 ∧ x.f1.length < 140737488355328) (hk : Kd.C (Kd.int .u8) w B k.length k) (hd : k.length ≤ d) (ht : (findR l k).2 = false) :
    Calls Try.prog 37 #[.slice A l.length c, .slice B k.length d] w (PutEnd w l ⟨5, [], 0⟩) := by
  obtain ⟨W0, hW0⟩ : ∃ W0, W0 = w.alloc (.cells #[.int .i64 0, .slice none 0 0, .int .i64 0] 34) := ⟨_, rfl⟩
  have hb0 : Below w.heap.size w W0 := by rw [hW0]; exact below_alloc (Below.refl _ _) _
  have hk0 : W0.heap[w.heap.size]? = some (.cells #[.int .i64 0, .slice none 0 0, .int .i64 0] 34 (0, 0)) := by rw [hW0]; exact heap_alloc_self w _
  have hs0 : W0.heap.size = w.heap.size + 1 := by rw [hW0]; simp
  have HI := Aside0.mk (still16 A c l W0 (Kd.C_below hr hb0) hc hn hv)
  have HB0 := Aside0.mk hb0
  have HK0 := Aside0.mk hk0
  have HS0 := Aside0.mk hs0
  have HK := Aside0.mk hk
  have HD := Aside0.mk hd
  have HN := Aside0.mk hn
  clear hr hc hv hb0 hk0 hk hd hs0 hn
  go_enter Try.func37, Try.ntmps37
  go_wp2_with fail
  rw [← hW0]
  refine HI.out.mono ?_
  rintro e w1 ⟨A', rfl, ⟨c', hS⟩, hb1⟩
  clear HI
  have HF1 := Aside0.mk (S_Fr hS)
  have HA1 := Aside0.mk (S_cap hS).2
  have HI := Aside0.mk (find17 A' B l.length d l k w1 (Fr.C HF1.out) (Nat.le_refl _) (Kd.C_below HK.out (below_then HB0.out HB0.out.size hb1)) HD.out)
  have HB1 := Aside0.mk hb1
  clear hS hb1
  rw [ht] at HI
  go_wp2_with fail
  refine HI.out.mono ?_
  rintro e w2 ⟨rfl, hb2⟩
  have BK : w2.heap[w.heap.size]? = some (.cells #[.int .i64 0, .slice none 0 0, .int .i64 0] 34 (0, 0)) := (hb2.block _ (by have := HB1.out.size; have := HS0.out; omega)).trans ((HB1.out.block _ (by have := HS0.out; omega)).trans HK0.out)
  obtain ⟨x0, x1, x2, x3⟩ := blk_cells3 BK
  have x30 := x3 0
  have x31 := x3 1
  have x32 := x3 2
  have BKs := Aside0.mk BK
  have HB2 := Aside0.mk hb2
  clear BK hb2 HI x3
  go_wp2_with fail
  refine bodyPost_ret (results_tc rfl _ _ w.heap.size 34 #[.int .i64 5, .slice none 0 0, .int .i64 0] (0, 0) _ rfl (by refine blk_put (cs := #[.int .i64 5, .slice none 0 0, .int .i64 0]) ?_ 2 _ rfl; refine blk_put (cs := #[.int .i64 5, .slice none 0 0, .int .i64 0]) ?_ 1 _ rfl; refine blk_put (cs := #[.int .i64 0, .slice none 0 0, .int .i64 0]) ?_ 0 _ rfl; exact BKs.out) Try.underlying34 rfl (by kernel_rfl)) rfl ?_
  have hs0 := HS0.out
  have hB2 := below_then (below_then HB0.out HB0.out.size HB1.out) (by have := HB1.out.size; omega) HB2.out
  refine ⟨A', l.length, _, rfl, Nat.le_refl _, ?_, Kd.R_nil _ _ _ _ _, ((hB2.setCell (Nat.le_refl _) _).setCell (Nat.le_refl _) _).setCell (Nat.le_refl _) _⟩
  refine Fr.lower (Fr.keep (Fr.below HF1.out HB2.out) (fun k a b => keep_put3 _ _ _ _ _ _ _ _ _ (by omega))) (by omega)
set_option maxHeartbeats 1000000 in
theorem delk_some (A B : Option Addr) (c d : Nat) (l : List S32) (k : List Int) (w : World) (hr : Kd.C k32 w A l.length l) (hc : l.length ≤ c) (hn : l.length < 1000000) (hv : ∀ x ∈ l, x.f0.length < 140737488355328 ∧ x.f1.length < 140737488355328) (hk : Kd.C (Kd.int .u8) w B k.length k) (hd : k.length ≤ d) (ht : (findR l k).2 = true) :
    Calls Try.prog 37 #[.slice A l.length c, .slice B k.length d] w (PutEnd w (l.take (findR l k).1 ++ l.drop ((findR l k).1 + 1)) ⟨0, (rd_T32 l ((findR l k).1 : Int)).f1, 0⟩) := by
  obtain ⟨W0, hW0⟩ : ∃ W0, W0 = w.alloc (.cells #[.int .i64 0, .slice none 0 0, .int .i64 0] 34) := ⟨_, rfl⟩
  have hb0 : Below w.heap.size w W0 := by rw [hW0]; exact below_alloc (Below.refl _ _) _
  have hk0 : W0.heap[w.heap.size]? = some (.cells #[.int .i64 0, .slice none 0 0, .int .i64 0] 34 (0, 0)) := by rw [hW0]; exact heap_alloc_self w _
  have hs0 : W0.heap.size = w.heap.size + 1 := by rw [hW0]; simp
  have HI := Aside0.mk (still16 A c l W0 (Kd.C_below hr hb0) hc hn hv)
  have HB0 := Aside0.mk hb0
  have HK0 := Aside0.mk hk0
  have HS0 := Aside0.mk hs0
  have HK := Aside0.mk hk
  have HD := Aside0.mk hd
  have HN := Aside0.mk hn
  clear hr hc hv hb0 hk0 hk hd hs0 hn
  go_enter Try.func37, Try.ntmps37
  go_wp2_with fail
  rw [← hW0]
  refine HI.out.mono ?_
  rintro e w1 ⟨A', rfl, ⟨c', hS⟩, hb1⟩
  clear HI
  have HF1 := Aside0.mk (S_Fr hS)
  have HA1 := Aside0.mk (S_cap hS).2
  have HI := Aside0.mk (find17 A' B l.length d l k w1 (Fr.C HF1.out) (Nat.le_refl _) (Kd.C_below HK.out (below_then HB0.out HB0.out.size hb1)) HD.out)
  have HB1 := Aside0.mk hb1
  clear hS hb1
  rw [ht] at HI
  go_wp2_with fail
  refine HI.out.mono ?_
  rintro e w2 ⟨rfl, hb2⟩
  have BK : w2.heap[w.heap.size]? = some (.cells #[.int .i64 0, .slice none 0 0, .int .i64 0] 34 (0, 0)) := (hb2.block _ (by have := HB1.out.size; have := HS0.out; omega)).trans ((HB1.out.block _ (by have := HS0.out; omega)).trans HK0.out)
  have hlt : (findR l k).1 < l.length := findR_lt l k ht
  obtain ⟨g, cur, rfl, hgb, hg1, hgs, hgm, hgr⟩ : ∃ g cur, A' = some ⟨g, 0, none⟩ ∧ W0.heap.size ≤ g ∧ w1.heap[g]? = some (.cells cur 42 (0, 0)) ∧ l.length * 2 ≤ cur.size ∧ l.length ≤ maxLen ∧ Reps (k32.M w1 W0.heap.size (fun k => k ≠ g)) 2 l (cur.toList.take (l.length * 2)) := by
    rcases HF1.out with h | h
    · rw [h] at hlt; simp at hlt
    · exact h
  have hM := hgr.2 (findR l k).1 (rd_T32 l ((findR l k).1 : Int)) (by rw [rd_get l _ hlt]; exact List.getElem?_eq_getElem hlt)
  obtain ⟨u0, u1, hcs, hR0, hR1⟩ := k32_openM hM
  have hcell : ∀ j u, j < 2 → [u0, u1][j]? = some u → cur[(findR l k).1 * 2 + j]? = some u := fun j u hj hu => by
    rw [← hcs, List.getElem?_take, if_pos hj, List.getElem?_drop, List.getElem?_take, if_pos (by omega), Array.getElem?_toList] at hu
    exact hu
  have hg2 : w2.heap[g]? = some (.cells cur 42 (0, 0)) := (hb2.block g (blk_lt hg1)).trans hg1
  obtain ⟨A1, c1', rfl⟩ := Kd.R_slice hR1
  have z1 : w2.cell? ⟨g, (findR l k).1 * 2 + 1, none⟩ = some (.slice A1 (rd_T32 l ((findR l k).1 : Int)).f1.length c1') := (cell_of_heap hg2).1.trans (hcell 1 _ (by decide) rfl)
  obtain ⟨n, hn1⟩ : ∃ n, l.length = n + 1 := ⟨l.length - 1, by omega⟩
  have hone : ∀ v ∈ cur.toList.take ((n + 1) * 2), v.oneCell' = true := by rw [← hn1]; exact reps_cells hgr
  have hDL := del24 g n (findR l k).1 cur w2 hg2 (by omega) (by have := HN.out; omega) (by omega) hone
  rw [← hn1] at hDL
  have HDL := Aside0.mk hDL
  have HN1 := Aside0.mk hn1
  have HG := Aside0.mk (show _ ∧ _ ∧ _ ∧ _ ∧ _ from ⟨hgb, hg1, hgs, hgm, hgr⟩)
  have HR1 := Aside0.mk hR1
  have HB2 := Aside0.mk hb2
  have BKs := Aside0.mk BK
  have HLT := Aside0.mk hlt
  have ew : IntKind.i64.wrap (((findR l k).1 : Int) + 1) = ((findR l k).1 : Int) + 1 := by rw [IntKind.wrap_i64]; have := HN.out; omega
  clear BK hb2 HI hgb hg1 hgs hgm hgr hM hcs hcell hR0 hR1 hg2 hn1 hone hDL
  go_wp2_with fail
  refine HDL.out.mono ?_
  rintro e w3 ⟨rfl, ⟨cur', hg3, hs3, ht3⟩, hk3, hz3, hb3⟩
  have hne : w.heap.size ≠ g := by have := HG.out.1; have := HS0.out; omega
  have BK3 : w3.heap[w.heap.size]? = some (.cells #[.int .i64 0, .slice none 0 0, .int .i64 0] 34 (0, 0)) := (hk3 _ hne).trans BKs.out
  obtain ⟨x0, x1, x2, x3⟩ := blk_cells3 BK3
  have x30 := x3 0
  have x31 := x3 1
  have x32 := x3 2
  have HH := Aside0.mk (show _ ∧ _ ∧ _ ∧ _ ∧ _ ∧ _ from ⟨hg3, hs3, ht3, hk3, hz3, hb3⟩)
  have BKs3 := Aside0.mk BK3
  have HNE := Aside0.mk hne
  clear hg3 hs3 ht3 hk3 hz3 hb3 BK3 hne x3 HDL
  go_wp2_with fail
  refine bodyPost_ret (results_tc rfl _ _ w.heap.size 34 #[.int .i64 0, .slice A1 (rd_T32 l ((findR l k).1 : Int)).f1.length c1', .int .i64 0] (0, 0) _ rfl (by refine blk_put (cs := #[.int .i64 0, .slice A1 (rd_T32 l ((findR l k).1 : Int)).f1.length c1', .int .i64 0]) ?_ 2 _ rfl; refine blk_put (cs := #[.int .i64 0, .slice none 0 0, .int .i64 0]) ?_ 1 _ rfl; refine blk_put (cs := #[.int .i64 0, .slice none 0 0, .int .i64 0]) ?_ 0 _ rfl; exact BKs3.out) Try.underlying34 rfl (by kernel_rfl)) rfl ?_
  have hs0 := HS0.out
  have h1s := HB1.out.size
  have h2s := HB2.out.size
  have hn1 := HN1.out
  have hlt := HLT.out
  obtain ⟨h1, h2, h3, h4, h5⟩ := HG.out
  obtain ⟨hg3, hs3, ht3, hk3, hz3, hb3⟩ := HH.out
  have hgl := blk_lt h2
  have hB2 := below_then (below_then HB0.out HB0.out.size HB1.out) (by omega) HB2.out
  have hB3 := hb3 _ _ hB2 (by omega)
  have hl : (l.take (findR l k).1 ++ l.drop ((findR l k).1 + 1)).length = n := by simp; omega
  refine ⟨some ⟨g, 0, none⟩, n + 1, _, by rw [hl]; rfl, by rw [hl]; omega, ?_, ?_, ((hB3.setCell (Nat.le_refl _) _).setCell (Nat.le_refl _) _).setCell (Nat.le_refl _) _⟩
  · refine .inr ⟨g, cur', rfl, by omega, (keep_put3 _ _ _ _ _ _ _ _ _ HNE.out.symm).trans hg3, by rw [hl]; show n * 2 ≤ _; omega, by rw [hl]; omega, ?_⟩
    rw [hl]
    show Reps _ 2 _ (List.take (n * 2) _)
    rw [ht3]
    have hR := reps_app (reps_take h5 (findR l k).1 (by omega)) (reps_drop h5 ((findR l k).1 + 1))
    rw [List.take_take, Nat.min_eq_left (by omega), List.drop_take, show l.length * 2 - ((findR l k).1 + 1) * 2 = (n - (findR l k).1) * 2 by omega] at hR
    exact hR.imp_ (fun y c hy => (k32.M_lower (by omega) (M_keep3 hy (fun k a b e => by rw [keep_put3 _ _ _ _ _ _ _ _ _ (by omega), hk3 k e, HB2.out.block k (by omega)]))))
  · refine Kd.R_lower (Kd.R_mono (R_keep3 HR1.out (fun k a b e => ?_)) (fun _ _ => trivial)) (by omega)
    rw [keep_put3 _ _ _ _ _ _ _ _ _ (by omega), hk3 k e, HB2.out.block k (by omega)]
def delR (l : List S32) (k : List Int) : List S32 × S26 := if (findR l k).2 = true then (l.take (findR l k).1 ++ l.drop ((findR l k).1 + 1), ⟨0, (rd_T32 l ((findR l k).1 : Int)).f1, 0⟩) else (l, ⟨5, [], 0⟩)
theorem del12 (A B : Option Addr) (c d : Nat) (l : List S32) (k : List Int) (w : World) (hr : Kd.C k32 w A l.length l) (hc : l.length ≤ c) (hn : l.length < 1000000) (hv : ∀ x ∈ l, x.f0.length < 140737488355328 ∧ x.f1.length < 140737488355328) (hk : Kd.C (Kd.int .u8) w B k.length k) (hd : k.length ≤ d) : Calls Try.prog 37 #[.slice A l.length c, .slice B k.length d] w (PutEnd w (delR l k).1 (delR l k).2) := by
  unfold delR
  cases ht : (findR l k).2 with
  | true => rw [if_pos rfl]; exact delk_some A B c d l k w hr hc hn hv hk hd ht
  | false => rw [if_neg (by simp)]; exact delk_none A B c d l k w hr hc hn hv hk hd ht
end Go.Proofs.Ythfplgfpodmphaa.Ms
namespace Go.Proofs.Ythfplgfpodmphaa.Ob
open Go.RowKit Go.Proofs.YthfplgfpodmphaaW.PrintWords Go.Proofs.YthfplgfpodmphaaW.PrintLast Go.Proofs.YthfplgfpodmphaaW.PrintMore Go.Proofs.Ythfplgfpodmphaa.Ms
attribute [local go_sem] max2_int min2_int max_two min_two max_three min_three max_four min_four
set_option linter.unusedVariables false
set_option linter.unusedSimpArgs false
set_option maxRecDepth 100000
theorem cas31 (A0 : Option Addr) (c0 : Nat) (l0 : List Int) (A1 : Option Addr) (c1 : Nat) (l1 : List Int) (A2 : Option Addr) (c2 : Nat) (l2 : List Int) (w : World) (hr0 : Kd.C kb w A0 l0.length l0) (hc0 : l0.length ≤ c0) (hb0 : l0.length < 1000000) (hr1 : Kd.C kb w A1 l1.length l1) (hc1 : l1.length ≤ c1) (hr2 : Kd.C kb w A2 l2.length l2) (hc2 : l2.length ≤ c2) (hb2 : l2.length < 1000000) :
    Calls Try.prog 31 #[.slice A0 l0.length c0, .slice A1 l1.length c1, .slice A2 l2.length c2] w (T2 kb w (casR l0 l1 l2).1 (casR l0 l1 l2).2) := by
  have hcl0 := clone_f l0 (by omega)
  have hcl2 := clone_f l2 (by omega)
  unfold casR
  split
  · exact (regs_Cas.calls 1 A0 c0 l0 A1 c1 l1 A2 c2 l2 l0 1 [] 0 w hr0 hc0 hr1 hc1 hr2 hc2 (by
      unfold regs_Cas.f
      rw [if_neg (by omega)]
      simp only [regs_Cas.j0, regs_Write.f, hcl0]
      rw [if_neg (by simp), if_pos (by omega)]
      rfl)).mono (fun e w' ⟨v0, v2, he, hR0, hR2, hb⟩ => T2_R he hR0 hR2 hb)
  · have hbe : bytes_Equal.f l0 l1 = some (eqB l0 l1) := rfl
    split
    · rename_i he
      exact (regs_Cas.calls 1 A0 c0 l0 A1 c1 l1 A2 c2 l2 l2 0 [] 0 w hr0 hc0 hr1 hc1 hr2 hc2 (by
        unfold regs_Cas.f
        rw [if_pos (by omega), hbe, he]
        simp only [Option.bind_some, regs_Cas.j0, regs_Write.f, hcl2]
        rw [if_neg (by simp), if_neg (by omega)]
        rfl)).mono (fun e w' ⟨v0, v2, he, hR0, hR2, hb⟩ => T2_R he hR0 hR2 hb)
    · rename_i he
      have he : eqB l0 l1 = false := by simpa using he
      exact (regs_Cas.calls 1 A0 c0 l0 A1 c1 l1 A2 c2 l2 l0 2 l0 0 w hr0 hc0 hr1 hc1 hr2 hc2 (by
        unfold regs_Cas.f
        rw [if_pos (by omega), hbe, he]
        simp only [Option.bind_some, regs_Cas.j0, hcl0]
        rw [if_pos (by simp)])).mono (fun e w' ⟨v0, v2, he, hR0, hR2, hb⟩ => T2_R he hR0 hR2 hb)
theorem F_block2 {α : Type} {d : Kd α} {W : World} {ok : Nat → Prop} {g : Nat} {cur : Array Value} {e : TypeId} {xs : List α} (hg : W.heap[g]? = some (.cells cur e (0, 0))) (hm : xs.length ≤ 9223372036854775807) (hr : Reps (fun x c => Kd.FK d W ok x c) d.sz xs (cur.toList.take (xs.length * d.sz))) : Kd.F d W (fun k => ok k ∨ k = g) (some ⟨g, 0, none⟩) xs.length xs := by
  intro W' hW
  have hlt := (Array.getElem?_eq_some_iff.1 hg).1
  have hg' : W'.heap[g]? = some (.cells cur e (0, 0)) := (hW g (.inr rfl) hlt).trans hg
  refine ⟨rfl, by omega, fun _ => ⟨_, rfl, fun j p hj => ?_⟩⟩
  have hk : d.K W' p (((cur.toList.take (xs.length * d.sz)).drop (j * d.sz)).take d.sz) := hr.2 j p hj W' (fun k hk hlt => hW k (.inl hk) hlt)
  refine ⟨_, d.K_len hk, hk, fun i u hu => ?_⟩
  rw [add_plain, (cell_of_heap hg').1]
  rw [List.getElem?_take] at hu
  split at hu
  · rw [List.getElem?_drop, List.getElem?_take] at hu
    split at hu
    · rw [Array.getElem?_toList] at hu
      exact hu
    · cases hu
  · cases hu
theorem F_of_Fr {α : Type} {d : Kd α} {e base : Nat} {W : World} {A : Option Addr} {xs : List α} (h : Fr d e W base A xs) : Kd.F d W (fun k => base ≤ k) A xs.length xs := by
  rcases h with rfl | ⟨g, cur, rfl, hbg, hg, hs, hm, hr⟩
  · exact fun W' _ => ⟨rfl, by simp, fun h => absurd h (by simp)⟩
  · unfold maxLen at hm
    exact Kd.F_mono (F_block2 hg hm (hr.imp_ (fun y c hy => Kd.FK_of_M (ok := fun k => base ≤ k) (d.M_mono (fun k hk => hk.2.1) (d.M_bound hy))))) (fun k hk => hk.elim id (fun h => by rw [h]; exact hbg))
theorem T2_Put {w w' : World} {l' : List S32} {r : S26} {e : Ending} (h : PutEnd w l' r e w') : T2 km w l' r e w' := by
  obtain ⟨A, c, v1, he, hc, hF, hR, hb⟩ := h
  obtain ⟨Av, cv, rfl⟩ := Kd.R_slice hR
  exact ⟨A, c, Av, cv, he, hc, F_of_Fr hF, (Kd.R_reads' hR).2.1, F_of_R hR, hb⟩
theorem T1_Res {w w' : World} {r : S26} {e : Ending} (h : ResEnd w r e w') : T1 w r e w' := by
  obtain ⟨v1, he, hR, hb⟩ := h
  exact T1_R he hR hb
section
variable (A B D : Option Addr) (c d f : Nat) (l : List S32) (k v : List Int) (w : World) (hr : Kd.C km w A l.length l) (hc : l.length ≤ c) (hn : l.length < 1000000) (hv : ∀ x ∈ l, x.f0.length < 1000000 ∧ x.f1.length < 1000000) (hk : Kd.C kb w B k.length k) (hd : k.length ≤ d) (hvr : Kd.C kb w D v.length v) (hvf : v.length ≤ f)
include hr hc hn hv hk hd hvr hvf in
theorem put35 : Calls Try.prog 35 #[.slice A l.length c, .slice B k.length d, .slice D v.length f] w (T2 km w (putR l k v).1 (putR l k v).2) :=
  (put6 A B D c d f l k v w hr hc hn (fun x hx => ⟨by have := (hv x hx).1; omega, by have := (hv x hx).2; omega⟩) hk hd hvr hvf).mono (fun e w' h => T2_Put h)
include hr hc hn hv hk hd in
theorem del37 : Calls Try.prog 37 #[.slice A l.length c, .slice B k.length d] w (T2 km w (delR l k).1 (delR l k).2) :=
  (del12 A B c d l k w hr hc hn (fun x hx => ⟨by have := (hv x hx).1; omega, by have := (hv x hx).2; omega⟩) hk hd).mono (fun e w' h => T2_Put h)
include hr hc hv hk hd in
theorem get36 : Calls Try.prog 36 #[.slice A l.length c, .slice B k.length d] w (T1 w (getR l k)) :=
  (get8 A B c d l k w hr hc hk hd (fun x hx => by have := (hv x hx).2; omega)).mono (fun e w' h => T1_Res h)
end
/-! what a command does -/
def locksR (l : List Int) (kd a : Int) : List Int × S26 := if kd = 8 then (l, ownerR l) else if ¬ (0 ≤ a ∧ a ≤ 999) then (l, ⟨7, [], 0⟩) else if kd = 6 then takeR l a else freeR l a
def applyR (o : O) (kd a : Int) (ke va ol : List Int) : O × S26 :=
  if kd = 1 then (o, ⟨0, o.reg, 0⟩)
  else if kd = 2 then ({ o with reg := (writeR o.reg va).1 }, (writeR o.reg va).2)
  else if kd = 3 then ({ o with reg := (casR o.reg ol va).1 }, (casR o.reg ol va).2)
  else if kd = 4 then ({ o with que := (pushR o.que va).1 }, (pushR o.que va).2)
  else if kd = 5 then ({ o with que := (popR o.que).1 }, (popR o.que).2)
  else if kd = 6 ∨ kd = 7 ∨ kd = 8 then ({ o with loc := (locksR o.loc kd a).1 }, (locksR o.loc kd a).2)
  else if kd = 9 then ({ o with map := (putR o.map ke va).1 }, (putR o.map ke va).2)
  else if kd = 10 then (o, getR o.map ke)
  else if kd = 11 then ({ o with map := (delR o.map ke).1 }, (delR o.map ke).2)
  else (o, ⟨7, [], 0⟩)
end Go.Proofs.Ythfplgfpodmphaa.Ob
