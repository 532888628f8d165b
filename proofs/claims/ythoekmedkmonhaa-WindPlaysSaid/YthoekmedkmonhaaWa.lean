/- A window's words: a map of numbers that mirrors a function, the window's block, the frame of what turns, and the laws of the map's operations. -/
import Derived.Maps.OwnSet
import Derived.Maps.OwnIn
import Derived.Maps.AppendAt
import Derived.RangeFuncNested
import Derived.RangeFuncBound
import Derived.RangeFuncCalls
import Derived.RangeFuncLeaves
import Derived.Shelf.Abstract
import Derived.Shelf.RegionOpen
import Derived.WalkKit
import Derived.OwnWalkIn
import Derived.TacticsInMore
import Derived.LoopNIn
import Derived.LoopIn
import Derived.Deep.RegionHeld3
import Derived.BigGuard
import Derived.BigCall
import Derived.Test.YthoekmedkmonhaaChecked
import Derived.Test.YthoekmedkmonhaaWWords
import Derived.Test.YthoekmedkmonhaaWMore
import Derived.Test.YthoekmedkmonhaaWLast
namespace Go.Proofs.Ythoekmedkmonhaa.Wi
open Go Go.RowKit Go.Maps Go.Proofs.Ythoekmedkmonhaa

def Wf (j : Int) : Prop := -9223372036854775808 ≤ j ∧ j ≤ 9223372036854775807
theorem Wf.wf {j : Int} (h : Wf j) : (Lit.int .i64 j).wf = true := WalkArith.wf_i64 h

/-- An element reads as itself. -/
def RV (v : Value) : Option (DataW Value × List MemPlace) := some (.held v, [])

theorem law3 : Keyed Try.prog 3 := int_keyed Try.underlying3
theorem key3 {j : Int} (h : Wf j) : keyOf Try.prog 3 (.int .i64 j) = some (.int .i64 j) := keyOf_int_mk Try.underlying3 h.wf

/-- Block m is a map of at most n entries that holds f. -/
def Mf (w : World) (m n : Nat) (f : Int → Option Value) : Prop :=
  ∃ D, w.ownsMap Try.prog 3 RV m n D ∧ ∀ j, Wf j → Maps.has D (.int .i64 j) = (f j).isSome ∧ ∀ z, D.atKey (.int .i64 j) (.held z) = .held ((f j).getD z)

def upd (f : Int → Option Value) (i : Int) (v : Option Value) : Int → Option Value := fun j => if j = i then v else f j
theorem upd_same (f : Int → Option Value) (i : Int) (v : Option Value) : upd f i v i = v := by simp [upd]
theorem upd_other (f : Int → Option Value) (i : Int) (v : Option Value) {j : Int} (h : j ≠ i) : upd f i v j = f j := by simp [upd, h]

theorem Mf.made (w : World) : Mf (w.alloc (.map #[] 0)) w.heap.size 0 (fun _ => none) :=
  ⟨_, World.ownsMap_made w _ _ _, fun _ _ => ⟨rfl, fun _ => rfl⟩⟩
theorem Mf.lt {w : World} {m n : Nat} {f : Int → Option Value} (h : Mf w m n f) : m < w.heap.size := by obtain ⟨D, h, _⟩ := h; exact h.lt
theorem Mf.mono {w : World} {m n n' : Nat} {f : Int → Option Value} (h : Mf w m n f) (hn : n ≤ n') : Mf w m n' f := by obtain ⟨D, h, r⟩ := h; exact ⟨D, h.mono hn, r⟩
theorem Mf.of_block {w w' : World} {m n : Nat} {f : Int → Option Value} (h : Mf w m n f) (hb : w'.heap[m]? = w.heap[m]?) : Mf w' m n f := by
  obtain ⟨D, ⟨es, clock, h1, h2⟩, r⟩ := h
  exact ⟨D, ⟨es, clock, hb.trans h1, h2⟩, r⟩
theorem Mf.not_cells {w : World} {m n : Nat} {f : Int → Option Value} (h : Mf w m n f) {b : Nat} {c : Array Value} {t : TypeId} {fz : Nat × Nat} (hb : w.heap[b]? = some (.cells c t fz)) : m ≠ b := by
  obtain ⟨D, ⟨es, clock, h1, _⟩, _⟩ := h
  rintro rfl
  rw [h1] at hb; cases hb

theorem key_ne {i j : Int} (h : j ≠ i) : Lit.int .i64 j ≠ Lit.int .i64 i := fun e => h (by injection e)

theorem Mf.put {w : World} {m n : Nat} {f : Int → Option Value} (h : Mf w m n f) {t e : TypeId} (ht : Try.prog.underlying t = some (.map 3 e)) (hn : n < maxLen) {i : Int} (hi : Wf i) (v : Value) :
    ∃ w', (Instr.mapUpdate t (.map (some m)) (.int .i64 i) v).run Try.prog w = .ok () w' ∧ Mf w' m (n + 1) (upd f i (some v)) ∧ w.mapTurned w' m := by
  obtain ⟨D, ho, r⟩ := h
  obtain ⟨w', h1, h2, h3⟩ := ho.store law3 ht hn (key3 hi) (R := RV) (val := v) rfl
  refine ⟨w', h1, ⟨_, h2, fun j hj => ?_⟩, h3⟩
  by_cases e : j = i
  · subst e
    rw [upd_same]
    exact ⟨has_put_same ho.isMap (law3.key (key3 hi)) _, fun z => atKey_put_same ho.isMap (law3.key (key3 hi)) _ _⟩
  · rw [upd_other _ _ _ e, has_put_other (key_ne e)]
    exact ⟨(r j hj).1, fun z => by rw [atKey_put_other (key_ne e)]; exact (r j hj).2 z⟩

theorem Mf.del {w : World} {m n : Nat} {f : Int → Option Value} (h : Mf w m n f) {t e : TypeId} (ht : Try.prog.underlying t = some (.map 3 e)) {i : Int} (hi : Wf i) (ty : TypeId) :
    ∃ w', (Builtin.delete_ #[t, 3] ty #[.map (some m), .int .i64 i]).run Try.prog w = .ok (.tuple #[]) w' ∧ Mf w' m n (upd f i none) ∧ w.mapTurned w' m := by
  obtain ⟨D, ho, r⟩ := h
  obtain ⟨w', h1, h2, h3⟩ := ho.drop law3 ht (key3 hi) ty
  refine ⟨w', h1, ⟨_, h2, fun j hj => ?_⟩, h3⟩
  by_cases e : j = i
  · subst e
    rw [upd_same]
    exact ⟨has_del_same, fun z => atKey_del_same _⟩
  · rw [upd_other _ _ _ e, has_del_other (key_ne e)]
    exact ⟨(r j hj).1, fun z => by rw [atKey_del_other (key_ne e)]; exact (r j hj).2 z⟩

theorem Mf.look {w : World} {m n : Nat} {f : Int → Option Value} (h : Mf w m n f) {t e : TypeId} (ht : Try.prog.underlying t = some (.map 3 e)) {z : Value} (hz : (zeroValue e).run Try.prog w = .ok z w) {i : Int} (hi : Wf i) :
    (Instr.lookup t (.map (some m)) (.int .i64 i) true).run Try.prog w = .ok (.tuple #[(f i).getD z, .bool (f i).isSome]) w := by
  obtain ⟨D, ho, r⟩ := h
  obtain ⟨v, ps, h1, h2⟩ := ho.look_ok law3 ht hz (R := RV) (zd := .held z) (zp := []) rfl (key3 hi)
  rw [(r i hi).2 z] at h2
  rw [(r i hi).1] at h1
  obtain ⟨rfl, _⟩ : v = (f i).getD z ∧ ps = [] := by simpa [RV] using h2
  exact h1

theorem Mf.look1 {w : World} {m n : Nat} {f : Int → Option Value} (h : Mf w m n f) {t e : TypeId} (ht : Try.prog.underlying t = some (.map 3 e)) {z : Value} (hz : (zeroValue e).run Try.prog w = .ok z w) {i : Int} (hi : Wf i) :
    (Instr.lookup t (.map (some m)) (.int .i64 i) false).run Try.prog w = .ok ((f i).getD z) w := by
  obtain ⟨D, ho, r⟩ := h
  obtain ⟨v, ps, h1, h2⟩ := ho.lookup law3 ht hz (R := RV) (zd := .held z) (zp := []) rfl (key3 hi)
  rw [(r i hi).2 z] at h2
  obtain ⟨rfl, _⟩ : v = (f i).getD z ∧ ps = [] := by simpa [RV] using h2
  exact h1

/-! ### what turns: a window's two blocks -/
structure Tn (b m : Nat) (w w' : World) : Prop where
  os : w'.os = w.os
  tape : w'.tape = w.tape
  output : w'.output = w.output
  size : w.heap.size ≤ w'.heap.size
  block : ∀ k, k < w.heap.size → k ≠ b → k ≠ m → w'.heap[k]? = w.heap[k]?

theorem Tn.refl (b m : Nat) (w : World) : Tn b m w w := ⟨rfl, rfl, rfl, Nat.le_refl _, fun _ _ _ _ => rfl⟩
theorem Tn.trans {b m : Nat} {w w1 w2 : World} (h : Tn b m w w1) (k : Tn b m w1 w2) : Tn b m w w2 :=
  ⟨k.os.trans h.os, k.tape.trans h.tape, k.output.trans h.output, Nat.le_trans h.size k.size, fun i hi h1 h2 => (k.block i (Nat.lt_of_lt_of_le hi h.size) h1 h2).trans (h.block i hi h1 h2)⟩
theorem Tn.of_below {b m : Nat} {w w' : World} (h : Below w.heap.size w w') : Tn b m w w' := ⟨h.os, h.tape, h.output, h.size, fun k hk _ _ => h.block k hk⟩
theorem Tn.of_turned {b m : Nat} {w w' : World} (h : w.mapTurned w' m) : Tn b m w w' :=
  ⟨h.grown.os, h.grown.tape, h.grown.output, h.grown.size, fun k hk _ h2 => h.grown.block k hk (fun e => h2 (by injection e))⟩
theorem Tn.setCell (b m : Nat) (w : World) (o : Nat) (v : Value) : Tn b m w (w.setCell ⟨b, o, none⟩ v) :=
  ⟨rfl, rfl, rfl, by simp [World.setCell], fun k _ h1 _ => Below.heap_setCell _ _ _ _ h1⟩
theorem Tn.drew {b m : Nat} {w w' : World} (h : Tn b m w w') : Tn b m w w'.drew := ⟨h.os, h.tape, h.output, h.size, h.block⟩
theorem Tn.drew0 {b m : Nat} {w w' : World} (h : Tn b m w.drew w') : Tn b m w w' := ⟨h.os, h.tape, h.output, h.size, h.block⟩
theorem Tn.below {b m : Nat} {w w' : World} (h : Tn b m w w') {B : Nat} (hb : B ≤ b) (hm : B ≤ m) (hB : B ≤ w.heap.size) : Below B w w' :=
  ⟨h.os, h.tape, h.output, h.size, fun k hk => h.block k (by omega) (by omega) (by omega)⟩
theorem Tn.cell {b m : Nat} {w w' : World} (h : Tn b m w w') {B : Nat} {x : Array Value} {t : TypeId} {fz : Nat × Nat} (hx : w.heap[B]? = some (.cells x t fz)) (h1 : B ≠ b) (h2 : B ≠ m) : w'.heap[B]? = some (.cells x t fz) :=
  (h.block B (Array.getElem?_eq_some_iff.1 hx).1 h1 h2).trans hx

theorem heap_set_same {w : World} {b : Nat} {c : Array Value} {t : TypeId} (h : w.heap[b]? = some (.cells c t (0, 0))) (o : Nat) (v : Value) : (w.setCell ⟨b, o, none⟩ v).heap[b]? = some (.cells (c.setIfInBounds o v) t (0, 0)) := by
  obtain ⟨hlt, h2⟩ := Array.getElem?_eq_some_iff.1 h
  simp [World.setCell, hlt]
  rw [Array.getElem_modify]
  simp [h2]

/-! ### a window: its block and its map -/
structure Wd where
  fr : Int
  wh : Int
  tp : Int
  f : Int → Option Value

/-- Block b is a window of struct type T, its map in block m of at most n entries. -/
def Wn (T : TypeId) (w : World) (b m n : Nat) (s : Wd) : Prop :=
  w.heap[b]? = some (.cells #[.int .i64 s.fr, .int .i64 s.wh, .int .i64 s.tp, .map (some m)] T (0, 0)) ∧ Mf w m n s.f

section
variable {T : TypeId} {w : World} {b m n : Nat} {s : Wd}
theorem Wn.hb (h : Wn T w b m n s) : w.heap[b]? = some (.cells #[.int .i64 s.fr, .int .i64 s.wh, .int .i64 s.tp, .map (some m)] T (0, 0)) := h.1
theorem Wn.hm (h : Wn T w b m n s) : Mf w m n s.f := h.2
theorem Wn.c0 (h : Wn T w b m n s) : w.cell? ⟨b, 0, none⟩ = some (.int .i64 s.fr) := by simp [World.cell?, h.1]
theorem Wn.c1 (h : Wn T w b m n s) : w.cell? ⟨b, 1, none⟩ = some (.int .i64 s.wh) := by simp [World.cell?, h.1]
theorem Wn.c2 (h : Wn T w b m n s) : w.cell? ⟨b, 2, none⟩ = some (.int .i64 s.tp) := by simp [World.cell?, h.1]
theorem Wn.c3 (h : Wn T w b m n s) : w.cell? ⟨b, 3, none⟩ = some (.map (some m)) := by simp [World.cell?, h.1]
theorem Wn.fz (h : Wn T w b m n s) (o : Nat) : w.frozen? ⟨b, o, none⟩ = false := by simp [World.frozen?, h.1]
theorem Wn.ne (h : Wn T w b m n s) : m ≠ b := h.2.not_cells h.1
theorem Wn.blt (h : Wn T w b m n s) : b < w.heap.size := (Array.getElem?_eq_some_iff.1 h.1).1
theorem Wn.mlt (h : Wn T w b m n s) : m < w.heap.size := h.2.lt
theorem Wn.keep {w' : World} (h : Wn T w b m n s) (hb : w'.heap[b]? = w.heap[b]?) (hm : w'.heap[m]? = w.heap[m]?) : Wn T w' b m n s := ⟨hb.trans h.1, h.2.of_block hm⟩
theorem Wn.below {w' : World} {B : Nat} (h : Wn T w b m n s) (hB : Below B w w') (hb : b < B) (hm : m < B) : Wn T w' b m n s := h.keep (hB.block b hb) (hB.block m hm)
theorem Wn.alloc (h : Wn T w b m n s) (o : Obj) : Wn T (w.alloc o) b m n s := h.keep (Below.heap_alloc _ _ _ h.blt) (Below.heap_alloc _ _ _ h.mlt)
theorem Wn.drew (h : Wn T w b m n s) : Wn T w.drew b m n s := h
theorem Wn.set (h : Wn T w b m n s) {p : Addr} (hb : b ≠ p.block) (hm : m ≠ p.block) (v : Value) : Wn T (w.setCell p v) b m n s := h.keep (Below.heap_setCell _ _ _ _ hb) (Below.heap_setCell _ _ _ _ hm)
theorem Wn.mono (h : Wn T w b m n s) {n' : Nat} (hn : n ≤ n') : Wn T w b m n' s := ⟨h.1, h.2.mono hn⟩
theorem Wn.set0 (h : Wn T w b m n s) (x : Int) : Wn T (w.setCell ⟨b, 0, none⟩ (.int .i64 x)) b m n { s with fr := x } := ⟨heap_set_same h.1 _ _, h.2.of_block (Below.heap_setCell _ _ _ _ h.ne)⟩
theorem Wn.set1 (h : Wn T w b m n s) (x : Int) : Wn T (w.setCell ⟨b, 1, none⟩ (.int .i64 x)) b m n { s with wh := x } := ⟨heap_set_same h.1 _ _, h.2.of_block (Below.heap_setCell _ _ _ _ h.ne)⟩
theorem Wn.set2 (h : Wn T w b m n s) (x : Int) : Wn T (w.setCell ⟨b, 2, none⟩ (.int .i64 x)) b m n { s with tp := x } := ⟨heap_set_same h.1 _ _, h.2.of_block (Below.heap_setCell _ _ _ _ h.ne)⟩
theorem Wn.turned {w' : World} {n' : Nat} {f' : Int → Option Value} (h : Wn T w b m n s) (ht : w.mapTurned w' m) (hf : Mf w' m n' f') : Wn T w' b m n' { s with f := f' } :=
  ⟨(ht.grown.block b h.blt (fun e => h.ne (by injection e with e; exact e.symm))).trans h.1, hf⟩
end

/-- What is always so of a window of at most n entries: from ≤ whole ≤ top; all between from and whole are there, the next isn't; what is there lies above from and up to top. -/
structure Iv (n : Nat) (s : Wd) : Prop where
  p0 : 0 ≤ s.fr
  p1 : s.fr ≤ s.wh
  p2 : s.wh ≤ s.tp
  p3 : s.tp ≤ s.wh + 64
  p4 : s.wh ≤ 1099511627776 + 64 * (n : Int)
  in1 : ∀ j, s.fr < j → j ≤ s.wh → (s.f j).isSome = true
  in2 : (s.f (s.wh + 1)).isSome = false
  in3 : ∀ j, (s.f j).isSome = true → s.fr < j ∧ j ≤ s.tp
  in4 : s.fr < s.tp → (s.f s.tp).isSome = true

theorem Iv.mono {n n' : Nat} {s : Wd} (h : Iv n s) (hn : n ≤ n') : Iv n' s := { h with p4 := by have := h.p4; omega }

/-- What Put answers, and makes of a window. -/
structure PutIs (s : Wd) (i : Int) (x : Value) (r : Bool) (s' : Wd) : Prop where
  an : r = (decide (s.fr < i) && decide (i ≤ s.wh + 64) && !(s.f i).isSome)
  fr : s'.fr = s.fr
  no : r = false → s' = s
  tp : r = true → s'.tp = max s.tp i
  f : r = true → s'.f = upd s.f i (some x)

/-- What Cut makes of a window. -/
structure CutIs (s : Wd) (i : Int) (s' : Wd) : Prop where
  wh : s'.wh = s.wh
  tp : s'.tp = s.tp
  fr : s'.fr = if s.fr < i ∧ i ≤ s.wh then i else s.fr
  f : ∀ j, s'.f j = if j ≤ s'.fr then none else s.f j
end Go.Proofs.Ythoekmedkmonhaa.Wi
