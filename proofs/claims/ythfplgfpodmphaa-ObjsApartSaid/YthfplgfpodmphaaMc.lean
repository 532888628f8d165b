/- The walk of slices.Insert over pairs. -/
import Derived.Lib.SliceRun
import Derived.Lib.AppendZeros
import Derived.Lib.AppendZerosOnto
import Derived.Shelf.Spec.SlicesInsert
import Derived.Laws.CopyOwn
import Derived.Test.YthfplgfpodmphaaMk
namespace Go.Proofs.Ythfplgfpodmphaa.Ms
open Go.RowKit Go.Proofs.YthfplgfpodmphaaW.PrintWords Go.Proofs.YthfplgfpodmphaaW.PrintLast Go.Proofs.YthfplgfpodmphaaW.PrintMore
attribute [local go_sem] max2_int min2_int max_two min_two max_three min_three max_four min_four
set_option linter.unusedVariables false
set_option linter.unusedSimpArgs false
set_option maxRecDepth 100000
/-- append that makes a new row, by numbers. -/
theorem app_grow {P : Program} (w : World) (t ty e : TypeId) (z : Value) (sz by_ : Nat) (ht : P.underlying t = some (.slice e)) (hinfo : (P.info? e).map (fun i => (i.zero, i.size, i.bytes)) = some (some z, sz, by_))
    (b : Addr) (sLen sCap : Nat) (olds : List Value) (hlo : olds.length = sLen * sz) (holds : ∀ j v, olds[j]? = some v → w.cell? (b.add j) = some v)
    (a : Addr) (n c : Nat) (news : List Value) (hl : news.length = n * sz) (hnews : ∀ j v, news[j]? = some v → w.cell? (a.add j) = some v)
    (hg : sCap < sLen + n) (hfit : (sLen + n) * by_ ≤ 140737488355328) (hby : 0 < by_) :
    (Builtin.append_ #[t, t] ty #[.slice (some b) sLen sCap, .slice (some a) n c]).run P w =
      .ok (.slice (some ⟨w.heap.size, 0, none⟩) (sLen + n) (grownCap w (sLen + n) sCap e))
        (w.drew.alloc (.cells (olds.toArray ++ news.toArray ++ Builtin.zeroCells z.cells (grownCap w (sLen + n) sCap e - (sLen + n))) e)) := by
  obtain ⟨i, hi, hzz⟩ := Option.map_eq_some_iff.1 hinfo
  simp only [Prod.mk.injEq] at hzz
  obtain ⟨hz, rfl, rfl⟩ := hzz
  have h1 : sLen + n ≤ 140737488355328 := Nat.le_trans (Nat.le_mul_of_pos_right _ hby) hfit
  have h2 := nextslicecap_le hg
  have h3 : Builtin.nextslicecap (sLen + n) sCap * i.bytes ≤ 2 * (sLen + n) * i.bytes := Nat.mul_le_mul_right _ h2
  have h4 : 2 * (sLen + n) * i.bytes = 2 * ((sLen + n) * i.bytes) := Nat.mul_assoc _ _ _
  exact run_append_grow w t ty e i z ht hi hz b sLen sCap olds hlo holds a n c news hl hnews hg (by omega) (by omega)
theorem app_zeros {P : Program} (w : World) (t tn ty e : TypeId) (z : Value) (sz by_ : Nat) (kq kn : IntKind) (ht : P.underlying t = some (.slice e)) (htn : P.underlying tn = some (.int kn)) (hinfo : (P.info? e).map (fun i => (i.zero, i.size, i.bytes)) = some (some z, sz, by_))
    (b : Addr) (sLen sCap : Nat) (olds : List Value) (hlo : olds.length = sLen * sz) (holds : ∀ j v, olds[j]? = some v → w.cell? (b.add j) = some v)
    (k : Nat) (h0 : 0 < k) (hs : 0 < sz) (hg : sCap < sLen + k) (hfit : (sLen + k) * by_ ≤ 140737488355328) (hby : 0 < by_) :
    (Builtin.append_ #[t, tn] ty #[.slice (some b) sLen sCap, .int kq k]).run P w =
      .ok (.slice (some ⟨w.heap.size, 0, none⟩) (sLen + k) (grownCap w (sLen + k) sCap e))
        (w.drew.alloc (.cells (olds.toArray ++ Builtin.zeroCells z.cells k ++ Builtin.zeroCells z.cells (grownCap w (sLen + k) sCap e - (sLen + k))) e)) := by
  obtain ⟨i, hi, hzz⟩ := Option.map_eq_some_iff.1 hinfo
  simp only [Prod.mk.injEq] at hzz
  obtain ⟨hz, rfl, rfl⟩ := hzz
  have h1 : sLen + k ≤ 140737488355328 := Nat.le_trans (Nat.le_mul_of_pos_right _ hby) hfit
  have h2 := nextslicecap_le hg
  have h3 : Builtin.nextslicecap (sLen + k) sCap * i.bytes ≤ 2 * (sLen + k) * i.bytes := Nat.mul_le_mul_right _ h2
  have h4 : 2 * (sLen + k) * i.bytes = 2 * ((sLen + k) * i.bytes) := Nat.mul_assoc _ _ _
  have h5 : k * i.bytes ≤ (sLen + k) * i.bytes := Nat.mul_le_mul_right _ (Nat.le_add_left _ _)
  exact Lib.run_append_grow_zeros w t tn ty e i z kq kn ht htn hi hz (some b) sLen sCap olds (run_firstCells_some w.drew i.size sLen b sLen sCap olds hlo (by simpa using holds)) k h0 hs hg (by omega) (by omega) (by omega)
/-- copy of elements of several cells. -/
theorem run_copy_k {P : Program} (w : World) (dT sT ty elem : TypeId) (sz g o dLen dCap : Nat) (a : Addr) (sLen sCap : Nat) (cur : Array Value) (t : TypeId) (cs : List Value) (m : Nat)
    (hu : P.underlying dT = some (.slice elem)) (hs : (P.info? elem).map (·.size) = some sz)
    (hg : w.heap[g]? = some (.cells cur t (0, 0))) (hm : Nat.min sLen dLen = m) (hn : cs.length = m * sz)
    (hsrc : ∀ j v, cs[j]? = some v → w.cell? (a.add j) = some v) (hfit : o + cs.length ≤ cur.size) (h1 : ∀ v ∈ cs, v.oneCell' = true) :
    (Builtin.copy_ #[dT, sT] ty #[.slice (some ⟨g, o, none⟩) dLen dCap, .slice (some a) sLen sCap]).run P w =
      .ok (goInt m) (w.setRow g (cur.toList.take o ++ cs ++ cur.toList.drop (o + cs.length)).toArray) := by
  have hl := run_loadCells_list (P := P) w a cs hsrc
  have hst := run_storeCells_at P g o t cs 0 cur w hg (by simpa using hfit) h1
  rw [hn] at hl
  cases hq : P.info? elem with
  | none => simp [hq] at hs
  | some i =>
    have hi : i.size = sz := by simpa [hq] using hs
    simp [Builtin.copy_, run_underlying hu, Builtin.lenOf, Builtin.firstCells, sizeOf, typeInfo, hq, hi, hm, hl, hst]
theorem wpList_copy_k {P : Program} {w : World} {ops : Array Oper} {rest : List Oper} {o : Oper} {a : Act} {Q : Exit → Act → World → Prop} (hgd : o.guard = none) (d s : Operand) (dT sT : TypeId)
    (ho : o.op = .call { callee := .builtin .copy, args := #[d, s], argTypes := #[dT, sT] }) (elem : TypeId) (sz : Nat) (hu : P.underlying dT = some (.slice elem)) (hsz : (P.info? elem).map (·.size) = some sz)
    (g off dLen dCap : Nat) (ad : Addr) (sLen sCap : Nat) (hd : a.eval d = .slice (some ⟨g, off, none⟩) dLen dCap) (hs : a.eval s = .slice (some ad) sLen sCap)
    (cur : Array Value) (t : TypeId) (hg : w.heap[g]? = some (.cells cur t (0, 0))) (cs : List Value) (m : Nat) (hm : Nat.min sLen dLen = m) (hn : cs.length = m * sz)
    (hsrc : ∀ j v, cs[j]? = some v → w.cell? (ad.add j) = some v) (hfit : off + cs.length ≤ cur.size) (h1 : ∀ v ∈ cs, v.oneCell' = true)
    (h : ∀ w', w'.heap[g]? = some (.cells (cur.toList.take off ++ cs ++ cur.toList.drop (off + cs.length)).toArray t (0, 0)) → w'.heap.size = w.heap.size → (∀ B w0, Below B w0 w → B ≤ g → Below B w0 w') → (∀ k, k ≠ g → w'.heap[k]? = w.heap[k]?) → wpList P ops Q rest (a.put o.dst (goInt m)) w') :
    wpList P ops Q (o :: rest) a w := by
  refine wpList_plain hgd fun K hK => ?_
  have hrun := run_copy_k (P := P) w dT sT o.type elem sz g off dLen dCap ad sLen sCap cur t cs m hu hsz hg hm hn hsrc hfit h1
  unfold Oper.wp
  simp [execOp, ho, resolve, invoke, builtin, hd, hs, hrun, Result.andThen]
  exact hK _ _ (by
    have := h (w.setRow g (cur.toList.take off ++ cs ++ cur.toList.drop (off + cs.length)).toArray) (setRow_heap w g _ _ t _ hg) (by simp) (fun B w0 hb hBg => below_setRow hb hBg _) (fun k hk => setRow_other w g k _ hk)
    simpa using this)

def InsEnd (w : World) (m : Nat) (ys : List Value) (e : Ending) (w' : World) : Prop := ∃ cap cur, e = .returned (.slice (some ⟨w.heap.size, 0, none⟩) m cap) ∧ m ≤ cap ∧ w'.heap[w.heap.size]? = some (.cells cur 42 (0, 0)) ∧ m * 2 ≤ cur.size ∧ cur.toList.take (m * 2) = ys ∧ Below w.heap.size w w'
def z32v : Value := .agg #[(.slice none 0 0), (.slice none 0 0)]
theorem zeroCells_size (cs : Array Value) (n : Nat) : (Builtin.zeroCells cs n).size = n * cs.size := by
  induction n with
  | zero => simp [Builtin.zeroCells]
  | succ k ih => simp [Builtin.zeroCells, Nat.succ_mul] at ih ⊢
theorem take_app3 (a b : List Value) (c : Array Value) (m : Nat) (h : (a ++ b).length = m) : (a.toArray ++ b.toArray ++ c).toList.take m = a ++ b := by
  rw [← h, show (a.toArray ++ b.toArray ++ c).toList = (a ++ b) ++ c.toList from by simp, List.take_left']
  rfl
theorem take_app2 (a b : List Value) (c : Array Value) (m : Nat) (h : (a ++ b).length = m) : ((a ++ b).toArray ++ c).toList.take m = a ++ b := by
  rw [← h, show ((a ++ b).toArray ++ c).toList = (a ++ b) ++ c.toList from by simp, List.take_left']
  rfl
set_option maxHeartbeats 1000000 in
theorem ins_nil (c m : Nat) (xc : List Value) (w : World) (xa : Addr) (xcap : Nat) (hxl : xc.length = 2) (hx : ∀ j v, xc[j]? = some v → w.cell? (xa.add j) = some v) :
    Calls Try.prog 81 #[.slice none 0 0, .int .i64 0, .slice (some xa) 1 xcap] w (InsEnd w 1 xc) := by
  obtain ⟨iv, hi, hzz⟩ := Option.map_eq_some_iff.1 info32
  simp only [Prod.mk.injEq] at hzz
  obtain ⟨hz, h5, h56⟩ := hzz
  have HR := Aside0.mk (fun ty => run_append_nil (P := Try.prog) w 30 ty 42 iv z32v Try.underlying30 hi hz xa 1 xcap xc (by rw [hxl, h5]) hx (by decide) (by decide) (by rw [h56]; decide))
  clear hx hi hz h5 h56
  go_enter Try.func81, Try.ntmps81
  go_wp2_with ((with_reducible refine gate_builtin (b := .append) (xs := #[.tmp 23, .tmp 24]) rfl ?_); at_builtin; refine Lib.wpList_append_run _ rfl _ _ _ _ rfl _ _ rfl rfl _ _ (HR.out _) ?_)
  go_ret
  refine ⟨_, _, rfl, grownCap_ge _ _ _ _, heap_alloc_self _ _, ?_, ?_, below_alloc (below_drew (Below.refl _ _)) _⟩
  · simp [hxl]
  · simp [hxl]
set_option maxHeartbeats 1000000 in
theorem ins_end (c n : Nat) (olds xc : List Value) (w : World) (ad xa : Addr) (xcap : Nat) (hn : n < 1000000) (hol : olds.length = n * 2) (ho : ∀ j v, olds[j]? = some v → w.cell? (ad.add j) = some v) (hxl : xc.length = 2) (hx : ∀ j v, xc[j]? = some v → w.cell? (xa.add j) = some v) :
    Calls Try.prog 81 #[.slice (some ad) n n, .int .i64 n, .slice (some xa) 1 xcap] w (InsEnd w (n + 1) (olds ++ xc)) := by
  have HR := Aside0.mk (fun ty => app_grow (P := Try.prog) w 30 ty 42 z32v 2 48 Try.underlying30 info32 ad n n olds hol ho xa 1 xcap xc (by rw [hxl]) hx (by omega) (by omega) (by decide))
  have HN := Aside0.mk hn
  have HOL := Aside0.mk hol
  clear hx ho hn hol
  go_enter Try.func81, Try.ntmps81
  go_wp2_with ((with_reducible refine gate_builtin (b := .append) (xs := #[.tmp 23, .tmp 24]) rfl ?_); at_builtin; refine Lib.wpList_append_run _ rfl _ _ _ _ rfl _ _ rfl rfl _ _ (HR.out _) ?_)
  go_ret
  refine ⟨_, _, rfl, grownCap_ge _ _ _ _, heap_alloc_self _ _, ?_, ?_, below_alloc (below_drew (Below.refl _ _)) _⟩
  · have := HOL.out
    simp [hxl, this]
    omega
  · exact take_app2 olds xc _ _ (by have h1 := HOL.out; simp [hxl, h1]; omega)

theorem cells_old {cs : List Value} {ad : Addr} {w w' : World} (h : ∀ j v, cs[j]? = some v → w.cell? (ad.add j) = some v) (hb : Below w.heap.size w w') : ∀ j v, cs[j]? = some v → w'.cell? (ad.add j) = some v :=
  fun j v hj => (hb.cell (World.block_lt_of_cell? w _ (h j v hj))).trans (h j v hj)
set_option maxHeartbeats 1000000 in
theorem ins_mid (c n i : Nat) (olds xc : List Value) (w : World) (ad xa : Addr) (xcap : Nat) (hn : n < 1000000) (hi : i < n) (hol : olds.length = n * 2) (ho : ∀ j v, olds[j]? = some v → w.cell? (ad.add j) = some v) (h1 : ∀ v ∈ olds, v.oneCell' = true) (hxl : xc.length = 2) (hx : ∀ j v, xc[j]? = some v → w.cell? (xa.add j) = some v) (h2 : ∀ v ∈ xc, v.oneCell' = true) :
    Calls Try.prog 81 #[.slice (some ad) n n, .int .i64 i, .slice (some xa) 1 xcap] w (InsEnd w (n + 1) (olds.take (i * 2) ++ xc ++ olds.drop (i * 2))) := by
  have hik : i + (n + 1 - i) = n + 1 := by omega
  have hadl : ad.block < w.heap.size := World.block_lt_of_cell? w _ (ho 0 _ (List.getElem?_eq_getElem (by omega)))
  have hrz : ∀ ty, (Builtin.append_ #[30, 3] ty #[.slice (some ad) i n, .int .i64 ((n + 1 - i : Nat) : Int)]).run Try.prog w = _ := fun ty =>
    app_zeros w 30 3 ty 42 z32v 2 48 .i64 .i64 Try.underlying30 Try.underlying3 info32 ad i n (olds.take (i * 2)) (by rw [List.length_take]; omega) (fun j v hj => by
      rw [List.getElem?_take] at hj
      split at hj
      · exact ho j v hj
      · cases hj) (n + 1 - i) (by omega) (by decide) (by omega) (by omega) (by decide)
  have hG0 : n + 1 ≤ grownCap w (i + (n + 1 - i)) n 42 := by rw [hik]; exact grownCap_ge _ _ _ _
  have hG1 : grownCap w (i + (n + 1 - i)) n 42 ≤ 9223372036854775807 := by
    have := grownCap_le_maxLen w (i + (n + 1 - i)) n 42 (by unfold maxLen; omega)
    unfold maxLen at this
    omega
  have hRs : (n + 1) * 2 ≤ ((olds.take (i * 2)).toArray ++ Builtin.zeroCells z32v.cells (n + 1 - i) ++ Builtin.zeroCells z32v.cells (grownCap w (i + (n + 1 - i)) n 42 - (i + (n + 1 - i)))).size := by
    rw [Array.size_append, Array.size_append, zeroCells_size, zeroCells_size, show z32v.cells.size = 2 from rfl, List.size_toArray, List.length_take]
    omega
  have hRt : ((olds.take (i * 2)).toArray ++ Builtin.zeroCells z32v.cells (n + 1 - i) ++ Builtin.zeroCells z32v.cells (grownCap w (i + (n + 1 - i)) n 42 - (i + (n + 1 - i)))).toList.take (i * 2) = olds.take (i * 2) := by
    rw [Array.toList_append, Array.toList_append, List.append_assoc, List.take_append_of_le_length (by simp; omega)]
    show List.take _ (List.take _ _) = _
    rw [List.take_take, Nat.min_self]
  have hB1 := below_alloc (below_drew (Below.refl w.heap.size w)) (.cells ((olds.take (i * 2)).toArray ++ Builtin.zeroCells z32v.cells (n + 1 - i) ++ Builtin.zeroCells z32v.cells (grownCap w (i + (n + 1 - i)) n 42 - (i + (n + 1 - i)))) 42)
  have hH1 := heap_alloc_self w.drew (.cells ((olds.take (i * 2)).toArray ++ Builtin.zeroCells z32v.cells (n + 1 - i) ++ Builtin.zeroCells z32v.cells (grownCap w (i + (n + 1 - i)) n 42 - (i + (n + 1 - i)))) 42)
  rw [show w.drew.heap.size = w.heap.size from rfl] at hH1
  generalize w.drew.alloc (.cells ((olds.take (i * 2)).toArray ++ Builtin.zeroCells z32v.cells (n + 1 - i) ++ Builtin.zeroCells z32v.cells (grownCap w (i + (n + 1 - i)) n 42 - (i + (n + 1 - i)))) 42) = W1 at hB1 hH1 hrz
  generalize (olds.take (i * 2)).toArray ++ Builtin.zeroCells z32v.cells (n + 1 - i) ++ Builtin.zeroCells z32v.cells (grownCap w (i + (n + 1 - i)) n 42 - (i + (n + 1 - i))) = ROW at hH1 hRs hRt
  rw [hik] at hrz hG0 hG1
  generalize grownCap w (n + 1) n 42 = G at hrz hG0 hG1
  have hcA : ∀ ty dc, (Builtin.copy_ #[30, 30] ty #[.slice (some ⟨w.heap.size, i * 2, none⟩) (n + 1 - i) dc, .slice (some xa) 1 xcap]).run Try.prog W1 = _ := fun ty dc =>
    run_copy_k W1 30 30 ty 42 2 w.heap.size (i * 2) (n + 1 - i) dc xa 1 xcap ROW 42 xc 1 Try.underlying30 rfl hH1 (by simp only [Nat.min_def]; split <;> omega) hxl (cells_old hx hB1) (by omega) h2
  rw [hxl] at hcA
  have hH2 := setRow_heap W1 w.heap.size ROW (ROW.toList.take (i * 2) ++ xc ++ ROW.toList.drop (i * 2 + 2)).toArray 42 (0, 0) hH1
  have hB2 := below_setRow hB1 (Nat.le_refl _) (ROW.toList.take (i * 2) ++ xc ++ ROW.toList.drop (i * 2 + 2)).toArray
  rw [hRt] at hcA hH2 hB2
  have hsz2 : (olds.take (i * 2) ++ xc ++ ROW.toList.drop (i * 2 + 2)).toArray.size = ROW.size := by
    simp [hxl]
    omega
  have hta : ∀ t : List Value, ((olds.take (i * 2) ++ xc ++ t).toArray).toList.take ((i + 1) * 2) = olds.take (i * 2) ++ xc := fun t => by
    rw [List.take_append_of_le_length (by simp [hxl]; omega), List.take_of_length_le (by simp [hxl]; omega)]
  have hta := hta (ROW.toList.drop (i * 2 + 2))
  generalize (olds.take (i * 2) ++ xc ++ ROW.toList.drop (i * 2 + 2)).toArray = C2 at *
  have hcB : ∀ (W : World), W.heap = (W1.setRow w.heap.size C2).heap → ∀ ty dc sc, (Builtin.copy_ #[30, 30] ty #[.slice (some ⟨w.heap.size, (i + 1) * 2, none⟩) (n + 1 - (i + 1)) dc, .slice (some (ad.add (i * 2))) (n - i) sc]).run Try.prog W = _ := fun W hW ty dc sc =>
    run_copy_k W 30 30 ty 42 2 w.heap.size ((i + 1) * 2) (n + 1 - (i + 1)) dc (ad.add (i * 2)) (n - i) sc C2 42 (olds.drop (i * 2)) (n - i) Try.underlying30 rfl (by rw [hW]; exact hH2) (by simp only [Nat.min_def]; split <;> omega) (by rw [List.length_drop]; omega) (by
      intro j v hj
      rw [List.getElem?_drop] at hj
      have h3 := ho _ _ hj
      have h4 := (hB2.cell (World.block_lt_of_cell? w _ h3)).trans h3
      rw [Addr.add_add, ← h4]
      simp only [World.cell?, hW]) (by rw [List.length_drop]; omega) (fun v hv => h1 v (List.mem_of_mem_drop hv))
  rw [hta, List.length_drop, hol, show n + 1 - (i + 1) = n - i from by omega] at hcB
  have e7 : (0 : Int) ≤ (i : Int) + 1 := by omega
  have e1 : decide ((n : Int) < (n : Int) + 1) = true := decide_eq_true (by omega)
  have e2 : ((i : Int) = (n : Int)) = False := by simp; omega
  have e3 : IntKind.i64.wrap ((n : Int) + 1) = (n : Int) + 1 := by rw [IntKind.wrap_i64]; omega
  have e4 : IntKind.i64.wrap ((n : Int) + 1 - (i : Int)) = ((n + 1 - i : Nat) : Int) := by rw [IntKind.wrap_i64]; omega
  have e5 : IntKind.i64.wrap ((i : Int) + 1) = (i : Int) + 1 := by rw [IntKind.wrap_i64]; omega
  have e6 : ((i : Int) + 1).toNat = i + 1 := by omega
  have hci : ¬ (n = i) := by omega
  have hGi : ¬ (G = i) := by omega
  have hGi1 : ¬ (G = i + 1) := by omega
  have hin : i ≤ n := by omega
  have HO := Aside0.mk ho
  have HX := Aside0.mk hx
  have HB2 := Aside0.mk hB2
  have HH2 := Aside0.mk hH2
  have HRZ := Aside0.mk hrz
  have HCA := Aside0.mk hcA
  have HCB := Aside0.mk hcB
  have H1 := Aside0.mk h1
  have H2 := Aside0.mk h2
  have HL := Aside0.mk hol
  have HXL := Aside0.mk hxl
  have HTA := Aside0.mk hta
  have HSZ := Aside0.mk hsz2
  have HRS := Aside0.mk hRs
  clear hx ho hB1 hB2 hH1 hH2 hrz hcA hcB h1 h2 hol hxl hik hadl hRs hRt hta hsz2
  go_enter Try.func81, Try.ntmps81
  go_wp2_with (first | ((with_reducible refine gate_builtin (b := .append) (xs := #[.tmp 34, .tmp 39]) rfl ?_); at_builtin; refine Lib.wpList_append_run _ rfl _ _ _ _ rfl _ _ rfl rfl _ _ (HRZ.out _) ?_) | ((with_reducible refine gate_builtin (b := .copy) (xs := #[.tmp 43, .tmp 44]) rfl ?_); refine wpList_copy_runI _ rfl _ _ 30 30 rfl _ _ rfl rfl (HCA.out _ _) ?_))
  go_region_law (refine step_copy_runI rfl _ _ 30 30 rfl (.slice (some ⟨w.heap.size, (i + 1) * 2, none⟩) (n - i) (G - (i + 1))) (.slice (some (ad.add (i * 2))) (n - i) (n - i)) (by simp [Act.eval, Act.put]) (by simp [Act.eval, Act.put]) (HCB.out (W1.setRow w.heap.size C2).drew rfl _ _ _) ?_)
  go_wp2
  go_ret
  have hl : (olds.take (i * 2) ++ xc ++ olds.drop (i * 2)).length = (n + 1) * 2 := by
    have h3 := HL.out
    have h4 := HXL.out
    rw [List.length_append, List.length_append, List.length_take, List.length_drop]
    omega
  refine ⟨G, _, rfl, hG0, setRow_heap _ _ _ _ _ _ HH2.out, ?_, ?_, below_setRow (below_drew HB2.out) (Nat.le_refl _) _⟩
  · rw [← List.append_assoc, ← List.append_assoc, List.size_toArray, List.length_append, hl]
    omega
  · show List.take _ (_ ++ _) = _
    rw [← List.append_assoc, ← List.append_assoc, ← hl, List.take_left']
    rfl
end Go.Proofs.Ythfplgfpodmphaa.Ms
