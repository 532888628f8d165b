/- Numbers are collected in a range over a window. -/
import Derived.Outline
import Derived.IntWalk
import Derived.RangeFuncBox
import Derived.Maps.AppendAt
import Derived.Laws.OwnMore
import Derived.Test.YthoekmedkmonhaaWh
namespace Go.Proofs.Ythoekmedkmonhaa.Wi
open Go Go.RowKit Go.Maps Go.Shelf Go.Proofs.Ythoekmedkmonhaa Go.Proofs.YthoekmedkmonhaaW.PrintWords Go.Proofs.YthoekmedkmonhaaW.PrintLast Go.Proofs.YthoekmedkmonhaaW.PrintMore
set_option linter.unusedVariables false
set_option linter.unusedSimpArgs false

/-- Below k all but x lies as it lay. -/
structure Bx (k x : Nat) (W W' : World) : Prop where
  os : W'.os = W.os
  tape : W'.tape = W.tape
  output : W'.output = W.output
  size : W.heap.size ≤ W'.heap.size
  block : ∀ j, j < k → j ≠ x → W'.heap[j]? = W.heap[j]?
theorem Bx.refl (k x : Nat) (W : World) : Bx k x W W := ⟨rfl, rfl, rfl, Nat.le_refl _, fun _ _ _ => rfl⟩
theorem Bx.trans {k x : Nat} {A B C : World} (h : Bx k x A B) (g : Bx k x B C) : Bx k x A C :=
  ⟨g.os.trans h.os, g.tape.trans h.tape, g.output.trans h.output, Nat.le_trans h.size g.size, fun j hj hx => (g.block j hj hx).trans (h.block j hj hx)⟩
theorem Bx.below {k x n₀ : Nat} {W W' : World} (h : Bx k x W W') (hx : n₀ ≤ x) (hk : n₀ ≤ k) : Below n₀ W W' :=
  ⟨h.os, h.tape, h.output, h.size, fun j hj => h.block j (by omega) (by omega)⟩
theorem Bx.of_below {k x n₀ : Nat} {W W' : World} (h : Below n₀ W W') (hk : k ≤ n₀) : Bx k x W W' := ⟨h.os, h.tape, h.output, h.size, fun j hj _ => h.block j (by omega)⟩
theorem Bx.boxed {k x B : Nat} {W W' : World} {t : TypeId} {v : Value} (h : Bx k x W W') (hb : Boxed W B t v) (hk : B < k) (hx : B ≠ x) : Boxed W' B t v := (h.block B hk hx).trans hb
theorem Bx.wn {k x b m n : Nat} {T : TypeId} {s : Wd} {W W' : World} (h : Bx k x W W') (hw : Wn T W b m n s) (hb : b < k) (hm : m < k) (hbx : b ≠ x) (hmx : m ≠ x) : Wn T W' b m n s := hw.keep (h.block b hb hbx) (h.block m hm hmx)
theorem IR.bx {W W' : World} {A : Option Addr} {l : List Int} {k x : Nat} {t : TypeId} {v : Value} (h : IR W A l) (hb : Bx k x W W') (hk : W.heap.size ≤ k) (hx : Boxed W x t v) (ht : t ≠ 3) : IR W' A l := by
  rcases h with rfl | ⟨g, cur, h1, h2, h3⟩
  · exact .inl rfl
  · refine .inr ⟨g, cur, h1, (hb.block g (by have := (Array.getElem?_eq_some_iff.1 h2).1; omega) ?_).trans h2, h3⟩
    rintro rfl
    have := (show W.heap[g]? = _ from hx).symm.trans h2
    simp at this
    exact ht this.2

theorem ownFrom_bx {β : Type} {k x B : Nat} {W0 : World} (hB : k ≤ B) : OwnFrom B (fun (_ : β) W => k ≤ W.heap.size ∧ Bx k x W0 W) := fun s W W' row hs hg hr =>
  ⟨Nat.le_trans hs.1 hg.size, hs.2.trans ⟨hg.os, hg.tape, hg.output, hg.size, fun j hj hx => hg.block j (by have := hs.1; omega) (fun e => by have := (hr j e.symm).1; omega)⟩⟩

/-- Box B holds a row of one's own of the numbers f; below bb but the box all lies as it lay in W0. -/
def ColI {β : Type} (B bb : Nat) (W0 : World) (f : β → List Int) (s : β) (W : World) : Prop :=
  (∃ v, Boxed W B 22 v ∧ W.ownsRow bb 3 1 v (f s).length ((f s).map (Value.int .i64)) ∧ True) ∧ (bb ≤ W.heap.size ∧ Bx bb B W0 W)
theorem colI_own {β : Type} (B bb : Nat) (W0 : World) (f : β → List Int) {B' : Nat} (h : bb ≤ B') : OwnFrom B' (ColI B bb W0 f) :=
  OwnFrom.and (Own.from (holdsRow_own bb B 22 3 1 (fun s => (f s).length) (fun s => (f s).map (Value.int .i64)) (fun _ _ => True)) _) (ownFrom_bx h)
theorem colI_start {β : Type} (B : Nat) (W0 : World) (f : β → List Int) (s : β) (hf : f s = []) (hb : Boxed W0 B 22 (.slice none 0 0)) : ColI B W0.heap.size W0 f s W0 :=
  ⟨⟨_, hb, by rw [hf]; exact World.ownsRow_nil _ _ _ _, trivial⟩, Nat.le_refl _, Bx.refl _ _ _⟩

/-- The append of one number to the row in the box. -/
theorem appended3 {W w1 : World} {bb B : Nat} {v v' : Value} {k m : Nat} {xs ys : List Value} {tmp : Obj}
    (hv : Boxed W B 22 v) (hrow : W.ownsRow bb 3 1 v k xs) (hbW : bb ≤ W.heap.size) (hB : B < bb)
    (hown' : w1.ownsRow bb 3 1 v' m ys) (hgrow : (W.alloc tmp).grownBy w1 v.ownBlock) :
    Boxed w1 B 22 v ∧ Boxed (w1.setCell ⟨B, 0, none⟩ v') B 22 v' ∧ (w1.setCell ⟨B, 0, none⟩ v').ownsRow bb 3 1 v' m ys ∧ KeepsOthers W (w1.setCell ⟨B, 0, none⟩ v') ∧ Bx bb B W (w1.setCell ⟨B, 0, none⟩ v') := by
  obtain ⟨h1, h2, h3, h4, h5, h6, h7⟩ := appended2 (n₀ := 0) hv (by decide) hrow (Nat.zero_le _) hbW (Nat.zero_le _) hown' hgrow
  exact ⟨h1, h2, h3, h4, h5.os, h5.tape, h5.output, h5.size, h7⟩

/-- The numbers of entries. -/
def ky {s : Wd} (pre : List (Ent s)) : List Int := pre.map (·.1.1)
theorem ky_snoc {s : Wd} (pre : List (Ent s)) (x : Ent s) : ky (pre ++ [x]) = ky pre ++ [x.1.1] := by simp [ky]
theorem ky_len {s : Wd} (pre : List (Ent s)) : (ky pre).length = pre.length := by simp [ky]

/-- A round that has appended its number. -/
theorem col_end {s : Wd} {W w2 W0 : World} {B bb g ln cap : Nat} {j : Int} {v : Value} {hx : s.f j = some v} {pre : List (Ent s)} {n₀ Bn B' : Nat} (hln : ln = (ky pre).length) (hn₀ : n₀ ≤ B) (hbn : Bn < bb) (hne : Bn ≠ B) (hnb : n₀ ≤ bb)
    (h1 : Boxed w2 B 22 (.slice (some ⟨g, 0, none⟩) (ln + 1) cap)) (h2 : w2.ownsRow bb 3 1 (.slice (some ⟨g, 0, none⟩) (ln + 1) cap) (ln + 1) ((ky pre).map (Value.int .i64) ++ [.int .i64 j])) (h3 : KeepsOthers W w2) (h4 : Bx bb B W w2)
    (h0 : bb ≤ W.heap.size ∧ Bx bb B W0 W) : KeepsFrom B' W w2 ∧ Kw n₀ Bn W w2 ∧ ColI B bb W0 ky (pre ++ [⟨(j, v), hx⟩]) w2 := by
  refine ⟨h3.from _, ⟨h4.below hn₀ hnb, h4.block Bn hbn hne⟩, ⟨_, h1, ?_, trivial⟩, Nat.le_trans h0.1 h4.size, h0.2.trans h4⟩
  rw [ky_snoc, List.length_append, ← hln, List.map_append]
  exact h2

/-- The numbers that are there among the first k behind from. -/
def keysTo (s : Wd) (k : Nat) : List Int := ((List.range k).map (fun i : Nat => s.fr + 1 + (i : Int))).filter (fun j => (s.f j).isSome)
theorem keysTo_succ (s : Wd) (k : Nat) : keysTo s (k + 1) = keysTo s k ++ (if (s.f (s.fr + 1 + (k : Int))).isSome then [s.fr + 1 + (k : Int)] else []) := by
  unfold keysTo
  rw [List.range_succ, List.map_append, List.filter_append]
  congr 1
  simp only [List.map_cons, List.map_nil, List.filter_cons, List.filter_nil]
theorem ky_al (s : Wd) : ∀ k, ky (al s k) = keysTo s k
  | 0 => rfl
  | k + 1 => by
    rw [keysTo_succ, ← ky_al s k]
    cases h : s.f (s.fr + 1 + (k : Int)) with
    | none => rw [al_none h]; simp
    | some v => rw [al_some h, ky_snoc]; simp
theorem keysTo_congr {s s' : Wd} (hfr : s'.fr = s.fr) : ∀ k : Nat, (∀ j, j ≤ s.fr + (k : Int) → (s'.f j).isSome = (s.f j).isSome) → keysTo s' k = keysTo s k
  | 0, _ => rfl
  | k + 1, h => by
    rw [keysTo_succ, keysTo_succ, keysTo_congr hfr k (fun j hj => h j (by push_cast; omega)), hfr, h _ (by push_cast; omega)]
theorem keysTo_beyond {n : Nat} {s : Wd} (hv : Iv n s) : ∀ d : Nat, keysTo s (allN s + d) = keysTo s (allN s)
  | 0 => rfl
  | d + 1 => by
    show keysTo s (allN s + d + 1) = _
    rw [keysTo_succ, keysTo_beyond hv d]
    have : (s.f (s.fr + 1 + ((allN s + d : Nat) : Int))).isSome = false := by
      cases h : (s.f (s.fr + 1 + ((allN s + d : Nat) : Int))).isSome with
      | false => rfl
      | true =>
        have h1 := (hv.in3 _ h).2
        have h2 : ((allN s : Nat) : Int) = s.tp - s.fr := by unfold allN; have := hv.p1; have := hv.p2; omega
        push_cast at h1
        omega
    rw [this]; simp
theorem ky_all (s : Wd) : ky (allOf s) = keysTo s (allN s) := ky_al s _
/-- They rise. -/
theorem ky_rise (s : Wd) : (ky (allOf s)).Pairwise (· < ·) := by
  unfold ky allOf
  rw [List.pairwise_map]
  exact al_rise s _
theorem rise_at {l : List Int} (h : l.Pairwise (· < ·)) {i : Nat} (hi : i + 1 < l.length) : l.getD i 0 < l.getD (i + 1) 0 := by
  have := List.pairwise_iff_getElem.1 h i (i + 1) (by omega) hi (by omega)
  simpa [List.getD_eq_getElem?_getD, hi, (by omega : i < l.length)] using this

/-- 'append(x, y...)' of two rows of numbers, the first of one's own, in a region that draws its order. -/
theorem app_ {ops : Array Oper} {oi : Oper} {N : Option Tmp} {a : Act} {w : World} {Q : Exit → Act → World → Prop} {K : Act → World → Prop} (hw : Region.wanted oi (yielded ops a.tmps) = true) (hN : oi.dst = N) (s x : Operand)
    (ho : oi.op = .call { callee := .builtin .append, args := #[s, x], argTypes := #[22, 22] }) (base : Nat) (v : Value) (n0 : Nat) (xs : List Value) (hs : a.eval s = v) (hown : w.ownsRow base 3 1 v n0 xs)
    (A : Option Addr) (n cap : Nat) (l : List Int) (hx : a.eval x = .slice A n cap) (hl : l.length = n) (hI : IR w A l) (hA : A = none → cap = 0) (hb : n0 + n < 1000000) (hbase : base ≤ w.heap.size)
    (h : ∀ v' w', w'.ownsRow base 3 1 v' (n0 + n) (xs ++ l.map (Value.int .i64)) → w.grownBy w' v.ownBlock → K (a.put N v') w') :
    if Region.wanted oi (yielded ops a.tmps) = true then Oper.wp Try.prog oi a w K Q else K (a.put N undef) w := by
  subst hN
  rw [if_pos hw]
  obtain ⟨i0, hi, hz0, hz1, hz2⟩ := info_parts info3
  cases A with
  | none =>
    have hc := hA rfl
    have hl0 : l = [] := by
      rcases hI with h | ⟨g, cur, h1, _⟩
      · exact h
      · cases h1
    subst hl0
    obtain rfl : n = 0 := by simpa using hl.symm
    subst hc
    have hrun := run_append_owned_none (P := Try.prog) (w := w) base 22 oi.type 3 i0 1 Try.underlying22 hi v n0 xs hown
    unfold Oper.wp
    simp [execOp, ho, resolve, invoke, builtin, hs, hx, hrun, Result.andThen]
    exact h v w (by simpa using hown) ⟨rfl, rfl, rfl, Nat.le_refl _, fun _ _ _ => rfl⟩
  | some ad =>
    refine wp_append_own w s x 22 ho base 3 i0 (.int .i64 0) 1 8 Try.underlying22 hi hz0 hz1 hz2 rfl (by decide) v n0 xs hs hown ad n cap (l.map (Value.int .i64)) hx (by simp [hl]) ?_ ?_ (by simp [maxLen]; omega) (by omega) hbase (fun v' w' h1 h2 _ => h v' w' h1 h2)
    · intro j u hj
      rcases hI with rfl | ⟨g, cur, h1, h2, h3⟩
      · simp at hj
      · cases h1
        have hjl : j < l.length := by
          have := (List.getElem?_eq_some_iff.1 hj).1
          simpa using this
        have hu : u = .int .i64 l[j] := by
          rw [List.getElem?_map, List.getElem?_eq_getElem hjl] at hj
          simpa using hj.symm
        have hadd : (⟨g, 0, none⟩ : Addr).add j = ⟨g, j, none⟩ := by unfold Addr.add; split <;> simp_all
        rw [hadd, hu]
        simp [World.cell?, h2, h3 j hjl]
    · intro u hu
      simp only [List.mem_map] at hu
      obtain ⟨z, _, rfl⟩ := hu
      rfl

/-- Behind 'append([]int{}, a...)' and '[]int{40}', in either order. -/
def AppF (wr : World) (n : Nat) (la : List Int) (s : Value × Value × Value) (w' : World) : Prop :=
  ∃ (A' : Option Addr) (cap' g : Nat), s.2.1 = .slice A' n cap' ∧ s.2.2 = .slice (some ⟨g, 0, none⟩) 1 1 ∧ Below wr.heap.size wr w' ∧ w'.ownsRow wr.heap.size 3 1 (.slice A' n cap') n (la.map (Value.int .i64)) ∧ w'.heap[g]? = some (.cells #[.int .i64 40] 3 (0, 0))
theorem Below.grown_row {B base k : Nat} {a w w' : World} {v : Value} {xs : List Value} (h : Below B a w) (hg : w.grownBy w' v.ownBlock) (hB : B ≤ w.heap.size) (hr : w.ownsRow base 3 1 v k xs) (hb : B ≤ base) : Below B a w' :=
  h.grown hg hB (fun j hj => by have := (hr.lt j hj).1; omega)

/-- A range over a function whose body may break out of the block that the range stands in: what is behind is owed once. -/
theorem rangeFunc_brk {F : Fence} {n : Nat} {P : Program} {α : Type} {g : Operand} {ps : Array Tmp} {assign body : Code} {id : Nat} {K : Act → World → Prop} {Q' : Exit → Act → World → Prop} {a : Act} {w : World}
    (hro : F.round = none) (h1 : 1 ≤ n) {gf : Nat} {lb : Array Value} (hg : a.eval g = .func (.func gf) #[] lb) (hFg : F.fn gf) (eg : ∀ args w, (callFunc gf args).run P w = .ok (.enter gf args) w)
    {encs : α → Array Value} {Kp : World → World → Prop} {S Sp : List α → Prop} {N : Nat} {w0 : World} (hseq : SeqStopsK F (n - 1) P gf lb encs Kp S Sp N w0)
    (hKt : ∀ {A B C : World}, Kp A B → Kp B C → Kp A C) (hKb : ∀ (W : World) (l : Nat) (o o' : Obj), w.heap.size ≤ l → W.heap[l]? = some o → o.isCells = false → o.isWalk = false → Kp W (W.putObj l o')) (hb0 : Below w0.heap.size w0 w) (hps : ∀ x, (encs x).size = ps.size)
    (I Ix : List α → World → Prop) (hI : OwnFrom w.heap.size I) (hIx : OwnFrom w.heap.size Ix) (h0 : I [] w) (a₁ : α → Act)
    (hassign : ∀ (l : Nat) (x : α) (W : World) (K : Act → World → Prop), K (a₁ x) W →
      assign.wpIn (F.inRound l) (n - 1 - 1) P (Exit.then K (fun _ _ _ => False)) { tmps := (ps.zip (encs x)).foldl (fun t (p, v) => t.setIfInBounds p v) a.tmps, defers := [] } W)
    (hbody : ∀ (l : Nat) (pre : List α) (x : α) (W : World), I pre W → pre.length < N → body.wpIn (F.inRound l) (n - 1 - 1) P (ownPostG w.heap.size Kp I (fun c ps W => Ix ps W ∧ c = .exit id) (pre ++ [x]) W) (a₁ x) W)
    (hend : ∀ (D : Nat) (ps : List α) (W : World), w.heap.size ≤ D → ((S ps ∧ I ps W) ∨ (Sp ps ∧ Ix ps W)) → W.heap[D]? = some (.deferred (some [])) → K { a with defers := { target := .collected D, args := #[] } :: a.defers } W) :
    (Code.rangeFunc g ps assign body).wpIn F n P (Exit.inBlock id (Exit.then K Q')) a w := by
  refine wpIn_rangeFunc_ownG hro h1 hg hFg eg hseq hKt hKb hb0 hps I (fun c ps W => Ix ps W ∧ c = .exit id) hI (fun c => OwnFrom.and hIx (ownFrom_pure _ _)) h0 a₁ hassign hbody ?_ ?_
  · intro D xs W hD hS hI' hK
    exact hend D xs W hD (.inl ⟨hS, hI'⟩) hK
  · rintro D c pre W hD hSp ⟨hx, rfl⟩ hK
    refine wpIn_exit ?_
    have := hend D pre W hD (.inr ⟨hSp, hx⟩) hK
    simpa [Exit.inBlock, Exit.then] using this

theorem wp_noPanic {P : Program} {c : Code} {K : Act → World → Prop} {Q : Exit → Act → World → Prop} {a : Act} {w : World} (h : c.wp P (Exit.then K (fun _ _ _ => False)) a w) : c.wp P (Exit.then K Q) a w :=
  wp_mono h (fun e a w hq => by
    cases e with
    | normal => exact hq
    | _ => exact False.elim hq)
end Go.Proofs.Ythoekmedkmonhaa.Wi
