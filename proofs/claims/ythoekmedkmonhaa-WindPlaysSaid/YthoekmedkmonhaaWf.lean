/- What is missing in a window. -/
import Derived.Outline
import Derived.IntWalk
import Derived.RangeFuncBox
import Derived.Maps.AppendAt
import Derived.Test.YthoekmedkmonhaaWe
namespace Go.Proofs.Ythoekmedkmonhaa.Wi
open Go Go.RowKit Go.Maps Go.Shelf Go.Proofs.Ythoekmedkmonhaa Go.Proofs.YthoekmedkmonhaaW.PrintWords Go.Proofs.YthoekmedkmonhaaW.PrintLast Go.Proofs.YthoekmedkmonhaaW.PrintMore
attribute [local go_sem] Oper.semAt_some
attribute [local go_sem] max2_int min2_int max_two min_two
set_option linter.unusedVariables false
set_option linter.unusedSimpArgs false

theorem info3 : (Try.prog.info? 3).map (fun i => (i.zero, i.size, i.bytes)) = some (some (.int .i64 0), 1, 8) := by kernel_rfl

/-- The numbers from a on, ahead of b. -/
def gaps (a b : Int) : List Int := (List.range (b - a).toNat).map (fun k : Nat => a + (k : Int))
def gapsN (a : Int) (k : Nat) : List Int := (List.range k).map (fun k : Nat => a + (k : Int))
theorem gaps_take (a b : Int) (c : Nat) : (gaps a b).take c = gapsN a (min c (b - a).toNat) := by
  unfold gaps gapsN
  rw [← List.map_take, List.take_range]
theorem gapsN_succ (a : Int) (k : Nat) : gapsN a (k + 1) = gapsN a k ++ [a + (k : Int)] := by simp [gapsN, List.range_succ]
theorem gapsN_len (a : Int) (k : Nat) : (gapsN a k).length = k := by simp [gapsN]

/-- The next number, and what was found to be missing, when so much has come. -/
def msF (s : Wd) (c : Nat) (pre : List (Ent s)) : Int × List Int := pre.foldl (fun a x => (x.1.1 + 1, a.2 ++ (gaps a.1 x.1.1).take (c - a.2.length))) (s.fr + 1, [])
theorem msF_snoc (s : Wd) (c : Nat) (pre : List (Ent s)) (x : Ent s) : msF s c (pre ++ [x]) = (x.1.1 + 1, (msF s c pre).2 ++ (gaps (msF s c pre).1 x.1.1).take (c - (msF s c pre).2.length)) := by
  simp [msF, List.foldl_append]
theorem snoc_cases {α : Type} (l : List α) : l = [] ∨ ∃ p x, l = p ++ [x] := by
  rcases List.eq_nil_or_concat l with h | ⟨p, x, h⟩
  · exact .inl h
  · exact .inr ⟨p, x, by simpa using h⟩
theorem msF_fst {n : Nat} {s : Wd} (hv : Iv n s) (c : Nat) (pre : List (Ent s)) : s.fr + 1 ≤ (msF s c pre).1 ∧ (msF s c pre).1 ≤ s.tp + 1 := by
  rcases snoc_cases pre with rfl | ⟨p, x, rfl⟩
  · have := hv.p1; have := hv.p2; simp [msF]; omega
  · rw [msF_snoc]
    have := hv.in3 x.1.1 (by rw [x.2]; rfl)
    show s.fr + 1 ≤ x.1.1 + 1 ∧ x.1.1 + 1 ≤ s.tp + 1
    omega
theorem msF_len (s : Wd) (c : Nat) (pre : List (Ent s)) : (msF s c pre).2.length ≤ c := by
  have h : ∀ (m : Nat) (pre : List (Ent s)), pre.length = m → (msF s c pre).2.length ≤ c := by
    intro m
    induction m with
    | zero => intro pre h; rw [List.eq_nil_of_length_eq_zero h]; simp [msF]
    | succ m ih =>
      intro pre h
      rcases snoc_cases pre with rfl | ⟨p, x, rfl⟩
      · simp at h
      · rw [msF_snoc]
        have := ih p (by simp at h; exact h)
        simp only [List.length_append, List.length_take]
        omega
  exact h _ pre rfl
def missOf (s : Wd) (c : Nat) : List Int := (msF s c (allOf s)).2

theorem slice_of_row {W : World} {base : Nat} {e : TypeId} {size : Nat} {v : Value} {k : Nat} {xs : List Value} (h : W.ownsRow base e size v k xs) : ∃ A cap, v = .slice A k cap := by
  rcases h.2 with ⟨rfl, rfl⟩ | ⟨g, cap, cur, rfl, _⟩
  · exact ⟨none, 0, rfl⟩
  · exact ⟨_, cap, rfl⟩

/-- What Missing hands back. -/
def MissEnd (w : World) (L : List Int) (e : Ending) (W' : World) : Prop :=
  ∃ A cap, e = .returned (.slice A L.length cap) ∧ W'.ownsRow w.heap.size 3 1 (.slice A L.length cap) L.length (L.map (Value.int .i64)) ∧ Below w.heap.size w W'

/-- Between two rounds. -/
def MsI (w : World) (s : Wd) (c : Nat) (pre : List (Ent s)) (W : World) : Prop :=
  (∃ v, Boxed W (w.heap.size + 1) 22 v ∧ W.ownsRow (w.heap.size + 4) 3 1 v (msF s c pre).2.length ((msF s c pre).2.map (Value.int .i64)) ∧ True) ∧ Boxed W (w.heap.size + 1 + 1) 3 (.int .i64 (msF s c pre).1) ∧ Boxed W w.heap.size 3 (.int .i64 (c : Int)) ∧ Below w.heap.size w W ∧ w.heap.size + 4 ≤ W.heap.size

theorem ownFrom_size {β : Type} (B k : Nat) : OwnFrom B (fun (_ : β) W => k ≤ W.heap.size) := fun _ _ _ _ hs hg _ => Nat.le_trans hs hg.size

theorem msI_own (w : World) (s : Wd) (c : Nat) (B : Nat) (hB : w.heap.size ≤ B) : OwnFrom B (MsI w s c) :=
  OwnFrom.and (Own.from (holdsRow_own (w.heap.size + 4) (w.heap.size + 1) 22 3 1 (fun pre => (msF s c pre).2.length) (fun pre => (msF s c pre).2.map (Value.int .i64)) (fun _ _ => True)) _)
    (OwnFrom.and (Own.from (boxed_own _ _ (fun pre => Value.int .i64 (msF s c pre).1)) _) (OwnFrom.and (Own.from (boxed_own _ _ (fun _ => Value.int .i64 (c : Int))) _) (OwnFrom.and (ownFrom_below (Nat.le_refl _) hB) (ownFrom_size _ _))))

theorem Boxed.other {W : World} {B B' : Nat} {t : TypeId} {v : Value} (h : Boxed W B t v) (hne : B ≠ B') (v' : Value) : Boxed (W.setCell ⟨B', 0, none⟩ v') B t v := (Below.heap_setCell _ _ _ _ hne).trans h

/-- 'out = append(out, x)': the row's block lies at or above bb, so whatever lay below but the box lies as it lay. -/
theorem appended2 {W w1 : World} {n₀ bb B : Nat} {t e : TypeId} {size : Nat} {v v' : Value} {k m : Nat} {xs ys : List Value} {tmp : Obj}
    (hv : Boxed W B t v) (hte : t ≠ e) (hrow : W.ownsRow bb e size v k xs) (hnb : n₀ ≤ bb) (hbW : bb ≤ W.heap.size) (hB : n₀ ≤ B)
    (hown' : w1.ownsRow bb e size v' m ys) (hgrow : (W.alloc tmp).grownBy w1 v.ownBlock) :
    Boxed w1 B t v ∧ Boxed (w1.setCell ⟨B, 0, none⟩ v') B t v' ∧ (w1.setCell ⟨B, 0, none⟩ v').ownsRow bb e size v' m ys ∧ KeepsOthers W (w1.setCell ⟨B, 0, none⟩ v') ∧ Below n₀ W (w1.setCell ⟨B, 0, none⟩ v') ∧
      (∀ j, j < bb → w1.heap[j]? = W.heap[j]?) ∧ (∀ j, j < bb → j ≠ B → (w1.setCell ⟨B, 0, none⟩ v').heap[j]? = W.heap[j]?) := by
  have hv1 : Boxed w1 B t v := (hv.alloc tmp).kept hgrow (hv.not_row hte hrow)
  have hblk : ∀ j, j < bb → w1.heap[j]? = W.heap[j]? := fun j hj => by
    refine (hgrow.block j (by simp; omega) (fun ej => ?_)).trans (Below.heap_alloc _ _ _ (by omega))
    rcases hrow.2 with ⟨rfl, _⟩ | ⟨g, cap, cur, rfl, hb, _, _⟩
    · simp [Value.ownBlock] at ej
    · simp [Value.ownBlock] at ej; omega
  refine ⟨hv1, hv1.set v', hown'.kept (grownBy_setCell' w1 B v') (.inr (hv1.not_row hte hown').symm), ?_, ?_, hblk, fun j hj hne => (Below.heap_setCell _ _ _ _ hne).trans (hblk j hj)⟩
  · refine ((KeepsOthers.alloc W tmp).trans (KeepsOthers.of_grownBy hgrow fun j o ej hj => ?_)).trans (KeepsOthers.setCell _ _ _)
    rcases (hrow.alloc tmp).2 with ⟨rfl, _⟩ | ⟨g, cap, cur, rfl, _, hgb, _⟩
    · simp [Value.ownBlock] at ej
    · obtain rfl : g = j := by simpa [Value.ownBlock] using ej
      rw [hgb] at hj; cases hj; rfl
  · refine (((Below.refl n₀ W).alloc (by omega) tmp).grown hgrow (by simp; omega) fun j ej => ?_).setCell (p := ⟨B, 0, none⟩) hB v'
    rcases hrow.2 with ⟨rfl, _⟩ | ⟨g, cap, cur, rfl, hb, _, _⟩
    · simp [Value.ownBlock] at ej
    · obtain rfl : g = j := by simpa [Value.ownBlock] using ej
      omega

theorem ownsRow_setCell {W : World} {bb B e size k : Nat} {v u : Value} {xs : List Value} (h : W.ownsRow bb e size v k xs) (hB : B < bb) : (W.setCell ⟨B, 0, none⟩ u).ownsRow bb e size v k xs := by
  refine h.kept (grownBy_setCell' W B u) ?_
  rcases h.2 with ⟨rfl, _⟩ | ⟨g, cap, cur, rfl, hb, _, _⟩
  · exact .inl rfl
  · refine .inr fun ej => ?_
    simp [Value.ownBlock] at ej; omega

theorem ownsRow_lower {W : World} {bb b0 e size k : Nat} {v : Value} {xs : List Value} (h : W.ownsRow bb e size v k xs) (hb : b0 ≤ bb) : W.ownsRow b0 e size v k xs := by
  refine ⟨h.1, ?_⟩
  rcases h.2 with h2 | ⟨g, cap, cur, h3, h4, h5⟩
  · exact .inl h2
  · exact .inr ⟨g, cap, cur, h3, by omega, h5⟩

/-- In the midst of a round: k numbers were added to L. -/
structure MsR (w W : World) (a : Int) (c : Nat) (L : List Int) (d k : Nat) (A : Option Addr) (ln cap : Nat) (wr : World) : Prop where
  eln : ln = L.length + k
  kd : k ≤ d
  kc : L.length + k ≤ c
  row : wr.ownsRow (w.heap.size + 4) 3 1 (.slice A ln cap) ln ((L ++ gapsN a k).map (Value.int .i64))
  out : Boxed wr (w.heap.size + 1) 22 (.slice A ln cap)
  nxt : Boxed wr (w.heap.size + 1 + 1) 3 (.int .i64 (a + (k : Int)))
  num : Boxed wr w.heap.size 3 (.int .i64 (c : Int))
  keep : KeepsOthers W wr
  below : Below w.heap.size W wr
  sz : w.heap.size + 4 ≤ wr.heap.size
  bn : wr.heap[w.heap.size + 1 + 1 + 1]? = W.heap[w.heap.size + 1 + 1 + 1]?

theorem msR_end {w W : World} {s : Wd} {a : Int} {c : Nat} {L : List Int} {y : Int} {k : Nat} {A : Option Addr} {ln cap : Nat} {wr : World} {pre : List (Ent s)} (B : Nat)
    (HR : MsR w W a c L (y - a).toNat k A ln cap wr) (hk : k = min (c - L.length) (y - a).toNat) (HS : msF s c pre = (y + 1, L ++ List.take (c - L.length) (gaps a y))) (HB : Below w.heap.size w W) :
    KeepsFrom B W (wr.setCell ⟨w.heap.size + 1 + 1, 0, none⟩ (.int .i64 (y + 1))) ∧ Kw w.heap.size (w.heap.size + 1 + 1 + 1) W (wr.setCell ⟨w.heap.size + 1 + 1, 0, none⟩ (.int .i64 (y + 1))) ∧
      MsI w s c pre (wr.setCell ⟨w.heap.size + 1 + 1, 0, none⟩ (.int .i64 (y + 1))) := by
  have hbel : Below w.heap.size W (wr.setCell ⟨w.heap.size + 1 + 1, 0, none⟩ (.int .i64 (y + 1))) := HR.below.setCell (p := ⟨w.heap.size + 1 + 1, 0, none⟩) (by show w.heap.size ≤ w.heap.size + 1 + 1; omega) _
  have hL : (msF s c pre).2 = L ++ gapsN a k := by rw [HS, gaps_take, ← hk]
  have hln : (msF s c pre).2.length = ln := by rw [hL, List.length_append, gapsN_len, HR.eln]
  refine ⟨(HR.keep.trans (KeepsOthers.setCell _ _ _)).from _, ⟨hbel, (Below.heap_setCell _ _ _ _ (by show w.heap.size + 1 + 1 + 1 ≠ w.heap.size + 1 + 1; omega)).trans HR.bn⟩, ⟨_, HR.out.other (by omega) _, ?_, trivial⟩, ?_, HR.num.other (by omega) _, HB.trans hbel, by simpa using HR.sz⟩
  · rw [hln, hL]
    exact ownsRow_setCell HR.row (by omega)
  · rw [HS]
    exact HR.nxt.set _

set_option maxRecDepth 100000 in
set_option maxHeartbeats 4000000 in
theorem missing37_in (F : Fence) (n : Nat) (hf : F.fn 37) (hfa : F.fn 38) (hfi : F.fn 42) (hro : F.round = none) (hn : 3 ≤ n) (b m q : Nat) (s : Wd) (c : Nat) (w : World) (hW : Wn 67 w b m q s) (hv : Iv q s) (hq : q < 1000000) (hc : c ≤ 64) :
    CallsIn F n Try.prog 37 #[.pointer (some ⟨b, 0, none⟩), .int .i64 (c : Int)] w (MissEnd w (missOf s c)) := by
  have h1 : 1 ≤ n := by omega
  obtain ⟨i0, hi, hz0, hz1, hz2⟩ := info_parts info3
  have hp0 := hv.p0
  have hp1 := hv.p1
  have hp2 := hv.p2
  have hp3 := hv.p3
  have hp4 := hv.p4
  have hc0 := hW.c0
  have hwr0 : IntKind.i64.wrap (s.fr + 1) = s.fr + 1 := IntWalk.i64_in _ (by omega)
  have hmx : ¬ ((c : Int) < 0) := by omega
  have hmn : ¬ ((64 : Int) < (c : Int)) := by omega
  have hbl := hW.blt
  have hml := hW.mlt
  have HW := Aside0.mk hW
  have HV := Aside0.mk hv
  clear hW hv
  refine callsIn_of_wp_marks Try.func37 rfl hf ?_ hro
  simp only [Try.ntmps37, List.size_toArray, List.length_cons, List.length_nil, Nat.reduceAdd, Nat.reduceSub, Array.replicate_succ, Array.replicate_zero, List.push_toArray, List.append_toArray, List.nil_append, List.cons_append]
  gi_wp2_with (gi_at_call 38; refine (all38_in F (n - 1) hfa hro _ _).mono ?_; rintro e w' ⟨rfl, rfl⟩)
  obtain ⟨w1, hw1⟩ : ∃ w1, ((((w.alloc (.cells #[.int .i64 (c : Int)] 3)).alloc (.cells #[.slice none 0 0] 22)).alloc (.cells #[.int .i64 (s.fr + 1)] 3)).alloc (.cells #[.pointer (some ⟨b, 0, none⟩)] 32)) = w1 := ⟨_, rfl⟩
  have hs1 : w1.heap.size = w.heap.size + 1 + 1 + 1 + 1 := by rw [← hw1]; simp
  have b0 : Boxed w1 w.heap.size 3 (.int .i64 (c : Int)) := by rw [← hw1]; exact (((Boxed.new w 3 _).alloc _).alloc _).alloc _
  have b1 : Boxed w1 (w.heap.size + 1) 22 (.slice none 0 0) := by
    rw [← hw1]
    have := Boxed.new (w.alloc (.cells #[.int .i64 (c : Int)] 3)) 22 (.slice none 0 0)
    rw [World.size_alloc] at this
    exact (this.alloc _).alloc _
  have b2 : Boxed w1 (w.heap.size + 1 + 1) 3 (.int .i64 (s.fr + 1)) := by
    rw [← hw1]
    have := Boxed.new ((w.alloc (.cells #[.int .i64 (c : Int)] 3)).alloc (.cells #[.slice none 0 0] 22)) 3 (.int .i64 (s.fr + 1))
    rw [World.size_alloc, World.size_alloc] at this
    exact this.alloc _
  have b3 : Boxed w1 (w.heap.size + 1 + 1 + 1) 32 (.pointer (some ⟨b, 0, none⟩)) := by
    rw [← hw1]
    have := Boxed.new (((w.alloc (.cells #[.int .i64 (c : Int)] 3)).alloc (.cells #[.slice none 0 0] 22)).alloc (.cells #[.int .i64 (s.fr + 1)] 3)) 32 (.pointer (some ⟨b, 0, none⟩))
    rw [World.size_alloc, World.size_alloc, World.size_alloc] at this
    exact this
  have hB1 : Below w.heap.size w w1 := by
    rw [← hw1]
    exact ((((Below.refl _ w).alloc (Nat.le_refl _) _).alloc (by simp) _).alloc (by simp; omega) _).alloc (by simp; omega) _
  rw [hw1]
  clear hw1 hc0
  have HB3 := Aside0.mk b3
  refine wpIn_rangeFunc_ownG hro h1 (gf := 42) (lb := #[.pointer (some ⟨w.heap.size + 1 + 1 + 1, 0, none⟩)]) rfl hfi (enters_of Try.func42 (by kernel_rfl) rfl)
    (stops42 F (n - 1) hfi hro (by omega) (w.heap.size + 1 + 1 + 1) w.heap.size b m q s HV.out hq hbl hml w1 (by omega) b3 (HW.out.below hB1 hbl hml)) kw_t (kw_b (by omega) (by omega)) (Below.refl _ _) (fun _ => rfl)
    (MsI w s c) (fun _ _ _ => False) (msI_own w s c _ (by omega)) (fun _ _ _ _ _ hs _ _ => hs)
    ⟨⟨_, b1, World.ownsRow_nil _ _ _ _, trivial⟩, b2, b0, hB1, by omega⟩
    (fun x => { tmps := #[.pointer (some ⟨b, 0, none⟩), .int .i64 (c : Int), undef, .pointer (some ⟨w.heap.size, 0, none⟩), .slice none 0 0, .pointer (some ⟨w.heap.size + 1, 0, none⟩), .pointer (some ⟨w.heap.size + 1 + 1, 0, none⟩), .int .i64 x.1.1, .int .i64 (c : Int), .int .i64 (c : Int), .int .i64 (c : Int), .pointer (some ⟨b, 0, none⟩), .pointer (some ⟨b, 0, none⟩), .pointer (some ⟨b, 0, none⟩), .int .i64 s.fr, .int .i64 (s.fr + 1), .pointer (some ⟨b, 0, none⟩), .func (.func 42) #[] #[.pointer (some ⟨w.heap.size + 1 + 1 + 1, 0, none⟩)], .int .i64 x.1.1, x.1.2, undef, undef, undef, undef, undef, undef, undef, undef, undef, undef, undef, undef, undef, undef, undef, undef, undef, undef], defers := [] }) ?assign ?body ?done ?stop
  case assign =>
    intro l x W K hK
    gi_wp2
    exact hK
  case body =>
    rintro l pre ⟨⟨y, xv⟩, hx⟩ W ⟨⟨v, hv, hrow, -⟩, hnx, hnum, hB, hz⟩ hlt
    clear b0 b1 b2 b3
    obtain ⟨A0, cap0, rfl⟩ := slice_of_row hrow
    obtain ⟨a, ha⟩ : ∃ a, a = (msF s c pre).1 := ⟨_, rfl⟩
    obtain ⟨L, hL⟩ : ∃ L, L = (msF s c pre).2 := ⟨_, rfl⟩
    have hms := msF_fst HV.out c pre
    have hml := msF_len s c pre
    have hxr := HV.out.in3 y (by rw [show s.f y = some xv from hx]; rfl)
    have HS := Aside0.mk (msF_snoc s c pre ⟨(y, xv), hx⟩)
    dsimp only at HS
    rw [← ha, ← hL] at HS
    rw [← ha] at hnx hms
    rw [← hL] at hrow hml hv
    clear ha hL
    have HR0 : MsR w W a c L (y - a).toNat 0 A0 L.length cap0 W := ⟨rfl, Nat.zero_le _, hml, by simpa [gapsN] using hrow, hv, by simpa using hnx, hnum, KeepsOthers.refl _, Below.refl _ _, hz, rfl⟩
    have HR0 := Aside0.mk HR0
    have HB := Aside0.mk hB
    clear hrow hv hnx hnum hB hz
    gi_wp2
    gi_loopw [] (fun wr => ∃ (k : Nat) (A : Option Addr) (ln cap : Nat), Aside0 (MsR w W a c L (y - a).toNat k A ln cap wr)) (fun wr => (y - intOf ((wr.cell? ⟨w.heap.size + 1 + 1, 0, none⟩).getD undef)).toNat)
    case atStart => exact ⟨0, A0, L.length, cap0, HR0⟩
    case round =>
      clear HR0
      obtain ⟨k, A, ln, cap, HR⟩ := hrel
      have c0 := HR.out.num.cell
      have c1 := HR.out.out.cell
      have c2 := HR.out.nxt.cell
      have f2 := HR.out.nxt.frozen
      have hkd := HR.out.kd
      have hkc := HR.out.kc
      have HLN := Aside0.mk HR.out.eln
      have hlc : ln ≤ c := by have := HLN.out; omega
      have HKC := Aside0.mk (And.intro hkd hkc)
      clear hkc hkd
      have hwy : IntKind.i64.wrap (y + 1) = y + 1 := IntWalk.i64_in _ (by omega)
      by_cases g1 : a + (k : Int) < y
      · by_cases g2 : ln < c
        · have hrow := HR.out.row
          have hout := HR.out.out
          have hwk : IntKind.i64.wrap (a + (k : Int) + 1) = a + (k : Int) + 1 := IntWalk.i64_in _ (by omega)
          have hsz : W.heap.size ≤ wr.heap.size := HR.out.below.size
          have hsz2 : w.heap.size + 4 ≤ wr.heap.size := HR.out.sz
          have hnxt := HR.out.nxt
          gi_wp2_with (gi_at_builtin; refine wpListIn_append_own _ rfl _ _ 22 rfl (w.heap.size + 4) 3 i0 (.int .i64 0) 1 8 Try.underlying22 hi hz0 hz1 hz2 rfl (by decide) _ _ _ rfl (hrow.alloc _) ⟨wr.heap.size, 0, none⟩ 1 1 [.int .i64 (a + (k : Int))] rfl rfl (cell_one_new _ _ _) (by simp [Value.oneCell']) (by simp [maxLen]; omega) (by omega) (by simp; omega) ?_; intro v' w2 hown' hgrow _; obtain ⟨g', cap', rfl⟩ := ownsRow_succ hown'; obtain ⟨hv1, hv2, hr2, hk2, hb2, hl1, hl2⟩ := appended2 (n₀ := w.heap.size) hout (by decide) hrow (by omega) hsz2 (by omega) hown' hgrow; have hc1 := hv1.cell; have hf1 := hv1.frozen; have hn2 : Boxed (w2.setCell ⟨w.heap.size + 1, 0, none⟩ (.slice (some ⟨g', 0, none⟩) (ln + 1) cap')) (w.heap.size + 1 + 1) 3 (.int .i64 (a + (k : Int))) := (hl2 _ (by omega) (by omega)).trans hnxt; have hc2 := hn2.cell; have hf2 := hn2.frozen; have HX := Aside0.mk (And.intro hv2 (And.intro hr2 (And.intro hk2 (And.intro hb2 (And.intro hl2 hn2))))); clear hl1 hl2 hr2 hk2 hb2 hv2 hn2 hv1)
          go_roundw
          case rel =>
            obtain ⟨x1, x2, x3, x4, x5, x6⟩ := HX.out
            refine ⟨k + 1, some ⟨g', 0, none⟩, ln + 1, cap', ⟨⟨by have := HLN.out; omega, by omega, by have := HLN.out; omega, ?_, x1.other (by omega) _, ?_, ?_, HR.out.keep.trans (x3.trans (KeepsOthers.setCell _ _ _)), (HR.out.below.trans x4).setCell (p := ⟨w.heap.size + 1 + 1, 0, none⟩) (by show w.heap.size ≤ w.heap.size + 1 + 1; omega) _, ?_, ?_⟩⟩⟩
            · have hh := ownsRow_setCell (B := w.heap.size + 1 + 1) (u := .int .i64 (a + (k : Int) + 1)) x2 (by omega)
              rw [gapsN_succ, ← List.append_assoc, List.map_append]
              exact hh
            · have hh := x6.set (.int .i64 (a + (k : Int) + 1))
              rw [show a + ((k + 1 : Nat) : Int) = a + (k : Int) + 1 by push_cast; omega]
              exact hh
            · exact Boxed.other ((x5 _ (by omega) (by omega)).trans HR.out.num) (by omega) _
            · have h4 := x4.size
              have h5 := HR.out.sz
              simp at h4 ⊢
              omega
            · exact ((Below.heap_setCell _ _ _ _ (by show w.heap.size + 1 + 1 + 1 ≠ w.heap.size + 1 + 1; omega)).trans (x5 _ (by omega) (by omega))).trans HR.out.bn
          case measure =>
            obtain ⟨x1, x2, x3, x4, x5, x6⟩ := HX.out
            rw [HR.out.nxt.cell, (x6.set _).cell]
            simp [intOf]
            omega
        · gi_wp2
          exact msR_end _ HR.out (by have := HKC.out; have := HLN.out; omega) HS.out HB.out
      · gi_wp2
        exact msR_end _ HR.out (by have := HKC.out; have := HLN.out; omega) HS.out HB.out
  case done =>
    rintro D ys W hD rfl ⟨⟨v, hv, hrow, -⟩, hnx, hnum, hB, hz⟩ hK
    obtain ⟨A0, cap0, rfl⟩ := slice_of_row hrow
    have hc := hv.cell
    gi_wp2
    refine ⟨by simp, .inl ⟨_, _, rfl, run_takeDeferred hK, ?_⟩⟩
    exact ⟨_, results_tmp rfl _ _ _, A0, cap0, rfl, ownsRow_lower (ownsRow_putObj hrow _ hK rfl) (by omega), hB.trans (belowK_b (w := w) (Nat.le_refl _) W D _ _ (by omega) hK rfl rfl)⟩
  case stop =>
    rintro D c' pre W _ _ h _
    exact h.elim

set_option maxRecDepth 100000 in
set_option maxHeartbeats 4000000 in
theorem missing13_in (F : Fence) (n : Nat) (hf : F.fn 13) (hfa : F.fn 35) (hfi : F.fn 41) (hro : F.round = none) (hn : 3 ≤ n) (b m q : Nat) (s : Wd) (c : Nat) (w : World) (hW : Wn 61 w b m q s) (hv : Iv q s) (hq : q < 1000000) (hc : c ≤ 64) :
    CallsIn F n Try.prog 13 #[.pointer (some ⟨b, 0, none⟩), .int .i64 (c : Int)] w (MissEnd w (missOf s c)) := by
  have h1 : 1 ≤ n := by omega
  obtain ⟨i0, hi, hz0, hz1, hz2⟩ := info_parts info3
  have hp0 := hv.p0
  have hp1 := hv.p1
  have hp2 := hv.p2
  have hp3 := hv.p3
  have hp4 := hv.p4
  have hc0 := hW.c0
  have hwr0 : IntKind.i64.wrap (s.fr + 1) = s.fr + 1 := IntWalk.i64_in _ (by omega)
  have hmx : ¬ ((c : Int) < 0) := by omega
  have hmn : ¬ ((64 : Int) < (c : Int)) := by omega
  have hbl := hW.blt
  have hml := hW.mlt
  have HW := Aside0.mk hW
  have HV := Aside0.mk hv
  clear hW hv
  refine callsIn_of_wp_marks Try.func13 rfl hf ?_ hro
  simp only [Try.ntmps13, List.size_toArray, List.length_cons, List.length_nil, Nat.reduceAdd, Nat.reduceSub, Array.replicate_succ, Array.replicate_zero, List.push_toArray, List.append_toArray, List.nil_append, List.cons_append]
  gi_wp2_with (gi_at_call 35; refine (all35_in F (n - 1) hfa hro _ _).mono ?_; rintro e w' ⟨rfl, rfl⟩)
  obtain ⟨w1, hw1⟩ : ∃ w1, ((((w.alloc (.cells #[.int .i64 (c : Int)] 3)).alloc (.cells #[.slice none 0 0] 22)).alloc (.cells #[.int .i64 (s.fr + 1)] 3)).alloc (.cells #[.pointer (some ⟨b, 0, none⟩)] 23)) = w1 := ⟨_, rfl⟩
  have hs1 : w1.heap.size = w.heap.size + 1 + 1 + 1 + 1 := by rw [← hw1]; simp
  have b0 : Boxed w1 w.heap.size 3 (.int .i64 (c : Int)) := by rw [← hw1]; exact (((Boxed.new w 3 _).alloc _).alloc _).alloc _
  have b1 : Boxed w1 (w.heap.size + 1) 22 (.slice none 0 0) := by
    rw [← hw1]
    have := Boxed.new (w.alloc (.cells #[.int .i64 (c : Int)] 3)) 22 (.slice none 0 0)
    rw [World.size_alloc] at this
    exact (this.alloc _).alloc _
  have b2 : Boxed w1 (w.heap.size + 1 + 1) 3 (.int .i64 (s.fr + 1)) := by
    rw [← hw1]
    have := Boxed.new ((w.alloc (.cells #[.int .i64 (c : Int)] 3)).alloc (.cells #[.slice none 0 0] 22)) 3 (.int .i64 (s.fr + 1))
    rw [World.size_alloc, World.size_alloc] at this
    exact this.alloc _
  have b3 : Boxed w1 (w.heap.size + 1 + 1 + 1) 23 (.pointer (some ⟨b, 0, none⟩)) := by
    rw [← hw1]
    have := Boxed.new (((w.alloc (.cells #[.int .i64 (c : Int)] 3)).alloc (.cells #[.slice none 0 0] 22)).alloc (.cells #[.int .i64 (s.fr + 1)] 3)) 23 (.pointer (some ⟨b, 0, none⟩))
    rw [World.size_alloc, World.size_alloc, World.size_alloc] at this
    exact this
  have hB1 : Below w.heap.size w w1 := by
    rw [← hw1]
    exact ((((Below.refl _ w).alloc (Nat.le_refl _) _).alloc (by simp) _).alloc (by simp; omega) _).alloc (by simp; omega) _
  rw [hw1]
  clear hw1 hc0
  have HB3 := Aside0.mk b3
  refine wpIn_rangeFunc_ownG hro h1 (gf := 41) (lb := #[.pointer (some ⟨w.heap.size + 1 + 1 + 1, 0, none⟩)]) rfl hfi (enters_of Try.func41 (by kernel_rfl) rfl)
    (stops41 F (n - 1) hfi hro (by omega) (w.heap.size + 1 + 1 + 1) w.heap.size b m q s HV.out hq hbl hml w1 (by omega) b3 (HW.out.below hB1 hbl hml)) kw_t (kw_b (by omega) (by omega)) (Below.refl _ _) (fun _ => rfl)
    (MsI w s c) (fun _ _ _ => False) (msI_own w s c _ (by omega)) (fun _ _ _ _ _ hs _ _ => hs)
    ⟨⟨_, b1, World.ownsRow_nil _ _ _ _, trivial⟩, b2, b0, hB1, by omega⟩
    (fun x => { tmps := #[.pointer (some ⟨b, 0, none⟩), .int .i64 (c : Int), undef, .pointer (some ⟨w.heap.size, 0, none⟩), .slice none 0 0, .pointer (some ⟨w.heap.size + 1, 0, none⟩), .pointer (some ⟨w.heap.size + 1 + 1, 0, none⟩), .int .i64 x.1.1, .int .i64 (c : Int), .int .i64 (c : Int), .int .i64 (c : Int), .pointer (some ⟨b, 0, none⟩), .pointer (some ⟨b, 0, none⟩), .pointer (some ⟨b, 0, none⟩), .int .i64 s.fr, .int .i64 (s.fr + 1), .pointer (some ⟨b, 0, none⟩), .func (.func 41) #[] #[.pointer (some ⟨w.heap.size + 1 + 1 + 1, 0, none⟩)], .int .i64 x.1.1, x.1.2, undef, undef, undef, undef, undef, undef, undef, undef, undef, undef, undef, undef, undef, undef, undef, undef, undef, undef], defers := [] }) ?assign ?body ?done ?stop
  case assign =>
    intro l x W K hK
    gi_wp2
    exact hK
  case body =>
    rintro l pre ⟨⟨y, xv⟩, hx⟩ W ⟨⟨v, hv, hrow, -⟩, hnx, hnum, hB, hz⟩ hlt
    clear b0 b1 b2 b3
    obtain ⟨A0, cap0, rfl⟩ := slice_of_row hrow
    obtain ⟨a, ha⟩ : ∃ a, a = (msF s c pre).1 := ⟨_, rfl⟩
    obtain ⟨L, hL⟩ : ∃ L, L = (msF s c pre).2 := ⟨_, rfl⟩
    have hms := msF_fst HV.out c pre
    have hml := msF_len s c pre
    have hxr := HV.out.in3 y (by rw [show s.f y = some xv from hx]; rfl)
    have HS := Aside0.mk (msF_snoc s c pre ⟨(y, xv), hx⟩)
    dsimp only at HS
    rw [← ha, ← hL] at HS
    rw [← ha] at hnx hms
    rw [← hL] at hrow hml hv
    clear ha hL
    have HR0 : MsR w W a c L (y - a).toNat 0 A0 L.length cap0 W := ⟨rfl, Nat.zero_le _, hml, by simpa [gapsN] using hrow, hv, by simpa using hnx, hnum, KeepsOthers.refl _, Below.refl _ _, hz, rfl⟩
    have HR0 := Aside0.mk HR0
    have HB := Aside0.mk hB
    clear hrow hv hnx hnum hB hz
    gi_wp2
    gi_loopw [] (fun wr => ∃ (k : Nat) (A : Option Addr) (ln cap : Nat), Aside0 (MsR w W a c L (y - a).toNat k A ln cap wr)) (fun wr => (y - intOf ((wr.cell? ⟨w.heap.size + 1 + 1, 0, none⟩).getD undef)).toNat)
    case atStart => exact ⟨0, A0, L.length, cap0, HR0⟩
    case round =>
      clear HR0
      obtain ⟨k, A, ln, cap, HR⟩ := hrel
      have c0 := HR.out.num.cell
      have c1 := HR.out.out.cell
      have c2 := HR.out.nxt.cell
      have f2 := HR.out.nxt.frozen
      have hkd := HR.out.kd
      have hkc := HR.out.kc
      have HLN := Aside0.mk HR.out.eln
      have hlc : ln ≤ c := by have := HLN.out; omega
      have HKC := Aside0.mk (And.intro hkd hkc)
      clear hkc hkd
      have hwy : IntKind.i64.wrap (y + 1) = y + 1 := IntWalk.i64_in _ (by omega)
      by_cases g1 : a + (k : Int) < y
      · by_cases g2 : ln < c
        · have hrow := HR.out.row
          have hout := HR.out.out
          have hwk : IntKind.i64.wrap (a + (k : Int) + 1) = a + (k : Int) + 1 := IntWalk.i64_in _ (by omega)
          have hsz : W.heap.size ≤ wr.heap.size := HR.out.below.size
          have hsz2 : w.heap.size + 4 ≤ wr.heap.size := HR.out.sz
          have hnxt := HR.out.nxt
          gi_wp2_with (gi_at_builtin; refine wpListIn_append_own _ rfl _ _ 22 rfl (w.heap.size + 4) 3 i0 (.int .i64 0) 1 8 Try.underlying22 hi hz0 hz1 hz2 rfl (by decide) _ _ _ rfl (hrow.alloc _) ⟨wr.heap.size, 0, none⟩ 1 1 [.int .i64 (a + (k : Int))] rfl rfl (cell_one_new _ _ _) (by simp [Value.oneCell']) (by simp [maxLen]; omega) (by omega) (by simp; omega) ?_; intro v' w2 hown' hgrow _; obtain ⟨g', cap', rfl⟩ := ownsRow_succ hown'; obtain ⟨hv1, hv2, hr2, hk2, hb2, hl1, hl2⟩ := appended2 (n₀ := w.heap.size) hout (by decide) hrow (by omega) hsz2 (by omega) hown' hgrow; have hc1 := hv1.cell; have hf1 := hv1.frozen; have hn2 : Boxed (w2.setCell ⟨w.heap.size + 1, 0, none⟩ (.slice (some ⟨g', 0, none⟩) (ln + 1) cap')) (w.heap.size + 1 + 1) 3 (.int .i64 (a + (k : Int))) := (hl2 _ (by omega) (by omega)).trans hnxt; have hc2 := hn2.cell; have hf2 := hn2.frozen; have HX := Aside0.mk (And.intro hv2 (And.intro hr2 (And.intro hk2 (And.intro hb2 (And.intro hl2 hn2))))); clear hl1 hl2 hr2 hk2 hb2 hv2 hn2 hv1)
          go_roundw
          case rel =>
            obtain ⟨x1, x2, x3, x4, x5, x6⟩ := HX.out
            refine ⟨k + 1, some ⟨g', 0, none⟩, ln + 1, cap', ⟨⟨by have := HLN.out; omega, by omega, by have := HLN.out; omega, ?_, x1.other (by omega) _, ?_, ?_, HR.out.keep.trans (x3.trans (KeepsOthers.setCell _ _ _)), (HR.out.below.trans x4).setCell (p := ⟨w.heap.size + 1 + 1, 0, none⟩) (by show w.heap.size ≤ w.heap.size + 1 + 1; omega) _, ?_, ?_⟩⟩⟩
            · have hh := ownsRow_setCell (B := w.heap.size + 1 + 1) (u := .int .i64 (a + (k : Int) + 1)) x2 (by omega)
              rw [gapsN_succ, ← List.append_assoc, List.map_append]
              exact hh
            · have hh := x6.set (.int .i64 (a + (k : Int) + 1))
              rw [show a + ((k + 1 : Nat) : Int) = a + (k : Int) + 1 by push_cast; omega]
              exact hh
            · exact Boxed.other ((x5 _ (by omega) (by omega)).trans HR.out.num) (by omega) _
            · have h4 := x4.size
              have h5 := HR.out.sz
              simp at h4 ⊢
              omega
            · exact ((Below.heap_setCell _ _ _ _ (by show w.heap.size + 1 + 1 + 1 ≠ w.heap.size + 1 + 1; omega)).trans (x5 _ (by omega) (by omega))).trans HR.out.bn
          case measure =>
            obtain ⟨x1, x2, x3, x4, x5, x6⟩ := HX.out
            rw [HR.out.nxt.cell, (x6.set _).cell]
            simp [intOf]
            omega
        · gi_wp2
          exact msR_end _ HR.out (by have := HKC.out; have := HLN.out; omega) HS.out HB.out
      · gi_wp2
        exact msR_end _ HR.out (by have := HKC.out; have := HLN.out; omega) HS.out HB.out
  case done =>
    rintro D ys W hD rfl ⟨⟨v, hv, hrow, -⟩, hnx, hnum, hB, hz⟩ hK
    obtain ⟨A0, cap0, rfl⟩ := slice_of_row hrow
    have hc := hv.cell
    gi_wp2
    refine ⟨by simp, .inl ⟨_, _, rfl, run_takeDeferred hK, ?_⟩⟩
    exact ⟨_, results_tmp rfl _ _ _, A0, cap0, rfl, ownsRow_lower (ownsRow_putObj hrow _ hK rfl) (by omega), hB.trans (belowK_b (w := w) (Nat.le_refl _) W D _ _ (by omega) hK rfl rfl)⟩
  case stop =>
    rintro D c' pre W _ _ h _
    exact h.elim

set_option maxRecDepth 100000 in
set_option maxHeartbeats 4000000 in
theorem missing27_in (F : Fence) (n : Nat) (hf : F.fn 27) (hfa : F.fn 22) (hfi : F.fn 40) (hro : F.round = none) (hn : 3 ≤ n) (b m q : Nat) (s : Wd) (c : Nat) (w : World) (hW : Wn 70 w b m q s) (hv : Iv q s) (hq : q < 1000000) (hc : c ≤ 64) :
    CallsIn F n Try.prog 27 #[.pointer (some ⟨b, 0, none⟩), .int .i64 (c : Int)] w (MissEnd w (missOf s c)) := by
  have h1 : 1 ≤ n := by omega
  obtain ⟨i0, hi, hz0, hz1, hz2⟩ := info_parts info3
  have hp0 := hv.p0
  have hp1 := hv.p1
  have hp2 := hv.p2
  have hp3 := hv.p3
  have hp4 := hv.p4
  have hc0 := hW.c0
  have hwr0 : IntKind.i64.wrap (s.fr + 1) = s.fr + 1 := IntWalk.i64_in _ (by omega)
  have hmx : ¬ ((c : Int) < 0) := by omega
  have hmn : ¬ ((64 : Int) < (c : Int)) := by omega
  have hbl := hW.blt
  have hml := hW.mlt
  have HW := Aside0.mk hW
  have HV := Aside0.mk hv
  clear hW hv
  refine callsIn_of_wp_marks Try.func27 rfl hf ?_ hro
  simp only [Try.ntmps27, List.size_toArray, List.length_cons, List.length_nil, Nat.reduceAdd, Nat.reduceSub, Array.replicate_succ, Array.replicate_zero, List.push_toArray, List.append_toArray, List.nil_append, List.cons_append]
  gi_wp2_with (gi_at_call 22; refine (all22_in F (n - 1) hfa hro _ _).mono ?_; rintro e w' ⟨rfl, rfl⟩)
  obtain ⟨w1, hw1⟩ : ∃ w1, ((((w.alloc (.cells #[.int .i64 (c : Int)] 3)).alloc (.cells #[.slice none 0 0] 22)).alloc (.cells #[.int .i64 (s.fr + 1)] 3)).alloc (.cells #[.pointer (some ⟨b, 0, none⟩)] 38)) = w1 := ⟨_, rfl⟩
  have hs1 : w1.heap.size = w.heap.size + 1 + 1 + 1 + 1 := by rw [← hw1]; simp
  have b0 : Boxed w1 w.heap.size 3 (.int .i64 (c : Int)) := by rw [← hw1]; exact (((Boxed.new w 3 _).alloc _).alloc _).alloc _
  have b1 : Boxed w1 (w.heap.size + 1) 22 (.slice none 0 0) := by
    rw [← hw1]
    have := Boxed.new (w.alloc (.cells #[.int .i64 (c : Int)] 3)) 22 (.slice none 0 0)
    rw [World.size_alloc] at this
    exact (this.alloc _).alloc _
  have b2 : Boxed w1 (w.heap.size + 1 + 1) 3 (.int .i64 (s.fr + 1)) := by
    rw [← hw1]
    have := Boxed.new ((w.alloc (.cells #[.int .i64 (c : Int)] 3)).alloc (.cells #[.slice none 0 0] 22)) 3 (.int .i64 (s.fr + 1))
    rw [World.size_alloc, World.size_alloc] at this
    exact this.alloc _
  have b3 : Boxed w1 (w.heap.size + 1 + 1 + 1) 38 (.pointer (some ⟨b, 0, none⟩)) := by
    rw [← hw1]
    have := Boxed.new (((w.alloc (.cells #[.int .i64 (c : Int)] 3)).alloc (.cells #[.slice none 0 0] 22)).alloc (.cells #[.int .i64 (s.fr + 1)] 3)) 38 (.pointer (some ⟨b, 0, none⟩))
    rw [World.size_alloc, World.size_alloc, World.size_alloc] at this
    exact this
  have hB1 : Below w.heap.size w w1 := by
    rw [← hw1]
    exact ((((Below.refl _ w).alloc (Nat.le_refl _) _).alloc (by simp) _).alloc (by simp; omega) _).alloc (by simp; omega) _
  rw [hw1]
  clear hw1 hc0
  have HB3 := Aside0.mk b3
  refine wpIn_rangeFunc_ownG hro h1 (gf := 40) (lb := #[.pointer (some ⟨w.heap.size + 1 + 1 + 1, 0, none⟩)]) rfl hfi (enters_of Try.func40 (by kernel_rfl) rfl)
    (stops40 F (n - 1) hfi hro (by omega) (w.heap.size + 1 + 1 + 1) w.heap.size b m q s HV.out hq hbl hml w1 (by omega) b3 (HW.out.below hB1 hbl hml)) kw_t (kw_b (by omega) (by omega)) (Below.refl _ _) (fun _ => rfl)
    (MsI w s c) (fun _ _ _ => False) (msI_own w s c _ (by omega)) (fun _ _ _ _ _ hs _ _ => hs)
    ⟨⟨_, b1, World.ownsRow_nil _ _ _ _, trivial⟩, b2, b0, hB1, by omega⟩
    (fun x => { tmps := #[.pointer (some ⟨b, 0, none⟩), .int .i64 (c : Int), undef, .pointer (some ⟨w.heap.size, 0, none⟩), .slice none 0 0, .pointer (some ⟨w.heap.size + 1, 0, none⟩), .pointer (some ⟨w.heap.size + 1 + 1, 0, none⟩), .int .i64 x.1.1, .int .i64 (c : Int), .int .i64 (c : Int), .int .i64 (c : Int), .pointer (some ⟨b, 0, none⟩), .pointer (some ⟨b, 0, none⟩), .pointer (some ⟨b, 0, none⟩), .int .i64 s.fr, .int .i64 (s.fr + 1), .pointer (some ⟨b, 0, none⟩), .func (.func 40) #[] #[.pointer (some ⟨w.heap.size + 1 + 1 + 1, 0, none⟩)], .int .i64 x.1.1, x.1.2, undef, undef, undef, undef, undef, undef, undef, undef, undef, undef, undef, undef, undef, undef, undef, undef, undef, undef], defers := [] }) ?assign ?body ?done ?stop
  case assign =>
    intro l x W K hK
    gi_wp2
    exact hK
  case body =>
    rintro l pre ⟨⟨y, xv⟩, hx⟩ W ⟨⟨v, hv, hrow, -⟩, hnx, hnum, hB, hz⟩ hlt
    clear b0 b1 b2 b3
    obtain ⟨A0, cap0, rfl⟩ := slice_of_row hrow
    obtain ⟨a, ha⟩ : ∃ a, a = (msF s c pre).1 := ⟨_, rfl⟩
    obtain ⟨L, hL⟩ : ∃ L, L = (msF s c pre).2 := ⟨_, rfl⟩
    have hms := msF_fst HV.out c pre
    have hml := msF_len s c pre
    have hxr := HV.out.in3 y (by rw [show s.f y = some xv from hx]; rfl)
    have HS := Aside0.mk (msF_snoc s c pre ⟨(y, xv), hx⟩)
    dsimp only at HS
    rw [← ha, ← hL] at HS
    rw [← ha] at hnx hms
    rw [← hL] at hrow hml hv
    clear ha hL
    have HR0 : MsR w W a c L (y - a).toNat 0 A0 L.length cap0 W := ⟨rfl, Nat.zero_le _, hml, by simpa [gapsN] using hrow, hv, by simpa using hnx, hnum, KeepsOthers.refl _, Below.refl _ _, hz, rfl⟩
    have HR0 := Aside0.mk HR0
    have HB := Aside0.mk hB
    clear hrow hv hnx hnum hB hz
    gi_wp2
    gi_loopw [] (fun wr => ∃ (k : Nat) (A : Option Addr) (ln cap : Nat), Aside0 (MsR w W a c L (y - a).toNat k A ln cap wr)) (fun wr => (y - intOf ((wr.cell? ⟨w.heap.size + 1 + 1, 0, none⟩).getD undef)).toNat)
    case atStart => exact ⟨0, A0, L.length, cap0, HR0⟩
    case round =>
      clear HR0
      obtain ⟨k, A, ln, cap, HR⟩ := hrel
      have c0 := HR.out.num.cell
      have c1 := HR.out.out.cell
      have c2 := HR.out.nxt.cell
      have f2 := HR.out.nxt.frozen
      have hkd := HR.out.kd
      have hkc := HR.out.kc
      have HLN := Aside0.mk HR.out.eln
      have hlc : ln ≤ c := by have := HLN.out; omega
      have HKC := Aside0.mk (And.intro hkd hkc)
      clear hkc hkd
      have hwy : IntKind.i64.wrap (y + 1) = y + 1 := IntWalk.i64_in _ (by omega)
      by_cases g1 : a + (k : Int) < y
      · by_cases g2 : ln < c
        · have hrow := HR.out.row
          have hout := HR.out.out
          have hwk : IntKind.i64.wrap (a + (k : Int) + 1) = a + (k : Int) + 1 := IntWalk.i64_in _ (by omega)
          have hsz : W.heap.size ≤ wr.heap.size := HR.out.below.size
          have hsz2 : w.heap.size + 4 ≤ wr.heap.size := HR.out.sz
          have hnxt := HR.out.nxt
          gi_wp2_with (gi_at_builtin; refine wpListIn_append_own _ rfl _ _ 22 rfl (w.heap.size + 4) 3 i0 (.int .i64 0) 1 8 Try.underlying22 hi hz0 hz1 hz2 rfl (by decide) _ _ _ rfl (hrow.alloc _) ⟨wr.heap.size, 0, none⟩ 1 1 [.int .i64 (a + (k : Int))] rfl rfl (cell_one_new _ _ _) (by simp [Value.oneCell']) (by simp [maxLen]; omega) (by omega) (by simp; omega) ?_; intro v' w2 hown' hgrow _; obtain ⟨g', cap', rfl⟩ := ownsRow_succ hown'; obtain ⟨hv1, hv2, hr2, hk2, hb2, hl1, hl2⟩ := appended2 (n₀ := w.heap.size) hout (by decide) hrow (by omega) hsz2 (by omega) hown' hgrow; have hc1 := hv1.cell; have hf1 := hv1.frozen; have hn2 : Boxed (w2.setCell ⟨w.heap.size + 1, 0, none⟩ (.slice (some ⟨g', 0, none⟩) (ln + 1) cap')) (w.heap.size + 1 + 1) 3 (.int .i64 (a + (k : Int))) := (hl2 _ (by omega) (by omega)).trans hnxt; have hc2 := hn2.cell; have hf2 := hn2.frozen; have HX := Aside0.mk (And.intro hv2 (And.intro hr2 (And.intro hk2 (And.intro hb2 (And.intro hl2 hn2))))); clear hl1 hl2 hr2 hk2 hb2 hv2 hn2 hv1)
          go_roundw
          case rel =>
            obtain ⟨x1, x2, x3, x4, x5, x6⟩ := HX.out
            refine ⟨k + 1, some ⟨g', 0, none⟩, ln + 1, cap', ⟨⟨by have := HLN.out; omega, by omega, by have := HLN.out; omega, ?_, x1.other (by omega) _, ?_, ?_, HR.out.keep.trans (x3.trans (KeepsOthers.setCell _ _ _)), (HR.out.below.trans x4).setCell (p := ⟨w.heap.size + 1 + 1, 0, none⟩) (by show w.heap.size ≤ w.heap.size + 1 + 1; omega) _, ?_, ?_⟩⟩⟩
            · have hh := ownsRow_setCell (B := w.heap.size + 1 + 1) (u := .int .i64 (a + (k : Int) + 1)) x2 (by omega)
              rw [gapsN_succ, ← List.append_assoc, List.map_append]
              exact hh
            · have hh := x6.set (.int .i64 (a + (k : Int) + 1))
              rw [show a + ((k + 1 : Nat) : Int) = a + (k : Int) + 1 by push_cast; omega]
              exact hh
            · exact Boxed.other ((x5 _ (by omega) (by omega)).trans HR.out.num) (by omega) _
            · have h4 := x4.size
              have h5 := HR.out.sz
              simp at h4 ⊢
              omega
            · exact ((Below.heap_setCell _ _ _ _ (by show w.heap.size + 1 + 1 + 1 ≠ w.heap.size + 1 + 1; omega)).trans (x5 _ (by omega) (by omega))).trans HR.out.bn
          case measure =>
            obtain ⟨x1, x2, x3, x4, x5, x6⟩ := HX.out
            rw [HR.out.nxt.cell, (x6.set _).cell]
            simp [intOf]
            omega
        · gi_wp2
          exact msR_end _ HR.out (by have := HKC.out; have := HLN.out; omega) HS.out HB.out
      · gi_wp2
        exact msR_end _ HR.out (by have := HKC.out; have := HLN.out; omega) HS.out HB.out
  case done =>
    rintro D ys W hD rfl ⟨⟨v, hv, hrow, -⟩, hnx, hnum, hB, hz⟩ hK
    obtain ⟨A0, cap0, rfl⟩ := slice_of_row hrow
    have hc := hv.cell
    gi_wp2
    refine ⟨by simp, .inl ⟨_, _, rfl, run_takeDeferred hK, ?_⟩⟩
    exact ⟨_, results_tmp rfl _ _ _, A0, cap0, rfl, ownsRow_lower (ownsRow_putObj hrow _ hK rfl) (by omega), hB.trans (belowK_b (w := w) (Nat.le_refl _) W D _ _ (by omega) hK rfl rfl)⟩
  case stop =>
    rintro D c' pre W _ _ h _
    exact h.elim
end Go.Proofs.Ythoekmedkmonhaa.Wi
