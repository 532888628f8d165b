/- Rows of numbers that are read, and whether two are the same. -/
import Derived.Outline
import Derived.IntWalk
import Derived.BigQuiet
import Derived.Deep.QuietTactic
import Derived.Test.YthoekmedkmonhaaWf
namespace Go.Proofs.Ythoekmedkmonhaa.Wi
open Go Go.RowKit Go.Maps Go.Shelf Go.Proofs.Ythoekmedkmonhaa Go.Proofs.YthoekmedkmonhaaW.PrintWords Go.Proofs.YthoekmedkmonhaaW.PrintLast Go.Proofs.YthoekmedkmonhaaW.PrintMore
set_option linter.unusedVariables false
set_option linter.unusedSimpArgs false

/-- A row of numbers lies at A. -/
def IR (w : World) (A : Option Addr) (l : List Int) : Prop :=
  l = [] ∨ ∃ g cur, A = some ⟨g, 0, none⟩ ∧ w.heap[g]? = some (.cells cur 3 (0, 0)) ∧ ∀ (i : Nat) (h : i < l.length), cur[i]? = some (.int .i64 l[i])

theorem IR.nil (w : World) (A : Option Addr) : IR w A [] := .inl rfl
theorem IR.below {w w' : World} {A : Option Addr} {l : List Int} (h : IR w A l) (hb : Below w.heap.size w w') : IR w' A l := by
  rcases h with rfl | ⟨g, cur, h1, h2, h3⟩
  · exact .inl rfl
  · exact .inr ⟨g, cur, h1, (hb.block g (Array.getElem?_eq_some_iff.1 h2).1).trans h2, h3⟩
theorem IR.drew {w : World} {A : Option Addr} {l : List Int} (h : IR w A l) : IR w.drew A l := h
theorem IR.take {w : World} {A : Option Addr} {l : List Int} (h : IR w A l) (k : Nat) : IR w A (l.take k) := by
  rcases h with rfl | ⟨g, cur, h1, h2, h3⟩
  · exact .inl (by simp)
  · refine .inr ⟨g, cur, h1, h2, fun i hi => ?_⟩
    rw [List.getElem_take]
    exact h3 i (by simp at hi; omega)
theorem IR.at {w : World} {A : Option Addr} {l : List Int} (h : IR w A l) (i : Nat) (hi : i < l.length) : ∃ g, A = some ⟨g, 0, none⟩ ∧ w.cell? ⟨g, i, none⟩ = some (.int .i64 (l.getD i 0)) := by
  rcases h with rfl | ⟨g, cur, h1, h2, h3⟩
  · simp at hi
  · refine ⟨g, h1, ?_⟩
    simp [World.cell?, h2, h3 i hi, hi]
theorem IR.of_row {w : World} {base : Nat} {A : Option Addr} {n cap : Nat} {l : List Int} (h : w.ownsRow base 3 1 (.slice A n cap) n (l.map (Value.int .i64))) : IR w A l := by
  have hl : l.length = n := by have := h.1; simpa using this
  rcases h.2 with ⟨h1, h2⟩ | ⟨g, cap', cur, h1, _, h2, h3, h4, h5, h6⟩
  · left
    exact List.eq_nil_of_length_eq_zero (by omega)
  · injection h1 with h1 _ _
    refine .inr ⟨g, cur, h1, h2, fun i hi => ?_⟩
    have h7 : (cur.toList.take (n * 1))[i]? = some (.int .i64 l[i]) := by rw [h6]; simp [hi]
    rw [List.getElem?_take] at h7
    rw [if_pos (by omega)] at h7
    simpa using h7
theorem IR.one {w : World} {g : Nat} {x : Int} (h : w.heap[g]? = some (.cells #[.int .i64 x] 3 (0, 0))) : IR w (some ⟨g, 0, none⟩) [x] :=
  .inr ⟨g, _, rfl, h, fun i hi => by
    have : i = 0 := by simp at hi; omega
    subst this
    rfl⟩

theorem take_succ_eq {la lb : List Int} {k : Nat} (h : la.take k = lb.take k) (ha : k < la.length) (hb : k < lb.length) (he : la.getD k 0 = lb.getD k 0) : la.take (k + 1) = lb.take (k + 1) := by
  have h1 : la.take (k + 1) = la.take k ++ [la.getD k 0] := by rw [← List.take_append_getElem ha]; simp [ha]
  have h2 : lb.take (k + 1) = lb.take k ++ [lb.getD k 0] := by rw [← List.take_append_getElem hb]; simp [hb]
  rw [h1, h2, h, he]

theorem ne_of_getD {la lb : List Int} {k : Nat} (he : ¬ la.getD k 0 = lb.getD k 0) : decide (la = lb) = false := decide_eq_false (fun e => he (by rw [e]))

/-- What SameInts comes to. -/
def SameEnd (w : World) (r : Bool) (e : Ending) (w' : World) : Prop := e = .returned (.bool r) ∧ Below w.heap.size w w'

set_option maxHeartbeats 2000000 in
theorem same12 (A B : Option Addr) (ca cb : Nat) (la lb : List Int) (w : World) (ha : IR w A la) (hb : IR w B lb) (hl : la.length < 1000000000000) :
    Calls Try.prog 12 #[.slice A la.length ca, .slice B lb.length cb] w (SameEnd w (decide (la = lb))) := by
  have HA := Aside0.mk ha
  have HB := Aside0.mk hb
  clear ha hb
  by_cases hlen : la.length = lb.length
  · have hlb : decide (la.length = lb.length) = true := decide_eq_true hlen
    have HL := Aside0.mk hlen
    rw [← hlen]
    clear hlen hlb
    go_enter Try.func12, Try.ntmps12
    go_wp2_with fail
    go_loopw [5] (fun v wr => ∃ k : Nat, v = .int .i64 (k : Int) ∧ k ≤ la.length ∧ Aside0 (la.take k = lb.take k) ∧ Aside0 (Below w.heap.size w wr)) (fun v _ => la.length - (intOf v).toNat)
    case atStart => exact ⟨0, rfl, Nat.zero_le _, ⟨by simp⟩, ⟨Below.refl _ _⟩⟩
    case round =>
      obtain ⟨k, rfl, hk, HT, HW⟩ := hrel
      by_cases hlt : k < la.length
      · obtain ⟨g1, e1, d1⟩ := (HA.out.below HW.out).at k hlt
        obtain ⟨g2, e2, d2⟩ := (HB.out.below HW.out).at k (by rw [← HL.out]; exact hlt)
        cases e1
        cases e2
        have hki : (k : Int) < (la.length : Int) := by omega
        have hk0 : (0 : Int) ≤ (k : Int) := by omega
        by_cases he : la.getD k 0 = lb.getD k 0
        · rw [he] at d1
          obtain ⟨y, hy⟩ : ∃ y, y = lb.getD k 0 := ⟨_, rfl⟩
          rw [← hy] at d1 d2
          have f1 : wr.drew.cell? ⟨g1, k, none⟩ = some (.int .i64 y) := d1
          have f2 : wr.drew.cell? ⟨g2, k, none⟩ = some (.int .i64 y) := d2
          have HE := Aside0.mk he
          clear he hy
          go_wp2_with fail
          go_region
          go_wp2_with fail
          go_roundw
          case rel => exact ⟨k + 1, by push_cast; rfl, by omega, ⟨take_succ_eq HT.out hlt (by rw [← HL.out]; exact hlt) HE.out⟩, ⟨HW.out.drew⟩⟩
          case measure => simp [intOf]; omega
        · have HE := Aside0.mk (ne_of_getD he)
          obtain ⟨y, hy⟩ : ∃ y, y = la.getD k 0 := ⟨_, rfl⟩
          obtain ⟨z, hz⟩ : ∃ z, z = lb.getD k 0 := ⟨_, rfl⟩
          rw [← hy] at d1 he
          rw [← hz] at d2 he
          have f1 : wr.drew.cell? ⟨g1, k, none⟩ = some (.int .i64 y) := d1
          have f2 : wr.drew.cell? ⟨g2, k, none⟩ = some (.int .i64 z) := d2
          have hd : decide (y = z) = false := decide_eq_false he
          clear hy hz
          go_wp2_with fail
          go_region
          go_wp2_with fail
          go_ret
          exact ⟨by rw [HE.out]; rfl, HW.out.drew⟩
      · have hke : k = la.length := by omega
        have HE : Aside0 (decide (la = lb) = true) := ⟨by
          have := HT.out
          rw [hke, List.take_length, HL.out, List.take_length] at this
          exact decide_eq_true this⟩
        have hki : ¬ (k : Int) < (la.length : Int) := by omega
        clear hke
        go_wp2_with fail
        go_ret
        exact ⟨by rw [HE.out]; rfl, HW.out⟩
  · have HE : Aside0 (decide (la = lb) = false) := ⟨decide_eq_false (fun e => hlen (by rw [e]))⟩
    have h1 : ¬ (la.length : Int) = (lb.length : Int) := by omega
    go_enter Try.func12, Try.ntmps12
    go_wp2_with fail
    go_ret
    exact ⟨by rw [HE.out]; rfl, Below.refl _ _⟩
end Go.Proofs.Ythoekmedkmonhaa.Wi
