/- What the objects are, and what is printed of the program's small functions, in one form. -/
import Derived.Test.YthfplgfpodmphaaOb
import Derived.Test.YthfplgfpodmphaaOl
import Derived.Test.YthfplgfpodmphaaMsl
import Derived.Test.YthfplgfpodmphaaMg
namespace Go.Proofs.Ythfplgfpodmphaa.Ob
open Go.RowKit Go.Proofs.YthfplgfpodmphaaW.PrintWords Go.Proofs.YthfplgfpodmphaaW.PrintLast Go.Proofs.YthfplgfpodmphaaW.PrintMore Go.Proofs.Ythfplgfpodmphaa.Ms
attribute [local go_sem] max2_int min2_int max_two min_two max_three min_three max_four min_four
set_option linter.unusedVariables false
set_option linter.unusedSimpArgs false
set_option maxRecDepth 100000
abbrev kb : Kd Int := Kd.int .u8
abbrev ki : Kd Int := Kd.int .i64
abbrev kq : Kd (List Int) := Kd.slice 5 (Kd.int .u8)
abbrev km : Kd S32 := Ms.k32
structure O where
  reg : List Int
  que : List (List Int)
  loc : List Int
  map : List S32
/-- Objects that are read. -/
structure OC (W : World) (o : O) (A0 : Option Addr) (c0 : Nat) (A1 : Option Addr) (c1 : Nat) (A2 : Option Addr) (c2 : Nat) (A3 : Option Addr) (c3 : Nat) : Prop where
  h0 : o.reg.length ≤ c0
  r0 : Kd.C kb W A0 o.reg.length o.reg
  h1 : o.que.length ≤ c1
  r1 : Kd.C kq W A1 o.que.length o.que
  h2 : o.loc.length ≤ c2
  r2 : Kd.C ki W A2 o.loc.length o.loc
  h3 : o.map.length ≤ c3
  r3 : Kd.C km W A3 o.map.length o.map
/-- Objects that lie behind base alone. -/
structure OF (base : Nat) (W : World) (o : O) (A0 : Option Addr) (c0 : Nat) (A1 : Option Addr) (c1 : Nat) (A2 : Option Addr) (c2 : Nat) (A3 : Option Addr) (c3 : Nat) : Prop where
  h0 : o.reg.length ≤ c0
  r0 : Kd.F kb W (fun k => base ≤ k) A0 o.reg.length o.reg
  h1 : o.que.length ≤ c1
  r1 : Kd.F kq W (fun k => base ≤ k) A1 o.que.length o.que
  h2 : o.loc.length ≤ c2
  r2 : Kd.F ki W (fun k => base ≤ k) A2 o.loc.length o.loc
  h3 : o.map.length ≤ c3
  r3 : Kd.F km W (fun k => base ≤ k) A3 o.map.length o.map
/-- No row is too long. -/
structure OB (o : O) : Prop where
  b0 : o.reg.length < 1000000
  b1 : o.que.length < 1000000
  e1 : ∀ x ∈ o.que, x.length < 1000000
  b2 : o.loc.length < 1000000
  b3 : o.map.length < 1000000
  e3 : ∀ x ∈ o.map, x.f0.length < 1000000 ∧ x.f1.length < 1000000
section
variable {W W' w w' : World} {o : O} {base b' : Nat} {A0 A1 A2 A3 : Option Addr} {c0 c1 c2 c3 : Nat}
theorem OF.C (h : OF base W o A0 c0 A1 c1 A2 c2 A3 c3) : OC W o A0 c0 A1 c1 A2 c2 A3 c3 := ⟨h.h0, Kd.F_now h.r0, h.h1, Kd.F_now h.r1, h.h2, Kd.F_now h.r2, h.h3, Kd.F_now h.r3⟩
theorem OC.below (h : OC W o A0 c0 A1 c1 A2 c2 A3 c3) (hb : Below W.heap.size W W') : OC W' o A0 c0 A1 c1 A2 c2 A3 c3 := ⟨h.h0, Kd.C_below h.r0 hb, h.h1, Kd.C_below h.r1 hb, h.h2, Kd.C_below h.r2 hb, h.h3, Kd.C_below h.r3 hb⟩
theorem OF.below (h : OF base W o A0 c0 A1 c1 A2 c2 A3 c3) (hb : Below W.heap.size W W') : OF base W' o A0 c0 A1 c1 A2 c2 A3 c3 := ⟨h.h0, Kd.F_below h.r0 hb, h.h1, Kd.F_below h.r1 hb, h.h2, Kd.F_below h.r2 hb, h.h3, Kd.F_below h.r3 hb⟩
theorem OF.step (h : OF base W o A0 c0 A1 c1 A2 c2 A3 c3) (hk : ∀ k, base ≤ k → k < W.heap.size → W'.heap[k]? = W.heap[k]?) : OF base W' o A0 c0 A1 c1 A2 c2 A3 c3 := ⟨h.h0, Kd.F_step h.r0 hk, h.h1, Kd.F_step h.r1 hk, h.h2, Kd.F_step h.r2 hk, h.h3, Kd.F_step h.r3 hk⟩
theorem OF.lower (h : OF base W o A0 c0 A1 c1 A2 c2 A3 c3) (hb : b' ≤ base) : OF b' W o A0 c0 A1 c1 A2 c2 A3 c3 := ⟨h.h0, Kd.F_mono h.r0 (fun k hk => Nat.le_trans hb hk), h.h1, Kd.F_mono h.r1 (fun k hk => Nat.le_trans hb hk), h.h2, Kd.F_mono h.r2 (fun k hk => Nat.le_trans hb hk), h.h3, Kd.F_mono h.r3 (fun k hk => Nat.le_trans hb hk)⟩
end
section
variable {α : Type} {d : Kd α} {e n c base : Nat} {ok : Nat → Prop} {W w w' : World} {A : Option Addr} {v v0 v2 : Value} {xs : List α}
theorem F_of_R (h : d.R e W base ok (.slice A n c) xs) : Kd.F d W (fun k => base ≤ k) A n xs := Kd.R_F (Kd.R_mono (Kd.R_bound h) (fun k hk => hk.2.1))
/-- One result: a Result. -/
def T1 (w : World) (r : S26) (e : Ending) (w' : World) : Prop := ∃ Av cv, e = .returned (.agg #[.int .i64 r.f0, .slice Av r.f1.length cv, .int .i64 r.f2]) ∧ r.f1.length ≤ cv ∧ Kd.F kb w' (fun k => w.heap.size ≤ k) Av r.f1.length r.f1 ∧ Below w.heap.size w w'
/-- Two results: a row and a Result. -/
def T2 (d : Kd α) (w : World) (xs : List α) (r : S26) (e : Ending) (w' : World) : Prop := ∃ A c Av cv, e = .returned (.tuple #[.slice A xs.length c, .agg #[.int .i64 r.f0, .slice Av r.f1.length cv, .int .i64 r.f2]]) ∧ xs.length ≤ c ∧ Kd.F d w' (fun k => w.heap.size ≤ k) A xs.length xs ∧ r.f1.length ≤ cv ∧ Kd.F kb w' (fun k => w.heap.size ≤ k) Av r.f1.length r.f1 ∧ Below w.heap.size w w'
theorem T1_R {r2 r4 : Int} {r3 : List Int} {ok2 : Nat → Prop} {en : Ending} (he : en = .returned (.agg #[.int .i64 r2, v2, .int .i64 r4])) (h2 : Kd.R kb 5 w' w.heap.size ok2 v2 r3) (hb : Below w.heap.size w w') : T1 w ⟨r2, r3, r4⟩ en w' := by
  obtain ⟨A2, c2, rfl⟩ := Kd.R_slice h2
  exact ⟨A2, c2, he, (Kd.R_reads' h2).2.1, F_of_R h2, hb⟩
theorem T2_R {r2 r4 : Int} {r3 : List Int} {ok2 : Nat → Prop} {en : Ending} (he : en = .returned (.tuple #[v0, .agg #[.int .i64 r2, v2, .int .i64 r4]])) (h0 : d.R e w' w.heap.size ok v0 xs) (h2 : Kd.R kb 5 w' w.heap.size ok2 v2 r3) (hb : Below w.heap.size w w') : T2 d w xs ⟨r2, r3, r4⟩ en w' := by
  obtain ⟨A, c, rfl⟩ := Kd.R_slice h0
  obtain ⟨A2, c2, rfl⟩ := Kd.R_slice h2
  exact ⟨A, c, A2, c2, he, (Kd.R_reads' h0).2.1, F_of_R h0, (Kd.R_reads' h2).2.1, F_of_R h2, hb⟩
theorem T2_S {r2 r4 : Int} {r3 : List Int} {ok2 : Nat → Prop} {en : Ending} (he : en = .returned (.tuple #[v0, .agg #[.int .i64 r2, v2, .int .i64 r4]])) (h0 : Kd.S d e w' w.heap.size ok v0 xs) (h2 : Kd.R kb 5 w' w.heap.size ok2 v2 r3) (hb : Below w.heap.size w w') : T2 d w xs ⟨r2, r3, r4⟩ en w' := T2_R he (Kd.S_R h0) h2 hb
end
theorem wrap_small (x : Int) (h0 : -9223372036854775808 ≤ x) (h1 : x < 9223372036854775808) : wrap64 x = x := by unfold wrap64; omega
theorem rd_L1_get (l : List (List Int)) (k : Nat) (h : k < l.length) : rd_L1 l (k : Int) = l[k] := by simp [rd_L1, List.getD_eq_getElem?_getD, List.getElem?_eq_getElem h]
theorem rd_get' (l : List Int) (k : Nat) (h : k < l.length) : rd l (k : Int) = l[k] := by simp [rd, List.getD_eq_getElem?_getD, List.getElem?_eq_getElem h]
def eqB (a b : List Int) : Bool := (strOfNums a).toList == (strOfNums b).toList
theorem eqB_refl (a : List Int) : eqB a a = true := by simp [eqB]
/-! what they answer -/
def writeR (s v : List Int) : List Int × S26 := if 16 < v.length then (s, ⟨1, [], 0⟩) else (v, ⟨0, [], 0⟩)
def casR (s old v : List Int) : List Int × S26 := if 16 < v.length then (s, ⟨1, [], 0⟩) else if eqB s old = true then (v, ⟨0, [], 0⟩) else (s, ⟨2, s, 0⟩)
def pushR (q : List (List Int)) (v : List Int) : List (List Int) × S26 := if 16 < v.length then (q, ⟨1, [], 0⟩) else if 8 ≤ q.length then (q, ⟨3, [], 0⟩) else (q ++ [v], ⟨0, [], (q.length : Int) + 1⟩)
def popR : List (List Int) → List (List Int) × S26
  | [] => ([], ⟨4, [], 0⟩)
  | x :: r => (r, ⟨0, x, 0⟩)
def ownerR : List Int → S26
  | [] => ⟨5, [], 0⟩
  | x :: r => ⟨0, [], x⟩
def idxR : List Int → Int → Nat
  | [], _ => 0
  | x :: r, a => if x = a then 0 else idxR r a + 1
theorem idxR_le (l : List Int) (a : Int) : idxR l a ≤ l.length := by
  induction l with
  | nil => exact Nat.le_refl _
  | cons x r ih => unfold idxR; split <;> simp <;> omega
def takeR (l : List Int) (a : Int) : List Int × S26 := if idxR l a < l.length then (l, ⟨6, [], 0⟩) else if 5 ≤ l.length then (l, ⟨3, [], 0⟩) else (l ++ [a], ⟨0, [], (l.length : Int)⟩)
def dropR (l : List Int) (a : Int) : List Int := l.take (idxR l a) ++ l.drop (idxR l a + 1)
def freeR (l : List Int) (a : Int) : List Int × S26 := if idxR l a < l.length then (match dropR l a with | [] => ([], ⟨0, [], -1⟩) | x :: r => (x :: r, ⟨0, [], x⟩)) else (l, ⟨5, [], 0⟩)
/-! what is printed answers so -/
theorem clone_f (l : List Int) (h : l.length < 140737488355328) : slices_Clone_byte_byte.f l = some l := by unfold slices_Clone_byte_byte.f; rw [if_pos h]
theorem read29 (A0 : Option Addr) (c0 : Nat) (l0 : List Int) (w : World) (hr0 : Kd.C kb w A0 l0.length l0) (hc0 : l0.length ≤ c0) (hb0 : l0.length < 1000000) :
    Calls Try.prog 29 #[.slice A0 l0.length c0] w (T1 w ⟨0, l0, 0⟩) :=
  (regs_Read.calls A0 c0 l0 0 l0 0 w hr0 hc0 (by unfold regs_Read.f; rw [clone_f _ (by omega)]; rfl)).mono (fun e w' ⟨v1, he, hR, hb⟩ => T1_R he hR hb)
theorem write30 (A0 : Option Addr) (c0 : Nat) (l0 : List Int) (A1 : Option Addr) (c1 : Nat) (l1 : List Int) (w : World) (hr0 : Kd.C kb w A0 l0.length l0) (hc0 : l0.length ≤ c0) (hb0 : l0.length < 1000000) (hr1 : Kd.C kb w A1 l1.length l1) (hc1 : l1.length ≤ c1) (hb1 : l1.length < 1000000) :
    Calls Try.prog 30 #[.slice A0 l0.length c0, .slice A1 l1.length c1] w (T2 kb w (writeR l0 l1).1 (writeR l0 l1).2) := by
  unfold writeR
  split
  · exact (regs_Write.calls A0 c0 l0 A1 c1 l1 l0 1 [] 0 w hr0 hc0 hr1 hc1 (by unfold regs_Write.f; rw [if_pos (by omega), clone_f _ (by omega)]; rfl)).mono (fun e w' ⟨v0, v2, he, hR0, hR2, hb⟩ => T2_R he hR0 hR2 hb)
  · exact (regs_Write.calls A0 c0 l0 A1 c1 l1 l1 0 [] 0 w hr0 hc0 hr1 hc1 (by unfold regs_Write.f; rw [if_neg (by omega), clone_f _ (by omega)]; rfl)).mono (fun e w' ⟨v0, v2, he, hR0, hR2, hb⟩ => T2_R he hR0 hR2 hb)
theorem owner77 (A0 : Option Addr) (c0 : Nat) (l0 : List Int) (w : World) (hr0 : Kd.C ki w A0 l0.length l0) (hc0 : l0.length ≤ c0) : Calls Try.prog 77 #[.slice A0 l0.length c0] w (T1 w (ownerR l0)) := by
  cases l0 with
  | nil => exact (lock_Owner.calls A0 c0 [] 5 [] 0 w hr0 hc0 (by simp [lock_Owner.f])).mono (fun e w' ⟨v1, he, hR, hb⟩ => T1_R he hR hb)
  | cons x r => exact (lock_Owner.calls A0 c0 (x :: r) 0 [] x w hr0 hc0 (by unfold lock_Owner.f; rw [if_neg (by simp <;> omega), if_pos (by simp <;> omega)]; rfl)).mono (fun e w' ⟨v1, he, hR, hb⟩ => T1_R he hR hb)
end Go.Proofs.Ythfplgfpodmphaa.Ob
