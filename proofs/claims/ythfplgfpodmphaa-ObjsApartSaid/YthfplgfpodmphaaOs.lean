/- The answers of a map and of a register, in one form; what a command does. -/
import Derived.Test.YthfplgfpodmphaaOj
import Derived.Test.YthfplgfpodmphaaOm
import Derived.Test.YthfplgfpodmphaaMe
namespace Go.Proofs.Ythfplgfpodmphaa.Ob
open Go.RowKit Go.Proofs.YthfplgfpodmphaaW.PrintWords Go.Proofs.YthfplgfpodmphaaW.PrintLast Go.Proofs.YthfplgfpodmphaaW.PrintMore Go.Proofs.Ythfplgfpodmphaa.Ms
attribute [local go_sem] max2_int min2_int max_two min_two max_three min_three max_four min_four
set_option linter.unusedVariables false
set_option linter.unusedSimpArgs false
set_option maxRecDepth 100000
theorem cas31 (A0 : Option Addr) (c0 : Nat) (l0 : List Int) (A1 : Option Addr) (c1 : Nat) (l1 : List Int) (A2 : Option Addr) (c2 : Nat) (l2 : List Int) (w : World) (hr0 : Kd.C kb w A0 l0.length l0) (hc0 : l0.length ≤ c0) (hb0 : l0.length < 1000000) (hr1 : Kd.C kb w A1 l1.length l1) (hc1 : l1.length ≤ c1) (hr2 : Kd.C kb w A2 l2.length l2) (hc2 : l2.length ≤ c2) (hb2 : l2.length < 1000000) :
    Calls Try.prog 31 #[.slice A0 l0.length c0, .slice A1 l1.length c1, .slice A2 l2.length c2] w (T2 kb w (casR l0 l1 l2).1 (casR l0 l1 l2).2) := by
  have hcl0 := clone_f l0 (by omega)
  have hcl2 := clone_f l2 (by omega)
  unfold casR
  split
  · exact (regs_Cas.calls 1 A0 c0 l0 A1 c1 l1 A2 c2 l2 l0 1 [] 0 w hr0 hc0 hr1 hc1 hr2 hc2 (by
      unfold regs_Cas.f
      rw [if_neg (by omega)]
      simp only [regs_Cas.j0, regs_Write.f, hcl0]
      rw [if_neg (by simp), if_pos (by omega)]
      rfl)).mono (fun e w' ⟨v0, v2, he, hR0, hR2, hb⟩ => T2_R he hR0 hR2 hb)
  · have hbe : bytes_Equal.f l0 l1 = some (eqB l0 l1) := rfl
    split
    · rename_i he
      exact (regs_Cas.calls 1 A0 c0 l0 A1 c1 l1 A2 c2 l2 l2 0 [] 0 w hr0 hc0 hr1 hc1 hr2 hc2 (by
        unfold regs_Cas.f
        rw [if_pos (by omega), hbe, he]
        simp only [Option.bind_some, regs_Cas.j0, regs_Write.f, hcl2]
        rw [if_neg (by simp), if_neg (by omega)]
        rfl)).mono (fun e w' ⟨v0, v2, he, hR0, hR2, hb⟩ => T2_R he hR0 hR2 hb)
    · rename_i he
      have he : eqB l0 l1 = false := by simpa using he
      exact (regs_Cas.calls 1 A0 c0 l0 A1 c1 l1 A2 c2 l2 l0 2 l0 0 w hr0 hc0 hr1 hc1 hr2 hc2 (by
        unfold regs_Cas.f
        rw [if_pos (by omega), hbe, he]
        simp only [Option.bind_some, regs_Cas.j0, hcl0]
        rw [if_pos (by simp)])).mono (fun e w' ⟨v0, v2, he, hR0, hR2, hb⟩ => T2_R he hR0 hR2 hb)
theorem F_block2 {α : Type} {d : Kd α} {W : World} {ok : Nat → Prop} {g : Nat} {cur : Array Value} {e : TypeId} {xs : List α} (hg : W.heap[g]? = some (.cells cur e (0, 0))) (hm : xs.length ≤ 9223372036854775807) (hr : Reps (fun x c => Kd.FK d W ok x c) d.sz xs (cur.toList.take (xs.length * d.sz))) : Kd.F d W (fun k => ok k ∨ k = g) (some ⟨g, 0, none⟩) xs.length xs := by
  intro W' hW
  have hlt := (Array.getElem?_eq_some_iff.1 hg).1
  have hg' : W'.heap[g]? = some (.cells cur e (0, 0)) := (hW g (.inr rfl) hlt).trans hg
  refine ⟨rfl, by omega, fun _ => ⟨_, rfl, fun j p hj => ?_⟩⟩
  have hk : d.K W' p (((cur.toList.take (xs.length * d.sz)).drop (j * d.sz)).take d.sz) := hr.2 j p hj W' (fun k hk hlt => hW k (.inl hk) hlt)
  refine ⟨_, d.K_len hk, hk, fun i u hu => ?_⟩
  rw [add_plain, (cell_of_heap hg').1]
  rw [List.getElem?_take] at hu
  split at hu
  · rw [List.getElem?_drop, List.getElem?_take] at hu
    split at hu
    · rw [Array.getElem?_toList] at hu
      exact hu
    · cases hu
  · cases hu
theorem F_of_Fr {α : Type} {d : Kd α} {e base : Nat} {W : World} {A : Option Addr} {xs : List α} (h : Fr d e W base A xs) : Kd.F d W (fun k => base ≤ k) A xs.length xs := by
  rcases h with rfl | ⟨g, cur, rfl, hbg, hg, hs, hm, hr⟩
  · exact fun W' _ => ⟨rfl, by simp, fun h => absurd h (by simp)⟩
  · unfold maxLen at hm
    exact Kd.F_mono (F_block2 hg hm (hr.imp_ (fun y c hy => Kd.FK_of_M (ok := fun k => base ≤ k) (d.M_mono (fun k hk => hk.2.1) (d.M_bound hy))))) (fun k hk => hk.elim id (fun h => by rw [h]; exact hbg))
theorem T2_Put {w w' : World} {l' : List S32} {r : S26} {e : Ending} (h : PutEnd w l' r e w') : T2 km w l' r e w' := by
  obtain ⟨A, c, v1, he, hc, hF, hR, hb⟩ := h
  obtain ⟨Av, cv, rfl⟩ := Kd.R_slice hR
  exact ⟨A, c, Av, cv, he, hc, F_of_Fr hF, (Kd.R_reads' hR).2.1, F_of_R hR, hb⟩
theorem T1_Res {w w' : World} {r : S26} {e : Ending} (h : ResEnd w r e w') : T1 w r e w' := by
  obtain ⟨v1, he, hR, hb⟩ := h
  exact T1_R he hR hb
section
variable (A B D : Option Addr) (c d f : Nat) (l : List S32) (k v : List Int) (w : World) (hr : Kd.C km w A l.length l) (hc : l.length ≤ c) (hn : l.length < 1000000) (hv : ∀ x ∈ l, x.f0.length < 1000000 ∧ x.f1.length < 1000000) (hk : Kd.C kb w B k.length k) (hd : k.length ≤ d) (hvr : Kd.C kb w D v.length v) (hvf : v.length ≤ f)
include hr hc hn hv hk hd hvr hvf in
theorem put35 : Calls Try.prog 35 #[.slice A l.length c, .slice B k.length d, .slice D v.length f] w (T2 km w (putR l k v).1 (putR l k v).2) :=
  (put6 A B D c d f l k v w hr hc hn (fun x hx => ⟨by have := (hv x hx).1; omega, by have := (hv x hx).2; omega⟩) hk hd hvr hvf).mono (fun e w' h => T2_Put h)
include hr hc hn hv hk hd in
theorem del37 : Calls Try.prog 37 #[.slice A l.length c, .slice B k.length d] w (T2 km w (delR l k).1 (delR l k).2) :=
  (del12 A B c d l k w hr hc hn (fun x hx => ⟨by have := (hv x hx).1; omega, by have := (hv x hx).2; omega⟩) hk hd).mono (fun e w' h => T2_Put h)
include hr hc hv hk hd in
theorem get36 : Calls Try.prog 36 #[.slice A l.length c, .slice B k.length d] w (T1 w (getR l k)) :=
  (get8 A B c d l k w hr hc hk hd (fun x hx => by have := (hv x hx).2; omega)).mono (fun e w' h => T1_Res h)
end
/-! what a command does -/
def locksR (l : List Int) (kd a : Int) : List Int × S26 := if kd = 8 then (l, ownerR l) else if ¬ (0 ≤ a ∧ a ≤ 999) then (l, ⟨7, [], 0⟩) else if kd = 6 then takeR l a else freeR l a
def applyR (o : O) (kd a : Int) (ke va ol : List Int) : O × S26 :=
  if kd = 1 then (o, ⟨0, o.reg, 0⟩)
  else if kd = 2 then ({ o with reg := (writeR o.reg va).1 }, (writeR o.reg va).2)
  else if kd = 3 then ({ o with reg := (casR o.reg ol va).1 }, (casR o.reg ol va).2)
  else if kd = 4 then ({ o with que := (pushR o.que va).1 }, (pushR o.que va).2)
  else if kd = 5 then ({ o with que := (popR o.que).1 }, (popR o.que).2)
  else if kd = 6 ∨ kd = 7 ∨ kd = 8 then ({ o with loc := (locksR o.loc kd a).1 }, (locksR o.loc kd a).2)
  else if kd = 9 then ({ o with map := (putR o.map ke va).1 }, (putR o.map ke va).2)
  else if kd = 10 then (o, getR o.map ke)
  else if kd = 11 then ({ o with map := (delR o.map ke).1 }, (delR o.map ke).2)
  else (o, ⟨7, [], 0⟩)
end Go.Proofs.Ythfplgfpodmphaa.Ob
