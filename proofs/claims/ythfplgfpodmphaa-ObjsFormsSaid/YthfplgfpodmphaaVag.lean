/- The evaluator by value: what it tells, the model does. -/
import Derived.Test.YthfplgfpodmphaaVaf
namespace Go.Proofs.Ythfplgfpodmphaa.VE
variable {C : Cfg}
theorem getD_some {α : Type} {x : Option α} (h : x.isSome = true) (d : α) : x = some (x.getD d) := by cases x <;> simp_all
def seqL : Code → Code
  | .seq a _ => a
  | c => c
def seqR : Code → Code
  | .seq _ b => b
  | c => c
def regOps : Code → Array Oper
  | .region _ ops _ => ops
  | _ => #[]
/-- What a body tells behind its code. -/
def finP (C : Cfg) (fn : Func) (x : Option (Out × List PV × St)) : Option (PV × St) := match x with
  | some (.exit _, _, _) => none
  | some (_, tmps, s) => (allSome (resV C.P tmps s.heap) fn.results.toList).map fun vs => (tupV vs, s)
  | none => none
def saysTrue : Option (PV × St) → Bool
  | some (.lit (.bool b), _) => b
  | _ => false
theorem saysTrue_some {x : Option (PV × St)} (h : saysTrue x = true) : ∃ s, x = some (.lit (.bool true), s) := by
  unfold saysTrue at h
  split at h
  · rename_i b s
    subst h
    exact ⟨s, rfl⟩
  · cases h
theorem set_same {α : Type} {l : List α} {i : Nat} {v d : α} (h : l.getD i d = v) (hi : i < l.length) : l = l.set i v := by
  subst h
  apply List.ext_getElem?
  intro j
  rw [List.getElem?_set]
  by_cases hj : i = j
  · subst hj
    rw [if_pos rfl, if_pos hi, List.getD_eq_getElem?_getD, List.getElem?_eq_getElem hi]
    rfl
  · rw [if_neg hj]
/-- The low eight bits of a number. -/
def low8 (n : Int) : Int := IntKind.i64.wrap ((BitVec.ofInt IntKind.i64.bits n &&& BitVec.ofInt IntKind.i64.bits 255).toNat : Int)
theorem low8_range (n : Int) : 0 ≤ low8 n ∧ low8 n < 256 := by
  have hb : (BitVec.ofInt IntKind.i64.bits n &&& BitVec.ofInt IntKind.i64.bits 255).toNat ≤ 255 := by
    rw [BitVec.toNat_and]
    exact Nat.le_trans Nat.and_le_right (by decide)
  unfold low8
  generalize (BitVec.ofInt IntKind.i64.bits n &&& BitVec.ofInt IntKind.i64.bits 255).toNat = m at hb
  have : IntKind.i64.wrap (m : Int) = m := by
    have h1 : (m : Int) % (2 ^ IntKind.i64.bits : Int) = m := Int.emod_eq_of_lt (by omega) (by show (m : Int) < 2 ^ 64; omega)
    have h2 : ¬ ((m : Int) ≥ (2 ^ (IntKind.i64.bits - 1) : Int)) := by show ¬ ((m : Int) ≥ 2 ^ 63); omega
    unfold IntKind.wrap
    simp only [h1, h2, decide_false, Bool.and_false, Bool.false_eq_true, if_false]
  rw [this]
  omega
theorem tmod_range (x : Int) (k : Nat) (hk : 0 < k) (h : 0 ≤ x) : ∃ j : Nat, j < k ∧ x.tmod k = j := by
  refine ⟨(x.tmod k).toNat, ?_, ?_⟩
  · have h1 := Int.tmod_nonneg (k : Int) h
    have h2 := Int.tmod_lt_of_pos x (b := (k : Int)) (by omega)
    omega
  · have h1 := Int.tmod_nonneg (k : Int) h
    omega
theorem body_fin {r : Fns} {f id : Nat} {fn : Func} {c : Code} {l : List Code} {ops : Array Oper} {j : Nat} {rest : Code} {args a0 : List PV} {t1 t2 : List PV} {s s1 s2 : St} (hc : c = seqs l (.seq (.region id ops false) rest)) (hj : j ≤ ops.toList.length) (ha : a0 = args ++ List.replicate (fn.ntmps - args.length) undefV)
    (h1 : runs C r f l a0 s = some (t1, s1)) (h2 : ops1 C r.call f id ops.toList 0 (ops.toList.take j) t1 s1 = some (t2, s2)) :
    body C r f fn c s args = finP C fn (resume C r f id ops j rest t2 s2) := by
  subst ha
  exact body_resume hc hj h1 h2
theorem getD_pair {α β : Type} {x : Option (α × β)} (h : x.isSome = true) (d : α × β) : x = some ((x.getD d).1, (x.getD d).2) := by cases x <;> simp_all
end Go.Proofs.Ythfplgfpodmphaa.VE
