/- The evaluator by value: what it tells, the model does. -/
import Derived.Test.YthfplgfpodmphaaVae
namespace Go.Proofs.Ythfplgfpodmphaa.VE
variable {G G' : Gh} {w w' : World} {s s' : St} {C : Cfg}
/-- What is there when a function is called from without. -/
def Gh.zero (w : World) : Gh := ⟨fun _ => none, fun b o => ∃ v, w.cell? ⟨b, o, none⟩ = some v, fun _ => False⟩
theorem sim_zero (w : World) : Sim (Gh.zero w) ⟨[], 0⟩ w :=
  ⟨fun _ _ _ _ _ _ h => (by cases h), fun _ _ _ _ _ _ _ _ _ _ _ h => (by cases h), fun _ _ => ⟨rfl, rfl⟩, fun _ _ h => h, fun _ h => h.elim⟩
theorem stp_below (h : Stp (Gh.zero w) ⟨[], 0⟩ w G' s' w') : Go.RowKit.Below w.heap.size w w' :=
  ⟨h.os, h.tape, h.output, h.size, fun k hk => h.block k hk (by rintro ⟨g, e, _, _, _, h1, _⟩; cases h1) (fun h => h)⟩
/-- What the evaluator tells of a body is what a call does. -/
theorem body_calls (hC : CfgOk C) {n f : Nat} {fn : Func} {c : Code} {args : List PV} {v : PV} (hf : C.P.funcs[f]? = some fn) (hb : fn.body = some c) (h : body C (F C n) f fn c ⟨[], 0⟩ args = some (v, s')) {vargs : List Value} (hA : VRl (Gh.zero w) w args vargs) :
    Calls C.P f vargs.toArray w fun e w' => ∃ y, e = .returned y ∧ Go.RowKit.Below w.heap.size w w' ∧ ∃ G', VR G' w' v y := by
  have hr := body_ok hC.toCfgBase (fun k hk => call_sound hC n k hk) hf hb h (sim_zero w) hA
  rcases hr with ⟨y, w1, h1, _⟩ | ⟨_, h2⟩
  · rw [run_enter hf (hC.name f fn c hf hb) hb] at h1
    cases h1
  · exact h2.mono fun e w1 ⟨y, h3, G1, h4, h5⟩ => ⟨y, h3, stp_below h4, G1, h5⟩
/-- What a table of all functions says. -/
theorem base_of (hm : C.P.follows .mixedOrders = true) (h : (List.range C.P.funcs.size).all (fun f => match C.P.funcs[f]? with | some fn => (match fn.body with | some c => chkCode C f c && !(fn.name == "runtime.NumGoroutine") | none => true) | none => true) = true) : CfgBase C := by
  have key : ∀ (f : Nat) (fn : Func) (c : Code), C.P.funcs[f]? = some fn → fn.body = some c → chkCode C f c = true ∧ (fn.name == "runtime.NumGoroutine") = false := by
    intro f fn c hf hb
    have hlt : f < C.P.funcs.size := (Array.getElem?_eq_some_iff.1 hf).1
    have := List.all_eq_true.1 h f (List.mem_range.2 hlt)
    rw [hf] at this
    simp only [hb, Bool.and_eq_true, Bool.not_eq_true'] at this
    exact this
  exact ⟨hm, fun f fn c hf hb => (key f fn c hf hb).1, fun f fn c hf hb => (key f fn c hf hb).2⟩
/-- Pieces one behind the other. -/
def seqs : List Code → Code → Code
  | [], x => x
  | a :: l, x => .seq a (seqs l x)
def runs (C : Cfg) (r : Fns) (f : Nat) : List Code → List PV → St → Option (List PV × St)
  | [], t, s => some (t, s)
  | a :: l, t, s => match code C r f a t s with
    | some (.normal, t, s) => runs C r f l t s
    | _ => none
theorem code_seqs {r : Fns} {f : Nat} {x : Code} : ∀ (l : List Code) (t : List PV) (s : St) {t1 : List PV} {s1 : St}, runs C r f l t s = some (t1, s1) → code C r f (seqs l x) t s = code C r f x t1 s1
  | [], t, s, t1, s1, h => by cases h; rfl
  | a :: l, t, s, t1, s1, h => by
    simp only [runs] at h
    split at h
    · rename_i t2 s2 ha
      simp only [seqs, code, ha]
      exact code_seqs l t2 s2 h
    · cases h
theorem ops1_append {call : CallT} {f id : Nat} {ops : List Oper} : ∀ (a b : List Oper) (i : Nat) (t : List PV) (s : St) {t1 : List PV} {s1 : St}, ops1 C call f id ops i a t s = some (t1, s1) → ops1 C call f id ops i (a ++ b) t s = ops1 C call f id ops (i + a.length) b t1 s1
  | [], b, i, t, s, t1, s1, h => by cases h; rfl
  | o :: a, b, i, t, s, t1, s1, h => by
    simp only [ops1, List.cons_append, List.length_cons] at h ⊢
    rw [show i + (a.length + 1) = i + 1 + a.length from by omega]
    split at h
    · rename_i hw
      rw [if_pos hw]
      split at h
      · rename_i v s2 hs
        exact ops1_append a b (i + 1) _ _ h
      · cases h
    · rename_i hw
      rw [if_neg hw]
      exact ops1_append a b (i + 1) _ _ h
/-- From the j-th operation of a region on. -/
def resume (C : Cfg) (r : Fns) (f id : Nat) (ops : Array Oper) (j : Nat) (rest : Code) (t : List PV) (s : St) : Option (Out × List PV × St) :=
  match ops1 C r.call f id ops.toList j (ops.toList.drop j) t s with
  | some (t, s) => code C r f rest t s
  | none => none
/-- A body is run up to an operation in the midst of a region, and then on. -/
theorem body_resume {r : Fns} {f id : Nat} {fn : Func} {c : Code} {l : List Code} {ops : Array Oper} {j : Nat} {rest : Code} {args : List PV} {t1 t2 : List PV} {s1 s2 : St} (hc : c = seqs l (.seq (.region id ops false) rest)) (hj : j ≤ ops.toList.length)
    (h1 : runs C r f l (args ++ List.replicate (fn.ntmps - args.length) undefV) s = some (t1, s1)) (h2 : ops1 C r.call f id ops.toList 0 (ops.toList.take j) t1 s1 = some (t2, s2)) :
    body C r f fn c s args = match resume C r f id ops j rest t2 s2 with
      | some (.exit _, _, _) => none
      | some (_, tmps, s) => (allSome (resV C.P tmps s.heap) fn.results.toList).map fun vs => (tupV vs, s)
      | none => none := by
  have h3 := ops1_append (ops := ops.toList) (ops.toList.take j) (ops.toList.drop j) 0 t1 s1 h2
  rw [List.take_append_drop, Nat.zero_add, List.length_take, Nat.min_eq_left hj] at h3
  unfold body
  rw [hc, code_seqs l _ _ h1]
  simp only [code, h3, resume]
  cases ops1 C r.call f id ops.toList j (ops.toList.drop j) t2 s2 with
  | none => rfl
  | some p => rfl
end Go.Proofs.Ythfplgfpodmphaa.VE
