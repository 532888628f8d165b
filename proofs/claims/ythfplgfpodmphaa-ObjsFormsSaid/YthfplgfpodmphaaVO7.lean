/- ObjsForms, up to where its rows part. -/
import Derived.Test.YthfplgfpodmphaaVO4
set_option maxRecDepth 100000
namespace Go.Proofs.Ythfplgfpodmphaa.VE
namespace B3
noncomputable def r : Fns := F CC 300
noncomputable def c : Code := Try.f3.body.getD .skip
noncomputable def pre : List Code := [seqL c, seqL (seqR c)]
noncomputable def mid : Code := seqR (seqR c)
noncomputable def ops : Array Oper := regOps (seqL mid)
noncomputable def rest : Code := seqR mid
noncomputable def a0 (n : Int) : List PV := [.lit (.int .i64 n)] ++ List.replicate (Try.f3.ntmps - [PV.lit (.int .i64 n)].length) undefV
noncomputable def p1 (n : Int) : List PV × St := (runs CC r 3 pre (a0 n) ⟨[], 0⟩).getD ([], ⟨[], 0⟩)
noncomputable def p2 (n : Int) : List PV × St := (ops1 CC r.call 3 2 ops.toList 0 (ops.toList.take 6) (p1 n).1 (p1 n).2).getD ([], ⟨[], 0⟩)
noncomputable def t3 (n k : Int) : Option (PV × St) := finP CC Try.f3 (resume CC r 3 2 ops 6 rest ((p2 n).1.set 69 (.lit (.int .i64 k))) (p2 n).2)
theorem hc : c = seqs pre (.seq (.region 2 ops false) rest) := by kernel_rfl
theorem h1 (n : Int) : (runs CC r 3 pre (a0 n) ⟨[], 0⟩).isSome = true := by kernel_rfl
theorem h2 (n : Int) : (ops1 CC r.call 3 2 ops.toList 0 (ops.toList.take 6) (p1 n).1 (p1 n).2).isSome = true := by kernel_rfl
theorem h3 (n : Int) : (p2 n).1.getD 69 undefV = .lit (.int .i64 ((low8 n).tmod (24 : Nat))) := by kernel_rfl
theorem h4 (n : Int) : (p2 n).1.length = 102 := by kernel_rfl
theorem h5 : 6 ≤ ops.toList.length := of_decide_eq_true (by kernel_rfl)
theorem e1 (n : Int) : runs CC r 3 pre (a0 n) ⟨[], 0⟩ = some ((p1 n).1, (p1 n).2) := by unfold p1; exact getD_pair (h1 n) _
theorem e2 (n : Int) : ops1 CC r.call 3 2 ops.toList 0 (ops.toList.take 6) (p1 n).1 (p1 n).2 = some ((p2 n).1, (p2 n).2) := by unfold p2; exact getD_pair (h2 n) _
theorem ha (n : Int) : a0 n = [.lit (.int .i64 n)] ++ List.replicate (Try.f3.ntmps - [PV.lit (.int .i64 n)].length) undefV := by rw [a0]
theorem t3_eq (n k : Int) : t3 n k = finP CC Try.f3 (resume CC r 3 2 ops 6 rest ((p2 n).1.set 69 (.lit (.int .i64 k))) (p2 n).2) := by rw [t3]
theorem r_eq : r = F CC 300 := by rw [r]
theorem c_eq : Try.f3.body = some c := by kernel_rfl
attribute [irreducible] r c pre mid ops rest a0 p1 p2 t3
theorem all (hk : ∀ (n : Int) (k : Nat), k < 24 → saysTrue (t3 n k) = true) (n : Int) : ∃ s, body CC r 3 Try.f3 c ⟨[], 0⟩ [.lit (.int .i64 n)] = some (.lit (.bool true), s) := by
  obtain ⟨k, hk1, hk2⟩ := tmod_range (low8 n) 24 (by decide) (low8_range n).1
  have e3 := set_same (h3 n) (by rw [h4]; decide)
  rw [hk2] at e3
  have hb := body_fin (fn := Try.f3) hc h5 (ha n) (e1 n) (e2 n)
  obtain ⟨s, hs⟩ := saysTrue_some (hk n k hk1)
  rw [t3_eq, ← e3] at hs
  exact ⟨s, hb.trans hs⟩
end B3
end Go.Proofs.Ythfplgfpodmphaa.VE
