/- What a command is, and what it comes to. -/
import Derived.Test.YthfplgfpodmphaaOr
import Derived.Test.YthfplgfpodmphaaOk
namespace Go.Proofs.Ythfplgfpodmphaa.Ob
open Go.RowKit Go.Proofs.YthfplgfpodmphaaW.PrintWords Go.Proofs.YthfplgfpodmphaaW.PrintLast Go.Proofs.YthfplgfpodmphaaW.PrintMore Go.Proofs.Ythfplgfpodmphaa.Ms
attribute [local go_sem] max2_int min2_int max_two min_two max_three min_three max_four min_four
set_option linter.unusedVariables false
set_option linter.unusedSimpArgs false
set_option maxRecDepth 100000
/-- A command that is read. -/
structure XC (W : World) (ke va ol : List Int) (E2 : Option Addr) (e2 : Nat) (E3 : Option Addr) (e3 : Nat) (E4 : Option Addr) (e4 : Nat) : Prop where
 h2 : ke.length ≤ e2
 r2 : Kd.C kb W E2 ke.length ke
 b2 : ke.length < 1000000
 h3 : va.length ≤ e3
 r3 : Kd.C kb W E3 va.length va
 b3 : va.length < 1000000
 h4 : ol.length ≤ e4
 r4 : Kd.C kb W E4 ol.length ol
 b4 : ol.length < 1000000
/-- Two results: objects and a Result. -/
def TA (w : World) (o : O) (r : S26) (e : Ending) (w' : World) : Prop := ∃ B0 d0 B1 d1 B2 d2 B3 d3 Av cv, e = .returned (.tuple #[.agg #[.slice B0 o.reg.length d0, .slice B1 o.que.length d1, .slice B2 o.loc.length d2, .slice B3 o.map.length d3], .agg #[.int .i64 r.f0, .slice Av r.f1.length cv, .int .i64 r.f2]]) ∧ OF w.heap.size w' o B0 d0 B1 d1 B2 d2 B3 d3 ∧ r.f1.length ≤ cv ∧ Kd.F kb w' (fun k => w.heap.size ≤ k) Av r.f1.length r.f1 ∧ Below w.heap.size w w'
end Go.Proofs.Ythfplgfpodmphaa.Ob
