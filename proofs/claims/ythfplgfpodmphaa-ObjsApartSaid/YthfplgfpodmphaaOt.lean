/- objs.Apply, walked. -/
import Derived.Test.YthfplgfpodmphaaOt0
import Derived.Test.YthfplgfpodmphaaOt1
import Derived.Test.YthfplgfpodmphaaOt2
namespace Go.Proofs.Ythfplgfpodmphaa.Ob
open Go.RowKit Go.Proofs.YthfplgfpodmphaaW.PrintWords Go.Proofs.YthfplgfpodmphaaW.PrintLast Go.Proofs.YthfplgfpodmphaaW.PrintMore Go.Proofs.Ythfplgfpodmphaa.Ms
attribute [local go_sem] max2_int min2_int max_two min_two max_three min_three max_four min_four
set_option linter.unusedVariables false
set_option linter.unusedSimpArgs false
set_option maxRecDepth 100000
theorem apply10 (A0 : Option Addr) (c0 : Nat) (A1 : Option Addr) (c1 : Nat) (A2 : Option Addr) (c2 : Nat) (A3 : Option Addr) (c3 : Nat) (o : O) (kd a : Int) (E2 : Option Addr) (e2 : Nat) (E3 : Option Addr) (e3 : Nat) (E4 : Option Addr) (e4 : Nat) (ke va ol : List Int) (w : World) (hc : OC w o A0 c0 A1 c1 A2 c2 A3 c3) (hb : OB o) (hx : XC w ke va ol E2 e2 E3 e3 E4 e4) : Calls Try.prog 10 #[.agg #[.slice A0 o.reg.length c0, .slice A1 o.que.length c1, .slice A2 o.loc.length c2, .slice A3 o.map.length c3], .agg #[.int .i64 kd, .int .i64 a, .slice E2 ke.length e2, .slice E3 va.length e3, .slice E4 ol.length e4]] w (TA w (applyR o kd a ke va ol).1 (applyR o kd a ke va ol).2) := by
 unfold applyR
 by_cases h1 : kd = 1
 ·
  subst h1; rw [if_pos rfl]; exact apply_1 A0 c0 A1 c1 A2 c2 A3 c3 o 1 a E2 e2 E3 e3 E4 e4 ke va ol w hc hb hx rfl
 rw [if_neg h1]
 by_cases h2 : kd = 2
 ·
  subst h2; rw [if_pos rfl]; exact apply_2 A0 c0 A1 c1 A2 c2 A3 c3 o 2 a E2 e2 E3 e3 E4 e4 ke va ol w hc hb hx rfl
 rw [if_neg h2]
 by_cases h3 : kd = 3
 ·
  subst h3; rw [if_pos rfl]; exact apply_3 A0 c0 A1 c1 A2 c2 A3 c3 o 3 a E2 e2 E3 e3 E4 e4 ke va ol w hc hb hx rfl
 rw [if_neg h3]
 by_cases h4 : kd = 4
 ·
  subst h4; rw [if_pos rfl]; exact apply_4 A0 c0 A1 c1 A2 c2 A3 c3 o 4 a E2 e2 E3 e3 E4 e4 ke va ol w hc hb hx rfl
 rw [if_neg h4]
 by_cases h5 : kd = 5
 ·
  subst h5; rw [if_pos rfl]; exact apply_5 A0 c0 A1 c1 A2 c2 A3 c3 o 5 a E2 e2 E3 e3 E4 e4 ke va ol w hc hb hx rfl
 rw [if_neg h5]
 by_cases h6 : kd = 6
 ·
  subst h6; rw [if_pos (by simp)]; exact apply_6 A0 c0 A1 c1 A2 c2 A3 c3 o 6 a E2 e2 E3 e3 E4 e4 ke va ol w hc hb hx rfl
 by_cases h7 : kd = 7
 ·
  subst h7; rw [if_pos (by simp)]; exact apply_7 A0 c0 A1 c1 A2 c2 A3 c3 o 7 a E2 e2 E3 e3 E4 e4 ke va ol w hc hb hx rfl
 by_cases h8 : kd = 8
 ·
  subst h8; rw [if_pos (by simp)]; exact apply_8 A0 c0 A1 c1 A2 c2 A3 c3 o 8 a E2 e2 E3 e3 E4 e4 ke va ol w hc hb hx rfl
 rw [if_neg (by omega)]
 by_cases h9 : kd = 9
 ·
  subst h9; rw [if_pos rfl]; exact apply_9 A0 c0 A1 c1 A2 c2 A3 c3 o 9 a E2 e2 E3 e3 E4 e4 ke va ol w hc hb hx rfl
 rw [if_neg h9]
 by_cases h10 : kd = 10
 ·
  subst h10; rw [if_pos rfl]; exact apply_10 A0 c0 A1 c1 A2 c2 A3 c3 o 10 a E2 e2 E3 e3 E4 e4 ke va ol w hc hb hx rfl
 rw [if_neg h10]
 by_cases h11 : kd = 11
 ·
  subst h11; rw [if_pos rfl]; exact apply_11 A0 c0 A1 c1 A2 c2 A3 c3 o 11 a E2 e2 E3 e3 E4 e4 ke va ol w hc hb hx rfl
 rw [if_neg h11]
 exact apply_0 A0 c0 A1 c1 A2 c2 A3 c3 o kd a E2 e2 E3 e3 E4 e4 ke va ol w hc hb hx (by omega)
end Go.Proofs.Ythfplgfpodmphaa.Ob
