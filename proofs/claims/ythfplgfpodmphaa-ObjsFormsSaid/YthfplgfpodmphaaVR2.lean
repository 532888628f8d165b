/- ObjsForms: rows of its table. -/
import Derived.Test.YthfplgfpodmphaaVO7
set_option maxRecDepth 100000
namespace Go.Proofs.Ythfplgfpodmphaa.VE.B3
theorem k2 (n : Int) : saysTrue (t3 n (2 : Nat)) = true := by kernel_rfl
theorem k6 (n : Int) : saysTrue (t3 n (6 : Nat)) = true := by kernel_rfl
theorem k10 (n : Int) : saysTrue (t3 n (10 : Nat)) = true := by kernel_rfl
theorem k14 (n : Int) : saysTrue (t3 n (14 : Nat)) = true := by kernel_rfl
theorem k18 (n : Int) : saysTrue (t3 n (18 : Nat)) = true := by kernel_rfl
theorem k22 (n : Int) : saysTrue (t3 n (22 : Nat)) = true := by kernel_rfl
end Go.Proofs.Ythfplgfpodmphaa.VE.B3
