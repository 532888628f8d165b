/- ObjsForms: rows of its table. -/
import Derived.Test.YthfplgfpodmphaaVO7
set_option maxRecDepth 100000
namespace Go.Proofs.Ythfplgfpodmphaa.VE.B3
theorem k1 (n : Int) : saysTrue (t3 n (1 : Nat)) = true := by kernel_rfl
theorem k5 (n : Int) : saysTrue (t3 n (5 : Nat)) = true := by kernel_rfl
theorem k9 (n : Int) : saysTrue (t3 n (9 : Nat)) = true := by kernel_rfl
theorem k13 (n : Int) : saysTrue (t3 n (13 : Nat)) = true := by kernel_rfl
theorem k17 (n : Int) : saysTrue (t3 n (17 : Nat)) = true := by kernel_rfl
theorem k21 (n : Int) : saysTrue (t3 n (21 : Nat)) = true := by kernel_rfl
end Go.Proofs.Ythfplgfpodmphaa.VE.B3
