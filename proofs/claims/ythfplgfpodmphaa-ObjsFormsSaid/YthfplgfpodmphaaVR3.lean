/- ObjsForms: rows of its table. -/
import Derived.Test.YthfplgfpodmphaaVO7
set_option maxRecDepth 100000
namespace Go.Proofs.Ythfplgfpodmphaa.VE.B3
theorem k3 (n : Int) : saysTrue (t3 n (3 : Nat)) = true := by kernel_rfl
theorem k7 (n : Int) : saysTrue (t3 n (7 : Nat)) = true := by kernel_rfl
theorem k11 (n : Int) : saysTrue (t3 n (11 : Nat)) = true := by kernel_rfl
theorem k15 (n : Int) : saysTrue (t3 n (15 : Nat)) = true := by kernel_rfl
theorem k19 (n : Int) : saysTrue (t3 n (19 : Nat)) = true := by kernel_rfl
theorem k23 (n : Int) : saysTrue (t3 n (23 : Nat)) = true := by kernel_rfl
end Go.Proofs.Ythfplgfpodmphaa.VE.B3
