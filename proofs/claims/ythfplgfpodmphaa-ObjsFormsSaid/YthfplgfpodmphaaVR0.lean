/- ObjsForms: rows of its table. -/
import Derived.Test.YthfplgfpodmphaaVO7
set_option maxRecDepth 100000
namespace Go.Proofs.Ythfplgfpodmphaa.VE.B3
theorem k0 (n : Int) : saysTrue (t3 n (0 : Nat)) = true := by kernel_rfl
theorem k4 (n : Int) : saysTrue (t3 n (4 : Nat)) = true := by kernel_rfl
theorem k8 (n : Int) : saysTrue (t3 n (8 : Nat)) = true := by kernel_rfl
theorem k12 (n : Int) : saysTrue (t3 n (12 : Nat)) = true := by kernel_rfl
theorem k16 (n : Int) : saysTrue (t3 n (16 : Nat)) = true := by kernel_rfl
theorem k20 (n : Int) : saysTrue (t3 n (20 : Nat)) = true := by kernel_rfl
end Go.Proofs.Ythfplgfpodmphaa.VE.B3
