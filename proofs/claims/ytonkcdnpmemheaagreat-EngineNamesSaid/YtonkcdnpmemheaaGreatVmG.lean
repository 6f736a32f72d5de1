/- The table of crc as the kernel reckons it. By an AI agent. -/
import Derived.Test.YtonkcdnpmemheaaGreatVmF
set_option linter.all false
namespace Go.Proofs.YtonkcdnpmemheaaGreat.Vm
open Go.Proofs

noncomputable def isTbl (r : Option (Res × VH)) : Bool := match r with
  | some (.val (.agg cs), _) => sameCells cs.toList tblL
  | _ => false

set_option maxRecDepth 1000000 in
theorem tbl_run : isTbl (vrun Tryz.prog (fun _ => none) 100000 (.call 296 []) ⟨.e, 0, 0⟩) = true := by kernel_rfl
end Go.Proofs.YtonkcdnpmemheaaGreat.Vm

