/- Kernel reckonings of calls. By an AI agent. -/
import Derived.Test.YtonkcdnpmemheaaGreatNamA
import Derived.KernelRfl
set_option linter.all false
namespace Go.Proofs.YtonkcdnpmemheaaGreat.Vm.Names
open Go.Proofs.YtonkcdnpmemheaaGreat.Vm Go.Proofs
set_option maxRecDepth 1000000 in
theorem t3 : m3.test Tryz.prog Q1 1000000 107 = true := by kernel_rfl
end Go.Proofs.YtonkcdnpmemheaaGreat.Vm.Names

