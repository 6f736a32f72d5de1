/- Kernel reckonings of calls. By an AI agent. -/
import Derived.Test.YtonkcdnpmemheaaGreatNamA
import Derived.KernelRfl
set_option linter.all false
namespace Go.Proofs.YtonkcdnpmemheaaGreat.Vm.Names
open Go.Proofs.YtonkcdnpmemheaaGreat.Vm Go.Proofs
set_option maxRecDepth 1000000 in
theorem t28 : m28.test Tryz.prog Q1 1000000 6 = true := by kernel_rfl
end Go.Proofs.YtonkcdnpmemheaaGreat.Vm.Names

namespace Go.Proofs.YtonkcdnpmemheaaGreat.Vm.Names
open Go.Proofs.YtonkcdnpmemheaaGreat.Vm Go.Proofs
set_option maxRecDepth 1000000 in
theorem t29 : m29.test Tryz.prog Q1 1000000 19 = true := by kernel_rfl
end Go.Proofs.YtonkcdnpmemheaaGreat.Vm.Names

namespace Go.Proofs.YtonkcdnpmemheaaGreat.Vm.Names
open Go.Proofs.YtonkcdnpmemheaaGreat.Vm Go.Proofs
set_option maxRecDepth 1000000 in
theorem t30 : m30.test Tryz.prog Q1 1000000 19 = true := by kernel_rfl
end Go.Proofs.YtonkcdnpmemheaaGreat.Vm.Names

