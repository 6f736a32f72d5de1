/- Kernel reckonings of calls. By an AI agent. -/
import Derived.Test.YtonkcdnpmemheaaGreatNamA
import Derived.KernelRfl
set_option linter.all false
namespace Go.Proofs.YtonkcdnpmemheaaGreat.Vm.Names
open Go.Proofs.YtonkcdnpmemheaaGreat.Vm Go.Proofs
set_option maxRecDepth 1000000 in
theorem t4 : m4.test Tryz.prog Q1 1000000 173 = true := by kernel_rfl
end Go.Proofs.YtonkcdnpmemheaaGreat.Vm.Names

namespace Go.Proofs.YtonkcdnpmemheaaGreat.Vm.Names
open Go.Proofs.YtonkcdnpmemheaaGreat.Vm Go.Proofs
set_option maxRecDepth 1000000 in
theorem t5 : m5.test Tryz.prog s5 1000000 6 = true := by kernel_rfl
end Go.Proofs.YtonkcdnpmemheaaGreat.Vm.Names

namespace Go.Proofs.YtonkcdnpmemheaaGreat.Vm.Names
open Go.Proofs.YtonkcdnpmemheaaGreat.Vm Go.Proofs
set_option maxRecDepth 1000000 in
theorem t6 : m6.test Tryz.prog Q1 1000000 6 = true := by kernel_rfl
end Go.Proofs.YtonkcdnpmemheaaGreat.Vm.Names

