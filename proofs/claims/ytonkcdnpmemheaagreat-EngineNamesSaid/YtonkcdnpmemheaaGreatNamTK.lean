/- Kernel reckonings of calls. By an AI agent. -/
import Derived.Test.YtonkcdnpmemheaaGreatNamA
import Derived.KernelRfl
set_option linter.all false
namespace Go.Proofs.YtonkcdnpmemheaaGreat.Vm.Names
open Go.Proofs.YtonkcdnpmemheaaGreat.Vm Go.Proofs
set_option maxRecDepth 1000000 in
theorem t22 : m22.test Tryz.prog Q1 1000000 6 = true := by kernel_rfl
end Go.Proofs.YtonkcdnpmemheaaGreat.Vm.Names

namespace Go.Proofs.YtonkcdnpmemheaaGreat.Vm.Names
open Go.Proofs.YtonkcdnpmemheaaGreat.Vm Go.Proofs
set_option maxRecDepth 1000000 in
theorem t23 : m23.test Tryz.prog Q1 1000000 6 = true := by kernel_rfl
end Go.Proofs.YtonkcdnpmemheaaGreat.Vm.Names

namespace Go.Proofs.YtonkcdnpmemheaaGreat.Vm.Names
open Go.Proofs.YtonkcdnpmemheaaGreat.Vm Go.Proofs
set_option maxRecDepth 1000000 in
theorem t24 : m24.test Tryz.prog Q1 1000000 173 = true := by kernel_rfl
end Go.Proofs.YtonkcdnpmemheaaGreat.Vm.Names

namespace Go.Proofs.YtonkcdnpmemheaaGreat.Vm.Names
open Go.Proofs.YtonkcdnpmemheaaGreat.Vm Go.Proofs
set_option maxRecDepth 1000000 in
theorem t25 : m25.test Tryz.prog s25 1000000 6 = true := by kernel_rfl
end Go.Proofs.YtonkcdnpmemheaaGreat.Vm.Names

