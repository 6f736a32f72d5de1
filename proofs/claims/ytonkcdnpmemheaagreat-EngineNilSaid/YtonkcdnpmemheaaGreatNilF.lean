/- Kernel reckonings of calls, joined. By an AI agent. -/
import Derived.Test.YtonkcdnpmemheaaGreatNilA
import Derived.KernelRfl
import Derived.Test.YtonkcdnpmemheaaGreatNilB
import Derived.Test.YtonkcdnpmemheaaGreatNilC
import Derived.Test.YtonkcdnpmemheaaGreatNilD
import Derived.Test.YtonkcdnpmemheaaGreatNilE
set_option linter.all false
namespace Go.Proofs.YtonkcdnpmemheaaGreat.Vm.Nil
open Go.Proofs.YtonkcdnpmemheaaGreat.Vm Go.Proofs
set_option maxRecDepth 1000000 in
theorem t5 : m5.test Tryz.prog s5 1000000 5 = true := by kernel_rfl
end Go.Proofs.YtonkcdnpmemheaaGreat.Vm.Nil

namespace Go.Proofs.YtonkcdnpmemheaaGreat.Vm.Nil
open Go.Proofs.YtonkcdnpmemheaaGreat.Vm Go.Proofs
set_option maxRecDepth 1000000 in
theorem t6 : m6.test Tryz.prog Q0 1000000 6 = true := by kernel_rfl
end Go.Proofs.YtonkcdnpmemheaaGreat.Vm.Nil

namespace Go.Proofs.YtonkcdnpmemheaaGreat.Vm.Nil
open Go.Proofs.YtonkcdnpmemheaaGreat.Vm Go.Proofs
set_option maxRecDepth 1000000 in
theorem t7 : m7.test Tryz.prog Q0 1000000 8 = true := by kernel_rfl
end Go.Proofs.YtonkcdnpmemheaaGreat.Vm.Nil

namespace Go.Proofs.YtonkcdnpmemheaaGreat.Vm.Nil
open Go.Proofs.YtonkcdnpmemheaaGreat.Vm Go.Proofs
set_option maxRecDepth 1000000 in
theorem top : isTrue (vrun Tryz.prog sTop 1000000 (.call 3 [.agg ⟨rp 8 poison []⟩]) ⟨.e, 0, 0⟩) = true := by kernel_rfl
end Go.Proofs.YtonkcdnpmemheaaGreat.Vm.Nil

namespace Go.Proofs.YtonkcdnpmemheaaGreat.Vm.Nil
open Go.Proofs.YtonkcdnpmemheaaGreat.Vm Go.Proofs
theorem s3_ok : SumsOk Tryz.prog s3 := Sums.add_ok (Q0_ok) (alt_ok pok Q0_ok t2 <| fail_ok _ _)
theorem s5_ok : SumsOk Tryz.prog s5 := Sums.add_ok (Sums.add_ok (Q0_ok) (alt_ok pok Q0_ok t1 <| alt_ok pok s3_ok t3 <| alt_ok pok Q0_ok t4 <| fail_ok _ _)) (alt_ok pok Q0_ok t0 <| fail_ok _ _)
theorem sTop_ok : SumsOk Tryz.prog sTop := Sums.add_ok (Sums.add_ok (Sums.add_ok (Q0_ok) (alt_ok pok s5_ok t5 <| fail_ok _ _)) (alt_ok pok Q0_ok t6 <| fail_ok _ _)) (alt_ok pok Q0_ok t7 <| fail_ok _ _)
end Go.Proofs.YtonkcdnpmemheaaGreat.Vm.Nil

