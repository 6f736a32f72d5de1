/- The kernel reckoning of EngineNames, joined. By an AI agent. -/
import Derived.Test.YtonkcdnpmemheaaGreatNamA
import Derived.KernelRfl
import Derived.Test.YtonkcdnpmemheaaGreatNamTB
import Derived.Test.YtonkcdnpmemheaaGreatNamTC
import Derived.Test.YtonkcdnpmemheaaGreatNamTD
import Derived.Test.YtonkcdnpmemheaaGreatNamTE
import Derived.Test.YtonkcdnpmemheaaGreatNamTF
import Derived.Test.YtonkcdnpmemheaaGreatNamTG
import Derived.Test.YtonkcdnpmemheaaGreatNamTH
import Derived.Test.YtonkcdnpmemheaaGreatNamTI
import Derived.Test.YtonkcdnpmemheaaGreatNamTJ
import Derived.Test.YtonkcdnpmemheaaGreatNamTK
import Derived.Test.YtonkcdnpmemheaaGreatNamTL
import Derived.Test.YtonkcdnpmemheaaGreatNamTM
import Derived.Test.YtonkcdnpmemheaaGreatNamTN
set_option linter.all false
namespace Go.Proofs.YtonkcdnpmemheaaGreat.Vm.Names
open Go.Proofs.YtonkcdnpmemheaaGreat.Vm Go.Proofs
set_option maxRecDepth 1000000 in
theorem top : isTrue (vrun Tryz.prog sTop 1000000 (.call 4 []) ⟨.e, 0, 0⟩) = true := by kernel_rfl
end Go.Proofs.YtonkcdnpmemheaaGreat.Vm.Names

namespace Go.Proofs.YtonkcdnpmemheaaGreat.Vm.Names
open Go.Proofs.YtonkcdnpmemheaaGreat.Vm Go.Proofs
theorem s2_ok : SumsOk Tryz.prog s2 := Sums.add_ok (Q1_ok) (alt_ok pok Q1_ok t1 <| fail_ok _ _)
theorem s5_ok : SumsOk Tryz.prog s5 := Sums.add_ok (Sums.add_ok (Q1_ok) (alt_ok pok Q1_ok t3 <| fail_ok _ _)) (alt_ok pok Q1_ok t4 <| fail_ok _ _)
theorem s7_ok : SumsOk Tryz.prog s7 := Sums.add_ok (Sums.add_ok (Q1_ok) (alt_ok pok s2_ok t2 <| alt_ok pok s5_ok t5 <| alt_ok pok Q1_ok t6 <| fail_ok _ _)) (alt_ok pok Q1_ok t0 <| fail_ok _ _)
theorem s10_ok : SumsOk Tryz.prog s10 := Sums.add_ok (Q1_ok) (alt_ok pok Q1_ok t9 <| fail_ok _ _)
theorem s13_ok : SumsOk Tryz.prog s13 := Sums.add_ok (Sums.add_ok (Q1_ok) (alt_ok pok Q1_ok t11 <| fail_ok _ _)) (alt_ok pok Q1_ok t12 <| fail_ok _ _)
theorem s15_ok : SumsOk Tryz.prog s15 := Sums.add_ok (Q1_ok) (alt_ok pok Q1_ok t14 <| fail_ok _ _)
theorem s18_ok : SumsOk Tryz.prog s18 := Sums.add_ok (Sums.add_ok (Q1_ok) (alt_ok pok Q1_ok t16 <| fail_ok _ _)) (alt_ok pok Q1_ok t17 <| fail_ok _ _)
theorem s21_ok : SumsOk Tryz.prog s21 := Sums.add_ok (Q1_ok) (alt_ok pok Q1_ok t20 <| fail_ok _ _)
theorem s25_ok : SumsOk Tryz.prog s25 := Sums.add_ok (Q1_ok) (alt_ok pok Q1_ok t24 <| fail_ok _ _)
theorem s27_ok : SumsOk Tryz.prog s27 := Sums.add_ok (Q1_ok) (alt_ok pok Q1_ok t26 <| fail_ok _ _)
theorem sTop_ok : SumsOk Tryz.prog sTop := Sums.add_ok (Sums.add_ok (Sums.add_ok (Sums.add_ok (Sums.add_ok (Q1_ok) (alt_ok pok s7_ok t7 <| fail_ok _ _)) (alt_ok pok s10_ok t10 <| alt_ok pok s13_ok t13 <| alt_ok pok s15_ok t15 <| alt_ok pok s18_ok t18 <| alt_ok pok Q1_ok t19 <| alt_ok pok Q1_ok t22 <| alt_ok pok Q1_ok t23 <| alt_ok pok s25_ok t25 <| alt_ok pok s27_ok t27 <| alt_ok pok Q1_ok t28 <| alt_ok pok Q1_ok t32 <| fail_ok _ _)) (alt_ok pok Q1_ok t8 <| fail_ok _ _)) (alt_ok pok Q1_ok t31 <| fail_ok _ _)) (alt_ok pok s21_ok t21 <| alt_ok pok Q1_ok t29 <| alt_ok pok Q1_ok t30 <| fail_ok _ _)
end Go.Proofs.YtonkcdnpmemheaaGreat.Vm.Names

