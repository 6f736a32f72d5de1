/- EngineNil returns true whatever operation it is given, and its argument reads as before; no condition. By an AI agent. -/
import Derived.Test.YtonkcdnpmemheaaGreatNilF
import Derived.Test.YtonkcdnpmemheaaGreatVmI
import Derived.Test.YtonkcdnpmemheaaGreatNilK
import Derived.WalkKit
import Derived.ProofKit
import Derived.OpenShut
set_option linter.all false
namespace Go.Proofs.YtonkcdnpmemheaaGreat.engineNil
open Go.ChangeShapes Go.WideShapes Go.ChangeAt Go.RowKit Go.Proofs.YtonkcdnpmemheaaGreat.Vm

theorem cells28 : Tryz.prog.cellsOf 28 = 8 := by kernel_rfl

theorem poison8 {cs : Array Value} (h : cs.size = 8) : LR (fun _ => none) [.agg ⟨rp 8 poison []⟩] [.agg cs] := by
  refine .one (.agg ?_ ?_)
  · show 8 = cs.toList.length
    simpa using h.symm
  · intro i x y hx _
    have hm : x ∈ rp 8 poison [] := List.mem_of_getElem? hx
    have : x = poison := by
      have h8 : rp 8 poison [] = [poison, poison, poison, poison, poison, poison, poison, poison] := rfl
      rw [h8] at hm
      simp only [List.mem_cons, List.not_mem_nil, or_false] at hm
      rcases hm with q | q | q | q | q | q | q | q <;> exact q
    rw [this]
    exact .poison _ _ _ _

/-- the walk: whatever is asked of it -/
theorem walk (cs : Array Value) (h : cs.size = 8) (w : World) : Calls Tryz.prog 3 #[.agg cs] w fun e w' => e = .returned (.bool true) ∧ w.Extends w' :=
  calls_of_top pok Nil.sTop_ok Nil.top (poison8 h) w

set_option maxRecDepth 100000 in
theorem lifted (os : Os) (started : os.Started) (H : Type) (enc : TypeId × Value → H) :
    ReturnsInHanded {} Tryz.checked os 3 .any (Rows.engineNilSpec.pre6 enc Tryz.prog Tryz.f3 Rows.engineNilRow.domain false) (Rows.engineNilSpec.post enc Tryz.prog Tryz.f3 false true false false) := by
  refine returnsInHanded_of_change (C := Tryz.checked) own started (by kernel_rfl) Tryz.func3
    (ChangeSpec.witness6 (enc := enc) (C := Tryz.checked) false ⟨#[], #[.agg #[.int .i64 0, .string ⟨#[]⟩, .string ⟨#[]⟩, .slice none 0 0, .slice none 0 0, .slice none 0 0, .slice none 0 0, .slice none 0 0]], []⟩ 8 (by kernel_rfl) (by kernel_rfl) (by kernel_rfl) (by kernel_rfl)) ?_
  intro W base args ds gs before hval0 hW hcnd _
  have hval : ∀ (j : Nat) t v, Tryz.f3.params[j]? = some t → args[j]? = some v → Value.okWide Tryz.prog W .any base t v := hval0
  have hW' := hW
  obtain ⟨p, q, hA0, hV, rfl, hfz, hnd⟩ := hW
  have hA : DataW.TrodAll enc Tryz.prog W 0 (fun _ => true) true Tryz.f3.params.toList args.toList ds p := hA0
  rw [Tryz.params3] at hA hval
  obtain ⟨v0, d0, rfl, rfl, h0⟩ := trodAll_one hA
  obtain ⟨rfl, rfl⟩ := trodVars_none hV
  clear hA0 hval0
  have hok := hval 0 28 v0 rfl rfl
  have hcs : ∃ cs, v0 = .agg cs ∧ cs.size = 8 := by
    unfold Value.okWide at hok
    rw [Tryz.underlying28] at hok
    obtain ⟨cs, h1, h2, _⟩ := hok
    exact ⟨cs, h1, h2.trans cells28⟩
  obtain ⟨cs, rfl, h8⟩ := hcs
  simp only [List.append_nil] at hW'
  refine (walk cs h8 W).mono fun e W' ⟨he, hx⟩ => ?_
  subst he
  have hlt := hW'.lt
  exact ⟨_, rfl, post_of_ext (pa := p) (pv := []) hW' (fun _ _ _ => (trodAll_cons_mk (shut_bool Tryz.underlying4 _) trodAll_mk0))
    (fun sp hsp => trodAll_mk1 (WideElems.Trod_stays k2 (by kernel_rfl) (of_decide_eq_true (by kernel_rfl)) h0 (fun x hm => sameAt_of_ext hx (hlt x hm)) hsp))
    (fun _ _ => rfl) (List.append_nil _).symm hx (ok_one (by kernel_rfl) rfl (okWide_bool_mk Tryz.underlying4 _))⟩

theorem over : Rows.engineNilRow.holds Tryz.pinned (OpenSpec.ofChange Rows.engineNilSpec) :=
  OpenClaim.holds_of_wide 3 Tryz.f3 rfl rfl rfl rfl rfl rfl rfl ⟨rfl, rfl, rfl, rfl, rfl⟩ rfl rfl rfl rfl rfl (by kernel_rfl) Tryz.func3 closed
    (of_decide_eq_true (by kernel_rfl)) (by unfold Func.isWrapper; first | (rw [if_pos (by decide +kernel)]; kernel_rfl) | (rw [if_neg (by decide +kernel)]; exact ⟨rfl, rfl⟩))
    (fun os started H enc _ => lifted os started H enc)

/-- the statement -/
theorem proved : Rows.EngineNilSaid :=
  over
#print axioms proved
end Go.Proofs.YtonkcdnpmemheaaGreat.engineNil

