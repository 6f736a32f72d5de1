/- The seat's program is as the evaluator asks; rules for walking with it. By an AI agent. -/
import Derived.Test.YtonkcdnpmemheaaGreatVmE
import Derived.Test.YtonkcdnpmemheaaGreatProg
import Derived.Test.YtonkcdnpmemheaaGreatVmA
set_option linter.all false
namespace Go.Proofs.YtonkcdnpmemheaaGreat.Vm
open Go.Proofs

def nameOk (fn : Func) : Bool := !(fn.name == "runtime.NumGoroutine") && (!(fn.name == "internal/abi.NoEscape" || fn.name == "internal/bytealg.abigen_runtime_cmpstring" || fn.name == "internal/bytealg.MakeNoZero") || fn.origin == "")

theorem names_ok : Tryz.prog.funcs.toList.all nameOk = true := by kernel_rfl
theorem mixed_ok : Tryz.prog.follows .mixedOrders = true := by kernel_rfl
theorem next_none (s : String) (h : s = "" ∨ s = "internal/abi.NoEscape" ∨ s = "internal/bytealg.abigen_runtime_cmpstring" ∨ s = "internal/bytealg.MakeNoZero") : Extern.allNextRows.lookup s = none := by
  rcases h with h | h | h | h <;> subst h <;> kernel_rfl

theorem pok : POk Tryz.prog where
  mixed := mixed_ok
  name f fn hf := by
    have h := names_ok
    rw [List.all_eq_true] at h
    have := h fn (by rw [← Array.getElem?_toList] at hf; exact List.mem_of_getElem? hf)
    simp only [nameOk, Bool.and_eq_true, Bool.not_eq_true'] at this
    exact this.1
  ext f fn hf hn := by
    have h := names_ok
    rw [List.all_eq_true] at h
    have := h fn (by rw [← Array.getElem?_toList] at hf; exact List.mem_of_getElem? hf)
    simp only [nameOk, Bool.and_eq_true, Bool.or_eq_true, Bool.not_eq_true', beq_iff_eq, Bool.or_eq_false_iff, beq_eq_false_iff_ne] at this
    have ho : fn.origin = "" := by
      rcases this.2 with q | q
      · rcases hn with e | e | e
        · exact absurd e q.1.1
        · exact absurd e q.1.2
        · exact absurd e q.2
      · exact q
    have h1 := next_none fn.name (.inr hn)
    have h2 := next_none fn.origin (.inl ho)
    simp only [Extern.findNext, h1, h2]
    rfl

/-! ### a fresh start in a small heap -/
section
variable {W : Frm} {P : Program} {σ : Ren} {H : VH} {w : World}

theorem e_get (n : Nat) : (VH.mk .e 0 0).get n = none := rfl

/-- with no name -/
theorem R.restart (r : R W P σ H w) : R (framed W σ H ⟨.e, 0, 0⟩ w fun _ => False) P (fun _ => none) ⟨.e, 0, 0⟩ w where
  ext := r.ext
  own n m e := by cases e
  lt n m e := by cases e
  obj n o e := by rw [e_get] at e; cases e
  inj n n' o o' m m' e := by rw [e_get] at e; cases e
  fix b O e := by
    by_cases hc : ∃ n m, H.get n ≠ none ∧ (VH.mk .e 0 0).get n = none ∧ σ n = some m ∧ m.b = b
    · obtain ⟨n, m, h1, h2, h3, h4⟩ := hc
      rw [framed_pos h1 h2 h3 h4] at e
      exact e
    · rw [framed_neg hc] at e
      exact r.fix b O e
  off n o m e := by rw [e_get] at e; cases e
  res n e := e.elim
  zlt n e := e.elim
  al := rfl
  zal e := e
  big := Nat.le_refl _

/-- back again: the old heap is as it was -/
theorem R.back (r : R W P σ H w) {h0 h1 : VH} {τ : Ren} {w' : World} {Z : Nat → Prop} (h0e : ∀ n, h0.get n = none) (r1 : R (framed W σ H h0 w Z) P τ h1 w') : R W P σ H w' where
  ext := r1.ext
  own n m e := ⟨(r.own n m e).1, Nat.lt_of_lt_of_le (r.own n m e).2 r1.big⟩
  lt := r.lt
  obj n o e := by
    obtain ⟨m, O, g1, g2, g3⟩ := r.obj n o e
    refine ⟨m, O, g1, r1.fix _ _ ?_, g3⟩
    rw [framed_pos (by rw [e]; simp) (h0e n) g1 rfl]; exact g2
  inj := r.inj
  fix b O e := r1.fix b O (framed_of_X r e)
  off := r.off
  res := r.res
  zlt := r.zlt
  al := r.al
  zal := r.zal
  big := Nat.le_trans r.big r1.big
end
end Go.Proofs.YtonkcdnpmemheaaGreat.Vm

namespace Go.Proofs.YtonkcdnpmemheaaGreat.Vm

/-! ### walking with the evaluator by hand -/

theorem VAct.get_shut_live {a : VAct} {t : Nat} (h : tb a.live t = true) : a.shut.get t = a.get t := by
  obtain ⟨tm, l, live, ds, r⟩ := a
  cases l with
  | nil => rfl
  | cons p l =>
    show baseGet (flush live (p :: l) tm) live t = locGet tm live t (p :: l)
    unfold baseGet
    rw [show tb live t = true from h]
    exact flush_get live tm t h _

theorem VAct.live_put (a : VAct) (d : Option Tmp) (v : Value) : (a.put d v).live = a.live := by cases d <;> rfl
theorem VAct.live_shut (a : VAct) : a.shut.live = a.live := by
  obtain ⟨tm, l, live, ds, r⟩ := a
  cases l <;> rfl
theorem VAct.eval_tmp (a : VAct) (t : Nat) : a.eval (.tmp t) = a.get t := rfl
theorem VAct.eval_vopK_move {P : Program} (a : VAct) (t : Nat) : vopK P a.eval (.move (.tmp t)) = .pure (some (a.get t)) := rfl
theorem VAct.eval_vopK_move_assign {P : Program} (a : VAct) (t : Nat) : vopK P a.eval (.assign (.tmp t)) = .pure (some (a.get t)) := rfl
theorem VAct.put_none (a : VAct) (v : Value) : a.put none v = a := rfl

section
variable {P : Program} {rec : Rec} {ops : List Oper} {o : Oper} {rest : List Oper} {a : VAct} {h : VH} {r : Option (VAct × VH)}

theorem step_pure {v : Value} (hw : vwanted ops a o = some true) (hv : vopK P a.eval o.op = .pure (some v)) (hr : runOps P rec ops rest (a.put o.dst v) h = r) : runOps P rec ops (o :: rest) a h = r := by
  unfold runOps
  rw [hw]
  simp only [vop1, hv, opK]
  exact hr

theorem step_mem {m : HM Next} {x : Next} {h1 h2 : VH} {a1 : VAct} (hw : vwanted ops a o = some true) (hv : vopK P a.eval o.op = .mem m) (hm : m.run h = some (x, h1)) (hu : vupon rec o a x h1 = some (a1, h2)) (hr : runOps P rec ops rest a1 h2 = r) : runOps P rec ops (o :: rest) a h = r := by
  unfold runOps
  rw [hw]
  simp only [vop1, hv, opK, memK, hm, hu]
  exact hr

theorem step_val {m : HM Next} {v : Value} {h1 : VH} (hw : vwanted ops a o = some true) (hv : vopK P a.eval o.op = .mem m) (hm : m.run h = some (.value v, h1)) (hr : runOps P rec ops rest (a.put o.dst v) h1 = r) : runOps P rec ops (o :: rest) a h = r :=
  step_mem hw hv hm rfl hr

theorem step_unit {m : HM Next} {h1 : VH} (hw : vwanted ops a o = some true) (hv : vopK P a.eval o.op = .mem m) (hm : m.run h = some (.skip, h1)) (hr : runOps P rec ops rest (a.put o.dst undef) h1 = r) : runOps P rec ops (o :: rest) a h = r :=
  step_mem hw hv hm rfl hr

theorem step_call {m : HM Next} {f : FuncId} {args : Array Value} {v : Value} {h1 h2 : VH} (hw : vwanted ops a o = some true) (hv : vopK P a.eval o.op = .mem m) (hm : m.run h = some (.enter f args, h1)) (hc : rec (.call f args.toList) h1 = some (.val v, h2)) (hr : runOps P rec ops rest (a.put o.dst v) h2 = r) : runOps P rec ops (o :: rest) a h = r :=
  step_mem hw hv hm (by show putRes o a (rec (.call f args.toList) h1) = _; rw [hc]; rfl) hr

theorem step_not (hw : vwanted ops a o = some false) (hr : runOps P rec ops rest (a.put o.dst undef) h = r) : runOps P rec ops (o :: rest) a h = r := by
  unfold runOps
  rw [hw]
  exact hr

theorem codeK_region {id : Nat} {L : Array Oper} {a1 : VAct} {h1 : VH} (hr : runOps P rec L.toList L.toList a h = some (a1, h1)) : codeK P rec (.region id L false) a h = some (.code .normal a1.shut, h1) := by
  show fin (runOps P rec L.toList L.toList a h) = _
  rw [hr]; rfl

theorem codeK_seq {x y : Code} {a1 : VAct} {h1 : VH} (hx : codeK P rec x a h = some (.code .normal a1, h1)) : codeK P rec (.seq x y) a h = codeK P rec y a1 h1 := by
  show @Eq (Option (Res × VH)) (match codeK P rec x a h with
    | some (.code .normal a1, h1) => codeK P rec y a1 h1
    | r => r) _
  rw [hx]

theorem codeK_seq_exit {x y : Code} {a1 : VAct} {h1 : VH} {e : VExit} (he : e ≠ .normal) (hx : codeK P rec x a h = some (.code e a1, h1)) : codeK P rec (.seq x y) a h = some (.code e a1, h1) := by
  show @Eq (Option (Res × VH)) (match codeK P rec x a h with
    | some (.code .normal a1, h1) => codeK P rec y a1 h1
    | r => r) _
  rw [hx]
  cases e <;> first | rfl | exact absurd rfl he

theorem codeK_cond_true {c : Operand} {x y : Code} (hc : a.eval c = .bool true) : codeK P rec (.cond c x y) a h = codeK P rec x a h := by
  show (match a.eval c with
    | .bool true => codeK P rec x a h
    | .bool false => codeK P rec y a h
    | _ => none) = _
  rw [hc]
theorem codeK_cond_false {c : Operand} {x y : Code} (hc : a.eval c = .bool false) : codeK P rec (.cond c x y) a h = codeK P rec y a h := by
  show (match a.eval c with
    | .bool true => codeK P rec x a h
    | .bool false => codeK P rec y a h
    | _ => none) = _
  rw [hc]
theorem codeK_block {id : Nat} {x : Code} {a1 : VAct} {h1 : VH} (hx : codeK P rec x a h = some (.code .normal a1, h1)) : codeK P rec (.block id x) a h = some (.code .normal a1, h1) := by
  show @Eq (Option (Res × VH)) (match codeK P rec x a h with
    | some (.code (.exit i) a1, h1) => (match Nat.beq i id with
      | true => some (.code .normal a1, h1)
      | false => some (.code (.exit i) a1, h1))
    | r => r) _
  rw [hx]
theorem codeK_block_exit {id : Nat} {x : Code} {a1 : VAct} {h1 : VH} (hx : codeK P rec x a h = some (.code (.exit id) a1, h1)) : codeK P rec (.block id x) a h = some (.code .normal a1, h1) := by
  show @Eq (Option (Res × VH)) (match codeK P rec x a h with
    | some (.code (.exit i) a1, h1) => (match Nat.beq i id with
      | true => some (.code .normal a1, h1)
      | false => some (.code (.exit i) a1, h1))
    | r => r) _
  rw [hx]
  simp
theorem codeK_loop_next {x : Code} {a1 : VAct} {h1 : VH} (hx : codeK P rec x a h = some (.code .normal a1, h1)) : codeK P rec (.loop x) a h = rec (.code (.loop x) a1) h1 := by
  show @Eq (Option (Res × VH)) (match codeK P rec x a h with
    | some (.code .normal a1, h1) => rec (.code (.loop x) a1) h1
    | r => r) _
  rw [hx]
theorem codeK_loop_exit {x : Code} {a1 : VAct} {h1 : VH} {e : VExit} (he : e ≠ .normal) (hx : codeK P rec x a h = some (.code e a1, h1)) : codeK P rec (.loop x) a h = some (.code e a1, h1) := by
  show @Eq (Option (Res × VH)) (match codeK P rec x a h with
    | some (.code .normal a1, h1) => rec (.code (.loop x) a1) h1
    | r => r) _
  rw [hx]
  cases e <;> first | rfl | exact absurd rfl he
end

theorem wrapF_small (k : IntKind) {m : Nat} (h : m < lim k) : wrapF k (.ofNat m) = .ofNat m := by
  show wrapN k m = _
  unfold wrapN
  have : Nat.blt m (lim k) = true := by rw [Nat.blt_eq]; exact h
  rw [this]

/-- a function's code that is called -/
theorem vcall_eq {P : Program} {rec : Rec} {f : FuncId} {i : FnI} (hi : fnInfo P f = some i) (args : List Value) (h : VH) : vcall P rec false f args h = callEnd P rec false i.res (rec (.code i.c (frame args i.live)) h) := by
  unfold vcall; rw [hi]

/-- a call's end: no deferred call, one slot -/
theorem callEnd_tmp {P : Program} {rec : Rec} {t : Nat} {e : VExit} (he : ∀ id, e ≠ .exit id) {a : VAct} {h : VH} (hd : a.defers = []) : callEnd P rec false [.tmp t] (some (.code e a, h)) = some (.val (a.get t), h) := by
  unfold callEnd endCall
  cases e with
  | exit id => exact absurd rfl (he id)
  | _ =>
    simp only [hd]
    rfl

end Go.Proofs.YtonkcdnpmemheaaGreat.Vm

namespace Go.Proofs.YtonkcdnpmemheaaGreat.Vm
/-! ### backward rules -/
def VW (x : Option (Res × VH)) (Q : VExit → VAct → VH → Prop) : Prop := ∃ e a h, x = some (.code e a, h) ∧ Q e a h
def VO (x : Option (VAct × VH)) (Q : VAct → VH → Prop) : Prop := ∃ a h, x = some (a, h) ∧ Q a h

section
variable {P : Program} {rec : Rec} {ops : List Oper} {o : Oper} {rest : List Oper} {a : VAct} {h : VH} {Q : VAct → VH → Prop} {Q' : VExit → VAct → VH → Prop}

theorem VO.nil (hq : Q a h) : VO (runOps P rec ops [] a h) Q := ⟨a, h, rfl, hq⟩
theorem VO.pure {v : Value} (hw : vwanted ops a o = some true) (hv : vopK P a.eval o.op = .pure (some v)) (hr : VO (runOps P rec ops rest (a.put o.dst v) h) Q) : VO (runOps P rec ops (o :: rest) a h) Q := by
  rw [step_pure hw hv rfl]; exact hr
theorem VO.val {m : HM Next} {v : Value} {h1 : VH} (hw : vwanted ops a o = some true) (hv : vopK P a.eval o.op = .mem m) (hm : m.run h = some (.value v, h1)) (hr : VO (runOps P rec ops rest (a.put o.dst v) h1) Q) : VO (runOps P rec ops (o :: rest) a h) Q := by
  rw [step_val hw hv hm rfl]; exact hr
theorem VO.unit {m : HM Next} {h1 : VH} (hw : vwanted ops a o = some true) (hv : vopK P a.eval o.op = .mem m) (hm : m.run h = some (.skip, h1)) (hr : VO (runOps P rec ops rest (a.put o.dst undef) h1) Q) : VO (runOps P rec ops (o :: rest) a h) Q := by
  rw [step_unit hw hv hm rfl]; exact hr
theorem VO.call {m : HM Next} {f : FuncId} {args : Array Value} {v : Value} {h1 h2 : VH} (hw : vwanted ops a o = some true) (hv : vopK P a.eval o.op = .mem m) (hm : m.run h = some (.enter f args, h1)) (hc : rec (.call f args.toList) h1 = some (.val v, h2)) (hr : VO (runOps P rec ops rest (a.put o.dst v) h2) Q) :
    VO (runOps P rec ops (o :: rest) a h) Q := by
  rw [step_call hw hv hm hc rfl]; exact hr
theorem VO.not (hw : vwanted ops a o = some false) (hr : VO (runOps P rec ops rest (a.put o.dst undef) h) Q) : VO (runOps P rec ops (o :: rest) a h) Q := by
  rw [step_not hw rfl]; exact hr

theorem VW.region {id : Nat} {L : Array Oper} (hr : VO (runOps P rec L.toList L.toList a h) fun a h => Q' .normal a.shut h) : VW (codeK P rec (.region id L false) a h) Q' := by
  obtain ⟨a1, h1, e, q⟩ := hr
  exact ⟨_, _, _, codeK_region e, q⟩
theorem VW.seq {x y : Code} (hx : VW (codeK P rec x a h) fun e a h => match e with | .normal => VW (codeK P rec y a h) Q' | e => Q' e a h) : VW (codeK P rec (.seq x y) a h) Q' := by
  obtain ⟨e, a1, h1, e1, q⟩ := hx
  cases e with
  | normal => rw [codeK_seq e1]; exact q
  | ret => exact ⟨_, _, _, codeK_seq_exit (by simp) e1, q⟩
  | exit id => exact ⟨_, _, _, codeK_seq_exit (by simp) e1, q⟩
theorem VW.condT {c : Operand} {x y : Code} (hc : a.eval c = .bool true) (hx : VW (codeK P rec x a h) Q') : VW (codeK P rec (.cond c x y) a h) Q' := by rw [codeK_cond_true hc]; exact hx
theorem VW.condF {c : Operand} {x y : Code} (hc : a.eval c = .bool false) (hx : VW (codeK P rec y a h) Q') : VW (codeK P rec (.cond c x y) a h) Q' := by rw [codeK_cond_false hc]; exact hx
theorem VW.block {id : Nat} {x : Code} (hx : VW (codeK P rec x a h) fun e a h => match e with | .exit i => if i = id then Q' .normal a h else Q' (.exit i) a h | e => Q' e a h) : VW (codeK P rec (.block id x) a h) Q' := by
  obtain ⟨e, a1, h1, e1, q⟩ := hx
  cases e with
  | normal => exact ⟨_, _, _, codeK_block e1, q⟩
  | ret =>
    refine ⟨.ret, a1, h1, ?_, q⟩
    show @Eq (Option (Res × VH)) (match codeK P rec x a h with
      | some (.code (.exit i) a1, h1) => (match Nat.beq i id with
        | true => some (.code .normal a1, h1)
        | false => some (.code (.exit i) a1, h1))
      | r => r) _
    rw [e1]
  | exit i =>
    by_cases hi : i = id
    · subst hi
      simp only [if_true] at q
      exact ⟨_, _, _, codeK_block_exit e1, q⟩
    · simp only [hi, if_false] at q
      refine ⟨.exit i, a1, h1, ?_, q⟩
      have : Nat.beq i id = false := by
        cases g : Nat.beq i id with
        | false => rfl
        | true => exact absurd (Nat.eq_of_beq_eq_true g) hi
      show @Eq (Option (Res × VH)) (match codeK P rec x a h with
        | some (.code (.exit i) a1, h1) => (match Nat.beq i id with
          | true => some (.code .normal a1, h1)
          | false => some (.code (.exit i) a1, h1))
        | r => r) _
      rw [e1]
      simp only [this]
theorem VW.skip (q : Q' .normal a h) : VW (codeK P rec .skip a h) Q' := ⟨_, _, _, rfl, q⟩
theorem VW.exit {id : Nat} (q : Q' (.exit id) a h) : VW (codeK P rec (.exit id) a h) Q' := ⟨_, _, _, rfl, q⟩
theorem VW.ret (q : Q' .ret a h) : VW (codeK P rec .ret a h) Q' := ⟨_, _, _, rfl, q⟩
end
end Go.Proofs.YtonkcdnpmemheaaGreat.Vm

namespace Go.Proofs.YtonkcdnpmemheaaGreat.Vm

/-! ### what was named before is named so still -/
section
variable {P : Program} {σ τ : Ren}

theorem ARel.swap (hle : σ.le τ) {a u u' : Addr} (h1 : ARel τ a u') (h2 : ARel σ a u) : ARel σ a u' := by
  obtain ⟨_, a1, m1, a2, a3, a4⟩ := h1
  obtain ⟨b0, _, m2, b2, _, _⟩ := h2
  have := hle _ _ b2
  rw [a2] at this; cases this
  exact ⟨b0, a1, m1, b2, a3, a4⟩

theorem FnRel.swap (hle : σ.le τ) {f u u' : Fn} (h1 : FnRel τ f u') (h2 : FnRel σ f u) : FnRel σ f u' := by
  cases f <;> first | exact h1 | skip
  obtain ⟨m1, a1, a2⟩ := h1
  obtain ⟨m2, b1, _⟩ := h2
  have := hle _ _ b1
  rw [a1] at this; cases this
  exact ⟨m1, b1, a2⟩

theorem VRel.swap (hle : σ.le τ) {v u' : Value} (h1 : VRel τ v u') : ∀ {u : Value}, VRel σ v u → VRel σ v u' := by
  induction h1 with
  | poison k a b v => intro u _; exact .poison k a b v
  | bool b => intro u _; exact .bool b
  | int k n => intro u _; exact .int k n
  | string s => intro u _; exact .string s
  | nilp => intro u _; exact .nilp
  | ptr r => intro u h2; cases h2 with | ptr r2 => exact .ptr (r.swap hle r2)
  | nils => intro u _; exact .nils
  | slc n c hc r =>
    intro u h2
    cases h2 with
    | slc _ _ _ r2 => exact .slc n c hc (r.swap hle r2)
    | unk _ size c' => exfalso; omega
    | flo a' _ c' hc' => exfalso; omega
  | unk n size c' h0 h1 hm hb ho hs hn he hd =>
    intro u h2
    generalize hq : UNK + size = q at h2
    cases h2 with
    | slc _ _ hc _ => exfalso; omega
    | unk _ size2 c2 g0 g1 gm gb go gs gn ge gd =>
      have := hle _ _ gm
      rw [hm] at this; cases this
      rw [← hq]
      exact .unk n size c' h0 h1 gm hb ho hs hn he hd
    | flo a' _ c2 hc2 => exact absurd h0 (by simp)
  | flo a' c c' hc => intro u _; exact .flo a' c c' hc
  | nilm => intro u _; exact .nilm
  | map r =>
    intro u h2
    cases h2 with
    | map r2 =>
      have := hle _ _ r2
      rw [r] at this; cases this
      exact .map r2
  | nilFunc => intro u _; exact .nilFunc
  | nilIface => intro u _; exact .nilIface
  | func hf g1 g2 g3 g4 i1 i2 =>
    intro u h2
    cases h2 with
    | func hf2 k1 k2 k3 k4 =>
      refine .func (hf.swap hle hf2) g1 (fun i x y hx hy => ?_) g3 (fun i x y hx hy => ?_)
      · obtain ⟨z, hz, hr⟩ := (LR.of k1 k2).get hx
        exact i1 i x y hx hy hr
      · obtain ⟨z, hz, hr⟩ := (LR.of k3 k4).get hx
        exact i2 i x y hx hy hr
  | iface t _ ih => intro u h2; cases h2 with | iface _ r2 => exact .iface t (ih r2)
  | agg g1 _ ih =>
    intro u h2
    cases h2 with
    | agg k1 k2 =>
      refine .agg g1 (fun i x y hx hy => ?_)
      obtain ⟨z, hz, hr⟩ := (LR.of k1 k2).get hx
      exact ih i x y hx hy hr
  | tuple g1 _ ih =>
    intro u h2
    cases h2 with
    | tuple k1 k2 =>
      refine .tuple g1 (fun i x y hx hy => ?_)
      obtain ⟨z, hz, hr⟩ := (LR.of k1 k2).get hx
      exact ih i x y hx hy hr

theorem ER.swap (hle : σ.le τ) {l u' : List MapEntry} (h1 : ER τ l u') : ∀ {u : List MapEntry}, ER σ l u → ER σ l u' := by
  induction h1 with
  | nil => intro u _; exact .nil
  | cons a _ ih =>
    intro u h2
    cases h2 with
    | cons b t2 => exact .cons ⟨a.1.swap hle b.1, a.2.1.swap hle b.2.1, a.2.2⟩ (ih t2)

/-- is everything in it named -/
def Named (P : Program) (σ : Ren) (o : VObj) : Prop := ∃ m O, ORel P σ m o O

theorem ORel.swap (hle : σ.le τ) {m : NM} {o : VObj} {O' : Obj} (h1 : ORel P τ m o O') (h2 : Named P σ o) : ORel P σ m o O' := by
  obtain ⟨m2, O, h2⟩ := h2
  cases h1 with
  | row hn hs hc hf hd =>
    cases h2 with
    | row hn2 hs2 hc2 hf2 hd2 =>
      refine .row hn hs ?_ hf hd
      intro i x hx
      obtain ⟨y, h3, h4⟩ := hc i x hx
      obtain ⟨z, _, h5⟩ := hc2 i x hx
      exact ⟨y, h3, h4.swap hle h5⟩
  | map h => cases h2 with | map g => exact .map (h.swap hle g)
  | siter s pos hd => exact .siter s pos hd
  | none s s' l l' k hd => exact .none s s' l l' k hd
  | miter h hs hd =>
    cases h2 with
    | miter g _ _ =>
      have := hle _ _ g
      rw [h] at this; cases this
      exact .miter g hs hd
  | loop hD ht hp ha hb =>
    cases h2 with
    | loop gD gt gp ga gb =>
      have := hle _ _ gD
      rw [hD] at this; cases this
      exact .loop gD (fun t x hl hx => (ht t x hl hx).swap hle (gt t x hl hx)) hp ha hb
  | dfdT => exact .dfdT
  | dfdF => exact .dfdF
end

section
variable {W : Frm} {P : Program} {σ τ : Ren} {h h1 : VH} {w w' : World}

/-- forget what came behind: the old objects are as they were -/
theorem R.forget (r : R W P σ h w) (hle : σ.le τ) (r1 : R W P τ h1 w') (hs : ∀ n o, h.get n = some o → h1.get n = some o) : R W P σ h w' where
  ext := r1.ext
  own n m e := r1.own n m (hle n m e)
  lt := r.lt
  obj n o e := by
    obtain ⟨m, O, g1, g2, g3⟩ := r.obj n o e
    obtain ⟨m', O', k1, k2, k3⟩ := r1.obj n o (hs n o e)
    have := hle _ _ g1
    rw [k1] at this; cases this
    exact ⟨_, O', g1, k2, k3.swap hle ⟨_, O, g3⟩⟩
  inj n n' o o' m m' e1 e2 s1 s2 := r1.inj n n' o o' m m' (hs _ _ e1) (hs _ _ e2) (hle _ _ s1) (hle _ _ s2)
  fix := r1.fix
  off := r.off
  res := r.res
  zlt := r.zlt
  al := r.al
  zal := r.zal
  big := r1.big
end
end Go.Proofs.YtonkcdnpmemheaaGreat.Vm

namespace Go.Proofs.YtonkcdnpmemheaaGreat.Vm
open Go.Proofs

noncomputable def updI : FnI := ⟨Tryz.f347.body.getD .skip, liveOf Tryz.f347 (Tryz.f347.body.getD .skip), Tryz.f347.results.toList⟩
theorem upd_info : fnInfo Tryz.prog 347 = some updI := by kernel_rfl

/-- the table as a value -/
noncomputable def tblL : List Value := (List.range 256).map fun i => .int .u32 (.ofNat (crcAt i))
theorem tblL_get {i : Nat} (h : i < 256) : nth? tblL i = some (.int .u32 (.ofNat (crcAt i))) := by
  rw [nth?_eq]; unfold tblL; simp [h]

noncomputable def updLv : Nat := Nat.lor updI.live (bitsTo 3)

structure UpdInv (a : VAct) (s i n r : Nat) (sl : Value) : Prop where
  t1 : a.get 1 = .int .u32 (.ofNat s)
  t3 : a.get 3 = .pointer (some ⟨r, 0, none⟩)
  t9 : a.get 9 = sl
  t10 : a.get 10 = .int .i64 (.ofNat n)
  t11 : a.get 11 = .int .i64 (.ofNat i)
  lv : a.live = updLv
  df : a.defers = []

/-- what the code's pieces are -/
noncomputable def cL : Code → Code | .seq x _ => x | .cond _ x _ => x | .block _ x => x | .loop x => x | _ => .skip
noncomputable def cR : Code → Code | .seq _ y => y | .cond _ _ y => y | _ => .skip
noncomputable def updBody : Code := cL (cL (cR (cL (cR updI.c))))

theorem upd_live : ∀ t, t = 1 ∨ t = 3 ∨ t = 8 ∨ t = 9 ∨ t = 10 ∨ t = 11 ∨ t = 12 ∨ t = 6 → tb updLv t = true := by
  intro t h
  rcases h with h | h | h | h | h | h | h | h <;> subst h <;> kernel_rfl

theorem u152 : tyUnd Tryz.prog 152 = some (.slice 5) := by kernel_rfl
theorem u443 : tyUnd Tryz.prog 443 = some (.array 256 77) := by kernel_rfl
theorem s5 : sizeT Tryz.prog 5 = some 1 := by kernel_rfl
theorem s77 : sizeT Tryz.prog 77 = some 1 := by kernel_rfl
theorem a5 : aggOf Tryz.prog 5 = some none := by kernel_rfl
theorem a77 : aggOf Tryz.prog 77 = some none := by kernel_rfl
theorem m77_5 : memConv Tryz.prog 77 5 = false := by kernel_rfl
theorem u77 : tyUnd Tryz.prog 77 = some (.int .u32) := by kernel_rfl
theorem u5 : tyUnd Tryz.prog 5 = some (.int .u8) := by kernel_rfl

theorem add_off (b off i : Nat) : (Addr.mk b off none).add i = ⟨b, off + i, none⟩ := by
  unfold Addr.add
  split
  · rename_i h; subst h; rfl
  · rfl

theorem wrap_u8 (m : Nat) : wrapF .u8 (.ofNat m) = .ofNat (Nat.mod m 256) := by
  show wrapN .u8 m = _
  unfold wrapN
  split
  · rename_i h
    rw [Nat.blt_eq] at h
    have : Nat.mod m 256 = m := Nat.mod_eq_of_lt h
    rw [this]
  · show IntKind.wrap .u8 (m : Int) = ((m % 256 : Nat) : Int)
    simp [IntKind.wrap, IntKind.bits, IntKind.signed]

theorem xor_u (k : IntKind) (hk : k.signed = false) {x y : Nat} (hx : x < 2 ^ k.bits) (hy : y < 2 ^ k.bits) : ofSem (Op.intBits .xor k (.ofNat x) (.ofNat y)) = some (.int k (.ofNat (Nat.xor x y))) := by
  have h1 : (BitVec.ofInt k.bits (x : Int)).toNat = x := by
    rw [BitVec.toNat_ofInt]
    have : ((x : Int) % ((2 ^ k.bits : Nat) : Int)) = (x : Int) := Int.emod_eq_of_lt (by omega) (by exact_mod_cast hx)
    rw [this]; rfl
  have h2 : (BitVec.ofInt k.bits (y : Int)).toNat = y := by
    rw [BitVec.toNat_ofInt]
    have : ((y : Int) % ((2 ^ k.bits : Nat) : Int)) = (y : Int) := Int.emod_eq_of_lt (by omega) (by exact_mod_cast hy)
    rw [this]; rfl
  have h3 : x ^^^ y < 2 ^ k.bits := Nat.xor_lt_two_pow hx hy
  show some (Value.int k (k.wrap (((BitVec.ofInt k.bits (x : Int)) ^^^ (BitVec.ofInt k.bits (y : Int))).toNat : Int))) = _
  rw [BitVec.toNat_xor, h1, h2]
  congr 2
  show k.wrap ((x ^^^ y : Nat) : Int) = ((x ^^^ y : Nat) : Int)
  unfold IntKind.wrap
  simp only [hk, Bool.false_and, Bool.false_eq_true, if_false]
  exact Int.emod_eq_of_lt (by omega) (by exact_mod_cast h3)

theorem crcAt_lt (i : Nat) : crcAt i < 4294967296 := by
  show (Nat.shiftRight crcTbl (Nat.mul 32 i)) &&& 4294967295 < 4294967296
  exact Nat.lt_of_le_of_lt Nat.and_le_right (by decide)

section
variable {rec : Rec} {h : VH} {a : VAct} {s i n b off r cap : Nat}

/-- a cell read -/
theorem load1 {P : Program} {t b off k e : Nat} {f bk : List Value} {fr : Nat × Nat} {v : Value} (ht : aggOf P t = some none) (hb : h.get b = some (.row k f bk e fr)) (hv : nth? (rowList f bk) off = some v) : (vload P t (.pointer (some ⟨b, off, none⟩))).run h = some (.value v, h) := by
  unfold vload
  rw [ht]
  show (HM.rd b (load1K off)).run h = _
  rw [HM.run_rd_some hb]
  unfold load1K
  simp only [hopt, hv]
  rfl

theorem ltF_nat (x y : Nat) : ltF (.ofNat x) (.ofNat y) = Nat.blt x y := rfl

set_option maxHeartbeats 1000000 in
theorem upd_round {k e1 : Nat} {f1 bk1 : List Value} {fr1 : Nat × Nat} {f2 bk2 : List Value} {k2 e2 : Nat} {fr2 : Nat × Nat} (inv : UpdInv a s i n r (.slice (some ⟨b, off, none⟩) n cap)) (hb : h.get b = some (.row k f1 bk1 e1 fr1)) (hrt : h.get r = some (.row k2 f2 bk2 e2 fr2)) (h2 : rowList f2 bk2 = tblL)
    {x : Nat} (hx : nth? (rowList f1 bk1) (off + i) = some (.int .u8 (.ofNat x))) (hx2 : x < 256) (hi : i < n) (hs : s < 4294967296) (hn : n < 9223372036854775807) :
    VW (codeK Tryz.prog rec updBody a h) fun e a' h' => e = .normal ∧ h' = h ∧ UpdInv a' (crcStep s x) (i + 1) n r (.slice (some ⟨b, off, none⟩) n cap) := by
  have hlt : Nat.blt i n = true := by rw [Nat.blt_eq]; exact hi
  have hxor : Nat.xor (Nat.mod s 256) x < 256 := by
    have := Nat.xor_lt_two_pow (x := s % 256) (y := x) (n := 8) (Nat.mod_lt _ (by decide)) hx2
    exact this
  simp only [updBody, updI, Tryz.f347, Option.getD_some, cL, cR]
  have lv : ∀ {u : VAct} {t : Nat}, u.live = updLv → (t = 1 ∨ t = 3 ∨ t = 8 ∨ t = 9 ∨ t = 10 ∨ t = 11 ∨ t = 12 ∨ t = 6) → u.shut.get t = u.get t := fun hu ht => VAct.get_shut_live (by rw [hu]; exact upd_live _ ht)
  have i1 := inv.t1
  have i3 := inv.t3
  have i9 := inv.t9
  have i10 := inv.t10
  have i11 := inv.t11
  have il := inv.lv
  refine VW.seq (VW.region (VO.pure (v := .bool true) rfl ?_ (VO.nil ?_)))
  · show OpR.pure (vbin Tryz.prog .lss 3 (a.get 11) (a.get 10)) = _
    rw [i11, i10, ← hlt]; rfl
  refine VW.seq (VW.condT ?_ (VW.skip ?_))
  · rw [VAct.eval_tmp, lv (by rw [VAct.live_put]; exact il) (by simp)]; rfl
  generalize ha2 : (a.put (some 12) (.bool true)).shut = a2
  have j1 : a2.get 1 = .int .u32 (.ofNat s) := by rw [← ha2, lv (by rw [VAct.live_put]; exact il) (by simp)]; exact i1
  have j3 : a2.get 3 = .pointer (some ⟨r, 0, none⟩) := by rw [← ha2, lv (by rw [VAct.live_put]; exact il) (by simp)]; exact i3
  have j9 : a2.get 9 = .slice (some ⟨b, off, none⟩) n cap := by rw [← ha2, lv (by rw [VAct.live_put]; exact il) (by simp)]; exact i9
  have j10 : a2.get 10 = .int .i64 (.ofNat n) := by rw [← ha2, lv (by rw [VAct.live_put]; exact il) (by simp)]; exact i10
  have j11 : a2.get 11 = .int .i64 (.ofNat i) := by rw [← ha2, lv (by rw [VAct.live_put]; exact il) (by simp)]; exact i11
  have jl : a2.live = updLv := by rw [← ha2, VAct.live_shut, VAct.live_put]; exact il
  have jd : a2.defers = [] := by rw [← ha2, VAct.shut_defers, VAct.put_defers]; exact inv.df
  -- the byte
  refine VW.seq (VW.block (VW.seq (VW.region (VO.pure (v := .pointer (some ⟨b, off + i, none⟩)) rfl ?_ (VO.val (v := .int .u8 (.ofNat x)) (h1 := h) rfl rfl ?_ (VO.pure (v := .int .u8 (.ofNat x)) rfl ?_ (VO.nil ?_)))))))
  · show OpR.pure (vindexAddr Tryz.prog 152 (a2.get 9) (a2.get 11)) = _
    rw [j9, j11]
    simp only [vindexAddr, u152, addAt, hlt, s5]
    rw [add_off]
    simp
  · refine load1 (t := 5) a5 hb hx
  · rfl
  generalize ha3 : VAct.shut _ = a3
  have k1 : a3.get 1 = .int .u32 (.ofNat s) := by rw [← ha3, lv (by simp only [VAct.live_put]; exact jl) (by simp)]; simp only [VAct.get_put]; simpa using j1
  have k3 : a3.get 3 = .pointer (some ⟨r, 0, none⟩) := by rw [← ha3, lv (by simp only [VAct.live_put]; exact jl) (by simp)]; simp only [VAct.get_put]; simpa using j3
  have k8 : a3.get 8 = .int .u8 (.ofNat x) := by rw [← ha3, lv (by simp only [VAct.live_put]; exact jl) (by simp)]; simp only [VAct.get_put]; simp
  have k9 : a3.get 9 = .slice (some ⟨b, off, none⟩) n cap := by rw [← ha3, lv (by simp only [VAct.live_put]; exact jl) (by simp)]; simp only [VAct.get_put]; simpa using j9
  have k10 : a3.get 10 = .int .i64 (.ofNat n) := by rw [← ha3, lv (by simp only [VAct.live_put]; exact jl) (by simp)]; simp only [VAct.get_put]; simpa using j10
  have k11 : a3.get 11 = .int .i64 (.ofNat i) := by rw [← ha3, lv (by simp only [VAct.live_put]; exact jl) (by simp)]; simp only [VAct.get_put]; simpa using j11
  have kl : a3.live = updLv := by rw [← ha3, VAct.live_shut]; simp only [VAct.live_put]; exact jl
  have kd : a3.defers = [] := by rw [← ha3, VAct.shut_defers]; simp only [VAct.put_defers]; exact jd
  -- the step
  have hsr : Nat.shiftRight s 8 < 4294967296 := by
    show s >>> 8 < _
    rw [Nat.shiftRight_eq_div_pow]
    omega
  refine VW.region (VO.pure (v := .int .u32 (.ofNat s)) rfl ?_ (VO.pure (v := .int .u32 (.ofNat (Nat.shiftRight s 8))) rfl ?_ (VO.pure (v := .int .u32 (.ofNat s)) rfl ?_ (VO.pure (v := .int .u8 (.ofNat (Nat.mod s 256))) rfl ?_ (VO.pure (v := .int .u8 (.ofNat x)) rfl ?_
    (VO.pure (v := .int .u8 (.ofNat (Nat.xor (Nat.mod s 256) x))) rfl ?_ (VO.pure (v := .pointer (some ⟨r, Nat.xor (Nat.mod s 256) x, none⟩)) rfl ?_ (VO.val (v := .int .u32 (.ofNat (crcAt (Nat.xor (Nat.mod s 256) x)))) (h1 := h) rfl rfl ?_
    (VO.pure (v := .int .u32 (.ofNat (crcStep s x))) rfl ?_ (VO.pure (v := .int .u32 (.ofNat (crcStep s x))) rfl ?_ (VO.nil ?_)))))))))))
  all_goals dsimp only
  · rw [← k1]; rfl
  · rfl
  · rw [VAct.eval_vopK_move]; simp only [VAct.get_put]; simpa using k1
  · simp only [vopK, cop, copConv, m77_5, VAct.eval_tmp, VAct.get_put, if_true]
    simp only [pconvert, u77, u5, wrap_u8]
  · rw [VAct.eval_vopK_move]; simp only [VAct.get_put]; simpa using k8
  · simp only [vopK, cop, VAct.eval_tmp, VAct.get_put, if_true, show (18 : Nat) ≠ 19 by decide, if_false]
    have := xor_u .u8 rfl (x := Nat.mod s 256) (y := x) (Nat.mod_lt _ (by decide)) hx2
    show OpR.pure (ofSem (Op.intBits .xor .u8 (.ofNat (Nat.mod s 256)) (.ofNat x))) = _
    rw [this]
  · simp only [vopK, cop, VAct.eval_tmp, VAct.get_put, if_true]
    simp only [show (3 : Nat) ≠ 20 by decide, show (3 : Nat) ≠ 19 by decide, show (3 : Nat) ≠ 18 by decide, show (3 : Nat) ≠ 17 by decide, show (3 : Nat) ≠ 16 by decide, show (3 : Nat) ≠ 15 by decide, if_false, k3]
    have hb2 : Nat.blt (Nat.xor (Nat.mod s 256) x) 256 = true := by rw [Nat.blt_eq]; exact hxor
    simp only [vindexAddr, u443, addAt, hb2, s77, add_off]
    simp
  · refine load1 (t := 77) a77 hrt ?_
    rw [h2]; exact tblL_get hxor
  · simp only [vopK, cop, VAct.eval_tmp, VAct.get_put, if_true]
    simp only [show (16 : Nat) ≠ 22 by decide, show (16 : Nat) ≠ 21 by decide, show (16 : Nat) ≠ 20 by decide, show (16 : Nat) ≠ 19 by decide, show (16 : Nat) ≠ 18 by decide, show (16 : Nat) ≠ 17 by decide, if_false, if_true]
    have := xor_u .u32 rfl (x := Nat.shiftRight s 8) (y := crcAt (Nat.xor (Nat.mod s 256) x)) hsr (crcAt_lt _)
    show OpR.pure (ofSem (Op.intBits .xor .u32 (.ofNat (Nat.shiftRight s 8)) (.ofNat (crcAt (Nat.xor (Nat.mod s 256) x))))) = _
    rw [this]; rfl
  · rfl
  generalize ha4 : VAct.shut _ = a4
  have kk : ∀ t, (t = 9 ∨ t = 10 ∨ t = 3 ∨ t = 11) → a4.get t = a3.get t := by
    intro t ht
    rw [← ha4, lv (by simp only [VAct.live_put]; exact kl) (by rcases ht with h | h | h | h <;> subst h <;> simp)]
    simp only [VAct.get_put]
    rcases ht with h | h | h | h <;> subst h <;> simp
  have m1 : a4.get 1 = .int .u32 (.ofNat (crcStep s x)) := by rw [← ha4, lv (by simp only [VAct.live_put]; exact kl) (by simp)]; simp only [VAct.get_put]; simp
  have ml : a4.live = updLv := by rw [← ha4, VAct.live_shut]; simp only [VAct.live_put]; exact kl
  have md : a4.defers = [] := by rw [← ha4, VAct.shut_defers]; simp only [VAct.put_defers]; exact kd
  have m11 : a4.get 11 = .int .i64 (.ofNat i) := by rw [kk 11 (by simp)]; exact k11
  have hadd : Nat.add i 1 < lim .i64 := by show i + 1 < 9223372036854775808; omega
  refine VW.region (VO.pure (v := .int .i64 (.ofNat (i + 1))) rfl ?_ (VO.pure (v := .int .i64 (.ofNat (i + 1))) rfl ?_ (VO.nil ?_)))
  all_goals dsimp only
  · simp only [vopK, cop, VAct.eval_tmp, m11]
    show OpR.pure (vbin Tryz.prog .add 3 (.int .i64 (.ofNat i)) (.int .i64 (.ofNat 1))) = _
    simp only [vbin, vint, keq, kidx, intOp, addF]
    rw [wrapF_small .i64 hadd]
  · rw [VAct.eval_vopK_move]; simp only [VAct.get_put]; simp
  refine ⟨rfl, rfl, ?_⟩
  have fin : ∀ t, (t = 9 ∨ t = 10 ∨ t = 3 ∨ t = 1) → ((a4.put (some 24) (.int .i64 (.ofNat (i + 1)))).put (some 11) (.int .i64 (.ofNat (i + 1)))).shut.get t = a4.get t := by
    intro t ht
    rw [lv (by simp only [VAct.live_put]; exact ml) (by rcases ht with h | h | h | h <;> subst h <;> simp)]
    simp only [VAct.get_put]
    rcases ht with h | h | h | h <;> subst h <;> simp
  refine ⟨?_, ?_, ?_, ?_, ?_, ?_, ?_⟩
  · rw [fin 1 (by simp)]; exact m1
  · rw [fin 3 (by simp), kk 3 (by simp)]; exact k3
  · rw [fin 9 (by simp), kk 9 (by simp)]; exact k9
  · rw [fin 10 (by simp), kk 10 (by simp)]; exact k10
  · rw [lv (by simp only [VAct.live_put]; exact ml) (by simp)]; simp only [VAct.get_put]; simp
  · rw [VAct.live_shut]; simp only [VAct.live_put]; exact ml
  · rw [VAct.shut_defers]; simp only [VAct.put_defers]; exact md

end
end Go.Proofs.YtonkcdnpmemheaaGreat.Vm

