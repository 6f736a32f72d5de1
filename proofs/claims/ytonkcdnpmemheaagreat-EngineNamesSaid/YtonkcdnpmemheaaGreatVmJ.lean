/- The contracts of octet.Of and octet.Put. By an AI agent. -/
import Derived.Test.YtonkcdnpmemheaaGreatVmI
set_option linter.all false
namespace Go.Proofs.YtonkcdnpmemheaaGreat.Vm
open Go.Proofs

/-! ### octet.Of -/

/-- the number that bytes tell, the lowest first -/
noncomputable def leVal : List Value → Option Nat
  | [] => some 0
  | x :: l => (match x with
    | .int .u8 (.ofNat n) => (match Nat.blt n 256 with
      | true => (match leVal l with
        | some r => some (Nat.add n (Nat.mul 256 r))
        | none => none)
      | false => none)
    | _ => none)

noncomputable def ofEnd (l : List Value) : HM Value := hopt (leVal l) fun v => .ret (.int .u64 (.ofNat v))
noncomputable def sumOf (args : List Value) : HM Value :=
  match args with
  | [.slice a n _] => (match Nat.ble n 8 with
    | true => firstN 1 n (.slice a n 0) ofEnd
    | false => .fail)
  | _ => .fail

theorem leVal_cons {a : Value} {l : List Value} {r : Nat} (e : leVal (a :: l) = some r) : ∃ x q, a = .int .u8 (.ofNat x) ∧ x < 256 ∧ leVal l = some q ∧ r = x + 256 * q := by
  unfold leVal at e
  split at e
  · rename_i n
    split at e
    · rename_i hb
      split at e
      · rename_i q hq
        cases e
        rw [Nat.blt_eq] at hb
        exact ⟨n, q, rfl, hb, hq, rfl⟩
      · cases e
    · cases e
  · cases e

theorem leVal_drop : ∀ {L : List Value} {r : Nat}, leVal L = some r → ∀ m, ∃ q, leVal (L.drop m) = some q := by
  intro L
  induction L with
  | nil => intro r e m; exact ⟨r, by simpa using e⟩
  | cons a l ih =>
    intro r e m
    cases m with
    | zero => exact ⟨r, e⟩
    | succ m =>
      obtain ⟨x, q, _, _, h, _⟩ := leVal_cons e
      exact ih h m

theorem leVal_lt : ∀ {L : List Value} {r : Nat}, leVal L = some r → r < 256 ^ L.length := by
  intro L
  induction L with
  | nil => intro r e; cases e; decide
  | cons a l ih =>
    intro r e
    obtain ⟨x, q, _, hx, h, rfl⟩ := leVal_cons e
    have := ih h
    rw [List.length_cons, Nat.pow_succ]
    omega

theorem or_u (k : IntKind) (hk : k.signed = false) {x y : Nat} (hx : x < 2 ^ k.bits) (hy : y < 2 ^ k.bits) : ofSem (Op.intBits .or k (.ofNat x) (.ofNat y)) = some (.int k (.ofNat (Nat.lor x y))) := by
  have h1 : (BitVec.ofInt k.bits (x : Int)).toNat = x := by
    rw [BitVec.toNat_ofInt]
    have : ((x : Int) % ((2 ^ k.bits : Nat) : Int)) = (x : Int) := Int.emod_eq_of_lt (by omega) (by exact_mod_cast hx)
    rw [this]; rfl
  have h2 : (BitVec.ofInt k.bits (y : Int)).toNat = y := by
    rw [BitVec.toNat_ofInt]
    have : ((y : Int) % ((2 ^ k.bits : Nat) : Int)) = (y : Int) := Int.emod_eq_of_lt (by omega) (by exact_mod_cast hy)
    rw [this]; rfl
  have h3 : x ||| y < 2 ^ k.bits := Nat.or_lt_two_pow hx hy
  show some (Value.int k (k.wrap (((BitVec.ofInt k.bits (x : Int)) ||| (BitVec.ofInt k.bits (y : Int))).toNat : Int))) = _
  rw [BitVec.toNat_or, h1, h2]
  congr 2
  show k.wrap ((x ||| y : Nat) : Int) = ((x ||| y : Nat) : Int)
  unfold IntKind.wrap
  simp only [hk, Bool.false_and, Bool.false_eq_true, if_false]
  exact Int.emod_eq_of_lt (by omega) (by exact_mod_cast h3)

theorem shl8 {v : Nat} (h : v * 256 < 18446744073709551616) : vint .shl .u64 (.ofNat v) .i64 (.ofNat 8) = some (.int .u64 (.ofNat (v * 256))) := by
  show some (Value.int .u64 (IntKind.u64.wrap ((v : Int) * 2 ^ 8))) = _
  congr 2
  unfold IntKind.wrap
  simp only [show IntKind.signed .u64 = false from rfl, Bool.false_and, Bool.false_eq_true, if_false]
  show ((v : Int) * 2 ^ 8) % (2 ^ 64 : Int) = ((v * 256 : Nat) : Int)
  rw [Int.emod_eq_of_lt (by omega) (by omega)]
  omega

theorem or8 {v x : Nat} (hv : v * 256 < 18446744073709551616) (hx : x < 256) : vint .or .u64 (.ofNat (v * 256)) .u64 (.ofNat x) = some (.int .u64 (.ofNat (x + 256 * v))) := by
  show ofSem (Op.intBits .or .u64 (.ofNat (v * 256)) (.ofNat x)) = _
  rw [or_u .u64 rfl (by show v * 256 < 18446744073709551616; exact hv) (by show x < 18446744073709551616; omega)]
  have h1 := Nat.two_pow_add_eq_or_of_lt (i := 8) (b := x) (by omega) v
  have h2 : Nat.lor (v * 256) x = x + 256 * v := by
    show v * 256 ||| x = _
    rw [show v * 256 = 2 ^ 8 * v by omega, ← h1]; omega
  rw [h2]

/-- one less than a number -/
def lessOne : Nat → Int
  | 0 => .negSucc 0
  | m + 1 => .ofNat m
theorem sub1 {m : Nat} (h : m < 9223372036854775808) : vint .sub .i64 (.ofNat m) .i64 (.ofNat 1) = some (.int .i64 (lessOne m)) := by
  cases m with
  | zero => rfl
  | succ m =>
    show some (Value.int .i64 (wrapF .i64 (subN (m + 1) 1))) = _
    have : subN (m + 1) 1 = .ofNat m := rfl
    rw [this, wrapF_small .i64 (by show m < 9223372036854775808; omega)]
    rfl

theorem oc_info : fnInfo Tryz.prog 156 = some (fnI Tryz.f156) := by kernel_rfl
theorem oc_res : (fnI Tryz.f156).res = [.cell 2 49] := by kernel_rfl
noncomputable def ocLv : Nat := Nat.lor (fnI Tryz.f156).live (bitsTo 1)
theorem oc_live : ∀ t, (t = 0 ∨ t = 2 ∨ t = 4 ∨ t = 7 ∨ t = 9 ∨ t = 11) → tb ocLv t = true := by
  intro t h
  rcases h with h | h | h | h | h | h <;> subst h <;> kernel_rfl
theorem oc_log : Nat.log2 ocLv = 11 := by kernel_rfl
theorem oc_frame (x : Value) : (frame [x] (fnI Tryz.f156).live).get 0 = x := by kernel_rfl
theorem oc_lv {u : VAct} {t : Nat} (hu : u.live = ocLv) (ht : t = 0 ∨ t = 2 ∨ t = 4 ∨ t = 7 ∨ t = 9 ∨ t = 11) : u.shut.get t = u.get t := VAct.get_shut_live (by rw [hu]; exact oc_live t ht)

theorem bw_info : fnInfo Tryz.prog 297 = some (fnI Tryz.f297) := by kernel_rfl
theorem bw_res : (fnI Tryz.f297).res = [] := by kernel_rfl
noncomputable def bwLv : Nat := Nat.lor (fnI Tryz.f297).live (bitsTo 2)
theorem bw_live : ∀ t, (t = 0 ∨ t = 1 ∨ t = 3 ∨ t = 8 ∨ t = 18) → tb bwLv t = true := by
  intro t h
  rcases h with h | h | h | h | h <;> subst h <;> kernel_rfl
theorem bw_frame (x y : Value) : (frame [x, y] (fnI Tryz.f297).live).get 0 = x ∧ (frame [x, y] (fnI Tryz.f297).live).get 1 = y := by refine ⟨?_, ?_⟩ <;> kernel_rfl
theorem bw_lv {u : VAct} {t : Nat} (hu : u.live = bwLv) (ht : t = 0 ∨ t = 1 ∨ t = 3 ∨ t = 8 ∨ t = 18) : u.shut.get t = u.get t := VAct.get_shut_live (by rw [hu]; exact bw_live t ht)

theorem a49 : aggOf Tryz.prog 49 = some none := by kernel_rfl
theorem s49 : sizeT Tryz.prog 49 = some 1 := by kernel_rfl
theorem z49 : zeroT Tryz.prog 49 = some (.int .u64 0) := by kernel_rfl
theorem a152 : aggOf Tryz.prog 152 = some none := by kernel_rfl
theorem m5_49 : memConv Tryz.prog 5 49 = false := by kernel_rfl
theorem body237 : bodyOf Tryz.prog 237 = some true := by kernel_rfl
theorem body297 : bodyOf Tryz.prog 297 = some true := by kernel_rfl

noncomputable def cA : Code → Code | .rangeFunc _ _ a _ => a | _ => .skip
noncomputable def ocRange : Code := (match cR (cL (cR (cR (fnI Tryz.f156).c))) with | .block _ x => x | _ => .skip)
noncomputable def ocAsg : Code := cA ocRange
noncomputable def ocBd : Code := cB ocRange

/-- the round's assignment -/
theorem oc_asg {rec : Rec} {a : VAct} {h : VH} {cn x : Nat} (hl : a.live = ocLv) (h2 : a.get 2 = .pointer (some ⟨cn, 0, none⟩)) (h11 : a.get 11 = .int .u8 (.ofNat x)) :
    VW (codeK Tryz.prog rec ocAsg a h) fun e a' h' => e = .normal ∧ h' = h ∧ a'.get 2 = .pointer (some ⟨cn, 0, none⟩) ∧ a'.get 4 = .int .u8 (.ofNat x) := by
  simp only [ocAsg, ocRange, fnI, Tryz.f156, Option.getD_some, cL, cR, cA]
  refine VW.region (VO.pure (v := .int .u8 (.ofNat x)) rfl ?_ (VO.nil ⟨rfl, rfl, ?_, ?_⟩))
  · rw [VAct.eval_vopK_move_assign, h11]
  · rw [oc_lv (by simp only [VAct.live_put]; exact hl) (by simp)]; simp only [VAct.get_put]; simpa using h2
  · rw [oc_lv (by simp only [VAct.live_put]; exact hl) (by simp)]; simp only [VAct.get_put]; simp

/-- a byte more -/
theorem oc_body {rec : Rec} {a : VAct} {h : VH} {cn rn v x : Nat} (h2 : a.get 2 = .pointer (some ⟨cn, 0, none⟩)) (h4 : a.get 4 = .int .u8 (.ofNat x)) (hc : h.get cn = some (.row rn [.int .u64 (.ofNat v)] [] 49 (0, 0))) (hx : x < 256) (hv : v * 256 < 18446744073709551616) :
    VW (codeK Tryz.prog rec ocBd a h) fun e _ h' => e = .normal ∧ h' = h.put cn (some (.row rn [.int .u64 (.ofNat (x + 256 * v))] [] 49 (0, 0))) := by
  simp only [ocBd, ocRange, fnI, Tryz.f156, Option.getD_some, cL, cR, cB]
  refine VW.block (VW.region (VO.val (v := .int .u64 (.ofNat v)) (h1 := h) rfl rfl ?_ <| VO.pure (v := .int .u64 (.ofNat (v * 256))) rfl ?_ <| VO.pure (v := .int .u8 (.ofNat x)) rfl ?_ <| VO.pure (v := .int .u64 (.ofNat x)) rfl ?_ <|
    VO.pure (v := .int .u64 (.ofNat (x + 256 * v))) rfl ?_ <| VO.unit (h1 := h.put cn (some (.row rn [.int .u64 (.ofNat (x + 256 * v))] [] 49 (0, 0)))) rfl rfl ?_ (VO.nil ⟨rfl, rfl⟩)))
  all_goals dsimp only
  · show (vload Tryz.prog 49 (a.get 2)).run h = _
    rw [h2]
    exact load1 (t := 49) (off := 0) a49 hc rfl
  · simp only [vopK, cop, VAct.eval_tmp, VAct.get_put, if_true]
    show OpR.pure (vint .shl .u64 (.ofNat v) .i64 (.ofNat 8)) = _
    rw [shl8 hv]
  · rw [VAct.eval_vopK_move]; simp only [VAct.get_put]; simpa using h4
  · simp only [vopK, cop, copConv, m5_49, VAct.eval_tmp, VAct.get_put, if_true, pconvert, u5, u49]
    rw [wrapF_small .u64 (by show x < 18446744073709551616; omega)]
  · simp only [vopK, cop, VAct.eval_tmp, VAct.get_put]
    simp
    show vint .or .u64 (.ofNat (v * 256)) .u64 (.ofNat x) = _
    rw [or8 hv hx]; rfl
  · simp only [VAct.eval_tmp, VAct.get_put, if_true, show (2 : Nat) ≠ 16 by decide, show (2 : Nat) ≠ 15 by decide, show (2 : Nat) ≠ 14 by decide, show (2 : Nat) ≠ 13 by decide, show (2 : Nat) ≠ 12 by decide, if_false, h2]
    unfold vstore
    rw [s49]
    show (HM.rd cn (wrK cn 0 [.int .u64 (.ofNat (x + 256 * v))] (HM.ret Next.skip))).run h = _
    rw [HM.run_rd_some hc]
    have hdef : (wrK cn 0 [.int .u64 (.ofNat (x + 256 * v))] (HM.ret Next.skip) (.row rn [.int .u64 (.ofNat v)] [] 49 (0, 0))).run h = Option.rec (motive := fun _ => Option (Next × VH)) none (fun _ => (HM.ret Next.skip).run (h.put cn (some (.row rn [.int .u64 (.ofNat (x + 256 * v))] [] 49 (0, 0))))) (h.get cn) := rfl
    rw [hdef, hc]
    rfl

/-- a round -/
theorem oc_round {S : Sums} {K : Nat} {h : VH} {l D cn v x rn : Nat} {t tmps : List Value} {ps : List Tmp} {asg bd : Code} {p : Option Code} (hl : h.get l = some (.loop .ready p ocLv tmps ps asg bd D)) (hc : h.get cn = some (.row rn [.int .u64 (.ofNat v)] [] 49 (0, 0))) (hne : cn ≠ l) (hx : x < 256) (hv : v * 256 < 18446744073709551616)
    (h2 : baseGet (Tm.sets 0 t .e) ocLv 2 = .pointer (some ⟨cn, 0, none⟩)) (h11 : baseGet (Tm.sets 0 t .e) ocLv 11 = .int .u8 (.ofNat x)) :
    vrun Tryz.prog S (K + 2) (.round l ocLv t ocAsg ocBd) h = some (.val (.bool true), ((h.put l (some (.loop .busy p ocLv tmps ps asg bd D))).put cn (some (.row rn [.int .u64 (.ofNat (x + 256 * v))] [] 49 (0, 0)))).put l (some (.loop .ready none ocLv tmps ps asg bd D))) := by
  have h0 : vrun Tryz.prog S (K + 2) (.round l ocLv t ocAsg ocBd) h = roundGo (vrun Tryz.prog S (K + 1)) l ocBd (codeK Tryz.prog (vrun Tryz.prog S K) ocAsg ⟨Tm.sets 0 t .e, [], ocLv, [], some l⟩ h) := rfl
  obtain ⟨e0, a1, h1, q0, rfl, rfl, q2, q4⟩ := oc_asg (rec := vrun Tryz.prog S K) (a := ⟨Tm.sets 0 t .e, [], ocLv, [], some l⟩) (h := h) (cn := cn) (x := x) (by dsimp only) h2 h11
  rw [h0, q0]
  show roundBody (vrun Tryz.prog S (K + 1)) l ocBd a1 h1 (h1.get l) = _
  rw [hl]
  have h1' : roundBody (vrun Tryz.prog S (K + 1)) l ocBd a1 h1 (some (.loop .ready p ocLv tmps ps asg bd D)) = roundDone l (codeK Tryz.prog (vrun Tryz.prog S K) ocBd a1 (h1.put l (some (.loop .busy p ocLv tmps ps asg bd D)))) := rfl
  rw [h1']
  obtain ⟨e, a', h', e1, rfl, rfl⟩ := oc_body (rec := vrun Tryz.prog S K) (a := a1) (h := h1.put l (some (.loop .busy p ocLv tmps ps asg bd D))) (cn := cn) (v := v) q2 q4 (by rw [VH.get_put, if_neg hne]; exact hc) hx hv
  rw [e1]
  show roundEnd l .normal _ ((h1.put l _).put cn _ |>.get l) = _
  rw [VH.get_put, if_neg (Ne.symm hne), VH.get_put, if_pos rfl]
  rfl
end Go.Proofs.YtonkcdnpmemheaaGreat.Vm

namespace Go.Proofs.YtonkcdnpmemheaaGreat.Vm
open Go.Proofs

theorem VO.round {P : Program} {rec : Rec} {ops : List Oper} {o : Oper} {rest : List Oper} {a : VAct} {h : VH} {Q : VAct → VH → Prop} {m : HM Next} {l live : Nat} {t : Array Value} {asg bd : Code} {v : Value} {h1 h2 : VH} (hw : vwanted ops a o = some true) (hv : vopK P a.eval o.op = .mem m)
    (hm : m.run h = some (.round l live t asg bd, h1)) (hc : rec (.round l live t.toList asg bd) h1 = some (.val v, h2)) (hr : VO (runOps P rec ops rest (a.put o.dst v) h2) Q) : VO (runOps P rec ops (o :: rest) a h) Q := by
  rw [step_mem hw hv hm (by show putRes o a (rec (.round l live t.toList asg bd) h1) = _; rw [hc]; rfl) rfl]
  exact hr

noncomputable def bwI : FnI := fnI Tryz.f297
noncomputable def bwBody : Code := cL (cL (cR bwI.c))
theorem bwI_c : bwI.c = .seq (cL bwI.c) (.block 0 (.loop bwBody)) := by kernel_rfl
theorem bwBody_eq : bwBody = .seq (cL bwBody) (.seq (.block 1 (.seq (cL (cL (cL (cR bwBody)))) (.cond (.tmp 18) .ret .skip))) (cR (cR bwBody))) := by kernel_rfl

structure BwInv (a : VAct) (l bx m : Nat) : Prop where
  t0 : a.get 0 = .func (.yield l) #[] #[]
  t1 : a.get 1 = .pointer (some ⟨bx, 0, none⟩)
  t3 : a.get 3 = .int .i64 (lessOne m)
  lv : a.live = bwLv
  df : a.defers = []

structure OcH (h : VH) (l cn bx dn D n sc : Nat) (sa : Option Addr) (tmps : List Value) (v : Nat) (H : VH) : Prop where
  old : ∀ n o, h.get n = some o → H.get n = some o
  lp : H.get l = some (.loop .ready none ocLv tmps [10, 11] ocAsg ocBd D)
  cn : ∃ rn, H.get cn = some (.row rn [.int .u64 (.ofNat v)] [] 49 (0, 0))
  bx : ∃ k e fr, H.get bx = some (.row k [.slice sa n sc] [] e fr)
  dn : H.get dn = some (.dfd true)

section
variable {S : Sums} {h : VH} {l cn bx dn D n sc : Nat} {sa : Option Addr} {tmps : List Value} {L : List Value}

theorem bw_head {rec : Rec} {a : VAct} {H : VH} {m : Nat} (inv : BwInv a l bx m) (Q : VExit → VAct → VH → Prop) (q1 : ∀ a', BwInv a' l bx m → 0 < m → Q .normal a' H) (q2 : ∀ a', BwInv a' l bx m → m = 0 → Q (.exit 0) a' H) :
    VW (codeK Tryz.prog rec (cL bwBody) a H) Q := by
  simp only [bwBody, bwI, fnI, Tryz.f297, Option.getD_some, cL, cR]
  refine VW.seq <| VW.region <| VO.pure (v := .int .i64 (lessOne m)) rfl ?_ <| VO.pure (v := .bool (Nat.blt 0 m)) rfl ?_ <| VO.nil ?_
  all_goals dsimp only
  · rw [VAct.eval_vopK_move, inv.t3]
  · simp only [vopK, cop, VAct.eval_tmp, VAct.get_put, if_true]
    cases m with
    | zero => rfl
    | succ m => rfl
  generalize ha1 : VAct.shut _ = a1
  have inv1 : BwInv a1 l bx m := by
    refine ⟨?_, ?_, ?_, ?_, ?_⟩
    · rw [← ha1, bw_lv (by simp only [VAct.live_put]; exact inv.lv) (by simp)]; simp only [VAct.get_put]; simpa using inv.t0
    · rw [← ha1, bw_lv (by simp only [VAct.live_put]; exact inv.lv) (by simp)]; simp only [VAct.get_put]; simpa using inv.t1
    · rw [← ha1, bw_lv (by simp only [VAct.live_put]; exact inv.lv) (by simp)]; simp only [VAct.get_put]; simpa using inv.t3
    · rw [← ha1, VAct.live_shut]; simp only [VAct.live_put]; exact inv.lv
    · rw [← ha1, VAct.shut_defers]; simp only [VAct.put_defers]; exact inv.df
  have g8 : a1.get 8 = .bool (Nat.blt 0 m) := by rw [← ha1, bw_lv (by simp only [VAct.live_put]; exact inv.lv) (by simp)]; simp only [VAct.get_put]; simp
  cases m with
  | zero => exact VW.condF (by rw [VAct.eval_tmp]; exact g8) (VW.exit (q2 _ inv1 rfl))
  | succ m => exact VW.condT (by rw [VAct.eval_tmp]; exact g8) (VW.skip (q1 _ inv1 (by omega)))

theorem bw_next {rec : Rec} {a : VAct} {H : VH} {m : Nat} (inv : BwInv a l bx (m + 1)) (hm : m < 9223372036854775808) (Q : VExit → VAct → VH → Prop) (q1 : ∀ a', BwInv a' l bx m → Q .normal a' H) : VW (codeK Tryz.prog rec (cR (cR bwBody)) a H) Q := by
  simp only [bwBody, bwI, fnI, Tryz.f297, Option.getD_some, cL, cR]
  refine VW.region <| VO.pure (v := .int .i64 (.ofNat m)) rfl ?_ <| VO.pure (v := .int .i64 (lessOne m)) rfl ?_ <| VO.pure (v := .int .i64 (lessOne m)) rfl ?_ <| VO.nil ?_
  all_goals dsimp only
  · rw [VAct.eval_vopK_move, inv.t3]; rfl
  · simp only [vopK, cop, VAct.eval_tmp, VAct.get_put, if_true]
    show OpR.pure (vint .sub .i64 (.ofNat m) .i64 (.ofNat 1)) = _
    rw [sub1 hm]
  · rw [VAct.eval_vopK_move_assign]; simp only [VAct.get_put]; simp
  refine q1 _ ⟨?_, ?_, ?_, ?_, ?_⟩
  · rw [bw_lv (by simp only [VAct.live_put]; exact inv.lv) (by simp)]; simp only [VAct.get_put]; simpa using inv.t0
  · rw [bw_lv (by simp only [VAct.live_put]; exact inv.lv) (by simp)]; simp only [VAct.get_put]; simpa using inv.t1
  · rw [bw_lv (by simp only [VAct.live_put]; exact inv.lv) (by simp)]; simp only [VAct.get_put]; simp
  · rw [VAct.live_shut]; simp only [VAct.live_put]; exact inv.lv
  · rw [VAct.shut_defers]; simp only [VAct.put_defers]; exact inv.df

/-- a byte is yielded -/
theorem bw_main {rec : Rec} {a : VAct} {H H2 : VH} {m x : Nat} {t : List Value} (inv : BwInv a l bx (m + 1)) (hmn : m < n) (hb : Bytes H sa n sc L) (hL : L[m]? = some (.int .u8 (.ofNat x))) (hbx : ∃ k e fr, H.get bx = some (.row k [.slice sa n sc] [] e fr)) (hl : H.get l = some (.loop .ready none ocLv tmps [10, 11] ocAsg ocBd D))
    (hs : setAll [10, 11] [.int .i64 (.ofNat m), .int .u8 (.ofNat x)] tmps = some t) (hr : rec (.round l ocLv t ocAsg ocBd) H = some (.val (.bool true), H2)) :
    VW (codeK Tryz.prog rec (cL (cL (cL (cR bwBody)))) a H) fun e a' h' => e = .normal ∧ BwInv a' l bx (m + 1) ∧ a'.get 18 = .bool false ∧ h' = H2 := by
  obtain ⟨k1, e1, fr1, hbx⟩ := hbx
  obtain ⟨b, off, k2, f2, bk2, e2, fr2, rfl, hb2, hnth⟩ := hb.at' (by omega)
  have hlt : Nat.blt m n = true := by rw [Nat.blt_eq]; exact hmn
  have t3' : a.get 3 = .int .i64 (.ofNat m) := inv.t3
  simp only [bwBody, bwI, fnI, Tryz.f297, Option.getD_some, cL, cR]
  refine VW.region <| VO.pure (v := .func (.yield l) #[] #[]) rfl ?_ <| VO.pure (v := .int .i64 (.ofNat m)) rfl ?_ <| VO.val (v := .slice (some ⟨b, off, none⟩) n sc) (h1 := H) rfl rfl ?_ <| VO.pure (v := .int .i64 (.ofNat m)) rfl ?_ <|
    VO.pure (v := .pointer (some ⟨b, off + m, none⟩)) rfl ?_ <| VO.val (v := .int .u8 (.ofNat x)) (h1 := H) rfl rfl ?_ <| VO.round (l := l) (live := ocLv) (t := ⟨t⟩) (asg := ocAsg) (bd := ocBd) (h1 := H) rfl rfl ?_ hr <| VO.pure (v := .bool false) rfl ?_ <| VO.nil ⟨rfl, ?_, ?_, rfl⟩
  all_goals dsimp only
  · rw [VAct.eval_vopK_move, inv.t0]
  · rw [VAct.eval_vopK_move]; simp only [VAct.get_put]; simp; exact t3'
  · show (vload Tryz.prog 152 _).run H = _
    simp only [VAct.eval_tmp, VAct.get_put]
    simp
    rw [inv.t1]
    exact load1 (t := 152) (off := 0) a152 hbx rfl
  · rw [VAct.eval_vopK_move]; simp only [VAct.get_put]; simp; exact t3'
  · simp only [vopK, cop, VAct.eval_tmp, VAct.get_put]
    simp
    simp only [vindexAddr, u152, addAt, hlt, s5, add_off]
    simp
  · simp only [VAct.eval_tmp, VAct.get_put, if_true]
    exact load1 (t := 5) a5 hb2 (by rw [hnth m hmn]; exact hL)
  · generalize hA : VAct.put _ _ _ = A
    have g11 : A.get 11 = .func (.yield l) #[] #[] := by rw [← hA]; simp only [VAct.get_put]; simp
    have g12 : A.get 12 = .int .i64 (.ofNat m) := by rw [← hA]; simp only [VAct.get_put]; simp
    have g16 : A.get 16 = .int .u8 (.ofNat x) := by rw [← hA]; simp only [VAct.get_put]; simp
    have h1' : vcallOp Tryz.prog A.eval { callee := .value (.tmp 11), args := #[.tmp 12, .tmp 16], argTypes := #[3, 5] } = (match (match A.get 11 with
        | .func fn first captured => some { target := .fn fn captured, args := ⟨first.toList ++ [A.get 12, A.get 16]⟩ }
        | _ => none : Option Deferred) with
      | some d => vinvoke Tryz.prog d
      | none => .fail) := rfl
    rw [h1', g11, g12, g16]
    show (HM.rd l (vyieldTo l [.int .i64 (.ofNat m), .int .u8 (.ofNat x)])).run H = _
    rw [HM.run_rd_some hl]
    show (hopt (setAll [10, 11] [.int .i64 (.ofNat m), .int .u8 (.ofNat x)] tmps) fun t => HM.ret (Next.round l ocLv ⟨t⟩ ocAsg ocBd)).run H = _
    rw [hs]
    rfl
  · simp only [vopK, cop, VAct.eval_tmp, VAct.get_put, if_true]
    rfl
  · refine ⟨?_, ?_, ?_, ?_, ?_⟩
    · rw [bw_lv (by simp only [VAct.live_put]; exact inv.lv) (by simp)]; simp only [VAct.get_put]; simpa using inv.t0
    · rw [bw_lv (by simp only [VAct.live_put]; exact inv.lv) (by simp)]; simp only [VAct.get_put]; simpa using inv.t1
    · rw [bw_lv (by simp only [VAct.live_put]; exact inv.lv) (by simp)]; simp only [VAct.get_put]; simpa using inv.t3
    · rw [VAct.live_shut]; simp only [VAct.live_put]; exact inv.lv
    · rw [VAct.shut_defers]; simp only [VAct.put_defers]; exact inv.df
  · rw [bw_lv (by simp only [VAct.live_put]; exact inv.lv) (by simp)]; simp only [VAct.get_put]; simp

theorem bw_loop (hb : Bytes h sa n sc L) (hn : n ≤ 8) (hLn : L.length = n) {total : Nat} (htot : leVal L = some total) (hfl : h.get l = none) (hfc : h.get cn = none) (n1 : cn ≠ l) (n2 : bx ≠ l) (n3 : bx ≠ cn) (n4 : dn ≠ l) (n5 : dn ≠ cn)
    (hset : ∀ i x : Nat, ∃ t, setAll [10, 11] [.int .i64 (.ofNat i), .int .u8 (.ofNat x)] tmps = some t ∧ baseGet (Tm.sets 0 t .e) ocLv 2 = .pointer (some ⟨cn, 0, none⟩) ∧ baseGet (Tm.sets 0 t .e) ocLv 11 = .int .u8 (.ofNat x)) :
    ∀ (m v : Nat) (a : VAct) (H : VH), m ≤ n → leVal (L.drop m) = some v → BwInv a l bx m → OcH h l cn bx dn D n sc sa tmps v H →
      VW (codeK Tryz.prog (vrun Tryz.prog S (m + 3)) (.loop bwBody) a H) fun e a' h' => e = .exit 0 ∧ a'.defers = [] ∧ OcH h l cn bx dn D n sc sa tmps total h' := by
  intro m
  induction m with
  | zero =>
    intro v a H hm hv inv oh
    have : v = total := by
      have hv' : leVal L = some v := by simpa using hv
      rw [htot] at hv'; cases hv'; rfl
    subst this
    refine VW.loop ?_
    rw [bwBody_eq]
    refine VW.seq ?_
    rw [← bwBody_eq]
    refine bw_head inv _ (fun a' _ q => absurd q (by omega)) ?_
    intro a' inv' _
    exact ⟨rfl, inv'.df, oh⟩
  | succ m ih =>
    intro v a H hm hv inv oh
    obtain ⟨v', hv'⟩ := leVal_drop htot m
    have hdm : L.drop m = L[m]'(by omega) :: L.drop (m + 1) := List.drop_eq_getElem_cons (by omega)
    rw [hdm] at hv'
    obtain ⟨x, q, hx, hx2, hq, rfl⟩ := leVal_cons hv'
    rw [hv] at hq; cases hq
    have hLm : L[m]? = some (.int .u8 (.ofNat x)) := by rw [List.getElem?_eq_getElem (by omega), hx]
    have hvlt : v * 256 < 18446744073709551616 := by
      have h1 := leVal_lt hv
      rw [List.length_drop] at h1
      have h2 : 256 ^ (L.length - (m + 1)) ≤ 256 ^ 7 := Nat.pow_le_pow_right (by omega) (by omega)
      have h3 : (256 : Nat) ^ 7 * 256 = 18446744073709551616 := by decide
      omega
    refine VW.loop ?_
    rw [bwBody_eq]
    refine VW.seq ?_
    rw [← bwBody_eq]
    refine bw_head inv _ ?_ (fun a' _ q => absurd q (by omega))
    intro a1 inv1 _
    show VW (codeK Tryz.prog _ (.seq _ _) a1 H) _
    refine VW.seq (VW.block (VW.seq ?_))
    have hfree : ∀ n, h.get n = none → (∀ k o, h.get k = some o → k ≠ n) := fun n hn k o hk q => by rw [q, hn] at hk; cases hk
    obtain ⟨t, ht1, ht2, ht3⟩ := hset m x
    have hcn := Classical.choose_spec oh.cn
    obtain ⟨e, a2, h2, e2, rfl, inv2, g18, rfl⟩ := bw_main (rec := vrun Tryz.prog S (m + 1 + 3)) (tmps := tmps) (D := D) inv1 (by omega) (hb.keep oh.old) hLm oh.bx oh.lp ht1 (oc_round (S := S) (K := m + 2) (x := x) oh.lp hcn n1 hx2 hvlt ht2 ht3)
    refine ⟨_, _, _, e2, ?_⟩
    dsimp only
    refine VW.condF (by rw [VAct.eval_tmp]; exact g18) (VW.skip ?_)
    dsimp only
    refine bw_next inv2 (by omega) _ ?_
    intro a3 inv3
    dsimp only
    rw [vrun_code]
    refine ih (x + 256 * v) a3 _ (by omega) (by rw [hdm]; exact hv') inv3 ?_
    refine ⟨?_, ?_, ?_, ?_, ?_⟩
    · intro n o hn
      rw [VH.get_put, if_neg (hfree l hfl n o hn), VH.get_put, if_neg (hfree cn hfc n o hn), VH.get_put, if_neg (hfree l hfl n o hn)]
      exact oh.old n o hn
    · rw [VH.get_put, if_pos rfl]
    · refine ⟨Classical.choose oh.cn, ?_⟩
      rw [VH.get_put, if_neg n1, VH.get_put, if_pos rfl]
    · rw [VH.get_put, if_neg n2, VH.get_put, if_neg n3, VH.get_put, if_neg n2]
      exact oh.bx
    · rw [VH.get_put, if_neg n4, VH.get_put, if_neg n5, VH.get_put, if_neg n4]
      exact oh.dn
end
end Go.Proofs.YtonkcdnpmemheaaGreat.Vm

namespace Go.Proofs.YtonkcdnpmemheaaGreat.Vm
open Go.Proofs

theorem bw_start {rec : Rec} {l bx n sc : Nat} {sa : Option Addr} {H : VH} (hn : n ≤ 8) (hbx : ∃ k e fr, H.get bx = some (.row k [.slice sa n sc] [] e fr)) (Q : VExit → VAct → VH → Prop) (q : ∀ a', BwInv a' l bx n → Q .normal a' H) :
    VW (codeK Tryz.prog rec (cL bwI.c) (frame [.func (.yield l) #[] #[], .pointer (some ⟨bx, 0, none⟩)] bwI.live) H) Q := by
  obtain ⟨k1, e1, fr1, hbx⟩ := hbx
  obtain ⟨f0, f1⟩ := bw_frame (.func (.yield l) #[] #[]) (.pointer (some ⟨bx, 0, none⟩))
  have fl : (frame [.func (.yield l) #[] #[], .pointer (some ⟨bx, 0, none⟩)] (fnI Tryz.f297).live).live = bwLv := rfl
  have fd : (frame [.func (.yield l) #[] #[], .pointer (some ⟨bx, 0, none⟩)] (fnI Tryz.f297).live).defers = [] := rfl
  simp only [bwI]
  generalize hA : frame [.func (.yield l) #[] #[], .pointer (some ⟨bx, 0, none⟩)] (fnI Tryz.f297).live = A at *
  simp only [fnI, Tryz.f297, Option.getD_some, cL]
  refine VW.region <| VO.val (v := .slice sa n sc) (h1 := H) rfl rfl ?_ <| VO.val (v := .int .i64 (.ofNat n)) (h1 := H) rfl rfl ?_ <| VO.pure (v := .int .i64 (lessOne n)) rfl ?_ <| VO.pure (v := .int .i64 (lessOne n)) rfl ?_ <| VO.nil (q _ ⟨?_, ?_, ?_, ?_, ?_⟩)
  all_goals try dsimp only
  · show (vload Tryz.prog 152 (A.get 1)).run H = _
    rw [f1]
    exact load1 (t := 152) (off := 0) a152 hbx rfl
  · rw [callOp_len]
    simp only [VAct.get_put, if_true, vlenOp, u152]
    rfl
  · simp only [vopK, cop, VAct.eval_tmp, VAct.get_put, if_true]
    show OpR.pure (vint .sub .i64 (.ofNat n) .i64 (.ofNat 1)) = _
    rw [sub1 (by omega)]
  · rw [VAct.eval_vopK_move_assign]; simp only [VAct.get_put]; simp
  · rw [bw_lv (by simp only [VAct.live_put]; exact fl) (by simp)]; simp only [VAct.get_put]; simpa using f0
  · rw [bw_lv (by simp only [VAct.live_put]; exact fl) (by simp)]; simp only [VAct.get_put]; simpa using f1
  · rw [bw_lv (by simp only [VAct.live_put]; exact fl) (by simp)]; simp only [VAct.get_put]; simp
  · rw [VAct.live_shut]; simp only [VAct.live_put]; exact fl
  · rw [VAct.shut_defers]; simp only [VAct.put_defers]; exact fd

section
variable {S : Sums} {h : VH} {l cn bx dn D n sc : Nat} {sa : Option Addr} {tmps : List Value} {L : List Value}

theorem bw_call (h297 : S 297 = none) (hb : Bytes h sa n sc L) (hn : n ≤ 8) (hLn : L.length = n) {total : Nat} (htot : leVal L = some total) (hfl : h.get l = none) (hfc : h.get cn = none) (n1 : cn ≠ l) (n2 : bx ≠ l) (n3 : bx ≠ cn) (n4 : dn ≠ l) (n5 : dn ≠ cn)
    (hset : ∀ i x : Nat, ∃ t, setAll [10, 11] [.int .i64 (.ofNat i), .int .u8 (.ofNat x)] tmps = some t ∧ baseGet (Tm.sets 0 t .e) ocLv 2 = .pointer (some ⟨cn, 0, none⟩) ∧ baseGet (Tm.sets 0 t .e) ocLv 11 = .int .u8 (.ofNat x))
    {H : VH} (oh : OcH h l cn bx dn D n sc sa tmps 0 H) :
    ∃ h', vrun Tryz.prog S (n + 5) (.call 297 [.func (.yield l) #[] #[], .pointer (some ⟨bx, 0, none⟩)]) H = some (.val (.tuple ⟨[]⟩), h') ∧ OcH h l cn bx dn D n sc sa tmps total h' := by
  have key : VW (codeK Tryz.prog (vrun Tryz.prog S (n + 3)) bwI.c (frame [.func (.yield l) #[] #[], .pointer (some ⟨bx, 0, none⟩)] bwI.live) H) fun e a' h' => e = .normal ∧ a'.defers = [] ∧ OcH h l cn bx dn D n sc sa tmps total h' := by
    rw [bwI_c]
    refine VW.seq ?_
    refine bw_start hn oh.bx _ ?_
    intro a' inv
    dsimp only
    refine VW.block ?_
    obtain ⟨e, a2, h2, e2, rfl, q1, q2⟩ := bw_loop (S := S) hb hn hLn htot hfl hfc n1 n2 n3 n4 n5 hset n 0 a' H (Nat.le_refl _) (by rw [List.drop_of_length_le (by omega)]; rfl) inv oh
    exact ⟨_, _, _, e2, by dsimp only; rw [if_pos rfl]; exact ⟨rfl, q1, q2⟩⟩
  obtain ⟨e, a', h', e1, rfl, q1, q2⟩ := key
  refine ⟨h', ?_, q2⟩
  have hi : fnInfo Tryz.prog 297 = some bwI := bw_info
  have hr : bwI.res = [] := bw_res
  rw [vrun_call h297, vcall_eq hi, hr, vrun_code, e1, callEnd_nil (fun id q => by cases q) q1]

theorem f237_info : fnInfo Tryz.prog 237 = some (fnI Tryz.f237) := by kernel_rfl
theorem f237_res : (fnI Tryz.f237).res = [.tmp 2] := by kernel_rfl
noncomputable def f237Lv : Nat := Nat.lor (fnI Tryz.f237).live (bitsTo 1)
theorem f237_live : tb f237Lv 0 = true ∧ tb f237Lv 1 = true ∧ tb f237Lv 2 = true := by refine ⟨?_, ?_, ?_⟩ <;> kernel_rfl
theorem f237_frame (x : Value) : (frame [x] (fnI Tryz.f237).live).get 0 = x := by kernel_rfl

theorem f237_call (hS : S 237 = none) {K : Nat} :
    vrun Tryz.prog S (K + 2) (.call 237 [.slice sa n sc]) h = some (.val (.func (.func 297) #[] #[.pointer (some ⟨h.al, 0, none⟩)]), h.new (.row 1 [.slice sa n sc] [] 152 (0, 0))) := by
  have key : VW (codeK Tryz.prog (vrun Tryz.prog S K) (fnI Tryz.f237).c (frame [.slice sa n sc] (fnI Tryz.f237).live) h) fun e a' h' => e = .ret ∧ a'.get 2 = .func (.func 297) #[] #[.pointer (some ⟨h.al, 0, none⟩)] ∧ a'.defers = [] ∧ h' = h.new (.row 1 [.slice sa n sc] [] 152 (0, 0)) := by
    have f0 := f237_frame (.slice sa n sc)
    have fl : (frame [.slice sa n sc] (fnI Tryz.f237).live).live = f237Lv := rfl
    have fd : (frame [.slice sa n sc] (fnI Tryz.f237).live).defers = [] := rfl
    generalize hA : frame [.slice sa n sc] (fnI Tryz.f237).live = A at *
    simp only [fnI, Tryz.f237, Option.getD_some]
    refine VW.seq <| VW.region <| VO.val (v := .pointer (some ⟨h.al, 0, none⟩)) (h1 := h.new (.row 1 [.slice sa n sc] [] 152 (0, 0))) rfl rfl ?_ <| VO.pure (v := .nilFunc) rfl rfl <| VO.nil ?_
    all_goals dsimp only
    · show (vbox 152 (A.get 0)).run h = _
      rw [f0]
      rfl
    generalize ha1 : VAct.shut _ = a1
    have g1 : a1.get 1 = .pointer (some ⟨h.al, 0, none⟩) := by rw [← ha1, VAct.get_shut_live (by simp only [VAct.live_put]; rw [fl]; exact f237_live.2.1)]; simp only [VAct.get_put]; simp
    have gl : a1.live = f237Lv := by rw [← ha1, VAct.live_shut]; simp only [VAct.live_put]; exact fl
    have gd : a1.defers = [] := by rw [← ha1, VAct.shut_defers]; simp only [VAct.put_defers]; exact fd
    refine VW.seq <| VW.region <| VO.pure (v := .func (.func 297) #[] #[.pointer (some ⟨h.al, 0, none⟩)]) rfl ?_ <| VO.pure (v := .func (.func 297) #[] #[.pointer (some ⟨h.al, 0, none⟩)]) rfl ?_ <| VO.nil <| VW.ret ⟨rfl, ?_, ?_, rfl⟩
    all_goals dsimp only
    · show OpR.pure (some (Value.func (.func 297) #[] ⟨[a1.get 1]⟩)) = _
      rw [g1]
    · rw [VAct.eval_vopK_move_assign]; simp only [VAct.get_put]; simp
    · rw [VAct.get_shut_live (by simp only [VAct.live_put]; rw [gl]; exact f237_live.2.2)]; simp only [VAct.get_put]; simp
    · rw [VAct.shut_defers]; simp only [VAct.put_defers]; exact gd
  obtain ⟨e, a', h', e1, rfl, q1, q2, rfl⟩ := key
  rw [vrun_call hS, vcall_eq f237_info, f237_res, vrun_code, e1, callEnd_tmp (by simp) q2, q1]

/-- the range over the bytes -/
theorem oc_range (h297 : S 297 = none) (hb : Bytes h sa n sc L) (hn : n ≤ 8) (hLn : L.length = n) {total : Nat} (htot : leVal L = some total) (hge : ∀ n, h.nx ≤ n → h.get n = none) (hal : h.get h.al = none) {A : VAct} {H2 : VH}
    (hH2 : H2 = (h.new (.row 1 [.int .u64 0] [] 49 (0, 0))).new (.row 1 [.slice sa n sc] [] 152 (0, 0))) (a2 : A.get 2 = .pointer (some ⟨h.al, 0, none⟩)) (a9 : A.get 9 = .func (.func 297) #[] #[.pointer (some ⟨(h.new (.row 1 [.int .u64 0] [] 49 (0, 0))).al, 0, none⟩)])
    (al : A.live = ocLv) (ad : A.defers = []) (ar : A.ro = none) (alc : A.loc = []) :
    ∃ A' h' dn rn, codeK Tryz.prog (vrun Tryz.prog S (n + 5)) (.rangeFunc (.tmp 9) #[10, 11] ocAsg ocBd) A H2 = some (.code .normal A', h') ∧ A'.get 2 = .pointer (some ⟨h.al, 0, none⟩) ∧ A'.live = ocLv ∧ A'.defers = [{ target := .collected dn, args := #[] }] ∧
      h'.get dn = some (.dfd true) ∧ h.get dn = none ∧ dn ≠ h.al ∧ h'.get h.al = some (.row rn [.int .u64 (.ofNat total)] [] 49 (0, 0)) ∧ (∀ n o, h.get n = some o → h'.get n = some o) := by
  obtain ⟨tm, lo, lv, ds, ro⟩ := A
  simp only at al ad ar alc
  subst al; subst ad; subst ar; subst alc
  generalize hH1 : h.new (.row 1 [.int .u64 0] [] 49 (0, 0)) = H1 at *
  have b1 : h.al < H1.al ∧ h.nx ≤ H1.al := by
    rw [← hH1]
    exact ⟨nxt_al _ _, nxt_nx _ _⟩
  have b2 : H1.al < H2.al := by
    rw [hH2]
    exact nxt_al _ _
  generalize hH3 : H2.new (.dfd true) = H3
  have b3 : H2.al < H3.al := by
    rw [← hH3]
    exact nxt_al _ _
  generalize hT : Tm.list 12 0 tm = tmps
  generalize hH4 : H3.new (.loop .ready none ocLv tmps [10, 11] ocAsg ocBd H2.al) = H4
  have k1 : ∀ n o, h.get n = some o → H1.get n = some o := fun n o e => by rw [← hH1]; exact new_keep hal _ e
  have k2 : ∀ n, n ≠ H1.al → H2.get n = H1.get n := fun n hn => by rw [hH2, VH.get_new, if_neg hn]
  have k3 : ∀ n, n ≠ H2.al → H3.get n = H2.get n := fun n hn => by rw [← hH3, VH.get_new, if_neg hn]
  have k4 : ∀ n, n ≠ H3.al → H4.get n = H3.get n := fun n hn => by rw [← hH4, VH.get_new, if_neg hn]
  have hold : ∀ n o, h.get n = some o → n ≠ h.al ∧ n < H1.al := fun n o e => by
    refine ⟨fun q => (by rw [q, hal] at e; cases e), ?_⟩
    rcases Nat.lt_or_ge n H1.al with q | q
    · exact q
    · rw [hge n (by omega)] at e; cases e
  have hcn1 : H1.get h.al = some (.row 1 [.int .u64 0] [] 49 (0, 0)) := by rw [← hH1, VH.get_new, if_pos rfl]
  have oh : OcH h H3.al h.al H1.al H2.al H2.al n sc sa tmps 0 H4 := by
    refine ⟨?_, ?_, ⟨1, ?_⟩, ⟨1, 152, (0, 0), ?_⟩, ?_⟩
    · intro n o e
      have := hold n o e
      rw [k4 n (by omega), k3 n (by omega), k2 n (by omega)]
      exact k1 n o e
    · rw [← hH4, VH.get_new, if_pos rfl]
    · rw [k4 _ (by omega), k3 _ (by omega), k2 _ (by omega)]
      exact hcn1
    · rw [k4 _ (by omega), k3 _ (by omega), hH2, VH.get_new, if_pos rfl]
    · rw [k4 _ (by omega), ← hH3, VH.get_new, if_pos rfl]
  have g2 : tm.get 2 = .pointer (some ⟨h.al, 0, none⟩) := by
    have e : baseGet tm ocLv 2 = .pointer (some ⟨h.al, 0, none⟩) := a2
    unfold baseGet at e
    rw [oc_live 2 (by simp)] at e
    exact e
  obtain ⟨h5, e5, f5⟩ := bw_call (S := S) (D := H2.al) (tmps := tmps) (dn := H2.al) h297 hb hn hLn htot (hge _ (by omega)) hal (l := H3.al) (by omega) (by omega) (bx := H1.al) (by omega) (by omega) (by omega)
    (fun i x => ⟨[tm.get 0, tm.get 1, tm.get 2, tm.get 3, tm.get 4, tm.get 5, tm.get 6, tm.get 7, tm.get 8, tm.get 9, .int .i64 (.ofNat i), .int .u8 (.ofNat x)], by rw [← hT]; rfl, by
      unfold baseGet
      rw [oc_live 2 (by simp)]
      exact g2, by
      unfold baseGet
      rw [oc_live 11 (by simp)]
      rfl⟩) oh
  have hen : enter ⟨tm, [], ocLv, [], none⟩ #[10, 11] ocAsg ocBd H2 = some (H3.al, [{ target := .collected H2.al, args := #[] }], H4) := by
    show (match H2.new (.dfd true) with
      | h1 => some (h1.al, [({ target := .collected H2.al, args := #[] } : Deferred)], h1.new (loopObj ⟨tm, [], ocLv, [], none⟩ #[10, 11] ocAsg ocBd H2.al))) = _
    rw [hH3]
    have hlo : loopObj ⟨tm, [], ocLv, [], none⟩ #[10, 11] ocAsg ocBd H2.al = .loop .ready none ocLv (Tm.list (Nat.succ (Nat.log2 ocLv)) 0 tm) [10, 11] ocAsg ocBd H2.al := rfl
    simp only
    rw [hlo, oc_log, show Nat.succ 11 = 12 from rfl, hT, hH4]
  refine ⟨⟨tm, [], ocLv, app [{ target := .collected H2.al, args := #[] }] [], none⟩, h5.put H3.al (some (.loop .exhausted none ocLv tmps [10, 11] ocAsg ocBd H2.al)), H2.al, Classical.choose f5.cn, ?_, ?_, ?_, ?_, ?_, ?_, ?_, ?_, ?_⟩
  · show vrange Tryz.prog _ (.tmp 9) #[10, 11] ocAsg ocBd ⟨tm, [], ocLv, [], none⟩ H2 = _
    unfold vrange
    rw [hen]
    simp only
    rw [VAct.eval_tmp, a9]
    simp only
    have hv : (vinvoke Tryz.prog { target := .fn (.func 297) #[.pointer (some ⟨H1.al, 0, none⟩)], args := ⟨app [] [.func (.yield H3.al) #[] #[]]⟩ }).look H4 = some (.enter 297 ⟨[.func (.yield H3.al) #[] #[], .pointer (some ⟨H1.al, 0, none⟩)]⟩) := by
      have hv1 : vinvoke Tryz.prog { target := .fn (.func 297) #[.pointer (some ⟨H1.al, 0, none⟩)], args := ⟨app [] [.func (.yield H3.al) #[] #[]]⟩ } = vcallFunc Tryz.prog 297 [.func (.yield H3.al) #[] #[], .pointer (some ⟨H1.al, 0, none⟩)] := rfl
      rw [hv1]
      unfold vcallFunc
      rw [body297]
      rfl
    have hv' : (vinvoke Tryz.prog { target := .fn (.func 297) #[.pointer (some ⟨H1.al, 0, none⟩)], args := ⟨app (#[] : Array Value).toList [.func (.yield H3.al) #[] #[]]⟩ }).look H4 = some (.enter 297 ⟨[.func (.yield H3.al) #[] #[], .pointer (some ⟨H1.al, 0, none⟩)]⟩) := hv
    rw [hv']
    show rangeDone H3.al _ (vrun Tryz.prog S (n + 5) (.call 297 [.func (.yield H3.al) #[] #[], .pointer (some ⟨H1.al, 0, none⟩)]) H4) = _
    rw [e5]
    show rangeEnd H3.al _ h5 (h5.get H3.al) = _
    rw [f5.lp]
    rfl
  · show baseGet tm ocLv 2 = _
    exact a2
  · dsimp only
  · dsimp only
    rfl
  · rw [VH.get_put, if_neg (by omega)]; exact f5.dn
  · exact hge _ (by omega)
  · omega
  · rw [VH.get_put, if_neg (by omega)]; exact Classical.choose_spec f5.cn
  · intro n o e
    have := hold n o e
    rw [VH.get_put, if_neg (by omega)]
    exact f5.old n o e

theorem oc_call (h156 : S 156 = none) (h237 : S 237 = none) (h297 : S 297 = none) (hb : Bytes h sa n sc L) (hn : n ≤ 8) (hLn : L.length = n) {total : Nat} (htot : leVal L = some total) (hge : ∀ n, h.nx ≤ n → h.get n = none) (hal : h.get h.al = none) :
    ∃ h', vrun Tryz.prog S (n + 7) (.call 156 [.slice sa n sc]) h = some (.val (.int .u64 (.ofNat total)), h') ∧ (∀ n o, h.get n = some o → h'.get n = some o) := by
  have key : VW (codeK Tryz.prog (vrun Tryz.prog S (n + 5)) (fnI Tryz.f156).c (frame [.slice sa n sc] (fnI Tryz.f156).live) h) fun e a' h' => e = .ret ∧ ∃ dn rn, a'.get 2 = .pointer (some ⟨h.al, 0, none⟩) ∧ a'.defers = [{ target := .collected dn, args := #[] }] ∧
      h'.get dn = some (.dfd true) ∧ h.get dn = none ∧ dn ≠ h.al ∧ h'.get h.al = some (.row rn [.int .u64 (.ofNat total)] [] 49 (0, 0)) ∧ (∀ n o, h.get n = some o → h'.get n = some o) := by
    have f0 := oc_frame (.slice sa n sc)
    have fl : (frame [.slice sa n sc] (fnI Tryz.f156).live).live = ocLv := rfl
    have fd : (frame [.slice sa n sc] (fnI Tryz.f156).live).defers = [] := rfl
    have fr : (frame [.slice sa n sc] (fnI Tryz.f156).live).ro = none := rfl
    generalize hA : frame [.slice sa n sc] (fnI Tryz.f156).live = A at *
    simp only [fnI, Tryz.f156, Option.getD_some]
    refine VW.seq <| VW.region <| VO.val (v := .pointer (some ⟨h.al, 0, none⟩)) (h1 := h.new (.row 1 [.int .u64 0] [] 49 (0, 0))) rfl rfl ?_ <| VO.nil ?_
    all_goals dsimp only
    · show (valloc Tryz.prog 49).run h = _
      unfold valloc
      rw [z49]
      rfl
    generalize ha1 : VAct.shut _ = a1
    have g0' : a1.get 0 = .slice sa n sc := by rw [← ha1, oc_lv (by simp only [VAct.live_put]; exact fl) (by simp)]; simp only [VAct.get_put]; simpa using f0
    have g2 : a1.get 2 = .pointer (some ⟨h.al, 0, none⟩) := by rw [← ha1, oc_lv (by simp only [VAct.live_put]; exact fl) (by simp)]; simp only [VAct.get_put]; simp
    have gl : a1.live = ocLv := by rw [← ha1, VAct.live_shut]; simp only [VAct.live_put]; exact fl
    have gd : a1.defers = [] := by rw [← ha1, VAct.shut_defers]; simp only [VAct.put_defers]; exact fd
    have gr : a1.ro = none := by rw [← ha1, VAct.ro_shut]; simp only [VAct.ro_put]; exact fr
    refine VW.seq <| VW.seq <| VW.region <| VO.pure (v := .slice sa n sc) rfl ?_ <| VO.val (v := .int .i64 (.ofNat n)) (h1 := h.new (.row 1 [.int .u64 0] [] 49 (0, 0))) rfl rfl ?_ <| VO.pure (v := .bool false) rfl ?_ <| VO.nil ?_
    all_goals dsimp only
    · rw [VAct.eval_vopK_move, g0']
    · rw [callOp_len]
      simp only [VAct.get_put, if_true, vlenOp, u152]
      rfl
    · simp only [vopK, cop, VAct.eval_tmp, VAct.get_put, if_true]
      show OpR.pure (some (.bool (Nat.blt 8 n))) = _
      have : Nat.blt 8 n = false := by
        cases q : Nat.blt 8 n with
        | false => rfl
        | true => rw [Nat.blt_eq] at q; omega
      rw [this]
    generalize ha2 : VAct.shut _ = a2
    have p0 : a2.get 0 = .slice sa n sc := by rw [← ha2, oc_lv (by simp only [VAct.live_put]; exact gl) (by simp)]; simp only [VAct.get_put]; simpa using g0'
    have p2 : a2.get 2 = .pointer (some ⟨h.al, 0, none⟩) := by rw [← ha2, oc_lv (by simp only [VAct.live_put]; exact gl) (by simp)]; simp only [VAct.get_put]; simpa using g2
    have p7 : a2.get 7 = .bool false := by rw [← ha2, oc_lv (by simp only [VAct.live_put]; exact gl) (by simp)]; simp only [VAct.get_put]; simp
    have pl : a2.live = ocLv := by rw [← ha2, VAct.live_shut]; simp only [VAct.live_put]; exact gl
    have pd : a2.defers = [] := by rw [← ha2, VAct.shut_defers]; simp only [VAct.put_defers]; exact gd
    have pr : a2.ro = none := by rw [← ha2, VAct.ro_shut]; simp only [VAct.ro_put]; exact gr
    refine VW.condF (by rw [VAct.eval_tmp]; exact p7) (VW.skip ?_)
    dsimp only
    have h237c := f237_call (S := S) h237 (h := h.new (.row 1 [.int .u64 0] [] 49 (0, 0))) (sa := sa) (n := n) (sc := sc) (K := n + 3)
    refine VW.seq <| VW.seq <| VW.region <| VO.pure (v := .slice sa n sc) rfl ?_ <| VO.call (f := 237) (args := #[.slice sa n sc]) rfl rfl ?_ h237c <| VO.nil ?_
    all_goals dsimp only
    · rw [VAct.eval_vopK_move, p0]
    · rw [callOp_func body237]
      simp only [List.map_cons, List.map_nil, VAct.eval_tmp, VAct.get_put, if_true]
    generalize ha3 : VAct.shut _ = a3
    have q2 : a3.get 2 = .pointer (some ⟨h.al, 0, none⟩) := by rw [← ha3, oc_lv (by simp only [VAct.live_put]; exact pl) (by simp)]; simp only [VAct.get_put]; simpa using p2
    have q9 : a3.get 9 = .func (.func 297) #[] #[.pointer (some ⟨(h.new (.row 1 [.int .u64 0] [] 49 (0, 0))).al, 0, none⟩)] := by rw [← ha3, oc_lv (by simp only [VAct.live_put]; exact pl) (by simp)]; simp only [VAct.get_put]; simp
    have ql : a3.live = ocLv := by rw [← ha3, VAct.live_shut]; simp only [VAct.live_put]; exact pl
    have qd : a3.defers = [] := by rw [← ha3, VAct.shut_defers]; simp only [VAct.put_defers]; exact pd
    have qr : a3.ro = none := by rw [← ha3, VAct.ro_shut]; simp only [VAct.ro_put]; exact pr
    have qs : a3.loc = [] := by rw [← ha3]; obtain ⟨tm, e⟩ := VAct.shut_form (VAct.put (VAct.put a2 (some 8) (.slice sa n sc)) (some 9) (.func (.func 297) #[] #[.pointer (some ⟨(h.new (.row 1 [.int .u64 0] [] 49 (0, 0))).al, 0, none⟩)])); rw [e]
    obtain ⟨A', h', dn, rn, r1, r2, r3, r4, r5, r6, r7, r8, r9⟩ := oc_range (S := S) h297 hb hn hLn htot hge hal rfl q2 q9 ql qd qr qs
    refine VW.block ⟨_, _, _, r1, ?_⟩
    dsimp only
    refine VW.seq <| VW.region <| VO.val (v := .int .u64 (.ofNat total)) (h1 := h') rfl rfl ?_ <| VO.unit (h1 := h'.put h.al (some (.row rn [.int .u64 (.ofNat total)] [] 49 (0, 0)))) rfl rfl ?_ <| VO.nil <| VW.ret ⟨rfl, dn, rn, ?_, ?_, ?_, r6, r7, ?_, ?_⟩
    all_goals try dsimp only
    · show (vload Tryz.prog 49 (A'.get 2)).run h' = _
      rw [r2]
      exact load1 (t := 49) (off := 0) a49 r8 rfl
    · simp only [VAct.eval_tmp, VAct.get_put, if_true, show (2 : Nat) ≠ 17 by decide, if_false, r2]
      unfold vstore
      rw [s49]
      show (HM.rd h.al (wrK h.al 0 [.int .u64 (.ofNat total)] (HM.ret Next.skip))).run h' = _
      rw [HM.run_rd_some r8]
      have hdef : (wrK h.al 0 [.int .u64 (.ofNat total)] (HM.ret Next.skip) (.row rn [.int .u64 (.ofNat total)] [] 49 (0, 0))).run h' = Option.rec (motive := fun _ => Option (Next × VH)) none (fun _ => (HM.ret Next.skip).run (h'.put h.al (some (.row rn [.int .u64 (.ofNat total)] [] 49 (0, 0))))) (h'.get h.al) := rfl
      rw [hdef, r8]
      rfl
    · rw [VAct.put_none, oc_lv (by simp only [VAct.live_put]; exact r3) (by simp)]
      simp only [VAct.get_put]; simpa using r2
    · rw [VAct.shut_defers]; simp only [VAct.put_defers]; exact r4
    · rw [VH.get_put, if_neg r7]; exact r5
    · rw [VH.get_put, if_pos rfl]
    · intro n o e
      rw [VH.get_put, if_neg (fun q => by rw [q, hal] at e; cases e)]
      exact r9 n o e
  obtain ⟨e, a', h', e1, rfl, dn, rn, q1, q2, q3, q4, q5, q6, q7⟩ := key
  refine ⟨h'.put dn (some (.dfd false)), ?_, ?_⟩
  · rw [vrun_call h156, vcall_eq oc_info, oc_res, vrun_code, e1]
    unfold callEnd endCall
    simp only [q2]
    have hl : ∀ rec, vleave Tryz.prog rec [{ target := .collected dn, args := #[] }] h' = some (h'.put dn (some (.dfd false))) := by
      intro rec
      show (match h'.get dn with
        | some (.dfd true) => vleave Tryz.prog rec [] (h'.put dn (some (.dfd false)))
        | _ => none) = _
      rw [q3]
      rfl
    rw [hl]
    simp only
    have hr : vres Tryz.prog a' (h'.put dn (some (.dfd false))) [.cell 2 49] = some [.int .u64 (.ofNat total)] := by
      show (match valOf ((vload Tryz.prog 49 (a'.get 2)).look (h'.put dn (some (.dfd false)))) with
        | some v => (match vres Tryz.prog a' (h'.put dn (some (.dfd false))) [] with
          | some r => some (v :: r)
          | none => none)
        | none => none) = _
      have := look1 (P := Tryz.prog) (t := 49) (b := h.al) (off := 0) (h := h'.put dn (some (.dfd false))) (v := .int .u64 (.ofNat total)) a49 (by rw [VH.get_put, if_neg (Ne.symm q5)]; exact q6) rfl
      rw [q1]
      have e2 : valOf ((vload Tryz.prog 49 (.pointer (some ⟨h.al, 0, none⟩))).look (h'.put dn (some (.dfd false)))) = some (.int .u64 (.ofNat total)) := this
      rw [e2]
      rfl
    rw [hr]
    rfl
  · intro n o e
    rw [VH.get_put, if_neg (fun q => by rw [q, q4] at e; cases e)]
    exact q7 n o e
end

theorem oc_ok {W : Frm} {σ : Ren} {h h' : VH} {args args' : List Value} {v : Value} {w : World} (e : (sumOf args).run h = some (v, h')) (hl : LR σ args args') (r : R W Tryz.prog σ h w) : CallsIn Fence.wide 0 Tryz.prog 156 ⟨args'⟩ w (ValOk W Tryz.prog σ v h') := by
  unfold sumOf at e
  split at e
  · rename_i sa n sc
    split at e
    · rename_i hn
      have hn := Nat.le_of_ble_eq_true hn
      have hnil : ∀ q, sa = none → n = q → q = 0 := by
        rintro q rfl rfl
        cases hl with
        | cons hx ht => cases hx; rfl
      obtain ⟨L, hb, e2⟩ := firstN_run hnil e sc
      obtain ⟨total, htot, e3⟩ := hopt_run e2
      cases e3
      have hkeep : Bytes ⟨h.t, h.nx, h.nx⟩ sa n sc L := hb.keep fun b o q => q
      have r2 : R W Tryz.prog σ ⟨h.t, h.nx, h.nx⟩ w := r.less (Nat.le_refl _) (r.none_ge (Nat.le_refl _)) (fun q => Nat.lt_irrefl _ (r.zlt _ q)) (fun n o q => q)
      obtain ⟨h1, k1, k2⟩ := oc_call (S := fun _ => none) rfl rfl rfl hkeep hn hb.len htot (fun n hn => r2.get_ge hn) (r2.get_ge (Nat.le_refl _))
      refine CallsIn.mono ((vrun_sound pok (none_ok _) _).call k1 hl r2) ?_
      intro en w' hv'
      cases en with
      | returned v' =>
        obtain ⟨τ, q2, q3, q4⟩ := hv'
        exact ⟨σ, Ren.le_refl σ, r.forget q2 q3 k2, bare_rel (d := 1) rfl q4⟩
      | panicked c => exact hv'.elim
      | outgrown => exact hv'.elim
    · cases e
  · cases e
end Go.Proofs.YtonkcdnpmemheaaGreat.Vm

namespace Go.Proofs.YtonkcdnpmemheaaGreat.Vm
open Go.Proofs

/-! ### octet.Put -/

theorem HM.run_bind {α β : Type} (m : HM α) (f : α → HM β) : ∀ (h : VH) (r : β × VH), (HM.bind m f).run h = some r → ∃ a h1, m.run h = some (a, h1) ∧ (f a).run h1 = some r := by
  induction m with
  | ret a => intro h r e; exact ⟨a, h, rfl, e⟩
  | rd n k ih =>
    intro h r e
    obtain ⟨o, g1, g2⟩ := HM.run_rd (k := fun o => HM.bind (k o) f) e
    obtain ⟨a, h1, k1, k2⟩ := ih o h r g2
    exact ⟨a, h1, by rw [HM.run_rd_some g1]; exact k1, k2⟩
  | wr n o k ih =>
    intro h r e
    obtain ⟨o0, g1, g2⟩ := HM.run_wr (k := HM.bind k f) e
    obtain ⟨a, h1, k1, k2⟩ := ih _ r g2
    refine ⟨a, h1, ?_, k2⟩
    show Option.rec (motive := fun _ => Option (α × VH)) none (fun _ => k.run (h.put n (some o))) (h.get n) = _
    rw [g1]; exact k1
  | kill n k ih =>
    intro h r e
    obtain ⟨o0, g1, g2⟩ := HM.run_kill (k := HM.bind k f) e
    obtain ⟨a, h1, k1, k2⟩ := ih _ r g2
    refine ⟨a, h1, ?_, k2⟩
    show Option.rec (motive := fun _ => Option (α × VH)) none (fun _ => k.run (h.put n none)) (h.get n) = _
    rw [g1]; exact k1
  | nw o k ih =>
    intro h r e
    exact ih h.al _ r e
  | nwAt n o k ih =>
    intro h r e
    obtain ⟨g1, g2⟩ := HM.run_nwAt (k := HM.bind k f) e
    obtain ⟨a, h1, k1, k2⟩ := ih _ r g2
    refine ⟨a, h1, ?_, k2⟩
    show Bool.rec (motive := fun _ => Option (α × VH)) none (k.run (h.newAt n o)) (Nat.ble h.nx n) = _
    rw [Nat.ble_eq_true_of_le g1]; exact k1
  | fail => intro h r e; cases e

noncomputable def putNext (k : Value → HM Value) (x : Next) : HM Value :=
  match x with
  | .value v => k v
  | _ => .fail
/-- a byte behind a slice, as append does it -/
noncomputable def putByte (x : Nat) (s : Value) (k : Value → HM Value) : HM Value :=
  match s with
  | .slice base n cap => .nw (.row 1 [.int .u8 (.ofNat x)] [] 5 (0, 0)) fun r => HM.bind (appOf 5 1 base n cap (.slice (some ⟨r, 0, none⟩) 1 1)) (putNext k)
  | _ => .fail
noncomputable def putGo (v j : Nat) : Nat → Value → HM Value :=
  Nat.rec (motive := fun _ => Nat → Value → HM Value) (fun _ s => .ret s) (fun _ ih i s => putByte (Nat.mod (Nat.shiftRight v (Nat.mul 8 i)) 256) s (ih (Nat.succ i))) j
noncomputable def sumPut (args : List Value) : HM Value :=
  match args with
  | [s, .int .u64 (.ofNat v), .int .i64 (.ofNat k)] => (match Nat.ble 1 k with
    | true => (match Nat.ble k 8 with
      | true => (match Nat.blt v 18446744073709551616 with
        | true => putGo v k 0 s
        | false => .fail)
      | false => .fail)
    | false => .fail)
  | _ => .fail

theorem pt_info : fnInfo Tryz.prog 228 = some (fnI Tryz.f228) := by kernel_rfl
theorem pt_res : (fnI Tryz.f228).res = [.tmp 6] := by kernel_rfl
noncomputable def ptI : FnI := fnI Tryz.f228
noncomputable def ptLv : Nat := Nat.lor (fnI Tryz.f228).live (bitsTo 3)
theorem pt_live : ∀ t, (t = 0 ∨ t = 1 ∨ t = 2 ∨ t = 6 ∨ t = 7 ∨ t = 13 ∨ t = 15 ∨ t = 16 ∨ t = 17) → tb ptLv t = true := by
  intro t h
  rcases h with h | h | h | h | h | h | h | h | h <;> subst h <;> kernel_rfl
theorem pt_frame (x y z : Value) : (frame [x, y, z] (fnI Tryz.f228).live).get 0 = x ∧ (frame [x, y, z] (fnI Tryz.f228).live).get 1 = y ∧ (frame [x, y, z] (fnI Tryz.f228).live).get 2 = z := by refine ⟨?_, ?_, ?_⟩ <;> kernel_rfl
theorem pt_lv {u : VAct} {t : Nat} (hu : u.live = ptLv) (ht : t = 0 ∨ t = 1 ∨ t = 2 ∨ t = 6 ∨ t = 7 ∨ t = 13 ∨ t = 15 ∨ t = 16 ∨ t = 17) : u.shut.get t = u.get t := VAct.get_shut_live (by rw [hu]; exact pt_live t ht)

theorem el152 : elemT Tryz.prog 152 = some (5, 1, [.int .u8 0]) := by kernel_rfl
theorem m49_5 : memConv Tryz.prog 49 5 = false := by kernel_rfl

noncomputable def ptLoop : Code := cL (cR (cL (cR (cR ptI.c))))
noncomputable def ptBody : Code := cL ptLoop
theorem ptLoop_eq : ptLoop = .loop ptBody := by kernel_rfl
theorem ptBody_eq : ptBody = .seq (cL ptBody) (.seq (.cond (.tmp 17) .skip (.exit 0)) (.seq (.block 1 (.seq (cL (cL (cL (cR (cR ptBody))))) (cR (cL (cL (cR (cR ptBody))))))) (cR (cR (cR ptBody))))) := by kernel_rfl

structure PtInv (a : VAct) (s : Value) (v k i : Nat) : Prop where
  t0 : a.get 0 = s
  t1 : a.get 1 = .int .u64 (.ofNat v)
  t15 : a.get 15 = .int .i64 (.ofNat k)
  t16 : a.get 16 = .int .i64 (.ofNat i)
  lv : a.live = ptLv
  df : a.defers = []

section
variable {S : Sums} {v k : Nat}

/-- the loop's head -/
theorem pt_head {rec : Rec} {a : VAct} {H : VH} {i : Nat} {s : Value} (inv : PtInv a s v k i) (Q : VExit → VAct → VH → Prop) (q : ∀ a', PtInv a' s v k i → a'.get 17 = .bool (Nat.blt i k) → Q .normal a' H) : VW (codeK Tryz.prog rec (cL ptBody) a H) Q := by
  simp only [ptBody, ptLoop, ptI, fnI, Tryz.f228, Option.getD_some, cL, cR]
  refine VW.region <| VO.pure (v := .bool (Nat.blt i k)) rfl ?_ <| VO.nil (q _ ⟨?_, ?_, ?_, ?_, ?_, ?_⟩ ?_)
  all_goals try dsimp only
  · simp only [vopK, cop, VAct.eval_tmp, inv.t15, inv.t16]
    rfl
  · rw [pt_lv (by simp only [VAct.live_put]; exact inv.lv) (by simp)]; simp only [VAct.get_put]; simpa using inv.t0
  · rw [pt_lv (by simp only [VAct.live_put]; exact inv.lv) (by simp)]; simp only [VAct.get_put]; simpa using inv.t1
  · rw [pt_lv (by simp only [VAct.live_put]; exact inv.lv) (by simp)]; simp only [VAct.get_put]; simpa using inv.t15
  · rw [pt_lv (by simp only [VAct.live_put]; exact inv.lv) (by simp)]; simp only [VAct.get_put]; simpa using inv.t16
  · rw [VAct.live_shut]; simp only [VAct.live_put]; exact inv.lv
  · rw [VAct.shut_defers]; simp only [VAct.put_defers]; exact inv.df
  · rw [pt_lv (by simp only [VAct.live_put]; exact inv.lv) (by simp)]; simp only [VAct.get_put]; simp

/-- the index -/
theorem pt_ix {rec : Rec} {a : VAct} {H : VH} {i : Nat} {s : Value} (inv : PtInv a s v k i) (Q : VExit → VAct → VH → Prop) (q : ∀ a', PtInv a' s v k i → a'.get 7 = .int .i64 (.ofNat i) → Q .normal a' H) : VW (codeK Tryz.prog rec (cL (cL (cL (cR (cR ptBody))))) a H) Q := by
  simp only [ptBody, ptLoop, ptI, fnI, Tryz.f228, Option.getD_some, cL, cR]
  refine VW.region <| VO.pure (v := .int .i64 (.ofNat i)) rfl ?_ <| VO.pure (v := .int .i64 (.ofNat i)) rfl ?_ <| VO.nil (q _ ⟨?_, ?_, ?_, ?_, ?_, ?_⟩ ?_)
  all_goals try dsimp only
  · rw [VAct.eval_vopK_move, inv.t16]
  · rw [VAct.eval_vopK_move_assign]; simp only [VAct.get_put]; simp
  · rw [pt_lv (by simp only [VAct.live_put]; exact inv.lv) (by simp)]; simp only [VAct.get_put]; simpa using inv.t0
  · rw [pt_lv (by simp only [VAct.live_put]; exact inv.lv) (by simp)]; simp only [VAct.get_put]; simpa using inv.t1
  · rw [pt_lv (by simp only [VAct.live_put]; exact inv.lv) (by simp)]; simp only [VAct.get_put]; simpa using inv.t15
  · rw [pt_lv (by simp only [VAct.live_put]; exact inv.lv) (by simp)]; simp only [VAct.get_put]; simpa using inv.t16
  · rw [VAct.live_shut]; simp only [VAct.live_put]; exact inv.lv
  · rw [VAct.shut_defers]; simp only [VAct.put_defers]; exact inv.df
  · rw [pt_lv (by simp only [VAct.live_put]; exact inv.lv) (by simp)]; simp only [VAct.get_put]; simp

/-- the next index -/
theorem pt_next {rec : Rec} {a : VAct} {H : VH} {i : Nat} {s : Value} (inv : PtInv a s v k i) (hi : i < 8) (Q : VExit → VAct → VH → Prop) (q : ∀ a', PtInv a' s v k (i + 1) → Q .normal a' H) : VW (codeK Tryz.prog rec (cR (cR (cR ptBody))) a H) Q := by
  simp only [ptBody, ptLoop, ptI, fnI, Tryz.f228, Option.getD_some, cL, cR]
  refine VW.region <| VO.pure (v := .int .i64 (.ofNat (i + 1))) rfl ?_ <| VO.pure (v := .int .i64 (.ofNat (i + 1))) rfl ?_ <| VO.nil (q _ ⟨?_, ?_, ?_, ?_, ?_, ?_⟩)
  all_goals try dsimp only
  · simp only [vopK, cop, VAct.eval_tmp, inv.t16]
    exact add_small (k := .i64) (by show i + 1 < 9223372036854775808; omega) Tryz.prog 3
  · rw [VAct.eval_vopK_move]; simp only [VAct.get_put]; simp
  · rw [pt_lv (by simp only [VAct.live_put]; exact inv.lv) (by simp)]; simp only [VAct.get_put]; simpa using inv.t0
  · rw [pt_lv (by simp only [VAct.live_put]; exact inv.lv) (by simp)]; simp only [VAct.get_put]; simpa using inv.t1
  · rw [pt_lv (by simp only [VAct.live_put]; exact inv.lv) (by simp)]; simp only [VAct.get_put]; simpa using inv.t15
  · rw [pt_lv (by simp only [VAct.live_put]; exact inv.lv) (by simp)]; simp only [VAct.get_put]; simp
  · rw [VAct.live_shut]; simp only [VAct.live_put]; exact inv.lv
  · rw [VAct.shut_defers]; simp only [VAct.put_defers]; exact inv.df

/-- a byte is appended -/
theorem pt_app {rec : Rec} {a : VAct} {H H2 : VH} {i n cap : Nat} {base : Option Addr} {s' : Value} (inv : PtInv a (.slice base n cap) v k i) (hi : i < 8) (hv : v < 18446744073709551616) (h7 : a.get 7 = .int .i64 (.ofNat i))
    (hm : (appOf 5 1 base n cap (.slice (some ⟨H.al, 0, none⟩) 1 1)).run (H.new (.row 1 [.int .u8 (.ofNat (Nat.mod (Nat.shiftRight v (Nat.mul 8 i)) 256))] [] 5 (0, 0))) = some (.value s', H2))
    (Q : VExit → VAct → VH → Prop) (q : ∀ a', PtInv a' s' v k i → Q .normal a' H2) : VW (codeK Tryz.prog rec (cR (cL (cL (cR (cR ptBody))))) a H) Q := by
  simp only [ptBody, ptLoop, ptI, fnI, Tryz.f228, Option.getD_some, cL, cR]
  refine VW.region <| VO.pure (v := .slice base n cap) rfl ?_ <| VO.pure (v := .int .u64 (.ofNat v)) rfl ?_ <| VO.pure (v := .int .i64 (.ofNat i)) rfl ?_ <| VO.pure (v := .int .i64 (.ofNat (8 * i))) rfl ?_ <| VO.pure (v := .int .u64 (.ofNat (Nat.shiftRight v (Nat.mul 8 i)))) rfl ?_ <|
    VO.pure (v := .int .u8 (.ofNat (Nat.mod (Nat.shiftRight v (Nat.mul 8 i)) 256))) rfl ?_ <| VO.val (v := .slice (some ⟨H.al, 0, none⟩) 1 1) (h1 := H.new (.row 1 [.int .u8 (.ofNat (Nat.mod (Nat.shiftRight v (Nat.mul 8 i)) 256))] [] 5 (0, 0))) rfl rfl ?_ <|
    VO.val (v := s') (h1 := H2) rfl rfl ?_ <| VO.pure (v := s') rfl ?_ <| VO.nil (q _ ⟨?_, ?_, ?_, ?_, ?_, ?_⟩)
  all_goals try dsimp only
  · rw [VAct.eval_vopK_move, inv.t0]
  · rw [VAct.eval_vopK_move]; simp only [VAct.get_put]; simpa using inv.t1
  · rw [VAct.eval_vopK_move]; simp only [VAct.get_put]; simp; exact h7
  · simp only [vopK, cop, VAct.eval_tmp, VAct.get_put, if_true]
    show OpR.pure (some (Value.int .i64 (wrapF .i64 (.ofNat (8 * i))))) = _
    rw [wrapF_small .i64 (by show 8 * i < 9223372036854775808; omega)]
  · generalize hA : VAct.put _ _ _ = A
    have g20 : A.get 20 = .int .u64 (.ofNat v) := by rw [← hA]; simp only [VAct.get_put]; simp
    have g22 : A.get 22 = .int .i64 (.ofNat (8 * i)) := by rw [← hA]; simp only [VAct.get_put]; simp
    show OpR.pure (vbin Tryz.prog .shr 49 (A.get 20) (A.get 22)) = _
    rw [g20, g22]
    show OpR.pure (shF .shr .u64 (.ofNat v) .i64 (.ofNat (8 * i))) = _
    have hsh : shF .shr .u64 (.ofNat v) .i64 (.ofNat (8 * i)) = some (.int .u64 (.ofNat (Nat.shiftRight v (Nat.mul 8 i)))) := by
      unfold shF
      simp only
      have : Nat.ble (8 * i) (kb .u64) = true := Nat.ble_eq_true_of_le (by show 8 * i ≤ 64; omega)
      rw [this]
      rfl
    rw [hsh]
  · simp only [vopK, cop, copConv, m49_5, VAct.eval_tmp, VAct.get_put, if_true, pconvert, u49, u5]
    rw [wrap_u8]
  · generalize hA : VAct.put _ _ _ = A
    have g24 : A.get 24 = .int .u8 (.ofNat (Nat.mod (Nat.shiftRight v (Nat.mul 8 i)) 256)) := by rw [← hA]; simp only [VAct.get_put]; simp
    show (vbuildSlice Tryz.prog 152 1 [(0, A.get 24)]).run H = _
    unfold vbuildSlice
    rw [el152, g24]
    rfl
  · generalize hA : VAct.put _ _ _ = A
    have g19 : A.get 19 = .slice base n cap := by rw [← hA]; simp only [VAct.get_put]; simp
    have g25 : A.get 25 = .slice (some ⟨H.al, 0, none⟩) 1 1 := by rw [← hA]; simp only [VAct.get_put]; simp
    show (vappend Tryz.prog [152, 152] [A.get 19, A.get 25]).run _ = _
    rw [g19, g25]
    simp only [vappend, el152, u152, hopt]
    exact hm
  · rw [VAct.eval_vopK_move_assign]; simp only [VAct.get_put]; simp
  · rw [pt_lv (by simp only [VAct.live_put]; exact inv.lv) (by simp)]; simp only [VAct.get_put]; simp
  · rw [pt_lv (by simp only [VAct.live_put]; exact inv.lv) (by simp)]; simp only [VAct.get_put]; simpa using inv.t1
  · rw [pt_lv (by simp only [VAct.live_put]; exact inv.lv) (by simp)]; simp only [VAct.get_put]; simpa using inv.t15
  · rw [pt_lv (by simp only [VAct.live_put]; exact inv.lv) (by simp)]; simp only [VAct.get_put]; simpa using inv.t16
  · rw [VAct.live_shut]; simp only [VAct.live_put]; exact inv.lv
  · rw [VAct.shut_defers]; simp only [VAct.put_defers]; exact inv.df

theorem pt_loop (hk : k ≤ 8) (hv : v < 18446744073709551616) : ∀ (j i : Nat) (s : Value) (a : VAct) (H : VH) (s' : Value) (H' : VH), i + j = k → PtInv a s v k i → (putGo v j i s).run H = some (s', H') →
    VW (codeK Tryz.prog (vrun Tryz.prog S j) (.loop ptBody) a H) fun e a' h' => e = .exit 0 ∧ PtInv a' s' v k k ∧ h' = H' := by
  intro j
  induction j with
  | zero =>
    intro i s a H s' H' hij inv e
    have hik : i = k := by omega
    subst hik
    cases e
    refine VW.loop ?_
    rw [ptBody_eq]
    refine VW.seq ?_
    rw [← ptBody_eq]
    refine pt_head inv _ ?_
    intro a' inv' g17
    dsimp only
    refine VW.seq ?_
    have : Nat.blt i i = false := by
      cases q : Nat.blt i i with
      | false => rfl
      | true => rw [Nat.blt_eq] at q; omega
    rw [this] at g17
    exact VW.condF (by rw [VAct.eval_tmp]; exact g17) (VW.exit ⟨rfl, inv', rfl⟩)
  | succ j ih =>
    intro i s a H s' H' hij inv e
    have e0 : (putByte (Nat.mod (Nat.shiftRight v (Nat.mul 8 i)) 256) s (putGo v j (i + 1))).run H = some (s', H') := e
    unfold putByte at e0
    split at e0
    · rename_i base n cap
      have e1 : (HM.bind (appOf 5 1 base n cap (.slice (some ⟨H.al, 0, none⟩) 1 1)) (putNext (putGo v j (i + 1)))).run (H.new (.row 1 [.int .u8 (.ofNat (Nat.mod (Nat.shiftRight v (Nat.mul 8 i)) 256))] [] 5 (0, 0))) = some (s', H') := e0
      obtain ⟨x, H2, e2, e3⟩ := HM.run_bind _ _ _ _ e1
      unfold putNext at e3
      split at e3
      · rename_i s2
        refine VW.loop ?_
        rw [ptBody_eq]
        refine VW.seq ?_
        rw [← ptBody_eq]
        refine pt_head inv _ ?_
        intro a1 inv1 g17
        dsimp only
        refine VW.seq ?_
        have : Nat.blt i k = true := by rw [Nat.blt_eq]; omega
        rw [this] at g17
        refine VW.condT (by rw [VAct.eval_tmp]; exact g17) (VW.skip ?_)
        dsimp only
        refine VW.seq (VW.block (VW.seq ?_))
        refine pt_ix inv1 _ ?_
        intro a2 inv2 g7
        dsimp only
        refine pt_app inv2 (by omega) hv g7 e2 _ ?_
        intro a3 inv3
        dsimp only
        refine pt_next inv3 (by omega) _ ?_
        intro a4 inv4
        dsimp only
        rw [vrun_code]
        exact ih (i + 1) s2 a4 H2 s' H' (by omega) inv4 e3
      · cases e3
    · cases e0

end
end Go.Proofs.YtonkcdnpmemheaaGreat.Vm

namespace Go.Proofs.YtonkcdnpmemheaaGreat.Vm
open Go.Proofs

section
variable {S : Sums} {v k : Nat}

theorem pt_call (hS : S 228 = none) (h1 : 1 ≤ k) (hk : k ≤ 8) (hv : v < 18446744073709551616) {s s' : Value} {H H' : VH} (e : (putGo v k 0 s).run H = some (s', H')) :
    vrun Tryz.prog S (k + 2) (.call 228 [s, .int .u64 (.ofNat v), .int .i64 (.ofNat k)]) H = some (.val s', H') := by
  have key : VW (codeK Tryz.prog (vrun Tryz.prog S k) (fnI Tryz.f228).c (frame [s, .int .u64 (.ofNat v), .int .i64 (.ofNat k)] (fnI Tryz.f228).live) H) fun e a' h' => e = .ret ∧ a'.get 6 = s' ∧ a'.defers = [] ∧ h' = H' := by
    obtain ⟨f0, f1, f2⟩ := pt_frame s (.int .u64 (.ofNat v)) (.int .i64 (.ofNat k))
    have fl : (frame [s, .int .u64 (.ofNat v), .int .i64 (.ofNat k)] (fnI Tryz.f228).live).live = ptLv := rfl
    have fd : (frame [s, .int .u64 (.ofNat v), .int .i64 (.ofNat k)] (fnI Tryz.f228).live).defers = [] := rfl
    generalize hA : frame [s, .int .u64 (.ofNat v), .int .i64 (.ofNat k)] (fnI Tryz.f228).live = A at *
    have hc : (fnI Tryz.f228).c = .seq (cL ptI.c) (.seq (cL (cR ptI.c)) (.seq (.seq (cL (cL (cR (cR ptI.c)))) (.block 0 (.loop ptBody))) (.seq (cL (cR (cR (cR ptI.c)))) .ret))) := by kernel_rfl
    rw [hc]
    have b1 : Nat.blt k 1 = false := by
      cases q : Nat.blt k 1 with
      | false => rfl
      | true => rw [Nat.blt_eq] at q; omega
    have b8 : Nat.blt 8 k = false := by
      cases q : Nat.blt 8 k with
      | false => rfl
      | true => rw [Nat.blt_eq] at q; omega
    refine VW.seq ?_
    show VW (codeK Tryz.prog _ (cL ptI.c) A H) _
    have r0 : ∀ Q : VExit → VAct → VH → Prop, (∀ a', a'.get 0 = s → a'.get 1 = .int .u64 (.ofNat v) → a'.get 2 = .int .i64 (.ofNat k) → a'.live = ptLv → a'.defers = [] → Q .normal a' H) → VW (codeK Tryz.prog (vrun Tryz.prog S k) (cL ptI.c) A H) Q := by
      intro Q q
      simp only [ptI, fnI, Tryz.f228, Option.getD_some, cL]
      refine VW.region (VO.pure (v := .slice none 0 0) rfl rfl (VO.nil (q _ ?_ ?_ ?_ ?_ ?_)))
      · rw [pt_lv (by simp only [VAct.live_put]; exact fl) (by simp)]; simp only [VAct.get_put]; simpa using f0
      · rw [pt_lv (by simp only [VAct.live_put]; exact fl) (by simp)]; simp only [VAct.get_put]; simpa using f1
      · rw [pt_lv (by simp only [VAct.live_put]; exact fl) (by simp)]; simp only [VAct.get_put]; simpa using f2
      · rw [VAct.live_shut]; simp only [VAct.live_put]; exact fl
      · rw [VAct.shut_defers]; simp only [VAct.put_defers]; exact fd
    refine r0 _ ?_
    intro a1 g0 g1 g2 gl gd
    dsimp only
    refine VW.seq ?_
    have r1 : ∀ Q : VExit → VAct → VH → Prop, (∀ a', a'.get 0 = s → a'.get 1 = .int .u64 (.ofNat v) → a'.get 2 = .int .i64 (.ofNat k) → a'.live = ptLv → a'.defers = [] → Q .normal a' H) → VW (codeK Tryz.prog (vrun Tryz.prog S k) (cL (cR ptI.c)) a1 H) Q := by
      intro Q q
      simp only [ptI, fnI, Tryz.f228, Option.getD_some, cL, cR]
      refine VW.seq <| VW.region <| VO.pure (v := .int .i64 (.ofNat k)) rfl ?_ <| VO.pure (v := .bool false) rfl ?_ <| VO.pure (v := .bool false) rfl ?_ <| VO.pure (v := .int .i64 (.ofNat k)) ?_ ?_ <| VO.pure (v := .bool false) ?_ ?_ <| VO.pure (v := .bool false) rfl ?_ <| VO.nil ?_
      all_goals dsimp only
      any_goals (rw [vwanted_guard rfl rfl rfl]; simp only [VAct.get_put]; simp [isBool]; done)
      · rw [VAct.eval_vopK_move, g2]
      · simp only [vopK, cop, VAct.eval_tmp, VAct.get_put, if_true]
        show OpR.pure (some (.bool (Nat.blt k 1))) = _
        rw [b1]
      · rw [VAct.eval_vopK_move]; simp only [VAct.get_put]; simp
      · rw [VAct.eval_vopK_move]; simp only [VAct.get_put]; simp; exact g2
      · simp only [vopK, cop, VAct.eval_tmp, VAct.get_put, if_true]
        show OpR.pure (some (.bool (Nat.blt 8 k))) = _
        rw [b8]
      · simp only [vopK, cop, VAct.eval_tmp, VAct.get_put]
        simp [vpick]
      generalize ha2 : VAct.shut _ = a2
      have p0 : a2.get 0 = s := by rw [← ha2, pt_lv (by simp only [VAct.live_put]; exact gl) (by simp)]; simp only [VAct.get_put]; simpa using g0
      have p1 : a2.get 1 = .int .u64 (.ofNat v) := by rw [← ha2, pt_lv (by simp only [VAct.live_put]; exact gl) (by simp)]; simp only [VAct.get_put]; simpa using g1
      have p2 : a2.get 2 = .int .i64 (.ofNat k) := by rw [← ha2, pt_lv (by simp only [VAct.live_put]; exact gl) (by simp)]; simp only [VAct.get_put]; simpa using g2
      have p13 : a2.get 13 = .bool false := by rw [← ha2, pt_lv (by simp only [VAct.live_put]; exact gl) (by simp)]; simp only [VAct.get_put]; simp
      have pl : a2.live = ptLv := by rw [← ha2, VAct.live_shut]; simp only [VAct.live_put]; exact gl
      have pd : a2.defers = [] := by rw [← ha2, VAct.shut_defers]; simp only [VAct.put_defers]; exact gd
      exact VW.condF (by rw [VAct.eval_tmp]; exact p13) (VW.skip (q _ p0 p1 p2 pl pd))
    refine r1 _ ?_
    intro a2 p0 p1 p2 pl pd
    dsimp only
    refine VW.seq (VW.seq ?_)
    have r3 : ∀ Q : VExit → VAct → VH → Prop, (∀ a', PtInv a' s v k 0 → Q .normal a' H) → VW (codeK Tryz.prog (vrun Tryz.prog S k) (cL (cL (cR (cR ptI.c)))) a2 H) Q := by
      intro Q q
      simp only [ptI, fnI, Tryz.f228, Option.getD_some, cL, cR]
      refine VW.region <| VO.pure (v := .int .i64 (.ofNat k)) rfl ?_ <| VO.pure (v := .int .i64 (.ofNat 0)) rfl rfl <| VO.nil (q _ ⟨?_, ?_, ?_, ?_, ?_, ?_⟩)
      all_goals try dsimp only
      · rw [VAct.eval_vopK_move, p2]
      · rw [pt_lv (by simp only [VAct.live_put]; exact pl) (by simp)]; simp only [VAct.get_put]; simpa using p0
      · rw [pt_lv (by simp only [VAct.live_put]; exact pl) (by simp)]; simp only [VAct.get_put]; simpa using p1
      · rw [pt_lv (by simp only [VAct.live_put]; exact pl) (by simp)]; simp only [VAct.get_put]; simp
      · rw [pt_lv (by simp only [VAct.live_put]; exact pl) (by simp)]; simp only [VAct.get_put]; simp
      · rw [VAct.live_shut]; simp only [VAct.live_put]; exact pl
      · rw [VAct.shut_defers]; simp only [VAct.put_defers]; exact pd
    refine r3 _ ?_
    intro a3 inv
    dsimp only
    refine VW.block ?_
    obtain ⟨e5, a4, h4, e4, rfl, inv4, rfl⟩ := pt_loop (S := S) hk hv k 0 s a3 H s' H' (by omega) inv e
    refine ⟨_, _, _, e4, ?_⟩
    dsimp only
    rw [if_pos rfl]
    refine VW.seq ?_
    have r8 : ∀ Q : VExit → VAct → VH → Prop, (∀ a', a'.get 6 = s' → a'.defers = [] → Q .normal a' h4) → VW (codeK Tryz.prog (vrun Tryz.prog S k) (cL (cR (cR (cR ptI.c)))) a4 h4) Q := by
      intro Q q
      simp only [ptI, fnI, Tryz.f228, Option.getD_some, cL, cR]
      refine VW.region <| VO.pure (v := s') rfl ?_ <| VO.pure (v := s') rfl ?_ <| VO.nil (q _ ?_ ?_)
      all_goals try dsimp only
      · rw [VAct.eval_vopK_move, inv4.t0]
      · rw [VAct.eval_vopK_move_assign]; simp only [VAct.get_put]; simp
      · rw [pt_lv (by simp only [VAct.live_put]; exact inv4.lv) (by simp)]; simp only [VAct.get_put]; simp
      · rw [VAct.shut_defers]; simp only [VAct.put_defers]; exact inv4.df
    refine r8 _ ?_
    intro a5 z6 zd
    exact VW.ret ⟨rfl, z6, zd, rfl⟩
  obtain ⟨e1, a', h', e2, rfl, q1, q2, rfl⟩ := key
  rw [vrun_call hS, vcall_eq pt_info, pt_res, vrun_code, e2, callEnd_tmp (by simp) q2, q1]
end

theorem put_ok {W : Frm} {σ : Ren} {h h' : VH} {args args' : List Value} {v : Value} {w : World} (e : (sumPut args).run h = some (v, h')) (hl : LR σ args args') (r : R W Tryz.prog σ h w) : CallsIn Fence.wide 0 Tryz.prog 228 ⟨args'⟩ w (ValOk W Tryz.prog σ v h') := by
  unfold sumPut at e
  split at e
  · rename_i s n k
    split at e
    · rename_i h1
      split at e
      · rename_i h8
        split at e
        · rename_i hv
          rw [Nat.blt_eq] at hv
          exact (vrun_sound pok (none_ok _) _).call (pt_call (S := fun _ => none) rfl (Nat.le_of_ble_eq_true h1) (Nat.le_of_ble_eq_true h8) hv e) hl r
        · cases e
      · cases e
    · cases e
  · cases e
end Go.Proofs.YtonkcdnpmemheaaGreat.Vm

namespace Go.Proofs.YtonkcdnpmemheaaGreat.Vm
open Go.Proofs

/-- the summaries of five functions -/
noncomputable def Q1 : Sums := (Q0.add 156 sumOf).add 228 sumPut
theorem Q1_ok : SumsOk Tryz.prog Q1 := Sums.add_ok (Sums.add_ok Q0_ok fun e hl r _ => oc_ok e hl r) fun e hl r _ => put_ok e hl r
end Go.Proofs.YtonkcdnpmemheaaGreat.Vm

