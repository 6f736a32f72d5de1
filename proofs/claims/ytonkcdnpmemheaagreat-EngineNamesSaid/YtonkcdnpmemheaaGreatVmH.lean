/- The contracts of crc.Of and columns.row. By an AI agent. -/
import Derived.Test.YtonkcdnpmemheaaGreatVmG
import Derived.Test.YtonkcdnpmemheaaGreatVmC
import Derived.Test.YtonkcdnpmemheaaGreatVmA
import Derived.Test.YtonkcdnpmemheaaGreatVmB
set_option linter.all false
namespace Go.Proofs.YtonkcdnpmemheaaGreat.Vm
open Go.Proofs

/-- the table's summary -/
noncomputable def sumTbl (args : List Value) : HM Value := match args with
  | [] => .ret (.agg ⟨tblL⟩)
  | _ => .fail
noncomputable def S1 : Sums := fun f => match Nat.beq f 296 with
  | true => some sumTbl
  | false => none

theorem none_ok (P : Program) : SumsOk P (fun _ => none) := by intro f s h; cases h

theorem tblL_bare (d : Nat) : bare (d + 2) (.agg ⟨tblL⟩) = true := by
  show (tblL.all (bare (d + 1))) = true
  rw [List.all_eq_true]
  intro x hx
  unfold tblL at hx
  rw [List.mem_map] at hx
  obtain ⟨i, _, rfl⟩ := hx
  rfl

/-- a value without names -/
theorem bare_rel {d : Nat} {v v' : Value} (hb : bare d v = true) {σ τ : Ren} (h : VRel τ v v') : VRel σ v v' := by
  have h0 : VRel (fun _ => none) v v := bare_same d v hb
  have h1 : VRel (fun _ => none) v v' := h.swap (fun n m e => by cases e) h0
  exact h1.mono (fun n m e => by cases e)

theorem S1_ok : SumsOk Tryz.prog S1 := by
  intro f s hs W σ h h' args args' v w e hl r _
  unfold S1 at hs
  split at hs
  · rename_i hf
    have hf := Nat.eq_of_beq_eq_true hf
    subst hf
    cases hs
    unfold sumTbl at e
    split at e
    · cases e
      cases hl
      have hrun := tbl_run
      unfold isTbl at hrun
      split at hrun
      · rename_i cs h1 hr
        have hcs : cs.toList = tblL := sameCells_eq hrun
        have hcs' : cs = ⟨tblL⟩ := Array.ext' hcs
        subst hcs'
        have hc := (vrun_sound pok (none_ok _) 100000).call hr .nil r.restart
        refine CallsIn.mono hc ?_
        intro en w' hv
        cases en with
        | returned v' =>
          obtain ⟨τ, h2, h3, h4⟩ := hv
          exact ⟨σ, Ren.le_refl σ, r.back e_get h3, bare_rel (tblL_bare 0) h4⟩
        | panicked c => exact hv.elim
        | outgrown => exact hv.elim
      · cases hrun
    · cases e
  · cases hs

/-! ### the loop over the bytes -/
section
variable {S : Sums} {h : VH}

theorem crcStep_lt {s x : Nat} (hs : s < 4294967296) : crcStep s x < 4294967296 := by
  have h1 : Nat.shiftRight s 8 < 2 ^ 32 := by
    show s >>> 8 < _
    rw [Nat.shiftRight_eq_div_pow]
    omega
  have h2 : crcAt (Nat.xor (Nat.mod s 256) x) < 2 ^ 32 := crcAt_lt _
  exact Nat.xor_lt_two_pow h1 h2

/-- the loop's last test -/
theorem upd_last {rec : Rec} {a : VAct} {s n r : Nat} {sl : Value} (inv : UpdInv a s n n r sl) : VW (codeK Tryz.prog rec updBody a h) fun e a' h' => e = .exit 0 ∧ h' = h ∧ UpdInv a' s n n r sl := by
  have hlt : Nat.blt n n = false := by
    cases g : Nat.blt n n with
    | false => rfl
    | true => rw [Nat.blt_eq] at g; omega
  simp only [updBody, updI, Tryz.f347, Option.getD_some, cL, cR]
  have lv : ∀ {u : VAct} {t : Nat}, u.live = updLv → (t = 1 ∨ t = 3 ∨ t = 8 ∨ t = 9 ∨ t = 10 ∨ t = 11 ∨ t = 12 ∨ t = 6) → u.shut.get t = u.get t := fun hu ht => VAct.get_shut_live (by rw [hu]; exact upd_live _ ht)
  have i10 := inv.t10
  have i11 := inv.t11
  have il := inv.lv
  refine VW.seq (VW.region (VO.pure (v := .bool false) rfl ?_ (VO.nil ?_)))
  · show OpR.pure (vbin Tryz.prog .lss 3 (a.get 11) (a.get 10)) = _
    rw [i11, i10, ← hlt]; rfl
  refine VW.seq (VW.condF ?_ (VW.exit ?_))
  · rw [VAct.eval_tmp, lv (by rw [VAct.live_put]; exact il) (by simp)]; rfl
  refine ⟨rfl, rfl, ?_⟩
  have kk : ∀ t, (t = 1 ∨ t = 3 ∨ t = 9 ∨ t = 10 ∨ t = 11) → (a.put (some 12) (.bool false)).shut.get t = a.get t := by
    intro t ht
    rw [lv (by rw [VAct.live_put]; exact il) (by rcases ht with h | h | h | h | h <;> subst h <;> simp), VAct.get_put, if_neg (by rcases ht with h | h | h | h | h <;> subst h <;> decide)]
  exact ⟨by rw [kk 1 (by simp)]; exact inv.t1, by rw [kk 3 (by simp)]; exact inv.t3, by rw [kk 9 (by simp)]; exact inv.t9, by rw [kk 10 (by simp)]; exact inv.t10, by rw [kk 11 (by simp)]; exact inv.t11,
    by rw [VAct.live_shut, VAct.live_put]; exact il, by rw [VAct.shut_defers, VAct.put_defers]; exact inv.df⟩

theorem vrun_loop (P : Program) (S : Sums) (K : Nat) (x : Code) (a : VAct) (h : VH) : vrun P S (K + 1) (.code (.loop x) a) h = codeK P (vrun P S K) (.loop x) a h := rfl

theorem crcRow_cons {v : Value} {l : List Value} {s s' : Nat} (e : crcRow (v :: l) s = some s') : ∃ x, v = .int .u8 (.ofNat x) ∧ x < 256 ∧ crcRow l (crcStep s x) = some s' := by
  unfold crcRow at e
  split at e
  · rename_i heq; cases heq
  · rename_i s2 x l2 heq
    cases heq
    split at e
    · rename_i hx
      rw [Nat.blt_eq] at hx
      exact ⟨x, rfl, hx, e⟩
    · cases e
  · cases e

theorem upd_loop {b off cap n r k2 e2 : Nat} {f2 bk2 : List Value} {fr2 : Nat × Nat} (hrt : h.get r = some (.row k2 f2 bk2 e2 fr2)) (h2 : rowList f2 bk2 = tblL) {L : List Value} {sl : Value}
    (hsl : 0 < n → sl = .slice (some ⟨b, off, none⟩) n cap ∧ ∃ k f1 bk1 e1 fr1, h.get b = some (.row k f1 bk1 e1 fr1) ∧ ∀ i, i < n → nth? (rowList f1 bk1) (off + i) = L[i]?) (hL : L.length = n) (hn : n < 9223372036854775807) :
    ∀ (m K i s s' : Nat) (a : VAct), i + m = n → m ≤ K → s < 4294967296 → crcRow (L.drop i) s = some s' → UpdInv a s i n r sl →
      VW (codeK Tryz.prog (vrun Tryz.prog S K) (.loop updBody) a h) fun e a' h' => e = .exit 0 ∧ h' = h ∧ UpdInv a' s' n n r sl := by
  intro m
  induction m with
  | zero =>
    intro K i s s' a hi hK hs hc inv
    have : i = n := by omega
    subst this
    rw [List.drop_eq_nil_of_le (by omega)] at hc
    cases hc
    obtain ⟨e, a1, h1, e1, rfl, q2, q3⟩ := upd_last (h := h) (rec := vrun Tryz.prog S K) inv
    exact ⟨_, _, _, codeK_loop_exit (by simp) e1, rfl, q2, q3⟩
  | succ m ih =>
    intro K i s s' a hi hK hs hc inv
    cases K with
    | zero => omega
    | succ K =>
      have hin : i < n := by omega
      obtain ⟨rfl, k, f1, bk1, e1, fr1, hb, hnth⟩ := hsl (by omega)
      have hdrop : L.drop i = L[i] :: L.drop (i + 1) := by rw [List.drop_eq_getElem_cons (by omega)]
      rw [hdrop] at hc
      obtain ⟨x, hx, hx2, hc'⟩ := crcRow_cons hc
      have hnx := hnth i hin
      rw [List.getElem?_eq_getElem (by omega), hx] at hnx
      obtain ⟨e, a1, h1, ec, rfl, rfl, q3⟩ := upd_round (rec := vrun Tryz.prog S (K + 1)) inv hb hrt h2 hnx hx2 hin hs hn
      have := ih K (i + 1) (crcStep s x) s' a1 (by omega) (by omega) (crcStep_lt hs) hc' q3
      rw [codeK_loop_next ec, vrun_loop]
      exact this

end
end Go.Proofs.YtonkcdnpmemheaaGreat.Vm

namespace Go.Proofs.YtonkcdnpmemheaaGreat.Vm
open Go.Proofs

theorem upd_live2 : tb updLv 0 = true ∧ tb updLv 2 = true := by constructor <;> kernel_rfl
theorem upd_frame (x y z : Value) : (frame [x, y, z] updI.live).get 0 = x ∧ (frame [x, y, z] updI.live).get 1 = y ∧ (frame [x, y, z] updI.live).get 2 = z := by
  refine ⟨?_, ?_, ?_⟩ <;> kernel_rfl
theorem frame_live (l : List Value) (n : Nat) : (frame l n).live = Nat.lor n (bitsTo (len l)) := rfl

theorem upd_res : updI.res = [.tmp 6] := by kernel_rfl
theorem vrun_code (P : Program) (S : Sums) (K : Nat) (c : Code) (a : VAct) (h : VH) : vrun P S (K + 1) (.code c a) h = codeK P (vrun P S K) c a h := rfl

theorem vrun_call {P : Program} {S : Sums} {K f : Nat} (hS : S f = none) (args : List Value) (h : VH) : vrun P S (K + 1) (.call f args) h = vcall P (vrun P S K) false f args h := by
  have h1 : vrun P S (K + 1) (.call f args) h = callK P (vrun P S K) f args h (S f) := rfl
  rw [h1, hS]; rfl

/-- a call of a function by its name -/
theorem callOp_func {P : Program} {a : VAct} {f : FuncId} {args : Array Operand} {ts : Array TypeId} {h : VH} (hb : bodyOf P f = some true) :
    (vcallOp P a.eval { callee := .value (.func f), args := args, argTypes := ts }).run h = some (.enter f ⟨args.toList.map a.eval⟩, h) := by
  have h1 : vcallOp P a.eval { callee := .value (.func f), args := args, argTypes := ts } = vcallFunc P f (([] ++ args.toList.map a.eval) ++ []) := rfl
  rw [h1]
  unfold vcallFunc
  rw [hb]
  simp
  rfl

theorem box_agg {P : Program} {t : TypeId} {l : List Value} {h : VH} : (vbox t (.agg ⟨l⟩)).run h = some (.value (.pointer (some ⟨h.al, 0, none⟩)), h.new (.row (len l) l [] t (0, 0))) := rfl

theorem new_get {h : VH} (o : VObj) : (h.new o).get h.al = some o := by rw [VH.get_new, if_pos rfl]
theorem new_keep {h : VH} (hf : h.get h.al = none) (o : VObj) {n : Nat} {x : VObj} (e : h.get n = some x) : (h.new o).get n = some x := by
  rw [VH.get_new]
  have : n ≠ h.al := fun q => by rw [q, hf] at e; cases e
  rw [if_neg this]; exact e

/-- the bytes behind a slice -/
structure Bytes (h : VH) (sa : Option Addr) (n sc : Nat) (L : List Value) : Prop where
  len : L.length = n
  at' : 0 < n → ∃ b off k f1 bk1 e1 fr1, sa = some ⟨b, off, none⟩ ∧ h.get b = some (.row k f1 bk1 e1 fr1) ∧ ∀ i, i < n → nth? (rowList f1 bk1) (off + i) = L[i]?

theorem Bytes.new {h : VH} {sa : Option Addr} {n sc : Nat} {L : List Value} (hb : Bytes h sa n sc L) (hf : h.get h.al = none) (o : VObj) : Bytes (h.new o) sa n sc L := by
  refine ⟨hb.len, fun hn => ?_⟩
  obtain ⟨b, off, k, f1, bk1, e1, fr1, g1, g2, g3⟩ := hb.at' hn
  exact ⟨b, off, k, f1, bk1, e1, fr1, g1, new_keep hf o g2, g3⟩

theorem upd_call {S : Sums} (hS : S 347 = none) {h : VH} (hf : h.get h.al = none) {sa : Option Addr} {n sc s s' K : Nat} {L : List Value} (hb : Bytes h sa n sc L) (hn : n < 9223372036854775807) (hs : s < 4294967296) (hc : crcRow L s = some s') (hK : n ≤ K) :
    ∃ h', vrun Tryz.prog S (K + 2) (.call 347 [.agg ⟨tblL⟩, .int .u32 (.ofNat s), .slice sa n sc]) h = some (.val (.int .u32 (.ofNat s')), h') ∧ (∀ m o, h.get m = some o → h'.get m = some o) ∧ h' = h.new (.row (len tblL) tblL [] 443 (0, 0)) := by
  have key : VW (codeK Tryz.prog (vrun Tryz.prog S K) updI.c (frame [.agg ⟨tblL⟩, .int .u32 (.ofNat s), .slice sa n sc] updI.live) h) fun e a' h' => e = .ret ∧ a'.get 6 = .int .u32 (.ofNat s') ∧ a'.defers = [] ∧ h' = h.new (.row (len tblL) tblL [] 443 (0, 0)) := by
    obtain ⟨f0, f1, f2⟩ := upd_frame (.agg ⟨tblL⟩) (.int .u32 (.ofNat s)) (.slice sa n sc)
    have fl : (frame [.agg ⟨tblL⟩, .int .u32 (.ofNat s), .slice sa n sc] updI.live).live = updLv := rfl
    have fd : (frame [.agg ⟨tblL⟩, .int .u32 (.ofNat s), .slice sa n sc] updI.live).defers = [] := rfl
    generalize hA : frame [.agg ⟨tblL⟩, .int .u32 (.ofNat s), .slice sa n sc] updI.live = A at *
    have lv : ∀ {u : VAct} {t : Nat}, u.live = updLv → (t = 0 ∨ t = 2 ∨ t = 1 ∨ t = 3 ∨ t = 8 ∨ t = 9 ∨ t = 10 ∨ t = 11 ∨ t = 12 ∨ t = 6) → u.shut.get t = u.get t := fun hu ht => VAct.get_shut_live (by
      rw [hu]
      rcases ht with q | q | q
      · subst q; exact upd_live2.1
      · subst q; exact upd_live2.2
      · exact upd_live _ q)
    have hbody : updI.c = .seq (cL updI.c) (.seq (.seq (cL (cL (cR updI.c))) (.block 0 (.loop updBody))) (cR (cR updI.c))) := by kernel_rfl
    rw [hbody]
    simp only [updI, Tryz.f347, Option.getD_some, cL, cR]
    refine VW.seq (VW.region (VO.val (v := .pointer (some ⟨h.al, 0, none⟩)) (h1 := h.new (.row (len tblL) tblL [] 443 (0, 0))) rfl rfl ?_ (VO.pure (v := .int .u32 0) rfl rfl (VO.nil ?_))))
    · show (vbox 443 (A.get 0)).run h = _
      rw [f0]; exact box_agg (P := Tryz.prog)
    dsimp only
    generalize ha1 : VAct.shut _ = a1
    have g : ∀ t, (t = 1 ∨ t = 2) → a1.get t = A.get t := by
      intro t ht
      rw [← ha1, lv (by simp only [VAct.live_put]; exact fl) (by rcases ht with h | h <;> subst h <;> simp)]
      simp only [VAct.get_put]
      rcases ht with h | h <;> subst h <;> simp
    have g3 : a1.get 3 = .pointer (some ⟨h.al, 0, none⟩) := by rw [← ha1, lv (by simp only [VAct.live_put]; exact fl) (by simp)]; simp only [VAct.get_put]; simp
    have gl : a1.live = updLv := by rw [← ha1, VAct.live_shut]; simp only [VAct.live_put]; exact fl
    have gd : a1.defers = [] := by rw [← ha1, VAct.shut_defers]; simp only [VAct.put_defers]; exact fd
    generalize hh1 : h.new (.row (len tblL) tblL [] 443 (0, 0)) = h1
    refine VW.seq (VW.seq (VW.region (VO.pure (v := .slice sa n sc) rfl ?_ (VO.val (v := .int .i64 (.ofNat n)) (h1 := h1) rfl rfl ?_ (VO.pure (v := .int .i64 0) rfl rfl (VO.nil ?_))))))
    · rw [VAct.eval_vopK_move, g 2 (by simp), f2]
    · show (vlenOp Tryz.prog [152] [VAct.get (VAct.put a1 (some 9) (.slice sa n sc)) 9]).run h1 = _
      simp only [VAct.get_put, if_true, vlenOp, u152]
      rfl
    dsimp only
    generalize ha2 : VAct.shut _ = a2
    have inv : UpdInv a2 s 0 n h.al (.slice sa n sc) := by
      refine ⟨?_, ?_, ?_, ?_, ?_, ?_, ?_⟩
      · rw [← ha2, lv (by simp only [VAct.live_put]; exact gl) (by simp)]; simp only [VAct.get_put]; simp; rw [g 1 (by simp), f1]; rfl
      · rw [← ha2, lv (by simp only [VAct.live_put]; exact gl) (by simp)]; simp only [VAct.get_put]; simpa using g3
      · rw [← ha2, lv (by simp only [VAct.live_put]; exact gl) (by simp)]; simp only [VAct.get_put]; simp
      · rw [← ha2, lv (by simp only [VAct.live_put]; exact gl) (by simp)]; simp only [VAct.get_put]; simp
      · rw [← ha2, lv (by simp only [VAct.live_put]; exact gl) (by simp)]; simp only [VAct.get_put]; simp
      · rw [← ha2, VAct.live_shut]; simp only [VAct.live_put]; exact gl
      · rw [← ha2, VAct.shut_defers]; simp only [VAct.put_defers]; exact gd
    have hb1 := hb.new hf (.row (len tblL) tblL [] 443 (0, 0))
    rw [hh1] at hb1
    have hrt : h1.get h.al = some (.row (len tblL) tblL [] 443 (0, 0)) := by rw [← hh1]; exact new_get _
    have hloop : VW (codeK Tryz.prog (vrun Tryz.prog S K) (.loop updBody) a2 h1) fun e a' h' => e = .exit 0 ∧ h' = h1 ∧ UpdInv a' s' n n h.al (.slice sa n sc) := by
      by_cases hn0 : 0 < n
      · obtain ⟨b, off, k, f1, bk1, e1, fr1, q1, q2, q3⟩ := hb1.at' hn0
        subst q1
        exact upd_loop (b := b) (off := off) (cap := sc) hrt rfl (fun _ => ⟨rfl, k, f1, bk1, e1, fr1, q2, q3⟩) hb.len hn n K 0 s s' a2 (by omega) hK hs hc inv
      · exact upd_loop (b := 0) (off := 0) (cap := sc) hrt rfl (fun q => absurd q hn0) hb.len hn n K 0 s s' a2 (by omega) hK hs hc inv
    refine VW.block ?_
    obtain ⟨e, a3, h3, e1, rfl, rfl, i3⟩ := hloop
    refine ⟨_, _, _, e1, ?_⟩
    simp only [if_true]
    refine VW.seq (VW.region (VO.pure (v := .int .u32 (.ofNat s')) rfl ?_ (VO.pure (v := .int .u32 (.ofNat s')) rfl ?_ (VO.nil ?_))))
    · rw [VAct.eval_vopK_move, i3.t1]
    · rfl
    dsimp only
    refine VW.ret ⟨rfl, ?_, ?_, rfl⟩
    · rw [lv (by simp only [VAct.live_put]; exact i3.lv) (by simp)]; simp only [VAct.get_put]; simp
    · rw [VAct.shut_defers]; simp only [VAct.put_defers]; exact i3.df
  obtain ⟨e, a', h', e1, rfl, q1, q2, q3⟩ := key
  refine ⟨h', ?_, ?_, q3⟩
  · rw [vrun_call hS, vcall_eq upd_info, upd_res, vrun_code, e1, callEnd_tmp (by simp) q2, q1]
  · intro m o e
    rw [q3]; exact new_keep hf _ e

end Go.Proofs.YtonkcdnpmemheaaGreat.Vm

namespace Go.Proofs.YtonkcdnpmemheaaGreat.Vm
open Go.Proofs

noncomputable def fnI (f : Func) : FnI := ⟨f.body.getD .skip, liveOf f (f.body.getD .skip), f.results.toList⟩

/-! ### Sum -/
theorem sum_info : fnInfo Tryz.prog 295 = some (fnI Tryz.f295) := by kernel_rfl
theorem sum_res : (fnI Tryz.f295).res = [.tmp 4] := by kernel_rfl
noncomputable def sumLv : Nat := Nat.lor (fnI Tryz.f295).live (bitsTo 2)
theorem sum_live : tb sumLv 0 = true ∧ tb sumLv 1 = true ∧ tb sumLv 2 = true ∧ tb sumLv 4 = true := by refine ⟨?_, ?_, ?_, ?_⟩ <;> kernel_rfl
theorem sum_frame (x y : Value) : (frame [x, y] (fnI Tryz.f295).live).get 0 = x ∧ (frame [x, y] (fnI Tryz.f295).live).get 1 = y := by refine ⟨?_, ?_⟩ <;> kernel_rfl
theorem a443 : aggOf Tryz.prog 443 = some (some 256) := by kernel_rfl
theorem body347 : bodyOf Tryz.prog 347 = some true := by kernel_rfl
theorem body295 : bodyOf Tryz.prog 295 = some true := by kernel_rfl
theorem body296 : bodyOf Tryz.prog 296 = some true := by kernel_rfl

theorem tblL_len : tblL.length = 256 := by unfold tblL; simp

theorem take_all {α : Type} : ∀ (l : List α), take? l l.length = some l := by
  intro l
  induction l with
  | nil => rfl
  | cons x l ih =>
    have h1 : take? (x :: l) (l.length + 1) = Option.rec (motive := fun _ => Option (List α)) none (fun r => some (x :: r)) (take? l l.length) := rfl
    rw [List.length_cons, h1, ih]

theorem load_tbl {h : VH} {r k e : Nat} {fr : Nat × Nat} (hr : h.get r = some (.row k tblL [] e fr)) : (vload Tryz.prog 443 (.pointer (some ⟨r, 0, none⟩))).run h = some (.value (.agg ⟨tblL⟩), h) := by
  unfold vload
  rw [a443]
  show (HM.rd r (cellsK 0 256 fun l => HM.ret (Next.value (.agg ⟨l⟩)))).run h = _
  rw [HM.run_rd_some hr]
  unfold cellsK
  have : take? (drp (rowList tblL []) 0) 256 = some tblL := by
    have := take_all tblL
    rw [tblL_len] at this
    exact this
  simp only [this, hopt]
  rfl

theorem sum_call {S : Sums} (hS1 : S 347 = none) (hS2 : S 295 = none) {h : VH} (hf : h.get h.al = none) (hf2 : ∀ o, (h.new o).get (h.new o).al = none) {sa : Option Addr} {n sc s' K : Nat} {L : List Value} (hb : Bytes h sa n sc L) (hn : n < 9223372036854775807) (hs' : s' < 4294967296)
    (hc : crcRow L 4294967295 = some s') (hK : n ≤ K) :
    ∃ h', vrun Tryz.prog S (K + 4) (.call 295 [.agg ⟨tblL⟩, .slice sa n sc]) h = some (.val (.int .u32 (.ofNat (Nat.xor s' 4294967295))), h') ∧ (∀ m o, h.get m = some o → h'.get m = some o) := by
  have key : VW (codeK Tryz.prog (vrun Tryz.prog S (K + 2)) (fnI Tryz.f295).c (frame [.agg ⟨tblL⟩, .slice sa n sc] (fnI Tryz.f295).live) h) fun e a' h' => e = .ret ∧ a'.get 4 = .int .u32 (.ofNat (Nat.xor s' 4294967295)) ∧ a'.defers = [] ∧ (∀ m o, h.get m = some o → h'.get m = some o) := by
    obtain ⟨f0, f1⟩ := sum_frame (.agg ⟨tblL⟩) (.slice sa n sc)
    have fl : (frame [.agg ⟨tblL⟩, .slice sa n sc] (fnI Tryz.f295).live).live = sumLv := rfl
    have fd : (frame [.agg ⟨tblL⟩, .slice sa n sc] (fnI Tryz.f295).live).defers = [] := rfl
    generalize hA : frame [.agg ⟨tblL⟩, .slice sa n sc] (fnI Tryz.f295).live = A at *
    have lv : ∀ {u : VAct} {t : Nat}, u.live = sumLv → (t = 0 ∨ t = 1 ∨ t = 2 ∨ t = 4) → u.shut.get t = u.get t := fun hu ht => VAct.get_shut_live (by
      rw [hu]
      rcases ht with q | q | q | q <;> subst q
      · exact sum_live.1
      · exact sum_live.2.1
      · exact sum_live.2.2.1
      · exact sum_live.2.2.2)
    simp only [fnI, Tryz.f295, Option.getD_some]
    refine VW.seq (VW.region (VO.val (v := .pointer (some ⟨h.al, 0, none⟩)) (h1 := h.new (.row (len tblL) tblL [] 443 (0, 0))) rfl rfl ?_ (VO.pure (v := .int .u32 0) rfl rfl (VO.nil ?_))))
    · show (vbox 443 (A.get 0)).run h = _
      rw [f0]; exact box_agg (P := Tryz.prog)
    dsimp only
    generalize ha1 : VAct.shut _ = a1
    have g1 : a1.get 1 = .slice sa n sc := by rw [← ha1, lv (by simp only [VAct.live_put]; exact fl) (by simp)]; simp only [VAct.get_put]; simpa using f1
    have g2 : a1.get 2 = .pointer (some ⟨h.al, 0, none⟩) := by rw [← ha1, lv (by simp only [VAct.live_put]; exact fl) (by simp)]; simp only [VAct.get_put]; simp
    have gl : a1.live = sumLv := by rw [← ha1, VAct.live_shut]; simp only [VAct.live_put]; exact fl
    have gd : a1.defers = [] := by rw [← ha1, VAct.shut_defers]; simp only [VAct.put_defers]; exact fd
    have hb1 := hb.new hf (.row (len tblL) tblL [] 443 (0, 0))
    have hrt : (h.new (.row (len tblL) tblL [] 443 (0, 0))).get h.al = some (.row (len tblL) tblL [] 443 (0, 0)) := new_get _
    have hf1 := hf2 (.row (len tblL) tblL [] 443 (0, 0))
    have hkeep : ∀ m o, h.get m = some o → (h.new (.row (len tblL) tblL [] 443 (0, 0))).get m = some o := fun m o e => new_keep hf _ e
    generalize h.new (.row (len tblL) tblL [] 443 (0, 0)) = h1 at *
    obtain ⟨h2, c1, c2, _⟩ := upd_call (S := S) (K := K) hS1 hf1 hb1 hn (s := 4294967295) (by decide) hc hK
    refine VW.seq (VW.region (VO.val (v := .agg ⟨tblL⟩) (h1 := h1) rfl rfl ?_ (VO.pure (v := .slice sa n sc) rfl ?_ (VO.call (f := 347) (args := ⟨[.agg ⟨tblL⟩, .int .u32 (.ofNat 4294967295), .slice sa n sc]⟩) (v := .int .u32 (.ofNat s')) (h1 := h1) (h2 := h2) rfl rfl ?_ c1
      (VO.pure (v := .int .u32 (.ofNat (Nat.xor s' 4294967295))) rfl ?_ (VO.pure (v := .int .u32 (.ofNat (Nat.xor s' 4294967295))) rfl ?_ (VO.nil ?_)))))))
    all_goals dsimp only
    · show (vload Tryz.prog 443 (a1.get 2)).run h1 = _
      rw [g2]; exact load_tbl hrt
    · rw [VAct.eval_vopK_move]; simp only [VAct.get_put]; simpa using g1
    · rw [callOp_func body347]
      simp only [List.map_cons, List.map_nil, VAct.eval_tmp, VAct.get_put]
      rfl
    · simp only [vopK, cop, VAct.eval_tmp, VAct.get_put, if_true]
      have := xor_u .u32 rfl (x := 4294967295) (y := s') (by decide) hs'
      show OpR.pure (ofSem (Op.intBits .xor .u32 (.ofNat 4294967295) (.ofNat s'))) = _
      rw [this]
      rw [show Nat.xor 4294967295 s' = Nat.xor s' 4294967295 from Nat.xor_comm _ _]
    · rfl
    refine VW.ret ⟨rfl, ?_, ?_, ?_⟩
    · rw [lv (by simp only [VAct.live_put]; exact gl) (by simp)]; simp only [VAct.get_put]; simp
    · rw [VAct.shut_defers]; simp only [VAct.put_defers]; exact gd
    · intro m o e; exact c2 m o (hkeep m o e)
  obtain ⟨e, a', h', e1, rfl, q1, q2, q3⟩ := key
  exact ⟨h', by rw [vrun_call hS2, vcall_eq sum_info, sum_res, vrun_code, e1, callEnd_tmp (by simp) q2, q1], q3⟩

/-! ### Of -/
theorem of_info : fnInfo Tryz.prog 235 = some (fnI Tryz.f235) := by kernel_rfl
theorem of_res : (fnI Tryz.f235).res = [.tmp 2] := by kernel_rfl
noncomputable def ofLv : Nat := Nat.lor (fnI Tryz.f235).live (bitsTo 1)
theorem of_live : tb ofLv 0 = true ∧ tb ofLv 2 = true := by refine ⟨?_, ?_⟩ <;> kernel_rfl
theorem of_frame (x : Value) : (frame [x] (fnI Tryz.f235).live).get 0 = x := by kernel_rfl

theorem of_call {h : VH} (hf : h.get h.al = none) (hf2 : ∀ o, (h.new o).get (h.new o).al = none) {sa : Option Addr} {n sc s' : Nat} {L : List Value} (hb : Bytes h sa n sc L) (hn : n < 9223372036854775807) (hs' : s' < 4294967296)
    (hc : crcRow L 4294967295 = some s') (hx : h.nx ≤ UNK) :
    ∃ h', vrun Tryz.prog S1 (n + 6) (.call 235 [.slice sa n sc]) h = some (.val (.int .u32 (.ofNat (Nat.xor s' 4294967295))), h') ∧ (∀ m o, h.get m = some o → h'.get m = some o) := by
  have key : VW (codeK Tryz.prog (vrun Tryz.prog S1 (n + 4)) (fnI Tryz.f235).c (frame [.slice sa n sc] (fnI Tryz.f235).live) h) fun e a' h' => e = .ret ∧ a'.get 2 = .int .u32 (.ofNat (Nat.xor s' 4294967295)) ∧ a'.defers = [] ∧ (∀ m o, h.get m = some o → h'.get m = some o) := by
    have f0 := of_frame (.slice sa n sc)
    have fl : (frame [.slice sa n sc] (fnI Tryz.f235).live).live = ofLv := rfl
    have fd : (frame [.slice sa n sc] (fnI Tryz.f235).live).defers = [] := rfl
    generalize hA : frame [.slice sa n sc] (fnI Tryz.f235).live = A at *
    have lv : ∀ {u : VAct} {t : Nat}, u.live = ofLv → (t = 0 ∨ t = 2) → u.shut.get t = u.get t := fun hu ht => VAct.get_shut_live (by
      rw [hu]
      rcases ht with q | q <;> subst q
      · exact of_live.1
      · exact of_live.2)
    simp only [fnI, Tryz.f235, Option.getD_some]
    refine VW.seq (VW.region (VO.pure (v := .int .u32 0) rfl rfl (VO.nil ?_)))
    dsimp only
    generalize ha1 : VAct.shut _ = a1
    have g0 : a1.get 0 = .slice sa n sc := by rw [← ha1, lv (by simp only [VAct.live_put]; exact fl) (by simp)]; simp only [VAct.get_put]; simpa using f0
    have gl : a1.live = ofLv := by rw [← ha1, VAct.live_shut]; simp only [VAct.live_put]; exact fl
    have gd : a1.defers = [] := by rw [← ha1, VAct.shut_defers]; simp only [VAct.put_defers]; exact fd
    obtain ⟨h2, c1, c2⟩ := sum_call (S := S1) (K := n) rfl rfl hf hf2 hb hn hs' hc (Nat.le_refl _)
    have hT : vrun Tryz.prog S1 (n + 4) (.call 296 []) h = some (.val (.agg ⟨tblL⟩), h) := by
      have h1 : vrun Tryz.prog S1 (n + 4) (.call 296 []) h = sumNx (Nat.ble h.nx UNK) (sumTbl []) h := rfl
      rw [h1, Nat.ble_eq_true_of_le hx]; rfl
    refine VW.seq (VW.region (VO.call (f := 296) (args := ⟨[]⟩) (v := .agg ⟨tblL⟩) (h1 := h) (h2 := h) rfl rfl ?_ hT (VO.pure (v := .slice sa n sc) rfl ?_ (VO.call (f := 295) (args := ⟨[.agg ⟨tblL⟩, .slice sa n sc]⟩) (v := .int .u32 (.ofNat (Nat.xor s' 4294967295))) (h1 := h) (h2 := h2) rfl rfl ?_ c1
      (VO.pure (v := .int .u32 (.ofNat (Nat.xor s' 4294967295))) rfl ?_ (VO.nil ?_))))))
    all_goals dsimp only
    · rw [callOp_func body296]; rfl
    · rw [VAct.eval_vopK_move]; simp only [VAct.get_put]; simpa using g0
    · rw [callOp_func body295]
      simp only [List.map_cons, List.map_nil, VAct.eval_tmp, VAct.get_put]
      rfl
    · rfl
    refine VW.ret ⟨rfl, ?_, ?_, c2⟩
    · rw [lv (by simp only [VAct.live_put]; exact gl) (by simp)]; simp only [VAct.get_put]; simp
    · rw [VAct.shut_defers]; simp only [VAct.put_defers]; exact gd
  obtain ⟨e, a', h', e1, rfl, q1, q2, q3⟩ := key
  exact ⟨h', by rw [show n + 6 = (n + 5) + 1 from rfl, vrun_call rfl, vcall_eq of_info, of_res, show n + 5 = (n + 4) + 1 from rfl, vrun_code, e1, callEnd_tmp (by simp) q2, q1], q3⟩

end Go.Proofs.YtonkcdnpmemheaaGreat.Vm

namespace Go.Proofs.YtonkcdnpmemheaaGreat.Vm
open Go.Proofs
section
variable {W : Frm} {P : Program} {σ : Ren} {h : VH} {w : World}

theorem R.al_free (r : R W P σ h w) : h.get h.al = none := by
  cases e : h.get h.al with
  | none => rfl
  | some o =>
    obtain ⟨m, _, g, _⟩ := r.obj _ _ e
    rw [r.al] at g; cases g
theorem R.al_free2 (r : R W P σ h w) (o : VObj) : (h.new o).get (h.new o).al = none := by
  rw [VH.al_new, VH.get_new, if_neg (Nat.ne_of_gt (nxt_al _ _))]
  exact r.get_ge (nxt_nx _ _)

/-- a summary's contract from what the evaluator does -/
theorem sum_of_v (hP : POk P) {S : Sums} (hS : SumsOk P S) {k f : Nat} {args args' : List Value} {v : Value} {h1 : VH} (e : vrun P S k (.call f args) h = some (.val v, h1)) (hs : ∀ n o, h.get n = some o → h1.get n = some o) {d : Nat} (hv : bare d v = true) (hl : LR σ args args') (r : R W P σ h w) :
    CallsIn Fence.wide 0 P f ⟨args'⟩ w (ValOk W P σ v h) := by
  refine CallsIn.mono ((vrun_sound hP hS k).call e hl r) ?_
  intro en w' hv'
  cases en with
  | returned v' =>
    obtain ⟨τ, h2, h3, h4⟩ := hv'
    exact ⟨σ, Ren.le_refl σ, r.forget h2 h3 hs, bare_rel hv h4⟩
  | panicked c => exact hv'.elim
  | outgrown => exact hv'.elim
end

theorem crcRow_lt : ∀ {l : List Value} {s s' : Nat}, s < 4294967296 → crcRow l s = some s' → s' < 4294967296 := by
  intro l
  induction l with
  | nil => intro s s' h e; cases e; exact h
  | cons v l ih =>
    intro s s' h e
    obtain ⟨x, _, _, e'⟩ := crcRow_cons e
    exact ih (crcStep_lt h) e'

theorem crc_ok {W : Frm} {σ : Ren} {h h' : VH} {args args' : List Value} {v : Value} {w : World} (e : (sumCrc args).run h = some (v, h')) (hl : LR σ args args') (r : R W Tryz.prog σ h w) (hx : h.nx ≤ UNK) : CallsIn Fence.wide 0 Tryz.prog 235 ⟨args'⟩ w (ValOk W Tryz.prog σ v h') := by
  unfold sumCrc at e
  split at e
  · rename_i a n c
    split at e
    · rename_i hn
      have hn := Nat.le_of_ble_eq_true hn
      have fin : ∀ (L : List Value), Bytes h a n c L → (hopt (crcRow L 4294967295) fun s => (HM.ret (Value.int .u32 (.ofNat (Nat.xor s 4294967295))))).run h = some (v, h') → CallsIn Fence.wide 0 Tryz.prog 235 ⟨args'⟩ w (ValOk W Tryz.prog σ v h') := by
        intro L hb e
        obtain ⟨s', hs', e2⟩ := hopt_run e
        cases e2
        obtain ⟨h1, c1, c2⟩ := of_call r.al_free r.al_free2 hb (by omega) (crcRow_lt (by decide) hs') hs' hx
        exact sum_of_v pok S1_ok c1 c2 (d := 1) rfl hl r
      unfold firstN at e
      split at e
      · rename_i ad n2 c2 heq
        cases heq
        rw [show Nat.mul n 1 = n from Nat.mul_one _] at e
        cases n with
        | zero => exact fin [] ⟨rfl, fun q => absurd q (by decide)⟩ e
        | succ m =>
          obtain ⟨b, off, sp⟩ := ad
          cases sp with
          | some t => cases e
          | none =>
            have e' : (HM.rd b (cellsK off (m + 1) fun l => hopt (crcRow l 4294967295) fun s => (HM.ret (Value.int .u32 (.ofNat (Nat.xor s 4294967295)))))).run h = some (v, h') := e
            obtain ⟨o, hg, e2⟩ := HM.run_rd e'
            unfold cellsK at e2
            cases o with
            | row k f1 bk1 e1 fr1 =>
              simp only at e2
              obtain ⟨l, hl1, e3⟩ := hopt_run e2
              obtain ⟨t1, t2⟩ := take?_some hl1
              rw [drp_eq] at t1 t2
              refine fin l ⟨?_, fun _ => ⟨b, off, k, f1, bk1, e1, fr1, rfl, hg, ?_⟩⟩ e3
              · rw [t2]; simp; simp at t1; omega
              · intro i hi
                rw [nth?_eq, t2, List.getElem?_take, if_pos hi, List.getElem?_drop]
            | _ => cases e2
      · rename_i n2 c2 heq
        cases heq
        have hl' := hl
        cases hl' with
        | cons hx ht =>
          cases hx
          exact fin [] ⟨rfl, fun q => absurd q (by decide)⟩ e
      · rename_i heq; cases heq
      · cases e
    · cases e
  · cases e

end Go.Proofs.YtonkcdnpmemheaaGreat.Vm

namespace Go.Proofs.YtonkcdnpmemheaaGreat.Vm
section
variable {W : Frm} {P : Program} {σ : Ren} {h : VH} {w : World}

/-- the next entry of a map: one that has not been shown, whichever -/
theorem next_any {rr mr c : Nat} {seen : List Nat} {es : List MapEntry} {a' : Addr} {ty : TypeId} (r : R W P σ h w) (hg : h.get rr = some (.miter (some mr) c seen)) (hgm : h.get mr = some (.map es c))
    (hb : ∀ e, e ∈ es → e.born < c) (hs : ∀ s, s ∈ seen → ∃ e, e ∈ es ∧ e.born = s) (ha : ARel σ ⟨rr, 0, none⟩ a') :
    ∃ v' w', (Instr.next (.pointer (some a')) false ty).run P w = .ok v' w' ∧
      (((∀ e, e ∈ es → e.born ∈ seen) ∧ v' = .tuple #[.bool false] ∧ R W P σ h w') ∨
       (∃ e, e ∈ es ∧ e.born ∉ seen ∧ VRel σ (.tuple #[.bool true, e.key, e.val]) v' ∧ R W P σ (h.put rr (some (.miter (some mr) c (app seen [e.born])))) w')) := by
  obtain ⟨m, m', g1, g2, g3, g4, g5⟩ := r.miter hg
  obtain ⟨mm, es', k1, k2, k3⟩ := r.map hgm
  rw [g2] at k1; cases k1
  obtain ⟨a0, a1, m1, a2, a3, a4⟩ := ha
  simp only at a2 a4
  rw [g1] at a2; cases a2
  have hae := addr_eq a1 a3 (show a'.off = 0 by omega)
  subst hae
  have hgo := run_getObj (P := P) g3 (by intro c e f h; cases h)
  have hgm' := run_getObj (P := P) k2 (by intro c e f h; cases h)
  have hall : (!(⟨seen⟩ : Array Nat).isEmpty && !es'.isEmpty && es'.all (fun e => decide (e.born ≥ c))) = false := by
    cases hemp : es'.isEmpty with
    | true => simp
    | false =>
      have hne : es'.toList ≠ [] := by
        intro q
        have : es' = #[] := by apply Array.ext'; simpa using q
        rw [this] at hemp; cases hemp
      obtain ⟨y, hy⟩ := List.exists_mem_of_ne_nil _ hne
      obtain ⟨x0, hx0, hr⟩ := k3.mem y hy
      have h1 := hb _ hx0
      rw [hr.2.2] at h1
      have : es'.all (fun e => decide (e.born ≥ c)) = false := by
        rw [Array.all_eq_false']
        exact ⟨y, by simpa using hy, by simp; omega⟩
      rw [this]; simp
  have hleft := vleft_ER (σ := σ) seen k3
  have hL : (es'.filter fun e => !(⟨seen⟩ : Array Nat).contains e.born).toList = es'.toList.filter fun e => !(⟨seen⟩ : Array Nat).contains e.born := by simp
  rw [← hL] at hleft
  generalize hLL : (es'.filter fun e => !(⟨seen⟩ : Array Nat).contains e.born) = L at hleft
  have hborn : ∀ y, y ∈ L.toList → y.born < c := by
    intro y hy
    obtain ⟨x0, hx0, hr⟩ := hleft.mem y hy
    rw [← hr.2.2]
    exact hb _ (vleft_sub _ hx0)
  have hold : L.filter (fun e => decide (e.born < c)) = L := by
    rw [Array.filter_eq_self]
    intro y hy
    have := hborn y (by simpa using hy)
    simpa using this
  have hnew : L.filter (fun e => decide (e.born ≥ c)) = #[] := by
    rw [Array.filter_eq_empty_iff]
    intro y hy
    have := hborn y (by simpa using hy)
    simp; omega
  by_cases hemp : L = #[]
  · refine ⟨.tuple #[.bool false], w, ?_, .inl ⟨?_, rfl, r⟩⟩
    · simp only [Instr.next, Sem.run_bind, hgo, Result.andThen_ok, hgm']
      rw [hall, hLL, hemp]
      simp [Question.forced]
    · have hv : vleft seen es = [] := by
        rw [hemp] at hleft
        generalize vleft seen es = l at hleft
        cases hleft; rfl
      exact vleft_nil hv
  · -- one of them
    have hsz : 0 < L.size := by
      rcases Nat.eq_zero_or_pos L.size with q | q
      · exact absurd (Array.eq_empty_of_size_eq_zero q) hemp
      · exact q
    have hne : L.isEmpty = false := by
      simp [Array.isEmpty]; omega
    have hcand : ((if L.isEmpty then #[none] else #[]) ++ (L ++ #[]).map some : Array (Option MapEntry)) = L.map some := by
      rw [hne]; simp
    obtain ⟨idx, w1, hch, hidx, hw1⟩ : ∃ idx w1, (choose (.mapNext (L.map some).size)).run P w = .ok idx w1 ∧ idx < L.size ∧ (w1 = w ∨ w1 = w.drew) := by
      by_cases hf : (Question.mapNext (L.map some).size).forced = true
      · refine ⟨0, w, ?_, hsz, .inl rfl⟩
        rw [run_choose, if_pos hf]
      · refine ⟨_, w.drew, by rw [run_choose, if_neg hf]; rfl, ?_, .inr rfl⟩
        show _ % (L.map some).size < L.size
        rw [Array.size_map]
        exact Nat.mod_lt _ hsz
    have hrel1 : R W P σ h w1 := by
      rcases hw1 with q | q
      · rw [q]; exact r
      · rw [q]; exact r.drew
    have hg3' : w1.heap[m.b]? = some (.mapIter (some m'.b) c ⟨seen⟩ c) := by
      rcases hw1 with q | q
      · rw [q]; exact g3
      · rw [q]; exact g3
    obtain ⟨y, hy⟩ : ∃ y, L[idx]? = some y := ⟨_, Array.getElem?_eq_getElem hidx⟩
    have hymem : y ∈ L.toList := by rw [← Array.getElem?_toList] at hy; exact List.mem_of_getElem? hy
    obtain ⟨e0, he0, hr⟩ := hleft.mem y hymem
    have hmem := vleft_sub e0 he0
    have hyb : y.born < c := hborn y hymem
    have hnot : e0.born ∉ seen := by
      intro q
      have hyL : y ∈ L := by simpa using hymem
      rw [← hLL, Array.mem_filter] at hyL
      have := hyL.2
      rw [← hr.2.2] at this
      simp at this
      exact this q
    have hso2 := run_setObj (P := P) (.mapIter (some m'.b) c ((⟨seen⟩ : Array Nat).push y.born) c) hg3' (by intro c e f h; cases h)
    refine ⟨.tuple #[.bool true, y.key, y.val], setB w1 m.b (.mapIter (some m'.b) c ((⟨seen⟩ : Array Nat).push y.born) c), ?_, .inr ⟨e0, hmem, hnot, LR.tuple (.cons (.bool _) (.cons hr.1 (.one hr.2.1))), ?_⟩⟩
    · simp only [Instr.next, Sem.run_bind, hgo, Result.andThen_ok, hgm']
      rw [hall, hLL]
      simp only [hold, hnew, hcand, Bool.false_eq_true, if_false]
      have : (L.map some)[idx]? = some (some y) := by simp [hy]
      simp only [Sem.run_bind, hch, Result.andThen_ok, this, hso2]
      rfl
    · have hpush : (⟨seen⟩ : Array Nat).push y.born = ⟨app seen [e0.born]⟩ := by
        apply Array.ext'
        rw [app_eq, Array.toList_push, hr.2.2]
      rw [hpush]
      refine hrel1.upd g1 hg (.miter g2 (fun s hs2 => ?_) g5)
      rw [app_eq] at hs2
      rcases List.mem_append.1 hs2 with q | q
      · exact g4 s q
      · rw [List.mem_singleton.1 q]; exact hb _ hmem

end
end Go.Proofs.YtonkcdnpmemheaaGreat.Vm

namespace Go.Proofs.YtonkcdnpmemheaaGreat.Vm

/-! ### cells put into their columns, in whatever order -/

def colOf (e : MapEntry) : Nat := match e.key with | .int .i64 (.ofNat c) => c | _ => 0

theorem memNat_iff (n : Nat) : ∀ l : List Nat, memNat n l = true ↔ n ∈ l := by
  intro l
  induction l with
  | nil => simp [memNat]
  | cons x l ih =>
    unfold memNat
    cases g : Nat.beq x n with
    | true => have := Nat.eq_of_beq_eq_true g; subst this; simp
    | false =>
      have : x ≠ n := fun q => by subst q; rw [show Nat.beq x x = true by rw [Nat.beq_eq]] at g; cases g
      simp only [ih, List.mem_cons]
      constructor
      · exact .inr
      · rintro (q | q)
        · exact absurd q.symm this
        · exact q

theorem bornOk_spec {c : Nat} : ∀ {es : List MapEntry} {l : List Nat}, bornOk c es l = true → (∀ e, e ∈ es → e.born < c ∧ e.born ∉ l) ∧ (∀ (i j : Nat) (x y : MapEntry), es[i]? = some x → es[j]? = some y → x.born = y.born → i = j) := by
  intro es
  induction es with
  | nil => intro l _; exact ⟨(fun e h => by cases h), (fun i j x y h => by simp at h)⟩
  | cons e es ih =>
    intro l h
    unfold bornOk at h
    split at h
    · rename_i h1 h2
      rw [Nat.blt_eq] at h1
      have h2' : e.born ∉ l := fun q => by rw [(memNat_iff _ _).2 q] at h2; cases h2
      obtain ⟨g1, g2⟩ := ih h
      refine ⟨?_, ?_⟩
      · intro x hx
        rcases List.mem_cons.1 hx with q | q
        · subst q; exact ⟨h1, h2'⟩
        · obtain ⟨k1, k2⟩ := g1 x q
          exact ⟨k1, fun q' => k2 (List.mem_cons_of_mem _ q')⟩
      · intro i j x y hx hy hb
        cases i with
        | zero =>
          cases j with
          | zero => rfl
          | succ j =>
            simp at hx hy; subst hx
            have := (g1 y (List.mem_of_getElem? hy)).2
            rw [← hb] at this
            exact absurd (List.mem_cons_self ..) this
        | succ i =>
          cases j with
          | zero =>
            simp at hx hy; subst hy
            have := (g1 x (List.mem_of_getElem? hx)).2
            rw [hb] at this
            exact absurd (List.mem_cons_self ..) this
          | succ j => rw [g2 i j x y (by simpa using hx) (by simpa using hy) hb]
    · cases h

theorem keysOk_spec : ∀ {es : List MapEntry} {l : List Nat}, keysOk es l = true → (∀ e, e ∈ es → e.key = .int .i64 (.ofNat (colOf e)) ∧ colOf e ∉ l) ∧ (∀ (i j : Nat) (x y : MapEntry), es[i]? = some x → es[j]? = some y → colOf x = colOf y → i = j) := by
  intro es
  induction es with
  | nil => intro l _; exact ⟨(fun e h => by cases h), (fun i j x y h => by simp at h)⟩
  | cons e es ih =>
    intro l h
    unfold keysOk at h
    split at h
    · rename_i c hk
      split at h
      · cases h
      · rename_i h2
        have hc : colOf e = c := by unfold colOf; rw [hk]
        have h2' : c ∉ l := fun q => by rw [(memNat_iff _ _).2 q] at h2; cases h2
        obtain ⟨g1, g2⟩ := ih h
        refine ⟨?_, ?_⟩
        · intro x hx
          rcases List.mem_cons.1 hx with q | q
          · subst q; rw [hc]; exact ⟨hk, h2'⟩
          · obtain ⟨k1, k2⟩ := g1 x q
            exact ⟨k1, fun q' => k2 (List.mem_cons_of_mem _ q')⟩
        · intro i j x y hx hy hb
          cases i with
          | zero =>
            cases j with
            | zero => rfl
            | succ j =>
              simp at hx hy; subst hx
              have := (g1 y (List.mem_of_getElem? hy)).2
              rw [← hb, hc] at this
              exact absurd (List.mem_cons_self ..) this
          | succ i =>
            cases j with
            | zero =>
              simp at hx hy; subst hy
              have := (g1 x (List.mem_of_getElem? hx)).2
              rw [hb, hc] at this
              exact absurd (List.mem_cons_self ..) this
            | succ j => rw [g2 i j x y (by simpa using hx) (by simpa using hy) hb]
    · cases h

/-- which columns are put -/
structure Outs (es : List MapEntry) (X : MapEntry → List Value) (out0 : List Value) (seen : List Nat) (out : List Value) : Prop where
  len : out.length = out0.length
  put : ∀ e, e ∈ es → e.born ∈ seen → ∀ t, t < 3 → out[3 * colOf e + t]? = (X e)[t]?
  not : ∀ j, (∀ e, e ∈ es → e.born ∈ seen → ¬ (3 * colOf e ≤ j ∧ j < 3 * colOf e + 3)) → out[j]? = out0[j]?

theorem Outs.start (es : List MapEntry) (X : MapEntry → List Value) (out0 : List Value) : Outs es X out0 [] out0 :=
  ⟨rfl, (fun e _ h => by cases h), (fun j _ => rfl)⟩

theorem Outs.step {es : List MapEntry} {X : MapEntry → List Value} {out0 : List Value} {seen : List Nat} {out out' : List Value} (h : Outs es X out0 seen out) (hb : ∀ x y, x ∈ es → y ∈ es → x.born = y.born → x = y) (hc : ∀ x y, x ∈ es → y ∈ es → colOf x = colOf y → x = y) {e : MapEntry} (he : e ∈ es)
    (hx : (X e).length = 3) (hp : putAt out (3 * colOf e) (X e) = some out') : Outs es X out0 (seen ++ [e.born]) out' := by
  obtain ⟨p1, p2⟩ := putAt_some hp
  rw [hx] at p1 p2
  have hget : ∀ j, out'[j]? = if 3 * colOf e ≤ j ∧ j < 3 * colOf e + 3 then (X e)[j - 3 * colOf e]? else out[j]? := by
    intro j
    have hl : (out.take (3 * colOf e)).length = 3 * colOf e := by simp; omega
    rw [p2]
    rcases Nat.lt_or_ge j (3 * colOf e) with q | q
    · rw [List.append_assoc, List.getElem?_append_left (by omega), List.getElem?_take, if_pos q, if_neg (by omega)]
    · rcases Nat.lt_or_ge j (3 * colOf e + 3) with q2 | q2
      · rw [List.append_assoc, List.getElem?_append_right (by omega), hl, List.getElem?_append_left (by omega), if_pos ⟨q, q2⟩]
      · rw [List.getElem?_append_right (by simp; omega), List.getElem?_drop, if_neg (by omega)]
        congr 1
        simp; omega
  refine ⟨?_, ?_, ?_⟩
  · rw [p2]; simp; have := h.len; omega
  · intro x hx1 hs t ht
    rw [hget]
    by_cases hxe : x = e
    · subst hxe
      rw [if_pos ⟨by omega, by omega⟩]
      congr 1; omega
    · have hcol : colOf x ≠ colOf e := fun q => hxe (hc x e hx1 he q)
      rw [if_neg (by omega)]
      refine h.put x hx1 ?_ t ht
      rcases List.mem_append.1 hs with q | q
      · exact q
      · exact absurd (hb x e hx1 he (List.mem_singleton.1 q)) hxe
  · intro j hj
    rw [hget, if_neg (hj e he (by simp))]
    exact h.not j (fun x hx1 hs => hj x hx1 (List.mem_append_left _ hs))

theorem Outs.all {es : List MapEntry} {X : MapEntry → List Value} {out0 : List Value} {s1 s2 : List Nat} {o1 o2 : List Value} (h1 : Outs es X out0 s1 o1) (h2 : Outs es X out0 s2 o2) (a1 : ∀ e, e ∈ es → e.born ∈ s1) (a2 : ∀ e, e ∈ es → e.born ∈ s2) : o1 = o2 := by
  apply List.ext_getElem?
  intro j
  by_cases hex : ∃ e, e ∈ es ∧ 3 * colOf e ≤ j ∧ j < 3 * colOf e + 3
  · obtain ⟨e, he, g1, g2⟩ := hex
    have := h1.put e he (a1 e he) (j - 3 * colOf e) (by omega)
    have h3 := h2.put e he (a2 e he) (j - 3 * colOf e) (by omega)
    rw [show 3 * colOf e + (j - 3 * colOf e) = j by omega] at this h3
    rw [this, h3]
  · rw [h1.not j (fun e he _ q => hex ⟨e, he, q.1, q.2⟩), h2.not j (fun e he _ q => hex ⟨e, he, q.1, q.2⟩)]

/-- an entry's cells -/
structure EntOk (h : VH) (cols i : Nat) (e : MapEntry) (x : List Value) : Prop where
  col : colOf e < cols
  len : x.length = 3
  one : oneCells x = true
  src : ∃ b off n cap k f bk ety fr, e.val = .slice (some ⟨b, off, none⟩) n cap ∧ i < n ∧ h.get b = some (.row k f bk ety fr) ∧ take? (drp (rowList f bk) (off + 3 * i)) 3 = some x

/-- an entry's cells, by the heap -/
noncomputable def cellsOf (h : VH) (i : Nat) (e : MapEntry) : List Value :=
  match e.val with
  | .slice (some ⟨b, off, none⟩) _ _ => (match h.get b with
    | some (.row _ f bk _ _) => (take? (drp (rowList f bk) (off + 3 * i)) 3).getD []
    | _ => [])
  | _ => []

/-- what the summary has seen -/
theorem mapRow_spec {cols i : Nat} {k : List Value → HM Value} {h : VH} {r : Value × VH} (all : List MapEntry) (hb : ∀ x y, x ∈ all → y ∈ all → x.born = y.born → x = y) (hc : ∀ x y, x ∈ all → y ∈ all → colOf x = colOf y → x = y) (out0 : List Value) :
    ∀ {es : List MapEntry} {out : List Value} {seen : List Nat}, (∀ e, e ∈ es → e ∈ all) → (mapRow cols i k es out).run h = some r → Outs all (cellsOf h i) out0 seen out →
    ∃ outF, (k outF).run h = some r ∧ (∀ e, e ∈ es → EntOk h cols i e (cellsOf h i e)) ∧ Outs all (cellsOf h i) out0 (seen ++ es.map (·.born)) outF := by
  intro es
  induction es with
  | nil => intro out seen _ e ho; exact ⟨out, e, (fun e h => by cases h), by simpa using ho⟩
  | cons e es ih =>
    intro out seen hsub er ho
    unfold mapRow at er
    split at er
    · rename_i c b off n cap hk hv
      split at er
      · rename_i hlt
        simp only [Bool.and_eq_true, Nat.blt_eq] at hlt
        have er' : (HM.rd b (cellsK (off + 3 * i) 3 (rowPut (mapRow cols i k es) out c))).run h = some r := er
        obtain ⟨o, hg, e2⟩ := HM.run_rd er'
        unfold cellsK at e2
        cases o with
        | row rk f bk ety fr =>
          simp only at e2
          obtain ⟨x, hx, e3⟩ := hopt_run e2
          have hxc : cellsOf h i e = x := by
            unfold cellsOf
            rw [hv]
            simp only [hg, hx]
            rfl
          unfold rowPut at e3
          split at e3
          · rename_i hone
            obtain ⟨out', hp, e4⟩ := hopt_run e3
            have hcol : colOf e = c := by unfold colOf; rw [hk]
            obtain ⟨t1, t2⟩ := take?_some hx
            have hlen : x.length = 3 := by rw [t2]; simp; omega
            have ho' := ho.step hb hc (hsub e (List.mem_cons_self ..)) (by rw [hxc]; exact hlen) (by rw [hcol, hxc]; exact hp)
            obtain ⟨outF, g1, g2, g3⟩ := ih (fun x hx => hsub x (List.mem_cons_of_mem _ hx)) e4 ho'
            refine ⟨outF, g1, ?_, by simpa using g3⟩
            intro y hy
            rcases List.mem_cons.1 hy with q | q
            · subst q
              rw [hxc]
              exact ⟨by rw [hcol]; exact hlt.2, hlen, hone, b, off, n, cap, rk, f, bk, ety, fr, hv, hlt.1, hg, hx⟩
            · exact g2 y q
          · cases e3
        | _ => cases e2
      · cases er
    · cases er

theorem distinct_born {c : Nat} {es : List MapEntry} {l : List Nat} (h : bornOk c es l = true) : ∀ x y, x ∈ es → y ∈ es → x.born = y.born → x = y := by
  intro x y hx hy hb
  obtain ⟨i, hi⟩ := List.getElem?_of_mem hx
  obtain ⟨j, hj⟩ := List.getElem?_of_mem hy
  have := (bornOk_spec h).2 i j x y hi hj hb
  subst this
  rw [hi] at hj; cases hj; rfl
theorem distinct_col {es : List MapEntry} {l : List Nat} (h : keysOk es l = true) : ∀ x y, x ∈ es → y ∈ es → colOf x = colOf y → x = y := by
  intro x y hx hy hb
  obtain ⟨i, hi⟩ := List.getElem?_of_mem hx
  obtain ⟨j, hj⟩ := List.getElem?_of_mem hy
  have := (keysOk_spec h).2 i j x y hi hj hb
  subst this
  rw [hi] at hj; cases hj; rfl
end Go.Proofs.YtonkcdnpmemheaaGreat.Vm

namespace Go.Proofs.YtonkcdnpmemheaaGreat.Vm
open Go.Proofs

theorem putHere_total {α : Type} : ∀ (vs l : List α), vs.length ≤ l.length → ∃ r, putHere vs l = some r := by
  intro vs
  induction vs with
  | nil => intro l _; exact ⟨l, rfl⟩
  | cons v vs ih =>
    intro l h
    cases l with
    | nil => simp at h
    | cons x l =>
      obtain ⟨r, hr⟩ := ih l (by simpa using h)
      have h1 : putHere (v :: vs) (x :: l) = Option.rec (motive := fun _ => Option (List α)) none (fun r => some (v :: r)) (putHere vs l) := rfl
      exact ⟨v :: r, by rw [h1, hr]⟩
theorem putAt_total {α : Type} (vs : List α) : ∀ (n : Nat) (l : List α), n + vs.length ≤ l.length → ∃ r, putAt l n vs = some r := by
  intro n
  induction n with
  | zero => intro l h; obtain ⟨r, hr⟩ := putHere_total vs l (by omega); exact ⟨r, hr⟩
  | succ n ih =>
    intro l h
    cases l with
    | nil => simp at h
    | cons x l =>
      obtain ⟨r, hr⟩ := ih l (by simp at h; omega)
      have h1 : putAt (x :: l) (n + 1) vs = Option.rec (motive := fun _ => Option (List α)) none (fun r => some (x :: r)) (putAt l n vs) := rfl
      exact ⟨x :: r, by rw [h1, hr]⟩

theorem row_info : fnInfo Tryz.prog 324 = some (fnI Tryz.f324) := by kernel_rfl
theorem row_res : (fnI Tryz.f324).res = [.tmp 6] := by kernel_rfl
noncomputable def rowLv : Nat := Nat.lor (fnI Tryz.f324).live (bitsTo 3)
theorem row_live : ∀ t, (t = 0 ∨ t = 1 ∨ t = 2 ∨ t = 6 ∨ t = 7 ∨ t = 8 ∨ t = 9 ∨ t = 16 ∨ t = 18) → tb rowLv t = true := by
  intro t h
  rcases h with h | h | h | h | h | h | h | h | h <;> subst h <;> kernel_rfl
noncomputable def rowBody : Code := cL (cL (cR (cL (cR (cR (fnI Tryz.f324).c)))))

theorem u67 : tyUnd Tryz.prog 67 = some (.slice 110) := by kernel_rfl
theorem s110 : sizeT Tryz.prog 110 = some 3 := by kernel_rfl
theorem a110 : aggOf Tryz.prog 110 = some (some 3) := by kernel_rfl
theorem e67 : elemT Tryz.prog 67 = some (110, 3, [.int .i64 0, .int .i64 0, .string ⟨#[]⟩]) := by kernel_rfl
theorem u469 : tyUnd Tryz.prog 469 = some (.map 3 67) := by kernel_rfl
theorem f472 : fieldT Tryz.prog 472 0 = some (0, 469) := by kernel_rfl
theorem a469 : aggOf Tryz.prog 469 = some none := by kernel_rfl

structure RowInv (a : VAct) (cols i ro it : Nat) : Prop where
  t2 : a.get 2 = .int .i64 (.ofNat i)
  t7 : a.get 7 = .slice (some ⟨ro, 0, none⟩) cols cols
  t16 : a.get 16 = .pointer (some ⟨it, 0, none⟩)
  lv : a.live = rowLv
  df : a.defers = []

theorem row_lv {u : VAct} {t : Nat} (hu : u.live = rowLv) (ht : t = 0 ∨ t = 1 ∨ t = 2 ∨ t = 6 ∨ t = 7 ∨ t = 8 ∨ t = 9 ∨ t = 16 ∨ t = 18) : u.shut.get t = u.get t := VAct.get_shut_live (by rw [hu]; exact row_live t ht)

section
variable {rec : Rec} {h : VH} {a : VAct} {cols i ro it : Nat}

/-- the entry is put into its column -/
theorem row_tail {mr c : Nat} {seen : List Nat} {es : List MapEntry} {e : MapEntry} {x out out' : List Value} {rn et : Nat} (inv : RowInv a cols i ro it) (h18 : a.get 18 = .bool true)
    (hit : h.get it = some (.miter (some mr) c (app seen [e.born]))) (hm : h.get mr = some (.map es c)) (hb : ∀ x y, x ∈ es → y ∈ es → x.born = y.born → x = y) (he : e ∈ es) (hk : e.key = .int .i64 (.ofNat (colOf e))) (hE : EntOk h cols i e x)
    (hro : h.get ro = some (.row rn out [] et (0, 0))) (hp : putAt out (3 * colOf e) x = some out') :
    VW (codeK Tryz.prog rec (cR rowBody) a h) fun ex a' h' => ex = .normal ∧ h' = h.put ro (some (.row rn out' [] et (0, 0))) ∧ RowInv a' cols i ro it := by
  obtain ⟨b, off, n, cap, sk, sf, sb, sty, sfr, hval, hin, hsb, htk⟩ := hE.src
  have hlt : Nat.blt i n = true := by rw [Nat.blt_eq]; exact hin
  have hlt2 : Nat.blt (colOf e) cols = true := by rw [Nat.blt_eq]; exact hE.col
  have hfind : findBorn e.born es = some e := by
    have : ∀ l : List MapEntry, (∀ y, y ∈ l → y ∈ es) → e ∈ l → findBorn e.born l = some e := by
      intro l
      induction l with
      | nil => intro _ q; cases q
      | cons y l ih =>
        intro hsub hel
        unfold findBorn
        cases g : Nat.beq y.born e.born with
        | true =>
          have := hb y e (hsub y (List.mem_cons_self ..)) he (Nat.eq_of_beq_eq_true g)
          simp only [this]
        | false =>
          rcases List.mem_cons.1 hel with q | q
          · rw [← q, show Nat.beq e.born e.born = true by rw [Nat.beq_eq]] at g; cases g
          · exact ih (fun y hy => hsub y (List.mem_cons_of_mem _ hy)) q
    exact this es (fun _ q => q) he
  have hlast : lastOf (app seen [e.born]) = some e.born := by rw [lastOf_eq, app_eq]; simp
  simp only [rowBody, fnI, Tryz.f324, Option.getD_some, cL, cR]
  refine VW.seq (VW.condT (by rw [VAct.eval_tmp]; exact h18) (VW.skip ?_))
  refine VW.block (VW.seq (VW.region (VO.val (v := .tuple #[e.key, e.val]) (h1 := h) rfl rfl ?_ (VO.pure (v := e.key) rfl ?_ (VO.pure (v := e.val) rfl ?_ (VO.pure (v := e.key) rfl ?_ (VO.pure (v := e.val) rfl ?_ (VO.nil ?_))))))))
  all_goals dsimp only
  · show (ventry (a.get 16)).run h = _
    rw [inv.t16]
    show (HM.rd it entryK).run h = _
    rw [HM.run_rd_some hit]
    show (hopt (lastOf (app seen [e.born])) fun st => HM.rd mr (asMap (entryOf c st))).run h = _
    rw [hlast]
    show (HM.rd mr (asMap (entryOf c e.born))).run h = _
    rw [HM.run_rd_some hm]
    show (entryOf c e.born es c).run h = _
    unfold entryOf
    rw [show Nat.beq c c = true by rw [Nat.beq_eq], hfind]
    rfl
  · simp only [vopK, cop, VAct.eval_tmp, VAct.get_put, if_true]; rfl
  · simp only [vopK, cop, VAct.eval_tmp, VAct.get_put, if_true]; rfl
  · rw [VAct.eval_vopK_move_assign]; simp only [VAct.get_put]; simp
  · rw [VAct.eval_vopK_move_assign]; simp only [VAct.get_put]; simp
  generalize ha1 : VAct.shut _ = a1
  have g : ∀ t, (t = 2 ∨ t = 7 ∨ t = 16) → a1.get t = a.get t := by
    intro t ht
    rw [← ha1, row_lv (by simp only [VAct.live_put]; exact inv.lv) (by rcases ht with q | q | q <;> subst q <;> simp)]
    simp only [VAct.get_put]
    rcases ht with q | q | q <;> subst q <;> simp
  have g8 : a1.get 8 = e.key := by rw [← ha1, row_lv (by simp only [VAct.live_put]; exact inv.lv) (by simp)]; simp only [VAct.get_put]; simp
  have g9 : a1.get 9 = e.val := by rw [← ha1, row_lv (by simp only [VAct.live_put]; exact inv.lv) (by simp)]; simp only [VAct.get_put]; simp
  have gl : a1.live = rowLv := by rw [← ha1, VAct.live_shut]; simp only [VAct.live_put]; exact inv.lv
  have gd : a1.defers = [] := by rw [← ha1, VAct.shut_defers]; simp only [VAct.put_defers]; exact inv.df
  have g7 := (g 7 (by simp)).trans inv.t7
  have g2 := (g 2 (by simp)).trans inv.t2
  refine VW.region (VO.pure (v := .slice (some ⟨ro, 0, none⟩) cols cols) rfl ?_ (VO.pure (v := .int .i64 (.ofNat (colOf e))) rfl ?_ (VO.pure (v := .slice (some ⟨b, off, none⟩) n cap) rfl ?_ (VO.pure (v := .int .i64 (.ofNat i)) rfl ?_
    (VO.pure (v := .pointer (some ⟨b, off + i * 3, none⟩)) rfl ?_ (VO.val (v := .agg ⟨x⟩) (h1 := h) rfl rfl ?_ (VO.pure (v := .pointer (some ⟨ro, 0 + colOf e * 3, none⟩)) rfl ?_ (VO.unit (h1 := h.put ro (some (.row rn out' [] et (0, 0)))) rfl rfl ?_ (VO.nil ?_)))))))))
  all_goals dsimp only
  · rw [VAct.eval_vopK_move, g7]
  · rw [VAct.eval_vopK_move]; simp only [VAct.get_put]; simp; rw [g8, hk]; rfl
  · rw [VAct.eval_vopK_move]; simp only [VAct.get_put]; simp; rw [g9, hval]
  · rw [VAct.eval_vopK_move]; simp only [VAct.get_put]; simp; rw [g2]; rfl
  · simp only [vopK, cop, VAct.eval_tmp, VAct.get_put, if_true, show (24 : Nat) ≠ 25 by decide, if_false]
    simp only [vindexAddr, u67, addAt, hlt, s110, add_off]
    rfl
  · simp only [VAct.eval_tmp, VAct.get_put, if_true]
    unfold vload
    rw [a110]
    show (HM.rd b (cellsK (off + i * 3) 3 fun l => HM.ret (Next.value (.agg ⟨l⟩)))).run h = _
    rw [HM.run_rd_some hsb]
    unfold cellsK
    rw [show off + i * 3 = off + 3 * i by omega]
    simp only [htk, hopt]
    rfl
  · simp only [vopK, cop, VAct.eval_tmp, VAct.get_put, if_true, show (22 : Nat) ≠ 27 by decide, show (22 : Nat) ≠ 26 by decide, show (22 : Nat) ≠ 25 by decide, show (22 : Nat) ≠ 24 by decide, show (22 : Nat) ≠ 23 by decide, show (23 : Nat) ≠ 27 by decide, show (23 : Nat) ≠ 26 by decide, show (23 : Nat) ≠ 25 by decide, show (23 : Nat) ≠ 24 by decide, if_false]
    simp only [vindexAddr, u67, addAt, hlt2, s110, add_off]
    rfl
  · simp only [VAct.eval_tmp, VAct.get_put, if_true, show (27 : Nat) ≠ 28 by decide, if_false]
    unfold vstore
    rw [s110]
    show (match Nat.beq (len x) 3 with | true => wrCells ⟨ro, 0 + colOf e * 3, none⟩ x (.ret .skip) | false => .fail : HM Next).run h = _
    rw [len_eq, hE.len]
    show (wrCells ⟨ro, 0 + colOf e * 3, none⟩ x (HM.ret Next.skip)).run h = _
    have hx3 := hE.len
    have hone := hE.one
    cases x with
    | nil => simp at hx3
    | cons v vs =>
      show (HM.rd ro (wrK ro (0 + colOf e * 3) (v :: vs) (HM.ret Next.skip))).run h = _
      rw [HM.run_rd_some hro]
      show (match frzOk (0, 0) (0 + colOf e * 3) (len (v :: vs)) with
        | true => (match oneCells (v :: vs) with
          | true => wrIf ro rn et (0, 0) (HM.ret Next.skip) (putAt (rowList out []) (0 + colOf e * 3) (v :: vs))
          | false => HM.fail)
        | false => HM.fail : HM Next).run h = _
      have hfz : frzOk (0, 0) (0 + colOf e * 3) (len (v :: vs)) = true := rfl
      rw [hfz, hone]
      show (wrIf ro rn et (0, 0) (HM.ret Next.skip) (putAt out (0 + colOf e * 3) (v :: vs))).run h = _
      rw [show 0 + colOf e * 3 = 3 * colOf e by omega, hp]
      show (HM.wr ro (.row rn out' [] et (0, 0)) (HM.ret Next.skip)).run h = _
      have hdef : (HM.wr ro (.row rn out' [] et (0, 0)) (HM.ret Next.skip)).run h = Option.rec (motive := fun _ => Option (Next × VH)) none (fun _ => (HM.ret Next.skip).run (h.put ro (some (.row rn out' [] et (0, 0))))) (h.get ro) := rfl
      rw [hdef, hro]
      rfl
  refine ⟨rfl, rfl, ?_⟩
  have fin : ∀ {u : VAct}, u.live = rowLv → ∀ t, (t = 2 ∨ t = 7 ∨ t = 16) → u.shut.get t = u.get t := fun hu t ht => row_lv hu (by rcases ht with q | q | q <;> subst q <;> simp)
  refine ⟨?_, ?_, ?_, ?_, ?_⟩
  · rw [fin (by simp only [VAct.live_put]; exact gl) 2 (by simp)]; simp only [VAct.get_put, VAct.put_none]; simpa using g2
  · rw [fin (by simp only [VAct.live_put]; exact gl) 7 (by simp)]; simp only [VAct.get_put, VAct.put_none]; simpa using g7
  · rw [fin (by simp only [VAct.live_put]; exact gl) 16 (by simp)]; simp only [VAct.get_put, VAct.put_none]; simpa using (g 16 (by simp)).trans inv.t16
  · rw [VAct.live_shut]; simp only [VAct.live_put]; exact gl
  · rw [VAct.shut_defers]; simp only [VAct.put_defers]; exact gd
end
end Go.Proofs.YtonkcdnpmemheaaGreat.Vm

namespace Go.Proofs.YtonkcdnpmemheaaGreat.Vm
open Go.Proofs

section
variable {W : Frm} {P : Program} {σ τ : Ren} {h H : VH} {w w' : World}

/-- forget what came behind, but for one new object -/
theorem R.forgetNew (r : R W P σ h w) (hle : σ.le τ) (r1 : R W P τ H w') (hs : ∀ n o, h.get n = some o → H.get n = some o) {o : VObj} {m : NM} (hnew : H.get h.al = some o) (hm : τ h.al = some m) (hN : ∀ O', ORel P τ m o O' → ORel P (σ.at h.al m) m o O') :
    σ.le (σ.at h.al m) ∧ R W P (σ.at h.al m) (h.new o) w' := by
  have hle1 : σ.le (σ.at h.al m) := Ren.le_at r.al
  have hle2 : ∀ k m', (σ.at h.al m) k = some m' → τ k = some m' := by
    intro k m' e
    by_cases hk : k = h.al
    · subst hk; rw [Ren.at_same] at e; cases e; exact hm
    · rw [Ren.at_other _ _ hk] at e; exact hle k m' e
  have hold := r.forget hle r1 hs
  have hsub : ∀ k x, (h.new o).get k = some x → H.get k = some x := by
    intro k x e
    rw [VH.get_new] at e
    by_cases hk : k = h.al
    · subst hk; rw [if_pos rfl] at e; cases e; exact hnew
    · rw [if_neg hk] at e; exact hs k x e
  refine ⟨hle1, r1.ext, fun k m' e => r1.own k m' (hle2 k m' e), ?_, ?_, fun k k' x x' m1 m2 e1 e2 s1 s2 => r1.inj k k' x x' m1 m2 (hsub _ _ e1) (hsub _ _ e2) (hle2 _ _ s1) (hle2 _ _ s2), r1.fix, fun k x m' e1 e2 => r1.off k x m' (hsub _ _ e1) (hle2 _ _ e2), ?_, ?_, ?_, ?_, r1.big⟩
  · intro k m' e
    rw [VH.nx_new]
    by_cases hk : k = h.al
    · subst hk; exact nxt_al _ _
    · rw [Ren.at_other _ _ hk] at e
      exact Nat.lt_of_lt_of_le (r.lt k m' e) (nxt_nx _ _)
  · intro k x e
    rw [VH.get_new] at e
    by_cases hk : k = h.al
    · subst hk
      rw [if_pos rfl] at e; cases e
      obtain ⟨m', O', g1, g2, g3⟩ := r1.obj _ _ hnew
      rw [hm] at g1; cases g1
      exact ⟨m, O', Ren.at_same _ _ _, g2, hN O' g3⟩
    · rw [if_neg hk] at e
      obtain ⟨m', O', g1, g2, g3⟩ := hold.obj k x e
      exact ⟨m', O', by rw [Ren.at_other _ _ hk]; exact g1, g2, g3.mono hle1⟩
  · intro k hz
    have hk : k ≠ h.al := fun q => by subst q; exact r.zal hz
    rw [Ren.at_other _ _ hk]
    exact r.res k hz
  · intro k hz
    exact Nat.lt_of_lt_of_le (r.zlt k hz) (nxt_nx _ _)
  · rw [VH.al_new, Ren.at_other _ _ (Nat.ne_of_gt (nxt_al _ _))]
    exact r.none_ge (nxt_nx _ _)
  · rw [VH.al_new]
    intro hz
    have := r.zlt _ hz
    have := nxt_nx h.nx h.al
    omega

/-- code evaluated by hand -/
theorem VW.wp {rec : Rec} (hP : POk P) (hrec : RecOk P rec) {c : Code} {n : Nat} {ro : Option Nat} {va : VAct} {Q : VExit → VAct → VH → Prop} {a : Act} (hv : VW (codeK P rec c va h) Q) (hb : bndC n c = true) (ha : AR σ n ro va a) (r : R W P σ h w) :
    c.wpIn (FW ro) 0 P (fun e' a' w' => ∃ e va' h', Q e va' h' ∧ e' = exitOf e ∧ ∃ τ, σ.le τ ∧ R W P τ h' w' ∧ AR τ n ro va' a') a w := by
  obtain ⟨e, va', h', e1, q⟩ := hv
  refine wpIn_mono (codeK_sim hP hrec (draws_ok hP hrec) e1 hb ha r) ?_
  intro e' a' w' ⟨h1, τ, h2, h3, h4⟩
  exact ⟨e, va', h', q, h1, τ, h2, h3, h4⟩
end

theorem vleft_less {seen : List Nat} {b : Nat} (hb : b ∉ seen) : ∀ {es : List MapEntry}, (vleft (seen ++ [b]) es).length ≤ (vleft seen es).length ∧ ((∃ e, e ∈ es ∧ e.born = b) → (vleft (seen ++ [b]) es).length < (vleft seen es).length) := by
  intro es
  induction es with
  | nil => exact ⟨Nat.le_refl _, fun ⟨e, h, _⟩ => by cases h⟩
  | cons x es ih =>
    obtain ⟨h1, h2⟩ := ih
    have hm : ∀ l, memNat x.born l = decide (x.born ∈ l) := fun l => by
      cases g : memNat x.born l with
      | true => simp [(memNat_iff _ _).1 g]
      | false =>
        have : x.born ∉ l := fun q => by rw [(memNat_iff _ _).2 q] at g; cases g
        simp [this]
    unfold vleft
    rw [hm, hm]
    by_cases hs : x.born ∈ seen
    · have : x.born ∈ seen ++ [b] := List.mem_append_left _ hs
      simp only [hs, this, decide_true]
      refine ⟨h1, fun ⟨e, he, heb⟩ => ?_⟩
      rcases List.mem_cons.1 he with q | q
      · subst q; rw [heb] at hs; exact absurd hs hb
      · exact h2 ⟨e, q, heb⟩
    · by_cases hxb : x.born = b
      · have : x.born ∈ seen ++ [b] := by rw [hxb]; simp
        simp only [hs, this, decide_true, decide_false]
        refine ⟨by simp; omega, fun _ => by simp; omega⟩
      · have : x.born ∉ seen ++ [b] := by
          intro q
          rcases List.mem_append.1 q with q | q
          · exact hs q
          · exact hxb (List.mem_singleton.1 q)
        simp only [hs, this, decide_false]
        refine ⟨by simpa using h1, fun ⟨e, he, heb⟩ => ?_⟩
        rcases List.mem_cons.1 he with q | q
        · subst q; exact absurd heb hxb
        · have := h2 ⟨e, q, heb⟩
          simpa using this

theorem row_body_eq : rowBody = .seq (cL rowBody) (cR rowBody) := by kernel_rfl
noncomputable def rowOps : Array Oper := match cL rowBody with | .region _ ops _ => ops | _ => #[]
theorem row_r3 : cL rowBody = .region 3 rowOps false := by kernel_rfl
def noOper : Oper := { dst := none, op := .alloc 0, type := 0, pos := "", after := #[], guard := none }
noncomputable def rowO0 : Oper := match rowOps.toList with | x :: _ => x | [] => noOper
noncomputable def rowO1 : Oper := match rowOps.toList with | _ :: x :: _ => x | _ => noOper
theorem row_ops : rowOps.toList = [rowO0, rowO1] := by kernel_rfl
theorem row_o0 : rowO0.op = .next (.tmp 16) false ∧ rowO0.dst = some 17 ∧ rowO0.guard = none := by refine ⟨?_, ?_, ?_⟩ <;> kernel_rfl
theorem row_o1 : rowO1.op = .extract (.tmp 17) 0 ∧ rowO1.dst = some 18 ∧ rowO1.guard = none := by refine ⟨?_, ?_, ?_⟩ <;> kernel_rfl

theorem row_exit {rec : Rec} {A : VAct} {H : VH} (h18 : A.get 18 = .bool false) : VW (codeK Tryz.prog rec (cR rowBody) A H) fun e a' h' => e = .exit 0 ∧ a' = A ∧ h' = H := by
  simp only [rowBody, fnI, Tryz.f324, Option.getD_some, cL, cR]
  exact VW.seq (VW.condF (by rw [VAct.eval_tmp]; exact h18) (VW.exit ⟨rfl, rfl, rfl⟩))

theorem EntOk.keep {h H : VH} {cols i : Nat} {e : MapEntry} {x : List Value} (hE : EntOk h cols i e x) (hs : ∀ b o, h.get b = some o → H.get b = some o) : EntOk H cols i e x := by
  obtain ⟨b, off, n, cap, k, f, bk, ety, fr, g1, g2, g3, g4⟩ := hE.src
  exact ⟨hE.col, hE.len, hE.one, b, off, n, cap, k, f, bk, ety, fr, g1, g2, hs _ _ g3, g4⟩

section
variable {W : Frm} {h0 : VH} {cols i ro it mr c n : Nat} {es : List MapEntry} {out0 : List Value} {rn : Nat}

/-- at the loop's head -/
structure RowSt (W : Frm) (h0 : VH) (cols i ro it mr c n rn : Nat) (es : List MapEntry) (out0 : List Value) (seen : List Nat) (out : List Value) (τ : Ren) (H : VH) (A : VAct) (a : Act) (w : World) : Prop where
  r : R W Tryz.prog τ H w
  ar : AR τ n none A a
  inv : RowInv A cols i ro it
  hit : H.get it = some (.miter (some mr) c seen)
  hro : H.get ro = some (.row rn out [] 110 (0, 0))
  old : ∀ k, k ≠ it → k ≠ ro → H.get k = h0.get k
  outs : Outs es (cellsOf h0 i) out0 seen out
  sub : ∀ s, s ∈ seen → ∃ e, e ∈ es ∧ e.born = s

theorem row_step (hne : it ≠ ro) (hmr : h0.get mr = some (.map es c)) (hmi : mr ≠ it) (hmo : mr ≠ ro) (hfi : h0.get it = none) (hfo : h0.get ro = none) (hbc : ∀ e, e ∈ es → e.born < c) (hb : ∀ x y, x ∈ es → y ∈ es → x.born = y.born → x = y) (hc : ∀ x y, x ∈ es → y ∈ es → colOf x = colOf y → x = y)
    (hk : ∀ e, e ∈ es → e.key = .int .i64 (.ofNat (colOf e))) (hE : ∀ e, e ∈ es → EntOk h0 cols i e (cellsOf h0 i e)) (hlen : out0.length = 3 * cols) (hbnd : bndC n (cR rowBody) = true) (hdst : ∀ o, o ∈ rowOps.toList → dstIn n o = true) (hrec : RecOk Tryz.prog (vrun Tryz.prog (fun _ => none) 0)) {σ : Ren} {Q : Exit → Act → World → Prop}
    (hQ : ∀ (seen : List Nat) out τ H A a w, σ.le τ → (∀ e, e ∈ es → e.born ∈ seen) → RowSt W h0 cols i ro it mr c n rn es out0 seen out τ H A a w → Q (.exit 0) a w)
    {seen : List Nat} {out : List Value} {τ : Ren} {H : VH} {A : VAct} {a : Act} {w : World} (hle : σ.le τ) (st : RowSt W h0 cols i ro it mr c n rn es out0 seen out τ H A a w)
    (next : ∀ e, e ∈ es → e.born ∉ seen → ∀ (out' : List Value) (τ' : Ren) (H' : VH) (A' : VAct) (a' : Act) (w' : World), σ.le τ' → RowSt W h0 cols i ro it mr c n rn es out0 (seen ++ [e.born]) out' τ' H' A' a' w' → LoopIn (FW none) 0 Tryz.prog rowBody Q a' w') : LoopIn (FW none) 0 Tryz.prog rowBody Q a w := by
  refine LoopIn.of ?_
  generalize hT : Exit.then (LoopIn (FW none) 0 Tryz.prog rowBody Q) Q = T
  rw [row_body_eq]
  refine wpIn_seq ?_
  rw [row_r3]
  refine wpIn_region ?_
  have hsz : rowOps.size = 2 := by rw [← Array.length_toList, row_ops]; rfl
  rw [hsz]
  show wpOpsIn (FW none) 0 Tryz.prog rowOps _ [0, 1] a w
  unfold wpOpsIn
  have h0' : rowOps[0]? = some rowO0 := by rw [← Array.getElem?_toList, row_ops]; rfl
  obtain ⟨o1, o2, o3⟩ := row_o0
  obtain ⟨p1, p2, p3⟩ := row_o1
  have hw : Region.wanted rowO0 (yielded rowOps a.tmps) = true := by simp [Region.wanted, o3]
  simp only [h0', hw, if_true]
  refine ⟨fun _ _ => trivial, ?_⟩
  show Oper.uponIn (FW none) 0 Tryz.prog rowO0 a _ _ ((execOp a.eval rowO0).run Tryz.prog w)
  have h16 := st.ar.tm 16
  rw [st.inv.t16] at h16
  generalize hpv : a.tmps.getD 16 undef = pv at h16
  cases h16 with
  | ptr hA =>
    rename_i ad
    have hmrH : H.get mr = some (.map es c) := by rw [st.old mr hmi hmo]; exact hmr
    obtain ⟨v', w1, hrun, hcase⟩ := next_any (ty := rowO0.type) st.r st.hit hmrH hbc st.sub hA
    have hex : (execOp a.eval rowO0).run Tryz.prog w = .ok (.value v') w1 := by
      simp only [execOp, o1]
      rw [Sem.run_bind, show a.eval (.tmp 16) = a.tmps.getD 16 undef from rfl, hpv, hrun]
      rfl
    rw [hex]
    show wpOpsIn (FW none) 0 Tryz.prog rowOps _ [1] (a.put rowO0.dst v') w1
    rw [o2]
    have go : ∀ (b : Bool) (V : Value) (H1 : VH), (∃ l, V = .tuple ⟨.bool b :: l⟩) → VRel τ V v' → R W Tryz.prog τ H1 w1 →
        (∀ τ' a' w', τ.le τ' → R W Tryz.prog τ' H1 w' → AR τ' n none ((A.put (some 17) V).put (some 18) (.bool b)) a' → (cR rowBody).wpIn (FW none) 0 Tryz.prog T a' w') →
        wpOpsIn (FW none) 0 Tryz.prog rowOps (Exit.then ((cR rowBody).wpIn (FW none) 0 Tryz.prog T) T) [1] (a.put (some 17) v') w1 := by
      rintro b V H1 ⟨l, rfl⟩ hV hR hK
      have hA2 := st.ar.put (dst := some 17) (fun d hd => by
        have := hdst rowO0 (by rw [row_ops]; exact List.mem_cons_self ..)
        exact dstIn_lt this d (by rw [o2]; exact hd)) hV
      refine runOps_sim pok hrec hdst (va1 := (A.put (some 17) (.tuple ⟨.bool b :: l⟩)).put (some 18) (.bool b)) (h1 := H1) [rowO1] 1 τ _ H1 _ w1 (by rw [row_ops]; rfl) ?_ hA2 hR hK
      have hr : runOps Tryz.prog (vrun Tryz.prog (fun _ => none) 0) rowOps.toList [rowO1] (A.put (some 17) (.tuple ⟨.bool b :: l⟩)) H1 = some ((A.put (some 17) (.tuple ⟨.bool b :: l⟩)).put rowO1.dst (.bool b), H1) := by
        refine step_pure (by unfold vwanted; rw [p3]) ?_ rfl
        rw [p1]
        show OpR.pure (vextract (VAct.get (A.put (some 17) (.tuple ⟨.bool b :: l⟩)) 17) 0) = _
        rw [VAct.get_put, if_pos rfl]
        rfl
      rw [p2] at hr
      exact hr
    have invA : ∀ (V : Value) (b : Bool), RowInv ((A.put (some 17) V).put (some 18) (.bool b)).shut cols i ro it ∧ ((A.put (some 17) V).put (some 18) (.bool b)).shut.get 18 = .bool b := by
      intro V b
      have hl : ((A.put (some 17) V).put (some 18) (.bool b)).live = rowLv := by simp only [VAct.live_put]; exact st.inv.lv
      refine ⟨⟨?_, ?_, ?_, ?_, ?_⟩, ?_⟩
      · rw [row_lv hl (by simp)]; simp only [VAct.get_put]; simpa using st.inv.t2
      · rw [row_lv hl (by simp)]; simp only [VAct.get_put]; simpa using st.inv.t7
      · rw [row_lv hl (by simp)]; simp only [VAct.get_put]; simpa using st.inv.t16
      · rw [VAct.live_shut]; exact hl
      · rw [VAct.shut_defers]; simp only [VAct.put_defers]; exact st.inv.df
      · rw [row_lv hl (by simp)]; simp only [VAct.get_put]; simp
    rcases hcase with ⟨hall, rfl, hR⟩ | ⟨e, he, hns, hV, hR⟩
    · -- over
      refine go false (.tuple #[.bool false]) H ⟨[], rfl⟩ (LR.tuple (.one (.bool _))) hR ?_
      intro τ' a' w' hle' hR' hA'
      obtain ⟨i1, i2⟩ := invA (.tuple #[.bool false]) false
      refine wpIn_mono (VW.wp pok hrec (row_exit i2) hbnd hA'.shut hR') ?_
      rintro e' a2 w2 ⟨ex, va2, H2, ⟨rfl, rfl, rfl⟩, rfl, τ2, q1, q2, q3⟩
      subst hT
      exact hQ seen out τ2 _ _ a2 w2 (Ren.le_trans hle (Ren.le_trans hle' q1)) hall ⟨q2, q3, i1, st.hit, st.hro, st.old, st.outs, st.sub⟩
    · -- an entry
      refine go true (.tuple #[.bool true, e.key, e.val]) _ ⟨_, rfl⟩ hV hR ?_
      intro τ' a' w' hle' hR' hA'
      obtain ⟨i1, i2⟩ := invA (.tuple #[.bool true, e.key, e.val]) true
      have hg1 : ∀ k, (H.put it (some (.miter (some mr) c (app seen [e.born])))).get k = if k = it then some (.miter (some mr) c (app seen [e.born])) else H.get k := fun k => VH.get_put _ _ _ _
      have hE1 : EntOk (H.put it (some (.miter (some mr) c (app seen [e.born])))) cols i e (cellsOf h0 i e) := (hE e he).keep (fun b o hbo => by
        have n1 : b ≠ it := fun q => by rw [q, hfi] at hbo; cases hbo
        have n2 : b ≠ ro := fun q => by rw [q, hfo] at hbo; cases hbo
        rw [hg1, if_neg n1, st.old b n1 n2]; exact hbo)
      obtain ⟨out', hp⟩ := putAt_total (cellsOf h0 i e) (3 * colOf e) out (by have := hE1.len; have := hE1.col; have := st.outs.len; omega)
      have htail := row_tail (rec := vrun Tryz.prog (fun _ => none) 0) (rn := rn) (et := 110) i1 i2 (by rw [hg1, if_pos rfl]) (by rw [hg1, if_neg hmi]; exact hmrH) hb he (hk e he) hE1 (by rw [hg1, if_neg (Ne.symm hne)]; exact st.hro) hp
      refine wpIn_mono (VW.wp pok hrec htail hbnd hA'.shut hR') ?_
      rintro e' a2 w2 ⟨ex, va2, H2, ⟨rfl, rfl, i3⟩, rfl, τ2, q1, q2, q3⟩
      subst hT
      refine next e he hns out' τ2 _ va2 a2 w2 (Ren.le_trans hle (Ren.le_trans hle' q1)) ⟨q2, q3, i3, ?_, ?_, ?_, st.outs.step hb hc he hE1.len hp, ?_⟩
      · rw [VH.get_put, if_neg hne, hg1, if_pos rfl, app_eq]
      · rw [VH.get_put, if_pos rfl]
      · intro k k1 k2
        rw [VH.get_put, if_neg k2, hg1, if_neg k1]; exact st.old k k1 k2
      · intro s hs
        rcases List.mem_append.1 hs with q | q
        · exact st.sub s q
        · exact ⟨e, he, (List.mem_singleton.1 q).symm⟩

theorem row_loop (hne : it ≠ ro) (hmr : h0.get mr = some (.map es c)) (hmi : mr ≠ it) (hmo : mr ≠ ro) (hfi : h0.get it = none) (hfo : h0.get ro = none) (hbc : ∀ e, e ∈ es → e.born < c) (hb : ∀ x y, x ∈ es → y ∈ es → x.born = y.born → x = y) (hc : ∀ x y, x ∈ es → y ∈ es → colOf x = colOf y → x = y)
    (hk : ∀ e, e ∈ es → e.key = .int .i64 (.ofNat (colOf e))) (hE : ∀ e, e ∈ es → EntOk h0 cols i e (cellsOf h0 i e)) (hlen : out0.length = 3 * cols) (hbnd : bndC n rowBody = true) {σ : Ren} {Q : Exit → Act → World → Prop}
    (hQ : ∀ (seen : List Nat) out τ H A a w, σ.le τ → (∀ e, e ∈ es → e.born ∈ seen) → RowSt W h0 cols i ro it mr c n rn es out0 seen out τ H A a w → Q (.exit 0) a w) :
    ∀ (m : Nat) (seen : List Nat) (out : List Value) (τ : Ren) (H : VH) (A : VAct) (a : Act) (w : World), (vleft seen es).length ≤ m → σ.le τ → RowSt W h0 cols i ro it mr c n rn es out0 seen out τ H A a w → LoopIn (FW none) 0 Tryz.prog rowBody Q a w := by
  have hrec : RecOk Tryz.prog (vrun Tryz.prog (fun _ => none) 0) := vrun_sound pok (none_ok _) 0
  have hb2 : bndC n (cL rowBody) = true ∧ bndC n (cR rowBody) = true := by
    have h := hbnd
    rw [row_body_eq] at h
    simpa [bndC] using h
  have hdst : ∀ o, o ∈ rowOps.toList → dstIn n o = true := by
    have h := hb2.1
    rw [row_r3] at h
    simp only [bndC, List.all_eq_true] at h
    exact h
  intro m
  induction m with
  | zero =>
    intro seen out τ H A a w hm hle st
    exact row_step hne hmr hmi hmo hfi hfo hbc hb hc hk hE hlen hb2.2 hdst hrec hQ hle st (fun e he hns => by
      have := (vleft_less hns (es := es)).2 ⟨e, he, rfl⟩
      intro _ _ _ _ _ _ _ _
      exfalso; omega)
  | succ m ih =>
    intro seen out τ H A a w hm hle st
    exact row_step hne hmr hmi hmo hfi hfo hbc hb hc hk hE hlen hb2.2 hdst hrec hQ hle st (fun e he hns out' τ' H' A' a' w' hle' st' => by
      have := (vleft_less hns (es := es)).2 ⟨e, he, rfl⟩
      exact ih _ out' τ' H' A' a' w' (by omega) hle' st')
end
end Go.Proofs.YtonkcdnpmemheaaGreat.Vm

namespace Go.Proofs.YtonkcdnpmemheaaGreat.Vm
open Go.Proofs

noncomputable def rowC : Code := (fnI Tryz.f324).c
theorem row_c : rowC = .seq (cL rowC) (.seq (cL (cR rowC)) (.seq (.seq (cL (cL (cR (cR rowC)))) (.block 0 (.loop rowBody))) (cR (cR (cR rowC))))) := by kernel_rfl
theorem row_frame (x y z : Value) : (frame [x, y, z] (fnI Tryz.f324).live).get 0 = x ∧ (frame [x, y, z] (fnI Tryz.f324).live).get 1 = y ∧ (frame [x, y, z] (fnI Tryz.f324).live).get 2 = z := by
  refine ⟨?_, ?_, ?_⟩ <;> kernel_rfl

abbrev zCell : List Value := [.int .i64 0, .int .i64 0, .string ⟨#[]⟩]
noncomputable def zRow (cols : Nat) : List Value := rep cols zCell []
theorem zRow_len (cols : Nat) : (zRow cols).length = 3 * cols := by
  unfold zRow
  rw [rep_eq]
  simp [Nat.mul_comm]
theorem zRow_mem {cols : Nat} {x : Value} (h : x ∈ zRow cols) : x ∈ zCell := by
  unfold zRow at h
  rw [rep_eq] at h
  simp only [List.append_nil, List.mem_flatten] at h
  obtain ⟨l, hl, hx⟩ := h
  rw [List.mem_replicate] at hl
  rw [hl.2] at hx; exact hx

/-- what the first regions keep -/
structure RowPre (a : VAct) (cols i : Nat) (p : Value) : Prop where
  t0 : a.get 0 = p
  t1 : a.get 1 = .int .i64 (.ofNat cols)
  t2 : a.get 2 = .int .i64 (.ofNat i)
  lv : a.live = rowLv
  df : a.defers = []

section
variable {rec : Rec} {h : VH} {a : VAct} {cols i : Nat} {p : Value}

theorem row_v0 (pre : RowPre a cols i p) : VW (codeK Tryz.prog rec (cL rowC) a h) fun e a' h' => e = .normal ∧ h' = h ∧ RowPre a' cols i p := by
  simp only [rowC, fnI, Tryz.f324, Option.getD_some, cL]
  refine VW.region (VO.pure (v := .slice none 0 0) rfl rfl (VO.nil ⟨rfl, rfl, ?_⟩))
  dsimp only
  have hl : (a.put (some 6) (.slice none 0 0)).live = rowLv := by rw [VAct.live_put]; exact pre.lv
  refine ⟨?_, ?_, ?_, by rw [VAct.live_shut]; exact hl, by rw [VAct.shut_defers, VAct.put_defers]; exact pre.df⟩
  · rw [row_lv hl (by simp)]; simp only [VAct.get_put]; simpa using pre.t0
  · rw [row_lv hl (by simp)]; simp only [VAct.get_put]; simpa using pre.t1
  · rw [row_lv hl (by simp)]; simp only [VAct.get_put]; simpa using pre.t2

theorem row_v1 (pre : RowPre a cols i p) (hc : cols ≤ 65536) : VW (codeK Tryz.prog rec (cL (cR rowC)) a h) fun e a' h' => e = .normal ∧ h' = h.new (.row (len (zRow cols)) (zRow cols) [] 110 (0, 0)) ∧ RowPre a' cols i p ∧ a'.get 7 = .slice (some ⟨h.al, 0, none⟩) cols cols := by
  simp only [rowC, fnI, Tryz.f324, Option.getD_some, cL, cR]
  refine VW.region (VO.pure (v := .int .i64 (.ofNat cols)) rfl ?_ (VO.val (v := .slice (some ⟨h.al, 0, none⟩) cols cols) (h1 := h.new (.row (len (zRow cols)) (zRow cols) [] 110 (0, 0))) rfl rfl ?_ (VO.pure (v := .slice (some ⟨h.al, 0, none⟩) cols cols) rfl ?_ (VO.nil ⟨rfl, rfl, ?_, ?_⟩))))
  all_goals dsimp only
  · rw [VAct.eval_vopK_move, pre.t1]
  · simp only [VAct.eval_tmp, VAct.get_put, if_true]
    unfold vmakeSlice
    rw [e67]
    show (makeRow 110 zCell cols cols).run h = _
    unfold makeRow
    rw [Nat.ble_eq_true_of_le (Nat.le_refl cols), Nat.ble_eq_true_of_le (show cols ≤ 1048576 by omega)]
    rfl
  · rw [VAct.eval_vopK_move_assign]; simp only [VAct.get_put]; simp
  · generalize ha : VAct.put _ (some 7) _ = u
    have hl : u.live = rowLv := by rw [← ha]; simp only [VAct.live_put]; exact pre.lv
    have hd : u.defers = [] := by rw [← ha]; simp only [VAct.put_defers]; exact pre.df
    refine ⟨?_, ?_, ?_, by rw [VAct.live_shut]; exact hl, by rw [VAct.shut_defers]; exact hd⟩
    · rw [row_lv hl (by simp), ← ha]; simp only [VAct.get_put]; simpa using pre.t0
    · rw [row_lv hl (by simp), ← ha]; simp only [VAct.get_put]; simpa using pre.t1
    · rw [row_lv hl (by simp), ← ha]; simp only [VAct.get_put]; simpa using pre.t2
  · generalize ha : VAct.put _ (some 7) _ = u
    have hl : u.live = rowLv := by rw [← ha]; simp only [VAct.live_put]; exact pre.lv
    rw [row_lv hl (by simp), ← ha]; simp only [VAct.get_put]; simp

theorem row_v2 {kb koff mr c rk e1 : Nat} {f1 bk1 : List Value} {fr1 : Nat × Nat} {es : List MapEntry} {ro : Nat} (pre : RowPre a cols i (.pointer (some ⟨kb, koff, none⟩))) (h7 : a.get 7 = .slice (some ⟨ro, 0, none⟩) cols cols)
    (hkb : h.get kb = some (.row rk f1 bk1 e1 fr1)) (hcell : nth? (rowList f1 bk1) koff = some (.map (some mr))) (hm : h.get mr = some (.map es c)) :
    VW (codeK Tryz.prog rec (cL (cL (cR (cR rowC)))) a h) fun e a' h' => e = .normal ∧ h' = h.new (.miter (some mr) c []) ∧ RowInv a' cols i ro h.al := by
  simp only [rowC, fnI, Tryz.f324, Option.getD_some, cL, cR]
  refine VW.region (VO.pure (v := .pointer (some ⟨kb, koff, none⟩)) rfl ?_ (VO.pure (v := .pointer (some ⟨kb, koff, none⟩)) rfl ?_ (VO.pure (v := .pointer (some ⟨kb, koff + 0, none⟩)) rfl ?_ (VO.val (v := .map (some mr)) (h1 := h) rfl rfl ?_ (VO.val (v := .pointer (some ⟨h.al, 0, none⟩)) (h1 := h.new (.miter (some mr) c [])) rfl rfl ?_ (VO.nil ⟨rfl, rfl, ?_⟩))))))
  all_goals dsimp only
  · rw [VAct.eval_vopK_move, pre.t0]
  · simp only [vopK, cop, VAct.eval_tmp, VAct.get_put, if_true]; rfl
  · simp only [vopK, cop, VAct.eval_tmp, VAct.get_put, if_true]
    simp only [vfieldAddr, f472, add_off]
  · simp only [VAct.eval_tmp, VAct.get_put, if_true]
    exact load1 (t := 469) (off := koff + 0) a469 hkb hcell
  · simp only [VAct.eval_tmp, VAct.get_put, if_true]
    unfold vrangeOp
    simp only [u469]
    show (HM.rd mr (asMap fun _ c => iterTo (.miter (some mr) c []))).run h = _
    rw [HM.run_rd_some hm]
    rfl
  · generalize ha : VAct.put _ (some 16) _ = u
    have hl : u.live = rowLv := by rw [← ha]; simp only [VAct.live_put]; exact pre.lv
    have hd : u.defers = [] := by rw [← ha]; simp only [VAct.put_defers]; exact pre.df
    refine ⟨?_, ?_, ?_, by rw [VAct.live_shut]; exact hl, by rw [VAct.shut_defers]; exact hd⟩
    · rw [row_lv hl (by simp), ← ha]; simp only [VAct.get_put]; simpa using pre.t2
    · rw [row_lv hl (by simp), ← ha]; simp only [VAct.get_put]; simpa using h7
    · rw [row_lv hl (by simp), ← ha]; simp only [VAct.get_put]; simp

theorem row_v6 {ro it : Nat} (inv : RowInv a cols i ro it) : VW (codeK Tryz.prog rec (cR (cR (cR rowC))) a h) fun e a' h' => e = .ret ∧ h' = h ∧ a'.get 6 = .slice (some ⟨ro, 0, none⟩) cols cols ∧ a'.defers = [] := by
  simp only [rowC, fnI, Tryz.f324, Option.getD_some, cR]
  refine VW.seq (VW.region (VO.pure (v := .slice (some ⟨ro, 0, none⟩) cols cols) rfl ?_ (VO.pure (v := .slice (some ⟨ro, 0, none⟩) cols cols) rfl ?_ (VO.nil (VW.ret ⟨rfl, rfl, ?_, ?_⟩)))))
  all_goals dsimp only
  · rw [VAct.eval_vopK_move, inv.t7]
  · rw [VAct.eval_vopK_move_assign]; simp only [VAct.get_put]; simp
  · rw [row_lv (by simp only [VAct.live_put]; exact inv.lv) (by simp)]; simp only [VAct.get_put]; simp
  · rw [VAct.shut_defers]; simp only [VAct.put_defers]; exact inv.df
end
end Go.Proofs.YtonkcdnpmemheaaGreat.Vm

namespace Go.Proofs.YtonkcdnpmemheaaGreat.Vm
open Go.Proofs

theorem row_bnd : bndC Tryz.f324.ntmps rowC = true := by kernel_rfl

theorem row_ok {W : Frm} {σ : Ren} {h h' : VH} {args args' : List Value} {v : Value} {w : World} (e : (sumRow 110 args).run h = some (v, h')) (hl : LR σ args args') (r : R W Tryz.prog σ h w) : CallsIn Fence.wide 0 Tryz.prog 324 ⟨args'⟩ w (ValOk W Tryz.prog σ v h') := by
  unfold sumRow at e
  split at e
  · rename_i ad cols i
    split at e
    · rename_i hcols
      have hcols := Nat.le_of_ble_eq_true hcols
      obtain ⟨kb, koff, sp⟩ := ad
      cases sp with
      | some t => cases e
      | none =>
        have e1 : (HM.rd kb (cellsK koff 1 (rowOf 110 cols i))).run h = some (v, h') := e
        obtain ⟨o, hkb, e2⟩ := HM.run_rd e1
        unfold cellsK at e2
        cases o with
        | row rk f1 bk1 ety1 fr1 =>
          simp only at e2
          obtain ⟨l, hl1, e3⟩ := hopt_run e2
          obtain ⟨t1, t2⟩ := take?_some hl1
          rw [drp_eq] at t1 t2
          unfold rowOf at e3
          split at e3
          · rename_i mr
            have hcell : nth? (rowList f1 bk1) koff = some (.map (some mr)) := by
              rw [nth?_eq]
              have h1 : ([Value.map (some mr)] : List Value)[0]? = some (.map (some mr)) := rfl
              rw [t2, List.getElem?_take, if_pos (by decide), List.getElem?_drop] at h1
              simpa using h1
            obtain ⟨om, hm, e4⟩ := HM.run_rd e3
            obtain ⟨es, c, rfl, e5⟩ := asMap_run e4
            unfold rowMap at e5
            split at e5
            · rename_i hok
              simp only [Bool.and_eq_true] at hok
              obtain ⟨hbo, hke⟩ := hok
              have hb := distinct_born hbo
              have hc := distinct_col hke
              obtain ⟨outF, k1, k2, k3⟩ := mapRow_spec es hb hc (zRow cols) (fun _ q => q) e5 (Outs.start es (cellsOf h i) (zRow cols))
              have k1' : (newRow 110 outF fun n => .ret (.slice (some ⟨n, 0, none⟩) cols cols)).run h = some (v, h') := k1
              obtain ⟨rfl, rfl⟩ : v = .slice (some ⟨h.al, 0, none⟩) cols cols ∧ h' = h.new (.row (len outF) outF [] 110 (0, 0)) := by cases k1'; exact ⟨rfl, rfl⟩
              have hfal := r.al_free
              -- the new names
              generalize hh1 : h.new (.row (len (zRow cols)) (zRow cols) [] 110 (0, 0)) = h1
              have hg1 : ∀ k, h1.get k = if k = h.al then some (.row (len (zRow cols)) (zRow cols) [] 110 (0, 0)) else h.get k := fun k => by rw [← hh1]; exact VH.get_new _ _ _
              have hal1 : h1.al = nxt h.nx h.al := by rw [← hh1]; rfl
              have hit_ne : h1.al ≠ h.al := by rw [hal1]; exact Nat.ne_of_gt (nxt_al _ _)
              have hf1 : h.get h1.al = none := by rw [hal1]; exact r.get_ge (nxt_nx _ _)
              have hmo : mr ≠ h.al := fun q => by rw [q, hfal] at hm; cases hm
              have hmi : mr ≠ h1.al := fun q => by rw [q, hf1] at hm; cases hm
              have hkbo : kb ≠ h.al := fun q => by rw [q, hfal] at hkb; cases hkb
              have hm1 : h1.get mr = some (.map es c) := by rw [hg1, if_neg hmo]; exact hm
              have hkb1 : h1.get kb = some (.row rk f1 bk1 ety1 fr1) := by rw [hg1, if_neg hkbo]; exact hkb
              have hrec : RecOk Tryz.prog (vrun Tryz.prog (fun _ => none) 0) := vrun_sound pok (none_ok _) 0
              -- the activation
              have hA := frame_rel (k := Tryz.f324.ntmps) (live := (fnI Tryz.f324).live) hl
              have hbn := bndC_mono (Nat.le_max_left Tryz.f324.ntmps args'.length) row_bnd
              obtain ⟨q0, q1, q2⟩ := row_frame (.pointer (some ⟨kb, koff, none⟩)) (.int .i64 (.ofNat cols)) (.int .i64 (.ofNat i))
              have pre : RowPre (frame [.pointer (some ⟨kb, koff, none⟩), .int .i64 (.ofNat cols), .int .i64 (.ofNat i)] (fnI Tryz.f324).live) cols i (.pointer (some ⟨kb, koff, none⟩)) := ⟨q0, q1, q2, rfl, rfl⟩
              generalize frame [.pointer (some ⟨kb, koff, none⟩), .int .i64 (.ofNat cols), .int .i64 (.ofNat i)] (fnI Tryz.f324).live = A0 at hA pre
              generalize hN : max Tryz.f324.ntmps args'.length = N at hA hbn
              rw [row_c] at hbn
              have hbn : bndC N (cL rowC) = true ∧ bndC N (cL (cR rowC)) = true ∧ (bndC N (cL (cL (cR (cR rowC)))) = true ∧ bndC N rowBody = true) ∧ bndC N (cR (cR (cR rowC))) = true := by
                simpa [bndC] using hbn
              have hf : Tryz.prog.funcs[324]? = some Tryz.f324 := Tryz.func324
              have hbody : Tryz.f324.body = some rowC := by kernel_rfl
              refine callsIn_of_wp_marks hf hbody trivial ?_
              generalize hQ0 : bodyPostM Fence.wide 0 Tryz.prog Tryz.f324 (ValOk W Tryz.prog σ (.slice (some ⟨h.al, 0, none⟩) cols cols) (h.new (.row (len outF) outF [] 110 (0, 0)))) = Q0
              rw [row_c]
              refine wpIn_seq (wpIn_mono (VW.wp pok hrec (row_v0 pre) hbn.1 hA r) ?_)
              rintro _ a1 w1 ⟨_, A1, Hx, ⟨rfl, hHx, pre1⟩, rfl, τ1, s1, s2, s3⟩
              rw [hHx] at s2
              refine wpIn_seq (wpIn_mono (VW.wp pok hrec (row_v1 pre1 hcols) hbn.2.1 s3 s2) ?_)
              rintro _ a2 w2 ⟨_, A2, _, ⟨rfl, rfl, pre2, h7⟩, rfl, τ2, u1, u2, u3⟩
              rw [hh1] at u2
              refine wpIn_seq (wpIn_seq (wpIn_mono (VW.wp pok hrec (row_v2 pre2 h7 hkb1 hcell hm1) hbn.2.2.1.1 u3 u2) ?_))
              rintro _ a3 w3 ⟨_, A3, H3, ⟨rfl, rfl, inv3⟩, rfl, τ3, v1, v2, v3⟩
              have hg2 : ∀ k, (h1.new (.miter (some mr) c [])).get k = if k = h1.al then some (.miter (some mr) c []) else h1.get k := fun k => VH.get_new _ _ _
              have hle3 : σ.le τ3 := Ren.le_trans s1 (Ren.le_trans u1 v1)
              refine wpIn_block (LoopIn.wpIn ?_)
              have st0 : RowSt W h cols i h.al h1.al mr c N (len (zRow cols)) es (zRow cols) [] (zRow cols) τ3 (h1.new (.miter (some mr) c [])) A3 a3 w3 :=
                ⟨v2, v3, inv3, by rw [hg2, if_pos rfl], by rw [hg2, if_neg (Ne.symm hit_ne), hg1, if_pos rfl], fun k g1 g2 => by rw [hg2, if_neg g1, hg1, if_neg g2], Outs.start _ _ _, fun s hs => by cases hs⟩
              refine row_loop (W := W) (h0 := h) (it := h1.al) (ro := h.al) hit_ne hm hmi hmo hf1 hfal (fun x hx => ((bornOk_spec hbo).1 x hx).1) hb hc (fun x hx => ((keysOk_spec hke).1 x hx).1) k2 (zRow_len cols) hbn.2.2.1.2 (σ := σ) ?_ _ [] (zRow cols) τ3 _ A3 a3 w3 (Nat.le_refl _) hle3 st0
              intro seen out τ4 H4 A4 a4 w4 hle4 hall st
              show Exit.inBlock 0 _ (.exit 0) a4 w4
              simp only [Exit.inBlock, if_true]
              show (cR (cR (cR rowC))).wpIn (FW none) 0 Tryz.prog Q0 a4 w4
              refine wpIn_mono (VW.wp pok hrec (row_v6 st.inv) hbn.2.2.2 st.ar st.r) ?_
              rintro _ a5 w5 ⟨_, A5, Hy, ⟨rfl, hHy, g6, gd⟩, rfl, τ5, x1, x2, x3⟩
              rw [hHy] at x2
              have hout : out = outF := st.outs.all k3 hall (fun x hx => by simp; exact ⟨x, hx, rfl⟩)
              subst hout
              subst hQ0
              have hdf := x3.df
              rw [gd] at hdf
              have hdf' : a5.defers = [] := by generalize a5.defers = dl at hdf; cases hdf; rfl
              have hvres : vres Tryz.prog A5 H4 Tryz.f324.results.toList = some [.slice (some ⟨h.al, 0, none⟩) cols cols] := by
                have hres : Tryz.f324.results.toList = [.tmp 6] := row_res
                rw [hres]
                show some [A5.get 6] = _
                rw [g6]
              obtain ⟨v', y1, y2⟩ := results_sim x3 x2 hvres
              show LeavesInM Fence.wide 0 Tryz.prog Tryz.f324 a5.tmps _ a5.defers .returning w5
              rw [hdf']
              refine ⟨v', y1, ?_⟩
              have y2 : VRel τ5 (.slice (some ⟨h.al, 0, none⟩) cols cols) v' := y2
              -- forget the rest
              have hle5 : σ.le τ5 := Ren.le_trans hle4 x1
              obtain ⟨m, O, z1, z2, z3⟩ := x2.obj _ _ st.hro
              have hlen : len out = len (zRow cols) := by rw [len_eq, len_eq]; exact st.outs.len
              have hold : ∀ k o, h.get k = some o → H4.get k = some o := by
                intro k o hk
                have n1 : k ≠ h1.al := fun q => by rw [q, hf1] at hk; cases hk
                have n2 : k ≠ h.al := fun q => by rw [q, hfal] at hk; cases hk
                rw [st.old k n1 n2]; exact hk
              have hle6 : (σ.at h.al m).le τ5 := by
                intro k m' hk
                by_cases hkk : k = h.al
                · subst hkk; rw [Ren.at_same] at hk; cases hk; exact z1
                · rw [Ren.at_other _ _ hkk] at hk; exact hle5 k m' hk
              have hnamed : ∀ (j : Nat) (x : Value), out[j]? = some x → ∃ u, VRel σ x u := by
                intro j x hx
                by_cases hex : ∃ e, e ∈ es ∧ 3 * colOf e ≤ j ∧ j < 3 * colOf e + 3
                · obtain ⟨en, he, p1, p2⟩ := hex
                  have hput := st.outs.put en he (hall en he) (j - 3 * colOf en) (by omega)
                  rw [show 3 * colOf en + (j - 3 * colOf en) = j by omega, hx] at hput
                  obtain ⟨b, off, nn, cap, sk, sf, sb, sty, sfr, _, _, hsb, htk⟩ := (k2 en he).src
                  obtain ⟨m2, c2, fr2, _, _, _, _, hrow, _⟩ := r.row hsb
                  obtain ⟨p3, p4⟩ := take?_some htk
                  rw [drp_eq] at p4
                  rw [p4, List.getElem?_take, if_pos (by omega), List.getElem?_drop] at hput
                  obtain ⟨y, _, hy⟩ := hrow _ x hput.symm
                  exact ⟨y, hy⟩
                · have hz := st.outs.not j (fun en he _ q => hex ⟨en, he, q.1, q.2⟩)
                  rw [hx] at hz
                  have := zRow_mem (List.mem_of_getElem? hz.symm)
                  refine ⟨x, bare_same 1 x ?_⟩
                  simp only [zCell, List.mem_cons, List.not_mem_nil, or_false] at this
                  rcases this with q | q | q <;> subst q <;> rfl
              obtain ⟨f1', f2'⟩ := r.forgetNew hle5 x2 hold st.hro z1 (fun O' hO => by
                cases hO with
                | row hn hs hc hf hd =>
                  refine .row hn hs ?_ hf hd
                  intro j x hx
                  obtain ⟨y, w1, w2⟩ := hc j x hx
                  obtain ⟨u, hu⟩ := hnamed j x hx
                  exact ⟨y, w1, (w2.swap hle5 hu).mono (Ren.le_at r.al)⟩)
              rw [← hlen] at f2'
              refine ⟨σ.at h.al m, f1', f2', ?_⟩
              refine y2.swap hle6 (u := .slice (some ⟨m.b, m.d, none⟩) cols cols) ?_
              exact .slc _ _ (by show cols < 18446744073709551616; omega) ⟨rfl, rfl, m, Ren.at_same _ _ _, rfl, by simp⟩
            · cases e5
          · cases e3
        | _ => cases e2
    · cases e
  · cases e

end Go.Proofs.YtonkcdnpmemheaaGreat.Vm

