/- Calls, loops and code answer alike in the evaluator and the machine. By an AI agent. -/
import Derived.Test.YtonkcdnpmemheaaGreatVmC
import Derived.Laws.Externs
import Derived.Lib.MakeNoZero
import Derived.RangeFuncLeaves
import Derived.OrdersIn
set_option linter.all false
namespace Go.Proofs.YtonkcdnpmemheaaGreat.Vm
section
variable {W : Frm} {P : Program} {σ : Ren} {h : VH} {w : World}

theorem vnext_sim {it it' : Value} {s : Bool} {ty : TypeId} {x : Next × VH} (r : R W P σ h w) (e : (vnext it s).run h = some x) (hv : VRel σ it it') : MSim W P σ VN w x (Instr.next it' s ty) := by
  unfold vnext at e
  split at e
  · rename_i rr
    obtain ⟨o, hg, e1⟩ := HM.run_rd e
    cases hv with
    | ptr ha =>
      rename_i a'
      unfold nextK at e1
      split at e1
      · exact nextStr_sim r hg e1 ha
      · rename_i s0 l0
        obtain ⟨m, O, h1, h2, h3⟩ := r.obj _ _ hg
        cases h3 with
        | none _ s' _ l' k hd =>
          obtain ⟨a0, a1, m', a2, a3, a4⟩ := ha
          simp only at a2 a4
          rw [h1] at a2; cases a2
          have hae := addr_eq a1 a3 (show a'.off = 0 by omega)
          subst hae
          have hgo := run_getObj (P := P) h2 (by intro c e f h; cases h)
          exact MSim.here r e1 (v' := .tuple #[.bool false]) (by simp [Instr.next, hgo]) (LR.tuple (.one (.bool _)))
      · rename_i m since seen
        obtain ⟨o, hgm, e2⟩ := HM.run_rd e1
        obtain ⟨es, c, rfl, e3⟩ := asMap_run e2
        exact nextMap_sim r hg hgm e3 ha
      · cases e1
  · cases e

theorem lastOf_eq : ∀ l : List Nat, lastOf l = l.getLast?
  | [] => rfl
  | [x] => rfl
  | _ :: y :: l => by
    show lastOf (y :: l) = _
    rw [lastOf_eq (y :: l), List.getLast?_cons_cons]

theorem findBorn_ER {n : Nat} {es es' : List MapEntry} (r : ER σ es es') {e : MapEntry} (h : findBorn n es = some e) : ∃ e', es'.find? (·.born == n) = some e' ∧ EntR σ e e' := by
  induction r with
  | nil => cases h
  | cons a _ ih =>
    rename_i x y l l' _
    unfold findBorn at h
    rw [List.find?_cons]
    have hb : x.born = y.born := a.2.2
    cases g : Nat.beq x.born n with
    | true =>
      rw [g] at h; cases h
      have := Nat.eq_of_beq_eq_true g
      rw [← hb, this]
      exact ⟨y, by simp, a⟩
    | false =>
      rw [g] at h
      have : (y.born == n) = false := by
        rw [beq_eq_false_iff_ne]
        intro q
        rw [← hb] at q
        rw [q, show Nat.beq n n = true by rw [Nat.beq_eq]] at g
        cases g
      rw [this]
      exact ih h

theorem ventry_sim {it it' : Value} {x : Next × VH} (r : R W P σ h w) (e : (ventry it).run h = some x) (hv : VRel σ it it') : MSim W P σ VN w x (Instr.entry it') := by
  unfold ventry at e
  split at e
  · rename_i rr
    obtain ⟨o, hg, e1⟩ := HM.run_rd e
    cases hv with
    | ptr ha =>
      rename_i a'
      unfold entryK at e1
      split at e1
      · rename_i mr since seen
        obtain ⟨st, hst, e2⟩ := hopt_run e1
        obtain ⟨o, hgm, e3⟩ := HM.run_rd e2
        obtain ⟨es, c, rfl, e4⟩ := asMap_run e3
        obtain ⟨m, m', g1, g2, g3, g4, g5⟩ := r.miter hg
        obtain ⟨mm, es', k1, k2, k3⟩ := r.map hgm
        rw [g2] at k1; cases k1
        obtain ⟨a0, a1, m1, a2, a3, a4⟩ := ha
        simp only at a2 a4
        rw [g1] at a2; cases a2
        have hae := addr_eq a1 a3 (show a'.off = 0 by omega)
        subst hae
        have hgo := run_getObj (P := P) g3 (by intro c e f h; cases h)
        have hgm' := run_getObj (P := P) k2 (by intro c e f h; cases h)
        unfold entryOf at e4
        split at e4
        · rename_i hcs
          have hcs := Nat.eq_of_beq_eq_true hcs
          subst hcs
          obtain ⟨en, hen, e5⟩ := hopt_run e4
          obtain ⟨en', hf, hr⟩ := findBorn_ER k3 hen
          rw [lastOf_eq] at hst
          have hback : (⟨seen⟩ : Array Nat).back? = some st := by
            rw [← hst]; simp
          have hf' : es'.find? (fun x => x.born == st) = some en' := by rw [← Array.find?_toList]; exact hf
          refine MSim.here r e5 (v' := .tuple #[en'.key, en'.val]) ?_ (LR.tuple (.cons hr.1 (.one hr.2.1)))
          simp only [Instr.entry, Sem.run_bind, hgo, Result.andThen_ok, hback, hgm']
          simp [hf']
        · cases e4
      · cases e1
  · cases e

/-! ### unsafe.String -/

theorem liesAt_off {e : TypeId} (hc : P.cellsOf e = 1) (count off n : Nat) (hn : off + n ≤ count) : liesAt P P.depth e count off e n = true := by
  have hd : P.depth = (2 * (P.types.size + Made.depth) + 1) + 1 := rfl
  rw [hd]
  simp only [liesAt, Bool.or_eq_true]
  left
  rw [hd]
  simp [rowAt, hc, hn, sameLayout, Nat.mod_one]

theorem freeze_eq {b off n : Nat} {c : Array Value} {e : TypeId} {fr : Nat × Nat} (hb : w.heap[b]? = some (.cells c e fr)) (hn : n ≠ 0) :
    w.freeze ⟨b, off, none⟩ n = setB w b (.cells c e (if fr.1 == fr.2 then (off, off + n) else (min fr.1 off, max fr.2 (off + n)))) := by
  obtain ⟨lo, hi⟩ := fr
  unfold World.freeze setB
  rw [if_neg hn]
  congr 1
  apply Array.ext_getElem?
  intro i
  rw [Array.getElem?_modify, Array.getElem?_setIfInBounds]
  by_cases hi : b = i
  · subst hi
    rw [if_pos rfl, if_pos rfl, if_pos (lt_of_get hb), hb]
    rfl
  · rw [if_neg hi, if_neg hi]

theorem hull_FrR {d sz off n : Nat} {fr fr' : Nat × Nat} (hf : FrR d sz fr fr') (h1 : fr.1 < UNK) (h2 : off < UNK) (hn : n ≠ 0) :
    FrR d sz (hull fr off n) (if fr'.1 == fr'.2 then (off + d, off + d + n) else (min fr'.1 (off + d), max fr'.2 (off + d + n))) := by
  unfold hull
  rcases hf with ⟨q1, q2⟩ | ⟨q0, q1, q2, q3⟩ | ⟨q1, _⟩
  · rw [q1, show Nat.beq fr.2 fr.2 = true by rw [Nat.beq_eq], q2]
    simp only [beq_self_eq_true, if_true]
    refine .inr (.inl ⟨h2, ?_, rfl, ?_⟩)
    · show off < off + n; omega
    · show off + d + n = off + n + d; omega
  · have hne : Nat.beq fr.1 fr.2 = false := by
      cases g : Nat.beq fr.1 fr.2 with
      | false => rfl
      | true => have := Nat.eq_of_beq_eq_true g; omega
    have hne' : (fr'.1 == fr'.2) = false := by rw [beq_eq_false_iff_ne]; omega
    rw [hne, hne']
    simp only [Bool.false_eq_true, if_false]
    have e1 : Nat.min fr.1 off = min fr.1 off := rfl
    have e2 : Nat.max fr.2 (Nat.add off n) = max fr.2 (off + n) := rfl
    rw [e1, e2]
    refine .inr (.inl ⟨?_, ?_, ?_, ?_⟩)
    · show min fr.1 off < UNK; exact Nat.lt_of_le_of_lt (Nat.min_le_left _ _) q0
    · show min fr.1 off < max fr.2 (off + n); have := Nat.min_le_left fr.1 off; have := Nat.le_max_left fr.2 (off + n); omega
    · show min fr'.1 (off + d) = min fr.1 off + d; rw [q2]; omega
    · show max fr'.2 (off + d + n) = max fr.2 (off + n) + d; rw [q3]; omega
  · exact absurd q1 (by omega)

theorem unsafeString_none (t : TypeId) (ts : List TypeId) (ty : TypeId) (k : IntKind) : (Builtin.unsafeString_ ⟨t :: ts⟩ ty ⟨[.pointer none, .int k 0]⟩).run P w = .ok (.string ⟨#[]⟩) w := by
  have hdef : Builtin.unsafeString_ ⟨t :: ts⟩ ty ⟨[.pointer none, .int k 0]⟩ =
      (do
        let n ← asInt (.int k 0)
        if n < 0 then runtimePanic (.error "unsafe.String: len out of range")
        if n > IntKind.i64.max then unsupported (.unsafePointer "String: a length above the largest int")
        if n = 0 then pure (.string .empty)
        else runtimePanic (.error "unsafe.String: ptr is nil and len is not zero")) := rfl
  rw [hdef]
  have hmax : IntKind.i64.max = 9223372036854775807 := rfl
  simp [asInt, asIntOf, hmax]
  rfl

theorem unsafeString_some (t : TypeId) (ts : List TypeId) (ty : TypeId) (k : IntKind) (a : Addr) (n : Int) : Builtin.unsafeString_ ⟨t :: ts⟩ ty ⟨[.pointer (some a), .int k n]⟩ =
      (do
        let n ← asInt (.int k n)
        if n < 0 then runtimePanic (.error "unsafe.String: len out of range")
        if n > IntKind.i64.max then unsupported (.unsafePointer "String: a length above the largest int")
        if n = 0 then pure (.string .empty)
        else if ← variablesAt a (← elemOf t) n.toNat then do
          let s ← loadBytes a .empty n.toNat
          freeze a n.toNat
          pure (.string s)
        else unsupported (.unsafePointer "String: not so many bytes at ptr")) := rfl

theorem hcells_run {b off n : Nat} {c : Array Value} {e : TypeId} {fr : Nat × Nat} (hb : w.heap[b]? = some (.cells c e fr)) {ns : List Int} (hc : (c.toList.drop off).take n = ns.map (Value.int .u8)) {bs : List UInt8}
    (hbs : bs = ns.map (fun n => UInt8.ofNat n.toNat)) (hn : off + n ≤ c.size) : (loadBytes ⟨b, off, none⟩ .empty bs.length).run P w = .ok ⟨⟨bs⟩⟩ w := by
  subst hbs
  have key : ∀ (ns : List Int) (off : Nat) (acc : ByteArray), (∀ (j : Nat) (x : Int), ns[j]? = some x → c[off + j]? = some (.int .u8 x)) → (loadBytes ⟨b, off, none⟩ acc ns.length).run P w = .ok ⟨acc.data ++ (ns.map (fun n => UInt8.ofNat n.toNat)).toArray⟩ w := by
    intro ns
    induction ns with
    | nil => intro off acc _; simp [loadBytes]
    | cons x l ih =>
      intro off acc hj
      have h0 : w.cell? ⟨b, off, none⟩ = some (.int .u8 x) := by rw [cell_at hb]; exact hj 0 x rfl
      have hadd : (⟨b, off, none⟩ : Addr).add 1 = ⟨b, off + 1, none⟩ := rfl
      have := ih (off + 1) (acc.push x.toNat.toUInt8) (fun j y hy => by rw [show off + 1 + j = off + (j + 1) by omega]; exact hj (j + 1) y (by simpa using hy))
      simp only [List.length_cons, loadBytes, Sem.run_bind, run_load, h0, Result.andThen, hadd]
      rw [this]
      congr 1
      apply ByteArray.ext
      simp [ByteArray.push]
  rw [List.length_map]
  rw [key ns off .empty]
  · congr 1
    simp
  · intro j x hj
    have hlt : j < n := by
      have h1 : ns.length = n := by
        have := congrArg List.length hc
        simp at this
        omega
      rcases Nat.lt_or_ge j ns.length with g | g
      · omega
      · rw [List.getElem?_eq_none g] at hj; cases hj
    have : ((c.toList.drop off).take n)[j]? = some (.int .u8 x) := by rw [hc]; simp [hj]
    rw [List.getElem?_take, if_pos hlt, List.getElem?_drop, Array.getElem?_toList] at this
    exact this

theorem vunsafeString_sim {ts : List TypeId} {args args' : List Value} {ty : TypeId} {x : Next × VH} (r : R W P σ h w) (e : (vunsafeString P ts args).run h = some x) (ha : LR σ args args') : MSim W P σ VN w x (Builtin.unsafeString_ ⟨ts⟩ ty ⟨args'⟩) := by
  unfold vunsafeString at e
  have hmax : IntKind.i64.max = 9223372036854775807 := rfl
  split at e
  · rename_i p k n
    cases ha with
    | cons hp ht =>
      cases ht with
      | cons hi hnil =>
        cases hnil
        rw [hi.int_inv]
        split at e
        · rename_i t ts'
          unfold strAt at e
          split at e
          · -- of no byte
            cases hp with
            | nilp => exact MSim.here r e (v' := .string ⟨#[]⟩) (unsafeString_none _ _ _ _) (.string _)
            | ptr hr => exact MSim.here r e (v' := .string ⟨#[]⟩) (by rw [unsafeString_some]; simp [asInt, asIntOf, hmax]; rfl) (.string _)
          · rename_i n0
            split at e
            · rename_i b off
              split at e
              · rename_i hle
                have hle := Nat.le_of_ble_eq_true hle
                split at e
                · rename_i u ht
                  have ht := tyUnd_some ht
                  obtain ⟨o, hg, e1⟩ := HM.run_rd e
                  unfold strK at e1
                  split at e1
                  · rename_i rn f rr et fr
                    split at e1
                    · rename_i hue hfr hoff
                      have hue := Nat.eq_of_beq_eq_true hue
                      subst hue
                      rw [Nat.blt_eq] at hfr hoff
                      split at e1
                      · rename_i hte hsz
                        obtain ⟨l, hl, e2⟩ := hopt_run e1
                        obtain ⟨bs, hbs, e3⟩ := hopt_run e2
                        obtain ⟨t1, t2⟩ := take?_some hl
                        rw [drp_eq] at t1 t2
                        obtain ⟨m, c, fr', g1, g2, g3, g4, g5, g6, g7⟩ := r.row hg
                        cases hp with
                        | ptr hr =>
                          rename_i a'
                          obtain ⟨a0, a1, m', a2, a3, a4⟩ := hr
                          simp only at a2 a4
                          rw [g1] at a2; cases a2
                          have hae := addr_eq a1 a3 a4
                          subst hae
                          obtain ⟨o0, _, e4⟩ := HM.run_wr e3
                          cases e4
                          have hlen : off + (n0 + 1) ≤ (rowList f rr).length := by simp at t1; omega
                          have hb : m.d + (rowList f rr).length ≤ c.size := by
                            rcases g5.bound with e0 | e0
                            · rw [e0] at hlen; simp at hlen
                            · exact e0
                          have hll : l.length = n0 + 1 := by rw [t2]; simp; omega
                          have hpc := g5.piece hlen
                          rw [← t2] at hpc
                          obtain ⟨ns, hns, hbn⟩ := vbytes_some hbs
                          rw [hns] at hpc
                          have hcells := hpc.ints
                          have hci := sizeT_cellsOf hsz
                          have hnl : ns.length = n0 + 1 := by rw [← hll, hns]; simp
                          have hbl : bs.length = n0 + 1 := by rw [hbn]; simp [hnl]
                          have hlies := liesAt_off (P := P) hci (c.size / P.cellsOf u) (off + m.d) (n0 + 1) (by rw [hci]; simp; omega)
                          have hsh : w.shape? m.b = some (u, c.size) := by simp [World.shape?, g2]
                          have hlb := hcells_run (P := P) g2 (off := off + m.d) (by rw [show off + m.d = m.d + off by omega]; exact hcells) hbn (by omega)
                          rw [hbl] at hlb
                          have hup := r.upd g1 hg (o := .row rn f rr u (hull fr off (n0 + 1))) (O := .cells c u (if fr'.1 == fr'.2 then (off + m.d, off + m.d + (n0 + 1)) else (min fr'.1 (off + m.d), max fr'.2 (off + m.d + (n0 + 1)))))
                            (.row g3 g4 g5 (hull_FrR g6 hfr hoff (by omega)) g7)
                          refine ⟨.string ⟨⟨bs⟩⟩, _, σ, ?_, Ren.le_refl σ, hup, _, rfl, .string _⟩
                          rw [unsafeString_some]
                          have h1 : ¬ (Int.ofNat (n0 + 1) : Int) < 0 := by show ¬ ((n0 : Int) + 1 < 0); omega
                          have h2 : ¬ (9223372036854775807 : Int) < Int.ofNat (n0 + 1) := by show ¬ (9223372036854775807 : Int) < (n0 : Int) + 1; omega
                          have h3 : ¬ (Int.ofNat (n0 + 1) : Int) = 0 := by show ¬ ((n0 : Int) + 1 = 0); omega
                          have h4 : (Int.ofNat (n0 + 1)).toNat = n0 + 1 := rfl
                          have hfz := freeze_eq (n := n0 + 1) (off := off + m.d) g2 (by omega)
                          simp only [asInt, asIntOf, Sem.run_bind, Sem.run_pure, Result.andThen_ok, hmax, gt_iff_lt, h1, h2, h3, h4, if_false, elemOf, run_underlying w ht, variablesAt, run_program]
                          simp [hsh, hlies, hlb, hfz]
                      · cases e1
                    · cases e1
                  · cases e1
                · cases e
              · cases e
            · cases e
        · cases e
  · cases e

end
end Go.Proofs.YtonkcdnpmemheaaGreat.Vm

namespace Go.Proofs.YtonkcdnpmemheaaGreat.Vm

/-- what is asked of the program beside -/
structure POk (P : Program) : Prop where
  mixed : P.follows .mixedOrders = true
  name : ∀ (f : FuncId) (fn : Func), P.funcs[f]? = some fn → (fn.name == "runtime.NumGoroutine") = false
  ext : ∀ (f : FuncId) (fn : Func), P.funcs[f]? = some fn → fn.name = "internal/abi.NoEscape" ∨ fn.name = "internal/bytealg.abigen_runtime_cmpstring" ∨ fn.name = "internal/bytealg.MakeNoZero" → Extern.findNext fn = none

theorem cmp_range (g : Nat → Bool) : ∀ n : Nat, (List.range (n + 1)).find? g = (if g 0 then some 0 else ((List.range n).find? (fun i => g (i + 1))).map (· + 1)) := by
  intro n
  rw [List.range_succ_eq_map, List.find?_cons]
  cases h : g 0 with
  | true => rfl
  | false =>
    simp only [Bool.false_eq_true, if_false, List.find?_map]
    rfl

def cmpL (a b : List UInt8) : Int :=
  match (List.range (min a.length b.length)).find? fun i => a[i]! != b[i]! with
  | some i => if a[i]! < b[i]! then -1 else 1
  | none => if a.length < b.length then -1 else if a.length > b.length then 1 else 0

theorem cmpL_eq : ∀ a b : List UInt8, cmpBytes a b = cmpL a b
  | [], [] => rfl
  | [], y :: b => by simp [cmpBytes, cmpL]
  | x :: a, [] => by simp [cmpBytes, cmpL]
  | x :: a, y :: b => by
    have ih := cmpL_eq a b
    have hmin : min (x :: a).length (y :: b).length = min a.length b.length + 1 := by simp
    unfold cmpL
    rw [hmin, cmp_range]
    unfold cmpBytes
    have hb : ∀ u v : UInt8, (Nat.blt u.toNat v.toNat = true) = (u < v) := fun u v => by rw [Nat.blt_eq]; rfl
    simp only [hb, List.getElem!_cons_zero, List.getElem!_cons_succ]
    by_cases hxy : x = y
    · subst hxy
      have : ¬ x < x := UInt8.lt_irrefl x
      simp only [this, if_false, bne_self_eq_false, Bool.false_eq_true, if_false]
      rw [ih]
      unfold cmpL
      cases hf : (List.range (min a.length b.length)).find? (fun i => a[i]! != b[i]!) with
      | none => simp
      | some i => simp
    · have hne : (x != y) = true := by simpa using hxy
      simp only [hne, if_true]
      simp only [List.getElem!_cons_zero]
      by_cases hlt : x < y
      · simp [hlt]
      · have : y < x := by
          rw [UInt8.lt_iff_toNat_lt] at hlt ⊢
          have : x.toNat ≠ y.toNat := fun q => hxy (UInt8.toNat_inj.1 q)
          omega
        simp [hlt, this]

theorem cmp_eq (a b : ByteArray) : Extern.BytealgCompare.cmp a b = cmpBytes a.data.toList b.data.toList := by
  rw [cmpL_eq]
  obtain ⟨⟨a⟩⟩ := a
  obtain ⟨⟨b⟩⟩ := b
  have hg : ∀ (l : List UInt8) (i : Nat), (ByteArray.mk ⟨l⟩)[i]! = l[i]! := by
    intro l i
    by_cases hi : i < l.length
    · rw [getElem!_pos (ByteArray.mk ⟨l⟩) i (show i < (ByteArray.mk ⟨l⟩).size from hi), getElem!_pos l i hi]; rfl
    · rw [getElem!_neg (ByteArray.mk ⟨l⟩) i (show ¬ i < (ByteArray.mk ⟨l⟩).size from hi), getElem!_neg l i hi]
  unfold Extern.BytealgCompare.cmp cmpL
  simp only [hg]
  rfl

/-- an operation's run; a call to be made leaves the world as it is -/
def MSimE (W : Frm) (P : Program) (σ : Ren) (h : VH) (w : World) (x : Next × VH) (s : Sem Next) : Prop :=
  ∃ y w' τ, s.run P w = .ok y w' ∧ σ.le τ ∧ R W P τ x.2 w' ∧ NRel τ x.1 y ∧ (∀ g a, x.1 = .enter g a → w' = w ∧ x.2 = h ∧ τ = σ)

section
variable {W : Frm} {P : Program} {σ : Ren} {h : VH} {w : World}

theorem MSimE.sim {x : Next × VH} {s : Sem Next} (m : MSimE W P σ h w x s) : MSim W P σ NRel w x s := by
  obtain ⟨y, w', τ, h1, h2, h3, h4, _⟩ := m
  exact ⟨y, w', τ, h1, h2, h3, h4⟩

theorem ext_find1 {fn : Func} (hn : fn.name = "internal/abi.NoEscape") : Extern.find fn = some Extern.AbiNoEscape.same := by
  have h1 : Extern.allGenericRows.lookup "internal/abi.NoEscape" = none := by kernel_rfl
  have h2 : Extern.allTypedRows.lookup "internal/abi.NoEscape" = none := by kernel_rfl
  have h3 : Extern.allRows.lookup "internal/abi.NoEscape" = some Extern.AbiNoEscape.same := by kernel_rfl
  simp [Extern.find, hn, h1, h2, h3]
theorem ext_find2 {fn : Func} (hn : fn.name = "internal/bytealg.abigen_runtime_cmpstring") : Extern.find fn = some Extern.BytealgCompare.compare := by
  have h1 : Extern.allGenericRows.lookup "internal/bytealg.abigen_runtime_cmpstring" = none := by kernel_rfl
  have h2 : Extern.allTypedRows.lookup "internal/bytealg.abigen_runtime_cmpstring" = none := by kernel_rfl
  have h3 : Extern.allRows.lookup "internal/bytealg.abigen_runtime_cmpstring" = some Extern.BytealgCompare.compare := by kernel_rfl
  simp [Extern.find, hn, h1, h2, h3]
theorem ext_find3 {fn : Func} (hn : fn.name = "internal/bytealg.MakeNoZero") : Extern.find fn = some (Extern.BytealgMakeNoZero.makeNoZero fn.params fn.resultTypes) := by
  have h1 : Extern.allGenericRows.lookup "internal/bytealg.MakeNoZero" = none := by kernel_rfl
  have h2 : Extern.allTypedRows.lookup "internal/bytealg.MakeNoZero" = some Extern.BytealgMakeNoZero.makeNoZero := by kernel_rfl
  simp [Extern.find, hn, h1, h2]

theorem noZero_sim {et t : TypeId} {ps : Array TypeId} {n : Nat} {x : Next × VH} (r : R W P σ h w) (e : (noZero et n).run h = some x) (ht : P.underlying t = some (.slice et)) (hc : P.cellsOf et = 1) :
    MSim W P σ VN w x (Extern.BytealgMakeNoZero.makeNoZero ps #[t] #[.int .i64 n]) := by
  unfold noZero at e
  split at e
  · rename_i hle
    have hle := Nat.le_of_ble_eq_true hle
    obtain ⟨cs, h1, h2, h3⟩ := Lib.run_makeNoZero (P := P) w ps t et ht n (by omega)
    obtain ⟨τ, h5, t1, t2, t3, t4⟩ := newRow_sim (r.drew.drew) e (c' := cs) (by
      intro i y hy
      rw [rep_eq, List.append_nil] at hy
      have hi : i < n := by
        rcases Nat.lt_or_ge i n with g | g
        · exact g
        · rw [List.getElem?_eq_none (by simp; omega)] at hy; cases hy
      have hy' : y = poison := by
        have := List.mem_of_getElem? hy
        simp at this
        exact this.2
      subst hy'
      exact ⟨cs[i]'(by omega), Array.getElem?_eq_getElem _, .poison _ _ _ _⟩)
    cases t3
    refine ⟨_, _, τ, h1, t1, t2, _, rfl, ?_⟩
    exact .unk (m := ⟨w.heap.size, 0, cs.size⟩) _ _ _ rfl rfl t4 rfl rfl (by omega) h2 (by simp) (Nat.zero_mod _)
  · cases e

theorem vextern_sim (hP : POk P) {f : FuncId} {fn : Func} (hf : P.funcs[f]? = some fn) (hb : fn.body.isSome = false) {args args' : List Value} {x : Next × VH} (r : R W P σ h w) (e : (vextern P fn args).run h = some x) (ha : LR σ args args') :
    MSimE W P σ h w x (callFunc f ⟨args'⟩) := by
  have hb' : fn.body.isNone = true := by cases hq : fn.body <;> simp_all
  have fin : ∀ (g : Array Value → Sem Value), Extern.findNext fn = none → Extern.find fn = some g → MSim W P σ VN w x (g ⟨args'⟩) → MSimE W P σ h w x (callFunc f ⟨args'⟩) := by
    intro g h1 h2 m
    obtain ⟨y, w', τ, e1, e2, e3, v, e4, e5⟩ := m
    refine ⟨.value y, w', τ, ?_, e2, e3, by rw [e4]; exact .value e5, fun g a q => by rw [e4] at q; cases q⟩
    rw [run_callFunc_extern hf (hP.name f fn hf) hb' h1 h2, e1]
    rfl
  unfold vextern at e
  split at e
  · rename_i hn
    have hn : fn.name = "internal/abi.NoEscape" := by simpa using hn
    refine fin _ (hP.ext f fn hf (.inl hn)) (ext_find1 hn) ?_
    split at e
    · cases ha with
      | cons hx ht =>
        cases ht
        exact MSim.here r e (by rfl) hx
    · cases e
  · split at e
    · rename_i hn
      have hn : fn.name = "internal/bytealg.abigen_runtime_cmpstring" := by simpa using hn
      refine fin _ (hP.ext f fn hf (.inr (.inl hn))) (ext_find2 hn) ?_
      split at e
      · rename_i a b
        cases ha with
        | cons hx ht =>
          cases ht with
          | cons hy ht =>
            cases ht
            rw [hx.string_inv, hy.string_inv]
            refine MSim.here r e (v' := .int .i64 (cmpBytes a.data.toList b.data.toList)) ?_ (.int _ _)
            rw [← cmp_eq]
            rfl
      · cases e
    · split at e
      · rename_i hn
        have hn : fn.name = "internal/bytealg.MakeNoZero" := by simpa using hn
        refine fin _ (hP.ext f fn hf (.inr (.inr hn))) (ext_find3 hn) ?_
        split at e
        · rename_i n t hrt
          obtain ⟨⟨et, size, z⟩, he, e1⟩ := hopt_run e
          obtain ⟨i, zv, ht, hi, hsz, h0, hb, hz, hzl, hlen, hzt, hzz⟩ := elemT_some he
          simp only at e1
          split at e1
          · have hrt : fn.resultTypes = #[t] := by apply Array.ext'; exact hrt
            rw [hrt]
            cases ha with
            | cons hx ht' =>
              cases ht'
              rw [hx.int_inv]
              exact noZero_sim r e1 ht (by rw [sizeT_of_info hi, hsz])
          · cases e1
        · cases e
      · cases e

theorem vcallFunc_sim (hP : POk P) {f : FuncId} {args args' : List Value} {x : Next × VH} (r : R W P σ h w) (e : (vcallFunc P f args).run h = some x) (ha : LR σ args args') :
    MSimE W P σ h w x (callFunc f ⟨args'⟩) := by
  unfold vcallFunc at e
  have hbo : ∀ b, bodyOf P f = some b → ∃ fn, P.funcs[f]? = some fn ∧ fn.body.isSome = b := by
    intro b hb
    unfold bodyOf at hb
    split at hb
    · rename_i fn hfn
      cases hb
      rw [nth?_eq] at hfn
      exact ⟨fn, by rw [← Array.getElem?_toList]; exact hfn, rfl⟩
    · cases hb
  split at e
  · rename_i hb
    obtain ⟨fn, hf, hbs⟩ := hbo _ hb
    cases e
    refine ⟨.enter f ⟨args'⟩, w, σ, ?_, Ren.le_refl σ, r, .enter f ha, fun _ _ _ => ⟨rfl, rfl, rfl⟩⟩
    have h1 := hP.name f fn hf
    have h1' : fn.name ≠ "runtime.NumGoroutine" := by simpa using h1
    have h2 : fn.body.isNone = false := by cases hq : fn.body <;> simp_all
    simp [callFunc, hf, h1', Sem.run]
    cases hq : fn.body with
    | none => rw [hq] at h2; cases h2
    | some c => simp [Sem.run]
  · rename_i hb
    obtain ⟨fn, hf, hbs⟩ := hbo _ hb
    unfold vcallExt at e
    have hf' : nth? P.funcs.toList f = some fn := by rw [nth?_eq]; simpa using hf
    rw [hf'] at e
    exact vextern_sim hP hf hbs r e ha
  · cases e

end
end Go.Proofs.YtonkcdnpmemheaaGreat.Vm

namespace Go.Proofs.YtonkcdnpmemheaaGreat.Vm
section
variable {W : Frm} {P : Program} {σ : Ren} {h : VH} {w : World}

/-! ### a loop's body as a function -/

theorem setAll_nil (t : List Value) : setAll [] [] t = some t := rfl
theorem setAll_nil_cons (v : Value) (vs t : List Value) : setAll [] (v :: vs) t = none := rfl
theorem setAll_cons_nil (d : Tmp) (ds : List Tmp) (t : List Value) : setAll (d :: ds) [] t = none := rfl
theorem setAll_cons {d : Nat} {ds : List Nat} {v : Value} {vs t r : List Value} (h : setAll (d :: ds) (v :: vs) t = some r) : ∃ t', putAt t d [v] = some t' ∧ setAll ds vs t' = some r := by
  have h' : Option.rec (motive := fun _ => Option (List Value)) none (fun t => setAll ds vs t) (putAt t d [v]) = some r := h
  cases g : putAt t d [v] with
  | none => rw [g] at h'; cases h'
  | some t' => rw [g] at h'; exact ⟨t', rfl, h'⟩

theorem setAll_sim {live : Nat} : ∀ {ps : List Nat} {args args' t r : List Value} {c : Array Value}, setAll ps args t = some r → LR σ args args' → TmpsR σ live t c →
    (∀ p, p ∈ ps → p < c.size) →
    ps.length = args'.length ∧ TmpsR σ live r ((ps.zip args').foldl (fun c (p : Nat × Value) => c.setIfInBounds p.1 p.2) c) ∧ ((ps.zip args').foldl (fun c (p : Nat × Value) => c.setIfInBounds p.1 p.2) c).size = c.size := by
  intro ps
  induction ps with
  | nil =>
    intro args args' t r c h ha ht _
    cases ha with
    | nil => cases h; exact ⟨rfl, ht, rfl⟩
    | cons _ _ => cases h
  | cons d ds ih =>
    intro args args' t r c h ha ht hp
    cases ha with
    | nil => cases h
    | cons hx hr =>
      rename_i x y l l'
      obtain ⟨t', h1, h2⟩ := setAll_cons h
      obtain ⟨h3, h4⟩ := putAt_some h1
      have hd : d < c.size := hp d (List.mem_cons_self ..)
      obtain ⟨i1, i2, i3⟩ := ih (c := c.setIfInBounds d y) h2 hr (by
        intro k z hk hz
        rw [h4] at hz
        simp only [List.length_cons, List.length_nil, Nat.zero_add] at h3 hz
        by_cases hkd : k = d
        · subst hkd
          have : z = x := by
            rw [List.append_assoc, List.getElem?_append, if_neg (by simp; omega)] at hz
            have hl : (t.take k).length = k := by simp; omega
            rw [hl, Nat.sub_self] at hz
            simp at hz
            exact hz.symm
          subst this
          simpa [Array.getD, hd] using hx
        · have hz' : t[k]? = some z := by
            have hl : (t.take d).length = d := by simp; omega
            rcases Nat.lt_or_ge k d with hlt | hge
            · rw [List.append_assoc, List.getElem?_append_left (by omega), List.getElem?_take, if_pos hlt] at hz; exact hz
            · have hne : k ≠ (d : Nat) := hkd
              rw [List.getElem?_append_right (by rw [List.length_append, hl]; simp only [List.length_cons, List.length_nil]; omega), List.getElem?_drop] at hz
              have : d + 1 + (k - (t.take d ++ [x]).length) = k := by rw [List.length_append, hl]; simp; omega
              rw [this] at hz
              exact hz
          have := ht k z hk hz'
          rw [Array.getD_eq_getD_getElem?] at this ⊢
          rw [Array.getElem?_setIfInBounds, if_neg (fun q => hkd q.symm)]
          exact this) (by
        intro p hp'
        rw [Array.size_setIfInBounds]
        exact hp p (List.mem_cons_of_mem _ hp'))
      exact ⟨by simp [i1], i2, by rw [show ((d :: ds).zip (y :: l')).foldl (fun c (p : Nat × Value) => c.setIfInBounds p.1 p.2) c = (ds.zip l').foldl (fun c (p : Nat × Value) => c.setIfInBounds p.1 p.2) (c.setIfInBounds d y) from rfl, i3, Array.size_setIfInBounds]⟩

theorem vyield_sim {l : Nat} {args args' : List Value} {m : NM} {x : Next × VH} (r : R W P σ h w) (e : (HM.rd l (vyieldTo l args)).run h = some x) (hl : σ l = some m) (ha : LR σ args args') :
    MSim W P σ NRel w x (Instr.yield m.b ⟨args'⟩) := by
  obtain ⟨o, hg, e1⟩ := HM.run_rd e
  unfold vyieldTo at e1
  split at e1
  · rename_i st p live tmps ps assign body D
    obtain ⟨t, ht, e2⟩ := hopt_run e1
    cases e2
    obtain ⟨m', O, h1, h2, h3⟩ := r.obj _ _ hg
    rw [hl] at h1; cases h1
    cases h3 with
    | loop hD hT hp hA hB =>
      rename_i tmps' mD fn
      obtain ⟨s1, s2, s3⟩ := setAll_sim ht ha hT hp
      have hgo := run_getObj (P := P) h2 (by intro c e f h; cases h)
      refine ⟨_, w, σ, ?_, Ren.le_refl σ, r, NRel.round (fn := fn) hl (tmps' := (ps.zip args').foldl (fun c (p : Nat × Value) => c.setIfInBounds p.1 p.2) tmps') s2 (by rw [s3]; exact hA) (by rw [s3]; exact hB)⟩
      have hz : (Array.mk ps).zip (Array.mk args') = Array.mk (ps.zip args') := by simp
      simp [Instr.yield, Instr.getLoop, hgo, s1]
  · cases e1

/-! ### calls -/

theorem vinvoke_sim (hP : POk P) {d d' : Deferred} {x : Next × VH} (r : R W P σ h w) (e : (vinvoke P d).run h = some x) (hd : DefR σ d d') : MSimE W P σ h w x (invoke d'.target d'.args) := by
  cases hd with
  | mark => cases e
  | fn hf hc ha =>
    rename_i f f' cs cs' args args'
    unfold vinvoke at e
    simp only at e
    have hcall : ∀ {t : TypeId} {name : String} {g : FuncId} {v' : Value} {rest' : List Value} {l : List Value}, methodOf P t name = some g → (vcallFunc P g l).run h = some x → LR σ l (v' :: rest') →
        MSimE W P σ h w x (callMethod (.iface t v') name ⟨rest'⟩) := by
      intro t name g v' rest' l hg he hl
      obtain ⟨y, w', τ, e1, e2⟩ := vcallFunc_sim hP r he hl
      refine ⟨y, w', τ, ?_, e2⟩
      have hm := method_run hg (P.types.size + 99) v' w
      simp only [callMethod, Sem.run_bind, run_program, Result.andThen_ok]
      rw [show P.types.size + Made.depth = P.types.size + 99 + 1 from rfl, hm]
      have hap : #[v'] ++ (Array.mk rest') = ⟨v' :: rest'⟩ := by simp
      show (callFunc g (#[v'] ++ Array.mk rest')).run P w = _
      rw [hap]
      exact e1
    split at e
    · rename_i args0 g captured ht
      cases ht
      have : f' = .func g := hf
      subst this
      have := vcallFunc_sim hP r e (ha.append hc)
      have he : (⟨args'.toList ++ cs'.toList⟩ : Array Value) = args' ++ cs' := by apply Array.ext'; simp
      rw [he] at this
      exact this
    · rename_i t name captured x0 rest ht hargs
      cases ht
      have : f' = .methodOf t name := hf
      subst this
      rw [hargs] at ha
      obtain ⟨args'⟩ := args'
      cases ha with
      | cons hx hr =>
        rename_i y l'
        split at e
        · cases e
        · rename_i d hd0 hne
          have hu := tyUnd_some hne
          split at e
          · rename_i g hg
            obtain ⟨y', w', τ, e1, e2⟩ := hcall (v' := y) (rest' := l') hg e (.cons hx hr)
            refine ⟨y', w', τ, ?_, e2⟩
            have hext : (Array.mk (y :: l')).extract 1 (Array.mk (y :: l')).size = ⟨l'⟩ := by simp
            have hdef : invoke (.fn (.methodOf t name) cs') ⟨y :: l'⟩ = (do
              let recv := match ← underlying t with
                | .interface _ => y
                | _ => .iface t y
              callMethod recv name ((Array.mk (y :: l')).extract 1 (Array.mk (y :: l')).size)) := rfl
            show (invoke (.fn (.methodOf t name) cs') ⟨y :: l'⟩).run P w = _
            rw [hdef, hext, Sem.run_bind, run_underlying w hu, Result.andThen_ok]
            cases d <;> first | exact e1 | exact absurd rfl (hd0 _)
          · cases e
        · cases e
    · rename_i name captured t v rest ht hargs
      cases ht
      have : f' = .method name := hf
      subst this
      rw [hargs] at ha
      obtain ⟨args'⟩ := args'
      cases ha with
      | cons hx hr =>
        rename_i y l'
        cases hx with
        | iface t hv =>
          rename_i v'
          split at e
          · rename_i g hg
            obtain ⟨y', w', τ, e1, e2⟩ := hcall (v' := v') (rest' := l') hg e (.cons hv hr)
            refine ⟨y', w', τ, ?_, e2⟩
            have hext : (Array.mk (Value.iface t v' :: l')).extract 1 (Array.mk (Value.iface t v' :: l')).size = ⟨l'⟩ := by simp
            show (invoke (.fn (.method name) cs') ⟨.iface t v' :: l'⟩).run P w = _
            have hdef : invoke (.fn (.method name) cs') ⟨.iface t v' :: l'⟩ = callMethod (.iface t v') name ((Array.mk (Value.iface t v' :: l')).extract 1 (Array.mk (Value.iface t v' :: l')).size) := rfl
            rw [hdef, hext]
            exact e1
          · cases e
    · rename_i args0 l captured ht
      cases ht
      obtain ⟨m, hm, rfl⟩ := (hf : ∃ m, σ l = some m ∧ f' = .yield m.b)
      obtain ⟨y, w', τ, e1, e2, e3, e4⟩ := vyield_sim r e hm ha
      refine ⟨y, w', τ, e1, e2, e3, e4, fun g a q => ?_⟩
      obtain ⟨o, hg, e5⟩ := HM.run_rd e
      unfold vyieldTo at e5
      split at e5
      · obtain ⟨t, ht, e6⟩ := hopt_run e5
        cases e6; cases q
      · cases e5
    · cases e

end
end Go.Proofs.YtonkcdnpmemheaaGreat.Vm

namespace Go.Proofs.YtonkcdnpmemheaaGreat.Vm
section
variable {W : Frm} {P : Program} {σ : Ren} {h : VH} {w : World}

theorem LR.map {ρ ρ' : Operand → Value} (hρ : ∀ x, VRel σ (ρ x) (ρ' x)) : ∀ (l : List Operand), LR σ (l.map ρ) (l.map ρ')
  | [] => .nil
  | x :: l => .cons (hρ x) (LR.map hρ l)

theorem vresolve_sim {ρ ρ' : Operand → Value} (hρ : ∀ x, VRel σ (ρ x) (ρ' x)) {c : Call} {d : Deferred} (hd : vresolve ρ c = some d) (ty : TypeId) :
    ∃ d', (∀ w, (resolve ρ' c ty).run P w = .ok d' w) ∧ DefR σ d d' := by
  unfold vresolve at hd
  have hargs : c.args.map ρ' = ⟨c.args.toList.map ρ'⟩ := by apply Array.ext'; simp
  split at hd
  · cases hd
  · rename_i recv name hc
    cases hd
    refine ⟨⟨.fn (.method name) #[], #[ρ' recv] ++ c.args.map ρ'⟩, fun w => ?_, .fn (f := .method name) (f' := .method name) rfl .nil ?_⟩
    · simp only [resolve, hc]; rfl
    · rw [hargs]
      have : (#[ρ' recv] ++ (Array.mk (c.args.toList.map ρ'))).toList = ρ' recv :: c.args.toList.map ρ' := by simp
      rw [this]
      exact .cons (hρ recv) (LR.map hρ _)
  · rename_i f hc
    split at hd
    · rename_i fn first captured hf
      cases hd
      have hv := hρ f
      rw [hf] at hv
      cases hv' : ρ' f with
      | func fn' first' captured' =>
        rw [hv'] at hv
        cases hv with
        | func hfn h1 h2 h3 h4 =>
          refine ⟨⟨.fn fn' captured', first' ++ c.args.map ρ'⟩, fun w => ?_, .fn hfn (LR.of h3 h4) ?_⟩
          · simp only [resolve, hc, hv', Deferred.ofValue]; rfl
          · rw [hargs]
            have : (first' ++ (Array.mk (c.args.toList.map ρ'))).toList = first'.toList ++ c.args.toList.map ρ' := by simp
            rw [this]
            exact (LR.of h1 h2).append (LR.map hρ _)
      | _ => rw [hv'] at hv; cases hv
    · cases hd

theorem vminmax_sim {mx : Bool} {v : Value} {l : List Value} {l' : List Value} {v' : Value} {x : Next × VH} (r : R W P σ h w) (e : (retOpt (vminmax mx v l)).run h = some x) (hv : VRel σ v v') (hl : LR σ l l') :
    MSim W P σ VN w x (l'.foldlM (if mx then Builtin.max2 else Builtin.min2) v') := by
  unfold retOpt at e
  split at e
  · rename_i u hu
    obtain ⟨k2, n2, rfl⟩ : ∃ k n, v = .int k n := by
      unfold vminmax at hu
      split at hu
      · exact ⟨_, _, rfl⟩
      · exact ⟨_, _, rfl⟩
      · cases hu
    rw [hv.int_inv]
    obtain ⟨h1, k, n, rfl, _⟩ := minmax_run (P := P) (w := w) mx l l' _ u hu hl
    exact MSim.here r e h1 (.int _ _)
  · cases e

theorem vbuiltin_sim {b : Builtin} {ts : List TypeId} {args args' : List Value} {ty : TypeId} {cs : Array Bool} {x : Next × VH} (r : R W P σ h w) (e : (vbuiltin P b ts args).run h = some x) (ha : LR σ args args') :
    MSim W P σ NRel w x (builtin b ⟨ts⟩ ty cs ⟨args'⟩) := by
  unfold vbuiltin at e
  split at e
  · exact (vappend_sim (ty := ty) r e ha).value
  · exact (vlenOp_sim (ty := ty) r e ha).value
  · exact (vcap_sim (ty := ty) r e ha).value
  · exact (vcopy_sim (ty := ty) r e ha).value
  · exact (vclear_sim (ty := ty) r e ha).value
  · exact (vsliceData_sim (ty := ty) r e ha).value
  · exact (vunsafeString_sim (ty := ty) r e ha).value
  · split at e
    · cases ha with
      | cons hx ht => exact (vminmax_sim (mx := false) r e hx ht).value
    · cases e
  · split at e
    · cases ha with
      | cons hx ht => exact (vminmax_sim (mx := true) r e hx ht).value
    · cases e
  · cases e

theorem vcallOp_sim (hP : POk P) {ρ ρ' : Operand → Value} (hρ : ∀ x, VRel σ (ρ x) (ρ' x)) {c : Call} {ty : TypeId} {x : Next × VH} (r : R W P σ h w) (e : (vcallOp P ρ c).run h = some x) :
    MSim W P σ NRel w x (do let d ← resolve ρ' c ty; invoke d.target d.args) := by
  unfold vcallOp at e
  split at e
  · rename_i b hc
    obtain ⟨y, w', τ, e1, e2⟩ := vbuiltin_sim (ty := ty) (cs := c.args.map fun | .const _ => true | _ => false) r e (LR.map hρ _)
    refine ⟨y, w', τ, ?_, e2⟩
    have hargs : c.args.map ρ' = ⟨c.args.toList.map ρ'⟩ := by apply Array.ext'; simp
    simp only [resolve, hc, Sem.run_bind, Sem.run_pure, Result.andThen_ok, invoke, hargs]
    exact e1
  · split at e
    · rename_i d hd
      obtain ⟨d', h1, h2⟩ := vresolve_sim hρ hd ty
      obtain ⟨y, w', τ, e1, e2⟩ := (vinvoke_sim hP r e h2).sim
      refine ⟨y, w', τ, ?_, e2⟩
      rw [Sem.run_bind, h1, Result.andThen_ok]
      exact e1
    · cases e

theorem vdeferOp_sim {ρ ρ' : Operand → Value} (hρ : ∀ x, VRel σ (ρ x) (ρ' x)) {c : Call} {ty : TypeId} {x : Next × VH} (r : R W P σ h w) (e : (vdeferOp ρ c).run h = some x) :
    MSim W P σ NRel w x (do pure (.defer (← resolve ρ' c ty))) := by
  unfold vdeferOp at e
  split at e
  · rename_i d hd
    obtain ⟨d', h1, h2⟩ := vresolve_sim (P := P) hρ hd ty
    cases e
    refine ⟨.defer d', w, σ, ?_, Ren.le_refl σ, r, .defer h2⟩
    rw [Sem.run_bind, h1, Result.andThen_ok]
    rfl
  · cases e

theorem vmakeFunc_sim {ρ ρ' : Operand → Value} (hρ : ∀ x, VRel σ (ρ x) (ρ' x)) {fn : Fn} {fs cs : Array Operand} {v : Value} (e : vmakeFunc fn (fs.toList.map ρ) (cs.toList.map ρ) = some v) :
    PSim P σ v (Instr.makeFunc fn (fs.map ρ') (cs.map ρ')) := by
  unfold vmakeFunc at e
  split at e
  · cases e
  · rename_i f hne
    cases e
    refine ⟨_, fun w => rfl, ?_⟩
    have h1 : LR σ (Array.mk (fs.toList.map ρ)).toList (fs.map ρ').toList := by rw [Array.toList_map]; exact LR.map hρ _
    have h2 : LR σ (Array.mk (cs.toList.map ρ)).toList (cs.map ρ').toList := by rw [Array.toList_map]; exact LR.map hρ _
    refine .func ?_ h1.length h1.at h2.length h2.at
    cases fn <;> first | rfl | exact absurd rfl (hne _)

/-- a pure operation -/
theorem pureOp_sim {ρ ρ' : Operand → Value} (hρ : ∀ x, VRel σ (ρ x) (ρ' x)) {o : Oper} {v : Value} (e : vopK P ρ o.op = .pure (some v)) :
    ∃ v', (∀ w, (execOp ρ' o).run P w = .ok (.value v') w) ∧ VRel σ v v' := by
  have fin : ∀ {s : Sem Value}, PSim P σ v s → execOp ρ' o = (do pure (.value (← s))) → ∃ v', (∀ w, (execOp ρ' o).run P w = .ok (.value v') w) ∧ VRel σ v v' := by
    intro s ⟨v', h1, h2⟩ h3
    exact ⟨v', fun w => by rw [h3, Sem.run_bind, h1]; rfl, h2⟩
  unfold vopK at e
  cases ho : o.op <;> simp only [cop, ho] at e <;> try (first | (cases e; done) | skip)
  case move x => cases e; exact ⟨ρ' x, fun w => by simp only [execOp, ho]; rfl, hρ x⟩
  case assign x => cases e; exact ⟨ρ' x, fun w => by simp only [execOp, ho]; rfl, hρ x⟩
  case pick c a b =>
    have e' : vpick (ρ c) (ρ a) (ρ b) = some v := by injection e
    obtain ⟨v', h1, h2⟩ := vpick_sim (P := P) e' (hρ c) (hρ a) (hρ b)
    refine ⟨v', fun w => ?_, h2⟩
    have := h1 w
    simp only [execOp, ho]
    rw [Sem.run_bind] at this ⊢
    generalize (asBool (ρ' c)).run P w = q at *
    cases q with
    | ok y w' => cases this; rfl
    | halt y w' => cases this
  case build t parts =>
    refine fin (vbuild_sim (by injection e) (PartsR.map hρ _)) ?_
    simp only [execOp, ho]
    congr 1
    congr 1
    apply Array.ext'
    simp
  case nilCheck x => exact vnilCheck_sim ho (by injection e) (hρ x) rfl
  case binOp op t x y b => exact fin (vbin_sim (by injection e) (hρ x) (hρ y) x y) (by simp only [execOp, ho])
  case unOp op t x => exact fin (vunop_sim (by injection e) (hρ x)) (by simp only [execOp, ho])
  case convert s d x =>
    unfold copConv at e
    cases hm : memConv P s d with
    | true => rw [hm] at e; cases e
    | false =>
      rw [hm] at e
      exact fin (pconvert_sim (by injection e) (hρ x)) (by simp only [execOp, ho])
  case makeInterface t x => exact fin (vmakeIface_sim (by injection e) (hρ x)) (by simp only [execOp, ho])
  case makeFunc fn fs cs => exact fin (vmakeFunc_sim hρ (by injection e)) (by simp only [execOp, ho])
  case fieldAddr s x f => exact fin (vfieldAddr_sim (by injection e) (hρ x)) (by simp only [execOp, ho])
  case field s x f => exact fin (vfield_sim (by injection e) (hρ x)) (by simp only [execOp, ho])
  case indexAddr t x ix => exact fin (vindexAddr_sim (by injection e) (hρ x) (hρ ix)) (by simp only [execOp, ho])
  case index t x ix => exact fin (vindex_sim (by injection e) (hρ x) (hρ ix)) (by simp only [execOp, ho])
  case extract t ix => exact fin (vextract_sim (by injection e) (hρ t)) (by simp only [execOp, ho])

/-- an operation in memory -/
theorem memOp_sim (hP : POk P) {ρ ρ' : Operand → Value} (hρ : ∀ x, VRel σ (ρ x) (ρ' x)) {o : Oper} {m : HM Next} {x : Next × VH} (r : R W P σ h w) (e : vopK P ρ o.op = .mem m) (hm : m.run h = some x) :
    MSim W P σ NRel w x (execOp ρ' o) := by
  have mv : ∀ {s : Sem Value}, MSim W P σ VN w x s → execOp ρ' o = (do pure (.value (← s))) → MSim W P σ NRel w x (execOp ρ' o) := fun h1 h2 => by rw [h2]; exact h1.value
  have ms : ∀ {s : Sem Unit}, MSim W P σ SN w x s → execOp ρ' o = (do s; pure .skip) → MSim W P σ NRel w x (execOp ρ' o) := fun h1 h2 => by rw [h2]; exact h1.skip
  unfold vopK at e
  cases ho : o.op <;> simp only [cop, ho] at e <;> try (first | (cases e; done) | skip)
  case alloc t => cases e; exact mv (valloc_sim r hm) (by simp only [execOp, ho])
  case box t y => cases e; exact mv (vbox_sim r hm (hρ y)) (by simp only [execOp, ho])
  case buildSlice t n parts =>
    cases e
    refine mv (vbuildSlice_sim r hm (PartsR.map hρ _)) ?_
    simp only [execOp, ho]
    congr 1
    congr 1
    apply Array.ext'
    simp
  case load t y => cases e; exact mv (vload_sim r hm (hρ y)) (by simp only [execOp, ho])
  case store t y z => cases e; exact ms (vstore_sim r hm (hρ y) (hρ z)) (by simp only [execOp, ho])
  case convert s d y =>
    unfold copConv at e
    cases hmc : memConv P s d with
    | true =>
      rw [hmc] at e; cases e
      exact mv (hconvert_sim r hm (hρ y)) (by simp only [execOp, ho])
    | false => rw [hmc] at e; cases e
  case makeMap t y => cases e; exact mv (vmakeMap_sim (t := t) (ro := y.map ρ') (fun q => by rw [q]; rfl) r hm) (by simp only [execOp, ho])
  case makeSlice t l c => cases e; exact mv (vmakeSlice_sim r hm (hρ l) (hρ c)) (by simp only [execOp, ho])
  case slice t y lo hi mx => cases e; exact mv (msl_sim r hm (hρ y) (OV.map hρ lo) (OV.map hρ hi) (OV.map hρ mx)) (by simp only [execOp, ho])
  case lookup t y ix ok => cases e; exact mv (vlookup_sim r hm (hρ y) (hρ ix)) (by simp only [execOp, ho])
  case mapUpdate t a b c => cases e; exact ms (vmapUpdate_sim r hm (hρ a) (hρ b) (hρ c)) (by simp only [execOp, ho])
  case insert t a b c => cases e; exact ms (vmapUpdate_sim r hm (hρ a) (hρ b) (hρ c)) (by simp only [execOp, ho])
  case range t y => cases e; exact mv (vrangeOp_sim r hm (hρ y)) (by simp only [execOp, ho])
  case next it s => cases e; exact mv (vnext_sim (ty := o.type) r hm (hρ it)) (by simp only [execOp, ho])
  case entry it => cases e; exact mv (ventry_sim r hm (hρ it)) (by simp only [execOp, ho])
  case call c =>
    cases e
    obtain ⟨y, w', τ, e1, e2⟩ := vcallOp_sim hP hρ (ty := o.type) r hm
    exact ⟨y, w', τ, by simp only [execOp, ho]; exact e1, e2⟩
  case defer c =>
    cases e
    obtain ⟨y, w', τ, e1, e2⟩ := vdeferOp_sim hρ (ty := o.type) r hm
    exact ⟨y, w', τ, by simp only [execOp, ho]; exact e1, e2⟩

end
end Go.Proofs.YtonkcdnpmemheaaGreat.Vm

namespace Go.Proofs.YtonkcdnpmemheaaGreat.Vm

/-! ### activations -/

inductive DL (σ : Ren) : List Deferred → List Deferred → Prop where
  | nil : DL σ [] []
  | cons {d d' : Deferred} {l l' : List Deferred} (h : DefR σ d d') (t : DL σ l l') : DL σ (d :: l) (d' :: l')

theorem DL.mono {σ τ : Ren} (h : σ.le τ) {l l' : List Deferred} (r : DL σ l l') : DL τ l l' := by
  induction r with
  | nil => exact .nil
  | cons a _ ih => exact .cons (a.mono h) ih

inductive RO (σ : Ren) : Option Nat → Option Nat → Prop where
  | none : RO σ none none
  | some {l : Nat} {m : NM} (h : σ l = some m) : RO σ (some l) (some m.b)

theorem RO.mono {σ τ : Ren} (h : σ.le τ) {l l' : Option Nat} (r : RO σ l l') : RO τ l l' := by
  cases r with
  | none => exact .none
  | some e => exact .some (h _ _ e)

structure AR (σ : Ren) (n : Nat) (ro : Option Nat) (va : VAct) (a : Act) : Prop where
  tm : ∀ t, VRel σ (va.get t) (a.tmps.getD t undef)
  sz : a.tmps.size = n
  df : DL σ va.defers a.defers
  rd : RO σ va.ro ro

section
variable {σ : Ren} {n : Nat} {ro : Option Nat} {va : VAct} {a : Act}

theorem AR.mono {τ : Ren} (h : σ.le τ) (r : AR σ n ro va a) : AR τ n ro va a := ⟨fun t => (r.tm t).mono h, r.sz, r.df.mono h, r.rd.mono h⟩

theorem VRel.undef : VRel σ undef undef := LR.nil.tuple

theorem constOf_rel (v : Value) : VRel σ (constOf v) v := by
  unfold constOf
  split
  · rename_i h; exact bare_same 4 v h
  · exact .poison _ _ _ _

theorem AR.eval (r : AR σ n ro va a) (x : Operand) : VRel σ (va.eval x) (a.eval x) := by
  cases x with
  | tmp t => exact r.tm t
  | const v => exact constOf_rel v
  | global g => exact .poison _ _ _ _
  | func f => exact .func (f := .func f) (f' := .func f) rfl rfl (fun i x y h => by simp at h) rfl (fun i x y h => by simp at h)

theorem locGet_nil (tm : Tm) (live t : Nat) : locGet tm live t [] = baseGet tm live t := rfl
theorem locGet_cons (tm : Tm) (live t d : Nat) (v : Value) (l : List (Nat × Value)) : locGet tm live t ((d, v) :: l) = if t = d then v else locGet tm live t l := by
  show Bool.rec (motive := fun _ => Value) (locGet tm live t l) v (Nat.beq d t) = _
  cases g : Nat.beq d t with
  | true => have := Nat.eq_of_beq_eq_true g; subst this; simp
  | false =>
    have : t ≠ d := fun q => by subst q; rw [show Nat.beq t t = true by rw [Nat.beq_eq]] at g; cases g
    rw [if_neg this]

theorem VAct.get_put (va : VAct) (d : Nat) (v : Value) (t : Nat) : (va.put (some d) v).get t = if t = d then v else va.get t := by
  obtain ⟨tm, l, live, ds, r⟩ := va
  exact locGet_cons tm live t d v l

theorem VAct.put_defers (va : VAct) (dst : Option Tmp) (v : Value) : (va.put dst v).defers = va.defers := by cases dst <;> rfl
theorem VAct.put_ro (va : VAct) (dst : Option Tmp) (v : Value) : (va.put dst v).ro = va.ro := by cases dst <;> rfl

theorem AR.put (r : AR σ n ro va a) {dst : Option Tmp} (hd : ∀ d : Nat, dst = some d → d < n) {v v' : Value} (hv : VRel σ v v') : AR σ n ro (va.put dst v) (a.put dst v') := by
  cases dst with
  | none => exact r
  | some d =>
    have hd := hd d rfl
    refine ⟨fun t => ?_, by simp [Act.put, r.sz], r.df, r.rd⟩
    rw [VAct.get_put]
    show VRel σ _ ((a.tmps.setIfInBounds d v').getD t undef)
    rw [Array.getD_eq_getD_getElem?, Array.getElem?_setIfInBounds]
    by_cases h : t = d
    · have hdt : (d : Nat) = t := h.symm
      rw [if_pos h, if_pos hdt, if_pos (by rw [r.sz]; exact hd)]
      exact hv
    · rw [if_neg h, if_neg (fun q => h q.symm), ← Array.getD_eq_getD_getElem?]
      exact r.tm t

theorem flush_nil (live : Nat) (t : Tm) : flush live [] t = t := rfl
theorem flush_cons (live d : Nat) (v : Value) (l : List (Nat × Value)) (t : Tm) : flush live ((d, v) :: l) t = if tb live d = true then (flush live l t).set d v else flush live l t := by
  show Bool.rec (motive := fun _ => Tm) (flush live l t) ((flush live l t).set d v) (tb live d) = _
  cases tb live d <;> rfl

theorem flush_get (live : Nat) (tm : Tm) (t : Nat) (ht : tb live t = true) : ∀ l : List (Nat × Value), (flush live l tm).get t = locGet tm live t l := by
  intro l
  induction l with
  | nil => rw [flush_nil, locGet_nil]; unfold baseGet; rw [ht]
  | cons p l ih =>
    obtain ⟨d, v⟩ := p
    rw [flush_cons, locGet_cons]
    by_cases h : t = d
    · subst h
      rw [if_pos ht, if_pos rfl, Tm.get_set, if_pos rfl]
    · rw [if_neg h]
      split
      · rw [Tm.get_set, if_neg h]; exact ih
      · exact ih

theorem VAct.get_shut (va : VAct) (t : Nat) : va.shut.get t = va.get t ∨ va.shut.get t = poison := by
  obtain ⟨tm, l, live, ds, r⟩ := va
  cases l with
  | nil => exact .inl rfl
  | cons p l =>
    show baseGet (flush live (p :: l) tm) live t = locGet tm live t (p :: l) ∨ baseGet (flush live (p :: l) tm) live t = poison
    unfold baseGet
    cases h : tb live t with
    | true => left; exact flush_get live tm t h _
    | false => right; rfl

theorem VAct.shut_defers (va : VAct) : va.shut.defers = va.defers := by
  obtain ⟨tm, l, live, ds, r⟩ := va
  cases l <;> rfl
theorem VAct.shut_ro (va : VAct) : va.shut.ro = va.ro := by
  obtain ⟨tm, l, live, ds, r⟩ := va
  cases l <;> rfl

theorem AR.shut (r : AR σ n ro va a) : AR σ n ro va.shut a := by
  refine ⟨fun t => ?_, r.sz, by rw [VAct.shut_defers]; exact r.df, by rw [VAct.shut_ro]; exact r.rd⟩
  rcases VAct.get_shut va t with h | h
  · rw [h]; exact r.tm t
  · rw [h]; exact .poison _ _ _ _

theorem AR.defer (r : AR σ n ro va a) {d d' : Deferred} (h : DefR σ d d') : AR σ n ro { va with defers := d :: va.defers } { a with defers := d' :: a.defers } :=
  ⟨r.tm, r.sz, .cons h r.df, r.rd⟩

/-! ### is an operation carried out -/

def boolIs (b : Bool) (v : Value) : Bool := match v with | .bool x => x == b | _ => false

theorem isBool_sim {b : Bool} {v v' : Value} {q : Bool} (h : isBool b v = some q) (hv : VRel σ v v') : boolIs b v' = q := by
  unfold isBool at h
  split at h
  · cases h; rw [hv.bool_inv]; rfl
  · cases h
  · rename_i h1 h2
    cases h
    cases hv <;> first | rfl | exact absurd rfl (h1 _) | exact absurd rfl (h2 _ _ _)

theorem vwanted_sim {ops : Array Oper} {o : Oper} {q : Bool} (r : AR σ n ro va a) (hb : ∀ (j : Nat) (o : Oper) (d : Nat), ops[j]? = some o → o.dst = some d → d < n) (h : vwanted ops.toList va o = some q) : Region.wanted o (yielded ops a.tmps) = q := by
  unfold vwanted at h
  unfold Region.wanted
  split at h
  · rename_i hg; rw [hg]; cases h; rfl
  · rename_i j b hg
    rw [hg]
    show (yielded ops a.tmps j == some b) = q
    unfold vguard at h
    rw [nth?_eq, Array.getElem?_toList] at h
    unfold yielded
    split at h
    · rename_i oj hoj
      rw [hoj]
      split at h
      · rename_i d hd
        have hlt := hb j oj d hoj hd
        have hv := r.tm d
        have hget : a.tmps[d]? = some (a.tmps.getD d undef) := by
          rw [Array.getD_eq_getD_getElem?]
          have : d < a.tmps.size := by rw [r.sz]; exact hlt
          rw [Array.getElem?_eq_getElem this]
          rfl
        have hs := isBool_sim h hv
        simp only [Option.bind_some, hd, hget]
        rw [← hs]
        cases a.tmps.getD d undef <;> simp [boolIs]
      · rename_i hd
        cases h
        simp [hd]
    · rename_i hoj
      cases h
      simp [hoj]

end
end Go.Proofs.YtonkcdnpmemheaaGreat.Vm

namespace Go.Proofs.YtonkcdnpmemheaaGreat.Vm

abbrev FW (ro : Option Nat) : Fence := { Fence.wide with round := ro }

def exitOf : VExit → Exit
  | .normal => .normal
  | .exit id => .exit id
  | .ret => .ret

def CodeOk (W : Frm) (P : Program) (σ : Ren) (n : Nat) (ro : Option Nat) (e : VExit) (va : VAct) (h : VH) : Exit → Act → World → Prop :=
  fun e' a' w' => e' = exitOf e ∧ ∃ τ, σ.le τ ∧ R W P τ h w' ∧ AR τ n ro va a'

def ValOk (W : Frm) (P : Program) (σ : Ren) (v : Value) (h : VH) : Ending → World → Prop
  | .returned v', w' => ∃ τ, σ.le τ ∧ R W P τ h w' ∧ VRel τ v v'
  | _, _ => False

/-- a loop that stands at its round's beginning -/
def LoopIn (F : Fence) (n : Nat) (P : Program) (x : Code) (Q : Exit → Act → World → Prop) (a : Act) (w : World) : Prop :=
  ∀ (b : Frame) (k : List Item) (cs : List Frame), b.roundOf = F.round → F.fn b.fn → F.room (cs.length + 1 + n) →
    ∃ e a' w', Q e a' w' ∧ ArrivesIn (Machine.fenced P F) P (lone (b.atR a (.code x :: .inLoop x :: k)) cs w) b k cs e a' w'

theorem LoopIn.wpIn {F : Fence} {n : Nat} {P : Program} {x : Code} {Q : Exit → Act → World → Prop} {a : Act} {w : World} (h : LoopIn F n P x Q a w) : (Code.loop x).wpIn F n P Q a w := by
  intro b k cs hro hb hr
  obtain ⟨e, a', w', q, harr⟩ := h b k cs hro hb hr
  exact ⟨e, a', w', q, .of_steps (.one (fenced_calm hb hr rfl) stepR_loop) harr⟩

theorem LoopIn.of {F : Fence} {n : Nat} {P : Program} {x : Code} {Q : Exit → Act → World → Prop} {a : Act} {w : World} (h : x.wpIn F n P (Exit.then (LoopIn F n P x Q) Q) a w) : LoopIn F n P x Q a w := by
  intro b k cs hro hb hr
  obtain ⟨e, a₁, w₁, hq, harr⟩ := h b (.inLoop x :: k) cs hro hb hr
  cases e with
  | normal =>
    obtain ⟨e₂, a₂, w₂, hq₂, harr₂⟩ := hq b k cs hro hb hr
    exact ⟨e₂, a₂, w₂, hq₂, .of_steps (StepsIn.trans harr (.one (fenced_calm hb hr rfl) stepR_inLoop)) harr₂⟩
  | exit id => exact ⟨_, a₁, w₁, hq, .pass (x := .inLoop x) rfl (fun _ _ => .inl (by simp)) harr⟩
  | goto l => exact ⟨_, a₁, w₁, hq, .pass (x := .inLoop x) rfl (fun _ _ => .inl (by simp)) harr⟩
  | ret => exact ⟨_, a₁, w₁, hq, .pass (x := .inLoop x) rfl (fun _ _ => .inl (by simp)) harr⟩
  | panic ch => exact ⟨_, a₁, w₁, hq, .pass (x := .inLoop x) rfl (fun _ _ => .inl (by simp)) harr⟩
  | outgrown => exact ⟨_, a₁, w₁, hq, .pass (x := .inLoop x) rfl (fun _ _ => .inl (by simp)) harr⟩

theorem LoopIn.mono {F : Fence} {n : Nat} {P : Program} {x : Code} {Q Q' : Exit → Act → World → Prop} {a : Act} {w : World} (h : LoopIn F n P x Q a w) (hq : ∀ e a w, Q e a w → Q' e a w) : LoopIn F n P x Q' a w :=
  fun b k cs hro hb hr => let ⟨e, a', w', q, r⟩ := h b k cs hro hb hr; ⟨e, a', w', hq _ _ _ q, r⟩

/-- what a call of the evaluator by itself is to mean -/
structure RecOk (P : Program) (rec : Rec) : Prop where
  code : ∀ {W σ n ro c va h e va' h' a w}, rec (.code c va) h = some (.code e va', h') → bndC n c = true → AR σ n ro va a → R W P σ h w → c.wpIn (FW ro) 0 P (CodeOk W P σ n ro e va' h') a w
  loop : ∀ {W σ n ro x va h e va' h' a w}, rec (.code (.loop x) va) h = some (.code e va', h') → bndC n x = true → AR σ n ro va a → R W P σ h w → LoopIn (FW ro) 0 P x (CodeOk W P σ n ro e va' h') a w
  call : ∀ {W σ f args h v h' args' w}, rec (.call f args) h = some (.val v, h') → LR σ args args' → R W P σ h w → CallsIn Fence.wide 0 P f ⟨args'⟩ w (ValOk W P σ v h')
  dcall : ∀ {W σ f args h v h' args' w}, rec (.dcall f args) h = some (.val v, h') → LR σ args args' → R W P σ h w → CallsDIn Fence.wide 0 P f ⟨args'⟩ .returning w (fun e u w' => u = .returning ∧ ValOk W P σ v h' e w')
  round : ∀ {W σ l live tmps assign body h v h' w} {m : NM} {tmps' : Array Value} {fn : FuncId}, rec (.round l live tmps assign body) h = some (.val v, h') → σ l = some m → TmpsR σ live tmps tmps' → bndC tmps'.size assign = true → bndC tmps'.size body = true → R W P σ h w →
    RoundIn Fence.wide 0 P m.b fn tmps' assign body w (ValOk W P σ v h')

section
variable {W : Frm} {P : Program} {rec : Rec} {σ : Ren} {n : Nat} {ro : Option Nat}

/-- what an operation is followed by -/
theorem upon_sim (hrec : RecOk P rec) {o : Oper} (hd : ∀ d : Nat, o.dst = some d → d < n) {va va1 : VAct} {h1 h2 : VH} {x y : Next} {a : Act} {w' : World} {K : Act → World → Prop} {Q : Exit → Act → World → Prop}
    (e : vupon rec o va x h1 = some (va1, h2)) (hx : NRel σ x y) (r : R W P σ h1 w') (ha : AR σ n ro va a) (hK : ∀ τ a' w', σ.le τ → R W P τ h2 w' → AR τ n ro va1 a' → K a' w') :
    Oper.uponIn (FW ro) 0 P o a K Q (.ok y w') := by
  cases hx with
  | value hv =>
    cases e
    exact hK σ _ _ (Ren.le_refl σ) r (ha.put hd hv)
  | skip =>
    cases e
    exact hK σ _ _ (Ren.le_refl σ) r (ha.put hd .undef)
  | enter f hargs =>
    rename_i args args'
    have e' : putRes o va (rec (.call f args.toList) h1) = some (va1, h2) := e
    unfold putRes at e'
    split at e'
    · rename_i v h3 hr
      cases e'
      refine ⟨(fun q => by cases q), ?_⟩
      have hc := hrec.call hr hargs r
      refine CallsIn.mono (F := Fence.wide) (n := 0) hc ?_
      intro en w'' hv
      cases en with
      | returned v' =>
        obtain ⟨τ, h4, h5, h6⟩ := hv
        exact hK τ _ _ h4 h5 ((ha.mono h4).put hd h6)
      | panicked c => exact hv.elim
      | outgrown => exact hv.elim
    · cases e'
  | round hl ht hA hB =>
    rename_i l live fn m tmps tmps' assign body
    have e' : putRes o va (rec (.round l live tmps.toList assign body) h1) = some (va1, h2) := e
    unfold putRes at e'
    split at e'
    · rename_i v h3 hr
      cases e'
      refine ⟨(fun q => by cases q), ?_⟩
      have hc := hrec.round (fn := fn) hr hl ht hA hB r
      refine RoundIn.mono (F := Fence.wide) (n := 0) hc ?_
      intro en w'' hv
      cases en with
      | returned v' =>
        obtain ⟨τ, h4, h5, h6⟩ := hv
        exact hK τ _ _ h4 h5 ((ha.mono h4).put hd h6)
      | panicked c => exact hv.elim
      | outgrown => exact hv.elim
    · cases e'
  | defer hdr =>
    rename_i d d'
    have e' : vdeferred o va d h1 = some (va1, h2) := e
    unfold vdeferred at e'
    split at e'
    · cases e'
      exact hK σ _ _ (Ren.le_refl σ) r ((ha.defer hdr).put hd .undef)
    · cases e'

theorem vop1_sim (hP : POk P) (hrec : RecOk P rec) {o : Oper} (hd : ∀ d : Nat, o.dst = some d → d < n) {va va1 : VAct} {h h2 : VH} {a : Act} {w : World} {K : Act → World → Prop} {Q : Exit → Act → World → Prop}
    (e : vop1 P rec o va h = some (va1, h2)) (r : R W P σ h w) (ha : AR σ n ro va a) (hK : ∀ τ a' w', σ.le τ → R W P τ h2 w' → AR τ n ro va1 a' → K a' w') :
    Oper.wpIn (FW ro) 0 P o a w K Q := by
  refine ⟨fun _ _ => trivial, ?_⟩
  show Oper.uponIn (FW ro) 0 P o a K Q ((o.semAt ro a.eval).run P w)
  unfold vop1 opK at e
  split at e
  · rename_i v hv
    cases e
    obtain ⟨v', h1, h3⟩ := pureOp_sim (o := o) (ha.eval) hv
    have hs : o.semAt ro a.eval = execOp a.eval o := Oper.semAt_eq ro a.eval o (fun c hc => by rw [hc] at hv; cases hv)
    rw [hs, h1]
    exact hK σ _ _ (Ren.le_refl σ) r (ha.put hd h3)
  · cases e
  · rename_i m hm
    unfold memK at e
    split at e
    · rename_i x h1 hx
      obtain ⟨y, w', τ, e1, e2, e3, e4⟩ := memOp_sim hP (o := o) (ha.eval) r hm hx
      have hs : o.semAt ro a.eval = execOp a.eval o := by
        cases hro : ro with
        | none => rfl
        | some b =>
          refine Oper.semAt_eq _ a.eval o (fun c hc => ?_)
          exfalso
          rw [hc] at hm
          have hm' : HM.run (vdeferOp va.eval c) h = some (x, h1) := by cases hm; exact hx
          unfold vdeferOp at hm'
          split at hm'
          · cases hm'
            have e' : vdeferred o va _ h = some (va1, h2) := e
            have hrd := ha.rd
            rw [hro] at hrd
            unfold vdeferred at e'
            split at e'
            · cases hrd
            · cases e'
          · cases hm'
      rw [hs, e1]
      exact upon_sim hrec hd e e4 e3 (ha.mono e2) (fun τ' a' w'' q1 q2 q3 => hK τ' a' w'' (Ren.le_trans e2 q1) q2 q3)
    · cases e

theorem dstIn_lt {o : Oper} (h : dstIn n o = true) : ∀ d : Nat, o.dst = some d → d < n := by
  intro d hd
  unfold dstIn at h
  rw [hd] at h
  simpa [inN] using h

theorem runOps_sim (hP : POk P) (hrec : RecOk P rec) {ops : Array Oper} (hb : ∀ o, o ∈ ops.toList → dstIn n o = true) {Q : Exit → Act → World → Prop} {va1 : VAct} {h1 : VH} :
    ∀ (rest : List Oper) (i : Nat) (σ : Ren) (va : VAct) (h : VH) (a : Act) (w : World), ops.toList.drop i = rest → runOps P rec ops.toList rest va h = some (va1, h1) → AR σ n ro va a → R W P σ h w →
      (∀ τ a' w', σ.le τ → R W P τ h1 w' → AR τ n ro va1 a' → Q .normal a' w') → wpOpsIn (FW ro) 0 P ops Q (List.range' i rest.length) a w := by
  have hbj : ∀ (j : Nat) (o : Oper) (d : Nat), ops[j]? = some o → o.dst = some d → d < n := fun j o d hj hd =>
    dstIn_lt (hb o (by rw [← Array.getElem?_toList] at hj; exact List.mem_of_getElem? hj)) d hd
  intro rest
  induction rest with
  | nil =>
    intro i σ va h a w _ e ha r hQ
    cases e
    exact hQ σ a w (Ren.le_refl σ) r ha
  | cons o rest ih =>
    intro i σ va h a w hdrop e ha r hQ
    have hoi : ops[i]? = some o := by
      have : (ops.toList.drop i)[0]? = some o := by rw [hdrop]; rfl
      rw [List.getElem?_drop] at this
      simpa using this
    have hdrop' : ops.toList.drop (i + 1) = rest := by
      rw [← List.drop_drop, hdrop]; rfl
    show wpOpsIn (FW ro) 0 P ops Q (i :: List.range' (i + 1) rest.length) a w
    unfold wpOpsIn
    rw [hoi]
    unfold runOps at e
    split at e
    · rename_i hw
      have hw' := vwanted_sim ha hbj hw
      simp only [hw', if_true]
      split at e
      · rename_i va2 h2 h3
        refine vop1_sim hP hrec (hbj i o · hoi) h3 r ha ?_
        intro τ a' w' q1 q2 q3
        exact ih (i + 1) τ va2 h2 a' w' hdrop' e q3 q2 (fun τ' a'' w'' s1 s2 s3 => hQ τ' a'' w'' (Ren.le_trans q1 s1) s2 s3)
      · cases e
    · rename_i hw
      have hw' := vwanted_sim ha hbj hw
      simp only [hw']
      exact ⟨fun _ _ => trivial, ih (i + 1) σ _ h _ w hdrop' e (ha.put (hbj i o · hoi) .undef) r hQ⟩
    · cases e

theorem region_sim (hP : POk P) (hrec : RecOk P rec) {id : Nat} {ops : Array Oper} (hb : ∀ o, o ∈ ops.toList → dstIn n o = true) {va va' : VAct} {h h' : VH} {e0 : VExit} {a : Act} {w : World}
    (e : fin (runOps P rec ops.toList ops.toList va h) = some (.code e0 va', h')) (ha : AR σ n ro va a) (r : R W P σ h w) : (Code.region id ops false).wpIn (FW ro) 0 P (CodeOk W P σ n ro e0 va' h') a w := by
  unfold fin at e
  split at e
  · rename_i va1 h1 h2
    cases e
    refine wpIn_region ?_
    have := runOps_sim hP hrec hb (Q := CodeOk W P σ n ro .normal va1.shut h') ops.toList 0 σ va h a w rfl h2 ha r (fun τ a' w' q1 q2 q3 => ⟨rfl, τ, q1, q2, q3.shut⟩)
    rw [List.range_eq_range']
    simpa using this
  · cases e

end
end Go.Proofs.YtonkcdnpmemheaaGreat.Vm

namespace Go.Proofs.YtonkcdnpmemheaaGreat.Vm

section
variable {F : Fence} {n : Nat} {P : Program} {Q : Exit → Act → World → Prop} {a : Act} {w : World}

theorem wpIn_scope {c : Code} (h : c.wpIn F n P Q a w) (hq : ∀ l a w, ¬ Q (.goto l) a w) : (Code.scope c).wpIn F n P Q a w := by
  intro b k cs hro hb hr
  have h0 : (lone (b.atR a (.code (.scope c) :: k)) cs w).fenced P F := fenced_calm hb hr rfl
  have h1 : step P (lone (b.atR a (.code (.scope c) :: k)) cs w) = .next (lone (b.atR a (.code c :: .inScope c :: k)) cs w) :=
    step_lone_go (by simp [stepG, stepG.exec, Frame.atR])
  have h2 : ∀ a w, step P (lone (b.atR a (.inScope c :: k)) cs w) = .next (lone (b.atR a k) cs w) := fun a w =>
    step_lone_go (by simp [stepG, stepG.exec, Frame.atR])
  obtain ⟨e, a₁, w₁, q, harr⟩ := h b (.inScope c :: k) cs hro hb hr
  cases e with
  | normal => exact ⟨.normal, a₁, w₁, q, .head h0 h1 (StepsIn.trans harr (.one (fenced_calm hb hr rfl) (h2 _ _)))⟩
  | exit id =>
    have hx : exitTo id (.inScope c :: k) = exitTo id k := by simp [exitTo]
    exact ⟨.exit id, a₁, w₁, q, fun k' hk => .head h0 h1 (harr.1 k' (by rw [hx]; exact hk)),
      fun hr' hk => let ⟨k₁, g1, g2⟩ := harr.2 hr' (by rw [hx]; exact hk); ⟨k₁, g1, .head h0 h1 g2⟩⟩
  | goto l => exact absurd q (hq l _ _)
  | ret => exact ⟨_, a₁, w₁, q, .of_steps (.one h0 h1) harr⟩
  | panic ch => exact ⟨_, a₁, w₁, q, .of_steps (.one h0 h1) harr⟩
  | outgrown => exact ⟨_, a₁, w₁, q, .of_steps (.one h0 h1) harr⟩
end

/-! ### reads alone -/

theorem HM.look_run {α : Type} : ∀ (m : HM α) {h : VH} {x : α}, m.look h = some x → m.run h = some (x, h) := by
  intro m
  induction m with
  | ret a => intro h x e; cases e; rfl
  | rd n k ih =>
    intro h x e
    have e' : Option.rec (motive := fun _ => Option α) none (fun o => (k o).look h) (h.get n) = some x := e
    cases hg : h.get n with
    | none => rw [hg] at e'; cases e'
    | some o =>
      rw [hg] at e'
      rw [HM.run_rd_some hg]
      exact ih o e'
  | wr n o k ih => intro h x e; cases e
  | kill n k ih => intro h x e; cases e
  | nw o k ih => intro h x e; cases e
  | nwAt n o k ih => intro h x e; cases e
  | fail => intro h x e; cases e

section
variable {W : Frm} {P : Program} {σ : Ren} {h : VH} {w : World}

theorem vload_here {t : TypeId} {v v' u : Value} (r : R W P σ h w) (e : valOf ((vload P t v).look h) = some u) (hv : VRel σ v v') : ∃ a' u', v' = .pointer (some a') ∧ (loadVar t a').run P w = .ok u' w ∧ VRel σ u u' := by
  unfold valOf at e
  split at e
  · rename_i y hy
    cases e
    have e := HM.look_run _ hy
    unfold vload at e
    split at e
    · rename_i b off
      obtain ⟨n, hn, e1⟩ := hopt_run e
      cases hv with
      | ptr ha =>
        rename_i a'
        unfold vloadAt at e1
        split at e1
        · rename_i k
          obtain ⟨l, l', h1, h2, h3, _⟩ := withCells_sim (a := ⟨b, off, none⟩) (n := k + 1) (k := fun l => HM.ret (Next.value (.agg ⟨l⟩))) r e1 (.inr ha)
          cases h1
          refine ⟨a', .agg ⟨l'⟩, rfl, ?_, h3.agg⟩
          simp [loadVar, run_isAgg w hn, run_sizeAgg w hn, h2]
        · cases e1
          refine ⟨a', .agg #[], rfl, ?_, (LR.nil.agg)⟩
          simp only [loadVar, Sem.run_bind, run_isAgg w hn, Option.isSome_some, if_true, run_sizeAgg w hn, Result.andThen_ok]
          rfl
        · obtain ⟨o, hg, e2⟩ := HM.run_rd e1
          unfold load1K at e2
          split at e2
          · rename_i k f bk ety fr
            obtain ⟨y, hy, e3⟩ := hopt_run e2
            cases e3
            rw [nth?_eq] at hy
            obtain ⟨m, c, fr', g1, g2, g3, g4, g5, g6, g7⟩ := r.row hg
            obtain ⟨z, hz1, hz2⟩ := g5 off _ hy
            obtain ⟨a0, a1, m', a2, a3, a4⟩ := ha
            simp only at a2 a4
            rw [g1] at a2; cases a2
            refine ⟨a', z, rfl, ?_, hz2⟩
            have hc : w.cell? a' = some z := by rw [addr_eq a1 a3 a4, cell_at g2, show off + m.d = m.d + off by omega]; exact hz1
            simp [loadVar, run_isAgg w hn, hc]
          · cases e2
    · cases e
  · cases e

def resAt (tmps : Array Value) (x : ResultVar) : Sem Value :=
  match x with
  | .tmp t => pure (tmps.getD t undef)
  | .cell x t => do loadVar t (← asAddr (tmps.getD x undef))

theorem results_eq (fn : Func) (tmps : Array Value) : results fn tmps = (do
    let vs ← fn.results.mapM (resAt tmps)
    pure (if h : vs.size = 1 then vs[0] else .tuple vs)) := by
  rfl

theorem vres_sim {n : Nat} {ro : Option Nat} {va : VAct} {a : Act} (ha : AR σ n ro va a) (r : R W P σ h w) : ∀ {l : List ResultVar} {vs : List Value}, vres P va h l = some vs →
    ∃ vs', (l.mapM (resAt a.tmps)).run P w = .ok vs' w ∧ LR σ vs vs' := by
  intro l
  induction l with
  | nil => intro vs e; cases e; exact ⟨[], rfl, .nil⟩
  | cons x l ih =>
    intro vs e
    cases x with
    | tmp t =>
      unfold vres at e
      split at e
      · rename_i rest hr
        cases e
        obtain ⟨vs', h1, h2⟩ := ih hr
        refine ⟨a.tmps.getD t undef :: vs', ?_, .cons (ha.tm t) h2⟩
        simp only [List.mapM_cons, Sem.run_bind, resAt, Sem.run_pure, Result.andThen_ok, h1]
      · cases e
    | cell x t =>
      unfold vres at e
      split at e
      · rename_i v hv
        split at e
        · rename_i rest hr
          cases e
          obtain ⟨vs', h1, h2⟩ := ih hr
          obtain ⟨a', u', hp, hl, hu⟩ := vload_here r hv (ha.tm x)
          refine ⟨u' :: vs', ?_, .cons hu h2⟩
          simp only [List.mapM_cons, Sem.run_bind, resAt, hp, asAddr, Sem.run_pure, Result.andThen_ok, hl, h1]
        · cases e
      · cases e

theorem results_sim {n : Nat} {ro : Option Nat} {va : VAct} {a : Act} (ha : AR σ n ro va a) (r : R W P σ h w) {fn : Func} {vs : List Value} (e : vres P va h fn.results.toList = some vs) :
    ∃ v', (results fn a.tmps).run P w = .ok v' w ∧ VRel σ (vout vs) v' := by
  obtain ⟨vs', h1, h2⟩ := vres_sim ha r e
  have hm : (fn.results.mapM (resAt a.tmps)).run P w = .ok ⟨vs'⟩ w := by
    rw [Array.mapM_eq_mapM_toList, Sem.run_map, h1]
    rfl
  refine ⟨if hh : (Array.mk vs').size = 1 then (Array.mk vs')[0] else .tuple ⟨vs'⟩, ?_, ?_⟩
  · rw [results_eq, Sem.run_bind, hm]
    rfl
  · cases h2 with
    | nil => exact LR.nil.tuple
    | cons hx ht =>
      cases ht with
      | nil => exact hx
      | cons hy ht => exact (LR.cons hx (.cons hy ht)).tuple

/-! ### the way out -/

theorem vleave_sim (hP : POk P) {rec : Rec} (hrec : RecOk P rec) {fn : Func} {tmps : Array Value} {Rr : Ending → World → Prop} : ∀ {ds ds' : List Deferred} {σ : Ren} {h h' : VH} {w : World}, vleave P rec ds h = some h' → DL σ ds ds' → R W P σ h w →
    (∀ τ w', σ.le τ → R W P τ h' w' → ∃ v, (results fn tmps).run P w' = .ok v w' ∧ Rr (.returned v) w') → LeavesInM Fence.wide 0 P fn tmps Rr ds' .returning w := by
  intro ds
  induction ds with
  | nil =>
    intro ds' σ h h' w e hd r hQ
    cases hd
    cases e
    exact hQ σ w (Ren.le_refl σ) r
  | cons d ds ih =>
    intro ds' σ h h' w e hd r hQ
    cases hd with
    | cons hdr ht =>
      rename_i d' l'
      refine ⟨by simp, ?_⟩
      have hdr' := hdr
      cases hdr with
      | mark hm =>
        rename_i rr m
        left
        have e' : (match h.get rr with
          | some (.dfd true) => vleave P rec ds (h.put rr (some (.dfd false)))
          | _ => none) = some h' := e
        split at e'
        · rename_i hg
          obtain ⟨m', O, h1, h2, h3⟩ := r.obj _ _ hg
          rw [hm] at h1; cases h1
          cases h3
          have hgo := run_getObj (P := P) h2 (by intro c e f h; cases h)
          have hso := run_setObj (P := P) (.deferred none) h2 (by intro c e f h; cases h)
          exact ⟨m.b, _, rfl, by simp [Instr.takeDeferred, hgo, hso], ih e' ht (r.upd hm hg .dfdF) hQ⟩
        · cases e'
      | fn hf hc ha =>
        rename_i f f' cs cs' args args'
        right
        have e' : (match (vinvoke P ⟨.fn f cs, args⟩).look h with
          | some (.enter f args) => (match rec (.dcall f args.toList) h with
            | some (.val _, h1) => vleave P rec ds h1
            | _ => none)
          | _ => none) = some h' := e
        split at e'
        · rename_i g gargs hlk
          have hrun := HM.look_run _ hlk
          obtain ⟨y, w', τ, e1, e2, e3, e4, e5⟩ := vinvoke_sim hP r hrun hdr'
          obtain ⟨rfl, _, rfl⟩ := e5 _ _ rfl
          cases e4 with
          | enter _ hla =>
            rename_i gargs'
            split at e'
            · rename_i v h1 hdc
              refine ⟨(fun q => by cases q), f', cs', g, gargs', rfl, e1, fun _ _ => trivial, ?_⟩
              have hcd := hrec.dcall hdc hla r
              refine CallsDIn.mono hcd ?_
              intro en u' w'' ⟨hu, hv⟩
              subst hu
              cases en with
              | returned v' =>
                obtain ⟨τ, q1, q2, q3⟩ := hv
                exact ih e' (ht.mono q1) q2 (fun τ' w3 s1 s2 => hQ τ' w3 (Ren.le_trans q1 s1) s2)
              | panicked c => exact hv.elim
              | outgrown => exact hv.elim
            · cases e'
        · cases e'

end
end Go.Proofs.YtonkcdnpmemheaaGreat.Vm

namespace Go.Proofs.YtonkcdnpmemheaaGreat.Vm

theorem bndC_mono {n n' : Nat} (hn : n ≤ n') : ∀ {c : Code}, bndC n c = true → bndC n' c = true := by
  have hin : ∀ t, inN n t = true → inN n' t = true := by
    intro t h
    simp only [inN, Nat.blt_eq] at *
    omega
  intro c
  induction c with
  | region id ops d =>
    intro h
    simp only [bndC, List.all_eq_true] at *
    intro o ho
    have := h o ho
    unfold dstIn at *
    cases hd : o.dst with
    | none => rfl
    | some d => rw [hd] at this; exact hin d this
  | seq x y ihx ihy => intro h; simp only [bndC, Bool.and_eq_true] at *; exact ⟨ihx h.1, ihy h.2⟩
  | cond c x y ihx ihy => intro h; simp only [bndC, Bool.and_eq_true] at *; exact ⟨ihx h.1, ihy h.2⟩
  | block id x ih => exact ih
  | loop x ih => exact ih
  | scope x ih => exact ih
  | rangeFunc g ps x y ihx ihy =>
    intro h
    simp only [bndC, Bool.and_eq_true, List.all_eq_true] at *
    exact ⟨⟨fun t ht => hin t (h.1.1 t ht), ihx h.1.2⟩, ihy h.2⟩
  | _ => intro _; rfl

theorem Tm.sets_get : ∀ (l : List Value) (i : Nat) (t : Tm) (k : Nat), (Tm.sets i l t).get k = (if i ≤ k then (match l[k - i]? with | some v => v | none => t.get k) else t.get k) := by
  intro l
  induction l with
  | nil => intro i t k; simp [Tm.sets]
  | cons v l ih =>
    intro i t k
    show (Tm.sets (i + 1) l (t.set i v)).get k = _
    rw [ih, Tm.get_set]
    by_cases h1 : k = i
    · subst h1
      rw [if_neg (by omega), if_pos rfl, if_pos (Nat.le_refl _)]
      simp
    · rw [if_neg h1]
      by_cases h2 : i ≤ k
      · rw [if_pos h2, if_pos (by omega)]
        have : k - i = (k - (i + 1)) + 1 := by omega
        rw [this]
        simp
      · rw [if_neg h2, if_neg (by omega)]

theorem Tm.sets_get0 (l : List Value) (k : Nat) : (Tm.sets 0 l .e).get k = (match l[k]? with | some v => v | none => poison) := by
  rw [Tm.sets_get, if_pos (Nat.zero_le _), Nat.sub_zero]
  rfl

/-- the slots from a list -/
theorem sets_rel {σ : Ren} {l : List Value} {c : Array Value} {live k : Nat} (h : TmpsR σ live l c) : VRel σ (baseGet (Tm.sets 0 l .e) live k) (c.getD k undef) := by
  unfold baseGet
  cases ht : tb live k with
  | false => exact .poison _ _ _ _
  | true =>
    show VRel σ ((Tm.sets 0 l .e).get k) _
    rw [Tm.sets_get0]
    cases hl : l[k]? with
    | none => exact .poison _ _ _ _
    | some v => exact h k v ht hl

section
variable {W : Frm} {P : Program} {rec : Rec} {σ : Ren} {n : Nat} {ro : Option Nat}

theorem frame_rel {args args' : List Value} {live k : Nat} (h : LR σ args args') : AR σ (max k args'.length) none (frame args live) { tmps := ⟨args'⟩ ++ Array.replicate (k - args'.length) undef, defers := [] } := by
  refine ⟨fun t => ?_, ?_, .nil, .none⟩
  · refine sets_rel (live := Nat.lor live (bitsTo (len args))) ?_
    intro i x _ hx
    obtain ⟨y, hy, hr⟩ := h.get hx
    have hi : i < args'.length := by
      rcases Nat.lt_or_ge i args'.length with g | g
      · exact g
      · rw [List.getElem?_eq_none g] at hy; cases hy
    rw [Array.getD_eq_getD_getElem?, Array.getElem?_append, if_pos (by simpa using hi)]
    have : (Array.mk args')[i]? = some y := by simpa using hy
    rw [this]
    exact hr
  · simp; omega

theorem fnInfo_some {f : FuncId} {i : FnI} (h : fnInfo P f = some i) : ∃ fn c, P.funcs[f]? = some fn ∧ fn.body = some c ∧ bndC fn.ntmps c = true ∧ i.c = c ∧ i.res = fn.results.toList := by
  unfold fnInfo at h
  rw [nth?_eq, Array.getElem?_toList] at h
  split at h
  · rename_i fn hf
    split at h
    · rename_i c hc
      split at h
      · rename_i hb
        cases h
        exact ⟨fn, c, hf, hc, hb, rfl, rfl⟩
      · cases h
    · cases h
  · cases h

/-- how a function's code ends -/
theorem callEnd_some {deferred : Bool} {res : List ResultVar} {r : Option (Res × VH)} {q : Res} {h' : VH} (e : callEnd P rec deferred res r = some (q, h')) :
    ∃ e0 a h1 l, r = some (.code e0 a, h1) ∧ (∀ id, e0 ≠ .exit id) ∧ (match deferred with | true => a.defers = [] ∧ h1 = h' | false => vleave P rec a.defers h1 = some h') ∧ vres P a h' res = some l ∧ q = .val (vout l) := by
  unfold callEnd at e
  split at e
  · rename_i e0 a h1
    split at e
    · cases e
    · rename_i hne
      unfold endCall at e
      split at e
      · rename_i h2 hd
        split at e
        · rename_i l hl
          cases e
          refine ⟨e0, a, h1, l, rfl, fun id q => hne id q, ?_, hl, rfl⟩
          cases deferred with
          | false => exact hd
          | true =>
            cases hda : a.defers with
            | nil => rw [hda] at hd; cases hd; exact ⟨rfl, rfl⟩
            | cons _ _ => rw [hda] at hd; cases hd
        · cases e
      · cases e
  · cases e

theorem vcall_sim (hP : POk P) (hrec : RecOk P rec) {f : FuncId} {args args' : List Value} {h h' : VH} {v : Value} {w : World} (e : vcall P rec false f args h = some (.val v, h')) (ha : LR σ args args') (r : R W P σ h w) :
    CallsIn Fence.wide 0 P f ⟨args'⟩ w (ValOk W P σ v h') := by
  unfold vcall at e
  split at e
  · rename_i i hi
    obtain ⟨fn, c, hf, hb, hbnd, hic, hir⟩ := fnInfo_some hi
    obtain ⟨e0, a, h1, l, h2, h3, h4, h5, h6⟩ := callEnd_some e
    rw [hic] at h2
    have hcode := hrec.code (ro := none) h2 (bndC_mono (Nat.le_max_left _ args'.length) hbnd) (frame_rel (k := fn.ntmps) ha) r
    refine callsIn_of_wp_marks hf hb trivial ?_
    refine wpIn_mono hcode ?_
    intro en a' w' ⟨he, τ, q1, q2, q3⟩
    have main : LeavesInM Fence.wide 0 P fn a'.tmps (ValOk W P σ v h') a'.defers .returning w' := by
      refine vleave_sim hP hrec h4 q3.df q2 ?_
      intro τ' w'' s1 s2
      rw [hir] at h5
      obtain ⟨v', t1, t2⟩ := results_sim (q3.mono s1) s2 h5
      cases h6
      exact ⟨v', t1, τ', Ren.le_trans q1 s1, s2, t2⟩
    cases e0 with
    | normal => subst he; exact main
    | ret => subst he; exact main
    | exit id => exact absurd rfl (h3 id)
  · cases e

theorem vdcall_sim (hP : POk P) (hrec : RecOk P rec) {f : FuncId} {args args' : List Value} {h h' : VH} {v : Value} {w : World} (e : vcall P rec true f args h = some (.val v, h')) (ha : LR σ args args') (r : R W P σ h w) :
    CallsDIn Fence.wide 0 P f ⟨args'⟩ .returning w (fun e u w' => u = .returning ∧ ValOk W P σ v h' e w') := by
  unfold vcall at e
  split at e
  · rename_i i hi
    obtain ⟨fn, c, hf, hb, hbnd, hic, hir⟩ := fnInfo_some hi
    obtain ⟨e0, a, h1, l, h2, h3, h4, h5, h6⟩ := callEnd_some e
    rw [hic] at h2
    have hcode := hrec.code (ro := none) h2 (bndC_mono (Nat.le_max_left _ args'.length) hbnd) (frame_rel (k := fn.ntmps) ha) r
    refine callsDIn_of_wp hf hb trivial ?_
    refine wpIn_mono hcode ?_
    intro en a' w' ⟨he, τ, q1, q2, q3⟩
    obtain ⟨hd1, rfl⟩ := h4
    have main : a'.defers = [] ∧ ∃ v1, (results fn a'.tmps).run P w' = .ok v1 w' ∧ ValOk W P σ v h1 (.returned v1) w' := by
      have hdf := q3.df
      rw [hd1] at hdf
      rw [hir] at h5
      obtain ⟨v', t1, t2⟩ := results_sim q3 q2 h5
      cases h6
      refine ⟨by generalize a'.defers = l at hdf; cases hdf; rfl, v', t1, τ, q1, q2, t2⟩
    cases e0 with
    | normal => subst he; exact main
    | ret => subst he; exact main
    | exit id => exact absurd rfl (h3 id)
  · cases e

end
end Go.Proofs.YtonkcdnpmemheaaGreat.Vm

namespace Go.Proofs.YtonkcdnpmemheaaGreat.Vm

/-- regions that draw their order -/
def DrawOk (P : Program) (rec : Rec) : Prop := ∀ {W : Frm} {σ : Ren} {n : Nat} {ro : Option Nat} {id : Nat} {ops : Array Oper} {va va' : VAct} {h h' : VH} {e0 : VExit} {a : Act} {w : World}, (∀ o, o ∈ ops.toList → dstIn n o = true) →
  fin (draws P rec ops.toList va h) = some (.code e0 va', h') → AR σ n ro va a → R W P σ h w → (Code.region id ops true).wpIn (FW ro) 0 P (CodeOk W P σ n ro e0 va' h') a w

def SumsOk (P : Program) (S : Sums) : Prop := ∀ {f : FuncId} {s : List Value → HM Value}, S f = some s → ∀ {W : Frm} {σ : Ren} {h h' : VH} {args args' : List Value} {v : Value} {w : World}, (s args).run h = some (v, h') → LR σ args args' → R W P σ h w → h.nx ≤ UNK →
  CallsIn Fence.wide 0 P f ⟨args'⟩ w (ValOk W P σ v h')

section
variable {W : Frm} {P : Program} {rec : Rec} {σ : Ren} {n : Nat} {ro : Option Nat}

theorem R.loop {h : VH} {w : World} (r : R W P σ h w) {l : Nat} {st : LoopState} {p : Option Code} {live : Nat} {tmps : List Value} {ps : List Tmp} {assign body : Code} {D : Nat} (hg : h.get l = some (.loop st p live tmps ps assign body D)) :
    ∃ m mD fn tmps', σ l = some m ∧ σ D = some mD ∧ w.heap[m.b]? = some (.loop { state := st, pending := p, fn, tmps := tmps', params := ⟨ps⟩, assign, body, defers := mD.b }) ∧ TmpsR σ live tmps tmps' ∧ (∀ t, t ∈ ps → t < tmps'.size) ∧ bndC tmps'.size assign = true ∧ bndC tmps'.size body = true := by
  obtain ⟨m, O, h1, h2, h3⟩ := r.obj _ _ hg
  cases h3 with
  | loop hD ht hp ha hb => exact ⟨m, _, _, _, h1, hD, h2, ht, hp, ha, hb⟩

theorem getLoop_run {w : World} {b : Nat} {L : Loop} (h : w.heap[b]? = some (.loop L)) : (Instr.getLoop b).run P w = .ok L w := by
  have hgo := run_getObj (P := P) h (by intro c e f h; cases h)
  simp [Instr.getLoop, hgo]

theorem setLoop_run {w : World} {b : Nat} {L : Loop} (h : w.heap[b]? = some (.loop L)) (O : Obj) : (setObj b O).run P w = .ok () (setB w b O) :=
  run_setObj (P := P) O h (by intro c e f h; cases h)

theorem vround_sim (hrec : RecOk P rec) {l live : Nat} {tmps : List Value} {assign body : Code} {h h' : VH} {v : Value} {w : World} {m : NM} {tmps' : Array Value} {fn : FuncId} (e : vround rec l live tmps assign body h = some (.val v, h'))
    (hl : σ l = some m) (ht : TmpsR σ live tmps tmps') (hA : bndC tmps'.size assign = true) (hB : bndC tmps'.size body = true) (r : R W P σ h w) : RoundIn Fence.wide 0 P m.b fn tmps' assign body w (ValOk W P σ v h') := by
  unfold vround roundGo at e
  split at e
  · rename_i a1 h1 hr1
    have hframe : AR σ tmps'.size (some m.b) ⟨Tm.sets 0 tmps .e, [], live, [], some l⟩ { tmps := tmps', defers := [] } :=
      ⟨fun t => sets_rel ht, rfl, .nil, .some hl⟩
    have hcode := hrec.code (ro := some m.b) hr1 hA hframe r
    refine roundIn_of_wpIn trivial ?_
    refine wpIn_mono hcode ?_
    intro en a' w' ⟨he, τ, q1, q2, q3⟩
    subst he
    show ∃ w₂, (Instr.beginRound m.b).run P w' = .ok () w₂ ∧ body.wpIn (FW (some m.b)) 0 P (roundPost P m.b (ValOk W P σ v h')) a' w₂
    unfold roundBody at e
    split at e
    · rename_i p live1 tm1 ps1 as1 b1 D1 hg
      obtain ⟨m', mD, fn', tms, g1, g2, g3, g4, g5, g6, g7⟩ := q2.loop hg
      rw [q1 _ _ hl] at g1; cases g1
      have hgl := getLoop_run (P := P) g3
      have hsl := setLoop_run (P := P) g3 (.loop { state := .busy, pending := p, fn := fn', tmps := tms, params := ⟨ps1⟩, assign := as1, body := b1, defers := mD.b })
      have r2 := q2.upd (q1 _ _ hl) hg (o := .loop .busy p live1 tm1 ps1 as1 b1 D1) (.loop (st := .busy) (p := p) (fn := fn') g2 g4 g5 g6 g7)
      refine ⟨_, by simp [Instr.beginRound, hgl, hsl]; rfl, ?_⟩
      unfold roundDone at e
      split at e
      · rename_i e2 a2 h2 hr2
        have hbody := hrec.code (ro := some m.b) hr2 hB q3 r2
        refine wpIn_mono hbody ?_
        intro en a'' w'' ⟨he, τ2, s1, s2, s3⟩
        unfold roundEnd at e
        split at e
        · rename_i st2 p2 live2 tm2 ps2 as2 b2 D2 hg2
          obtain ⟨m2, mD2, fn2, tms2, k1, k2, k3, k4, k5, k6, k7⟩ := s2.loop hg2
          rw [s1 _ _ (q1 _ _ hl)] at k1; cases k1
          have hgl2 := getLoop_run (P := P) k3
          have fin : ∀ (st' : LoopState) (j : Option Code) (b : Bool), j.isNone = b → (if b then LoopState.ready else .done) = st' → v = .bool b → h' = h2.put l (some (.loop st' j live2 tm2 ps2 as2 b2 D2)) →
              ∃ v1 w1, (Instr.endRound m.b j).run P w'' = .ok v1 w1 ∧ ValOk W P σ v h' (.returned v1) w1 := by
            intro st' j b hj hst hv hh
            have hsl2 := setLoop_run (P := P) k3 (.loop { state := st', pending := j, fn := fn2, tmps := tms2, params := ⟨ps2⟩, assign := as2, body := b2, defers := mD2.b })
            have r3 := s2.upd (s1 _ _ (q1 _ _ hl)) hg2 (o := .loop st' j live2 tm2 ps2 as2 b2 D2) (.loop (st := st') (p := j) (fn := fn2) k2 k4 k5 k6 k7)
            refine ⟨.bool b, _, ?_, τ2, Ren.le_trans q1 s1, by rw [hh]; exact r3, by rw [hv]; exact .bool b⟩
            simp only [Instr.endRound, Sem.run_bind, hgl2, Result.andThen_ok, hj, hst, hsl2]
            rfl
          cases e2 with
          | normal => subst he; cases e; exact fin .ready none true rfl rfl rfl rfl
          | ret => subst he; cases e; exact fin .done (some .ret) false rfl rfl rfl rfl
          | exit id => subst he; cases e; exact fin .done (some (.exit id)) false rfl rfl rfl rfl
        · cases e
      · cases e
    · cases e
  · cases e

theorem Tm.list_get (t : Tm) : ∀ (k i j : Nat) (v : Value), (Tm.list k i t)[j]? = some v → v = t.get (i + j) := by
  intro k
  induction k with
  | zero => intro i j v h; simp [Tm.list] at h
  | succ k ih =>
    intro i j v h
    cases j with
    | zero => simp [Tm.list] at h; exact h.symm
    | succ j =>
      have : (Tm.list k (i + 1) t)[j]? = some v := by simpa [Tm.list] using h
      have := ih _ _ _ this
      rw [this]
      congr 1; omega

/-- the record's slots -/
theorem loopObj_rel {va : VAct} {a : Act} (ha : AR σ n ro va a) {ps : Array Tmp} {assign body : Code} {D : Nat} {mD : NM} {fn : FuncId} {m : NM} (hD : σ D = some mD) (hp : ∀ t, t ∈ ps.toList → inN n t = true) (hA : bndC n assign = true) (hB : bndC n body = true) :
    ORel P σ m (loopObj va ps assign body D) (.loop { state := .ready, pending := none, fn, tmps := a.tmps, params := ps, assign, body, defers := mD.b }) := by
  have hs := ha.shut
  have hloc : ∃ tm live ds r, va.shut = ⟨tm, [], live, ds, r⟩ := by
    obtain ⟨tm, l, live, ds, r⟩ := va
    cases l with
    | nil => exact ⟨_, _, _, _, rfl⟩
    | cons p l => exact ⟨_, _, _, _, rfl⟩
  obtain ⟨tm, live, ds, r, hv⟩ := hloc
  unfold loopObj
  rw [hv]
  rw [hv] at hs
  refine .loop hD ?_ (fun t ht => by rw [ha.sz]; simpa [inN] using hp t ht) (by rw [ha.sz]; exact hA) (by rw [ha.sz]; exact hB)
  intro t x hb hx
  have := Tm.list_get tm _ _ _ _ hx
  rw [Nat.zero_add] at this
  rw [this]
  have h1 := hs.tm t
  have h2 : (VAct.mk tm [] live ds r).get t = tm.get t := by
    show baseGet tm live t = _
    unfold baseGet
    rw [hb]
  rw [h2] at h1
  exact h1

/-- the record laid -/
theorem enter_sim {va : VAct} {a : Act} {h : VH} {w : World} (ha : AR σ n ro va a) (r : R W P σ h w) {ps : Array Tmp} {assign body : Code} (hp : ∀ t, t ∈ ps.toList → inN n t = true) (hA : bndC n assign = true) (hB : bndC n body = true)
    {l : Nat} {mark : List Deferred} {h1 : VH} (e : enter va ps assign body h = some (l, mark, h1)) (fn : FuncId) :
    ∃ m mark' w1 τ, (Instr.enterLoop fn a.tmps ps assign body ro).run P w = .ok (m.b, mark') w1 ∧ σ.le τ ∧ R W P τ h1 w1 ∧ τ l = some m ∧ DL τ mark mark' := by
  have hrd := ha.rd
  obtain ⟨tm, lo, live, ds, ro0⟩ := va
  cases ro0 with
  | none =>
    cases hrd
    have e' : some ((h.new (.dfd true)).al, [{ target := .collected h.al, args := #[] }], (h.new (.dfd true)).new (loopObj ⟨tm, lo, live, ds, none⟩ ps assign body h.al)) = some (l, mark, h1) := e
    cases e'
    obtain ⟨t1, r1⟩ := r.new (m := ⟨w.heap.size, 0, 0⟩) rfl (o := .dfd true) (O := .deferred (some [])) .dfdT
    have hk1 : (σ.at h.al ⟨w.heap.size, 0, 0⟩) h.al = some ⟨w.heap.size, 0, 0⟩ := Ren.at_same _ _ _
    have hle2 : (σ.at h.al ⟨w.heap.size, 0, 0⟩).le ((σ.at h.al ⟨w.heap.size, 0, 0⟩).at (h.new (.dfd true)).al ⟨(w.alloc (.deferred (some []))).heap.size, 0, 0⟩) := Ren.le_at r1.al
    obtain ⟨t2, r2⟩ := r1.new (m := ⟨(w.alloc (.deferred (some []))).heap.size, 0, 0⟩) rfl
      (loopObj_rel (fn := fn) (m := ⟨(w.alloc (.deferred (some []))).heap.size, 0, 0⟩) ((ha.mono (Ren.le_trans t1 hle2))) (hle2 _ _ hk1) hp hA hB)
    refine ⟨⟨(w.alloc (.deferred (some []))).heap.size, 0, 0⟩, [{ target := .collected w.heap.size, args := #[] }], _, _, ?_, Ren.le_trans t1 t2, r2, Ren.at_same _ _ _, .cons (.mark (m := ⟨w.heap.size, 0, 0⟩) (t2 _ _ hk1)) .nil⟩
    simp [Instr.enterLoop]
  | some l0 =>
    cases hrd with
    | some hl0 =>
      rename_i m0
      have e' : (match h.get l0 with
        | some (.loop _ _ _ _ _ _ _ D) => some (h.al, [], h.new (loopObj ⟨tm, lo, live, ds, some l0⟩ ps assign body D))
        | _ => none) = some (l, mark, h1) := e
      split at e'
      · rename_i st p lv tms pps as bd D hg
        cases e'
        obtain ⟨m', mD, fn', tms', g1, g2, g3, g4, g5, g6, g7⟩ := r.loop hg
        rw [hl0] at g1; cases g1
        have hgl := getLoop_run (P := P) g3
        have hle : σ.le (σ.at h.al ⟨w.heap.size, 0, 0⟩) := Ren.le_at r.al
        obtain ⟨t1, r1⟩ := r.new (m := ⟨w.heap.size, 0, 0⟩) rfl (loopObj_rel (fn := fn) (m := ⟨w.heap.size, 0, 0⟩) (ha.mono hle) (hle _ _ g2) hp hA hB)
        refine ⟨⟨w.heap.size, 0, 0⟩, [], _, _, ?_, t1, r1, Ren.at_same _ _ _, .nil⟩
        simp [Instr.enterLoop, hgl]
      · cases e'

end
end Go.Proofs.YtonkcdnpmemheaaGreat.Vm

namespace Go.Proofs.YtonkcdnpmemheaaGreat.Vm

section
variable {W : Frm} {P : Program} {rec : Rec} {σ : Ren} {n : Nat} {ro : Option Nat}

theorem DL.append {l l' m m' : List Deferred} (r : DL σ l l') (s : DL σ m m') : DL σ (l ++ m) (l' ++ m') := by
  induction r with
  | nil => exact s
  | cons a _ ih => exact .cons a ih

theorem vrange_sim (hP : POk P) (hrec : RecOk P rec) {g : Operand} {ps : Array Tmp} {assign body : Code} {va va' : VAct} {h h' : VH} {e0 : VExit} {a : Act} {w : World}
    (e : vrange P rec g ps assign body va h = some (.code e0 va', h')) (ha : AR σ n ro va a) (r : R W P σ h w) (hp : ∀ t, t ∈ ps.toList → inN n t = true) (hA : bndC n assign = true) (hB : bndC n body = true) :
    (Code.rangeFunc g ps assign body).wpIn (FW ro) 0 P (CodeOk W P σ n ro e0 va' h') a w := by
  unfold vrange at e
  split at e
  · cases e
  · rename_i l mark h1 hent
    split at e
    · rename_i fn0 first captured hg
      refine wpIn_rangeFunc ?_
      intro fn _
      obtain ⟨m, mark', w1, τ, g1, g2, g3, g4, g5⟩ := enter_sim ha r hp hA hB hent fn
      have hv := (ha.eval g).mono g2
      rw [hg] at hv
      cases hav : a.eval g with
      | func fn0' first' captured' =>
        rw [hav] at hv
        cases hv with
        | func hfn c1 c2 c3 c4 =>
          have hdr : DefR τ ⟨.fn fn0 captured, ⟨app first.toList [.func (.yield l) #[] #[]]⟩⟩ ⟨.fn fn0' captured', first' ++ #[.func (.yield m.b) #[] #[]]⟩ := by
            refine .fn hfn (LR.of c3 c4) ?_
            have h1 : (first' ++ #[Value.func (.yield m.b) #[] #[]]).toList = first'.toList ++ [Value.func (.yield m.b) #[] #[]] := by simp
            rw [h1, app_eq]
            exact (LR.of c1 c2).append (.one (.func (f := .yield l) (f' := .yield m.b) ⟨m, g4, rfl⟩ rfl (fun i x y h => by simp at h) rfl (fun i x y h => by simp at h)))
          unfold rangeCallK at e
          split at e
          · rename_i f args hlk
            have hrun := HM.look_run _ hlk
            obtain ⟨y, w2, τ2, k1, k2, k3, k4, k5⟩ := vinvoke_sim hP g3 hrun hdr
            obtain ⟨rfl, _, rfl⟩ := k5 _ _ rfl
            cases k4 with
            | enter _ hla =>
              rename_i args'
              refine ⟨m.b, mark', w2, _, w2, f, args', w2, g1, ?_, fun _ _ => trivial, k1, (fun q => by cases q), ?_⟩
              · have hm : (#[Operand.const (Value.func (Fn.yield m.b) #[] #[])] : Array Operand).map a.eval = #[Value.func (Fn.yield m.b) #[] #[]] := by
                  simp [Act.eval]
                simp only [resolve, hav, Deferred.ofValue, hm]
                rfl
              · unfold rangeDone at e
                split at e
                · rename_i v h2 hcall
                  have hc := hrec.call hcall hla g3
                  refine CallsIn.mono (F := Fence.wide) (n := 0) hc ?_
                  intro en w3 hv3
                  cases en with
                  | returned v' =>
                    obtain ⟨τ3, s1, s2, s3⟩ := hv3
                    unfold rangeEnd at e
                    split at e
                    · rename_i st p lv tms pps as bd D hgl
                      obtain ⟨m3, mD, fn3, tms3, q1, q2, q3, q4, q5, q6, q7⟩ := s2.loop hgl
                      rw [s1 _ _ g4] at q1; cases q1
                      have hgl3 := getLoop_run (P := P) q3
                      have hsl := setLoop_run (P := P) q3 (.loop { state := .exhausted, pending := p, fn := fn3, tmps := tms3, params := ⟨pps⟩, assign := as, body := bd, defers := mD.b })
                      have r4 := s2.upd (s1 _ _ g4) hgl (o := .loop .exhausted p lv tms pps as bd D) (.loop (st := .exhausted) (p := p) (fn := fn3) q2 q4 q5 q6 q7)
                      have hnb : ¬ st = LoopState.busy := by
                        intro q; subst q; cases e
                      have e' : rangeTo p (va.marked mark) (h2.put l (some (.loop .exhausted p lv tms pps as bd D))) = some (.code e0 va', h') := by
                        cases st <;> first | exact e | cases e
                      refine ⟨p, setB w3 m.b (.loop { state := .exhausted, pending := p, fn := fn3, tmps := tms3, params := ⟨pps⟩, assign := as, body := bd, defers := mD.b }), ?_, ?_⟩
                      · simp [Instr.endLoop, hgl3, hnb, hsl]
                      · have har : AR τ3 n ro (va.marked mark) { a with defers := mark' ++ a.defers } := by
                          obtain ⟨tm, lo, live, ds, ro0⟩ := va
                          have h1 := ha.mono (Ren.le_trans g2 s1)
                          refine ⟨h1.tm, h1.sz, ?_, h1.rd⟩
                          show DL τ3 (app mark ds) (mark' ++ a.defers)
                          rw [app_eq]
                          exact (g5.mono s1).append h1.df
                        unfold rangeTo at e'
                        split at e'
                        · rename_i e1 hj
                          cases e'
                          have hok : ∀ en, en = exitOf e0 → CodeOk W P σ n ro e0 _ _ en { a with defers := mark' ++ a.defers } _ := fun en hen => ⟨hen, τ3, Ren.le_trans g2 s1, r4, har⟩
                          unfold jumpOf at hj
                          split at hj
                          · cases hj; exact hok _ rfl
                          · cases hj; exact wpIn_ret (hok _ rfl)
                          · cases hj; exact wpIn_exit (hok _ rfl)
                          · cases hj
                        · cases e'
                    · cases e
                  | panicked c => exact hv3.elim
                  | outgrown => exact hv3.elim
                · cases e
          · cases e
      | _ => rw [hav] at hv; cases hv
    · cases e

theorem CodeOk.mono {τ : Ren} (hle : σ.le τ) {e0 : VExit} {va : VAct} {h : VH} {e : Exit} {a : Act} {w : World} (q : CodeOk W P τ n ro e0 va h e a w) : CodeOk W P σ n ro e0 va h e a w := by
  obtain ⟨h1, υ, h2, h3, h4⟩ := q
  exact ⟨h1, υ, Ren.le_trans hle h2, h3, h4⟩

theorem codeK_sim (hP : POk P) (hrec : RecOk P rec) (hD : DrawOk P rec) : ∀ {c : Code} {W : Frm} {σ : Ren} {n : Nat} {ro : Option Nat} {va va' : VAct} {h h' : VH} {e0 : VExit} {a : Act} {w : World},
    codeK P rec c va h = some (.code e0 va', h') → bndC n c = true → AR σ n ro va a → R W P σ h w → c.wpIn (FW ro) 0 P (CodeOk W P σ n ro e0 va' h') a w := by
  intro c
  induction c with
  | skip => intro W σ n ro va va' h h' e0 a w e _ ha r; cases e; exact wpIn_skip ⟨rfl, σ, Ren.le_refl σ, r, ha⟩
  | label l => intro W σ n ro va va' h h' e0 a w e _ ha r; cases e; exact wpIn_label ⟨rfl, σ, Ren.le_refl σ, r, ha⟩
  | exit id => intro W σ n ro va va' h h' e0 a w e _ ha r; cases e; exact wpIn_exit ⟨rfl, σ, Ren.le_refl σ, r, ha⟩
  | ret => intro W σ n ro va va' h h' e0 a w e _ ha r; cases e; exact wpIn_ret ⟨rfl, σ, Ren.le_refl σ, r, ha⟩
  | goto l => intro W σ n ro va va' h h' e0 a w e _ ha r; cases e
  | refuse s => intro W σ n ro va va' h h' e0 a w e _ ha r; cases e
  | scope x ih =>
    intro W σ n ro va va' h h' e0 a w e hb ha r
    refine wpIn_scope (ih e hb ha r) ?_
    intro l a w q
    have := q.1
    cases e0 <;> cases this
  | region id ops d =>
    intro W σ n ro va va' h h' e0 a w e hb ha r
    have hb' : ∀ o, o ∈ ops.toList → dstIn n o = true := by
      simp only [bndC, List.all_eq_true] at hb
      exact hb
    cases d with
    | false => exact region_sim hP hrec hb' e ha r
    | true => exact hD hb' e ha r
  | rangeFunc g ps x y _ _ =>
    intro W σ n ro va va' h h' e0 a w e hb ha r
    simp only [bndC, Bool.and_eq_true, List.all_eq_true] at hb
    exact vrange_sim hP hrec e ha r hb.1.1 hb.1.2 hb.2
  | seq x y ihx ihy =>
    intro W σ n ro va va' h h' e0 a w e hb ha r
    simp only [bndC, Bool.and_eq_true] at hb
    refine wpIn_seq ?_
    have e' : (match codeK P rec x va h with
      | some (.code .normal a1, h1) => codeK P rec y a1 h1
      | r => r) = some (.code e0 va', h') := e
    split at e'
    · rename_i a1 h1 hx
      refine wpIn_mono (ihx hx hb.1 ha r) ?_
      intro en a' w' ⟨he, τ, q1, q2, q3⟩
      subst he
      exact wpIn_mono (ihy e' hb.2 q3 q2) (fun _ _ _ q => q.mono q1)
    · rename_i hne
      refine wpIn_mono (ihx e' hb.1 ha r) ?_
      intro en a' w' q
      have he := q.1
      subst he
      cases e0 with
      | normal => exact absurd e' (hne _ _)
      | ret => exact q
      | exit id => exact q
  | cond c x y ihx ihy =>
    intro W σ n ro va va' h h' e0 a w e hb ha r
    simp only [bndC, Bool.and_eq_true] at hb
    have e' : (match va.eval c with
      | .bool true => codeK P rec x va h
      | .bool false => codeK P rec y va h
      | _ => none) = some (.code e0 va', h') := e
    have hv := ha.eval c
    split at e'
    · rename_i hc
      rw [hc] at hv
      exact wpIn_cond_true hv.bool_inv (ihx e' hb.1 ha r)
    · rename_i hc
      rw [hc] at hv
      exact wpIn_cond_false hv.bool_inv (ihy e' hb.2 ha r)
    · cases e'
  | block id x ih =>
    intro W σ n ro va va' h h' e0 a w e hb ha r
    refine wpIn_block ?_
    have e' : (match codeK P rec x va h with
      | some (.code (.exit i) a1, h1) => (match Nat.beq i id with
        | true => some (.code .normal a1, h1)
        | false => some (.code (.exit i) a1, h1))
      | r => r) = some (.code e0 va', h') := e
    split at e'
    · rename_i i a1 h1 hx
      refine wpIn_mono (ih hx hb ha r) ?_
      intro en a' w' ⟨he, τ, q1, q2, q3⟩
      subst he
      cases hi : Nat.beq i id with
      | true =>
        rw [hi] at e'
        cases e'
        have := Nat.eq_of_beq_eq_true hi
        subst this
        simp only [exitOf, Exit.inBlock, if_true]
        exact ⟨rfl, τ, q1, q2, q3⟩
      | false =>
        rw [hi] at e'
        cases e'
        have : i ≠ id := fun q => by subst q; rw [show Nat.beq i i = true by rw [Nat.beq_eq]] at hi; cases hi
        simp only [exitOf, Exit.inBlock, this, if_false]
        exact ⟨rfl, τ, q1, q2, q3⟩
    · rename_i hne
      refine wpIn_mono (ih e' hb ha r) ?_
      intro en a' w' q
      have he := q.1
      subst he
      cases e0 with
      | normal => exact q
      | ret => exact q
      | exit id => exact absurd e' (hne _ _ _)
  | loop x ih =>
    intro W σ n ro va va' h h' e0 a w e hb ha r
    refine LoopIn.wpIn (LoopIn.of ?_)
    have e' : (match codeK P rec x va h with
      | some (.code .normal a1, h1) => rec (.code (.loop x) a1) h1
      | r => r) = some (.code e0 va', h') := e
    split at e'
    · rename_i a1 h1 hx
      refine wpIn_mono (ih hx hb ha r) ?_
      intro en a' w' ⟨he, τ, q1, q2, q3⟩
      subst he
      exact LoopIn.mono (hrec.loop e' hb q3 q2) (fun _ _ _ q => q.mono q1)
    · rename_i hne
      refine wpIn_mono (ih e' hb ha r) ?_
      intro en a' w' q
      have he := q.1
      subst he
      cases e0 with
      | normal => exact absurd e' (hne _ _)
      | ret => exact q
      | exit id => exact q

theorem codeK_loop (hP : POk P) (hrec : RecOk P rec) (hD : DrawOk P rec) {x : Code} {va va' : VAct} {h h' : VH} {e0 : VExit} {a : Act} {w : World}
    (e : codeK P rec (.loop x) va h = some (.code e0 va', h')) (hb : bndC n x = true) (ha : AR σ n ro va a) (r : R W P σ h w) : LoopIn (FW ro) 0 P x (CodeOk W P σ n ro e0 va' h') a w := by
  refine LoopIn.of ?_
  have e' : (match codeK P rec x va h with
    | some (.code .normal a1, h1) => rec (.code (.loop x) a1) h1
    | r => r) = some (.code e0 va', h') := e
  split at e'
  · rename_i a1 h1 hx
    refine wpIn_mono (codeK_sim hP hrec hD hx hb ha r) ?_
    intro en a' w' ⟨he, τ, q1, q2, q3⟩
    subst he
    exact LoopIn.mono (hrec.loop e' hb q3 q2) (fun _ _ _ q => q.mono q1)
  · rename_i hne
    refine wpIn_mono (codeK_sim hP hrec hD e' hb ha r) ?_
    intro en a' w' q
    have he := q.1
    subst he
    cases e0 with
    | normal => exact absurd e' (hne _ _)
    | ret => exact q
    | exit id => exact q

theorem vstep_ok (hP : POk P) {S : Sums} (hS : SumsOk P S) (hrec : RecOk P rec) (hD : DrawOk P rec) : RecOk P (vstep P S rec) where
  code e hb ha r := codeK_sim hP hrec hD e hb ha r
  loop e hb ha r := codeK_loop hP hrec hD e hb ha r
  call {W σ f args h v h' args' w} e hl r := by
    have e' : callK P rec f args h (S f) = some (.val v, h') := e
    unfold callK at e'
    split at e'
    · rename_i s hs
      unfold sumNx at e'
      split at e'
      · rename_i hnx
        unfold sumK at e'
        split at e'
        · rename_i v1 h1 hr
          cases e'
          exact hS hs hr hl r (Nat.le_of_ble_eq_true hnx)
        · cases e'
      · cases e'
    · exact vcall_sim hP hrec e' hl r
  dcall e hl r := vdcall_sim hP hrec e hl r
  round e hl ht hA hB r := vround_sim hrec e hl ht hA hB r

theorem vrun_ok (hP : POk P) {S : Sums} (hS : SumsOk P S) (hD : ∀ rec, RecOk P rec → DrawOk P rec) : ∀ k, RecOk P (vrun P S k) := by
  intro k
  induction k with
  | zero => exact ⟨(fun e => by cases e), (fun e => by cases e), (fun e => by cases e), (fun e => by cases e), (fun e => by cases e)⟩
  | succ k ih => exact vstep_ok hP hS ih (hD _ ih)

end
end Go.Proofs.YtonkcdnpmemheaaGreat.Vm

