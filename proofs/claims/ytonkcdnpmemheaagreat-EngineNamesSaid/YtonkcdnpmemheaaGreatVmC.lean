/- Operations on memory answer alike in the evaluator and the machine. By an AI agent. -/
import Derived.Test.YtonkcdnpmemheaaGreatVmB
import Derived.Laws.IdiomStrings
import Derived.Lib.BytesEntry
import Derived.Lib.UnsafeStr
set_option linter.all false
namespace Go.Proofs.YtonkcdnpmemheaaGreat.Vm

def MSim {α β : Type} (W : Frm) (P : Program) (σ : Ren) (rel : Ren → α → β → Prop) (w : World) (r : α × VH) (s : Sem β) : Prop :=
  ∃ y w' τ, s.run P w = .ok y w' ∧ σ.le τ ∧ R W P τ r.2 w' ∧ rel τ r.1 y

section
variable {W : Frm} {P : Program} {σ : Ren} {h : VH} {w : World}

theorem rowList_nil (f : List Value) : rowList f [] = f := rfl
theorem rowList_eq (f b : List Value) : rowList f b = f ++ b.reverse := by
  cases b with
  | nil => simp [rowList]
  | cons x b =>
    show app f (rapp (x :: b) []) = _
    rw [app_eq, rapp_eq]; simp

theorem R.row (r : R W P σ h w) {n k : Nat} {f b : List Value} {e : TypeId} {fr : Nat × Nat} (hg : h.get n = some (.row k f b e fr)) :
    ∃ m c fr', σ n = some m ∧ w.heap[m.b]? = some (.cells c e fr') ∧ k = (rowList f b).length ∧ c.size = m.sz ∧ RowIn σ m.d (rowList f b) c ∧ FrR m.d m.sz fr fr' ∧ m.d % P.cellsOf e = 0 := by
  obtain ⟨m, O, h1, h2, h3⟩ := r.obj n _ hg
  cases h3 with
  | row hn hs hc hf hd => exact ⟨m, _, _, h1, h2, hn, hs, hc, hf, hd⟩

theorem cell_at {b : Nat} {c : Array Value} {e : TypeId} {fr : Nat × Nat} (hb : w.heap[b]? = some (.cells c e fr)) (i : Nat) : w.cell? ⟨b, i, none⟩ = c[i]? := by
  simp [World.cell?, hb]

theorem frozen_at {b : Nat} {c : Array Value} {e : TypeId} {fr : Nat × Nat} (hb : w.heap[b]? = some (.cells c e fr)) (i : Nat) : w.frozen? ⟨b, i, none⟩ = (decide (fr.1 ≤ i) && decide (i < fr.2)) := by
  obtain ⟨lo, hi⟩ := fr
  simp [World.frozen?, hb]

theorem RowIn.bound {d : Nat} {l : List Value} {c : Array Value} (r : RowIn σ d l c) : l = [] ∨ d + l.length ≤ c.size := by
  cases l with
  | nil => exact .inl rfl
  | cons x l =>
    right
    have hlt : l.length < (x :: l).length := by simp
    obtain ⟨y, hy, _⟩ := r l.length _ (List.getElem?_eq_getElem hlt)
    have : d + l.length < c.size := by
      rcases Nat.lt_or_ge (d + l.length) c.size with g | g
      · exact g
      · rw [Array.getElem?_eq_none g] at hy; cases hy
    simp; omega

/-- a piece of a row -/
theorem RowIn.piece {d : Nat} {l : List Value} {c : Array Value} (r : RowIn σ d l c) {off n : Nat} (hn : off + n ≤ l.length) :
    LR σ ((l.drop off).take n) ((c.toList.drop (d + off)).take n) := by
  have hb : n = 0 ∨ d + l.length ≤ c.size := by
    rcases r.bound with e | e
    · left; rw [e] at hn; simp at hn; omega
    · exact .inr e
  refine LR.of ?_ ?_
  · simp; rcases hb with e | e <;> omega
  · intro i x y hx hy
    rw [List.getElem?_take] at hx hy
    split at hx
    · rename_i hi
      rw [if_pos hi] at hy
      rw [List.getElem?_drop] at hx hy
      obtain ⟨z, hz1, hz2⟩ := r (off + i) x hx
      rw [Array.getElem?_toList, show d + off + i = d + (off + i) by omega, hz1] at hy
      cases hy
      exact hz2
    · cases hx

theorem loadCells_run {b off n : Nat} {c : Array Value} {e : TypeId} {fr : Nat × Nat} (hb : w.heap[b]? = some (.cells c e fr)) (hn : off + n ≤ c.size) :
    (loadCells ⟨b, off, none⟩ n).run P w = .ok ⟨(c.toList.drop off).take n⟩ w := by
  have hl : ((c.toList.drop off).take n).length = n := by simp; omega
  have := run_loadCells_list (P := P) (w := w) ⟨b, off, none⟩ ((c.toList.drop off).take n) (fun j v hj => by
    rw [List.getElem?_take] at hj
    split at hj
    · rw [List.getElem?_drop, Array.getElem?_toList] at hj
      have : (Addr.add ⟨b, off, none⟩ j) = ⟨b, off + j, none⟩ := by
        unfold Addr.add
        split
        · rename_i h0; subst h0; rfl
        · rfl
      rw [this, cell_at hb]
      exact hj
    · cases hj)
  rw [hl] at this
  exact this

theorem addr_eq {a : Addr} {b off : Nat} (h0 : a.spot = none) (h1 : a.block = b) (h2 : a.off = off) : a = ⟨b, off, none⟩ := by
  cases a; simp_all

/-- the cells at an address -/
theorem withCells_sim {α : Type} {a : Addr} {n : Nat} {k : List Value → HM α} {x : α × VH} (r : R W P σ h w) (e : (withCells a n k).run h = some x) {a' : Addr} (ha : n = 0 ∨ ARel σ a a') :
    ∃ l l', (k l).run h = some x ∧ (loadCells a' n).run P w = .ok ⟨l'⟩ w ∧ LR σ l l' ∧ l.length = n := by
  cases n with
  | zero => exact ⟨[], [], e, rfl, .nil, rfl⟩
  | succ n =>
    have ha : ARel σ a a' := by
      rcases ha with e0 | e0
      · cases e0
      · exact e0
    obtain ⟨h1, h2, m, h3, h4, h5⟩ := ha
    obtain ⟨b, off, sp⟩ := a
    simp only at h1 h3 h5
    subst h1
    have e' : (HM.rd b (cellsK off (n + 1) k)).run h = some x := e
    obtain ⟨o, hg, e2⟩ := HM.run_rd e'
    unfold cellsK at e2
    cases o with
    | row k0 f bk ety fr =>
      simp only at e2
      obtain ⟨m', c, fr', g1, g2, g3, g4, g5, g6, g7⟩ := r.row hg
      rw [h3] at g1; cases g1
      unfold hopt at e2
      split at e2
      · rename_i l hl
        obtain ⟨t1, t2⟩ := take?_some hl
        rw [drp_eq] at t1 t2
        have hlen : off + (n + 1) ≤ (rowList f bk).length := by simp at t1; omega
        have hb : m.d + (rowList f bk).length ≤ c.size := by
          rcases g5.bound with e0 | e0
          · rw [e0] at hlen; simp at hlen
          · exact e0
        refine ⟨l, (c.toList.drop (off + m.d)).take (n + 1), e2, ?_, ?_, ?_⟩
        · rw [addr_eq h2 h4 h5]
          exact loadCells_run g2 (by omega)
        · rw [t2, show off + m.d = m.d + off by omega]
          exact g5.piece hlen
        · rw [t2]; simp; omega
      · cases e2
    | _ => cases e2

/-! ### stores -/

theorem setB_setB (w : World) (b : Nat) (o o' : Obj) : setB (setB w b o) b o' = setB w b o' := by
  simp [setB, Array.setIfInBounds_setIfInBounds]

theorem setB_self {b : Nat} {o : Obj} (hb : w.heap[b]? = some o) : setB w b o = w := by
  have hlt : b < w.heap.size := by
    rcases Nat.lt_or_ge b w.heap.size with g | g
    · exact g
    · rw [Array.getElem?_eq_none g] at hb; cases hb
  have : w.heap.setIfInBounds b o = w.heap := by
    apply Array.ext_getElem?
    intro i
    rw [Array.getElem?_setIfInBounds]
    split
    · rename_i hi
      subst hi
      simp [hlt] at hb ⊢
      exact hb.symm
    · rfl
  simp [setB, this]

theorem setCell_eq {b i : Nat} {c : Array Value} {e : TypeId} {fr : Nat × Nat} (hb : w.heap[b]? = some (.cells c e fr)) (v : Value) :
    w.setCell ⟨b, i, none⟩ v = setB w b (.cells (c.setIfInBounds i v) e fr) := by
  simp only [World.setCell, setB]
  congr 1
  apply Array.ext_getElem?
  intro j
  rw [Array.getElem?_modify, Array.getElem?_setIfInBounds]
  by_cases hj : b = j
  · subst hj
    rw [if_pos rfl, if_pos rfl, hb]
    have hlt : b < w.heap.size := by
      rcases Nat.lt_or_ge b w.heap.size with g | g
      · exact g
      · rw [Array.getElem?_eq_none g] at hb; cases hb
    rw [if_pos hlt]
    rfl
  · rw [if_neg hj, if_neg hj]

theorem storeCells_run {b off : Nat} {e : TypeId} {fr : Nat × Nat} : ∀ (vs : List Value) (i : Nat) (c : Array Value) (w : World), w.heap[b]? = some (.cells c e fr) → off + i + vs.length ≤ c.size →
    (∀ v, v ∈ vs → v.oneCell' = true) → (∀ j, off + i ≤ j → j < off + i + vs.length → (decide (fr.1 ≤ j) && decide (j < fr.2)) = false) →
    (storeCells ⟨b, off, none⟩ vs i).run P w = .ok () (setB w b (.cells ((vs.zipIdx i).foldl (fun cs (x : Value × Nat) => cs.setIfInBounds (off + x.2) x.1) c) e fr)) := by
  intro vs
  induction vs with
  | nil =>
    intro i c w hb _ _ _
    simp only [storeCells, List.zipIdx_nil, List.foldl_nil, setB_self hb]
    rfl
  | cons v vs ih =>
    intro i c w hb hl h1 hf
    simp only [List.length_cons] at hl hf
    have ea : Addr.add ⟨b, off, none⟩ i = ⟨b, off + i, none⟩ := by
      unfold Addr.add
      split
      · rename_i h0; subst h0; rfl
      · rfl
    have hc : w.cell? ⟨b, off + i, none⟩ = some (c[off + i]'(by omega)) := by rw [cell_at hb, Array.getElem?_eq_getElem]
    have hfz : w.frozen? ⟨b, off + i, none⟩ = false := by rw [frozen_at hb]; exact hf _ (Nat.le_refl _) (by omega)
    simp only [storeCells, Sem.run_bind, ea, run_store P w _ _ _ (h1 v (List.mem_cons_self ..)), hc, hfz, Bool.false_eq_true, if_false, Result.andThen_ok]
    rw [setCell_eq hb]
    have hlt : b < w.heap.size := by
      rcases Nat.lt_or_ge b w.heap.size with g | g
      · exact g
      · rw [Array.getElem?_eq_none g] at hb; cases hb
    rw [ih (i + 1) _ _ (setB_same w _ hlt) (by simp; omega) (fun u hu => h1 u (List.mem_cons_of_mem _ hu)) (fun j hj1 hj2 => hf j (by omega) (by omega))]
    rw [setB_setB]
    rfl

theorem oneCells_one {vs vs' : List Value} (h : oneCells vs = true) (r : LR σ vs vs') : ∀ v, v ∈ vs' → v.oneCell' = true := by
  induction r with
  | nil => intro v hv; cases hv
  | cons a t ih =>
    intro v hv
    have hh : ∀ {x : Value} {l : List Value}, oneCells (x :: l) = true → oneCells l = true ∧ (∀ cs, x ≠ .agg cs) ∧ (∀ cs, x ≠ .tuple cs) ∧ (∀ k a b, x ≠ .complex k a b) := by
      intro x l hx
      cases x <;> simp [oneCells] at hx ⊢ <;> exact hx
    obtain ⟨h1, h2, h3, h4⟩ := hh h
    rcases List.mem_cons.1 hv with e | e
    · subst e
      cases a <;> first | rfl | exact absurd rfl (h2 _) | exact absurd rfl (h3 _) | exact absurd rfl (h4 _ _ _)
    · exact ih h1 v e

theorem frz_ok {d sz : Nat} {fr fr' : Nat × Nat} {off n : Nat} (h : frzOk fr off n = true) (r : FrR d sz fr fr') (hs : d + off + n ≤ sz) :
    ∀ j, d + off ≤ j → j < d + off + n → (decide (fr'.1 ≤ j) && decide (j < fr'.2)) = false := by
  intro j h1 h2
  obtain ⟨lo, hi⟩ := fr
  obtain ⟨lo', hi'⟩ := fr'
  rw [Bool.and_eq_false_iff, decide_eq_false_iff_not, decide_eq_false_iff_not]
  simp only [FrR] at r
  simp only [frzOk] at h
  rcases r with ⟨_, e⟩ | ⟨a1, a2, a3, a4⟩ | ⟨a1, a2, a3⟩
  · omega
  · have hne : Nat.beq lo hi = false := by
      cases g : Nat.beq lo hi with
      | false => rfl
      | true => have := Nat.eq_of_beq_eq_true g; omega
    rw [hne] at h
    simp only at h
    split at h
    · rename_i g
      have := Nat.le_of_ble_eq_true g
      omega
    · have := Nat.le_of_ble_eq_true h
      omega
  · rcases a3 with e | ⟨e1, e2⟩ <;> omega

theorem RowIn.write {d : Nat} {l vs vs' : List Value} {c c1 : Array Value} {off : Nat} (r : RowIn σ d l c) (hv : LR σ vs vs') (hl : off + vs.length ≤ l.length)
    (hc : c1.toList = c.toList.take (d + off) ++ vs' ++ c.toList.drop (d + off + vs'.length)) (hs : d + off + vs.length ≤ c.size) :
    RowIn σ d (l.take off ++ vs ++ l.drop (off + vs.length)) c1 := by
  intro i x hx
  have hvl := hv.length
  have hget : ∀ j, c1[j]? = if j < d + off then c[j]? else if j < d + off + vs'.length then vs'[j - (d + off)]? else c[j]? := by
    intro j
    rw [← Array.getElem?_toList, hc, List.append_assoc, List.getElem?_append]
    have ht : (c.toList.take (d + off)).length = d + off := by simp; omega
    rw [ht]
    by_cases h1 : j < d + off
    · rw [if_pos h1, if_pos h1, List.getElem?_take, if_pos h1, Array.getElem?_toList]
    · rw [if_neg h1, if_neg h1, List.getElem?_append]
      by_cases h2 : j < d + off + vs'.length
      · rw [if_pos h2, if_pos (by omega)]
      · rw [if_neg h2, if_neg (by omega), List.getElem?_drop, ← Array.getElem?_toList]
        congr 1; omega
  have ht : (l.take off).length = off := by simp; omega
  rw [List.append_assoc, List.getElem?_append, ht] at hx
  by_cases h1 : i < off
  · rw [if_pos h1, List.getElem?_take, if_pos h1] at hx
    obtain ⟨y, hy1, hy2⟩ := r i x hx
    exact ⟨y, by rw [hget, if_pos (by omega)]; exact hy1, hy2⟩
  · rw [if_neg h1, List.getElem?_append] at hx
    by_cases h2 : i - off < vs.length
    · rw [if_pos h2] at hx
      obtain ⟨y, hy1, hy2⟩ := hv.get hx
      exact ⟨y, by rw [hget, if_neg (by omega), if_pos (by omega), show d + i - (d + off) = i - off by omega]; exact hy1, hy2⟩
    · rw [if_neg h2, List.getElem?_drop] at hx
      rw [show off + vs.length + (i - off - vs.length) = i by omega] at hx
      obtain ⟨y, hy1, hy2⟩ := r i x hx
      exact ⟨y, by rw [hget, if_neg (by omega), if_neg (by omega)]; exact hy1, hy2⟩

theorem wrK_sim {α : Type} {b off : Nat} {vs vs' : List Value} {k : HM α} {x : α × VH} {o : VObj} (r : R W P σ h w) (hg : h.get b = some o) (e : (wrK b off vs k o).run h = some x) (hv : LR σ vs vs') {m : NM} (hm : σ b = some m) :
    ∃ h1 w1, k.run h1 = some x ∧ R W P σ h1 w1 ∧ (storeCells ⟨m.b, off + m.d, none⟩ vs').run P w = .ok () w1 := by
  unfold wrK at e
  cases o with
  | row n f rr ety fr =>
    simp only at e
    split at e
    · rename_i hfz
      split at e
      · rename_i hone
        unfold wrIf at e
        split at e
        · rename_i c2 hp
          obtain ⟨m', c, fr', g1, g2, g3, g4, g5, g6, g7⟩ := r.row hg
          rw [hm] at g1; cases g1
          obtain ⟨p1, p2⟩ := putAt_some hp
          have hvl := hv.length
          have hb : vs = [] ∨ m.d + (rowList f rr).length ≤ c.size := by
            rcases g5.bound with e0 | e0
            · left; rw [e0] at p1; simp at p1; exact p1.2
            · exact .inr e0
          obtain ⟨o0, hg0, e1⟩ := HM.run_wr e
          rcases hb with hnil | hb
          · subst hnil
            cases hv
            have p2' : c2 = rowList f rr := by
              rw [p2]
              simp
            refine ⟨_, w, e1, ?_, rfl⟩
            have := r.upd hm hg (o := .row n c2 [] ety fr) (O := .cells c ety fr') (.row (by rw [p2']; exact g3) g4 (by rw [rowList_nil, p2']; exact g5) g6 g7)
            rw [setB_self g2] at this
            exact this
          · have hsz : m.d + off + vs.length ≤ c.size := by omega
            rw [len_eq] at hfz
            have hst := storeCells_run (P := P) (b := m.b) (off := off + m.d) (e := ety) (fr := fr') vs' 0 c w g2 (by omega) (oneCells_one hone hv)
              (fun j h1 h2 => frz_ok hfz g6 (by omega) j (by omega) (by omega))
            refine ⟨_, _, e1, ?_, hst⟩
            refine r.upd hm hg (.row ?_ ?_ ?_ g6 g7)
            · rw [rowList_nil, p2, g3]; simp; omega
            · rw [← g4]
              have := congrArg List.length (lay_list vs' (off + m.d) 0 c (by omega))
              simp at this ⊢
              omega
            · rw [rowList_nil, p2]
              refine g5.write hv p1 ?_ hsz
              rw [lay_list vs' (off + m.d) 0 c (by omega), show off + m.d + 0 = m.d + off by omega]
        · cases e
      · cases e
    · cases e
  | _ => cases e

theorem wrCells_sim {α : Type} {a a' : Addr} {vs vs' : List Value} {k : HM α} {x : α × VH} (r : R W P σ h w) (e : (wrCells a vs k).run h = some x) (hv : LR σ vs vs') (ha : vs = [] ∨ ARel σ a a') :
    ∃ h1 w1, k.run h1 = some x ∧ R W P σ h1 w1 ∧ (storeCells a' vs').run P w = .ok () w1 := by
  cases hv with
  | nil => exact ⟨h, w, e, r, rfl⟩
  | cons hx ht =>
    rcases ha with e0 | e0
    · cases e0
    · obtain ⟨h1, h2, m, h3, h4, h5⟩ := e0
      obtain ⟨b, off, sp⟩ := a
      simp only at h1 h3 h5
      subst h1
      obtain ⟨o, hg, e2⟩ := HM.run_rd (show (HM.rd b (wrK b off _ k)).run h = some x from e)
      rw [addr_eq h2 h4 h5]
      exact wrK_sim r hg e2 (.cons hx ht) h3

end
end Go.Proofs.YtonkcdnpmemheaaGreat.Vm

namespace Go.Proofs.YtonkcdnpmemheaaGreat.Vm

inductive DefR (σ : Ren) : Deferred → Deferred → Prop where
  | fn {f f' : Fn} {cs cs' args args' : Array Value} (hf : FnRel σ f f') (hc : LR σ cs.toList cs'.toList) (ha : LR σ args.toList args'.toList) : DefR σ ⟨.fn f cs, args⟩ ⟨.fn f' cs', args'⟩
  | mark {r : Nat} {m : NM} (h : σ r = some m) : DefR σ ⟨.collected r, #[]⟩ ⟨.collected m.b, #[]⟩

inductive NRel (σ : Ren) : Next → Next → Prop where
  | value {v v' : Value} (h : VRel σ v v') : NRel σ (.value v) (.value v')
  | skip : NRel σ .skip .skip
  | enter (f : FuncId) {args args' : Array Value} (h : LR σ args.toList args'.toList) : NRel σ (.enter f args) (.enter f args')
  | round {l live fn : Nat} {m : NM} {tmps tmps' : Array Value} {assign body : Code} (hl : σ l = some m) (ht : TmpsR σ live tmps.toList tmps') (ha : bndC tmps'.size assign = true) (hb : bndC tmps'.size body = true) :
      NRel σ (.round l live tmps assign body) (.round m.b fn tmps' assign body)
  | defer {d d' : Deferred} (h : DefR σ d d') : NRel σ (.defer d) (.defer d')

theorem DefR.mono {σ τ : Ren} (h : σ.le τ) {d d' : Deferred} (r : DefR σ d d') : DefR τ d d' := by
  cases r with
  | fn hf hc ha => exact .fn (hf.mono h) (hc.mono h) (ha.mono h)
  | mark r => exact .mark (h _ _ r)

/-- a value is answered -/
def VN (σ : Ren) (x : Next) (v' : Value) : Prop := ∃ v, x = .value v ∧ VRel σ v v'
/-- nothing is answered -/
def SN (_ : Ren) (x : Next) (_ : Unit) : Prop := x = .skip

section
variable {W : Frm} {P : Program} {σ : Ren} {h : VH} {w : World}

theorem MSim.value {r : Next × VH} {s : Sem Value} (m : MSim W P σ VN w r s) : MSim W P σ NRel w r (do pure (.value (← s))) := by
  obtain ⟨y, w', τ, h1, h2, h3, v, h4, h5⟩ := m
  exact ⟨.value y, w', τ, by simp [h1], h2, h3, by rw [h4]; exact .value h5⟩
theorem MSim.skip {r : Next × VH} {s : Sem Unit} (m : MSim W P σ SN w r s) : MSim W P σ NRel w r (do s; pure .skip) := by
  obtain ⟨y, w', τ, h1, h2, h3, h4⟩ := m
  exact ⟨.skip, w', τ, by simp [h1], h2, h3, by rw [show r.1 = .skip from h4]; exact .skip⟩

/-- in the same world -/
theorem MSim.here {v v' : Value} {x : Next × VH} (r : R W P σ h w) (e : (HM.ret (Next.value v)).run h = some x) {s : Sem Value} (hs : s.run P w = .ok v' w) (hv : VRel σ v v') : MSim W P σ VN w x s := by
  cases e
  exact ⟨v', w, σ, hs, Ren.le_refl σ, r, v, rfl, hv⟩

theorem hopt_run {α β : Type} {o : Option α} {k : α → HM β} {x : β × VH} (e : (hopt o k).run h = some x) : ∃ a, o = some a ∧ (k a).run h = some x := by
  cases o with
  | none => cases e
  | some a => exact ⟨a, rfl, e⟩

theorem newRow_sim {α : Type} {e : TypeId} {c : List Value} {k : Nat → HM α} {x : α × VH} (r : R W P σ h w) (he : (newRow e c k).run h = some x) {c' : Array Value} (hc : ∀ (i : Nat) (y : Value), c[i]? = some y → ∃ z, c'[i]? = some z ∧ VRel σ y z) :
    ∃ τ h1, σ.le τ ∧ R W P τ h1 (w.alloc (.cells c' e)) ∧ (k h.al).run h1 = some x ∧ τ h.al = some ⟨w.heap.size, 0, c'.size⟩ := by
  have he' : (k h.al).run (h.new (.row (len c) c [] e (0, 0))) = some x := he
  have hle : σ.le (σ.at h.al ⟨w.heap.size, 0, c'.size⟩) := Ren.le_at r.al
  obtain ⟨h1, h2⟩ := r.new (m := ⟨w.heap.size, 0, c'.size⟩) rfl (o := .row (len c) c [] e (0, 0)) (O := .cells c' e) (.row (by rw [len_eq]; rfl) rfl (by
    intro i y hy
    obtain ⟨z, hz1, hz2⟩ := hc i y hy
    exact ⟨z, by simpa using hz1, hz2.mono hle⟩) (.inl ⟨rfl, rfl⟩) (Nat.zero_mod _))
  exact ⟨_, _, h1, h2, he', Ren.at_same _ _ _⟩

theorem ARel.new {τ : Ren} {n b d sz : Nat} (e : τ n = some ⟨b, d, sz⟩) : ARel τ ⟨n, 0, none⟩ ⟨b, d, none⟩ := ⟨rfl, rfl, _, e, rfl, by simp⟩

theorem run_newRow (e : TypeId) (c : Array Value) : (Go.newRow e c).run P w = .ok ⟨w.heap.size, 0, none⟩ (w.alloc (.cells c e)) := by
  simp [Go.newRow]

theorem LR.cellsAt {l : List Value} {c' : Array Value} (r : LR σ l c'.toList) : ∀ (i : Nat) (y : Value), l[i]? = some y → ∃ z, c'[i]? = some z ∧ VRel σ y z := by
  intro i y hy
  obtain ⟨z, h1, h2⟩ := r.get hy
  exact ⟨z, by rw [← Array.getElem?_toList]; exact h1, h2⟩

theorem bare_cells {z : Value} {d : Nat} (hb : bare d z = true) : LR σ z.cells.toList z.cells.toList := by
  have r : VRel σ z z := bare_same d z hb
  by_cases hk : ∃ k a b, z = .complex k a b
  · obtain ⟨k, a, b, rfl⟩ := hk
    cases d <;> simp [bare] at hb
  · exact r.cells fun k a b e => hk ⟨k, a, b, e⟩

theorem valloc_sim {elem : TypeId} {x : Next × VH} (r : R W P σ h w) (e : (valloc P elem).run h = some x) : MSim W P σ VN w x (Instr.alloc elem true (.tuple #[])) := by
  obtain ⟨z, hz, e1⟩ := hopt_run e
  obtain ⟨i, _, hz2, hb⟩ := zeroT_some hz
  obtain ⟨τ, h1, h2, h3, h4, h5⟩ := newRow_sim r e1 (c' := z.cells) (bare_cells hb).cellsAt
  cases h4
  refine ⟨_, _, τ, ?_, h2, h3, _, rfl, .ptr (ARel.new h5)⟩
  simp [Instr.alloc, run_zeroValue w hz, newVar, run_newRow]

theorem vbox_sim {elem : TypeId} {v v' : Value} {x : Next × VH} (r : R W P σ h w) (e : (vbox elem v).run h = some x) (hv : VRel σ v v') : MSim W P σ VN w x (Instr.box elem v') := by
  unfold vbox at e
  split at e
  · cases e
  · rename_i hne
    obtain ⟨τ, h1, h2, h3, h4, h5⟩ := newRow_sim r e (c' := v'.cells) (hv.cells fun k a b e => hne k a b e).cellsAt
    cases h4
    refine ⟨_, _, τ, ?_, h2, h3, _, rfl, .ptr (ARel.new h5)⟩
    simp [Instr.box, newVar, run_newRow]

/-! ### loads, stores -/

theorem vload_sim {t : TypeId} {v v' : Value} {x : Next × VH} (r : R W P σ h w) (e : (vload P t v).run h = some x) (hv : VRel σ v v') : MSim W P σ VN w x (Instr.loadAt t v') := by
  unfold vload at e
  split at e
  · rename_i b off
    obtain ⟨n, hn, e1⟩ := hopt_run e
    cases hv with
    | ptr ha =>
      rename_i a'
      unfold vloadAt at e1
      split at e1
      · rename_i k
        obtain ⟨l, l', h1, h2, h3, _⟩ := withCells_sim (a := ⟨b, off, none⟩) (n := k + 1) (k := fun l => HM.ret (Next.value (.agg ⟨l⟩))) r e1 (.inr ha)
        refine MSim.here r h1 (v' := .agg ⟨l'⟩) ?_ h3.agg
        simp [Instr.loadAt, Instr.sureAddr, loadVar, run_isAgg w hn, run_sizeAgg w hn, h2]
      · refine MSim.here r e1 (v' := .agg #[]) ?_ (LR.nil.agg)
        simp only [Instr.loadAt, Instr.sureAddr, loadVar, Sem.run_bind, Sem.run_pure, Result.andThen_ok, run_isAgg w hn, Option.isSome_some, if_true, run_sizeAgg w hn]
        rfl
      · obtain ⟨o, hg, e2⟩ := HM.run_rd e1
        unfold load1K at e2
        split at e2
        · rename_i k f bk ety fr
          obtain ⟨y, hy, e3⟩ := hopt_run e2
          rw [nth?_eq] at hy
          obtain ⟨m, c, fr', g1, g2, g3, g4, g5, g6, g7⟩ := r.row hg
          obtain ⟨z, hz1, hz2⟩ := g5 off y hy
          obtain ⟨a0, a1, m', a2, a3, a4⟩ := ha
          simp only at a2 a4
          rw [g1] at a2; cases a2
          refine MSim.here r e3 (v' := z) ?_ hz2
          have hc : w.cell? a' = some z := by rw [addr_eq a1 a3 a4, cell_at g2, show off + m.d = m.d + off by omega]; exact hz1
          simp [Instr.loadAt, Instr.sureAddr, loadVar, run_isAgg w hn, hc]
        · cases e2
  · cases e

theorem VRel.cells_len {v v' : Value} (hv : VRel σ v v') (h1 : oneCells v.cells.toList = true ∨ v.cells.toList = []) : LR σ v.cells.toList v'.cells.toList := by
  refine hv.cells fun k a b e => ?_
  subst e
  rcases h1 with h1 | h1 <;> simp [Value.cells, oneCells] at h1

theorem vstore_sim {t : TypeId} {p v p' v' : Value} {x : Next × VH} (r : R W P σ h w) (e : (vstore P t p v).run h = some x) (hp : VRel σ p p') (hv : VRel σ v v') : MSim W P σ SN w x (Instr.storeAt t p' v') := by
  unfold vstore at e
  split at e
  · rename_i a
    obtain ⟨n, hn, e1⟩ := hopt_run e
    split at e1
    · rename_i hl
      have hl := Nat.eq_of_beq_eq_true hl
      rw [len_eq] at hl
      cases hp with
      | ptr ha =>
        by_cases hk : ∃ k a b, v = .complex k a b
        · obtain ⟨k, c, d, rfl⟩ := hk
          exfalso
          obtain ⟨b, off, sp⟩ := a
          obtain ⟨a0, _⟩ := ha
          simp only at a0
          subst a0
          obtain ⟨o, hg, e2⟩ := HM.run_rd (show (HM.rd b (wrK b off [.complex k c d] (.ret .skip))).run h = some x from e1)
          unfold wrK at e2
          split at e2
          · split at e2
            · simp [oneCells] at e2
              cases e2
            · cases e2
          · cases e2
        · have hc := hv.cells (fun k a b e => hk ⟨k, a, b, e⟩)
          obtain ⟨h1, w1, e2, r1, hs⟩ := wrCells_sim r e1 hc (.inr ha)
          cases e2
          refine ⟨(), w1, σ, ?_, Ren.le_refl σ, r1, rfl⟩
          have hsz : v'.cells.size = n := by
            have := hc.length
            rw [hl] at this
            simpa using this.symm
          simp [Instr.storeAt, Instr.sureAddr, storeVar, run_sizeOf' w hn, hsz, hs]
    · cases e1
  · cases e

end
end Go.Proofs.YtonkcdnpmemheaaGreat.Vm

namespace Go.Proofs.YtonkcdnpmemheaaGreat.Vm
section
variable {W : Frm} {P : Program} {σ : Ren} {h : VH} {w : World}

/-! ### rows of zeros -/

theorem rep_get {α : Type} (z : List α) : ∀ (k i : Nat), i < k * z.length → (List.replicate k z).flatten[i]? = z[i % z.length]? := by
  intro k
  induction k with
  | zero => intro i hi; simp at hi
  | succ k ih =>
    intro i hi
    rw [List.replicate_succ, List.flatten_cons, List.getElem?_append]
    have hs : 0 < z.length := by
      rcases Nat.eq_zero_or_pos z.length with g | g
      · rw [g] at hi; simp at hi
      · exact g
    split
    · rename_i hlt
      rw [Nat.mod_eq_of_lt hlt]
    · rename_i hge
      have hsm : (k + 1) * z.length = k * z.length + z.length := Nat.succ_mul ..
      rw [ih (i - z.length) (by omega)]
      have := Nat.mod_eq_sub_mod (a := i) (b := z.length) (by omega)
      rw [this]

theorem range_rep (z : Array Value) (n k : Nat) (hn : n = k * z.size) : ((Array.range n).map (fun i => z[i % z.size]!)).toList = (List.replicate k z.toList).flatten := by
  apply List.ext_getElem?
  intro i
  rw [Array.toList_map, Array.toList_range]
  by_cases hi : i < n
  · have h1 := rep_get z.toList k i (by simpa [← hn] using hi)
    rw [h1]
    have hs : 0 < z.size := by
      rcases Nat.eq_zero_or_pos z.size with g | g
      · rw [g] at hn; omega
      · exact g
    have hm : i % z.size < z.size := Nat.mod_lt _ hs
    simp only [List.getElem?_map, List.getElem?_range hi, Option.map_some, Array.length_toList, Array.getElem?_toList]
    rw [Array.getElem?_eq_getElem hm, getElem!_pos z _ hm]
  · rw [List.getElem?_eq_none, List.getElem?_eq_none]
    · simp
      have : k * z.size ≤ i := by omega
      simpa using this
    · simp; omega

theorem LR.rep {z z' : List Value} (r : LR σ z z') (k : Nat) : LR σ (List.replicate k z).flatten (List.replicate k z').flatten := by
  induction k with
  | zero => exact .nil
  | succ k ih =>
    rw [List.replicate_succ, List.replicate_succ, List.flatten_cons, List.flatten_cons]
    exact r.append ih

theorem elemT_some {t e : TypeId} {size : Nat} {z : List Value} (he : elemT P t = some (e, size, z)) :
    ∃ i zv, P.underlying t = some (.slice e) ∧ P.info? e = some i ∧ i.size = size ∧ 0 < size ∧ i.bytes ≤ 4096 ∧ i.zero = some zv ∧ zv.cells.toList = z ∧ z.length = size ∧ zeroT P e = some zv ∧ (∀ τ, LR τ z z) := by
  unfold elemT at he
  split at he
  · rename_i e' ht
    split at he
    · rename_i i hi
      split at he
      · rename_i zv hz h0 hb
        split at he
        · rename_i hl
          have hl := Nat.eq_of_beq_eq_true hl
          rw [len_eq] at hl
          cases he
          obtain ⟨j, hj1, hj2, hj3⟩ := zeroT_some hz
          have hi' := tyInfo_some hi
          rw [hi'] at hj1
          cases hj1
          rw [Nat.blt_eq] at h0
          exact ⟨i, zv, tyUnd_some ht, hi', rfl, h0, Nat.le_of_ble_eq_true hb, hj2, rfl, hl, hz, fun τ => bare_cells hj3⟩
        · cases he
      · cases he
    · cases he
  · cases he

theorem wrap_i64 {n : Nat} (hn : n < 9223372036854775808) : IntKind.i64.wrap (Int.ofNat n) = Int.ofNat n := wrap_small .i64 (by simpa [lim] using hn)

theorem vmakeSlice_sim {t : TypeId} {l c l' c' : Value} {x : Next × VH} (r : R W P σ h w) (e : (vmakeSlice P t l c).run h = some x) (hl : VRel σ l l') (hc : VRel σ c c') : MSim W P σ VN w x (Instr.makeSlice t l' c') := by
  obtain ⟨⟨et, size, z⟩, he, e1⟩ := hopt_run e
  obtain ⟨i, zv, ht, hi, hs, h0, hb, hz, hzl, hlen, hzt, hzz⟩ := elemT_some he
  simp only at e1
  split at e1
  · rename_i kl nl kc nc
    rw [hl.int_inv, hc.int_inv]
    unfold makeRow at e1
    split at e1
    · rename_i hlc
      have hlc := Nat.le_of_ble_eq_true hlc
      split at e1
      · rename_i hcm
        have hcm := Nat.le_of_ble_eq_true hcm
        have hzs : zv.cells.size = size := by rw [← hlen, ← hzl]; simp
        have hcells : LR σ (rep nc z []) (((Array.range (nc * size)).map (fun i => zv.cells[i % zv.cells.size]!)).toList) := by
          rw [range_rep zv.cells (nc * size) nc (by rw [hzs]), rep_eq, List.append_nil, hzl]
          exact (hzz σ).rep nc
        obtain ⟨τ, h1, h2, h3, h4, h5⟩ := newRow_sim r e1 hcells.cellsAt
        cases h4
        refine ⟨_, _, τ, ?_, h2, h3, _, rfl, .slc _ _ (by show nc < 18446744073709551616; omega) (ARel.new h5)⟩
        have hbn : ¬ (((i.bytes : Nat) : Int) * (Int.ofNat nc) > 2 ^ 48) := by
          have h6 : i.bytes * nc ≤ 4096 * 1048576 := Nat.mul_le_mul hb hcm
          have h7 : ((i.bytes : Nat) : Int) * (Int.ofNat nc) = ((i.bytes * nc : Nat) : Int) := by simp
          rw [h7]; omega
        have hw1 := wrap_i64 (n := nl) (by omega)
        have hw2 := wrap_i64 (n := nc) (by omega)
        simp only [Int.ofNat_eq_natCast] at hw1 hw2 hbn
        have hsz : (Go.sizeOf et).run P (w) = .ok size w := by rw [run_sizeOf w hi, hs]
        by_cases hn0 : nc * size = 0
        · have hnc : nc = 0 := by
            rcases Nat.eq_zero_or_pos nc with g | g
            · exact g
            · have := Nat.mul_pos g h0; omega
          subst hnc
          have hnl : nl = 0 := by omega
          subst hnl
          simp [Instr.makeSlice, run_underlying w ht, asInt, asIntOf, run_typeInfo w hi, hsz, run_newRow, IntKind.wrap, IntKind.bits]
          congr 2
          rw [show Array.range 0 = #[] from rfl]; simp
        · simp [Instr.makeSlice, run_underlying w ht, asInt, asIntOf, run_typeInfo w hi, hw1, hw2, hsz, run_zeroValue w hzt, run_newRow, hn0, hlc]
          intro hbad
          exfalso
          rcases hbad with ((h | h) | h) | h <;> omega
      · cases e1
    · cases e1
  · cases e1

theorem vbuildSlice_sim {t : TypeId} {n : Nat} {parts parts' : List (Nat × Value)} {x : Next × VH} (r : R W P σ h w) (e : (vbuildSlice P t n parts).run h = some x) (hp : PartsR σ parts parts') :
    MSim W P σ VN w x (Instr.buildSlice t n ⟨parts'⟩) := by
  obtain ⟨⟨et, size, z⟩, he, e1⟩ := hopt_run e
  obtain ⟨i, zv, ht, hi, hs, h0, hb, hz, hzl, hlen, hzt, hzz⟩ := elemT_some he
  simp only at e1
  split at e1
  · rename_i hsm
    have hsm : n * size ≤ 65536 := Nat.le_of_ble_eq_true hsm
    obtain ⟨c, hc, e2⟩ := hopt_run e1
    have hzs : zv.cells.size = size := by rw [← hlen, ← hzl]; simp
    have hcells : LR σ (rep n z []) (((Array.range (n * size)).map (fun i => zv.cells[i % zv.cells.size]!)).toList) := by
      rw [range_rep zv.cells (n * size) n (by rw [hzs]), rep_eq, List.append_nil, hzl]
      exact (hzz σ).rep n
    obtain ⟨r', f1, f2⟩ := fill_sim (place' := fun i => some (i * size, size)) (fun i => rfl) hp hc hcells
    obtain ⟨τ, h1, h2, h3, h4, h5⟩ := newRow_sim r e2 f2.cellsAt
    cases h4
    refine ⟨_, _, τ, ?_, h2, h3, _, rfl, .slc _ _ (by
      show n < 18446744073709551616
      have : n ≤ n * size := Nat.le_mul_of_pos_right n h0
      omega) (ARel.new h5)⟩
    have hsz : (Go.sizeOf et).run P w = .ok size w := by rw [run_sizeOf w hi, hs]
    have hle : ¬ (n * size > 2 ^ 24) := by omega
    by_cases hn0 : n * size = 0
    · have hfz : Instr.fill (fun i => some (i * size, size)) ((Array.range (n * size)).map (fun i => (#[] : Array Value)[i % (#[] : Array Value).size]!)) parts' = some r' := by
        rw [← f1, hn0, show Array.range 0 = #[] from rfl]
        simp
      simp only [Instr.buildSlice, Sem.run_bind, run_underlying w ht, Result.andThen_ok, hsz, Sem.run_ite, hle, if_false, Sem.run_pure, hn0, if_true]
      rw [hn0] at hfz
      simp only [hfz, Sem.run_bind, run_newRow, Result.andThen_ok, Sem.run_pure]
      rw [if_neg (by decide)]
    · simp only [Instr.buildSlice, Sem.run_bind, run_underlying w ht, Result.andThen_ok, hsz, Sem.run_ite, hle, if_false, Sem.run_pure, hn0, run_zeroValue w hzt, f1, run_newRow]
  · cases e1

theorem vmakeMap_sim {t : TypeId} {o : Option Operand} {ro : Option Value} (hro : o = none → ro = none) {x : Next × VH} (r : R W P σ h w) (e : (vmakeMap o).run h = some x) : MSim W P σ VN w x (Instr.makeMap t ro) := by
  cases o with
  | some o => cases e
  | none =>
    rw [hro rfl]
    have e' : (HM.ret (Next.value (.map (some h.al)))).run (h.new (.map [] 0)) = some x := e
    cases e'
    obtain ⟨h1, h2⟩ := r.new (m := ⟨w.heap.size, 0, 0⟩) rfl (o := .map [] 0) (O := .map #[] 0) (.map .nil)
    refine ⟨_, _, _, ?_, h1, h2, _, rfl, .map (m := ⟨w.heap.size, 0, 0⟩) (Ren.at_same _ _ _)⟩
    simp [Instr.makeMap]

/-! ### texts and bytes -/

theorem vbytes_some {l : List Value} {bs : List UInt8} (h : vbytes l = some bs) : ∃ ns : List Int, l = ns.map (Value.int .u8) ∧ bs = ns.map (fun n => UInt8.ofNat n.toNat) := by
  induction l generalizing bs with
  | nil => cases h; exact ⟨[], rfl, rfl⟩
  | cons x l ih =>
    unfold vbytes at h
    split at h
    · rename_i heq; cases heq
    · rename_i n l' heq
      cases heq
      split at h
      · rename_i r hr
        cases h
        obtain ⟨ns, h1, h2⟩ := ih hr
        exact ⟨n :: ns, by rw [h1]; rfl, by rw [h2]; rfl⟩
      · cases h
    · cases h

theorem LR.ints {ns : List Int} {l' : List Value} (r : LR σ (ns.map (Value.int .u8)) l') : l' = ns.map (Value.int .u8) := by
  induction ns generalizing l' with
  | nil => cases r; rfl
  | cons n ns ih =>
    cases r with
    | cons a t => rw [ih t, a.int_inv]; rfl

theorem foldl_push (ns : List Int) : ∀ (r : ByteArray), ns.foldl (fun r n => r.push (UInt8.ofNat n.toNat)) r = ⟨r.data ++ (ns.map (fun n => UInt8.ofNat n.toNat)).toArray⟩ := by
  induction ns with
  | nil => intro r; simp
  | cons n ns ih =>
    intro r
    simp only [List.foldl_cons, List.map_cons]
    rw [ih]
    apply ByteArray.ext
    simp [ByteArray.push]

theorem ptrConv_sim {src dst : TypeId} {a : Option Addr} {v' : Value} {x : Next × VH} (r : R W P σ h w) (e : (ptrConv P src dst a).run h = some x) (hv : VRel σ (.pointer a) v') : MSim W P σ VN w x (convert src dst v') := by
  have hview : ∀ {b : Nat} {c : Array Value} {ety : TypeId} {fr : Nat × Nat} (off : Nat), w.heap[b]? = some (.cells c ety fr) → (Conv.seenAt ⟨b, off, none⟩).run P w = .ok ⟨b, off, none⟩ w := by
    intro b c ety fr off hb
    simp [Conv.seenAt, viewAt, World.shape?, hb]
  unfold ptrConv at e
  split at e
  · rename_i t hs hd
    have hs := tyUnd_some hs
    have hd := tyUnd_some hd
    have hconv : ∀ y, (convert src dst (.pointer y)).run P w = (Conv.unsafePointer src dst (.pointer y)).run P w := by
      intro y; simp [convert, run_underlying w hs, run_underlying w hd]
    split at e
    · cases hv
      refine MSim.here r e (v' := .pointer none) ?_ .nilp
      rw [hconv]
      simp [Conv.unsafePointer, run_underlying w hs, run_underlying w hd]
    · rename_i b off
      split at e
      · rename_i n hn
        obtain ⟨o, hg, e2⟩ := HM.run_rd e
        unfold seenK at e2
        split at e2
        · rename_i k f bk ety fr
          split at e2
          · rename_i hlt
            rw [Nat.blt_eq] at hlt
            obtain ⟨m, c, fr', g1, g2, g3, g4, g5, g6, g7⟩ := r.row hg
            cases hv with
            | ptr ha =>
              rename_i a'
              have ha' := ha
              obtain ⟨a0, a1, m', a2, a3, a4⟩ := ha
              simp only at a2 a4
              rw [g1] at a2; cases a2
              refine MSim.here r e2 (v' := .pointer (some a')) ?_ (.ptr ha')
              have hb : m.d + (rowList f bk).length ≤ c.size := by
                rcases g5.bound with e0 | e0
                · rw [e0] at g3; simp at g3; omega
                · exact e0
              have hae := addr_eq a1 a3 a4
              subst hae
              have hlt2 : ¬ (c.size ≤ off + m.d) := by omega
              rw [hconv]
              simp [Conv.unsafePointer, run_underlying w hs, run_underlying w hd, hview _ g2, cellsIn, World.shape?, g2, hlt2, run_sizeOf' w hn]
          · cases e2
        · cases e2
      · cases e
    · cases e
  · rename_i u hs hd
    have hs := tyUnd_some hs
    have hd := tyUnd_some hd
    have hconv : ∀ y, (convert src dst (.pointer y)).run P w = (Conv.unsafePointer src dst (.pointer y)).run P w := by
      intro y; simp [convert, run_underlying w hs, run_underlying w hd]
    split at e
    · cases hv
      refine MSim.here r e (v' := .pointer none) ?_ .nilp
      rw [hconv]
      simp [Conv.unsafePointer, run_underlying w hs, run_underlying w hd]
    · rename_i b
      split at e
      · rename_i n hn
        obtain ⟨o, hg, e2⟩ := HM.run_rd e
        unfold backK at e2
        split at e2
        · rename_i k f bk ety fr
          split at e2
          · rename_i heq
            have heq := Nat.eq_of_beq_eq_true heq
            subst heq
            split at e2
            · rename_i hle
              have hle := Nat.le_of_ble_eq_true hle
              obtain ⟨m, c, fr', g1, g2, g3, g4, g5, g6, g7⟩ := r.row hg
              cases hv with
              | ptr ha =>
                rename_i a'
                have ha' := ha
                obtain ⟨a0, a1, m', a2, a3, a4⟩ := ha
                simp only at a2 a4
                rw [g1] at a2; cases a2
                refine MSim.here r e2 (v' := .pointer (some a')) ?_ (.ptr ha')
                have hb : m.d + (rowList f bk).length ≤ c.size := by
                  rcases g5.bound with e0 | e0
                  · rw [e0] at g3; simp at g3; omega
                  · exact e0
                have hae := addr_eq a1 a3 a4
                subst hae
                have hco := sizeT_cellsOf hn
                have hlies : liesAt P P.depth ety (c.size / P.cellsOf ety) (0 + m.d) ety 1 = true := by
                  have hdp : P.depth = (2 * (P.types.size + Made.depth) + 1) + 1 := rfl
                  rw [hdp]
                  simp only [liesAt, Bool.or_eq_true]
                  left
                  rw [hco] at g7
                  have h1 : m.d / (n + 1) + 1 ≤ c.size / (n + 1) := by
                    rw [← Nat.add_div_right _ (Nat.succ_pos n)]
                    exact Nat.div_le_div_right (by omega)
                  rw [hdp]
                  simp [rowAt, hco, g7, h1, sameLayout]
                have hvar : (variablesAt ⟨m.b, 0 + m.d, none⟩ ety 1).run P w = .ok true w := by
                  simp only [variablesAt, Sem.run_bind, run_program, Result.andThen_ok, run_shape, World.shape?, g2, Sem.run_pure, hlies]
                rw [hconv]
                simp only [Conv.unsafePointer, Sem.run_bind, run_underlying w hs, run_underlying w hd, Result.andThen_ok, hview _ g2, run_sizeOf' w hn, hvar]
                simp
            · cases e2
          · cases e2
        · cases e2
      · cases e
    · cases e
  · cases e

theorem hconvert_sim {src dst : TypeId} {v v' : Value} {x : Next × VH} (r : R W P σ h w) (e : (hconvert P src dst v).run h = some x) (hv : VRel σ v v') : MSim W P σ VN w x (convert src dst v') := by
  unfold hconvert at e
  split at e
  · -- bytes of a text
    rename_i s
    rw [hv.string_inv]
    split at e
    · rename_i et hs hd
      split at e
      · rename_i he
        have hst := run_bytes_of_string w src dst et s (tyUnd_some hs) (tyUnd_some hd) (tyUnd_some he)
        have hcap := grownCap_ge w s.size 0 et
        have hsz : (bytesRow s (grownCap w s.size 0 et)).size = grownCap w s.size 0 et := by
          have : s.data.size = s.size := rfl
          simp only [bytesRow, Array.size_append, Array.size_map, Array.size_replicate, this]
          omega
        generalize grownCap w s.size 0 et = cap at *
        have e' : (HM.ret (Next.value (.slice (some ⟨h.al, 0, none⟩) (len s.data.toList) (UNK + 1)))).run (h.new (.row (len s.data.toList) (s.data.toList.map fun b => .int .u8 (.ofNat b.toNat)) [] et (UNK, UNK + 1))) = some x := e
        cases e'
        have hlen : len s.data.toList = s.size := by rw [len_eq]; rfl
        obtain ⟨h1, h2⟩ := r.drew.new (m := ⟨w.heap.size, 0, cap⟩) rfl (o := .row (len s.data.toList) (s.data.toList.map fun b => .int .u8 (.ofNat b.toNat)) [] et (UNK, UNK + 1)) (O := .cells (bytesRow s cap) et (cap, cap + 1))
          (.row (by rw [rowList_nil, len_eq]; simp) hsz (by
            intro i y hy
            rw [rowList_nil, List.getElem?_map] at hy
            cases hb : s.data.toList[i]? with
            | none => rw [hb] at hy; cases hy
            | some b =>
              rw [hb] at hy
              cases hy
              rw [Array.getElem?_toList] at hb
              have hi : i < s.data.size := by
                rcases Nat.lt_or_ge i s.data.size with g | g
                · exact g
                · rw [Array.getElem?_eq_none g] at hb; cases hb
              rw [Array.getElem?_eq_getElem hi] at hb
              cases hb
              refine ⟨_, ?_, .int _ _⟩
              rw [Nat.zero_add, bytesRow_at s cap i hi]
              rfl) (.inr (.inr ⟨rfl, rfl, .inr ⟨rfl, rfl⟩⟩)) (Nat.zero_mod _))
        refine ⟨_, _, _, hst, h1, ?_, _, rfl, ?_⟩
        · rw [hsz]; exact h2
        · rw [hlen]
          exact .unk (m := ⟨w.heap.size, 0, cap⟩) _ _ _ rfl rfl (Ren.at_same _ _ _) rfl (by simp) (by decide) hcap (by simp) (Nat.mod_one _)
      · cases e
    · cases e
  · rename_i a n cap
    split at e
    · rename_i et hs hd
      split at e
      · rename_i he
        have hu : ∀ a' c', (convert src dst (.slice a' n c')).run P w = (Conv.bytesToString (.slice a' n c')).run P w := fun a' c' =>
          run_convert_bytes_string w src dst et a' n c' (tyUnd_some hs) (tyUnd_some he) (tyUnd_some hd)
        unfold ofBytes at e
        split at e
        · cases hv with
          | nils =>
            refine MSim.here r e (v' := .string .empty) ?_ (.string _)
            rw [hu]; rfl
        · rename_i a0
          have main : ∀ (a' : Addr) (c' : Nat), (n = 0 ∨ ARel σ a0 a') → MSim W P σ VN w x (convert src dst (.slice (some a') n c')) := by
            intro a' c' ha
            obtain ⟨l, l', h1, h2, h3, h4⟩ := withCells_sim r e ha
            obtain ⟨bs, hbs, h5⟩ := hopt_run h1
            obtain ⟨ns, hn1, hn2⟩ := vbytes_some hbs
            subst hn1
            have := h3.ints
            subst this
            refine MSim.here r h5 (v' := .string ⟨⟨bs⟩⟩) ?_ (.string _)
            rw [hu, run_bytesToString w a' n c' ns h2, foldl_push, hn2]
            have he0 : ByteArray.empty.data = #[] := rfl
            rw [he0]
            simp
          cases hv with
          | slc n c hc ha => exact main _ _ (.inr ha)
          | unk n size c' a0 a1 hm hb ho hsz hn he hd => exact main _ _ (.inr ⟨a0, a1, _, hm, hb, ho⟩)
          | flo a' c c' hc => exact main _ _ (.inl rfl)
      · cases e
    · cases e
  · exact ptrConv_sim r e hv
  · cases e

end
end Go.Proofs.YtonkcdnpmemheaaGreat.Vm

namespace Go.Proofs.YtonkcdnpmemheaaGreat.Vm
section
variable {W : Frm} {P : Program} {σ : Ren} {h : VH} {w : World}

/-! ### slices that reach behind their length -/

theorem PSim.here {v : Value} {x : Next × VH} {s : Sem Value} (r : R W P σ h w) (e : (HM.ret (Next.value v)).run h = some x) (p : PSim P σ v s) : MSim W P σ VN w x s := by
  obtain ⟨v', h1, h2⟩ := p
  exact MSim.here r e (h1 w) h2

/-- with an upper bound given, the length plays no part -/
theorem sliceAt_len {t et : TypeId} (ht : P.underlying t = some (.slice et)) (a : Option Addr) (n n' c : Nat) (lo mx : Option Value) (hv : Value) (w : World) :
    (Instr.sliceAt t (.slice a n c) lo (some hv) mx).run P w = (Instr.sliceAt t (.slice a n' c) lo (some hv) mx).run P w := by
  simp only [Instr.sliceAt, Instr.slice, Sem.run_bind, run_underlying w ht, Result.andThen_ok]
  cases mx <;> simp [Instr.sliceBounds]

theorem farK_sim {t et : TypeId} (ht : P.underlying t = some (.slice et)) {b off n top size : Nat} {lo hi mx lo' hi' mx' : Option Value} {x' : Value} {o : VObj} {x : Next × VH} (r : R W P σ h w) (hg : h.get b = some o) (e : (farK P t size ⟨b, off, none⟩ top (UNK + size) lo hi mx o).run h = some x)
    (hx : VRel σ (.slice (some ⟨b, off, none⟩) n (UNK + size)) x') (hlo : OV σ lo lo') (hhi : OV σ hi hi') (hmx : OV σ mx mx') (hsome : hi ≠ none) : MSim W P σ VN w x (Instr.sliceAt t x' lo' hi' mx') := by
  unfold farK at e
  split at e
  · rename_i rn f bk ety fr
    split at e
    · rename_i hle
      have hle : off + top * size ≤ rn := Nat.le_of_ble_eq_true hle
      split at e
      · rename_i v hv
        obtain ⟨m, c, fr', g1, g2, g3, g4, g5, g6, g7⟩ := r.row hg
        generalize hcap : UNK + size = cap at hx hv
        cases hx with
        | slc n c hc' r => exact absurd hc' (by omega)
        | unk n size2 c' a0 a1 hm hb ho hs hn he hd =>
          rename_i a' m0
          have hsz : size2 = size := by omega
          subst hsz
          have hm' : σ b = some m0 := hm
          rw [g1] at hm'
          cases hm'
          have htop : top = 0 ∨ m.d + (rowList f bk).length ≤ c.size := by
            rcases g5.bound with e0 | e0
            · left
              rw [e0] at g3
              simp at g3
              rcases Nat.eq_zero_or_pos top with g | g
              · exact g
              · have := Nat.mul_pos g hs; omega
            · exact .inr e0
          have hn2 : top ≤ c' := by
            rcases htop with e0 | e0
            · omega
            · have h1 : a'.off + top * size2 ≤ a'.off + c' * size2 := by
                rw [he, ho]
                simp only
                omega
              exact Nat.le_of_mul_le_mul_right (by omega : top * size2 ≤ c' * size2) hs
          have hx2 : VRel σ (.slice (some ⟨b, off, none⟩) top (UNK + size2)) (.slice (some a') top c') := .unk _ _ _ a0 a1 hm hb ho hs hn2 he hd
          obtain ⟨v', p1, p2⟩ := vslice_sim hv hx2 hlo hhi hmx
          refine MSim.here r e (v' := v') ?_ p2
          cases hhi with
          | none => exact absurd rfl hsome
          | some hh => rw [sliceAt_len ht (some a') n top]; exact p1 w
      · cases e
    · cases e
  · cases e

theorem msl_sim {t : TypeId} {v v' : Value} {lo hi mx lo' hi' mx' : Option Value} {x : Next × VH} (r : R W P σ h w) (e : (msl P t v lo hi mx).run h = some x) (hx : VRel σ v v') (hlo : OV σ lo lo') (hhi : OV σ hi hi') (hmx : OV σ mx mx') :
    MSim W P σ VN w x (Instr.sliceAt t v' lo' hi' mx') := by
  unfold msl at e
  split at e
  · rename_i u hu
    exact (vslice_sim hu hx hlo hhi hmx).here r e
  · unfold sliceFar at e
    split at e
    · rename_i b off n cap _
      obtain ⟨size, hsize, e1⟩ := hopt_run e
      have ht : ∃ et, P.underlying t = some (.slice et) := by
        unfold farSize at hsize
        split at hsize
        · rename_i et ht
          exact ⟨et, tyUnd_some ht⟩
        · cases hsize
      obtain ⟨et, ht⟩ := ht
      split at e1
      · rename_i hU
        have hU : cap = UNK + size := Nat.eq_of_beq_eq_true hU
        subst hU
        split at e1
        · obtain ⟨o, hg, e2⟩ := HM.run_rd e1
          exact farK_sim ht r hg e2 hx hlo hhi hmx (by simp)
        · obtain ⟨o, hg, e2⟩ := HM.run_rd e1
          exact farK_sim ht r hg e2 hx hlo hhi hmx (by simp)
        · cases e1
      · cases e1
    · cases e

/-! ### maps -/

theorem R.map (r : R W P σ h w) {n : Nat} {es : List MapEntry} {k : Nat} (hg : h.get n = some (.map es k)) : ∃ m es', σ n = some m ∧ w.heap[m.b]? = some (.map es' k) ∧ ER σ es es'.toList := by
  obtain ⟨m, O, h1, h2, h3⟩ := r.obj n _ hg
  cases h3 with
  | map he => exact ⟨m, _, h1, h2, he⟩

theorem run_getObj {b : Nat} {o : Obj} (hb : w.heap[b]? = some o) (hc : ∀ c e f, o ≠ .cells c e f) : (getObj b).run P w = .ok o w := by
  cases o <;> first | exact absurd rfl (hc _ _ _) | simp [getObj, Sem.run, hb]
theorem run_setObj {b : Nat} {o : Obj} (o' : Obj) (hb : w.heap[b]? = some o) (hc : ∀ c e f, o ≠ .cells c e f) : (setObj b o').run P w = .ok () (setB w b o') := by
  cases o <;> first | exact absurd rfl (hc _ _ _) | (simp only [setObj, Sem.run, hb]; rfl)

theorem eqAtom_key {t : TypeId} {k k' v v' : Value} {b : Bool} (hk : keyOk P t k = true) (h : eqAtom k v = some b) (hk' : VRel σ k k') (hv : VRel σ v v') :
    k' = k ∧ v' = v ∧ ∃ d, P.underlying t = some d ∧ Instr.sameNow d k v = some b := by
  unfold keyOk at hk
  split at hk
  · rename_i kd n
    split at hk
    · rename_i kd' ht
      unfold eqAtom at h
      cases v <;> simp only [reduceCtorEq] at h
      rename_i kd2 n2
      split at h
      · rename_i he
        subst he
        cases h
        exact ⟨hk'.int_inv, hv.int_inv, _, tyUnd_some ht, by simp [Instr.sameNow]⟩
      · cases h
    · cases hk
  · rename_i s
    split at hk
    · rename_i ht
      unfold eqAtom at h
      cases v <;> simp only [reduceCtorEq] at h
      rename_i s2
      cases h
      refine ⟨hk'.string_inv, hv.string_inv, _, tyUnd_some ht, ?_⟩
      simp only [Instr.sameNow]
      rw [beq_toListBytes, beqBytes_eq, ByteArray.toList_eq, ByteArray.toList_eq]
    · cases hk
  · cases hk

theorem keyOk_same {t : TypeId} {k k' : Value} (hk : keyOk P t k = true) (r : VRel σ k k') : k' = k := by
  unfold keyOk at hk
  split at hk
  · exact r.int_inv
  · exact r.string_inv
  · cases hk

theorem checkKey_run {t : TypeId} {k : Value} (hk : keyOk P t k = true) (em : Bool) (n : Nat) : (Instr.checkKey em (n + 1) t k).run P w = .ok () w := by
  unfold keyOk at hk
  split at hk
  · split at hk
    · rename_i ht
      simp [Instr.checkKey, run_underlying' w ht]
    · cases hk
  · split at hk
    · rename_i ht
      simp [Instr.checkKey, run_underlying' w ht]
    · cases hk
  · cases hk

theorem ER.length {l l' : List MapEntry} (r : ER σ l l') : l.length = l'.length := by
  induction r with
  | nil => rfl
  | cons _ _ ih => simp [ih]

/-- what a search finds: nothing, or the place and the value -/
inductive FoundR (σ : Ren) (k : Value) : List MapEntry → List MapEntry → Option Value → Option (Nat × Value) → Nat → Prop where
  | none (l l' : List MapEntry) (i : Nat) : FoundR σ k l l' none none i
  | some (l l' : List MapEntry) (i j : Nat) (e e' : MapEntry) (hj : l[j]? = some e) (hj' : l'[j]? = some e') (he : EntR σ e e') (hk : e.key = e'.key) (heq : eqAtom k e.key = some true) (hfirst : ∀ v, setKey k v l = l.set j { e with key := k, val := v }) : FoundR σ k l l' (some e.val) (some (i + j, e'.val)) i

theorem findKey_sim {t : TypeId} {d : TypeDesc} (ht : P.underlying t = some d) {k : Value} (hk : keyOk P t k = true) (hkk : VRel σ k k) : ∀ {l l' : List MapEntry} {f : Option Value}, ER σ l l' → findKey k l = some f → ∀ i, ∃ g, Instr.findNow d k l' i = some g ∧ FoundR σ k l l' f g i := by
  intro l l' f r
  induction r generalizing f with
  | nil =>
    intro h i
    cases h
    exact ⟨none, rfl, .none _ _ _⟩
  | cons a t' ih =>
    rename_i x y l l'
    intro h i
    have h' : (match eqAtom k x.key with
      | some true => some (some x.val)
      | some false => findKey k l
      | none => none) = some f := h
    cases hq : eqAtom k x.key with
    | none => rw [hq] at h'; cases h'
    | some b =>
      obtain ⟨_, hy, d', hd', hsame⟩ := eqAtom_key hk hq hkk a.1
      rw [ht] at hd'; cases hd'
      rw [hq] at h'
      cases b with
      | true =>
        cases h'
        refine ⟨some (i, y.val), ?_, ?_⟩
        · simp only [Instr.findNow, hy, hsame]
        · have := FoundR.some (σ := σ) (k := k) (x :: l) (y :: l') i 0 x y rfl rfl a hy.symm hq (fun v => by simp [setKey, hq])
          simpa using this
      | false =>
        obtain ⟨g, g1, g2⟩ := ih h' (i + 1)
        refine ⟨g, ?_, ?_⟩
        · simp only [Instr.findNow, hy, hsame]
          exact g1
        · cases g2 with
          | none => exact .none _ _ _
          | some _ j e e' hj hj' he hke heq hfirst =>
            have := FoundR.some (σ := σ) (k := k) (x :: l) (y :: l') i (j + 1) e e' (by simpa using hj) (by simpa using hj') he hke heq (fun v => by
              have : setKey k v (x :: l) = x :: setKey k v l := by simp [setKey, hq]
              rw [this, hfirst v]; simp)
            rw [show i + (j + 1) = i + 1 + j by omega] at this
            exact this

end
end Go.Proofs.YtonkcdnpmemheaaGreat.Vm

namespace Go.Proofs.YtonkcdnpmemheaaGreat.Vm
section
variable {W : Frm} {P : Program} {σ : Ren} {h : VH} {w : World}

theorem asMap_run {α : Type} {k : List MapEntry → Nat → HM α} {o : VObj} {x : α × VH} (e : (asMap k o).run h = some x) : ∃ es c, o = .map es c ∧ (k es c).run h = some x := by
  unfold asMap at e
  split at e
  · exact ⟨_, _, rfl, e⟩
  · cases e

theorem findKey_run {t : TypeId} {d : TypeDesc} (ht : P.underlying t = some d) {k : Value} {es : List MapEntry} {g : Option (Nat × Value)} (hg : Instr.findNow d k es 0 = some g) : (Instr.findKey t k es).run P w = .ok g w := by
  simp [Instr.findKey, run_underlying w ht, hg]

theorem keyOk_und {t : TypeId} {k : Value} (hk : keyOk P t k = true) : ∃ d, P.underlying t = some d := by
  unfold keyOk at hk
  split at hk
  · split at hk
    · rename_i ht; exact ⟨_, tyUnd_some ht⟩
    · cases hk
  · split at hk
    · rename_i ht; exact ⟨_, tyUnd_some ht⟩
    · cases hk
  · cases hk

theorem found_sim {ok : Bool} {elem : TypeId} {f : Option Value} {f' : Option (Nat × Value)} {x : Next × VH} (r : R W P σ h w) (e : (found ok (zeroT P elem) (some f)).run h = some x)
    (hf : (f = none ∧ f' = none) ∨ (∃ v v' i, f = some v ∧ f' = some (i, v') ∧ VRel σ v v')) :
    MSim W P σ VN w x (do
      let (v, ok') ← match f' with
        | some (_, v) => pure (v, true)
        | none => do pure (← zeroValue elem, false)
      pure (if ok then .tuple #[v, .bool ok'] else v)) := by
  rcases hf with ⟨rfl, rfl⟩ | ⟨v, v', i, rfl, rfl, hv⟩
  · cases ok with
    | true =>
      obtain ⟨z, hz, e1⟩ := hopt_run (show (hopt (zeroT P elem) fun z => HM.ret (Next.value (.tuple #[z, .bool false]))).run h = some x from e)
      obtain ⟨_, _, _, hb⟩ := zeroT_some hz
      have hzz : VRel σ z z := bare_same 4 z hb
      exact MSim.here r e1 (v' := .tuple #[z, .bool false]) (by simp [run_zeroValue w hz]) (LR.tuple (l := [z, .bool false]) (l' := [z, .bool false]) (.cons hzz (.one (.bool _))))
    | false =>
      obtain ⟨z, hz, e1⟩ := hopt_run (show (hopt (zeroT P elem) fun z => HM.ret (Next.value z)).run h = some x from e)
      obtain ⟨_, _, _, hb⟩ := zeroT_some hz
      have hzz : VRel σ z z := bare_same 4 z hb
      exact MSim.here r e1 (v' := z) (by simp [run_zeroValue w hz]) hzz
  · cases ok with
    | true => exact MSim.here r e (v' := .tuple #[v', .bool true]) (by simp) (LR.tuple (l := [v, .bool true]) (l' := [v', .bool true]) (.cons hv (.one (.bool _))))
    | false => exact MSim.here r e (v' := v') (by simp) hv

theorem vlookup_sim {t : TypeId} {x0 ix x0' ix' : Value} {ok : Bool} {x : Next × VH} (r : R W P σ h w) (e : (vlookup P t x0 ix ok).run h = some x) (hx : VRel σ x0 x0') (hi : VRel σ ix ix') : MSim W P σ VN w x (Instr.lookup t x0' ix' ok) := by
  unfold vlookup at e
  split at e
  · rename_i key elem ht
    have ht := tyUnd_some ht
    split at e
    · rename_i hk
      have hke := keyOk_same hk hi
      subst hke
      obtain ⟨d, hd⟩ := keyOk_und hk
      split at e
      · cases hx
        obtain ⟨y, w', τ, h1, h2⟩ := found_sim (f' := none) r e (.inl ⟨rfl, rfl⟩)
        refine ⟨y, w', τ, ?_, h2⟩
        rw [← h1]
        have hck := checkKey_run (w := w) hk true 9999
        have hfk : (Instr.findKey key ix' ([] : List MapEntry)).run P w = .ok none w := findKey_run hd rfl
        simp [Instr.lookup, run_underlying w ht, hck, hfk]
      · rename_i rr
        obtain ⟨o, hg, e1⟩ := HM.run_rd e
        obtain ⟨es, c, rfl, e2⟩ := asMap_run e1
        cases hx with
        | map hm =>
          obtain ⟨m, es', g1, g2, g3⟩ := r.map hg
          rw [hm] at g1; cases g1
          cases hf : findKey ix' es with
          | none => rw [hf] at e2; cases e2
          | some f =>
            rw [hf] at e2
            obtain ⟨g, k1, k2⟩ := findKey_sim hd hk hi g3 hf 0
            have hff : (f = none ∧ g = none) ∨ (∃ v v' i, f = some v ∧ g = some (i, v') ∧ VRel σ v v') := by
              cases k2 with
              | none => exact .inl ⟨rfl, rfl⟩
              | some _ j e e' hj hj' he hke heq hfirst => exact .inr ⟨_, _, _, rfl, rfl, he.2.1⟩
            obtain ⟨y, w', τ, h1, h2⟩ := found_sim r e2 hff
            refine ⟨y, w', τ, ?_, h2⟩
            rw [← h1]
            have hgo := run_getObj (P := P) g2 (by intro c e f h; cases h)
            have hck := checkKey_run (w := w) hk es'.isEmpty 9999
            have hfk := findKey_run (P := P) (w := w) hd k1
            simp only [Instr.lookup, Sem.run_bind, run_underlying w ht, Result.andThen_ok, hgo, Sem.run_pure, hck, hfk]
            clear hfk h1 hff k2 k1
            cases g <;> rfl
      · cases e
    · cases e
  · cases e

theorem ER.get {l l' : List MapEntry} (r : ER σ l l') {i : Nat} {x : MapEntry} (hx : l[i]? = some x) : ∃ y, l'[i]? = some y ∧ EntR σ x y := by
  induction r generalizing i with
  | nil => simp at hx
  | cons a _ ih =>
    cases i with
    | zero => simp at hx; subst hx; exact ⟨_, rfl, a⟩
    | succ i => obtain ⟨y, h1, h2⟩ := ih (i := i) (by simpa using hx); exact ⟨y, by simpa using h1, h2⟩

theorem ER.set {l l' : List MapEntry} (r : ER σ l l') (i : Nat) {x y : MapEntry} (hxy : EntR σ x y) : ER σ (l.set i x) (l'.set i y) := by
  induction r generalizing i with
  | nil => simpa using ER.nil
  | cons a t ih =>
    cases i with
    | zero => exact .cons hxy t
    | succ i => exact .cons a (ih i)

theorem ER.append {l l' m m' : List MapEntry} (r : ER σ l l') (s : ER σ m m') : ER σ (l ++ m) (l' ++ m') := by
  induction r with
  | nil => exact s
  | cons a _ ih => exact .cons a ih

theorem sameBits_key {k v : Value} (h : eqAtom k v = some true) (n : Nat) : Instr.sameBits n v k = true := by
  unfold eqAtom at h
  cases k <;> cases v <;> simp only [reduceCtorEq] at h
  · rename_i a b
    have : a = b := by simpa using h
    subst this
    cases n <;> simp [Instr.sameBits]
  · rename_i k1 a k2 b
    split at h
    · rename_i he
      have : a = b := by simpa using h
      subst this; subst he
      cases n <;> simp [Instr.sameBits]
    · cases h
  · rename_i a b
    have hb : beqBytes a.data.toList b.data.toList = true := by simpa using h
    rw [beqBytes_eq] at hb
    have hbb : (b == a) = true := by
      rw [beq_toListBytes, ByteArray.toList_eq, ByteArray.toList_eq]
      have := eq_of_beq hb
      rw [this]; simp
    cases n <;> simpa [Instr.sameBits] using hbb

theorem vmapUpdate_sim {t : TypeId} {m k v m' k' v' : Value} {x : Next × VH} (r : R W P σ h w) (e : (vmapUpdate P t m k v).run h = some x) (hm : VRel σ m m') (hk : VRel σ k k') (hv : VRel σ v v') : MSim W P σ SN w x (Instr.mapUpdate t m' k' v') := by
  unfold vmapUpdate at e
  split at e
  · rename_i key elem ht
    have ht := tyUnd_some ht
    split at e
    · rename_i hok
      have hke := keyOk_same hok hk
      subst hke
      obtain ⟨d, hd⟩ := keyOk_und hok
      split at e
      · rename_i rr
        obtain ⟨o, hg, e1⟩ := HM.run_rd e
        obtain ⟨es, c, rfl, e2⟩ := asMap_run e1
        cases hm with
        | map hmm =>
          rename_i mm
          obtain ⟨mm', es', g1, g2, g3⟩ := r.map hg
          rw [hmm] at g1; cases g1
          unfold mapPut at e2
          have hgo := run_getObj (P := P) g2 (by intro c e f h; cases h)
          have hck := checkKey_run (w := w) hok false 9999
          split at e2
          · rename_i v0 hf
            obtain ⟨g, k1, k2⟩ := findKey_sim hd hok hk g3 hf 0
            have hfk := findKey_run (P := P) (w := w) hd k1
            obtain ⟨o0, hg0, e3⟩ := HM.run_wr e2
            cases e3
            cases k2 with
            | some _ j e e' hj hj' he hke heq hfirst =>
              have hj2 : es'[j]? = some e' := by rw [← Array.getElem?_toList]; exact hj'
              rw [hke] at heq
              have hsb := sameBits_key heq 10000
              have hkts : (Instr.keyThatStays e'.key k').run P w = .ok k' w := by simp [Instr.keyThatStays, hsb]
              have hlt : j < es'.size := by
                rcases Nat.lt_or_ge j es'.size with g | g
                · exact g
                · rw [Array.getElem?_eq_none g] at hj2; cases hj2
              have hmod : (es'.modify j fun e => { e with key := k', val := v' }).toList = es'.toList.set j { e' with key := k', val := v' } := by
                apply List.ext_getElem?
                intro i
                rw [Array.getElem?_toList, Array.getElem?_modify, List.getElem?_set]
                by_cases hij : j = i
                · subst hij
                  rw [if_pos rfl, if_pos rfl, if_pos (by simpa using hlt), hj2]
                  rfl
                · rw [if_neg hij, if_neg hij, Array.getElem?_toList]
              refine ⟨(), setB w mm.b (.map (es'.modify j fun e => { e with key := k', val := v' }) c), σ, ?_, Ren.le_refl σ, ?_, rfl⟩
              · have hso := run_setObj (P := P) (.map (es'.modify (0 + j) fun e => { e with key := k', val := v' }) c) g2 (by intro c e f h; cases h)
                simp only [Nat.zero_add] at hso hfk
                simp only [Instr.mapUpdate, Sem.run_bind, run_underlying w ht, Result.andThen_ok, hgo, hck, hfk, hj2, Option.map_some, Option.getD_some, hkts, hso]
              · refine r.upd hmm hg (.map ?_)
                rw [hmod, hfirst v]
                exact g3.set j ⟨hk, hv, he.2.2⟩
          · rename_i hf
            obtain ⟨g, k1, k2⟩ := findKey_sim hd hok hk g3 hf 0
            have hfk := findKey_run (P := P) (w := w) hd k1
            obtain ⟨o0, hg0, e3⟩ := HM.run_wr e2
            cases e3
            cases k2 with
            | none =>
              refine ⟨(), setB w mm.b (.map (es'.push { key := k', val := v', born := c }) (c + 1)), σ, ?_, Ren.le_refl σ, ?_, rfl⟩
              · have hso := run_setObj (P := P) (.map (es'.push { key := k', val := v', born := c }) (c + 1)) g2 (by intro c e f h; cases h)
                simp only [Instr.mapUpdate, Sem.run_bind, run_underlying w ht, Result.andThen_ok, hgo, hck, hfk, hso]
              · refine r.upd hmm hg (.map ?_)
                rw [app_eq, Array.toList_push]
                exact g3.append (.cons ⟨hk, hv, rfl⟩ .nil)
          · cases e2
      · cases e
    · cases e
  · cases e

end
end Go.Proofs.YtonkcdnpmemheaaGreat.Vm

namespace Go.Proofs.YtonkcdnpmemheaaGreat.Vm
section
variable {P : Program} {w : World}

/-! ### append: what the machine does -/

theorem und_not_int {t2 : TypeId} {d : TypeDesc} (h : P.underlying t2 = some d) (hd : ∀ k, d ≠ .int k) (w : World) :
    ((do pure ((← Go.underlying t2) matches .int _)) : Sem Bool).run P w = .ok false w := by
  simp only [Sem.run_bind, run_underlying w h, Result.andThen_ok]
  cases d <;> first | rfl | exact absurd rfl (hd _)

theorem und_int {t2 : TypeId} {k : IntKind} (h : P.underlying t2 = some (.int k)) (w : World) :
    ((do pure ((← Go.underlying t2) matches .int _)) : Sem Bool).run P w = .ok true w := by
  simp only [Sem.run_bind, run_underlying w h, Result.andThen_ok]
  rfl

theorem append_room {t t2 ty e : TypeId} {i : TypeInfo} {d : TypeDesc} (ht : P.underlying t = some (.slice e)) (hi : P.info? e = some i) (h2 : P.underlying t2 = some d) (hd : ∀ k, d ≠ .int k)
    {base : Option Addr} {n cap m : Nat} {x : Value} {new : Array Value} {w1 : World} (hl : (Builtin.lenOf x).run P w = .ok m w) (hf : (Builtin.firstCells i.size m x).run P w = .ok new w) (hroom : n + m ≤ cap)
    (hst : (match base with | some a => storeCells (a.add (n * i.size)) new.toList | none => pure ()).run P w = .ok () w1) :
    (Builtin.append_ #[t, t2] ty #[.slice base n cap, x]).run P w = .ok (.slice base (n + m) cap) w1 := by
  have hz := und_not_int h2 hd w
  simp only [Sem.run_bind] at hz
  cases base with
  | none =>
    have : w1 = w := by
      have h : Result.ok () w = Result.ok () w1 := hst
      injection h with _ h; exact h.symm
    subst this
    simp [Builtin.append_, run_underlying w1 ht, run_sizeOf w1 hi, hl, hf, hroom, run_underlying w1 h2]
  | some a =>
    have hst : (storeCells (a.add (n * i.size)) new.toList).run P w = .ok () w1 := hst
    simp [Builtin.append_, run_underlying w ht, run_sizeOf w hi, run_underlying w h2]
    cases d <;> first | simp [hl, hf, hroom, hst] | exact absurd rfl (hd _)

theorem append_grow {t t2 ty e : TypeId} {i : TypeInfo} {z : Value} {d : TypeDesc} (ht : P.underlying t = some (.slice e)) (hi : P.info? e = some i) (hz : i.zero = some z) (h2 : P.underlying t2 = some d) (hd : ∀ k, d ≠ .int k)
    {base : Option Addr} {n cap m : Nat} {x : Value} {old new : Array Value} (hl : (Builtin.lenOf x).run P w = .ok m w) (hf : (Builtin.firstCells i.size m x).run P w.drew = .ok new w.drew)
    (ho : (Builtin.firstCells i.size n (.slice base n cap)).run P w.drew = .ok old w.drew) (hroom : cap < n + m) (hsm : n + m ≤ 1048576) (hb : i.bytes ≤ 4096) :
    (Builtin.append_ #[t, t2] ty #[.slice base n cap, x]).run P w = .ok (.slice (some ⟨w.heap.size, 0, none⟩) (n + m) (grownCap w (n + m) cap e))
      (w.drew.alloc (.cells (old ++ new ++ Builtin.zeroCells z.cells (grownCap w (n + m) cap e - (n + m))) e)) := by
  have hn : ¬ (n + m ≤ cap) := by omega
  have h63' : ¬ (9223372036854775807 < ((n : Int) + (m : Int))) := by omega
  have h48' : ¬ (281474976710656 < Builtin.nextslicecap (n + m) cap * i.bytes) := by
    have h1 := nextslicecap_le hroom
    have h3 : Builtin.nextslicecap (n + m) cap * i.bytes ≤ (2 * (n + m)) * 4096 := Nat.mul_le_mul h1 hb
    omega
  simp [Builtin.append_, run_underlying w ht, run_sizeOf w hi, run_underlying w h2]
  cases d <;> first | exact absurd rfl (hd _) | simp [hl, hn, h63', h48', Question.forced, hf, ho, grownCap, run_typeInfo w hi, Go.zeroValue, run_typeInfo w.drew hi, hz, run_newRow]

theorem append_room_zeros {t t2 ty e : TypeId} {i : TypeInfo} {z : Value} {k kx : IntKind} (ht : P.underlying t = some (.slice e)) (hi : P.info? e = some i) (hz : i.zero = some z) (h2 : P.underlying t2 = some (.int k))
    {base : Option Addr} {n cap m : Nat} {w1 : World} (hm : m ≤ 1048576) (hb : i.bytes ≤ 4096) (hs : i.size ≠ 0) (hroom : n + m ≤ cap)
    (hst : (match base with | some a => storeCells (a.add (n * i.size)) (Builtin.zeroCells z.cells m).toList | none => pure ()).run P w = .ok () w1) :
    (Builtin.append_ #[t, t2] ty #[.slice base n cap, .int kx (Int.ofNat m)]).run P w = .ok (.slice base (n + m) cap) w1 := by
  have hw := wrap_i64 (n := m) (by omega)
  simp only [Int.ofNat_eq_natCast] at hw
  have hneg : ¬ ((m : Int) < 0) := by omega
  have hby : ¬ (281474976710656 < (m : Int) * (i.bytes : Int)) := by
    have h6 : m * i.bytes ≤ 1048576 * 4096 := Nat.mul_le_mul hm hb
    have h7 : (m : Int) * (i.bytes : Int) = ((m * i.bytes : Nat) : Int) := by simp
    rw [h7]; omega
  have hmi : (m : Int).toNat = m := by simp
  cases base with
  | none =>
    have : w1 = w := by
      have h : Result.ok () w = Result.ok () w1 := hst
      injection h with _ h; exact h.symm
    subst this
    by_cases hm0 : m * i.size = 0
    · simp [Builtin.append_, run_underlying w1 ht, run_sizeOf w1 hi, run_underlying w1 h2, asInt, asIntOf, hw, hneg, run_typeInfo w1 hi, hby, hroom, hm0]
    · simp [Builtin.append_, run_underlying w1 ht, run_sizeOf w1 hi, run_underlying w1 h2, asInt, asIntOf, hw, hneg, run_typeInfo w1 hi, hby, hroom, hm0, Go.zeroValue, hz]
  | some a =>
    have hst : (storeCells (a.add (n * i.size)) (Builtin.zeroCells z.cells m).toList).run P w = .ok () w1 := hst
    by_cases hm0 : m = 0
    · subst hm0
      have hzc : (Builtin.zeroCells z.cells 0).toList = [] := by simp [Builtin.zeroCells]
      rw [hzc] at hst
      simp [Builtin.append_, run_underlying w ht, run_sizeOf w hi, run_underlying w h2, asInt, asIntOf, IntKind.wrap, IntKind.bits, IntKind.signed, run_typeInfo w hi, hroom, hst]
      intro hbad
      exfalso
      omega
    · have hms : m * i.size ≠ 0 := Nat.mul_ne_zero hm0 hs
      simp [Builtin.append_, run_underlying w ht, run_sizeOf w hi, run_underlying w h2, asInt, asIntOf, hw, hneg, run_typeInfo w hi, hby, hroom, hms, hm0, hs, Go.zeroValue, hz, hst]

theorem append_grow_zeros {t t2 ty e : TypeId} {i : TypeInfo} {z : Value} {k kx : IntKind} (ht : P.underlying t = some (.slice e)) (hi : P.info? e = some i) (hz : i.zero = some z) (h2 : P.underlying t2 = some (.int k))
    {base : Option Addr} {n cap m : Nat} {old : Array Value} (hs : i.size ≠ 0)
    (ho : (Builtin.firstCells i.size n (.slice base n cap)).run P w.drew = .ok old w.drew) (hroom : cap < n + m) (hsm : n + m ≤ 1048576) (hb : i.bytes ≤ 4096) :
    (Builtin.append_ #[t, t2] ty #[.slice base n cap, .int kx (Int.ofNat m)]).run P w = .ok (.slice (some ⟨w.heap.size, 0, none⟩) (n + m) (grownCap w (n + m) cap e))
      (w.drew.alloc (.cells (old ++ Builtin.zeroCells z.cells m ++ Builtin.zeroCells z.cells (grownCap w (n + m) cap e - (n + m))) e)) := by
  have hw := wrap_i64 (n := m) (by omega)
  simp only [Int.ofNat_eq_natCast] at hw
  have hneg : ¬ ((m : Int) < 0) := by omega
  have hby : ¬ (281474976710656 < (m : Int) * (i.bytes : Int)) := by
    have h6 : m * i.bytes ≤ 1048576 * 4096 := Nat.mul_le_mul (by omega) hb
    have h7 : (m : Int) * (i.bytes : Int) = ((m * i.bytes : Nat) : Int) := by simp
    rw [h7]; omega
  have hmi : (m : Int).toNat = m := by simp
  have hn : ¬ (n + m ≤ cap) := by omega
  have h63' : ¬ (9223372036854775807 < ((n : Int) + (m : Int))) := by omega
  have h48' : ¬ (281474976710656 < Builtin.nextslicecap (n + m) cap * i.bytes) := by
    have h1 := nextslicecap_le hroom
    have h3 : Builtin.nextslicecap (n + m) cap * i.bytes ≤ (2 * (n + m)) * 4096 := Nat.mul_le_mul h1 hb
    omega
  by_cases hm0 : m = 0
  · subst hm0
    have hn0 : ¬ (n ≤ cap) := by omega
    have h63n : ¬ (9223372036854775807 < (n : Int)) := by omega
    have h48n : ¬ (281474976710656 < Builtin.nextslicecap n cap * i.bytes) := by simpa using h48'
    have hzc : Builtin.zeroCells z.cells 0 = #[] := by
      apply Array.ext'
      simp [Builtin.zeroCells]
    simp [Builtin.append_, run_underlying w ht, run_sizeOf w hi, run_underlying w h2, asInt, asIntOf, IntKind.wrap, IntKind.bits, IntKind.signed, run_typeInfo w hi, hn0, h63n, h48n, Question.forced, ho, grownCap, Go.zeroValue, run_typeInfo w.drew hi, hz, run_newRow, hzc]
  · have hms : m * i.size ≠ 0 := Nat.mul_ne_zero hm0 hs
    simp [Builtin.append_, run_underlying w ht, run_sizeOf w hi, run_underlying w h2, asInt, asIntOf, hw, hneg, run_typeInfo w hi, hby, hn, h63', h48', Question.forced, ho, hm0, hs, hms, grownCap, Go.zeroValue, run_typeInfo w.drew hi, hz, run_newRow]

end
end Go.Proofs.YtonkcdnpmemheaaGreat.Vm

namespace Go.Proofs.YtonkcdnpmemheaaGreat.Vm
section
variable {W : Frm} {P : Program} {σ : Ren} {h : VH} {w : World}

/-- a block that no live name has may be written -/
theorem R.setFree (r : R W P σ h w) {bl : Nat} (hb : W.W.heap.size ≤ bl) (hfree : ∀ k x m', h.get k = some x → σ k = some m' → m'.b ≠ bl) (hX : W.X bl = none) (O : Obj) : R W P σ h (setB w bl O) where
  ext := extends_setB r.ext O hb
  own k m e := by rw [setB_size]; exact r.own k m e
  lt := r.lt
  obj k x e := by
    obtain ⟨m, O', h1, h2, h3⟩ := r.obj k x e
    exact ⟨m, O', h1, by rw [setB_other _ _ (hfree k x m e h1)]; exact h2, h3⟩
  inj := r.inj
  fix b O' e := by
    rw [setB_other _ _ (fun hb => by rw [hb, hX] at e; cases e)]
    exact r.fix b O' e
  off := r.off
  res := r.res
  zlt := r.zlt
  al := r.al
  zal := r.zal
  big := by rw [setB_size]; exact r.big

theorem RowIn.extend {d : Nat} {l vs vs' : List Value} {c c1 : Array Value} (r : RowIn σ d l c) (hv : LR σ vs vs')
    (hc : c1.toList = c.toList.take (d + l.length) ++ vs' ++ c.toList.drop (d + l.length + vs'.length)) (hs : d + l.length + vs.length ≤ c.size) : RowIn σ d (l ++ vs) c1 := by
  intro i x hx
  have hvl := hv.length
  have ht : (c.toList.take (d + l.length)).length = d + l.length := by simp; omega
  have hget : ∀ j, j < d + l.length + vs'.length → c1[j]? = if j < d + l.length then c[j]? else vs'[j - (d + l.length)]? := by
    intro j hj
    rw [← Array.getElem?_toList, hc, List.append_assoc, List.getElem?_append, ht]
    by_cases h1 : j < d + l.length
    · rw [if_pos h1, if_pos h1, List.getElem?_take, if_pos h1, Array.getElem?_toList]
    · rw [if_neg h1, if_neg h1, List.getElem?_append, if_pos (by omega)]
  rw [List.getElem?_append] at hx
  by_cases h1 : i < l.length
  · rw [if_pos h1] at hx
    obtain ⟨y, hy1, hy2⟩ := r i x hx
    exact ⟨y, by rw [hget _ (by omega), if_pos (by omega)]; exact hy1, hy2⟩
  · rw [if_neg h1] at hx
    obtain ⟨y, hy1, hy2⟩ := hv.get hx
    have hi : i - l.length < vs'.length := by
      rcases Nat.lt_or_ge (i - l.length) vs'.length with g | g
      · exact g
      · rw [List.getElem?_eq_none g] at hy1; cases hy1
    exact ⟨y, by rw [hget _ (by omega), if_neg (by omega), show d + i - (d + l.length) = i - l.length by omega]; exact hy1, hy2⟩

theorem RowIn.sub {d : Nat} {l : List Value} {c : Array Value} (r : RowIn σ d l c) (off n : Nat) : RowIn σ (off + d) ((l.drop off).take n) c := by
  intro i x hx
  rw [List.getElem?_take] at hx
  split at hx
  · rw [List.getElem?_drop] at hx
    obtain ⟨y, h1, h2⟩ := r _ _ hx
    exact ⟨y, by rw [show off + d + i = d + (off + i) by omega]; exact h1, h2⟩
  · cases hx

/-- what appending needs of the machine -/
structure App (P : Program) (w : World) (e : TypeId) (size n m : Nat) (z : Value) (new' : Array Value) (s : Value → Sem Value) : Prop where
  room : ∀ (base' : Option Addr) (cap' : Nat) (w1 : World), n + m ≤ cap' → (match base' with | some a => storeCells (a.add (n * size)) new'.toList | none => pure ()).run P w = .ok () w1 → (s (.slice base' n cap')).run P w = .ok (.slice base' (n + m) cap') w1
  grow : ∀ (base' : Option Addr) (cap' : Nat) (old : Array Value), (Builtin.firstCells size n (.slice base' n cap')).run P w.drew = .ok old w.drew → cap' < n + m → n + m ≤ 1048576 →
    (s (.slice base' n cap')).run P w = .ok (.slice (some ⟨w.heap.size, 0, none⟩) (n + m) (grownCap w (n + m) cap' e)) (w.drew.alloc (.cells (old ++ new' ++ Builtin.zeroCells z.cells (grownCap w (n + m) cap' e - (n + m))) e))

theorem grow_row {e : TypeId} {size n m cap' : Nat} {z : Value} {old new : List Value} {old' new' : Array Value} {f b : List Value} {fr : Nat × Nat} {k : Nat} (r : R W P σ h w) (hrow : rowList f b = old ++ new) (hk : k = (old ++ new).length)
    (ho : LR σ old old'.toList) (hn : LR σ new new'.toList) (hlo : old.length = n * size) (hln : new.length = m * size) (hs : 0 < size) (hzs : z.cells.size = size) (hroom : cap' < n + m)
    (hfr : (fr.1 = fr.2) ∨ (fr.1 = UNK ∧ fr.2 = UNK + 1)) :
    ∃ τ, σ.le τ ∧ R W P τ (h.new (.row k f b e fr)) (w.drew.alloc (.cells (old' ++ new' ++ Builtin.zeroCells z.cells (grownCap w (n + m) cap' e - (n + m))) e)) ∧
      VRel τ (.slice (some ⟨h.al, 0, none⟩) (n + m) (UNK + size)) (.slice (some ⟨w.heap.size, 0, none⟩) (n + m) (grownCap w (n + m) cap' e)) := by
  have hcap := grownCap_ge w (n + m) cap' e
  have hlo' := ho.length
  have hln' := hn.length
  simp only [Array.length_toList] at hlo' hln'
  have hsz : (old' ++ new' ++ Builtin.zeroCells z.cells (grownCap w (n + m) cap' e - (n + m))).size = grownCap w (n + m) cap' e * size := by
    rw [Array.size_append, Array.size_append, size_zeroCells, hzs, ← hlo', ← hln', hlo, hln, ← Nat.add_mul, ← Nat.add_mul]
    congr 1; omega
  generalize grownCap w (n + m) cap' e = g at *
  have hle : σ.le (σ.at h.al ⟨w.heap.size, 0, g * size⟩) := Ren.le_at r.al
  obtain ⟨h1, h2⟩ := r.drew.new (m := ⟨w.heap.size, 0, g * size⟩) rfl (o := .row k f b e fr) (O := .cells (old' ++ new' ++ Builtin.zeroCells z.cells (g - (n + m))) e)
    (.row (by rw [hrow]; exact hk) hsz (by
      rw [hrow]
      intro i x hx
      obtain ⟨y, hy1, hy2⟩ := (ho.append hn).get hx
      have hi : i < (old'.toList ++ new'.toList).length := by
        rcases Nat.lt_or_ge i (old'.toList ++ new'.toList).length with g | g
        · exact g
        · rw [List.getElem?_eq_none g] at hy1; cases hy1
      refine ⟨y, ?_, hy2.mono hle⟩
      rw [← Array.getElem?_toList, Array.toList_append, Array.toList_append, Nat.zero_add, List.getElem?_append, if_pos hi]
      exact hy1) (by
        rcases hfr with e1 | ⟨e1, e2⟩
        · exact .inl ⟨e1, rfl⟩
        · exact .inr (.inr ⟨e1, e2, .inl rfl⟩)) (Nat.zero_mod _))
  refine ⟨_, h1, h2, ?_⟩
  exact .unk (m := ⟨w.heap.size, 0, g * size⟩) _ _ _ rfl rfl (Ren.at_same _ _ _) rfl (by simp) hs hcap (by simp) (Nat.zero_mod _)

end
end Go.Proofs.YtonkcdnpmemheaaGreat.Vm

namespace Go.Proofs.YtonkcdnpmemheaaGreat.Vm
section
variable {W : Frm} {P : Program} {σ : Ren} {h : VH} {w : World}

theorem growK_inv {size b off used n : Nat} {new : List Value} {e : TypeId} {fr : Nat × Nat} {rn : Nat} {f r : List Value} {x : Next × VH} (hr : (growK size b off used n new e fr rn f r).run h = some x) (hrn : rn = (rowList f r).length) :
    (fr.1 = fr.2 ∨ fr.1 = UNK) ∧ (used = 0 ∨ off + used ≤ (rowList f r).length) ∧ ∃ f2 b2 k2, rowList f2 b2 = ((rowList f r).drop off).take used ++ new ∧ k2 = (((rowList f r).drop off).take used ++ new).length ∧
      (HM.kill b (.nw (.row k2 f2 b2 e fr) fun x => unkTo size x n)).run h = some x := by
  unfold growK at hr
  split at hr
  · rename_i hfr
    have hfr' : fr.1 = fr.2 ∨ fr.1 = UNK := by
      split at hfr
      · rename_i g; exact .inl (Nat.eq_of_beq_eq_true g)
      · exact .inr (Nat.eq_of_beq_eq_true hfr)
    refine ⟨hfr', ?_⟩
    split at hr
    · rename_i hu
      have hu := Nat.eq_of_beq_eq_true hu
      refine ⟨.inr (by omega), f, rapp new r, _, ?_, ?_, hr⟩
      · rw [rowList_eq, rapp_eq, rowList_eq]
        have : used = (f ++ r.reverse).length := by rw [← rowList_eq]; omega
        rw [List.drop_zero, this, List.take_length]
        simp
      · rw [len_eq]
        have : used = (rowList f r).length := by omega
        rw [List.drop_zero, this, List.take_length]
        simp only [List.length_append]
        show rn + new.length = _
        omega
    · obtain ⟨old, ho, hr2⟩ := hopt_run hr
      obtain ⟨h1, h2⟩ := take?_some ho
      rw [drp_eq] at h1 h2
      rw [← h2]
      refine ⟨?_, app old new, [], _, ?_, ?_, hr2⟩
      · rcases Nat.eq_zero_or_pos used with g | g
        · exact .inl g
        · right; simp at h1; omega
      · rw [rowList_nil, app_eq]
      · rw [len_eq]
        simp only [List.length_append]
        show used + new.length = _
        rw [h2]; simp at h1 ⊢; omega
  · cases hr

theorem appUnk_sim {et : TypeId} {size b off n m : Nat} {z : Value} {new : List Value} {new' : Array Value} {o : VObj} {x : Next × VH} {s : Value → Sem Value} {s' : Value} (r : R W P σ h w) (hg : h.get b = some o)
    (e : (appUnk et size b off (n * size) (n + m) new o).run h = some x) (hs : VRel σ (.slice (some ⟨b, off, none⟩) n (UNK + size)) s') (hn : LR σ new new'.toList) (hln : new.length = m * size) (hco : P.cellsOf et = size) (hzs : z.cells.size = size)
    (ha : App P w et size n m z new' s) (hsm : n + m ≤ 1048576) :
    MSim W P σ VN w x (s s') := by
  generalize hcapE : UNK + size = capE at hs
  cases hs with
  | slc _ _ hc' _ => exact absurd hc' (by omega)
  | unk _ size2 c' a0 a1 hm hb ho hsz hnc he hd =>
    rename_i a' m0
    have hsz2 : size2 = size := by omega
    subst hsz2
    have hm : σ b = some m0 := hm
    have ho : a'.off = off + m0.d := ho
    have hae := addr_eq a1 hb ho
    unfold appUnk at e
    split at e
    · rename_i rn f rr ety fr
      split at e
      · cases e
      · rename_i heq
        have heq := Nat.eq_of_beq_eq_true heq
        subst heq
        split at e
        · rename_i hfz hone
          obtain ⟨m', c, fr', g1, g2, g3, g4, g5, g6, g7⟩ := r.row hg
          rw [hm] at g1; cases g1
          have hlnn : new.length = new'.size := by rw [hn.length]; simp
          split at e
          · -- in place, within what is known
            rename_i hle
            have hw : (wrK b (off + n * size2) new (unkAt size2 b off (n + m)) (.row rn f rr et fr)).run h = some x := by
              unfold wrK
              simp only
              have h1 : frzOk fr (off + n * size2) (len new) = true := hfz
              rw [h1, hone]
              exact e
            obtain ⟨h1, w1, e1, r1, hst⟩ := wrK_sim r hg hw hn hm
            cases e1
            have hle2 : off + n * size2 + new.length ≤ rn := by
              have := Nat.le_of_ble_eq_true hle
              rw [len_eq] at this
              exact this
            have hbnd : m = 0 ∨ m0.d + (rowList f rr).length ≤ c.size := by
              rcases g5.bound with e0 | e0
              · left
                rw [e0] at g3
                simp at g3
                have h0 : m * size2 = 0 := by omega
                rcases Nat.eq_zero_or_pos m with g | g
                · exact g
                · have := Nat.mul_pos g hsz; omega
              · exact .inr e0
            have hroom : n + m ≤ c' := by
              rcases hbnd with e0 | e0
              · omega
              · have h1 : (n + m) * size2 ≤ c' * size2 := by
                  rw [Nat.add_mul]; omega
                exact Nat.le_of_mul_le_mul_right h1 hsz
            have hadd : a'.add (n * size2) = ⟨m0.b, off + n * size2 + m0.d, none⟩ := by
              rw [hae]
              unfold Addr.add
              split
              · rename_i h0; rw [h0]; rfl
              · simp; omega
            refine ⟨_, w1, σ, ha.room (some a') c' w1 hroom (by show (storeCells (a'.add (n * size2)) new'.toList).run P w = _; rw [hadd]; exact hst), Ren.le_refl σ, r1, _, rfl, ?_⟩
            exact .unk _ _ _ rfl a1 hm hb ho hsz hroom he hd
          · -- a new row, or the old one's far part
            obtain ⟨hfr, hused, f2, b2, k2, hrow, hk2, e2⟩ := growK_inv e g3
            obtain ⟨o0, _, e3⟩ := HM.run_kill e2
            have hfree : ∀ k y m', (h.put b none).get k = some y → σ k = some m' → m'.b ≠ m0.b := by
              intro k y m' hy hk hbb
              rw [VH.get_put] at hy
              split at hy
              · cases hy
              · rename_i hkb
                exact hkb (r.inj k b y _ m' m0 hy hg hk hm hbb)
            have hold : LR σ (((rowList f rr).drop off).take (n * size2)) ((c.toList.drop (off + m0.d)).take (n * size2)) := by
              rcases hused with e0 | e0
              · rw [e0]; simp; exact .nil
              · rw [show off + m0.d = m0.d + off by omega]; exact g5.piece e0
            have hlen : (((rowList f rr).drop off).take (n * size2)).length = n * size2 := by
              rcases hused with e0 | e0
              · rw [e0]; simp
              · simp; omega
            have e3' : (HM.nw (.row k2 f2 b2 et fr) fun x => unkTo size2 x (n + m)).run (h.put b none) = some x := e3
            rw [HM.run_nw] at e3'
            cases e3'
            by_cases hroom : n + m ≤ c'
            · -- in place
              have hspace : a'.off + n * size2 + new'.size ≤ c.size := by
                rw [g4, ← he, ← hlnn, hln]
                have : (n + m) * size2 ≤ c' * size2 := Nat.mul_le_mul_right _ hroom
                rw [Nat.add_mul] at this; omega
              have hadd : a'.add (n * size2) = ⟨m0.b, a'.off + n * size2, none⟩ := by
                rw [hae]
                unfold Addr.add
                split
                · rename_i h0; rw [h0]; rfl
                · rfl
              have hfz' : frzOk fr (off + n * size2) new.length = true := by rw [← len_eq]; exact hfz
              have hst := storeCells_run (P := P) (b := m0.b) (off := a'.off + n * size2) (e := et) (fr := fr') new'.toList 0 c w g2 (by simp; omega) (oneCells_one hone hn)
                (fun j h1 h2 => frz_ok hfz' g6 (by rw [← g4]; omega) j (by omega) (by simp at h2; omega))
              have hlay := lay_list new'.toList (a'.off + n * size2) 0 c (by simp; omega)
              generalize hc1 : (new'.toList.zipIdx 0).foldl (fun cs (x : Value × Nat) => cs.setIfInBounds (a'.off + n * size2 + x.2) x.1) c = c1 at hst hlay
              have hc1s : c1.size = c.size := by
                have := congrArg List.length hlay
                simp at this
                omega
              have hWb := (r.own b m0 hm).1
              have hlt := (r.own b m0 hm).2
              have hXb : W.X m0.b = none := r.off b _ m0 hg hm
              have r2 := (r.kill b).setFree (bl := m0.b) hWb hfree hXb (.cells c1 et fr')
              have hle' : σ.le (σ.at h.al ⟨m0.b, a'.off, m0.sz⟩) := Ren.le_at r.al
              have hin : RowIn σ a'.off (((rowList f rr).drop off).take (n * size2) ++ new) c1 := by
                have h1 := g5.sub off (n * size2)
                rw [show off + m0.d = a'.off by omega] at h1
                refine h1.extend hn ?_ ?_
                · rw [hlen, hlay, Nat.add_zero]
                · rw [hlen, hlnn]; exact hspace
              obtain ⟨t1, t2⟩ := r2.name (m := ⟨m0.b, a'.off, m0.sz⟩) hWb (by rw [setB_size]; exact hlt) hfree hXb (o := .row k2 f2 b2 et fr) (O := .cells c1 et fr') (setB_same w _ hlt)
                (.row (by rw [hrow]; exact hk2) (by rw [hc1s]; exact g4) (by rw [hrow]; exact hin.mono hle') (by
                  rcases g6 with q | q | q
                  · exact .inl q
                  · exfalso; rcases hfr with q1 | q1 <;> omega
                  · exact .inr (.inr q)) (by rw [hco]; exact hd))
              refine ⟨_, _, _, ha.room (some a') c' _ hroom (by show (storeCells (a'.add (n * size2)) new'.toList).run P w = _; rw [hadd]; exact hst), t1, t2, _, rfl, ?_⟩
              exact .unk (m := ⟨m0.b, a'.off, m0.sz⟩) _ _ _ rfl a1 (Ren.at_same _ _ _) hb (by simp) hsz hroom he hd
            · have hroom' : c' < n + m := by omega
              have holdr : (Builtin.firstCells size2 n (.slice (some a') n c')).run P w.drew = .ok ⟨(c.toList.drop (off + m0.d)).take (n * size2)⟩ w.drew := by
                have : (loadCells ⟨m0.b, off + m0.d, none⟩ (n * size2)).run P w.drew = .ok ⟨(c.toList.drop (off + m0.d)).take (n * size2)⟩ w.drew := by
                  refine loadCells_run (w := w.drew) g2 ?_
                  have : n * size2 ≤ c' * size2 := Nat.mul_le_mul_right _ hnc
                  omega
                rw [hae]; exact this
              obtain ⟨τ, t1, t2, t3⟩ := grow_row (z := z) (cap' := c') (r.kill b) hrow hk2 (old' := ⟨_⟩) hold hn hlen hln hsz hzs hroom' (by
                rcases hfr with q | q
                · exact .inl q
                · rcases g6 with p | p | p
                  · exact .inl p.1
                  · omega
                  · exact .inr ⟨p.1, p.2.1⟩)
              exact ⟨_, _, τ, ha.grow (some a') c' _ holdr hroom' hsm, t1, t2, _, rfl, t3⟩
        · cases e
    · cases e

end
end Go.Proofs.YtonkcdnpmemheaaGreat.Vm

namespace Go.Proofs.YtonkcdnpmemheaaGreat.Vm
section
variable {W : Frm} {P : Program} {σ : Ren} {h : VH} {w : World}

/-- the cells at an address, in every world of that heap -/
theorem withCells_sim2 {α : Type} {a : Addr} {n : Nat} {k : List Value → HM α} {x : α × VH} (r : R W P σ h w) (e : (withCells a n k).run h = some x) {a' : Addr} (ha : n = 0 ∨ ARel σ a a') :
    ∃ l l', (k l).run h = some x ∧ (∀ w2 : World, w2.heap = w.heap → (loadCells a' n).run P w2 = .ok ⟨l'⟩ w2) ∧ LR σ l l' ∧ l.length = n := by
  cases n with
  | zero => exact ⟨[], [], e, fun _ _ => rfl, .nil, rfl⟩
  | succ n =>
    have ha : ARel σ a a' := by
      rcases ha with e0 | e0
      · cases e0
      · exact e0
    obtain ⟨h1, h2, m, h3, h4, h5⟩ := ha
    obtain ⟨b, off, sp⟩ := a
    simp only at h1 h3 h5
    subst h1
    have e' : (HM.rd b (cellsK off (n + 1) k)).run h = some x := e
    obtain ⟨o, hg, e2⟩ := HM.run_rd e'
    unfold cellsK at e2
    cases o with
    | row k0 f bk ety fr =>
      simp only at e2
      obtain ⟨m', c, fr', g1, g2, g3, g4, g5, g6, g7⟩ := r.row hg
      rw [h3] at g1; cases g1
      obtain ⟨l, hl, e3⟩ := hopt_run e2
      obtain ⟨t1, t2⟩ := take?_some hl
      rw [drp_eq] at t1 t2
      have hlen : off + (n + 1) ≤ (rowList f bk).length := by simp at t1; omega
      have hb : m.d + (rowList f bk).length ≤ c.size := by
        rcases g5.bound with e0 | e0
        · rw [e0] at hlen; simp at hlen
        · exact e0
      refine ⟨l, (c.toList.drop (off + m.d)).take (n + 1), e3, ?_, ?_, ?_⟩
      · intro w2 hw2
        rw [addr_eq h2 h4 h5]
        exact loadCells_run (w := w2) (by rw [hw2]; exact g2) (by omega)
      · rw [t2, show off + m.d = m.d + off by omega]
        exact g5.piece hlen
      · rw [t2]; simp; omega
    | _ => cases e2

theorem withCells_flo {α : Type} {n : Nat} {k : List Value → HM α} {x : α × VH} (e : (withCells FLO n k).run h = some x) : n = 0 := by
  cases n with
  | zero => rfl
  | succ n => cases e

theorem firstN_sim {α : Type} {size n : Nat} {v v' : Value} {k : List Value → HM α} {x : α × VH} (r : R W P σ h w) (e : (firstN size n v k).run h = some x) (hv : VRel σ v v') :
    ∃ l l', (k l).run h = some x ∧ (∀ w2 : World, w2.heap = w.heap → (Builtin.firstCells size n v').run P w2 = .ok ⟨l'⟩ w2) ∧ LR σ l l' ∧ ((∃ a b c, v = .slice (some a) b c) → l.length = n * size) ∧ ((∃ b c, v = .slice none b c) → l = []) ∧ ((∃ s, v = .string s) → l.length = n) := by
  unfold firstN at e
  split at e
  · rename_i a0 n0 c0
    have main : ∀ (a' : Addr) (n1 c' : Nat), (n * size = 0 ∨ ARel σ a0 a') → ∃ l l', (k l).run h = some x ∧ (∀ w2 : World, w2.heap = w.heap → (Builtin.firstCells size n (.slice (some a') n1 c')).run P w2 = .ok ⟨l'⟩ w2) ∧ LR σ l l' ∧ ((∃ a b c, Value.slice (some a0) n0 c0 = .slice (some a) b c) → l.length = n * size) ∧ ((∃ b c, Value.slice (some a0) n0 c0 = .slice none b c) → l = []) ∧ ((∃ s, Value.slice (some a0) n0 c0 = .string s) → l.length = n) := by
      intro a' n1 c' ha
      obtain ⟨l, l', h1, h2, h3, h4⟩ := withCells_sim2 r e ha
      exact ⟨l, l', h1, h2, h3, fun _ => h4, (fun ⟨b, c, q⟩ => by cases q), (fun ⟨s, q⟩ => by cases q)⟩
    cases hv with
    | slc n c hc ha => exact main _ _ _ (.inr ha)
    | unk n size c' a0 a1 hm hb ho hsz hn he hd => exact main _ _ _ (.inr ⟨a0, a1, _, hm, hb, ho⟩)
    | flo a' c c' hc => exact main _ _ _ (.inl (withCells_flo e))
  · cases hv
    exact ⟨[], [], e, fun _ _ => rfl, .nil, (fun ⟨a, b, c, q⟩ => by cases q), fun _ => rfl, (fun ⟨s, q⟩ => by cases q)⟩
  · rename_i s
    rw [hv.string_inv]
    obtain ⟨l, hl, e2⟩ := hopt_run e
    obtain ⟨t1, t2⟩ := take?_some hl
    refine ⟨_, l.map fun b => .int .u8 (.ofNat b.toNat), e2, ?_, LR.same _ fun y hy => ?_, (fun ⟨a, b, c, q⟩ => by cases q), (fun ⟨b, c, q⟩ => by cases q), fun _ => by rw [List.length_map, t2, List.length_take]; exact Nat.min_eq_left t1⟩
    · intro w2 _
      simp only [Builtin.firstCells, Sem.run_pure]
      congr 1
      apply Array.ext'
      rw [t2]
      simp [ByteArray.data_extract, Array.toList_extract, List.extract]
    · obtain ⟨b, _, rfl⟩ := List.mem_map.1 hy
      exact .int _ _
  · cases e

theorem vlen_run {v v' : Value} {m : Nat} (hv : vlen v = some m) (r : VRel σ v v') : (Builtin.lenOf v').run P w = .ok m w := by
  unfold vlen at hv
  split at hv
  · cases hv
    cases r <;> rfl
  · cases hv
    rw [r.string_inv, len_eq]
    rfl
  · cases hv

theorem appTo_sim {et : TypeId} {size n m cap : Nat} {z : Value} {base : Option Addr} {new : List Value} {new' : Array Value} {x : Next × VH} {s : Value → Sem Value} {s' : Value} (r : R W P σ h w)
    (e : (appTo et size base n cap m new).run h = some x) (hs : VRel σ (.slice base n cap) s') (hn : LR σ new new'.toList) (hln : new.length = m * size) (hco : P.cellsOf et = size) (hsz : 0 < size) (hzs : z.cells.size = size)
    (ha : App P w et size n m z new' s) : MSim W P σ VN w x (s s') := by
  unfold appTo at e
  split at e
  · cases e
  · rename_i hsm
    have hsm : n + m ≤ 1048576 := Nat.le_of_ble_eq_true hsm
    split at e
    · rename_i hU
      have hU := Nat.le_of_ble_eq_true hU
      split at e
      · -- nothing is appended
        rename_i a
        have hnil : new = [] := by
          have : new.length = 0 := by rw [hln]; simp
          exact List.eq_nil_of_length_eq_zero this
        subst hnil
        have hnew : new'.toList = [] := List.eq_nil_of_length_eq_zero (by rw [← hn.length]; rfl)
        cases hs with
        | slc _ _ hc' _ => exact absurd hc' (by omega)
        | unk _ size2 c' a0 a1 hm hb ho hs2 hnc he hd =>
          refine MSim.here r e (ha.room _ c' w (by omega) ?_) (.unk _ _ _ a0 a1 hm hb ho hs2 (by omega) he hd)
          simp only [hnew]
          rfl
        | flo a' _ c' hc =>
          refine MSim.here r e (ha.room _ c' w (by omega) ?_) (.flo _ _ _ hc)
          simp only [hnew]
          rfl
      · rename_i b off
        split at e
        · rename_i hcap
          have hcap : cap = UNK + size := Nat.eq_of_beq_eq_true hcap
          subst hcap
          obtain ⟨o, hg, e1⟩ := HM.run_rd e
          exact appUnk_sim r hg e1 hs hn hln hco hzs ha hsm
        · cases e
      · cases e
    · rename_i hU
      split at e
      · rename_i hroom
        have hroom : n + m ≤ cap := Nat.le_of_ble_eq_true hroom
        split at e
        · rename_i a
          have hcap : cap < UNK := by
            rcases Nat.lt_or_ge cap UNK with g | g
            · exact g
            · have : Nat.ble UNK cap = true := Nat.ble_eq_true_of_le g
              rw [this] at hU; cases hU
          cases hs with
          | slc _ _ hc hr =>
            obtain ⟨h1, w1, e1, r1, hst⟩ := wrCells_sim r e hn (.inr (hr.add (n * size)))
            cases e1
            exact ⟨_, w1, σ, ha.room _ cap w1 hroom hst, Ren.le_refl σ, r1, _, rfl, .slc _ _ hc hr⟩
          | unk _ size2 c' a0 a1 hm hb ho hs2 hnc he hd => omega
          | flo a' _ c' hc => omega
        · cases hs
          split at e
          · exact MSim.here r e (ha.room _ _ w hroom rfl) .nils
          · cases e
      · rename_i hroom
        have hroom : cap < n + m := by
          rcases Nat.lt_or_ge cap (n + m) with g | g
          · exact g
          · have : Nat.ble (n + m) cap = true := Nat.ble_eq_true_of_le g
            exact absurd this (by rw [show Nat.ble (n + m) cap = Nat.ble (Nat.add n m) cap from rfl, hroom]; simp)
        have hcap : cap < UNK := by
          rcases Nat.lt_or_ge cap UNK with g | g
          · exact g
          · have : Nat.ble UNK cap = true := Nat.ble_eq_true_of_le g
            rw [this] at hU; cases hU
        obtain ⟨old, old', e1, hf, hold, l1, l2, _⟩ := firstN_sim r e hs
        have hs2 : ∃ b', s' = .slice b' n cap := by
          cases hs with
          | nils => exact ⟨_, rfl⟩
          | slc => exact ⟨_, rfl⟩
          | unk _ size2 c' a0 a1 hm hb ho hs2 hnc he hd => omega
          | flo a' _ c' hc => omega
        obtain ⟨b', rfl⟩ := hs2
        have hlo : old.length = n * size := by
          cases base with
          | none => cases hs; rw [l2 ⟨_, _, rfl⟩]; simp
          | some a => exact l1 ⟨_, _, _, rfl⟩
        have e1' : (HM.nw (.row (len (app old new)) (app old new) [] et (0, 0)) fun x => unkTo size x (n + m)).run h = some x := e1
        rw [HM.run_nw] at e1'
        cases e1'
        obtain ⟨τ, t1, t2, t3⟩ := grow_row (z := z) (cap' := cap) (k := len (app old new)) (f := app old new) (b := []) (fr := (0, 0)) (e := et) r (by rw [rowList_nil, app_eq]) (by rw [len_eq, app_eq]) (old' := ⟨old'⟩) hold hn hlo hln hsz hzs hroom (.inl rfl)
        exact ⟨_, _, τ, ha.grow b' cap _ (hf w.drew rfl) hroom hsm, t1, t2, _, rfl, t3⟩

end
end Go.Proofs.YtonkcdnpmemheaaGreat.Vm

namespace Go.Proofs.YtonkcdnpmemheaaGreat.Vm
section
variable {W : Frm} {P : Program} {σ : Ren} {h : VH} {w : World}

theorem sizeT_of_info {t : TypeId} {i : TypeInfo} (h : P.info? t = some i) : P.cellsOf t = i.size := by simp [Program.cellsOf, h]

theorem zeroCells_LR {z : Value} {zl : List Value} (hz : z.cells.toList = zl) (hzz : LR σ zl zl) (m : Nat) : LR σ (rep m zl []) (Builtin.zeroCells z.cells m).toList := by
  unfold Builtin.zeroCells
  rw [range_rep z.cells _ m rfl, rep_eq, List.append_nil, hz]
  exact hzz.rep m

theorem vappend_sim {ts : List TypeId} {args args' : List Value} {ty : TypeId} {x : Next × VH} (r : R W P σ h w) (e : (vappend P ts args).run h = some x) (ha : LR σ args args') : MSim W P σ VN w x (Builtin.append_ ⟨ts⟩ ty ⟨args'⟩) := by
  unfold vappend at e
  split at e
  · rename_i base n cap y
    split at e
    · rename_i t t2
      cases ha with
      | cons hs ht =>
        cases ht with
        | cons hy hnil =>
          cases hnil
          rename_i s' y'
          obtain ⟨⟨et, size, z⟩, he, e1⟩ := hopt_run e
          obtain ⟨i, zv, ht, hi, hsz, h0, hb, hz, hzl, hlen, hzt, hzz⟩ := elemT_some he
          have hzs : zv.cells.size = size := by rw [← hlen, ← hzl]; simp
          have hco : P.cellsOf et = size := by rw [sizeT_of_info hi, hsz]
          simp only at e1
          split at e1
          · -- zeros
            rename_i k h2
            have h2 := tyUnd_some h2
            unfold appZero at e1
            split at e1
            · rename_i kx m
              rw [hy.int_inv]
              split at e1
              · rename_i hm
                have hm := Nat.le_of_ble_eq_true hm
                refine appTo_sim (new' := Builtin.zeroCells zv.cells m) (s := fun s => Builtin.append_ #[t, t2] ty #[s, .int kx (Int.ofNat m)]) r e1 hs (zeroCells_LR hzl (hzz σ) m) ?_ hco h0 hzs ⟨?_, ?_⟩
                · rw [rep_eq]; simp [List.length_flatten, hlen]
                · intro base' cap' w1 hroom hst
                  exact append_room_zeros ht hi hz h2 hm hb (by omega) hroom (by rw [hsz]; exact hst)
                · intro base' cap' old ho hroom hsm
                  exact append_grow_zeros ht hi hz h2 (by omega) (by rw [hsz]; exact ho) hroom hsm hb
              · cases e1
            · cases e1
          · rename_i d h2 hd
            have hd2 := tyUnd_some hd
            unfold appOf at e1
            split at e1
            · rename_i hss
              obtain ⟨m, hm, e2⟩ := hopt_run e1
              obtain ⟨new, new', e3, hf, hn, l1, l2, l3⟩ := firstN_sim r e2 hy
              refine appTo_sim (z := zv) (new' := ⟨new'⟩) (s := fun s => Builtin.append_ #[t, t2] ty #[s, y']) r e3 hs hn ?_ hco h0 hzs ⟨?_, ?_⟩
              · unfold vlen at hm
                split at hm
                · rename_i a0 n0 c0
                  cases a0 with
                  | some a0 => exact l1 ⟨_, _, _, rfl⟩
                  | none =>
                    cases hy
                    cases hm
                    rw [l2 ⟨_, _, rfl⟩]; simp
                · rename_i s0
                  have : size = 1 := Nat.eq_of_beq_eq_true hss
                  rw [l3 ⟨_, rfl⟩, this, Nat.mul_one]
                · cases hm
              · intro base' cap' w1 hroom hst
                exact append_room ht hi hd2 (fun k q => h2 k (by rw [q])) (vlen_run hm hy) (by rw [hsz]; exact hf w rfl) hroom (by rw [hsz]; exact hst)
              · intro base' cap' old ho hroom hsm
                exact append_grow ht hi hz hd2 (fun k q => h2 k (by rw [q])) (vlen_run hm hy) (by rw [hsz]; exact hf w.drew rfl) (by rw [hsz]; exact ho) hroom hsm hb
            · cases e1
          · cases e1
    · cases e
  · cases e

end
end Go.Proofs.YtonkcdnpmemheaaGreat.Vm

namespace Go.Proofs.YtonkcdnpmemheaaGreat.Vm
section
variable {W : Frm} {P : Program} {σ : Ren} {h : VH} {w : World}

theorem vlenOp_sim {ts : List TypeId} {args args' : List Value} {ty : TypeId} {x : Next × VH} (r : R W P σ h w) (e : (vlenOp P ts args).run h = some x) (ha : LR σ args args') : MSim W P σ VN w x (Builtin.len_ ⟨ts⟩ ty ⟨args'⟩) := by
  unfold vlenOp at e
  split at e
  · rename_i y
    cases ha with
    | cons hy hnil =>
      cases hnil
      rename_i y'
      split at e
      · rename_i t ts'
        split at e
        · rename_i a n c
          split at e
          · rename_i et ht
            have ht := tyUnd_some ht
            have main : ∀ a' c', MSim W P σ VN w x (Builtin.len_ ⟨t :: ts'⟩ ty ⟨[.slice a' n c']⟩) := fun a' c' =>
              MSim.here r e (v' := .int .i64 (Int.ofNat n)) (by simp [Builtin.len_, run_underlying w ht, goInt]) (.int _ _)
            cases hy <;> exact main _ _
          · cases e
        · rename_i s
          split at e
          · rename_i ht
            have ht := tyUnd_some ht
            rw [hy.string_inv]
            refine MSim.here r e (v' := .int .i64 (Int.ofNat s.size)) (by simp [Builtin.len_, run_underlying w ht, goInt]) ?_
            rw [len_eq]
            exact .int _ _
          · cases e
        · split at e
          · rename_i k el ht
            have ht := tyUnd_some ht
            cases hy
            exact MSim.here r e (v' := .int .i64 0) (by simp [Builtin.len_, run_underlying w ht, goInt]) (.int _ _)
          · cases e
        · rename_i rr
          split at e
          · rename_i k el ht
            have ht := tyUnd_some ht
            obtain ⟨o, hg, e1⟩ := HM.run_rd e
            obtain ⟨es, c, rfl, e2⟩ := asMap_run e1
            cases hy with
            | map hm =>
              obtain ⟨m, es', g1, g2, g3⟩ := r.map hg
              rw [hm] at g1; cases g1
              have hgo := run_getObj (P := P) g2 (by intro c e f h; cases h)
              refine MSim.here r e2 (v' := .int .i64 (Int.ofNat es'.size)) (by simp [Builtin.len_, run_underlying w ht, goInt, hgo]) ?_
              rw [len_eq, g3.length]
              simp only [Array.length_toList]
              exact .int _ _
          · cases e
        · cases e
      · cases e
  · cases e

theorem vcap_sim {ts : List TypeId} {args args' : List Value} {ty : TypeId} {x : Next × VH} (r : R W P σ h w) (e : (vcap P ts args).run h = some x) (ha : LR σ args args') : MSim W P σ VN w x (Builtin.cap_ ⟨ts⟩ ty ⟨args'⟩) := by
  unfold vcap at e
  split at e
  · rename_i a n c
    cases ha with
    | cons hy hnil =>
      cases hnil
      rename_i y'
      split at e
      · rename_i t ts'
        split at e
        · rename_i et ht hc
          have ht := tyUnd_some ht
          rw [Nat.blt_eq] at hc
          have main : ∀ a', MSim W P σ VN w x (Builtin.cap_ ⟨t :: ts'⟩ ty ⟨[.slice a' n c]⟩) := fun a' =>
            MSim.here r e (v' := .int .i64 (Int.ofNat c)) (by simp [Builtin.cap_, run_underlying w ht, goInt]) (.int _ _)
          cases hy with
          | nils => exact main _
          | slc => exact main _
          | unk _ size2 c' a0 a1 hm hb ho hs2 hnc he hd => omega
          | flo a' _ c' hc' => omega
        · cases e
      · cases e
  · cases e

theorem run_storeCells_nil (a : Addr) (w : World) : (storeCells a []).run P w = .ok () w := rfl

theorem copyTo_sim {base : Option Addr} {n cap k : Nat} {l l' : List Value} {s' : Value} {x : Next × VH} (r : R W P σ h w) (e : (copyTo base k l).run h = some x) (hs : VRel σ (.slice base n cap) s') (hl : LR σ l l') :
    ∃ b' c', s' = .slice b' n c' ∧ MSim W P σ VN w x (do
      if let some a := b' then storeCells a l'
      pure (goInt k)) := by
  unfold copyTo at e
  split at e
  · rename_i a
    have main : ∀ a' : Addr, (l = [] ∨ ARel σ a a') → MSim W P σ VN w x (do
        storeCells a' l'
        pure (goInt k)) := by
      intro a' ha
      obtain ⟨h1, w1, e1, r1, hst⟩ := wrCells_sim r e hl ha
      cases e1
      exact ⟨.int .i64 (Int.ofNat k), w1, σ, by simp [hst, goInt], Ren.le_refl σ, r1, _, rfl, .int _ _⟩
    cases hs with
    | slc _ _ hc hr => exact ⟨_, _, rfl, main _ (.inr hr)⟩
    | unk _ size2 c' a0 a1 hm hb ho hs2 hnc he hd => exact ⟨_, _, rfl, main _ (.inr ⟨a0, a1, _, hm, hb, ho⟩)⟩
    | flo a' _ c' hc =>
      refine ⟨_, _, rfl, main _ ?_⟩
      cases hl with
      | nil => exact .inl rfl
      | cons _ _ => cases e
  · cases hs
    exact ⟨_, _, rfl, MSim.here r e (v' := .int .i64 (Int.ofNat k)) (by simp [goInt]) (.int _ _)⟩

theorem vcopy_sim {ts : List TypeId} {args args' : List Value} {ty : TypeId} {x : Next × VH} (r : R W P σ h w) (e : (vcopy P ts args).run h = some x) (ha : LR σ args args') : MSim W P σ VN w x (Builtin.copy_ ⟨ts⟩ ty ⟨args'⟩) := by
  unfold vcopy at e
  split at e
  · rename_i base d cap src
    cases ha with
    | cons hs ht =>
      cases ht with
      | cons hy hnil =>
        cases hnil
        rename_i s' y'
        split at e
        · rename_i t ts'
          obtain ⟨⟨et, size, z⟩, he, e1⟩ := hopt_run e
          obtain ⟨i, zv, ht, hi, hsz, h0, hb, hz, hzl, hlen, hzt, hzz⟩ := elemT_some he
          simp only at e1
          obtain ⟨m, hm, e2⟩ := hopt_run e1
          have hlo := vlen_run (P := P) (w := w) hm hy
          have main : ∀ k, k = Nat.min m d → (firstN size k src (copyTo base k)).run h = some x → MSim W P σ VN w x (Builtin.copy_ ⟨t :: ts'⟩ ty ⟨[s', y']⟩) := by
            intro k hk e3
            obtain ⟨l, l', e4, hf, hl, _⟩ := firstN_sim r e3 hy
            obtain ⟨b', c', rfl, y, w', τ, q1, q2⟩ := copyTo_sim r e4 hs hl
            refine ⟨y, w', τ, ?_, q2⟩
            rw [← q1]
            have hf := hf w rfl
            rw [hk, ← hsz] at hf
            simp only [Builtin.copy_]
            simp [run_underlying w ht, hlo, run_sizeOf w hi, hf, hk]
            cases b' <;> simp
          split at e2
          · rename_i hmd
            have hmd := Nat.le_of_ble_eq_true hmd
            exact main m (by simp [Nat.min_def, hmd]) e2
          · rename_i hmd
            have hmd : d ≤ m := by
              rcases Nat.le_total m d with g | g
              · rw [Nat.ble_eq_true_of_le g] at hmd; cases hmd
              · exact g
            exact main d (by rw [show Nat.min m d = min m d from rfl, Nat.min_eq_right hmd]) e2
        · cases e
  · cases e

end
end Go.Proofs.YtonkcdnpmemheaaGreat.Vm

namespace Go.Proofs.YtonkcdnpmemheaaGreat.Vm
section
variable {W : Frm} {P : Program} {σ : Ren} {h : VH} {w : World}

theorem vclear_sim {ts : List TypeId} {args args' : List Value} {ty : TypeId} {x : Next × VH} (r : R W P σ h w) (e : (vclear P ts args).run h = some x) (ha : LR σ args args') : MSim W P σ VN w x (Builtin.clear_ ⟨ts⟩ ty ⟨args'⟩) := by
  unfold vclear at e
  split at e
  · rename_i base n cap
    cases ha with
    | cons hs hnil =>
      cases hnil
      rename_i s'
      split at e
      · rename_i t ts'
        obtain ⟨⟨et, size, z⟩, he, e1⟩ := hopt_run e
        obtain ⟨i, zv, ht, hi, hsz, h0, hb, hz, hzl, hlen, hzt, hzz⟩ := elemT_some he
        simp only at e1
        have htup : VRel σ (.tuple #[]) (.tuple #[]) := LR.nil.tuple
        split at e1
        · -- of no length
          have main : ∀ a' c', MSim W P σ VN w x (Builtin.clear_ ⟨t :: ts'⟩ ty ⟨[.slice a' 0 c']⟩) := fun a' c' =>
            MSim.here r e1 (v' := .tuple #[]) (by cases a' <;> simp [Builtin.clear_, run_underlying w ht]) htup
          cases hs <;> exact main _ _
        · cases hs
          exact MSim.here r e1 (v' := .tuple #[]) (by simp [Builtin.clear_, run_underlying w ht]) htup
        · rename_i n0 a hn0
          have main : ∀ (a' : Addr) (c' : Nat), ARel σ a a' → MSim W P σ VN w x (Builtin.clear_ ⟨t :: ts'⟩ ty ⟨[.slice (some a') n c']⟩) := by
            intro a' c' hr
            obtain ⟨h1, w1, e2, r1, hst⟩ := wrCells_sim r e1 (zeroCells_LR hzl (hzz σ) n) (.inr hr)
            cases e2
            refine ⟨.tuple #[], w1, σ, ?_, Ren.le_refl σ, r1, _, rfl, htup⟩
            have hn : n ≠ 0 := fun q => hn0 q
            cases n with
            | zero => exact absurd rfl hn
            | succ n => simp [Builtin.clear_, run_underlying w ht, run_zeroValue w hzt, hst]
          cases hs with
          | slc _ _ hc hr => exact main _ _ hr
          | unk _ size2 c' a0 a1 hm hb ho hs2 hnc he hd => exact main _ _ ⟨a0, a1, _, hm, hb, ho⟩
          | flo a' _ c' hc => exact absurd rfl hn0
      · cases e
  · cases e

theorem vsliceData_sim {ts : List TypeId} {args args' : List Value} {ty : TypeId} {x : Next × VH} (r : R W P σ h w) (e : (vsliceData args).run h = some x) (ha : LR σ args args') : MSim W P σ VN w x (Builtin.unsafeSliceData_ ⟨ts⟩ ty ⟨args'⟩) := by
  unfold vsliceData at e
  split at e
  · cases ha with
    | cons hs hnil =>
      cases hnil
      cases hs
      exact MSim.here r e (v' := .pointer none) rfl .nilp
  · rename_i b off n cap
    cases ha with
    | cons hs hnil =>
      cases hnil
      split at e
      · cases e
      · rename_i hne
        have main : ∀ (a' : Addr) (c' : Nat), c' ≠ 0 → ARel σ ⟨b, off, none⟩ a' → MSim W P σ VN w x (Builtin.unsafeSliceData_ ⟨ts⟩ ty ⟨[.slice (some a') n c']⟩) := by
          intro a' c' hc hr
          exact MSim.here r e (v' := .pointer (some a')) (Lib.run_unsafeSliceData_row _ _ _ _ _ _ hc) (.ptr hr)
        cases hs with
        | slc _ _ hc hr =>
          refine main _ _ (fun q => hne ?_) hr
          have : Nat.ble UNK cap = false := by
            cases g : Nat.ble UNK cap with
            | false => rfl
            | true => have := Nat.le_of_ble_eq_true g; omega
          rw [this]; exact q
        | unk _ size2 c' a0 a1 hm hb ho hs2 hnc he hd =>
          refine main _ _ (fun q => hne ?_) ⟨a0, a1, _, hm, hb, ho⟩
          have : Nat.ble UNK (UNK + size2) = true := Nat.ble_eq_true_of_le (Nat.le_add_right _ _)
          rw [this]
          show n = 0
          omega
  · cases e

end
end Go.Proofs.YtonkcdnpmemheaaGreat.Vm

namespace Go.Proofs.YtonkcdnpmemheaaGreat.Vm
section
variable {W : Frm} {P : Program} {σ : Ren} {h : VH} {w : World}

theorem minmax_run (mx : Bool) : ∀ (l l' : List Value) (x v : Value), vminmax mx x l = some v → LR σ l l' →
    (l'.foldlM (if mx then Builtin.max2 else Builtin.min2) x).run P w = .ok v w ∧ ∃ k n, v = .int k n ∧ ∃ k2 n2, x = .int k2 n2 := by
  intro l
  induction l with
  | nil =>
    intro l' x v h r
    cases r
    unfold vminmax at h
    split at h
    · cases h; exact ⟨rfl, _, _, rfl, _, _, rfl⟩
    · rename_i heq; cases heq
    · cases h
  | cons y l ih =>
    intro l' x v h r
    cases r with
    | cons hy ht =>
      rename_i yy mm
      unfold vminmax at h
      split at h
      · rename_i heq; cases heq
      · rename_i k a j b l0 heq
        cases heq
        split at h
        · rename_i hk
          have := keq_eq hk
          subst this
          rw [hy.int_inv]
          have hlt := ltF_eq a b
          have fin : ∀ (z : Value), (∀ w : World, ((if mx then Builtin.max2 else Builtin.min2) (.int k a) (.int k b)).run P w = .ok z w) → vminmax mx z l = some v → (List.foldlM (if mx then Builtin.max2 else Builtin.min2) (Value.int k a) (Value.int k b :: mm)).run P w = .ok v w ∧ ∃ k_1 n, v = .int k_1 n ∧ ∃ k2 n2, Value.int k a = .int k2 n2 := by
            intro z hz hv
            obtain ⟨h1, h2, n2, h3, _⟩ := ih _ _ _ hv ht
            refine ⟨?_, _, _, h3, _, _, rfl⟩
            rw [List.foldlM_cons, Sem.run_bind, hz, Result.andThen_ok]
            exact h1
          by_cases hab : a < b
          · have hl : ltF a b = true := by rw [hlt]; simpa using hab
            rw [hl] at h
            cases mx with
            | true => exact fin _ (fun w => by simp [Builtin.max2, hab]) h
            | false => exact fin _ (fun w => by
                have : ¬ b < a := by omega
                simp [Builtin.min2, this]) h
          · have hl : ltF a b = false := by rw [hlt]; simpa using hab
            rw [hl] at h
            cases mx with
            | true => exact fin _ (fun w => by simp [Builtin.max2, hab]) h
            | false =>
              by_cases hba : b < a
              · exact fin _ (fun w => by simp [Builtin.min2, hba]) h
              · have : a = b := by omega
                subst this
                exact fin _ (fun w => by simp [Builtin.min2]) h
        · cases h
      · cases h

end
end Go.Proofs.YtonkcdnpmemheaaGreat.Vm

namespace Go.Proofs.YtonkcdnpmemheaaGreat.Vm
section
variable {W : Frm} {P : Program} {σ : Ren} {h : VH} {w : World}

theorem iterTo_sim {o : VObj} {O : Obj} {x : Next × VH} (r : R W P σ h w) (e : (iterTo o).run h = some x) (ho : ∀ τ, σ.le τ → ORel P τ ⟨w.heap.size, 0, 0⟩ o O) : ∃ τ, σ.le τ ∧ R W P τ x.2 (w.alloc O) ∧ VN τ x.1 (.pointer (some ⟨w.heap.size, 0, none⟩)) := by
  have e' : (HM.ret (Next.value (.pointer (some ⟨h.al, 0, none⟩)))).run (h.new o) = some x := e
  cases e'
  have hle : σ.le (σ.at h.al ⟨w.heap.size, 0, 0⟩) := Ren.le_at r.al
  obtain ⟨h1, h2⟩ := r.new (m := ⟨w.heap.size, 0, 0⟩) rfl (ho _ hle)
  exact ⟨_, h1, h2, _, rfl, .ptr (ARel.new (Ren.at_same _ _ _))⟩

theorem vrangeOp_sim {t : TypeId} {v v' : Value} {x : Next × VH} (r : R W P σ h w) (e : (vrangeOp P t v).run h = some x) (hv : VRel σ v v') : MSim W P σ VN w x (Instr.range t v') := by
  unfold vrangeOp at e
  split at e
  · rename_i s
    split at e
    · rename_i ht
      have ht := tyUnd_some ht
      rw [hv.string_inv]
      obtain ⟨τ, h1, h2, h3⟩ := iterTo_sim r e (O := .stringIter s 0) (fun τ _ => .siter s 0 rfl)
      exact ⟨_, _, τ, by simp [Instr.range, run_underlying w ht], h1, h2, h3⟩
    · cases e
  · split at e
    · rename_i k el ht
      have ht := tyUnd_some ht
      cases hv
      obtain ⟨τ, h1, h2, h3⟩ := iterTo_sim r e (O := .mapIter none 0 #[] 0) (fun τ _ => .none _ _ _ _ _ rfl)
      exact ⟨_, _, τ, by simp [Instr.range, run_underlying w ht], h1, h2, h3⟩
    · cases e
  · rename_i rr
    split at e
    · rename_i k el ht
      have ht := tyUnd_some ht
      obtain ⟨o, hg, e1⟩ := HM.run_rd e
      obtain ⟨es, c, rfl, e2⟩ := asMap_run e1
      cases hv with
      | map hm =>
        rename_i mm
        obtain ⟨m, es', g1, g2, g3⟩ := r.map hg
        rw [hm] at g1; cases g1
        have hgo := run_getObj (P := P) g2 (by intro c e f h; cases h)
        obtain ⟨τ, h1, h2, h3⟩ := iterTo_sim r e2 (O := .mapIter (some mm.b) c #[] c) (fun τ hle => .miter (hle _ _ hm) (fun s hs => by cases hs) rfl)
        exact ⟨_, _, τ, by simp [Instr.range, run_underlying w ht, hgo], h1, h2, h3⟩
    · cases e
  · cases e

theorem R.siter (r : R W P σ h w) {n : Nat} {s : ByteArray} {pos : Nat} (hg : h.get n = some (.siter s pos)) : ∃ m, σ n = some m ∧ w.heap[m.b]? = some (.stringIter s pos) ∧ m.d = 0 := by
  obtain ⟨m, O, h1, h2, h3⟩ := r.obj n _ hg
  cases h3 with
  | siter _ _ hd => exact ⟨m, h1, h2, hd⟩

theorem nextStr_sim {rr : Nat} {s : ByteArray} {pos : Nat} {a' : Addr} {ty : TypeId} {x : Next × VH} (r : R W P σ h w) (hg : h.get rr = some (.siter s pos)) (e : (nextStr rr s pos).run h = some x) (ha : ARel σ ⟨rr, 0, none⟩ a') :
    MSim W P σ VN w x (Instr.next (.pointer (some a')) true ty) := by
  obtain ⟨m, g1, g2, g3⟩ := r.siter hg
  obtain ⟨a0, a1, m', a2, a3, a4⟩ := ha
  simp only at a2 a4
  rw [g1] at a2; cases a2
  have hae := addr_eq a1 a3 (show a'.off = 0 by omega)
  subst hae
  have hgo := run_getObj (P := P) g2 (by intro c e f h; cases h)
  unfold nextStr at e
  split at e
  · rename_i hlt
    rw [Nat.blt_eq, len_eq] at hlt
    have hlt : pos < s.size := hlt
    cases hdec : Utf8.decode s pos with
    | mk c wd =>
      rw [hdec] at e
      obtain ⟨o0, _, e1⟩ := HM.run_wr (show (HM.wr rr (.siter s (pos + wd)) (.ret (Next.value (.tuple #[.bool true, .int .i64 (.ofNat pos), .int .i32 (.ofNat c)])))).run h = some x from e)
      cases e1
      have hso := run_setObj (P := P) (.stringIter s (pos + wd)) g2 (by intro c e f h; cases h)
      refine ⟨.tuple #[.bool true, goInt pos, .int .i32 c], _, σ, ?_, Ren.le_refl σ, r.upd g1 hg (.siter s _ g3), _, rfl, ?_⟩
      · simp [Instr.next, hgo, hlt, hdec, hso]
      · exact LR.tuple (.cons (.bool _) (.cons (.int _ _) (.one (.int _ _))))
  · rename_i hlt
    have hlt : ¬ pos < s.size := by
      intro q
      have : Nat.blt pos (len s.data.toList) = true := by rw [Nat.blt_eq, len_eq]; exact q
      rw [this] at hlt; cases hlt
    exact MSim.here r e (v' := .tuple #[.bool false]) (by simp [Instr.next, hgo, hlt]) (LR.tuple (.one (.bool _)))

end
end Go.Proofs.YtonkcdnpmemheaaGreat.Vm

namespace Go.Proofs.YtonkcdnpmemheaaGreat.Vm
section
variable {W : Frm} {P : Program} {σ : Ren} {h : VH} {w : World}

theorem memNat_eq (n : Nat) (l : List Nat) : memNat n l = l.contains n := by
  induction l with
  | nil => rfl
  | cons x l ih =>
    unfold memNat
    rw [ih, List.contains_cons]
    cases g : Nat.beq x n with
    | true =>
      have := Nat.eq_of_beq_eq_true g
      subst this
      simp
    | false =>
      have : (n == x) = false := by
        rw [beq_eq_false_iff_ne]
        intro q
        subst q
        rw [show Nat.beq n n = true by rw [Nat.beq_eq]] at g
        cases g
      rw [this, Bool.false_or]

theorem vleft_ER (seen : List Nat) {es es' : List MapEntry} (r : ER σ es es') : ER σ (vleft seen es) (es'.filter fun e => !(⟨seen⟩ : Array Nat).contains e.born) := by
  induction r with
  | nil => exact .nil
  | cons a _ ih =>
    rename_i x y l l' _
    unfold vleft
    rw [List.filter_cons]
    have hb : x.born = y.born := a.2.2
    rw [memNat_eq, hb]
    have : (⟨seen⟩ : Array Nat).contains y.born = seen.contains y.born := by simp
    rw [this]
    cases seen.contains y.born with
    | true => simpa using ih
    | false => simpa using ER.cons a ih

theorem R.miter (r : R W P σ h w) {n k since : Nat} {seen : List Nat} (hg : h.get n = some (.miter (some k) since seen)) :
    ∃ m m', σ n = some m ∧ σ k = some m' ∧ w.heap[m.b]? = some (.mapIter (some m'.b) since ⟨seen⟩ since) ∧ (∀ s, s ∈ seen → s < since) ∧ m.d = 0 := by
  obtain ⟨m, O, h1, h2, h3⟩ := r.obj n _ hg
  cases h3 with
  | miter h4 hs hd => exact ⟨m, _, h1, h4, h2, hs, hd⟩

theorem vleft_nil {seen : List Nat} {es : List MapEntry} (hv : vleft seen es = []) : ∀ e, e ∈ es → e.born ∈ seen := by
  induction es with
  | nil => intro e he; cases he
  | cons x l ih =>
    unfold vleft at hv
    rw [memNat_eq] at hv
    cases hc : seen.contains x.born with
    | false => rw [hc] at hv; cases hv
    | true =>
      rw [hc] at hv
      intro e he
      rcases List.mem_cons.1 he with q | q
      · subst q; simpa using hc
      · exact ih hv e q

theorem vleft_sub {seen : List Nat} {es : List MapEntry} : ∀ e, e ∈ vleft seen es → e ∈ es := by
  induction es with
  | nil => intro e he; cases he
  | cons x l ih =>
    intro e he
    unfold vleft at he
    cases hc : memNat x.born seen with
    | true => rw [hc] at he; exact List.mem_cons_of_mem _ (ih e he)
    | false =>
      rw [hc] at he
      rcases List.mem_cons.1 he with q | q
      · rw [q]; exact List.mem_cons_self ..
      · exact List.mem_cons_of_mem _ (ih e q)

theorem ER.mem {l l' : List MapEntry} (r : ER σ l l') : ∀ y, y ∈ l' → ∃ x, x ∈ l ∧ EntR σ x y := by
  induction r with
  | nil => intro y hy; cases hy
  | cons a _ ih =>
    intro y hy
    rcases List.mem_cons.1 hy with q | q
    · subst q; exact ⟨_, List.mem_cons_self .., a⟩
    · obtain ⟨x, h1, h2⟩ := ih y q; exact ⟨x, List.mem_cons_of_mem _ h1, h2⟩
theorem ER.mem' {l l' : List MapEntry} (r : ER σ l l') : ∀ x, x ∈ l → ∃ y, y ∈ l' ∧ EntR σ x y := by
  induction r with
  | nil => intro y hy; cases hy
  | cons a _ ih =>
    intro y hy
    rcases List.mem_cons.1 hy with q | q
    · subst q; exact ⟨_, List.mem_cons_self .., a⟩
    · obtain ⟨x, h1, h2⟩ := ih y q; exact ⟨x, List.mem_cons_of_mem _ h1, h2⟩

theorem nextMap_sim {rr mr since c : Nat} {seen : List Nat} {es : List MapEntry} {a' : Addr} {ty : TypeId} {x : Next × VH} (r : R W P σ h w) (hg : h.get rr = some (.miter (some mr) since seen)) (hgm : h.get mr = some (.map es c))
    (e : (nextMap rr mr since seen es c).run h = some x) (ha : ARel σ ⟨rr, 0, none⟩ a') : MSim W P σ VN w x (Instr.next (.pointer (some a')) false ty) := by
  obtain ⟨m, m', g1, g2, g3, g4, g5⟩ := r.miter hg
  obtain ⟨mm, es', k1, k2, k3⟩ := r.map hgm
  rw [g2] at k1; cases k1
  obtain ⟨a0, a1, m1, a2, a3, a4⟩ := ha
  simp only at a2 a4
  rw [g1] at a2; cases a2
  have hae := addr_eq a1 a3 (show a'.off = 0 by omega)
  subst hae
  have hgo := run_getObj (P := P) g3 (by intro c e f h; cases h)
  have hgm' := run_getObj (P := P) k2 (by intro c e f h; cases h)
  unfold nextMap at e
  split at e
  · rename_i hcs
    have hcs := Nat.eq_of_beq_eq_true hcs
    subst hcs
    have hleft := vleft_ER (σ := σ) seen k3
    have hL : (es'.filter fun e => !(⟨seen⟩ : Array Nat).contains e.born).toList = es'.toList.filter fun e => !(⟨seen⟩ : Array Nat).contains e.born := by simp
    rw [← hL] at hleft
    generalize hLL : (es'.filter fun e => !(⟨seen⟩ : Array Nat).contains e.born) = L at hleft
    split at e
    · rename_i hv
      rw [hv] at hleft
      have hLn : L = #[] := by
        apply Array.ext'
        exact List.eq_nil_of_length_eq_zero (by rw [← hleft.length]; rfl)
      have hall : (!(⟨seen⟩ : Array Nat).isEmpty && !es'.isEmpty && es'.all (fun e => decide (e.born ≥ c))) = false := by
        cases hemp : es'.isEmpty with
        | true => simp
        | false =>
          have hne : es'.toList ≠ [] := by
            intro q
            have : es' = #[] := by apply Array.ext'; simpa using q
            rw [this] at hemp; cases hemp
          obtain ⟨y, hy⟩ := List.exists_mem_of_ne_nil _ hne
          obtain ⟨x0, hx0, hr⟩ := k3.mem y hy
          have h1 := g4 _ (vleft_nil hv x0 hx0)
          rw [hr.2.2] at h1
          have : es'.all (fun e => decide (e.born ≥ c)) = false := by
            rw [Array.all_eq_false']
            exact ⟨y, by simpa using hy, by simp; omega⟩
          rw [this]; simp
      refine MSim.here r e (v' := .tuple #[.bool false]) ?_ (LR.tuple (.one (.bool _)))
      simp only [Instr.next, Sem.run_bind, hgo, Result.andThen_ok, hgm']
      rw [hall, hLL, hLn]
      simp [Question.forced]
    · rename_i e0 hv
      rw [hv] at hleft
      split at e
      · rename_i hb
        rw [Nat.blt_eq] at hb
        obtain ⟨y, hLn, hr⟩ : ∃ y, L = #[y] ∧ EntR σ e0 y := by
          obtain ⟨l⟩ := L
          cases hleft with
          | cons hr ht => cases ht; exact ⟨_, rfl, hr⟩
        have hyb : y.born < c := by rw [← hr.2.2]; exact hb
        have hmem : e0 ∈ es := vleft_sub e0 (by rw [hv]; exact List.mem_cons_self ..)
        have hall : (!(⟨seen⟩ : Array Nat).isEmpty && !es'.isEmpty && es'.all (fun e => decide (e.born ≥ c))) = false := by
          obtain ⟨y', hy', hr'⟩ := k3.mem' e0 hmem
          have : es'.all (fun e => decide (e.born ≥ c)) = false := by
            rw [Array.all_eq_false']
            exact ⟨y', by simpa using hy', by simp; rw [← hr'.2.2]; exact hb⟩
          rw [this]; simp
        obtain ⟨o0, _, e1⟩ := HM.run_wr e
        cases e1
        refine ⟨.tuple #[.bool true, y.key, y.val], setB w m.b (.mapIter (some m'.b) c ((⟨seen⟩ : Array Nat).push y.born) c), σ, ?_, Ren.le_refl σ, ?_, _, rfl, LR.tuple (.cons (.bool _) (.cons hr.1 (.one hr.2.1)))⟩
        · simp only [Instr.next, Sem.run_bind, hgo, Result.andThen_ok, hgm']
          rw [hall, hLL, hLn]
          have hnb : ¬ (c ≤ y.born) := by omega
          have hso2 := run_setObj (P := P) (.mapIter (some m'.b) c (seen ++ [y.born]).toArray c) g3 (by intro c e f h; cases h)
          simp [Question.forced, hyb, hnb, hso2]
        · have hpush : (⟨seen⟩ : Array Nat).push y.born = ⟨app seen [e0.born]⟩ := by
            apply Array.ext'
            rw [app_eq, Array.toList_push, hr.2.2]
          rw [hpush]
          refine r.upd g1 hg (.miter g2 (fun s hs => ?_) g5)
          rw [app_eq] at hs
          rcases List.mem_append.1 hs with q | q
          · exact g4 s q
          · rw [List.mem_singleton.1 q]; exact hb
      · cases e
    · cases e
  · cases e

end
end Go.Proofs.YtonkcdnpmemheaaGreat.Vm

