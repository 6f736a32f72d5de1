/- Regions that draw their order answer alike; the evaluator is sound. By an AI agent. -/
import Derived.Test.YtonkcdnpmemheaaGreatVmD
set_option linter.all false
namespace Go.Proofs.YtonkcdnpmemheaaGreat.Vm

/-! ### an operation looks at its operands alone -/

theorem vresolve_congr {ρ ρ' : Operand → Value} (c : Call) (h : ∀ x ∈ c.operands, ρ x = ρ' x) : vresolve ρ c = vresolve ρ' c := by
  have hargs : c.args.toList.map ρ = c.args.toList.map ρ' := List.map_congr_left fun x hx => h x (by rw [Call.operands]; exact Array.mem_append.2 (.inr (by simpa using hx)))
  unfold vresolve
  rw [hargs]
  cases hc : c.callee with
  | value f => have hf : ρ f = ρ' f := h f (by simp [Call.operands, hc]); simp only [hf]
  | invoke r m => have hr : ρ r = ρ' r := h r (by simp [Call.operands, hc]); simp only [hr]
  | builtin b => rfl

theorem vopK_congr {P : Program} {ρ ρ' : Operand → Value} (o : Op) (h : ∀ x ∈ o.operands, ρ x = ρ' x) : vopK P ρ o = vopK P ρ' o := by
  have pairs : ∀ ps : List (Nat × Operand), (∀ x, x ∈ ps.map (·.2) → ρ x = ρ' x) → (ps.map fun p => (p.1, ρ p.2)) = (ps.map fun p => (p.1, ρ' p.2)) := fun ps hp =>
    List.map_congr_left fun p hm => by rw [hp p.2 (List.mem_map.2 ⟨p, hm, rfl⟩)]
  unfold vopK
  cases o <;> simp only [Op.operands] at h <;> simp only [cop]
  case build t ps => rw [pairs ps.toList fun x hx => h x (by simpa using hx)]
  case buildSlice t n ps => rw [pairs ps.toList fun x hx => h x (by simpa using hx)]
  case makeFunc fn first captured =>
    rw [List.map_congr_left (l := first.toList) fun x hx => h x (by simp; exact .inl (by simpa using hx)), List.map_congr_left (l := captured.toList) fun x hx => h x (by simp; exact .inr (by simpa using hx))]
  case convert s d x =>
    unfold copConv
    have : ρ x = ρ' x := h x (by simp)
    cases memConv P s d <;> simp [this]
  case call c =>
    unfold vcallOp
    rw [vresolve_congr c h]
    cases hc : c.callee with
    | builtin b =>
      have hargs : c.args.toList.map ρ = c.args.toList.map ρ' := List.map_congr_left fun x hx => h x (by rw [Call.operands]; exact Array.mem_append.2 (.inr (by simpa using hx)))
      simp only [hargs]
    | _ => rfl
  case defer c =>
    unfold vdeferOp
    rw [vresolve_congr c h]
  case slice t x lo hi mx => cases lo <;> cases hi <;> cases mx <;> simp_all
  all_goals (first | rfl | (simp_all; done))

/-- a result put elsewhere -/
theorem vop1_congr {P : Program} {rec : Rec} {o : Oper} {a b a1 : VAct} {h h1 : VH} (e : vop1 P rec o a h = some (a1, h1)) (hd : a1.defers.length = a.defers.length) (hv : vopK P a.eval o.op = vopK P b.eval o.op) :
    ∃ v, a1 = a.put o.dst v ∧ vop1 P rec o b h = some (b.put o.dst v, h1) := by
  unfold vop1 at e ⊢
  rw [← hv]
  unfold opK at e ⊢
  split at e
  · cases e; exact ⟨_, rfl, rfl⟩
  · cases e
  · rename_i m hm
    unfold memK at e ⊢
    split at e
    · rename_i x h2 hx
      unfold vupon at e ⊢
      split at e
      · cases e; exact ⟨_, rfl, rfl⟩
      · cases e; exact ⟨_, rfl, rfl⟩
      · unfold putRes at e ⊢
        split at e
        · cases e; exact ⟨_, rfl, rfl⟩
        · cases e
      · unfold putRes at e ⊢
        split at e
        · cases e; exact ⟨_, rfl, rfl⟩
        · cases e
      · exfalso
        unfold vdeferred at e
        split at e
        · cases e
          rw [VAct.put_defers] at hd
          simp at hd
        · cases e
      · cases e
    · cases e

end Go.Proofs.YtonkcdnpmemheaaGreat.Vm

namespace Go.Proofs.YtonkcdnpmemheaaGreat.Vm

/-! ### a part of a heap, the rest framed -/

section
open Classical
noncomputable def framed (W : Frm) (σ : Ren) (H h0 : VH) (w : World) (Z : Nat → Prop) : Frm where
  W := W.W
  X := fun b => if (∃ n m, H.get n ≠ none ∧ h0.get n = none ∧ σ n = some m ∧ m.b = b) then w.heap[b]? else W.X b
  Z := Z
  B := w.heap.size
end

section
variable {W : Frm} {P : Program} {σ : Ren} {H h0 : VH} {w : World} {Z : Nat → Prop}

theorem framed_pos {b n : Nat} {m : NM} (h1 : H.get n ≠ none) (h2 : h0.get n = none) (h3 : σ n = some m) (h4 : m.b = b) : (framed W σ H h0 w Z).X b = w.heap[b]? := if_pos ⟨n, m, h1, h2, h3, h4⟩
theorem framed_neg {b : Nat} (h : ¬ ∃ n m, H.get n ≠ none ∧ h0.get n = none ∧ σ n = some m ∧ m.b = b) : (framed W σ H h0 w Z).X b = W.X b := if_neg h

theorem framed_of_X (r : R W P σ H w) {b : Nat} {O : Obj} (h : W.X b = some O) : (framed W σ H h0 w Z).X b = some O := by
  rw [framed_neg]
  · exact h
  · rintro ⟨n, m, h1, _, h3, rfl⟩
    cases hg : H.get n with
    | none => exact h1 hg
    | some o => rw [r.off n o m hg h3] at h; cases h

/-- the part -/
theorem R.part (r : R W P σ H w) (hsub : ∀ n o, h0.get n = some o → H.get n = some o) (hlt : ∀ n m, σ n = some m → n < h0.nx) (hres : ∀ n, Z n → σ n = none) (hzlt : ∀ n, Z n → n < h0.nx) (hal : σ h0.al = none) (hzal : ¬ Z h0.al) :
    R (framed W σ H h0 w Z) P σ h0 w where
  ext := r.ext
  own := r.own
  lt := hlt
  obj n o e := r.obj n o (hsub n o e)
  inj n n' o o' m m' e1 e2 := r.inj n n' o o' m m' (hsub _ _ e1) (hsub _ _ e2)
  fix b O e := by
    by_cases hc : ∃ n m, H.get n ≠ none ∧ h0.get n = none ∧ σ n = some m ∧ m.b = b
    · obtain ⟨n, m, h1, h2, h3, h4⟩ := hc
      rw [framed_pos h1 h2 h3 h4] at e
      exact e
    · rw [framed_neg hc] at e
      exact r.fix b O e
  off n o m e1 e2 := by
    rw [framed_neg]
    · exact r.off n o m (hsub n o e1) e2
    · rintro ⟨n', m', h1, h2, h3, h4⟩
      cases hg : H.get n' with
      | none => exact h1 hg
      | some o' =>
        have := r.inj n' n o' o m' m hg (hsub n o e1) h3 e2 h4
        subst this
        rw [e1] at h2; cases h2
  res := hres
  zlt := hzlt
  al := hal
  zal := hzal
  big := Nat.le_refl _

/-- the rest laid beside it again -/
theorem R.merge (r : R W P σ H w) {τ : Ren} {h1 H1 : VH} {w' : World} {Z1 : Nat → Prop} (hle : σ.le τ) (r1 : R (framed W σ H h0 w Z) P τ h1 w') (hg : ∀ n o, H1.get n = some o → h1.get n = some o ∨ (H.get n = some o ∧ h0.get n = none))
    (hlt : ∀ n m, τ n = some m → n < H1.nx) (hres : ∀ n, Z1 n → τ n = none) (hzlt : ∀ n, Z1 n → n < H1.nx) (hal : τ H1.al = none) (hzal : ¬ Z1 H1.al) : R { W with Z := Z1 } P τ H1 w' := by
  have fr : ∀ n o, H.get n = some o → h0.get n = none → ∃ m O, σ n = some m ∧ τ n = some m ∧ w'.heap[m.b]? = some O ∧ ORel P σ m o O ∧ (framed W σ H h0 w Z).X m.b = some O := by
    intro n o h2 h3
    obtain ⟨m, O, g1, g2, g3⟩ := r.obj n o h2
    have hx : (framed W σ H h0 w Z).X m.b = some O := by rw [framed_pos (by rw [h2]; simp) h3 g1 rfl]; exact g2
    exact ⟨m, O, g1, hle _ _ g1, r1.fix _ _ hx, g3, hx⟩
  refine ⟨r1.ext, r1.own, hlt, ?_, ?_, ?_, ?_, hres, hzlt, hal, hzal, Nat.le_trans r.big r1.big⟩
  · intro n o e
    rcases hg n o e with e1 | ⟨e1, e2⟩
    · exact r1.obj n o e1
    · obtain ⟨m, O, g1, g2, g3, g4, _⟩ := fr n o e1 e2
      exact ⟨m, O, g2, g3, g4.mono hle⟩
  · intro n n' o o' m m' e1 e2 s1 s2 hb
    rcases hg n o e1 with f1 | ⟨f1, f2⟩
    · rcases hg n' o' e2 with k1 | ⟨k1, k2⟩
      · exact r1.inj n n' o o' m m' f1 k1 s1 s2 hb
      · obtain ⟨m2, O, g1, g2, g3, g4, g5⟩ := fr n' o' k1 k2
        rw [s2] at g2; cases g2
        have := r1.off n o m f1 s1
        rw [hb, g5] at this; cases this
    · obtain ⟨m1, O, g1, g2, g3, g4, g5⟩ := fr n o f1 f2
      rw [s1] at g2; cases g2
      rcases hg n' o' e2 with k1 | ⟨k1, k2⟩
      · have := r1.off n' o' m' k1 s2
        rw [← hb, g5] at this; cases this
      · obtain ⟨m2, O2, q1, q2, _⟩ := fr n' o' k1 k2
        rw [s2] at q2; cases q2
        exact r.inj n n' o o' m m' f1 k1 g1 q1 hb
  · intro b O e
    exact r1.fix b O (framed_of_X r e)
  · intro n o m e s
    rcases hg n o e with f1 | ⟨f1, f2⟩
    · have := r1.off n o m f1 s
      cases hx : W.X m.b with
      | none => rfl
      | some O => rw [framed_of_X r hx] at this; cases this
    · obtain ⟨m1, O, g1, g2, _⟩ := fr n o f1 f2
      rw [s] at g2; cases g2
      exact r.off n o m f1 g1

/-- fewer reserved names -/
theorem R.fewer (r : R W P σ H w) {Z1 : Nat → Prop} (h : ∀ n, Z1 n → W.Z n) : R { W with Z := Z1 } P σ H w :=
  ⟨r.ext, r.own, r.lt, r.obj, r.inj, r.fix, r.off, fun n e => r.res n (h n e), fun n e => r.zlt n (h n e), r.al, fun e => r.zal (h _ e), r.big⟩
end

/-! ### new objects laid into a heap -/

theorem ext_nx (objs : List (Nat × Nat × VObj)) (mask ins : Nat) (h : VH) : (ext objs mask ins h).nx = h.nx ∧ (ext objs mask ins h).al = h.al := by
  induction objs with
  | nil => exact ⟨rfl, rfl⟩
  | cons p l ih =>
    obtain ⟨i, n, o⟩ := p
    unfold ext
    split
    · exact ih
    · exact ih

/-- is it laid there -/
def Laid (objs : List (Nat × Nat × VObj)) (mask ins n : Nat) (o : VObj) : Prop := ∃ i, (i, n, o) ∈ objs ∧ Nat.testBit mask i = true ∧ Nat.testBit ins i = false

theorem ext_get (objs : List (Nat × Nat × VObj)) (mask ins : Nat) (h : VH) (hu : ∀ i n o j o', (i, n, o) ∈ objs → (j, n, o') ∈ objs → i = j ∧ o = o') (n : Nat) (o : VObj) :
    (ext objs mask ins h).get n = some o ↔ (Laid objs mask ins n o ∨ ((∀ o', ¬ Laid objs mask ins n o') ∧ h.get n = some o)) := by
  induction objs with
  | nil => simp [ext, Laid]
  | cons p l ih =>
    obtain ⟨i, n1, o1⟩ := p
    have ih := ih (fun i n o j o' h1 h2 => hu i n o j o' (List.mem_cons_of_mem _ h1) (List.mem_cons_of_mem _ h2))
    have hcons : ∀ n o, Laid ((i, n1, o1) :: l) mask ins n o ↔ ((n = n1 ∧ o = o1 ∧ Nat.testBit mask i = true ∧ Nat.testBit ins i = false) ∨ Laid l mask ins n o) := by
      intro n o
      constructor
      · rintro ⟨j, hm, h1, h2⟩
        rcases List.mem_cons.1 hm with q | q
        · cases q; exact .inl ⟨rfl, rfl, h1, h2⟩
        · exact .inr ⟨j, q, h1, h2⟩
      · rintro (⟨rfl, rfl, h1, h2⟩ | ⟨j, q, h1, h2⟩)
        · exact ⟨i, List.mem_cons_self .., h1, h2⟩
        · exact ⟨j, List.mem_cons_of_mem _ q, h1, h2⟩
    unfold ext
    by_cases hb : (Nat.testBit mask i && !Nat.testBit ins i) = true
    · rw [if_pos hb, VH.get_put]
      have hb1 : Nat.testBit mask i = true ∧ Nat.testBit ins i = false := by simpa using hb
      by_cases hn : n = n1
      · subst hn
        rw [if_pos rfl]
        constructor
        · intro e; cases e
          exact .inl ((hcons _ _).2 (.inl ⟨rfl, rfl, hb1.1, hb1.2⟩))
        · rintro (q | ⟨q, _⟩)
          · rcases (hcons _ _).1 q with ⟨_, rfl, _⟩ | ⟨j, q1, _⟩
            · rfl
            · obtain ⟨_, q2⟩ := hu i n o1 j o (List.mem_cons_self ..) (List.mem_cons_of_mem _ q1)
              rw [q2]
          · exact absurd ((hcons _ _).2 (.inl ⟨rfl, rfl, hb1.1, hb1.2⟩)) (q o1)
      · rw [if_neg hn, ih]
        have : ∀ o', Laid ((i, n1, o1) :: l) mask ins n o' ↔ Laid l mask ins n o' := fun o' => by
          rw [hcons]
          constructor
          · rintro (⟨q, _⟩ | q)
            · exact absurd q hn
            · exact q
          · exact .inr
        simp only [this]
    · rw [if_neg hb, ih]
      have : ∀ o', Laid ((i, n1, o1) :: l) mask ins n o' ↔ Laid l mask ins n o' := fun o' => by
        rw [hcons]
        constructor
        · rintro (⟨_, _, h1, h2⟩ | q)
          · exact absurd (by simp [h1, h2]) hb
          · exact q
        · exact .inr
      simp only [this]

/-! ### reads in a greater heap -/

theorem look_mono {α : Type} : ∀ (m : HM α) {h H : VH} {x : α}, (∀ n o, h.get n = some o → H.get n = some o) → m.look h = some x → m.look H = some x := by
  intro m
  induction m with
  | ret a => intro h H x _ e; exact e
  | rd n k ih =>
    intro h H x hs e
    have e' : Option.rec (motive := fun _ => Option α) none (fun o => (k o).look h) (h.get n) = some x := e
    show Option.rec (motive := fun _ => Option α) none (fun o => (k o).look H) (H.get n) = some x
    cases hg : h.get n with
    | none => rw [hg] at e'; cases e'
    | some o =>
      rw [hg] at e'
      rw [hs n o hg]
      exact ih o hs e'
  | wr n o k ih => intro h H x _ e; cases e
  | kill n k ih => intro h H x _ e; cases e
  | nw o k ih => intro h H x _ e; cases e
  | nwAt n o k ih => intro h H x _ e; cases e
  | fail => intro h H x _ e; cases e

theorem lookR_mono {r : OpR} {h H : VH} {v : Value} (hs : ∀ n o, h.get n = some o → H.get n = some o) (e : lookR r h = some v) : lookR r H = some v := by
  cases r with
  | pure v => exact e
  | mem m =>
    have e' : valOf (m.look h) = some v := e
    show valOf (m.look H) = some v
    unfold valOf at e'
    split at e'
    · rename_i hm
      cases e'
      rw [look_mono m hs hm]
      rfl
    · cases e'

/-! ### masks -/

theorem testBit_shift (d t : Nat) : Nat.testBit (Nat.shiftLeft 1 d) t = decide (d = t) := by
  show Nat.testBit (1 <<< d) t = _
  rw [Nat.one_shiftLeft, Nat.testBit_two_pow]

theorem tmpMask_bit : ∀ (l : List Operand) (m t : Nat), Nat.testBit (tmpMask l m) t = true ↔ (Nat.testBit m t = true ∨ Operand.tmp t ∈ l) := by
  intro l
  induction l with
  | nil => intro m t; simp [tmpMask]
  | cons x l ih =>
    intro m t
    cases x with
    | tmp u =>
      show Nat.testBit (tmpMask l (Nat.lor m (Nat.shiftLeft 1 u))) t = true ↔ _
      rw [ih, show Nat.lor m (Nat.shiftLeft 1 u) = m ||| (Nat.shiftLeft 1 u) from rfl, Nat.testBit_or, testBit_shift]
      simp only [Bool.or_eq_true, decide_eq_true_eq, List.mem_cons, Operand.tmp.injEq]
      constructor
      · rintro ((h | h) | h)
        · exact .inl h
        · exact .inr (.inl h.symm)
        · exact .inr (.inr h)
      · rintro (h | h | h)
        · exact .inl (.inl h)
        · exact .inl (.inr h.symm)
        · exact .inr h
    | _ =>
      show Nat.testBit (tmpMask l m) t = true ↔ _
      rw [ih]
      simp

theorem dstMask_bit (o : Oper) (t : Nat) : Nat.testBit (dstMask o) t = true ↔ o.dst = some t := by
  unfold dstMask
  split
  · rename_i d hd
    rw [testBit_shift, hd]
    simp
  · rename_i hd
    rw [hd]
    simp

theorem land_zero {a b : Nat} (h : (Nat.land a b == 0) = true) (t : Nat) : ¬ (Nat.testBit a t = true ∧ Nat.testBit b t = true) := by
  rintro ⟨h1, h2⟩
  have h0 : a &&& b = 0 := by simpa using h
  have : Nat.testBit (a &&& b) t = true := by rw [Nat.testBit_and, h1, h2]; rfl
  rw [h0] at this
  simp at this

end Go.Proofs.YtonkcdnpmemheaaGreat.Vm

namespace Go.Proofs.YtonkcdnpmemheaaGreat.Vm

/-! ### what comes ahead -/

theorem orMask_bit (ancs : List Nat) : ∀ (es : List Edge) (m j : Nat), Nat.testBit (orMask ancs es m) j = true →
    Nat.testBit m j = true ∨ ∃ e, e ∈ es ∧ bindsAll e = true ∧ (j = e.on ∨ Nat.testBit (ancs.getD e.on 0) j = true) := by
  intro es
  induction es with
  | nil => intro m j h; exact .inl h
  | cons e es ih =>
    intro m j h
    unfold orMask at h
    split at h
    · rename_i hb
      rcases ih _ j h with h1 | ⟨e', h1, h2, h3⟩
      · have h1' : Nat.testBit (m ||| (Nat.shiftLeft 1 e.on ||| ancs.getD e.on 0)) j = true := h1
        rw [Nat.testBit_or, Nat.testBit_or, testBit_shift] at h1'
        simp only [Bool.or_eq_true, decide_eq_true_eq] at h1'
        rcases h1' with h1' | h1' | h1'
        · exact .inl h1'
        · exact .inr ⟨e, List.mem_cons_self .., hb, .inl h1'.symm⟩
        · exact .inr ⟨e, List.mem_cons_self .., hb, .inr h1'⟩
      · exact .inr ⟨e', List.mem_cons_of_mem _ h1, h2, h3⟩
    · rcases ih _ j h with h1 | ⟨e', h1, h2, h3⟩
      · exact .inl h1
      · exact .inr ⟨e', List.mem_cons_of_mem _ h1, h2, h3⟩

theorem orMask_keep (ancs : List Nat) : ∀ (es : List Edge) (m j : Nat), Nat.testBit m j = true → Nat.testBit (orMask ancs es m) j = true := by
  intro es
  induction es with
  | nil => intro m j h; exact h
  | cons e es ih =>
    intro m j h
    unfold orMask
    split
    · refine ih _ j ?_
      show Nat.testBit (m ||| _) j = true
      rw [Nat.testBit_or, h]; rfl
    · exact ih _ j h

theorem orMask_on (ancs : List Nat) : ∀ (es : List Edge) (m : Nat) (e : Edge), e ∈ es → bindsAll e = true → Nat.testBit (orMask ancs es m) e.on = true := by
  intro es
  induction es with
  | nil => intro m e h; cases h
  | cons e0 es ih =>
    intro m e h hb
    unfold orMask
    rcases List.mem_cons.1 h with q | q
    · subst q
      rw [if_pos hb]
      refine orMask_keep ancs es _ _ ?_
      show Nat.testBit (m ||| (Nat.shiftLeft 1 e.on ||| _)) e.on = true
      rw [Nat.testBit_or, Nat.testBit_or, testBit_shift]
      simp
    · split
      · exact ih _ e q hb
      · exact ih _ e q hb

theorem ancestors_spec : ∀ (os : List Oper) (acc : List Nat), (ancestors os acc).length = acc.length + os.length ∧ (∀ k, k < acc.length → (ancestors os acc)[k]? = acc[k]?) ∧
    (∀ k o, os[k]? = some o → (ancestors os acc)[acc.length + k]? = some (orMask ((ancestors os acc).take (acc.length + k)) o.after.toList 0)) := by
  intro os
  induction os with
  | nil => intro acc; exact ⟨rfl, fun k _ => rfl, fun k o h => by simp at h⟩
  | cons o os ih =>
    intro acc
    obtain ⟨h1, h2, h3⟩ := ih (acc ++ [orMask acc o.after.toList 0])
    have hdef : ancestors (o :: os) acc = ancestors os (acc ++ [orMask acc o.after.toList 0]) := rfl
    have htake : (ancestors (o :: os) acc).take acc.length = acc := by
      apply List.ext_getElem?
      intro i
      rw [List.getElem?_take]
      by_cases hi : i < acc.length
      · rw [if_pos hi, hdef, h2 i (by simp; omega), List.getElem?_append_left hi]
      · rw [if_neg hi, List.getElem?_eq_none (by omega)]
    refine ⟨by rw [hdef, h1]; simp; omega, ?_, ?_⟩
    · intro k hk
      rw [hdef, h2 k (by simp; omega), List.getElem?_append_left hk]
    · intro k o' hk
      cases k with
      | zero =>
        simp at hk; subst hk
        rw [Nat.add_zero, htake, hdef, h2 _ (by simp), List.getElem?_append_right (Nat.le_refl _)]
        simp
      | succ k =>
        have hk' : os[k]? = some o' := by simpa using hk
        have := h3 k o' hk'
        rw [hdef]
        simp only [List.length_append, List.length_cons, List.length_nil] at this
        rw [show acc.length + (k + 1) = acc.length + (0 + 1) + k by omega]
        exact this

/-- the info of the k-th operation -/
theorem opInfos_get {P : Program} {L : List Oper} {k : Nat} {x : OpI} (h : (opInfos P L)[k]? = some x) : ∃ o, L[k]? = some o ∧ x.i = k ∧ x.o = o ∧ x.c = cls P o ∧ x.dst = dstMask o ∧ x.reads = tmpMask o.op.operands.toList 0 ∧
    (ancestors L [])[k]? = some x.anc := by
  unfold opInfos at h
  rw [List.getElem?_map, List.getElem?_zipIdx] at h
  cases hz : (L.zip (ancestors L []))[k]? with
  | none => rw [hz] at h; simp at h
  | some p =>
    obtain ⟨o, m⟩ := p
    rw [hz] at h
    simp at h
    rw [List.getElem?_zip_eq_some] at hz
    subst h
    exact ⟨o, hz.1, rfl, rfl, rfl, rfl, rfl, hz.2⟩

theorem opInfos_length (P : Program) (L : List Oper) : (opInfos P L).length = L.length := by
  unfold opInfos
  have := (ancestors_spec L []).1
  simp at this
  simp [this]

/-- what comes ahead of a ready operation has been carried out -/
theorem anc_ready {P : Program} {L : List Oper} {k : Nat} {x : OpI} (h : (opInfos P L)[k]? = some x) {S : Nat → Bool} (hS : ∀ i y, (opInfos P L)[i]? = some y → S i = true → ∀ j, Nat.testBit y.anc j = true → S j = true)
    (hr : ∀ e, e ∈ x.o.after.toList → bindsAll e = true → S e.on = true) : ∀ j, Nat.testBit x.anc j = true → S j = true := by
  intro j hj
  obtain ⟨o, h1, h2, h3, h4, h5, h6, h7⟩ := opInfos_get h
  have hsp := (ancestors_spec L []).2.2 k o h1
  simp only [List.length_nil, Nat.zero_add] at hsp
  rw [hsp] at h7
  have h7 := Option.some.inj h7
  rw [h3] at hr
  rw [← h7] at hj
  rcases orMask_bit _ _ _ _ hj with q | ⟨e, q1, q2, q3⟩
  · simp at q
  · rcases q3 with q3 | q3
    · rw [q3]; exact hr e q1 q2
    · have hon := hr e q1 q2
      rw [List.getD_eq_getElem?_getD, List.getElem?_take] at q3
      split at q3
      · rename_i hlt
        have hkL : k < L.length := by
          rcases Nat.lt_or_ge k L.length with g | g
          · exact g
          · rw [List.getElem?_eq_none g] at h1; cases h1
        have hl : e.on < (opInfos P L).length := by rw [opInfos_length]; omega
        have hy := List.getElem?_eq_getElem hl
        obtain ⟨oy, _, _, _, _, _, _, hya⟩ := opInfos_get hy
        rw [hya] at q3
        exact hS _ _ hy hon j q3
      · simp at q3

theorem anc_on {P : Program} {L : List Oper} {k : Nat} {x : OpI} (h : (opInfos P L)[k]? = some x) {e : Edge} (he : e ∈ x.o.after.toList) (hb : bindsAll e = true) : Nat.testBit x.anc e.on = true := by
  obtain ⟨o, h1, h2, h3, h4, h5, h6, h7⟩ := opInfos_get h
  have hsp := (ancestors_spec L []).2.2 k o h1
  simp only [List.length_nil, Nat.zero_add] at hsp
  rw [hsp] at h7
  have h7 := Option.some.inj h7
  rw [← h7, ]
  rw [h3] at he
  exact orMask_on _ _ _ e he hb

/-! ### what the check has looked at -/

theorem dstsOk_get : ∀ {l : List OpI}, dstsOk l = true → ∀ (k : Nat) (x : OpI), l[k]? = some x →
    (x.anc < 2 ^ x.i) ∧ (∀ j b, x.o.guard = some (j, b) → Nat.testBit x.anc j = true) ∧ (∀ (m : Nat) (y : OpI), k < m → l[m]? = some y → (Nat.land x.dst y.dst == 0) = true ∧ pairOk x y = true) := by
  intro l
  induction l with
  | nil => intro _ k x h; simp at h
  | cons x0 l ih =>
    intro h k x hk
    unfold dstsOk at h
    simp only [Bool.and_eq_true] at h
    obtain ⟨⟨⟨h1, h2⟩, h3⟩, h4⟩ := h
    cases k with
    | zero =>
      simp at hk; subst hk
      refine ⟨?_, ?_, ?_⟩
      · rw [Nat.blt_eq] at h2
        have : Nat.shiftLeft 1 x0.i = 2 ^ x0.i := by show 1 <<< x0.i = _; rw [Nat.one_shiftLeft]
        omega
      · intro j b hg
        rw [hg] at h3
        exact h3
      · intro m y hm hy
        cases m with
        | zero => omega
        | succ m =>
          have hy' : l[m]? = some y := by simpa using hy
          rw [List.all_eq_true] at h1
          have := h1 y (List.mem_of_getElem? hy')
          simpa using this
    | succ k =>
      obtain ⟨g1, g2, g3⟩ := ih h4 k x (by simpa using hk)
      refine ⟨g1, g2, ?_⟩
      intro m y hm hy
      cases m with
      | zero => omega
      | succ m => exact g3 m y (by omega) (by simpa using hy)

/-! ### the same value -/

theorem beqBytes_same : ∀ {a b : List UInt8}, beqBytes a b = true → a = b := by
  intro a
  induction a with
  | nil => intro b h; cases b with | nil => rfl | cons _ _ => simp [beqBytes] at h
  | cons x a ih =>
    intro b h
    cases b with
    | nil => simp [beqBytes] at h
    | cons y b =>
      simp only [beqBytes, Bool.and_eq_true] at h
      rw [ih h.2, UInt8.toNat_inj.1 (Nat.eq_of_beq_eq_true h.1)]

theorem ptrs_eq : ∀ {a b : List Value}, sameCell.ptrs a b = true → a = b := by
  intro a
  induction a with
  | nil => intro b h; cases b with | nil => rfl | cons _ _ => simp [sameCell.ptrs] at h
  | cons x a ih =>
    intro b h
    cases b with
    | nil => cases x <;> simp [sameCell.ptrs] at h
    | cons y b =>
      cases x <;> cases y <;> simp only [sameCell.ptrs, Bool.and_eq_true, beq_iff_eq, Bool.false_eq_true] at h
      rw [h.1, ih h.2]

theorem sameCell_eq {a b : Value} (h : sameCell a b = true) : a = b := by
  unfold sameCell at h
  split at h
  · simp at h; rw [h]
  · simp at h; rw [h.1, h.2]
  · rename_i x y
    have := beqBytes_same h
    congr 1
    apply ByteArray.ext
    apply Array.ext'
    exact this
  · simp at h; rw [h]
  · simp at h; rw [h.1.1, h.1.2, h.2]
  · simp at h; rw [h]
  · rfl
  · rfl
  · simp only [Bool.and_eq_true, beq_iff_eq, Array.isEmpty_iff] at h
    obtain ⟨⟨⟨h1, h2⟩, h3⟩, h4⟩ := h
    have := ptrs_eq h4
    rw [h1, h2, h3, Array.ext' this]
  · cases h

theorem sameCells_eq : ∀ {a b : List Value}, sameCells a b = true → a = b := by
  intro a
  induction a with
  | nil => intro b h; cases b with | nil => rfl | cons _ _ => simp [sameCells] at h
  | cons x a ih =>
    intro b h
    cases b with
    | nil => simp [sameCells] at h
    | cons y b =>
      simp only [sameCells, Bool.and_eq_true] at h
      rw [ih h.2, sameCell_eq h.1]

theorem sameVal_eq {a b : Value} (h : sameVal a b = true) : a = b := by
  unfold sameVal at h
  split at h
  · rw [Array.ext' (sameCells_eq h)]
  · rw [Array.ext' (sameCells_eq h)]
  · simp only [Bool.and_eq_true, beq_iff_eq] at h
    obtain ⟨h1, h2⟩ := h
    rw [h1]
    congr 1
    split at h2
    · rw [Array.ext' (sameCells_eq h2)]
    · exact sameCell_eq h2
  · exact sameCell_eq h

theorem readsAs_some {objs : List (Nat × Nat × VObj)} {x : OpI} {r : OpR} {v : Value} {h : VH} {ins : Nat} (e : readsAs objs x r v h ins = true) : lookR r (ext objs x.anc ins h) = some v := by
  unfold readsAs at e
  split at e
  · rename_i u hu
    rw [hu, sameVal_eq e]
  · cases e

theorem oldReads_get {objs : List (Nat × Nat × VObj)} {x : OpI} {r : OpR} {v : Value} : ∀ {l : List Snap}, oldReads objs x r v l = true → ∀ (j : Nat) (s : Snap), l[j]? = some s → (∀ i s', i ≤ j → l[i]? = some s' → Nat.testBit x.anc s'.e = false) →
    lookR r (ext objs x.anc s.ins s.h) = some v := by
  intro l
  induction l with
  | nil => intro _ j s h; simp at h
  | cons s0 l ih =>
    intro e j s hj hn
    unfold oldReads at e
    have h0 := hn 0 s0 (Nat.zero_le _) rfl
    rw [h0] at e
    simp only [Bool.and_eq_true] at e
    cases j with
    | zero => simp at hj; subst hj; exact readsAs_some e.1
    | succ j => exact ih e.2 j s (by simpa using hj) (fun i s' hi hs => hn (i + 1) s' (by omega) (by simpa using hs))

theorem newReads_get {objs : List (Nat × Nat × VObj)} {y : OpI} {h : VH} {ins : Nat} : ∀ {l : List (OpI × OpR × Value)}, newReads objs y h ins l = true → ∀ x r v, (x, r, v) ∈ l → Nat.testBit y.anc x.i = false → lookR r (ext objs x.anc ins h) = some v := by
  intro l
  induction l with
  | nil => intro _ x r v hm; cases hm
  | cons p l ih =>
    obtain ⟨x0, r0, v0⟩ := p
    intro e x r v hm hb
    unfold newReads at e
    simp only [Bool.and_eq_true] at e
    rcases List.mem_cons.1 hm with q | q
    · cases q
      rw [hb] at e
      simp only [Bool.false_or] at e
      exact readsAs_some e.1
    · exact ih e.2 x r v q hb

theorem aMask_bit : ∀ (l : List (Nat × Nat × VObj)) (anc m j : Nat), Nat.testBit (aMask l anc m) j = true ↔ (Nat.testBit m j = true ∨ (Nat.testBit anc j = true ∧ ∃ n o, (j, n, o) ∈ l)) := by
  intro l
  induction l with
  | nil => intro anc m j; simp [aMask]
  | cons p l ih =>
    obtain ⟨i, n, o⟩ := p
    intro anc m j
    unfold aMask
    split
    · rename_i hb
      rw [ih, show Nat.lor m (Nat.shiftLeft 1 i) = m ||| Nat.shiftLeft 1 i from rfl, Nat.testBit_or, testBit_shift]
      simp only [Bool.or_eq_true, decide_eq_true_eq]
      constructor
      · rintro ((h | h) | ⟨h1, n', o', h2⟩)
        · exact .inl h
        · subst h; exact .inr ⟨hb, n, o, List.mem_cons_self ..⟩
        · exact .inr ⟨h1, n', o', List.mem_cons_of_mem _ h2⟩
      · rintro (h | ⟨h1, n', o', h2⟩)
        · exact .inl (.inl h)
        · rcases List.mem_cons.1 h2 with q | q
          · cases q; exact .inl (.inr rfl)
          · exact .inr ⟨h1, n', o', q⟩
    · rename_i hb
      rw [ih]
      constructor
      · rintro (h | ⟨h1, n', o', h2⟩)
        · exact .inl h
        · exact .inr ⟨h1, n', o', List.mem_cons_of_mem _ h2⟩
      · rintro (h | ⟨h1, n', o', h2⟩)
        · exact .inl h
        · rcases List.mem_cons.1 h2 with q | q
          · cases q; exact absurd h1 hb
          · exact .inr ⟨h1, n', o', q⟩

end Go.Proofs.YtonkcdnpmemheaaGreat.Vm

namespace Go.Proofs.YtonkcdnpmemheaaGreat.Vm

/-- one operation of a region that draws, in text order -/
inductive Ev (P : Program) (rec : Rec) (L : List Oper) (base : Nat) (x : OpI) (s s' : DR) (v : Value) (eff : Bool) : Prop where
  | skip (hw : vwanted L s.a x.o = some false) (hv : v = undef) (he : eff = false) (hs : s' = { s with a := s.a.put x.o.dst v })
  | p (hw : vwanted L s.a x.o = some true) (hr : vopK P s.a.eval x.o.op = .pure (some v)) (he : eff = false) (hs : s' = { s with a := s.a.put x.o.dst v })
  | a (hw : vwanted L s.a x.o = some true) (m : HM Next) (h1 : VH) (o : VObj) (hr : vopK P s.a.eval x.o.op = .mem m) (hm : m.run ⟨.e, KB, base + x.i⟩ = some (.value v, h1)) (ho : h1.get (base + x.i) = some o) (hn : h1.nx = KB)
      (he : eff = false) (hs : s' = { s with a := s.a.put x.o.dst v, objs := (x.i, base + x.i, o) :: s.objs })
  | l (hw : vwanted L s.a x.o = some true) (hr : lookR (vopK P s.a.eval x.o.op) (ext s.objs x.anc s.ins s.h) = some v) (ho : oldReads s.objs x (vopK P s.a.eval x.o.op) v s.snaps = true)
      (he : eff = false) (hs : s' = { s with a := s.a.put x.o.dst v, reads := (x, vopK P s.a.eval x.o.op, v) :: s.reads })
  | e (hc : x.c = .e) (hw : vwanted L s.a x.o = some true) (h1 : VH) (hr : vop1 P rec x.o s.a (ext s.objs x.anc s.ins s.h) = some (s.a.put x.o.dst v, h1)) (hn : h1.nx ≤ KB ∧ h1.al = h1.nx) (ho : newReads s.objs x h1 (aMask s.objs x.anc s.ins) s.reads = true)
      (he : eff = true) (hs : s' = { s with a := s.a.put x.o.dst v, h := h1, ins := aMask s.objs x.anc s.ins, snaps := ⟨x.i, s.h, s.ins⟩ :: s.snaps })

theorem drawOp_ev {P : Program} {rec : Rec} {L : List Oper} {base : Nat} {x : OpI} {s s' : DR} (hw : vwanted L s.a x.o = some true) (e : drawOp P rec base x s = some s') : ∃ v eff, Ev P rec L base x s s' v eff := by
  unfold drawOp at e
  split at e
  · unfold drawP at e
    split at e
    · rename_i v hv
      cases e
      unfold pureR at hv
      split at hv
      · rename_i u hu; subst hv; exact ⟨v, false, .p hw hu rfl rfl⟩
      · cases hv
    · cases e
  · unfold drawA at e
    split at e
    · rename_i v h1 hr
      unfold drawA2 at e
      split at e
      · rename_i o ho
        split at e
        · rename_i hn
          cases e
          unfold runR at hr
          split at hr
          · cases hr
          · rename_i m hm
            exact ⟨v, false, .a hw m h1 o hm hr ho (Nat.eq_of_beq_eq_true hn) rfl rfl⟩
        · cases e
      · cases e
    · cases e
  · unfold drawL at e
    split at e
    · rename_i v hv
      split at e
      · rename_i ho
        cases e
        exact ⟨v, false, .l hw hv ho rfl rfl⟩
      · cases e
    · cases e
  · rename_i hc
    unfold drawE at e
    split at e
    · rename_i a1 h1 hr
      unfold drawE2 at e
      split at e
      · rename_i hd hn
        cases e
        simp only [Bool.and_eq_true] at hn
        have hd := Nat.eq_of_beq_eq_true hd
        rw [len_eq, len_eq] at hd
        obtain ⟨v, hv, _⟩ := vop1_congr (b := s.a) hr hd rfl
        subst hv
        exact ⟨v, true, .e hc hw h1 hr ⟨Nat.le_of_ble_eq_true hn.1.1, Nat.eq_of_beq_eq_true hn.1.2⟩ hn.2 rfl rfl⟩
      · cases e
    · cases e

theorem Ev.act {P : Program} {rec : Rec} {L : List Oper} {base : Nat} {x : OpI} {s s' : DR} {v : Value} {eff : Bool} (e : Ev P rec L base x s s' v eff) : s'.a = s.a.put x.o.dst v := by
  cases e <;> (rename_i hs; rw [hs])

theorem drawOps_ev {P : Program} {rec : Rec} {L : List Oper} {base : Nat} : ∀ {l : List OpI} {s s' : DR}, drawOps P rec base L l s = some s' →
    ∃ (st : Nat → DR) (val : Nat → Value) (eff : Nat → Bool), st 0 = s ∧ st l.length = s' ∧ ∀ (k : Nat) (x : OpI), l[k]? = some x → Ev P rec L base x (st k) (st (k + 1)) (val k) (eff k) := by
  intro l
  induction l with
  | nil => intro s s' e; cases e; exact ⟨fun _ => s, fun _ => undef, fun _ => false, rfl, rfl, fun k x h => by simp at h⟩
  | cons x l ih =>
    intro s s' e
    have key : ∀ s1, (∃ v eff, Ev P rec L base x s s1 v eff) → drawOps P rec base L l s1 = some s' →
        ∃ (st : Nat → DR) (val : Nat → Value) (eff : Nat → Bool), st 0 = s ∧ st (x :: l).length = s' ∧ ∀ (k : Nat) (y : OpI), (x :: l)[k]? = some y → Ev P rec L base y (st k) (st (k + 1)) (val k) (eff k) := by
      intro s1 ⟨v, ef, hev⟩ e1
      obtain ⟨st, val, eff, h0, hN, h⟩ := ih e1
      refine ⟨fun k => match k with | 0 => s | k + 1 => st k, fun k => match k with | 0 => v | k + 1 => val k, fun k => match k with | 0 => ef | k + 1 => eff k, rfl, hN, ?_⟩
      intro k y hk
      cases k with
      | zero => simp at hk; subst hk; show Ev P rec L base x s (st 0) v ef; rw [h0]; exact hev
      | succ k => exact h k y (by simpa using hk)
    unfold drawOps at e
    split at e
    · rename_i hw
      split at e
      · rename_i s1 h1
        exact key s1 (drawOp_ev hw h1) e
      · cases e
    · rename_i hw
      exact key _ ⟨undef, false, .skip hw rfl rfl rfl⟩ e
    · cases e

/-- the whole of it -/
structure DC where
  P : Program
  rc : Rec
  L : List Oper
  base : Nat
  va : VAct
  h0 : VH
  st : Nat → DR
  val : Nat → Value
  eff : Nat → Bool
  ok : dstsOk (opInfos P L) = true
  hb : h0.nx ≤ KB ∧ h0.al = h0.nx
  start : st 0 = ⟨va, h0, 0, [], [], []⟩
  ev : ∀ (k : Nat) (x : OpI), (opInfos P L)[k]? = some x → Ev P rc L base x (st k) (st (k + 1)) (val k) (eff k)

namespace DC
variable (c : DC)

def N : Nat := c.L.length
noncomputable def inf (k : Nat) : Option OpI := (opInfos c.P c.L)[k]?
theorem inf_lt {k : Nat} (h : k < c.N) : ∃ x, c.inf k = some x := by
  unfold inf N at *
  rw [← opInfos_length c.P c.L] at h
  exact ⟨_, List.getElem?_eq_getElem h⟩
theorem lt_inf {k : Nat} {x : OpI} (h : c.inf k = some x) : k < c.N := by
  unfold inf N at *
  rw [← opInfos_length c.P c.L]
  rcases Nat.lt_or_ge k (opInfos c.P c.L).length with g | g
  · exact g
  · rw [List.getElem?_eq_none g] at h; cases h
theorem inf_i {k : Nat} {x : OpI} (h : c.inf k = some x) : x.i = k := by
  obtain ⟨o, _, h1, _⟩ := opInfos_get h
  exact h1

/-- two operations' slots -/
theorem dst_ne {j k : Nat} {x y : OpI} {t : Nat} (hj : c.inf j = some x) (hk : c.inf k = some y) (hx : x.o.dst = some t) (hy : y.o.dst = some t) : j = k := by
  have bit : ∀ {i z}, c.inf i = some z → z.o.dst = some t → Nat.testBit z.dst t = true := by
    intro i z hz hd
    obtain ⟨o, _, _, h3, _, h5, _⟩ := opInfos_get hz
    rw [h5, dstMask_bit, ← h3]; exact hd
  rcases Nat.lt_trichotomy j k with h | h | h
  · exact absurd ⟨bit hj hx, bit hk hy⟩ (land_zero ((dstsOk_get c.ok j x hj).2.2 k y h hk).1 t)
  · exact h
  · exact absurd ⟨bit hk hy, bit hj hx⟩ (land_zero ((dstsOk_get c.ok k y hk).2.2 j x h hj).1 t)

theorem anc_lt {k : Nat} {x : OpI} (h : c.inf k = some x) {j : Nat} (hj : Nat.testBit x.anc j = true) : j < k := by
  have h1 := (dstsOk_get c.ok k x h).1
  rw [c.inf_i h] at h1
  rcases Nat.lt_or_ge j k with g | g
  · exact g
  · have := Nat.testBit_lt_two_pow (Nat.lt_of_lt_of_le h1 (Nat.pow_le_pow_right (by omega) g))
    rw [this] at hj; cases hj

/-- a slot that is read, and written elsewhere: the two are ordered -/
theorem read_dst {j k : Nat} {x y : OpI} {t : Nat} (hj : c.inf j = some x) (hk : c.inf k = some y) (hne : j ≠ k) (hx : x.o.dst = some t) (hy : Operand.tmp t ∈ y.o.op.operands.toList) :
    (j < k ∧ Nat.testBit y.anc j = true) ∨ (k < j ∧ Nat.testBit x.anc k = true) := by
  have hd : Nat.testBit x.dst t = true := by
    obtain ⟨o, _, _, h3, _, h5, _⟩ := opInfos_get hj
    rw [h5, dstMask_bit, ← h3]; exact hx
  have hr : Nat.testBit y.reads t = true := by
    obtain ⟨o, _, _, h3, _, _, h6, _⟩ := opInfos_get hk
    rw [h6, tmpMask_bit, ← h3]; exact .inr hy
  rcases Nat.lt_or_ge j k with h | h
  · left
    refine ⟨h, ?_⟩
    have hp := ((dstsOk_get c.ok j x hj).2.2 k y h hk).2
    unfold pairOk at hp
    rw [c.inf_i hj] at hp
    simp only [Bool.or_eq_true, Bool.and_eq_true] at hp
    rcases hp with q | ⟨⟨q, _⟩, _⟩
    · exact q
    · exact absurd ⟨hd, by rw [show Nat.lor y.reads y.dst = y.reads ||| y.dst from rfl, Nat.testBit_or, hr]; rfl⟩ (land_zero q t)
  · right
    have h : k < j := by omega
    refine ⟨h, ?_⟩
    have hp := ((dstsOk_get c.ok k y hk).2.2 j x h hj).2
    unfold pairOk at hp
    rw [c.inf_i hk] at hp
    simp only [Bool.or_eq_true, Bool.and_eq_true] at hp
    rcases hp with q | ⟨⟨_, q⟩, _⟩
    · exact q
    · exact absurd ⟨hd, hr⟩ (land_zero q t)

theorem eff_cls {k : Nat} {x : OpI} (h : c.inf k = some x) (he : c.eff k = true) : x.c = .e := by
  have := c.ev k x h
  cases this with
  | e hc => exact hc
  | _ => rename_i hf hs; rw [hf] at he; cases he

/-- effects are ordered -/
theorem eff_anc {j k : Nat} {x : OpI} (hk : c.inf k = some x) (hj : c.eff j = true) (hke : c.eff k = true) (h : j < k) : Nat.testBit x.anc j = true := by
  obtain ⟨y, hy⟩ := c.inf_lt (Nat.lt_trans h (c.lt_inf hk))
  have hp := ((dstsOk_get c.ok j y hy).2.2 k x h hk).2
  unfold pairOk at hp
  rw [c.inf_i hy, c.eff_cls hy hj, c.eff_cls hk hke] at hp
  simp at hp
  exact hp

/-- the activation behind those operations -/
noncomputable def AS (S : Nat → Bool) : Nat → VAct
  | 0 => c.va
  | k + 1 => match c.inf k with
    | some x => if S k then (AS S k).put x.o.dst (c.val k) else AS S k
    | none => AS S k

theorem AS_succ (S : Nat → Bool) {k : Nat} {x : OpI} (h : c.inf k = some x) : c.AS S (k + 1) = if S k then (c.AS S k).put x.o.dst (c.val k) else c.AS S k := by
  show (match c.inf k with
    | some x => if S k then (c.AS S k).put x.o.dst (c.val k) else c.AS S k
    | none => c.AS S k) = _
  rw [h]

theorem AS_in (S : Nat → Bool) : ∀ (k : Nat), k ≤ c.N → ∀ (j : Nat) (x : OpI) (t : Nat), j < k → c.inf j = some x → S j = true → x.o.dst = some t → (c.AS S k).get t = c.val j := by
  intro k
  induction k with
  | zero => intro _ j x t hj; omega
  | succ k ih =>
    intro hk j x t hj hx hS hd
    obtain ⟨y, hy⟩ := c.inf_lt (show k < c.N by omega)
    rw [c.AS_succ S hy]
    by_cases hjk : j = k
    · subst hjk
      rw [hx] at hy; cases hy
      rw [if_pos hS, hd, VAct.get_put, if_pos rfl]
    · have ih' := ih (by omega) j x t (by omega) hx hS hd
      split
      · cases hdy : y.o.dst with
        | none => exact ih'
        | some u =>
          rw [VAct.get_put]
          by_cases htu : t = u
          · subst htu
            exact absurd (c.dst_ne hx hy hd hdy) hjk
          · rw [if_neg htu]; exact ih'
      · exact ih'

theorem AS_out (S : Nat → Bool) : ∀ (k : Nat), k ≤ c.N → ∀ (t : Nat), (∀ (j : Nat) (x : OpI), j < k → c.inf j = some x → S j = true → x.o.dst ≠ some t) → (c.AS S k).get t = c.va.get t := by
  intro k
  induction k with
  | zero => intro _ t _; rfl
  | succ k ih =>
    intro hk t hn
    obtain ⟨y, hy⟩ := c.inf_lt (show k < c.N by omega)
    have ih' := ih (by omega) t (fun j x hj => hn j x (by omega))
    rw [c.AS_succ S hy]
    split
    · rename_i hS
      have := hn k y (by omega) hy hS
      cases hdy : y.o.dst with
      | none => exact ih'
      | some u =>
        rw [VAct.get_put, if_neg (fun q => this (by rw [hdy, q]))]
        exact ih'
    · exact ih'

theorem AS_rest (S : Nat → Bool) : ∀ (k : Nat), (c.AS S k).defers = c.va.defers ∧ (c.AS S k).ro = c.va.ro := by
  intro k
  induction k with
  | zero => exact ⟨rfl, rfl⟩
  | succ k ih =>
    unfold AS
    split
    · split
      · rw [VAct.put_defers, VAct.put_ro]; exact ih
      · exact ih
    · exact ih

/-- text order -/
theorem st_act : ∀ k, k ≤ c.N → (c.st k).a = c.AS (fun _ => true) k := by
  intro k
  induction k with
  | zero => intro _; rw [c.start]; rfl
  | succ k ih =>
    intro hk
    obtain ⟨x, hx⟩ := c.inf_lt (show k < c.N by omega)
    rw [c.AS_succ _ hx, if_pos rfl, (c.ev k x hx).act, ih (by omega)]

/-- the operands of an operation, in whatever order -/
theorem eval_S {S : Nat → Bool} {k : Nat} {x : OpI} (hx : c.inf k = some x) (hk : S k = false) (hanc : ∀ j, Nat.testBit x.anc j = true → S j = true) (hclo : ∀ i y, c.inf i = some y → S i = true → ∀ j, Nat.testBit y.anc j = true → S j = true) :
    ∀ z ∈ x.o.op.operands, (c.AS S c.N).eval z = (c.st k).a.eval z := by
  have hkN := c.lt_inf hx
  rw [c.st_act k (by omega)]
  intro z hz
  have hz : z ∈ x.o.op.operands.toList := by simpa using hz
  cases z with
  | tmp t =>
    show (c.AS S c.N).get t = (c.AS (fun _ => true) k).get t
    by_cases hex : ∃ j y, c.inf j = some y ∧ y.o.dst = some t
    · obtain ⟨j, y, hj, hd⟩ := hex
      have hjN := c.lt_inf hj
      by_cases hjk : j = k
      · subst hjk
        rw [c.AS_out S _ (Nat.le_refl _) t, c.AS_out _ _ (by omega) t]
        · intro i u hi hu _ hdu
          have := c.dst_ne hu hj hdu hd
          omega
        · intro i u hi hu hS hdu
          have := c.dst_ne hu hj hdu hd
          subst this
          rw [hk] at hS; cases hS
      · rcases c.read_dst hj hx hjk hd hz with ⟨h1, h2⟩ | ⟨h1, h2⟩
        · rw [c.AS_in S _ (Nat.le_refl _) j y t hjN hj (hanc j h2) hd, c.AS_in _ _ (by omega) j y t h1 hj rfl hd]
        · have hSj : S j = false := by
            cases hs : S j with
            | false => rfl
            | true => rw [hclo j y hj hs k h2] at hk; cases hk
          rw [c.AS_out S _ (Nat.le_refl _) t, c.AS_out _ _ (by omega) t]
          · intro i u hi hu _ hdu
            have := c.dst_ne hu hj hdu hd
            omega
          · intro i u hi hu hS hdu
            have := c.dst_ne hu hj hdu hd
            subst this
            rw [hSj] at hS; cases hS
    · have hn : ∀ (j : Nat) (y : OpI), c.inf j = some y → y.o.dst ≠ some t := fun j y h1 h2 => hex ⟨j, y, h1, h2⟩
      rw [c.AS_out S _ (Nat.le_refl _) t (fun j y _ h1 _ => hn j y h1), c.AS_out _ _ (by omega) t (fun j y _ h1 _ => hn j y h1)]
  | const v => rfl
  | global g => rfl
  | func f => rfl

/-- is it wanted -/
theorem wanted_S {S : Nat → Bool} {k : Nat} {x : OpI} (hx : c.inf k = some x) (hanc : ∀ j, Nat.testBit x.anc j = true → S j = true) :
    vwanted c.L (c.AS S c.N) x.o = vwanted c.L (c.st k).a x.o := by
  have hkN := c.lt_inf hx
  rw [c.st_act k (by omega)]
  unfold vwanted
  split
  · rfl
  · rename_i j b hg
    have hj := (dstsOk_get c.ok k x hx).2.1 j b hg
    have hjk := c.anc_lt hx hj
    unfold vguard
    rw [nth?_eq]
    obtain ⟨y, hy⟩ := c.inf_lt (show j < c.N by omega)
    obtain ⟨oj, h1, _, h3, _⟩ := opInfos_get hy
    rw [h1]
    show (match oj.dst with | some d => isBool b ((c.AS S c.N).get d) | none => some false) = (match oj.dst with | some d => isBool b ((c.AS (fun _ => true) k).get d) | none => some false)
    cases hd : oj.dst with
    | none => rfl
    | some d =>
      have hd' : y.o.dst = some d := by rw [h3]; exact hd
      show isBool b _ = isBool b _
      rw [c.AS_in S _ (Nat.le_refl _) j y d (by omega) hy (hanc j hj) hd', c.AS_in _ _ (by omega) j y d hjk hy rfl hd']

end DC
end Go.Proofs.YtonkcdnpmemheaaGreat.Vm

namespace Go.Proofs.YtonkcdnpmemheaaGreat.Vm
namespace DC
variable (c : DC)

/-! ### new objects -/

theorem objs_succ {k : Nat} {x : OpI} (h : c.inf k = some x) : (c.st (k + 1)).objs = (c.st k).objs ∨ ∃ o, (c.st (k + 1)).objs = (k, c.base + k, o) :: (c.st k).objs ∧ c.eff k = false := by
  have := c.ev k x h
  cases this with
  | a hw m h1 o hr hm ho hn he hs => right; refine ⟨o, ?_, he⟩; rw [hs, c.inf_i h]
  | _ => left; rename_i hs; rw [hs]

theorem objs_lt : ∀ k, k ≤ c.N → ∀ i n o, (i, n, o) ∈ (c.st k).objs → i < k ∧ n = c.base + i ∧ c.eff i = false := by
  intro k
  induction k with
  | zero => intro _ i n o h; rw [c.start] at h; cases h
  | succ k ih =>
    intro hk i n o h
    obtain ⟨x, hx⟩ := c.inf_lt (show k < c.N by omega)
    rcases c.objs_succ hx with h1 | ⟨o', h1, h2⟩
    · rw [h1] at h
      obtain ⟨g1, g2⟩ := ih (by omega) i n o h
      exact ⟨by omega, g2⟩
    · rw [h1] at h
      rcases List.mem_cons.1 h with q | q
      · cases q; exact ⟨by omega, rfl, h2⟩
      · obtain ⟨g1, g2⟩ := ih (by omega) i n o q
        exact ⟨by omega, g2⟩

theorem objs_mono {k k' : Nat} (hk : k ≤ k') (hN : k' ≤ c.N) : ∀ p, p ∈ (c.st k).objs → p ∈ (c.st k').objs := by
  induction hk with
  | refl => intro p h; exact h
  | step hk ih =>
    rename_i m
    intro p h
    obtain ⟨x, hx⟩ := c.inf_lt (show m < c.N from hN)
    have := ih (Nat.le_of_lt hN) p h
    rcases c.objs_succ hx with h1 | ⟨o', h1, _⟩
    · rw [h1]; exact this
    · rw [h1]; exact List.mem_cons_of_mem _ this

theorem objs_back {k k' : Nat} (hk : k ≤ k') (hN : k' ≤ c.N) : ∀ i n o, (i, n, o) ∈ (c.st k').objs → i < k → (i, n, o) ∈ (c.st k).objs := by
  induction hk with
  | refl => intro i n o h _; exact h
  | step hk ih =>
    rename_i m
    have hk : k ≤ m := hk
    intro i n o h hi
    obtain ⟨x, hx⟩ := c.inf_lt (show m < c.N from hN)
    rcases c.objs_succ hx with h1 | ⟨o', h1, _⟩
    · rw [h1] at h; exact ih (Nat.le_of_lt hN) i n o h hi
    · rw [h1] at h
      rcases List.mem_cons.1 h with q | q
      · cases q; omega
      · exact ih (Nat.le_of_lt hN) i n o q hi

theorem objs_fn : ∀ k, k ≤ c.N → ∀ i n o j o', (i, n, o) ∈ (c.st k).objs → (j, n, o') ∈ (c.st k).objs → i = j ∧ o = o' := by
  intro k
  induction k with
  | zero => intro _ i n o j o' h; rw [c.start] at h; cases h
  | succ k ih =>
    intro hk i n o j o' h1 h2
    have e1 := (c.objs_lt (k + 1) hk i n o h1).2.1
    have e2 := (c.objs_lt (k + 1) hk j n o' h2).2.1
    have hij : i = j := by omega
    subst hij
    refine ⟨rfl, ?_⟩
    obtain ⟨x, hx⟩ := c.inf_lt (show k < c.N by omega)
    rcases c.objs_succ hx with h3 | ⟨o2, h3, _⟩
    · rw [h3] at h1 h2; exact (ih (by omega) i n o i o' h1 h2).2
    · rw [h3] at h1 h2
      rcases List.mem_cons.1 h1 with q1 | q1
      · cases q1
        rcases List.mem_cons.1 h2 with q2 | q2
        · cases q2; rfl
        · have := (c.objs_lt k (by omega) _ _ _ q2).1; omega
      · rcases List.mem_cons.1 h2 with q2 | q2
        · cases q2
          have := (c.objs_lt k (by omega) _ _ _ q1).1; omega
        · exact (ih (by omega) i n o i o' q1 q2).2

/-- of all objects those ahead, or of the first ones -/
theorem ext_anc {k : Nat} {x : OpI} (hx : c.inf k = some x) {k' : Nat} (hk : k ≤ k') (hN : k' ≤ c.N) (ins : Nat) (h : VH) (n : Nat) (o : VObj) :
    (ext (c.st k').objs x.anc ins h).get n = some o ↔ (ext (c.st c.N).objs x.anc ins h).get n = some o := by
  rw [ext_get _ _ _ _ (c.objs_fn k' hN), ext_get _ _ _ _ (c.objs_fn c.N (Nat.le_refl _))]
  have : ∀ o, Laid (c.st k').objs x.anc ins n o ↔ Laid (c.st c.N).objs x.anc ins n o := by
    intro o
    constructor
    · rintro ⟨i, h1, h2, h3⟩
      exact ⟨i, c.objs_mono hN (Nat.le_refl _) _ h1, h2, h3⟩
    · rintro ⟨i, h1, h2, h3⟩
      have := c.anc_lt hx h2
      exact ⟨i, c.objs_back hN (Nat.le_refl _) i n o h1 (by omega), h2, h3⟩
  simp only [this]

theorem look_anc {k : Nat} {x : OpI} (hx : c.inf k = some x) {k' : Nat} (hk : k ≤ k') (hN : k' ≤ c.N) {ins : Nat} {h : VH} {r : OpR} {v : Value} (e : lookR r (ext (c.st k').objs x.anc ins h) = some v) :
    lookR r (ext (c.st c.N).objs x.anc ins h) = some v := lookR_mono (fun n o q => (c.ext_anc hx hk hN ins h n o).1 q) e

/-! ### heaps between effects -/

theorem h_succ {k : Nat} {x : OpI} (h : c.inf k = some x) (he : c.eff k = false) : (c.st (k + 1)).h = (c.st k).h ∧ (c.st (k + 1)).ins = (c.st k).ins := by
  have := c.ev k x h
  cases this with
  | e hc hw h1 hr hn ho he' hs => rw [he] at he'; cases he'
  | _ => rename_i hs; rw [hs]; exact ⟨rfl, rfl⟩

theorem h_const {k k' : Nat} (hk : k ≤ k') (hN : k' ≤ c.N) (hn : ∀ j, k ≤ j → j < k' → c.eff j = false) : (c.st k').h = (c.st k).h ∧ (c.st k').ins = (c.st k).ins := by
  induction hk with
  | refl => exact ⟨rfl, rfl⟩
  | step hk ih =>
    rename_i m
    have hk : k ≤ m := hk
    obtain ⟨x, hx⟩ := c.inf_lt (show m < c.N from hN)
    obtain ⟨h1, h2⟩ := ih (Nat.le_of_lt hN) (fun j q1 q2 => hn j q1 (by omega))
    obtain ⟨h3, h4⟩ := c.h_succ hx (hn m hk (Nat.lt_succ_self m))
    exact ⟨h3.trans h1, h4.trans h2⟩

/-- snapshots -/
theorem snap_get : ∀ k, k ≤ c.N → ∀ j, j < k → c.eff j = true → ∃ (d : Nat) (s : Snap), (c.st k).snaps[d]? = some s ∧ s.e = j ∧ s.h = (c.st j).h ∧ s.ins = (c.st j).ins ∧ ∀ (i : Nat) (s' : Snap), i ≤ d → (c.st k).snaps[i]? = some s' → j ≤ s'.e ∧ s'.e < k ∧ c.eff s'.e = true := by
  intro k
  induction k with
  | zero => intro _ j hj; omega
  | succ k ih =>
    intro hk j hj he
    obtain ⟨x, hx⟩ := c.inf_lt (show k < c.N by omega)
    have hev := c.ev k x hx
    by_cases hek : c.eff k = true
    · have hs : (c.st (k + 1)).snaps = ⟨k, (c.st k).h, (c.st k).ins⟩ :: (c.st k).snaps := by
        cases hev with
        | e hc hw h1 hr hn ho he' hs => rw [hs, c.inf_i hx]
        | _ => rename_i he' hs; rw [hek] at he'; cases he'
      rw [hs]
      by_cases hjk : j = k
      · subst hjk
        refine ⟨0, _, rfl, rfl, rfl, rfl, ?_⟩
        intro i s' hi h'
        have : i = 0 := by omega
        subst this
        simp at h'; subst h'
        exact ⟨Nat.le_refl _, Nat.lt_succ_self _, hek⟩
      · obtain ⟨d, s, g1, g2, g3, g4, g5⟩ := ih (by omega) j (by omega) he
        refine ⟨d + 1, s, by simpa using g1, g2, g3, g4, ?_⟩
        intro i s' hi h'
        cases i with
        | zero => simp at h'; subst h'; exact ⟨by show j ≤ k; omega, Nat.lt_succ_self _, hek⟩
        | succ i =>
          obtain ⟨q1, q2, q3⟩ := g5 i s' (by omega) (by simpa using h')
          exact ⟨q1, by omega, q3⟩
    · have hs : (c.st (k + 1)).snaps = (c.st k).snaps := by
        cases hev with
        | e hc hw h1 hr hn ho he' hs => exact absurd he' hek
        | _ => rename_i hs; rw [hs]
      rw [hs]
      have hjk : j ≠ k := fun q => by subst q; exact hek he
      obtain ⟨d, s, g1, g2, g3, g4, g5⟩ := ih (by omega) j (by omega) he
      refine ⟨d, s, g1, g2, g3, g4, ?_⟩
      intro i s' hi h'
      obtain ⟨q1, q2, q3⟩ := g5 i s' hi h'
      exact ⟨q1, by omega, q3⟩

theorem reads_mono {k k' : Nat} (hk : k ≤ k') (hN : k' ≤ c.N) : ∀ p, p ∈ (c.st k).reads → p ∈ (c.st k').reads := by
  induction hk with
  | refl => intro p h; exact h
  | step hk ih =>
    rename_i m
    intro p h
    obtain ⟨x, hx⟩ := c.inf_lt (show m < c.N from hN)
    have h0 := ih (Nat.le_of_lt hN) p h
    have := c.ev m x hx
    cases this with
    | l hw hr ho he hs => rw [hs]; exact List.mem_cons_of_mem _ h0
    | _ => rename_i hs; rw [hs]; exact h0

/-- what is read is read in every heap that the order allows -/
theorem read_at {k : Nat} {x : OpI} (hx : c.inf k = some x) (he : c.eff k = false) (hr : lookR (vopK c.P (c.st k).a.eval x.o.op) (ext (c.st k).objs x.anc (c.st k).ins (c.st k).h) = some (c.val k))
    (ho : oldReads (c.st k).objs x (vopK c.P (c.st k).a.eval x.o.op) (c.val k) (c.st k).snaps = true) (hrd : (x, vopK c.P (c.st k).a.eval x.o.op, c.val k) ∈ (c.st (k + 1)).reads)
    {q : Nat} (hq : q ≤ c.N) (h1 : ∀ e, c.eff e = true → Nat.testBit x.anc e = true → e < q) (h2 : ∀ e y, c.inf e = some y → c.eff e = true → e < q → Nat.testBit y.anc k = false) :
    lookR (vopK c.P (c.st k).a.eval x.o.op) (ext (c.st c.N).objs x.anc (c.st q).ins (c.st q).h) = some (c.val k) := by
  have hkN := c.lt_inf hx
  rcases Nat.lt_or_ge k q with hkq | hqk
  · -- behind
    by_cases hex : ∃ e, k ≤ e ∧ e < q ∧ c.eff e = true
    · -- the last effect ahead of q
      obtain ⟨e, g1, g2, g3, g4⟩ : ∃ e, k ≤ e ∧ e < q ∧ c.eff e = true ∧ ∀ j, e < j → j < q → c.eff j = false := by
        clear h2 h1
        have : ∀ d q', q' = d + k → (∃ e, k ≤ e ∧ e < q' ∧ c.eff e = true) → ∃ e, k ≤ e ∧ e < q' ∧ c.eff e = true ∧ ∀ j, e < j → j < q' → c.eff j = false := by
          intro d
          induction d with
          | zero => intro q' hq' ⟨e, h1, h2, _⟩; omega
          | succ d ih =>
            intro q' hq' ⟨e, h1, h2, h3⟩
            by_cases hl : c.eff (d + k) = true
            · exact ⟨d + k, by omega, by omega, hl, fun j q1 q2 => by omega⟩
            · have hne : e ≠ d + k := fun q => by subst q; exact hl h3
              obtain ⟨e', k1, k2, k3, k4⟩ := ih (d + k) rfl ⟨e, h1, by omega, h3⟩
              refine ⟨e', k1, by omega, k3, fun j q1 q2 => ?_⟩
              by_cases hj : j = d + k
              · subst hj; simpa using hl
              · exact k4 j q1 (by omega)
        exact this (q - k) q (by omega) hex
      obtain ⟨y, hy⟩ := c.inf_lt (show e < c.N by omega)
      obtain ⟨hh, hi⟩ := c.h_const (k := e + 1) (k' := q) (by omega) hq (fun j q1 q2 => g4 j (by omega) q2)
      rw [hh, hi]
      have hke : k ≠ e := fun q => by subst q; rw [he] at g3; cases g3
      have hev := c.ev e y hy
      cases hev with
      | e hc hw hh1 hr1 hn1 ho1 he1 hs1 =>
        have hm := c.reads_mono (k := k + 1) (k' := e) (by omega) (by omega) _ hrd
        have := newReads_get ho1 _ _ _ hm (by rw [c.inf_i hx]; exact h2 e y hy g3 g2)
        rw [hs1]
        exact c.look_anc hx (k' := e) (by omega) (by omega) this
      | _ => rename_i he' hs; rw [g3] at he'; cases he'
    · have hn : ∀ j, k ≤ j → j < q → c.eff j = false := fun j q1 q2 => by
        cases hj : c.eff j with
        | false => rfl
        | true => exact absurd ⟨j, q1, q2, hj⟩ hex
      obtain ⟨hh, hi⟩ := c.h_const (k := k) (k' := q) (by omega) hq hn
      rw [hh, hi]
      exact c.look_anc hx (Nat.le_refl _) (by omega) hr
  · by_cases hex : ∃ e, q ≤ e ∧ e < k ∧ c.eff e = true
    · -- the first effect behind q
      obtain ⟨e, g1, g2, g3, g4⟩ : ∃ e, q ≤ e ∧ e < k ∧ c.eff e = true ∧ ∀ j, q ≤ j → j < e → c.eff j = false := by
        clear h2 h1
        obtain ⟨e0, h1, h2, h3⟩ := hex
        have : ∀ d, (∃ e, q ≤ e ∧ e < q + d ∧ c.eff e = true) → ∃ e, q ≤ e ∧ e < q + d ∧ c.eff e = true ∧ ∀ j, q ≤ j → j < e → c.eff j = false := by
          intro d
          induction d with
          | zero => intro ⟨e, h1, h2, _⟩; omega
          | succ d ih =>
            intro ⟨e, h1, h2, h3⟩
            by_cases hl : ∃ e, q ≤ e ∧ e < q + d ∧ c.eff e = true
            · obtain ⟨e', k1, k2, k3, k4⟩ := ih hl
              exact ⟨e', k1, by omega, k3, k4⟩
            · refine ⟨e, h1, h2, h3, fun j q1 q2 => ?_⟩
              cases hj : c.eff j with
              | false => rfl
              | true => exact absurd ⟨j, q1, by omega, hj⟩ hl
        obtain ⟨e', k1, k2, k3, k4⟩ := this (k - q) ⟨e0, h1, by omega, h3⟩
        exact ⟨e', k1, by omega, k3, k4⟩
      obtain ⟨hh, hi⟩ := c.h_const (k := q) (k' := e) g1 (by omega) g4
      rw [← hh, ← hi]
      obtain ⟨d, s, k1, k2, k3, k4, k5⟩ := c.snap_get k (by omega) e g2 g3
      have := oldReads_get ho d s k1 (fun i s' hi hs => by
        obtain ⟨q1, q2, q3⟩ := k5 i s' hi hs
        cases hb : Nat.testBit x.anc s'.e with
        | false => rfl
        | true => have := h1 s'.e q3 hb; omega)
      rw [k3, k4] at this
      exact c.look_anc hx (Nat.le_refl _) (by omega) this
    · have hn : ∀ j, q ≤ j → j < k → c.eff j = false := fun j q1 q2 => by
        cases hj : c.eff j with
        | false => rfl
        | true => exact absurd ⟨j, q1, q2, hj⟩ hex
      obtain ⟨hh, hi⟩ := c.h_const (k := q) (k' := k) hqk (by omega) hn
      rw [← hh, ← hi]
      exact c.look_anc hx (Nat.le_refl _) (by omega) hr

end DC
end Go.Proofs.YtonkcdnpmemheaaGreat.Vm

namespace Go.Proofs.YtonkcdnpmemheaaGreat.Vm

theorem AR.congr {σ : Ren} {n : Nat} {ro : Option Nat} {A B : VAct} {a : Act} (r : AR σ n ro A a) (h : ∀ t, B.get t = A.get t) (hd : B.defers = A.defers) (hr : B.ro = A.ro) : AR σ n ro B a :=
  ⟨fun t => by rw [h]; exact r.tm t, r.sz, by rw [hd]; exact r.df, by rw [hr]; exact r.rd⟩

def maskS (S : Nat → Bool) : Nat → Nat
  | 0 => 0
  | k + 1 => if S k then maskS S k ||| (2 ^ k) else maskS S k

theorem maskS_bit (S : Nat → Bool) : ∀ (n j : Nat), Nat.testBit (maskS S n) j = true ↔ (j < n ∧ S j = true) := by
  intro n
  induction n with
  | zero => intro j; simp [maskS]
  | succ n ih =>
    intro j
    unfold maskS
    split
    · rename_i hs
      rw [Nat.testBit_or, Nat.testBit_two_pow]
      simp only [Bool.or_eq_true, decide_eq_true_eq, ih]
      constructor
      · rintro (⟨h1, h2⟩ | h)
        · exact ⟨by omega, h2⟩
        · subst h; exact ⟨by omega, hs⟩
      · rintro ⟨h1, h2⟩
        by_cases hj : n = j
        · exact .inr hj
        · exact .inl ⟨by omega, h2⟩
    · rename_i hs
      rw [ih]
      constructor
      · rintro ⟨h1, h2⟩; exact ⟨by omega, h2⟩
      · rintro ⟨h1, h2⟩
        have : j ≠ n := fun q => by subst q; exact hs h2
        exact ⟨by omega, h2⟩

/-- one more -/
def addS (S : Nat → Bool) (k : Nat) : Nat → Bool := fun i => if i = k then true else S i
theorem addS_same (S : Nat → Bool) (k : Nat) : addS S k k = true := if_pos rfl
theorem addS_other (S : Nat → Bool) {k i : Nat} (h : i ≠ k) : addS S k i = S i := if_neg h

theorem memValue_semAt {P : Program} {ρ : Operand → Value} {o : Oper} {m : HM Next} {v : Value} {h h1 : VH} (e : vopK P ρ o.op = .mem m) (hm : m.run h = some (.value v, h1)) (ro : Option Nat) (ρ' : Operand → Value) : o.semAt ro ρ' = execOp ρ' o := by
  refine Oper.semAt_eq ro ρ' o (fun c hc => ?_)
  rw [hc] at e
  cases e
  have hm' : (vdeferOp ρ c).run h = some (.value v, h1) := hm
  unfold vdeferOp at hm'
  split at hm'
  · cases hm'
  · cases hm'

theorem Trie.none_get {nx al n : Nat} : (VH.mk .e nx al).get n = none := rfl

namespace DC
variable (c : DC)

def isObj (i : Nat) : Prop := ∃ o, (i, c.base + i, o) ∈ (c.st c.N).objs
/-- the reserved names -/
def ZS (Z : Nat → Prop) (S : Nat → Bool) : Nat → Prop := fun n => Z n ∨ ∃ i, i < c.N ∧ n = c.base + i ∧ ¬ (S i = true ∧ c.isObj i)
noncomputable def HS (S : Nat → Bool) (q : Nat) : VH := ext (c.st c.N).objs (maskS S c.N) (c.st q).ins (c.st q).h

theorem HS_get (S : Nat → Bool) (q n : Nat) (o : VObj) : (c.HS S q).get n = some o ↔ (Laid (c.st c.N).objs (maskS S c.N) (c.st q).ins n o ∨ ((∀ o', ¬ Laid (c.st c.N).objs (maskS S c.N) (c.st q).ins n o') ∧ (c.st q).h.get n = some o)) :=
  ext_get _ _ _ _ (c.objs_fn c.N (Nat.le_refl _)) n o
theorem HS_nx (S : Nat → Bool) (q : Nat) : (c.HS S q).nx = (c.st q).h.nx ∧ (c.HS S q).al = (c.st q).h.al := ext_nx _ _ _ _

theorem laid_S {S : Nat → Bool} {ins n : Nat} {o : VObj} : Laid (c.st c.N).objs (maskS S c.N) ins n o ↔ ∃ i, i < c.N ∧ n = c.base + i ∧ (i, c.base + i, o) ∈ (c.st c.N).objs ∧ S i = true ∧ Nat.testBit ins i = false := by
  constructor
  · rintro ⟨i, h1, h2, h3⟩
    obtain ⟨g1, g2⟩ := (maskS_bit S c.N i).1 h2
    have hn := (c.objs_lt c.N (Nat.le_refl _) i n o h1).2.1
    subst hn
    exact ⟨i, g1, rfl, h1, g2, h3⟩
  · rintro ⟨i, h1, rfl, h2, h3, h4⟩
    exact ⟨i, h2, (maskS_bit S c.N i).2 ⟨h1, h3⟩, h4⟩

theorem nx_le : ∀ q, q ≤ c.N → (c.st q).h.nx ≤ KB ∧ (c.st q).h.al = (c.st q).h.nx := by
  intro q
  induction q with
  | zero => intro _; rw [c.start]; exact c.hb
  | succ q ih =>
    intro hq
    obtain ⟨x, hx⟩ := c.inf_lt (show q < c.N by omega)
    by_cases he : c.eff q = true
    · have := c.ev q x hx
      cases this with
      | e hc hw h1 hr hn ho he' hs => rw [hs]; exact hn
      | _ => rename_i he' hs; rw [he] at he'; cases he'
    · obtain ⟨h1, _⟩ := c.h_succ hx (by simpa using he)
      rw [h1]
      exact ih (by omega)

structure Inv (W : Frm) (n : Nat) (ro : Option Nat) (S : Nat → Bool) (q : Nat) (σ : Ren) (a : Act) (w : World) : Prop where
  clo : ∀ i y, c.inf i = some y → S i = true → ∀ j, Nat.testBit y.anc j = true → S j = true
  hq : ∀ e, e < c.N → c.eff e = true → (S e = true ↔ e < q)
  qN : q ≤ c.N
  ar : AR σ n ro (c.AS S c.N) a
  r : R { W with Z := c.ZS W.Z S } c.P σ (c.HS S q) w
  inv : ∀ i, i < c.N → (c.st q).h.get (c.base + i) ≠ none → Nat.testBit (c.st q).ins i = true

/-- the slots with one operation more -/
theorem AS_add {S : Nat → Bool} {k : Nat} {x : OpI} (hx : c.inf k = some x) (hk : S k = false) (t : Nat) : (c.AS (addS S k) c.N).get t = ((c.AS S c.N).put x.o.dst (c.val k)).get t := by
  have hkN := c.lt_inf hx
  have other : x.o.dst ≠ some t → (c.AS (addS S k) c.N).get t = (c.AS S c.N).get t := by
    intro hne
    by_cases hex : ∃ j y, c.inf j = some y ∧ S j = true ∧ y.o.dst = some t
    · obtain ⟨j, y, h1, h2, h3⟩ := hex
      have hjk : j ≠ k := fun q => by subst q; rw [hk] at h2; cases h2
      rw [c.AS_in _ _ (Nat.le_refl _) j y t (c.lt_inf h1) h1 (by rw [addS_other S hjk]; exact h2) h3, c.AS_in _ _ (Nat.le_refl _) j y t (c.lt_inf h1) h1 h2 h3]
    · rw [c.AS_out _ _ (Nat.le_refl _) t, c.AS_out _ _ (Nat.le_refl _) t]
      · intro j y _ h1 h2 h3; exact hex ⟨j, y, h1, h2, h3⟩
      · intro j y _ h1 h2 h3
        by_cases hjk : j = k
        · subst hjk; rw [hx] at h1; cases h1; exact hne h3
        · rw [addS_other S hjk] at h2; exact hex ⟨j, y, h1, h2, h3⟩
  cases hd : x.o.dst with
  | none => exact other (by rw [hd]; simp)
  | some d =>
    rw [VAct.get_put]
    by_cases htd : t = d
    · subst htd
      rw [if_pos rfl, c.AS_in _ _ (Nat.le_refl _) k x t hkN hx (addS_same S k) hd]
    · rw [if_neg htd]
      exact other (by rw [hd]; simp; exact fun q => htd q.symm)

theorem AR_add {S : Nat → Bool} {k : Nat} {x : OpI} (hx : c.inf k = some x) (hk : S k = false) {σ : Ren} {n : Nat} {ro : Option Nat} {a : Act} (r : AR σ n ro ((c.AS S c.N).put x.o.dst (c.val k)) a) : AR σ n ro (c.AS (addS S k) c.N) a :=
  r.congr (c.AS_add hx hk) (by rw [VAct.put_defers, (c.AS_rest S _).1, (c.AS_rest _ _).1]) (by rw [VAct.put_ro, (c.AS_rest S _).2, (c.AS_rest _ _).2])

theorem clo_add {S : Nat → Bool} {k : Nat} {x : OpI} (hx : c.inf k = some x) (hanc : ∀ j, Nat.testBit x.anc j = true → S j = true) (hclo : ∀ i y, c.inf i = some y → S i = true → ∀ j, Nat.testBit y.anc j = true → S j = true) :
    ∀ i y, c.inf i = some y → addS S k i = true → ∀ j, Nat.testBit y.anc j = true → addS S k j = true := by
  intro i y hy hi j hj
  by_cases hjk : j = k
  · rw [hjk]; exact addS_same S k
  · rw [addS_other S hjk]
    by_cases hik : i = k
    · subst hik; rw [hx] at hy; cases hy; exact hanc j hj
    · rw [addS_other S hik] at hi; exact hclo i y hy hi j hj

theorem ZS_add {Z : Nat → Prop} {S : Nat → Bool} {k n : Nat} (h : c.ZS Z (addS S k) n) : c.ZS Z S n := by
  rcases h with h | ⟨i, h1, h2, h3⟩
  · exact .inl h
  · refine .inr ⟨i, h1, h2, fun ⟨g1, g2⟩ => h3 ⟨?_, g2⟩⟩
    by_cases hik : i = k
    · rw [hik]; exact addS_same S k
    · rw [addS_other S hik]; exact g1

variable {c} {W : Frm} {n : Nat} {ro : Option Nat} {S : Nat → Bool} {q : Nat} {σ : Ren} {a : Act} {w : World}

/-- an operation that touches no memory has been carried out -/
theorem Inv.pure (h : c.Inv W n ro S q σ a w) {k : Nat} {x : OpI} (hx : c.inf k = some x) (hk : S k = false) (hanc : ∀ j, Nat.testBit x.anc j = true → S j = true) (he : c.eff k = false) (ho : ¬ c.isObj k) {τ : Ren} {a' : Act} {w' : World} (hle : σ.le τ)
    (r : R { W with Z := c.ZS W.Z S } c.P τ (c.HS S q) w') (ar : AR τ n ro ((c.AS S c.N).put x.o.dst (c.val k)) a') : c.Inv W n ro (addS S k) q τ a' w' := by
  refine ⟨c.clo_add hx hanc h.clo, ?_, h.qN, c.AR_add hx hk ar, ?_, h.inv⟩
  · intro e heN hee
    have hek : e ≠ k := fun q => by subst q; rw [he] at hee; cases hee
    rw [addS_other S hek]; exact h.hq e heN hee
  · have hr : R { W with Z := c.ZS W.Z (addS S k) } c.P τ (c.HS S q) w' := r.fewer (fun n hz => c.ZS_add hz)
    refine hr.less ?_ ?_ ?_ ?_
    · rw [(c.HS_nx _ _).1, (c.HS_nx _ _).1]; exact Nat.le_refl _
    · have := hr.al; rw [(c.HS_nx _ _).2] at this ⊢; exact this
    · have := hr.zal; rw [(c.HS_nx _ _).2] at this ⊢; exact this
    · intro m o e
      rw [HS_get] at e ⊢
      have hl : ∀ o, Laid (c.st c.N).objs (maskS (addS S k) c.N) (c.st q).ins m o ↔ Laid (c.st c.N).objs (maskS S c.N) (c.st q).ins m o := by
        intro o
        rw [c.laid_S, c.laid_S]
        constructor
        · rintro ⟨i, h1, h2, h3, h4, h5⟩
          have hik : i ≠ k := fun q => by subst q; exact ho ⟨o, h3⟩
          rw [addS_other S hik] at h4
          exact ⟨i, h1, h2, h3, h4, h5⟩
        · rintro ⟨i, h1, h2, h3, h4, h5⟩
          have hik : i ≠ k := fun q => by subst q; rw [hk] at h4; cases h4
          exact ⟨i, h1, h2, h3, by rw [addS_other S hik]; exact h4, h5⟩
      simp only [hl] at e
      exact e

/-- a new object -/
theorem Inv.new (hP : POk c.P) (h : c.Inv W n ro S q σ a w) (hW : ∀ n, W.Z n → n < c.base) {k : Nat} {x : OpI} (hx : c.inf k = some x) (hk : S k = false) (hanc : ∀ j, Nat.testBit x.anc j = true → S j = true) (he : c.eff k = false)
    {m : HM Next} {h1 : VH} {o : VObj} (hr : vopK c.P (c.AS S c.N).eval x.o.op = .mem m) (hm : m.run ⟨.e, KB, c.base + k⟩ = some (.value (c.val k), h1)) (ho : h1.get (c.base + k) = some o) (hn : h1.nx = KB) (hob : (k, c.base + k, o) ∈ (c.st c.N).objs) (hd : ∀ d : Nat, x.o.dst = some d → d < n) :
    ∃ v' w' τ, (execOp a.eval x.o).run c.P w = .ok (.value v') w' ∧ σ.le τ ∧ c.Inv W n ro (addS S k) q τ (a.put x.o.dst v') w' := by
  have hkN := c.lt_inf hx
  have hnx := c.nx_le q h.qN
  have hzk : c.ZS W.Z S (c.base + k) := .inr ⟨k, hkN, rfl, fun ⟨g, _⟩ => by rw [hk] at g; cases g⟩
  have hkn : c.base + k < (c.st q).h.nx := by have := h.r.zlt _ hzk; rw [(c.HS_nx _ _).1] at this; exact this
  have hpart := h.r.part (h0 := ⟨.e, KB, c.base + k⟩) (Z := fun n => c.ZS W.Z (addS S k) n ∨ ((c.st q).h.nx ≤ n ∧ n < KB)) (fun _ _ e => by rw [Trie.none_get] at e; cases e)
    (fun m' _ e => by have := h.r.lt _ _ e; rw [(c.HS_nx _ _).1] at this; exact Nat.lt_of_lt_of_le this hnx.1)
    (fun m' e => by
      rcases e with e | ⟨e, _⟩
      · exact h.r.res _ (c.ZS_add e)
      · exact h.r.none_ge (by rw [(c.HS_nx _ _).1]; exact e))
    (fun m' e => by
      rcases e with e | ⟨_, e⟩
      · have := h.r.zlt _ (c.ZS_add e); rw [(c.HS_nx _ _).1] at this; exact Nat.lt_of_lt_of_le this hnx.1
      · exact e)
    (h.r.res _ hzk)
    (fun e => by
      rcases e with (e | ⟨i, h1, h2, h3⟩) | ⟨e, _⟩
      · have := hW _ e
        have : c.base + k < c.base := this
        omega
      · have h2 : c.base + k = c.base + i := h2
        have : i = k := by omega
        subst this
        exact h3 ⟨addS_same S i, o, hob⟩
      · have e : (c.st q).h.nx ≤ c.base + k := e
        omega)
  obtain ⟨y, w', τ, e1, e2, e3, e4⟩ := memOp_sim hP (o := x.o) (ρ' := a.eval) h.ar.eval hpart hr hm
  cases e4 with
  | value hv =>
    rename_i v'
    refine ⟨v', w', τ, e1, e2, c.clo_add hx hanc h.clo, ?_, h.qN, c.AR_add hx hk ((h.ar.mono e2).put hd hv), ?_, h.inv⟩
    · intro e heN hee
      have hek : e ≠ k := fun q => by subst q; rw [he] at hee; cases hee
      rw [addS_other S hek]; exact h.hq e heN hee
    · have key := h.r.merge (H1 := c.HS (addS S k) q) (Z1 := c.ZS W.Z (addS S k)) e2 e3 (by
          intro m' o' e
          rw [HS_get] at e
          by_cases hl : ∃ o2, Laid (c.st c.N).objs (maskS S c.N) (c.st q).ins m' o2
          · obtain ⟨o2, hl⟩ := hl
            right
            refine ⟨?_, Trie.none_get⟩
            have hl2 : Laid (c.st c.N).objs (maskS (addS S k) c.N) (c.st q).ins m' o2 := by
              rw [c.laid_S] at hl ⊢
              obtain ⟨i, g1, g2, g3, g4, g5⟩ := hl
              have hik : i ≠ k := fun q => by subst q; rw [hk] at g4; cases g4
              exact ⟨i, g1, g2, g3, by rw [addS_other S hik]; exact g4, g5⟩
            have : o' = o2 := by
              rcases e with e | ⟨e, _⟩
              · obtain ⟨i, g1, _⟩ := e
                obtain ⟨j, k1, _⟩ := hl
                exact (c.objs_fn c.N (Nat.le_refl _) i m' o' j o2 g1 k1).2
              · exact absurd hl2 (e o2)
            subst this
            rw [HS_get]; exact .inl hl
          · rcases e with e | ⟨e, e'⟩
            · left
              rw [c.laid_S] at e
              obtain ⟨i, g1, g2, g3, g4, g5⟩ := e
              have hik : i = k := by
                rcases Nat.decEq i k with q | q
                · rw [addS_other S q] at g4
                  exact absurd ⟨o', (c.laid_S).2 ⟨i, g1, g2, g3, g4, g5⟩⟩ hl
                · exact q
              subst hik
              have := (c.objs_fn c.N (Nat.le_refl _) _ _ o' _ o g3 hob).2
              subst this
              rw [g2]; exact ho
            · right
              refine ⟨?_, Trie.none_get⟩
              rw [HS_get]
              exact .inr ⟨fun o2 hl2 => hl ⟨o2, hl2⟩, e'⟩)
        (by
          intro m' _ e
          rw [(c.HS_nx _ _).1]
          rcases Nat.lt_or_ge m' (c.st q).h.nx with g | g
          · exact g
          · have h2 := e3.lt _ _ e
            rw [hn] at h2
            have := e3.res m' (.inr ⟨g, h2⟩)
            rw [e] at this; cases this)
        (fun m' e => e3.res m' (.inl e))
        (fun m' e => by have := h.r.zlt _ (c.ZS_add e); rw [(c.HS_nx _ _).1] at this ⊢; exact this)
        (by
          rw [(c.HS_nx _ _).2, hnx.2]
          rcases Nat.lt_or_ge (c.st q).h.nx KB with g | g
          · exact e3.res _ (.inr ⟨Nat.le_refl _, g⟩)
          · exact e3.none_ge (by rw [hn]; exact g))
        (fun e => by
          have := h.r.zal
          rw [(c.HS_nx _ _).2] at this e
          exact this (c.ZS_add e))
      exact key

end DC
end Go.Proofs.YtonkcdnpmemheaaGreat.Vm

namespace Go.Proofs.YtonkcdnpmemheaaGreat.Vm
namespace DC
variable {c : DC} {W : Frm} {n : Nat} {ro : Option Nat} {S : Nat → Bool} {q : Nat} {σ : Ren} {a : Act} {w : World}

theorem put_eq {A : VAct} {dst : Option Tmp} {u v : Value} (h : A.put dst u = A.put dst v) : dst = none ∨ u = v := by
  cases dst with
  | none => exact .inl rfl
  | some d =>
    right
    have := congrArg (fun B => VAct.get B d) h
    simp only [VAct.get_put, if_true] at this
    exact this

/-- an effect -/
theorem Inv.effect (hP : POk c.P) (hrec : RecOk c.P c.rc) (h : c.Inv W n ro S q σ a w) {k : Nat} {x : OpI} (hx : c.inf k = some x) (hk : S k = false) (hanc : ∀ j, Nat.testBit x.anc j = true → S j = true) (he : c.eff k = true)
    {h1 : VH} (hr : vop1 c.P c.rc x.o (c.st k).a (ext (c.st k).objs x.anc (c.st k).ins (c.st k).h) = some ((c.st k).a.put x.o.dst (c.val k), h1)) (hh : (c.st (k + 1)).h = h1) (hi : (c.st (k + 1)).ins = aMask (c.st k).objs x.anc (c.st k).ins)
    (hd : ∀ d : Nat, x.o.dst = some d → d < n) {K : Act → World → Prop} {Q : Exit → Act → World → Prop} (hK : ∀ τ a' w', σ.le τ → c.Inv W n ro (addS S k) (k + 1) τ a' w' → K a' w') : Oper.wpIn (FW ro) 0 c.P x.o a w K Q := by
  have hkN := c.lt_inf hx
  have hqk : q ≤ k := by
    have := h.hq k hkN he
    rw [hk] at this
    rcases Nat.lt_or_ge k q with g | g
    · exact absurd (this.2 g) (by simp)
    · exact g
  have hnone : ∀ j, q ≤ j → j < k → c.eff j = false := by
    intro j h1 h2
    cases hj : c.eff j with
    | false => rfl
    | true =>
      have := hanc j (c.eff_anc hx hj he h2)
      have := (h.hq j (by omega) hj).1 this
      omega
  obtain ⟨hhq, hiq⟩ := c.h_const hqk (Nat.le_of_lt hkN) hnone
  obtain ⟨v', hv', hr'⟩ := vop1_congr (b := c.AS S c.N) hr (by rw [VAct.put_defers]) (vopK_congr _ fun z hz => (c.eval_S hx hk hanc h.clo z hz).symm)
  have hput : (c.AS S c.N).put x.o.dst v' = (c.AS S c.N).put x.o.dst (c.val k) := by
    rcases put_eq hv' with g | g
    · rw [g]; rfl
    · rw [g]
  rw [hput] at hr'
  -- what the part knows
  have hg0 : ∀ m o, (ext (c.st k).objs x.anc (c.st k).ins (c.st k).h).get m = some o ↔ (Laid (c.st k).objs x.anc (c.st q).ins m o ∨ ((∀ o', ¬ Laid (c.st k).objs x.anc (c.st q).ins m o') ∧ (c.st q).h.get m = some o)) := by
    intro m o
    rw [ext_get _ _ _ _ (c.objs_fn k (Nat.le_of_lt hkN)), hhq, hiq]
  have hlaid : ∀ m o, Laid (c.st k).objs x.anc (c.st q).ins m o → Laid (c.st c.N).objs (maskS S c.N) (c.st q).ins m o := by
    rintro m o ⟨i, g1, g2, g3⟩
    have := c.anc_lt hx g2
    exact ⟨i, c.objs_mono (Nat.le_of_lt hkN) (Nat.le_refl _) _ g1, (maskS_bit S c.N i).2 ⟨by omega, hanc i g2⟩, g3⟩
  have hsub : ∀ m o, (ext (c.st k).objs x.anc (c.st k).ins (c.st k).h).get m = some o → (c.HS S q).get m = some o := by
    intro m o e
    rw [HS_get]
    rcases (hg0 m o).1 e with g | ⟨g1, g2⟩
    · exact .inl (hlaid m o g)
    · right
      refine ⟨fun o' hl => ?_, g2⟩
      rw [c.laid_S] at hl
      obtain ⟨i, k1, k2, k3, k4, k5⟩ := hl
      have := h.inv i k1 (by rw [← k2, g2]; simp)
      rw [k5] at this; cases this
  have hnx0 := ext_nx (c.st k).objs x.anc (c.st k).ins (c.st k).h
  have hpart := h.r.part (h0 := ext (c.st k).objs x.anc (c.st k).ins (c.st k).h) (Z := c.ZS W.Z S) hsub
    (fun m _ e => by have := h.r.lt _ _ e; rw [(c.HS_nx _ _).1] at this; rw [hnx0.1, hhq]; exact this)
    (fun m e => h.r.res m e)
    (fun m e => by have := h.r.zlt _ e; rw [(c.HS_nx _ _).1] at this; rw [hnx0.1, hhq]; exact this)
    (by have := h.r.al; rw [(c.HS_nx _ _).2] at this; rw [hnx0.2, hhq]; exact this)
    (fun e => by have := h.r.zal; rw [(c.HS_nx _ _).2] at this; rw [hnx0.2, hhq] at e; exact this e)
  -- an object that the part does not know
  have hout : ∀ i, i < c.N → S i = true → c.isObj i → Nat.testBit (aMask (c.st k).objs x.anc (c.st k).ins) i = false → (∃ o, (c.HS S q).get (c.base + i) = some o) ∧ (ext (c.st k).objs x.anc (c.st k).ins (c.st k).h).get (c.base + i) = none := by
    intro i hiN hSi ⟨o, hob⟩ hb
    have hbq : Nat.testBit (c.st q).ins i = false := by
      cases hb2 : Nat.testBit (c.st q).ins i with
      | false => rfl
      | true =>
        have : Nat.testBit (aMask (c.st k).objs x.anc (c.st k).ins) i = true := (aMask_bit _ _ _ _).2 (.inl (by rw [hiq]; exact hb2))
        rw [hb] at this; cases this
    refine ⟨⟨o, by rw [HS_get]; exact .inl ((c.laid_S).2 ⟨i, hiN, rfl, hob, hSi, hbq⟩)⟩, ?_⟩
    cases hg : (ext (c.st k).objs x.anc (c.st k).ins (c.st k).h).get (c.base + i) with
    | none => rfl
    | some o' =>
      rcases (hg0 _ o').1 hg with ⟨j, g1, g2, g3⟩ | ⟨_, g2⟩
      · have := (c.objs_lt k (Nat.le_of_lt hkN) _ _ _ g1).2.1
        have hij : i = j := by omega
        subst hij
        have : Nat.testBit (aMask (c.st k).objs x.anc (c.st k).ins) i = true := (aMask_bit _ _ _ _).2 (.inr ⟨g2, _, _, g1⟩)
        rw [hb] at this; cases this
      · have := h.inv i hiN (by rw [g2]; simp)
        rw [hbq] at this; cases this
  refine vop1_sim hP hrec hd hr' hpart h.ar ?_
  intro τ a' w' hle r1 har
  refine hK τ a' w' hle ⟨c.clo_add hx hanc h.clo, ?_, hkN, c.AR_add hx hk har, ?_, ?_⟩
  · intro e heN hee
    by_cases hek : e = k
    · subst hek; rw [addS_same]; simp
    · rw [addS_other S hek]
      rcases Nat.lt_or_ge e k with g | g
      · have := hanc e (c.eff_anc hx hee he g)
        rw [this]; simp; omega
      · have g : k < e := by omega
        obtain ⟨y, hy⟩ := c.inf_lt heN
        have hnot : S e = false := by
          cases hs : S e with
          | false => rfl
          | true => rw [h.clo e y hy hs k (c.eff_anc hy he hee g)] at hk; cases hk
        rw [hnot]
        simp; omega
  · have key := h.r.merge (H1 := c.HS (addS S k) (k + 1)) (Z1 := c.ZS W.Z (addS S k)) hle r1 (by
        intro m o e
        rw [HS_get] at e
        rcases e with e | ⟨_, e⟩
        · right
          rw [c.laid_S] at e
          obtain ⟨i, g1, g2, g3, g4, g5⟩ := e
          have hik : i ≠ k := fun q => by
            subst q
            have := (c.objs_lt c.N (Nat.le_refl _) _ _ _ g3).2.2
            rw [he] at this; cases this
          rw [addS_other S hik] at g4
          rw [hi] at g5
          obtain ⟨⟨o2, k1⟩, k2⟩ := hout i g1 g4 ⟨o, g3⟩ g5
          have hL : Laid (c.st c.N).objs (maskS S c.N) (c.st q).ins (c.base + i) o := (c.laid_S).2 ⟨i, g1, rfl, g3, g4, by
            cases hb2 : Nat.testBit (c.st q).ins i with
            | false => rfl
            | true =>
              have : Nat.testBit (aMask (c.st k).objs x.anc (c.st k).ins) i = true := (aMask_bit _ _ _ _).2 (.inl (by rw [hiq]; exact hb2))
              rw [g5] at this; cases this⟩
          rw [g2]
          exact ⟨by rw [HS_get]; exact .inl hL, k2⟩
        · left; rw [hh] at e; exact e)
      (fun m _ e => by rw [(c.HS_nx _ _).1, hh]; exact r1.lt _ _ e)
      (fun m e => r1.res m (c.ZS_add e))
      (fun m e => by rw [(c.HS_nx _ _).1, hh]; exact r1.zlt _ (c.ZS_add e))
      (by rw [(c.HS_nx _ _).2, hh]; exact r1.al)
      (fun e => by rw [(c.HS_nx _ _).2, hh] at e; exact r1.zal (c.ZS_add e))
    exact key
  · intro i hiN hne
    rw [hh] at hne
    rw [hi]
    cases hb : Nat.testBit (aMask (c.st k).objs x.anc (c.st k).ins) i with
    | true => rfl
    | false =>
      exfalso
      cases hg : h1.get (c.base + i) with
      | none => exact hne hg
      | some o1 =>
        obtain ⟨m, O, k1, k2, k3⟩ := r1.obj _ _ hg
        by_cases hso : S i = true ∧ c.isObj i
        · obtain ⟨⟨o2, f1⟩, f2⟩ := hout i hiN hso.1 hso.2 hb
          obtain ⟨m2, O2, p1, p2, p3⟩ := h.r.obj _ _ f1
          have hm : m2 = m := by
            have := hle _ _ p1
            rw [k1] at this; cases this; rfl
          subst hm
          have hX := framed_pos (W := { W with Z := c.ZS W.Z S }) (w := w) (Z := c.ZS W.Z S) (by rw [f1]; simp) f2 p1 rfl
          have := r1.off _ _ _ hg k1
          rw [hX, p2] at this
          cases this
        · have := r1.res (c.base + i) (.inr ⟨i, hiN, rfl, hso⟩)
          rw [k1] at this; cases this

/-- an operation that is ready -/
theorem Inv.step (hP : POk c.P) (hrec : RecOk c.P c.rc) (h : c.Inv W n ro S q σ a w) (hW : ∀ n, W.Z n → n < c.base) {ops : Array Oper} (hops : ops.toList = c.L) (hb : ∀ o, o ∈ ops.toList → dstIn n o = true)
    {k : Nat} {x : OpI} (hx : c.inf k = some x) (hk : S k = false) (hanc : ∀ j, Nat.testBit x.anc j = true → S j = true) {K : Act → World → Prop} {Q : Exit → Act → World → Prop}
    (hK : ∀ q' τ a' w', σ.le τ → c.Inv W n ro (addS S k) q' τ a' w' → K a' w') : wpOpIn (FW ro) 0 c.P ops Q k K a w := by
  have hkN := c.lt_inf hx
  obtain ⟨o, ho1, ho2, ho3, _⟩ := opInfos_get hx
  have hok : ops[k]? = some x.o := by rw [← Array.getElem?_toList, hops, ho1, ho3]
  have hbj : ∀ (j : Nat) (o : Oper) (d : Nat), ops[j]? = some o → o.dst = some d → d < n := fun j o d hj hd =>
    dstIn_lt (hb o (by rw [← Array.getElem?_toList] at hj; exact List.mem_of_getElem? hj)) d hd
  have hd : ∀ d : Nat, x.o.dst = some d → d < n := fun d => hbj k x.o d hok
  have hev := c.ev k x hx
  have hwant : ∀ b, vwanted c.L (c.st k).a x.o = some b → Region.wanted x.o (yielded ops a.tmps) = b := by
    intro b hw
    rw [← c.wanted_S hx hanc, ← hops] at hw
    exact vwanted_sim h.ar hbj hw
  have hcongr := vopK_congr (P := c.P) x.o.op fun z hz => c.eval_S hx hk hanc h.clo z hz
  unfold wpOpIn
  rw [hok]
  have noObj : (c.st (k + 1)).objs = (c.st k).objs → ¬ c.isObj k := by
    rintro hs ⟨o2, ho2⟩
    have := c.objs_back (k := k + 1) (k' := c.N) hkN (Nat.le_refl _) _ _ _ ho2 (Nat.lt_succ_self k)
    rw [hs] at this
    have := (c.objs_lt k (Nat.le_of_lt hkN) _ _ _ this).1
    omega
  have goes : ∀ (v' : Value) (w' : World) (τ : Ren), Region.wanted x.o (yielded ops a.tmps) = true → (x.o.semAt ro a.eval).run c.P w = .ok (.value v') w' → K (a.put x.o.dst v') w' →
      (if Region.wanted x.o (yielded ops a.tmps) = true then Oper.wpIn (FW ro) 0 c.P x.o a w K Q else (∀ f, x.o.about c.P w a.eval = some f → (FW ro).fn f) ∧ K (a.put x.o.dst undef) w) := by
    intro v' w' τ hw hrun hKK
    rw [if_pos hw]
    refine ⟨fun _ _ => trivial, ?_⟩
    show Oper.uponIn (FW ro) 0 c.P x.o a K Q ((x.o.semAt ro a.eval).run c.P w)
    rw [hrun]
    exact hKK
  cases hev with
  | skip hw hv he hs =>
    have := hwant _ hw
    simp only [this]
    refine ⟨fun _ _ => trivial, hK q σ _ _ (Ren.le_refl σ) (h.pure hx hk hanc he (noObj (by rw [hs])) (Ren.le_refl σ) h.r ?_)⟩
    rw [hv]
    exact h.ar.put hd .undef
  | p hw hr he hs =>
    rw [← hcongr] at hr
    obtain ⟨v', e1, e2⟩ := pureOp_sim (o := x.o) (ρ' := a.eval) h.ar.eval hr
    have hsem : x.o.semAt ro a.eval = execOp a.eval x.o := Oper.semAt_eq ro a.eval x.o (fun c hc => by rw [hc] at hr; cases hr)
    refine goes v' w σ (hwant _ hw) (by rw [hsem]; exact e1 w) ?_
    exact hK q σ _ _ (Ren.le_refl σ) (h.pure hx hk hanc he (noObj (by rw [hs])) (Ren.le_refl σ) h.r (h.ar.put hd e2))
  | a hw m h1 o2 hr hm ho hn he hs =>
    rw [← hcongr] at hr
    rw [c.inf_i hx] at hm ho hs
    obtain ⟨v', w', τ, e1, e2, e3⟩ := h.new hP hW hx hk hanc he hr hm ho hn (c.objs_mono (k := k + 1) hkN (Nat.le_refl _) _ (by rw [hs]; exact List.mem_cons_self ..)) hd
    have hsem := memValue_semAt hr hm ro a.eval
    exact goes v' w' τ (hwant _ hw) (by rw [hsem]; exact e1) (hK q τ _ _ e2 e3)
  | l hw hr ho he hs =>
    have hrd := c.read_at hx he hr ho (by rw [hs]; exact List.mem_cons_self ..) h.qN
      (fun e hee hb2 => (h.hq e (by have := c.anc_lt hx hb2; omega) hee).1 (hanc e hb2))
      (fun e y hy hee heq => by
        have hSe := (h.hq e (c.lt_inf hy) hee).2 heq
        cases hb2 : Nat.testBit y.anc k with
        | false => rfl
        | true => rw [h.clo e y hy hSe k hb2] at hk; cases hk)
    have hH : lookR (vopK c.P (c.st k).a.eval x.o.op) (c.HS S q) = some (c.val k) := by
      refine lookR_mono ?_ hrd
      intro m o2 e
      rw [ext_get _ _ _ _ (c.objs_fn c.N (Nat.le_refl _))] at e
      rw [HS_get]
      rcases e with ⟨i, g1, g2, g3⟩ | ⟨g1, g2⟩
      · have := c.anc_lt hx g2
        exact .inl ⟨i, g1, (maskS_bit S c.N i).2 ⟨by omega, hanc i g2⟩, g3⟩
      · right
        refine ⟨fun o' hl => ?_, g2⟩
        rw [c.laid_S] at hl
        obtain ⟨i, k1, k2, k3, k4, k5⟩ := hl
        have := h.inv i k1 (by rw [← k2, g2]; simp)
        rw [k5] at this; cases this
    rw [← hcongr] at hH
    cases hop : vopK c.P (c.AS S c.N).eval x.o.op with
    | pure ov =>
      rw [hop] at hH
      have hH : ov = some (c.val k) := hH
      subst hH
      obtain ⟨v', e1, e2⟩ := pureOp_sim (o := x.o) (ρ' := a.eval) h.ar.eval hop
      have hsem : x.o.semAt ro a.eval = execOp a.eval x.o := Oper.semAt_eq ro a.eval x.o (fun c hc => by rw [hc] at hop; cases hop)
      refine goes v' w σ (hwant _ hw) (by rw [hsem]; exact e1 w) ?_
      exact hK q σ _ _ (Ren.le_refl σ) (h.pure hx hk hanc he (noObj (by rw [hs])) (Ren.le_refl σ) h.r (h.ar.put hd e2))
    | mem m =>
      rw [hop] at hH
      have hH : valOf (m.look (c.HS S q)) = some (c.val k) := hH
      unfold valOf at hH
      split at hH
      · rename_i v hlk
        have hH := Option.some.inj hH
        rw [hH] at hlk
        have hrun := HM.look_run m hlk
        obtain ⟨y, w', τ, e1, e2, e3, e4⟩ := memOp_sim hP (o := x.o) (ρ' := a.eval) h.ar.eval h.r hop hrun
        cases e4 with
        | value hv =>
          rename_i v'
          have hsem := memValue_semAt hop hrun ro a.eval
          refine goes v' w' τ (hwant _ hw) (by rw [hsem]; exact e1) ?_
          exact hK q τ _ _ e2 (h.pure hx hk hanc he (noObj (by rw [hs])) e2 e3 ((h.ar.mono e2).put hd hv))
      · cases hH
  | e hc hw h1 hr hn ho he hs =>
    simp only [hwant _ hw, if_true]
    exact h.effect hP hrec hx hk hanc he hr (by rw [hs]) (by rw [hs]) hd (fun τ a' w' q1 q2 => hK (k + 1) τ a' w' q1 q2)

end DC
end Go.Proofs.YtonkcdnpmemheaaGreat.Vm

namespace Go.Proofs.YtonkcdnpmemheaaGreat.Vm

/-- how many are left -/
def cntS (S : Nat → Bool) : Nat → Nat
  | 0 => 0
  | k + 1 => if S k then cntS S k else cntS S k + 1

theorem cntS_add {S : Nat → Bool} {k : Nat} (hk : S k = false) : ∀ n, (n ≤ k → cntS (addS S k) n = cntS S n) ∧ (k < n → cntS (addS S k) n + 1 = cntS S n) := by
  intro n
  induction n with
  | zero => exact ⟨fun _ => rfl, fun h => by omega⟩
  | succ n ih =>
    refine ⟨fun h => ?_, fun h => ?_⟩
    · have hne : n ≠ k := by omega
      simp only [cntS, addS_other S hne, ih.1 (by omega)]
    · by_cases hn : n = k
      · subst hn
        have := ih.1 (Nat.le_refl _)
        simp only [cntS, addS_same, hk, if_true, this, Bool.false_eq_true, if_false]
      · have := ih.2 (by omega)
        simp only [cntS, addS_other S hn]
        split <;> omega

theorem cntS_none : ∀ n, cntS (fun _ => false) n = n
  | 0 => rfl
  | n + 1 => by simp [cntS, cntS_none n]

theorem cntS_pos {S : Nat → Bool} : ∀ {n k}, k < n → S k = false → 0 < cntS S n := by
  intro n
  induction n with
  | zero => intro k h; omega
  | succ n ih =>
    intro k h hs
    unfold cntS
    by_cases hn : k = n
    · subst hn; rw [hs]; simp
    · have := ih (show k < n by omega) hs
      split <;> omega

/-- the operations that are listed -/
def listedS (l : Array Bool) : Nat → Bool := fun i => l.getD i false

theorem listedS_add {l : Array Bool} {k : Nat} (h : k < l.size) : listedS (l.setIfInBounds k true) = addS (listedS l) k := by
  funext i
  show (l.setIfInBounds k true).getD i false = if i = k then true else l.getD i false
  rw [Array.getD_eq_getD_getElem?, Array.getElem?_setIfInBounds]
  by_cases hik : i = k
  · subst hik; simp [h]
  · rw [if_neg (fun q => hik q.symm), if_neg hik, Array.getD_eq_getD_getElem?]

theorem allMask_bit (n j : Nat) : Nat.testBit (allMask n) j = true ↔ j < n := by
  show Nat.testBit ((1 <<< n) - 1) j = true ↔ _
  rw [Nat.one_shiftLeft, Nat.testBit_two_pow_sub_one]
  simp

theorem bindsAll_eq (e : Edge) : Region.binds .any e = bindsAll e := by
  obtain ⟨on, g⟩ := e
  cases g <;> rfl

namespace DC
variable {c : DC} {W : Frm} {n : Nat} {ro : Option Nat}

/-- in whatever order -/
theorem any_sim (hP : POk c.P) (hrec : RecOk c.P c.rc) (hW : ∀ n, W.Z n → n < c.base) {ops : Array Oper} (hops : ops.toList = c.L) (hb : ∀ o, o ∈ ops.toList → dstIn n o = true) {Q : Exit → Act → World → Prop} {σ0 : Ren}
    (hQ : ∀ S q τ a w, (∀ i, i < c.N → S i = true) → σ0.le τ → c.Inv W n ro S q τ a w → Q .normal a w) :
    ∀ (fuel : Nat) (listed : Array Bool) (q : Nat) (σ : Ren) (a : Act) (w : World), listed.size = c.N → cntS (listedS listed) c.N ≤ fuel → σ0.le σ → c.Inv W n ro (listedS listed) q σ a w →
      wpAnyIn (FW ro) 0 c.P .any ops Q fuel listed a w := by
  have hsz : ops.size = c.N := by unfold N; rw [← hops]; simp
  have hready : ∀ {listed : Array Bool} {σ : Ren} {q : Nat} {a : Act} {w : World}, listed.size = c.N → c.Inv W n ro (listedS listed) q σ a w → Region.ready .any ops listed = [] → ∀ i, i < c.N → listedS listed i = true := by
    intro listed σ q a w hl hinv hr
    have : ∀ i, i < c.N → (∀ j, j < i → listedS listed j = true) → listedS listed i = true := by
      intro i hi hlow
      cases hs : listedS listed i with
      | true => rfl
      | false =>
        exfalso
        obtain ⟨x, hx⟩ := c.inf_lt hi
        obtain ⟨o, ho1, ho2, ho3, _⟩ := opInfos_get hx
        have hok : ops[i]? = some x.o := by rw [← Array.getElem?_toList, hops, ho1, ho3]
        have hmem : i ∈ Region.ready .any ops listed := by
          rw [mem_ready]
          refine ⟨?_, x.o, hok, ?_⟩
          · have hs' : listed.getD i false = false := hs
            have hlt : i < listed.size := by omega
            simp only [Array.getD, hlt, dif_pos] at hs' ⊢
            exact hs'
          · intro e he hbd
            rw [bindsAll_eq] at hbd
            have hb2 := anc_on hx (by simpa using he) hbd
            exact hlow e.on (c.anc_lt hx hb2)
        rw [hr] at hmem
        cases hmem
    intro i
    induction i using Nat.strongRecOn with
    | _ i ih => intro hi; exact this i hi (fun j hj => ih j hj (by omega))
  intro fuel
  induction fuel with
  | zero =>
    intro listed q σ a w hl hc hle hinv
    have hall : ∀ i, i < c.N → listedS listed i = true := by
      intro i hi
      cases hs : listedS listed i with
      | true => rfl
      | false => have := cntS_pos hi hs; omega
    refine ⟨?_, hQ _ q σ a w hall hle hinv⟩
    cases hr : Region.ready .any ops listed with
    | nil => rfl
    | cons k rest =>
      have hk : k ∈ Region.ready .any ops listed := by rw [hr]; exact List.mem_cons_self ..
      obtain ⟨h1, o, h2, _⟩ := mem_ready.1 hk
      have hkN : k < c.N := by
        rw [← hsz]
        rcases Nat.lt_or_ge k ops.size with g | g
        · exact g
        · rw [Array.getElem?_eq_none g] at h2; cases h2
      have := hall k hkN
      have hlt : k < listed.size := by omega
      unfold listedS at this
      simp only [Array.getD, hlt, dif_pos] at this h1
      rw [h1] at this; cases this
  | succ fuel ih =>
    intro listed q σ a w hl hc hle hinv
    refine ⟨fun hr => hQ _ q σ a w (hready hl hinv hr) hle hinv, ?_⟩
    intro k hk
    obtain ⟨h1, o, h2, h3⟩ := mem_ready.1 hk
    have hkN : k < c.N := by
      rw [← hsz]
      rcases Nat.lt_or_ge k ops.size with g | g
      · exact g
      · rw [Array.getElem?_eq_none g] at h2; cases h2
    have hlt : k < listed.size := by omega
    have hSk : listedS listed k = false := by
      unfold listedS
      simp only [Array.getD, hlt, dif_pos] at h1 ⊢
      exact h1
    obtain ⟨x, hx⟩ := c.inf_lt hkN
    obtain ⟨o', ho1, ho2, ho3, _⟩ := opInfos_get hx
    have hok : ops[k]? = some x.o := by rw [← Array.getElem?_toList, hops, ho1, ho3]
    rw [hok] at h2; cases h2
    have hanc := anc_ready hx hinv.clo (fun e he hbd => h3 e (by simpa using he) (by rw [bindsAll_eq]; exact hbd))
    refine hinv.step hP hrec hW hops hb hx hSk hanc ?_
    intro q' τ a' w' hle' hinv'
    refine ih (listed.setIfInBounds k true) q' τ a' w' (by simp [hl]) ?_ (Ren.le_trans hle hle') (by rw [listedS_add hlt]; exact hinv')
    rw [listedS_add hlt]
    have := (cntS_add hSk c.N).2 hkN
    omega

end DC

theorem AS_all {c : DC} {S : Nat → Bool} : ∀ k, k ≤ c.N → (∀ i, i < k → S i = true) → c.AS S k = c.AS (fun _ => true) k := by
  intro k
  induction k with
  | zero => intro _ _; rfl
  | succ k ih =>
    intro hk hS
    obtain ⟨x, hx⟩ := c.inf_lt (show k < c.N by omega)
    rw [c.AS_succ _ hx, c.AS_succ _ hx, hS k (Nat.lt_succ_self k), ih (by omega) (fun i hi => hS i (by omega))]

/-- a region that draws its order -/
theorem draws_ok {P : Program} (hP : POk P) {rec : Rec} (hrec : RecOk P rec) : DrawOk P rec := by
  intro W σ n ro id ops va va' h h' e0 a w hb e ha r
  unfold fin at e
  split at e
  · rename_i a1 h1 hdr
    cases e
    unfold draws at hdr
    split at hdr
    · rename_i hchk
      simp only [Bool.and_eq_true] at hchk
      obtain ⟨hok, hkb⟩ := hchk
      have hkb := Nat.le_of_ble_eq_true hkb
      unfold drawEnd at hdr
      split at hdr
      · rename_i sN hds
        cases hdr
        obtain ⟨st, val, eff, h0, hN, hev⟩ := drawOps_ev hds
        rw [len_eq] at *
        let c : DC := { P := P, rc := rec, L := ops.toList, base := h.nx, va := va, h0 := ⟨h.t, h.nx + ops.toList.length, h.nx + ops.toList.length⟩, st := st, val := val, eff := eff, ok := hok, hb := ⟨hkb, rfl⟩, start := h0, ev := hev }
        have hcN : c.N = ops.toList.length := rfl
        have hstN : c.st c.N = sN := by
          rw [hcN, ← opInfos_length P ops.toList]; exact hN
        have hW : ∀ n, W.Z n → n < c.base := fun n hz => r.zlt n hz
        have hget0 : ∀ m, (c.st 0).h.get m = h.get m := fun m => by rw [c.start]; rfl
        have hins0 : (c.st 0).ins = 0 := by rw [c.start]
        have hnx0 : (c.st 0).h.nx = h.nx + c.N ∧ (c.st 0).h.al = h.nx + c.N := by rw [c.start]; exact ⟨rfl, rfl⟩
        have hrep : listedS (Array.replicate ops.size false) = fun _ => false := by
          funext i
          unfold listedS
          rw [Array.getD_eq_getD_getElem?, Array.getElem?_replicate]
          split <;> rfl
        have hlaid0 : ∀ m o, ¬ Laid (c.st c.N).objs (maskS (fun _ => false) c.N) (c.st 0).ins m o := by
          rintro m o ⟨i, _, h2, _⟩
          have := ((maskS_bit _ _ _).1 h2).2
          cases this
        have hinv0 : c.Inv W n ro (fun _ => false) 0 σ a w := by
          refine ⟨(fun i y _ hs => by cases hs), (fun e _ _ => by simp), Nat.zero_le _, ?_, ?_, ?_⟩
          · exact ha.congr (fun t => c.AS_out _ _ (Nat.le_refl _) t (fun j x _ _ hs => by cases hs)) (c.AS_rest _ _).1 (c.AS_rest _ _).2
          · have hg : ∀ m o, (c.HS (fun _ => false) 0).get m = some o → h.get m = some o := by
              intro m o e
              rw [DC.HS_get] at e
              rcases e with e | ⟨_, e⟩
              · exact absurd e (hlaid0 m o)
              · rw [hget0] at e; exact e
            refine ⟨r.ext, r.own, ?_, fun m o e => r.obj m o (hg m o e), fun k k' o o' m m' e1 e2 => r.inj k k' o o' m m' (hg _ _ e1) (hg _ _ e2), r.fix, fun m o m' e => r.off m o m' (hg m o e), ?_, ?_, ?_, ?_, r.big⟩
            · intro m m' e
              rw [(c.HS_nx _ _).1, hnx0.1]
              have := r.lt m m' e
              omega
            · rintro m (hz | ⟨i, _, rfl, _⟩)
              · exact r.res m hz
              · exact r.none_ge (Nat.le_add_right _ _)
            · rintro m (hz | ⟨i, hi, rfl, _⟩)
              · rw [(c.HS_nx _ _).1, hnx0.1]; have := r.zlt m hz; omega
              · rw [(c.HS_nx _ _).1, hnx0.1]; show h.nx + i < _; omega
            · rw [(c.HS_nx _ _).2, hnx0.2]; exact r.none_ge (Nat.le_add_right _ _)
            · rw [(c.HS_nx _ _).2, hnx0.2]
              rintro (hz | ⟨i, hi, hh, _⟩)
              · have := r.zlt _ hz; omega
              · have hh : h.nx + c.N = h.nx + i := hh
                omega
          · intro i hi hne
            exfalso
            rw [hget0] at hne
            exact hne (r.get_ge (Nat.le_add_right _ _))
        refine wpIn_region_any hP.mixed ?_
        refine DC.any_sim (c := c) (W := W) (n := n) (ro := ro) hP hrec hW rfl hb (σ0 := σ) ?_ ops.size (Array.replicate ops.size false) 0 σ a _ (by simp [DC.N, c]) (by rw [hrep, cntS_none]; simp [DC.N, c]) (Ren.le_refl σ) (by
          rw [hrep]
          exact ⟨hinv0.clo, hinv0.hq, hinv0.qN, hinv0.ar, hinv0.r.drew, hinv0.inv⟩)
        intro S q τ a' w' hall hle hinv
        refine ⟨rfl, τ, hle, ?_, ?_⟩
        · have hr : R W P τ (c.HS S q) w' := hinv.r.fewer (fun m hz => .inl hz)
          obtain ⟨hh, hi⟩ := c.h_const hinv.qN (Nat.le_refl _) (fun j h1 h2 => by
            cases hj : c.eff j with
            | false => rfl
            | true => have := (hinv.hq j h2 hj).1 (hall j h2); omega)
          rw [hstN] at hh hi
          refine hr.less ?_ ?_ ?_ ?_
          · rw [(c.HS_nx _ _).1, (ext_nx _ _ _ _).1, hh]; exact Nat.le_refl _
          · have := hr.al; rw [(c.HS_nx _ _).2] at this; rw [(ext_nx _ _ _ _).2, hh]; exact this
          · have := hr.zal; rw [(c.HS_nx _ _).2] at this; rw [(ext_nx _ _ _ _).2, hh]; exact this
          · intro m o e
            have hfn := c.objs_fn c.N (Nat.le_refl _)
            rw [hstN] at hfn
            rw [ext_get _ _ _ _ hfn] at e
            rw [DC.HS_get, hstN]
            have hl : ∀ o, Laid sN.objs (allMask ops.toList.length) sN.ins m o ↔ Laid sN.objs (maskS S c.N) (c.st q).ins m o := by
              intro o
              rw [hi]
              constructor
              · rintro ⟨i, g1, g2, g3⟩
                have := (allMask_bit _ _).1 g2
                exact ⟨i, g1, (maskS_bit _ _ _).2 ⟨this, hall i this⟩, g3⟩
              · rintro ⟨i, g1, g2, g3⟩
                exact ⟨i, g1, (allMask_bit _ _).2 ((maskS_bit _ _ _).1 g2).1, g3⟩
            simp only [hl] at e
            rw [hh] at e
            exact e
        · refine AR.shut ?_
          have h2 := c.st_act c.N (Nat.le_refl _)
          rw [hstN, ← AS_all c.N (Nat.le_refl _) hall] at h2
          rw [h2]
          exact hinv.ar
      · cases hdr
    · cases hdr
  · cases e

/-- the evaluator tells the truth -/
theorem vrun_sound {P : Program} (hP : POk P) {S : Sums} (hS : SumsOk P S) (k : Nat) : RecOk P (vrun P S k) := vrun_ok hP hS (fun _ h => draws_ok hP h) k

end Go.Proofs.YtonkcdnpmemheaaGreat.Vm

