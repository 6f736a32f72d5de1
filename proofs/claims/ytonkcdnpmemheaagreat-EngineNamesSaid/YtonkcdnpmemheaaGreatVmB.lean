/- The relation between the evaluator's heap and the machine's world; pure operations answer alike. By an AI agent. -/
import Derived.Test.YtonkcdnpmemheaaGreatVmA
import Derived.Extends
import Derived.Laws.Sem
import Derived.Laws.Cells
import GoSem.Dispatch
import Derived.Laws.Strings
import Derived.Laws.StructEq
set_option linter.all false
namespace Go.Proofs.YtonkcdnpmemheaaGreat.Vm

/-! ### tries -/

theorem Trie.get_e (n : Nat) : Trie.get .e n = none := rfl
theorem Trie.get_zero (l : Trie) (v : Option VObj) (r : Trie) : Trie.get (.nd l v r) 0 = v := rfl
theorem natRec_zero {α : Type} {n : Nat} (h : n = 0) (x y : α) : Nat.rec (motive := fun _ => α) x (fun _ _ => y) n = x := by subst h; rfl
theorem natRec_pos {α : Type} {n : Nat} (h : n ≠ 0) (x y : α) : Nat.rec (motive := fun _ => α) x (fun _ _ => y) n = y := by
  cases n with
  | zero => exact absurd rfl h
  | succ n => rfl
theorem Trie.get_even (l : Trie) (v : Option VObj) (r : Trie) {m : Nat} (h : m % 2 = 0) : Trie.get (.nd l v r) (m + 1) = l.get (m / 2) := natRec_zero h _ _
theorem Trie.get_odd (l : Trie) (v : Option VObj) (r : Trie) {m : Nat} (h : m % 2 ≠ 0) : Trie.get (.nd l v r) (m + 1) = r.get (m / 2) := natRec_pos h _ _

theorem Trie.set_e_zero (k : Nat) (o : Option VObj) : Trie.set (k + 1) .e 0 o = .nd .e o .e := rfl
theorem Trie.set_e_even (k : Nat) {m : Nat} (o : Option VObj) (h : m % 2 = 0) : Trie.set (k + 1) .e (m + 1) o = .nd (Trie.set k .e (m / 2) o) none .e := natRec_zero h _ _
theorem Trie.set_e_odd (k : Nat) {m : Nat} (o : Option VObj) (h : m % 2 ≠ 0) : Trie.set (k + 1) .e (m + 1) o = .nd .e none (Trie.set k .e (m / 2) o) := natRec_pos h _ _
theorem Trie.set_zero (k : Nat) (l : Trie) (v : Option VObj) (r : Trie) (o : Option VObj) : Trie.set (k + 1) (.nd l v r) 0 o = .nd l o r := rfl
theorem Trie.set_even (k : Nat) (l : Trie) (v : Option VObj) (r : Trie) {m : Nat} (o : Option VObj) (h : m % 2 = 0) :
    Trie.set (k + 1) (.nd l v r) (m + 1) o = .nd (Trie.set k l (m / 2) o) v r := natRec_zero h _ _
theorem Trie.set_odd (k : Nat) (l : Trie) (v : Option VObj) (r : Trie) {m : Nat} (o : Option VObj) (h : m % 2 ≠ 0) :
    Trie.set (k + 1) (.nd l v r) (m + 1) o = .nd l v (Trie.set k r (m / 2) o) := natRec_pos h _ _

theorem Trie.get_set (o : Option VObj) : ∀ (k n : Nat) (t : Trie) (m : Nat), n < k → (Trie.set k t n o).get m = if m = n then o else t.get m := by
  intro k
  induction k with
  | zero => intro n t m h; omega
  | succ k ih =>
    intro n t m h
    cases n with
    | zero =>
      cases t with
      | e =>
        rw [Trie.set_e_zero]
        cases m with
        | zero => simp [Trie.get_zero]
        | succ m => by_cases hm : m % 2 = 0
                    · rw [Trie.get_even _ _ _ hm]; simp [Trie.get_e]
                    · rw [Trie.get_odd _ _ _ hm]; simp [Trie.get_e]
      | nd l v r =>
        rw [Trie.set_zero]
        cases m with
        | zero => simp [Trie.get_zero]
        | succ m => by_cases hm : m % 2 = 0
                    · rw [Trie.get_even _ _ _ hm, Trie.get_even _ _ _ hm]; simp
                    · rw [Trie.get_odd _ _ _ hm, Trie.get_odd _ _ _ hm]; simp
    | succ n =>
      have hk : n / 2 < k := by omega
      by_cases hn : n % 2 = 0
      · cases t with
        | e =>
          rw [Trie.set_e_even k o hn]
          cases m with
          | zero => simp [Trie.get_zero, Trie.get_e]
          | succ m => by_cases hm : m % 2 = 0
                      · rw [Trie.get_even _ _ _ hm, ih _ _ _ hk]
                        have : (m / 2 = n / 2) = (m + 1 = n + 1) := propext ⟨fun _ => by omega, fun _ => by omega⟩
                        simp only [this, Trie.get_e]
                      · rw [Trie.get_odd _ _ _ hm]
                        have : ¬ (m + 1 = n + 1) := by omega
                        rw [if_neg this]; simp [Trie.get_e]
        | nd l v r =>
          rw [Trie.set_even k l v r o hn]
          cases m with
          | zero => simp [Trie.get_zero]
          | succ m => by_cases hm : m % 2 = 0
                      · rw [Trie.get_even _ _ _ hm, ih _ _ _ hk, Trie.get_even _ _ _ hm]
                        have : (m / 2 = n / 2) = (m + 1 = n + 1) := propext ⟨fun _ => by omega, fun _ => by omega⟩
                        simp only [this]
                      · rw [Trie.get_odd _ _ _ hm, Trie.get_odd _ _ _ hm]
                        have : ¬ (m + 1 = n + 1) := by omega
                        rw [if_neg this]
      · cases t with
        | e =>
          rw [Trie.set_e_odd k o hn]
          cases m with
          | zero => simp [Trie.get_zero, Trie.get_e]
          | succ m => by_cases hm : m % 2 = 0
                      · rw [Trie.get_even _ _ _ hm]
                        have : ¬ (m + 1 = n + 1) := by omega
                        rw [if_neg this]; simp [Trie.get_e]
                      · rw [Trie.get_odd _ _ _ hm, ih _ _ _ hk]
                        have : (m / 2 = n / 2) = (m + 1 = n + 1) := propext ⟨fun _ => by omega, fun _ => by omega⟩
                        simp only [this, Trie.get_e]
        | nd l v r =>
          rw [Trie.set_odd k l v r o hn]
          cases m with
          | zero => simp [Trie.get_zero]
          | succ m => by_cases hm : m % 2 = 0
                      · rw [Trie.get_even _ _ _ hm, Trie.get_even _ _ _ hm]
                        have : ¬ (m + 1 = n + 1) := by omega
                        rw [if_neg this]
                      · rw [Trie.get_odd _ _ _ hm, ih _ _ _ hk, Trie.get_odd _ _ _ hm]
                        have : (m / 2 = n / 2) = (m + 1 = n + 1) := propext ⟨fun _ => by omega, fun _ => by omega⟩
                        simp only [this]

theorem Tm.get_e (n : Nat) : Tm.get .e n = poison := rfl
theorem Tm.get_zero (l : Tm) (v : Value) (r : Tm) : Tm.get (.nd l v r) 0 = v := rfl
theorem Tm.get_even (l : Tm) (v : Value) (r : Tm) {m : Nat} (h : m % 2 = 0) : Tm.get (.nd l v r) (m + 1) = l.get (m / 2) := natRec_zero h _ _
theorem Tm.get_odd (l : Tm) (v : Value) (r : Tm) {m : Nat} (h : m % 2 ≠ 0) : Tm.get (.nd l v r) (m + 1) = r.get (m / 2) := natRec_pos h _ _
theorem Tm.put_e_zero (k : Nat) (o : Value) : Tm.put (k + 1) .e 0 o = .nd .e o .e := rfl
theorem Tm.put_e_even (k : Nat) {m : Nat} (o : Value) (h : m % 2 = 0) : Tm.put (k + 1) .e (m + 1) o = .nd (Tm.put k .e (m / 2) o) poison .e := natRec_zero h _ _
theorem Tm.put_e_odd (k : Nat) {m : Nat} (o : Value) (h : m % 2 ≠ 0) : Tm.put (k + 1) .e (m + 1) o = .nd .e poison (Tm.put k .e (m / 2) o) := natRec_pos h _ _
theorem Tm.put_zero (k : Nat) (l : Tm) (v : Value) (r : Tm) (o : Value) : Tm.put (k + 1) (.nd l v r) 0 o = .nd l o r := rfl
theorem Tm.put_even (k : Nat) (l : Tm) (v : Value) (r : Tm) {m : Nat} (o : Value) (h : m % 2 = 0) :
    Tm.put (k + 1) (.nd l v r) (m + 1) o = .nd (Tm.put k l (m / 2) o) v r := natRec_zero h _ _
theorem Tm.put_odd (k : Nat) (l : Tm) (v : Value) (r : Tm) {m : Nat} (o : Value) (h : m % 2 ≠ 0) :
    Tm.put (k + 1) (.nd l v r) (m + 1) o = .nd l v (Tm.put k r (m / 2) o) := natRec_pos h _ _

theorem Tm.get_put (o : Value) : ∀ (k n : Nat) (t : Tm) (m : Nat), n < k → (Tm.put k t n o).get m = if m = n then o else t.get m := by
  intro k
  induction k with
  | zero => intro n t m h; omega
  | succ k ih =>
    intro n t m h
    cases n with
    | zero =>
      cases t with
      | e =>
        rw [Tm.put_e_zero]
        cases m with
        | zero => simp [Tm.get_zero]
        | succ m => by_cases hm : m % 2 = 0
                    · rw [Tm.get_even _ _ _ hm]; simp [Tm.get_e]
                    · rw [Tm.get_odd _ _ _ hm]; simp [Tm.get_e]
      | nd l v r =>
        rw [Tm.put_zero]
        cases m with
        | zero => simp [Tm.get_zero]
        | succ m => by_cases hm : m % 2 = 0
                    · rw [Tm.get_even _ _ _ hm, Tm.get_even _ _ _ hm]; simp
                    · rw [Tm.get_odd _ _ _ hm, Tm.get_odd _ _ _ hm]; simp
    | succ n =>
      have hk : n / 2 < k := by omega
      by_cases hn : n % 2 = 0
      · cases t with
        | e =>
          rw [Tm.put_e_even k o hn]
          cases m with
          | zero => simp [Tm.get_zero, Tm.get_e]
          | succ m => by_cases hm : m % 2 = 0
                      · rw [Tm.get_even _ _ _ hm, ih _ _ _ hk]
                        have : (m / 2 = n / 2) = (m + 1 = n + 1) := propext ⟨fun _ => by omega, fun _ => by omega⟩
                        simp only [this, Tm.get_e]
                      · rw [Tm.get_odd _ _ _ hm]
                        have : ¬ (m + 1 = n + 1) := by omega
                        rw [if_neg this]; simp [Tm.get_e]
        | nd l v r =>
          rw [Tm.put_even k l v r o hn]
          cases m with
          | zero => simp [Tm.get_zero]
          | succ m => by_cases hm : m % 2 = 0
                      · rw [Tm.get_even _ _ _ hm, ih _ _ _ hk, Tm.get_even _ _ _ hm]
                        have : (m / 2 = n / 2) = (m + 1 = n + 1) := propext ⟨fun _ => by omega, fun _ => by omega⟩
                        simp only [this]
                      · rw [Tm.get_odd _ _ _ hm, Tm.get_odd _ _ _ hm]
                        have : ¬ (m + 1 = n + 1) := by omega
                        rw [if_neg this]
      · cases t with
        | e =>
          rw [Tm.put_e_odd k o hn]
          cases m with
          | zero => simp [Tm.get_zero, Tm.get_e]
          | succ m => by_cases hm : m % 2 = 0
                      · rw [Tm.get_even _ _ _ hm]
                        have : ¬ (m + 1 = n + 1) := by omega
                        rw [if_neg this]; simp [Tm.get_e]
                      · rw [Tm.get_odd _ _ _ hm, ih _ _ _ hk]
                        have : (m / 2 = n / 2) = (m + 1 = n + 1) := propext ⟨fun _ => by omega, fun _ => by omega⟩
                        simp only [this, Tm.get_e]
        | nd l v r =>
          rw [Tm.put_odd k l v r o hn]
          cases m with
          | zero => simp [Tm.get_zero]
          | succ m => by_cases hm : m % 2 = 0
                      · rw [Tm.get_even _ _ _ hm, Tm.get_even _ _ _ hm]
                        have : ¬ (m + 1 = n + 1) := by omega
                        rw [if_neg this]
                      · rw [Tm.get_odd _ _ _ hm, ih _ _ _ hk, Tm.get_odd _ _ _ hm]
                        have : (m / 2 = n / 2) = (m + 1 = n + 1) := propext ⟨fun _ => by omega, fun _ => by omega⟩
                        simp only [this]

theorem Tm.get_set (t : Tm) (n : Nat) (x : Value) (m : Nat) : (t.set n x).get m = if m = n then x else t.get m := Tm.get_put x _ _ _ _ (Nat.lt_succ_self n)

theorem VH.get_put (h : VH) (n : Nat) (o : Option VObj) (m : Nat) : (h.put n o).get m = if m = n then o else h.get m := Trie.get_set o _ _ h.t m (Nat.lt_succ_self n)
theorem VH.get_new (h : VH) (o : VObj) (m : Nat) : (h.new o).get m = if m = h.al then some o else h.get m := Trie.get_set (some o) _ _ h.t m (Nat.lt_succ_self _)
theorem VH.get_newAt (h : VH) (n : Nat) (o : VObj) (m : Nat) : (h.newAt n o).get m = if m = n then some o else h.get m := Trie.get_set (some o) _ _ h.t m (Nat.lt_succ_self n)
theorem VH.nx_put (h : VH) (n : Nat) (o : Option VObj) : (h.put n o).nx = h.nx := rfl
theorem VH.nx_new (h : VH) (o : VObj) : (h.new o).nx = nxt h.nx h.al := rfl
theorem VH.al_new (h : VH) (o : VObj) : (h.new o).al = nxt h.nx h.al := rfl
theorem VH.al_put (h : VH) (n : Nat) (o : Option VObj) : (h.put n o).al = h.al := rfl
theorem VH.al_newAt (h : VH) (n : Nat) (o : VObj) : (h.newAt n o).al = n + 1 := rfl
theorem nxt_al (nx al : Nat) : al < nxt nx al := by
  unfold nxt
  cases g : Nat.ble nx al with
  | true => exact Nat.lt_succ_self _
  | false =>
    rcases Nat.lt_or_ge al nx with q | q
    · exact q
    · rw [Nat.ble_eq_true_of_le q] at g; cases g
theorem nxt_nx (nx al : Nat) : nx ≤ nxt nx al := by
  unfold nxt
  cases g : Nat.ble nx al with
  | true => exact Nat.le_succ_of_le (Nat.le_of_ble_eq_true g)
  | false => exact Nat.le_refl _
theorem VH.nx_newAt (h : VH) (n : Nat) (o : VObj) : (h.newAt n o).nx = n + 1 := rfl

/-! ### runs -/
section
variable {α β : Type}
theorem HM.run_ret (a : α) (h : VH) : (HM.ret a).run h = some (a, h) := rfl
theorem HM.run_fail (h : VH) : (HM.fail : HM α).run h = none := rfl
theorem HM.run_rd_some {n : Nat} {k : VObj → HM α} {h : VH} {o : VObj} (e : h.get n = some o) : (HM.rd n k).run h = (k o).run h := by
  show Option.rec (motive := fun _ => Option (α × VH)) none (fun o => (k o).run h) (h.get n) = _
  rw [e]
theorem HM.run_rd_none {n : Nat} {k : VObj → HM α} {h : VH} (e : h.get n = none) : (HM.rd n k).run h = none := by
  show Option.rec (motive := fun _ => Option (α × VH)) none (fun o => (k o).run h) (h.get n) = _
  rw [e]
theorem HM.run_rd {n : Nat} {k : VObj → HM α} {h : VH} {r : α × VH} (e : (HM.rd n k).run h = some r) : ∃ o, h.get n = some o ∧ (k o).run h = some r := by
  cases g : h.get n with
  | none => rw [HM.run_rd_none g] at e; cases e
  | some o => rw [HM.run_rd_some g] at e; exact ⟨o, rfl, e⟩
theorem HM.run_wr {n : Nat} {o : VObj} {k : HM α} {h : VH} {r : α × VH} (e : (HM.wr n o k).run h = some r) : ∃ o0, h.get n = some o0 ∧ k.run (h.put n (some o)) = some r := by
  change Option.rec (motive := fun _ => Option (α × VH)) none (fun _ => k.run (h.put n (some o))) (h.get n) = _ at e
  cases g : h.get n with
  | none => rw [g] at e; cases e
  | some o0 => rw [g] at e; exact ⟨o0, rfl, e⟩
theorem HM.run_kill {n : Nat} {k : HM α} {h : VH} {r : α × VH} (e : (HM.kill n k).run h = some r) : ∃ o0, h.get n = some o0 ∧ k.run (h.put n none) = some r := by
  change Option.rec (motive := fun _ => Option (α × VH)) none (fun _ => k.run (h.put n none)) (h.get n) = _ at e
  cases g : h.get n with
  | none => rw [g] at e; cases e
  | some o0 => rw [g] at e; exact ⟨o0, rfl, e⟩
theorem HM.run_nw (o : VObj) (k : Nat → HM α) (h : VH) : (HM.nw o k).run h = (k h.al).run (h.new o) := rfl
theorem HM.run_nwAt {n : Nat} {o : VObj} {k : HM α} {h : VH} {r : α × VH} (e : (HM.nwAt n o k).run h = some r) : h.nx ≤ n ∧ k.run (h.newAt n o) = some r := by
  change Bool.rec (motive := fun _ => Option (α × VH)) none (k.run (h.newAt n o)) (Nat.ble h.nx n) = _ at e
  cases g : Nat.ble h.nx n with
  | false => rw [g] at e; cases e
  | true => rw [g] at e; exact ⟨Nat.le_of_ble_eq_true g, e⟩
end

/-! ### lists -/
section
variable {α : Type}
theorem drp_zero (l : List α) : drp l 0 = l := rfl
theorem tl_drop (l : List α) (n : Nat) : tl (l.drop n) = l.drop (n + 1) := by
  induction l generalizing n with
  | nil => simp; rfl
  | cons x l ih =>
    cases n with
    | zero => rfl
    | succ n => simpa using ih n
theorem drp_eq (l : List α) (n : Nat) : drp l n = l.drop n := by
  induction n with
  | zero => rfl
  | succ n ih =>
    show tl (drp l n) = _
    rw [ih, tl_drop]
theorem nth?_eq (l : List α) (n : Nat) : nth? l n = l[n]? := by
  show List.rec (motive := fun _ => Option α) none (fun x _ _ => some x) (drp l n) = _
  rw [drp_eq]
  cases h : l.drop n with
  | nil =>
    have := List.drop_eq_nil_iff.1 h
    simp [List.getElem?_eq_none this]
  | cons x r =>
    have h2 : (l.drop n)[0]? = some x := by rw [h]; rfl
    rw [List.getElem?_drop] at h2
    simpa using h2.symm
theorem len_eq (l : List α) : len l = l.length := by
  induction l with
  | nil => rfl
  | cons x l ih =>
    show Nat.succ (len l) = _
    rw [ih]; rfl
theorem app_eq (r l : List α) : app r l = r ++ l := by
  induction r with
  | nil => rfl
  | cons x r ih =>
    show x :: app r l = _
    rw [ih]; rfl
theorem rapp_eq (r l : List α) : rapp r l = r.reverse ++ l := by
  induction r generalizing l with
  | nil => rfl
  | cons x r ih =>
    show rapp r (x :: l) = _
    rw [ih]; simp
theorem take?_some {l : List α} {n : Nat} {r : List α} (h : take? l n = some r) : n ≤ l.length ∧ r = l.take n := by
  induction n generalizing l r with
  | zero =>
    have : some [] = some r := h
    cases this; simp
  | succ n ih =>
    cases l with
    | nil => cases h
    | cons x l =>
      change Option.rec (motive := fun _ => Option (List α)) none (fun r => some (x :: r)) (take? l n) = some r at h
      cases g : take? l n with
      | none => rw [g] at h; cases h
      | some r1 =>
        rw [g] at h
        have h' : some (x :: r1) = some r := h
        cases h'
        obtain ⟨h1, h2⟩ := ih g
        exact ⟨by simp; exact h1, by rw [h2]; rfl⟩
theorem putHere_some {vs l r : List α} (h : putHere vs l = some r) : vs.length ≤ l.length ∧ r = vs ++ l.drop vs.length := by
  induction vs generalizing l r with
  | nil =>
    have : some l = some r := h
    cases this; simp
  | cons v vs ih =>
    cases l with
    | nil => cases h
    | cons x l =>
      change Option.rec (motive := fun _ => Option (List α)) none (fun r => some (v :: r)) (putHere vs l) = some r at h
      cases g : putHere vs l with
      | none => rw [g] at h; cases h
      | some r1 =>
        rw [g] at h
        have h' : some (v :: r1) = some r := h
        cases h'
        obtain ⟨h1, h2⟩ := ih g
        exact ⟨by simp; exact h1, by rw [h2]; simp⟩
theorem putAt_some {vs : List α} {n : Nat} {l r : List α} (h : putAt l n vs = some r) : n + vs.length ≤ l.length ∧ r = l.take n ++ vs ++ l.drop (n + vs.length) := by
  induction n generalizing l r with
  | zero =>
    obtain ⟨h1, h2⟩ := putHere_some (show putHere vs l = some r from h)
    exact ⟨by omega, by simp [h2]⟩
  | succ n ih =>
    cases l with
    | nil => cases h
    | cons x l =>
      change Option.rec (motive := fun _ => Option (List α)) none (fun r => some (x :: r)) (putAt l n vs) = some r at h
      cases g : putAt l n vs with
      | none => rw [g] at h; cases h
      | some r1 =>
        rw [g] at h
        have h' : some (x :: r1) = some r := h
        cases h'
        obtain ⟨h1, h2⟩ := ih g
        refine ⟨by simp; omega, ?_⟩
        rw [h2, show n + 1 + vs.length = (n + vs.length) + 1 by omega]
        simp
theorem rep_eq (n : Nat) (z acc : List α) : rep n z acc = (List.replicate n z).flatten ++ acc := by
  induction n generalizing acc with
  | zero => rfl
  | succ n ih =>
    show rep n z (app z acc) = _
    rw [ih, app_eq, List.replicate_succ', List.flatten_append]
    simp
end

end Go.Proofs.YtonkcdnpmemheaaGreat.Vm

namespace Go.Proofs.YtonkcdnpmemheaaGreat.Vm

/-! ### names, values, objects: the evaluator's and the machine's -/

structure NM where
  b : Nat
  d : Nat
  sz : Nat

abbrev Ren := Nat → Option NM

def Ren.le (σ τ : Ren) : Prop := ∀ n m, σ n = some m → τ n = some m
theorem Ren.le_refl (σ : Ren) : σ.le σ := fun _ _ h => h
theorem Ren.le_trans {σ τ υ : Ren} (h : σ.le τ) (g : τ.le υ) : σ.le υ := fun n m e => g n m (h n m e)
def Ren.at (σ : Ren) (n : Nat) (m : NM) : Ren := fun k => if k = n then some m else σ k
theorem Ren.le_at {σ : Ren} {n : Nat} {m : NM} (h : σ n = none) : σ.le (σ.at n m) := by
  intro k m' e
  unfold Ren.at
  split
  · rename_i hk; subst hk; rw [h] at e; cases e
  · exact e
theorem Ren.at_same (σ : Ren) (n : Nat) (m : NM) : (σ.at n m) n = some m := if_pos rfl
theorem Ren.at_other (σ : Ren) {n k : Nat} (m : NM) (h : k ≠ n) : (σ.at n m) k = σ k := if_neg h

def ARel (σ : Ren) (a a' : Addr) : Prop := a.spot = none ∧ a'.spot = none ∧ ∃ m, σ a.block = some m ∧ a'.block = m.b ∧ a'.off = a.off + m.d

def FnRel (σ : Ren) (f f' : Fn) : Prop :=
  match f with
  | .yield l => ∃ m, σ l = some m ∧ f' = .yield m.b
  | f => f' = f

inductive VRel (σ : Ren) : Value → Value → Prop where
  | poison (k : FloatKind) (a b : Nat) (v : Value) : VRel σ (.complex k a b) v
  | bool (b : Bool) : VRel σ (.bool b) (.bool b)
  | int (k : IntKind) (n : Int) : VRel σ (.int k n) (.int k n)
  | string (s : ByteArray) : VRel σ (.string s) (.string s)
  | nilp : VRel σ (.pointer none) (.pointer none)
  | ptr {a a' : Addr} (h : ARel σ a a') : VRel σ (.pointer (some a)) (.pointer (some a'))
  | nils : VRel σ (.slice none 0 0) (.slice none 0 0)
  | slc {a a' : Addr} (n c : Nat) (hc : c < UNK) (h : ARel σ a a') : VRel σ (.slice (some a) n c) (.slice (some a') n c)
  | unk {a a' : Addr} {m : NM} (n size c' : Nat) (h0 : a.spot = none) (h1 : a'.spot = none) (hm : σ a.block = some m) (hb : a'.block = m.b) (ho : a'.off = a.off + m.d)
      (hs : 0 < size) (hn : n ≤ c') (he : a'.off + c' * size = m.sz) (hd : a'.off % size = 0) : VRel σ (.slice (some a) n (UNK + size)) (.slice (some a') n c')
  | flo (a' : Addr) (c c' : Nat) (hc : UNK ≤ c) : VRel σ (.slice (some FLO) 0 c) (.slice (some a') 0 c')
  | nilm : VRel σ (.map none) (.map none)
  | map {r : Nat} {m : NM} (h : σ r = some m) : VRel σ (.map (some r)) (.map (some m.b))
  | nilFunc : VRel σ .nilFunc .nilFunc
  | nilIface : VRel σ .nilIface .nilIface
  | func {f f' : Fn} {fs fs' cs cs' : Array Value} (hf : FnRel σ f f')
      (h1 : fs.toList.length = fs'.toList.length) (h2 : ∀ (i : Nat) (x y : Value), fs.toList[i]? = some x → fs'.toList[i]? = some y → VRel σ x y)
      (h3 : cs.toList.length = cs'.toList.length) (h4 : ∀ (i : Nat) (x y : Value), cs.toList[i]? = some x → cs'.toList[i]? = some y → VRel σ x y) :
      VRel σ (.func f fs cs) (.func f' fs' cs')
  | iface (t : TypeId) {v v' : Value} (h : VRel σ v v') : VRel σ (.iface t v) (.iface t v')
  | agg {cs cs' : Array Value} (h1 : cs.toList.length = cs'.toList.length) (h2 : ∀ (i : Nat) (x y : Value), cs.toList[i]? = some x → cs'.toList[i]? = some y → VRel σ x y) :
      VRel σ (.agg cs) (.agg cs')
  | tuple {cs cs' : Array Value} (h1 : cs.toList.length = cs'.toList.length) (h2 : ∀ (i : Nat) (x y : Value), cs.toList[i]? = some x → cs'.toList[i]? = some y → VRel σ x y) :
      VRel σ (.tuple cs) (.tuple cs')

theorem ARel.mono {σ τ : Ren} (h : σ.le τ) {a a' : Addr} (r : ARel σ a a') : ARel τ a a' := by
  obtain ⟨h1, h2, m, h3, h4⟩ := r
  exact ⟨h1, h2, m, h _ _ h3, h4⟩

theorem FnRel.mono {σ τ : Ren} (h : σ.le τ) {a a' : Fn} (r : FnRel σ a a') : FnRel τ a a' := by
  cases a <;> first | exact r | (obtain ⟨m, h1, h2⟩ := r; exact ⟨m, h _ _ h1, h2⟩)

theorem VRel.mono {σ τ : Ren} (h : σ.le τ) {v v' : Value} (r : VRel σ v v') : VRel τ v v' := by
  induction r with
  | poison k a b v => exact .poison k a b v
  | bool b => exact .bool b
  | int k n => exact .int k n
  | string s => exact .string s
  | nilp => exact .nilp
  | ptr r => exact .ptr (r.mono h)
  | nils => exact .nils
  | slc n c hc r => exact .slc n c hc (r.mono h)
  | unk n size c' h0 h1 hm hb ho hs hn he hd => exact .unk n size c' h0 h1 (h _ _ hm) hb ho hs hn he hd
  | flo a' c c' hc => exact .flo a' c c' hc
  | nilm => exact .nilm
  | map r => exact .map (h _ _ r)
  | nilFunc => exact .nilFunc
  | nilIface => exact .nilIface
  | func hf h1 h2 h3 h4 i1 i2 => exact .func (hf.mono h) h1 i1 h3 i2
  | iface t _ ih => exact .iface t ih
  | agg h1 _ ih => exact .agg h1 ih
  | tuple h1 _ ih => exact .tuple h1 ih

/-- lists of values -/
inductive LR (σ : Ren) : List Value → List Value → Prop where
  | nil : LR σ [] []
  | cons {x y : Value} {l m : List Value} (h : VRel σ x y) (t : LR σ l m) : LR σ (x :: l) (y :: m)

theorem LR.mono {σ τ : Ren} (h : σ.le τ) {l l' : List Value} (r : LR σ l l') : LR τ l l' := by
  induction r with
  | nil => exact .nil
  | cons a _ ih => exact .cons (a.mono h) ih
theorem LR.length {σ : Ren} {l l' : List Value} (r : LR σ l l') : l.length = l'.length := by
  induction r with
  | nil => rfl
  | cons _ _ ih => simp [ih]
theorem LR.at {σ : Ren} {l l' : List Value} (r : LR σ l l') : ∀ (i : Nat) (x y : Value), l[i]? = some x → l'[i]? = some y → VRel σ x y := by
  induction r with
  | nil => intro i x y h; simp at h
  | cons a _ ih =>
    intro i x y h1 h2
    cases i with
    | zero => simp at h1 h2; subst h1; subst h2; exact a
    | succ i => exact ih i x y (by simpa using h1) (by simpa using h2)
theorem LR.get {σ : Ren} {l l' : List Value} (r : LR σ l l') {i : Nat} {x : Value} (h : l[i]? = some x) : ∃ y, l'[i]? = some y ∧ VRel σ x y := by
  have hi : i < l.length := by
    rcases Nat.lt_or_ge i l.length with g | g
    · exact g
    · rw [List.getElem?_eq_none g] at h; cases h
  refine ⟨l'[i]'(by rw [← r.length]; exact hi), List.getElem?_eq_getElem _, ?_⟩
  exact r.at i x _ h (List.getElem?_eq_getElem _)
theorem LR.of {σ : Ren} : ∀ {l l' : List Value}, l.length = l'.length → (∀ (i : Nat) (x y : Value), l[i]? = some x → l'[i]? = some y → VRel σ x y) → LR σ l l'
  | [], [], _, _ => .nil
  | [], _ :: _, h, _ => by simp at h
  | _ :: _, [], h, _ => by simp at h
  | x :: l, y :: l', h, g => .cons (g 0 x y rfl rfl) (LR.of (by simpa using h) fun i a b ha hb => g (i + 1) a b (by simpa using ha) (by simpa using hb))
theorem LR.append {σ : Ren} {l l' m m' : List Value} (r : LR σ l l') (s : LR σ m m') : LR σ (l ++ m) (l' ++ m') := by
  induction r with
  | nil => exact s
  | cons a _ ih => exact .cons a ih
theorem LR.drop {σ : Ren} {l l' : List Value} (r : LR σ l l') (n : Nat) : LR σ (l.drop n) (l'.drop n) := by
  induction r generalizing n with
  | nil => simpa using LR.nil
  | cons a t ih => cases n with
    | zero => exact .cons a t
    | succ n => simpa using ih n
theorem LR.take {σ : Ren} {l l' : List Value} (r : LR σ l l') (n : Nat) : LR σ (l.take n) (l'.take n) := by
  induction r generalizing n with
  | nil => simpa using LR.nil
  | cons a t ih => cases n with
    | zero => exact .nil
    | succ n => simpa using LR.cons a (ih n)
theorem LR.agg {σ : Ren} {l l' : List Value} (r : LR σ l l') : VRel σ (.agg ⟨l⟩) (.agg ⟨l'⟩) := .agg r.length r.at
theorem LR.tuple {σ : Ren} {l l' : List Value} (r : LR σ l l') : VRel σ (.tuple ⟨l⟩) (.tuple ⟨l'⟩) := .tuple r.length r.at
theorem LR.one {σ : Ren} {x y : Value} (h : VRel σ x y) : LR σ [x] [y] := .cons h .nil

/-- a value's cells -/
theorem VRel.cells {σ : Ren} {v v' : Value} (r : VRel σ v v') (hv : ∀ k a b, v ≠ .complex k a b) : LR σ v.cells.toList v'.cells.toList := by
  cases r with
  | poison k a b v => exact absurd rfl (hv k a b)
  | agg h1 h2 => exact LR.of h1 h2
  | bool b => exact .one (.bool b)
  | int k n => exact .one (.int k n)
  | string s => exact .one (.string s)
  | nilp => exact .one .nilp
  | ptr r => exact .one (.ptr r)
  | nils => exact .one .nils
  | slc n c hc r => exact .one (.slc n c hc r)
  | unk n size c' h0 h1 hm hb ho hs hn he hd => exact .one (.unk n size c' h0 h1 hm hb ho hs hn he hd)
  | flo a' c c' hc => exact .one (.flo a' c c' hc)
  | nilm => exact .one .nilm
  | map r => exact .one (.map r)
  | nilFunc => exact .one .nilFunc
  | nilIface => exact .one .nilIface
  | func hf h1 h2 h3 h4 => exact .one (.func hf h1 h2 h3 h4)
  | iface t h => exact .one (.iface t h)
  | tuple h1 h2 => exact .one (.tuple h1 h2)

/-- values without addresses are the same -/
theorem LR.same {σ : Ren} : ∀ (l : List Value), (∀ x ∈ l, VRel σ x x) → LR σ l l
  | [], _ => .nil
  | x :: l, h => .cons (h x (List.mem_cons_self ..)) (LR.same l fun y hy => h y (List.mem_cons_of_mem _ hy))

theorem bare_same {σ : Ren} : ∀ (d : Nat) (v : Value), bare d v = true → VRel σ v v := by
  intro d
  induction d with
  | zero => intro v h; simp [bare] at h
  | succ d ih =>
    intro v h
    cases v with
    | bool b => exact .bool b
    | int k n => exact .int k n
    | float k b => simp [bare] at h
    | complex k a b => exact .poison k a b _
    | string s => exact .string s
    | pointer a => cases a with
      | none => exact .nilp
      | some a => simp [bare] at h
    | slice a n c => cases a with
      | none => cases n <;> cases c <;> first | exact .nils | simp [bare] at h
      | some a => simp [bare] at h
    | map r => cases r with
      | none => exact .nilm
      | some r => simp [bare] at h
    | chan r => simp [bare] at h
    | nilFunc => exact .nilFunc
    | nilIface => exact .nilIface
    | iface t v => simp [bare] at h
    | func fn fs cs =>
      cases fn <;> simp [bare] at h <;> (obtain ⟨h1, h2⟩ := h; subst h1; subst h2; exact .func rfl rfl (fun i x y h => by simp at h) rfl (fun i x y h => by simp at h))
    | agg cs =>
      have h' : cs.toList.all (bare d) = true := h
      rw [List.all_eq_true] at h'
      have r := LR.same (σ := σ) cs.toList fun x hx => ih x (h' x hx)
      exact .agg r.length r.at
    | tuple cs =>
      have h' : cs.toList.all (bare d) = true := h
      rw [List.all_eq_true] at h'
      have r := LR.same (σ := σ) cs.toList fun x hx => ih x (h' x hx)
      exact .tuple r.length r.at

/-! ### objects -/

def FrR (d sz : Nat) (p q : Nat × Nat) : Prop :=
  (p.1 = p.2 ∧ q.1 = q.2) ∨ (p.1 < UNK ∧ p.1 < p.2 ∧ q.1 = p.1 + d ∧ q.2 = p.2 + d) ∨ (p.1 = UNK ∧ p.2 = UNK + 1 ∧ (q.1 = q.2 ∨ (q.1 = sz ∧ q.2 = sz + 1)))

def RowIn (σ : Ren) (d : Nat) (l : List Value) (c : Array Value) : Prop := ∀ (i : Nat) (x : Value), l[i]? = some x → ∃ y, c[d + i]? = some y ∧ VRel σ x y

def EntR (σ : Ren) (e e' : MapEntry) : Prop := VRel σ e.key e'.key ∧ VRel σ e.val e'.val ∧ e.born = e'.born

inductive ER (σ : Ren) : List MapEntry → List MapEntry → Prop where
  | nil : ER σ [] []
  | cons {x y : MapEntry} {l m : List MapEntry} (h : EntR σ x y) (t : ER σ l m) : ER σ (x :: l) (y :: m)

def TmpsR (σ : Ren) (live : Nat) (l : List Value) (c : Array Value) : Prop := ∀ (t : Nat) (x : Value), tb live t = true → l[t]? = some x → VRel σ x (c.getD t undef)

inductive ORel (P : Program) (σ : Ren) (m : NM) : VObj → Obj → Prop where
  | row {n : Nat} {f b : List Value} {e : TypeId} {fr fr' : Nat × Nat} {c : Array Value} (hn : n = (rowList f b).length) (hs : c.size = m.sz) (hc : RowIn σ m.d (rowList f b) c)
      (hf : FrR m.d m.sz fr fr') (hd : m.d % P.cellsOf e = 0) : ORel P σ m (.row n f b e fr) (.cells c e fr')
  | map {es : List MapEntry} {es' : Array MapEntry} {c : Nat} (h : ER σ es es'.toList) : ORel P σ m (.map es c) (.map es' c)
  | siter (s : ByteArray) (pos : Nat) (hd : m.d = 0) : ORel P σ m (.siter s pos) (.stringIter s pos)
  | none (s s' : Nat) (l : List Nat) (l' : Array Nat) (k : Nat) (hd : m.d = 0) : ORel P σ m (.miter none s l) (.mapIter none s' l' k)
  | miter {r : Nat} {m' : NM} {since : Nat} {seen : List Nat} (h : σ r = some m') (hs : ∀ s, s ∈ seen → s < since) (hd : m.d = 0) : ORel P σ m (.miter (some r) since seen) (.mapIter (some m'.b) since ⟨seen⟩ since)
  | loop {st : LoopState} {p : Option Code} {live : Nat} {tmps : List Value} {tmps' : Array Value} {ps : List Tmp} {assign body : Code} {D : Nat} {mD : NM} {fn : FuncId}
      (hD : σ D = some mD) (ht : TmpsR σ live tmps tmps') (hp : ∀ t, t ∈ ps → t < tmps'.size) (ha : bndC tmps'.size assign = true) (hb : bndC tmps'.size body = true) :
      ORel P σ m (.loop st p live tmps ps assign body D) (.loop { state := st, pending := p, fn, tmps := tmps', params := ⟨ps⟩, assign, body, defers := mD.b })
  | dfdT : ORel P σ m (.dfd true) (.deferred (some []))
  | dfdF : ORel P σ m (.dfd false) (.deferred none)

theorem RowIn.mono {σ τ : Ren} (h : σ.le τ) {d : Nat} {l : List Value} {c : Array Value} (r : RowIn σ d l c) : RowIn τ d l c := fun i x e => by
  obtain ⟨y, h1, h2⟩ := r i x e
  exact ⟨y, h1, h2.mono h⟩
theorem ER.mono {σ τ : Ren} (h : σ.le τ) {l l' : List MapEntry} (r : ER σ l l') : ER τ l l' := by
  induction r with
  | nil => exact .nil
  | cons a _ ih => exact .cons ⟨a.1.mono h, a.2.1.mono h, a.2.2⟩ ih
theorem ORel.mono {P : Program} {σ τ : Ren} (h : σ.le τ) {m : NM} {o : VObj} {o' : Obj} (r : ORel P σ m o o') : ORel P τ m o o' := by
  cases r with
  | row hn hs hc hf hd => exact .row hn hs (hc.mono h) hf hd
  | map r => exact .map (r.mono h)
  | siter s pos hd => exact .siter s pos hd
  | none s s' l l' k hd => exact .none s s' l l' k hd
  | miter r hs hd => exact .miter (h _ _ r) hs hd
  | loop hD ht hp ha hb => exact .loop (h _ _ hD) (fun t x a b => (ht t x a b).mono h) hp ha hb
  | dfdT => exact .dfdT
  | dfdF => exact .dfdF

/-! ### heaps -/

/-- a world with another object in a block -/
def setB (w : World) (b : Nat) (o : Obj) : World := { w with heap := w.heap.setIfInBounds b o }

theorem setB_size (w : World) (b : Nat) (o : Obj) : (setB w b o).heap.size = w.heap.size := by simp [setB]
theorem setB_same (w : World) {b : Nat} (o : Obj) (h : b < w.heap.size) : (setB w b o).heap[b]? = some o := by simp [setB, h]
theorem setB_other (w : World) {b k : Nat} (o : Obj) (h : k ≠ b) : (setB w b o).heap[k]? = w.heap[k]? := by
  simp only [setB]
  rw [Array.getElem?_setIfInBounds, if_neg (fun e => h e.symm)]

theorem extends_setB {W w : World} (h : W.Extends w) {b : Nat} (o : Obj) (hb : W.heap.size ≤ b) : W.Extends (setB w b o) := by
  have hne : ∀ i, i < W.heap.size → (setB w b o).heap[i]? = w.heap[i]? := fun i hi => setB_other w o (by omega)
  refine ⟨h.os, h.tape, h.output, by rw [setB_size]; exact h.size, fun a ha => ?_, fun a ha => ?_, fun i hi => (hne i hi).trans (h.block i hi)⟩
  · rw [← h.cell a ha]; simp only [World.cell?, hne a.block ha]
  · rw [← h.frozen a ha]; simp only [World.frozen?, hne a.block ha]

/-- what stays: an old world, and blocks that no name reaches -/
structure Frm where
  W : World
  X : Nat → Option Obj
  Z : Nat → Prop
  B : Nat

structure R (W : Frm) (P : Program) (σ : Ren) (h : VH) (w : World) : Prop where
  ext : W.W.Extends w
  own : ∀ n m, σ n = some m → W.W.heap.size ≤ m.b ∧ m.b < w.heap.size
  lt : ∀ n m, σ n = some m → n < h.nx
  obj : ∀ n o, h.get n = some o → ∃ m O, σ n = some m ∧ w.heap[m.b]? = some O ∧ ORel P σ m o O
  inj : ∀ n n' o o' m m', h.get n = some o → h.get n' = some o' → σ n = some m → σ n' = some m' → m.b = m'.b → n = n'
  fix : ∀ b O, W.X b = some O → w.heap[b]? = some O
  off : ∀ n o m, h.get n = some o → σ n = some m → W.X m.b = none
  res : ∀ n, W.Z n → σ n = none
  zlt : ∀ n, W.Z n → n < h.nx
  al : σ h.al = none
  zal : ¬ W.Z h.al
  big : W.B ≤ w.heap.size

section
variable {W : Frm} {P : Program} {σ : Ren} {h : VH} {w : World}

theorem R.none_ge (r : R W P σ h w) {n : Nat} (hn : h.nx ≤ n) : σ n = none := by
  cases e : σ n with
  | none => rfl
  | some m => exact absurd (r.lt n m e) (by omega)
theorem R.get_ge (r : R W P σ h w) {n : Nat} (hn : h.nx ≤ n) : h.get n = none := by
  cases e : h.get n with
  | none => rfl
  | some o =>
    obtain ⟨m, _, hm, _⟩ := r.obj n o e
    rw [r.none_ge hn] at hm; cases hm

/-- the same, in a heap that knows less, or of more names -/
theorem R.less (r : R W P σ h w) {h' : VH} (hx : h.nx ≤ h'.nx) (ha : σ h'.al = none) (hz : ¬ W.Z h'.al) (hs : ∀ n o, h'.get n = some o → h.get n = some o) : R W P σ h' w where
  ext := r.ext
  own := r.own
  lt n m e := Nat.lt_of_lt_of_le (r.lt n m e) hx
  obj n o e := r.obj n o (hs n o e)
  inj n n' o o' m m' e1 e2 := r.inj n n' o o' m m' (hs _ _ e1) (hs _ _ e2)
  fix := r.fix
  off n o m e := r.off n o m (hs n o e)
  res := r.res
  zlt n e := Nat.lt_of_lt_of_le (r.zlt n e) hx
  al := ha
  zal := hz
  big := r.big

theorem R.kill (r : R W P σ h w) (n : Nat) : R W P σ (h.put n none) w :=
  r.less (Nat.le_refl _) r.al r.zal fun k o e => by
    rw [VH.get_put] at e
    split at e
    · cases e
    · exact e

theorem R.drew (r : R W P σ h w) : R W P σ h w.drew where
  ext := r.ext.drew
  own := r.own
  lt := r.lt
  obj := r.obj
  inj := r.inj
  fix := r.fix
  off := r.off
  res := r.res
  zlt := r.zlt
  al := r.al
  zal := r.zal
  big := r.big

theorem lt_of_get {w : World} {b : Nat} {O : Obj} (h : w.heap[b]? = some O) : b < w.heap.size := by
  rcases Nat.lt_or_ge b w.heap.size with g | g
  · exact g
  · rw [Array.getElem?_eq_none g] at h; cases h

theorem heap_alloc_lt (w : World) (o : Obj) {b : Nat} (hb : b < w.heap.size) : (w.alloc o).heap[b]? = w.heap[b]? := by
  show (w.heap.push o)[b]? = _
  rw [Array.getElem?_push, if_neg (Nat.ne_of_lt hb)]
theorem heap_alloc_eq (w : World) (o : Obj) : (w.alloc o).heap[w.heap.size]? = some o := by
  show (w.heap.push o)[w.heap.size]? = _
  rw [Array.getElem?_push, if_pos rfl]

/-- an object of the machine's alone -/
theorem R.alloc (r : R W P σ h w) (o : Obj) : R W P σ h (w.alloc o) where
  ext := r.ext.alloc o
  own n m e := by
    obtain ⟨h1, h2⟩ := r.own n m e
    rw [World.size_alloc]
    exact ⟨h1, by omega⟩
  lt := r.lt
  obj n x e := by
    obtain ⟨m, O, h1, h2, h3⟩ := r.obj n x e
    exact ⟨m, O, h1, by rw [heap_alloc_lt _ _ (r.own n m h1).2]; exact h2, h3⟩
  inj := r.inj
  fix b O e := by rw [heap_alloc_lt _ _ (lt_of_get (r.fix b O e))]; exact r.fix b O e
  off := r.off
  res := r.res
  zlt := r.zlt
  al := r.al
  zal := r.zal
  big := by rw [World.size_alloc]; exact Nat.le_succ_of_le r.big

/-- an object is written -/
theorem R.upd (r : R W P σ h w) {n : Nat} {m : NM} (hm : σ n = some m) {o0 : VObj} (hg : h.get n = some o0) {o : VObj} {O : Obj} (ho : ORel P σ m o O) : R W P σ (h.put n (some o)) (setB w m.b O) where
  ext := extends_setB r.ext O (r.own n m hm).1
  own k m' e := by rw [setB_size]; exact r.own k m' e
  lt := r.lt
  obj k x e := by
    rw [VH.get_put] at e
    by_cases hk : k = n
    · subst hk
      rw [if_pos rfl] at e
      cases e
      exact ⟨m, O, hm, setB_same w O (r.own k m hm).2, ho⟩
    · rw [if_neg hk] at e
      obtain ⟨m', O', h1, h2, h3⟩ := r.obj k x e
      refine ⟨m', O', h1, ?_, h3⟩
      rw [setB_other _ _ (fun hb => hk (r.inj _ _ _ _ _ _ e hg h1 hm hb))]
      exact h2
  inj k k' x x' m1 m2 e1 e2 := by
    have key : ∀ j y, (h.put n (some o)).get j = some y → ∃ y', h.get j = some y' := by
      intro j y e
      rw [VH.get_put] at e
      by_cases hj : j = n
      · subst hj; exact ⟨_, hg⟩
      · rw [if_neg hj] at e; exact ⟨_, e⟩
    obtain ⟨y1, g1⟩ := key _ _ e1
    obtain ⟨y2, g2⟩ := key _ _ e2
    exact r.inj k k' y1 y2 m1 m2 g1 g2
  fix b O' e := by
    rw [setB_other _ _ (fun hb => by rw [hb, r.off n o0 m hg hm] at e; cases e)]
    exact r.fix b O' e
  off k x m' e1 e2 := by
    rw [VH.get_put] at e1
    by_cases hk : k = n
    · subst hk; exact r.off k o0 m' hg e2
    · rw [if_neg hk] at e1; exact r.off k x m' e1 e2
  res := r.res
  zlt := r.zlt
  al := r.al
  zal := r.zal
  big := by rw [setB_size]; exact r.big

/-- a new name for a block that no live name has -/
theorem R.name (r : R W P σ h w) {m : NM} (hb : W.W.heap.size ≤ m.b) (hl : m.b < w.heap.size) (hfree : ∀ k x m', h.get k = some x → σ k = some m' → m'.b ≠ m.b) (hX : W.X m.b = none)
    {o : VObj} {O : Obj} (hO : w.heap[m.b]? = some O) (ho : ORel P (σ.at h.al m) m o O) : σ.le (σ.at h.al m) ∧ R W P (σ.at h.al m) (h.new o) w := by
  have hnone : σ h.al = none := r.al
  have hle : σ.le (σ.at h.al m) := Ren.le_at hnone
  refine ⟨hle, r.ext, ?_, ?_, ?_, ?_, r.fix, ?_, ?_, ?_, ?_, ?_, r.big⟩
  · intro k m' e
    by_cases hk : k = h.al
    · subst hk; rw [Ren.at_same] at e; cases e; exact ⟨hb, hl⟩
    · rw [Ren.at_other _ _ hk] at e; exact r.own k m' e
  · intro k m' e
    rw [VH.nx_new]
    by_cases hk : k = h.al
    · subst hk; exact nxt_al _ _
    · rw [Ren.at_other _ _ hk] at e
      exact Nat.lt_of_lt_of_le (r.lt k m' e) (nxt_nx _ _)
  · intro k x e
    rw [VH.get_new] at e
    by_cases hk : k = h.al
    · subst hk; rw [if_pos rfl] at e; cases e
      exact ⟨m, O, Ren.at_same _ _ _, hO, ho⟩
    · rw [if_neg hk] at e
      obtain ⟨m', O', h1, h2, h3⟩ := r.obj k x e
      exact ⟨m', O', by rw [Ren.at_other _ _ hk]; exact h1, h2, h3.mono hle⟩
  · intro k k' x x' m1 m2 e1 e2 s1 s2 hb'
    rw [VH.get_new] at e1 e2
    by_cases hk : k = h.al
    · by_cases hk' : k' = h.al
      · rw [hk, hk']
      · subst hk
        rw [if_neg hk'] at e2
        rw [Ren.at_same] at s1; cases s1
        rw [Ren.at_other _ _ hk'] at s2
        exact absurd hb'.symm (hfree _ _ _ e2 s2)
    · by_cases hk' : k' = h.al
      · subst hk'
        rw [if_neg hk] at e1
        rw [Ren.at_same] at s2; cases s2
        rw [Ren.at_other _ _ hk] at s1
        exact absurd hb' (hfree _ _ _ e1 s1)
      · rw [if_neg hk] at e1; rw [if_neg hk'] at e2
        rw [Ren.at_other _ _ hk] at s1; rw [Ren.at_other _ _ hk'] at s2
        exact r.inj k k' x x' m1 m2 e1 e2 s1 s2 hb'
  · intro k x m' e1 e2
    rw [VH.get_new] at e1
    by_cases hk : k = h.al
    · subst hk; rw [Ren.at_same] at e2; cases e2; exact hX
    · rw [if_neg hk] at e1
      rw [Ren.at_other _ _ hk] at e2
      exact r.off k x m' e1 e2
  · intro k hz
    have hk : k ≠ h.al := fun q => by subst q; exact r.zal hz
    rw [Ren.at_other _ _ hk]
    exact r.res k hz
  · intro k hz
    exact Nat.lt_of_lt_of_le (r.zlt k hz) (nxt_nx _ _)
  · rw [VH.al_new, Ren.at_other _ _ (Nat.ne_of_gt (nxt_al _ _))]
    exact r.none_ge (nxt_nx _ _)
  · rw [VH.al_new]
    intro hz
    have := r.zlt _ hz
    have := nxt_nx h.nx h.al
    omega

/-- a new object -/
theorem R.new (r : R W P σ h w) {m : NM} (hb : m.b = w.heap.size) {o : VObj} {O : Obj} (ho : ORel P (σ.at h.al m) m o O) :
    σ.le (σ.at h.al m) ∧ R W P (σ.at h.al m) (h.new o) (w.alloc O) := by
  refine (r.alloc O).name ?_ ?_ ?_ ?_ (O := O) ?_ ho
  · rw [hb]; exact r.ext.size
  · rw [hb, World.size_alloc]; omega
  · intro k x m' _ e he
    have := (r.own k m' e).2
    omega
  · cases e : W.X m.b with
    | none => rfl
    | some O' =>
      have := lt_of_get (r.fix _ _ e)
      omega
  · rw [hb]; exact heap_alloc_eq w O

/-- the next object gets that name -/
theorem R.setAl (r : R W P σ h w) {n : Nat} (hn : h.nx ≤ n) : R W P σ ⟨h.t, h.nx, n⟩ w :=
  r.less (Nat.le_refl _) (r.none_ge hn) (fun hz => by have := r.zlt _ hz; have : n < h.nx := this; omega) (fun _ _ e => e)
end

end Go.Proofs.YtonkcdnpmemheaaGreat.Vm

namespace Go.Proofs.YtonkcdnpmemheaaGreat.Vm

/-! ### types -/
section
variable {P : Program}

theorem tyInfo_some {t : TypeId} {i : TypeInfo} (h : tyInfo P t = some i) : P.info? t = some i := by
  unfold tyInfo at h
  rw [nth?_eq, Array.getElem?_toList] at h
  have hlt : t < P.types.size := by
    rcases Nat.lt_or_ge t P.types.size with g | g
    · exact g
    · rw [Array.getElem?_eq_none g] at h; cases h
  show (if t < P.types.size then P.types[t]? else _) = _
  rw [if_pos hlt]; exact h

theorem tyUnd2_some {t : TypeId} {i : TypeInfo} {d : TypeDesc} (hi : P.info? t = some i) (h : tyUnd2 P i = some d) : P.underlying t = some d := by
  unfold Program.underlying
  rw [hi]
  obtain ⟨desc, str, size, bytes, hp, al, fa, zero, comp, ms⟩ := i
  unfold tyUnd2 at h
  cases desc with
  | named n u =>
    simp only at h
    cases g : tyInfo P u with
    | none => rw [g] at h; cases h
    | some j =>
      rw [g] at h
      simp only [tyInfo_some g, Option.map_some]
      exact h
  | _ => exact h

theorem tyUnd_some {t : TypeId} {d : TypeDesc} (h : tyUnd P t = some d) : P.underlying t = some d := by
  unfold tyUnd at h
  cases g : tyInfo P t with
  | none => rw [g] at h; cases h
  | some i => rw [g] at h; exact tyUnd2_some (tyInfo_some g) h

theorem sizeT_some {t : TypeId} {n : Nat} (h : sizeT P t = some n) : ∃ i, P.info? t = some i ∧ i.size = n := by
  unfold sizeT at h
  cases g : tyInfo P t with
  | none => rw [g] at h; cases h
  | some i => rw [g] at h; exact ⟨i, tyInfo_some g, Option.some.inj h⟩

theorem sizeT_cellsOf {t : TypeId} {n : Nat} (h : sizeT P t = some n) : P.cellsOf t = n := by
  obtain ⟨i, h1, h2⟩ := sizeT_some h
  simp [Program.cellsOf, h1, h2]

theorem zeroT_some {t : TypeId} {v : Value} (h : zeroT P t = some v) : ∃ i, P.info? t = some i ∧ i.zero = some v ∧ bare 4 v = true := by
  unfold zeroT at h
  cases g : tyInfo P t with
  | none => rw [g] at h; cases h
  | some i =>
    rw [g] at h
    simp only at h
    cases z : i.zero with
    | none => rw [z] at h; cases h
    | some u =>
      rw [z] at h
      simp only at h
      cases b : bare 4 u with
      | false => rw [b] at h; cases h
      | true => rw [b] at h; cases h; exact ⟨i, tyInfo_some g, z, b⟩

theorem aggOf_some {t : TypeId} {n : Option Nat} (h : aggOf P t = some n) : ∃ i d, P.info? t = some i ∧ P.underlying t = some d ∧ ((∃ k, n = some k ∧ i.size = k ∧ ((∃ fs, d = .struct fs) ∨ (∃ l e, d = .array l e))) ∨ (n = none ∧ (∀ fs, d ≠ .struct fs) ∧ (∀ l e, d ≠ .array l e))) := by
  unfold aggOf at h
  cases g : tyInfo P t with
  | none => rw [g] at h; cases h
  | some i =>
    rw [g] at h
    simp only at h
    cases u : tyUnd2 P i with
    | none => rw [u] at h; cases h
    | some d =>
      rw [u] at h
      refine ⟨i, d, tyInfo_some g, tyUnd2_some (tyInfo_some g) u, ?_⟩
      cases d with
      | struct fs => left; exact ⟨i.size, (Option.some.inj h).symm, rfl, .inl ⟨fs, rfl⟩⟩
      | array l e => left; exact ⟨i.size, (Option.some.inj h).symm, rfl, .inr ⟨l, e, rfl⟩⟩
      | _ => right; exact ⟨(Option.some.inj h).symm, (fun fs e => by cases e), (fun l e h => by cases h)⟩

variable (w : World)
theorem run_underlying {t : TypeId} {d : TypeDesc} (h : P.underlying t = some d) : (Go.underlying t).run P w = .ok d w := by
  simp [Go.underlying, h]
theorem run_typeInfo {t : TypeId} {i : TypeInfo} (h : P.info? t = some i) : (Go.typeInfo t).run P w = .ok i w := by
  simp [Go.typeInfo, h]
theorem run_sizeOf {t : TypeId} {i : TypeInfo} (h : P.info? t = some i) : (Go.sizeOf t).run P w = .ok i.size w := by
  simp [Go.sizeOf, run_typeInfo w h]
theorem run_sizeOf' {t : TypeId} {n : Nat} (h : sizeT P t = some n) : (Go.sizeOf t).run P w = .ok n w := by
  obtain ⟨i, h1, h2⟩ := sizeT_some h
  rw [run_sizeOf w h1, h2]
theorem run_zeroValue {t : TypeId} {v : Value} (h : zeroT P t = some v) : (Go.zeroValue t).run P w = .ok v w := by
  obtain ⟨i, h1, h2, _⟩ := zeroT_some h
  simp [Go.zeroValue, run_typeInfo w h1, h2]
theorem run_isAgg {t : TypeId} {n : Option Nat} (h : aggOf P t = some n) : (Go.isAgg t).run P w = .ok n.isSome w := by
  obtain ⟨i, d, _, h2, h3⟩ := aggOf_some h
  simp only [Go.isAgg, Sem.run_bind, run_underlying w h2, Result.andThen_ok]
  rcases h3 with ⟨k, rfl, _, h4⟩ | ⟨rfl, h4, h5⟩
  · rcases h4 with ⟨fs, rfl⟩ | ⟨l, e, rfl⟩ <;> simp
  · cases d with
    | struct fs => exact absurd rfl (h4 fs)
    | array l e => exact absurd rfl (h5 l e)
    | _ => rfl
theorem run_sizeAgg {t : TypeId} {n : Nat} (h : aggOf P t = some (some n)) : (Go.sizeOf t).run P w = .ok n w := by
  obtain ⟨i, d, h1, h2, h3⟩ := aggOf_some h
  rcases h3 with ⟨k, e, h4, _⟩ | ⟨e, _⟩
  · cases e; rw [run_sizeOf w h1, h4]
  · cases e

theorem run_underlying' {t : TypeId} {d : TypeDesc} (h : tyUnd P t = some d) : (Go.underlying t).run P w = .ok d w := run_underlying w (tyUnd_some h)
end

/-! ### integers -/

theorem lim_eq (k : IntKind) : (lim k : Int) = (if k.signed then 2 ^ (k.bits - 1) else 2 ^ k.bits) := by cases k <;> rfl

theorem wrap_small (k : IntKind) {m : Nat} (h : m < lim k) : k.wrap (m : Int) = (m : Int) := by
  have hl := lim_eq k
  cases k <;> simp only [lim] at h <;> simp only [IntKind.wrap, IntKind.bits, IntKind.signed] <;> simp <;> omega

theorem wrapN_eq (k : IntKind) (m : Nat) : wrapN k m = k.wrap (Int.ofNat m) := by
  unfold wrapN
  split
  · rename_i h
    have h' : m < lim k := by
      rw [Nat.blt_eq] at h
      exact h
    exact (wrap_small k h').symm
  · rfl

theorem wrapF_eq (k : IntKind) (n : Int) : wrapF k n = k.wrap n := by
  cases n with
  | ofNat m => exact wrapN_eq k m
  | negSucc m => rfl

theorem addF_eq (a b : Int) : addF a b = a + b := by cases a <;> cases b <;> rfl
theorem subF_eq (a b : Int) : subF a b = a - b := by
  cases a <;> cases b
  · rename_i x y
    show subN x y = _
    unfold subN
    split
    · rename_i h
      have := Nat.le_of_ble_eq_true h
      show Int.ofNat (x - y) = Int.ofNat x - Int.ofNat y
      simp only [Int.ofNat_eq_natCast]
      omega
    · rfl
  all_goals rfl
theorem mulF_eq (a b : Int) : mulF a b = a * b := by cases a <;> cases b <;> rfl
theorem ltF_eq (a b : Int) : ltF a b = decide (a < b) := by
  cases a <;> cases b <;> simp only [ltF]
  · rename_i x y
    rw [Bool.eq_iff_iff, Nat.blt_eq, decide_eq_true_iff]
    simp
  · rename_i x y
    symm; rw [decide_eq_false_iff_not]
    simp only [Int.ofNat_eq_natCast]; omega
  · rename_i x y
    symm; rw [decide_eq_true_iff]
    simp only [Int.ofNat_eq_natCast]; omega
  · rename_i x y
    rw [Bool.eq_iff_iff, Nat.blt_eq, decide_eq_true_iff]
    omega
theorem eqF_eq (a b : Int) : eqF a b = (a == b) := by
  cases a <;> cases b <;> simp only [eqF]
  · rename_i x y
    rw [Bool.eq_iff_iff, Nat.beq_eq, beq_iff_eq]
    simp only [Int.ofNat_eq_natCast]; omega
  · rename_i x y
    symm; rw [beq_eq_false_iff_ne]
    simp
  · rename_i x y
    symm; rw [beq_eq_false_iff_ne]
    simp
  · rename_i x y
    rw [Bool.eq_iff_iff, Nat.beq_eq, beq_iff_eq]
    simp

theorem keq_eq {a b : IntKind} (h : keq a b = true) : a = b := by
  cases a <;> cases b <;> first | rfl | (simp [keq, kidx] at h)

theorem ofSem_some {α : Type} {s : Sem α} {a : α} (h : ofSem s = some a) : s = .pure a := by
  cases s <;> simp [ofSem] at h
  subst h; rfl

theorem divF_run {op : BinOp} {k : IntKind} {a b : Int} {v : Value} (h : divF op k a b = some v) (P : Program) (w : World) :
    (Op.intDiv op k a b).run P w = .ok v w ∧ (∀ σ, VRel σ v v) := by
  have key : ∀ {v : Value}, ofSem (Op.intDiv op k a b) = some v → (Op.intDiv op k a b).run P w = .ok v w ∧ (∀ σ, VRel σ v v) := by
    intro v h
    have e := ofSem_some h
    refine ⟨by rw [e]; rfl, fun σ => ?_⟩
    unfold Op.intDiv at e
    split at e
    · cases e
    · cases op <;> first | (cases e; exact .int _ _) | cases e
  unfold divF at h
  split at h
  · rename_i x y
    have hy : ¬ (Int.ofNat (y + 1) = 0) := by simp; omega
    cases op with
    | quo =>
      simp only [Option.some.injEq] at h
      subst h
      refine ⟨?_, fun σ => .int _ _⟩
      simp only [Op.intDiv, hy, if_false]
      rw [wrapN_eq]
      rfl
    | rem =>
      simp only [Option.some.injEq] at h
      subst h
      refine ⟨?_, fun σ => .int _ _⟩
      simp only [Op.intDiv, hy, if_false]
      rfl
    | _ => cases h
  · exact key h

theorem bits_run {op : BinOp} {k : IntKind} {a b : Int} {v : Value} (h : ofSem (Op.intBits op k a b) = some v) (P : Program) (w : World) :
    (Op.intBits op k a b).run P w = .ok v w ∧ (∀ σ, VRel σ v v) := by
  have e := ofSem_some h
  refine ⟨by rw [e]; rfl, fun σ => ?_⟩
  unfold Op.intBits at e
  cases op <;> first | (cases e; exact .int _ _) | cases e

theorem shift_run {op : BinOp} {k j : IntKind} {a b : Int} {v : Value} (h : ofSem (Op.shift op k a j b) = some v) (P : Program) (w : World) :
    (Op.shift op k a j b).run P w = .ok v w ∧ (∀ σ, VRel σ v v) := by
  have e := ofSem_some h
  refine ⟨by rw [e]; rfl, fun σ => ?_⟩
  unfold Op.shift at e
  split at e
  · cases e
  · cases op <;> first | (cases e; exact .int _ _) | cases e

theorem kb_eq (k : IntKind) : kb k = k.bits := by cases k <;> rfl

theorem shF_run {op : BinOp} {k j : IntKind} {a b : Int} {v : Value} (h : shF op k a j b = some v) (P : Program) (w : World) :
    (Op.shift op k a j b).run P w = .ok v w ∧ (∀ σ, VRel σ v v) := by
  unfold shF at h
  split at h
  · rename_i x y
    split at h
    · rename_i hy
      have hy' := Nat.le_of_ble_eq_true hy
      rw [kb_eq] at hy'
      split at h
      · simp only [Option.some.injEq] at h
        subst h
        refine ⟨?_, fun σ => .int _ _⟩
        have h0 : ¬ (Int.ofNat y < 0) := by simp
        have h1 : min (Int.ofNat y).toNat k.bits = y := by
          show min y k.bits = y
          omega
        simp only [Op.shift, h0, if_false, h1]
        show (Sem.pure (Value.int k ((Int.ofNat x).fdiv (2 ^ y)))).run P w = _
        have h2 : (Int.ofNat x).fdiv (2 ^ y) = Int.ofNat (Nat.shiftRight x y) := by
          have : (2 : Int) ^ y = ((2 ^ y : Nat) : Int) := by simp
          rw [this]
          show Int.fdiv (x : Int) ((2 ^ y : Nat) : Int) = ((x >>> y : Nat) : Int)
          rw [Nat.shiftRight_eq_div_pow]
          rw [Int.fdiv_eq_ediv_of_nonneg _ (Int.natCast_nonneg _)]
          simp
        rw [h2]; rfl
      · exact shift_run h P w
    · exact shift_run h P w
  · exact shift_run h P w

theorem decide_not_lt (a b : Int) : (!decide (b < a)) = decide (a ≤ b) := by
  rw [Bool.eq_iff_iff]; simp

theorem intOp_run {op : BinOp} {k : IntKind} {a b : Int} {v : Value} (h : intOp op k a b = some v) (hs : op ≠ .shl) (hs' : op ≠ .shr) (P : Program) (w : World) (t : TypeId) :
    (binOp op t (.int k a) (.int k b)).run P w = .ok v w ∧ (∀ σ, VRel σ v v) := by
  cases op with
  | add => simp only [intOp, Option.some.injEq] at h; subst h; rw [wrapF_eq, addF_eq]; exact ⟨by simp [binOp, Op.intArith], fun σ => .int _ _⟩
  | sub => simp only [intOp, Option.some.injEq] at h; subst h; rw [wrapF_eq, subF_eq]; exact ⟨by simp [binOp, Op.intArith], fun σ => .int _ _⟩
  | mul => simp only [intOp, Option.some.injEq] at h; subst h; rw [wrapF_eq, mulF_eq]; exact ⟨by simp [binOp, Op.intArith], fun σ => .int _ _⟩
  | eql => simp only [intOp, Option.some.injEq] at h; subst h; rw [eqF_eq]; exact ⟨by simp [binOp, Op.intCmp], fun σ => .bool _⟩
  | neq => simp only [intOp, Option.some.injEq] at h; subst h; rw [eqF_eq]; exact ⟨by simp [binOp, Op.intCmp, bne], fun σ => .bool _⟩
  | lss => simp only [intOp, Option.some.injEq] at h; subst h; rw [ltF_eq]; exact ⟨by simp [binOp, Op.intCmp], fun σ => .bool _⟩
  | leq => simp only [intOp, Option.some.injEq] at h; subst h; rw [ltF_eq]; refine ⟨?_, fun σ => .bool _⟩; simp only [binOp, ne_eq, not_true_eq_false, if_false, Op.intCmp]; rw [decide_not_lt]; rfl
  | gtr => simp only [intOp, Option.some.injEq] at h; subst h; rw [ltF_eq]; exact ⟨by simp [binOp, Op.intCmp], fun σ => .bool _⟩
  | geq => simp only [intOp, Option.some.injEq] at h; subst h; rw [ltF_eq]; refine ⟨?_, fun σ => .bool _⟩; simp only [binOp, ne_eq, not_true_eq_false, if_false, Op.intCmp]; rw [decide_not_lt]; rfl
  | quo => have := divF_run (show divF .quo k a b = some v from h) P w; refine ⟨?_, this.2⟩; simp only [binOp]; simpa using this.1
  | rem => have := divF_run (show divF .rem k a b = some v from h) P w; refine ⟨?_, this.2⟩; simp only [binOp]; simpa using this.1
  | and => have := bits_run (show ofSem (Op.intBits .and k a b) = some v from h) P w; refine ⟨?_, this.2⟩; simp only [binOp]; simpa using this.1
  | or => have := bits_run (show ofSem (Op.intBits .or k a b) = some v from h) P w; refine ⟨?_, this.2⟩; simp only [binOp]; simpa using this.1
  | xor => have := bits_run (show ofSem (Op.intBits .xor k a b) = some v from h) P w; refine ⟨?_, this.2⟩; simp only [binOp]; simpa using this.1
  | andNot => have := bits_run (show ofSem (Op.intBits .andNot k a b) = some v from h) P w; refine ⟨?_, this.2⟩; simp only [binOp]; simpa using this.1
  | shl => exact absurd rfl hs
  | shr => exact absurd rfl hs'

theorem vint_run {op : BinOp} {k j : IntKind} {a b : Int} {v : Value} (h : vint op k a j b = some v) (P : Program) (w : World) (t : TypeId) :
    (binOp op t (.int k a) (.int j b)).run P w = .ok v w ∧ (∀ σ, VRel σ v v) := by
  by_cases h1 : op = .shl
  · subst h1; exact shF_run (show shF .shl k a j b = some v from h) P w
  by_cases h2 : op = .shr
  · subst h2; exact shF_run (show shF .shr k a j b = some v from h) P w
  have h' : (match keq k j with | true => intOp op k a b | false => none) = some v := by
    cases op <;> first | exact h | exact absurd rfl h1 | exact absurd rfl h2
  cases hk : keq k j with
  | false => rw [hk] at h'; cases h'
  | true =>
    rw [hk] at h'
    have := keq_eq hk
    subst this
    exact intOp_run h' h1 h2 P w t

end Go.Proofs.YtonkcdnpmemheaaGreat.Vm

namespace Go.Proofs.YtonkcdnpmemheaaGreat.Vm

/-! ### texts -/

theorem beqBytes_eq (a b : List UInt8) : beqBytes a b = (a == b) := by
  induction a generalizing b with
  | nil => cases b <;> rfl
  | cons x a ih =>
    cases b with
    | nil => rfl
    | cons y b =>
      show (Nat.beq x.toNat y.toNat && beqBytes a b) = (x == y && a == b)
      rw [ih]
      congr 1
      rw [Bool.eq_iff_iff, Nat.beq_eq, beq_iff_eq]
      exact UInt8.toNat_inj

theorem ltBytes_eq (a b : List UInt8) : ltBytes a b = Op.bytesLess a b := by
  induction a generalizing b with
  | nil => cases b <;> rfl
  | cons x a ih =>
    cases b with
    | nil => rfl
    | cons y b =>
      show (Nat.blt x.toNat y.toNat || (Nat.beq x.toNat y.toNat && ltBytes a b)) = (decide (x < y) || (x == y && Op.bytesLess a b))
      rw [ih]
      have h1 : Nat.blt x.toNat y.toNat = decide (x < y) := by
        rw [Bool.eq_iff_iff, Nat.blt_eq, decide_eq_true_iff]
        exact Iff.rfl
      have h2 : Nat.beq x.toNat y.toNat = (x == y) := by
        rw [Bool.eq_iff_iff, Nat.beq_eq, beq_iff_eq]
        exact UInt8.toNat_inj
      rw [h1, h2]

theorem stringOp_run {op : BinOp} {a b : ByteArray} {v : Value} (h : vstringOp op a b = some v) (P : Program) (w : World) (t : TypeId) :
    (binOp op t (.string a) (.string b)).run P w = .ok v w ∧ (∀ σ, VRel σ v v) := by
  have e1 : (a.toList == b.toList) = beqBytes a.data.toList b.data.toList := by rw [beqBytes_eq, ByteArray.toList_eq, ByteArray.toList_eq]
  have e2 : Op.bytesLess a.toList b.toList = ltBytes a.data.toList b.data.toList := by rw [ltBytes_eq, ByteArray.toList_eq, ByteArray.toList_eq]
  cases op <;> simp only [vstringOp, Option.some.injEq, reduceCtorEq] at h
  case add =>
    split at h
    · rename_i hl
      cases h
      refine ⟨?_, fun σ => .string _⟩
      have h1 : a.size = a.data.toList.length := rfl
      have h2 : b.size = b.data.toList.length := rfl
      have : ¬ (((a.size + b.size : Nat) : Int) > IntKind.i64.max) := by
        rw [h1, h2]
        have : IntKind.i64.max = 9223372036854775807 := rfl
        rw [this]; omega
      simp only [binOp, Op.stringOp, this, if_false]
      have h3 : a ++ b = ⟨⟨a.data.toList ++ b.data.toList⟩⟩ := by
        apply ByteArray.ext
        rw [ByteArray.data_append]
        apply Array.ext'
        simp
      rw [h3]; rfl
    · cases h
  all_goals (subst h; refine ⟨?_, fun σ => .bool _⟩; simp only [binOp, Op.stringOp, e1, e2]; rfl)

/-! ### equality -/

theorem eqAt_run {P : Program} {t : TypeId} {x y x' y' : Value} {b : Bool} {σ : Ren} (h : eqAt P t x y = some b) (hx : VRel σ x x') (hy : VRel σ y y') (d : Nat) (w : World) :
    (Op.equalIn (d + 1) t x' y').run P w = .ok b w ∧ (Go.isAgg t).run P w = .ok false w := by
  unfold eqAt at h
  split at h
  · cases hx; cases hy
    split at h
    · rename_i ht
      cases h
      refine ⟨run_equalIn_bool w d t _ _ (tyUnd_some ht), ?_⟩
      simp [Go.isAgg, run_underlying w (tyUnd_some ht)]
    · cases h
  · cases hx; cases hy
    split at h
    · rename_i ht
      split at h
      · rename_i hk
        cases h
        have := keq_eq hk
        subst this
        rw [eqF_eq]
        refine ⟨run_equalIn_int w d t _ _ _ _ (tyUnd_some ht), ?_⟩
        simp [Go.isAgg, run_underlying w (tyUnd_some ht)]
      · cases h
    · cases h
  · cases hx; cases hy
    split at h
    · rename_i ht
      cases h
      refine ⟨?_, ?_⟩
      · rw [run_equalIn_string w d t _ _ (tyUnd_some ht), beqBytes_eq, ByteArray.toList_eq, ByteArray.toList_eq]
      · simp [Go.isAgg, run_underlying w (tyUnd_some ht)]
    · cases h
  · cases h

theorem run_part {P : Program} {t : TypeId} {cs : Array Value} {off : Nat} {w : World} {v : Value} (ha : (Go.isAgg t).run P w = .ok false w) (h : cs[off]? = some v) :
    (Go.part t cs off).run P w = .ok v w := by
  simp [Go.part, ha, h]

theorem eqFlds_run {P : Program} {σ : Ren} {xs' ys' : Array Value} (d : Nat) (w : World) : ∀ (fs : List Field) (i : Nat) (xs ys : List Value) (b : Bool), eqFlds P i fs xs ys = some b →
    LR σ xs (xs'.toList.drop i) → LR σ ys (ys'.toList.drop i) → (Op.eqFields (d + 1) xs' ys' fs).run P w = .ok b w := by
  intro fs
  induction fs with
  | nil =>
    intro i xs ys b h _ _
    cases xs <;> cases ys <;> simp [eqFlds] at h
    subst h
    rfl
  | cons f fs ih =>
    intro i xs ys b h hx hy
    cases xs with
    | nil => simp [eqFlds] at h
    | cons x xs =>
      cases ys with
      | nil => simp [eqFlds] at h
      | cons y ys =>
        have h' : (match f.name != "_" && Nat.beq f.offset i with
          | true => (match eqAt P f.type x y with
            | some true => eqFlds P (Nat.succ i) fs xs ys
            | some false => some false
            | none => none)
          | false => none) = some b := h
        split at h'
        · rename_i hc
          rw [Bool.and_eq_true] at hc
          obtain ⟨hn, ho⟩ := hc
          have ho := Nat.eq_of_beq_eq_true ho
          have hn : f.name ≠ "_" := by simpa using hn
          obtain ⟨x', hx1, hx2⟩ := hx.get (i := 0) rfl
          obtain ⟨y', hy1, hy2⟩ := hy.get (i := 0) rfl
          rw [List.getElem?_drop] at hx1 hy1
          simp only [Nat.add_zero] at hx1 hy1
          have hxs : LR σ xs (xs'.toList.drop (i + 1)) := by simpa [List.drop_drop] using hx.drop 1
          have hys : LR σ ys (ys'.toList.drop (i + 1)) := by simpa [List.drop_drop] using hy.drop 1
          rw [Array.getElem?_toList] at hx1 hy1
          cases g : eqAt P f.type x y with
          | none => rw [g] at h'; cases h'
          | some c =>
            obtain ⟨r1, r2⟩ := eqAt_run g hx2 hy2 d w
            rw [g] at h'
            simp only [Op.eqFields, hn, ne_eq, not_false_eq_true, if_true, Sem.run_bind, ho, run_part r2 hx1, run_part r2 hy1, Result.andThen_ok, r1]
            cases c with
            | false => cases h'; rfl
            | true => simp only [Bool.not_true, Bool.false_eq_true, if_false]; exact ih (i + 1) xs ys b h' hxs hys
        · cases h'

theorem ARel.inj {σ : Ren} {a b b' : Addr} (h : ARel σ a b) (g : ARel σ a b') : b = b' := by
  obtain ⟨_, h2, m, h3, h4, h5⟩ := h
  obtain ⟨_, g2, m', g3, g4, g5⟩ := g
  rw [h3] at g3; cases g3
  cases b; cases b'
  simp_all

section
variable {P : Program} (w : World) (d : Nat) {t : TypeId}
theorem eq_nil_ptr {e : TypeId} (ht : P.underlying t = some (.pointer e)) (b : Option Addr) : (Op.equalIn (d + 1) t (.pointer none) (.pointer b)).run P w = .ok b.isNone w := by
  simp [Op.equalIn, run_underlying w ht]
theorem eq_ptr_nil {e : TypeId} (ht : P.underlying t = some (.pointer e)) (a : Addr) : (Op.equalIn (d + 1) t (.pointer (some a)) (.pointer none)).run P w = .ok false w := by
  simp [Op.equalIn, run_underlying w ht]
theorem eq_ptr_same {e : TypeId} (ht : P.underlying t = some (.pointer e)) {n : Nat} (hs : sizeT P e = some (n + 1)) (a : Addr) : (Op.equalIn (d + 1) t (.pointer (some a)) (.pointer (some a))).run P w = .ok true w := by
  simp [Op.equalIn, run_underlying w ht, run_sizeOf' w hs, sameAddr]
theorem eq_nil_slice {e : TypeId} (ht : P.underlying t = some (.slice e)) (n c : Nat) (b : Option Addr) (m k : Nat) : (Op.equalIn (d + 1) t (.slice none n c) (.slice b m k)).run P w = .ok b.isNone w := by
  simp [Op.equalIn, run_underlying w ht]
theorem eq_slice_nil {e : TypeId} (ht : P.underlying t = some (.slice e)) (a : Addr) (n c m k : Nat) : (Op.equalIn (d + 1) t (.slice (some a) n c) (.slice none m k)).run P w = .ok false w := by
  simp [Op.equalIn, run_underlying w ht]
theorem eq_nil_iface {ms : Array (String × TypeId)} (ht : P.underlying t = some (.interface ms)) (u : TypeId) (v : Value) : (Op.equalIn (d + 1) t .nilIface (.iface u v)).run P w = .ok false w := by
  simp [Op.equalIn, run_underlying w ht]
theorem eq_iface_nil {ms : Array (String × TypeId)} (ht : P.underlying t = some (.interface ms)) (u : TypeId) (v : Value) : (Op.equalIn (d + 1) t (.iface u v) .nilIface).run P w = .ok false w := by
  simp [Op.equalIn, run_underlying w ht]
end

theorem guard_triv {P : Program} (w : World) (t : TypeId) (x' y' : Value) (h1 : ∀ cs, x' ≠ .agg cs) (h2 : x' ≠ .nilIface ∨ y' ≠ .nilIface) (op : BinOp) (X Y : Operand) : (eqGuard op t X Y x' y').run P w = .ok () w := by
  unfold eqGuard
  cases op <;> first | rfl | (cases x' <;> first | rfl | exact absurd rfl (h1 _) | (cases y' <;> first | rfl | (rcases h2 with h2 | h2 <;> exact absurd rfl h2)))

theorem veq_run {P : Program} {σ : Ren} {t : TypeId} {x y x' y' : Value} {b : Bool} (h : veq P t x y = some b) (hx : VRel σ x x') (hy : VRel σ y y') (w : World) :
    (Op.equal t x' y').run P w = .ok b w ∧ (∀ op X Y, (eqGuard op t X Y x' y').run P w = .ok () w) ∧
      (∀ k n, x' ≠ .int k n) ∧ (∀ k n, x' ≠ .float k n) ∧ (∀ k n m, x' ≠ .complex k n m) ∧ (∀ s, x' ≠ .string s) := by
  have triv := guard_triv (P := P) w t
  unfold veq at h
  split at h
  · -- nil, pointer
    rename_i b0
    split at h
    · rename_i e ht
      have ht := tyUnd_some ht
      cases h
      cases hx
      cases hy <;> exact ⟨eq_nil_ptr w 9999 ht _, triv _ _ (by simp) (by simp), by simp, by simp, by simp, by simp⟩
    · cases h
  · rename_i a0 _
    split at h
    · rename_i e ht
      have ht := tyUnd_some ht
      cases h
      cases hx with
      | nilp => cases hy; exact ⟨eq_nil_ptr w 9999 ht _, triv _ _ (by simp) (by simp), by simp, by simp, by simp, by simp⟩
      | ptr r => cases hy; exact ⟨eq_ptr_nil w 9999 ht _, triv _ _ (by simp) (by simp), by simp, by simp, by simp, by simp⟩
    · cases h
  · rename_i a0 b0
    split at h
    · rename_i e ht
      have ht := tyUnd_some ht
      split at h
      · rename_i n hs
        split at h
        · rename_i hab
          cases h
          have hab : a0 = b0 := by simpa using hab
          subst hab
          cases hx with
          | ptr r1 => cases hy with
            | ptr r2 =>
              have := r1.inj r2
              subst this
              exact ⟨eq_ptr_same w 9999 ht hs _, triv _ _ (by simp) (by simp), by simp, by simp, by simp, by simp⟩
        · cases h
      · cases h
    · cases h
  · split at h
    · rename_i e ht
      have ht := tyUnd_some ht
      cases h
      cases hx
      cases hy <;> exact ⟨eq_nil_slice w 9999 ht _ _ _ _ _, triv _ _ (by simp) (by simp), by simp, by simp, by simp, by simp⟩
    · cases h
  · split at h
    · rename_i e ht
      have ht := tyUnd_some ht
      cases h
      cases hx <;> cases hy <;> first | exact ⟨eq_nil_slice w 9999 ht _ _ _ _ _, triv _ _ (by simp) (by simp), by simp, by simp, by simp, by simp⟩ | exact ⟨eq_slice_nil w 9999 ht _ _ _ _ _, triv _ _ (by simp) (by simp), by simp, by simp, by simp, by simp⟩
    · cases h
  · split at h
    · rename_i ht
      have ht := tyUnd_some ht
      cases h
      cases hx; cases hy
      exact ⟨run_equalIn_bool w 9999 t _ _ ht, triv _ _ (by simp) (by simp), by simp, by simp, by simp, by simp⟩
    · cases h
  · split at h
    · rename_i ms ht
      have ht := tyUnd_some ht
      cases h
      cases hx; cases hy
      exact ⟨eq_nil_iface w 9999 ht _ _, triv _ _ (by simp) (by simp), by simp, by simp, by simp, by simp⟩
    · cases h
  · split at h
    · rename_i ms ht
      have ht := tyUnd_some ht
      cases h
      cases hx; cases hy
      exact ⟨eq_iface_nil w 9999 ht _ _, triv _ _ (by simp) (by simp), by simp, by simp, by simp, by simp⟩
    · cases h
  · rename_i xs ys
    split at h
    · rename_i fs ht
      have ht := tyUnd_some ht
      unfold eqStruct at h
      split at h
      · rename_i hc
        rw [Bool.and_eq_true] at hc
        obtain ⟨h1, h2⟩ := hc
        have h1 : P.stoodInHeld t = false := by simpa using h1
        have h2 : P.eqGuardType P.depth t = false := by simpa using h2
        have hf : P.fieldsOf t = fs := by simp [Program.fieldsOf, ht]
        cases hx with
        | agg l1 l2 => cases hy with
          | agg m1 m2 =>
            refine ⟨?_, ?_, by simp, by simp, by simp, by simp⟩
            · show (Op.equalIn 10000 t _ _).run P w = _
              rw [run_equalIn_struct w 9999 t _ _ (by rw [ht, hf]) h1, hf]
              exact eqFlds_run (σ := σ) 9998 w _ 0 _ _ _ h (by simpa using LR.of l1 l2) (by simpa using LR.of m1 m2)
            · intro op X Y
              exact run_eqGuard_agg w op t X Y _ _ h2
      · cases h
    · cases h
  · cases h

end Go.Proofs.YtonkcdnpmemheaaGreat.Vm

namespace Go.Proofs.YtonkcdnpmemheaaGreat.Vm

/-- what is answered, in every world -/
def PSim (P : Program) (σ : Ren) (v : Value) (s : Sem Value) : Prop := ∃ v', (∀ w, s.run P w = .ok v' w) ∧ VRel σ v v'

section
variable {P : Program} {σ : Ren}

/-- the pair of a related value -/
theorem VRel.int_inv {k : IntKind} {n : Int} {v : Value} (h : VRel σ (.int k n) v) : v = .int k n := by cases h; rfl
theorem VRel.bool_inv {b : Bool} {v : Value} (h : VRel σ (.bool b) v) : v = .bool b := by cases h; rfl
theorem VRel.string_inv {s : ByteArray} {v : Value} (h : VRel σ (.string s) v) : v = .string s := by cases h; rfl

theorem eqGuard_other (w : World) (t : TypeId) (op : BinOp) (X Y : Operand) (x y : Value) (h : (∃ k n, x = .int k n) ∨ (∃ s, x = .string s)) : (eqGuard op t X Y x y).run P w = .ok () w :=
  guard_triv w t x y (by rcases h with ⟨k, n, rfl⟩ | ⟨s, rfl⟩ <;> simp) (by rcases h with ⟨k, n, rfl⟩ | ⟨s, rfl⟩ <;> simp) op X Y

theorem vbin_sim {op : BinOp} {t : TypeId} {x y x' y' v : Value} (h : vbin P op t x y = some v) (hx : VRel σ x x') (hy : VRel σ y y') (X Y : Operand) :
    PSim P σ v (do eqGuard op t X Y x' y'; binOp op t x' y') := by
  have eqcase : ∀ {b : Bool}, veq P t x y = some b → (op = .eql ∧ v = .bool b) ∨ (op = .neq ∧ v = .bool !b) → PSim P σ v (do eqGuard op t X Y x' y'; binOp op t x' y') := by
    intro b hb ho
    refine ⟨v, fun w => ?_, ?_⟩
    · obtain ⟨r1, r2, n1, n2, n3, n4⟩ := veq_run hb hx hy w
      simp only [Sem.run_bind, r2, Result.andThen_ok]
      rcases ho with ⟨rfl, rfl⟩ | ⟨rfl, rfl⟩
      · have : binOp .eql t x' y' = (do pure (.bool (← Op.equal t x' y'))) := by
          cases x' <;> first | rfl | exact absurd rfl (n1 _ _) | exact absurd rfl (n2 _ _) | exact absurd rfl (n3 _ _ _) | exact absurd rfl (n4 _)
        rw [this]; simp [r1]
      · have : binOp .neq t x' y' = (do pure (.bool (!(← Op.equal t x' y')))) := by
          cases x' <;> first | rfl | exact absurd rfl (n1 _ _) | exact absurd rfl (n2 _ _) | exact absurd rfl (n3 _ _ _) | exact absurd rfl (n4 _)
        rw [this]; simp [r1]
    · rcases ho with ⟨_, rfl⟩ | ⟨_, rfl⟩ <;> exact .bool _
  unfold vbin at h
  split at h
  · rename_i k a j b
    rw [hx.int_inv, hy.int_inv]
    refine ⟨v, fun w => ?_, (vint_run h P default t).2 σ⟩
    simp only [Sem.run_bind, eqGuard_other w t op X Y _ _ (.inl ⟨_, _, rfl⟩), Result.andThen_ok]
    exact (vint_run h P w t).1
  · rename_i a b
    rw [hx.string_inv, hy.string_inv]
    refine ⟨v, fun w => ?_, (stringOp_run h P default t).2 σ⟩
    simp only [Sem.run_bind, eqGuard_other w t op X Y _ _ (.inr ⟨_, rfl⟩), Result.andThen_ok]
    exact (stringOp_run h P w t).1
  · split at h
    · split at h
      · rename_i b hb
        cases h
        exact eqcase hb (.inl ⟨rfl, rfl⟩)
      · cases h
    · split at h
      · rename_i b hb
        cases h
        exact eqcase hb (.inr ⟨rfl, rfl⟩)
      · cases h
    · cases h

theorem vunop_sim {op : UnOp} {x x' v : Value} (h : vunop op x = some v) (hx : VRel σ x x') : PSim P σ v (Op.unary op x') := by
  unfold vunop at h
  split at h
  · cases h; cases hx; exact ⟨_, fun w => rfl, .bool _⟩
  · have e := ofSem_some h
    rw [hx.int_inv]
    refine ⟨v, fun w => by rw [e]; rfl, ?_⟩
    simp only [Op.unary, Op.intArith] at e
    cases e; exact .int _ _
  · have e := ofSem_some h
    rw [hx.int_inv]
    refine ⟨v, fun w => by rw [e]; rfl, ?_⟩
    simp only [Op.unary, Op.intBits] at e
    cases e; exact .int _ _
  · cases h

theorem pconvert_sim {src dst : TypeId} {x x' v : Value} (h : pconvert P src dst x = some v) (hx : VRel σ x x') : PSim P σ v (convert src dst x') := by
  unfold pconvert at h
  split at h
  · rename_i k n
    split at h
    · rename_i d hd
      split at h
      · rename_i k' hk
        cases h
        rw [hx.int_inv]
        refine ⟨_, fun w => ?_, .int _ _⟩
        rw [wrapF_eq]
        simp [convert, run_underlying' w hd, run_underlying' w hk, Conv.intToInt]
      · cases h
    · cases h
  · rename_i s
    split at h
    · rename_i d hd
      split at h
      · rename_i hk
        cases h
        rw [hx.string_inv]
        refine ⟨_, fun w => ?_, .string _⟩
        simp [convert, run_underlying' w hd, run_underlying' w hk]
      · cases h
    · cases h
  · cases h

theorem vpick_sim {c a b c' a' b' v : Value} (h : vpick c a b = some v) (hc : VRel σ c c') (ha : VRel σ a a') (hb : VRel σ b b') :
    PSim P σ v (do pure (if ← asBool c' then a' else b')) := by
  unfold vpick at h
  split at h
  · cases h; cases hc; exact ⟨a', fun w => rfl, ha⟩
  · cases h; cases hc; exact ⟨b', fun w => rfl, hb⟩
  · cases h

theorem vextract_sim {t t' : Value} {ix : Nat} {v : Value} (h : vextract t ix = some v) (ht : VRel σ t t') : PSim P σ v (Instr.extract t' ix) := by
  unfold vextract at h
  split at h
  · rename_i vs
    cases ht with
    | tuple h1 h2 =>
      rw [nth?_eq] at h
      obtain ⟨y, hy1, hy2⟩ := (LR.of h1 h2).get h
      rw [Array.getElem?_toList] at hy1
      exact ⟨y, fun w => by simp [Instr.extract, hy1], hy2⟩
  · cases h

theorem vmakeIface_sim {t : TypeId} {x x' v : Value} (h : vmakeIface P t x = some v) (hx : VRel σ x x') : PSim P σ v (Instr.makeInterface t x') := by
  unfold vmakeIface at h
  split at h
  · cases h
  · rename_i d hd hne
    cases h
    refine ⟨_, fun w => ?_, .iface _ hx⟩
    cases d <;> first | (simp [Instr.makeInterface, run_underlying' w hne]; done) | exact absurd rfl (hd _)
  · cases h

/-! ### parts -/

theorem opart_sim {t : TypeId} {cs : List Value} {cs' : Array Value} {off : Nat} {v : Value} (h : opart P t cs off = some v) (hc : LR σ cs cs'.toList) : PSim P σ v (Go.part t cs' off) := by
  unfold opart at h
  split at h
  · rename_i n ha
    split at h
    · rename_i l hl
      cases h
      obtain ⟨h1, h2⟩ := take?_some hl
      rw [drp_eq] at h1 h2
      refine ⟨.agg (cs'.extract off (off + n)), fun w => ?_, ?_⟩
      · simp [Go.part, run_isAgg w ha, run_sizeAgg w ha]
      · have r := (hc.drop off).take n
        rw [← h2] at r
        have e : (cs'.extract off (off + n)).toList = (cs'.toList.drop off).take n := by
          simp [Array.toList_extract, List.extract]
        refine .agg (by rw [e]; exact r.length) (fun i x y hx hy => ?_)
        rw [e] at hy
        exact r.at i x y hx hy
    · cases h
  · rename_i ha
    rw [nth?_eq] at h
    obtain ⟨y, hy1, hy2⟩ := hc.get h
    rw [Array.getElem?_toList] at hy1
    exact ⟨y, fun w => run_part (by simpa using run_isAgg w ha) hy1, hy2⟩
  · cases h

theorem fieldT_some {s : TypeId} {f off : Nat} {t : TypeId} (h : fieldT P s f = some (off, t)) : ∃ fs fd n, P.underlying s = some (.struct fs) ∧ fs[f]? = some fd ∧ fd.offset = off ∧ fd.type = t ∧ sizeT P t = some (n + 1) := by
  unfold fieldT at h
  split at h
  · rename_i fs hfs
    split at h
    · rename_i fd hfd
      rw [nth?_eq, Array.getElem?_toList] at hfd
      split at h
      · rename_i n hn
        cases h
        exact ⟨fs, fd, n, tyUnd_some hfs, hfd, rfl, rfl, hn⟩
      · cases h
    · cases h
  · cases h

theorem ARel.add {a a' : Addr} (h : ARel σ a a') (n : Nat) : ARel σ (a.add n) (a'.add n) := by
  unfold Addr.add
  split
  · exact h
  · obtain ⟨h1, h2, m, h3, h4, h5⟩ := h
    exact ⟨rfl, rfl, m, h3, h4, by simp only; omega⟩

theorem vfield_sim {s : TypeId} {x x' v : Value} {f : Nat} (h : vfield P s x f = some v) (hx : VRel σ x x') : PSim P σ v (Instr.field s x' f) := by
  unfold vfield at h
  split at h
  · rename_i cs
    split at h
    · rename_i off t hf
      obtain ⟨fs, fd, n, h1, h2, h3, h4, _⟩ := fieldT_some hf
      cases hx with
      | agg l1 l2 =>
        obtain ⟨v', r1, r2⟩ := opart_sim h (LR.of l1 l2)
        refine ⟨v', fun w => ?_, r2⟩
        subst h3; subst h4
        simp [Instr.field, run_underlying w h1, h2, asAgg, r1]
    · cases h
  · cases h

theorem vfieldAddr_sim {s : TypeId} {x x' v : Value} {f : Nat} (h : vfieldAddr P s x f = some v) (hx : VRel σ x x') : PSim P σ v (Instr.fieldAt s x' f) := by
  unfold vfieldAddr at h
  split at h
  · rename_i a
    split at h
    · rename_i off t hf
      obtain ⟨fs, fd, n, h1, h2, h3, h4, h5⟩ := fieldT_some hf
      cases h
      cases hx with
      | ptr r =>
        refine ⟨_, fun w => ?_, .ptr (r.add _)⟩
        subst h3; subst h4
        simp [Instr.fieldAt, run_underlying w h1, h2, Instr.sureAddr, fieldPlace, run_sizeOf' w h5]
    · cases h
  · cases h

theorem addAt_some {e : TypeId} {a : Addr} {i len : Nat} {v : Value} (h : addAt P e a i len = some v) : i < len ∧ ∃ n, sizeT P e = some n ∧ v = .pointer (some (a.add (i * n))) := by
  unfold addAt at h
  split at h
  · rename_i hi
    rw [Nat.blt_eq] at hi
    split at h
    · rename_i n hn
      cases h
      exact ⟨hi, n, hn, rfl⟩
    · cases h
  · cases h

theorem vindexAddr_sim {t : TypeId} {x ix x' ix' v : Value} (h : vindexAddr P t x ix = some v) (hx : VRel σ x x') (hi : VRel σ ix ix') : PSim P σ v (Instr.indexAt t x' ix') := by
  unfold vindexAddr at h
  split at h
  · rename_i k i
    rw [hi.int_inv]
    split at h
    · rename_i a len cap
      split at h
      · rename_i e ht
        obtain ⟨h1, n, h2, rfl⟩ := addAt_some h
        have main : ∀ (a' : Addr) (c : Nat), ARel σ a a' → PSim P σ (.pointer (some (a.add (i * n)))) (Instr.indexAt t (.slice (some a') len c) (.int k (Int.ofNat i))) := by
          intro a' c r
          refine ⟨.pointer (some (a'.add (i * n))), fun w => ?_, .ptr (r.add _)⟩
          simp [Instr.indexAt, asIntOf, run_underlying' w ht, run_sizeOf' w h2, h1]
        cases hx with
        | slc n c hc r => exact main _ _ r
        | unk n size c' a0 a1 hm hb ho hs hn he hd => exact main _ _ ⟨a0, a1, _, hm, hb, ho⟩
        | flo a' c c' hc => omega
      · cases h
    · rename_i a
      split at h
      · rename_i len e ht
        obtain ⟨h1, n, h2, rfl⟩ := addAt_some h
        cases hx with
        | ptr r =>
          refine ⟨_, fun w => ?_, .ptr (r.add _)⟩
          simp [Instr.indexAt, asIntOf, run_underlying' w ht, run_sizeOf' w h2, h1, Instr.sureAddr]
      · cases h
    · cases h
  · cases h

theorem vindex_sim {t : TypeId} {x ix x' ix' v : Value} (h : vindex P t x ix = some v) (hx : VRel σ x x') (hi : VRel σ ix ix') : PSim P σ v (Instr.index t x' ix') := by
  unfold vindex at h
  split at h
  · rename_i k i
    rw [hi.int_inv]
    split at h
    · rename_i s
      split at h
      · rename_i ht
        split at h
        · rename_i b hb
          cases h
          rw [hx.string_inv]
          rw [nth?_eq] at hb
          refine ⟨_, fun w => ?_, .int _ _⟩
          have hs : s[i]? = some b := by
            rw [Array.getElem?_toList] at hb
            have hlt : i < s.data.size := by
              rcases Nat.lt_or_ge i s.data.size with g | g
              · exact g
              · rw [Array.getElem?_eq_none g] at hb; cases hb
            rw [getElem?_pos s i hlt]
            rw [Array.getElem?_eq_getElem hlt] at hb
            exact hb
          simp [Instr.index, asIntOf, run_underlying' w ht, hs]
        · cases h
      · cases h
    · rename_i cs
      split at h
      · rename_i len e ht
        split at h
        · rename_i hlt
          rw [Nat.blt_eq] at hlt
          split at h
          · rename_i n hn
            cases hx with
            | agg l1 l2 =>
              obtain ⟨v', r1, r2⟩ := opart_sim h (LR.of l1 l2)
              refine ⟨v', fun w => ?_, r2⟩
              simp [Instr.index, asIntOf, run_underlying' w ht, hlt, run_sizeOf' w hn, r1]
          · cases h
        · cases h
      · cases h
    · cases h
  · cases h

end
end Go.Proofs.YtonkcdnpmemheaaGreat.Vm

namespace Go.Proofs.YtonkcdnpmemheaaGreat.Vm

section
variable {P : Program} {σ : Ren}

/-! ### slices -/

inductive OV (σ : Ren) : Option Value → Option Value → Prop where
  | none : OV σ none none
  | some {v v' : Value} (h : VRel σ v v') : OV σ (some v) (some v')

theorem OV.map {ρ ρ' : Operand → Value} (hρ : ∀ x, VRel σ (ρ x) (ρ' x)) (o : Option Operand) : OV σ (o.map ρ) (o.map ρ') := by
  cases o with
  | none => exact .none
  | some x => exact .some (hρ x)

/-- a bound that is so many, or the one that stands for none -/
inductive BO (P : Program) : Option Value → Nat → Nat → Prop where
  | none (d : Nat) : BO P none d d
  | some (v : Value) (d i : Nat) (h : ∀ Y code w, i ≤ Y → (Instr.sliceBound v Y code).run P w = .ok i w) : BO P (some v) d i

theorem vbound_run {v v' : Value} {y i : Nat} (h : vbound v y = some i) (hv : VRel σ v v') : i ≤ y ∧ ∀ Y code w, i ≤ Y → (Instr.sliceBound v' Y code).run P w = .ok i w := by
  unfold vbound at h
  split at h
  · rename_i k j
    split at h
    · rename_i hj
      cases h
      have hj := Nat.le_of_ble_eq_true hj
      rw [hv.int_inv]
      refine ⟨hj, fun Y code w hY => ?_⟩
      simp [Instr.sliceBound, asIntOf, hY]
    · cases h
  · cases h

theorem obound_run {o o' : Option Value} {y d i : Nat} (h : obound o y d = some i) (ho : OV σ o o') : BO P o' d i ∧ (i ≤ y ∨ (o' = none ∧ i = d)) := by
  cases ho with
  | none =>
    have : d = i := Option.some.inj h
    subst this
    exact ⟨.none _, .inr ⟨rfl, rfl⟩⟩
  | some hv =>
    obtain ⟨h1, h2⟩ := vbound_run (P := P) (show vbound _ y = some i from h) hv
    exact ⟨.some _ _ _ h2, .inl h1⟩

theorem bounds_run {isSl : Bool} {len cap m h l : Nat} {lo hi mx : Option Value} (hm : BO P mx cap m) (hmc : m ≤ cap) (hh : BO P hi len h) (hx : hi = none → mx = none) (hhm : hi = none ∨ h ≤ m)
    (hl : BO P lo 0 l) (hlh : l ≤ h) (w : World) : (Instr.sliceBounds isSl len cap lo hi mx).run P w = .ok (l, h, m) w := by
  cases hm with
  | none =>
    cases hh with
    | none =>
      cases hl with
      | none => simp [Instr.sliceBounds]
      | some v3 _ _ h3 => simp [Instr.sliceBounds, h3 _ _ _ hlh]
    | some v2 _ _ h2 =>
      have h2' : h ≤ cap := by rcases hhm with e | e; cases e; exact e
      cases hl with
      | none => simp [Instr.sliceBounds, h2 _ _ _ h2']
      | some v3 _ _ h3 => simp [Instr.sliceBounds, h2 _ _ _ h2', h3 _ _ _ hlh]
  | some v1 _ _ h1 =>
    cases hh with
    | none => cases hx rfl
    | some v2 _ _ h2 =>
      have h2' : h ≤ m := by rcases hhm with e | e; cases e; exact e
      cases hl with
      | none => simp [Instr.sliceBounds, h1 _ _ _ hmc, h2 _ _ _ h2']
      | some v3 _ _ h3 => simp [Instr.sliceBounds, h1 _ _ _ hmc, h2 _ _ _ h2', h3 _ _ _ hlh]

theorem slice_run {t e : TypeId} {size : Nat} (ht : tyUnd P t = some (.slice e)) (hs : sizeT P e = some size) {a : Option Addr} {len cap m h l : Nat} {lo hi mx : Option Value}
    (hb : ∀ w, (Instr.sliceBounds true len cap lo hi mx).run P w = .ok (l, h, m) w) (w : World) :
    (Instr.sliceAt t (.slice a len cap) lo hi mx).run P w = .ok (.slice (if m = l then a else a.map (·.add (l * size))) (h - l) (m - l)) w := by
  simp [Instr.sliceAt, Instr.slice, run_underlying' w ht, hb w, run_sizeOf' w hs]

theorem sliceEx_sim {t e : TypeId} {size : Nat} (ht : tyUnd P t = some (.slice e)) (hs : sizeT P e = some size) {a a' : Option Addr} {len cap : Nat} {lo hi mx lo' hi' mx' : Option Value} {v : Value}
    (h : sliceEx size a len cap lo hi mx = some v) (ha : (a = none ∧ a' = none ∧ len = 0 ∧ cap = 0) ∨ (∃ b b', a = some b ∧ a' = some b' ∧ ARel σ b b' ∧ cap < UNK)) (hlo : OV σ lo lo') (hhi : OV σ hi hi') (hmx : OV σ mx mx') :
    PSim P σ v (Instr.sliceAt t (.slice a' len cap) lo' hi' mx') := by
  unfold sliceEx at h
  split at h
  · cases h
  · rename_i m hm
    obtain ⟨m1, m2⟩ := obound_run (P := P) hm hmx
    have hmc : m ≤ cap := by rcases m2 with e | ⟨_, e⟩ <;> omega
    split at h
    · cases h
    · rename_i h0 hh
      have hh' : BO P hi' len h0 ∧ (hi' = none → mx' = none) ∧ (hi' = none ∨ h0 ≤ m) := by
        cases hhi with
        | none =>
          cases hmx with
          | none =>
            have : len = h0 := Option.some.inj hh
            subst this
            exact ⟨.none _, fun _ => rfl, .inl rfl⟩
          | some _ => cases hh
        | some hv =>
          obtain ⟨b1, b2⟩ := vbound_run (P := P) (show vbound _ m = some h0 from hh) hv
          exact ⟨.some _ _ _ b2, (fun e => by cases e), .inr b1⟩
      split at h
      · cases h
      · rename_i l hl
        obtain ⟨l1, l2⟩ := obound_run (P := P) hl hlo
        have hlh : l ≤ h0 := by rcases l2 with e | ⟨_, e⟩ <;> omega
        cases h
        refine ⟨_, fun w => slice_run ht hs (fun w => bounds_run m1 hmc hh'.1 hh'.2.1 hh'.2.2 l1 hlh w) w, ?_⟩
        rcases ha with ⟨rfl, rfl, hl0, hc0⟩ | ⟨b, b', rfl, rfl, r, hc⟩
        · have e1 : (if m = l then (none : Option Addr) else Option.map (fun b : Addr => b.add (l * size)) none) = none := by split <;> rfl
          have hm0 : m = 0 := by omega
          have hh0 : h0 = 0 := by
            rcases hh'.2.2 with q | q
            · cases hh'.1 with
              | none => exact hl0
              | some => cases q
            · omega
          rw [e1, hm0, hh0, Nat.zero_sub]
          exact .nils
        · by_cases hml : m = l
          · rw [if_pos hml, if_pos hml]
            exact .slc _ _ (by omega) r
          · rw [if_neg hml, if_neg hml]
            exact .slc _ _ (by omega) (r.add _)

theorem sliceUnk_sim {t e : TypeId} {size : Nat} (ht : tyUnd P t = some (.slice e)) (hs : sizeT P e = some size) {a : Addr} {x' : Value} {len cap : Nat} {lo hi mx lo' hi' mx' : Option Value} {v : Value}
    (h : sliceUnk size a len cap lo hi mx = some v) (hc : UNK ≤ cap) (hx : VRel σ (.slice (some a) len cap) x') (hlo : OV σ lo lo') (hhi : OV σ hi hi') (hmx : OV σ mx mx') :
    PSim P σ v (Instr.sliceAt t x' lo' hi' mx') := by
  unfold sliceUnk at h
  split at h
  · -- an empty slice somewhere
    unfold sliceFlo at h
    split at h
    · rename_i h0 hb
      split at h
      · rename_i l hl
        cases h
        cases hx with
        | slc n c hc' r => exact absurd hc (by omega)
        | unk n size' c' a0 a1 hm hb ho hs hn he hd => cases a0
        | flo a' c c' hc' =>
          cases hmx
          obtain ⟨b1, b2⟩ := obound_run (P := P) hb hhi
          obtain ⟨l1, l2⟩ := obound_run (P := P) hl hlo
          have e0 : h0 = 0 := by rcases b2 with e | ⟨_, e⟩ <;> omega
          have e1 : l = 0 := by rcases l2 with e | ⟨_, e⟩ <;> omega
          subst e0; subst e1
          refine ⟨_, fun w => slice_run ht hs (fun w => bounds_run (.none _) (Nat.le_refl _) b1 (fun _ => rfl) (.inr (Nat.zero_le _)) l1 (Nat.le_refl _) w) w, ?_⟩
          have : (if c' = 0 then some a' else Option.map (fun b : Addr => b.add (0 * size)) (some a')) = some a' := by
            split
            · rfl
            · simp [Addr.add]
          rw [this]
          exact .flo _ _ _ (Nat.le_refl _)
      · cases h
    · cases h
  · rename_i b off
    split at h
    · cases h
    · rename_i hcap
      have hcap : cap = UNK + size := Nat.eq_of_beq_eq_true hcap
      cases hx with
      | slc n c hc' r => exact absurd hc (by omega)
      | unk n size' c' a0 a1 hm hb ho hsz hn he hd =>
        rename_i a' m0 _
        have : size' = size := by omega
        subst this
        split at h
        · rename_i mv
          split at h
          · rename_i m hm1
            cases hmx with
            | some hmv =>
              obtain ⟨m1, m2⟩ := vbound_run (P := P) hm1 hmv
              unfold sliceTop at h
              split at h
              · rename_i hv0 hU
                rw [Nat.blt_eq] at hU
                split at h
                · rename_i h0 hh
                  cases hhi with
                  | some hhv =>
                    obtain ⟨h1, h2⟩ := vbound_run (P := P) hh hhv
                    split at h
                    · rename_i l hl
                      obtain ⟨l1, l2⟩ := obound_run (P := P) hl hlo
                      have hlh : l ≤ h0 := by rcases l2 with e | ⟨_, e⟩ <;> omega
                      cases h
                      refine ⟨_, fun w => slice_run ht hs (fun w => bounds_run (.some _ _ _ m2) (by omega) (.some _ _ _ h2) (fun e => by cases e) (.inr h1) l1 hlh w) w, ?_⟩
                      have r : ARel σ ⟨b, off, none⟩ a' := ⟨rfl, a1, _, hm, hb, ho⟩
                      show VRel σ (.slice (some (match Nat.beq m l with | true => ⟨b, off, none⟩ | false => Addr.add ⟨b, off, none⟩ (l * size'))) (h0 - l) (m - l)) _
                      by_cases hml : m = l
                      · rw [if_pos hml]
                        have : Nat.beq m l = true := by rw [Nat.beq_eq]; exact hml
                        rw [this]
                        exact .slc _ _ (by omega) r
                      · rw [if_neg hml]
                        have : Nat.beq m l = false := by
                          cases g : Nat.beq m l with
                          | false => rfl
                          | true => exact absurd (Nat.eq_of_beq_eq_true g) hml
                        rw [this]
                        exact .slc _ _ (by omega) (r.add _)
                    · cases h
                · cases h
              · cases h
          · cases h
        · split at h
          · rename_i h0 hh
            obtain ⟨h1, h2⟩ := obound_run (P := P) hh hhi
            have hh0 : h0 ≤ len := by rcases h2 with e | ⟨_, e⟩ <;> omega
            split at h
            · rename_i l hl
              obtain ⟨l1, l2⟩ := obound_run (P := P) hl hlo
              have hlh : l ≤ h0 := by rcases l2 with e | ⟨_, e⟩ <;> omega
              cases hmx
              cases h
              refine ⟨_, fun w => slice_run ht hs (fun w => bounds_run (.none _) (Nat.le_refl _) h1 (fun _ => rfl) (.inr (by omega)) l1 hlh w) w, ?_⟩
              unfold unk2
              split
              · have : (if c' = 0 then some a' else Option.map (fun b : Addr => b.add (0 * size')) (some a')) = some a' := by
                  split
                  · rfl
                  · simp [Addr.add]
                rw [this, hcap]
                exact .unk _ _ _ rfl a1 hm hb ho hsz (by omega) (by simpa using he) hd
              · rename_i l k
                split
                · rename_i hk
                  have hk := Nat.eq_of_beq_eq_true hk
                  have e0 : h0 - (k + 1) = 0 := by omega
                  rw [e0]
                  split
                  · exact .flo _ _ _ (Nat.le_refl _)
                  · exact .flo _ _ _ (Nat.le_refl _)
                · rename_i hk
                  have hk : k + 1 ≠ len := fun e => by
                    rw [e] at hk
                    have : Nat.beq len len = true := by rw [Nat.beq_eq]
                    rw [this] at hk; cases hk
                  have hne : ¬ (c' = k + 1) := by omega
                  rw [if_neg hne, hcap]
                  have r : ARel σ ⟨b, off, none⟩ a' := ⟨rfl, a1, _, hm, hb, ho⟩
                  obtain ⟨r1, r2, m1, r3, r4, r5⟩ := r.add ((k + 1) * size')
                  have hpos : (k + 1) * size' ≠ 0 := Nat.ne_of_gt (Nat.mul_pos (Nat.succ_pos k) hsz)
                  have eo : (a'.add ((k + 1) * size')).off = a'.off + (k + 1) * size' := by simp [Addr.add, hpos]
                  have eb : (Addr.add ⟨b, off, none⟩ ((k + 1) * size')).block = b := by simp [Addr.add, hpos]
                  rw [eb] at r3
                  have hm' : σ b = some m0 := hm
                  rw [hm'] at r3
                  cases r3
                  refine .unk _ _ _ r1 r2 (by rw [show (Addr.add ⟨b, off, none⟩ (Nat.mul (k + 1) size')).block = b from eb]; exact hm) r4 r5 hsz (Nat.sub_le_sub_right (by omega) _) ?_ ?_
                  · rw [eo]
                    have : (c' - (k + 1)) * size' = c' * size' - (k + 1) * size' := Nat.sub_mul ..
                    rw [this]
                    have : (k + 1) * size' ≤ c' * size' := Nat.mul_le_mul_right _ (by omega)
                    omega
                  · rw [eo, Nat.add_mul_mod_self_right]
                    exact hd
            · cases h
          · cases h

theorem sliceStr_sim {t : TypeId} (ht : tyUnd P t = some .string) {s : ByteArray} {lo hi lo' hi' : Option Value} {v : Value} (h : sliceStr s lo hi = some v) (hlo : OV σ lo lo') (hhi : OV σ hi hi') :
    PSim P σ v (Instr.sliceAt t (.string s) lo' hi' none) := by
  unfold sliceStr at h
  split at h
  · cases h
  · rename_i h0 hh
    split at h
    · cases h
    · rename_i l hl
      cases h
      obtain ⟨h1, h2⟩ := obound_run (P := P) hh hhi
      obtain ⟨l1, l2⟩ := obound_run (P := P) hl hlo
      have hlen : s.size = s.data.toList.length := rfl
      have hh0 : h0 ≤ s.size := by rcases h2 with e | ⟨_, e⟩ <;> omega
      have hlh : l ≤ h0 := by rcases l2 with e | ⟨_, e⟩ <;> omega
      refine ⟨_, fun w => ?_, .string _⟩
      have hb : (Instr.sliceBounds false s.size s.size lo' hi' none).run P w = .ok (l, h0, s.size) w :=
        bounds_run (.none _) (Nat.le_refl _) (by rw [hlen]; exact h1) (fun _ => rfl) (.inr hh0) l1 hlh w
      have he : s.extract l h0 = ⟨⟨(s.data.toList.drop l).take (h0 - l)⟩⟩ := by
        apply ByteArray.ext
        rw [ByteArray.data_extract]
        apply Array.ext'
        simp [Array.toList_extract, List.extract]
      simp [Instr.sliceAt, Instr.slice, run_underlying' w ht, hb, he]

theorem vslice_sim {t : TypeId} {x x' v : Value} {lo hi mx lo' hi' mx' : Option Value} (h : vslice P t x lo hi mx = some v) (hx : VRel σ x x') (hlo : OV σ lo lo') (hhi : OV σ hi hi') (hmx : OV σ mx mx') :
    PSim P σ v (Instr.sliceAt t x' lo' hi' mx') := by
  unfold vslice at h
  split at h
  · split at h
    · rename_i ht
      rw [hx.string_inv]
      cases hmx
      exact sliceStr_sim ht h hlo hhi
    · cases h
  · rename_i a len cap
    split at h
    · rename_i e ht
      split at h
      · rename_i size hs
        split at h
        · rename_i hU
          have hU := Nat.le_of_ble_eq_true hU
          split at h
          · exact sliceUnk_sim ht hs h hU hx hlo hhi hmx
          · cases h
        · rename_i hU
          have hU : cap < UNK := by
            rcases Nat.lt_or_ge cap UNK with g | g
            · exact g
            · have : Nat.ble UNK cap = true := Nat.ble_eq_true_of_le g
              rw [this] at hU; cases hU
          cases hx with
          | nils => exact sliceEx_sim ht hs h (.inl ⟨rfl, rfl, rfl, rfl⟩) hlo hhi hmx
          | slc n c hc r => exact sliceEx_sim ht hs h (.inr ⟨_, _, rfl, rfl, r, hc⟩) hlo hhi hmx
          | unk n size c' a0 a1 hm hb ho hsz hn he hd => omega
          | flo a' c c' hc => omega
      · cases h
    · cases h
  · cases h

end
end Go.Proofs.YtonkcdnpmemheaaGreat.Vm

namespace Go.Proofs.YtonkcdnpmemheaaGreat.Vm
section
variable {P : Program} {σ : Ren}

/-! ### aggregates made of parts -/

theorem lay_list : ∀ (l : List Value) (off k : Nat) (c : Array Value), off + k + l.length ≤ c.size →
    ((l.zipIdx k).foldl (fun cs (x : Value × Nat) => cs.setIfInBounds (off + x.2) x.1) c).toList = c.toList.take (off + k) ++ l ++ c.toList.drop (off + k + l.length) := by
  intro l
  induction l with
  | nil => intro off k c _; simp
  | cons x l ih =>
    intro off k c h
    simp only [List.zipIdx_cons, List.foldl_cons]
    rw [ih off (k + 1) (c.setIfInBounds (off + k) x) (by simp at h ⊢; omega)]
    have hlt : off + k < c.toList.length := by simp at h ⊢; omega
    rw [Array.toList_setIfInBounds]
    have e1 : (c.toList.set (off + k) x).take (off + (k + 1)) = c.toList.take (off + k) ++ [x] := by
      rw [show off + (k + 1) = (off + k) + 1 by omega, List.take_add_one]
      rw [List.getElem?_set_self hlt, List.take_set_of_le (Nat.le_refl _)]
      rfl
    have e2 : (c.toList.set (off + k) x).drop (off + (k + 1) + l.length) = c.toList.drop (off + k + (x :: l).length) := by
      rw [List.drop_set_of_lt (by omega)]
      congr 1
      simp; omega
    rw [e1, e2]
    simp

theorem lay_array (v c : Array Value) (off : Nat) (h : off + v.size ≤ c.size) :
    (v.zipIdx.foldl (fun cs (x : Value × Nat) => cs.setIfInBounds (off + x.2) x.1) c).toList = c.toList.take off ++ v.toList ++ c.toList.drop (off + v.size) := by
  have := lay_list v.toList off 0 c (by simpa using h)
  rw [← Array.foldl_toList, Array.toList_zipIdx]
  simpa using this

inductive PartsR (σ : Ren) : List (Nat × Value) → List (Nat × Value) → Prop where
  | nil : PartsR σ [] []
  | cons (i : Nat) {v v' : Value} {l l' : List (Nat × Value)} (h : VRel σ v v') (t : PartsR σ l l') : PartsR σ ((i, v) :: l) ((i, v') :: l')

theorem PartsR.map {ρ ρ' : Operand → Value} (hρ : ∀ x, VRel σ (ρ x) (ρ' x)) : ∀ (l : List (Nat × Operand)), PartsR σ (l.map fun p => (p.1, ρ p.2)) (l.map fun p => (p.1, ρ' p.2))
  | [] => .nil
  | p :: l => .cons _ (hρ p.2) (PartsR.map hρ l)

theorem fill_sim {place place' : Nat → Option (Nat × Nat)} (hp : ∀ i, place' i = place i) : ∀ {parts parts' : List (Nat × Value)} {c r : List Value} {c' : Array Value}, PartsR σ parts parts' → vfill place parts c = some r → LR σ c c'.toList →
    ∃ r', Instr.fill place' c' parts' = some r' ∧ LR σ r r'.toList := by
  intro parts
  induction parts with
  | nil =>
    intro parts' c r c' h hf hc
    cases h
    cases hf
    exact ⟨c', rfl, hc⟩
  | cons p parts ih =>
    intro parts' c r c' h hf hc
    cases h with
    | cons i hv t =>
      rename_i v v' l'
      have hf' : fillP (vfill place parts) c v (place i) = some r := hf
      unfold fillP at hf'
      split at hf'
      · rename_i off size hpl
        split at hf'
        · cases hf'
        · rename_i hne
          have hcells := hv.cells (fun k a b e => hne k a b e)
          unfold fillAt at hf'
          split at hf'
          · rename_i hs
            have hs := Nat.eq_of_beq_eq_true hs
            rw [len_eq] at hs
            split at hf'
            · rename_i c1 hc1
              obtain ⟨h1, h2⟩ := putAt_some hc1
              have hl : v'.cells.size = size := by rw [← hs, hcells.length]; simp
              have hcl := hc.length
              have hle : off + v'.cells.size ≤ c'.size := by
                rw [hl, ← hs]
                have : c.length = c'.size := by rw [hcl]; simp
                omega
              have hcond : (v'.cells.size ≠ size || off + v'.cells.size > c'.size) = false := by
                simp [hl]; omega
              have hc2 : LR σ c1 (v'.cells.zipIdx.foldl (fun cs (x : Value × Nat) => cs.setIfInBounds (off + x.2) x.1) c').toList := by
                rw [lay_array _ _ _ hle, h2, hs, hl]
                exact ((hc.take off).append hcells).append (hc.drop _)
              obtain ⟨r', e1, e2⟩ := ih t hf' hc2
              refine ⟨r', ?_, e2⟩
              simp only [Instr.fill, hp, hpl]
              simp only [ne_eq] at hcond
              rw [hcond]
              exact e1
            · cases hf'
          · cases hf'
      · cases hf'

theorem places_run (w : World) : ∀ (fs : List Field) (l : List (Nat × Nat)), places P fs = some l → (fs.mapM (fun f => do pure (f.offset, ← Go.sizeOf f.type)) : Sem (List (Nat × Nat))).run P w = .ok l w := by
  intro fs
  induction fs with
  | nil => intro l h; cases h; rfl
  | cons f fs ih =>
    intro l h
    unfold places at h
    split at h
    · rename_i n hn
      split at h
      · rename_i l1 hl
        cases h
        simp only [List.mapM_cons, Sem.run_bind, run_sizeOf' w hn, Result.andThen_ok, Sem.run_pure]
        have := ih l1 hl
        simp only [bind_pure_comp] at this ⊢
        rw [this]; rfl
      · cases h
    · cases h

theorem vbuild_sim {t : TypeId} {parts parts' : List (Nat × Value)} {v : Value} (h : vbuild P t parts = some v) (hp : PartsR σ parts parts') : PSim P σ v (Instr.build t ⟨parts'⟩) := by
  unfold vbuild at h
  split at h
  · rename_i z hz
    split at h
    · rename_i l n hpl
      split at h
      · rename_i c hc
        cases h
        obtain ⟨i, _, hz2, hb⟩ := zeroT_some hz
        have hzz : LR σ z.cells.toList z.cells.toList := by
          have r : VRel σ z z := bare_same 4 z hb
          by_cases hk : ∃ k a b, z = .complex k a b
          · obtain ⟨k, a, b, rfl⟩ := hk; simp [bare] at hb
          · exact r.cells fun k a b e => hk ⟨k, a, b, e⟩
        unfold placesT at hpl
        split at hpl
        · rename_i fs ht
          split at hpl
          · rename_i l1 hl1
            cases hpl
            obtain ⟨r', e1, e2⟩ := fill_sim (place' := fun i => (⟨l1⟩ : Array (Nat × Nat))[i]?) (fun i => by show _ = nth? l1 i; rw [nth?_eq]; simp) hp hc hzz
            refine ⟨.agg r', fun w => ?_, .agg e2.length e2.at⟩
            have hm : (fs.mapM (fun f => do pure (f.offset, ← Go.sizeOf f.type)) : Sem (Array (Nat × Nat))).run P w = .ok ⟨l1⟩ w := by
              rw [Array.mapM_eq_mapM_toList, Sem.run_map, places_run w _ _ hl1]
              rfl
            simp only [Instr.build, Sem.run_bind, run_zeroValue w hz, Result.andThen_ok, run_underlying' w ht, hm, e1]
            rfl
          · cases hpl
        · rename_i k e ht
          split at hpl
          · rename_i n1 hn1
            cases hpl
            obtain ⟨r', e1, e2⟩ := fill_sim (place' := fun i => some (i * n, n)) (fun i => rfl) hp hc hzz
            refine ⟨.agg r', fun w => ?_, .agg e2.length e2.at⟩
            simp only [Instr.build, Sem.run_bind, run_zeroValue w hz, Result.andThen_ok, run_underlying' w ht, run_sizeOf' w hn1, e1]
            rfl
          · cases hpl
        · cases hpl
      · cases h
    · cases h
  · cases h

/-! ### methods -/

theorem methodOf_some {t : TypeId} {name : String} {f : FuncId} (h : methodOf P t name = some f) :
    ∃ i m p d, P.info? t = some i ∧ i.methods.find? (·.name == name) = some m ∧ m.path = #[] ∧ m.func = some (f, p) ∧ P.underlying t = some d ∧ ((∃ e, d = .pointer e) → p = true) ∧ (p = true → ∃ e, d = .pointer e) ∧ (∀ ms, d ≠ .interface ms) := by
  unfold methodOf at h
  split at h
  · rename_i i hi
    split at h
    · rename_i m hm
      rw [Array.find?_toList] at hm
      have hp : ∀ {l : Array FieldStep}, l.toList = [] → l = #[] := fun {l} e => by
        cases l; simp_all
      split at h
      · rename_i f0 e hpath hfn hu
        cases h
        exact ⟨i, m, true, _, tyInfo_some hi, hm, hp hpath, hfn, tyUnd2_some (tyInfo_some hi) hu, fun _ => rfl, fun _ => ⟨_, rfl⟩, (fun ms e => by cases e)⟩
      · cases h
      · cases h
      · rename_i f0 d hne1 hne2 hpath hfn hu
        cases h
        refine ⟨i, m, false, _, tyInfo_some hi, hm, hp hpath, hfn, tyUnd2_some (tyInfo_some hi) hu, fun ⟨e, he⟩ => ?_, (fun e => by cases e), fun ms e => ?_⟩
        · subst he; exact absurd rfl (hne1 _)
        · subst e; exact absurd rfl (hne2 _)
      · cases h
    · cases h
  · cases h

theorem method_run {t : TypeId} {name : String} {f : FuncId} (h : methodOf P t name = some f) (n : Nat) (v : Value) (w : World) : (method (n + 1) t v name).run P w = .ok (f, v) w := by
  obtain ⟨i, m, p, d, h1, h2, h3, h4, h5, h6, h7, h8⟩ := methodOf_some h
  have hr : (receiverAt t (.val v) p (if m.path.isEmpty = true then some ((name.splitOn ".").getLastD name) else none)).run P w = .ok v w := by
    simp only [receiverAt, Sem.run_bind, run_underlying w h5, Result.andThen_ok]
    cases p with
    | true =>
      obtain ⟨e, rfl⟩ := h7 rfl
      rfl
    | false =>
      cases d <;> first | rfl | (exact absurd (h6 ⟨_, rfl⟩) (by simp))
  simp only [method, Sem.run_bind, run_typeInfo w h1, Result.andThen_ok, h2]
  simp only [h3, follow, Sem.run_pure, Result.andThen_ok, h4]
  rw [h3] at hr
  simp only [Sem.run_bind, hr, Result.andThen_ok, Sem.run_pure]

theorem nilAhead_run {t : TypeId} {name : String} {f : FuncId} (h : methodOf P t name = some f) (n : Nat) (v : Value) (w : World) :
    ∃ r, (nilAhead (n + 1) t v name).run P w = .ok r w ∧ r = some false := by
  obtain ⟨i, m, p, d, h1, h2, h3, h4, h5, h6, h7, h8⟩ := methodOf_some h
  refine ⟨some false, ?_, rfl⟩
  simp only [nilAhead, Sem.run_bind, run_typeInfo w h1, Result.andThen_ok, h2]
  simp only [h3, followBlind, Sem.run_pure, Result.andThen_ok, h4]
  cases p with
  | true => rfl
  | false =>
    simp only [Sem.run_bind, run_underlying w h5, Result.andThen_ok]
    cases d <;> first | rfl | (exact absurd (h6 ⟨_, rfl⟩) (by simp))

theorem vnilCheck_sim {x x' v : Value} {o : Oper} {X : Operand} {ρ' : Operand → Value} (ho : o.op = .nilCheck X) (h : vnilCheck P x = some v) (hx : VRel σ x x') (hr : ρ' X = x') :
    ∃ v', (∀ w, (execOp ρ' o).run P w = .ok (.value v') w) ∧ VRel σ v v' := by
  unfold vnilCheck at h
  split at h
  · cases h
    cases hx with
    | ptr r => exact ⟨_, fun w => by simp only [execOp, ho, hr]; rfl, .ptr r⟩
  · rename_i fn first captured
    cases hx with
    | func hf h1 h2 h3 h4 =>
      rename_i f' fs' cs'
      split at h
      · cases h
        have : f' = _ := hf
        subst this
        exact ⟨_, fun w => by simp only [execOp, ho, hr]; rfl, .func hf h1 h2 h3 h4⟩
      · cases h
        have : f' = _ := hf
        subst this
        exact ⟨_, fun w => by simp only [execOp, ho, hr]; rfl, .func hf h1 h2 h3 h4⟩
      · cases h
        have hf' := hf
        obtain ⟨m, hm, rfl⟩ := (hf' : ∃ m, σ _ = some m ∧ f' = .yield m.b)
        exact ⟨_, fun w => by simp only [execOp, ho, hr]; rfl, .func hf h1 h2 h3 h4⟩
      · rename_i name
        have : f' = .method name := hf
        subst this
        split at h
        · rename_i t y rest hfirst
          split at h
          · rename_i g hg
            cases h
            refine ⟨_, fun w => ?_, .func hf h1 h2 h3 h4⟩
            obtain ⟨z, hz1, hz2⟩ := (LR.of h1 h2).get (i := 0) (by rw [hfirst]; rfl)
            cases hz2 with
            | iface t hv =>
              rename_i v'
              rw [Array.getElem?_toList] at hz1
              obtain ⟨r, hr1, rfl⟩ := nilAhead_run hg (P.types.size + 99) v' w
              simp only [execOp, ho, hr, hz1, Sem.run_bind, run_program, Result.andThen_ok]
              rw [show P.types.size + Made.depth = P.types.size + 99 + 1 from rfl, hr1]
              rfl
          · cases h
        · cases h
      · cases h
  · cases h
    cases hx with
    | iface t r => exact ⟨_, fun w => by simp only [execOp, ho, hr]; rfl, .iface _ r⟩
  · cases h

end
end Go.Proofs.YtonkcdnpmemheaaGreat.Vm

