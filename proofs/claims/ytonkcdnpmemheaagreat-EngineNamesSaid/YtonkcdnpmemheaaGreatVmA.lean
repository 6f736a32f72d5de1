/- An evaluator of programs over a named heap, in plain definitions; no statement. By an AI agent. -/
import GoSem.Dispatch
import GoSem.Machine.Return
set_option linter.all false
namespace Go.Proofs.YtonkcdnpmemheaaGreat.Vm

/-- a capacity from here on is not known: the slice, of elements of so many cells more, runs to the end of its row -/
abbrev UNK : Nat := 18446744073709551616
/-- the address of no cell: an empty slice somewhere -/
abbrev FLO : Addr := ⟨0, 0, some 0⟩
/-- a value of which nothing is known -/
abbrev poison : Value := .complex .f64 0 0

/-- an object of the evaluator's heap. row n f b e fr: n cells f ++ b.reverse of an element type e, those in fr not to be written -/
inductive VObj where
  | row (n : Nat) (f b : List Value) (e : TypeId) (fr : Nat × Nat)
  | map (es : List MapEntry) (clock : Nat)
  | siter (s : ByteArray) (pos : Nat)
  | miter (m : Option Nat) (since : Nat) (seen : List Nat)
  | loop (state : LoopState) (pending : Option Code) (live : Nat) (tmps : List Value) (params : List Tmp) (assign body : Code) (defers : Nat)
  | dfd (is : Bool)

inductive Trie where
  | e
  | nd (l : Trie) (v : Option VObj) (r : Trie)

noncomputable def Trie.get (t : Trie) (n : Nat) : Option VObj :=
  Trie.rec (motive := fun _ => Nat → Option VObj) (fun _ => none) (fun _ v _ il ir n =>
    Nat.rec (motive := fun _ => Option VObj) v (fun m _ => Nat.rec (motive := fun _ => Option VObj) (il (Nat.div m 2)) (fun _ _ => ir (Nat.div m 2)) (Nat.mod m 2)) n) t n
noncomputable def Trie.set (k : Nat) (t : Trie) (n : Nat) (o : Option VObj) : Trie :=
  Nat.rec (motive := fun _ => Trie → Nat → Trie) (fun t _ => t) (fun _ ih t n =>
    Trie.rec (motive := fun _ => Trie)
      (Nat.rec (motive := fun _ => Trie) (.nd .e o .e) (fun m _ => Nat.rec (motive := fun _ => Trie) (.nd (ih .e (Nat.div m 2)) none .e) (fun _ _ => .nd .e none (ih .e (Nat.div m 2))) (Nat.mod m 2)) n)
      (fun l v r _ _ => Nat.rec (motive := fun _ => Trie) (.nd l o r) (fun m _ => Nat.rec (motive := fun _ => Trie) (.nd (ih l (Nat.div m 2)) v r) (fun _ _ => .nd l v (ih r (Nat.div m 2))) (Nat.mod m 2)) n) t) k t n

/-- nx: names from here on are free; al: the name that the next object gets -/
structure VH where
  t : Trie
  nx : Nat
  al : Nat

noncomputable def nxt (nx al : Nat) : Nat := match Nat.ble nx al with | true => Nat.succ al | false => nx

noncomputable def VH.get (h : VH) (n : Nat) : Option VObj := match h with | ⟨t, _, _⟩ => t.get n
noncomputable def VH.put (h : VH) (n : Nat) (o : Option VObj) : VH := match h with | ⟨t, nx, al⟩ => ⟨Trie.set (Nat.succ n) t n o, nx, al⟩
/-- a new name -/
noncomputable def VH.newAt (h : VH) (n : Nat) (o : VObj) : VH := match h with | ⟨t, _, _⟩ => ⟨Trie.set (Nat.succ n) t n (some o), Nat.succ n, Nat.succ n⟩
noncomputable def VH.new (h : VH) (o : VObj) : VH := match h with | ⟨t, nx, al⟩ => ⟨Trie.set (Nat.succ al) t al (some o), nxt nx al, nxt nx al⟩

inductive HM (α : Type) where
  | ret (a : α)
  | rd (n : Nat) (k : VObj → HM α)
  | wr (n : Nat) (o : VObj) (k : HM α)
  | kill (n : Nat) (k : HM α)
  | nw (o : VObj) (k : Nat → HM α)
  | nwAt (n : Nat) (o : VObj) (k : HM α)
  | fail

noncomputable def HM.bind {α β : Type} (m : HM α) (f : α → HM β) : HM β :=
  HM.rec (motive := fun _ => HM β) (fun a => f a) (fun n _ ih => .rd n ih) (fun n o _ ih => .wr n o ih) (fun n _ ih => .kill n ih) (fun o _ ih => .nw o ih) (fun n o _ ih => .nwAt n o ih) .fail m

noncomputable def HM.run {α : Type} (m : HM α) (h : VH) : Option (α × VH) :=
  HM.rec (motive := fun _ => VH → Option (α × VH)) (fun a h => some (a, h))
    (fun n _ ih h => Option.rec (motive := fun _ => Option (α × VH)) none (fun o => ih o h) (h.get n))
    (fun n o _ ih h => Option.rec (motive := fun _ => Option (α × VH)) none (fun _ => ih (h.put n (some o))) (h.get n))
    (fun n _ ih h => Option.rec (motive := fun _ => Option (α × VH)) none (fun _ => ih (h.put n none)) (h.get n))
    (fun o _ ih h => VH.rec (motive := fun _ => Option (α × VH)) (fun t nx al => ih al ⟨Trie.set (Nat.succ al) t al (some o), nxt nx al, nxt nx al⟩) h)
    (fun n o _ ih h => VH.rec (motive := fun _ => Option (α × VH)) (fun t nx _ => Bool.rec (motive := fun _ => Option (α × VH)) none (ih ⟨Trie.set (Nat.succ n) t n (some o), Nat.succ n, Nat.succ n⟩) (Nat.ble nx n)) h)
    (fun _ => none) m h

noncomputable def HM.opt {α : Type} : Option α → HM α
  | some a => .ret a
  | none => .fail

noncomputable def HM.grd (b : Bool) : HM Unit := if b then .ret () else .fail

noncomputable def tl {α : Type} (l : List α) : List α := List.rec (motive := fun _ => List α) [] (fun _ l _ => l) l
noncomputable def drp {α : Type} (l : List α) (n : Nat) : List α := Nat.rec (motive := fun _ => List α) l (fun _ ih => tl ih) n
noncomputable def nth? {α : Type} (l : List α) (n : Nat) : Option α := List.rec (motive := fun _ => Option α) none (fun x _ _ => some x) (drp l n)
noncomputable def take? {α : Type} (l : List α) (n : Nat) : Option (List α) :=
  Nat.rec (motive := fun _ => List α → Option (List α)) (fun _ => some [])
    (fun _ ih l => List.rec (motive := fun _ => Option (List α)) none (fun x l _ => Option.rec (motive := fun _ => Option (List α)) none (fun r => some (x :: r)) (ih l)) l) n l
noncomputable def putHere {α : Type} (vs l : List α) : Option (List α) :=
  List.rec (motive := fun _ => List α → Option (List α)) (fun l => some l)
    (fun v _ ih l => List.rec (motive := fun _ => Option (List α)) none (fun _ l _ => Option.rec (motive := fun _ => Option (List α)) none (fun r => some (v :: r)) (ih l)) l) vs l
noncomputable def putAt {α : Type} (l : List α) (n : Nat) (vs : List α) : Option (List α) :=
  Nat.rec (motive := fun _ => List α → Option (List α)) (fun l => putHere vs l)
    (fun _ ih l => List.rec (motive := fun _ => Option (List α)) none (fun x l _ => Option.rec (motive := fun _ => Option (List α)) none (fun r => some (x :: r)) (ih l)) l) n l
noncomputable def len {α : Type} (l : List α) : Nat := List.rec (motive := fun _ => Nat) 0 (fun _ _ ih => Nat.succ ih) l
noncomputable def rapp {α : Type} (r l : List α) : List α := List.rec (motive := fun _ => List α → List α) (fun l => l) (fun x _ ih l => ih (x :: l)) r l
noncomputable def app {α : Type} (r l : List α) : List α := List.rec (motive := fun _ => List α) l (fun x _ ih => x :: ih) r

/-- a row's cells -/
noncomputable def rowList (f b : List Value) : List Value :=
  match b with
  | [] => f
  | b => app f (rapp b [])

noncomputable def asMap {α : Type} (k : List MapEntry → Nat → HM α) (o : VObj) : HM α :=
  match o with
  | .map es c => k es c
  | _ => .fail

noncomputable def hopt {α β : Type} (o : Option α) (k : α → HM β) : HM β :=
  match o with
  | some a => k a
  | none => .fail

noncomputable def cellsK {α : Type} (off n : Nat) (k : List Value → HM α) (o : VObj) : HM α :=
  match o with
  | .row _ f b _ _ => hopt (take? (drp (rowList f b) off) n) k
  | _ => .fail

/-- n cells at an address -/
noncomputable def withCells {α : Type} (a : Addr) (n : Nat) (k : List Value → HM α) : HM α :=
  match n with
  | 0 => k []
  | m + 1 => (match a with
    | ⟨b, off, none⟩ => .rd b (cellsK off (m + 1) k)
    | _ => .fail)

noncomputable def oneCells : List Value → Bool
  | [] => true
  | .agg _ :: _ => false
  | .tuple _ :: _ => false
  | .complex _ _ _ :: _ => false
  | _ :: l => oneCells l

/-- may the cells be written? -/
noncomputable def frzOk (fr : Nat × Nat) (off n : Nat) : Bool :=
  match fr with
  | (lo, hi) => (match Nat.beq lo hi with
    | true => true
    | false => (match Nat.ble (off + n) lo with
      | true => true
      | false => Nat.ble hi off))

noncomputable def wrIf {α : Type} (b n : Nat) (e : TypeId) (fr : Nat × Nat) (k : HM α) (c : Option (List Value)) : HM α :=
  match c with
  | some c => .wr b (.row n c [] e fr) k
  | none => .fail

noncomputable def wrK {α : Type} (b off : Nat) (vs : List Value) (k : HM α) (o : VObj) : HM α :=
  match o with
  | .row n f r e fr => (match frzOk fr off (len vs) with
    | true => (match oneCells vs with
      | true => wrIf b n e fr k (putAt (rowList f r) off vs)
      | false => .fail)
    | false => .fail)
  | _ => .fail

/-- cells are written -/
noncomputable def wrCells {α : Type} (a : Addr) (vs : List Value) (k : HM α) : HM α :=
  match vs with
  | [] => k
  | v :: vs => (match a with
    | ⟨b, off, none⟩ => .rd b (wrK b off (v :: vs) k)
    | _ => .fail)

/-- a new row -/
noncomputable def newRow {α : Type} (e : TypeId) (c : List Value) (k : Nat → HM α) : HM α := .nw (.row (len c) c [] e (0, 0)) k

/-- no address in it -/
noncomputable def bare : Nat → Value → Bool
  | 0, _ => false
  | _ + 1, .bool _ | _ + 1, .int _ _ | _ + 1, .string _ | _ + 1, .pointer none | _ + 1, .slice none 0 0 | _ + 1, .map none | _ + 1, .nilFunc | _ + 1, .nilIface => true
  | d + 1, .agg cs => cs.toList.all (bare d)
  | d + 1, .tuple cs => cs.toList.all (bare d)
  | _ + 1, .func (.func _) fs cs => fs.isEmpty && cs.isEmpty
  | _ + 1, .func (.methodOf _ _) fs cs => fs.isEmpty && cs.isEmpty
  | _ + 1, .func (.via _ _ _ _) fs cs => fs.isEmpty && cs.isEmpty
  | _ + 1, _ => false

/-- the temporaries: a tree -/
inductive Tm where
  | e
  | nd (l : Tm) (v : Value) (r : Tm)

noncomputable def Tm.get (t : Tm) (n : Nat) : Value :=
  Tm.rec (motive := fun _ => Nat → Value) (fun _ => poison) (fun _ v _ il ir n =>
    Nat.rec (motive := fun _ => Value) v (fun m _ => Nat.rec (motive := fun _ => Value) (il (Nat.div m 2)) (fun _ _ => ir (Nat.div m 2)) (Nat.mod m 2)) n) t n
noncomputable def Tm.put (k : Nat) (t : Tm) (n : Nat) (o : Value) : Tm :=
  Nat.rec (motive := fun _ => Tm → Nat → Tm) (fun t _ => t) (fun _ ih t n =>
    Tm.rec (motive := fun _ => Tm)
      (Nat.rec (motive := fun _ => Tm) (.nd .e o .e) (fun m _ => Nat.rec (motive := fun _ => Tm) (.nd (ih .e (Nat.div m 2)) poison .e) (fun _ _ => .nd .e poison (ih .e (Nat.div m 2))) (Nat.mod m 2)) n)
      (fun l v r _ _ => Nat.rec (motive := fun _ => Tm) (.nd l o r) (fun m _ => Nat.rec (motive := fun _ => Tm) (.nd (ih l (Nat.div m 2)) v r) (fun _ _ => .nd l v (ih r (Nat.div m 2))) (Nat.mod m 2)) n) t) k t n
noncomputable def Tm.set (t : Tm) (n : Nat) (x : Value) : Tm := Tm.put (Nat.succ n) t n x

/-- tmps: the slots that live longer than a region (bits of live); loc: those of this region, the last one first -/
structure VAct where
  tmps : Tm
  loc : List (Nat × Value)
  live : Nat
  defers : List Deferred
  ro : Option Nat

/-- a bit -/
noncomputable def tb (m n : Nat) : Bool := Nat.beq (Nat.mod (Nat.shiftRight m n) 2) 1

noncomputable def baseGet (tm : Tm) (live t : Nat) : Value :=
  match tb live t with
  | true => tm.get t
  | false => poison

noncomputable def locGet (tm : Tm) (live t : Nat) (l : List (Nat × Value)) : Value :=
  List.rec (motive := fun _ => Value) (baseGet tm live t) (fun p _ ih => Prod.rec (motive := fun _ => Value) (fun d v => Bool.rec (motive := fun _ => Value) ih v (Nat.beq d t)) p) l
noncomputable def flush (live : Nat) (l : List (Nat × Value)) (t : Tm) : Tm :=
  List.rec (motive := fun _ => Tm) t (fun p _ ih => Prod.rec (motive := fun _ => Tm) (fun d v => Bool.rec (motive := fun _ => Tm) ih (ih.set d v) (tb live d)) p) l
noncomputable def VAct.get (a : VAct) (t : Nat) : Value :=
  match a with
  | ⟨tm, l, live, _, _⟩ => locGet tm live t l
/-- a region's end -/
noncomputable def VAct.shut (a : VAct) : VAct :=
  match a with
  | ⟨tm, l, live, ds, ro⟩ => (match l with
    | [] => ⟨tm, [], live, ds, ro⟩
    | _ :: _ => ⟨flush live l tm, [], live, ds, ro⟩)
noncomputable def constOf (v : Value) : Value := match bare 4 v with | true => v | false => poison
noncomputable def VAct.eval (a : VAct) : Operand → Value
  | .tmp t => a.get t
  | .const v => constOf v
  | .global _ => poison
  | .func f => .func (.func f) #[] #[]

noncomputable def VAct.put (a : VAct) (dst : Option Tmp) (v : Value) : VAct :=
  match dst with
  | some d => (match a with | ⟨tm, l, live, ds, ro⟩ => ⟨tm, (d, v) :: l, live, ds, ro⟩)
  | none => a

noncomputable def tyInfo (P : Program) (t : TypeId) : Option TypeInfo := nth? P.types.toList t
noncomputable def descOf (i : TypeInfo) : TypeDesc := i.desc
noncomputable def tyUnd2 (P : Program) (i : TypeInfo) : Option TypeDesc :=
  match i.desc with
  | .named _ u => (tyInfo P u).map descOf
  | d => some d
noncomputable def tyUnd (P : Program) (t : TypeId) : Option TypeDesc :=
  match tyInfo P t with
  | some i => tyUnd2 P i
  | none => none
/-- is it an aggregate? then of how many cells -/
noncomputable def aggOf (P : Program) (t : TypeId) : Option (Option Nat) :=
  match tyInfo P t with
  | some i => match tyUnd2 P i with
    | some (.struct _) => some (some i.size)
    | some (.array _ _) => some (some i.size)
    | some _ => some none
    | none => none
  | none => none
noncomputable def sizeT (P : Program) (t : TypeId) : Option Nat :=
  match tyInfo P t with
  | some i => some i.size
  | none => none
noncomputable def zeroT (P : Program) (t : TypeId) : Option Value :=
  match tyInfo P t with
  | some i => match i.zero with
    | some v => match bare 4 v with
      | true => some v
      | false => none
    | none => none
  | none => none

noncomputable def opart (P : Program) (t : TypeId) (cs : List Value) (off : Nat) : Option Value :=
  match aggOf P t with
  | some (some n) => match take? (drp cs off) n with
    | some l => some (.agg ⟨l⟩)
    | none => none
  | some none => nth? cs off
  | none => none

/-- parts laid into cells -/
noncomputable def fillAt (r : List Value → Option (List Value)) (size : Nat) (c : List Value) (off : Nat) (vs : List Value) : Option (List Value) :=
  match Nat.beq (len vs) size with
  | true => (match putAt c off vs with
    | some c => r c
    | none => none)
  | false => none
noncomputable def fillP (r : List Value → Option (List Value)) (c : List Value) (v : Value) (p : Option (Nat × Nat)) : Option (List Value) :=
  match p with
  | some (off, size) => (match v with
    | .complex _ _ _ => none
    | v => fillAt r size c off v.cells.toList)
  | none => none
noncomputable def vfill (place : Nat → Option (Nat × Nat)) : List (Nat × Value) → List Value → Option (List Value)
  | [], c => some c
  | p :: rest, c => fillP (vfill place rest) c p.2 (place p.1)

noncomputable def rep {α : Type} (n : Nat) (z acc : List α) : List α :=
  Nat.rec (motive := fun _ => List α → List α) (fun acc => acc) (fun _ ih acc => ih (app z acc)) n acc

noncomputable def load1K (off : Nat) (o : VObj) : HM Next :=
  match o with
  | .row _ f b _ _ => hopt (nth? (rowList f b) off) fun v => .ret (.value v)
  | _ => .fail

noncomputable def vloadAt (n : Option Nat) (b off : Nat) : HM Next :=
  match n with
  | some (n + 1) => .rd b (cellsK off (n + 1) fun l => .ret (.value (.agg ⟨l⟩)))
  | some 0 => .ret (.value (.agg #[]))
  | none => .rd b (load1K off)

noncomputable def vload (P : Program) (t : TypeId) (v : Value) : HM Next :=
  match v with
  | .pointer (some ⟨b, off, none⟩) => hopt (aggOf P t) fun n => vloadAt n b off
  | _ => .fail

noncomputable def vstore (P : Program) (t : TypeId) (p v : Value) : HM Next :=
  match p with
  | .pointer (some a) => hopt (sizeT P t) fun n => (match Nat.beq (len v.cells.toList) n with
    | true => wrCells a v.cells.toList (.ret .skip)
    | false => .fail)
  | _ => .fail

/-- the value of a pure piece of the model's own -/
noncomputable def ofSem {α : Type} : Sem α → Option α
  | .pure a => some a
  | _ => none

noncomputable def kidx : IntKind → Nat
  | .i8 => 0 | .i16 => 1 | .i32 => 2 | .i64 => 3 | .u8 => 4 | .u16 => 5 | .u32 => 6 | .u64 => 7
noncomputable def keq (a b : IntKind) : Bool := Nat.beq (kidx a) (kidx b)
noncomputable def lim : IntKind → Nat
  | .i8 => 128 | .i16 => 32768 | .i32 => 2147483648 | .i64 => 9223372036854775808
  | .u8 => 256 | .u16 => 65536 | .u32 => 4294967296 | .u64 => 18446744073709551616
noncomputable def wrapN (k : IntKind) (m : Nat) : Int :=
  match Nat.blt m (lim k) with
  | true => .ofNat m
  | false => k.wrap (.ofNat m)
noncomputable def wrapF (k : IntKind) (n : Int) : Int :=
  match n with
  | .ofNat m => wrapN k m
  | n => k.wrap n
noncomputable def addF (a b : Int) : Int :=
  match a, b with
  | .ofNat x, .ofNat y => .ofNat (Nat.add x y)
  | a, b => a + b
noncomputable def subN (x y : Nat) : Int :=
  match Nat.ble y x with
  | true => .ofNat (Nat.sub x y)
  | false => Int.sub (.ofNat x) (.ofNat y)
noncomputable def subF (a b : Int) : Int :=
  match a, b with
  | .ofNat x, .ofNat y => subN x y
  | a, b => a - b
noncomputable def mulF (a b : Int) : Int :=
  match a, b with
  | .ofNat x, .ofNat y => .ofNat (Nat.mul x y)
  | a, b => a * b
noncomputable def ltF (a b : Int) : Bool :=
  match a, b with
  | .ofNat x, .ofNat y => Nat.blt x y
  | .ofNat _, .negSucc _ => false
  | .negSucc _, .ofNat _ => true
  | .negSucc x, .negSucc y => Nat.blt y x
noncomputable def eqF (a b : Int) : Bool :=
  match a, b with
  | .ofNat x, .ofNat y => Nat.beq x y
  | .negSucc x, .negSucc y => Nat.beq x y
  | _, _ => false
noncomputable def divF (op : BinOp) (k : IntKind) (a b : Int) : Option Value :=
  match a, b with
  | .ofNat x, .ofNat (y + 1) => (match op with
    | .quo => some (.int k (wrapN k (Nat.div x (y + 1))))
    | .rem => some (.int k (.ofNat (Nat.mod x (y + 1))))
    | _ => none)
  | a, b => ofSem (Op.intDiv op k a b)
noncomputable def kb : IntKind → Nat
  | .i8 => 8 | .i16 => 16 | .i32 => 32 | .i64 => 64 | .u8 => 8 | .u16 => 16 | .u32 => 32 | .u64 => 64
noncomputable def shF (op : BinOp) (k : IntKind) (a : Int) (j : IntKind) (b : Int) : Option Value :=
  match a, b with
  | .ofNat x, .ofNat y => (match Nat.ble y (kb k) with
    | true => (match op with
      | .shr => some (.int k (.ofNat (Nat.shiftRight x y)))
      | _ => ofSem (Op.shift op k a j b))
    | false => ofSem (Op.shift op k a j b))
  | a, b => ofSem (Op.shift op k a j b)

noncomputable def intOp (op : BinOp) (k : IntKind) (a b : Int) : Option Value :=
  match op with
  | .add => some (.int k (wrapF k (addF a b)))
  | .sub => some (.int k (wrapF k (subF a b)))
  | .mul => some (.int k (wrapF k (mulF a b)))
  | .eql => some (.bool (eqF a b))
  | .neq => some (.bool !(eqF a b))
  | .lss => some (.bool (ltF a b))
  | .leq => some (.bool !(ltF b a))
  | .gtr => some (.bool (ltF b a))
  | .geq => some (.bool !(ltF a b))
  | .quo => divF op k a b
  | .rem => divF op k a b
  | op => ofSem (Op.intBits op k a b)

noncomputable def vint (op : BinOp) (k : IntKind) (a : Int) (j : IntKind) (b : Int) : Option Value :=
  match op with
  | .shl => shF .shl k a j b
  | .shr => shF .shr k a j b
  | op => match keq k j with
    | true => intOp op k a b
    | false => none

noncomputable def beqBytes : List UInt8 → List UInt8 → Bool
  | [], [] => true
  | a :: x, b :: y => Nat.beq a.toNat b.toNat && beqBytes x y
  | _, _ => false

noncomputable def ltBytes : List UInt8 → List UInt8 → Bool
  | _, [] => false
  | [], _ :: _ => true
  | a :: x, b :: y => Nat.blt a.toNat b.toNat || (Nat.beq a.toNat b.toNat && ltBytes x y)

noncomputable def vstringOp (op : BinOp) (x y : ByteArray) : Option Value :=
  let a := x.data.toList
  let b := y.data.toList
  match op with
  | .add => if a.length + b.length < 4611686018427387904 then some (.string ⟨⟨a ++ b⟩⟩) else none
  | .eql => some (.bool (beqBytes a b))
  | .neq => some (.bool !(beqBytes a b))
  | .lss => some (.bool (ltBytes a b))
  | .leq => some (.bool (ltBytes a b || beqBytes a b))
  | .gtr => some (.bool !(ltBytes a b || beqBytes a b))
  | .geq => some (.bool !(ltBytes a b))
  | _ => none

/-- are two cells without addresses one? none: not asked -/
noncomputable def eqAtom : Value → Value → Option Bool
  | .bool a, .bool b => some (a == b)
  | .int k a, .int j b => if k = j then some (a == b) else none
  | .string a, .string b => some (beqBytes a.data.toList b.data.toList)
  | _, _ => none

/-- are two cells of a type one? -/
noncomputable def eqAt (P : Program) (t : TypeId) (x y : Value) : Option Bool :=
  match x, y with
  | .bool a, .bool b => (match tyUnd P t with | some .bool => some (a == b) | _ => none)
  | .int k a, .int j b => (match tyUnd P t with
    | some (.int _) => (match keq k j with | true => some (eqF a b) | false => none)
    | _ => none)
  | .string a, .string b => (match tyUnd P t with | some .string => some (beqBytes a.data.toList b.data.toList) | _ => none)
  | _, _ => none

/-- structs of numbers, truths, texts, one cell each, in order -/
noncomputable def eqFlds (P : Program) : Nat → List Field → List Value → List Value → Option Bool
  | _, [], [], [] => some true
  | i, f :: fs, x :: xs, y :: ys => (match f.name != "_" && Nat.beq f.offset i with
    | true => (match eqAt P f.type x y with
      | some true => eqFlds P (Nat.succ i) fs xs ys
      | some false => some false
      | none => none)
    | false => none)
  | _, _, _, _ => none

noncomputable def eqStruct (P : Program) (t : TypeId) (fs : List Field) (xs ys : List Value) : Option Bool :=
  match !P.stoodInHeld t && !P.eqGuardType P.depth t with
  | true => eqFlds P 0 fs xs ys
  | false => none

noncomputable def veq (P : Program) (t : TypeId) (x y : Value) : Option Bool :=
  match x, y with
  | .pointer none, .pointer b => (match tyUnd P t with | some (.pointer _) => some b.isNone | _ => none)
  | .pointer a, .pointer none => (match tyUnd P t with | some (.pointer _) => some a.isNone | _ => none)
  | .pointer (some a), .pointer (some b) => (match tyUnd P t with
    | some (.pointer e) => (match sizeT P e with
      | some (_ + 1) => if a == b then some true else none
      | _ => none)
    | _ => none)
  | .slice none _ _, .slice b _ _ => (match tyUnd P t with | some (.slice _) => some b.isNone | _ => none)
  | .slice a _ _, .slice none _ _ => (match tyUnd P t with | some (.slice _) => some a.isNone | _ => none)
  | .bool a, .bool b => (match tyUnd P t with | some .bool => some (a == b) | _ => none)
  | .nilIface, .iface _ _ => (match tyUnd P t with | some (.interface _) => some false | _ => none)
  | .iface _ _, .nilIface => (match tyUnd P t with | some (.interface _) => some false | _ => none)
  | .agg xs, .agg ys => (match tyUnd P t with
    | some (.struct fs) => eqStruct P t fs.toList xs.toList ys.toList
    | _ => none)
  | _, _ => none

noncomputable def vbin (P : Program) (op : BinOp) (t : TypeId) (x y : Value) : Option Value :=
  match x, y with
  | .int k a, .int j b => vint op k a j b
  | .string a, .string b => vstringOp op a b
  | x, y => match op with
    | .eql => (match veq P t x y with | some b => some (.bool b) | none => none)
    | .neq => (match veq P t x y with | some b => some (.bool !b) | none => none)
    | _ => none

noncomputable def vbytes : List Value → Option (List UInt8)
  | [] => some []
  | .int .u8 n :: l => match vbytes l with
    | some r => some (UInt8.ofNat n.toNat :: r)
    | none => none
  | _ :: _ => none

/-- conversions that touch no memory -/
noncomputable def pconvert (P : Program) (src dst : TypeId) (x : Value) : Option Value :=
  match x with
  | .int _ n => (match tyUnd P src with
    | some _ => (match tyUnd P dst with
      | some (.int k) => some (.int k (wrapF k n))
      | _ => none)
    | none => none)
  | .string s => (match tyUnd P src with
    | some _ => (match tyUnd P dst with | some .string => some (.string s) | _ => none)
    | none => none)
  | _ => none

noncomputable def toBytes (e : TypeId) (s : List UInt8) : HM Next :=
  .nw (.row (len s) (s.map fun b => .int .u8 (.ofNat b.toNat)) [] e (UNK, UNK + 1)) fun n => .ret (.value (.slice (some ⟨n, 0, none⟩) (len s) (UNK + 1)))

noncomputable def ofBytes (a : Option Addr) (n : Nat) : HM Next :=
  match a with
  | none => .ret (.value (.string ⟨#[]⟩))
  | some a => withCells a n fun l => hopt (vbytes l) fun bs => .ret (.value (.string ⟨⟨bs⟩⟩))

noncomputable def seenK (off : Nat) (v : Value) (o : VObj) : HM Next :=
  match o with
  | .row n _ _ _ _ => (match Nat.blt off n with
    | true => .ret (.value v)
    | false => .fail)
  | _ => .fail

noncomputable def backK (u size : Nat) (v : Value) (o : VObj) : HM Next :=
  match o with
  | .row n _ _ e _ => (match Nat.beq e u with
    | true => (match Nat.ble size n with
      | true => .ret (.value v)
      | false => .fail)
    | false => .fail)
  | _ => .fail

/-- an address becomes one of no type, or back -/
noncomputable def ptrConv (P : Program) (src dst : TypeId) (a : Option Addr) : HM Next :=
  match tyUnd P src, tyUnd P dst with
  | some (.pointer t), some .unsafePointer => (match a with
    | none => .ret (.value (.pointer none))
    | some ⟨b, off, none⟩ => (match sizeT P t with
      | some (_ + 1) => .rd b (seenK off (.pointer (some ⟨b, off, none⟩)))
      | _ => .fail)
    | some ⟨_, _, some _⟩ => .fail)
  | some .unsafePointer, some (.pointer u) => (match a with
    | none => .ret (.value (.pointer none))
    | some ⟨b, 0, none⟩ => (match sizeT P u with
      | some (n + 1) => .rd b (backK u (n + 1) (.pointer (some ⟨b, 0, none⟩)))
      | _ => .fail)
    | _ => .fail)
  | _, _ => .fail

/-- a text as bytes, bytes as a text -/
noncomputable def hconvert (P : Program) (src dst : TypeId) (x : Value) : HM Next :=
  match x with
  | .string s => (match tyUnd P src, tyUnd P dst with
    | some .string, some (.slice e) => (match tyUnd P e with
      | some (.int .u8) => toBytes e s.data.toList
      | _ => .fail)
    | _, _ => .fail)
  | .slice a n _ => (match tyUnd P src, tyUnd P dst with
    | some (.slice e), some .string => (match tyUnd P e with
      | some (.int .u8) => ofBytes a n
      | _ => .fail)
    | _, _ => .fail)
  | .pointer a => ptrConv P src dst a
  | _ => .fail

noncomputable def asI : Value → Option Int
  | .int _ n => some n
  | _ => none

/-- a bound of a slice: in 0 .. y -/
noncomputable def vbound (v : Value) (y : Nat) : Option Nat :=
  match v with
  | .int _ (.ofNat i) => (match Nat.ble i y with | true => some i | false => none)
  | _ => none

noncomputable def obound (v : Option Value) (y d : Nat) : Option Nat :=
  match v with
  | some v => vbound v y
  | none => some d

noncomputable def sliceStr (s : ByteArray) (lo hi : Option Value) : Option Value :=
  match obound hi s.data.toList.length s.data.toList.length with
  | none => none
  | some h => match obound lo h 0 with
    | none => none
    | some l => some (.string ⟨⟨(s.data.toList.drop l).take (h - l)⟩⟩)

/-- of an empty slice somewhere -/
noncomputable def sliceFlo (lo hi mx : Option Value) : Option Value :=
  match obound hi 0 0, mx with
  | some h, none => (match obound lo h 0 with
    | some _ => some (.slice (some FLO) 0 UNK)
    | none => none)
  | _, _ => none

noncomputable def unk3 (size : Nat) (a : Addr) (l h m : Nat) : Value := .slice (some (match Nat.beq m l with | true => a | false => a.add (Nat.mul l size))) (Nat.sub h l) (Nat.sub m l)

noncomputable def unk2 (size : Nat) (a : Addr) (len cap h l : Nat) : Value :=
  match l with
  | 0 => .slice (some a) h cap
  | k + 1 => (match Nat.beq (k + 1) len with
    | true => .slice (some FLO) 0 UNK
    | false => .slice (some (a.add (Nat.mul (k + 1) size))) (Nat.sub h (k + 1)) cap)

noncomputable def sliceTop (size : Nat) (a : Addr) (lo hi : Option Value) (m : Nat) : Option Value :=
  match hi, Nat.blt m UNK with
  | some h, true => (match vbound h m with
    | some h => (match obound lo h 0 with
      | some l => some (unk3 size a l h m)
      | none => none)
    | none => none)
  | _, _ => none

noncomputable def sliceUnk (size : Nat) (a : Addr) (len cap : Nat) (lo hi mx : Option Value) : Option Value :=
  match a with
  | ⟨_, _, some _⟩ => sliceFlo lo hi mx
  | ⟨b, off, none⟩ => (match Nat.beq cap (Nat.add UNK size) with
    | false => none
    | true => (match mx with
      | some m => (match vbound m len with
        | some m => sliceTop size ⟨b, off, none⟩ lo hi m
        | none => none)
      | none => (match obound hi len len with
        | some h => (match obound lo h 0 with
          | some l => some (unk2 size ⟨b, off, none⟩ len cap h l)
          | none => none)
        | none => none)))

noncomputable def sliceEx (size : Nat) (a : Option Addr) (len cap : Nat) (lo hi mx : Option Value) : Option Value :=
  match obound mx cap cap with
  | none => none
  | some m => match (match hi, mx with | some h, _ => vbound h m | none, none => some len | none, some _ => none) with
    | none => none
    | some h => match obound lo h 0 with
      | none => none
      | some l => some (.slice (if m = l then a else Option.map (fun b => Addr.add b (l * size)) a) (h - l) (m - l))

noncomputable def vslice (P : Program) (t : TypeId) (x : Value) (lo hi mx : Option Value) : Option Value :=
  match x with
  | .string s => (match tyUnd P t, mx with
    | some .string, none => sliceStr s lo hi
    | _, _ => none)
  | .slice a len cap => (match tyUnd P t with
    | some (.slice e) => (match sizeT P e with
      | some size => (match Nat.ble UNK cap with
        | true => (match a with
          | some a => sliceUnk size a len cap lo hi mx
          | none => none)
        | false => sliceEx size a len cap lo hi mx)
      | none => none)
    | _ => none)
  | _ => none

/-- behind its length, as far as the row is known -/
noncomputable def farK (P : Program) (t : TypeId) (size : Nat) (a : Addr) (top cap : Nat) (lo hi mx : Option Value) (o : VObj) : HM Next :=
  match o with
  | .row rn _ _ _ _ => (match Nat.ble (a.off + top * size) rn with
    | true => (match vslice P t (.slice (some a) top cap) lo hi mx with
      | some v => .ret (.value v)
      | none => .fail)
    | false => .fail)
  | _ => .fail

noncomputable def farSize (P : Program) (t : TypeId) : Option Nat :=
  match tyUnd P t with
  | some (.slice e) => sizeT P e
  | _ => none

noncomputable def sliceFar (P : Program) (t : TypeId) (x : Value) (lo hi mx : Option Value) : HM Next :=
  match x with
  | .slice (some ⟨b, off, none⟩) _ cap => hopt (farSize P t) fun size => (match Nat.beq cap (Nat.add UNK size) with
    | true => (match hi, mx with
      | some (.int _ (.ofNat h)), none => .rd b (farK P t size ⟨b, off, none⟩ h cap lo hi mx)
      | some _, some (.int _ (.ofNat m)) => .rd b (farK P t size ⟨b, off, none⟩ m cap lo hi mx)
      | _, _ => .fail)
    | false => .fail)
  | _ => .fail

noncomputable def msl (P : Program) (t : TypeId) (x : Value) (lo hi mx : Option Value) : HM Next :=
  match vslice P t x lo hi mx with
  | some v => .ret (.value v)
  | none => sliceFar P t x lo hi mx

noncomputable def addAt (P : Program) (e : TypeId) (a : Addr) (i len : Nat) : Option Value :=
  match Nat.blt i len with
  | true => (match sizeT P e with
    | some n => some (.pointer (some (a.add (Nat.mul i n))))
    | none => none)
  | false => none

noncomputable def vindexAddr (P : Program) (t : TypeId) (x ix : Value) : Option Value :=
  match ix with
  | .int _ (.ofNat i) => (match x with
    | .slice (some a) len _ => (match tyUnd P t with
      | some (.slice e) => addAt P e a i len
      | _ => none)
    | .pointer (some a) => (match tyUnd P t with
      | some (.array len e) => addAt P e a i len
      | _ => none)
    | _ => none)
  | _ => none

noncomputable def vindex (P : Program) (t : TypeId) (x ix : Value) : Option Value :=
  match ix with
  | .int _ (.ofNat i) => (match x with
    | .string s => (match tyUnd P t with
      | some .string => (match nth? s.data.toList i with
        | some b => some (.int .u8 b.toNat)
        | none => none)
      | _ => none)
    | .agg cs => (match tyUnd P t with
      | some (.array len e) => (match Nat.blt i len with
        | true => (match sizeT P e with
          | some n => opart P e cs.toList (i * n)
          | none => none)
        | false => none)
      | _ => none)
    | _ => none)
  | _ => none

/-- where a field lies: its offset and type, if it has cells -/
noncomputable def fieldT (P : Program) (s : TypeId) (f : Nat) : Option (Nat × TypeId) :=
  match tyUnd P s with
  | some (.struct fs) => (match nth? fs.toList f with
    | some f => (match sizeT P f.type with
      | some (_ + 1) => some (f.offset, f.type)
      | _ => none)
    | none => none)
  | _ => none

noncomputable def vfieldAddr (P : Program) (s : TypeId) (x : Value) (f : Nat) : Option Value :=
  match x with
  | .pointer (some a) => (match fieldT P s f with
    | some (off, _) => some (.pointer (some (a.add off)))
    | none => none)
  | _ => none

noncomputable def vfield (P : Program) (s : TypeId) (x : Value) (f : Nat) : Option Value :=
  match x with
  | .agg cs => (match fieldT P s f with
    | some (off, t) => opart P t cs.toList off
    | none => none)
  | _ => none

noncomputable def places (P : Program) (fs : List Field) : Option (List (Nat × Nat)) :=
  match fs with
  | [] => some []
  | f :: r => match sizeT P f.type with
    | some n => match places P r with
      | some l => some ((f.offset, n) :: l)
      | none => none
    | none => none

/-- of an aggregate's parts: where each lies -/
noncomputable def placesT (P : Program) (t : TypeId) : Option (Option (List (Nat × Nat)) × Nat) :=
  match tyUnd P t with
  | some (.struct fs) => (match places P fs.toList with
    | some l => some (some l, 0)
    | none => none)
  | some (.array _ e) => (match sizeT P e with
    | some n => some (none, n)
    | none => none)
  | _ => none

noncomputable def placeAt (l : Option (List (Nat × Nat))) (n i : Nat) : Option (Nat × Nat) :=
  match l with
  | none => some (Nat.mul i n, n)
  | some l => nth? l i

noncomputable def vbuild (P : Program) (t : TypeId) (parts : List (Nat × Value)) : Option Value :=
  match zeroT P t with
  | some z => (match placesT P t with
    | some (l, n) => (match vfill (placeAt l n) parts z.cells.toList with
      | some c => some (.agg ⟨c⟩)
      | none => none)
    | none => none)
  | none => none

noncomputable def sliceTo (n : Nat) (r : Nat) : HM Next := .ret (.value (.slice (some ⟨r, 0, none⟩) n n))

/-- of a slice's element: its type, size, zero cells, if it has cells -/
noncomputable def elemT (P : Program) (t : TypeId) : Option (TypeId × Nat × List Value) :=
  match tyUnd P t with
  | some (.slice e) => (match tyInfo P e with
    | some i => (match zeroT P e, Nat.blt 0 i.size, Nat.ble i.bytes 4096 with
      | some z, true, true => (match Nat.beq (len z.cells.toList) i.size with
        | true => some (e, i.size, z.cells.toList)
        | false => none)
      | _, _, _ => none)
    | none => none)
  | _ => none

noncomputable def vbuildSlice (P : Program) (t : TypeId) (n : Nat) (parts : List (Nat × Value)) : HM Next :=
  hopt (elemT P t) fun p => (match p with
    | (e, size, z) => (match Nat.ble (Nat.mul n size) 65536 with
      | true => hopt (vfill (fun i => some (Nat.mul i size, size)) parts (rep n z [])) fun c => newRow e c (sliceTo n)
      | false => .fail))

noncomputable def makeRow (e : TypeId) (z : List Value) (l c : Nat) : HM Next :=
  match Nat.ble l c with
  | true => (match Nat.ble c 1048576 with
    | true => newRow e (rep c z []) fun r => .ret (.value (.slice (some ⟨r, 0, none⟩) l c))
    | false => .fail)
  | false => .fail

noncomputable def vmakeSlice (P : Program) (t : TypeId) (l c : Value) : HM Next :=
  hopt (elemT P t) fun p => (match p with
    | (e, _, z) => (match l, c with
      | .int _ (.ofNat l), .int _ (.ofNat c) => makeRow e z l c
      | _, _ => .fail))

noncomputable def findKey (k : Value) : List MapEntry → Option (Option Value)
  | [] => some none
  | e :: es => match eqAtom k e.key with
    | some true => some (some e.val)
    | some false => findKey k es
    | none => none

noncomputable def setKey (k v : Value) : List MapEntry → List MapEntry
  | [] => []
  | e :: es => match eqAtom k e.key with
    | some true => { e with key := k, val := v } :: es
    | _ => e :: setKey k v es

/-- may such values be keys here: numbers, texts -/
noncomputable def keyOk (P : Program) (t : TypeId) (k : Value) : Bool :=
  match k with
  | .int _ _ => (match tyUnd P t with | some (.int _) => true | _ => false)
  | .string _ => (match tyUnd P t with | some .string => true | _ => false)
  | _ => false

noncomputable def found (ok : Bool) (z : Option Value) (r : Option (Option Value)) : HM Next :=
  match r with
  | some (some v) => .ret (.value (match ok with | true => .tuple #[v, .bool true] | false => v))
  | some none => hopt z fun z => .ret (.value (match ok with | true => .tuple #[z, .bool false] | false => z))
  | none => .fail

noncomputable def vlookup (P : Program) (t : TypeId) (x ix : Value) (ok : Bool) : HM Next :=
  match tyUnd P t with
  | some (.map key elem) => (match keyOk P key ix with
    | true => (match x with
      | .map none => found ok (zeroT P elem) (some none)
      | .map (some r) => .rd r (asMap fun es _ => found ok (zeroT P elem) (findKey ix es))
      | _ => .fail)
    | false => .fail)
  | _ => .fail

noncomputable def mapPut (r : Nat) (k v : Value) (es : List MapEntry) (c : Nat) : HM Next :=
  match findKey k es with
  | some (some _) => .wr r (.map (setKey k v es) c) (.ret .skip)
  | some none => .wr r (.map (app es [{ key := k, val := v, born := c }]) (Nat.succ c)) (.ret .skip)
  | none => .fail

noncomputable def vmapUpdate (P : Program) (t : TypeId) (m k v : Value) : HM Next :=
  match tyUnd P t with
  | some (.map key _) => (match keyOk P key k with
    | true => (match m with
      | .map (some r) => .rd r (asMap (mapPut r k v))
      | _ => .fail)
    | false => .fail)
  | _ => .fail

/-- the first n cells of what is appended, or copied -/
noncomputable def firstN {α : Type} (size n : Nat) (v : Value) (k : List Value → HM α) : HM α :=
  match v with
  | .slice (some a) _ _ => withCells a (Nat.mul n size) k
  | .slice none _ _ => k []
  | .string s => hopt (take? s.data.toList n) fun l => k (l.map fun b => .int .u8 (.ofNat b.toNat))
  | _ => .fail

noncomputable def vlen (v : Value) : Option Nat :=
  match v with
  | .slice _ n _ => some n
  | .string s => some (len s.data.toList)
  | _ => none

noncomputable def unkTo (size r n : Nat) : HM Next := .ret (.value (.slice (some ⟨r, 0, none⟩) n (Nat.add UNK size)))

/-- old cells and new ones in a new row; the old row is no longer known -/
noncomputable def growK (size b off used : Nat) (n : Nat) (new : List Value) (e : TypeId) (fr : Nat × Nat) (rn : Nat) (f r : List Value) : HM Next :=
  match (match Nat.beq fr.1 fr.2 with | true => true | false => Nat.beq fr.1 UNK) with
  | true => (match off, Nat.beq used rn with
    | 0, true => .kill b (.nw (.row (Nat.add rn (len new)) f (rapp new r) e fr) fun x => unkTo size x n)
    | off, _ => hopt (take? (drp (rowList f r) off) used) fun old => .kill b (.nw (.row (Nat.add used (len new)) (app old new) [] e fr) fun x => unkTo size x n))
  | false => .fail

noncomputable def unkAt (size b off n : Nat) : HM Next := .ret (.value (.slice (some ⟨b, off, none⟩) n (Nat.add UNK size)))

/-- behind a slice whose capacity is not known -/
noncomputable def appUnk (et size b off used n : Nat) (new : List Value) (o : VObj) : HM Next :=
  match o with
  | .row rn f r e fr => (match Nat.beq et e with
   | false => .fail
   | true => match frzOk fr (Nat.add off used) (len new), oneCells new with
    | true, true => (match Nat.ble (Nat.add (Nat.add off used) (len new)) rn with
      | true => wrIf b rn e fr (unkAt size b off n) (putAt (rowList f r) (Nat.add off used) new)
      | false => growK size b off used n new e fr rn f r)
    | _, _ => .fail)
  | _ => .fail

noncomputable def appTo (e : TypeId) (size : Nat) (base : Option Addr) (n cap m : Nat) (new : List Value) : HM Next :=
  match Nat.ble (Nat.add n m) 1048576 with
  | false => .fail
  | true => (match Nat.ble UNK cap with
    | true => (match m, base with
      | 0, some a => .ret (.value (.slice (some a) n cap))
      | _, some ⟨b, off, none⟩ => (match Nat.beq cap (Nat.add UNK size) with
        | true => .rd b (appUnk e size b off (Nat.mul n size) (Nat.add n m) new)
        | false => .fail)
      | _, _ => .fail)
    | false => (match Nat.ble (Nat.add n m) cap with
      | true => (match base with
        | some a => wrCells (a.add (Nat.mul n size)) new (.ret (.value (.slice (some a) (Nat.add n m) cap)))
        | none => (match m with
          | 0 => .ret (.value (.slice none n cap))
          | _ => .fail))
      | false => firstN size n (.slice base n cap) fun old => newRow e (app old new) fun x => unkTo size x (Nat.add n m)))

noncomputable def appZero (e : TypeId) (size : Nat) (z : List Value) (base : Option Addr) (n cap : Nat) (x : Value) : HM Next :=
  match x with
  | .int _ (.ofNat m) => (match Nat.ble m 1048576 with
    | true => appTo e size base n cap m (rep m z [])
    | false => .fail)
  | _ => .fail

noncomputable def strSz (x : Value) (size : Nat) : Bool :=
  match x with
  | .string _ => Nat.beq size 1
  | _ => true

noncomputable def appOf (e : TypeId) (size : Nat) (base : Option Addr) (n cap : Nat) (x : Value) : HM Next :=
  match strSz x size with
  | true => hopt (vlen x) fun m => firstN size m x (appTo e size base n cap m)
  | false => .fail

noncomputable def vappend (P : Program) (ts : List TypeId) (args : List Value) : HM Next :=
  match args with
  | [.slice base n cap, x] => (match ts with
    | [t, t2] => hopt (elemT P t) fun p => (match p with
      | (e, size, z) => (match tyUnd P t2 with
        | some (.int _) => appZero e size z base n cap x
        | some _ => appOf e size base n cap x
        | none => .fail))
    | _ => .fail)
  | _ => .fail

noncomputable def copyTo (base : Option Addr) (n : Nat) (l : List Value) : HM Next :=
  match base with
  | some a => wrCells a l (.ret (.value (.int .i64 (.ofNat n))))
  | none => .ret (.value (.int .i64 (.ofNat n)))

noncomputable def vcopy (P : Program) (ts : List TypeId) (args : List Value) : HM Next :=
  match args with
  | [.slice base d _, src] => (match ts with
    | t :: _ => hopt (elemT P t) fun p => (match p with
      | (_, size, _) => hopt (vlen src) fun m => (match Nat.ble m d with
        | true => firstN size m src (copyTo base m)
        | false => firstN size d src (copyTo base d)))
    | _ => .fail)
  | _ => .fail

noncomputable def vclear (P : Program) (ts : List TypeId) (args : List Value) : HM Next :=
  match args with
  | [.slice base n _] => (match ts with
    | t :: _ => hopt (elemT P t) fun p => (match p with
      | (_, _, z) => (match n, base with
        | 0, _ => .ret (.value (.tuple #[]))
        | _, none => .ret (.value (.tuple #[]))
        | n, some a => wrCells a (rep n z []) (.ret (.value (.tuple #[])))))
    | _ => .fail)
  | _ => .fail

noncomputable def natTo (n : Nat) : HM Next := .ret (.value (.int .i64 (.ofNat n)))

noncomputable def vlenOp (P : Program) (ts : List TypeId) (args : List Value) : HM Next :=
  match args with
  | [x] => (match ts with
    | t :: _ => (match x with
      | .slice _ n _ => (match tyUnd P t with | some (.slice _) => natTo n | _ => .fail)
      | .string s => (match tyUnd P t with | some .string => natTo (len s.data.toList) | _ => .fail)
      | .map none => (match tyUnd P t with | some (.map _ _) => natTo 0 | _ => .fail)
      | .map (some r) => (match tyUnd P t with | some (.map _ _) => .rd r (asMap fun es _ => natTo (len es)) | _ => .fail)
      | _ => .fail)
    | _ => .fail)
  | _ => .fail

noncomputable def vcap (P : Program) (ts : List TypeId) (args : List Value) : HM Next :=
  match args with
  | [.slice _ _ c] => (match ts with
    | t :: _ => (match tyUnd P t, Nat.blt c UNK with
      | some (.slice _), true => natTo c
      | _, _ => .fail)
    | _ => .fail)
  | _ => .fail

noncomputable def vsliceData (args : List Value) : HM Next :=
  match args with
  | [.slice none _ _] => .ret (.value (.pointer none))
  | [.slice (some ⟨b, off, none⟩) n cap] => (match (match Nat.ble UNK cap with | true => n | false => cap) with
    | 0 => .fail
    | _ => .ret (.value (.pointer (some ⟨b, off, none⟩))))
  | _ => .fail

noncomputable def hull (fr : Nat × Nat) (off n : Nat) : Nat × Nat :=
  match Nat.beq fr.1 fr.2 with
  | true => (off, Nat.add off n)
  | false => (Nat.min fr.1 off, Nat.max fr.2 (Nat.add off n))

noncomputable def strK (P : Program) (u : TypeId) (b off n : Nat) (o : VObj) : HM Next :=
  match o with
  | .row rn f r e fr => (match Nat.beq u e, Nat.blt fr.1 UNK, Nat.blt off UNK with
    | true, true, true => (match tyUnd P e, sizeT P e with
      | some (.int .u8), some 1 => hopt (take? (drp (rowList f r) off) n) fun l => hopt (vbytes l) fun bs =>
          .wr b (.row rn f r e (hull fr off n)) (.ret (.value (.string ⟨⟨bs⟩⟩)))
      | _, _ => .fail)
    | _, _, _ => .fail)
  | _ => .fail

noncomputable def strAt (P : Program) (t : TypeId) (p : Option Addr) (n : Nat) : HM Next :=
  match n with
  | 0 => .ret (.value (.string ⟨#[]⟩))
  | k + 1 => (match p with
    | some ⟨b, off, none⟩ => (match Nat.ble (k + 1) 1048576 with
      | true => (match tyUnd P t with
        | some (.pointer u) => .rd b (strK P u b off (k + 1))
        | _ => .fail)
      | false => .fail)
    | _ => .fail)

noncomputable def vunsafeString (P : Program) (ts : List TypeId) (args : List Value) : HM Next :=
  match args with
  | [.pointer p, .int _ (.ofNat n)] => (match ts with
    | t :: _ => strAt P t p n
    | _ => .fail)
  | _ => .fail

noncomputable def vminmax (mx : Bool) : Value → List Value → Option Value
  | .int k a, [] => some (.int k a)
  | .int k a, .int j b :: l => (match keq k j with
    | true => vminmax mx (.int k (match ltF a b with | true => (match mx with | true => b | false => a) | false => (match mx with | true => a | false => b))) l
    | false => none)
  | _, _ => none

noncomputable def retOpt (v : Option Value) : HM Next :=
  match v with
  | some v => .ret (.value v)
  | none => .fail

noncomputable def vbuiltin (P : Program) (b : Builtin) (ts : List TypeId) (args : List Value) : HM Next :=
  match b with
  | .append => vappend P ts args
  | .len => vlenOp P ts args
  | .cap => vcap P ts args
  | .copy => vcopy P ts args
  | .clear => vclear P ts args
  | .unsafeSliceData => vsliceData args
  | .unsafeString => vunsafeString P ts args
  | .min => (match args with | x :: l => retOpt (vminmax false x l) | [] => .fail)
  | .max => (match args with | x :: l => retOpt (vminmax true x l) | [] => .fail)
  | _ => .fail

inductive OpR where
  | pure (v : Option Value)
  | mem (m : HM Next)

noncomputable def vpick (c a b : Value) : Option Value :=
  match c with
  | .bool true => some a
  | .bool false => some b
  | _ => none

noncomputable def ptrTo (r : Nat) : HM Next := .ret (.value (.pointer (some ⟨r, 0, none⟩)))

noncomputable def valloc (P : Program) (elem : TypeId) : HM Next := hopt (zeroT P elem) fun z => newRow elem z.cells.toList ptrTo

noncomputable def vbox (elem : TypeId) (v : Value) : HM Next :=
  match v with
  | .complex _ _ _ => .fail
  | v => newRow elem v.cells.toList ptrTo

/-- a method of a value in an interface: through no field -/
noncomputable def methodOf (P : Program) (t : TypeId) (name : String) : Option FuncId :=
  match tyInfo P t with
  | some i => (match i.methods.toList.find? (·.name == name) with
    | some m => (match m.path.toList, m.func, tyUnd2 P i with
      | [], some (f, true), some (.pointer _) => some f
      | [], some (_, false), some (.pointer _) => none
      | [], some (_, false), some (.interface _) => none
      | [], some (f, false), some _ => some f
      | _, _, _ => none)
    | none => none)
  | none => none

noncomputable def vnilCheck (P : Program) (x : Value) : Option Value :=
  match x with
  | .pointer (some a) => some (.pointer (some a))
  | .func fn first captured => (match fn with
    | .func f => some (.func (.func f) first captured)
    | .methodOf t n => some (.func (.methodOf t n) first captured)
    | .yield l => some (.func (.yield l) first captured)
    | .method name => (match first.toList with
      | .iface t _ :: _ => (match methodOf P t name with
        | some _ => some (.func (.method name) first captured)
        | none => none)
      | _ => none)
    | _ => none)
  | .iface t x => some (.iface t x)
  | _ => none

noncomputable def vunop (op : UnOp) (x : Value) : Option Value :=
  match op, x with
  | .not, .bool b => some (.bool !b)
  | .neg, .int k n => ofSem (Op.unary .neg (.int k n))
  | .xor, .int k n => ofSem (Op.unary .xor (.int k n))
  | _, _ => none

noncomputable def vmakeIface (P : Program) (t : TypeId) (x : Value) : Option Value :=
  match tyUnd P t with
  | some (.interface _) => none
  | some _ => some (.iface t x)
  | none => none

noncomputable def vextract (t : Value) (ix : Nat) : Option Value :=
  match t with
  | .tuple vs => nth? vs.toList ix
  | _ => none

noncomputable def cmpBytes : List UInt8 → List UInt8 → Int
  | [], [] => 0
  | [], _ :: _ => -1
  | _ :: _, [] => 1
  | a :: x, b :: y => if Nat.blt a.toNat b.toNat then -1 else if Nat.blt b.toNat a.toNat then 1 else cmpBytes x y

noncomputable def noZero (e : TypeId) (n : Nat) : HM Next :=
  match Nat.ble n 1048576 with
  | true => newRow e (rep n [poison] []) fun x => unkTo 1 x n
  | false => .fail

/-- functions without a body -/
noncomputable def vextern (P : Program) (fn : Func) (args : List Value) : HM Next :=
  match fn.name == "internal/abi.NoEscape" with
  | true => (match args with | [x] => .ret (.value x) | _ => .fail)
  | false => (match fn.name == "internal/bytealg.abigen_runtime_cmpstring" with
    | true => (match args with
      | [.string a, .string b] => .ret (.value (.int .i64 (cmpBytes a.data.toList b.data.toList)))
      | _ => .fail)
    | false => (match fn.name == "internal/bytealg.MakeNoZero" with
      | true => (match args, fn.resultTypes.toList with
        | [.int .i64 (.ofNat n)], [t] => hopt (elemT P t) fun p => (match p with
          | (e, size, _) => (match size with | 1 => noZero e n | _ => .fail))
        | _, _ => .fail)
      | false => .fail))

/-- is there such a function, and has it a body? -/
noncomputable def bodyOf (P : Program) (f : FuncId) : Option Bool :=
  match nth? P.funcs.toList f with
  | some fn => some fn.body.isSome
  | none => none

noncomputable def vcallExt (P : Program) (f : FuncId) (args : List Value) : HM Next :=
  match nth? P.funcs.toList f with
  | some fn => vextern P fn args
  | none => .fail

noncomputable def vcallFunc (P : Program) (f : FuncId) (args : List Value) : HM Next :=
  match bodyOf P f with
  | some true => .ret (.enter f ⟨args⟩)
  | some false => vcallExt P f args
  | none => .fail

noncomputable def setAll (ds : List Tmp) : List Value → List Value → Option (List Value) :=
  List.rec (motive := fun _ => List Value → List Value → Option (List Value)) (fun vs t => List.rec (motive := fun _ => Option (List Value)) (some t) (fun _ _ _ => none) vs)
    (fun d _ ih vs t => List.rec (motive := fun _ => Option (List Value)) none (fun v vs _ => Option.rec (motive := fun _ => Option (List Value)) none (fun t => ih vs t) (putAt t d [v])) vs) ds

noncomputable def vyieldTo (l : Nat) (args : List Value) (o : VObj) : HM Next :=
  match o with
  | .loop _ _ live tmps params assign body _ => hopt (setAll params args tmps) fun t => .ret (.round l live ⟨t⟩ assign body)
  | _ => .fail

noncomputable def vinvoke (P : Program) (b : Deferred) : HM Next :=
  match b.target, b.args.toList with
  | .fn (.func f) captured, args => vcallFunc P f (args ++ captured.toList)
  | .fn (.methodOf t name) _, x :: rest => (match tyUnd P t with
    | some (.interface _) => .fail
    | some _ => (match methodOf P t name with
      | some f => vcallFunc P f (x :: rest)
      | none => .fail)
    | none => .fail)
  | .fn (.method name) _, .iface t v :: rest => (match methodOf P t name with
    | some f => vcallFunc P f (v :: rest)
    | none => .fail)
  | .fn (.yield l) _, args => .rd l (vyieldTo l args)
  | _, _ => .fail

noncomputable def vresolve (ρ : Operand → Value) (c : Call) : Option Deferred :=
  match c.callee with
  | .builtin _ => none
  | .invoke recv name => some { target := .fn (.method name) #[], args := ⟨ρ recv :: c.args.toList.map ρ⟩ }
  | .value f => match ρ f with
    | .func fn first captured => some { target := .fn fn captured, args := ⟨first.toList ++ c.args.toList.map ρ⟩ }
    | _ => none

noncomputable def vcallOp (P : Program) (ρ : Operand → Value) (c : Call) : HM Next :=
  match c.callee with
  | .builtin b => vbuiltin P b c.argTypes.toList (c.args.toList.map ρ)
  | _ => (match vresolve ρ c with
    | some d => vinvoke P d
    | none => .fail)

noncomputable def vdeferOp (ρ : Operand → Value) (c : Call) : HM Next :=
  match vresolve ρ c with
  | some d => .ret (.defer d)
  | none => .fail

noncomputable def vmakeMap (r : Option Operand) : HM Next :=
  match r with
  | none => .nw (.map [] 0) fun r => .ret (.value (.map (some r)))
  | some _ => .fail

noncomputable def iterTo (o : VObj) : HM Next := .nw o ptrTo

noncomputable def vrangeOp (P : Program) (t : TypeId) (x : Value) : HM Next :=
  match x with
  | .string s => (match tyUnd P t with | some .string => iterTo (.siter s 0) | _ => .fail)
  | .map none => (match tyUnd P t with | some (.map _ _) => iterTo (.miter none 0 []) | _ => .fail)
  | .map (some m) => (match tyUnd P t with | some (.map _ _) => .rd m (asMap fun _ c => iterTo (.miter (some m) c [])) | _ => .fail)
  | _ => .fail

noncomputable def memNat (n : Nat) : List Nat → Bool
  | [] => false
  | x :: l => match Nat.beq x n with
    | true => true
    | false => memNat n l

/-- the entries that an iterator has yet to show -/
noncomputable def vleft (seen : List Nat) : List MapEntry → List MapEntry
  | [] => []
  | e :: l => match memNat e.born seen with
    | true => vleft seen l
    | false => e :: vleft seen l

noncomputable def overN : HM Next := .ret (.value (.tuple #[.bool false]))

noncomputable def nextStr (r : Nat) (s : ByteArray) (pos : Nat) : HM Next :=
  match Nat.blt pos (len s.data.toList) with
  | true => (match Utf8.decode s pos with
    | (c, w) => .wr r (.siter s (Nat.add pos w)) (.ret (.value (.tuple #[.bool true, .int .i64 (.ofNat pos), .int .i32 (.ofNat c)]))))
  | false => overN

noncomputable def nextMap (r m since : Nat) (seen : List Nat) (es : List MapEntry) (c : Nat) : HM Next :=
  match Nat.beq c since with
  | true => (match vleft seen es with
    | [] => overN
    | [e] => (match Nat.blt e.born since with
      | true => .wr r (.miter (some m) since (app seen [e.born])) (.ret (.value (.tuple #[.bool true, e.key, e.val])))
      | false => .fail)
    | _ => .fail)
  | false => .fail

noncomputable def nextK (r : Nat) (isString : Bool) (o : VObj) : HM Next :=
  match o, isString with
  | .siter s pos, true => nextStr r s pos
  | .miter none _ _, false => overN
  | .miter (some m) since seen, false => .rd m (asMap (nextMap r m since seen))
  | _, _ => .fail

noncomputable def vnext (it : Value) (isString : Bool) : HM Next :=
  match it with
  | .pointer (some ⟨r, 0, none⟩) => .rd r (nextK r isString)
  | _ => .fail

noncomputable def lastOf : List Nat → Option Nat
  | [] => none
  | [x] => some x
  | _ :: l => lastOf l

noncomputable def findBorn (n : Nat) : List MapEntry → Option MapEntry
  | [] => none
  | e :: l => match Nat.beq e.born n with
    | true => some e
    | false => findBorn n l

noncomputable def entryOf (since st : Nat) (es : List MapEntry) (c : Nat) : HM Next :=
  match Nat.beq c since with
  | true => hopt (findBorn st es) fun e => .ret (.value (.tuple #[e.key, e.val]))
  | false => .fail

noncomputable def entryK (o : VObj) : HM Next :=
  match o with
  | .miter (some m) since seen => hopt (lastOf seen) fun st => .rd m (asMap (entryOf since st))
  | _ => .fail

noncomputable def ventry (it : Value) : HM Next :=
  match it with
  | .pointer (some ⟨r, 0, none⟩) => .rd r entryK
  | _ => .fail

/-- does a conversion make, or read, memory? -/
noncomputable def memConv (P : Program) (s d : TypeId) : Bool :=
  match tyUnd P s, tyUnd P d with
  | some (.slice _), _ => true
  | _, some (.slice _) => true
  | some .unsafePointer, _ => true
  | _, some .unsafePointer => true
  | _, _ => false

/-- an operation made ready -/
inductive COp where
  | pure (f : (Operand → Value) → Option Value)
  | mem (f : (Operand → Value) → HM Next)

noncomputable def vmakeFunc (fn : Fn) (first captured : List Value) : Option Value :=
  match fn with
  | .yield _ => none
  | fn => some (.func fn ⟨first⟩ ⟨captured⟩)

noncomputable def copConv (P : Program) (s d : TypeId) (x : Operand) : COp :=
  match memConv P s d with
  | true => .mem (fun ρ => hconvert P s d (ρ x))
  | false => .pure (fun ρ => pconvert P s d (ρ x))

noncomputable def cop (P : Program) (o : Op) : COp :=
  match o with
  | .move x => .pure (fun ρ => some (ρ x))
  | .assign x => .pure (fun ρ => some (ρ x))
  | .pick c a b => .pure (fun ρ => vpick (ρ c) (ρ a) (ρ b))
  | .alloc elem => .mem (fun ρ => valloc P elem)
  | .box elem x => .mem (fun ρ => vbox elem (ρ x))
  | .build t parts => .pure (fun ρ => vbuild P t (parts.toList.map fun p => (p.1, ρ p.2)))
  | .buildSlice t len parts => .mem (fun ρ => (vbuildSlice P t len (parts.toList.map fun p => (p.1, ρ p.2))))
  | .load t a => .mem (fun ρ => (vload P t (ρ a)))
  | .store t a x => .mem (fun ρ => (vstore P t (ρ a) (ρ x)))
  | .nilCheck x => .pure (fun ρ => vnilCheck P (ρ x))
  | .binOp op t x y _ => .pure (fun ρ => vbin P op t (ρ x) (ρ y))
  | .unOp op _ x => .pure (fun ρ => vunop op (ρ x))
  | .convert s d x => copConv P s d x
  | .makeInterface t x => .pure (fun ρ => vmakeIface P t (ρ x))
  | .makeFunc fn first captured => .pure (fun ρ => vmakeFunc fn (first.toList.map ρ) (captured.toList.map ρ))
  | .makeMap _ r => .mem (fun ρ => vmakeMap r)
  | .makeSlice t l c => .mem (fun ρ => (vmakeSlice P t (ρ l) (ρ c)))
  | .slice t x lo hi mx => .mem (fun ρ => msl P t (ρ x) (lo.map ρ) (hi.map ρ) (mx.map ρ))
  | .fieldAddr s x f => .pure (fun ρ => vfieldAddr P s (ρ x) f)
  | .field s x f => .pure (fun ρ => vfield P s (ρ x) f)
  | .indexAddr t x ix => .pure (fun ρ => vindexAddr P t (ρ x) (ρ ix))
  | .index t x ix => .pure (fun ρ => vindex P t (ρ x) (ρ ix))
  | .lookup t x ix ok => .mem (fun ρ => (vlookup P t (ρ x) (ρ ix) ok))
  | .mapUpdate t m k x => .mem (fun ρ => (vmapUpdate P t (ρ m) (ρ k) (ρ x)))
  | .insert t m k x => .mem (fun ρ => (vmapUpdate P t (ρ m) (ρ k) (ρ x)))
  | .range t x => .mem (fun ρ => (vrangeOp P t (ρ x)))
  | .next it isString => .mem (fun ρ => (vnext (ρ it) isString))
  | .entry it => .mem (fun ρ => (ventry (ρ it)))
  | .extract t ix => .pure (fun ρ => vextract (ρ t) ix)
  | .call c => .mem (fun ρ => vcallOp P ρ c)
  | .defer c => .mem (fun ρ => vdeferOp ρ c)
  | _ => .pure (fun _ => none)

noncomputable def vopK (P : Program) (ρ : Operand → Value) (o : Op) : OpR :=
  match cop P o with
  | .pure f => .pure (f ρ)
  | .mem f => .mem (f ρ)

end Go.Proofs.YtonkcdnpmemheaaGreat.Vm

namespace Go.Proofs.YtonkcdnpmemheaaGreat.Vm

inductive VExit where
  | normal
  | exit (id : Nat)
  | ret
  deriving DecidableEq

inductive Task where
  | code (c : Code) (a : VAct)
  | call (f : FuncId) (args : List Value)
  | dcall (f : FuncId) (args : List Value)
  | round (l live : Nat) (tmps : List Value) (assign body : Code)

inductive Res where
  | code (e : VExit) (a : VAct)
  | val (v : Value)

abbrev Rec := Task → VH → Option (Res × VH)

/-- does a slot hold that Bool? (none: nothing is known) -/
noncomputable def isBool (b : Bool) (v : Value) : Option Bool :=
  match v with
  | .bool x => some (x == b)
  | .complex _ _ _ => none
  | _ => some false

noncomputable def vguard (ops : List Oper) (a : VAct) (j : Nat) (b : Bool) : Option Bool :=
  match nth? ops j with
  | some o => (match o.dst with
    | some d => isBool b (a.get d)
    | none => some false)
  | none => some false

/-- is an operation carried out? -/
noncomputable def vwanted (ops : List Oper) (a : VAct) (o : Oper) : Option Bool :=
  match o.guard with
  | none => some true
  | some (j, b) => vguard ops a j b

/-- a call's answer goes into the slot -/
noncomputable def putRes (o : Oper) (a : VAct) (r : Option (Res × VH)) : Option (VAct × VH) :=
  match r with
  | some (.val v, h1) => some (a.put o.dst v, h1)
  | _ => none

noncomputable def vdeferred (o : Oper) (a : VAct) (d : Deferred) (h : VH) : Option (VAct × VH) :=
  match a with
  | ⟨tm, l, live, ds, none⟩ => some (VAct.put ⟨tm, l, live, d :: ds, none⟩ o.dst undef, h)
  | ⟨_, _, _, _, some _⟩ => none

/-- what an operation is followed by -/
noncomputable def vupon (rec : Rec) (o : Oper) (a : VAct) (x : Next) (h : VH) : Option (VAct × VH) :=
  match x with
  | .value v => some (a.put o.dst v, h)
  | .skip => some (a.put o.dst undef, h)
  | .enter f args => putRes o a (rec (.call f args.toList) h)
  | .round l live tmps assign body => putRes o a (rec (.round l live tmps.toList assign body) h)
  | .defer d => vdeferred o a d h
  | _ => none

noncomputable def memK (rec : Rec) (o : Oper) (a : VAct) (r : Option (Next × VH)) : Option (VAct × VH) :=
  match r with
  | some (x, h1) => vupon rec o a x h1
  | none => none

noncomputable def opK (rec : Rec) (o : Oper) (a : VAct) (h : VH) (r : OpR) : Option (VAct × VH) :=
  match r with
  | .pure (some v) => some (a.put o.dst v, h)
  | .pure none => none
  | .mem m => memK rec o a (m.run h)

noncomputable def vop1 (P : Program) (rec : Rec) (o : Oper) (a : VAct) (h : VH) : Option (VAct × VH) := opK rec o a h (vopK P a.eval o.op)

noncomputable def runOps (P : Program) (rec : Rec) (ops : List Oper) : List Oper → VAct → VH → Option (VAct × VH)
  | [], a, h => some (a, h)
  | o :: rest, a, h => match vwanted ops a o with
    | some true => match vop1 P rec o a h with
      | some (a1, h1) => runOps P rec ops rest a1 h1
      | none => none
    | some false => runOps P rec ops rest (a.put o.dst undef) h
    | none => none

/-! ### regions that draw their order -/

inductive Cls where | p | a | l | e
  deriving DecidableEq

noncomputable def cls (P : Program) (o : Oper) : Cls :=
  match o.op with
  | .move _ | .assign _ | .pick .. | .nilCheck _ | .binOp .. | .unOp .. | .makeInterface .. | .makeFunc .. | .fieldAddr .. | .field .. | .indexAddr .. | .index .. | .extract .. | .build .. => .p
  | .alloc _ | .box .. | .buildSlice .. | .makeSlice .. | .makeMap .. => .a
  | .load .. | .lookup .. | .slice .. => .l
  | .convert s d _ => match memConv P s d with
    | false => .p
    | true => match tyUnd P d with
      | some (.slice _) => .a
      | _ => .l
  | .call c => match c.callee with
    | .builtin .len | .builtin .cap | .builtin .min | .builtin .max => .l
    | _ => .e
  | _ => .e

noncomputable def bindsAll (e : Edge) : Bool := match e.ground with
  | .textOnly _ | .gcOnly _ => false
  | _ => true

noncomputable def orMask (ancs : List Nat) : List Edge → Nat → Nat
  | [], m => m
  | e :: es, m => if bindsAll e then orMask ancs es (Nat.lor m (Nat.lor (Nat.shiftLeft 1 e.on) (ancs.getD e.on 0))) else orMask ancs es m

/-- of each operation those that come ahead of it in every order, as bits -/
noncomputable def ancestors : List Oper → List Nat → List Nat
  | [], acc => acc
  | o :: os, acc => ancestors os (acc ++ [orMask acc o.after.toList 0])

noncomputable def tmpMask : List Operand → Nat → Nat
  | [], m => m
  | .tmp t :: l, m => tmpMask l (Nat.lor m (Nat.shiftLeft 1 t))
  | _ :: l, m => tmpMask l m

noncomputable def dstMask (o : Oper) : Nat := match o.dst with
  | some d => Nat.shiftLeft 1 d
  | none => 0

structure OpI where
  i : Nat
  o : Oper
  c : Cls
  anc : Nat
  dst : Nat
  reads : Nat

noncomputable def opInfos (P : Program) (ops : List Oper) : List OpI :=
  (ops.zip (ancestors ops [])).zipIdx.map fun ((o, m), i) => ⟨i, o, cls P o, m, dstMask o, tmpMask o.op.operands.toList 0⟩

/-- no two operations that are not ordered touch each other's slots; the operations with effects are ordered; each stands behind those that come ahead -/
noncomputable def pairOk (x y : OpI) : Bool :=
  Nat.testBit y.anc x.i || (Nat.land x.dst (Nat.lor y.reads y.dst) == 0 && Nat.land y.dst x.reads == 0 && !(x.c = .e && y.c = .e))

noncomputable def dstsOk : List OpI → Bool
  | [] => true
  | x :: l => l.all (fun y => Nat.land x.dst y.dst == 0 && pairOk x y) && Nat.blt x.anc (Nat.shiftLeft 1 x.i) && (match x.o.guard with | none => true | some (j, _) => Nat.testBit x.anc j) && dstsOk l

noncomputable def regionOk (P : Program) (ops : List Oper) : Bool := dstsOk (opInfos P ops)

structure Snap where
  e : Nat
  h : VH
  ins : Nat

structure DR where
  a : VAct
  h : VH
  ins : Nat
  snaps : List Snap
  objs : List (Nat × Nat × VObj)
  reads : List (OpI × OpR × Value)

/-- a heap with the new objects of those operations -/
noncomputable def ext (objs : List (Nat × Nat × VObj)) (mask ins : Nat) (h : VH) : VH :=
  match objs with
  | [] => h
  | (i, n, o) :: l => if Nat.testBit mask i && !Nat.testBit ins i then (ext l mask ins h).put n (some o) else ext l mask ins h

/-- reads alone -/
noncomputable def HM.look {α : Type} (m : HM α) (h : VH) : Option α :=
  HM.rec (motive := fun _ => Option α) (fun a => some a)
    (fun n _ ih => Option.rec (motive := fun _ => Option α) none (fun o => ih o) (h.get n))
    (fun _ _ _ _ => none) (fun _ _ _ => none) (fun _ _ _ => none) (fun _ _ _ _ => none) none m

noncomputable def valOf : Option Next → Option Value
  | some (.value v) => some v
  | _ => none

noncomputable def lookR (r : OpR) (h : VH) : Option Value :=
  match r with
  | .pure v => v
  | .mem m => valOf (m.look h)

noncomputable def sameCell : Value → Value → Bool
  | .bool a, .bool b => a == b
  | .int k a, .int j b => k == j && a == b
  | .string a, .string b => beqBytes a.data.toList b.data.toList
  | .pointer a, .pointer b => a == b
  | .slice a n c, .slice b m d => a == b && n == m && c == d
  | .map a, .map b => a == b
  | .nilFunc, .nilFunc => true
  | .nilIface, .nilIface => true
  | .func (.func f) xs ys, .func (.func g) us vs => f == g && xs.isEmpty && us.isEmpty && ptrs ys.toList vs.toList
  | _, _ => false
where ptrs : List Value → List Value → Bool
  | [], [] => true
  | .pointer a :: l, .pointer b :: m => a == b && ptrs l m
  | _, _ => false

noncomputable def sameCells : List Value → List Value → Bool
  | [], [] => true
  | a :: l, b :: m => sameCell a b && sameCells l m
  | _, _ => false

noncomputable def sameVal : Value → Value → Bool
  | .agg xs, .agg ys => sameCells xs.toList ys.toList
  | .tuple xs, .tuple ys => sameCells xs.toList ys.toList
  | .iface t x, .iface u y => t == u && (match x, y with | .agg xs, .agg ys => sameCells xs.toList ys.toList | x, y => sameCell x y)
  | x, y => sameCell x y

noncomputable def readsAs (objs : List (Nat × Nat × VObj)) (x : OpI) (r : OpR) (v : Value) (h : VH) (ins : Nat) : Bool :=
  match lookR r (ext objs x.anc ins h) with
  | some u => sameVal u v
  | none => false

noncomputable def oldReads (objs : List (Nat × Nat × VObj)) (x : OpI) (r : OpR) (v : Value) : List Snap → Bool
  | [] => true
  | s :: l => match Nat.testBit x.anc s.e with
    | true => true
    | false => readsAs objs x r v s.h s.ins && oldReads objs x r v l

noncomputable def newReads (objs : List (Nat × Nat × VObj)) (e : OpI) (h : VH) (ins : Nat) : List (OpI × OpR × Value) → Bool
  | [] => true
  | (x, r, v) :: l => (Nat.testBit e.anc x.i || readsAs objs x r v h ins) && newReads objs e h ins l

noncomputable def aMask : List (Nat × Nat × VObj) → Nat → Nat → Nat
  | [], _, m => m
  | (i, _, _) :: l, anc, m => if Nat.testBit anc i then aMask l anc (Nat.lor m (Nat.shiftLeft 1 i)) else aMask l anc m

noncomputable def pureR (r : OpR) : Option Value :=
  match r with
  | .pure v => v
  | .mem _ => none

noncomputable def runR (r : OpR) (h : VH) : Option (Next × VH) :=
  match r with
  | .pure _ => none
  | .mem m => m.run h

/-- names stay below this -/
abbrev KB : Nat := 1180591620717411303424

noncomputable def drawP (x : OpI) (s : DR) (r : OpR) : Option DR :=
  match pureR r with
  | some v => some { s with a := s.a.put x.o.dst v }
  | none => none

noncomputable def drawA2 (base : Nat) (x : OpI) (s : DR) (v : Value) (h1 : VH) (o : Option VObj) : Option DR :=
  match o with
  | some o => (match Nat.beq h1.nx KB with
    | true => some { s with a := s.a.put x.o.dst v, objs := (x.i, base + x.i, o) :: s.objs }
    | false => none)
  | none => none

noncomputable def drawA (base : Nat) (x : OpI) (s : DR) (r : OpR) : Option DR :=
  match runR r ⟨.e, KB, base + x.i⟩ with
  | some (.value v, h1) => drawA2 base x s v h1 (h1.get (base + x.i))
  | _ => none

noncomputable def drawL (x : OpI) (s : DR) (r : OpR) : Option DR :=
  match lookR r (ext s.objs x.anc s.ins s.h) with
  | some v => (match oldReads s.objs x r v s.snaps with
    | true => some { s with a := s.a.put x.o.dst v, reads := (x, r, v) :: s.reads }
    | false => none)
  | none => none

noncomputable def drawE2 (x : OpI) (s : DR) (a1 : VAct) (h1 : VH) (ins1 : Nat) : Option DR :=
  match Nat.beq (len a1.defers) (len s.a.defers), Nat.ble h1.nx KB && Nat.beq h1.al h1.nx && newReads s.objs x h1 ins1 s.reads with
  | true, true => some { s with a := a1, h := h1, ins := ins1, snaps := ⟨x.i, s.h, s.ins⟩ :: s.snaps }
  | _, _ => none

noncomputable def drawE (P : Program) (rec : Rec) (x : OpI) (s : DR) : Option DR :=
  match vop1 P rec x.o s.a (ext s.objs x.anc s.ins s.h) with
  | some (a1, h1) => drawE2 x s a1 h1 (aMask s.objs x.anc s.ins)
  | none => none

noncomputable def drawOp (P : Program) (rec : Rec) (base : Nat) (x : OpI) (s : DR) : Option DR :=
  match x.c with
  | .p => drawP x s (vopK P s.a.eval x.o.op)
  | .a => drawA base x s (vopK P s.a.eval x.o.op)
  | .l => drawL x s (vopK P s.a.eval x.o.op)
  | .e => drawE P rec x s

noncomputable def drawOps (P : Program) (rec : Rec) (base : Nat) (ops : List Oper) : List OpI → DR → Option DR
  | [], s => some s
  | x :: l, s => match vwanted ops s.a x.o with
    | some true => match drawOp P rec base x s with
      | some s1 => drawOps P rec base ops l s1
      | none => none
    | some false => drawOps P rec base ops l { s with a := s.a.put x.o.dst undef }
    | none => none

noncomputable def allMask (n : Nat) : Nat := Nat.sub (Nat.shiftLeft 1 n) 1

noncomputable def drawEnd (n : Nat) (r : Option DR) : Option (VAct × VH) :=
  match r with
  | some s => some (s.a, ext s.objs (allMask n) s.ins s.h)
  | none => none

noncomputable def draws (P : Program) (rec : Rec) (ops : List Oper) (a : VAct) (h : VH) : Option (VAct × VH) :=
  match regionOk P ops && Nat.ble (Nat.add h.nx (len ops)) KB with
  | true => drawEnd (len ops) (drawOps P rec h.nx ops (opInfos P ops) ⟨a, ⟨h.t, Nat.add h.nx (len ops), Nat.add h.nx (len ops)⟩, 0, [], [], []⟩)
  | false => none

/-! ### code -/

noncomputable def vres (P : Program) (a : VAct) (h : VH) : List ResultVar → Option (List Value)
  | [] => some []
  | .tmp t :: l => (match vres P a h l with
    | some r => some (a.get t :: r)
    | none => none)
  | .cell x t :: l => (match valOf ((vload P t (a.get x)).look h) with
    | some v => (match vres P a h l with
      | some r => some (v :: r)
      | none => none)
    | none => none)

noncomputable def vout : List Value → Value
  | [v] => v
  | l => .tuple ⟨l⟩

/-- the deferred calls -/
noncomputable def vleave (P : Program) (rec : Rec) : List Deferred → VH → Option VH
  | [], h => some h
  | d :: ds, h => match d.target with
    | .collected r => match h.get r with
      | some (.dfd true) => vleave P rec ds (h.put r (some (.dfd false)))
      | _ => none
    | _ => match (vinvoke P d).look h with
      | some (.enter f args) => match rec (.dcall f args.toList) h with
        | some (.val _, h1) => vleave P rec ds h1
        | _ => none
      | _ => none

noncomputable def Tm.sets : Nat → List Value → Tm → Tm
  | _, [], t => t
  | i, v :: l, t => sets (i + 1) l (t.set i v)
noncomputable def Tm.list : Nat → Nat → Tm → List Value
  | 0, _, _ => []
  | n + 1, i, t => t.get i :: Tm.list n (i + 1) t

/-- the slots that live longer than a region -/
noncomputable def opsMask : List Oper → Nat → Nat
  | [], m => m
  | o :: l, m => opsMask l (tmpMask o.op.operands.toList (Nat.lor m (dstMask o)))
noncomputable def psMask : List Nat → Nat → Nat
  | [], m => m
  | t :: l, m => psMask l (Nat.lor m (Nat.shiftLeft 1 t))
noncomputable def liveC : Code → Nat × Nat → Nat × Nat
  | .region _ ops _, s => let m := opsMask ops.toList 0; (Nat.lor s.1 m, Nat.lor s.2 (Nat.land s.1 m))
  | .seq x y, s => liveC y (liveC x s)
  | .cond c x y, s => liveC y (liveC x (s.1, tmpMask [c] s.2))
  | .block _ x, s => liveC x s
  | .loop x, s => liveC x s
  | .scope x, s => liveC x s
  | .rangeFunc g ps x y, s => liveC y (liveC x (s.1, psMask ps.toList (tmpMask [g] s.2)))
  | _, s => s
noncomputable def resMask : List ResultVar → Nat → Nat
  | [], m => m
  | .tmp t :: l, m => resMask l (Nat.lor m (Nat.shiftLeft 1 t))
  | .cell t _ :: l, m => resMask l (Nat.lor m (Nat.shiftLeft 1 t))
noncomputable def bitsTo (n : Nat) : Nat := Nat.shiftLeft 1 n - 1
noncomputable def liveOf (fn : Func) (c : Code) : Nat := resMask fn.results.toList (liveC c (0, 0)).2

/-- the slots that are written lie in the frame -/
noncomputable def inN (n t : Nat) : Bool := Nat.blt t n
noncomputable def dstIn (n : Nat) (o : Oper) : Bool := match o.dst with
  | some d => inN n d
  | none => true
noncomputable def bndC (n : Nat) : Code → Bool
  | .region _ ops _ => ops.toList.all (dstIn n)
  | .seq x y => bndC n x && bndC n y
  | .cond _ x y => bndC n x && bndC n y
  | .block _ x => bndC n x
  | .loop x => bndC n x
  | .scope x => bndC n x
  | .rangeFunc _ ps x y => ps.toList.all (inN n) && bndC n x && bndC n y
  | _ => true

structure FnI where
  c : Code
  live : Nat
  res : List ResultVar

noncomputable def fnInfo (P : Program) (f : FuncId) : Option FnI :=
  match nth? P.funcs.toList f with
  | some fn => match fn.body with
    | some c => (match bndC fn.ntmps c with
      | true => some ⟨c, liveOf fn c, fn.results.toList⟩
      | false => none)
    | none => none
  | none => none

noncomputable def frame (args : List Value) (live : Nat) : VAct := ⟨Tm.sets 0 args .e, [], Nat.lor live (bitsTo (len args)), [], none⟩

noncomputable def endCall (P : Program) (rec : Rec) (deferred : Bool) (res : List ResultVar) (a : VAct) (h1 : VH) : Option (Res × VH) :=
  match (match deferred with
    | true => (match a.defers with | [] => some h1 | _ :: _ => none)
    | false => vleave P rec a.defers h1) with
  | some h2 => (match vres P a h2 res with
    | some l => some (.val (vout l), h2)
    | none => none)
  | none => none

noncomputable def callEnd (P : Program) (rec : Rec) (deferred : Bool) (res : List ResultVar) (r : Option (Res × VH)) : Option (Res × VH) :=
  match r with
  | some (.code e a, h1) => (match e with
    | .exit _ => none
    | _ => endCall P rec deferred res a h1)
  | _ => none

noncomputable def vcall (P : Program) (rec : Rec) (deferred : Bool) (f : FuncId) (args : List Value) (h : VH) : Option (Res × VH) :=
  match fnInfo P f with
  | some i => callEnd P rec deferred i.res (rec (.code i.c (frame args i.live)) h)
  | none => none

/-- the end of a round -/
noncomputable def roundEnd (l : Nat) (e : VExit) (h : VH) (o : Option VObj) : Option (Res × VH) :=
  match o with
  | some (.loop _ _ live tmps ps assign body D) => (match e with
    | .normal => some (.val (.bool true), h.put l (some (.loop .ready none live tmps ps assign body D)))
    | .ret => some (.val (.bool false), h.put l (some (.loop .done (some .ret) live tmps ps assign body D)))
    | .exit id => some (.val (.bool false), h.put l (some (.loop .done (some (.exit id)) live tmps ps assign body D))))
  | _ => none

noncomputable def roundDone (l : Nat) (r : Option (Res × VH)) : Option (Res × VH) :=
  match r with
  | some (.code e _, h) => roundEnd l e h (h.get l)
  | _ => none

noncomputable def roundBody (rec : Rec) (l : Nat) (body : Code) (a : VAct) (h : VH) (o : Option VObj) : Option (Res × VH) :=
  match o with
  | some (.loop .ready p live tmps ps assign b D) => roundDone l (rec (.code body a) (h.put l (some (.loop .busy p live tmps ps assign b D))))
  | _ => none

noncomputable def roundGo (rec : Rec) (l : Nat) (body : Code) (r : Option (Res × VH)) : Option (Res × VH) :=
  match r with
  | some (.code .normal a1, h1) => roundBody rec l body a1 h1 (h1.get l)
  | _ => none

noncomputable def vround (rec : Rec) (l live : Nat) (tmps : List Value) (assign body : Code) (h : VH) : Option (Res × VH) :=
  roundGo rec l body (rec (.code assign ⟨Tm.sets 0 tmps .e, [], live, [], some l⟩) h)

noncomputable def loopObj (a : VAct) (ps : Array Tmp) (assign body : Code) (D : Nat) : VObj :=
  match a.shut with
  | ⟨tm, _, live, _, _⟩ => .loop .ready none live (Tm.list (Nat.succ (Nat.log2 live)) 0 tm) ps.toList assign body D

/-- the record of a loop over a function, and the mark -/
noncomputable def enter (a : VAct) (ps : Array Tmp) (assign body : Code) (h : VH) : Option (Nat × List Deferred × VH) :=
  match a with
  | ⟨_, _, _, _, none⟩ => (match h.new (.dfd true) with
    | h1 => some (h1.al, [{ target := .collected h.al, args := #[] }], h1.new (loopObj a ps assign body h.al)))
  | ⟨_, _, _, _, some l0⟩ => (match h.get l0 with
    | some (.loop _ _ _ _ _ _ _ D) => some (h.al, [], h.new (loopObj a ps assign body D))
    | _ => none)

noncomputable def jumpOf (p : Option Code) : Option VExit :=
  match p with
  | none => some .normal
  | some .ret => some .ret
  | some (.exit id) => some (.exit id)
  | _ => none

noncomputable def rangeTo (p : Option Code) (a : VAct) (h : VH) : Option (Res × VH) :=
  match jumpOf p with
  | some e => some (.code e a, h)
  | none => none

noncomputable def rangeEnd (l : Nat) (a : VAct) (h : VH) (o : Option VObj) : Option (Res × VH) :=
  match o with
  | some (.loop st p live tmps ps assign body D) => (match st with
    | .busy => none
    | _ => rangeTo p a (h.put l (some (.loop .exhausted p live tmps ps assign body D))))
  | _ => none

noncomputable def rangeDone (l : Nat) (a : VAct) (r : Option (Res × VH)) : Option (Res × VH) :=
  match r with
  | some (.val _, h) => rangeEnd l a h (h.get l)
  | _ => none

noncomputable def rangeCallK (rec : Rec) (l : Nat) (a : VAct) (h : VH) (x : Option Next) : Option (Res × VH) :=
  match x with
  | some (.enter f args) => rangeDone l a (rec (.call f args.toList) h)
  | _ => none

noncomputable def VAct.marked (a : VAct) (mark : List Deferred) : VAct := match a with | ⟨tm, lo, live, ds, ro⟩ => ⟨tm, lo, live, app mark ds, ro⟩

noncomputable def vrange (P : Program) (rec : Rec) (g : Operand) (ps : Array Tmp) (assign body : Code) (a : VAct) (h : VH) : Option (Res × VH) :=
  match enter a ps assign body h with
  | none => none
  | some (l, mark, h1) => (match a.eval g with
    | .func fn first captured => rangeCallK rec l (a.marked mark) h1
        ((vinvoke P { target := .fn fn captured, args := ⟨app first.toList [.func (.yield l) #[] #[]]⟩ }).look h1)
    | _ => none)

abbrev Sums := FuncId → Option (List Value → HM Value)

noncomputable def fin (r : Option (VAct × VH)) : Option (Res × VH) :=
  match r with
  | some (a1, h1) => some (.code .normal a1.shut, h1)
  | none => none

noncomputable def regionK (P : Program) (rec : Rec) (ops : List Oper) (d : Bool) (a : VAct) (h : VH) : Option (Res × VH) :=
  match d with
  | false => fin (runOps P rec ops ops a h)
  | true => fin (draws P rec ops a h)

/-- code, its loops and calls by rec -/
noncomputable def codeK (P : Program) (rec : Rec) : Code → VAct → VH → Option (Res × VH)
  | .skip, a, h => some (.code .normal a, h)
  | .label _, a, h => some (.code .normal a, h)
  | .seq x y, a, h => match codeK P rec x a h with
    | some (.code .normal a1, h1) => codeK P rec y a1 h1
    | r => r
  | .cond c x y, a, h => match a.eval c with
    | .bool true => codeK P rec x a h
    | .bool false => codeK P rec y a h
    | _ => none
  | .block id x, a, h => match codeK P rec x a h with
    | some (.code (.exit i) a1, h1) => match Nat.beq i id with
      | true => some (.code .normal a1, h1)
      | false => some (.code (.exit i) a1, h1)
    | r => r
  | .loop x, a, h => match codeK P rec x a h with
    | some (.code .normal a1, h1) => rec (.code (.loop x) a1) h1
    | r => r
  | .scope x, a, h => codeK P rec x a h
  | .exit id, a, h => some (.code (.exit id) a, h)
  | .ret, a, h => some (.code .ret a, h)
  | .region _ ops d, a, h => regionK P rec ops.toList d a h
  | .rangeFunc g ps assign body, a, h => vrange P rec g ps assign body a h
  | .goto _, _, _ => none
  | .refuse _, _, _ => none

noncomputable def sumK (r : Option (Value × VH)) : Option (Res × VH) :=
  match r with
  | some (v, h1) => some (.val v, h1)
  | none => none

/-- a summary, where there are not too many names -/
noncomputable def sumNx (b : Bool) (m : HM Value) (h : VH) : Option (Res × VH) :=
  match b with
  | true => sumK (m.run h)
  | false => none

noncomputable def callK (P : Program) (rec : Rec) (f : FuncId) (args : List Value) (h : VH) (s : Option (List Value → HM Value)) : Option (Res × VH) :=
  match s with
  | some s => sumNx (Nat.ble h.nx UNK) (s args) h
  | none => vcall P rec false f args h

noncomputable def vstep (P : Program) (S : Sums) (rec : Rec) (t : Task) (h : VH) : Option (Res × VH) :=
  match t with
  | .code c a => codeK P rec c a h
  | .call f args => callK P rec f args h (S f)
  | .dcall f args => vcall P rec true f args h
  | .round l live tmps assign body => vround rec l live tmps assign body h

noncomputable def vrun (P : Program) (S : Sums) (n : Nat) : Rec :=
  Nat.rec (motive := fun _ => Rec) (fun _ _ => none) (fun _ ih => vstep P S ih) n

/-! ### the same, for the kernel: what comes behind is handed on -/

abbrev Kont := VAct → VH → Option (Res × VH)

noncomputable def fValue (k : Kont) (o : Oper) (a : VAct) (r : Option (Res × VH)) : Option (Res × VH) :=
  match r with
  | some (.val v, h1) => k (a.put o.dst v) h1
  | _ => none

noncomputable def fDefer (k : Kont) (o : Oper) (a : VAct) (d : Deferred) (h : VH) : Option (Res × VH) :=
  match a with
  | ⟨tm, l, live, ds, none⟩ => k (VAct.put ⟨tm, l, live, d :: ds, none⟩ o.dst undef) h
  | ⟨_, _, _, _, some _⟩ => none

noncomputable def fUpon (rec : Rec) (k : Kont) (o : Oper) (a : VAct) (x : Next) (h : VH) : Option (Res × VH) :=
  match x with
  | .value v => k (a.put o.dst v) h
  | .skip => k (a.put o.dst undef) h
  | .enter f args => fValue k o a (rec (.call f args.toList) h)
  | .round l live tmps assign body => fValue k o a (rec (.round l live tmps.toList assign body) h)
  | .defer d => fDefer k o a d h
  | _ => none

noncomputable def fMem (rec : Rec) (k : Kont) (o : Oper) (a : VAct) (r : Option (Next × VH)) : Option (Res × VH) :=
  match r with
  | some (x, h1) => fUpon rec k o a x h1
  | none => none

noncomputable def fPure (k : Kont) (o : Oper) (a : VAct) (h : VH) (r : Option Value) : Option (Res × VH) :=
  match r with
  | some v => k (a.put o.dst v) h
  | none => none

noncomputable def fOp (rec : Rec) (k : Kont) (o : Oper) (a : VAct) (h : VH) (r : COp) : Option (Res × VH) :=
  match r with
  | .pure f => fPure k o a h (f a.eval)
  | .mem f => fMem rec k o a ((f a.eval).run h)

noncomputable def fWant (P : Program) (rec : Rec) (k : Kont) (o : Oper) (a : VAct) (h : VH) (w : Option Bool) : Option (Res × VH) :=
  match w with
  | some true => fOp rec k o a h (cop P o.op)
  | some false => k (a.put o.dst undef) h
  | none => none

noncomputable def fOps (P : Program) (rec : Rec) (ops : List Oper) (k : Kont) (l : List Oper) : Kont :=
  List.rec (motive := fun _ => Kont) k (fun o _ ih a h => fWant P rec ih o a h (vwanted ops a o)) l

noncomputable def fFin (k : Kont) (r : Option (VAct × VH)) : Option (Res × VH) :=
  match r with
  | some (a1, h1) => k a1.shut h1
  | none => none

noncomputable def fRegion (P : Program) (rec : Rec) (k : Kont) (ops : List Oper) (d : Bool) (a : VAct) (h : VH) : Option (Res × VH) :=
  match d with
  | false => fOps P rec ops (fun a h => k a.shut h) ops a h
  | true => fFin k (draws P rec ops a h)

noncomputable def fCond (kx ky : Kont) (a : VAct) (h : VH) (c : Value) : Option (Res × VH) :=
  match c with
  | .bool true => kx a h
  | .bool false => ky a h
  | _ => none

noncomputable def fBlock (id : Nat) (k : Kont) (r : Option (Res × VH)) : Option (Res × VH) :=
  match r with
  | some (.code (.exit i) a1, h1) => (match Nat.beq i id with
    | true => k a1 h1
    | false => some (.code (.exit i) a1, h1))
  | some (.code .normal a1, h1) => k a1 h1
  | r => r

noncomputable def fBack (k : Kont) (r : Option (Res × VH)) : Option (Res × VH) :=
  match r with
  | some (.code .normal a1, h1) => k a1 h1
  | r => r

noncomputable def fEnd : Kont := fun a h => some (.code .normal a, h)

noncomputable def fCode (P : Program) (rec : Rec) (c : Code) : Kont → Kont :=
  Code.rec (motive := fun _ => Kont → Kont)
    (fun k => k)
    (fun _ ops d k => fRegion P rec k ops.toList d)
    (fun _ _ ihx ihy k => ihx (ihy k))
    (fun c _ _ ihx ihy k a h => fCond (ihx k) (ihy k) a h (a.eval c))
    (fun id _ ihx k a h => fBlock id k (ihx fEnd a h))
    (fun x ihx k a h => fBack k (ihx (fun a h => rec (.code (.loop x) a) h) a h))
    (fun g ps assign body _ _ k a h => fBack k (vrange P rec g ps assign body a h))
    (fun id _ a h => some (.code (.exit id) a, h))
    (fun _ ihx k => ihx k)
    (fun _ k => k)
    (fun _ _ _ _ => none)
    (fun _ a h => some (.code .ret a, h))
    (fun _ _ _ _ => none) c

noncomputable def fstep (P : Program) (S : Sums) (rec : Rec) (t : Task) (h : VH) : Option (Res × VH) :=
  match t with
  | .code c a => fCode P rec c fEnd a h
  | .call f args => callK P rec f args h (S f)
  | .dcall f args => vcall P rec true f args h
  | .round l live tmps assign body => vround rec l live tmps assign body h

noncomputable def frun (P : Program) (S : Sums) (n : Nat) : Rec :=
  Nat.rec (motive := fun _ => Rec) (fun _ _ => none) (fun _ ih => fstep P S ih) n

end Go.Proofs.YtonkcdnpmemheaaGreat.Vm

namespace Go.Proofs.YtonkcdnpmemheaaGreat.Vm

noncomputable def crcTbl : Nat := 739192992287711479272199505450802174180944935565270117958735211195864883404034321072575759094604862722103638970562105654534965976895685875045062592379112792078985738769595739548904202597956689934399229134939183684703714920378025961387270778473281346239181994539903784708069763525514523240966634758967547723819948093640238732618841930738396489733218495472825776362786651876001733504161834172818020394346043168775838788836904094212573134772649703407841545716218812283123984658267516726659948613643534969466376019494666614718815429190684246327365394372519258139400530706807260825564948901732507176286259752944669944548605679086391305931301222988237278526118373278492307487107474296386730408839343753629123128283572704772544098648517013212824233746728729854273945055038163572363387039908578405517982904131040319505009390255243990278860523606265815895619710957563380635837315129012976704357344131429050367435482781212454439427280336740616644805562249867251859340971513883299426874200217165290071196282711253218164865174241416073419876796213293517950780480733835793334181716730049909888366296838117288969681076010175182486226749959458237712061794030512295298309798453151350168298336411933176330063767835252143862258384197256040876755067274410026075604127347481305827849130625987059819492849891529288490451730106428376839488665315100810248841715739596040091270955624355315201462555945279029196416991040143682248153287045556144390819759753283690710943841433520922330785319143598322120010359670046292912296136999474302691355293324886616216537430761212949134977443278613456733727644009057088654822989287437792990360527449046917776586498554113667460252688333953726837853077886002223252717428049737186417130969568838070377296274375688487884511950345697105344492065413654582468965021167618282726469469929715764674333614324035309623813703284835732759643444816186743644084768553800456975483023122915759126937036001171360984116527371042249105866775992680472790331893395027602898497596949565462107432141452181910127216554936352241472142685417685618824675396402282974391037184848625305334079832924861339728594832024687877422901193159812755254516361032103358958860399075665489958680801135040793967932263797765198140728704255468134266160630916650637156666977854355604551105352627939572551570066195951258251545213658746024110892771407706843609824354401912642345941057507434795836161327506684973593222243082074173577446865175872619707633030268690896528048779238513612740446475572226293760
/-- the table's entries -/
noncomputable def crcAt (i : Nat) : Nat := Nat.land (Nat.shiftRight crcTbl (Nat.mul 32 i)) 4294967295
noncomputable def crcStep (s n : Nat) : Nat := Nat.xor (Nat.shiftRight s 8) (crcAt (Nat.xor (Nat.mod s 256) n))

noncomputable def crcRow : List Value → Nat → Option Nat
  | [], s => some s
  | .int .u8 (.ofNat n) :: l, s => (match Nat.blt n 256 with
    | true => crcRow l (crcStep s n)
    | false => none)
  | _, _ => none

noncomputable def sumCrc (args : List Value) : HM Value :=
  match args with
  | [.slice a n _] => (match Nat.ble n 1048576 with
    | true => firstN 1 n (.slice a n 0) fun l => hopt (crcRow l 4294967295) fun s => .ret (.int .u32 (.ofNat (Nat.xor s 4294967295)))
    | false => .fail)
  | _ => .fail

noncomputable def cntCells (k : List Value → HM Value) (l : List Value) : HM Value :=
  match l with
  | [_, _, .slice b n _] => firstN 1 n (.slice b n 0) k
  | _ => .fail
/-- the counts behind a pointer -/
noncomputable def cntsOf (v : Value) (k : List Value → HM Value) : HM Value :=
  match v with
  | .pointer none => k []
  | .pointer (some a) => withCells a 3 (cntCells k)
  | _ => .fail
noncomputable def cntOk (a : Nat) (l : List Value) : Option (Nat × List Value) :=
  match Nat.blt a 65536 with
  | true => some (a, l)
  | false => none
noncomputable def cnt1 (l : List Value) : Option (Nat × List Value) :=
  match l with
  | [] => some (0, [])
  | x :: l => (match x with
    | .int _ (.ofNat b) => cntOk b l
    | _ => none)
noncomputable def z3 : List Value → List Value → List Value → Nat → Option Nat
  | [], _, _, c => some c
  | x :: l, m, k, c => match cnt1 (x :: l), cnt1 m, cnt1 k with
    | some (a, _), some (b, m1), some (d, k1) => z3 l m1 k1 (match a + b + d with | 0 => c + 1 | _ => c)
    | _, _, _ => none
noncomputable def freeEnd (blocks : Nat) (h n m : List Value) : HM Value :=
  match Nat.beq blocks (len n) && Nat.ble blocks 1048576 && Nat.ble (len h) 1048576 && Nat.ble (len m) 1048576 with
  | true => hopt (z3 (drp n 2) (drp h 2) (drp m 2) 0) fun c => .ret (.int .i64 (.ofNat c))
  | false => .fail
noncomputable def freeOf (l : List Value) : HM Value :=
  match l with
  | [_, _, _, .int .i64 (.ofNat blocks), _, _, _, held, now, mark] => cntsOf held fun h => cntsOf now fun n => cntsOf mark fun m => freeEnd blocks h n m
  | _ => .fail
noncomputable def sumFree (args : List Value) : HM Value :=
  match args with
  | [.pointer (some a)] => withCells a 10 freeOf
  | _ => .fail

/-- are the stamps, and the keys, different -/
noncomputable def bornOk (c : Nat) : List MapEntry → List Nat → Bool
  | [], _ => true
  | e :: es, l => match Nat.blt e.born c, memNat e.born l with
    | true, false => bornOk c es (e.born :: l)
    | _, _ => false
noncomputable def keysOk : List MapEntry → List Nat → Bool
  | [], _ => true
  | e :: es, l => match e.key with
    | .int .i64 (.ofNat c) => (match memNat c l with
      | true => false
      | false => keysOk es (c :: l))
    | _ => false

noncomputable def rowPut (r : List Value → HM Value) (out : List Value) (c : Nat) (x : List Value) : HM Value :=
  match oneCells x with
  | true => hopt (putAt out (Nat.mul 3 c) x) r
  | false => .fail

/-- each column's cell into its place -/
noncomputable def mapRow (cols i : Nat) (k : List Value → HM Value) : List MapEntry → List Value → HM Value
  | [], out => k out
  | e :: es, out => match e.key, e.val with
    | .int .i64 (.ofNat c), .slice (some ⟨b, off, none⟩) n _ => (match Nat.blt i n && Nat.blt c cols with
      | true => withCells ⟨b, Nat.add off (Nat.mul 3 i), none⟩ 3 (rowPut (mapRow cols i k es) out c)
      | false => .fail)
    | _, _ => .fail

noncomputable def rowNew (elemT cols : Nat) (out : List Value) : HM Value := newRow elemT out fun n => .ret (.slice (some ⟨n, 0, none⟩) cols cols)

noncomputable def rowMap (elemT cols i : Nat) (es : List MapEntry) (c : Nat) : HM Value :=
  match bornOk c es [] && keysOk es [] with
  | true => mapRow cols i (rowNew elemT cols) es (rep cols [.int .i64 0, .int .i64 0, .string ⟨#[]⟩] [])
  | false => .fail

noncomputable def rowOf (elemT cols i : Nat) (l : List Value) : HM Value :=
  match l with
  | [.map (some r)] => .rd r (asMap (rowMap elemT cols i))
  | _ => .fail

noncomputable def sumRow (elemT : Nat) (args : List Value) : HM Value :=
  match args with
  | [.pointer (some a), .int .i64 (.ofNat cols), .int .i64 (.ofNat i)] => (match Nat.ble cols 65536 with
    | true => withCells a 1 (rowOf elemT cols i)
    | false => .fail)
  | _ => .fail

noncomputable def isTrue : Option (Res × VH) → Bool
  | some (.val (.bool true), _) => true
  | _ => false
noncomputable def isSome : Option (Res × VH) → Bool
  | some (.val _, _) => true
  | _ => false
end Go.Proofs.YtonkcdnpmemheaaGreat.Vm

