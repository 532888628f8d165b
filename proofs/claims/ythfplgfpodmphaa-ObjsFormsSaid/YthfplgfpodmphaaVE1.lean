/- The evaluator by value: values, operations, code. -/
import Derived.Calls
namespace Go.Proofs.Ythfplgfpodmphaa.VE
/-- What is known of a slice's capacity: nothing; all; all, and that nobody else has its row. -/
inductive Cap where
  | any
  | is (n : Nat)
  | mine (n : Nat)
  deriving DecidableEq, Inhabited
/-- Values by value: a slice is its rows (each element its cells), or a part of a row of one's own. -/
inductive PV where
  | lit (v : Value)
  | agg (l : List PV)
  | tup (l : List PV)
  | sl (z : Nat) (r : List (List PV)) (c : Cap)
  | rf (g o n : Nat) (c : Option Nat)
  | ptr (g i o : Nat)
  | rp (r : List PV) (o : Nat)
  | fn (f : Fn) (first cap : List PV)
  deriving Inhabited
/-- What is made: rows; z cells each; the first lw of them others may hold, too: nobody writes them any more. -/
structure Ent where
  z : Nat
  r : List (List PV)
  lw : Nat
  deriving Inhabited
abbrev Hp := List (Nat × Ent)
structure St where
  heap : Hp
  next : Nat
  deriving Inhabited
def get : Hp → Nat → Option Ent
  | [], _ => none
  | (k, e) :: r, g => if k = g then some e else get r g
def del : Hp → Nat → Hp
  | [], _ => []
  | (k, e) :: r, g => if k = g then del r g else (k, e) :: del r g
def upd : Hp → Nat → Ent → Hp
  | [], _, _ => []
  | (k, x) :: r, g, e => if k = g then (k, e) :: r else (k, x) :: upd r g e
/-- One more thing that is made: its name, and the state behind it. -/
def St.new (s : St) (e : Ent) : St := ⟨(s.next, e) :: s.heap, s.next + 1⟩
def undefV : PV := .lit (.tuple #[])
/-- A run that asks nothing of memory. -/
def litRun {α : Type} (P : Program) : Sem α → Option α
  | .pure a => some a
  | .program k => litRun P (k P)
  | _ => none
def litsOf : List PV → Option (List Value)
  | [] => some []
  | .lit v :: r => (litsOf r).map (v :: ·)
  | _ => none
def toLit : PV → Option Value
  | .lit v => some v
  | .agg l => (litsOf l).map fun vs => .agg vs.toArray
  | _ => none
/-- A value of one cell that is known: nil is an empty slice. -/
def ofCell : Value → PV
  | .slice none 0 0 => .sl 0 [] (.is 0)
  | v => .lit v
/-- What may lie in one cell. -/
def plainV : Value → Bool
  | .agg _ | .tuple _ => false
  | _ => true
def plainP : PV → Bool
  | .lit v => plainV v
  | .agg _ | .tup _ => false
  | _ => true
def ofVal : Value → PV
  | .agg vs => if vs.toList.all plainV then .agg (vs.toList.map ofCell) else .lit (.agg vs)
  | v => ofCell v
def Cap.get : Cap → Option Nat
  | .any => none
  | .is n | .mine n => some n
def leaves : PV → Option (List PV)
  | .agg l => some l
  | v => if plainP v then some [v] else none
def isAggD : TypeDesc → Bool
  | .struct _ | .array _ _ => true
  | _ => false
/-- The value of a type that lies in cells from o. -/
def mk (P : Program) (t : TypeId) (l : List PV) (o : Nat) : Option PV :=
  match P.underlying t with
  | none => none
  | some d => if isAggD d then (if o + P.cellsOf t ≤ l.length then some (.agg ((l.drop o).take (P.cellsOf t))) else none) else l[o]?
def zeroL (P : Program) (t : TypeId) : Option (List PV) := ((P.info? t).bind (·.zero)).bind fun v => leaves (ofVal v)
def loadP (P : Program) (t : TypeId) (h : Hp) : PV → Option PV
  | .ptr g i o => match get h g with
    | some e => match e.r[i]? with
      | some l => mk P t l o
      | none => none
    | none => none
  | .rp l o => mk P t l o
  | _ => none
def setL (l : List PV) (o : Nat) (vs : List PV) : List PV := l.take o ++ vs ++ l.drop (o + vs.length)
def storeP (P : Program) (t : TypeId) (h : Hp) (p v : PV) : Option Hp :=
  match p with
  | .ptr g i o => match get h g with
    | some e => match e.r[i]? with
      | some l => match leaves v with
        | some vs => if e.lw ≤ i ∧ vs.length = P.cellsOf t ∧ P.cellsOf t ≠ 0 ∧ o + vs.length ≤ l.length then some (upd h g ⟨e.z, e.r.set i (setL l o vs), e.lw⟩) else none
        | none => none
      | none => none
    | none => none
  | _ => none
def asI : PV → Option Int
  | .lit (.int _ n) => some n
  | _ => none
def part (e : Ent) (o n : Nat) : Option (List (List PV)) := if o + n ≤ e.r.length then some ((e.r.drop o).take n) else none
def byteRow (b : UInt8) : List PV := [.lit (.int .u8 b.toNat)]
/-- The rows of a slice, of a string. -/
def rowsOf (h : Hp) (z : Nat) : PV → Option (List (List PV))
  | .sl y r _ => if r = [] ∨ y = z then some r else none
  | .lit (.string s) => if z = 1 then some (s.data.toList.map byteRow) else none
  | .lit (.slice (some _) 0 _) => some []
  | .rf g o n _ => match get h g with
    | some e => if e.z = z then part e o n else none
    | none => none
  | _ => none
def fillP (place : Nat → Option (Nat × Nat)) (cells : List PV) : List (Nat × PV) → Option (List PV)
  | [] => some cells
  | (i, v) :: rest => match place i with
    | none => none
    | some (off, size) => match leaves v with
      | some vs => if vs.length ≠ size ∨ off + vs.length > cells.length then none else fillP place (setL cells off vs) rest
      | none => none
def chunk (sz : Nat) : Nat → List PV → List (List PV)
  | 0, _ => []
  | n + 1, l => l.take sz :: chunk sz n (l.drop sz)
def lenP : PV → Option Nat
  | .sl _ r _ => some r.length
  | .rf _ _ n _ => some n
  | .lit (.string s) => some s.size
  | _ => none
def bnd (x : Option PV) (d : Nat) (hi : Nat) : Option Nat :=
  match x with
  | none => some d
  | some v => match asI v with
    | some i => if 0 ≤ i ∧ i ≤ hi then some i.toNat else none
    | none => none
/-- The bounds of s[l:h:m], of a length and a capacity. -/
def bnds (len cap : Nat) (lo hi mx : Option PV) : Option (Nat × Nat × Nat) :=
  if mx.isSome && hi.isNone then none else
  match bnd mx cap cap with
  | none => none
  | some m => match bnd hi len m with
    | none => none
    | some j => match bnd lo 0 j with
      | none => none
      | some i => some (i, j, m)
def capAt (c : Option Nat) (mx : Option PV) (i m : Nat) : Option Nat := match mx with | some _ => some (m - i) | none => c.map (· - i)
def Cap.of : Option Nat → Cap
  | none => .any
  | some n => .is n
def sliceP (h : Hp) (z : Nat) (x : PV) (lo hi mx : Option PV) : Option PV :=
  match x with
  | .sl y r c => match bnds r.length (c.get.getD r.length) lo hi mx with
    | some (i, j, m) => if j ≤ r.length ∧ (r = [] ∨ y = z) then some (.sl y ((r.take j).drop i) (.of (capAt c.get mx i m))) else none
    | none => none
  | .rf g o n c => match get h g with
    | some e => match bnds n (c.getD (e.r.length - o)) lo hi mx with
      | some (i, j, m) => if o + j ≤ e.r.length ∧ o + n ≤ e.r.length ∧ e.z = z then some (.rf g (o + i) (j - i) (capAt c mx i m)) else none
      | none => none
    | none => none
  | _ => none
def isRow : PV → Bool
  | .sl _ _ _ | .rf _ _ _ _ => true
  | _ => false
/-- As much as may be appended. -/
def room (n : Nat) : Bool := n ≤ 2 ^ 30
def appendP (s : St) (z : Nat) (x : PV) (ys : List (List PV)) : Option (PV × St) :=
  if ys = [] then (if isRow x then some (x, s) else none) else
  match x with
  | .sl y r c => match c.get with
    | none => none
    | some c => if r.length + ys.length ≤ c ∨ ¬ (r = [] ∨ y = z) ∨ !room (r.length + ys.length) then none else some (.rf s.next 0 (r.length + ys.length) none, s.new ⟨z, r ++ ys, 0⟩)
  | .rf g o n c => match get s.heap g with
    | some e => match part e o n with
      | some r =>
        if !room (n + ys.length) ∨ e.z ≠ z then none else
        match c with
        | some c =>
          if n + ys.length ≤ c then
            (if e.lw ≤ o + n ∧ o + n + ys.length ≤ e.r.length then some (.rf g o (n + ys.length) (some c), ⟨upd s.heap g ⟨z, e.r.take (o + n) ++ ys ++ e.r.drop (o + n + ys.length), e.lw⟩, s.next⟩) else none)
          else some (.rf s.next 0 (n + ys.length) none, s.new ⟨z, r ++ ys, 0⟩)
        | none =>
          if o + n + ys.length ≤ e.r.length then
            (if e.lw ≤ o + n then some (.rf g o (n + ys.length) none, ⟨upd s.heap g ⟨z, e.r.take (o + n) ++ ys ++ e.r.drop (o + n + ys.length), e.lw⟩, s.next⟩) else none)
          else if e.lw ≤ o + n then some (.rf s.next 0 (n + ys.length) none, (⟨del s.heap g, s.next⟩ : St).new ⟨z, r ++ ys, e.lw - o⟩) else none
      | none => none
    | none => none
  | _ => none
/-- What leaves a function: by value alone. -/
def allSome {α β : Type} (f : α → Option β) : List α → Option (List β)
  | [] => some []
  | x :: r => match f x, allSome f r with | some a, some b => some (a :: b) | _, _ => none
def strip (h : Hp) : Nat → PV → Option PV
  | 0, _ => none
  | d + 1, v => match v with
    | .lit v => some (.lit v)
    | .agg l => (allSome (strip h d) l).map .agg
    | .tup l => (allSome (strip h d) l).map .tup
    | .sl z r _ => (allSome (allSome (strip h d)) r).map (.sl z · .any)
    | .rf g o n _ => match get h g with
      | some e => match part e o n with
        | some r => (allSome (allSome (strip h d)) r).map (.sl e.z · .any)
        | none => none
      | none => none
    | .fn f a b => match allSome (strip h d) a, allSome (strip h d) b with | some a, some b => some (.fn f a b) | _, _ => none
    | _ => none
def depth : Nat := 12
/-- What comes back as rows of one's own: the first of what is told. -/
def ownR (h : Hp) (s : St) : PV → Option (PV × St)
  | .rf g o n c => match get h g with
    | some e => match part e o n with
      | some r => if e.lw ≤ o then match allSome (allSome (strip (del h g) depth)) r with
          | some rs => some (.rf s.next 0 n c, s.new ⟨e.z, rs, 0⟩)
          | none => none
        else none
      | none => none
    | none => none
  | .sl z r c => (allSome (allSome (strip h depth)) r).map fun r => (.sl z r (.of c.get), s)
  | .tup (.rf g o n c :: l) => match get h g with
    | some e => match part e o n with
      | some r => if e.lw ≤ o then match allSome (allSome (strip (del h g) depth)) r, allSome (strip (del h g) depth) l with
          | some rs, some l => some (.tup (.rf s.next 0 n c :: l), s.new ⟨e.z, rs, 0⟩)
          | _, _ => none
        else none
      | none => none
    | none => none
  | .tup (.sl z r c :: l) => match allSome (allSome (strip h depth)) r, allSome (strip h depth) l with
    | some r, some l => some (.tup (.sl z r (.of c.get) :: l), s)
    | _, _ => none
  | v => (strip h depth v).map (·, s)
def isLit : PV → Bool
  | .lit _ => true
  | _ => false
def scalar : PV → Bool
  | .lit _ => true
  | .tup l => l.all isLit
  | _ => false
/-- An argument as who is called sees it: by value; what a pointer shows can be looked at alone. -/
def view (h : Hp) : Nat → PV → Option PV
  | 0, _ => none
  | d + 1, v => match v with
    | .lit v => some (.lit v)
    | .agg l => (allSome (view h d) l).map .agg
    | .tup l => (allSome (view h d) l).map .tup
    | .sl z r _ => (allSome (allSome (view h d)) r).map (.sl z · .any)
    | .rf g o n _ => match get h g with
      | some e => match part e o n with
        | some r => (allSome (allSome (view h d)) r).map (.sl e.z · .any)
        | none => none
      | none => none
    | .ptr g i o => match get h g with
      | some e => match e.r[i]? with
        | some l => (allSome (view h d) l).map (.rp · o)
        | none => none
      | none => none
    | .rp l o => (allSome (view h d) l).map (.rp · o)
    | .fn f a b => match allSome (view h d) a, allSome (view h d) b with | some a, some b => some (.fn f a b) | _, _ => none
/-- The names that a value shows. -/
def names (h : Hp) : Nat → PV → List Nat
  | 0, _ => []
  | d + 1, v => match v with
    | .lit _ => []
    | .agg l | .tup l | .rp l _ => l.flatMap (names h d)
    | .sl _ r _ => r.flatMap fun l => l.flatMap (names h d)
    | .rf g _ _ _ | .ptr g _ _ => g :: (match get h g with | some e => e.r.flatMap fun l => l.flatMap (names h d) | none => [])
    | .fn _ a b => a.flatMap (names h d) ++ b.flatMap (names h d)
/-- Rows that somebody else holds now, too. -/
def freezeN (h : Hp) (g : Nat) : Hp := match get h g with | some e => upd h g ⟨e.z, e.r, e.r.length⟩ | none => h
/-- What the evaluator is told of a program. -/
structure Cfg where
  P : Program
  pure_ : Nat → Bool
  own : Nat → Nat → Nat → Bool
  wins : Nat → Nat → Option (List (Nat × Nat))
  ext : Nat → Option (Hp → List PV → Option PV)
  clone : Nat → Option TypeId
def evArg (tmps : List PV) : Operand → PV
  | .tmp t => tmps.getD t undefV
  | .const v => ofVal v
  | .global g => .lit (.pointer (some ⟨g, 0, none⟩))
  | .func f => .fn (.func f) [] []
/-- What is held against nil and is none for sure. -/
def someX : Operand → Option TypeDesc → PV → Bool
  | .const (.slice none 0 0), some (.slice _), .sl _ (_ :: _) _ | .const (.slice none 0 0), some (.slice _), .rf _ _ _ _ => true
  | .const (.pointer none), some (.pointer _), .ptr _ _ _ => true
  | .const .nilFunc, some (.func _ _ _), .fn _ _ _ => true
  | _, _, _ => false
/-- What is known of the right side. -/
def litY : Operand → PV → Option Value
  | .const v, _ => some v
  | _, y => toLit y
def binP (P : Program) (op : BinOp) (t : TypeId) (xo yo : Operand) (x y : PV) : Option PV :=
  match toLit x, litY yo y with
  | some a, some b => (litRun P ((eqGuard op t xo yo a b).bind fun _ => binOp op t a b)).map ofVal
  | _, _ => if someX yo (P.underlying t) x then (match op with
      | .eql => some (.lit (.bool false))
      | .neq => some (.lit (.bool true))
      | _ => none) else none
def litOp (P : Program) (f : Value → Sem Value) (x : PV) : Option PV :=
  match toLit x with
  | some v => (litRun P (f v)).map ofVal
  | none => none
def byteOfRow : List PV → Option UInt8
  | [.lit (.int .u8 n)] => if 0 ≤ n ∧ n < 256 then some n.toNat.toUInt8 else none
  | _ => none
def bytesOf (h : Hp) (x : PV) : Option ByteArray :=
  match rowsOf h 1 x with
  | some r => (allSome byteOfRow r).map fun l => ⟨l.toArray⟩
  | none => none
def convP (P : Program) (h : Hp) (src dst : TypeId) (x : PV) : Option PV :=
  match P.underlying src, P.underlying dst, x with
  | some (.slice e), some .string, x => match P.underlying e with
    | some (.int .u8) => if isRow x then (bytesOf h x).map fun b => .lit (.string b) else none
    | _ => none
  | some .string, some (.slice e), .lit (.string s) => match P.underlying e with
    | some (.int .u8) => some (.sl 1 (s.data.toList.map byteRow) .any)
    | _ => none
  | some (.slice e), some (.slice _), .sl z r (.mine n) => match src == dst, P.underlying e with
    | true, some (.int .u8) => some (.sl z r (.is n))
    | _, _ => none
  | _, _, x => litOp P (convert src dst) x
def fieldOff (P : Program) (s : TypeId) (f : Nat) : Option (Nat × TypeId) :=
  match P.underlying s with
  | some (.struct fs) => match fs[f]? with
    | some d => if P.cellsOf d.type = 0 then none else some (d.offset, d.type)
    | none => none
  | _ => none
def idx (x : PV) (n : Nat) : Option Nat :=
  match asI x with
  | some i => if 0 ≤ i ∧ i < n then some i.toNat else none
  | none => none
def addrAdd (x : PV) (d : Nat) : Option PV :=
  match x with
  | .ptr g i o => some (.ptr g i (o + d))
  | .rp l o => some (.rp l (o + d))
  | _ => none
def indexAddrP (P : Program) (h : Hp) (t : TypeId) (x ix : PV) : Option PV :=
  match P.underlying t with
  | some (.array n e) => match idx ix n with
    | none => none
    | some i => if P.cellsOf e = 0 then none else addrAdd x (i * P.cellsOf e)
  | some (.slice e) => if P.cellsOf e = 0 then none else match x with
    | .sl z r _ => match idx ix r.length with
      | some i => if z = P.cellsOf e then (r[i]?).map (.rp · 0) else none
      | none => none
    | .rf g o n _ => match idx ix n, get h g with
      | some i, some x => if x.z = P.cellsOf e then some (.ptr g (o + i) 0) else none
      | _, _ => none
    | _ => none
  | _ => none
def litArgs (ρ : Operand → PV) : Option Operand → Option (Option Value)
  | none => some none
  | some x => match ρ x with | .lit v => some (some v) | _ => none
def partsOf (ρ : Operand → PV) (parts : Array (Nat × Operand)) : List (Nat × PV) := parts.toList.map fun p => (p.1, ρ p.2)
/-- Where the parts of a struct, of an array lie. -/
def placesOf (P : Program) (t : TypeId) : Option (Nat → Option (Nat × Nat)) :=
  match P.underlying t with
  | some (.array _ e) => (P.info? e).map fun ie i => some (i * ie.size, ie.size)
  | some (.struct fs) => (fs.toList.mapM (fun f => (P.info? f.type).map fun i => (f.offset, i.size))).map fun l => (l.toArray[·]?)
  | _ => none
/-- Operations that turn nothing that was made. -/
def quiet (P : Program) (h : Hp) (ρ : Operand → PV) (o : Oper) : Option PV :=
  match o.op with
  | .move x | .assign x => some (ρ x)
  | .pick c a b => match ρ c with | .lit (.bool q) => some (if q then ρ a else ρ b) | _ => none
  | .build t parts => match zeroL P t, placesOf P t with
    | some z, some f => (fillP f z (partsOf ρ parts)).map .agg
    | _, _ => none
  | .buildSlice t n parts => match P.underlying t with
    | some (.slice e) => match zeroL P e with
      | some z =>
        if n * P.cellsOf e > 2 ^ 24 ∨ P.cellsOf e = 0 ∨ z.length ≠ P.cellsOf e ∨ (n = 0 ∧ parts.size ≠ 0) then none else
        (fillP (fun i => some (i * P.cellsOf e, P.cellsOf e)) ((List.replicate n z).flatten) (partsOf ρ parts)).map fun l => .sl (P.cellsOf e) (chunk (P.cellsOf e) n l) (.mine n)
      | none => none
    | _ => none
  | .load t a => loadP P t h (ρ a)
  | .nilCheck x => match ρ x with
    | .ptr g i k => some (.ptr g i k)
    | .rp l k => some (.rp l k)
    | .fn (.func f) a b => some (.fn (.func f) a b)
    | _ => none
  | .binOp op t x y _ => binP P op t x y (ρ x) (ρ y)
  | .unOp op _ x => litOp P (Op.unary op) (ρ x)
  | .convert s d x => convP P h s d (ρ x)
  | .makeFunc f a b => some (.fn f (a.toList.map ρ) (b.toList.map ρ))
  | .slice t x lo hi mx => match ρ x with
    | .lit v => match litArgs ρ lo, litArgs ρ hi, litArgs ρ mx with
      | some a, some b, some c => (litRun P (Instr.sliceAt t v a b c)).map ofVal
      | _, _, _ => none
    | v => match P.underlying t with
      | some (.slice e) => if P.cellsOf e = 0 then none else sliceP h (P.cellsOf e) v (lo.map ρ) (hi.map ρ) (mx.map ρ)
      | _ => none
  | .fieldAddr s x f => match fieldOff P s f with
    | some (d, _) => addrAdd (ρ x) d
    | none => none
  | .field s x f => match fieldOff P s f, ρ x with
    | some (d, t), .agg l => mk P t l d
    | _, _ => none
  | .indexAddr t x i => indexAddrP P h t (ρ x) (ρ i)
  | .index t x i => match ρ x with
    | .lit v => match ρ i with | .lit w => (litRun P (Instr.index t v w)).map ofVal | _ => none
    | .agg l => match P.underlying t with
      | some (.array n e) => match idx (ρ i) n with | some k => mk P e l (k * P.cellsOf e) | none => none
      | _ => none
    | _ => none
  | .extract x i => match ρ x with | .tup l => l[i]? | _ => none
  | .makeSlice t n c => match P.underlying t, asI (ρ n), asI (ρ c) with
    | some (.slice e), some n, some c => match zeroL P e with
      | some z => if 0 ≤ n ∧ n ≤ c ∧ room c.toNat ∧ z.length = P.cellsOf e ∧ P.cellsOf e ≠ 0 ∧ P.bytesOf e ≤ 2 ^ 16 then some (.sl (P.cellsOf e) (List.replicate n.toNat z) (.is c.toNat)) else none
      | none => none
    | _, _, _ => none
  | .call c => match c.callee with
    | .builtin .len => match c.args.toList.map ρ with
      | [x] => match (c.argTypes[0]?).bind P.underlying with
        | some (.slice _) => if isRow x then (lenP x).map fun (n : Nat) => .lit (goInt n) else none
        | some .string => match x with | .lit (.string s) => some (.lit (goInt s.size)) | _ => none
        | some (.array n _) => some (.lit (goInt n))
        | _ => none
      | _ => none
    | .builtin .cap => match c.args.toList.map ρ with
      | [.sl _ _ k] => match (c.argTypes[0]?).bind P.underlying with
        | some (.slice _) => k.get.map fun (n : Nat) => .lit (goInt n)
        | _ => none
      | [.rf _ _ _ k] => match (c.argTypes[0]?).bind P.underlying with
        | some (.slice _) => k.map fun (n : Nat) => .lit (goInt n)
        | _ => none
      | _ => none
    | .builtin .min => (litsOf (c.args.toList.map ρ)).bind fun vs => (litRun P (Builtin.min_ c.argTypes o.type vs.toArray)).map ofVal
    | .builtin .max => (litsOf (c.args.toList.map ρ)).bind fun vs => (litRun P (Builtin.max_ c.argTypes o.type vs.toArray)).map ofVal
    | _ => none
  | _ => none
def quietB : Builtin → Bool
  | .len | .cap | .min | .max => true
  | _ => false
/-- Does it turn something that was made? -/
def isEff (own : Bool) : Op → Bool
  | .store .. | .box .. => true
  | .makeSlice .. => own
  | .call c => match c.callee with | .builtin b => !quietB b | _ => true
  | _ => false
def isAlloc : Op → Bool
  | .alloc _ => true
  | _ => false
def yieldedP (ops : List Oper) (tmps : List PV) (j : Nat) : Option Bool :=
  match ((ops[j]?).bind (·.dst)).bind (tmps[·]?) with
  | some (.lit (.bool b)) => some b
  | _ => none
def putT (tmps : List PV) (d : Option Tmp) (v : PV) : List PV := match d with | some t => tmps.set t v | none => tmps
inductive Out where
  | normal | ret | exit (id : Nat)
  deriving Inhabited
abbrev CallT := Nat → St → List PV → Bool → Option (PV × St)
structure Fns where
  call : CallT
  loop : Nat → Code → List PV → St → Option (Out × List PV × St)
/-- slices.Clone -/
def cloneP (s : St) (z : Nat) : List PV → Option (PV × St)
  | [x] => if !isRow x then none else match rowsOf s.heap z x with
    | some [] => some (.sl 0 [] (.is 0), s)
    | some r => if room r.length then some (.rf s.next 0 r.length none, s.new ⟨z, r, 0⟩) else none
    | none => none
  | _ => none
/-- append, copy, clear. -/
def appStep (P : Program) (ts : Array TypeId) (x y : PV) (s : St) : Option (PV × St) :=
  match (ts[0]?).bind P.underlying with
  | some (.slice e) =>
    if P.cellsOf e = 0 ∨ P.bytesOf e > 2 ^ 16 then none else
    match zeroL P e with
    | none => none
    | some z => if z.length ≠ P.cellsOf e then none else
      match (ts[1]?).bind P.underlying with
      | some (.int _) => match asI y with
        | some n => if 0 ≤ n ∧ room n.toNat then appendP s (P.cellsOf e) x (List.replicate n.toNat z) else none
        | none => none
      | some (.slice _) | some .string => match rowsOf s.heap (P.cellsOf e) y with
        | some ys => appendP s (P.cellsOf e) x ys
        | none => none
      | _ => none
  | _ => none
def copyStep (P : Program) (ts : Array TypeId) (x y : PV) (s : St) : Option (PV × St) :=
  match x with
  | .rf g o n _ => match get s.heap g, (ts[0]?).bind P.underlying with
    | some e, some (.slice t) => match rowsOf s.heap e.z y with
      | some ys => if e.lw ≤ o ∧ o + n ≤ e.r.length ∧ e.z = P.cellsOf t ∧ P.cellsOf t ≠ 0 then
          some (.lit (goInt (min n ys.length : Nat)), ⟨upd s.heap g ⟨e.z, e.r.take o ++ ys.take (min n ys.length) ++ e.r.drop (o + min n ys.length), e.lw⟩, s.next⟩) else none
      | none => none
    | _, _ => none
  | _ => none
def clearStep (P : Program) (ts : Array TypeId) (x : PV) (s : St) : Option (PV × St) :=
  match x with
  | .rf g o n _ => match get s.heap g, (ts[0]?).bind P.underlying with
    | some e, some (.slice t) => match zeroL P t with
      | some z => if e.lw ≤ o ∧ o + n ≤ e.r.length ∧ z.length = P.cellsOf t ∧ e.z = P.cellsOf t then
          some (undefV, ⟨upd s.heap g ⟨e.z, e.r.take o ++ List.replicate n z ++ e.r.drop (o + n), e.lw⟩, s.next⟩) else none
      | none => none
    | _, _ => none
  | _ => none
def builtinStep (P : Program) (b : Builtin) (ts : Array TypeId) (args : List PV) (s : St) : Option (PV × St) :=
  match b, args with
  | .append, [x, y] => appStep P ts x y s
  | .copy, [x, y] => copyStep P ts x y s
  | .clear, [x] => clearStep P ts x s
  | _, _ => none
def makeStep (P : Program) (t : TypeId) (n c : PV) (s : St) : Option (PV × St) :=
  match P.underlying t, asI n, asI c with
  | some (.slice e), some n, some c => match zeroL P e with
    | some z => if 0 ≤ n ∧ n ≤ c ∧ room c.toNat ∧ z.length = P.cellsOf e ∧ P.cellsOf e ≠ 0 ∧ P.bytesOf e ≤ 2 ^ 16 then some (.rf s.next 0 n.toNat (some c.toNat), s.new ⟨P.cellsOf e, List.replicate c.toNat z, 0⟩) else none
    | none => none
  | _, _, _ => none
/-- An operation that turns what was made, and is no call. -/
def effP (P : Program) (ρ : Operand → PV) (s : St) : Op → Option (PV × St)
  | .box _ x => (leaves (ρ x)).map fun l => (.ptr s.next 0 0, s.new ⟨l.length, [l], 0⟩)
  | .store t a x => (storeP P t s.heap (ρ a) (ρ x)).map fun h => (undefV, ⟨h, s.next⟩)
  | .makeSlice t n c => makeStep P t (ρ n) (ρ c) s
  | .call c => match c.callee with
    | .builtin b => builtinStep P b c.argTypes (c.args.toList.map ρ) s
    | _ => none
  | _ => none
def calleeOf : Op → Option (Operand × Array Operand)
  | .call c => match c.callee with
    | .value x => some (x, c.args)
    | _ => none
  | _ => none
/-- One operation. -/
def step (C : Cfg) (call : CallT) (f id i : Nat) (o : Oper) (tmps : List PV) (s : St) : Option (PV × St) :=
  match o.op with
  | .alloc t => (zeroL C.P t).bind fun z => if z.length = C.P.cellsOf t then some (.ptr s.next 0 0, s.new ⟨z.length, [z], 0⟩) else none
  | op =>
    if isEff (C.own f id i) op then
      match calleeOf op with
      | some (x, args) => match evArg tmps x with
        | .fn (.func g) first cap => call g s (first ++ args.toList.map (evArg tmps) ++ cap) (C.own f id i)
        | _ => none
      | none => effP C.P (evArg tmps) s op
    else (quiet C.P s.heap (evArg tmps) o).map (·, s)
def ops1 (C : Cfg) (call : CallT) (f id : Nat) (ops : List Oper) : Nat → List Oper → List PV → St → Option (List PV × St)
  | _, [], tmps, s => some (tmps, s)
  | i, o :: r, tmps, s =>
    if Region.wanted o (yieldedP ops tmps) then
      match step C call f id i o tmps s with
      | some (v, s) => ops1 C call f id ops (i + 1) r (putT tmps o.dst v) s
      | none => none
    else ops1 C call f id ops (i + 1) r (putT tmps o.dst undefV) s
/-- What is made ahead of a region whose order is open. -/
def preAll (C : Cfg) : List Oper → St → Option St
  | [], s => some s
  | o :: r, s => match o.op with
    | .alloc t => match zeroL C.P t with
      | some z => if z.length = C.P.cellsOf t then preAll C r (s.new ⟨z.length, [z], 0⟩) else none
      | none => none
    | _ => preAll C r s
structure Seen where
  i : Nat
  o : Oper
  tmps : List PV
  v : PV
/-- A region whose order is open: told in the order of its text; kept: what was seen, and the states of what was made. base: the name of the next thing that was made ahead. -/
def ops2 (C : Cfg) (call : CallT) (f id : Nat) (ops : List Oper) : Nat → Nat → List Oper → List PV → St → List Hp → List Seen → Option (List PV × St × List Hp × List Seen)
  | _, _, [], tmps, s, hs, se => some (tmps, s, hs, se)
  | i, b, o :: r, tmps, s, hs, se =>
    let w := Region.wanted o (yieldedP ops tmps)
    if isAlloc o.op then ops2 C call f id ops (i + 1) (b + 1) r (putT tmps o.dst (if w then .ptr b 0 0 else undefV)) s hs se
    else if isEff (C.own f id i) o.op then
      if w then match step C call f id i o tmps s with
        | some (v, s') => ops2 C call f id ops (i + 1) b r (putT tmps o.dst v) s' (s'.heap :: hs) se
        | none => none
      else ops2 C call f id ops (i + 1) b r (putT tmps o.dst undefV) s (s.heap :: hs) se
    else if w then match quiet C.P s.heap (evArg tmps) o with
      | some v => ops2 C call f id ops (i + 1) b r (putT tmps o.dst v) s hs (⟨i, o, tmps, v⟩ :: se)
      | none => none
    else ops2 C call f id ops (i + 1) b r (putT tmps o.dst undefV) s hs se
def vEq : Value → Value → Bool
  | .bool a, .bool b => a == b
  | .int k a, .int l b => k == l && a == b
  | .string a, .string b => a.data.toList == b.data.toList
  | .pointer none, .pointer none => true
  | .slice none a b, .slice none c d => a == c && b == d
  | .nilFunc, .nilFunc => true
  | .tuple a, .tuple b => a.size == 0 && b.size == 0
  | _, _ => false
def allEq {α : Type} (f : α → α → Bool) : List α → List α → Bool
  | [], [] => true
  | x :: r, y :: s => f x y && allEq f r s
  | _, _ => false
def pEq : Nat → PV → PV → Bool
  | 0, _, _ => false
  | d + 1, x, y => match x, y with
    | .lit a, .lit b => vEq a b
    | .agg a, .agg b => allEq (pEq d) a b
    | .tup a, .tup b => allEq (pEq d) a b
    | .sl z a c, .sl y b e => z == y && allEq (allEq (pEq d)) a b && c == e
    | .rf g o n c, .rf g' o' n' c' => g == g' && o == o' && n == n' && c == c'
    | .ptr g i o, .ptr g' i' o' => g == g' && i == i' && o == o'
    | .rp a o, .rp b o' => allEq (pEq d) a b && o == o'
    | .fn f a b, .fn f' a' b' => f == f' && allEq (pEq d) a a' && allEq (pEq d) b b'
    | _, _ => false
/-- What was seen is the same at each state of what was made at which it may be looked at. -/
def seenOk (P : Program) (ws : List (Nat × Nat)) (hs : List Hp) (x : Seen) : Bool :=
  match ws[x.i]? with
  | some (lo, hi) => ((hs.take (hi + 1)).drop lo).all fun h => match quiet P h (evArg x.tmps) x.o with
    | some v => pEq depth v x.v
    | none => false
  | none => false
def drawn (C : Cfg) (call : CallT) (f id : Nat) (ops : List Oper) (ws : List (Nat × Nat)) (tmps : List PV) (s : St) : Option (List PV × St) :=
  match preAll C ops s with
  | some s1 => match ops2 C call f id ops 0 s.next ops tmps s1 [s1.heap] [] with
    | some (tmps, s', hs, se) => if se.all (seenOk C.P ws hs.reverse) then some (tmps, s') else none
    | none => none
  | none => none
def code (C : Cfg) (r : Fns) (f : Nat) : Code → List PV → St → Option (Out × List PV × St)
  | .skip, tmps, s | .label _, tmps, s => some (.normal, tmps, s)
  | .ret, tmps, s => some (.ret, tmps, s)
  | .exit id, tmps, s => some (.exit id, tmps, s)
  | .seq a b, tmps, s => match code C r f a tmps s with
    | some (.normal, tmps, s) => code C r f b tmps s
    | x => x
  | .cond x a b, tmps, s => match evArg tmps x with
    | .lit (.bool true) => code C r f a tmps s
    | .lit (.bool false) => code C r f b tmps s
    | _ => none
  | .block id b, tmps, s => match code C r f b tmps s with
    | some (.exit i, tmps, s) => if i = id then some (.normal, tmps, s) else some (.exit i, tmps, s)
    | x => x
  | .scope b, tmps, s => code C r f b tmps s
  | .loop b, tmps, s => match code C r f b tmps s with
    | some (.normal, tmps, s) => r.loop f b tmps s
    | x => x
  | .region id ops draw, tmps, s =>
    if draw then match C.wins f id with
      | some ws => (drawn C r.call f id ops.toList ws tmps s).map fun x => (.normal, x.1, x.2)
      | none => none
    else (ops1 C r.call f id ops.toList 0 ops.toList tmps s).map fun x => (.normal, x.1, x.2)
  | _, _, _ => none
def resV (P : Program) (tmps : List PV) (h : Hp) : ResultVar → Option PV
  | .tmp t => some (tmps.getD t undefV)
  | .cell a t => loadP P t h (tmps.getD a undefV)
def tupV : List PV → PV
  | [v] => v
  | vs => .tup vs
def body (C : Cfg) (r : Fns) (f : Nat) (fn : Func) (c : Code) (s : St) (args : List PV) : Option (PV × St) :=
  match code C r f c (args ++ List.replicate (fn.ntmps - args.length) undefV) s with
  | some (.exit _, _, _) => none
  | some (_, tmps, s) => (allSome (resV C.P tmps s.heap) fn.results.toList).map fun vs => (tupV vs, s)
  | none => none
def callF (C : Cfg) (r : Fns) : CallT := fun f s args own =>
  match C.P.funcs[f]? with
  | none => none
  | some fn => match fn.body with
    | none => match C.ext f with
      | some g => (g s.heap args).map (·, s)
      | none => none
    | some c =>
      match C.clone f with
      | some t => if C.P.cellsOf t = 0 ∨ C.P.bytesOf t > 2 ^ 16 then none else cloneP s (C.P.cellsOf t) args
      | none =>
      if C.pure_ f then
        match allSome (view s.heap depth) args with
        | none => none
        | some args' => match body C r f fn c ⟨[], 0⟩ args' with
          | none => none
          | some (v, s1) =>
            if scalar v then some (v, s) else
            let s' : St := ⟨(args.flatMap (names s.heap depth)).foldl freezeN s.heap, s.next⟩
            if own then ownR s1.heap s' v else (strip s1.heap depth v).map (·, s')
      else body C r f fn c s args
def stepF (C : Cfg) (r : Fns) : Fns := ⟨callF C r, fun f b => code C r f (.loop b)⟩
def bot : Fns := ⟨fun _ _ _ _ => none, fun _ _ _ _ => none⟩
def F (C : Cfg) : Nat → Fns
  | 0 => bot
  | n + 1 => stepF C (F C n)
def opAt (ops : List Oper) (i : Nat) : Oper := ops.getD i default
/-- What comes ahead of an operation, whatever the order: bits. -/
def bitsOf (acc : List Nat) (o : Oper) : Nat := o.after.toList.foldl (fun s e => if Region.binds .any e then s ||| 2 ^ e.on ||| acc.getD e.on 0 else s) 0
def befores : List Oper → List Nat → List Nat
  | [], acc => acc
  | o :: r, acc => befores r (acc ++ [bitsOf acc o])
def tmpsOf (l : List Operand) : List Nat := l.filterMap fun | .tmp t => some t | _ => none
/-- The slots that an operation looks at or turns. -/
def namesOf (ops : List Oper) (o : Oper) : List Nat :=
  o.dst.toList ++ tmpsOf o.op.operands.toList ++ (match o.guard with | some (j, _) => ((ops[j]?).bind (·.dst)).toList | none => [])
def ordered (b : List Nat) (i j : Nat) : Bool := if i < j then (b.getD j 0).testBit i else (b.getD i 0).testBit j
def effIdx (own : Nat → Bool) (ops : List Oper) : List Nat := (List.range ops.length).filter fun i => isEff (own i) (opAt ops i).op
/-- Of a region whose order is open: the states at which each operation may come. -/
def winsOf (own : Nat → Bool) (ops : List Oper) : Option (List (Nat × Nat)) :=
  let b := befores ops []
  let n := List.range ops.length
  let effs := effIdx own ops
  if (effs.all fun j => effs.all fun i => i == j || ordered b i j) &&
     (n.all fun i => (namesOf ops (opAt ops i)).all fun t => n.all fun j => (opAt ops j).dst != some t || i == j || ordered b i j) &&
     (n.all fun i => (opAt ops i).after.toList.all fun e => !Region.binds .any e || e.on < i) then
    some (n.map fun i => ((effs.filter fun j => (b.getD i 0).testBit j).length, effs.length - (effs.filter fun j => (b.getD j 0).testBit i).length))
  else none
/-- Are the windows that the evaluator is told those of the code? -/
def chkCode (C : Cfg) (f : Nat) : Code → Bool
  | .region id ops draw => !draw || (match C.wins f id with | some ws => winsOf (C.own f id) ops.toList == some ws | none => true)
  | .seq a b | .cond _ a b => chkCode C f a && chkCode C f b
  | .block _ b | .scope b | .loop b => chkCode C f b
  | _ => true
end Go.Proofs.Ythfplgfpodmphaa.VE
